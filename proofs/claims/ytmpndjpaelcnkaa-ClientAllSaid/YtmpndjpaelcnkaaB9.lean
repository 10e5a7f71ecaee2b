/- A message is read: command.ReadMsg. -/
import Derived.Test.YtmpndjpaelcnkaaB8
set_option linter.unusedVariables false
set_option linter.unusedSimpArgs false
namespace Go.Proofs.Ytmpndjpaelcnkaa
open Go Go.SX

theorem lat_ne3 {id c : BId} {t j : Nat} (hl : Lat t id c) (hj : j < t) (p : List Nat) : (c = p ++ j :: id) = False := by
  obtain ⟨t', p', ht, rfl⟩ := hl
  rw [eq_iff_iff, iff_false]; intro e
  have h1 : p' ++ [t'] ++ id = p ++ [j] ++ id := by simpa using e
  have h2 := List.append_cancel_right h1
  have h4 := (List.append_inj' h2 rfl).2
  simp at h4; omega
/-- One reading step, with what it needs and keeps. -/
theorem num_ex (s : Rd) (hl : (sqL s.o).length ≤ 900000) (hk : s.ok) : ∃ n s1, s.num = (n, s1) ∧ (sqL s1.o).length ≤ (sqL s.o).length ∧ s1.ok ∧ ∀ id b, CallF Try.prog 74 [.ptr b 0] id [(b, .cells 166 s.enc)] (.p (.int .i64 n)) [(b, some (.cells 166 s1.enc))] :=
  ⟨s.num.1, s.num.2, rfl, s.num_len, Rd.num_okR hk, fun id b => rnum_ok id b s (by omega)⟩
theorem text_ex (s : Rd) (hl : (sqL s.o).length ≤ 900000) (hk : s.ok) : ∃ n s1, s.text = (n, s1) ∧ (sqL s1.o).length ≤ (sqL s.o).length ∧ s1.ok ∧ ∀ id b, CallF Try.prog 76 [.ptr b 0] id [(b, .cells 166 s.enc)] (sq bE n) [(b, some (.cells 166 s1.enc))] :=
  ⟨s.text.1, s.text.2, rfl, s.text_len, Rd.text_okR hk, fun id b => rtext_ok id b s (by omega)⟩
theorem Rd.flag_le (s : Rd) (hk : s.ok) : (sqL s.flag.2.o).length ≤ (sqL s.o).length := by
  cases hb : s.flag.2.bad with
  | true => have := Rd.flag_okR hk hb; rw [this]; simp [sqL]
  | false => have := s.flag_len hb; omega
theorem flag_ex (s : Rd) (hl : (sqL s.o).length ≤ 900000) (hk : s.ok) : ∃ n s1, s.flag = (n, s1) ∧ (sqL s1.o).length ≤ (sqL s.o).length ∧ s1.ok ∧ ∀ id b, CallF Try.prog 77 [.ptr b 0] id [(b, .cells 166 s.enc)] (.p (.bool n)) [(b, some (.cells 166 s1.enc))] :=
  ⟨s.flag.1, s.flag.2, rfl, s.flag_le hk, Rd.flag_okR hk, fun id b => rflag_ok id b s (by omega)⟩
theorem count_ex (s : Rd) (hl : (sqL s.o).length ≤ 900000) (hk : s.ok) : ∃ (n : Nat) (s1 : Rd), s.count = ((n : Int), s1) ∧ (sqL s1.o).length ≤ (sqL s.o).length ∧ n ≤ (sqL s.o).length ∧ s1.ok ∧ ∀ id b, CallF Try.prog 75 [.ptr b 0] id [(b, .cells 166 s.enc)] (.p (.int .i64 n)) [(b, some (.cells 166 s1.enc))] := by
  obtain ⟨h1, h2, h3⟩ := s.count_len
  have e : ((s.count.1.toNat : Nat) : Int) = s.count.1 := by omega
  refine ⟨s.count.1.toNat, s.count.2, by rw [e], h3, by omega, Rd.count_okR hk, fun id b => ?_⟩
  rw [e]; exact count_ok id b s (by omega) hk
theorem Rd.conf_len (s : Rd) : (sqL s.conf.2.o).length ≤ (sqL s.o).length ∧ s.conf.1.length ≤ (sqL s.o).length := by
  obtain ⟨h1, h2, h3⟩ := s.count_len
  obtain ⟨h4, h5⟩ := s.count.2.nums_len s.count.1.toNat
  unfold Rd.conf; omega
theorem conf_ex (s : Rd) (hl : (sqL s.o).length ≤ 900000) (hk : s.ok) : ∃ n s1, s.conf = (n, s1) ∧ (sqL s1.o).length ≤ (sqL s.o).length ∧ s1.ok ∧ ∀ id b, CallF Try.prog 78 [.ptr b 0] id [(b, .cells 166 s.enc)] (sq nE (ne n)) [(b, some (.cells 166 s1.enc))] :=
  ⟨s.conf.1, s.conf.2, rfl, s.conf_len.1, Rd.nums_ok _ _ (Rd.count_okR hk), fun id b => getConf_ok id b s (by omega) hk⟩

def Rd.ent (s : Rd) : Ent × Rd :=
  let a := s.num; let b := a.2.num; let c := b.2.num; let d := c.2.text
  (⟨a.1, b.1, c.1, d.1⟩, d.2)
def Rd.ents : Nat → Rd → List Ent × Rd
  | 0, s => ([], s)
  | k + 1, s => (s.ent.1 :: (s.ent.2.ents k).1, (s.ent.2.ents k).2)
theorem Rd.ents_succ (s : Rd) (k : Nat) : (s.ents (k + 1)).1 = (s.ents k).1 ++ [(s.ents k).2.ent.1] ∧ (s.ents (k + 1)).2 = (s.ents k).2.ent.2 := by
  induction k generalizing s with
  | zero => exact ⟨rfl, rfl⟩
  | succ k ih =>
    obtain ⟨h1, h2⟩ := ih s.ent.2
    refine ⟨?_, h2⟩
    show s.ent.1 :: (s.ent.2.ents (k + 1)).1 = s.ent.1 :: (s.ent.2.ents k).1 ++ [((s.ent.2.ents k).2).ent.1]
    rw [h1]; rfl
theorem Rd.ent_len (s : Rd) : (sqL s.ent.2.o).length ≤ (sqL s.o).length := by
  have h1 := s.num_len; have h2 := s.num.2.num_len; have h3 := s.num.2.num.2.num_len; have h4 := s.num.2.num.2.num.2.text_len
  show (sqL s.num.2.num.2.num.2.text.2.o).length ≤ _; omega
theorem Rd.ent_okR {s : Rd} (h : s.ok) : s.ent.2.ok := Rd.text_okR (Rd.num_okR (Rd.num_okR (Rd.num_okR h)))
theorem Rd.ents_len (s : Rd) (k : Nat) : (s.ents k).1.length = k ∧ (sqL (s.ents k).2.o).length ≤ (sqL s.o).length := by
  induction k generalizing s with
  | zero => exact ⟨rfl, Nat.le_refl _⟩
  | succ k ih =>
    obtain ⟨h1, h2⟩ := ih s.ent.2
    have := s.ent_len
    exact ⟨by simp [Rd.ents, h1], by simp only [Rd.ents]; omega⟩
theorem Rd.ents_okR (s : Rd) (k : Nat) (h : s.ok) : (s.ents k).2.ok := by
  induction k generalizing s with
  | zero => exact h
  | succ k ih => exact ih s.ent.2 (Rd.ent_okR h)

/-- What ReadMsg reads, and where it then stands. -/
def readR (s : Rd) : Mg × Rd :=
  let a1 := s.num; let a2 := a1.2.num; let a3 := a2.2.num; let a4 := a3.2.num; let a5 := a4.2.num; let a6 := a5.2.num; let a7 := a6.2.num
  let c := a7.2.count
  let es := c.2.ents c.1.toNat
  let f := es.2.flag; let hn := f.2.num; let cf := hn.2.conf; let d := cf.2.text; let o := d.2.num; let z := o.2.num; let x := z.2.num
  (⟨a1.1, a2.1, a3.1, a4.1, a5.1, a6.1, a7.1, ne es.1, f.1, hn.1, ne cf.1, d.1, o.1, z.1, x.1⟩, x.2)
def Mg.zero : Mg := ⟨0, 0, 0, 0, 0, 0, 0, none, false, 0, none, none, 0, 0, 0⟩
def readM (o : Option (List UInt8)) : Mg × Int := if (readR ⟨o, false⟩).2.whole = true then ((readR ⟨o, false⟩).1, 0) else (Mg.zero, 3)

set_option maxRecDepth 8000 in
set_option maxHeartbeats 4000000 in
theorem readMsg_ok (id : BId) (o : Option (List UInt8)) (hn : (sqL o).length ≤ 900000) : CallF Try.prog 20 [sq bE o] id [] (.tup [.agg (readM o).1.enc, .p (.int .i64 (readM o).2)]) [] := by
  have hread := fun id => read_ok id o (by omega)
  unfold readM
  have hl0 : (sqL (Rd.mk o false).o).length ≤ 900000 := hn
  have hk0 : (Rd.mk o false).ok := fun q => by cases q
  generalize Rd.mk o false = s0 at *
  obtain ⟨n1, s1, e1, l1, k1, p1⟩ := num_ex s0 hl0 hk0
  obtain ⟨n2, s2, e2, l2, k2, p2⟩ := num_ex s1 (by omega) k1
  obtain ⟨n3, s3, e3, l3, k3, p3⟩ := num_ex s2 (by omega) k2
  obtain ⟨n4, s4, e4, l4, k4, p4⟩ := num_ex s3 (by omega) k3
  obtain ⟨n5, s5, e5, l5, k5, p5⟩ := num_ex s4 (by omega) k4
  obtain ⟨n6, s6, e6, l6, k6, p6⟩ := num_ex s5 (by omega) k5
  obtain ⟨n7, s7, e7, l7, k7, p7⟩ := num_ex s6 (by omega) k6
  obtain ⟨nc, sc, ec, lc, lnc, kc, pc⟩ := count_ex s7 (by omega) k7
  refine ⟨⟨_, Try.func20, by decide, rfl⟩, (by simp <;> repeat first | exact ⟨[_, _], rfl⟩ | constructor), fun h hr => callsA_of_W Try.func20 rfl fun hfr => ?_⟩
  repeat (first
    | with_reducible refine W_seq fun K hK => ?_
    | (with_reducible refine hK _ ?_); clear hK K
    | (with_reducible refine W_skipK hK ?_); clear hK K
    | (with_reducible refine W_condT ?_ ?_); (· rfl)
    | (with_reducible refine W_condF ?_ ?_); (· rfl)
    | with_reducible refine W_block ?_
    | clear hK K; (with_reducible refine hK _ ?_); clear hK K
    | clear hK K; clear hK K; (with_reducible refine hK _ ?_); clear hK K
    | clear hK K; clear hK K; clear hK K; (with_reducible refine hK _ ?_); clear hK K
    | (with_reducible refine And.intro ?_ ?_); (· first | omega | decide)
    | (try first | ((with_reducible refine W_reg ?_ ?_); (· rfl)) | (with_reducible refine W_exit ?_) | (with_reducible refine W_ret ?_)); simp only [go_sem, Nat.reduceEqDiff, ↓reduceIte, reduceIte, Nat.reduceAdd, Nat.reduceMul, Nat.reduceSub, Nat.reduceLeDiff, Nat.reduceBEq, Nat.reduceBNe, Int.reduceNeg, Int.reduceLT, Int.reduceLE, Int.reduceAdd, Int.reduceSub, Int.reduceToNat, Int.reduceEq, Int.reduceBEq, reduceCtorEq, Int.reduceBNe])
  refine stop_call (hread _) ?_ ?_
  · first | trivial | (simp only [go_sem, Nat.reduceEqDiff, ↓reduceIte, reduceIte, Nat.reduceAdd, Nat.reduceMul, Nat.reduceSub, Nat.reduceLeDiff, Nat.reduceBEq, Nat.reduceBNe, Int.reduceNeg, Int.reduceLT, Int.reduceLE, Int.reduceAdd, Int.reduceSub, Int.reduceToNat, Int.reduceEq, Int.reduceBEq, reduceCtorEq, Int.reduceBNe]; done)
  repeat (first
    | with_reducible refine W_seq fun K hK => ?_
    | (with_reducible refine hK _ ?_); clear hK K
    | (with_reducible refine W_skipK hK ?_); clear hK K
    | (with_reducible refine W_condT ?_ ?_); (· rfl)
    | (with_reducible refine W_condF ?_ ?_); (· rfl)
    | with_reducible refine W_block ?_
    | clear hK K; (with_reducible refine hK _ ?_); clear hK K
    | clear hK K; clear hK K; (with_reducible refine hK _ ?_); clear hK K
    | clear hK K; clear hK K; clear hK K; (with_reducible refine hK _ ?_); clear hK K
    | (with_reducible refine And.intro ?_ ?_); (· first | omega | decide)
    | (try first | ((with_reducible refine W_reg ?_ ?_); (· rfl)) | (with_reducible refine W_exit ?_) | (with_reducible refine W_ret ?_)); simp only [go_sem, Nat.reduceEqDiff, ↓reduceIte, reduceIte, Nat.reduceAdd, Nat.reduceMul, Nat.reduceSub, Nat.reduceLeDiff, Nat.reduceBEq, Nat.reduceBNe, Int.reduceNeg, Int.reduceLT, Int.reduceLE, Int.reduceAdd, Int.reduceSub, Int.reduceToNat, Int.reduceEq, Int.reduceBEq, reduceCtorEq, Int.reduceBNe])
  refine stop_call (p1 _ _) ?_ ?_
  · simp only [go_sem, Nat.reduceEqDiff, ↓reduceIte, reduceIte, Nat.reduceAdd, Nat.reduceMul, Nat.reduceSub, Nat.reduceLeDiff, Nat.reduceBEq, Nat.reduceBNe, Int.reduceNeg, Int.reduceLT, Int.reduceLE, Int.reduceAdd, Int.reduceSub, Int.reduceToNat, Int.reduceEq, Int.reduceBEq, reduceCtorEq, Int.reduceBNe]
  repeat (first
    | with_reducible refine W_seq fun K hK => ?_
    | (with_reducible refine hK _ ?_); clear hK K
    | (with_reducible refine W_skipK hK ?_); clear hK K
    | (with_reducible refine W_condT ?_ ?_); (· rfl)
    | (with_reducible refine W_condF ?_ ?_); (· rfl)
    | with_reducible refine W_block ?_
    | clear hK K; (with_reducible refine hK _ ?_); clear hK K
    | clear hK K; clear hK K; (with_reducible refine hK _ ?_); clear hK K
    | clear hK K; clear hK K; clear hK K; (with_reducible refine hK _ ?_); clear hK K
    | (with_reducible refine And.intro ?_ ?_); (· first | omega | decide)
    | (try first | ((with_reducible refine W_reg ?_ ?_); (· rfl)) | (with_reducible refine W_exit ?_) | (with_reducible refine W_ret ?_)); simp only [go_sem, Nat.reduceEqDiff, ↓reduceIte, reduceIte, Nat.reduceAdd, Nat.reduceMul, Nat.reduceSub, Nat.reduceLeDiff, Nat.reduceBEq, Nat.reduceBNe, Int.reduceNeg, Int.reduceLT, Int.reduceLE, Int.reduceAdd, Int.reduceSub, Int.reduceToNat, Int.reduceEq, Int.reduceBEq, reduceCtorEq, Int.reduceBNe])
  refine stop_call (p2 _ _) ?_ ?_
  · simp only [go_sem, Nat.reduceEqDiff, ↓reduceIte, reduceIte, Nat.reduceAdd, Nat.reduceMul, Nat.reduceSub, Nat.reduceLeDiff, Nat.reduceBEq, Nat.reduceBNe, Int.reduceNeg, Int.reduceLT, Int.reduceLE, Int.reduceAdd, Int.reduceSub, Int.reduceToNat, Int.reduceEq, Int.reduceBEq, reduceCtorEq, Int.reduceBNe]
  repeat (first
    | with_reducible refine W_seq fun K hK => ?_
    | (with_reducible refine hK _ ?_); clear hK K
    | (with_reducible refine W_skipK hK ?_); clear hK K
    | (with_reducible refine W_condT ?_ ?_); (· rfl)
    | (with_reducible refine W_condF ?_ ?_); (· rfl)
    | with_reducible refine W_block ?_
    | clear hK K; (with_reducible refine hK _ ?_); clear hK K
    | clear hK K; clear hK K; (with_reducible refine hK _ ?_); clear hK K
    | clear hK K; clear hK K; clear hK K; (with_reducible refine hK _ ?_); clear hK K
    | (with_reducible refine And.intro ?_ ?_); (· first | omega | decide)
    | (try first | ((with_reducible refine W_reg ?_ ?_); (· rfl)) | (with_reducible refine W_exit ?_) | (with_reducible refine W_ret ?_)); simp only [go_sem, Nat.reduceEqDiff, ↓reduceIte, reduceIte, Nat.reduceAdd, Nat.reduceMul, Nat.reduceSub, Nat.reduceLeDiff, Nat.reduceBEq, Nat.reduceBNe, Int.reduceNeg, Int.reduceLT, Int.reduceLE, Int.reduceAdd, Int.reduceSub, Int.reduceToNat, Int.reduceEq, Int.reduceBEq, reduceCtorEq, Int.reduceBNe])
  refine stop_call (p3 _ _) ?_ ?_
  · simp only [go_sem, Nat.reduceEqDiff, ↓reduceIte, reduceIte, Nat.reduceAdd, Nat.reduceMul, Nat.reduceSub, Nat.reduceLeDiff, Nat.reduceBEq, Nat.reduceBNe, Int.reduceNeg, Int.reduceLT, Int.reduceLE, Int.reduceAdd, Int.reduceSub, Int.reduceToNat, Int.reduceEq, Int.reduceBEq, reduceCtorEq, Int.reduceBNe]
  repeat (first
    | with_reducible refine W_seq fun K hK => ?_
    | (with_reducible refine hK _ ?_); clear hK K
    | (with_reducible refine W_skipK hK ?_); clear hK K
    | (with_reducible refine W_condT ?_ ?_); (· rfl)
    | (with_reducible refine W_condF ?_ ?_); (· rfl)
    | with_reducible refine W_block ?_
    | clear hK K; (with_reducible refine hK _ ?_); clear hK K
    | clear hK K; clear hK K; (with_reducible refine hK _ ?_); clear hK K
    | clear hK K; clear hK K; clear hK K; (with_reducible refine hK _ ?_); clear hK K
    | (with_reducible refine And.intro ?_ ?_); (· first | omega | decide)
    | (try first | ((with_reducible refine W_reg ?_ ?_); (· rfl)) | (with_reducible refine W_exit ?_) | (with_reducible refine W_ret ?_)); simp only [go_sem, Nat.reduceEqDiff, ↓reduceIte, reduceIte, Nat.reduceAdd, Nat.reduceMul, Nat.reduceSub, Nat.reduceLeDiff, Nat.reduceBEq, Nat.reduceBNe, Int.reduceNeg, Int.reduceLT, Int.reduceLE, Int.reduceAdd, Int.reduceSub, Int.reduceToNat, Int.reduceEq, Int.reduceBEq, reduceCtorEq, Int.reduceBNe])
  refine stop_call (p4 _ _) ?_ ?_
  · simp only [go_sem, Nat.reduceEqDiff, ↓reduceIte, reduceIte, Nat.reduceAdd, Nat.reduceMul, Nat.reduceSub, Nat.reduceLeDiff, Nat.reduceBEq, Nat.reduceBNe, Int.reduceNeg, Int.reduceLT, Int.reduceLE, Int.reduceAdd, Int.reduceSub, Int.reduceToNat, Int.reduceEq, Int.reduceBEq, reduceCtorEq, Int.reduceBNe]
  repeat (first
    | with_reducible refine W_seq fun K hK => ?_
    | (with_reducible refine hK _ ?_); clear hK K
    | (with_reducible refine W_skipK hK ?_); clear hK K
    | (with_reducible refine W_condT ?_ ?_); (· rfl)
    | (with_reducible refine W_condF ?_ ?_); (· rfl)
    | with_reducible refine W_block ?_
    | clear hK K; (with_reducible refine hK _ ?_); clear hK K
    | clear hK K; clear hK K; (with_reducible refine hK _ ?_); clear hK K
    | clear hK K; clear hK K; clear hK K; (with_reducible refine hK _ ?_); clear hK K
    | (with_reducible refine And.intro ?_ ?_); (· first | omega | decide)
    | (try first | ((with_reducible refine W_reg ?_ ?_); (· rfl)) | (with_reducible refine W_exit ?_) | (with_reducible refine W_ret ?_)); simp only [go_sem, Nat.reduceEqDiff, ↓reduceIte, reduceIte, Nat.reduceAdd, Nat.reduceMul, Nat.reduceSub, Nat.reduceLeDiff, Nat.reduceBEq, Nat.reduceBNe, Int.reduceNeg, Int.reduceLT, Int.reduceLE, Int.reduceAdd, Int.reduceSub, Int.reduceToNat, Int.reduceEq, Int.reduceBEq, reduceCtorEq, Int.reduceBNe])
  refine stop_call (p5 _ _) ?_ ?_
  · simp only [go_sem, Nat.reduceEqDiff, ↓reduceIte, reduceIte, Nat.reduceAdd, Nat.reduceMul, Nat.reduceSub, Nat.reduceLeDiff, Nat.reduceBEq, Nat.reduceBNe, Int.reduceNeg, Int.reduceLT, Int.reduceLE, Int.reduceAdd, Int.reduceSub, Int.reduceToNat, Int.reduceEq, Int.reduceBEq, reduceCtorEq, Int.reduceBNe]
  repeat (first
    | with_reducible refine W_seq fun K hK => ?_
    | (with_reducible refine hK _ ?_); clear hK K
    | (with_reducible refine W_skipK hK ?_); clear hK K
    | (with_reducible refine W_condT ?_ ?_); (· rfl)
    | (with_reducible refine W_condF ?_ ?_); (· rfl)
    | with_reducible refine W_block ?_
    | clear hK K; (with_reducible refine hK _ ?_); clear hK K
    | clear hK K; clear hK K; (with_reducible refine hK _ ?_); clear hK K
    | clear hK K; clear hK K; clear hK K; (with_reducible refine hK _ ?_); clear hK K
    | (with_reducible refine And.intro ?_ ?_); (· first | omega | decide)
    | (try first | ((with_reducible refine W_reg ?_ ?_); (· rfl)) | (with_reducible refine W_exit ?_) | (with_reducible refine W_ret ?_)); simp only [go_sem, Nat.reduceEqDiff, ↓reduceIte, reduceIte, Nat.reduceAdd, Nat.reduceMul, Nat.reduceSub, Nat.reduceLeDiff, Nat.reduceBEq, Nat.reduceBNe, Int.reduceNeg, Int.reduceLT, Int.reduceLE, Int.reduceAdd, Int.reduceSub, Int.reduceToNat, Int.reduceEq, Int.reduceBEq, reduceCtorEq, Int.reduceBNe])
  refine stop_call (p6 _ _) ?_ ?_
  · simp only [go_sem, Nat.reduceEqDiff, ↓reduceIte, reduceIte, Nat.reduceAdd, Nat.reduceMul, Nat.reduceSub, Nat.reduceLeDiff, Nat.reduceBEq, Nat.reduceBNe, Int.reduceNeg, Int.reduceLT, Int.reduceLE, Int.reduceAdd, Int.reduceSub, Int.reduceToNat, Int.reduceEq, Int.reduceBEq, reduceCtorEq, Int.reduceBNe]
  repeat (first
    | with_reducible refine W_seq fun K hK => ?_
    | (with_reducible refine hK _ ?_); clear hK K
    | (with_reducible refine W_skipK hK ?_); clear hK K
    | (with_reducible refine W_condT ?_ ?_); (· rfl)
    | (with_reducible refine W_condF ?_ ?_); (· rfl)
    | with_reducible refine W_block ?_
    | clear hK K; (with_reducible refine hK _ ?_); clear hK K
    | clear hK K; clear hK K; (with_reducible refine hK _ ?_); clear hK K
    | clear hK K; clear hK K; clear hK K; (with_reducible refine hK _ ?_); clear hK K
    | (with_reducible refine And.intro ?_ ?_); (· first | omega | decide)
    | (try first | ((with_reducible refine W_reg ?_ ?_); (· rfl)) | (with_reducible refine W_exit ?_) | (with_reducible refine W_ret ?_)); simp only [go_sem, Nat.reduceEqDiff, ↓reduceIte, reduceIte, Nat.reduceAdd, Nat.reduceMul, Nat.reduceSub, Nat.reduceLeDiff, Nat.reduceBEq, Nat.reduceBNe, Int.reduceNeg, Int.reduceLT, Int.reduceLE, Int.reduceAdd, Int.reduceSub, Int.reduceToNat, Int.reduceEq, Int.reduceBEq, reduceCtorEq, Int.reduceBNe])
  refine stop_call (p7 _ _) ?_ ?_
  · simp only [go_sem, Nat.reduceEqDiff, ↓reduceIte, reduceIte, Nat.reduceAdd, Nat.reduceMul, Nat.reduceSub, Nat.reduceLeDiff, Nat.reduceBEq, Nat.reduceBNe, Int.reduceNeg, Int.reduceLT, Int.reduceLE, Int.reduceAdd, Int.reduceSub, Int.reduceToNat, Int.reduceEq, Int.reduceBEq, reduceCtorEq, Int.reduceBNe]
  repeat (first
    | with_reducible refine W_seq fun K hK => ?_
    | (with_reducible refine hK _ ?_); clear hK K
    | (with_reducible refine W_skipK hK ?_); clear hK K
    | (with_reducible refine W_condT ?_ ?_); (· rfl)
    | (with_reducible refine W_condF ?_ ?_); (· rfl)
    | with_reducible refine W_block ?_
    | clear hK K; (with_reducible refine hK _ ?_); clear hK K
    | clear hK K; clear hK K; (with_reducible refine hK _ ?_); clear hK K
    | clear hK K; clear hK K; clear hK K; (with_reducible refine hK _ ?_); clear hK K
    | (with_reducible refine And.intro ?_ ?_); (· first | omega | decide)
    | (try first | ((with_reducible refine W_reg ?_ ?_); (· rfl)) | (with_reducible refine W_exit ?_) | (with_reducible refine W_ret ?_)); simp only [go_sem, Nat.reduceEqDiff, ↓reduceIte, reduceIte, Nat.reduceAdd, Nat.reduceMul, Nat.reduceSub, Nat.reduceLeDiff, Nat.reduceBEq, Nat.reduceBNe, Int.reduceNeg, Int.reduceLT, Int.reduceLE, Int.reduceAdd, Int.reduceSub, Int.reduceToNat, Int.reduceEq, Int.reduceBEq, reduceCtorEq, Int.reduceBNe])
  refine stop_call (pc _ _) ?_ ?_
  · simp only [go_sem, Nat.reduceEqDiff, ↓reduceIte, reduceIte, Nat.reduceAdd, Nat.reduceMul, Nat.reduceSub, Nat.reduceLeDiff, Nat.reduceBEq, Nat.reduceBNe, Int.reduceNeg, Int.reduceLT, Int.reduceLE, Int.reduceAdd, Int.reduceSub, Int.reduceToNat, Int.reduceEq, Int.reduceBEq, reduceCtorEq, Int.reduceBNe]
  repeat (first
    | with_reducible refine W_seq fun K hK => ?_
    | (with_reducible refine hK _ ?_); clear hK K
    | (with_reducible refine W_skipK hK ?_); clear hK K
    | (with_reducible refine W_condT ?_ ?_); (· rfl)
    | (with_reducible refine W_condF ?_ ?_); (· rfl)
    | with_reducible refine W_block ?_
    | clear hK K; (with_reducible refine hK _ ?_); clear hK K
    | clear hK K; clear hK K; (with_reducible refine hK _ ?_); clear hK K
    | clear hK K; clear hK K; clear hK K; (with_reducible refine hK _ ?_); clear hK K
    | (with_reducible refine And.intro ?_ ?_); (· first | omega | decide)
    | (try first | ((with_reducible refine W_reg ?_ ?_); (· rfl)) | (with_reducible refine W_exit ?_) | (with_reducible refine W_ret ?_)); simp only [go_sem, Nat.reduceEqDiff, ↓reduceIte, reduceIte, Nat.reduceAdd, Nat.reduceMul, Nat.reduceSub, Nat.reduceLeDiff, Nat.reduceBEq, Nat.reduceBNe, Int.reduceNeg, Int.reduceLT, Int.reduceLE, Int.reduceAdd, Int.reduceSub, Int.reduceToNat, Int.reduceEq, Int.reduceBEq, reduceCtorEq, Int.reduceBNe])
  refine W_loop ?_
  refine WL_nat (P := Try.prog) (fun m q => ∃ (j : Nat), m = nc - j ∧ j ≤ nc ∧ q.tm 2 = .ptr (0 :: 0 :: id) 0 ∧ q.tm 4 = .ptr (3 :: 1 :: 1 :: 1 :: id) 0 ∧ q.tm 5 = .ptr (15 :: 2 :: id) 0 ∧ q.tm 24 = .p (.int .i64 nc) ∧ q.tm 25 = .p (.int .i64 j) ∧ 4 ≤ q.t ∧
      q.h (0 :: 0 :: id) = some (.cells 26 Mg.zero.enc) ∧ q.h (3 :: 1 :: 1 :: 1 :: id) = some (.cells 166 (sc.ents j).2.enc) ∧ HLe h q.h ∧
      ∃ x, q.h (15 :: 2 :: id) = some (.cells 26 [.p (.int .i64 n1), .p (.int .i64 n2), .p (.int .i64 n3), .p (.int .i64 n4), .p (.int .i64 n5), .p (.int .i64 n6), .p (.int .i64 n7), x, .p (.bool false), .p (.int .i64 0), .p (.slice none 0 0), .p (.slice none 0 0), .p (.int .i64 0), .p (.int .i64 0), .p (.int .i64 0)]) ∧
        Grw Ent.enc 112 4 (.p (.slice none 0 0)) [] q.h x (sc.ents j).1 ∧ ∀ f b2 p n z, x = .ref f b2 p n z → Lat 4 id b2) (fun m q hI => ?_) _ _
    ⟨0, rfl, by omega, rfl, rfl, rfl, rfl, rfl, by simp, by simp only [go_sem, Nat.reduceEqDiff, ↓reduceIte, reduceIte, Nat.reduceAdd, Nat.reduceMul, Nat.reduceSub, Nat.reduceLeDiff, Nat.reduceBEq, Nat.reduceBNe, Int.reduceNeg, Int.reduceLT, Int.reduceLE, Int.reduceAdd, Int.reduceSub, Int.reduceToNat, Int.reduceEq, Int.reduceBEq, reduceCtorEq, Int.reduceBNe]; rfl, by simp only [go_sem, Nat.reduceEqDiff, ↓reduceIte, reduceIte, Nat.reduceAdd, Nat.reduceMul, Nat.reduceSub, Nat.reduceLeDiff, Nat.reduceBEq, Nat.reduceBNe, Int.reduceNeg, Int.reduceLT, Int.reduceLE, Int.reduceAdd, Int.reduceSub, Int.reduceToNat, Int.reduceEq, Int.reduceBEq, reduceCtorEq, Int.reduceBNe]; rfl, by repeat (first | exact HLe.refl _ | refine HLe.fresh ?_ (hfr [_, _]) | refine HLe.fresh ?_ (hfr [_, _, _, _])), _, by simp only [go_sem, Nat.reduceEqDiff, ↓reduceIte, reduceIte, Nat.reduceAdd, Nat.reduceMul, Nat.reduceSub, Nat.reduceLeDiff, Nat.reduceBEq, Nat.reduceBNe, Int.reduceNeg, Int.reduceLT, Int.reduceLE, Int.reduceAdd, Int.reduceSub, Int.reduceToNat, Int.reduceEq, Int.reduceBEq, reduceCtorEq, Int.reduceBNe], .inl ⟨rfl, rfl⟩, fun f b2 p n z e => by cases e⟩
  obtain ⟨j, rfl, hj, h2, h4, h5, h24, h25, ht, hbz, hbr, hle, x, hbm, hgw, hxl⟩ := hI
  obtain ⟨tm, hh, tt⟩ := q
  simp only at h2 h4 h5 h24 h25 ht hbz hbr hle hbm hgw
  have hjl := sc.ents_len j
  have hjk := sc.ents_okR j kc
  have hf1 : ∀ f b2 p n z, x = .ref f b2 p n z → b2 ≠ 3 :: 1 :: 1 :: 1 :: id := fun f b2 p n z e q => by
    have := lat_ne3 (hxl f b2 p n z e) (j := 1) (by decide) [3, 1, 1]; simp at this; exact this q
  have hf2 : ∀ f b2 p n z, x = .ref f b2 p n z → b2 ≠ 15 :: 2 :: id := fun f b2 p n z e q => by
    have := lat_ne3 (hxl f b2 p n z e) (j := 2) (by decide) [15]; simp at this; exact this q
  have hf3 : ∀ f b2 p n z, x = .ref f b2 p n z → b2 ≠ 0 :: 0 :: id := fun f b2 p n z e q => by
    have := lat_ne3 (hxl f b2 p n z e) (j := 0) (by decide) [0]; simp at this; exact this q
  by_cases c1 : j < nc
  · have g1 : decide ((j : Int) < (nc : Int)) = true := by simp; omega
    have e0 : IntKind.i64.wrap ((j : Int) + 1) = ((j + 1 : Nat) : Int) := by rw [wrap_i64 (by omega)]; omega
    obtain ⟨e11, e12⟩ := sc.ents_succ j
    obtain ⟨m1, r1, f1, q1, w1, u1⟩ := num_ex (sc.ents j).2 (by omega) hjk
    obtain ⟨m2, r2, f2, q2, w2, u2⟩ := num_ex r1 (by omega) w1
    obtain ⟨m3, r3, f3, q3, w3, u3⟩ := num_ex r2 (by omega) w2
    obtain ⟨m4, r4, f4, q4, w4, u4⟩ := text_ex r3 (by omega) w3
    have fe : (sc.ents j).2.ent = (⟨m1, m2, m3, m4⟩, r4) := by simp only [Rd.ent, f1, f2, f3, f4]
    rw [fe] at e11 e12
    repeat (first
      | with_reducible refine W_seq fun K hK => ?_
      | (with_reducible refine hK _ ?_); clear hK K
      | (with_reducible refine W_skipK hK ?_); clear hK K
      | (with_reducible refine W_condT ?_ ?_); (· rfl)
      | (with_reducible refine W_condF ?_ ?_); (· rfl)
      | with_reducible refine W_block ?_
      | clear hK K; (with_reducible refine hK _ ?_); clear hK K
      | clear hK K; clear hK K; (with_reducible refine hK _ ?_); clear hK K
      | clear hK K; clear hK K; clear hK K; (with_reducible refine hK _ ?_); clear hK K
      | (with_reducible refine And.intro ?_ ?_); (· first | omega | decide)
      | (try first | ((with_reducible refine W_reg ?_ ?_); (· rfl)) | (with_reducible refine W_exit ?_) | (with_reducible refine W_ret ?_)); simp only [go_sem, Nat.reduceEqDiff, ↓reduceIte, reduceIte, Nat.reduceAdd, Nat.reduceMul, Nat.reduceSub, Nat.reduceLeDiff, Nat.reduceBEq, Nat.reduceBNe, Int.reduceNeg, Int.reduceLT, Int.reduceLE, Int.reduceAdd, Int.reduceSub, Int.reduceToNat, Int.reduceEq, Int.reduceBEq, reduceCtorEq, Int.reduceBNe, h2, h4, h5, h24, h25, g1])
    refine W_drw [[], [0], [], [2], [], [2, 3, 4], [], [2, 3, 4, 5, 6], [], [2, 3, 4, 5, 6, 7, 8], [2, 3, 4, 5, 6, 7, 8, 9], [2, 3, 4, 5, 6, 7, 8, 9, 10], [0, 1, 2, 3, 4, 5, 6, 7, 8, 9, 10, 11], [0, 1, 2, 3, 4, 5, 6, 7, 8, 9, 10, 11, 12], [0, 1, 2, 3, 4, 5, 6, 7, 8, 9, 10, 11, 12, 13]] follows_mixed (by rfl) (by rfl) ?_
    repeat (first
      | with_reducible refine W_seq fun K hK => ?_
      | (with_reducible refine hK _ ?_); clear hK K
      | (with_reducible refine W_skipK hK ?_); clear hK K
      | (with_reducible refine W_condT ?_ ?_); (· rfl)
      | (with_reducible refine W_condF ?_ ?_); (· rfl)
      | with_reducible refine W_block ?_
      | clear hK K; (with_reducible refine hK _ ?_); clear hK K
      | clear hK K; clear hK K; (with_reducible refine hK _ ?_); clear hK K
      | clear hK K; clear hK K; clear hK K; (with_reducible refine hK _ ?_); clear hK K
      | (with_reducible refine And.intro ?_ ?_); (· first | omega | decide)
      | (try first | ((with_reducible refine W_reg ?_ ?_); (· rfl)) | (with_reducible refine W_exit ?_) | (with_reducible refine W_ret ?_)); simp only [go_sem, Nat.reduceEqDiff, ↓reduceIte, reduceIte, Nat.reduceAdd, Nat.reduceMul, Nat.reduceSub, Nat.reduceLeDiff, Nat.reduceBEq, Nat.reduceBNe, Int.reduceNeg, Int.reduceLT, Int.reduceLE, Int.reduceAdd, Int.reduceSub, Int.reduceToNat, Int.reduceEq, Int.reduceBEq, reduceCtorEq, Int.reduceBNe, h2, h4, h5, h24, h25, hbm])
    refine stopD_call (u1 _ _) ?_ ?_
    · first | trivial | (simp only [go_sem, Nat.reduceEqDiff, ↓reduceIte, reduceIte, Nat.reduceAdd, Nat.reduceMul, Nat.reduceSub, Nat.reduceLeDiff, Nat.reduceBEq, Nat.reduceBNe, Int.reduceNeg, Int.reduceLT, Int.reduceLE, Int.reduceAdd, Int.reduceSub, Int.reduceToNat, Int.reduceEq, Int.reduceBEq, reduceCtorEq, Int.reduceBNe, hbr]; done)
    repeat (first
      | with_reducible refine W_seq fun K hK => ?_
      | (with_reducible refine hK _ ?_); clear hK K
      | (with_reducible refine W_skipK hK ?_); clear hK K
      | (with_reducible refine W_condT ?_ ?_); (· rfl)
      | (with_reducible refine W_condF ?_ ?_); (· rfl)
      | with_reducible refine W_block ?_
      | clear hK K; (with_reducible refine hK _ ?_); clear hK K
      | clear hK K; clear hK K; (with_reducible refine hK _ ?_); clear hK K
      | clear hK K; clear hK K; clear hK K; (with_reducible refine hK _ ?_); clear hK K
      | (with_reducible refine And.intro ?_ ?_); (· first | omega | decide)
      | (try first | ((with_reducible refine W_reg ?_ ?_); (· rfl)) | (with_reducible refine W_exit ?_) | (with_reducible refine W_ret ?_)); simp only [go_sem, Nat.reduceEqDiff, ↓reduceIte, reduceIte, Nat.reduceAdd, Nat.reduceMul, Nat.reduceSub, Nat.reduceLeDiff, Nat.reduceBEq, Nat.reduceBNe, Int.reduceNeg, Int.reduceLT, Int.reduceLE, Int.reduceAdd, Int.reduceSub, Int.reduceToNat, Int.reduceEq, Int.reduceBEq, reduceCtorEq, Int.reduceBNe, h2, h4, h5, h24, h25])
    refine stopD_call (u2 _ _) ?_ ?_
    · first | trivial | (simp only [go_sem, Nat.reduceEqDiff, ↓reduceIte, reduceIte, Nat.reduceAdd, Nat.reduceMul, Nat.reduceSub, Nat.reduceLeDiff, Nat.reduceBEq, Nat.reduceBNe, Int.reduceNeg, Int.reduceLT, Int.reduceLE, Int.reduceAdd, Int.reduceSub, Int.reduceToNat, Int.reduceEq, Int.reduceBEq, reduceCtorEq, Int.reduceBNe]; done)
    repeat (first
      | with_reducible refine W_seq fun K hK => ?_
      | (with_reducible refine hK _ ?_); clear hK K
      | (with_reducible refine W_skipK hK ?_); clear hK K
      | (with_reducible refine W_condT ?_ ?_); (· rfl)
      | (with_reducible refine W_condF ?_ ?_); (· rfl)
      | with_reducible refine W_block ?_
      | clear hK K; (with_reducible refine hK _ ?_); clear hK K
      | clear hK K; clear hK K; (with_reducible refine hK _ ?_); clear hK K
      | clear hK K; clear hK K; clear hK K; (with_reducible refine hK _ ?_); clear hK K
      | (with_reducible refine And.intro ?_ ?_); (· first | omega | decide)
      | (try first | ((with_reducible refine W_reg ?_ ?_); (· rfl)) | (with_reducible refine W_exit ?_) | (with_reducible refine W_ret ?_)); simp only [go_sem, Nat.reduceEqDiff, ↓reduceIte, reduceIte, Nat.reduceAdd, Nat.reduceMul, Nat.reduceSub, Nat.reduceLeDiff, Nat.reduceBEq, Nat.reduceBNe, Int.reduceNeg, Int.reduceLT, Int.reduceLE, Int.reduceAdd, Int.reduceSub, Int.reduceToNat, Int.reduceEq, Int.reduceBEq, reduceCtorEq, Int.reduceBNe, h2, h4, h5, h24, h25])
    refine stopD_call (u3 _ _) ?_ ?_
    · first | trivial | (simp only [go_sem, Nat.reduceEqDiff, ↓reduceIte, reduceIte, Nat.reduceAdd, Nat.reduceMul, Nat.reduceSub, Nat.reduceLeDiff, Nat.reduceBEq, Nat.reduceBNe, Int.reduceNeg, Int.reduceLT, Int.reduceLE, Int.reduceAdd, Int.reduceSub, Int.reduceToNat, Int.reduceEq, Int.reduceBEq, reduceCtorEq, Int.reduceBNe]; done)
    repeat (first
      | with_reducible refine W_seq fun K hK => ?_
      | (with_reducible refine hK _ ?_); clear hK K
      | (with_reducible refine W_skipK hK ?_); clear hK K
      | (with_reducible refine W_condT ?_ ?_); (· rfl)
      | (with_reducible refine W_condF ?_ ?_); (· rfl)
      | with_reducible refine W_block ?_
      | clear hK K; (with_reducible refine hK _ ?_); clear hK K
      | clear hK K; clear hK K; (with_reducible refine hK _ ?_); clear hK K
      | clear hK K; clear hK K; clear hK K; (with_reducible refine hK _ ?_); clear hK K
      | (with_reducible refine And.intro ?_ ?_); (· first | omega | decide)
      | (try first | ((with_reducible refine W_reg ?_ ?_); (· rfl)) | (with_reducible refine W_exit ?_) | (with_reducible refine W_ret ?_)); simp only [go_sem, Nat.reduceEqDiff, ↓reduceIte, reduceIte, Nat.reduceAdd, Nat.reduceMul, Nat.reduceSub, Nat.reduceLeDiff, Nat.reduceBEq, Nat.reduceBNe, Int.reduceNeg, Int.reduceLT, Int.reduceLE, Int.reduceAdd, Int.reduceSub, Int.reduceToNat, Int.reduceEq, Int.reduceBEq, reduceCtorEq, Int.reduceBNe, h2, h4, h5, h24, h25])
    refine stopD_call (u4 _ _) ?_ ?_
    · first | trivial | (simp only [go_sem, Nat.reduceEqDiff, ↓reduceIte, reduceIte, Nat.reduceAdd, Nat.reduceMul, Nat.reduceSub, Nat.reduceLeDiff, Nat.reduceBEq, Nat.reduceBNe, Int.reduceNeg, Int.reduceLT, Int.reduceLE, Int.reduceAdd, Int.reduceSub, Int.reduceToNat, Int.reduceEq, Int.reduceBEq, reduceCtorEq, Int.reduceBNe]; done)
    repeat (first
      | with_reducible refine W_seq fun K hK => ?_
      | (with_reducible refine hK _ ?_); clear hK K
      | (with_reducible refine W_skipK hK ?_); clear hK K
      | (with_reducible refine W_condT ?_ ?_); (· rfl)
      | (with_reducible refine W_condF ?_ ?_); (· rfl)
      | with_reducible refine W_block ?_
      | clear hK K; (with_reducible refine hK _ ?_); clear hK K
      | clear hK K; clear hK K; (with_reducible refine hK _ ?_); clear hK K
      | clear hK K; clear hK K; clear hK K; (with_reducible refine hK _ ?_); clear hK K
      | (with_reducible refine And.intro ?_ ?_); (· first | omega | decide)
      | (try first | ((with_reducible refine W_reg ?_ ?_); (· rfl)) | (with_reducible refine W_exit ?_) | (with_reducible refine W_ret ?_)); simp only [go_sem, Nat.reduceEqDiff, ↓reduceIte, reduceIte, Nat.reduceAdd, Nat.reduceMul, Nat.reduceSub, Nat.reduceLeDiff, Nat.reduceBEq, Nat.reduceBNe, Int.reduceNeg, Int.reduceLT, Int.reduceLE, Int.reduceAdd, Int.reduceSub, Int.reduceToNat, Int.reduceEq, Int.reduceBEq, reduceCtorEq, Int.reduceBNe, h2, h4, h5, h24, h25])
    refine stopD_append_grw (x0 := .p (.slice none 0 0)) (l0 := []) 112 4 48 [.p (.int .i64 0), .p (.int .i64 0), .p (.int .i64 0), .p (.slice none 0 0)] (sc.ents j).1 [⟨m1, m2, m3, m4⟩] ty22.2.2.2.1 ty112.2.1 ty112.2.2.1 ty112.2.2.2.2.2.1 rfl Ent.enc_len Ent.enc_one rfl
      (by exact grw_hset (grw_hset (grw_hset (grw_hset hgw hf1) hf1) hf1) hf1) (by simp only [go_sem, Nat.reduceEqDiff, ↓reduceIte, reduceIte, Nat.reduceAdd, Nat.reduceMul, Nat.reduceSub, Nat.reduceLeDiff, Nat.reduceBEq, Nat.reduceBNe, Int.reduceNeg, Int.reduceLT, Int.reduceLE, Int.reduceAdd, Int.reduceSub, Int.reduceToNat, Int.reduceEq, Int.reduceBEq, reduceCtorEq, Int.reduceBNe] <;> rfl) (by simp only [go_sem, Nat.reduceEqDiff, ↓reduceIte, reduceIte, Nat.reduceAdd, Nat.reduceMul, Nat.reduceSub, Nat.reduceLeDiff, Nat.reduceBEq, Nat.reduceBNe, Int.reduceNeg, Int.reduceLT, Int.reduceLE, Int.reduceAdd, Int.reduceSub, Int.reduceToNat, Int.reduceEq, Int.reduceBEq, reduceCtorEq, Int.reduceBNe] <;> rfl) (by simp) (by simp; omega) (by simp [maxLen]; omega) ?_
    rw [← e11]
    have hx6 : ∀ h', upd h' (ownW x) (15 :: 2 :: id) = h' (15 :: 2 :: id) := fun h' => upd_ownW_ne hf2
    have hx7 : ∀ h', upd h' (ownW x) (3 :: 1 :: 1 :: 1 :: id) = h' (3 :: 1 :: 1 :: 1 :: id) := fun h' => upd_ownW_ne hf1
    have hx8 : ∀ h', upd h' (ownW x) (0 :: 0 :: id) = h' (0 :: 0 :: id) := fun h' => upd_ownW_ne hf3
    have hk1 : (0 :: 0 :: id = 12 :: (tt + 1) :: id) = False := by simp
    have hk2 : (3 :: 1 :: 1 :: 1 :: id = 12 :: (tt + 1) :: id) = False := by simp
    have hk3 : (15 :: 2 :: id = 12 :: (tt + 1) :: id) = False := by simp
    repeat (first
      | with_reducible refine W_seq fun K hK => ?_
      | (with_reducible refine hK _ ?_); clear hK K
      | (with_reducible refine W_skipK hK ?_); clear hK K
      | (with_reducible refine W_condT ?_ ?_); (· rfl)
      | (with_reducible refine W_condF ?_ ?_); (· rfl)
      | with_reducible refine W_block ?_
      | clear hK K; (with_reducible refine hK _ ?_); clear hK K
      | clear hK K; clear hK K; (with_reducible refine hK _ ?_); clear hK K
      | clear hK K; clear hK K; clear hK K; (with_reducible refine hK _ ?_); clear hK K
      | (with_reducible refine And.intro ?_ ?_); (· first | omega | decide)
      | (try first | ((with_reducible refine W_reg ?_ ?_); (· rfl)) | (with_reducible refine W_exit ?_) | (with_reducible refine W_ret ?_)); simp only [go_sem, Nat.reduceEqDiff, ↓reduceIte, reduceIte, Nat.reduceAdd, Nat.reduceMul, Nat.reduceSub, Nat.reduceLeDiff, Nat.reduceBEq, Nat.reduceBNe, Int.reduceNeg, Int.reduceLT, Int.reduceLE, Int.reduceAdd, Int.reduceSub, Int.reduceToNat, Int.reduceEq, Int.reduceBEq, reduceCtorEq, Int.reduceBNe, h2, h4, h5, h24, h25, e0, hbm, hx6, hx7, hx8, hk1, hk2, hk3])
    refine ⟨_, ?_, j + 1, rfl, by omega, rfl, by omega, hbz, by rw [e12], ?_, _, rfl, .inr ⟨_, ?_, rfl, ?_⟩, fun f b p n z e => ?_⟩
    · omega
    · exact HLe.fresh (HLe.fresh (hle_ownW (fun f b p n z e => lat_fr hfr (hxl f b p n z e)) (by repeat (first | exact hle | refine HLe.fresh ?_ (hfr [_, _, _, _])))) (hfr [_, _])) (hfr [_, _])
    · rw [e11]; simp
    · rw [hset_ne _ _ _ (by simp), hset_same]; rfl
    · cases e; exact ⟨tt + 1, [12], by omega, rfl⟩
  · have g1 : decide ((j : Int) < (nc : Int)) = false := by simp; omega
    have hjn : j = nc := by omega
    subst hjn
    refine W_grwH (15 :: 2 :: id) 7 hbm rfl hgw rfl hf2 Ent.enc_len ?_
    rw [grwV_nil]
    simp only [List.set]
    have hH2 : upd hh (ownW x) (0 :: 0 :: id) = _ := (upd_ownW_ne hf3).trans hbz
    have hH3 : upd hh (ownW x) (3 :: 1 :: 1 :: 1 :: id) = _ := (upd_ownW_ne hf1).trans hbr
    have hH4 : HLe h (upd hh (ownW x)) := hle_ownW (fun f b p n z e => lat_fr hfr (hxl f b p n z e)) hle
    generalize upd hh (ownW x) = H at *
    generalize hse : (sc.ents j).2 = se at *
    generalize hes : (sc.ents j).1 = es at *
    obtain ⟨fl, s8, e8, l8, k8, p8⟩ := flag_ex se (by omega) hjk
    obtain ⟨hi, s9, e9, l9, k9, p9⟩ := num_ex s8 (by omega) k8
    obtain ⟨cf, s10, e10, l10, k10, p10⟩ := conf_ex s9 (by omega) k9
    obtain ⟨da, s11, e11, l11, k11, p11⟩ := text_ex s10 (by omega) k10
    obtain ⟨n12, s12, e12, l12, k12, p12⟩ := num_ex s11 (by omega) k11
    obtain ⟨n13, s13, e13, l13, k13, p13⟩ := num_ex s12 (by omega) k12
    obtain ⟨n14, s14, e14, l14, k14, p14⟩ := num_ex s13 (by omega) k13
    have hR : readR s0 = (⟨n1, n2, n3, n4, n5, n6, n7, ne es, fl, hi, ne cf, da, n12, n13, n14⟩, s14) := by
      simp only [readR, e1, e2, e3, e4, e5, e6, e7, ec, Int.toNat_natCast, hse, hes, e8, e9, e10, e11, e12, e13, e14]
    repeat (first
      | with_reducible refine W_seq fun K hK => ?_
      | (with_reducible refine hK _ ?_); clear hK K
      | (with_reducible refine W_skipK hK ?_); clear hK K
      | (with_reducible refine W_condT ?_ ?_); (· rfl)
      | (with_reducible refine W_condF ?_ ?_); (· rfl)
      | with_reducible refine W_block ?_
      | clear hK K; (with_reducible refine hK _ ?_); clear hK K
      | clear hK K; clear hK K; (with_reducible refine hK _ ?_); clear hK K
      | clear hK K; clear hK K; clear hK K; (with_reducible refine hK _ ?_); clear hK K
      | (with_reducible refine And.intro ?_ ?_); (· first | omega | decide)
      | (try first | ((with_reducible refine W_reg ?_ ?_); (· rfl)) | (with_reducible refine W_exit ?_) | (with_reducible refine W_ret ?_)); simp only [go_sem, Nat.reduceEqDiff, ↓reduceIte, reduceIte, Nat.reduceAdd, Nat.reduceMul, Nat.reduceSub, Nat.reduceLeDiff, Nat.reduceBEq, Nat.reduceBNe, Int.reduceNeg, Int.reduceLT, Int.reduceLE, Int.reduceAdd, Int.reduceSub, Int.reduceToNat, Int.reduceEq, Int.reduceBEq, reduceCtorEq, Int.reduceBNe, h2, h4, h5, h24, h25, g1])
    refine stop_call (p8 _ _) ?_ ?_
    · first | trivial | (simp only [go_sem, Nat.reduceEqDiff, ↓reduceIte, reduceIte, Nat.reduceAdd, Nat.reduceMul, Nat.reduceSub, Nat.reduceLeDiff, Nat.reduceBEq, Nat.reduceBNe, Int.reduceNeg, Int.reduceLT, Int.reduceLE, Int.reduceAdd, Int.reduceSub, Int.reduceToNat, Int.reduceEq, Int.reduceBEq, reduceCtorEq, Int.reduceBNe, hH3]; done)
    repeat (first
      | with_reducible refine W_seq fun K hK => ?_
      | (with_reducible refine hK _ ?_); clear hK K
      | (with_reducible refine W_skipK hK ?_); clear hK K
      | (with_reducible refine W_condT ?_ ?_); (· rfl)
      | (with_reducible refine W_condF ?_ ?_); (· rfl)
      | with_reducible refine W_block ?_
      | clear hK K; (with_reducible refine hK _ ?_); clear hK K
      | clear hK K; clear hK K; (with_reducible refine hK _ ?_); clear hK K
      | clear hK K; clear hK K; clear hK K; (with_reducible refine hK _ ?_); clear hK K
      | (with_reducible refine And.intro ?_ ?_); (· first | omega | decide)
      | (try first | ((with_reducible refine W_reg ?_ ?_); (· rfl)) | (with_reducible refine W_exit ?_) | (with_reducible refine W_ret ?_)); simp only [go_sem, Nat.reduceEqDiff, ↓reduceIte, reduceIte, Nat.reduceAdd, Nat.reduceMul, Nat.reduceSub, Nat.reduceLeDiff, Nat.reduceBEq, Nat.reduceBNe, Int.reduceNeg, Int.reduceLT, Int.reduceLE, Int.reduceAdd, Int.reduceSub, Int.reduceToNat, Int.reduceEq, Int.reduceBEq, reduceCtorEq, Int.reduceBNe, h2, h4, h5])
    refine stop_call (p9 _ _) ?_ ?_
    · first | trivial | (simp only [go_sem, Nat.reduceEqDiff, ↓reduceIte, reduceIte, Nat.reduceAdd, Nat.reduceMul, Nat.reduceSub, Nat.reduceLeDiff, Nat.reduceBEq, Nat.reduceBNe, Int.reduceNeg, Int.reduceLT, Int.reduceLE, Int.reduceAdd, Int.reduceSub, Int.reduceToNat, Int.reduceEq, Int.reduceBEq, reduceCtorEq, Int.reduceBNe]; done)
    repeat (first
      | with_reducible refine W_seq fun K hK => ?_
      | (with_reducible refine hK _ ?_); clear hK K
      | (with_reducible refine W_skipK hK ?_); clear hK K
      | (with_reducible refine W_condT ?_ ?_); (· rfl)
      | (with_reducible refine W_condF ?_ ?_); (· rfl)
      | with_reducible refine W_block ?_
      | clear hK K; (with_reducible refine hK _ ?_); clear hK K
      | clear hK K; clear hK K; (with_reducible refine hK _ ?_); clear hK K
      | clear hK K; clear hK K; clear hK K; (with_reducible refine hK _ ?_); clear hK K
      | (with_reducible refine And.intro ?_ ?_); (· first | omega | decide)
      | (try first | ((with_reducible refine W_reg ?_ ?_); (· rfl)) | (with_reducible refine W_exit ?_) | (with_reducible refine W_ret ?_)); simp only [go_sem, Nat.reduceEqDiff, ↓reduceIte, reduceIte, Nat.reduceAdd, Nat.reduceMul, Nat.reduceSub, Nat.reduceLeDiff, Nat.reduceBEq, Nat.reduceBNe, Int.reduceNeg, Int.reduceLT, Int.reduceLE, Int.reduceAdd, Int.reduceSub, Int.reduceToNat, Int.reduceEq, Int.reduceBEq, reduceCtorEq, Int.reduceBNe, h2, h4, h5])
    refine stop_call (p10 _ _) ?_ ?_
    · first | trivial | (simp only [go_sem, Nat.reduceEqDiff, ↓reduceIte, reduceIte, Nat.reduceAdd, Nat.reduceMul, Nat.reduceSub, Nat.reduceLeDiff, Nat.reduceBEq, Nat.reduceBNe, Int.reduceNeg, Int.reduceLT, Int.reduceLE, Int.reduceAdd, Int.reduceSub, Int.reduceToNat, Int.reduceEq, Int.reduceBEq, reduceCtorEq, Int.reduceBNe]; done)
    repeat (first
      | with_reducible refine W_seq fun K hK => ?_
      | (with_reducible refine hK _ ?_); clear hK K
      | (with_reducible refine W_skipK hK ?_); clear hK K
      | (with_reducible refine W_condT ?_ ?_); (· rfl)
      | (with_reducible refine W_condF ?_ ?_); (· rfl)
      | with_reducible refine W_block ?_
      | clear hK K; (with_reducible refine hK _ ?_); clear hK K
      | clear hK K; clear hK K; (with_reducible refine hK _ ?_); clear hK K
      | clear hK K; clear hK K; clear hK K; (with_reducible refine hK _ ?_); clear hK K
      | (with_reducible refine And.intro ?_ ?_); (· first | omega | decide)
      | (try first | ((with_reducible refine W_reg ?_ ?_); (· rfl)) | (with_reducible refine W_exit ?_) | (with_reducible refine W_ret ?_)); simp only [go_sem, Nat.reduceEqDiff, ↓reduceIte, reduceIte, Nat.reduceAdd, Nat.reduceMul, Nat.reduceSub, Nat.reduceLeDiff, Nat.reduceBEq, Nat.reduceBNe, Int.reduceNeg, Int.reduceLT, Int.reduceLE, Int.reduceAdd, Int.reduceSub, Int.reduceToNat, Int.reduceEq, Int.reduceBEq, reduceCtorEq, Int.reduceBNe, h2, h4, h5])
    refine stop_call (p11 _ _) ?_ ?_
    · first | trivial | (simp only [go_sem, Nat.reduceEqDiff, ↓reduceIte, reduceIte, Nat.reduceAdd, Nat.reduceMul, Nat.reduceSub, Nat.reduceLeDiff, Nat.reduceBEq, Nat.reduceBNe, Int.reduceNeg, Int.reduceLT, Int.reduceLE, Int.reduceAdd, Int.reduceSub, Int.reduceToNat, Int.reduceEq, Int.reduceBEq, reduceCtorEq, Int.reduceBNe]; done)
    repeat (first
      | with_reducible refine W_seq fun K hK => ?_
      | (with_reducible refine hK _ ?_); clear hK K
      | (with_reducible refine W_skipK hK ?_); clear hK K
      | (with_reducible refine W_condT ?_ ?_); (· rfl)
      | (with_reducible refine W_condF ?_ ?_); (· rfl)
      | with_reducible refine W_block ?_
      | clear hK K; (with_reducible refine hK _ ?_); clear hK K
      | clear hK K; clear hK K; (with_reducible refine hK _ ?_); clear hK K
      | clear hK K; clear hK K; clear hK K; (with_reducible refine hK _ ?_); clear hK K
      | (with_reducible refine And.intro ?_ ?_); (· first | omega | decide)
      | (try first | ((with_reducible refine W_reg ?_ ?_); (· rfl)) | (with_reducible refine W_exit ?_) | (with_reducible refine W_ret ?_)); simp only [go_sem, Nat.reduceEqDiff, ↓reduceIte, reduceIte, Nat.reduceAdd, Nat.reduceMul, Nat.reduceSub, Nat.reduceLeDiff, Nat.reduceBEq, Nat.reduceBNe, Int.reduceNeg, Int.reduceLT, Int.reduceLE, Int.reduceAdd, Int.reduceSub, Int.reduceToNat, Int.reduceEq, Int.reduceBEq, reduceCtorEq, Int.reduceBNe, h2, h4, h5])
    refine stop_call (p12 _ _) ?_ ?_
    · first | trivial | (simp only [go_sem, Nat.reduceEqDiff, ↓reduceIte, reduceIte, Nat.reduceAdd, Nat.reduceMul, Nat.reduceSub, Nat.reduceLeDiff, Nat.reduceBEq, Nat.reduceBNe, Int.reduceNeg, Int.reduceLT, Int.reduceLE, Int.reduceAdd, Int.reduceSub, Int.reduceToNat, Int.reduceEq, Int.reduceBEq, reduceCtorEq, Int.reduceBNe]; done)
    repeat (first
      | with_reducible refine W_seq fun K hK => ?_
      | (with_reducible refine hK _ ?_); clear hK K
      | (with_reducible refine W_skipK hK ?_); clear hK K
      | (with_reducible refine W_condT ?_ ?_); (· rfl)
      | (with_reducible refine W_condF ?_ ?_); (· rfl)
      | with_reducible refine W_block ?_
      | clear hK K; (with_reducible refine hK _ ?_); clear hK K
      | clear hK K; clear hK K; (with_reducible refine hK _ ?_); clear hK K
      | clear hK K; clear hK K; clear hK K; (with_reducible refine hK _ ?_); clear hK K
      | (with_reducible refine And.intro ?_ ?_); (· first | omega | decide)
      | (try first | ((with_reducible refine W_reg ?_ ?_); (· rfl)) | (with_reducible refine W_exit ?_) | (with_reducible refine W_ret ?_)); simp only [go_sem, Nat.reduceEqDiff, ↓reduceIte, reduceIte, Nat.reduceAdd, Nat.reduceMul, Nat.reduceSub, Nat.reduceLeDiff, Nat.reduceBEq, Nat.reduceBNe, Int.reduceNeg, Int.reduceLT, Int.reduceLE, Int.reduceAdd, Int.reduceSub, Int.reduceToNat, Int.reduceEq, Int.reduceBEq, reduceCtorEq, Int.reduceBNe, h2, h4, h5])
    refine stop_call (p13 _ _) ?_ ?_
    · first | trivial | (simp only [go_sem, Nat.reduceEqDiff, ↓reduceIte, reduceIte, Nat.reduceAdd, Nat.reduceMul, Nat.reduceSub, Nat.reduceLeDiff, Nat.reduceBEq, Nat.reduceBNe, Int.reduceNeg, Int.reduceLT, Int.reduceLE, Int.reduceAdd, Int.reduceSub, Int.reduceToNat, Int.reduceEq, Int.reduceBEq, reduceCtorEq, Int.reduceBNe]; done)
    repeat (first
      | with_reducible refine W_seq fun K hK => ?_
      | (with_reducible refine hK _ ?_); clear hK K
      | (with_reducible refine W_skipK hK ?_); clear hK K
      | (with_reducible refine W_condT ?_ ?_); (· rfl)
      | (with_reducible refine W_condF ?_ ?_); (· rfl)
      | with_reducible refine W_block ?_
      | clear hK K; (with_reducible refine hK _ ?_); clear hK K
      | clear hK K; clear hK K; (with_reducible refine hK _ ?_); clear hK K
      | clear hK K; clear hK K; clear hK K; (with_reducible refine hK _ ?_); clear hK K
      | (with_reducible refine And.intro ?_ ?_); (· first | omega | decide)
      | (try first | ((with_reducible refine W_reg ?_ ?_); (· rfl)) | (with_reducible refine W_exit ?_) | (with_reducible refine W_ret ?_)); simp only [go_sem, Nat.reduceEqDiff, ↓reduceIte, reduceIte, Nat.reduceAdd, Nat.reduceMul, Nat.reduceSub, Nat.reduceLeDiff, Nat.reduceBEq, Nat.reduceBNe, Int.reduceNeg, Int.reduceLT, Int.reduceLE, Int.reduceAdd, Int.reduceSub, Int.reduceToNat, Int.reduceEq, Int.reduceBEq, reduceCtorEq, Int.reduceBNe, h2, h4, h5])
    refine stop_call (p14 _ _) ?_ ?_
    · first | trivial | (simp only [go_sem, Nat.reduceEqDiff, ↓reduceIte, reduceIte, Nat.reduceAdd, Nat.reduceMul, Nat.reduceSub, Nat.reduceLeDiff, Nat.reduceBEq, Nat.reduceBNe, Int.reduceNeg, Int.reduceLT, Int.reduceLE, Int.reduceAdd, Int.reduceSub, Int.reduceToNat, Int.reduceEq, Int.reduceBEq, reduceCtorEq, Int.reduceBNe]; done)
    repeat (first
      | with_reducible refine W_seq fun K hK => ?_
      | (with_reducible refine hK _ ?_); clear hK K
      | (with_reducible refine W_skipK hK ?_); clear hK K
      | (with_reducible refine W_condT ?_ ?_); (· rfl)
      | (with_reducible refine W_condF ?_ ?_); (· rfl)
      | with_reducible refine W_block ?_
      | clear hK K; (with_reducible refine hK _ ?_); clear hK K
      | clear hK K; clear hK K; (with_reducible refine hK _ ?_); clear hK K
      | clear hK K; clear hK K; clear hK K; (with_reducible refine hK _ ?_); clear hK K
      | (with_reducible refine And.intro ?_ ?_); (· first | omega | decide)
      | (try first | ((with_reducible refine W_reg ?_ ?_); (· rfl)) | (with_reducible refine W_exit ?_) | (with_reducible refine W_ret ?_)); simp only [go_sem, Nat.reduceEqDiff, ↓reduceIte, reduceIte, Nat.reduceAdd, Nat.reduceMul, Nat.reduceSub, Nat.reduceLeDiff, Nat.reduceBEq, Nat.reduceBNe, Int.reduceNeg, Int.reduceLT, Int.reduceLE, Int.reduceAdd, Int.reduceSub, Int.reduceToNat, Int.reduceEq, Int.reduceBEq, reduceCtorEq, Int.reduceBNe, h2, h4, h5])
    refine stop_call (whole_ok _ _ s14) ?_ ?_
    · first | trivial | (simp only [go_sem, Nat.reduceEqDiff, ↓reduceIte, reduceIte, Nat.reduceAdd, Nat.reduceMul, Nat.reduceSub, Nat.reduceLeDiff, Nat.reduceBEq, Nat.reduceBNe, Int.reduceNeg, Int.reduceLT, Int.reduceLE, Int.reduceAdd, Int.reduceSub, Int.reduceToNat, Int.reduceEq, Int.reduceBEq, reduceCtorEq, Int.reduceBNe]; done)
    by_cases hw : s14.whole = true
    · have f1 : (!s14.whole) = false := by rw [hw]; rfl
      repeat (first
        | with_reducible refine W_seq fun K hK => ?_
        | (with_reducible refine hK _ ?_); clear hK K
        | (with_reducible refine W_skipK hK ?_); clear hK K
        | (with_reducible refine W_condT ?_ ?_); (· rfl)
        | (with_reducible refine W_condF ?_ ?_); (· rfl)
        | with_reducible refine W_block ?_
        | clear hK K; (with_reducible refine hK _ ?_); clear hK K
        | clear hK K; clear hK K; (with_reducible refine hK _ ?_); clear hK K
        | clear hK K; clear hK K; clear hK K; (with_reducible refine hK _ ?_); clear hK K
        | (with_reducible refine And.intro ?_ ?_); (· first | omega | decide)
        | (try first | ((with_reducible refine W_reg ?_ ?_); (· rfl)) | (with_reducible refine W_exit ?_) | (with_reducible refine W_ret ?_)); simp only [go_sem, Nat.reduceEqDiff, ↓reduceIte, reduceIte, Nat.reduceAdd, Nat.reduceMul, Nat.reduceSub, Nat.reduceLeDiff, Nat.reduceBEq, Nat.reduceBNe, Int.reduceNeg, Int.reduceLT, Int.reduceLE, Int.reduceAdd, Int.reduceSub, Int.reduceToNat, Int.reduceEq, Int.reduceBEq, reduceCtorEq, Int.reduceBNe, h2, h4, h5, f1, hH2])
      refine ends_ret ?_ (by repeat (first | exact hH4 | refine HLe.fresh ?_ (hfr [_, _]) | refine HLe.fresh ?_ (hfr [_, _, _, _])))
      rw [hR, if_pos hw]
      simp only [go_sem, Nat.reduceEqDiff, ↓reduceIte, reduceIte, Nat.reduceAdd, Nat.reduceMul, Nat.reduceSub, Nat.reduceLeDiff, Nat.reduceBEq, Nat.reduceBNe, Int.reduceNeg, Int.reduceLT, Int.reduceLE, Int.reduceAdd, Int.reduceSub, Int.reduceToNat, Int.reduceEq, Int.reduceBEq, reduceCtorEq, Int.reduceBNe, Try.f20, h2, Mg.enc]
    · have f1 : (!s14.whole) = true := by simpa using hw
      repeat (first
        | with_reducible refine W_seq fun K hK => ?_
        | (with_reducible refine hK _ ?_); clear hK K
        | (with_reducible refine W_skipK hK ?_); clear hK K
        | (with_reducible refine W_condT ?_ ?_); (· rfl)
        | (with_reducible refine W_condF ?_ ?_); (· rfl)
        | with_reducible refine W_block ?_
        | clear hK K; (with_reducible refine hK _ ?_); clear hK K
        | clear hK K; clear hK K; (with_reducible refine hK _ ?_); clear hK K
        | clear hK K; clear hK K; clear hK K; (with_reducible refine hK _ ?_); clear hK K
        | (with_reducible refine And.intro ?_ ?_); (· first | omega | decide)
        | (try first | ((with_reducible refine W_reg ?_ ?_); (· rfl)) | (with_reducible refine W_exit ?_) | (with_reducible refine W_ret ?_)); simp only [go_sem, Nat.reduceEqDiff, ↓reduceIte, reduceIte, Nat.reduceAdd, Nat.reduceMul, Nat.reduceSub, Nat.reduceLeDiff, Nat.reduceBEq, Nat.reduceBNe, Int.reduceNeg, Int.reduceLT, Int.reduceLE, Int.reduceAdd, Int.reduceSub, Int.reduceToNat, Int.reduceEq, Int.reduceBEq, reduceCtorEq, Int.reduceBNe, h2, h4, h5, f1, hH2])
      refine ends_ret ?_ (by repeat (first | exact hH4 | refine HLe.fresh ?_ (hfr [_, _]) | refine HLe.fresh ?_ (hfr [_, _, _, _])))
      rw [hR, if_neg hw]
      simp only [go_sem, Nat.reduceEqDiff, ↓reduceIte, reduceIte, Nat.reduceAdd, Nat.reduceMul, Nat.reduceSub, Nat.reduceLeDiff, Nat.reduceBEq, Nat.reduceBNe, Int.reduceNeg, Int.reduceLT, Int.reduceLE, Int.reduceAdd, Int.reduceSub, Int.reduceToNat, Int.reduceEq, Int.reduceBEq, reduceCtorEq, Int.reduceBNe, Try.f20, h2, Mg.enc, Mg.zero, sq_none]
end Go.Proofs.Ytmpndjpaelcnkaa
