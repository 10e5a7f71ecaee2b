/- Counts, members, what is whole. -/
import Derived.Test.YtmpndjpaelcnkaaB5
set_option linter.unusedVariables false
set_option linter.unusedSimpArgs false
namespace Go.Proofs.Ytmpndjpaelcnkaa
open Go Go.SX

def i64R (n : Int) : Prop := -9223372036854775808 ≤ n ∧ n ≤ 9223372036854775807
theorem WrK.up {k : Nat} {id : BId} {h h' : Heap} {b : BId} {l : List UInt8} (hw : WrK (k :: id) h h' b l) : WrK id h h' b l :=
  let ⟨x, y, r1, r2, r3, r4, r5, r6⟩ := hw; ⟨x, y, r1, r2, r3, r4, fun c hc => (r5 c hc).imp (fun q => q) (fun q => q.up), r6⟩
theorem WrK.next {k t : Nat} {id : BId} {h h1 h2 : Heap} {b : BId} {l1 l2 : List UInt8} (hw : WrK id h h1 b l1) (hfr : FrH h id) (hw2 : WrK (k :: t :: id) h1 h2 b l2) : WrK id h h2 b l2 := hw.trans hw2.up.up hfr (fun _ q => q)

def confB (c : List Int) : List UInt8 := numB c.length ++ c.flatMap numB
theorem flatNum_len (c : List Int) : (c.flatMap numB).length ≤ 10 * c.length := by
  induction c with
  | nil => simp
  | cons a c ih => have := numB_len a; simp only [List.flatMap_cons, List.length_append, List.length_cons]; omega
theorem putConf_ok (id b : BId) (h : Heap) (l : List UInt8) (o : Option (List Int)) (hl : l.length ≤ 800000) (ho : (sqL o).length ≤ 10000) (hr : ∀ x ∈ sqL o, i64R x) (hw : Wr h b l) :
    CallH Try.prog 71 [.ptr b 0, sq nE o] id h (fun v h' => v = .tup [] ∧ WrK id h h' b (l ++ confB (sqL o))) := by
  refine callE_of_W (fn := Try.f71) Try.func71 (by decide) rfl fun hfr => ?_
  repeat (first
    | with_reducible refine W_seq fun K hK => ?_
    | (with_reducible refine hK _ ?_); clear hK K
    | (with_reducible refine W_skipK hK ?_); clear hK K
    | (with_reducible refine W_condT ?_ ?_); (· rfl)
    | (with_reducible refine W_condF ?_ ?_); (· rfl)
    | with_reducible refine W_block ?_
    | clear hK K; (with_reducible refine hK _ ?_); clear hK K
    | clear hK K; clear hK K; (with_reducible refine hK _ ?_); clear hK K
    | clear hK K; clear hK K; clear hK K; (with_reducible refine hK _ ?_); clear hK K
    | (with_reducible refine And.intro ?_ ?_); (· first | omega | decide)
    | (try first | ((with_reducible refine W_reg ?_ ?_); (· rfl)) | (with_reducible refine W_exit ?_) | (with_reducible refine W_ret ?_)); simp only [go_sem, Nat.reduceEqDiff, ↓reduceIte, reduceIte, Nat.reduceAdd, Nat.reduceMul, Nat.reduceSub, Nat.reduceLeDiff, Nat.reduceBEq, Nat.reduceBNe, Int.reduceNeg, Int.reduceLT, Int.reduceLE, Int.reduceAdd, Int.reduceSub, Int.reduceToNat, Int.reduceEq, Int.reduceBEq, reduceCtorEq, Int.reduceBNe])
  refine stop_callH (num_ok _ b h l ((sqL o).length : Int) (by omega) (by omega) hw) ?_
  rintro _ v h1 ⟨rfl, hw1⟩
  have hw2 := hw1.up.up
  generalize hc : sqL o = c at *
  repeat (first
    | with_reducible refine W_seq fun K hK => ?_
    | (with_reducible refine hK _ ?_); clear hK K
    | (with_reducible refine W_skipK hK ?_); clear hK K
    | (with_reducible refine W_condT ?_ ?_); (· rfl)
    | (with_reducible refine W_condF ?_ ?_); (· rfl)
    | with_reducible refine W_block ?_
    | clear hK K; (with_reducible refine hK _ ?_); clear hK K
    | clear hK K; clear hK K; (with_reducible refine hK _ ?_); clear hK K
    | clear hK K; clear hK K; clear hK K; (with_reducible refine hK _ ?_); clear hK K
    | (with_reducible refine And.intro ?_ ?_); (· first | omega | decide)
    | (try first | ((with_reducible refine W_reg ?_ ?_); (· rfl)) | (with_reducible refine W_exit ?_) | (with_reducible refine W_ret ?_)); simp only [go_sem, Nat.reduceEqDiff, ↓reduceIte, reduceIte, Nat.reduceAdd, Nat.reduceMul, Nat.reduceSub, Nat.reduceLeDiff, Nat.reduceBEq, Nat.reduceBNe, Int.reduceNeg, Int.reduceLT, Int.reduceLE, Int.reduceAdd, Int.reduceSub, Int.reduceToNat, Int.reduceEq, Int.reduceBEq, reduceCtorEq, Int.reduceBNe, hc])
  refine W_loop ?_
  refine WL_nat (P := Try.prog) (fun m q => ∃ (j : Nat), m = c.length - j ∧ j ≤ c.length ∧ q.tm 0 = .ptr b 0 ∧ q.tm 10 = sq nE o ∧ q.tm 11 = .p (.int .i64 c.length) ∧ q.tm 12 = .p (.int .i64 j) ∧ WrK id h q.h b (l ++ numB c.length ++ (c.take j).flatMap numB))
    (fun m q hI => ?_) _ _ ⟨0, rfl, by omega, rfl, rfl, rfl, rfl, by simpa using hw2⟩
  obtain ⟨j, rfl, hj, h0, h10, h11, h12, hW⟩ := hI
  obtain ⟨tm, hh, tt⟩ := q
  simp only at h0 h10 h11 h12 hW
  by_cases c1 : j < c.length
  · have g1 : decide ((j : Int) < (c.length : Int)) = true := by simp; omega
    have hx : (c.flatMap nE).drop j = nE c[j] ++ (c.drop (j + 1)).flatMap nE := by simpa using flatMap_at nE_len c j c1
    have e7 : c.take (j + 1) = c.take j ++ [c[j]] := List.take_succ_eq_append_getElem c1
    have e6 : IntKind.i64.wrap ((j : Int) + 1) = ((j + 1 : Nat) : Int) := by rw [wrap_i64 (by omega)]; omega
    have hrj := hr _ (List.getElem_mem c1)
    have hbl : ((c.take j).flatMap numB).length ≤ 100000 := by have := flatNum_len (c.take j); rw [List.length_take] at this; omega
    have hnl := numB_len (c.length : Int)
    generalize c[j] = y at *
    repeat (first
      | with_reducible refine W_seq fun K hK => ?_
      | (with_reducible refine hK _ ?_); clear hK K
      | (with_reducible refine W_skipK hK ?_); clear hK K
      | (with_reducible refine W_condT ?_ ?_); (· rfl)
      | (with_reducible refine W_condF ?_ ?_); (· rfl)
      | with_reducible refine W_block ?_
      | clear hK K; (with_reducible refine hK _ ?_); clear hK K
      | clear hK K; clear hK K; (with_reducible refine hK _ ?_); clear hK K
      | clear hK K; clear hK K; clear hK K; (with_reducible refine hK _ ?_); clear hK K
      | (with_reducible refine And.intro ?_ ?_); (· first | omega | decide)
      | (try first | ((with_reducible refine W_reg ?_ ?_); (· rfl)) | (with_reducible refine W_exit ?_) | (with_reducible refine W_ret ?_)); simp only [go_sem, Nat.reduceEqDiff, ↓reduceIte, reduceIte, Nat.reduceAdd, Nat.reduceMul, Nat.reduceSub, Nat.reduceLeDiff, Nat.reduceBEq, Nat.reduceBNe, Int.reduceNeg, Int.reduceLT, Int.reduceLE, Int.reduceAdd, Int.reduceSub, Int.reduceToNat, Int.reduceEq, Int.reduceBEq, reduceCtorEq, Int.reduceBNe, h0, h10, h11, h12, g1, hc, hx, nE])
    refine stop_callH (num_ok _ b hh _ y hrj (by simp only [List.length_append]; omega) hW.wr) ?_
    rintro _ v h2 ⟨rfl, hw3⟩
    repeat (first
      | with_reducible refine W_seq fun K hK => ?_
      | (with_reducible refine hK _ ?_); clear hK K
      | (with_reducible refine W_skipK hK ?_); clear hK K
      | (with_reducible refine W_condT ?_ ?_); (· rfl)
      | (with_reducible refine W_condF ?_ ?_); (· rfl)
      | with_reducible refine W_block ?_
      | clear hK K; (with_reducible refine hK _ ?_); clear hK K
      | clear hK K; clear hK K; (with_reducible refine hK _ ?_); clear hK K
      | clear hK K; clear hK K; clear hK K; (with_reducible refine hK _ ?_); clear hK K
      | (with_reducible refine And.intro ?_ ?_); (· first | omega | decide)
      | (try first | ((with_reducible refine W_reg ?_ ?_); (· rfl)) | (with_reducible refine W_exit ?_) | (with_reducible refine W_ret ?_)); simp only [go_sem, Nat.reduceEqDiff, ↓reduceIte, reduceIte, Nat.reduceAdd, Nat.reduceMul, Nat.reduceSub, Nat.reduceLeDiff, Nat.reduceBEq, Nat.reduceBNe, Int.reduceNeg, Int.reduceLT, Int.reduceLE, Int.reduceAdd, Int.reduceSub, Int.reduceToNat, Int.reduceEq, Int.reduceBEq, reduceCtorEq, Int.reduceBNe, h0, h10, h11, h12, e6])
    refine ⟨_, ?_, j + 1, rfl, by omega, rfl, ?_⟩
    · omega
    · have := hW.next hfr hw3
      rw [e7, List.flatMap_append]
      simpa [List.append_assoc] using this
  · have g1 : decide ((j : Int) < (c.length : Int)) = false := by simp; omega
    have e8 : c.take j = c := List.take_of_length_le (by omega)
    rw [e8, List.append_assoc] at hW
    repeat (first
      | with_reducible refine W_seq fun K hK => ?_
      | (with_reducible refine hK _ ?_); clear hK K
      | (with_reducible refine W_skipK hK ?_); clear hK K
      | (with_reducible refine W_condT ?_ ?_); (· rfl)
      | (with_reducible refine W_condF ?_ ?_); (· rfl)
      | with_reducible refine W_block ?_
      | clear hK K; (with_reducible refine hK _ ?_); clear hK K
      | clear hK K; clear hK K; (with_reducible refine hK _ ?_); clear hK K
      | clear hK K; clear hK K; clear hK K; (with_reducible refine hK _ ?_); clear hK K
      | (with_reducible refine And.intro ?_ ?_); (· first | omega | decide)
      | (try first | ((with_reducible refine W_reg ?_ ?_); (· rfl)) | (with_reducible refine W_exit ?_) | (with_reducible refine W_ret ?_)); simp only [go_sem, Nat.reduceEqDiff, ↓reduceIte, reduceIte, Nat.reduceAdd, Nat.reduceMul, Nat.reduceSub, Nat.reduceLeDiff, Nat.reduceBEq, Nat.reduceBNe, Int.reduceNeg, Int.reduceLT, Int.reduceLE, Int.reduceAdd, Int.reduceSub, Int.reduceToNat, Int.reduceEq, Int.reduceBEq, reduceCtorEq, Int.reduceBNe, h0, h10, h11, h12, g1])
    exact wr_end hfr hw (.inr rfl) (by simp only [go_sem, Nat.reduceEqDiff, ↓reduceIte, reduceIte, Nat.reduceAdd, Nat.reduceMul, Nat.reduceSub, Nat.reduceLeDiff, Nat.reduceBEq, Nat.reduceBNe, Int.reduceNeg, Int.reduceLT, Int.reduceLE, Int.reduceAdd, Int.reduceSub, Int.reduceToNat, Int.reduceEq, Int.reduceBEq, reduceCtorEq, Int.reduceBNe, Try.f71]) hW

def Rd.ok (s : Rd) : Prop := s.bad = true → s.o = none
theorem Rd.num_okR {s : Rd} (h : s.ok) : s.num.2.ok := by
  unfold Rd.num Rd.ok
  cases hr : rdN (sqL s.o) with
  | none => simp
  | some q =>
    simp only
    intro hb
    have := h hb
    rw [this] at hr
    simp [rdN, rdF, sqL] at hr
theorem Rd.text_okR {s : Rd} (h : s.ok) : s.text.2.ok := by
  have := Rd.num_okR h
  unfold Rd.text
  split
  · exact this
  · split
    · simp [Rd.ok]
    · intro hb; simp at hb; simp_all
theorem Rd.flag_okR {s : Rd} (h : s.ok) : s.flag.2.ok := by
  unfold Rd.flag
  split
  · simp [Rd.ok]
  · rename_i c r hl
    split
    · simp [Rd.ok]
    · intro hb
      simp only at hb
      have := h hb
      rw [this] at hl; simp [sqL] at hl
theorem Rd.text_len (s : Rd) : (sqL s.text.2.o).length ≤ (sqL s.o).length := by
  have := s.num_len
  unfold Rd.text
  split
  · exact this
  · split
    · simp [sqL]
    · simp only [sqL_dropB, List.length_drop]; omega
theorem Rd.flag_len (s : Rd) (hb : s.flag.2.bad = false) : (sqL s.flag.2.o).length < (sqL s.o).length := by
  unfold Rd.flag at hb ⊢
  split at hb
  · simp at hb
  · rename_i c r hl
    rw [hl]
    split at hb
    · simp at hb
    · rename_i hc
      rw [if_neg hc]; simp [sqL]
def Rd.count (s : Rd) : Int × Rd := if s.num.1 < 0 ∨ ((sqL s.num.2.o).length : Int) < s.num.1 then (0, ⟨none, true⟩) else s.num

set_option maxRecDepth 8000 in
theorem count_ok (id b : BId) (s : Rd) (hn : (sqL s.o).length ≤ 1000000) (hok : s.ok) : CallF Try.prog 75 [.ptr b 0] id [(b, .cells 166 s.enc)] (.p (.int .i64 s.count.1)) [(b, some (.cells 166 s.count.2.enc))] := by
  have hlen := s.num_len
  have hnum := fun id => rnum_ok id b s (by omega)
  have hok1 := Rd.num_okR hok
  unfold Rd.count
  generalize s.num = q at *
  obtain ⟨n, s1⟩ := q
  simp only at hlen hnum hok1 ⊢
  by_cases c1 : n < 0 ∨ ((sqL s1.o).length : Int) < n
  · rw [if_pos c1]
    refine ⟨⟨_, Try.func75, by decide, rfl⟩, (by simp <;> repeat first | exact ⟨[_, _], rfl⟩ | constructor), fun h hr => callsA_of_W Try.func75 rfl fun hfr => ?_⟩
    have hb := hr.1; simp only [Rd.enc] at hb
    repeat (first
      | with_reducible refine W_seq fun K hK => ?_
      | (with_reducible refine hK _ ?_); clear hK K
      | (with_reducible refine W_skipK hK ?_); clear hK K
      | (with_reducible refine W_condT ?_ ?_); (· rfl)
      | (with_reducible refine W_condF ?_ ?_); (· rfl)
      | with_reducible refine W_block ?_
      | clear hK K; (with_reducible refine hK _ ?_); clear hK K
      | clear hK K; clear hK K; (with_reducible refine hK _ ?_); clear hK K
      | clear hK K; clear hK K; clear hK K; (with_reducible refine hK _ ?_); clear hK K
      | (with_reducible refine And.intro ?_ ?_); (· first | omega | decide)
      | (try first | ((with_reducible refine W_reg ?_ ?_); (· rfl)) | (with_reducible refine W_exit ?_) | (with_reducible refine W_ret ?_)); simp only [go_sem, Nat.reduceEqDiff, ↓reduceIte, reduceIte, Nat.reduceAdd, Nat.reduceMul, Nat.reduceSub, Nat.reduceLeDiff, Nat.reduceBEq, Nat.reduceBNe, Int.reduceNeg, Int.reduceLT, Int.reduceLE, Int.reduceAdd, Int.reduceSub, Int.reduceToNat, Int.reduceEq, Int.reduceBEq, reduceCtorEq, Int.reduceBNe])
    refine stop_call (hnum _) ?_ ?_
    · first | trivial | (simp only [go_sem, Nat.reduceEqDiff, ↓reduceIte, reduceIte, Nat.reduceAdd, Nat.reduceMul, Nat.reduceSub, Nat.reduceLeDiff, Nat.reduceBEq, Nat.reduceBNe, Int.reduceNeg, Int.reduceLT, Int.reduceLE, Int.reduceAdd, Int.reduceSub, Int.reduceToNat, Int.reduceEq, Int.reduceBEq, reduceCtorEq, Int.reduceBNe, hb, Rd.enc]; done)
    by_cases c2 : n < 0
    · have f2 : decide (n < 0) = true := by simpa using c2
      repeat (first
        | with_reducible refine W_seq fun K hK => ?_
        | (with_reducible refine hK _ ?_); clear hK K
        | (with_reducible refine W_skipK hK ?_); clear hK K
        | (with_reducible refine W_condT ?_ ?_); (· rfl)
        | (with_reducible refine W_condF ?_ ?_); (· rfl)
        | with_reducible refine W_block ?_
        | clear hK K; (with_reducible refine hK _ ?_); clear hK K
        | clear hK K; clear hK K; (with_reducible refine hK _ ?_); clear hK K
        | clear hK K; clear hK K; clear hK K; (with_reducible refine hK _ ?_); clear hK K
        | (with_reducible refine And.intro ?_ ?_); (· first | omega | decide)
        | (try first | ((with_reducible refine W_reg ?_ ?_); (· rfl)) | (with_reducible refine W_exit ?_) | (with_reducible refine W_ret ?_)); simp only [go_sem, Nat.reduceEqDiff, ↓reduceIte, reduceIte, Nat.reduceAdd, Nat.reduceMul, Nat.reduceSub, Nat.reduceLeDiff, Nat.reduceBEq, Nat.reduceBNe, Int.reduceNeg, Int.reduceLT, Int.reduceLE, Int.reduceAdd, Int.reduceSub, Int.reduceToNat, Int.reduceEq, Int.reduceBEq, reduceCtorEq, Int.reduceBNe, f2])
      refine stop_call (rtext_ok _ b s1 (by omega)) ?_ ?_
      · first | trivial | (simp only [go_sem, Nat.reduceEqDiff, ↓reduceIte, reduceIte, Nat.reduceAdd, Nat.reduceMul, Nat.reduceSub, Nat.reduceLeDiff, Nat.reduceBEq, Nat.reduceBNe, Int.reduceNeg, Int.reduceLT, Int.reduceLE, Int.reduceAdd, Int.reduceSub, Int.reduceToNat, Int.reduceEq, Int.reduceBEq, reduceCtorEq, Int.reduceBNe]; done)
      repeat (first
        | with_reducible refine W_seq fun K hK => ?_
        | (with_reducible refine hK _ ?_); clear hK K
        | (with_reducible refine W_skipK hK ?_); clear hK K
        | (with_reducible refine W_condT ?_ ?_); (· rfl)
        | (with_reducible refine W_condF ?_ ?_); (· rfl)
        | with_reducible refine W_block ?_
        | clear hK K; (with_reducible refine hK _ ?_); clear hK K
        | clear hK K; clear hK K; (with_reducible refine hK _ ?_); clear hK K
        | clear hK K; clear hK K; clear hK K; (with_reducible refine hK _ ?_); clear hK K
        | (with_reducible refine And.intro ?_ ?_); (· first | omega | decide)
        | (try first | ((with_reducible refine W_reg ?_ ?_); (· rfl)) | (with_reducible refine W_exit ?_) | (with_reducible refine W_ret ?_)); simp only [go_sem, Nat.reduceEqDiff, ↓reduceIte, reduceIte, Nat.reduceAdd, Nat.reduceMul, Nat.reduceSub, Nat.reduceLeDiff, Nat.reduceBEq, Nat.reduceBNe, Int.reduceNeg, Int.reduceLT, Int.reduceLE, Int.reduceAdd, Int.reduceSub, Int.reduceToNat, Int.reduceEq, Int.reduceBEq, reduceCtorEq, Int.reduceBNe])
      refine W_loop ?_
      refine WL_nat (P := Try.prog) (fun m q => ∃ s2 : Rd, m = (if s2.bad then 0 else (sqL s2.o).length + 1) ∧ s2.ok ∧ (sqL s2.o).length ≤ (sqL s.o).length ∧ q.tm 0 = .ptr b 0 ∧ q.h b = some (.cells 166 s2.enc) ∧ ∀ c, c ≠ b → q.h c = h c) (fun m q hI => ?_) _ _
        ⟨s1.text.2, rfl, Rd.text_okR hok1, by have := s1.text_len; omega, rfl, hset_same _ _ _, fun c hc => by simp only [go_sem, Nat.reduceEqDiff, ↓reduceIte, reduceIte, Nat.reduceAdd, Nat.reduceMul, Nat.reduceSub, Nat.reduceLeDiff, Nat.reduceBEq, Nat.reduceBNe, Int.reduceNeg, Int.reduceLT, Int.reduceLE, Int.reduceAdd, Int.reduceSub, Int.reduceToNat, Int.reduceEq, Int.reduceBEq, reduceCtorEq, Int.reduceBNe, hc]⟩
      obtain ⟨s2, rfl, hok2, hl2, h0, hbb, hoth⟩ := hI
      obtain ⟨tm, hh, tt⟩ := q
      simp only at h0 hbb hoth
      cases hbad : s2.bad with
      | true =>
        have f5 : (!s2.bad) = false := by rw [hbad]; rfl
        have he : s2 = ⟨none, true⟩ := by cases s2; simp only at hbad; subst hbad; have := hok2 rfl; simp only at this; rw [this]
        repeat (first
          | with_reducible refine W_seq fun K hK => ?_
          | (with_reducible refine hK _ ?_); clear hK K
          | (with_reducible refine W_skipK hK ?_); clear hK K
          | (with_reducible refine W_condT ?_ ?_); (· rfl)
          | (with_reducible refine W_condF ?_ ?_); (· rfl)
          | with_reducible refine W_block ?_
          | clear hK K; (with_reducible refine hK _ ?_); clear hK K
          | clear hK K; clear hK K; (with_reducible refine hK _ ?_); clear hK K
          | clear hK K; clear hK K; clear hK K; (with_reducible refine hK _ ?_); clear hK K
          | (with_reducible refine And.intro ?_ ?_); (· first | omega | decide)
          | (try first | ((with_reducible refine W_reg ?_ ?_); (· rfl)) | (with_reducible refine W_exit ?_) | (with_reducible refine W_ret ?_)); simp only [go_sem, Nat.reduceEqDiff, ↓reduceIte, reduceIte, Nat.reduceAdd, Nat.reduceMul, Nat.reduceSub, Nat.reduceLeDiff, Nat.reduceBEq, Nat.reduceBNe, Int.reduceNeg, Int.reduceLT, Int.reduceLE, Int.reduceAdd, Int.reduceSub, Int.reduceToNat, Int.reduceEq, Int.reduceBEq, reduceCtorEq, Int.reduceBNe, h0])
        refine stop_call (ok_ok _ b s2) ?_ ?_
        · first | trivial | (simp only [go_sem, Nat.reduceEqDiff, ↓reduceIte, reduceIte, Nat.reduceAdd, Nat.reduceMul, Nat.reduceSub, Nat.reduceLeDiff, Nat.reduceBEq, Nat.reduceBNe, Int.reduceNeg, Int.reduceLT, Int.reduceLE, Int.reduceAdd, Int.reduceSub, Int.reduceToNat, Int.reduceEq, Int.reduceBEq, reduceCtorEq, Int.reduceBNe, hbb]; done)
        repeat (first
          | with_reducible refine W_seq fun K hK => ?_
          | (with_reducible refine hK _ ?_); clear hK K
          | (with_reducible refine W_skipK hK ?_); clear hK K
          | (with_reducible refine W_condT ?_ ?_); (· rfl)
          | (with_reducible refine W_condF ?_ ?_); (· rfl)
          | with_reducible refine W_block ?_
          | clear hK K; (with_reducible refine hK _ ?_); clear hK K
          | clear hK K; clear hK K; (with_reducible refine hK _ ?_); clear hK K
          | clear hK K; clear hK K; clear hK K; (with_reducible refine hK _ ?_); clear hK K
          | (with_reducible refine And.intro ?_ ?_); (· first | omega | decide)
          | (try first | ((with_reducible refine W_reg ?_ ?_); (· rfl)) | (with_reducible refine W_exit ?_) | (with_reducible refine W_ret ?_)); simp only [go_sem, Nat.reduceEqDiff, ↓reduceIte, reduceIte, Nat.reduceAdd, Nat.reduceMul, Nat.reduceSub, Nat.reduceLeDiff, Nat.reduceBEq, Nat.reduceBNe, Int.reduceNeg, Int.reduceLT, Int.reduceLE, Int.reduceAdd, Int.reduceSub, Int.reduceToNat, Int.reduceEq, Int.reduceBEq, reduceCtorEq, Int.reduceBNe, f5])
        refine ends_ret ?_ (hle_set1 (hbb.trans (by rw [he])) (fun c hc hn => hoth c hc))
        simp only [go_sem, Nat.reduceEqDiff, ↓reduceIte, reduceIte, Nat.reduceAdd, Nat.reduceMul, Nat.reduceSub, Nat.reduceLeDiff, Nat.reduceBEq, Nat.reduceBNe, Int.reduceNeg, Int.reduceLT, Int.reduceLE, Int.reduceAdd, Int.reduceSub, Int.reduceToNat, Int.reduceEq, Int.reduceBEq, reduceCtorEq, Int.reduceBNe, Try.f75]
      | false =>
        have f5 : (!s2.bad) = true := by rw [hbad]; rfl
        repeat (first
          | with_reducible refine W_seq fun K hK => ?_
          | (with_reducible refine hK _ ?_); clear hK K
          | (with_reducible refine W_skipK hK ?_); clear hK K
          | (with_reducible refine W_condT ?_ ?_); (· rfl)
          | (with_reducible refine W_condF ?_ ?_); (· rfl)
          | with_reducible refine W_block ?_
          | clear hK K; (with_reducible refine hK _ ?_); clear hK K
          | clear hK K; clear hK K; (with_reducible refine hK _ ?_); clear hK K
          | clear hK K; clear hK K; clear hK K; (with_reducible refine hK _ ?_); clear hK K
          | (with_reducible refine And.intro ?_ ?_); (· first | omega | decide)
          | (try first | ((with_reducible refine W_reg ?_ ?_); (· rfl)) | (with_reducible refine W_exit ?_) | (with_reducible refine W_ret ?_)); simp only [go_sem, Nat.reduceEqDiff, ↓reduceIte, reduceIte, Nat.reduceAdd, Nat.reduceMul, Nat.reduceSub, Nat.reduceLeDiff, Nat.reduceBEq, Nat.reduceBNe, Int.reduceNeg, Int.reduceLT, Int.reduceLE, Int.reduceAdd, Int.reduceSub, Int.reduceToNat, Int.reduceEq, Int.reduceBEq, reduceCtorEq, Int.reduceBNe, h0])
        refine stop_call (ok_ok _ b s2) ?_ ?_
        · first | trivial | (simp only [go_sem, Nat.reduceEqDiff, ↓reduceIte, reduceIte, Nat.reduceAdd, Nat.reduceMul, Nat.reduceSub, Nat.reduceLeDiff, Nat.reduceBEq, Nat.reduceBNe, Int.reduceNeg, Int.reduceLT, Int.reduceLE, Int.reduceAdd, Int.reduceSub, Int.reduceToNat, Int.reduceEq, Int.reduceBEq, reduceCtorEq, Int.reduceBNe, hbb]; done)
        repeat (first
          | with_reducible refine W_seq fun K hK => ?_
          | (with_reducible refine hK _ ?_); clear hK K
          | (with_reducible refine W_skipK hK ?_); clear hK K
          | (with_reducible refine W_condT ?_ ?_); (· rfl)
          | (with_reducible refine W_condF ?_ ?_); (· rfl)
          | with_reducible refine W_block ?_
          | clear hK K; (with_reducible refine hK _ ?_); clear hK K
          | clear hK K; clear hK K; (with_reducible refine hK _ ?_); clear hK K
          | clear hK K; clear hK K; clear hK K; (with_reducible refine hK _ ?_); clear hK K
          | (with_reducible refine And.intro ?_ ?_); (· first | omega | decide)
          | (try first | ((with_reducible refine W_reg ?_ ?_); (· rfl)) | (with_reducible refine W_exit ?_) | (with_reducible refine W_ret ?_)); simp only [go_sem, Nat.reduceEqDiff, ↓reduceIte, reduceIte, Nat.reduceAdd, Nat.reduceMul, Nat.reduceSub, Nat.reduceLeDiff, Nat.reduceBEq, Nat.reduceBNe, Int.reduceNeg, Int.reduceLT, Int.reduceLE, Int.reduceAdd, Int.reduceSub, Int.reduceToNat, Int.reduceEq, Int.reduceBEq, reduceCtorEq, Int.reduceBNe, f5, h0])
        refine stop_call (rflag_ok _ b s2 (by omega)) ?_ ?_
        · first | trivial | (simp only [go_sem, Nat.reduceEqDiff, ↓reduceIte, reduceIte, Nat.reduceAdd, Nat.reduceMul, Nat.reduceSub, Nat.reduceLeDiff, Nat.reduceBEq, Nat.reduceBNe, Int.reduceNeg, Int.reduceLT, Int.reduceLE, Int.reduceAdd, Int.reduceSub, Int.reduceToNat, Int.reduceEq, Int.reduceBEq, reduceCtorEq, Int.reduceBNe, hbb]; done)
        repeat (first
          | with_reducible refine W_seq fun K hK => ?_
          | (with_reducible refine hK _ ?_); clear hK K
          | (with_reducible refine W_skipK hK ?_); clear hK K
          | (with_reducible refine W_condT ?_ ?_); (· rfl)
          | (with_reducible refine W_condF ?_ ?_); (· rfl)
          | with_reducible refine W_block ?_
          | clear hK K; (with_reducible refine hK _ ?_); clear hK K
          | clear hK K; clear hK K; (with_reducible refine hK _ ?_); clear hK K
          | clear hK K; clear hK K; clear hK K; (with_reducible refine hK _ ?_); clear hK K
          | (with_reducible refine And.intro ?_ ?_); (· first | omega | decide)
          | (try first | ((with_reducible refine W_reg ?_ ?_); (· rfl)) | (with_reducible refine W_exit ?_) | (with_reducible refine W_ret ?_)); simp only [go_sem, Nat.reduceEqDiff, ↓reduceIte, reduceIte, Nat.reduceAdd, Nat.reduceMul, Nat.reduceSub, Nat.reduceLeDiff, Nat.reduceBEq, Nat.reduceBNe, Int.reduceNeg, Int.reduceLT, Int.reduceLE, Int.reduceAdd, Int.reduceSub, Int.reduceToNat, Int.reduceEq, Int.reduceBEq, reduceCtorEq, Int.reduceBNe, h0])
        have hfl := s2.flag_len
        refine ⟨_, ?_, s2.flag.2, rfl, Rd.flag_okR hok2, ?_, ?_⟩
        · cases hb2 : s2.flag.2.bad with
          | true => simp
          | false => have := hfl hb2; simp; omega
        · cases hb2 : s2.flag.2.bad with
          | true => have := Rd.flag_okR hok2 hb2; rw [this]; simp [sqL]
          | false => have := hfl hb2; omega
        · exact ⟨rfl, fun c hc => by rw [if_neg hc]; exact hoth c hc⟩
    · have f2 : decide (n < 0) = false := by simpa using c2
      have f3 : decide (n > ((sqL s1.o).length : Int)) = true := by simp; omega
      repeat (first
        | with_reducible refine W_seq fun K hK => ?_
        | (with_reducible refine hK _ ?_); clear hK K
        | (with_reducible refine W_skipK hK ?_); clear hK K
        | (with_reducible refine W_condT ?_ ?_); (· rfl)
        | (with_reducible refine W_condF ?_ ?_); (· rfl)
        | with_reducible refine W_block ?_
        | clear hK K; (with_reducible refine hK _ ?_); clear hK K
        | clear hK K; clear hK K; (with_reducible refine hK _ ?_); clear hK K
        | clear hK K; clear hK K; clear hK K; (with_reducible refine hK _ ?_); clear hK K
        | (with_reducible refine And.intro ?_ ?_); (· first | omega | decide)
        | (try first | ((with_reducible refine W_reg ?_ ?_); (· rfl)) | (with_reducible refine W_exit ?_) | (with_reducible refine W_ret ?_)); simp only [go_sem, Nat.reduceEqDiff, ↓reduceIte, reduceIte, Nat.reduceAdd, Nat.reduceMul, Nat.reduceSub, Nat.reduceLeDiff, Nat.reduceBEq, Nat.reduceBNe, Int.reduceNeg, Int.reduceLT, Int.reduceLE, Int.reduceAdd, Int.reduceSub, Int.reduceToNat, Int.reduceEq, Int.reduceBEq, reduceCtorEq, Int.reduceBNe, f2])
      refine stop_call (left_ok _ b s1) ?_ ?_
      · first | trivial | (simp only [go_sem, Nat.reduceEqDiff, ↓reduceIte, reduceIte, Nat.reduceAdd, Nat.reduceMul, Nat.reduceSub, Nat.reduceLeDiff, Nat.reduceBEq, Nat.reduceBNe, Int.reduceNeg, Int.reduceLT, Int.reduceLE, Int.reduceAdd, Int.reduceSub, Int.reduceToNat, Int.reduceEq, Int.reduceBEq, reduceCtorEq, Int.reduceBNe]; done)
      repeat (first
        | with_reducible refine W_seq fun K hK => ?_
        | (with_reducible refine hK _ ?_); clear hK K
        | (with_reducible refine W_skipK hK ?_); clear hK K
        | (with_reducible refine W_condT ?_ ?_); (· rfl)
        | (with_reducible refine W_condF ?_ ?_); (· rfl)
        | with_reducible refine W_block ?_
        | clear hK K; (with_reducible refine hK _ ?_); clear hK K
        | clear hK K; clear hK K; (with_reducible refine hK _ ?_); clear hK K
        | clear hK K; clear hK K; clear hK K; (with_reducible refine hK _ ?_); clear hK K
        | (with_reducible refine And.intro ?_ ?_); (· first | omega | decide)
        | (try first | ((with_reducible refine W_reg ?_ ?_); (· rfl)) | (with_reducible refine W_exit ?_) | (with_reducible refine W_ret ?_)); simp only [go_sem, Nat.reduceEqDiff, ↓reduceIte, reduceIte, Nat.reduceAdd, Nat.reduceMul, Nat.reduceSub, Nat.reduceLeDiff, Nat.reduceBEq, Nat.reduceBNe, Int.reduceNeg, Int.reduceLT, Int.reduceLE, Int.reduceAdd, Int.reduceSub, Int.reduceToNat, Int.reduceEq, Int.reduceBEq, reduceCtorEq, Int.reduceBNe, f3])
      refine stop_call (rtext_ok _ b s1 (by omega)) ?_ ?_
      · first | trivial | (simp only [go_sem, Nat.reduceEqDiff, ↓reduceIte, reduceIte, Nat.reduceAdd, Nat.reduceMul, Nat.reduceSub, Nat.reduceLeDiff, Nat.reduceBEq, Nat.reduceBNe, Int.reduceNeg, Int.reduceLT, Int.reduceLE, Int.reduceAdd, Int.reduceSub, Int.reduceToNat, Int.reduceEq, Int.reduceBEq, reduceCtorEq, Int.reduceBNe]; done)
      repeat (first
        | with_reducible refine W_seq fun K hK => ?_
        | (with_reducible refine hK _ ?_); clear hK K
        | (with_reducible refine W_skipK hK ?_); clear hK K
        | (with_reducible refine W_condT ?_ ?_); (· rfl)
        | (with_reducible refine W_condF ?_ ?_); (· rfl)
        | with_reducible refine W_block ?_
        | clear hK K; (with_reducible refine hK _ ?_); clear hK K
        | clear hK K; clear hK K; (with_reducible refine hK _ ?_); clear hK K
        | clear hK K; clear hK K; clear hK K; (with_reducible refine hK _ ?_); clear hK K
        | (with_reducible refine And.intro ?_ ?_); (· first | omega | decide)
        | (try first | ((with_reducible refine W_reg ?_ ?_); (· rfl)) | (with_reducible refine W_exit ?_) | (with_reducible refine W_ret ?_)); simp only [go_sem, Nat.reduceEqDiff, ↓reduceIte, reduceIte, Nat.reduceAdd, Nat.reduceMul, Nat.reduceSub, Nat.reduceLeDiff, Nat.reduceBEq, Nat.reduceBNe, Int.reduceNeg, Int.reduceLT, Int.reduceLE, Int.reduceAdd, Int.reduceSub, Int.reduceToNat, Int.reduceEq, Int.reduceBEq, reduceCtorEq, Int.reduceBNe])
      refine W_loop ?_
      refine WL_nat (P := Try.prog) (fun m q => ∃ s2 : Rd, m = (if s2.bad then 0 else (sqL s2.o).length + 1) ∧ s2.ok ∧ (sqL s2.o).length ≤ (sqL s.o).length ∧ q.tm 0 = .ptr b 0 ∧ q.h b = some (.cells 166 s2.enc) ∧ ∀ c, c ≠ b → q.h c = h c) (fun m q hI => ?_) _ _
        ⟨s1.text.2, rfl, Rd.text_okR hok1, by have := s1.text_len; omega, rfl, hset_same _ _ _, fun c hc => by simp only [go_sem, Nat.reduceEqDiff, ↓reduceIte, reduceIte, Nat.reduceAdd, Nat.reduceMul, Nat.reduceSub, Nat.reduceLeDiff, Nat.reduceBEq, Nat.reduceBNe, Int.reduceNeg, Int.reduceLT, Int.reduceLE, Int.reduceAdd, Int.reduceSub, Int.reduceToNat, Int.reduceEq, Int.reduceBEq, reduceCtorEq, Int.reduceBNe, hc]⟩
      obtain ⟨s2, rfl, hok2, hl2, h0, hbb, hoth⟩ := hI
      obtain ⟨tm, hh, tt⟩ := q
      simp only at h0 hbb hoth
      cases hbad : s2.bad with
      | true =>
        have f5 : (!s2.bad) = false := by rw [hbad]; rfl
        have he : s2 = ⟨none, true⟩ := by cases s2; simp only at hbad; subst hbad; have := hok2 rfl; simp only at this; rw [this]
        repeat (first
          | with_reducible refine W_seq fun K hK => ?_
          | (with_reducible refine hK _ ?_); clear hK K
          | (with_reducible refine W_skipK hK ?_); clear hK K
          | (with_reducible refine W_condT ?_ ?_); (· rfl)
          | (with_reducible refine W_condF ?_ ?_); (· rfl)
          | with_reducible refine W_block ?_
          | clear hK K; (with_reducible refine hK _ ?_); clear hK K
          | clear hK K; clear hK K; (with_reducible refine hK _ ?_); clear hK K
          | clear hK K; clear hK K; clear hK K; (with_reducible refine hK _ ?_); clear hK K
          | (with_reducible refine And.intro ?_ ?_); (· first | omega | decide)
          | (try first | ((with_reducible refine W_reg ?_ ?_); (· rfl)) | (with_reducible refine W_exit ?_) | (with_reducible refine W_ret ?_)); simp only [go_sem, Nat.reduceEqDiff, ↓reduceIte, reduceIte, Nat.reduceAdd, Nat.reduceMul, Nat.reduceSub, Nat.reduceLeDiff, Nat.reduceBEq, Nat.reduceBNe, Int.reduceNeg, Int.reduceLT, Int.reduceLE, Int.reduceAdd, Int.reduceSub, Int.reduceToNat, Int.reduceEq, Int.reduceBEq, reduceCtorEq, Int.reduceBNe, h0])
        refine stop_call (ok_ok _ b s2) ?_ ?_
        · first | trivial | (simp only [go_sem, Nat.reduceEqDiff, ↓reduceIte, reduceIte, Nat.reduceAdd, Nat.reduceMul, Nat.reduceSub, Nat.reduceLeDiff, Nat.reduceBEq, Nat.reduceBNe, Int.reduceNeg, Int.reduceLT, Int.reduceLE, Int.reduceAdd, Int.reduceSub, Int.reduceToNat, Int.reduceEq, Int.reduceBEq, reduceCtorEq, Int.reduceBNe, hbb]; done)
        repeat (first
          | with_reducible refine W_seq fun K hK => ?_
          | (with_reducible refine hK _ ?_); clear hK K
          | (with_reducible refine W_skipK hK ?_); clear hK K
          | (with_reducible refine W_condT ?_ ?_); (· rfl)
          | (with_reducible refine W_condF ?_ ?_); (· rfl)
          | with_reducible refine W_block ?_
          | clear hK K; (with_reducible refine hK _ ?_); clear hK K
          | clear hK K; clear hK K; (with_reducible refine hK _ ?_); clear hK K
          | clear hK K; clear hK K; clear hK K; (with_reducible refine hK _ ?_); clear hK K
          | (with_reducible refine And.intro ?_ ?_); (· first | omega | decide)
          | (try first | ((with_reducible refine W_reg ?_ ?_); (· rfl)) | (with_reducible refine W_exit ?_) | (with_reducible refine W_ret ?_)); simp only [go_sem, Nat.reduceEqDiff, ↓reduceIte, reduceIte, Nat.reduceAdd, Nat.reduceMul, Nat.reduceSub, Nat.reduceLeDiff, Nat.reduceBEq, Nat.reduceBNe, Int.reduceNeg, Int.reduceLT, Int.reduceLE, Int.reduceAdd, Int.reduceSub, Int.reduceToNat, Int.reduceEq, Int.reduceBEq, reduceCtorEq, Int.reduceBNe, f5])
        refine ends_ret ?_ (hle_set1 (hbb.trans (by rw [he])) (fun c hc hn => hoth c hc))
        simp only [go_sem, Nat.reduceEqDiff, ↓reduceIte, reduceIte, Nat.reduceAdd, Nat.reduceMul, Nat.reduceSub, Nat.reduceLeDiff, Nat.reduceBEq, Nat.reduceBNe, Int.reduceNeg, Int.reduceLT, Int.reduceLE, Int.reduceAdd, Int.reduceSub, Int.reduceToNat, Int.reduceEq, Int.reduceBEq, reduceCtorEq, Int.reduceBNe, Try.f75]
      | false =>
        have f5 : (!s2.bad) = true := by rw [hbad]; rfl
        repeat (first
          | with_reducible refine W_seq fun K hK => ?_
          | (with_reducible refine hK _ ?_); clear hK K
          | (with_reducible refine W_skipK hK ?_); clear hK K
          | (with_reducible refine W_condT ?_ ?_); (· rfl)
          | (with_reducible refine W_condF ?_ ?_); (· rfl)
          | with_reducible refine W_block ?_
          | clear hK K; (with_reducible refine hK _ ?_); clear hK K
          | clear hK K; clear hK K; (with_reducible refine hK _ ?_); clear hK K
          | clear hK K; clear hK K; clear hK K; (with_reducible refine hK _ ?_); clear hK K
          | (with_reducible refine And.intro ?_ ?_); (· first | omega | decide)
          | (try first | ((with_reducible refine W_reg ?_ ?_); (· rfl)) | (with_reducible refine W_exit ?_) | (with_reducible refine W_ret ?_)); simp only [go_sem, Nat.reduceEqDiff, ↓reduceIte, reduceIte, Nat.reduceAdd, Nat.reduceMul, Nat.reduceSub, Nat.reduceLeDiff, Nat.reduceBEq, Nat.reduceBNe, Int.reduceNeg, Int.reduceLT, Int.reduceLE, Int.reduceAdd, Int.reduceSub, Int.reduceToNat, Int.reduceEq, Int.reduceBEq, reduceCtorEq, Int.reduceBNe, h0])
        refine stop_call (ok_ok _ b s2) ?_ ?_
        · first | trivial | (simp only [go_sem, Nat.reduceEqDiff, ↓reduceIte, reduceIte, Nat.reduceAdd, Nat.reduceMul, Nat.reduceSub, Nat.reduceLeDiff, Nat.reduceBEq, Nat.reduceBNe, Int.reduceNeg, Int.reduceLT, Int.reduceLE, Int.reduceAdd, Int.reduceSub, Int.reduceToNat, Int.reduceEq, Int.reduceBEq, reduceCtorEq, Int.reduceBNe, hbb]; done)
        repeat (first
          | with_reducible refine W_seq fun K hK => ?_
          | (with_reducible refine hK _ ?_); clear hK K
          | (with_reducible refine W_skipK hK ?_); clear hK K
          | (with_reducible refine W_condT ?_ ?_); (· rfl)
          | (with_reducible refine W_condF ?_ ?_); (· rfl)
          | with_reducible refine W_block ?_
          | clear hK K; (with_reducible refine hK _ ?_); clear hK K
          | clear hK K; clear hK K; (with_reducible refine hK _ ?_); clear hK K
          | clear hK K; clear hK K; clear hK K; (with_reducible refine hK _ ?_); clear hK K
          | (with_reducible refine And.intro ?_ ?_); (· first | omega | decide)
          | (try first | ((with_reducible refine W_reg ?_ ?_); (· rfl)) | (with_reducible refine W_exit ?_) | (with_reducible refine W_ret ?_)); simp only [go_sem, Nat.reduceEqDiff, ↓reduceIte, reduceIte, Nat.reduceAdd, Nat.reduceMul, Nat.reduceSub, Nat.reduceLeDiff, Nat.reduceBEq, Nat.reduceBNe, Int.reduceNeg, Int.reduceLT, Int.reduceLE, Int.reduceAdd, Int.reduceSub, Int.reduceToNat, Int.reduceEq, Int.reduceBEq, reduceCtorEq, Int.reduceBNe, f5, h0])
        refine stop_call (rflag_ok _ b s2 (by omega)) ?_ ?_
        · first | trivial | (simp only [go_sem, Nat.reduceEqDiff, ↓reduceIte, reduceIte, Nat.reduceAdd, Nat.reduceMul, Nat.reduceSub, Nat.reduceLeDiff, Nat.reduceBEq, Nat.reduceBNe, Int.reduceNeg, Int.reduceLT, Int.reduceLE, Int.reduceAdd, Int.reduceSub, Int.reduceToNat, Int.reduceEq, Int.reduceBEq, reduceCtorEq, Int.reduceBNe, hbb]; done)
        repeat (first
          | with_reducible refine W_seq fun K hK => ?_
          | (with_reducible refine hK _ ?_); clear hK K
          | (with_reducible refine W_skipK hK ?_); clear hK K
          | (with_reducible refine W_condT ?_ ?_); (· rfl)
          | (with_reducible refine W_condF ?_ ?_); (· rfl)
          | with_reducible refine W_block ?_
          | clear hK K; (with_reducible refine hK _ ?_); clear hK K
          | clear hK K; clear hK K; (with_reducible refine hK _ ?_); clear hK K
          | clear hK K; clear hK K; clear hK K; (with_reducible refine hK _ ?_); clear hK K
          | (with_reducible refine And.intro ?_ ?_); (· first | omega | decide)
          | (try first | ((with_reducible refine W_reg ?_ ?_); (· rfl)) | (with_reducible refine W_exit ?_) | (with_reducible refine W_ret ?_)); simp only [go_sem, Nat.reduceEqDiff, ↓reduceIte, reduceIte, Nat.reduceAdd, Nat.reduceMul, Nat.reduceSub, Nat.reduceLeDiff, Nat.reduceBEq, Nat.reduceBNe, Int.reduceNeg, Int.reduceLT, Int.reduceLE, Int.reduceAdd, Int.reduceSub, Int.reduceToNat, Int.reduceEq, Int.reduceBEq, reduceCtorEq, Int.reduceBNe, h0])
        have hfl := s2.flag_len
        refine ⟨_, ?_, s2.flag.2, rfl, Rd.flag_okR hok2, ?_, ?_⟩
        · cases hb2 : s2.flag.2.bad with
          | true => simp
          | false => have := hfl hb2; simp; omega
        · cases hb2 : s2.flag.2.bad with
          | true => have := Rd.flag_okR hok2 hb2; rw [this]; simp [sqL]
          | false => have := hfl hb2; omega
        · exact ⟨rfl, fun c hc => by rw [if_neg hc]; exact hoth c hc⟩
  · have f2 : decide (n < 0) = false := by simp; omega
    have f3 : decide (n > ((sqL s1.o).length : Int)) = false := by simp; omega
    rw [if_neg c1]
    refine ⟨⟨_, Try.func75, by decide, rfl⟩, (by simp <;> repeat first | exact ⟨[_, _], rfl⟩ | constructor), fun h hr => callsA_of_W Try.func75 rfl fun hfr => ?_⟩
    have hb := hr.1; simp only [Rd.enc] at hb
    repeat (first
      | with_reducible refine W_seq fun K hK => ?_
      | (with_reducible refine hK _ ?_); clear hK K
      | (with_reducible refine W_skipK hK ?_); clear hK K
      | (with_reducible refine W_condT ?_ ?_); (· rfl)
      | (with_reducible refine W_condF ?_ ?_); (· rfl)
      | with_reducible refine W_block ?_
      | clear hK K; (with_reducible refine hK _ ?_); clear hK K
      | clear hK K; clear hK K; (with_reducible refine hK _ ?_); clear hK K
      | clear hK K; clear hK K; clear hK K; (with_reducible refine hK _ ?_); clear hK K
      | (with_reducible refine And.intro ?_ ?_); (· first | omega | decide)
      | (try first | ((with_reducible refine W_reg ?_ ?_); (· rfl)) | (with_reducible refine W_exit ?_) | (with_reducible refine W_ret ?_)); simp only [go_sem, Nat.reduceEqDiff, ↓reduceIte, reduceIte, Nat.reduceAdd, Nat.reduceMul, Nat.reduceSub, Nat.reduceLeDiff, Nat.reduceBEq, Nat.reduceBNe, Int.reduceNeg, Int.reduceLT, Int.reduceLE, Int.reduceAdd, Int.reduceSub, Int.reduceToNat, Int.reduceEq, Int.reduceBEq, reduceCtorEq, Int.reduceBNe])
    refine stop_call (hnum _) ?_ ?_
    · first | trivial | (simp only [go_sem, Nat.reduceEqDiff, ↓reduceIte, reduceIte, Nat.reduceAdd, Nat.reduceMul, Nat.reduceSub, Nat.reduceLeDiff, Nat.reduceBEq, Nat.reduceBNe, Int.reduceNeg, Int.reduceLT, Int.reduceLE, Int.reduceAdd, Int.reduceSub, Int.reduceToNat, Int.reduceEq, Int.reduceBEq, reduceCtorEq, Int.reduceBNe, hb, Rd.enc]; done)
    repeat (first
      | with_reducible refine W_seq fun K hK => ?_
      | (with_reducible refine hK _ ?_); clear hK K
      | (with_reducible refine W_skipK hK ?_); clear hK K
      | (with_reducible refine W_condT ?_ ?_); (· rfl)
      | (with_reducible refine W_condF ?_ ?_); (· rfl)
      | with_reducible refine W_block ?_
      | clear hK K; (with_reducible refine hK _ ?_); clear hK K
      | clear hK K; clear hK K; (with_reducible refine hK _ ?_); clear hK K
      | clear hK K; clear hK K; clear hK K; (with_reducible refine hK _ ?_); clear hK K
      | (with_reducible refine And.intro ?_ ?_); (· first | omega | decide)
      | (try first | ((with_reducible refine W_reg ?_ ?_); (· rfl)) | (with_reducible refine W_exit ?_) | (with_reducible refine W_ret ?_)); simp only [go_sem, Nat.reduceEqDiff, ↓reduceIte, reduceIte, Nat.reduceAdd, Nat.reduceMul, Nat.reduceSub, Nat.reduceLeDiff, Nat.reduceBEq, Nat.reduceBNe, Int.reduceNeg, Int.reduceLT, Int.reduceLE, Int.reduceAdd, Int.reduceSub, Int.reduceToNat, Int.reduceEq, Int.reduceBEq, reduceCtorEq, Int.reduceBNe, f2])
    refine stop_call (left_ok _ b s1) ?_ ?_
    · first | trivial | (simp only [go_sem, Nat.reduceEqDiff, ↓reduceIte, reduceIte, Nat.reduceAdd, Nat.reduceMul, Nat.reduceSub, Nat.reduceLeDiff, Nat.reduceBEq, Nat.reduceBNe, Int.reduceNeg, Int.reduceLT, Int.reduceLE, Int.reduceAdd, Int.reduceSub, Int.reduceToNat, Int.reduceEq, Int.reduceBEq, reduceCtorEq, Int.reduceBNe]; done)
    repeat (first
      | with_reducible refine W_seq fun K hK => ?_
      | (with_reducible refine hK _ ?_); clear hK K
      | (with_reducible refine W_skipK hK ?_); clear hK K
      | (with_reducible refine W_condT ?_ ?_); (· rfl)
      | (with_reducible refine W_condF ?_ ?_); (· rfl)
      | with_reducible refine W_block ?_
      | clear hK K; (with_reducible refine hK _ ?_); clear hK K
      | clear hK K; clear hK K; (with_reducible refine hK _ ?_); clear hK K
      | clear hK K; clear hK K; clear hK K; (with_reducible refine hK _ ?_); clear hK K
      | (with_reducible refine And.intro ?_ ?_); (· first | omega | decide)
      | (try first | ((with_reducible refine W_reg ?_ ?_); (· rfl)) | (with_reducible refine W_exit ?_) | (with_reducible refine W_ret ?_)); simp only [go_sem, Nat.reduceEqDiff, ↓reduceIte, reduceIte, Nat.reduceAdd, Nat.reduceMul, Nat.reduceSub, Nat.reduceLeDiff, Nat.reduceBEq, Nat.reduceBNe, Int.reduceNeg, Int.reduceLT, Int.reduceLE, Int.reduceAdd, Int.reduceSub, Int.reduceToNat, Int.reduceEq, Int.reduceBEq, reduceCtorEq, Int.reduceBNe, f3])
    refine ends_ret ?_ (HLe.refl _)
    simp only [go_sem, Nat.reduceEqDiff, ↓reduceIte, reduceIte, Nat.reduceAdd, Nat.reduceMul, Nat.reduceSub, Nat.reduceLeDiff, Nat.reduceBEq, Nat.reduceBNe, Int.reduceNeg, Int.reduceLT, Int.reduceLE, Int.reduceAdd, Int.reduceSub, Int.reduceToNat, Int.reduceEq, Int.reduceBEq, reduceCtorEq, Int.reduceBNe, Try.f75]
end Go.Proofs.Ytmpndjpaelcnkaa
