/- ClientAll holds. -/
import Derived.Test.YtmpndjpaelcnkaaB26
import Derived.Test.YtmpndjpaelcnkaaB23
set_option linter.unusedVariables false
set_option linter.unusedSimpArgs false
namespace Go.Proofs.Ytmpndjpaelcnkaa
open Go Go.SX

theorem neS (a b : Nat) : (a = a + (b + 1)) = False := by simp
theorem neS2 (a b : Nat) : (a + (b + 1) = a) = False := by simp
theorem names_len {l : List (List UInt8)} (h1 : l.length ≤ 10) (h2 : ∀ x ∈ l, x.length ≤ 40) : (l.flatMap textB).length ≤ 150000 := by
  have : ∀ (l : List (List UInt8)), (∀ x ∈ l, x.length ≤ 40) → (l.flatMap textB).length ≤ 50 * l.length := by
    intro l
    induction l with
    | nil => intro _; simp
    | cons a l ih =>
      intro h
      have q1 := h a List.mem_cons_self
      have q2 := ih (fun x hx => h x (List.mem_cons_of_mem _ hx))
      have q3 := textB_len a
      simp only [List.flatMap_cons, List.length_append, List.length_cons]; omega
  have := this l h2; omega
theorem getR_len (s : Rd) : (sqL (getR s).1.1.nm).length ≤ 1000 := by
  have hz : (sqL Rp.zero.nm).length ≤ 1000 := by simp [Rp.zero, sqL]
  by_cases c : s.num.1 < 0 ∨ 14 < s.num.1 ∨ s.num.2.flag.2.num.1 < 0 ∨ 1000 < s.num.2.flag.2.num.1
  · have e : getR s = ((Rp.zero, false), s.num.2.flag.2.num.2) := by unfold getR; simp only; rw [if_pos c]
    rw [e]; exact hz
  · by_cases c2 : (s.num.2.flag.2.num.2.strs s.num.2.flag.2.num.1.toNat).2.bad = true
    · have e : getR s = ((Rp.zero, false), (s.num.2.flag.2.num.2.strs s.num.2.flag.2.num.1.toNat).2) := by unfold getR; simp only; rw [if_neg c, if_pos c2]
      rw [e]; exact hz
    · have e : getR s = ((⟨s.num.1, s.num.2.flag.1, ne (s.num.2.flag.2.num.2.strs s.num.2.flag.2.num.1.toNat).1⟩, true), (s.num.2.flag.2.num.2.strs s.num.2.flag.2.num.1.toNat).2) := by unfold getR; simp only; rw [if_neg c, if_neg c2]
      rw [e]
      show (sqL (ne _)).length ≤ 1000
      rw [sqL_ne, (Rd.strs_len _ _).1]; omega
theorem readP_len (o : Option (List UInt8)) : (sqL (readP o).1.nm).length ≤ 1000 := by
  unfold readP
  split
  · exact getR_len _
  · simp [Rp.zero, sqL]
/-- An operation of the law. -/
structure Opr where
  k : Int
  n : Int
  s : List UInt8
  m : Mg
  r : Rp
def Opr.enc (x : Opr) : List AV := [.p (.int .i64 x.k), .p (.int .i64 x.n), strA x.s, .p (.int .i64 x.m.kind), .p (.int .i64 x.m.frm), .p (.int .i64 x.m.to), .p (.int .i64 x.m.term), .p (.int .i64 x.m.idx), .p (.int .i64 x.m.lt), .p (.int .i64 x.m.com), sq Ent.enc x.m.es, .p (.bool x.m.ok), .p (.int .i64 x.m.hint),
  sq nE x.m.conf, sq bE x.m.data, .p (.int .i64 x.m.off), .p (.int .i64 x.m.size), .p (.int .i64 x.m.ctx), .p (.int .i64 x.r.err), .p (.bool x.r.ok), sq sE x.r.nm]
theorem Opr.enc_len (x : Opr) : x.enc.length = 21 := rfl
set_option maxRecDepth 8000 in
theorem f5_bad (id : BId) (who : Int) (ops : Option (List Opr)) (hw : who < 1 ∨ 8 < who) : CallF Try.prog 5 [.p (.int .i64 who), sq Opr.enc ops] id [] (.p (.bool true)) [] := by
  have hN := fun id => new_bad id who hw
  by_cases c1 : who < 1
  · have f1 : decide (who < 1) = true := by simpa using c1
    refine ⟨⟨_, Try.func5, by decide, rfl⟩, (by simp <;> repeat first | exact ⟨[_, _], rfl⟩ | constructor), fun h hr => callsA_of_W Try.func5 rfl fun hfr => ?_⟩
    repeat (first
      | with_reducible refine W_seq fun K hK => ?_
      | (with_reducible refine hK _ ?_); clear hK K
      | (with_reducible refine W_skipK hK ?_); clear hK K
      | (with_reducible refine W_condT ?_ ?_); (· rfl)
      | (with_reducible refine W_condF ?_ ?_); (· rfl)
      | with_reducible refine W_block ?_
      | clear hK K; (with_reducible refine hK _ ?_); clear hK K
      | clear hK K; clear hK K; (with_reducible refine hK _ ?_); clear hK K
      | clear hK K; clear hK K; clear hK K; (with_reducible refine hK _ ?_); clear hK K
      | (with_reducible refine And.intro ?_ ?_); (· first | omega | decide)
      | (try first | ((with_reducible refine W_reg ?_ ?_); (· rfl)) | (with_reducible refine W_exit ?_) | (with_reducible refine W_ret ?_)); simp only [go_sem, Nat.reduceEqDiff, ↓reduceIte, reduceIte, Nat.reduceAdd, Nat.reduceMul, Nat.reduceSub, Nat.reduceLeDiff, Nat.reduceBEq, Nat.reduceBNe, Int.reduceNeg, Int.reduceLT, Int.reduceLE, Int.reduceAdd, Int.reduceSub, Int.reduceToNat, Int.reduceEq, Int.reduceBEq, reduceCtorEq, Int.reduceBNe])
    refine stop_call (begun22_ok _) ?_ ?_
    · first | trivial | (simp only [go_sem, Nat.reduceEqDiff, ↓reduceIte, reduceIte, Nat.reduceAdd, Nat.reduceMul, Nat.reduceSub, Nat.reduceLeDiff, Nat.reduceBEq, Nat.reduceBNe, Int.reduceNeg, Int.reduceLT, Int.reduceLE, Int.reduceAdd, Int.reduceSub, Int.reduceToNat, Int.reduceEq, Int.reduceBEq, reduceCtorEq, Int.reduceBNe]; done)
    repeat (first
      | with_reducible refine W_seq fun K hK => ?_
      | (with_reducible refine hK _ ?_); clear hK K
      | (with_reducible refine W_skipK hK ?_); clear hK K
      | (with_reducible refine W_condT ?_ ?_); (· rfl)
      | (with_reducible refine W_condF ?_ ?_); (· rfl)
      | with_reducible refine W_block ?_
      | clear hK K; (with_reducible refine hK _ ?_); clear hK K
      | clear hK K; clear hK K; (with_reducible refine hK _ ?_); clear hK K
      | clear hK K; clear hK K; clear hK K; (with_reducible refine hK _ ?_); clear hK K
      | (with_reducible refine And.intro ?_ ?_); (· first | omega | decide)
      | (try first | ((with_reducible refine W_reg ?_ ?_); (· rfl)) | (with_reducible refine W_exit ?_) | (with_reducible refine W_ret ?_)); simp only [go_sem, Nat.reduceEqDiff, ↓reduceIte, reduceIte, Nat.reduceAdd, Nat.reduceMul, Nat.reduceSub, Nat.reduceLeDiff, Nat.reduceBEq, Nat.reduceBNe, Int.reduceNeg, Int.reduceLT, Int.reduceLE, Int.reduceAdd, Int.reduceSub, Int.reduceToNat, Int.reduceEq, Int.reduceBEq, reduceCtorEq, Int.reduceBNe])
    refine stop_call (hN _) ?_ ?_
    · first | trivial | (simp only [go_sem, Nat.reduceEqDiff, ↓reduceIte, reduceIte, Nat.reduceAdd, Nat.reduceMul, Nat.reduceSub, Nat.reduceLeDiff, Nat.reduceBEq, Nat.reduceBNe, Int.reduceNeg, Int.reduceLT, Int.reduceLE, Int.reduceAdd, Int.reduceSub, Int.reduceToNat, Int.reduceEq, Int.reduceBEq, reduceCtorEq, Int.reduceBNe]; done)
    repeat (first
      | with_reducible refine W_seq fun K hK => ?_
      | (with_reducible refine hK _ ?_); clear hK K
      | (with_reducible refine W_skipK hK ?_); clear hK K
      | (with_reducible refine W_condT ?_ ?_); (· rfl)
      | (with_reducible refine W_condF ?_ ?_); (· rfl)
      | with_reducible refine W_block ?_
      | clear hK K; (with_reducible refine hK _ ?_); clear hK K
      | clear hK K; clear hK K; (with_reducible refine hK _ ?_); clear hK K
      | clear hK K; clear hK K; clear hK K; (with_reducible refine hK _ ?_); clear hK K
      | (with_reducible refine And.intro ?_ ?_); (· first | omega | decide)
      | (try first | ((with_reducible refine W_reg ?_ ?_); (· rfl)) | (with_reducible refine W_exit ?_) | (with_reducible refine W_ret ?_)); simp only [go_sem, Nat.reduceEqDiff, ↓reduceIte, reduceIte, Nat.reduceAdd, Nat.reduceMul, Nat.reduceSub, Nat.reduceLeDiff, Nat.reduceBEq, Nat.reduceBNe, Int.reduceNeg, Int.reduceLT, Int.reduceLE, Int.reduceAdd, Int.reduceSub, Int.reduceToNat, Int.reduceEq, Int.reduceBEq, reduceCtorEq, Int.reduceBNe, f1])
    refine ends_ret ?_ (by (repeat first | exact HLe.refl _ | refine HLe.set ?_ _ _ | refine HLe.fresh ?_ (hfr [_, _])))
    simp only [go_sem, Nat.reduceEqDiff, ↓reduceIte, reduceIte, Nat.reduceAdd, Nat.reduceMul, Nat.reduceSub, Nat.reduceLeDiff, Nat.reduceBEq, Nat.reduceBNe, Int.reduceNeg, Int.reduceLT, Int.reduceLE, Int.reduceAdd, Int.reduceSub, Int.reduceToNat, Int.reduceEq, Int.reduceBEq, reduceCtorEq, Int.reduceBNe, Try.f5]
  · have f1 : decide (who < 1) = false := by simpa using c1
    have f2 : decide (who > 8) = true := by simp; omega
    refine ⟨⟨_, Try.func5, by decide, rfl⟩, (by simp <;> repeat first | exact ⟨[_, _], rfl⟩ | constructor), fun h hr => callsA_of_W Try.func5 rfl fun hfr => ?_⟩
    repeat (first
      | with_reducible refine W_seq fun K hK => ?_
      | (with_reducible refine hK _ ?_); clear hK K
      | (with_reducible refine W_skipK hK ?_); clear hK K
      | (with_reducible refine W_condT ?_ ?_); (· rfl)
      | (with_reducible refine W_condF ?_ ?_); (· rfl)
      | with_reducible refine W_block ?_
      | clear hK K; (with_reducible refine hK _ ?_); clear hK K
      | clear hK K; clear hK K; (with_reducible refine hK _ ?_); clear hK K
      | clear hK K; clear hK K; clear hK K; (with_reducible refine hK _ ?_); clear hK K
      | (with_reducible refine And.intro ?_ ?_); (· first | omega | decide)
      | (try first | ((with_reducible refine W_reg ?_ ?_); (· rfl)) | (with_reducible refine W_exit ?_) | (with_reducible refine W_ret ?_)); simp only [go_sem, Nat.reduceEqDiff, ↓reduceIte, reduceIte, Nat.reduceAdd, Nat.reduceMul, Nat.reduceSub, Nat.reduceLeDiff, Nat.reduceBEq, Nat.reduceBNe, Int.reduceNeg, Int.reduceLT, Int.reduceLE, Int.reduceAdd, Int.reduceSub, Int.reduceToNat, Int.reduceEq, Int.reduceBEq, reduceCtorEq, Int.reduceBNe])
    refine stop_call (begun22_ok _) ?_ ?_
    · first | trivial | (simp only [go_sem, Nat.reduceEqDiff, ↓reduceIte, reduceIte, Nat.reduceAdd, Nat.reduceMul, Nat.reduceSub, Nat.reduceLeDiff, Nat.reduceBEq, Nat.reduceBNe, Int.reduceNeg, Int.reduceLT, Int.reduceLE, Int.reduceAdd, Int.reduceSub, Int.reduceToNat, Int.reduceEq, Int.reduceBEq, reduceCtorEq, Int.reduceBNe]; done)
    repeat (first
      | with_reducible refine W_seq fun K hK => ?_
      | (with_reducible refine hK _ ?_); clear hK K
      | (with_reducible refine W_skipK hK ?_); clear hK K
      | (with_reducible refine W_condT ?_ ?_); (· rfl)
      | (with_reducible refine W_condF ?_ ?_); (· rfl)
      | with_reducible refine W_block ?_
      | clear hK K; (with_reducible refine hK _ ?_); clear hK K
      | clear hK K; clear hK K; (with_reducible refine hK _ ?_); clear hK K
      | clear hK K; clear hK K; clear hK K; (with_reducible refine hK _ ?_); clear hK K
      | (with_reducible refine And.intro ?_ ?_); (· first | omega | decide)
      | (try first | ((with_reducible refine W_reg ?_ ?_); (· rfl)) | (with_reducible refine W_exit ?_) | (with_reducible refine W_ret ?_)); simp only [go_sem, Nat.reduceEqDiff, ↓reduceIte, reduceIte, Nat.reduceAdd, Nat.reduceMul, Nat.reduceSub, Nat.reduceLeDiff, Nat.reduceBEq, Nat.reduceBNe, Int.reduceNeg, Int.reduceLT, Int.reduceLE, Int.reduceAdd, Int.reduceSub, Int.reduceToNat, Int.reduceEq, Int.reduceBEq, reduceCtorEq, Int.reduceBNe])
    refine stop_call (hN _) ?_ ?_
    · first | trivial | (simp only [go_sem, Nat.reduceEqDiff, ↓reduceIte, reduceIte, Nat.reduceAdd, Nat.reduceMul, Nat.reduceSub, Nat.reduceLeDiff, Nat.reduceBEq, Nat.reduceBNe, Int.reduceNeg, Int.reduceLT, Int.reduceLE, Int.reduceAdd, Int.reduceSub, Int.reduceToNat, Int.reduceEq, Int.reduceBEq, reduceCtorEq, Int.reduceBNe]; done)
    repeat (first
      | with_reducible refine W_seq fun K hK => ?_
      | (with_reducible refine hK _ ?_); clear hK K
      | (with_reducible refine W_skipK hK ?_); clear hK K
      | (with_reducible refine W_condT ?_ ?_); (· rfl)
      | (with_reducible refine W_condF ?_ ?_); (· rfl)
      | with_reducible refine W_block ?_
      | clear hK K; (with_reducible refine hK _ ?_); clear hK K
      | clear hK K; clear hK K; (with_reducible refine hK _ ?_); clear hK K
      | clear hK K; clear hK K; clear hK K; (with_reducible refine hK _ ?_); clear hK K
      | (with_reducible refine And.intro ?_ ?_); (· first | omega | decide)
      | (try first | ((with_reducible refine W_reg ?_ ?_); (· rfl)) | (with_reducible refine W_exit ?_) | (with_reducible refine W_ret ?_)); simp only [go_sem, Nat.reduceEqDiff, ↓reduceIte, reduceIte, Nat.reduceAdd, Nat.reduceMul, Nat.reduceSub, Nat.reduceLeDiff, Nat.reduceBEq, Nat.reduceBNe, Int.reduceNeg, Int.reduceLT, Int.reduceLE, Int.reduceAdd, Int.reduceSub, Int.reduceToNat, Int.reduceEq, Int.reduceBEq, reduceCtorEq, Int.reduceBNe, f1, f2])
    refine ends_ret ?_ (by (repeat first | exact HLe.refl _ | refine HLe.set ?_ _ _ | refine HLe.fresh ?_ (hfr [_, _])))
    simp only [go_sem, Nat.reduceEqDiff, ↓reduceIte, reduceIte, Nat.reduceAdd, Nat.reduceMul, Nat.reduceSub, Nat.reduceLeDiff, Nat.reduceBEq, Nat.reduceBNe, Int.reduceNeg, Int.reduceLT, Int.reduceLE, Int.reduceAdd, Int.reduceSub, Int.reduceToNat, Int.reduceEq, Int.reduceBEq, reduceCtorEq, Int.reduceBNe, Try.f5]
/-- How things stand at the loop's head (n: how many at most were called). -/
def CInv (id : BId) (h : Heap) (who : Int) (ops : Option (List Opr)) (n : Nat) (J : Int) (q : SSt) : Prop :=
  ∃ (seq : Nat) (busy : Bool) (last : Cm) (hint : Int), seq ≤ n ∧ q.tm 0 = .p (.int .i64 who) ∧ q.tm 1 = sq Opr.enc ops ∧ q.tm 6 = .ptr (2 :: 2 :: 1 :: 3 :: id) 0 ∧ q.tm 7 = .p (.int .i64 seq) ∧ q.tm 8 = .p (.bool busy) ∧ q.tm 9 = .p (.int .i64 hint) ∧ q.tm 10 = .ptr (0 :: 6 :: id) 0 ∧ q.tm 11 = .p (.int .i64 J) ∧ 8 ≤ q.t ∧ q.h (2 :: 2 :: 1 :: 3 :: id) = some (.cells 130 (Cl.enc ⟨who, seq, busy, last, hint⟩)) ∧ q.h (0 :: 6 :: id) = some (.cells 38 last.enc) ∧ HLe h q.h
set_option maxRecDepth 8000 in
set_option maxHeartbeats 4000000 in
theorem f5_ok (id : BId) (who : Int) (ops : Option (List Opr)) (hops : (sqL ops).length ≤ maxLen) (hw : 1 ≤ who ∧ who ≤ 8) : CallF Try.prog 5 [.p (.int .i64 who), sq Opr.enc ops] id [] (.p (.bool true)) [] := by
  have hN := fun id => new_ok id who hw
  have f1 : decide (who < 1) = false := by simp; omega
  have f2 : decide (who > 8) = false := by simp; omega
  unfold maxLen at hops
  refine ⟨⟨_, Try.func5, by decide, rfl⟩, (by simp <;> repeat first | exact ⟨[_, _], rfl⟩ | constructor), fun h hr => callsA_of_W Try.func5 rfl fun hfr => ?_⟩
  repeat (first
    | with_reducible refine W_seq fun K hK => ?_
    | (with_reducible refine hK _ ?_); clear hK K
    | (with_reducible refine W_skipK hK ?_); clear hK K
    | (with_reducible refine W_condT ?_ ?_); (· rfl)
    | (with_reducible refine W_condF ?_ ?_); (· rfl)
    | with_reducible refine W_block ?_
    | clear hK K; (with_reducible refine hK _ ?_); clear hK K
    | clear hK K; clear hK K; (with_reducible refine hK _ ?_); clear hK K
    | clear hK K; clear hK K; clear hK K; (with_reducible refine hK _ ?_); clear hK K
    | (with_reducible refine And.intro ?_ ?_); (· first | omega | decide)
    | (try first | ((with_reducible refine W_reg ?_ ?_); (· rfl)) | (with_reducible refine W_exit ?_) | (with_reducible refine W_ret ?_)); simp only [go_sem, Nat.reduceEqDiff, ↓reduceIte, reduceIte, Nat.reduceAdd, Nat.reduceMul, Nat.reduceSub, Nat.reduceLeDiff, Nat.reduceBEq, Nat.reduceBNe, Int.reduceNeg, Int.reduceLT, Int.reduceLE, Int.reduceAdd, Int.reduceSub, Int.reduceToNat, Int.reduceEq, Int.reduceBEq, reduceCtorEq, Int.reduceBNe])
  refine stop_call (begun22_ok _) ?_ ?_
  · first | trivial | (simp only [go_sem, Nat.reduceEqDiff, ↓reduceIte, reduceIte, Nat.reduceAdd, Nat.reduceMul, Nat.reduceSub, Nat.reduceLeDiff, Nat.reduceBEq, Nat.reduceBNe, Int.reduceNeg, Int.reduceLT, Int.reduceLE, Int.reduceAdd, Int.reduceSub, Int.reduceToNat, Int.reduceEq, Int.reduceBEq, reduceCtorEq, Int.reduceBNe]; done)
  repeat (first
    | with_reducible refine W_seq fun K hK => ?_
    | (with_reducible refine hK _ ?_); clear hK K
    | (with_reducible refine W_skipK hK ?_); clear hK K
    | (with_reducible refine W_condT ?_ ?_); (· rfl)
    | (with_reducible refine W_condF ?_ ?_); (· rfl)
    | with_reducible refine W_block ?_
    | clear hK K; (with_reducible refine hK _ ?_); clear hK K
    | clear hK K; clear hK K; (with_reducible refine hK _ ?_); clear hK K
    | clear hK K; clear hK K; clear hK K; (with_reducible refine hK _ ?_); clear hK K
    | (with_reducible refine And.intro ?_ ?_); (· first | omega | decide)
    | (try first | ((with_reducible refine W_reg ?_ ?_); (· rfl)) | (with_reducible refine W_exit ?_) | (with_reducible refine W_ret ?_)); simp only [go_sem, Nat.reduceEqDiff, ↓reduceIte, reduceIte, Nat.reduceAdd, Nat.reduceMul, Nat.reduceSub, Nat.reduceLeDiff, Nat.reduceBEq, Nat.reduceBNe, Int.reduceNeg, Int.reduceLT, Int.reduceLE, Int.reduceAdd, Int.reduceSub, Int.reduceToNat, Int.reduceEq, Int.reduceBEq, reduceCtorEq, Int.reduceBNe])
  refine stop_call (hN _) ?_ ?_
  · first | trivial | (simp only [go_sem, Nat.reduceEqDiff, ↓reduceIte, reduceIte, Nat.reduceAdd, Nat.reduceMul, Nat.reduceSub, Nat.reduceLeDiff, Nat.reduceBEq, Nat.reduceBNe, Int.reduceNeg, Int.reduceLT, Int.reduceLE, Int.reduceAdd, Int.reduceSub, Int.reduceToNat, Int.reduceEq, Int.reduceBEq, reduceCtorEq, Int.reduceBNe]; done)
  repeat (first
    | with_reducible refine W_seq fun K hK => ?_
    | (with_reducible refine hK _ ?_); clear hK K
    | (with_reducible refine W_skipK hK ?_); clear hK K
    | (with_reducible refine W_condT ?_ ?_); (· rfl)
    | (with_reducible refine W_condF ?_ ?_); (· rfl)
    | with_reducible refine W_block ?_
    | clear hK K; (with_reducible refine hK _ ?_); clear hK K
    | clear hK K; clear hK K; (with_reducible refine hK _ ?_); clear hK K
    | clear hK K; clear hK K; clear hK K; (with_reducible refine hK _ ?_); clear hK K
    | (with_reducible refine And.intro ?_ ?_); (· first | omega | decide)
    | (try first | ((with_reducible refine W_reg ?_ ?_); (· rfl)) | (with_reducible refine W_exit ?_) | (with_reducible refine W_ret ?_)); simp only [go_sem, Nat.reduceEqDiff, ↓reduceIte, reduceIte, Nat.reduceAdd, Nat.reduceMul, Nat.reduceSub, Nat.reduceLeDiff, Nat.reduceBEq, Nat.reduceBNe, Int.reduceNeg, Int.reduceLT, Int.reduceLE, Int.reduceAdd, Int.reduceSub, Int.reduceToNat, Int.reduceEq, Int.reduceBEq, reduceCtorEq, Int.reduceBNe, f1, f2])
  refine W_loop ?_
  refine WL_nat (P := Try.prog) (fun m q => ∃ j : Nat, m = 40 - j ∧ j ≤ 40 ∧ CInv id h who ops j (j : Int) q) (fun m q hI => ?_) _ _
    ⟨0, rfl, by omega, 0, false, Cm.zero, 0, by omega, rfl, rfl, rfl, rfl, rfl, rfl, rfl, rfl, by simp, by simp only [go_sem, Nat.reduceEqDiff, ↓reduceIte, reduceIte, Nat.reduceAdd, Nat.reduceMul, Nat.reduceSub, Nat.reduceLeDiff, Nat.reduceBEq, Nat.reduceBNe, Int.reduceNeg, Int.reduceLT, Int.reduceLE, Int.reduceAdd, Int.reduceSub, Int.reduceToNat, Int.reduceEq, Int.reduceBEq, reduceCtorEq, Int.reduceBNe]; rfl, by simp only [go_sem, Nat.reduceEqDiff, ↓reduceIte, reduceIte, Nat.reduceAdd, Nat.reduceMul, Nat.reduceSub, Nat.reduceLeDiff, Nat.reduceBEq, Nat.reduceBNe, Int.reduceNeg, Int.reduceLT, Int.reduceLE, Int.reduceAdd, Int.reduceSub, Int.reduceToNat, Int.reduceEq, Int.reduceBEq, reduceCtorEq, Int.reduceBNe]; rfl, by repeat (first | exact HLe.refl _ | refine HLe.fresh ?_ (hfr [_, _]) | refine HLe.fresh ?_ (hfr [_, _, _, _]))⟩
  obtain ⟨j, rfl, hj, seq, busy, last, hint, hsq, h0, h1, h6, h7, h8, h9, h10, h11, ht, hB, hL, hle⟩ := hI
  obtain ⟨tm, hh, tt⟩ := q
  simp only at h0 h1 h6 h7 h8 h9 h10 h11 ht hB hL hle
  by_cases c1 : j < (sqL ops).length
  · have g1 : decide ((j : Int) < ((sqL ops).length : Int)) = true := by simp; omega
    by_cases c2 : j < 40
    · have g2 : decide ((j : Int) < 40) = true := by simp; omega
      have e6 : IntKind.i64.wrap ((j : Int) + 1) = ((j + 1 : Nat) : Int) := by rw [wrap_i64 (by omega)]; omega
      have hx : ((sqL ops).flatMap Opr.enc).drop (j * 21) = Opr.enc (sqL ops)[j] ++ ((sqL ops).drop (j + 1)).flatMap Opr.enc := flatMap_at Opr.enc_len (sqL ops) j c1
      generalize (sqL ops)[j] = y at *
      refine W_seq fun K hK => ?_
      refine W_seq fun K2 hK2 => ?_
      refine W_reg rfl ?_
      simp only [go_sem, Nat.reduceEqDiff, ↓reduceIte, reduceIte, Nat.reduceAdd, Nat.reduceMul, Nat.reduceSub, Nat.reduceLeDiff, Nat.reduceBEq, Nat.reduceBNe, Int.reduceNeg, Int.reduceLT, Int.reduceLE, Int.reduceAdd, Int.reduceSub, Int.reduceToNat, Int.reduceEq, Int.reduceBEq, reduceCtorEq, Int.reduceBNe, h0, h1, h6, h7, h8, h9, h10, h11, g1, g2]
      refine hK2 _ ?_; clear hK2 K2
      refine W_condT rfl ?_
      refine W_skip (hK _ ?_); clear hK K
      refine W_seq fun K1 hK1 => ?_
      have hT1 : ∀ q : SSt, CInv id h who ops (j + 1) (j : Int) q → K1 q := by
        rintro ⟨tm', h', t'⟩ ⟨seq, busy, last, hint, hsq, i0, i1, i6, i7, i8, i9, i10, i11, it, iB, iL, ile⟩
        refine hK1 _ ?_
        clear hK1
        simp only at i0 i1 i6 i7 i8 i9 i10 i11 it iB iL ile
        repeat (first
          | with_reducible refine W_seq fun K hK => ?_
          | (with_reducible refine hK _ ?_); clear hK K
          | (with_reducible refine W_skipK hK ?_); clear hK K
          | (with_reducible refine W_condT ?_ ?_); (· rfl)
          | (with_reducible refine W_condF ?_ ?_); (· rfl)
          | with_reducible refine W_block ?_
          | clear hK K; (with_reducible refine hK _ ?_); clear hK K
          | clear hK K; clear hK K; (with_reducible refine hK _ ?_); clear hK K
          | clear hK K; clear hK K; clear hK K; (with_reducible refine hK _ ?_); clear hK K
          | (with_reducible refine And.intro ?_ ?_); (· first | omega | decide)
          | (try first | ((with_reducible refine W_reg ?_ ?_); (· rfl)) | (with_reducible refine W_exit ?_) | (with_reducible refine W_ret ?_)); simp only [go_sem, Nat.reduceEqDiff, ↓reduceIte, reduceIte, Nat.reduceAdd, Nat.reduceMul, Nat.reduceSub, Nat.reduceLeDiff, Nat.reduceBEq, Nat.reduceBNe, Int.reduceNeg, Int.reduceLT, Int.reduceLE, Int.reduceAdd, Int.reduceSub, Int.reduceToNat, Int.reduceEq, Int.reduceBEq, reduceCtorEq, Int.reduceBNe, i11, e6])
        refine ⟨_, ?_, j + 1, rfl, by omega, seq, busy, last, hint, hsq, i0, i1, i6, i7, i8, i9, i10, rfl, by show 8 ≤ t' + 1; omega, iB, iL, ile⟩
        omega
      clear hK1
      refine W_block ?_
      repeat (first
        | with_reducible refine W_seq fun K hK => ?_
        | (with_reducible refine hK _ ?_); clear hK K
        | (with_reducible refine W_skipK hK ?_); clear hK K
        | (with_reducible refine W_condT ?_ ?_); (· rfl)
        | (with_reducible refine W_condF ?_ ?_); (· rfl)
        | with_reducible refine W_block ?_
        | clear hK K; (with_reducible refine hK _ ?_); clear hK K
        | clear hK K; clear hK K; (with_reducible refine hK _ ?_); clear hK K
        | clear hK K; clear hK K; clear hK K; (with_reducible refine hK _ ?_); clear hK K
        | (with_reducible refine And.intro ?_ ?_); (· first | omega | decide)
        | (try first | ((with_reducible refine W_reg ?_ ?_); (· rfl)) | (with_reducible refine W_exit ?_) | (with_reducible refine W_ret ?_)); simp only [go_sem, Nat.reduceEqDiff, ↓reduceIte, reduceIte, Nat.reduceAdd, Nat.reduceMul, Nat.reduceSub, Nat.reduceLeDiff, Nat.reduceBEq, Nat.reduceBNe, Int.reduceNeg, Int.reduceLT, Int.reduceLE, Int.reduceAdd, Int.reduceSub, Int.reduceToNat, Int.reduceEq, Int.reduceBEq, reduceCtorEq, Int.reduceBNe, h0, h1, h6, h7, h8, h9, h10, h11, hx, Opr.enc, strA])
      refine stop_call (cutStr_ok _ y.s 60) trivial ?_
      repeat (first
        | with_reducible refine W_seq fun K hK => ?_
        | (with_reducible refine hK _ ?_); clear hK K
        | (with_reducible refine W_skipK hK ?_); clear hK K
        | (with_reducible refine W_condT ?_ ?_); (· rfl)
        | (with_reducible refine W_condF ?_ ?_); (· rfl)
        | with_reducible refine W_block ?_
        | clear hK K; (with_reducible refine hK _ ?_); clear hK K
        | clear hK K; clear hK K; (with_reducible refine hK _ ?_); clear hK K
        | clear hK K; clear hK K; clear hK K; (with_reducible refine hK _ ?_); clear hK K
        | (with_reducible refine And.intro ?_ ?_); (· first | omega | decide)
        | (try first | ((with_reducible refine W_reg ?_ ?_); (· rfl)) | (with_reducible refine W_exit ?_) | (with_reducible refine W_ret ?_)); simp only [go_sem, Nat.reduceEqDiff, ↓reduceIte, reduceIte, Nat.reduceAdd, Nat.reduceMul, Nat.reduceSub, Nat.reduceLeDiff, Nat.reduceBEq, Nat.reduceBNe, Int.reduceNeg, Int.reduceLT, Int.reduceLE, Int.reduceAdd, Int.reduceSub, Int.reduceToNat, Int.reduceEq, Int.reduceBEq, reduceCtorEq, Int.reduceBNe, h0, h1, h6, h7, h8, h9, h10, h11, strA])
      have hT2 : ∀ q : SSt, CInv id h who ops (j + 1) (j : Int) q → K q := by
        rintro ⟨tm', h', t'⟩ ⟨seq, busy, last, hint, hsq, i0, i1, i6, i7, i8, i9, i10, i11, it, iB, iL, ile⟩
        refine hK _ ?_
        clear hK
        have hOp := fun id b => open_ok id b ⟨who, seq, busy, last, hint⟩
        have hHi := fun id b => hint_ok id b ⟨who, seq, busy, last, hint⟩
        have q1 : (!(busy == busy)) = false := by cases busy <;> rfl
        simp only at i0 i1 i6 i7 i8 i9 i10 i11 it iB iL ile
        repeat (first
          | with_reducible refine W_seq fun K hK => ?_
          | (with_reducible refine hK _ ?_); clear hK K
          | (with_reducible refine W_skipK hK ?_); clear hK K
          | (with_reducible refine W_condT ?_ ?_); (· rfl)
          | (with_reducible refine W_condF ?_ ?_); (· rfl)
          | with_reducible refine W_block ?_
          | clear hK K; (with_reducible refine hK _ ?_); clear hK K
          | clear hK K; clear hK K; (with_reducible refine hK _ ?_); clear hK K
          | clear hK K; clear hK K; clear hK K; (with_reducible refine hK _ ?_); clear hK K
          | (with_reducible refine And.intro ?_ ?_); (· first | omega | decide)
          | (try first | ((with_reducible refine W_reg ?_ ?_); (· rfl)) | (with_reducible refine W_exit ?_) | (with_reducible refine W_ret ?_)); simp only [go_sem, Nat.reduceEqDiff, ↓reduceIte, reduceIte, Nat.reduceAdd, Nat.reduceMul, Nat.reduceSub, Nat.reduceLeDiff, Nat.reduceBEq, Nat.reduceBNe, Int.reduceNeg, Int.reduceLT, Int.reduceLE, Int.reduceAdd, Int.reduceSub, Int.reduceToNat, Int.reduceEq, Int.reduceBEq, reduceCtorEq, Int.reduceBNe, i6])
        refine stop_call (hOp _ _) ?_ ?_
        · simp only [go_sem, Nat.reduceEqDiff, ↓reduceIte, reduceIte, Nat.reduceAdd, Nat.reduceMul, Nat.reduceSub, Nat.reduceLeDiff, Nat.reduceBEq, Nat.reduceBNe, Int.reduceNeg, Int.reduceLT, Int.reduceLE, Int.reduceAdd, Int.reduceSub, Int.reduceToNat, Int.reduceEq, Int.reduceBEq, reduceCtorEq, Int.reduceBNe, iB]
        repeat (first
          | with_reducible refine W_seq fun K hK => ?_
          | (with_reducible refine hK _ ?_); clear hK K
          | (with_reducible refine W_skipK hK ?_); clear hK K
          | (with_reducible refine W_condT ?_ ?_); (· rfl)
          | (with_reducible refine W_condF ?_ ?_); (· rfl)
          | with_reducible refine W_block ?_
          | clear hK K; (with_reducible refine hK _ ?_); clear hK K
          | clear hK K; clear hK K; (with_reducible refine hK _ ?_); clear hK K
          | clear hK K; clear hK K; clear hK K; (with_reducible refine hK _ ?_); clear hK K
          | (with_reducible refine And.intro ?_ ?_); (· first | omega | decide)
          | (try first | ((with_reducible refine W_reg ?_ ?_); (· rfl)) | (with_reducible refine W_exit ?_) | (with_reducible refine W_ret ?_)); simp only [go_sem, Nat.reduceEqDiff, ↓reduceIte, reduceIte, Nat.reduceAdd, Nat.reduceMul, Nat.reduceSub, Nat.reduceLeDiff, Nat.reduceBEq, Nat.reduceBNe, Int.reduceNeg, Int.reduceLT, Int.reduceLE, Int.reduceAdd, Int.reduceSub, Int.reduceToNat, Int.reduceEq, Int.reduceBEq, reduceCtorEq, Int.reduceBNe, i6, i8, q1])
        refine stop_call (hHi _ _) ?_ ?_
        · simp only [go_sem, Nat.reduceEqDiff, ↓reduceIte, reduceIte, Nat.reduceAdd, Nat.reduceMul, Nat.reduceSub, Nat.reduceLeDiff, Nat.reduceBEq, Nat.reduceBNe, Int.reduceNeg, Int.reduceLT, Int.reduceLE, Int.reduceAdd, Int.reduceSub, Int.reduceToNat, Int.reduceEq, Int.reduceBEq, reduceCtorEq, Int.reduceBNe, iB]
        repeat (first
          | with_reducible refine W_seq fun K hK => ?_
          | (with_reducible refine hK _ ?_); clear hK K
          | (with_reducible refine W_skipK hK ?_); clear hK K
          | (with_reducible refine W_condT ?_ ?_); (· rfl)
          | (with_reducible refine W_condF ?_ ?_); (· rfl)
          | with_reducible refine W_block ?_
          | clear hK K; (with_reducible refine hK _ ?_); clear hK K
          | clear hK K; clear hK K; (with_reducible refine hK _ ?_); clear hK K
          | clear hK K; clear hK K; clear hK K; (with_reducible refine hK _ ?_); clear hK K
          | (with_reducible refine And.intro ?_ ?_); (· first | omega | decide)
          | (try first | ((with_reducible refine W_reg ?_ ?_); (· rfl)) | (with_reducible refine W_exit ?_) | (with_reducible refine W_ret ?_)); simp only [go_sem, Nat.reduceEqDiff, ↓reduceIte, reduceIte, Nat.reduceAdd, Nat.reduceMul, Nat.reduceSub, Nat.reduceLeDiff, Nat.reduceBEq, Nat.reduceBNe, Int.reduceNeg, Int.reduceLT, Int.reduceLE, Int.reduceAdd, Int.reduceSub, Int.reduceToNat, Int.reduceEq, Int.reduceBEq, reduceCtorEq, Int.reduceBNe, i9, bne_self_eq_false])
        refine W_skip (hT1 _ ⟨seq, busy, last, hint, hsq, i0, i1, i6, i7, i8, i9, i10, i11, by show 8 ≤ t' + 1; omega, iB, iL, ile⟩)
      clear hK
      have w7 : IntKind.i64.wrap ((seq : Int) + 1) = ((seq + 1 : Nat) : Int) := by rw [wrap_i64 (by omega)]; omega
      by_cases k0 : y.k = 0
      · have fk : (y.k == 0) = true := by simpa using k0
        have hC := fun id b => call_ok id b ⟨who, seq, busy, last, hint⟩ y.n (y.s.take 60) (by simp; omega)
        have hM := fun id => may2_ok id ⟨y.n, who, ((seq + 1 : Nat) : Int), y.s.take 60⟩
        simp only [Cm.enc, strA] at hM
        cases hbu : busy with
        | true =>
          subst hbu
          have hG : callC ⟨who, seq, true, last, hint⟩ y.n (y.s.take 60) = ((Cm.zero, 13), ⟨who, seq, true, last, hint⟩) := rfl
          rw [hG] at hC
          simp only [Cm.enc, Cm.zero, strA] at hC
          repeat (first
            | with_reducible refine W_seq fun K hK => ?_
            | (with_reducible refine hK _ ?_); clear hK K
            | (with_reducible refine W_skipK hK ?_); clear hK K
            | (with_reducible refine W_condT ?_ ?_); (· rfl)
            | (with_reducible refine W_condF ?_ ?_); (· rfl)
            | with_reducible refine W_block ?_
            | clear hK K; (with_reducible refine hK _ ?_); clear hK K
            | clear hK K; clear hK K; (with_reducible refine hK _ ?_); clear hK K
            | clear hK K; clear hK K; clear hK K; (with_reducible refine hK _ ?_); clear hK K
            | (with_reducible refine And.intro ?_ ?_); (· first | omega | decide)
            | (try first | ((with_reducible refine W_reg ?_ ?_); (· rfl)) | (with_reducible refine W_exit ?_) | (with_reducible refine W_ret ?_)); simp only [go_sem, Nat.reduceEqDiff, ↓reduceIte, reduceIte, Nat.reduceAdd, Nat.reduceMul, Nat.reduceSub, Nat.reduceLeDiff, Nat.reduceBEq, Nat.reduceBNe, Int.reduceNeg, Int.reduceLT, Int.reduceLE, Int.reduceAdd, Int.reduceSub, Int.reduceToNat, Int.reduceEq, Int.reduceBEq, reduceCtorEq, Int.reduceBNe, h0, h1, h6, h7, h8, h9, h10, h11, fk])
          refine stop_call (hC _ _) ?_ ?_
          · simp only [go_sem, Nat.reduceEqDiff, ↓reduceIte, reduceIte, Nat.reduceAdd, Nat.reduceMul, Nat.reduceSub, Nat.reduceLeDiff, Nat.reduceBEq, Nat.reduceBNe, Int.reduceNeg, Int.reduceLT, Int.reduceLE, Int.reduceAdd, Int.reduceSub, Int.reduceToNat, Int.reduceEq, Int.reduceBEq, reduceCtorEq, Int.reduceBNe, hB]
          repeat (first
            | with_reducible refine W_seq fun K hK => ?_
            | (with_reducible refine hK _ ?_); clear hK K
            | (with_reducible refine W_skipK hK ?_); clear hK K
            | (with_reducible refine W_condT ?_ ?_); (· rfl)
            | (with_reducible refine W_condF ?_ ?_); (· rfl)
            | with_reducible refine W_block ?_
            | clear hK K; (with_reducible refine hK _ ?_); clear hK K
            | clear hK K; clear hK K; (with_reducible refine hK _ ?_); clear hK K
            | clear hK K; clear hK K; clear hK K; (with_reducible refine hK _ ?_); clear hK K
            | (with_reducible refine And.intro ?_ ?_); (· first | omega | decide)
            | (try first | ((with_reducible refine W_reg ?_ ?_); (· rfl)) | (with_reducible refine W_exit ?_) | (with_reducible refine W_ret ?_)); simp only [go_sem, Nat.reduceEqDiff, ↓reduceIte, reduceIte, Nat.reduceAdd, Nat.reduceMul, Nat.reduceSub, Nat.reduceLeDiff, Nat.reduceBEq, Nat.reduceBNe, Int.reduceNeg, Int.reduceLT, Int.reduceLE, Int.reduceAdd, Int.reduceSub, Int.reduceToNat, Int.reduceEq, Int.reduceBEq, reduceCtorEq, Int.reduceBNe, h0, h1, h6, h7, h8, h9, h10, h11, w7])
          refine W_skip ?_
          exact hT2 _ ⟨seq, true, last, hint, by omega, h0, h1, h6, by exact h7, by exact h8, by exact h9, h10, h11, Nat.le_trans ht (by simp <;> omega), by simp only [go_sem, Nat.reduceEqDiff, ↓reduceIte, reduceIte, Nat.reduceAdd, Nat.reduceMul, Nat.reduceSub, Nat.reduceLeDiff, Nat.reduceBEq, Nat.reduceBNe, Int.reduceNeg, Int.reduceLT, Int.reduceLE, Int.reduceAdd, Int.reduceSub, Int.reduceToNat, Int.reduceEq, Int.reduceBEq, reduceCtorEq, Int.reduceBNe, hB, Cl.enc, strA, Cm.enc], by simp only [go_sem, Nat.reduceEqDiff, ↓reduceIte, reduceIte, Nat.reduceAdd, Nat.reduceMul, Nat.reduceSub, Nat.reduceLeDiff, Nat.reduceBEq, Nat.reduceBNe, Int.reduceNeg, Int.reduceLT, Int.reduceLE, Int.reduceAdd, Int.reduceSub, Int.reduceToNat, Int.reduceEq, Int.reduceBEq, reduceCtorEq, Int.reduceBNe, hL, Cm.enc, strA], (by repeat (first | exact hle | refine HLe.fresh ?_ (hfr [_, _]) | refine HLe.fresh ?_ (hfr [_, _, _, _])))⟩
        | false =>
          subst hbu
          cases hm : mayL ⟨y.n, who, ((seq + 1 : Nat) : Int), y.s.take 60⟩ with
          | false =>
            have hG : callC ⟨who, seq, false, last, hint⟩ y.n (y.s.take 60) = ((Cm.zero, 3), ⟨who, seq, false, last, hint⟩) := by
              unfold callC
              simp only [Bool.false_eq_true, if_false]
              rw [if_neg (by rw [Int.natCast_add] at hm; rw [show ((1 : Nat) : Int) = 1 from rfl] at hm; rw [hm]; simp)]
            rw [hG] at hC
            simp only [Cm.enc, Cm.zero, strA] at hC
            repeat (first
              | with_reducible refine W_seq fun K hK => ?_
              | (with_reducible refine hK _ ?_); clear hK K
              | (with_reducible refine W_skipK hK ?_); clear hK K
              | (with_reducible refine W_condT ?_ ?_); (· rfl)
              | (with_reducible refine W_condF ?_ ?_); (· rfl)
              | with_reducible refine W_block ?_
              | clear hK K; (with_reducible refine hK _ ?_); clear hK K
              | clear hK K; clear hK K; (with_reducible refine hK _ ?_); clear hK K
              | clear hK K; clear hK K; clear hK K; (with_reducible refine hK _ ?_); clear hK K
              | (with_reducible refine And.intro ?_ ?_); (· first | omega | decide)
              | (try first | ((with_reducible refine W_reg ?_ ?_); (· rfl)) | (with_reducible refine W_exit ?_) | (with_reducible refine W_ret ?_)); simp only [go_sem, Nat.reduceEqDiff, ↓reduceIte, reduceIte, Nat.reduceAdd, Nat.reduceMul, Nat.reduceSub, Nat.reduceLeDiff, Nat.reduceBEq, Nat.reduceBNe, Int.reduceNeg, Int.reduceLT, Int.reduceLE, Int.reduceAdd, Int.reduceSub, Int.reduceToNat, Int.reduceEq, Int.reduceBEq, reduceCtorEq, Int.reduceBNe, h0, h1, h6, h7, h8, h9, h10, h11, fk])
            refine stop_call (hC _ _) ?_ ?_
            · simp only [go_sem, Nat.reduceEqDiff, ↓reduceIte, reduceIte, Nat.reduceAdd, Nat.reduceMul, Nat.reduceSub, Nat.reduceLeDiff, Nat.reduceBEq, Nat.reduceBNe, Int.reduceNeg, Int.reduceLT, Int.reduceLE, Int.reduceAdd, Int.reduceSub, Int.reduceToNat, Int.reduceEq, Int.reduceBEq, reduceCtorEq, Int.reduceBNe, hB]
            repeat (first
              | with_reducible refine W_seq fun K hK => ?_
              | (with_reducible refine hK _ ?_); clear hK K
              | (with_reducible refine W_skipK hK ?_); clear hK K
              | (with_reducible refine W_condT ?_ ?_); (· rfl)
              | (with_reducible refine W_condF ?_ ?_); (· rfl)
              | with_reducible refine W_block ?_
              | clear hK K; (with_reducible refine hK _ ?_); clear hK K
              | clear hK K; clear hK K; (with_reducible refine hK _ ?_); clear hK K
              | clear hK K; clear hK K; clear hK K; (with_reducible refine hK _ ?_); clear hK K
              | (with_reducible refine And.intro ?_ ?_); (· first | omega | decide)
              | (try first | ((with_reducible refine W_reg ?_ ?_); (· rfl)) | (with_reducible refine W_exit ?_) | (with_reducible refine W_ret ?_)); simp only [go_sem, Nat.reduceEqDiff, ↓reduceIte, reduceIte, Nat.reduceAdd, Nat.reduceMul, Nat.reduceSub, Nat.reduceLeDiff, Nat.reduceBEq, Nat.reduceBNe, Int.reduceNeg, Int.reduceLT, Int.reduceLE, Int.reduceAdd, Int.reduceSub, Int.reduceToNat, Int.reduceEq, Int.reduceBEq, reduceCtorEq, Int.reduceBNe, h0, h1, h6, h7, h8, h9, h10, h11, w7])
            refine stop_call (hM _) trivial ?_
            repeat (first
              | with_reducible refine W_seq fun K hK => ?_
              | (with_reducible refine hK _ ?_); clear hK K
              | (with_reducible refine W_skipK hK ?_); clear hK K
              | (with_reducible refine W_condT ?_ ?_); (· rfl)
              | (with_reducible refine W_condF ?_ ?_); (· rfl)
              | with_reducible refine W_block ?_
              | clear hK K; (with_reducible refine hK _ ?_); clear hK K
              | clear hK K; clear hK K; (with_reducible refine hK _ ?_); clear hK K
              | clear hK K; clear hK K; clear hK K; (with_reducible refine hK _ ?_); clear hK K
              | (with_reducible refine And.intro ?_ ?_); (· first | omega | decide)
              | (try first | ((with_reducible refine W_reg ?_ ?_); (· rfl)) | (with_reducible refine W_exit ?_) | (with_reducible refine W_ret ?_)); simp only [go_sem, Nat.reduceEqDiff, ↓reduceIte, reduceIte, Nat.reduceAdd, Nat.reduceMul, Nat.reduceSub, Nat.reduceLeDiff, Nat.reduceBEq, Nat.reduceBNe, Int.reduceNeg, Int.reduceLT, Int.reduceLE, Int.reduceAdd, Int.reduceSub, Int.reduceToNat, Int.reduceEq, Int.reduceBEq, reduceCtorEq, Int.reduceBNe, h0, h1, h6, h7, h8, h9, h10, h11, hm])
            refine W_skip ?_
            exact hT2 _ ⟨seq, false, last, hint, by omega, h0, h1, h6, by exact h7, by exact h8, by exact h9, h10, h11, Nat.le_trans ht (by simp <;> omega), by simp only [go_sem, Nat.reduceEqDiff, ↓reduceIte, reduceIte, Nat.reduceAdd, Nat.reduceMul, Nat.reduceSub, Nat.reduceLeDiff, Nat.reduceBEq, Nat.reduceBNe, Int.reduceNeg, Int.reduceLT, Int.reduceLE, Int.reduceAdd, Int.reduceSub, Int.reduceToNat, Int.reduceEq, Int.reduceBEq, reduceCtorEq, Int.reduceBNe, hB, Cl.enc, strA, Cm.enc], by simp only [go_sem, Nat.reduceEqDiff, ↓reduceIte, reduceIte, Nat.reduceAdd, Nat.reduceMul, Nat.reduceSub, Nat.reduceLeDiff, Nat.reduceBEq, Nat.reduceBNe, Int.reduceNeg, Int.reduceLT, Int.reduceLE, Int.reduceAdd, Int.reduceSub, Int.reduceToNat, Int.reduceEq, Int.reduceBEq, reduceCtorEq, Int.reduceBNe, hL, Cm.enc, strA], (by repeat (first | exact hle | refine HLe.fresh ?_ (hfr [_, _]) | refine HLe.fresh ?_ (hfr [_, _, _, _])))⟩
          | true =>
            have hG : callC ⟨who, seq, false, last, hint⟩ y.n (y.s.take 60) = ((⟨y.n, who, ((seq + 1 : Nat) : Int), y.s.take 60⟩, 0), ⟨who, ((seq + 1 : Nat) : Int), true, ⟨y.n, who, ((seq + 1 : Nat) : Int), y.s.take 60⟩, hint⟩) := by
              unfold callC
              simp only [Bool.false_eq_true, if_false]
              rw [if_pos (by rw [Int.natCast_add] at hm; exact hm)]
              rfl
            have q2 : (y.s.take 60 == y.s.take 60) = true := beq_self_eq_true _
            rw [hG] at hC
            simp only [Cm.enc, strA] at hC
            repeat (first
              | with_reducible refine W_seq fun K hK => ?_
              | (with_reducible refine hK _ ?_); clear hK K
              | (with_reducible refine W_skipK hK ?_); clear hK K
              | (with_reducible refine W_condT ?_ ?_); (· rfl)
              | (with_reducible refine W_condF ?_ ?_); (· rfl)
              | with_reducible refine W_block ?_
              | clear hK K; (with_reducible refine hK _ ?_); clear hK K
              | clear hK K; clear hK K; (with_reducible refine hK _ ?_); clear hK K
              | clear hK K; clear hK K; clear hK K; (with_reducible refine hK _ ?_); clear hK K
              | (with_reducible refine And.intro ?_ ?_); (· first | omega | decide)
              | (try first | ((with_reducible refine W_reg ?_ ?_); (· rfl)) | (with_reducible refine W_exit ?_) | (with_reducible refine W_ret ?_)); simp only [go_sem, Nat.reduceEqDiff, ↓reduceIte, reduceIte, Nat.reduceAdd, Nat.reduceMul, Nat.reduceSub, Nat.reduceLeDiff, Nat.reduceBEq, Nat.reduceBNe, Int.reduceNeg, Int.reduceLT, Int.reduceLE, Int.reduceAdd, Int.reduceSub, Int.reduceToNat, Int.reduceEq, Int.reduceBEq, reduceCtorEq, Int.reduceBNe, h0, h1, h6, h7, h8, h9, h10, h11, fk])
            refine stop_call (hC _ _) ?_ ?_
            · simp only [go_sem, Nat.reduceEqDiff, ↓reduceIte, reduceIte, Nat.reduceAdd, Nat.reduceMul, Nat.reduceSub, Nat.reduceLeDiff, Nat.reduceBEq, Nat.reduceBNe, Int.reduceNeg, Int.reduceLT, Int.reduceLE, Int.reduceAdd, Int.reduceSub, Int.reduceToNat, Int.reduceEq, Int.reduceBEq, reduceCtorEq, Int.reduceBNe, hB]
            repeat (first
              | with_reducible refine W_seq fun K hK => ?_
              | (with_reducible refine hK _ ?_); clear hK K
              | (with_reducible refine W_skipK hK ?_); clear hK K
              | (with_reducible refine W_condT ?_ ?_); (· rfl)
              | (with_reducible refine W_condF ?_ ?_); (· rfl)
              | with_reducible refine W_block ?_
              | clear hK K; (with_reducible refine hK _ ?_); clear hK K
              | clear hK K; clear hK K; (with_reducible refine hK _ ?_); clear hK K
              | clear hK K; clear hK K; clear hK K; (with_reducible refine hK _ ?_); clear hK K
              | (with_reducible refine And.intro ?_ ?_); (· first | omega | decide)
              | (try first | ((with_reducible refine W_reg ?_ ?_); (· rfl)) | (with_reducible refine W_exit ?_) | (with_reducible refine W_ret ?_)); simp only [go_sem, Nat.reduceEqDiff, ↓reduceIte, reduceIte, Nat.reduceAdd, Nat.reduceMul, Nat.reduceSub, Nat.reduceLeDiff, Nat.reduceBEq, Nat.reduceBNe, Int.reduceNeg, Int.reduceLT, Int.reduceLE, Int.reduceAdd, Int.reduceSub, Int.reduceToNat, Int.reduceEq, Int.reduceBEq, reduceCtorEq, Int.reduceBNe, h0, h1, h6, h7, h8, h9, h10, h11, w7])
            refine stop_call (hM _) trivial ?_
            repeat (first
              | with_reducible refine W_seq fun K hK => ?_
              | (with_reducible refine hK _ ?_); clear hK K
              | (with_reducible refine W_skipK hK ?_); clear hK K
              | (with_reducible refine W_condT ?_ ?_); (· rfl)
              | (with_reducible refine W_condF ?_ ?_); (· rfl)
              | with_reducible refine W_block ?_
              | clear hK K; (with_reducible refine hK _ ?_); clear hK K
              | clear hK K; clear hK K; (with_reducible refine hK _ ?_); clear hK K
              | clear hK K; clear hK K; clear hK K; (with_reducible refine hK _ ?_); clear hK K
              | (with_reducible refine And.intro ?_ ?_); (· first | omega | decide)
              | (try first | ((with_reducible refine W_reg ?_ ?_); (· rfl)) | (with_reducible refine W_exit ?_) | (with_reducible refine W_ret ?_)); simp only [go_sem, Nat.reduceEqDiff, ↓reduceIte, reduceIte, Nat.reduceAdd, Nat.reduceMul, Nat.reduceSub, Nat.reduceLeDiff, Nat.reduceBEq, Nat.reduceBNe, Int.reduceNeg, Int.reduceLT, Int.reduceLE, Int.reduceAdd, Int.reduceSub, Int.reduceToNat, Int.reduceEq, Int.reduceBEq, reduceCtorEq, Int.reduceBNe, h0, h1, h6, h7, h8, h9, h10, h11, hm, bne_self_eq_false, bytes_eq, q2])
            refine W_drw [[], [0], [], [0, 1], [0, 1, 3], [0, 1, 2, 3, 4]] follows_mixed (by rfl) (by rfl) ?_
            simp only [Cm.enc, strA] at hL
            repeat (first
              | with_reducible refine W_seq fun K hK => ?_
              | (with_reducible refine hK _ ?_); clear hK K
              | (with_reducible refine W_skipK hK ?_); clear hK K
              | (with_reducible refine W_condT ?_ ?_); (· rfl)
              | (with_reducible refine W_condF ?_ ?_); (· rfl)
              | with_reducible refine W_block ?_
              | clear hK K; (with_reducible refine hK _ ?_); clear hK K
              | clear hK K; clear hK K; (with_reducible refine hK _ ?_); clear hK K
              | clear hK K; clear hK K; clear hK K; (with_reducible refine hK _ ?_); clear hK K
              | (with_reducible refine And.intro ?_ ?_); (· first | omega | decide)
              | (try first | ((with_reducible refine W_reg ?_ ?_); (· rfl)) | (with_reducible refine W_exit ?_) | (with_reducible refine W_ret ?_)); simp only [go_sem, Nat.reduceEqDiff, ↓reduceIte, reduceIte, Nat.reduceAdd, Nat.reduceMul, Nat.reduceSub, Nat.reduceLeDiff, Nat.reduceBEq, Nat.reduceBNe, Int.reduceNeg, Int.reduceLT, Int.reduceLE, Int.reduceAdd, Int.reduceSub, Int.reduceToNat, Int.reduceEq, Int.reduceBEq, reduceCtorEq, Int.reduceBNe, h0, h1, h6, h7, h8, h9, h10, h11, w7, hL])
            exact hT2 _ ⟨seq + 1, true, ⟨y.n, who, ((seq + 1 : Nat) : Int), y.s.take 60⟩, hint, by omega, h0, h1, h6, by rfl, by rfl, by exact h9, h10, h11, Nat.le_trans ht (by simp <;> omega), by simp only [go_sem, Nat.reduceEqDiff, ↓reduceIte, reduceIte, Nat.reduceAdd, Nat.reduceMul, Nat.reduceSub, Nat.reduceLeDiff, Nat.reduceBEq, Nat.reduceBNe, Int.reduceNeg, Int.reduceLT, Int.reduceLE, Int.reduceAdd, Int.reduceSub, Int.reduceToNat, Int.reduceEq, Int.reduceBEq, reduceCtorEq, Int.reduceBNe, hB, Cl.enc, strA, Cm.enc], by simp only [go_sem, Nat.reduceEqDiff, ↓reduceIte, reduceIte, Nat.reduceAdd, Nat.reduceMul, Nat.reduceSub, Nat.reduceLeDiff, Nat.reduceBEq, Nat.reduceBNe, Int.reduceNeg, Int.reduceLT, Int.reduceLE, Int.reduceAdd, Int.reduceSub, Int.reduceToNat, Int.reduceEq, Int.reduceBEq, reduceCtorEq, Int.reduceBNe, hL, Cm.enc, strA], (by repeat (first | exact hle | refine HLe.fresh ?_ (hfr [_, _]) | refine HLe.fresh ?_ (hfr [_, _, _, _])))⟩
      have fk : (y.k == 0) = false := by simpa using k0
      by_cases k1 : y.k = 1
      · have fk1 : (y.k == 1) = true := by simpa using k1
        have hA := fun id b => ask_ok id b ⟨who, seq, busy, last, hint⟩ y.n hw
        cases hbu : busy with
        | false =>
          subst hbu
          have hG : askC ⟨who, seq, false, last, hint⟩ y.n = (Mg.zero, false) := by unfold askC; rw [if_neg (by simp)]
          rw [hG] at hA
          simp only [Mg.enc, Mg.zero, sq_none] at hA
          repeat (first
            | with_reducible refine W_seq fun K hK => ?_
            | (with_reducible refine hK _ ?_); clear hK K
            | (with_reducible refine W_skipK hK ?_); clear hK K
            | (with_reducible refine W_condT ?_ ?_); (· rfl)
            | (with_reducible refine W_condF ?_ ?_); (· rfl)
            | with_reducible refine W_block ?_
            | clear hK K; (with_reducible refine hK _ ?_); clear hK K
            | clear hK K; clear hK K; (with_reducible refine hK _ ?_); clear hK K
            | clear hK K; clear hK K; clear hK K; (with_reducible refine hK _ ?_); clear hK K
            | (with_reducible refine And.intro ?_ ?_); (· first | omega | decide)
            | (try first | ((with_reducible refine W_reg ?_ ?_); (· rfl)) | (with_reducible refine W_exit ?_) | (with_reducible refine W_ret ?_)); simp only [go_sem, Nat.reduceEqDiff, ↓reduceIte, reduceIte, Nat.reduceAdd, Nat.reduceMul, Nat.reduceSub, Nat.reduceLeDiff, Nat.reduceBEq, Nat.reduceBNe, Int.reduceNeg, Int.reduceLT, Int.reduceLE, Int.reduceAdd, Int.reduceSub, Int.reduceToNat, Int.reduceEq, Int.reduceBEq, reduceCtorEq, Int.reduceBNe, h0, h1, h6, h7, h8, h9, h10, h11, fk, fk1])
          refine stop_call (hA _ _) ?_ ?_
          · simp only [go_sem, Nat.reduceEqDiff, ↓reduceIte, reduceIte, Nat.reduceAdd, Nat.reduceMul, Nat.reduceSub, Nat.reduceLeDiff, Nat.reduceBEq, Nat.reduceBNe, Int.reduceNeg, Int.reduceLT, Int.reduceLE, Int.reduceAdd, Int.reduceSub, Int.reduceToNat, Int.reduceEq, Int.reduceBEq, reduceCtorEq, Int.reduceBNe, hB]
          repeat (first
            | with_reducible refine W_seq fun K hK => ?_
            | (with_reducible refine hK _ ?_); clear hK K
            | (with_reducible refine W_skipK hK ?_); clear hK K
            | (with_reducible refine W_condT ?_ ?_); (· rfl)
            | (with_reducible refine W_condF ?_ ?_); (· rfl)
            | with_reducible refine W_block ?_
            | clear hK K; (with_reducible refine hK _ ?_); clear hK K
            | clear hK K; clear hK K; (with_reducible refine hK _ ?_); clear hK K
            | clear hK K; clear hK K; clear hK K; (with_reducible refine hK _ ?_); clear hK K
            | (with_reducible refine And.intro ?_ ?_); (· first | omega | decide)
            | (try first | ((with_reducible refine W_reg ?_ ?_); (· rfl)) | (with_reducible refine W_exit ?_) | (with_reducible refine W_ret ?_)); simp only [go_sem, Nat.reduceEqDiff, ↓reduceIte, reduceIte, Nat.reduceAdd, Nat.reduceMul, Nat.reduceSub, Nat.reduceLeDiff, Nat.reduceBEq, Nat.reduceBNe, Int.reduceNeg, Int.reduceLT, Int.reduceLE, Int.reduceAdd, Int.reduceSub, Int.reduceToNat, Int.reduceEq, Int.reduceBEq, reduceCtorEq, Int.reduceBNe, h0, h1, h6, h7, h8, h9, h10, h11])
          refine W_skip ?_
          exact hT2 _ ⟨seq, false, last, hint, by omega, h0, h1, h6, by exact h7, by exact h8, by exact h9, h10, h11, Nat.le_trans ht (by simp <;> omega), by simp only [go_sem, Nat.reduceEqDiff, ↓reduceIte, reduceIte, Nat.reduceAdd, Nat.reduceMul, Nat.reduceSub, Nat.reduceLeDiff, Nat.reduceBEq, Nat.reduceBNe, Int.reduceNeg, Int.reduceLT, Int.reduceLE, Int.reduceAdd, Int.reduceSub, Int.reduceToNat, Int.reduceEq, Int.reduceBEq, reduceCtorEq, Int.reduceBNe, hB, Cl.enc, strA, Cm.enc], by simp only [go_sem, Nat.reduceEqDiff, ↓reduceIte, reduceIte, Nat.reduceAdd, Nat.reduceMul, Nat.reduceSub, Nat.reduceLeDiff, Nat.reduceBEq, Nat.reduceBNe, Int.reduceNeg, Int.reduceLT, Int.reduceLE, Int.reduceAdd, Int.reduceSub, Int.reduceToNat, Int.reduceEq, Int.reduceBEq, reduceCtorEq, Int.reduceBNe, hL, Cm.enc, strA], (by repeat (first | exact hle | refine HLe.fresh ?_ (hfr [_, _]) | refine HLe.fresh ?_ (hfr [_, _, _, _])))⟩

        | true =>
          subst hbu
          by_cases c3 : y.n < 1
          · have f3 : decide (y.n ≥ 1) = false := by simp; omega
            have hG : askC ⟨who, seq, true, last, hint⟩ y.n = (Mg.zero, false) := by unfold askC; rw [if_neg (by omega)]
            rw [hG] at hA
            simp only [Mg.enc, Mg.zero, sq_none] at hA
            repeat (first
              | with_reducible refine W_seq fun K hK => ?_
              | (with_reducible refine hK _ ?_); clear hK K
              | (with_reducible refine W_skipK hK ?_); clear hK K
              | (with_reducible refine W_condT ?_ ?_); (· rfl)
              | (with_reducible refine W_condF ?_ ?_); (· rfl)
              | with_reducible refine W_block ?_
              | clear hK K; (with_reducible refine hK _ ?_); clear hK K
              | clear hK K; clear hK K; (with_reducible refine hK _ ?_); clear hK K
              | clear hK K; clear hK K; clear hK K; (with_reducible refine hK _ ?_); clear hK K
              | (with_reducible refine And.intro ?_ ?_); (· first | omega | decide)
              | (try first | ((with_reducible refine W_reg ?_ ?_); (· rfl)) | (with_reducible refine W_exit ?_) | (with_reducible refine W_ret ?_)); simp only [go_sem, Nat.reduceEqDiff, ↓reduceIte, reduceIte, Nat.reduceAdd, Nat.reduceMul, Nat.reduceSub, Nat.reduceLeDiff, Nat.reduceBEq, Nat.reduceBNe, Int.reduceNeg, Int.reduceLT, Int.reduceLE, Int.reduceAdd, Int.reduceSub, Int.reduceToNat, Int.reduceEq, Int.reduceBEq, reduceCtorEq, Int.reduceBNe, h0, h1, h6, h7, h8, h9, h10, h11, fk, fk1])
            refine stop_call (hA _ _) ?_ ?_
            · simp only [go_sem, Nat.reduceEqDiff, ↓reduceIte, reduceIte, Nat.reduceAdd, Nat.reduceMul, Nat.reduceSub, Nat.reduceLeDiff, Nat.reduceBEq, Nat.reduceBNe, Int.reduceNeg, Int.reduceLT, Int.reduceLE, Int.reduceAdd, Int.reduceSub, Int.reduceToNat, Int.reduceEq, Int.reduceBEq, reduceCtorEq, Int.reduceBNe, hB]
            repeat (first
              | with_reducible refine W_seq fun K hK => ?_
              | (with_reducible refine hK _ ?_); clear hK K
              | (with_reducible refine W_skipK hK ?_); clear hK K
              | (with_reducible refine W_condT ?_ ?_); (· rfl)
              | (with_reducible refine W_condF ?_ ?_); (· rfl)
              | with_reducible refine W_block ?_
              | clear hK K; (with_reducible refine hK _ ?_); clear hK K
              | clear hK K; clear hK K; (with_reducible refine hK _ ?_); clear hK K
              | clear hK K; clear hK K; clear hK K; (with_reducible refine hK _ ?_); clear hK K
              | (with_reducible refine And.intro ?_ ?_); (· first | omega | decide)
              | (try first | ((with_reducible refine W_reg ?_ ?_); (· rfl)) | (with_reducible refine W_exit ?_) | (with_reducible refine W_ret ?_)); simp only [go_sem, Nat.reduceEqDiff, ↓reduceIte, reduceIte, Nat.reduceAdd, Nat.reduceMul, Nat.reduceSub, Nat.reduceLeDiff, Nat.reduceBEq, Nat.reduceBNe, Int.reduceNeg, Int.reduceLT, Int.reduceLE, Int.reduceAdd, Int.reduceSub, Int.reduceToNat, Int.reduceEq, Int.reduceBEq, reduceCtorEq, Int.reduceBNe, h0, h1, h6, h7, h8, h9, h10, h11, f3])
            refine W_skip ?_
            exact hT2 _ ⟨seq, true, last, hint, by omega, h0, h1, h6, by exact h7, by exact h8, by exact h9, h10, h11, Nat.le_trans ht (by simp <;> omega), by simp only [go_sem, Nat.reduceEqDiff, ↓reduceIte, reduceIte, Nat.reduceAdd, Nat.reduceMul, Nat.reduceSub, Nat.reduceLeDiff, Nat.reduceBEq, Nat.reduceBNe, Int.reduceNeg, Int.reduceLT, Int.reduceLE, Int.reduceAdd, Int.reduceSub, Int.reduceToNat, Int.reduceEq, Int.reduceBEq, reduceCtorEq, Int.reduceBNe, hB, Cl.enc, strA, Cm.enc], by simp only [go_sem, Nat.reduceEqDiff, ↓reduceIte, reduceIte, Nat.reduceAdd, Nat.reduceMul, Nat.reduceSub, Nat.reduceLeDiff, Nat.reduceBEq, Nat.reduceBNe, Int.reduceNeg, Int.reduceLT, Int.reduceLE, Int.reduceAdd, Int.reduceSub, Int.reduceToNat, Int.reduceEq, Int.reduceBEq, reduceCtorEq, Int.reduceBNe, hL, Cm.enc, strA], (by repeat (first | exact hle | refine HLe.fresh ?_ (hfr [_, _]) | refine HLe.fresh ?_ (hfr [_, _, _, _])))⟩

          have f3 : decide (y.n ≥ 1) = true := by simp; omega
          by_cases c4 : y.n > 7
          · have f4 : decide (y.n ≤ 7) = false := by simp; omega
            have hG : askC ⟨who, seq, true, last, hint⟩ y.n = (Mg.zero, false) := by unfold askC; rw [if_neg (by omega)]
            rw [hG] at hA
            simp only [Mg.enc, Mg.zero, sq_none] at hA
            repeat (first
              | with_reducible refine W_seq fun K hK => ?_
              | (with_reducible refine hK _ ?_); clear hK K
              | (with_reducible refine W_skipK hK ?_); clear hK K
              | (with_reducible refine W_condT ?_ ?_); (· rfl)
              | (with_reducible refine W_condF ?_ ?_); (· rfl)
              | with_reducible refine W_block ?_
              | clear hK K; (with_reducible refine hK _ ?_); clear hK K
              | clear hK K; clear hK K; (with_reducible refine hK _ ?_); clear hK K
              | clear hK K; clear hK K; clear hK K; (with_reducible refine hK _ ?_); clear hK K
              | (with_reducible refine And.intro ?_ ?_); (· first | omega | decide)
              | (try first | ((with_reducible refine W_reg ?_ ?_); (· rfl)) | (with_reducible refine W_exit ?_) | (with_reducible refine W_ret ?_)); simp only [go_sem, Nat.reduceEqDiff, ↓reduceIte, reduceIte, Nat.reduceAdd, Nat.reduceMul, Nat.reduceSub, Nat.reduceLeDiff, Nat.reduceBEq, Nat.reduceBNe, Int.reduceNeg, Int.reduceLT, Int.reduceLE, Int.reduceAdd, Int.reduceSub, Int.reduceToNat, Int.reduceEq, Int.reduceBEq, reduceCtorEq, Int.reduceBNe, h0, h1, h6, h7, h8, h9, h10, h11, fk, fk1])
            refine stop_call (hA _ _) ?_ ?_
            · simp only [go_sem, Nat.reduceEqDiff, ↓reduceIte, reduceIte, Nat.reduceAdd, Nat.reduceMul, Nat.reduceSub, Nat.reduceLeDiff, Nat.reduceBEq, Nat.reduceBNe, Int.reduceNeg, Int.reduceLT, Int.reduceLE, Int.reduceAdd, Int.reduceSub, Int.reduceToNat, Int.reduceEq, Int.reduceBEq, reduceCtorEq, Int.reduceBNe, hB]
            repeat (first
              | with_reducible refine W_seq fun K hK => ?_
              | (with_reducible refine hK _ ?_); clear hK K
              | (with_reducible refine W_skipK hK ?_); clear hK K
              | (with_reducible refine W_condT ?_ ?_); (· rfl)
              | (with_reducible refine W_condF ?_ ?_); (· rfl)
              | with_reducible refine W_block ?_
              | clear hK K; (with_reducible refine hK _ ?_); clear hK K
              | clear hK K; clear hK K; (with_reducible refine hK _ ?_); clear hK K
              | clear hK K; clear hK K; clear hK K; (with_reducible refine hK _ ?_); clear hK K
              | (with_reducible refine And.intro ?_ ?_); (· first | omega | decide)
              | (try first | ((with_reducible refine W_reg ?_ ?_); (· rfl)) | (with_reducible refine W_exit ?_) | (with_reducible refine W_ret ?_)); simp only [go_sem, Nat.reduceEqDiff, ↓reduceIte, reduceIte, Nat.reduceAdd, Nat.reduceMul, Nat.reduceSub, Nat.reduceLeDiff, Nat.reduceBEq, Nat.reduceBNe, Int.reduceNeg, Int.reduceLT, Int.reduceLE, Int.reduceAdd, Int.reduceSub, Int.reduceToNat, Int.reduceEq, Int.reduceBEq, reduceCtorEq, Int.reduceBNe, h0, h1, h6, h7, h8, h9, h10, h11, f3, f4])
            refine W_skip ?_
            exact hT2 _ ⟨seq, true, last, hint, by omega, h0, h1, h6, by exact h7, by exact h8, by exact h9, h10, h11, Nat.le_trans ht (by simp <;> omega), by simp only [go_sem, Nat.reduceEqDiff, ↓reduceIte, reduceIte, Nat.reduceAdd, Nat.reduceMul, Nat.reduceSub, Nat.reduceLeDiff, Nat.reduceBEq, Nat.reduceBNe, Int.reduceNeg, Int.reduceLT, Int.reduceLE, Int.reduceAdd, Int.reduceSub, Int.reduceToNat, Int.reduceEq, Int.reduceBEq, reduceCtorEq, Int.reduceBNe, hB, Cl.enc, strA, Cm.enc], by simp only [go_sem, Nat.reduceEqDiff, ↓reduceIte, reduceIte, Nat.reduceAdd, Nat.reduceMul, Nat.reduceSub, Nat.reduceLeDiff, Nat.reduceBEq, Nat.reduceBNe, Int.reduceNeg, Int.reduceLT, Int.reduceLE, Int.reduceAdd, Int.reduceSub, Int.reduceToNat, Int.reduceEq, Int.reduceBEq, reduceCtorEq, Int.reduceBNe, hL, Cm.enc, strA], (by repeat (first | exact hle | refine HLe.fresh ?_ (hfr [_, _]) | refine HLe.fresh ?_ (hfr [_, _, _, _])))⟩

          have f4 : decide (y.n ≤ 7) = true := by simp; omega
          have hG : askC ⟨who, seq, true, last, hint⟩ y.n = (⟨10, 100 + who, y.n, 0, seq, 0, 0, none, false, 0, none, (encC last).1, 0, 0, 0⟩, true) := by unfold askC; rw [if_pos ⟨rfl, by omega, by omega⟩]
          have w8 : IntKind.i64.wrap (100 + who) = 100 + who := wrap_i64 (by omega)
          have hE := fun id => encode_ok id last
          generalize (encC last).1 = eb at *
          generalize (encC last).2 = er at *
          have q2 : (sqL eb == sqL eb) = true := beq_self_eq_true _
          rw [hG] at hA
          simp only [Mg.enc, sq_none] at hA
          simp only [Cm.enc, strA] at hE
          have hL2 := hL
          simp only [Cm.enc, strA] at hL2
          repeat (first
            | with_reducible refine W_seq fun K hK => ?_
            | (with_reducible refine hK _ ?_); clear hK K
            | (with_reducible refine W_skipK hK ?_); clear hK K
            | (with_reducible refine W_condT ?_ ?_); (· rfl)
            | (with_reducible refine W_condF ?_ ?_); (· rfl)
            | with_reducible refine W_block ?_
            | clear hK K; (with_reducible refine hK _ ?_); clear hK K
            | clear hK K; clear hK K; (with_reducible refine hK _ ?_); clear hK K
            | clear hK K; clear hK K; clear hK K; (with_reducible refine hK _ ?_); clear hK K
            | (with_reducible refine And.intro ?_ ?_); (· first | omega | decide)
            | (try first | ((with_reducible refine W_reg ?_ ?_); (· rfl)) | (with_reducible refine W_exit ?_) | (with_reducible refine W_ret ?_)); simp only [go_sem, Nat.reduceEqDiff, ↓reduceIte, reduceIte, Nat.reduceAdd, Nat.reduceMul, Nat.reduceSub, Nat.reduceLeDiff, Nat.reduceBEq, Nat.reduceBNe, Int.reduceNeg, Int.reduceLT, Int.reduceLE, Int.reduceAdd, Int.reduceSub, Int.reduceToNat, Int.reduceEq, Int.reduceBEq, reduceCtorEq, Int.reduceBNe, h0, h1, h6, h7, h8, h9, h10, h11, fk, fk1])
          refine stop_call (hA _ _) ?_ ?_
          · simp only [go_sem, Nat.reduceEqDiff, ↓reduceIte, reduceIte, Nat.reduceAdd, Nat.reduceMul, Nat.reduceSub, Nat.reduceLeDiff, Nat.reduceBEq, Nat.reduceBNe, Int.reduceNeg, Int.reduceLT, Int.reduceLE, Int.reduceAdd, Int.reduceSub, Int.reduceToNat, Int.reduceEq, Int.reduceBEq, reduceCtorEq, Int.reduceBNe, hB]
          repeat (first
            | with_reducible refine W_seq fun K hK => ?_
            | (with_reducible refine hK _ ?_); clear hK K
            | (with_reducible refine W_skipK hK ?_); clear hK K
            | (with_reducible refine W_condT ?_ ?_); (· rfl)
            | (with_reducible refine W_condF ?_ ?_); (· rfl)
            | with_reducible refine W_block ?_
            | clear hK K; (with_reducible refine hK _ ?_); clear hK K
            | clear hK K; clear hK K; (with_reducible refine hK _ ?_); clear hK K
            | clear hK K; clear hK K; clear hK K; (with_reducible refine hK _ ?_); clear hK K
            | (with_reducible refine And.intro ?_ ?_); (· first | omega | decide)
            | (try first | ((with_reducible refine W_reg ?_ ?_); (· rfl)) | (with_reducible refine W_exit ?_) | (with_reducible refine W_ret ?_)); simp only [go_sem, Nat.reduceEqDiff, ↓reduceIte, reduceIte, Nat.reduceAdd, Nat.reduceMul, Nat.reduceSub, Nat.reduceLeDiff, Nat.reduceBEq, Nat.reduceBNe, Int.reduceNeg, Int.reduceLT, Int.reduceLE, Int.reduceAdd, Int.reduceSub, Int.reduceToNat, Int.reduceEq, Int.reduceBEq, reduceCtorEq, Int.reduceBNe, h0, h1, h6, h7, h8, h9, h10, h11, f3, f4, hL2])
          refine stop_call (hE _) trivial ?_
          repeat (first
            | with_reducible refine W_seq fun K hK => ?_
            | (with_reducible refine hK _ ?_); clear hK K
            | (with_reducible refine W_skipK hK ?_); clear hK K
            | (with_reducible refine W_condT ?_ ?_); (· rfl)
            | (with_reducible refine W_condF ?_ ?_); (· rfl)
            | with_reducible refine W_block ?_
            | clear hK K; (with_reducible refine hK _ ?_); clear hK K
            | clear hK K; clear hK K; (with_reducible refine hK _ ?_); clear hK K
            | clear hK K; clear hK K; clear hK K; (with_reducible refine hK _ ?_); clear hK K
            | (with_reducible refine And.intro ?_ ?_); (· first | omega | decide)
            | (try first | ((with_reducible refine W_reg ?_ ?_); (· rfl)) | (with_reducible refine W_exit ?_) | (with_reducible refine W_ret ?_)); simp only [go_sem, Nat.reduceEqDiff, ↓reduceIte, reduceIte, Nat.reduceAdd, Nat.reduceMul, Nat.reduceSub, Nat.reduceLeDiff, Nat.reduceBEq, Nat.reduceBNe, Int.reduceNeg, Int.reduceLT, Int.reduceLE, Int.reduceAdd, Int.reduceSub, Int.reduceToNat, Int.reduceEq, Int.reduceBEq, reduceCtorEq, Int.reduceBNe, h0, h1, h6, h7, h8, h9, h10, h11, w8, bne_self_eq_false, bytes_eq, q2])
          refine W_skip ?_
          exact hT2 _ ⟨seq, true, last, hint, by omega, h0, h1, h6, by exact h7, by exact h8, by exact h9, h10, h11, Nat.le_trans ht (by simp <;> omega), by simp only [go_sem, Nat.reduceEqDiff, ↓reduceIte, reduceIte, Nat.reduceAdd, Nat.reduceMul, Nat.reduceSub, Nat.reduceLeDiff, Nat.reduceBEq, Nat.reduceBNe, Int.reduceNeg, Int.reduceLT, Int.reduceLE, Int.reduceAdd, Int.reduceSub, Int.reduceToNat, Int.reduceEq, Int.reduceBEq, reduceCtorEq, Int.reduceBNe, hB, Cl.enc, strA, Cm.enc], by simp only [go_sem, Nat.reduceEqDiff, ↓reduceIte, reduceIte, Nat.reduceAdd, Nat.reduceMul, Nat.reduceSub, Nat.reduceLeDiff, Nat.reduceBEq, Nat.reduceBNe, Int.reduceNeg, Int.reduceLT, Int.reduceLE, Int.reduceAdd, Int.reduceSub, Int.reduceToNat, Int.reduceEq, Int.reduceBEq, reduceCtorEq, Int.reduceBNe, hL, Cm.enc, strA], (by repeat (first | exact hle | refine HLe.fresh ?_ (hfr [_, _]) | refine HLe.fresh ?_ (hfr [_, _, _, _])))⟩
      have fk1 : (y.k == 1) = false := by simpa using k1
      have hCM := fun id => cutMsg_ok id y.m
      have hCR := fun id => cutReply_ok id y.r
      have hdl : (sqL (cutM y.m).data).length ≤ 100 := cut_len 100 y.m.data
      have hrn : (sqL (cutR y.r).nm).length ≤ 10 := by unfold cutR; rw [sqL_ne, List.length_map, List.length_take]; omega
      have hrs : ∀ x ∈ sqL (cutR y.r).nm, x.length ≤ 40 := by
        unfold cutR; rw [sqL_ne]; intro x hx
        obtain ⟨z, _, rfl⟩ := List.mem_map.1 hx
        rw [List.length_take]; omega
      generalize cutM y.m = M at *
      generalize cutR y.r = R at *
      simp only [Mg.enc] at hCM
      simp only [Rp.enc] at hCR
      repeat (first
        | with_reducible refine W_seq fun K hK => ?_
        | (with_reducible refine hK _ ?_); clear hK K
        | (with_reducible refine W_skipK hK ?_); clear hK K
        | (with_reducible refine W_condT ?_ ?_); (· rfl)
        | (with_reducible refine W_condF ?_ ?_); (· rfl)
        | with_reducible refine W_block ?_
        | clear hK K; (with_reducible refine hK _ ?_); clear hK K
        | clear hK K; clear hK K; (with_reducible refine hK _ ?_); clear hK K
        | clear hK K; clear hK K; clear hK K; (with_reducible refine hK _ ?_); clear hK K
        | (with_reducible refine And.intro ?_ ?_); (· first | omega | decide)
        | (try first | ((with_reducible refine W_reg ?_ ?_); (· rfl)) | (with_reducible refine W_exit ?_) | (with_reducible refine W_ret ?_)); simp only [go_sem, Nat.reduceEqDiff, ↓reduceIte, reduceIte, Nat.reduceAdd, Nat.reduceMul, Nat.reduceSub, Nat.reduceLeDiff, Nat.reduceBEq, Nat.reduceBNe, Int.reduceNeg, Int.reduceLT, Int.reduceLE, Int.reduceAdd, Int.reduceSub, Int.reduceToNat, Int.reduceEq, Int.reduceBEq, reduceCtorEq, Int.reduceBNe, h0, h1, h6, h7, h8, h9, h10, h11, fk, fk1])
      refine stop_call (hCM _) trivial ?_
      repeat (first
        | with_reducible refine W_seq fun K hK => ?_
        | (with_reducible refine hK _ ?_); clear hK K
        | (with_reducible refine W_skipK hK ?_); clear hK K
        | (with_reducible refine W_condT ?_ ?_); (· rfl)
        | (with_reducible refine W_condF ?_ ?_); (· rfl)
        | with_reducible refine W_block ?_
        | clear hK K; (with_reducible refine hK _ ?_); clear hK K
        | clear hK K; clear hK K; (with_reducible refine hK _ ?_); clear hK K
        | clear hK K; clear hK K; clear hK K; (with_reducible refine hK _ ?_); clear hK K
        | (with_reducible refine And.intro ?_ ?_); (· first | omega | decide)
        | (try first | ((with_reducible refine W_reg ?_ ?_); (· rfl)) | (with_reducible refine W_exit ?_) | (with_reducible refine W_ret ?_)); simp only [go_sem, Nat.reduceEqDiff, ↓reduceIte, reduceIte, Nat.reduceAdd, Nat.reduceMul, Nat.reduceSub, Nat.reduceLeDiff, Nat.reduceBEq, Nat.reduceBNe, Int.reduceNeg, Int.reduceLT, Int.reduceLE, Int.reduceAdd, Int.reduceSub, Int.reduceToNat, Int.reduceEq, Int.reduceBEq, reduceCtorEq, Int.reduceBNe, h0, h1, h6, h7, h8, h9, h10, h11])
      refine stop_call (hCR _) trivial ?_
      repeat (first
        | with_reducible refine W_seq fun K hK => ?_
        | (with_reducible refine hK _ ?_); clear hK K
        | (with_reducible refine W_skipK hK ?_); clear hK K
        | (with_reducible refine W_condT ?_ ?_); (· rfl)
        | (with_reducible refine W_condF ?_ ?_); (· rfl)
        | with_reducible refine W_block ?_
        | clear hK K; (with_reducible refine hK _ ?_); clear hK K
        | clear hK K; clear hK K; (with_reducible refine hK _ ?_); clear hK K
        | clear hK K; clear hK K; clear hK K; (with_reducible refine hK _ ?_); clear hK K
        | (with_reducible refine And.intro ?_ ?_); (· first | omega | decide)
        | (try first | ((with_reducible refine W_reg ?_ ?_); (· rfl)) | (with_reducible refine W_exit ?_) | (with_reducible refine W_ret ?_)); simp only [go_sem, Nat.reduceEqDiff, ↓reduceIte, reduceIte, Nat.reduceAdd, Nat.reduceMul, Nat.reduceSub, Nat.reduceLeDiff, Nat.reduceBEq, Nat.reduceBNe, Int.reduceNeg, Int.reduceLT, Int.reduceLE, Int.reduceAdd, Int.reduceSub, Int.reduceToNat, Int.reduceEq, Int.reduceBEq, reduceCtorEq, Int.reduceBNe, h0, h1, h6, h7, h8, h9, h10, h11])
      by_cases e1 : R.err < 0
      · have fe1 : decide (R.err < 0) = true := by simpa using e1
        repeat (first
          | with_reducible refine W_seq fun K hK => ?_
          | (with_reducible refine hK _ ?_); clear hK K
          | (with_reducible refine W_skipK hK ?_); clear hK K
          | (with_reducible refine W_condT ?_ ?_); (· rfl)
          | (with_reducible refine W_condF ?_ ?_); (· rfl)
          | with_reducible refine W_block ?_
          | clear hK K; (with_reducible refine hK _ ?_); clear hK K
          | clear hK K; clear hK K; (with_reducible refine hK _ ?_); clear hK K
          | clear hK K; clear hK K; clear hK K; (with_reducible refine hK _ ?_); clear hK K
          | (with_reducible refine And.intro ?_ ?_); (· first | omega | decide)
          | (try first | ((with_reducible refine W_reg ?_ ?_); (· rfl)) | (with_reducible refine W_exit ?_) | (with_reducible refine W_ret ?_)); simp only [go_sem, Nat.reduceEqDiff, ↓reduceIte, reduceIte, Nat.reduceAdd, Nat.reduceMul, Nat.reduceSub, Nat.reduceLeDiff, Nat.reduceBEq, Nat.reduceBNe, Int.reduceNeg, Int.reduceLT, Int.reduceLE, Int.reduceAdd, Int.reduceSub, Int.reduceToNat, Int.reduceEq, Int.reduceBEq, reduceCtorEq, Int.reduceBNe, h0, h1, h6, h7, h8, h9, h10, h11, fe1])
        exact hT1 _ ⟨seq, busy, last, hint, by omega, h0, h1, h6, by exact h7, by exact h8, by exact h9, h10, h11, Nat.le_trans ht (by simp <;> omega), by simp only [go_sem, Nat.reduceEqDiff, ↓reduceIte, reduceIte, Nat.reduceAdd, Nat.reduceMul, Nat.reduceSub, Nat.reduceLeDiff, Nat.reduceBEq, Nat.reduceBNe, Int.reduceNeg, Int.reduceLT, Int.reduceLE, Int.reduceAdd, Int.reduceSub, Int.reduceToNat, Int.reduceEq, Int.reduceBEq, reduceCtorEq, Int.reduceBNe, hB, Cl.enc, strA, Cm.enc], by simp only [go_sem, Nat.reduceEqDiff, ↓reduceIte, reduceIte, Nat.reduceAdd, Nat.reduceMul, Nat.reduceSub, Nat.reduceLeDiff, Nat.reduceBEq, Nat.reduceBNe, Int.reduceNeg, Int.reduceLT, Int.reduceLE, Int.reduceAdd, Int.reduceSub, Int.reduceToNat, Int.reduceEq, Int.reduceBEq, reduceCtorEq, Int.reduceBNe, hL, Cm.enc, strA], (by repeat (first | exact hle | refine HLe.fresh ?_ (hfr [_, _]) | refine HLe.fresh ?_ (hfr [_, _, _, _])))⟩
      have fe1 : decide (R.err < 0) = false := by simpa using e1
      by_cases e2 : R.err > 14
      · have fe2 : decide (R.err > 14) = true := by simpa using e2
        repeat (first
          | with_reducible refine W_seq fun K hK => ?_
          | (with_reducible refine hK _ ?_); clear hK K
          | (with_reducible refine W_skipK hK ?_); clear hK K
          | (with_reducible refine W_condT ?_ ?_); (· rfl)
          | (with_reducible refine W_condF ?_ ?_); (· rfl)
          | with_reducible refine W_block ?_
          | clear hK K; (with_reducible refine hK _ ?_); clear hK K
          | clear hK K; clear hK K; (with_reducible refine hK _ ?_); clear hK K
          | clear hK K; clear hK K; clear hK K; (with_reducible refine hK _ ?_); clear hK K
          | (with_reducible refine And.intro ?_ ?_); (· first | omega | decide)
          | (try first | ((with_reducible refine W_reg ?_ ?_); (· rfl)) | (with_reducible refine W_exit ?_) | (with_reducible refine W_ret ?_)); simp only [go_sem, Nat.reduceEqDiff, ↓reduceIte, reduceIte, Nat.reduceAdd, Nat.reduceMul, Nat.reduceSub, Nat.reduceLeDiff, Nat.reduceBEq, Nat.reduceBNe, Int.reduceNeg, Int.reduceLT, Int.reduceLE, Int.reduceAdd, Int.reduceSub, Int.reduceToNat, Int.reduceEq, Int.reduceBEq, reduceCtorEq, Int.reduceBNe, h0, h1, h6, h7, h8, h9, h10, h11, fe1, fe2])
        exact hT1 _ ⟨seq, busy, last, hint, by omega, h0, h1, h6, by exact h7, by exact h8, by exact h9, h10, h11, Nat.le_trans ht (by simp <;> omega), by simp only [go_sem, Nat.reduceEqDiff, ↓reduceIte, reduceIte, Nat.reduceAdd, Nat.reduceMul, Nat.reduceSub, Nat.reduceLeDiff, Nat.reduceBEq, Nat.reduceBNe, Int.reduceNeg, Int.reduceLT, Int.reduceLE, Int.reduceAdd, Int.reduceSub, Int.reduceToNat, Int.reduceEq, Int.reduceBEq, reduceCtorEq, Int.reduceBNe, hB, Cl.enc, strA, Cm.enc], by simp only [go_sem, Nat.reduceEqDiff, ↓reduceIte, reduceIte, Nat.reduceAdd, Nat.reduceMul, Nat.reduceSub, Nat.reduceLeDiff, Nat.reduceBEq, Nat.reduceBNe, Int.reduceNeg, Int.reduceLT, Int.reduceLE, Int.reduceAdd, Int.reduceSub, Int.reduceToNat, Int.reduceEq, Int.reduceBEq, reduceCtorEq, Int.reduceBNe, hL, Cm.enc, strA], (by repeat (first | exact hle | refine HLe.fresh ?_ (hfr [_, _]) | refine HLe.fresh ?_ (hfr [_, _, _, _])))⟩
      have fe2 : decide (R.err > 14) = false := by simpa using e2
      repeat (first
        | with_reducible refine W_seq fun K hK => ?_
        | (with_reducible refine hK _ ?_); clear hK K
        | (with_reducible refine W_skipK hK ?_); clear hK K
        | (with_reducible refine W_condT ?_ ?_); (· rfl)
        | (with_reducible refine W_condF ?_ ?_); (· rfl)
        | with_reducible refine W_block ?_
        | clear hK K; (with_reducible refine hK _ ?_); clear hK K
        | clear hK K; clear hK K; (with_reducible refine hK _ ?_); clear hK K
        | clear hK K; clear hK K; clear hK K; (with_reducible refine hK _ ?_); clear hK K
        | (with_reducible refine And.intro ?_ ?_); (· first | omega | decide)
        | (try first | ((with_reducible refine W_reg ?_ ?_); (· rfl)) | (with_reducible refine W_exit ?_) | (with_reducible refine W_ret ?_)); simp only [go_sem, Nat.reduceEqDiff, ↓reduceIte, reduceIte, Nat.reduceAdd, Nat.reduceMul, Nat.reduceSub, Nat.reduceLeDiff, Nat.reduceBEq, Nat.reduceBNe, Int.reduceNeg, Int.reduceLT, Int.reduceLE, Int.reduceAdd, Int.reduceSub, Int.reduceToNat, Int.reduceEq, Int.reduceBEq, reduceCtorEq, Int.reduceBNe, h0, h1, h6, h7, h8, h9, h10, h11, fe1, fe2, neS, neS2])
      have tail : ∀ (tm' : Nat → AV) (h' : Heap) (t' : Nat) (D : Option (List UInt8)), (sqL D).length ≤ 900000 → tm' 0 = .p (.int .i64 who) → tm' 1 = sq Opr.enc ops → tm' 6 = .ptr (2 :: 2 :: 1 :: 3 :: id) 0 → tm' 7 = .p (.int .i64 seq) → tm' 8 = .p (.bool busy) → tm' 9 = .p (.int .i64 hint) → tm' 10 = .ptr (0 :: 6 :: id) 0 → tm' 11 = .p (.int .i64 j) → tm' 20 = .ptr (3 :: (tt + 1 + 1 + 1 + 1 + 1 + 1) :: id) 0 → tt + 8 ≤ t' →
          h' (2 :: 2 :: 1 :: 3 :: id) = some (.cells 130 (Cl.enc ⟨who, seq, busy, last, hint⟩)) → h' (0 :: 6 :: id) = some (.cells 38 last.enc) → h' (3 :: (tt + 1 + 1 + 1 + 1 + 1 + 1) :: id) = some (.cells 26 (⟨M.kind, M.frm, M.to, M.term, M.idx, M.lt, M.com, M.es, M.ok, M.hint, M.conf, D, M.off, M.size, M.ctx⟩ : Mg).enc) → HLe h h' → K ⟨tm', h', t'⟩ := by
        intro tm' h' t' D hD i0 i1 i6 i7 i8 i9 i10 i11 i20 it iB iL iM iH
        refine hK _ ?_
        clear hK
        have hRP := fun id => readReply_ok id D hD
        have hrl := readP_len D
        have hHe := fun id b => hear_ok id b ⟨who, seq, busy, last, hint⟩ (⟨M.kind, M.frm, M.to, M.term, M.idx, M.lt, M.com, M.es, M.ok, M.hint, M.conf, D, M.off, M.size, M.ctx⟩ : Mg) hw hD
        have hG0 : hearC ⟨who, seq, busy, last, hint⟩ (⟨M.kind, M.frm, M.to, M.term, M.idx, M.lt, M.com, M.es, M.ok, M.hint, M.conf, D, M.off, M.size, M.ctx⟩ : Mg) = hearC ⟨who, seq, busy, last, hint⟩ (⟨M.kind, M.frm, M.to, M.term, M.idx, M.lt, M.com, M.es, M.ok, M.hint, M.conf, D, M.off, M.size, M.ctx⟩ : Mg) := rfl
        conv at hG0 => rhs; unfold hearC
        simp only at hG0
        generalize hearC ⟨who, seq, busy, last, hint⟩ (⟨M.kind, M.frm, M.to, M.term, M.idx, M.lt, M.com, M.es, M.ok, M.hint, M.conf, D, M.off, M.size, M.ctx⟩ : Mg) = g at *
        generalize readP D = P at *
        obtain ⟨rp, er⟩ := P
        simp only at hRP hrl hG0
        have w8 : IntKind.i64.wrap (100 + who) = 100 + who := wrap_i64 (by omega)
        simp only [Mg.enc] at iM hHe
        simp only [Rp.enc] at hRP
        cases a1 : (M.kind == 11) with
        | false =>
          have hg : g = ((Rp.zero, false), ⟨who, seq, busy, last, hint⟩) := by rw [hG0]; cases busy <;> simp_all
          subst hg; clear hG0
          simp only [Rp.zero, Rp.enc, sq_none] at hHe
          repeat (first
            | with_reducible refine W_seq fun K hK => ?_
            | (with_reducible refine hK _ ?_); clear hK K
            | (with_reducible refine W_skipK hK ?_); clear hK K
            | (with_reducible refine W_condT ?_ ?_); (· rfl)
            | (with_reducible refine W_condF ?_ ?_); (· rfl)
            | with_reducible refine W_block ?_
            | clear hK K; (with_reducible refine hK _ ?_); clear hK K
            | clear hK K; clear hK K; (with_reducible refine hK _ ?_); clear hK K
            | clear hK K; clear hK K; clear hK K; (with_reducible refine hK _ ?_); clear hK K
            | (with_reducible refine And.intro ?_ ?_); (· first | omega | decide)
            | (try first | ((with_reducible refine W_reg ?_ ?_); (· rfl)) | (with_reducible refine W_exit ?_) | (with_reducible refine W_ret ?_)); simp only [go_sem, Nat.reduceEqDiff, ↓reduceIte, reduceIte, Nat.reduceAdd, Nat.reduceMul, Nat.reduceSub, Nat.reduceLeDiff, Nat.reduceBEq, Nat.reduceBNe, Int.reduceNeg, Int.reduceLT, Int.reduceLE, Int.reduceAdd, Int.reduceSub, Int.reduceToNat, Int.reduceEq, Int.reduceBEq, reduceCtorEq, Int.reduceBNe, i0, i1, i6, i7, i8, i9, i10, i11, i20, w8, iM, bne_self_eq_false, beq_self_eq_true])
          refine stop_call (hRP _) trivial ?_
          repeat (first
            | with_reducible refine W_seq fun K hK => ?_
            | (with_reducible refine hK _ ?_); clear hK K
            | (with_reducible refine W_skipK hK ?_); clear hK K
            | (with_reducible refine W_condT ?_ ?_); (· rfl)
            | (with_reducible refine W_condF ?_ ?_); (· rfl)
            | with_reducible refine W_block ?_
            | clear hK K; (with_reducible refine hK _ ?_); clear hK K
            | clear hK K; clear hK K; (with_reducible refine hK _ ?_); clear hK K
            | clear hK K; clear hK K; clear hK K; (with_reducible refine hK _ ?_); clear hK K
            | (with_reducible refine And.intro ?_ ?_); (· first | omega | decide)
            | (try first | ((with_reducible refine W_reg ?_ ?_); (· rfl)) | (with_reducible refine W_exit ?_) | (with_reducible refine W_ret ?_)); simp only [go_sem, Nat.reduceEqDiff, ↓reduceIte, reduceIte, Nat.reduceAdd, Nat.reduceMul, Nat.reduceSub, Nat.reduceLeDiff, Nat.reduceBEq, Nat.reduceBNe, Int.reduceNeg, Int.reduceLT, Int.reduceLE, Int.reduceAdd, Int.reduceSub, Int.reduceToNat, Int.reduceEq, Int.reduceBEq, reduceCtorEq, Int.reduceBNe, i0, i1, i6, i7, i8, i9, i10, i11, i20, w8, iM, bne_self_eq_false, beq_self_eq_true, a1])
          refine stop_call (hHe _ _) ?_ ?_
          · simp only [go_sem, Nat.reduceEqDiff, ↓reduceIte, reduceIte, Nat.reduceAdd, Nat.reduceMul, Nat.reduceSub, Nat.reduceLeDiff, Nat.reduceBEq, Nat.reduceBNe, Int.reduceNeg, Int.reduceLT, Int.reduceLE, Int.reduceAdd, Int.reduceSub, Int.reduceToNat, Int.reduceEq, Int.reduceBEq, reduceCtorEq, Int.reduceBNe, iB]
          repeat (first
            | with_reducible refine W_seq fun K hK => ?_
            | (with_reducible refine hK _ ?_); clear hK K
            | (with_reducible refine W_skipK hK ?_); clear hK K
            | (with_reducible refine W_condT ?_ ?_); (· rfl)
            | (with_reducible refine W_condF ?_ ?_); (· rfl)
            | with_reducible refine W_block ?_
            | clear hK K; (with_reducible refine hK _ ?_); clear hK K
            | clear hK K; clear hK K; (with_reducible refine hK _ ?_); clear hK K
            | clear hK K; clear hK K; clear hK K; (with_reducible refine hK _ ?_); clear hK K
            | (with_reducible refine And.intro ?_ ?_); (· first | omega | decide)
            | (try first | ((with_reducible refine W_reg ?_ ?_); (· rfl)) | (with_reducible refine W_exit ?_) | (with_reducible refine W_ret ?_)); simp only [go_sem, Nat.reduceEqDiff, ↓reduceIte, reduceIte, Nat.reduceAdd, Nat.reduceMul, Nat.reduceSub, Nat.reduceLeDiff, Nat.reduceBEq, Nat.reduceBNe, Int.reduceNeg, Int.reduceLT, Int.reduceLE, Int.reduceAdd, Int.reduceSub, Int.reduceToNat, Int.reduceEq, Int.reduceBEq, reduceCtorEq, Int.reduceBNe, i0, i1, i6, i7, i8, i9, i10, i11, i20, w8, iM, bne_self_eq_false, beq_self_eq_true, a1])
          refine W_skip ?_
          exact hT2 _ ⟨seq, busy, last, hint, by omega, i0, i1, i6, by exact i7, by exact i8, by exact i9, i10, i11, Nat.le_trans (show 8 ≤ t' by omega) (by simp <;> omega), by simp only [go_sem, Nat.reduceEqDiff, ↓reduceIte, reduceIte, Nat.reduceAdd, Nat.reduceMul, Nat.reduceSub, Nat.reduceLeDiff, Nat.reduceBEq, Nat.reduceBNe, Int.reduceNeg, Int.reduceLT, Int.reduceLE, Int.reduceAdd, Int.reduceSub, Int.reduceToNat, Int.reduceEq, Int.reduceBEq, reduceCtorEq, Int.reduceBNe, iB, Cl.enc, strA, Cm.enc], by simp only [go_sem, Nat.reduceEqDiff, ↓reduceIte, reduceIte, Nat.reduceAdd, Nat.reduceMul, Nat.reduceSub, Nat.reduceLeDiff, Nat.reduceBEq, Nat.reduceBNe, Int.reduceNeg, Int.reduceLT, Int.reduceLE, Int.reduceAdd, Int.reduceSub, Int.reduceToNat, Int.reduceEq, Int.reduceBEq, reduceCtorEq, Int.reduceBNe, iL, Cm.enc, strA], (by repeat (first | exact iH | refine HLe.fresh ?_ (hfr [_, _]) | refine HLe.fresh ?_ (hfr [_, _, _, _])))⟩
        | true =>
        cases a2 : (M.to == 100 + who) with
        | false =>
          have hg : g = ((Rp.zero, false), ⟨who, seq, busy, last, hint⟩) := by rw [hG0]; cases busy <;> simp_all
          subst hg; clear hG0
          simp only [Rp.zero, Rp.enc, sq_none] at hHe
          repeat (first
            | with_reducible refine W_seq fun K hK => ?_
            | (with_reducible refine hK _ ?_); clear hK K
            | (with_reducible refine W_skipK hK ?_); clear hK K
            | (with_reducible refine W_condT ?_ ?_); (· rfl)
            | (with_reducible refine W_condF ?_ ?_); (· rfl)
            | with_reducible refine W_block ?_
            | clear hK K; (with_reducible refine hK _ ?_); clear hK K
            | clear hK K; clear hK K; (with_reducible refine hK _ ?_); clear hK K
            | clear hK K; clear hK K; clear hK K; (with_reducible refine hK _ ?_); clear hK K
            | (with_reducible refine And.intro ?_ ?_); (· first | omega | decide)
            | (try first | ((with_reducible refine W_reg ?_ ?_); (· rfl)) | (with_reducible refine W_exit ?_) | (with_reducible refine W_ret ?_)); simp only [go_sem, Nat.reduceEqDiff, ↓reduceIte, reduceIte, Nat.reduceAdd, Nat.reduceMul, Nat.reduceSub, Nat.reduceLeDiff, Nat.reduceBEq, Nat.reduceBNe, Int.reduceNeg, Int.reduceLT, Int.reduceLE, Int.reduceAdd, Int.reduceSub, Int.reduceToNat, Int.reduceEq, Int.reduceBEq, reduceCtorEq, Int.reduceBNe, i0, i1, i6, i7, i8, i9, i10, i11, i20, w8, iM, bne_self_eq_false, beq_self_eq_true])
          refine stop_call (hRP _) trivial ?_
          repeat (first
            | with_reducible refine W_seq fun K hK => ?_
            | (with_reducible refine hK _ ?_); clear hK K
            | (with_reducible refine W_skipK hK ?_); clear hK K
            | (with_reducible refine W_condT ?_ ?_); (· rfl)
            | (with_reducible refine W_condF ?_ ?_); (· rfl)
            | with_reducible refine W_block ?_
            | clear hK K; (with_reducible refine hK _ ?_); clear hK K
            | clear hK K; clear hK K; (with_reducible refine hK _ ?_); clear hK K
            | clear hK K; clear hK K; clear hK K; (with_reducible refine hK _ ?_); clear hK K
            | (with_reducible refine And.intro ?_ ?_); (· first | omega | decide)
            | (try first | ((with_reducible refine W_reg ?_ ?_); (· rfl)) | (with_reducible refine W_exit ?_) | (with_reducible refine W_ret ?_)); simp only [go_sem, Nat.reduceEqDiff, ↓reduceIte, reduceIte, Nat.reduceAdd, Nat.reduceMul, Nat.reduceSub, Nat.reduceLeDiff, Nat.reduceBEq, Nat.reduceBNe, Int.reduceNeg, Int.reduceLT, Int.reduceLE, Int.reduceAdd, Int.reduceSub, Int.reduceToNat, Int.reduceEq, Int.reduceBEq, reduceCtorEq, Int.reduceBNe, i0, i1, i6, i7, i8, i9, i10, i11, i20, w8, iM, bne_self_eq_false, beq_self_eq_true, a1, a2])
          refine stop_call (hHe _ _) ?_ ?_
          · simp only [go_sem, Nat.reduceEqDiff, ↓reduceIte, reduceIte, Nat.reduceAdd, Nat.reduceMul, Nat.reduceSub, Nat.reduceLeDiff, Nat.reduceBEq, Nat.reduceBNe, Int.reduceNeg, Int.reduceLT, Int.reduceLE, Int.reduceAdd, Int.reduceSub, Int.reduceToNat, Int.reduceEq, Int.reduceBEq, reduceCtorEq, Int.reduceBNe, iB]
          repeat (first
            | with_reducible refine W_seq fun K hK => ?_
            | (with_reducible refine hK _ ?_); clear hK K
            | (with_reducible refine W_skipK hK ?_); clear hK K
            | (with_reducible refine W_condT ?_ ?_); (· rfl)
            | (with_reducible refine W_condF ?_ ?_); (· rfl)
            | with_reducible refine W_block ?_
            | clear hK K; (with_reducible refine hK _ ?_); clear hK K
            | clear hK K; clear hK K; (with_reducible refine hK _ ?_); clear hK K
            | clear hK K; clear hK K; clear hK K; (with_reducible refine hK _ ?_); clear hK K
            | (with_reducible refine And.intro ?_ ?_); (· first | omega | decide)
            | (try first | ((with_reducible refine W_reg ?_ ?_); (· rfl)) | (with_reducible refine W_exit ?_) | (with_reducible refine W_ret ?_)); simp only [go_sem, Nat.reduceEqDiff, ↓reduceIte, reduceIte, Nat.reduceAdd, Nat.reduceMul, Nat.reduceSub, Nat.reduceLeDiff, Nat.reduceBEq, Nat.reduceBNe, Int.reduceNeg, Int.reduceLT, Int.reduceLE, Int.reduceAdd, Int.reduceSub, Int.reduceToNat, Int.reduceEq, Int.reduceBEq, reduceCtorEq, Int.reduceBNe, i0, i1, i6, i7, i8, i9, i10, i11, i20, w8, iM, bne_self_eq_false, beq_self_eq_true, a1, a2])
          refine W_skip ?_
          exact hT2 _ ⟨seq, busy, last, hint, by omega, i0, i1, i6, by exact i7, by exact i8, by exact i9, i10, i11, Nat.le_trans (show 8 ≤ t' by omega) (by simp <;> omega), by simp only [go_sem, Nat.reduceEqDiff, ↓reduceIte, reduceIte, Nat.reduceAdd, Nat.reduceMul, Nat.reduceSub, Nat.reduceLeDiff, Nat.reduceBEq, Nat.reduceBNe, Int.reduceNeg, Int.reduceLT, Int.reduceLE, Int.reduceAdd, Int.reduceSub, Int.reduceToNat, Int.reduceEq, Int.reduceBEq, reduceCtorEq, Int.reduceBNe, iB, Cl.enc, strA, Cm.enc], by simp only [go_sem, Nat.reduceEqDiff, ↓reduceIte, reduceIte, Nat.reduceAdd, Nat.reduceMul, Nat.reduceSub, Nat.reduceLeDiff, Nat.reduceBEq, Nat.reduceBNe, Int.reduceNeg, Int.reduceLT, Int.reduceLE, Int.reduceAdd, Int.reduceSub, Int.reduceToNat, Int.reduceEq, Int.reduceBEq, reduceCtorEq, Int.reduceBNe, iL, Cm.enc, strA], (by repeat (first | exact iH | refine HLe.fresh ?_ (hfr [_, _]) | refine HLe.fresh ?_ (hfr [_, _, _, _])))⟩
        | true =>
        cases hbu : busy with
        | false =>
          subst hbu
          have hg : g = ((Rp.zero, false), ⟨who, seq, false, last, hint⟩) := by rw [hG0]; simp
          subst hg; clear hG0
          simp only [Rp.zero, Rp.enc, sq_none] at hHe
          repeat (first
            | with_reducible refine W_seq fun K hK => ?_
            | (with_reducible refine hK _ ?_); clear hK K
            | (with_reducible refine W_skipK hK ?_); clear hK K
            | (with_reducible refine W_condT ?_ ?_); (· rfl)
            | (with_reducible refine W_condF ?_ ?_); (· rfl)
            | with_reducible refine W_block ?_
            | clear hK K; (with_reducible refine hK _ ?_); clear hK K
            | clear hK K; clear hK K; (with_reducible refine hK _ ?_); clear hK K
            | clear hK K; clear hK K; clear hK K; (with_reducible refine hK _ ?_); clear hK K
            | (with_reducible refine And.intro ?_ ?_); (· first | omega | decide)
            | (try first | ((with_reducible refine W_reg ?_ ?_); (· rfl)) | (with_reducible refine W_exit ?_) | (with_reducible refine W_ret ?_)); simp only [go_sem, Nat.reduceEqDiff, ↓reduceIte, reduceIte, Nat.reduceAdd, Nat.reduceMul, Nat.reduceSub, Nat.reduceLeDiff, Nat.reduceBEq, Nat.reduceBNe, Int.reduceNeg, Int.reduceLT, Int.reduceLE, Int.reduceAdd, Int.reduceSub, Int.reduceToNat, Int.reduceEq, Int.reduceBEq, reduceCtorEq, Int.reduceBNe, i0, i1, i6, i7, i8, i9, i10, i11, i20, w8, iM, bne_self_eq_false, beq_self_eq_true])
          refine stop_call (hRP _) trivial ?_
          repeat (first
            | with_reducible refine W_seq fun K hK => ?_
            | (with_reducible refine hK _ ?_); clear hK K
            | (with_reducible refine W_skipK hK ?_); clear hK K
            | (with_reducible refine W_condT ?_ ?_); (· rfl)
            | (with_reducible refine W_condF ?_ ?_); (· rfl)
            | with_reducible refine W_block ?_
            | clear hK K; (with_reducible refine hK _ ?_); clear hK K
            | clear hK K; clear hK K; (with_reducible refine hK _ ?_); clear hK K
            | clear hK K; clear hK K; clear hK K; (with_reducible refine hK _ ?_); clear hK K
            | (with_reducible refine And.intro ?_ ?_); (· first | omega | decide)
            | (try first | ((with_reducible refine W_reg ?_ ?_); (· rfl)) | (with_reducible refine W_exit ?_) | (with_reducible refine W_ret ?_)); simp only [go_sem, Nat.reduceEqDiff, ↓reduceIte, reduceIte, Nat.reduceAdd, Nat.reduceMul, Nat.reduceSub, Nat.reduceLeDiff, Nat.reduceBEq, Nat.reduceBNe, Int.reduceNeg, Int.reduceLT, Int.reduceLE, Int.reduceAdd, Int.reduceSub, Int.reduceToNat, Int.reduceEq, Int.reduceBEq, reduceCtorEq, Int.reduceBNe, i0, i1, i6, i7, i8, i9, i10, i11, i20, w8, iM, bne_self_eq_false, beq_self_eq_true, a1, a2])
          refine stop_call (hHe _ _) ?_ ?_
          · simp only [go_sem, Nat.reduceEqDiff, ↓reduceIte, reduceIte, Nat.reduceAdd, Nat.reduceMul, Nat.reduceSub, Nat.reduceLeDiff, Nat.reduceBEq, Nat.reduceBNe, Int.reduceNeg, Int.reduceLT, Int.reduceLE, Int.reduceAdd, Int.reduceSub, Int.reduceToNat, Int.reduceEq, Int.reduceBEq, reduceCtorEq, Int.reduceBNe, iB]
          repeat (first
            | with_reducible refine W_seq fun K hK => ?_
            | (with_reducible refine hK _ ?_); clear hK K
            | (with_reducible refine W_skipK hK ?_); clear hK K
            | (with_reducible refine W_condT ?_ ?_); (· rfl)
            | (with_reducible refine W_condF ?_ ?_); (· rfl)
            | with_reducible refine W_block ?_
            | clear hK K; (with_reducible refine hK _ ?_); clear hK K
            | clear hK K; clear hK K; (with_reducible refine hK _ ?_); clear hK K
            | clear hK K; clear hK K; clear hK K; (with_reducible refine hK _ ?_); clear hK K
            | (with_reducible refine And.intro ?_ ?_); (· first | omega | decide)
            | (try first | ((with_reducible refine W_reg ?_ ?_); (· rfl)) | (with_reducible refine W_exit ?_) | (with_reducible refine W_ret ?_)); simp only [go_sem, Nat.reduceEqDiff, ↓reduceIte, reduceIte, Nat.reduceAdd, Nat.reduceMul, Nat.reduceSub, Nat.reduceLeDiff, Nat.reduceBEq, Nat.reduceBNe, Int.reduceNeg, Int.reduceLT, Int.reduceLE, Int.reduceAdd, Int.reduceSub, Int.reduceToNat, Int.reduceEq, Int.reduceBEq, reduceCtorEq, Int.reduceBNe, i0, i1, i6, i7, i8, i9, i10, i11, i20, w8, iM, bne_self_eq_false, beq_self_eq_true, a1, a2])
          refine W_skip ?_
          exact hT2 _ ⟨seq, false, last, hint, by omega, i0, i1, i6, by exact i7, by exact i8, by exact i9, i10, i11, Nat.le_trans (show 8 ≤ t' by omega) (by simp <;> omega), by simp only [go_sem, Nat.reduceEqDiff, ↓reduceIte, reduceIte, Nat.reduceAdd, Nat.reduceMul, Nat.reduceSub, Nat.reduceLeDiff, Nat.reduceBEq, Nat.reduceBNe, Int.reduceNeg, Int.reduceLT, Int.reduceLE, Int.reduceAdd, Int.reduceSub, Int.reduceToNat, Int.reduceEq, Int.reduceBEq, reduceCtorEq, Int.reduceBNe, iB, Cl.enc, strA, Cm.enc], by simp only [go_sem, Nat.reduceEqDiff, ↓reduceIte, reduceIte, Nat.reduceAdd, Nat.reduceMul, Nat.reduceSub, Nat.reduceLeDiff, Nat.reduceBEq, Nat.reduceBNe, Int.reduceNeg, Int.reduceLT, Int.reduceLE, Int.reduceAdd, Int.reduceSub, Int.reduceToNat, Int.reduceEq, Int.reduceBEq, reduceCtorEq, Int.reduceBNe, iL, Cm.enc, strA], (by repeat (first | exact iH | refine HLe.fresh ?_ (hfr [_, _]) | refine HLe.fresh ?_ (hfr [_, _, _, _])))⟩
        | true =>
        subst hbu
        cases a3 : (M.idx == (seq : Int)) with
        | false =>
          have hg : g = ((Rp.zero, false), ⟨who, seq, true, last, hint⟩) := by rw [hG0]; simp_all
          subst hg; clear hG0
          simp only [Rp.zero, Rp.enc, sq_none] at hHe
          repeat (first
            | with_reducible refine W_seq fun K hK => ?_
            | (with_reducible refine hK _ ?_); clear hK K
            | (with_reducible refine W_skipK hK ?_); clear hK K
            | (with_reducible refine W_condT ?_ ?_); (· rfl)
            | (with_reducible refine W_condF ?_ ?_); (· rfl)
            | with_reducible refine W_block ?_
            | clear hK K; (with_reducible refine hK _ ?_); clear hK K
            | clear hK K; clear hK K; (with_reducible refine hK _ ?_); clear hK K
            | clear hK K; clear hK K; clear hK K; (with_reducible refine hK _ ?_); clear hK K
            | (with_reducible refine And.intro ?_ ?_); (· first | omega | decide)
            | (try first | ((with_reducible refine W_reg ?_ ?_); (· rfl)) | (with_reducible refine W_exit ?_) | (with_reducible refine W_ret ?_)); simp only [go_sem, Nat.reduceEqDiff, ↓reduceIte, reduceIte, Nat.reduceAdd, Nat.reduceMul, Nat.reduceSub, Nat.reduceLeDiff, Nat.reduceBEq, Nat.reduceBNe, Int.reduceNeg, Int.reduceLT, Int.reduceLE, Int.reduceAdd, Int.reduceSub, Int.reduceToNat, Int.reduceEq, Int.reduceBEq, reduceCtorEq, Int.reduceBNe, i0, i1, i6, i7, i8, i9, i10, i11, i20, w8, iM, bne_self_eq_false, beq_self_eq_true])
          refine stop_call (hRP _) trivial ?_
          repeat (first
            | with_reducible refine W_seq fun K hK => ?_
            | (with_reducible refine hK _ ?_); clear hK K
            | (with_reducible refine W_skipK hK ?_); clear hK K
            | (with_reducible refine W_condT ?_ ?_); (· rfl)
            | (with_reducible refine W_condF ?_ ?_); (· rfl)
            | with_reducible refine W_block ?_
            | clear hK K; (with_reducible refine hK _ ?_); clear hK K
            | clear hK K; clear hK K; (with_reducible refine hK _ ?_); clear hK K
            | clear hK K; clear hK K; clear hK K; (with_reducible refine hK _ ?_); clear hK K
            | (with_reducible refine And.intro ?_ ?_); (· first | omega | decide)
            | (try first | ((with_reducible refine W_reg ?_ ?_); (· rfl)) | (with_reducible refine W_exit ?_) | (with_reducible refine W_ret ?_)); simp only [go_sem, Nat.reduceEqDiff, ↓reduceIte, reduceIte, Nat.reduceAdd, Nat.reduceMul, Nat.reduceSub, Nat.reduceLeDiff, Nat.reduceBEq, Nat.reduceBNe, Int.reduceNeg, Int.reduceLT, Int.reduceLE, Int.reduceAdd, Int.reduceSub, Int.reduceToNat, Int.reduceEq, Int.reduceBEq, reduceCtorEq, Int.reduceBNe, i0, i1, i6, i7, i8, i9, i10, i11, i20, w8, iM, bne_self_eq_false, beq_self_eq_true, a1, a2, a3])
          refine stop_call (hHe _ _) ?_ ?_
          · simp only [go_sem, Nat.reduceEqDiff, ↓reduceIte, reduceIte, Nat.reduceAdd, Nat.reduceMul, Nat.reduceSub, Nat.reduceLeDiff, Nat.reduceBEq, Nat.reduceBNe, Int.reduceNeg, Int.reduceLT, Int.reduceLE, Int.reduceAdd, Int.reduceSub, Int.reduceToNat, Int.reduceEq, Int.reduceBEq, reduceCtorEq, Int.reduceBNe, iB]
          repeat (first
            | with_reducible refine W_seq fun K hK => ?_
            | (with_reducible refine hK _ ?_); clear hK K
            | (with_reducible refine W_skipK hK ?_); clear hK K
            | (with_reducible refine W_condT ?_ ?_); (· rfl)
            | (with_reducible refine W_condF ?_ ?_); (· rfl)
            | with_reducible refine W_block ?_
            | clear hK K; (with_reducible refine hK _ ?_); clear hK K
            | clear hK K; clear hK K; (with_reducible refine hK _ ?_); clear hK K
            | clear hK K; clear hK K; clear hK K; (with_reducible refine hK _ ?_); clear hK K
            | (with_reducible refine And.intro ?_ ?_); (· first | omega | decide)
            | (try first | ((with_reducible refine W_reg ?_ ?_); (· rfl)) | (with_reducible refine W_exit ?_) | (with_reducible refine W_ret ?_)); simp only [go_sem, Nat.reduceEqDiff, ↓reduceIte, reduceIte, Nat.reduceAdd, Nat.reduceMul, Nat.reduceSub, Nat.reduceLeDiff, Nat.reduceBEq, Nat.reduceBNe, Int.reduceNeg, Int.reduceLT, Int.reduceLE, Int.reduceAdd, Int.reduceSub, Int.reduceToNat, Int.reduceEq, Int.reduceBEq, reduceCtorEq, Int.reduceBNe, i0, i1, i6, i7, i8, i9, i10, i11, i20, w8, iM, bne_self_eq_false, beq_self_eq_true, a1, a2, a3])
          refine W_skip ?_
          exact hT2 _ ⟨seq, true, last, hint, by omega, i0, i1, i6, by exact i7, by exact i8, by exact i9, i10, i11, Nat.le_trans (show 8 ≤ t' by omega) (by simp <;> omega), by simp only [go_sem, Nat.reduceEqDiff, ↓reduceIte, reduceIte, Nat.reduceAdd, Nat.reduceMul, Nat.reduceSub, Nat.reduceLeDiff, Nat.reduceBEq, Nat.reduceBNe, Int.reduceNeg, Int.reduceLT, Int.reduceLE, Int.reduceAdd, Int.reduceSub, Int.reduceToNat, Int.reduceEq, Int.reduceBEq, reduceCtorEq, Int.reduceBNe, iB, Cl.enc, strA, Cm.enc], by simp only [go_sem, Nat.reduceEqDiff, ↓reduceIte, reduceIte, Nat.reduceAdd, Nat.reduceMul, Nat.reduceSub, Nat.reduceLeDiff, Nat.reduceBEq, Nat.reduceBNe, Int.reduceNeg, Int.reduceLT, Int.reduceLE, Int.reduceAdd, Int.reduceSub, Int.reduceToNat, Int.reduceEq, Int.reduceBEq, reduceCtorEq, Int.reduceBNe, iL, Cm.enc, strA], (by repeat (first | exact iH | refine HLe.fresh ?_ (hfr [_, _]) | refine HLe.fresh ?_ (hfr [_, _, _, _])))⟩
        | true =>
        cases hok : M.ok with
        | false =>
          by_cases c5 : 0 ≤ M.hint ∧ M.hint ≤ 7
          · have f5 : decide (M.hint ≥ 0) = true := by simp; omega
            have f6 : decide (M.hint ≤ 7) = true := by simp; omega
            have hg : g = ((Rp.zero, false), ⟨who, seq, true, last, M.hint⟩) := by rw [hG0]; simp_all
            subst hg; clear hG0
            simp only [Rp.zero, Rp.enc, sq_none] at hHe
            simp only [hok] at hHe iM
            repeat (first
              | with_reducible refine W_seq fun K hK => ?_
              | (with_reducible refine hK _ ?_); clear hK K
              | (with_reducible refine W_skipK hK ?_); clear hK K
              | (with_reducible refine W_condT ?_ ?_); (· rfl)
              | (with_reducible refine W_condF ?_ ?_); (· rfl)
              | with_reducible refine W_block ?_
              | clear hK K; (with_reducible refine hK _ ?_); clear hK K
              | clear hK K; clear hK K; (with_reducible refine hK _ ?_); clear hK K
              | clear hK K; clear hK K; clear hK K; (with_reducible refine hK _ ?_); clear hK K
              | (with_reducible refine And.intro ?_ ?_); (· first | omega | decide)
              | (try first | ((with_reducible refine W_reg ?_ ?_); (· rfl)) | (with_reducible refine W_exit ?_) | (with_reducible refine W_ret ?_)); simp only [go_sem, Nat.reduceEqDiff, ↓reduceIte, reduceIte, Nat.reduceAdd, Nat.reduceMul, Nat.reduceSub, Nat.reduceLeDiff, Nat.reduceBEq, Nat.reduceBNe, Int.reduceNeg, Int.reduceLT, Int.reduceLE, Int.reduceAdd, Int.reduceSub, Int.reduceToNat, Int.reduceEq, Int.reduceBEq, reduceCtorEq, Int.reduceBNe, i0, i1, i6, i7, i8, i9, i10, i11, i20, w8, iM, bne_self_eq_false, beq_self_eq_true])
            refine stop_call (hRP _) trivial ?_
            repeat (first
              | with_reducible refine W_seq fun K hK => ?_
              | (with_reducible refine hK _ ?_); clear hK K
              | (with_reducible refine W_skipK hK ?_); clear hK K
              | (with_reducible refine W_condT ?_ ?_); (· rfl)
              | (with_reducible refine W_condF ?_ ?_); (· rfl)
              | with_reducible refine W_block ?_
              | clear hK K; (with_reducible refine hK _ ?_); clear hK K
              | clear hK K; clear hK K; (with_reducible refine hK _ ?_); clear hK K
              | clear hK K; clear hK K; clear hK K; (with_reducible refine hK _ ?_); clear hK K
              | (with_reducible refine And.intro ?_ ?_); (· first | omega | decide)
              | (try first | ((with_reducible refine W_reg ?_ ?_); (· rfl)) | (with_reducible refine W_exit ?_) | (with_reducible refine W_ret ?_)); simp only [go_sem, Nat.reduceEqDiff, ↓reduceIte, reduceIte, Nat.reduceAdd, Nat.reduceMul, Nat.reduceSub, Nat.reduceLeDiff, Nat.reduceBEq, Nat.reduceBNe, Int.reduceNeg, Int.reduceLT, Int.reduceLE, Int.reduceAdd, Int.reduceSub, Int.reduceToNat, Int.reduceEq, Int.reduceBEq, reduceCtorEq, Int.reduceBNe, i0, i1, i6, i7, i8, i9, i10, i11, i20, w8, iM, bne_self_eq_false, beq_self_eq_true, a1, a2, a3, hok, f5, f6])
            refine stop_call (hHe _ _) ?_ ?_
            · simp only [go_sem, Nat.reduceEqDiff, ↓reduceIte, reduceIte, Nat.reduceAdd, Nat.reduceMul, Nat.reduceSub, Nat.reduceLeDiff, Nat.reduceBEq, Nat.reduceBNe, Int.reduceNeg, Int.reduceLT, Int.reduceLE, Int.reduceAdd, Int.reduceSub, Int.reduceToNat, Int.reduceEq, Int.reduceBEq, reduceCtorEq, Int.reduceBNe, iB]
            repeat (first
              | with_reducible refine W_seq fun K hK => ?_
              | (with_reducible refine hK _ ?_); clear hK K
              | (with_reducible refine W_skipK hK ?_); clear hK K
              | (with_reducible refine W_condT ?_ ?_); (· rfl)
              | (with_reducible refine W_condF ?_ ?_); (· rfl)
              | with_reducible refine W_block ?_
              | clear hK K; (with_reducible refine hK _ ?_); clear hK K
              | clear hK K; clear hK K; (with_reducible refine hK _ ?_); clear hK K
              | clear hK K; clear hK K; clear hK K; (with_reducible refine hK _ ?_); clear hK K
              | (with_reducible refine And.intro ?_ ?_); (· first | omega | decide)
              | (try first | ((with_reducible refine W_reg ?_ ?_); (· rfl)) | (with_reducible refine W_exit ?_) | (with_reducible refine W_ret ?_)); simp only [go_sem, Nat.reduceEqDiff, ↓reduceIte, reduceIte, Nat.reduceAdd, Nat.reduceMul, Nat.reduceSub, Nat.reduceLeDiff, Nat.reduceBEq, Nat.reduceBNe, Int.reduceNeg, Int.reduceLT, Int.reduceLE, Int.reduceAdd, Int.reduceSub, Int.reduceToNat, Int.reduceEq, Int.reduceBEq, reduceCtorEq, Int.reduceBNe, i0, i1, i6, i7, i8, i9, i10, i11, i20, w8, iM, bne_self_eq_false, beq_self_eq_true, a1, a2, a3, hok, f5, f6])
            exact hT2 _ ⟨seq, true, last, M.hint, by omega, i0, i1, i6, by exact i7, by exact i8, by rfl, i10, i11, Nat.le_trans (show 8 ≤ t' by omega) (by simp <;> omega), by simp only [go_sem, Nat.reduceEqDiff, ↓reduceIte, reduceIte, Nat.reduceAdd, Nat.reduceMul, Nat.reduceSub, Nat.reduceLeDiff, Nat.reduceBEq, Nat.reduceBNe, Int.reduceNeg, Int.reduceLT, Int.reduceLE, Int.reduceAdd, Int.reduceSub, Int.reduceToNat, Int.reduceEq, Int.reduceBEq, reduceCtorEq, Int.reduceBNe, iB, Cl.enc, strA, Cm.enc], by simp only [go_sem, Nat.reduceEqDiff, ↓reduceIte, reduceIte, Nat.reduceAdd, Nat.reduceMul, Nat.reduceSub, Nat.reduceLeDiff, Nat.reduceBEq, Nat.reduceBNe, Int.reduceNeg, Int.reduceLT, Int.reduceLE, Int.reduceAdd, Int.reduceSub, Int.reduceToNat, Int.reduceEq, Int.reduceBEq, reduceCtorEq, Int.reduceBNe, iL, Cm.enc, strA], (by repeat (first | exact iH | refine HLe.fresh ?_ (hfr [_, _]) | refine HLe.fresh ?_ (hfr [_, _, _, _])))⟩
          · by_cases c6 : M.hint ≥ 0
            · have f5 : decide (M.hint ≥ 0) = true := by simp; omega
              have f6 : decide (M.hint ≤ 7) = false := by simp; omega
              have hg : g = ((Rp.zero, false), ⟨who, seq, true, last, hint⟩) := by rw [hG0]; simp_all <;> omega
              subst hg; clear hG0
              simp only [Rp.zero, Rp.enc, sq_none] at hHe
              simp only [hok] at hHe iM
              repeat (first
                | with_reducible refine W_seq fun K hK => ?_
                | (with_reducible refine hK _ ?_); clear hK K
                | (with_reducible refine W_skipK hK ?_); clear hK K
                | (with_reducible refine W_condT ?_ ?_); (· rfl)
                | (with_reducible refine W_condF ?_ ?_); (· rfl)
                | with_reducible refine W_block ?_
                | clear hK K; (with_reducible refine hK _ ?_); clear hK K
                | clear hK K; clear hK K; (with_reducible refine hK _ ?_); clear hK K
                | clear hK K; clear hK K; clear hK K; (with_reducible refine hK _ ?_); clear hK K
                | (with_reducible refine And.intro ?_ ?_); (· first | omega | decide)
                | (try first | ((with_reducible refine W_reg ?_ ?_); (· rfl)) | (with_reducible refine W_exit ?_) | (with_reducible refine W_ret ?_)); simp only [go_sem, Nat.reduceEqDiff, ↓reduceIte, reduceIte, Nat.reduceAdd, Nat.reduceMul, Nat.reduceSub, Nat.reduceLeDiff, Nat.reduceBEq, Nat.reduceBNe, Int.reduceNeg, Int.reduceLT, Int.reduceLE, Int.reduceAdd, Int.reduceSub, Int.reduceToNat, Int.reduceEq, Int.reduceBEq, reduceCtorEq, Int.reduceBNe, i0, i1, i6, i7, i8, i9, i10, i11, i20, w8, iM, bne_self_eq_false, beq_self_eq_true])
              refine stop_call (hRP _) trivial ?_
              repeat (first
                | with_reducible refine W_seq fun K hK => ?_
                | (with_reducible refine hK _ ?_); clear hK K
                | (with_reducible refine W_skipK hK ?_); clear hK K
                | (with_reducible refine W_condT ?_ ?_); (· rfl)
                | (with_reducible refine W_condF ?_ ?_); (· rfl)
                | with_reducible refine W_block ?_
                | clear hK K; (with_reducible refine hK _ ?_); clear hK K
                | clear hK K; clear hK K; (with_reducible refine hK _ ?_); clear hK K
                | clear hK K; clear hK K; clear hK K; (with_reducible refine hK _ ?_); clear hK K
                | (with_reducible refine And.intro ?_ ?_); (· first | omega | decide)
                | (try first | ((with_reducible refine W_reg ?_ ?_); (· rfl)) | (with_reducible refine W_exit ?_) | (with_reducible refine W_ret ?_)); simp only [go_sem, Nat.reduceEqDiff, ↓reduceIte, reduceIte, Nat.reduceAdd, Nat.reduceMul, Nat.reduceSub, Nat.reduceLeDiff, Nat.reduceBEq, Nat.reduceBNe, Int.reduceNeg, Int.reduceLT, Int.reduceLE, Int.reduceAdd, Int.reduceSub, Int.reduceToNat, Int.reduceEq, Int.reduceBEq, reduceCtorEq, Int.reduceBNe, i0, i1, i6, i7, i8, i9, i10, i11, i20, w8, iM, bne_self_eq_false, beq_self_eq_true, a1, a2, a3, hok, f5, f6])
              refine stop_call (hHe _ _) ?_ ?_
              · simp only [go_sem, Nat.reduceEqDiff, ↓reduceIte, reduceIte, Nat.reduceAdd, Nat.reduceMul, Nat.reduceSub, Nat.reduceLeDiff, Nat.reduceBEq, Nat.reduceBNe, Int.reduceNeg, Int.reduceLT, Int.reduceLE, Int.reduceAdd, Int.reduceSub, Int.reduceToNat, Int.reduceEq, Int.reduceBEq, reduceCtorEq, Int.reduceBNe, iB]
              repeat (first
                | with_reducible refine W_seq fun K hK => ?_
                | (with_reducible refine hK _ ?_); clear hK K
                | (with_reducible refine W_skipK hK ?_); clear hK K
                | (with_reducible refine W_condT ?_ ?_); (· rfl)
                | (with_reducible refine W_condF ?_ ?_); (· rfl)
                | with_reducible refine W_block ?_
                | clear hK K; (with_reducible refine hK _ ?_); clear hK K
                | clear hK K; clear hK K; (with_reducible refine hK _ ?_); clear hK K
                | clear hK K; clear hK K; clear hK K; (with_reducible refine hK _ ?_); clear hK K
                | (with_reducible refine And.intro ?_ ?_); (· first | omega | decide)
                | (try first | ((with_reducible refine W_reg ?_ ?_); (· rfl)) | (with_reducible refine W_exit ?_) | (with_reducible refine W_ret ?_)); simp only [go_sem, Nat.reduceEqDiff, ↓reduceIte, reduceIte, Nat.reduceAdd, Nat.reduceMul, Nat.reduceSub, Nat.reduceLeDiff, Nat.reduceBEq, Nat.reduceBNe, Int.reduceNeg, Int.reduceLT, Int.reduceLE, Int.reduceAdd, Int.reduceSub, Int.reduceToNat, Int.reduceEq, Int.reduceBEq, reduceCtorEq, Int.reduceBNe, i0, i1, i6, i7, i8, i9, i10, i11, i20, w8, iM, bne_self_eq_false, beq_self_eq_true, a1, a2, a3, hok, f5, f6])
              refine W_skip ?_
              exact hT2 _ ⟨seq, true, last, hint, by omega, i0, i1, i6, by exact i7, by exact i8, by exact i9, i10, i11, Nat.le_trans (show 8 ≤ t' by omega) (by simp <;> omega), by simp only [go_sem, Nat.reduceEqDiff, ↓reduceIte, reduceIte, Nat.reduceAdd, Nat.reduceMul, Nat.reduceSub, Nat.reduceLeDiff, Nat.reduceBEq, Nat.reduceBNe, Int.reduceNeg, Int.reduceLT, Int.reduceLE, Int.reduceAdd, Int.reduceSub, Int.reduceToNat, Int.reduceEq, Int.reduceBEq, reduceCtorEq, Int.reduceBNe, iB, Cl.enc, strA, Cm.enc], by simp only [go_sem, Nat.reduceEqDiff, ↓reduceIte, reduceIte, Nat.reduceAdd, Nat.reduceMul, Nat.reduceSub, Nat.reduceLeDiff, Nat.reduceBEq, Nat.reduceBNe, Int.reduceNeg, Int.reduceLT, Int.reduceLE, Int.reduceAdd, Int.reduceSub, Int.reduceToNat, Int.reduceEq, Int.reduceBEq, reduceCtorEq, Int.reduceBNe, iL, Cm.enc, strA], (by repeat (first | exact iH | refine HLe.fresh ?_ (hfr [_, _]) | refine HLe.fresh ?_ (hfr [_, _, _, _])))⟩
            · have f5 : decide (M.hint ≥ 0) = false := by simp; omega
              have hg : g = ((Rp.zero, false), ⟨who, seq, true, last, hint⟩) := by rw [hG0]; simp_all <;> omega
              subst hg; clear hG0
              simp only [Rp.zero, Rp.enc, sq_none] at hHe
              simp only [hok] at hHe iM
              repeat (first
                | with_reducible refine W_seq fun K hK => ?_
                | (with_reducible refine hK _ ?_); clear hK K
                | (with_reducible refine W_skipK hK ?_); clear hK K
                | (with_reducible refine W_condT ?_ ?_); (· rfl)
                | (with_reducible refine W_condF ?_ ?_); (· rfl)
                | with_reducible refine W_block ?_
                | clear hK K; (with_reducible refine hK _ ?_); clear hK K
                | clear hK K; clear hK K; (with_reducible refine hK _ ?_); clear hK K
                | clear hK K; clear hK K; clear hK K; (with_reducible refine hK _ ?_); clear hK K
                | (with_reducible refine And.intro ?_ ?_); (· first | omega | decide)
                | (try first | ((with_reducible refine W_reg ?_ ?_); (· rfl)) | (with_reducible refine W_exit ?_) | (with_reducible refine W_ret ?_)); simp only [go_sem, Nat.reduceEqDiff, ↓reduceIte, reduceIte, Nat.reduceAdd, Nat.reduceMul, Nat.reduceSub, Nat.reduceLeDiff, Nat.reduceBEq, Nat.reduceBNe, Int.reduceNeg, Int.reduceLT, Int.reduceLE, Int.reduceAdd, Int.reduceSub, Int.reduceToNat, Int.reduceEq, Int.reduceBEq, reduceCtorEq, Int.reduceBNe, i0, i1, i6, i7, i8, i9, i10, i11, i20, w8, iM, bne_self_eq_false, beq_self_eq_true])
              refine stop_call (hRP _) trivial ?_
              repeat (first
                | with_reducible refine W_seq fun K hK => ?_
                | (with_reducible refine hK _ ?_); clear hK K
                | (with_reducible refine W_skipK hK ?_); clear hK K
                | (with_reducible refine W_condT ?_ ?_); (· rfl)
                | (with_reducible refine W_condF ?_ ?_); (· rfl)
                | with_reducible refine W_block ?_
                | clear hK K; (with_reducible refine hK _ ?_); clear hK K
                | clear hK K; clear hK K; (with_reducible refine hK _ ?_); clear hK K
                | clear hK K; clear hK K; clear hK K; (with_reducible refine hK _ ?_); clear hK K
                | (with_reducible refine And.intro ?_ ?_); (· first | omega | decide)
                | (try first | ((with_reducible refine W_reg ?_ ?_); (· rfl)) | (with_reducible refine W_exit ?_) | (with_reducible refine W_ret ?_)); simp only [go_sem, Nat.reduceEqDiff, ↓reduceIte, reduceIte, Nat.reduceAdd, Nat.reduceMul, Nat.reduceSub, Nat.reduceLeDiff, Nat.reduceBEq, Nat.reduceBNe, Int.reduceNeg, Int.reduceLT, Int.reduceLE, Int.reduceAdd, Int.reduceSub, Int.reduceToNat, Int.reduceEq, Int.reduceBEq, reduceCtorEq, Int.reduceBNe, i0, i1, i6, i7, i8, i9, i10, i11, i20, w8, iM, bne_self_eq_false, beq_self_eq_true, a1, a2, a3, hok, f5])
              refine stop_call (hHe _ _) ?_ ?_
              · simp only [go_sem, Nat.reduceEqDiff, ↓reduceIte, reduceIte, Nat.reduceAdd, Nat.reduceMul, Nat.reduceSub, Nat.reduceLeDiff, Nat.reduceBEq, Nat.reduceBNe, Int.reduceNeg, Int.reduceLT, Int.reduceLE, Int.reduceAdd, Int.reduceSub, Int.reduceToNat, Int.reduceEq, Int.reduceBEq, reduceCtorEq, Int.reduceBNe, iB]
              repeat (first
                | with_reducible refine W_seq fun K hK => ?_
                | (with_reducible refine hK _ ?_); clear hK K
                | (with_reducible refine W_skipK hK ?_); clear hK K
                | (with_reducible refine W_condT ?_ ?_); (· rfl)
                | (with_reducible refine W_condF ?_ ?_); (· rfl)
                | with_reducible refine W_block ?_
                | clear hK K; (with_reducible refine hK _ ?_); clear hK K
                | clear hK K; clear hK K; (with_reducible refine hK _ ?_); clear hK K
                | clear hK K; clear hK K; clear hK K; (with_reducible refine hK _ ?_); clear hK K
                | (with_reducible refine And.intro ?_ ?_); (· first | omega | decide)
                | (try first | ((with_reducible refine W_reg ?_ ?_); (· rfl)) | (with_reducible refine W_exit ?_) | (with_reducible refine W_ret ?_)); simp only [go_sem, Nat.reduceEqDiff, ↓reduceIte, reduceIte, Nat.reduceAdd, Nat.reduceMul, Nat.reduceSub, Nat.reduceLeDiff, Nat.reduceBEq, Nat.reduceBNe, Int.reduceNeg, Int.reduceLT, Int.reduceLE, Int.reduceAdd, Int.reduceSub, Int.reduceToNat, Int.reduceEq, Int.reduceBEq, reduceCtorEq, Int.reduceBNe, i0, i1, i6, i7, i8, i9, i10, i11, i20, w8, iM, bne_self_eq_false, beq_self_eq_true, a1, a2, a3, hok, f5])
              refine W_skip ?_
              exact hT2 _ ⟨seq, true, last, hint, by omega, i0, i1, i6, by exact i7, by exact i8, by exact i9, i10, i11, Nat.le_trans (show 8 ≤ t' by omega) (by simp <;> omega), by simp only [go_sem, Nat.reduceEqDiff, ↓reduceIte, reduceIte, Nat.reduceAdd, Nat.reduceMul, Nat.reduceSub, Nat.reduceLeDiff, Nat.reduceBEq, Nat.reduceBNe, Int.reduceNeg, Int.reduceLT, Int.reduceLE, Int.reduceAdd, Int.reduceSub, Int.reduceToNat, Int.reduceEq, Int.reduceBEq, reduceCtorEq, Int.reduceBNe, iB, Cl.enc, strA, Cm.enc], by simp only [go_sem, Nat.reduceEqDiff, ↓reduceIte, reduceIte, Nat.reduceAdd, Nat.reduceMul, Nat.reduceSub, Nat.reduceLeDiff, Nat.reduceBEq, Nat.reduceBNe, Int.reduceNeg, Int.reduceLT, Int.reduceLE, Int.reduceAdd, Int.reduceSub, Int.reduceToNat, Int.reduceEq, Int.reduceBEq, reduceCtorEq, Int.reduceBNe, iL, Cm.enc, strA], (by repeat (first | exact iH | refine HLe.fresh ?_ (hfr [_, _]) | refine HLe.fresh ?_ (hfr [_, _, _, _])))⟩
        | true =>
          by_cases c7 : er = 0
          · subst c7
            have hEq := fun id => eqReply_ok id rp (by unfold maxLen; omega)
            simp only [Rp.enc] at hEq
            have hg : g = ((rp, true), ⟨who, seq, false, last, hint⟩) := by rw [hG0]; simp_all
            subst hg; clear hG0
            simp only [Rp.enc] at hHe
            simp only [hok] at hHe iM
            repeat (first
              | with_reducible refine W_seq fun K hK => ?_
              | (with_reducible refine hK _ ?_); clear hK K
              | (with_reducible refine W_skipK hK ?_); clear hK K
              | (with_reducible refine W_condT ?_ ?_); (· rfl)
              | (with_reducible refine W_condF ?_ ?_); (· rfl)
              | with_reducible refine W_block ?_
              | clear hK K; (with_reducible refine hK _ ?_); clear hK K
              | clear hK K; clear hK K; (with_reducible refine hK _ ?_); clear hK K
              | clear hK K; clear hK K; clear hK K; (with_reducible refine hK _ ?_); clear hK K
              | (with_reducible refine And.intro ?_ ?_); (· first | omega | decide)
              | (try first | ((with_reducible refine W_reg ?_ ?_); (· rfl)) | (with_reducible refine W_exit ?_) | (with_reducible refine W_ret ?_)); simp only [go_sem, Nat.reduceEqDiff, ↓reduceIte, reduceIte, Nat.reduceAdd, Nat.reduceMul, Nat.reduceSub, Nat.reduceLeDiff, Nat.reduceBEq, Nat.reduceBNe, Int.reduceNeg, Int.reduceLT, Int.reduceLE, Int.reduceAdd, Int.reduceSub, Int.reduceToNat, Int.reduceEq, Int.reduceBEq, reduceCtorEq, Int.reduceBNe, i0, i1, i6, i7, i8, i9, i10, i11, i20, w8, iM, bne_self_eq_false, beq_self_eq_true])
            refine stop_call (hRP _) trivial ?_
            repeat (first
              | with_reducible refine W_seq fun K hK => ?_
              | (with_reducible refine hK _ ?_); clear hK K
              | (with_reducible refine W_skipK hK ?_); clear hK K
              | (with_reducible refine W_condT ?_ ?_); (· rfl)
              | (with_reducible refine W_condF ?_ ?_); (· rfl)
              | with_reducible refine W_block ?_
              | clear hK K; (with_reducible refine hK _ ?_); clear hK K
              | clear hK K; clear hK K; (with_reducible refine hK _ ?_); clear hK K
              | clear hK K; clear hK K; clear hK K; (with_reducible refine hK _ ?_); clear hK K
              | (with_reducible refine And.intro ?_ ?_); (· first | omega | decide)
              | (try first | ((with_reducible refine W_reg ?_ ?_); (· rfl)) | (with_reducible refine W_exit ?_) | (with_reducible refine W_ret ?_)); simp only [go_sem, Nat.reduceEqDiff, ↓reduceIte, reduceIte, Nat.reduceAdd, Nat.reduceMul, Nat.reduceSub, Nat.reduceLeDiff, Nat.reduceBEq, Nat.reduceBNe, Int.reduceNeg, Int.reduceLT, Int.reduceLE, Int.reduceAdd, Int.reduceSub, Int.reduceToNat, Int.reduceEq, Int.reduceBEq, reduceCtorEq, Int.reduceBNe, i0, i1, i6, i7, i8, i9, i10, i11, i20, w8, iM, bne_self_eq_false, beq_self_eq_true, a1, a2, a3, hok, neS, neS2])
            refine stop_call (hHe _ _) ?_ ?_
            · simp only [go_sem, Nat.reduceEqDiff, ↓reduceIte, reduceIte, Nat.reduceAdd, Nat.reduceMul, Nat.reduceSub, Nat.reduceLeDiff, Nat.reduceBEq, Nat.reduceBNe, Int.reduceNeg, Int.reduceLT, Int.reduceLE, Int.reduceAdd, Int.reduceSub, Int.reduceToNat, Int.reduceEq, Int.reduceBEq, reduceCtorEq, Int.reduceBNe, iB]
            repeat (first
              | with_reducible refine W_seq fun K hK => ?_
              | (with_reducible refine hK _ ?_); clear hK K
              | (with_reducible refine W_skipK hK ?_); clear hK K
              | (with_reducible refine W_condT ?_ ?_); (· rfl)
              | (with_reducible refine W_condF ?_ ?_); (· rfl)
              | with_reducible refine W_block ?_
              | clear hK K; (with_reducible refine hK _ ?_); clear hK K
              | clear hK K; clear hK K; (with_reducible refine hK _ ?_); clear hK K
              | clear hK K; clear hK K; clear hK K; (with_reducible refine hK _ ?_); clear hK K
              | (with_reducible refine And.intro ?_ ?_); (· first | omega | decide)
              | (try first | ((with_reducible refine W_reg ?_ ?_); (· rfl)) | (with_reducible refine W_exit ?_) | (with_reducible refine W_ret ?_)); simp only [go_sem, Nat.reduceEqDiff, ↓reduceIte, reduceIte, Nat.reduceAdd, Nat.reduceMul, Nat.reduceSub, Nat.reduceLeDiff, Nat.reduceBEq, Nat.reduceBNe, Int.reduceNeg, Int.reduceLT, Int.reduceLE, Int.reduceAdd, Int.reduceSub, Int.reduceToNat, Int.reduceEq, Int.reduceBEq, reduceCtorEq, Int.reduceBNe, i0, i1, i6, i7, i8, i9, i10, i11, i20, w8, iM, bne_self_eq_false, beq_self_eq_true, a1, a2, a3, hok, neS, neS2])
            refine stop_call (hRP _) trivial ?_
            repeat (first
              | with_reducible refine W_seq fun K hK => ?_
              | (with_reducible refine hK _ ?_); clear hK K
              | (with_reducible refine W_skipK hK ?_); clear hK K
              | (with_reducible refine W_condT ?_ ?_); (· rfl)
              | (with_reducible refine W_condF ?_ ?_); (· rfl)
              | with_reducible refine W_block ?_
              | clear hK K; (with_reducible refine hK _ ?_); clear hK K
              | clear hK K; clear hK K; (with_reducible refine hK _ ?_); clear hK K
              | clear hK K; clear hK K; clear hK K; (with_reducible refine hK _ ?_); clear hK K
              | (with_reducible refine And.intro ?_ ?_); (· first | omega | decide)
              | (try first | ((with_reducible refine W_reg ?_ ?_); (· rfl)) | (with_reducible refine W_exit ?_) | (with_reducible refine W_ret ?_)); simp only [go_sem, Nat.reduceEqDiff, ↓reduceIte, reduceIte, Nat.reduceAdd, Nat.reduceMul, Nat.reduceSub, Nat.reduceLeDiff, Nat.reduceBEq, Nat.reduceBNe, Int.reduceNeg, Int.reduceLT, Int.reduceLE, Int.reduceAdd, Int.reduceSub, Int.reduceToNat, Int.reduceEq, Int.reduceBEq, reduceCtorEq, Int.reduceBNe, i0, i1, i6, i7, i8, i9, i10, i11, i20, w8, iM, bne_self_eq_false, beq_self_eq_true, a1, a2, a3, hok, neS, neS2])
            refine stop_call (hEq _) trivial ?_
            repeat (first
              | with_reducible refine W_seq fun K hK => ?_
              | (with_reducible refine hK _ ?_); clear hK K
              | (with_reducible refine W_skipK hK ?_); clear hK K
              | (with_reducible refine W_condT ?_ ?_); (· rfl)
              | (with_reducible refine W_condF ?_ ?_); (· rfl)
              | with_reducible refine W_block ?_
              | clear hK K; (with_reducible refine hK _ ?_); clear hK K
              | clear hK K; clear hK K; (with_reducible refine hK _ ?_); clear hK K
              | clear hK K; clear hK K; clear hK K; (with_reducible refine hK _ ?_); clear hK K
              | (with_reducible refine And.intro ?_ ?_); (· first | omega | decide)
              | (try first | ((with_reducible refine W_reg ?_ ?_); (· rfl)) | (with_reducible refine W_exit ?_) | (with_reducible refine W_ret ?_)); simp only [go_sem, Nat.reduceEqDiff, ↓reduceIte, reduceIte, Nat.reduceAdd, Nat.reduceMul, Nat.reduceSub, Nat.reduceLeDiff, Nat.reduceBEq, Nat.reduceBNe, Int.reduceNeg, Int.reduceLT, Int.reduceLE, Int.reduceAdd, Int.reduceSub, Int.reduceToNat, Int.reduceEq, Int.reduceBEq, reduceCtorEq, Int.reduceBNe, i0, i1, i6, i7, i8, i9, i10, i11, i20, w8, iM, bne_self_eq_false, beq_self_eq_true, a1, a2, a3, hok, neS, neS2])
            refine W_skip ?_
            exact hT2 _ ⟨seq, false, last, hint, by omega, i0, i1, i6, by exact i7, by rfl, by exact i9, i10, i11, Nat.le_trans (show 8 ≤ t' by omega) (by simp <;> omega), by simp only [go_sem, Nat.reduceEqDiff, ↓reduceIte, reduceIte, Nat.reduceAdd, Nat.reduceMul, Nat.reduceSub, Nat.reduceLeDiff, Nat.reduceBEq, Nat.reduceBNe, Int.reduceNeg, Int.reduceLT, Int.reduceLE, Int.reduceAdd, Int.reduceSub, Int.reduceToNat, Int.reduceEq, Int.reduceBEq, reduceCtorEq, Int.reduceBNe, iB, Cl.enc, strA, Cm.enc], by simp only [go_sem, Nat.reduceEqDiff, ↓reduceIte, reduceIte, Nat.reduceAdd, Nat.reduceMul, Nat.reduceSub, Nat.reduceLeDiff, Nat.reduceBEq, Nat.reduceBNe, Int.reduceNeg, Int.reduceLT, Int.reduceLE, Int.reduceAdd, Int.reduceSub, Int.reduceToNat, Int.reduceEq, Int.reduceBEq, reduceCtorEq, Int.reduceBNe, iL, Cm.enc, strA], (by repeat (first | exact iH | refine HLe.fresh ?_ (hfr [_, _]) | refine HLe.fresh ?_ (hfr [_, _, _, _])))⟩
          · have f7 : (er == 0) = false := by simpa using c7
            have hg : g = ((Rp.zero, false), ⟨who, seq, true, last, hint⟩) := by rw [hG0]; simp_all
            subst hg; clear hG0
            simp only [Rp.zero, Rp.enc, sq_none] at hHe
            simp only [hok] at hHe iM
            repeat (first
              | with_reducible refine W_seq fun K hK => ?_
              | (with_reducible refine hK _ ?_); clear hK K
              | (with_reducible refine W_skipK hK ?_); clear hK K
              | (with_reducible refine W_condT ?_ ?_); (· rfl)
              | (with_reducible refine W_condF ?_ ?_); (· rfl)
              | with_reducible refine W_block ?_
              | clear hK K; (with_reducible refine hK _ ?_); clear hK K
              | clear hK K; clear hK K; (with_reducible refine hK _ ?_); clear hK K
              | clear hK K; clear hK K; clear hK K; (with_reducible refine hK _ ?_); clear hK K
              | (with_reducible refine And.intro ?_ ?_); (· first | omega | decide)
              | (try first | ((with_reducible refine W_reg ?_ ?_); (· rfl)) | (with_reducible refine W_exit ?_) | (with_reducible refine W_ret ?_)); simp only [go_sem, Nat.reduceEqDiff, ↓reduceIte, reduceIte, Nat.reduceAdd, Nat.reduceMul, Nat.reduceSub, Nat.reduceLeDiff, Nat.reduceBEq, Nat.reduceBNe, Int.reduceNeg, Int.reduceLT, Int.reduceLE, Int.reduceAdd, Int.reduceSub, Int.reduceToNat, Int.reduceEq, Int.reduceBEq, reduceCtorEq, Int.reduceBNe, i0, i1, i6, i7, i8, i9, i10, i11, i20, w8, iM, bne_self_eq_false, beq_self_eq_true])
            refine stop_call (hRP _) trivial ?_
            repeat (first
              | with_reducible refine W_seq fun K hK => ?_
              | (with_reducible refine hK _ ?_); clear hK K
              | (with_reducible refine W_skipK hK ?_); clear hK K
              | (with_reducible refine W_condT ?_ ?_); (· rfl)
              | (with_reducible refine W_condF ?_ ?_); (· rfl)
              | with_reducible refine W_block ?_
              | clear hK K; (with_reducible refine hK _ ?_); clear hK K
              | clear hK K; clear hK K; (with_reducible refine hK _ ?_); clear hK K
              | clear hK K; clear hK K; clear hK K; (with_reducible refine hK _ ?_); clear hK K
              | (with_reducible refine And.intro ?_ ?_); (· first | omega | decide)
              | (try first | ((with_reducible refine W_reg ?_ ?_); (· rfl)) | (with_reducible refine W_exit ?_) | (with_reducible refine W_ret ?_)); simp only [go_sem, Nat.reduceEqDiff, ↓reduceIte, reduceIte, Nat.reduceAdd, Nat.reduceMul, Nat.reduceSub, Nat.reduceLeDiff, Nat.reduceBEq, Nat.reduceBNe, Int.reduceNeg, Int.reduceLT, Int.reduceLE, Int.reduceAdd, Int.reduceSub, Int.reduceToNat, Int.reduceEq, Int.reduceBEq, reduceCtorEq, Int.reduceBNe, i0, i1, i6, i7, i8, i9, i10, i11, i20, w8, iM, bne_self_eq_false, beq_self_eq_true, a1, a2, a3, hok, f7])
            refine stop_call (hHe _ _) ?_ ?_
            · simp only [go_sem, Nat.reduceEqDiff, ↓reduceIte, reduceIte, Nat.reduceAdd, Nat.reduceMul, Nat.reduceSub, Nat.reduceLeDiff, Nat.reduceBEq, Nat.reduceBNe, Int.reduceNeg, Int.reduceLT, Int.reduceLE, Int.reduceAdd, Int.reduceSub, Int.reduceToNat, Int.reduceEq, Int.reduceBEq, reduceCtorEq, Int.reduceBNe, iB]
            repeat (first
              | with_reducible refine W_seq fun K hK => ?_
              | (with_reducible refine hK _ ?_); clear hK K
              | (with_reducible refine W_skipK hK ?_); clear hK K
              | (with_reducible refine W_condT ?_ ?_); (· rfl)
              | (with_reducible refine W_condF ?_ ?_); (· rfl)
              | with_reducible refine W_block ?_
              | clear hK K; (with_reducible refine hK _ ?_); clear hK K
              | clear hK K; clear hK K; (with_reducible refine hK _ ?_); clear hK K
              | clear hK K; clear hK K; clear hK K; (with_reducible refine hK _ ?_); clear hK K
              | (with_reducible refine And.intro ?_ ?_); (· first | omega | decide)
              | (try first | ((with_reducible refine W_reg ?_ ?_); (· rfl)) | (with_reducible refine W_exit ?_) | (with_reducible refine W_ret ?_)); simp only [go_sem, Nat.reduceEqDiff, ↓reduceIte, reduceIte, Nat.reduceAdd, Nat.reduceMul, Nat.reduceSub, Nat.reduceLeDiff, Nat.reduceBEq, Nat.reduceBNe, Int.reduceNeg, Int.reduceLT, Int.reduceLE, Int.reduceAdd, Int.reduceSub, Int.reduceToNat, Int.reduceEq, Int.reduceBEq, reduceCtorEq, Int.reduceBNe, i0, i1, i6, i7, i8, i9, i10, i11, i20, w8, iM, bne_self_eq_false, beq_self_eq_true, a1, a2, a3, hok, f7])
            refine W_skip ?_
            exact hT2 _ ⟨seq, true, last, hint, by omega, i0, i1, i6, by exact i7, by exact i8, by exact i9, i10, i11, Nat.le_trans (show 8 ≤ t' by omega) (by simp <;> omega), by simp only [go_sem, Nat.reduceEqDiff, ↓reduceIte, reduceIte, Nat.reduceAdd, Nat.reduceMul, Nat.reduceSub, Nat.reduceLeDiff, Nat.reduceBEq, Nat.reduceBNe, Int.reduceNeg, Int.reduceLT, Int.reduceLE, Int.reduceAdd, Int.reduceSub, Int.reduceToNat, Int.reduceEq, Int.reduceBEq, reduceCtorEq, Int.reduceBNe, iB, Cl.enc, strA, Cm.enc], by simp only [go_sem, Nat.reduceEqDiff, ↓reduceIte, reduceIte, Nat.reduceAdd, Nat.reduceMul, Nat.reduceSub, Nat.reduceLeDiff, Nat.reduceBEq, Nat.reduceBNe, Int.reduceNeg, Int.reduceLT, Int.reduceLE, Int.reduceAdd, Int.reduceSub, Int.reduceToNat, Int.reduceEq, Int.reduceBEq, reduceCtorEq, Int.reduceBNe, iL, Cm.enc, strA], (by repeat (first | exact iH | refine HLe.fresh ?_ (hfr [_, _]) | refine HLe.fresh ?_ (hfr [_, _, _, _])))⟩
      clear hK
      have hK9 := tail
      clear tail
      have hRep := fun id => reply_ok id R ⟨by unfold i64R; omega, by omega, names_len hrn hrs, fun x hx => Nat.le_trans (hrs x hx) (by decide)⟩
      have hrb := repB_len R
      have hnl := names_len hrn hrs
      simp only [Rp.enc] at hRep
      by_cases e3 : y.n > 0
      · have fe3 : decide (y.n > 0) = true := by simpa using e3
        repeat (first
          | with_reducible refine W_seq fun K hK => ?_
          | (with_reducible refine hK _ ?_); clear hK K
          | (with_reducible refine W_skipK hK ?_); clear hK K
          | (with_reducible refine W_condT ?_ ?_); (· rfl)
          | (with_reducible refine W_condF ?_ ?_); (· rfl)
          | with_reducible refine W_block ?_
          | clear hK K; (with_reducible refine hK _ ?_); clear hK K
          | clear hK K; clear hK K; (with_reducible refine hK _ ?_); clear hK K
          | clear hK K; clear hK K; clear hK K; (with_reducible refine hK _ ?_); clear hK K
          | (with_reducible refine And.intro ?_ ?_); (· first | omega | decide)
          | (try first | ((with_reducible refine W_reg ?_ ?_); (· rfl)) | (with_reducible refine W_exit ?_) | (with_reducible refine W_ret ?_)); simp only [go_sem, Nat.reduceEqDiff, ↓reduceIte, reduceIte, Nat.reduceAdd, Nat.reduceMul, Nat.reduceSub, Nat.reduceLeDiff, Nat.reduceBEq, Nat.reduceBNe, Int.reduceNeg, Int.reduceLT, Int.reduceLE, Int.reduceAdd, Int.reduceSub, Int.reduceToNat, Int.reduceEq, Int.reduceBEq, reduceCtorEq, Int.reduceBNe, h0, h1, h6, h7, h8, h9, h10, h11, fe3, neS, neS2])
        refine stop_call (hRep _) trivial ?_
        repeat (first
          | with_reducible refine W_seq fun K hK => ?_
          | (with_reducible refine hK _ ?_); clear hK K
          | (with_reducible refine W_skipK hK ?_); clear hK K
          | (with_reducible refine W_condT ?_ ?_); (· rfl)
          | (with_reducible refine W_condF ?_ ?_); (· rfl)
          | with_reducible refine W_block ?_
          | clear hK K; (with_reducible refine hK _ ?_); clear hK K
          | clear hK K; clear hK K; (with_reducible refine hK _ ?_); clear hK K
          | clear hK K; clear hK K; clear hK K; (with_reducible refine hK _ ?_); clear hK K
          | (with_reducible refine And.intro ?_ ?_); (· first | omega | decide)
          | (try first | ((with_reducible refine W_reg ?_ ?_); (· rfl)) | (with_reducible refine W_exit ?_) | (with_reducible refine W_ret ?_)); simp only [go_sem, Nat.reduceEqDiff, ↓reduceIte, reduceIte, Nat.reduceAdd, Nat.reduceMul, Nat.reduceSub, Nat.reduceLeDiff, Nat.reduceBEq, Nat.reduceBNe, Int.reduceNeg, Int.reduceLT, Int.reduceLE, Int.reduceAdd, Int.reduceSub, Int.reduceToNat, Int.reduceEq, Int.reduceBEq, reduceCtorEq, Int.reduceBNe, h0, h1, h6, h7, h8, h9, h10, h11, fe3, neS, neS2])
        exact hK9 _ _ _ (some (repB R)) (by simp only [sqL]; omega) h0 h1 h6 h7 h8 h9 h10 h11 rfl (by omega) (by simp only [go_sem, Nat.reduceEqDiff, ↓reduceIte, reduceIte, Nat.reduceAdd, Nat.reduceMul, Nat.reduceSub, Nat.reduceLeDiff, Nat.reduceBEq, Nat.reduceBNe, Int.reduceNeg, Int.reduceLT, Int.reduceLE, Int.reduceAdd, Int.reduceSub, Int.reduceToNat, Int.reduceEq, Int.reduceBEq, reduceCtorEq, Int.reduceBNe, hB, neS, neS2]) (by simp only [go_sem, Nat.reduceEqDiff, ↓reduceIte, reduceIte, Nat.reduceAdd, Nat.reduceMul, Nat.reduceSub, Nat.reduceLeDiff, Nat.reduceBEq, Nat.reduceBNe, Int.reduceNeg, Int.reduceLT, Int.reduceLE, Int.reduceAdd, Int.reduceSub, Int.reduceToNat, Int.reduceEq, Int.reduceBEq, reduceCtorEq, Int.reduceBNe, hL, neS, neS2]) (by simp only [go_sem, Nat.reduceEqDiff, ↓reduceIte, reduceIte, Nat.reduceAdd, Nat.reduceMul, Nat.reduceSub, Nat.reduceLeDiff, Nat.reduceBEq, Nat.reduceBNe, Int.reduceNeg, Int.reduceLT, Int.reduceLE, Int.reduceAdd, Int.reduceSub, Int.reduceToNat, Int.reduceEq, Int.reduceBEq, reduceCtorEq, Int.reduceBNe, Mg.enc, neS, neS2]) (by repeat (first | exact hle | refine HLe.fresh ?_ (hfr [_, _]) | refine HLe.fresh ?_ (hfr [_, _, _, _])))
      · have fe3 : decide (y.n > 0) = false := by simpa using e3
        repeat (first
          | with_reducible refine W_seq fun K hK => ?_
          | (with_reducible refine hK _ ?_); clear hK K
          | (with_reducible refine W_skipK hK ?_); clear hK K
          | (with_reducible refine W_condT ?_ ?_); (· rfl)
          | (with_reducible refine W_condF ?_ ?_); (· rfl)
          | with_reducible refine W_block ?_
          | clear hK K; (with_reducible refine hK _ ?_); clear hK K
          | clear hK K; clear hK K; (with_reducible refine hK _ ?_); clear hK K
          | clear hK K; clear hK K; clear hK K; (with_reducible refine hK _ ?_); clear hK K
          | (with_reducible refine And.intro ?_ ?_); (· first | omega | decide)
          | (try first | ((with_reducible refine W_reg ?_ ?_); (· rfl)) | (with_reducible refine W_exit ?_) | (with_reducible refine W_ret ?_)); simp only [go_sem, Nat.reduceEqDiff, ↓reduceIte, reduceIte, Nat.reduceAdd, Nat.reduceMul, Nat.reduceSub, Nat.reduceLeDiff, Nat.reduceBEq, Nat.reduceBNe, Int.reduceNeg, Int.reduceLT, Int.reduceLE, Int.reduceAdd, Int.reduceSub, Int.reduceToNat, Int.reduceEq, Int.reduceBEq, reduceCtorEq, Int.reduceBNe, h0, h1, h6, h7, h8, h9, h10, h11, fe3, neS, neS2])
        exact W_skip (hK9 _ _ _ M.data (by omega) h0 h1 h6 h7 h8 h9 h10 h11 rfl (by omega) (by simp only [go_sem, Nat.reduceEqDiff, ↓reduceIte, reduceIte, Nat.reduceAdd, Nat.reduceMul, Nat.reduceSub, Nat.reduceLeDiff, Nat.reduceBEq, Nat.reduceBNe, Int.reduceNeg, Int.reduceLT, Int.reduceLE, Int.reduceAdd, Int.reduceSub, Int.reduceToNat, Int.reduceEq, Int.reduceBEq, reduceCtorEq, Int.reduceBNe, hB, neS, neS2]) (by simp only [go_sem, Nat.reduceEqDiff, ↓reduceIte, reduceIte, Nat.reduceAdd, Nat.reduceMul, Nat.reduceSub, Nat.reduceLeDiff, Nat.reduceBEq, Nat.reduceBNe, Int.reduceNeg, Int.reduceLT, Int.reduceLE, Int.reduceAdd, Int.reduceSub, Int.reduceToNat, Int.reduceEq, Int.reduceBEq, reduceCtorEq, Int.reduceBNe, hL, neS, neS2]) (by simp only [go_sem, Nat.reduceEqDiff, ↓reduceIte, reduceIte, Nat.reduceAdd, Nat.reduceMul, Nat.reduceSub, Nat.reduceLeDiff, Nat.reduceBEq, Nat.reduceBNe, Int.reduceNeg, Int.reduceLT, Int.reduceLE, Int.reduceAdd, Int.reduceSub, Int.reduceToNat, Int.reduceEq, Int.reduceBEq, reduceCtorEq, Int.reduceBNe, Mg.enc, neS, neS2]) (by repeat (first | exact hle | refine HLe.fresh ?_ (hfr [_, _]) | refine HLe.fresh ?_ (hfr [_, _, _, _]))))
    · have g2 : decide ((j : Int) < 40) = false := by simp; omega
      repeat (first
        | with_reducible refine W_seq fun K hK => ?_
        | (with_reducible refine hK _ ?_); clear hK K
        | (with_reducible refine W_skipK hK ?_); clear hK K
        | (with_reducible refine W_condT ?_ ?_); (· rfl)
        | (with_reducible refine W_condF ?_ ?_); (· rfl)
        | with_reducible refine W_block ?_
        | clear hK K; (with_reducible refine hK _ ?_); clear hK K
        | clear hK K; clear hK K; (with_reducible refine hK _ ?_); clear hK K
        | clear hK K; clear hK K; clear hK K; (with_reducible refine hK _ ?_); clear hK K
        | (with_reducible refine And.intro ?_ ?_); (· first | omega | decide)
        | (try first | ((with_reducible refine W_reg ?_ ?_); (· rfl)) | (with_reducible refine W_exit ?_) | (with_reducible refine W_ret ?_)); simp only [go_sem, Nat.reduceEqDiff, ↓reduceIte, reduceIte, Nat.reduceAdd, Nat.reduceMul, Nat.reduceSub, Nat.reduceLeDiff, Nat.reduceBEq, Nat.reduceBNe, Int.reduceNeg, Int.reduceLT, Int.reduceLE, Int.reduceAdd, Int.reduceSub, Int.reduceToNat, Int.reduceEq, Int.reduceBEq, reduceCtorEq, Int.reduceBNe, h0, h1, h6, h7, h11, g1, g2])
      refine ends_ret ?_ (hle)
      simp only [go_sem, Nat.reduceEqDiff, ↓reduceIte, reduceIte, Nat.reduceAdd, Nat.reduceMul, Nat.reduceSub, Nat.reduceLeDiff, Nat.reduceBEq, Nat.reduceBNe, Int.reduceNeg, Int.reduceLT, Int.reduceLE, Int.reduceAdd, Int.reduceSub, Int.reduceToNat, Int.reduceEq, Int.reduceBEq, reduceCtorEq, Int.reduceBNe, Try.f5]
  · have g1 : decide ((j : Int) < ((sqL ops).length : Int)) = false := by simp; omega
    repeat (first
      | with_reducible refine W_seq fun K hK => ?_
      | (with_reducible refine hK _ ?_); clear hK K
      | (with_reducible refine W_skipK hK ?_); clear hK K
      | (with_reducible refine W_condT ?_ ?_); (· rfl)
      | (with_reducible refine W_condF ?_ ?_); (· rfl)
      | with_reducible refine W_block ?_
      | clear hK K; (with_reducible refine hK _ ?_); clear hK K
      | clear hK K; clear hK K; (with_reducible refine hK _ ?_); clear hK K
      | clear hK K; clear hK K; clear hK K; (with_reducible refine hK _ ?_); clear hK K
      | (with_reducible refine And.intro ?_ ?_); (· first | omega | decide)
      | (try first | ((with_reducible refine W_reg ?_ ?_); (· rfl)) | (with_reducible refine W_exit ?_) | (with_reducible refine W_ret ?_)); simp only [go_sem, Nat.reduceEqDiff, ↓reduceIte, reduceIte, Nat.reduceAdd, Nat.reduceMul, Nat.reduceSub, Nat.reduceLeDiff, Nat.reduceBEq, Nat.reduceBNe, Int.reduceNeg, Int.reduceLT, Int.reduceLE, Int.reduceAdd, Int.reduceSub, Int.reduceToNat, Int.reduceEq, Int.reduceBEq, reduceCtorEq, Int.reduceBNe, h0, h1, h6, h7, h11, g1])
    refine ends_ret ?_ (hle)
    simp only [go_sem, Nat.reduceEqDiff, ↓reduceIte, reduceIte, Nat.reduceAdd, Nat.reduceMul, Nat.reduceSub, Nat.reduceLeDiff, Nat.reduceBEq, Nat.reduceBNe, Int.reduceNeg, Int.reduceLT, Int.reduceLE, Int.reduceAdd, Int.reduceSub, Int.reduceToNat, Int.reduceEq, Int.reduceBEq, reduceCtorEq, Int.reduceBNe, Try.f5]
end Go.Proofs.Ytmpndjpaelcnkaa
