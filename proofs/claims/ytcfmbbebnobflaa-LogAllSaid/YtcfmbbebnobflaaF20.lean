/- Compact, in the log and in the reference's. -/
import Derived.Test.YtcfmbbebnobflaaF19
set_option linter.unusedVariables false
set_option linter.unusedSimpArgs false
namespace Go.Proofs.Ytcfmbbebnobflaa
open Go Go.SX

def compOk (s : Snp) (es : List Ent) (i : Int) : Prop := s.i < i ∧ i ≤ lastL s es
def dropO (k : Nat) (o : Option (List Ent)) : Option (List Ent) := o.map (·.drop k)
theorem sqL_dropO (k : Nat) (o : Option (List Ent)) : sqL (dropO k o) = (sqL o).drop k := by cases o <;> simp [dropO, sqL]
noncomputable def compS (s : Snp) (es : List Ent) (i : Int) (d : Option (List UInt8)) : Snp := { i := i, t := (termL s es i).1, c := confA s es i, d := d }

set_option maxRecDepth 8000 in
theorem f13_bad (id b : BId) (s : Snp) (o : Option (List Ent)) (i : Int) (d : Option (List UInt8)) (hs : 0 ≤ s.i) (hl : lastL s (sqL o) ≤ 4611686018427387904) (hbad : ¬ compOk s (sqL o) i) :
    CallF Try.prog 13 [.ptr b 0, .p (.int .i64 i), sq bE d] id [(b, .cells 53 (lgC s o))] (.p (.bool false)) [] := by
  refine ⟨⟨_, Try.func13, by decide, rfl⟩, (by simp <;> repeat first | exact ⟨[_, _], rfl⟩ | constructor), fun h hr => callsA_of_W Try.func13 rfl fun hfr => ?_⟩
  have hb := hr.1; simp only [lgC] at hb
  have hl2 : lastL s (sqL o) = s.i + (sqL o).length := rfl
  by_cases c1 : i ≤ s.i
  · have f1 : decide (i ≤ s.i) = true := by simpa using c1
    repeat (first
      | with_reducible refine W_seq fun K hK => ?_
      | ((with_reducible refine W_reg ?_ ?_); (· rfl); simp only [go_sem, Nat.reduceEqDiff, ↓reduceIte, reduceIte, Nat.reduceAdd, Nat.reduceMul, Nat.reduceSub, Nat.reduceLeDiff, Nat.reduceBEq, Nat.reduceBNe, Int.reduceNeg, Int.reduceLT, Int.reduceLE, Int.reduceAdd, Int.reduceSub, Int.reduceToNat, Int.reduceEq, Int.reduceBEq, reduceCtorEq, List.cons.injEq, Int.reduceBNe, Int.sub_zero, decide_true, decide_false, false_and, and_false, hb, f1])
      | ((with_reducible refine hK _ ?_); clear hK K)
      | (refine W_skip (hK _ ?_); clear hK K)
      | (refine W_cond rfl (fun hc => ?_) (fun hc => ?_); (· cases hc); clear hc)
      | (refine W_cond rfl (fun hc => ?_) (fun hc => ?_); rotate_left; (· cases hc); clear hc)
      | with_reducible refine W_block ?_
      | ((with_reducible refine W_exit ?_); simp only [go_sem, Nat.reduceEqDiff, ↓reduceIte, reduceIte, Nat.reduceAdd, Nat.reduceMul, Nat.reduceSub, Nat.reduceLeDiff, Nat.reduceBEq, Nat.reduceBNe, Int.reduceNeg, Int.reduceLT, Int.reduceLE, Int.reduceAdd, Int.reduceSub, Int.reduceToNat, Int.reduceEq, Int.reduceBEq, reduceCtorEq, List.cons.injEq, Int.reduceBNe, Int.sub_zero, decide_true, decide_false, false_and, and_false, hb, f1])
      | ((with_reducible refine W_ret ?_); simp only [go_sem, Nat.reduceEqDiff, ↓reduceIte, reduceIte, Nat.reduceAdd, Nat.reduceMul, Nat.reduceSub, Nat.reduceLeDiff, Nat.reduceBEq, Nat.reduceBNe, Int.reduceNeg, Int.reduceLT, Int.reduceLE, Int.reduceAdd, Int.reduceSub, Int.reduceToNat, Int.reduceEq, Int.reduceBEq, reduceCtorEq, List.cons.injEq, Int.reduceBNe, Int.sub_zero, decide_true, decide_false, false_and, and_false, hb, f1])
      | (clear hK K; (with_reducible refine hK _ ?_); clear hK K)
      | (clear hK K; clear hK K; (with_reducible refine hK _ ?_); clear hK K)
      | (clear hK K; clear hK K; clear hK K; (with_reducible refine hK _ ?_); clear hK K)
      | refine And.intro (by decide) (And.intro (by decide) ?_)
      | refine And.intro (by omega) ?_
      | simp only [go_sem, Nat.reduceEqDiff, ↓reduceIte, reduceIte, Nat.reduceAdd, Nat.reduceMul, Nat.reduceSub, Nat.reduceLeDiff, Nat.reduceBEq, Nat.reduceBNe, Int.reduceNeg, Int.reduceLT, Int.reduceLE, Int.reduceAdd, Int.reduceSub, Int.reduceToNat, Int.reduceEq, Int.reduceBEq, reduceCtorEq, List.cons.injEq, Int.reduceBNe, Int.sub_zero, decide_true, decide_false, false_and, and_false, hb, f1])
    refine ends_ret ?_ (by (repeat first | exact HLe.refl _ | refine HLe.set ?_ _ _ | refine HLe.fresh ?_ (hfr [_, _])))
    simp only [go_sem, Nat.reduceEqDiff, ↓reduceIte, reduceIte, Nat.reduceAdd, Nat.reduceMul, Nat.reduceSub, Nat.reduceLeDiff, Nat.reduceBEq, Nat.reduceBNe, Int.reduceNeg, Int.reduceLT, Int.reduceLE, Int.reduceAdd, Int.reduceSub, Int.reduceToNat, Int.reduceEq, Int.reduceBEq, reduceCtorEq, List.cons.injEq, Int.reduceBNe, Int.sub_zero, decide_true, decide_false, false_and, and_false, Try.f13]
  have f1 : decide (i ≤ s.i) = false := by simpa using c1
  have f2 : decide (i > lastL s (sqL o)) = true := by simp; by_cases q : i ≤ lastL s (sqL o); exact absurd ⟨by omega, q⟩ hbad; omega
  repeat (first
    | with_reducible refine W_seq fun K hK => ?_
    | ((with_reducible refine W_reg ?_ ?_); (· rfl); simp only [go_sem, Nat.reduceEqDiff, ↓reduceIte, reduceIte, Nat.reduceAdd, Nat.reduceMul, Nat.reduceSub, Nat.reduceLeDiff, Nat.reduceBEq, Nat.reduceBNe, Int.reduceNeg, Int.reduceLT, Int.reduceLE, Int.reduceAdd, Int.reduceSub, Int.reduceToNat, Int.reduceEq, Int.reduceBEq, reduceCtorEq, List.cons.injEq, Int.reduceBNe, Int.sub_zero, decide_true, decide_false, false_and, and_false, hb, f1])
    | ((with_reducible refine hK _ ?_); clear hK K)
    | (refine W_skip (hK _ ?_); clear hK K)
    | (refine W_cond rfl (fun hc => ?_) (fun hc => ?_); (· cases hc); clear hc)
    | (refine W_cond rfl (fun hc => ?_) (fun hc => ?_); rotate_left; (· cases hc); clear hc)
    | with_reducible refine W_block ?_
    | ((with_reducible refine W_exit ?_); simp only [go_sem, Nat.reduceEqDiff, ↓reduceIte, reduceIte, Nat.reduceAdd, Nat.reduceMul, Nat.reduceSub, Nat.reduceLeDiff, Nat.reduceBEq, Nat.reduceBNe, Int.reduceNeg, Int.reduceLT, Int.reduceLE, Int.reduceAdd, Int.reduceSub, Int.reduceToNat, Int.reduceEq, Int.reduceBEq, reduceCtorEq, List.cons.injEq, Int.reduceBNe, Int.sub_zero, decide_true, decide_false, false_and, and_false, hb, f1])
    | ((with_reducible refine W_ret ?_); simp only [go_sem, Nat.reduceEqDiff, ↓reduceIte, reduceIte, Nat.reduceAdd, Nat.reduceMul, Nat.reduceSub, Nat.reduceLeDiff, Nat.reduceBEq, Nat.reduceBNe, Int.reduceNeg, Int.reduceLT, Int.reduceLE, Int.reduceAdd, Int.reduceSub, Int.reduceToNat, Int.reduceEq, Int.reduceBEq, reduceCtorEq, List.cons.injEq, Int.reduceBNe, Int.sub_zero, decide_true, decide_false, false_and, and_false, hb, f1])
    | (clear hK K; (with_reducible refine hK _ ?_); clear hK K)
    | (clear hK K; clear hK K; (with_reducible refine hK _ ?_); clear hK K)
    | (clear hK K; clear hK K; clear hK K; (with_reducible refine hK _ ?_); clear hK K)
    | refine And.intro (by decide) (And.intro (by decide) ?_)
    | refine And.intro (by omega) ?_
    | simp only [go_sem, Nat.reduceEqDiff, ↓reduceIte, reduceIte, Nat.reduceAdd, Nat.reduceMul, Nat.reduceSub, Nat.reduceLeDiff, Nat.reduceBEq, Nat.reduceBNe, Int.reduceNeg, Int.reduceLT, Int.reduceLE, Int.reduceAdd, Int.reduceSub, Int.reduceToNat, Int.reduceEq, Int.reduceBEq, reduceCtorEq, List.cons.injEq, Int.reduceBNe, Int.sub_zero, decide_true, decide_false, false_and, and_false, hb, f1])
  refine stop_call (f19_ok _ b s o (by omega)) ?_ ?_
  · first | trivial | (simp only [go_sem, Nat.reduceEqDiff, ↓reduceIte, reduceIte, Nat.reduceAdd, Nat.reduceMul, Nat.reduceSub, Nat.reduceLeDiff, Nat.reduceBEq, Nat.reduceBNe, Int.reduceNeg, Int.reduceLT, Int.reduceLE, Int.reduceAdd, Int.reduceSub, Int.reduceToNat, Int.reduceEq, Int.reduceBEq, reduceCtorEq, List.cons.injEq, Int.reduceBNe, Int.sub_zero, decide_true, decide_false, false_and, and_false, hb, lgC]; done)
  repeat (first
    | with_reducible refine W_seq fun K hK => ?_
    | ((with_reducible refine W_reg ?_ ?_); (· rfl); simp only [go_sem, Nat.reduceEqDiff, ↓reduceIte, reduceIte, Nat.reduceAdd, Nat.reduceMul, Nat.reduceSub, Nat.reduceLeDiff, Nat.reduceBEq, Nat.reduceBNe, Int.reduceNeg, Int.reduceLT, Int.reduceLE, Int.reduceAdd, Int.reduceSub, Int.reduceToNat, Int.reduceEq, Int.reduceBEq, reduceCtorEq, List.cons.injEq, Int.reduceBNe, Int.sub_zero, decide_true, decide_false, false_and, and_false, f2])
    | ((with_reducible refine hK _ ?_); clear hK K)
    | (refine W_skip (hK _ ?_); clear hK K)
    | (refine W_cond rfl (fun hc => ?_) (fun hc => ?_); (· cases hc); clear hc)
    | (refine W_cond rfl (fun hc => ?_) (fun hc => ?_); rotate_left; (· cases hc); clear hc)
    | with_reducible refine W_block ?_
    | ((with_reducible refine W_exit ?_); simp only [go_sem, Nat.reduceEqDiff, ↓reduceIte, reduceIte, Nat.reduceAdd, Nat.reduceMul, Nat.reduceSub, Nat.reduceLeDiff, Nat.reduceBEq, Nat.reduceBNe, Int.reduceNeg, Int.reduceLT, Int.reduceLE, Int.reduceAdd, Int.reduceSub, Int.reduceToNat, Int.reduceEq, Int.reduceBEq, reduceCtorEq, List.cons.injEq, Int.reduceBNe, Int.sub_zero, decide_true, decide_false, false_and, and_false, f2])
    | ((with_reducible refine W_ret ?_); simp only [go_sem, Nat.reduceEqDiff, ↓reduceIte, reduceIte, Nat.reduceAdd, Nat.reduceMul, Nat.reduceSub, Nat.reduceLeDiff, Nat.reduceBEq, Nat.reduceBNe, Int.reduceNeg, Int.reduceLT, Int.reduceLE, Int.reduceAdd, Int.reduceSub, Int.reduceToNat, Int.reduceEq, Int.reduceBEq, reduceCtorEq, List.cons.injEq, Int.reduceBNe, Int.sub_zero, decide_true, decide_false, false_and, and_false, f2])
    | (clear hK K; (with_reducible refine hK _ ?_); clear hK K)
    | (clear hK K; clear hK K; (with_reducible refine hK _ ?_); clear hK K)
    | (clear hK K; clear hK K; clear hK K; (with_reducible refine hK _ ?_); clear hK K)
    | refine And.intro (by decide) (And.intro (by decide) ?_)
    | refine And.intro (by omega) ?_
    | simp only [go_sem, Nat.reduceEqDiff, ↓reduceIte, reduceIte, Nat.reduceAdd, Nat.reduceMul, Nat.reduceSub, Nat.reduceLeDiff, Nat.reduceBEq, Nat.reduceBNe, Int.reduceNeg, Int.reduceLT, Int.reduceLE, Int.reduceAdd, Int.reduceSub, Int.reduceToNat, Int.reduceEq, Int.reduceBEq, reduceCtorEq, List.cons.injEq, Int.reduceBNe, Int.sub_zero, decide_true, decide_false, false_and, and_false, f2])
  refine ends_ret ?_ (by (repeat first | exact HLe.refl _ | refine HLe.set ?_ _ _ | refine HLe.fresh ?_ (hfr [_, _])))
  simp only [go_sem, Nat.reduceEqDiff, ↓reduceIte, reduceIte, Nat.reduceAdd, Nat.reduceMul, Nat.reduceSub, Nat.reduceLeDiff, Nat.reduceBEq, Nat.reduceBNe, Int.reduceNeg, Int.reduceLT, Int.reduceLE, Int.reduceAdd, Int.reduceSub, Int.reduceToNat, Int.reduceEq, Int.reduceBEq, reduceCtorEq, List.cons.injEq, Int.reduceBNe, Int.sub_zero, decide_true, decide_false, false_and, and_false, Try.f13]

set_option maxRecDepth 8000 in
theorem f14_bad (id b : BId) (s : Snp) (o : Option (List Ent)) (i : Int) (d : Option (List UInt8)) (hs : 0 ≤ s.i) (hl : lastL s (sqL o) ≤ 4611686018427387904) (hbad : ¬ compOk s (sqL o) i) :
    CallF Try.prog 14 [.ptr b 0, .p (.int .i64 i), sq bE d] id [(b, .cells 57 (lgC s o))] (.p (.bool false)) [] := by
  refine ⟨⟨_, Try.func14, by decide, rfl⟩, (by simp <;> repeat first | exact ⟨[_, _], rfl⟩ | constructor), fun h hr => callsA_of_W Try.func14 rfl fun hfr => ?_⟩
  have hb := hr.1; simp only [lgC] at hb
  have hl2 : lastL s (sqL o) = s.i + (sqL o).length := rfl
  by_cases c1 : i ≤ s.i
  · have f1 : decide (i ≤ s.i) = true := by simpa using c1
    repeat (first
      | with_reducible refine W_seq fun K hK => ?_
      | ((with_reducible refine W_reg ?_ ?_); (· rfl); simp only [go_sem, Nat.reduceEqDiff, ↓reduceIte, reduceIte, Nat.reduceAdd, Nat.reduceMul, Nat.reduceSub, Nat.reduceLeDiff, Nat.reduceBEq, Nat.reduceBNe, Int.reduceNeg, Int.reduceLT, Int.reduceLE, Int.reduceAdd, Int.reduceSub, Int.reduceToNat, Int.reduceEq, Int.reduceBEq, reduceCtorEq, List.cons.injEq, Int.reduceBNe, Int.sub_zero, decide_true, decide_false, false_and, and_false, hb, f1])
      | ((with_reducible refine hK _ ?_); clear hK K)
      | (refine W_skip (hK _ ?_); clear hK K)
      | (refine W_cond rfl (fun hc => ?_) (fun hc => ?_); (· cases hc); clear hc)
      | (refine W_cond rfl (fun hc => ?_) (fun hc => ?_); rotate_left; (· cases hc); clear hc)
      | with_reducible refine W_block ?_
      | ((with_reducible refine W_exit ?_); simp only [go_sem, Nat.reduceEqDiff, ↓reduceIte, reduceIte, Nat.reduceAdd, Nat.reduceMul, Nat.reduceSub, Nat.reduceLeDiff, Nat.reduceBEq, Nat.reduceBNe, Int.reduceNeg, Int.reduceLT, Int.reduceLE, Int.reduceAdd, Int.reduceSub, Int.reduceToNat, Int.reduceEq, Int.reduceBEq, reduceCtorEq, List.cons.injEq, Int.reduceBNe, Int.sub_zero, decide_true, decide_false, false_and, and_false, hb, f1])
      | ((with_reducible refine W_ret ?_); simp only [go_sem, Nat.reduceEqDiff, ↓reduceIte, reduceIte, Nat.reduceAdd, Nat.reduceMul, Nat.reduceSub, Nat.reduceLeDiff, Nat.reduceBEq, Nat.reduceBNe, Int.reduceNeg, Int.reduceLT, Int.reduceLE, Int.reduceAdd, Int.reduceSub, Int.reduceToNat, Int.reduceEq, Int.reduceBEq, reduceCtorEq, List.cons.injEq, Int.reduceBNe, Int.sub_zero, decide_true, decide_false, false_and, and_false, hb, f1])
      | (clear hK K; (with_reducible refine hK _ ?_); clear hK K)
      | (clear hK K; clear hK K; (with_reducible refine hK _ ?_); clear hK K)
      | (clear hK K; clear hK K; clear hK K; (with_reducible refine hK _ ?_); clear hK K)
      | refine And.intro (by decide) (And.intro (by decide) ?_)
      | refine And.intro (by omega) ?_
      | simp only [go_sem, Nat.reduceEqDiff, ↓reduceIte, reduceIte, Nat.reduceAdd, Nat.reduceMul, Nat.reduceSub, Nat.reduceLeDiff, Nat.reduceBEq, Nat.reduceBNe, Int.reduceNeg, Int.reduceLT, Int.reduceLE, Int.reduceAdd, Int.reduceSub, Int.reduceToNat, Int.reduceEq, Int.reduceBEq, reduceCtorEq, List.cons.injEq, Int.reduceBNe, Int.sub_zero, decide_true, decide_false, false_and, and_false, hb, f1])
    refine ends_ret ?_ (by (repeat first | exact HLe.refl _ | refine HLe.set ?_ _ _ | refine HLe.fresh ?_ (hfr [_, _])))
    simp only [go_sem, Nat.reduceEqDiff, ↓reduceIte, reduceIte, Nat.reduceAdd, Nat.reduceMul, Nat.reduceSub, Nat.reduceLeDiff, Nat.reduceBEq, Nat.reduceBNe, Int.reduceNeg, Int.reduceLT, Int.reduceLE, Int.reduceAdd, Int.reduceSub, Int.reduceToNat, Int.reduceEq, Int.reduceBEq, reduceCtorEq, List.cons.injEq, Int.reduceBNe, Int.sub_zero, decide_true, decide_false, false_and, and_false, Try.f14]
  have f1 : decide (i ≤ s.i) = false := by simpa using c1
  have f2 : decide (i > lastL s (sqL o)) = true := by simp; by_cases q : i ≤ lastL s (sqL o); exact absurd ⟨by omega, q⟩ hbad; omega
  repeat (first
    | with_reducible refine W_seq fun K hK => ?_
    | ((with_reducible refine W_reg ?_ ?_); (· rfl); simp only [go_sem, Nat.reduceEqDiff, ↓reduceIte, reduceIte, Nat.reduceAdd, Nat.reduceMul, Nat.reduceSub, Nat.reduceLeDiff, Nat.reduceBEq, Nat.reduceBNe, Int.reduceNeg, Int.reduceLT, Int.reduceLE, Int.reduceAdd, Int.reduceSub, Int.reduceToNat, Int.reduceEq, Int.reduceBEq, reduceCtorEq, List.cons.injEq, Int.reduceBNe, Int.sub_zero, decide_true, decide_false, false_and, and_false, hb, f1])
    | ((with_reducible refine hK _ ?_); clear hK K)
    | (refine W_skip (hK _ ?_); clear hK K)
    | (refine W_cond rfl (fun hc => ?_) (fun hc => ?_); (· cases hc); clear hc)
    | (refine W_cond rfl (fun hc => ?_) (fun hc => ?_); rotate_left; (· cases hc); clear hc)
    | with_reducible refine W_block ?_
    | ((with_reducible refine W_exit ?_); simp only [go_sem, Nat.reduceEqDiff, ↓reduceIte, reduceIte, Nat.reduceAdd, Nat.reduceMul, Nat.reduceSub, Nat.reduceLeDiff, Nat.reduceBEq, Nat.reduceBNe, Int.reduceNeg, Int.reduceLT, Int.reduceLE, Int.reduceAdd, Int.reduceSub, Int.reduceToNat, Int.reduceEq, Int.reduceBEq, reduceCtorEq, List.cons.injEq, Int.reduceBNe, Int.sub_zero, decide_true, decide_false, false_and, and_false, hb, f1])
    | ((with_reducible refine W_ret ?_); simp only [go_sem, Nat.reduceEqDiff, ↓reduceIte, reduceIte, Nat.reduceAdd, Nat.reduceMul, Nat.reduceSub, Nat.reduceLeDiff, Nat.reduceBEq, Nat.reduceBNe, Int.reduceNeg, Int.reduceLT, Int.reduceLE, Int.reduceAdd, Int.reduceSub, Int.reduceToNat, Int.reduceEq, Int.reduceBEq, reduceCtorEq, List.cons.injEq, Int.reduceBNe, Int.sub_zero, decide_true, decide_false, false_and, and_false, hb, f1])
    | (clear hK K; (with_reducible refine hK _ ?_); clear hK K)
    | (clear hK K; clear hK K; (with_reducible refine hK _ ?_); clear hK K)
    | (clear hK K; clear hK K; clear hK K; (with_reducible refine hK _ ?_); clear hK K)
    | refine And.intro (by decide) (And.intro (by decide) ?_)
    | refine And.intro (by omega) ?_
    | simp only [go_sem, Nat.reduceEqDiff, ↓reduceIte, reduceIte, Nat.reduceAdd, Nat.reduceMul, Nat.reduceSub, Nat.reduceLeDiff, Nat.reduceBEq, Nat.reduceBNe, Int.reduceNeg, Int.reduceLT, Int.reduceLE, Int.reduceAdd, Int.reduceSub, Int.reduceToNat, Int.reduceEq, Int.reduceBEq, reduceCtorEq, List.cons.injEq, Int.reduceBNe, Int.sub_zero, decide_true, decide_false, false_and, and_false, hb, f1])
  refine stop_call (f27_ok _ b s o (by omega)) ?_ ?_
  · first | trivial | (simp only [go_sem, Nat.reduceEqDiff, ↓reduceIte, reduceIte, Nat.reduceAdd, Nat.reduceMul, Nat.reduceSub, Nat.reduceLeDiff, Nat.reduceBEq, Nat.reduceBNe, Int.reduceNeg, Int.reduceLT, Int.reduceLE, Int.reduceAdd, Int.reduceSub, Int.reduceToNat, Int.reduceEq, Int.reduceBEq, reduceCtorEq, List.cons.injEq, Int.reduceBNe, Int.sub_zero, decide_true, decide_false, false_and, and_false, hb, lgC]; done)
  repeat (first
    | with_reducible refine W_seq fun K hK => ?_
    | ((with_reducible refine W_reg ?_ ?_); (· rfl); simp only [go_sem, Nat.reduceEqDiff, ↓reduceIte, reduceIte, Nat.reduceAdd, Nat.reduceMul, Nat.reduceSub, Nat.reduceLeDiff, Nat.reduceBEq, Nat.reduceBNe, Int.reduceNeg, Int.reduceLT, Int.reduceLE, Int.reduceAdd, Int.reduceSub, Int.reduceToNat, Int.reduceEq, Int.reduceBEq, reduceCtorEq, List.cons.injEq, Int.reduceBNe, Int.sub_zero, decide_true, decide_false, false_and, and_false, f2])
    | ((with_reducible refine hK _ ?_); clear hK K)
    | (refine W_skip (hK _ ?_); clear hK K)
    | (refine W_cond rfl (fun hc => ?_) (fun hc => ?_); (· cases hc); clear hc)
    | (refine W_cond rfl (fun hc => ?_) (fun hc => ?_); rotate_left; (· cases hc); clear hc)
    | with_reducible refine W_block ?_
    | ((with_reducible refine W_exit ?_); simp only [go_sem, Nat.reduceEqDiff, ↓reduceIte, reduceIte, Nat.reduceAdd, Nat.reduceMul, Nat.reduceSub, Nat.reduceLeDiff, Nat.reduceBEq, Nat.reduceBNe, Int.reduceNeg, Int.reduceLT, Int.reduceLE, Int.reduceAdd, Int.reduceSub, Int.reduceToNat, Int.reduceEq, Int.reduceBEq, reduceCtorEq, List.cons.injEq, Int.reduceBNe, Int.sub_zero, decide_true, decide_false, false_and, and_false, f2])
    | ((with_reducible refine W_ret ?_); simp only [go_sem, Nat.reduceEqDiff, ↓reduceIte, reduceIte, Nat.reduceAdd, Nat.reduceMul, Nat.reduceSub, Nat.reduceLeDiff, Nat.reduceBEq, Nat.reduceBNe, Int.reduceNeg, Int.reduceLT, Int.reduceLE, Int.reduceAdd, Int.reduceSub, Int.reduceToNat, Int.reduceEq, Int.reduceBEq, reduceCtorEq, List.cons.injEq, Int.reduceBNe, Int.sub_zero, decide_true, decide_false, false_and, and_false, f2])
    | (clear hK K; (with_reducible refine hK _ ?_); clear hK K)
    | (clear hK K; clear hK K; (with_reducible refine hK _ ?_); clear hK K)
    | (clear hK K; clear hK K; clear hK K; (with_reducible refine hK _ ?_); clear hK K)
    | refine And.intro (by decide) (And.intro (by decide) ?_)
    | refine And.intro (by omega) ?_
    | simp only [go_sem, Nat.reduceEqDiff, ↓reduceIte, reduceIte, Nat.reduceAdd, Nat.reduceMul, Nat.reduceSub, Nat.reduceLeDiff, Nat.reduceBEq, Nat.reduceBNe, Int.reduceNeg, Int.reduceLT, Int.reduceLE, Int.reduceAdd, Int.reduceSub, Int.reduceToNat, Int.reduceEq, Int.reduceBEq, reduceCtorEq, List.cons.injEq, Int.reduceBNe, Int.sub_zero, decide_true, decide_false, false_and, and_false, f2])
  refine ends_ret ?_ (by (repeat first | exact HLe.refl _ | refine HLe.set ?_ _ _ | refine HLe.fresh ?_ (hfr [_, _])))
  simp only [go_sem, Nat.reduceEqDiff, ↓reduceIte, reduceIte, Nat.reduceAdd, Nat.reduceMul, Nat.reduceSub, Nat.reduceLeDiff, Nat.reduceBEq, Nat.reduceBNe, Int.reduceNeg, Int.reduceLT, Int.reduceLE, Int.reduceAdd, Int.reduceSub, Int.reduceToNat, Int.reduceEq, Int.reduceBEq, reduceCtorEq, List.cons.injEq, Int.reduceBNe, Int.sub_zero, decide_true, decide_false, false_and, and_false, Try.f14]

set_option maxRecDepth 8000 in
theorem f13_ok (id b : BId) (s : Snp) (o : Option (List Ent)) (i : Int) (d : Option (List UInt8)) (hs : 0 ≤ s.i) (hl : lastL s (sqL o) ≤ 4611686018427387904) (hlen : (sqL o).length ≤ 1000) (hd : ∀ e ∈ sqL o, (sqL e.d).length ≤ 1000) (hc : (sqL s.c).length ≤ 1000)
    (hdd : (sqL d).length ≤ 1000) (hgood : compOk s (sqL o) i) :
    CallF Try.prog 13 [.ptr b 0, .p (.int .i64 i), sq bE d] id [(b, .cells 53 (lgC s o))] (.p (.bool true)) [(b, some (.cells 53 (lgC (compS s (sqL o) i d) (dropO (i - s.i).toNat o))))] := by
  refine ⟨⟨_, Try.func13, by decide, rfl⟩, (by simp <;> repeat first | exact ⟨[_, _], rfl⟩ | constructor), fun h hr => callsA_of_W Try.func13 rfl fun hfr => ?_⟩
  have hb := hr.1; simp only [lgC] at hb
  have hl2 : lastL s (sqL o) = s.i + (sqL o).length := rfl
  obtain ⟨c1, c2⟩ := hgood
  have f1 : decide (i ≤ s.i) = false := by simpa using c1
  have f2 : decide (i > lastL s (sqL o)) = false := by simpa using c2
  have w1 : IntKind.i64.wrap (i - s.i) = i - s.i := wrap_i64 (by omega)
  have hn1 : ∀ i j, (b = i :: j :: id) = False := fun i j => fr_ne hfr hr.1 [i, j]
  have hn2 : ∀ i j, (i :: j :: id = b) = False := fun i j => by rw [eq_iff_iff, iff_false]; intro q; exact (hn1 i j).mp q.symm
  repeat (first
    | with_reducible refine W_seq fun K hK => ?_
    | ((with_reducible refine W_reg ?_ ?_); (· rfl); simp only [go_sem, Nat.reduceEqDiff, ↓reduceIte, reduceIte, Nat.reduceAdd, Nat.reduceMul, Nat.reduceSub, Nat.reduceLeDiff, Nat.reduceBEq, Nat.reduceBNe, Int.reduceNeg, Int.reduceLT, Int.reduceLE, Int.reduceAdd, Int.reduceSub, Int.reduceToNat, Int.reduceEq, Int.reduceBEq, reduceCtorEq, List.cons.injEq, Int.reduceBNe, Int.sub_zero, decide_true, decide_false, false_and, and_false, hb, f1])
    | ((with_reducible refine hK _ ?_); clear hK K)
    | (refine W_skip (hK _ ?_); clear hK K)
    | (refine W_cond rfl (fun hc => ?_) (fun hc => ?_); (· cases hc); clear hc)
    | (refine W_cond rfl (fun hc => ?_) (fun hc => ?_); rotate_left; (· cases hc); clear hc)
    | with_reducible refine W_block ?_
    | ((with_reducible refine W_exit ?_); simp only [go_sem, Nat.reduceEqDiff, ↓reduceIte, reduceIte, Nat.reduceAdd, Nat.reduceMul, Nat.reduceSub, Nat.reduceLeDiff, Nat.reduceBEq, Nat.reduceBNe, Int.reduceNeg, Int.reduceLT, Int.reduceLE, Int.reduceAdd, Int.reduceSub, Int.reduceToNat, Int.reduceEq, Int.reduceBEq, reduceCtorEq, List.cons.injEq, Int.reduceBNe, Int.sub_zero, decide_true, decide_false, false_and, and_false, hb, f1])
    | ((with_reducible refine W_ret ?_); simp only [go_sem, Nat.reduceEqDiff, ↓reduceIte, reduceIte, Nat.reduceAdd, Nat.reduceMul, Nat.reduceSub, Nat.reduceLeDiff, Nat.reduceBEq, Nat.reduceBNe, Int.reduceNeg, Int.reduceLT, Int.reduceLE, Int.reduceAdd, Int.reduceSub, Int.reduceToNat, Int.reduceEq, Int.reduceBEq, reduceCtorEq, List.cons.injEq, Int.reduceBNe, Int.sub_zero, decide_true, decide_false, false_and, and_false, hb, f1])
    | (clear hK K; (with_reducible refine hK _ ?_); clear hK K)
    | (clear hK K; clear hK K; (with_reducible refine hK _ ?_); clear hK K)
    | (clear hK K; clear hK K; clear hK K; (with_reducible refine hK _ ?_); clear hK K)
    | refine And.intro (by decide) (And.intro (by decide) ?_)
    | refine And.intro (by omega) ?_
    | simp only [go_sem, Nat.reduceEqDiff, ↓reduceIte, reduceIte, Nat.reduceAdd, Nat.reduceMul, Nat.reduceSub, Nat.reduceLeDiff, Nat.reduceBEq, Nat.reduceBNe, Int.reduceNeg, Int.reduceLT, Int.reduceLE, Int.reduceAdd, Int.reduceSub, Int.reduceToNat, Int.reduceEq, Int.reduceBEq, reduceCtorEq, List.cons.injEq, Int.reduceBNe, Int.sub_zero, decide_true, decide_false, false_and, and_false, hb, f1])
  refine stop_call (f19_ok _ b s o (by omega)) ?_ ?_
  · first | trivial | (simp only [go_sem, Nat.reduceEqDiff, ↓reduceIte, reduceIte, Nat.reduceAdd, Nat.reduceMul, Nat.reduceSub, Nat.reduceLeDiff, Nat.reduceBEq, Nat.reduceBNe, Int.reduceNeg, Int.reduceLT, Int.reduceLE, Int.reduceAdd, Int.reduceSub, Int.reduceToNat, Int.reduceEq, Int.reduceBEq, reduceCtorEq, List.cons.injEq, Int.reduceBNe, Int.sub_zero, decide_true, decide_false, false_and, and_false, hb, lgC]; done)
  repeat (first
    | with_reducible refine W_seq fun K hK => ?_
    | ((with_reducible refine W_reg ?_ ?_); (· rfl); simp only [go_sem, Nat.reduceEqDiff, ↓reduceIte, reduceIte, Nat.reduceAdd, Nat.reduceMul, Nat.reduceSub, Nat.reduceLeDiff, Nat.reduceBEq, Nat.reduceBNe, Int.reduceNeg, Int.reduceLT, Int.reduceLE, Int.reduceAdd, Int.reduceSub, Int.reduceToNat, Int.reduceEq, Int.reduceBEq, reduceCtorEq, List.cons.injEq, Int.reduceBNe, Int.sub_zero, decide_true, decide_false, false_and, and_false, f2])
    | ((with_reducible refine hK _ ?_); clear hK K)
    | (refine W_skip (hK _ ?_); clear hK K)
    | (refine W_cond rfl (fun hc => ?_) (fun hc => ?_); (· cases hc); clear hc)
    | (refine W_cond rfl (fun hc => ?_) (fun hc => ?_); rotate_left; (· cases hc); clear hc)
    | with_reducible refine W_block ?_
    | ((with_reducible refine W_exit ?_); simp only [go_sem, Nat.reduceEqDiff, ↓reduceIte, reduceIte, Nat.reduceAdd, Nat.reduceMul, Nat.reduceSub, Nat.reduceLeDiff, Nat.reduceBEq, Nat.reduceBNe, Int.reduceNeg, Int.reduceLT, Int.reduceLE, Int.reduceAdd, Int.reduceSub, Int.reduceToNat, Int.reduceEq, Int.reduceBEq, reduceCtorEq, List.cons.injEq, Int.reduceBNe, Int.sub_zero, decide_true, decide_false, false_and, and_false, f2])
    | ((with_reducible refine W_ret ?_); simp only [go_sem, Nat.reduceEqDiff, ↓reduceIte, reduceIte, Nat.reduceAdd, Nat.reduceMul, Nat.reduceSub, Nat.reduceLeDiff, Nat.reduceBEq, Nat.reduceBNe, Int.reduceNeg, Int.reduceLT, Int.reduceLE, Int.reduceAdd, Int.reduceSub, Int.reduceToNat, Int.reduceEq, Int.reduceBEq, reduceCtorEq, List.cons.injEq, Int.reduceBNe, Int.sub_zero, decide_true, decide_false, false_and, and_false, f2])
    | (clear hK K; (with_reducible refine hK _ ?_); clear hK K)
    | (clear hK K; clear hK K; (with_reducible refine hK _ ?_); clear hK K)
    | (clear hK K; clear hK K; clear hK K; (with_reducible refine hK _ ?_); clear hK K)
    | refine And.intro (by decide) (And.intro (by decide) ?_)
    | refine And.intro (by omega) ?_
    | simp only [go_sem, Nat.reduceEqDiff, ↓reduceIte, reduceIte, Nat.reduceAdd, Nat.reduceMul, Nat.reduceSub, Nat.reduceLeDiff, Nat.reduceBEq, Nat.reduceBNe, Int.reduceNeg, Int.reduceLT, Int.reduceLE, Int.reduceAdd, Int.reduceSub, Int.reduceToNat, Int.reduceEq, Int.reduceBEq, reduceCtorEq, List.cons.injEq, Int.reduceBNe, Int.sub_zero, decide_true, decide_false, false_and, and_false, f2])
  refine stop_call (f17_ok _ b s o i hs (by omega)) ?_ ?_
  · first | trivial | (simp only [go_sem, Nat.reduceEqDiff, ↓reduceIte, reduceIte, Nat.reduceAdd, Nat.reduceMul, Nat.reduceSub, Nat.reduceLeDiff, Nat.reduceBEq, Nat.reduceBNe, Int.reduceNeg, Int.reduceLT, Int.reduceLE, Int.reduceAdd, Int.reduceSub, Int.reduceToNat, Int.reduceEq, Int.reduceBEq, reduceCtorEq, List.cons.injEq, Int.reduceBNe, Int.sub_zero, decide_true, decide_false, false_and, and_false, hb, lgC]; done)
  repeat (first
    | with_reducible refine W_seq fun K hK => ?_
    | ((with_reducible refine W_reg ?_ ?_); (· rfl); simp only [go_sem, Nat.reduceEqDiff, ↓reduceIte, reduceIte, Nat.reduceAdd, Nat.reduceMul, Nat.reduceSub, Nat.reduceLeDiff, Nat.reduceBEq, Nat.reduceBNe, Int.reduceNeg, Int.reduceLT, Int.reduceLE, Int.reduceAdd, Int.reduceSub, Int.reduceToNat, Int.reduceEq, Int.reduceBEq, reduceCtorEq, List.cons.injEq, Int.reduceBNe, Int.sub_zero, decide_true, decide_false, false_and, and_false])
    | ((with_reducible refine hK _ ?_); clear hK K)
    | (refine W_skip (hK _ ?_); clear hK K)
    | (refine W_cond rfl (fun hc => ?_) (fun hc => ?_); (· cases hc); clear hc)
    | (refine W_cond rfl (fun hc => ?_) (fun hc => ?_); rotate_left; (· cases hc); clear hc)
    | with_reducible refine W_block ?_
    | ((with_reducible refine W_exit ?_); simp only [go_sem, Nat.reduceEqDiff, ↓reduceIte, reduceIte, Nat.reduceAdd, Nat.reduceMul, Nat.reduceSub, Nat.reduceLeDiff, Nat.reduceBEq, Nat.reduceBNe, Int.reduceNeg, Int.reduceLT, Int.reduceLE, Int.reduceAdd, Int.reduceSub, Int.reduceToNat, Int.reduceEq, Int.reduceBEq, reduceCtorEq, List.cons.injEq, Int.reduceBNe, Int.sub_zero, decide_true, decide_false, false_and, and_false])
    | ((with_reducible refine W_ret ?_); simp only [go_sem, Nat.reduceEqDiff, ↓reduceIte, reduceIte, Nat.reduceAdd, Nat.reduceMul, Nat.reduceSub, Nat.reduceLeDiff, Nat.reduceBEq, Nat.reduceBNe, Int.reduceNeg, Int.reduceLT, Int.reduceLE, Int.reduceAdd, Int.reduceSub, Int.reduceToNat, Int.reduceEq, Int.reduceBEq, reduceCtorEq, List.cons.injEq, Int.reduceBNe, Int.sub_zero, decide_true, decide_false, false_and, and_false])
    | (clear hK K; (with_reducible refine hK _ ?_); clear hK K)
    | (clear hK K; clear hK K; (with_reducible refine hK _ ?_); clear hK K)
    | (clear hK K; clear hK K; clear hK K; (with_reducible refine hK _ ?_); clear hK K)
    | refine And.intro (by decide) (And.intro (by decide) ?_)
    | refine And.intro (by omega) ?_
    | simp only [go_sem, Nat.reduceEqDiff, ↓reduceIte, reduceIte, Nat.reduceAdd, Nat.reduceMul, Nat.reduceSub, Nat.reduceLeDiff, Nat.reduceBEq, Nat.reduceBNe, Int.reduceNeg, Int.reduceLT, Int.reduceLE, Int.reduceAdd, Int.reduceSub, Int.reduceToNat, Int.reduceEq, Int.reduceBEq, reduceCtorEq, List.cons.injEq, Int.reduceBNe, Int.sub_zero, decide_true, decide_false, false_and, and_false])
  refine stop_call (f35_ok _ b s o i hs (by omega) hd hc) ?_ ?_
  · first | trivial | (simp only [go_sem, Nat.reduceEqDiff, ↓reduceIte, reduceIte, Nat.reduceAdd, Nat.reduceMul, Nat.reduceSub, Nat.reduceLeDiff, Nat.reduceBEq, Nat.reduceBNe, Int.reduceNeg, Int.reduceLT, Int.reduceLE, Int.reduceAdd, Int.reduceSub, Int.reduceToNat, Int.reduceEq, Int.reduceBEq, reduceCtorEq, List.cons.injEq, Int.reduceBNe, Int.sub_zero, decide_true, decide_false, false_and, and_false, hb, lgC]; done)
  repeat (first
    | with_reducible refine W_seq fun K hK => ?_
    | ((with_reducible refine W_reg ?_ ?_); (· rfl); simp only [go_sem, Nat.reduceEqDiff, ↓reduceIte, reduceIte, Nat.reduceAdd, Nat.reduceMul, Nat.reduceSub, Nat.reduceLeDiff, Nat.reduceBEq, Nat.reduceBNe, Int.reduceNeg, Int.reduceLT, Int.reduceLE, Int.reduceAdd, Int.reduceSub, Int.reduceToNat, Int.reduceEq, Int.reduceBEq, reduceCtorEq, List.cons.injEq, Int.reduceBNe, Int.sub_zero, decide_true, decide_false, false_and, and_false])
    | ((with_reducible refine hK _ ?_); clear hK K)
    | (refine W_skip (hK _ ?_); clear hK K)
    | (refine W_cond rfl (fun hc => ?_) (fun hc => ?_); (· cases hc); clear hc)
    | (refine W_cond rfl (fun hc => ?_) (fun hc => ?_); rotate_left; (· cases hc); clear hc)
    | with_reducible refine W_block ?_
    | ((with_reducible refine W_exit ?_); simp only [go_sem, Nat.reduceEqDiff, ↓reduceIte, reduceIte, Nat.reduceAdd, Nat.reduceMul, Nat.reduceSub, Nat.reduceLeDiff, Nat.reduceBEq, Nat.reduceBNe, Int.reduceNeg, Int.reduceLT, Int.reduceLE, Int.reduceAdd, Int.reduceSub, Int.reduceToNat, Int.reduceEq, Int.reduceBEq, reduceCtorEq, List.cons.injEq, Int.reduceBNe, Int.sub_zero, decide_true, decide_false, false_and, and_false])
    | ((with_reducible refine W_ret ?_); simp only [go_sem, Nat.reduceEqDiff, ↓reduceIte, reduceIte, Nat.reduceAdd, Nat.reduceMul, Nat.reduceSub, Nat.reduceLeDiff, Nat.reduceBEq, Nat.reduceBNe, Int.reduceNeg, Int.reduceLT, Int.reduceLE, Int.reduceAdd, Int.reduceSub, Int.reduceToNat, Int.reduceEq, Int.reduceBEq, reduceCtorEq, List.cons.injEq, Int.reduceBNe, Int.sub_zero, decide_true, decide_false, false_and, and_false])
    | (clear hK K; (with_reducible refine hK _ ?_); clear hK K)
    | (clear hK K; clear hK K; (with_reducible refine hK _ ?_); clear hK K)
    | (clear hK K; clear hK K; clear hK K; (with_reducible refine hK _ ?_); clear hK K)
    | refine And.intro (by decide) (And.intro (by decide) ?_)
    | refine And.intro (by omega) ?_
    | simp only [go_sem, Nat.reduceEqDiff, ↓reduceIte, reduceIte, Nat.reduceAdd, Nat.reduceMul, Nat.reduceSub, Nat.reduceLeDiff, Nat.reduceBEq, Nat.reduceBNe, Int.reduceNeg, Int.reduceLT, Int.reduceLE, Int.reduceAdd, Int.reduceSub, Int.reduceToNat, Int.reduceEq, Int.reduceBEq, reduceCtorEq, List.cons.injEq, Int.reduceBNe, Int.sub_zero, decide_true, decide_false, false_and, and_false])
  refine stop_call (clone_ok _ d (by omega)) ?_ ?_
  · first | trivial | (simp only [go_sem, Nat.reduceEqDiff, ↓reduceIte, reduceIte, Nat.reduceAdd, Nat.reduceMul, Nat.reduceSub, Nat.reduceLeDiff, Nat.reduceBEq, Nat.reduceBNe, Int.reduceNeg, Int.reduceLT, Int.reduceLE, Int.reduceAdd, Int.reduceSub, Int.reduceToNat, Int.reduceEq, Int.reduceBEq, reduceCtorEq, List.cons.injEq, Int.reduceBNe, Int.sub_zero, decide_true, decide_false, false_and, and_false, hb, lgC]; done)
  repeat (first
    | with_reducible refine W_seq fun K hK => ?_
    | ((with_reducible refine W_reg ?_ ?_); (· rfl); simp only [go_sem, Nat.reduceEqDiff, ↓reduceIte, reduceIte, Nat.reduceAdd, Nat.reduceMul, Nat.reduceSub, Nat.reduceLeDiff, Nat.reduceBEq, Nat.reduceBNe, Int.reduceNeg, Int.reduceLT, Int.reduceLE, Int.reduceAdd, Int.reduceSub, Int.reduceToNat, Int.reduceEq, Int.reduceBEq, reduceCtorEq, List.cons.injEq, Int.reduceBNe, Int.sub_zero, decide_true, decide_false, false_and, and_false])
    | ((with_reducible refine hK _ ?_); clear hK K)
    | (refine W_skip (hK _ ?_); clear hK K)
    | (refine W_cond rfl (fun hc => ?_) (fun hc => ?_); (· cases hc); clear hc)
    | (refine W_cond rfl (fun hc => ?_) (fun hc => ?_); rotate_left; (· cases hc); clear hc)
    | with_reducible refine W_block ?_
    | ((with_reducible refine W_exit ?_); simp only [go_sem, Nat.reduceEqDiff, ↓reduceIte, reduceIte, Nat.reduceAdd, Nat.reduceMul, Nat.reduceSub, Nat.reduceLeDiff, Nat.reduceBEq, Nat.reduceBNe, Int.reduceNeg, Int.reduceLT, Int.reduceLE, Int.reduceAdd, Int.reduceSub, Int.reduceToNat, Int.reduceEq, Int.reduceBEq, reduceCtorEq, List.cons.injEq, Int.reduceBNe, Int.sub_zero, decide_true, decide_false, false_and, and_false])
    | ((with_reducible refine W_ret ?_); simp only [go_sem, Nat.reduceEqDiff, ↓reduceIte, reduceIte, Nat.reduceAdd, Nat.reduceMul, Nat.reduceSub, Nat.reduceLeDiff, Nat.reduceBEq, Nat.reduceBNe, Int.reduceNeg, Int.reduceLT, Int.reduceLE, Int.reduceAdd, Int.reduceSub, Int.reduceToNat, Int.reduceEq, Int.reduceBEq, reduceCtorEq, List.cons.injEq, Int.reduceBNe, Int.sub_zero, decide_true, decide_false, false_and, and_false])
    | (clear hK K; (with_reducible refine hK _ ?_); clear hK K)
    | (clear hK K; clear hK K; (with_reducible refine hK _ ?_); clear hK K)
    | (clear hK K; clear hK K; clear hK K; (with_reducible refine hK _ ?_); clear hK K)
    | refine And.intro (by decide) (And.intro (by decide) ?_)
    | refine And.intro (by omega) ?_
    | simp only [go_sem, Nat.reduceEqDiff, ↓reduceIte, reduceIte, Nat.reduceAdd, Nat.reduceMul, Nat.reduceSub, Nat.reduceLeDiff, Nat.reduceBEq, Nat.reduceBNe, Int.reduceNeg, Int.reduceLT, Int.reduceLE, Int.reduceAdd, Int.reduceSub, Int.reduceToNat, Int.reduceEq, Int.reduceBEq, reduceCtorEq, List.cons.injEq, Int.reduceBNe, Int.sub_zero, decide_true, decide_false, false_and, and_false])
  refine W_drw [[], [], [1], [1, 2], [1, 2, 3], [], [], [6], [6, 7], [6, 7, 8], [6, 7, 8, 9], [5, 6, 7, 8, 9, 10], [1, 2, 3, 4, 5, 6, 7, 8, 9, 10, 11], [1, 2, 3, 4, 5, 6, 7, 8, 9, 10, 11, 12], [0, 1, 2, 3, 4, 5, 6, 7, 8, 9, 10, 11, 12, 13], [0, 1, 2, 3, 4, 5, 6, 7, 8, 9, 10, 11, 12, 13, 14], [0, 1, 2, 3, 4, 5, 6, 7, 8, 9, 10, 11, 12, 13, 14, 15]] follows_mixed (by rfl) (by rfl) ?_
  repeat (first
    | with_reducible refine W_seq fun K hK => ?_
    | ((with_reducible refine W_reg ?_ ?_); (· rfl); simp only [go_sem, Nat.reduceEqDiff, ↓reduceIte, reduceIte, Nat.reduceAdd, Nat.reduceMul, Nat.reduceSub, Nat.reduceLeDiff, Nat.reduceBEq, Nat.reduceBNe, Int.reduceNeg, Int.reduceLT, Int.reduceLE, Int.reduceAdd, Int.reduceSub, Int.reduceToNat, Int.reduceEq, Int.reduceBEq, reduceCtorEq, List.cons.injEq, Int.reduceBNe, Int.sub_zero, decide_true, decide_false, false_and, and_false, hb, w1, hn1, hn2])
    | ((with_reducible refine hK _ ?_); clear hK K)
    | (refine W_skip (hK _ ?_); clear hK K)
    | (refine W_cond rfl (fun hc => ?_) (fun hc => ?_); (· cases hc); clear hc)
    | (refine W_cond rfl (fun hc => ?_) (fun hc => ?_); rotate_left; (· cases hc); clear hc)
    | with_reducible refine W_block ?_
    | ((with_reducible refine W_exit ?_); simp only [go_sem, Nat.reduceEqDiff, ↓reduceIte, reduceIte, Nat.reduceAdd, Nat.reduceMul, Nat.reduceSub, Nat.reduceLeDiff, Nat.reduceBEq, Nat.reduceBNe, Int.reduceNeg, Int.reduceLT, Int.reduceLE, Int.reduceAdd, Int.reduceSub, Int.reduceToNat, Int.reduceEq, Int.reduceBEq, reduceCtorEq, List.cons.injEq, Int.reduceBNe, Int.sub_zero, decide_true, decide_false, false_and, and_false, hb, w1, hn1, hn2])
    | ((with_reducible refine W_ret ?_); simp only [go_sem, Nat.reduceEqDiff, ↓reduceIte, reduceIte, Nat.reduceAdd, Nat.reduceMul, Nat.reduceSub, Nat.reduceLeDiff, Nat.reduceBEq, Nat.reduceBNe, Int.reduceNeg, Int.reduceLT, Int.reduceLE, Int.reduceAdd, Int.reduceSub, Int.reduceToNat, Int.reduceEq, Int.reduceBEq, reduceCtorEq, List.cons.injEq, Int.reduceBNe, Int.sub_zero, decide_true, decide_false, false_and, and_false, hb, w1, hn1, hn2])
    | (clear hK K; (with_reducible refine hK _ ?_); clear hK K)
    | (clear hK K; clear hK K; (with_reducible refine hK _ ?_); clear hK K)
    | (clear hK K; clear hK K; clear hK K; (with_reducible refine hK _ ?_); clear hK K)
    | refine And.intro (by decide) (And.intro (by decide) ?_)
    | refine And.intro (by omega) ?_
    | simp only [go_sem, Nat.reduceEqDiff, ↓reduceIte, reduceIte, Nat.reduceAdd, Nat.reduceMul, Nat.reduceSub, Nat.reduceLeDiff, Nat.reduceBEq, Nat.reduceBNe, Int.reduceNeg, Int.reduceLT, Int.reduceLE, Int.reduceAdd, Int.reduceSub, Int.reduceToNat, Int.reduceEq, Int.reduceBEq, reduceCtorEq, List.cons.injEq, Int.reduceBNe, Int.sub_zero, decide_true, decide_false, false_and, and_false, hb, w1, hn1, hn2])
  refine sliceW_sq (i - s.i).toNat (sqL o).length ty26.2.2.2.1 ty44.2.1 Ent.enc_len (by simp only [bndA]; congr 1; omega) rfl (by omega) (by omega) ?_
  have ho1 : (o.map fun x => (x.drop (i - s.i).toNat).take ((sqL o).length - (i - s.i).toNat)) = dropO (i - s.i).toNat o := by
    cases o with
    | none => rfl
    | some l => simp only [dropO, sqL, Option.map_some]; rw [List.take_of_length_le (by simp)]
  rw [ho1]
  simp only [go_sem, Nat.reduceEqDiff, ↓reduceIte, reduceIte, Nat.reduceAdd, Nat.reduceMul, Nat.reduceSub, Nat.reduceLeDiff, Nat.reduceBEq, Nat.reduceBNe, Int.reduceNeg, Int.reduceLT, Int.reduceLE, Int.reduceAdd, Int.reduceSub, Int.reduceToNat, Int.reduceEq, Int.reduceBEq, reduceCtorEq, List.cons.injEq, Int.reduceBNe, Int.sub_zero, decide_true, decide_false, false_and, and_false, hb, w1]
  refine stopD_call (cloneE_ok _ (dropO (i - s.i).toNat o) (by rw [sqL_dropO]; simp; omega)) ?_ ?_
  · first | trivial | (simp only [go_sem, Nat.reduceEqDiff, ↓reduceIte, reduceIte, Nat.reduceAdd, Nat.reduceMul, Nat.reduceSub, Nat.reduceLeDiff, Nat.reduceBEq, Nat.reduceBNe, Int.reduceNeg, Int.reduceLT, Int.reduceLE, Int.reduceAdd, Int.reduceSub, Int.reduceToNat, Int.reduceEq, Int.reduceBEq, reduceCtorEq, List.cons.injEq, Int.reduceBNe, Int.sub_zero, decide_true, decide_false, false_and, and_false]; done)
  repeat (first
    | with_reducible refine W_seq fun K hK => ?_
    | ((with_reducible refine W_reg ?_ ?_); (· rfl); simp only [go_sem, Nat.reduceEqDiff, ↓reduceIte, reduceIte, Nat.reduceAdd, Nat.reduceMul, Nat.reduceSub, Nat.reduceLeDiff, Nat.reduceBEq, Nat.reduceBNe, Int.reduceNeg, Int.reduceLT, Int.reduceLE, Int.reduceAdd, Int.reduceSub, Int.reduceToNat, Int.reduceEq, Int.reduceBEq, reduceCtorEq, List.cons.injEq, Int.reduceBNe, Int.sub_zero, decide_true, decide_false, false_and, and_false, hb, hn1, hn2])
    | ((with_reducible refine hK _ ?_); clear hK K)
    | (refine W_skip (hK _ ?_); clear hK K)
    | (refine W_cond rfl (fun hc => ?_) (fun hc => ?_); (· cases hc); clear hc)
    | (refine W_cond rfl (fun hc => ?_) (fun hc => ?_); rotate_left; (· cases hc); clear hc)
    | with_reducible refine W_block ?_
    | ((with_reducible refine W_exit ?_); simp only [go_sem, Nat.reduceEqDiff, ↓reduceIte, reduceIte, Nat.reduceAdd, Nat.reduceMul, Nat.reduceSub, Nat.reduceLeDiff, Nat.reduceBEq, Nat.reduceBNe, Int.reduceNeg, Int.reduceLT, Int.reduceLE, Int.reduceAdd, Int.reduceSub, Int.reduceToNat, Int.reduceEq, Int.reduceBEq, reduceCtorEq, List.cons.injEq, Int.reduceBNe, Int.sub_zero, decide_true, decide_false, false_and, and_false, hb, hn1, hn2])
    | ((with_reducible refine W_ret ?_); simp only [go_sem, Nat.reduceEqDiff, ↓reduceIte, reduceIte, Nat.reduceAdd, Nat.reduceMul, Nat.reduceSub, Nat.reduceLeDiff, Nat.reduceBEq, Nat.reduceBNe, Int.reduceNeg, Int.reduceLT, Int.reduceLE, Int.reduceAdd, Int.reduceSub, Int.reduceToNat, Int.reduceEq, Int.reduceBEq, reduceCtorEq, List.cons.injEq, Int.reduceBNe, Int.sub_zero, decide_true, decide_false, false_and, and_false, hb, hn1, hn2])
    | (clear hK K; (with_reducible refine hK _ ?_); clear hK K)
    | (clear hK K; clear hK K; (with_reducible refine hK _ ?_); clear hK K)
    | (clear hK K; clear hK K; clear hK K; (with_reducible refine hK _ ?_); clear hK K)
    | refine And.intro (by decide) (And.intro (by decide) ?_)
    | refine And.intro (by omega) ?_
    | simp only [go_sem, Nat.reduceEqDiff, ↓reduceIte, reduceIte, Nat.reduceAdd, Nat.reduceMul, Nat.reduceSub, Nat.reduceLeDiff, Nat.reduceBEq, Nat.reduceBNe, Int.reduceNeg, Int.reduceLT, Int.reduceLE, Int.reduceAdd, Int.reduceSub, Int.reduceToNat, Int.reduceEq, Int.reduceBEq, reduceCtorEq, List.cons.injEq, Int.reduceBNe, Int.sub_zero, decide_true, decide_false, false_and, and_false, hb, hn1, hn2])
  refine ends_ret ?_ (hle_set1 (by simp only [go_sem, Nat.reduceEqDiff, ↓reduceIte, reduceIte, Nat.reduceAdd, Nat.reduceMul, Nat.reduceSub, Nat.reduceLeDiff, Nat.reduceBEq, Nat.reduceBNe, Int.reduceNeg, Int.reduceLT, Int.reduceLE, Int.reduceAdd, Int.reduceSub, Int.reduceToNat, Int.reduceEq, Int.reduceBEq, reduceCtorEq, List.cons.injEq, Int.reduceBNe, Int.sub_zero, decide_true, decide_false, false_and, and_false, hn1, hn2, lgC, compS]) (fun c hc hn => by have hq9 : ∀ i j, (c = i :: j :: id) = False := fun i j => (by rw [eq_iff_iff, iff_false]; rintro rfl; exact hn (hfr [i, j])); simp only [go_sem, Nat.reduceEqDiff, ↓reduceIte, reduceIte, Nat.reduceAdd, Nat.reduceMul, Nat.reduceSub, Nat.reduceLeDiff, Nat.reduceBEq, Nat.reduceBNe, Int.reduceNeg, Int.reduceLT, Int.reduceLE, Int.reduceAdd, Int.reduceSub, Int.reduceToNat, Int.reduceEq, Int.reduceBEq, reduceCtorEq, List.cons.injEq, Int.reduceBNe, Int.sub_zero, decide_true, decide_false, false_and, and_false, hc, hq9, hn1, hn2, lgC, compS]))
  simp only [go_sem, Nat.reduceEqDiff, ↓reduceIte, reduceIte, Nat.reduceAdd, Nat.reduceMul, Nat.reduceSub, Nat.reduceLeDiff, Nat.reduceBEq, Nat.reduceBNe, Int.reduceNeg, Int.reduceLT, Int.reduceLE, Int.reduceAdd, Int.reduceSub, Int.reduceToNat, Int.reduceEq, Int.reduceBEq, reduceCtorEq, List.cons.injEq, Int.reduceBNe, Int.sub_zero, decide_true, decide_false, false_and, and_false, Try.f13]

set_option maxRecDepth 8000 in
theorem f14_ok (id b : BId) (s : Snp) (o : Option (List Ent)) (i : Int) (d : Option (List UInt8)) (hs : 0 ≤ s.i) (hl : lastL s (sqL o) ≤ 4611686018427387904) (hlen : (sqL o).length ≤ 1000) (hd : ∀ e ∈ sqL o, (sqL e.d).length ≤ 1000)
    (hix : ∀ (n : Nat) (h : n < (sqL o).length), ((sqL o)[n]).i = s.i + n + 1) (hdd : (sqL d).length ≤ 1000) (hgood : compOk s (sqL o) i) :
    CallF Try.prog 14 [.ptr b 0, .p (.int .i64 i), sq bE d] id [(b, .cells 57 (lgC s o))] (.p (.bool true)) [(b, some (.cells 57 (lgC (compS s (sqL o) i (ne (sqL d))) (ne ((sqL o).drop (i - s.i).toNat)))))] := by
  refine ⟨⟨_, Try.func14, by decide, rfl⟩, (by simp <;> repeat first | exact ⟨[_, _], rfl⟩ | constructor), fun h hr => callsA_of_W Try.func14 rfl fun hfr => ?_⟩
  have hb := hr.1; simp only [lgC] at hb
  have hl2 : lastL s (sqL o) = s.i + (sqL o).length := rfl
  obtain ⟨c1, c2⟩ := hgood
  have f1 : decide (i ≤ s.i) = false := by simpa using c1
  have f2 : decide (i > lastL s (sqL o)) = false := by simpa using c2
  have w1 : IntKind.i64.wrap (i - s.i) = i - s.i := wrap_i64 (by omega)
  have hn1 : ∀ i j, (b = i :: j :: id) = False := fun i j => fr_ne hfr hr.1 [i, j]
  have hn2 : ∀ i j, (i :: j :: id = b) = False := fun i j => by rw [eq_iff_iff, iff_false]; intro q; exact (hn1 i j).mp q.symm
  repeat (first
    | with_reducible refine W_seq fun K hK => ?_
    | ((with_reducible refine W_reg ?_ ?_); (· rfl); simp only [go_sem, Nat.reduceEqDiff, ↓reduceIte, reduceIte, Nat.reduceAdd, Nat.reduceMul, Nat.reduceSub, Nat.reduceLeDiff, Nat.reduceBEq, Nat.reduceBNe, Int.reduceNeg, Int.reduceLT, Int.reduceLE, Int.reduceAdd, Int.reduceSub, Int.reduceToNat, Int.reduceEq, Int.reduceBEq, reduceCtorEq, List.cons.injEq, Int.reduceBNe, Int.sub_zero, decide_true, decide_false, false_and, and_false, hb, f1])
    | ((with_reducible refine hK _ ?_); clear hK K)
    | (refine W_skip (hK _ ?_); clear hK K)
    | (refine W_cond rfl (fun hc => ?_) (fun hc => ?_); (· cases hc); clear hc)
    | (refine W_cond rfl (fun hc => ?_) (fun hc => ?_); rotate_left; (· cases hc); clear hc)
    | with_reducible refine W_block ?_
    | ((with_reducible refine W_exit ?_); simp only [go_sem, Nat.reduceEqDiff, ↓reduceIte, reduceIte, Nat.reduceAdd, Nat.reduceMul, Nat.reduceSub, Nat.reduceLeDiff, Nat.reduceBEq, Nat.reduceBNe, Int.reduceNeg, Int.reduceLT, Int.reduceLE, Int.reduceAdd, Int.reduceSub, Int.reduceToNat, Int.reduceEq, Int.reduceBEq, reduceCtorEq, List.cons.injEq, Int.reduceBNe, Int.sub_zero, decide_true, decide_false, false_and, and_false, hb, f1])
    | ((with_reducible refine W_ret ?_); simp only [go_sem, Nat.reduceEqDiff, ↓reduceIte, reduceIte, Nat.reduceAdd, Nat.reduceMul, Nat.reduceSub, Nat.reduceLeDiff, Nat.reduceBEq, Nat.reduceBNe, Int.reduceNeg, Int.reduceLT, Int.reduceLE, Int.reduceAdd, Int.reduceSub, Int.reduceToNat, Int.reduceEq, Int.reduceBEq, reduceCtorEq, List.cons.injEq, Int.reduceBNe, Int.sub_zero, decide_true, decide_false, false_and, and_false, hb, f1])
    | (clear hK K; (with_reducible refine hK _ ?_); clear hK K)
    | (clear hK K; clear hK K; (with_reducible refine hK _ ?_); clear hK K)
    | (clear hK K; clear hK K; clear hK K; (with_reducible refine hK _ ?_); clear hK K)
    | refine And.intro (by decide) (And.intro (by decide) ?_)
    | refine And.intro (by omega) ?_
    | simp only [go_sem, Nat.reduceEqDiff, ↓reduceIte, reduceIte, Nat.reduceAdd, Nat.reduceMul, Nat.reduceSub, Nat.reduceLeDiff, Nat.reduceBEq, Nat.reduceBNe, Int.reduceNeg, Int.reduceLT, Int.reduceLE, Int.reduceAdd, Int.reduceSub, Int.reduceToNat, Int.reduceEq, Int.reduceBEq, reduceCtorEq, List.cons.injEq, Int.reduceBNe, Int.sub_zero, decide_true, decide_false, false_and, and_false, hb, f1])
  refine stop_call (f27_ok _ b s o (by omega)) ?_ ?_
  · first | trivial | (simp only [go_sem, Nat.reduceEqDiff, ↓reduceIte, reduceIte, Nat.reduceAdd, Nat.reduceMul, Nat.reduceSub, Nat.reduceLeDiff, Nat.reduceBEq, Nat.reduceBNe, Int.reduceNeg, Int.reduceLT, Int.reduceLE, Int.reduceAdd, Int.reduceSub, Int.reduceToNat, Int.reduceEq, Int.reduceBEq, reduceCtorEq, List.cons.injEq, Int.reduceBNe, Int.sub_zero, decide_true, decide_false, false_and, and_false, hb, lgC]; done)
  repeat (first
    | with_reducible refine W_seq fun K hK => ?_
    | ((with_reducible refine W_reg ?_ ?_); (· rfl); simp only [go_sem, Nat.reduceEqDiff, ↓reduceIte, reduceIte, Nat.reduceAdd, Nat.reduceMul, Nat.reduceSub, Nat.reduceLeDiff, Nat.reduceBEq, Nat.reduceBNe, Int.reduceNeg, Int.reduceLT, Int.reduceLE, Int.reduceAdd, Int.reduceSub, Int.reduceToNat, Int.reduceEq, Int.reduceBEq, reduceCtorEq, List.cons.injEq, Int.reduceBNe, Int.sub_zero, decide_true, decide_false, false_and, and_false, f2])
    | ((with_reducible refine hK _ ?_); clear hK K)
    | (refine W_skip (hK _ ?_); clear hK K)
    | (refine W_cond rfl (fun hc => ?_) (fun hc => ?_); (· cases hc); clear hc)
    | (refine W_cond rfl (fun hc => ?_) (fun hc => ?_); rotate_left; (· cases hc); clear hc)
    | with_reducible refine W_block ?_
    | ((with_reducible refine W_exit ?_); simp only [go_sem, Nat.reduceEqDiff, ↓reduceIte, reduceIte, Nat.reduceAdd, Nat.reduceMul, Nat.reduceSub, Nat.reduceLeDiff, Nat.reduceBEq, Nat.reduceBNe, Int.reduceNeg, Int.reduceLT, Int.reduceLE, Int.reduceAdd, Int.reduceSub, Int.reduceToNat, Int.reduceEq, Int.reduceBEq, reduceCtorEq, List.cons.injEq, Int.reduceBNe, Int.sub_zero, decide_true, decide_false, false_and, and_false, f2])
    | ((with_reducible refine W_ret ?_); simp only [go_sem, Nat.reduceEqDiff, ↓reduceIte, reduceIte, Nat.reduceAdd, Nat.reduceMul, Nat.reduceSub, Nat.reduceLeDiff, Nat.reduceBEq, Nat.reduceBNe, Int.reduceNeg, Int.reduceLT, Int.reduceLE, Int.reduceAdd, Int.reduceSub, Int.reduceToNat, Int.reduceEq, Int.reduceBEq, reduceCtorEq, List.cons.injEq, Int.reduceBNe, Int.sub_zero, decide_true, decide_false, false_and, and_false, f2])
    | (clear hK K; (with_reducible refine hK _ ?_); clear hK K)
    | (clear hK K; clear hK K; (with_reducible refine hK _ ?_); clear hK K)
    | (clear hK K; clear hK K; clear hK K; (with_reducible refine hK _ ?_); clear hK K)
    | refine And.intro (by decide) (And.intro (by decide) ?_)
    | refine And.intro (by omega) ?_
    | simp only [go_sem, Nat.reduceEqDiff, ↓reduceIte, reduceIte, Nat.reduceAdd, Nat.reduceMul, Nat.reduceSub, Nat.reduceLeDiff, Nat.reduceBEq, Nat.reduceBNe, Int.reduceNeg, Int.reduceLT, Int.reduceLE, Int.reduceAdd, Int.reduceSub, Int.reduceToNat, Int.reduceEq, Int.reduceBEq, reduceCtorEq, List.cons.injEq, Int.reduceBNe, Int.sub_zero, decide_true, decide_false, false_and, and_false, f2])
  refine stop_call (f32_ok _ b s o i hs (by omega)) ?_ ?_
  · first | trivial | (simp only [go_sem, Nat.reduceEqDiff, ↓reduceIte, reduceIte, Nat.reduceAdd, Nat.reduceMul, Nat.reduceSub, Nat.reduceLeDiff, Nat.reduceBEq, Nat.reduceBNe, Int.reduceNeg, Int.reduceLT, Int.reduceLE, Int.reduceAdd, Int.reduceSub, Int.reduceToNat, Int.reduceEq, Int.reduceBEq, reduceCtorEq, List.cons.injEq, Int.reduceBNe, Int.sub_zero, decide_true, decide_false, false_and, and_false, hb, lgC]; done)
  repeat (first
    | with_reducible refine W_seq fun K hK => ?_
    | ((with_reducible refine W_reg ?_ ?_); (· rfl); simp only [go_sem, Nat.reduceEqDiff, ↓reduceIte, reduceIte, Nat.reduceAdd, Nat.reduceMul, Nat.reduceSub, Nat.reduceLeDiff, Nat.reduceBEq, Nat.reduceBNe, Int.reduceNeg, Int.reduceLT, Int.reduceLE, Int.reduceAdd, Int.reduceSub, Int.reduceToNat, Int.reduceEq, Int.reduceBEq, reduceCtorEq, List.cons.injEq, Int.reduceBNe, Int.sub_zero, decide_true, decide_false, false_and, and_false])
    | ((with_reducible refine hK _ ?_); clear hK K)
    | (refine W_skip (hK _ ?_); clear hK K)
    | (refine W_cond rfl (fun hc => ?_) (fun hc => ?_); (· cases hc); clear hc)
    | (refine W_cond rfl (fun hc => ?_) (fun hc => ?_); rotate_left; (· cases hc); clear hc)
    | with_reducible refine W_block ?_
    | ((with_reducible refine W_exit ?_); simp only [go_sem, Nat.reduceEqDiff, ↓reduceIte, reduceIte, Nat.reduceAdd, Nat.reduceMul, Nat.reduceSub, Nat.reduceLeDiff, Nat.reduceBEq, Nat.reduceBNe, Int.reduceNeg, Int.reduceLT, Int.reduceLE, Int.reduceAdd, Int.reduceSub, Int.reduceToNat, Int.reduceEq, Int.reduceBEq, reduceCtorEq, List.cons.injEq, Int.reduceBNe, Int.sub_zero, decide_true, decide_false, false_and, and_false])
    | ((with_reducible refine W_ret ?_); simp only [go_sem, Nat.reduceEqDiff, ↓reduceIte, reduceIte, Nat.reduceAdd, Nat.reduceMul, Nat.reduceSub, Nat.reduceLeDiff, Nat.reduceBEq, Nat.reduceBNe, Int.reduceNeg, Int.reduceLT, Int.reduceLE, Int.reduceAdd, Int.reduceSub, Int.reduceToNat, Int.reduceEq, Int.reduceBEq, reduceCtorEq, List.cons.injEq, Int.reduceBNe, Int.sub_zero, decide_true, decide_false, false_and, and_false])
    | (clear hK K; (with_reducible refine hK _ ?_); clear hK K)
    | (clear hK K; clear hK K; (with_reducible refine hK _ ?_); clear hK K)
    | (clear hK K; clear hK K; clear hK K; (with_reducible refine hK _ ?_); clear hK K)
    | refine And.intro (by decide) (And.intro (by decide) ?_)
    | refine And.intro (by omega) ?_
    | simp only [go_sem, Nat.reduceEqDiff, ↓reduceIte, reduceIte, Nat.reduceAdd, Nat.reduceMul, Nat.reduceSub, Nat.reduceLeDiff, Nat.reduceBEq, Nat.reduceBNe, Int.reduceNeg, Int.reduceLT, Int.reduceLE, Int.reduceAdd, Int.reduceSub, Int.reduceToNat, Int.reduceEq, Int.reduceBEq, reduceCtorEq, List.cons.injEq, Int.reduceBNe, Int.sub_zero, decide_true, decide_false, false_and, and_false])
  refine stop_call (f36_ok _ b s o i hs (by omega) hd hix) ?_ ?_
  · first | trivial | (simp only [go_sem, Nat.reduceEqDiff, ↓reduceIte, reduceIte, Nat.reduceAdd, Nat.reduceMul, Nat.reduceSub, Nat.reduceLeDiff, Nat.reduceBEq, Nat.reduceBNe, Int.reduceNeg, Int.reduceLT, Int.reduceLE, Int.reduceAdd, Int.reduceSub, Int.reduceToNat, Int.reduceEq, Int.reduceBEq, reduceCtorEq, List.cons.injEq, Int.reduceBNe, Int.sub_zero, decide_true, decide_false, false_and, and_false, hb, lgC]; done)
  repeat (first
    | with_reducible refine W_seq fun K hK => ?_
    | ((with_reducible refine W_reg ?_ ?_); (· rfl); simp only [go_sem, Nat.reduceEqDiff, ↓reduceIte, reduceIte, Nat.reduceAdd, Nat.reduceMul, Nat.reduceSub, Nat.reduceLeDiff, Nat.reduceBEq, Nat.reduceBNe, Int.reduceNeg, Int.reduceLT, Int.reduceLE, Int.reduceAdd, Int.reduceSub, Int.reduceToNat, Int.reduceEq, Int.reduceBEq, reduceCtorEq, List.cons.injEq, Int.reduceBNe, Int.sub_zero, decide_true, decide_false, false_and, and_false])
    | ((with_reducible refine hK _ ?_); clear hK K)
    | (refine W_skip (hK _ ?_); clear hK K)
    | (refine W_cond rfl (fun hc => ?_) (fun hc => ?_); (· cases hc); clear hc)
    | (refine W_cond rfl (fun hc => ?_) (fun hc => ?_); rotate_left; (· cases hc); clear hc)
    | with_reducible refine W_block ?_
    | ((with_reducible refine W_exit ?_); simp only [go_sem, Nat.reduceEqDiff, ↓reduceIte, reduceIte, Nat.reduceAdd, Nat.reduceMul, Nat.reduceSub, Nat.reduceLeDiff, Nat.reduceBEq, Nat.reduceBNe, Int.reduceNeg, Int.reduceLT, Int.reduceLE, Int.reduceAdd, Int.reduceSub, Int.reduceToNat, Int.reduceEq, Int.reduceBEq, reduceCtorEq, List.cons.injEq, Int.reduceBNe, Int.sub_zero, decide_true, decide_false, false_and, and_false])
    | ((with_reducible refine W_ret ?_); simp only [go_sem, Nat.reduceEqDiff, ↓reduceIte, reduceIte, Nat.reduceAdd, Nat.reduceMul, Nat.reduceSub, Nat.reduceLeDiff, Nat.reduceBEq, Nat.reduceBNe, Int.reduceNeg, Int.reduceLT, Int.reduceLE, Int.reduceAdd, Int.reduceSub, Int.reduceToNat, Int.reduceEq, Int.reduceBEq, reduceCtorEq, List.cons.injEq, Int.reduceBNe, Int.sub_zero, decide_true, decide_false, false_and, and_false])
    | (clear hK K; (with_reducible refine hK _ ?_); clear hK K)
    | (clear hK K; clear hK K; (with_reducible refine hK _ ?_); clear hK K)
    | (clear hK K; clear hK K; clear hK K; (with_reducible refine hK _ ?_); clear hK K)
    | refine And.intro (by decide) (And.intro (by decide) ?_)
    | refine And.intro (by omega) ?_
    | simp only [go_sem, Nat.reduceEqDiff, ↓reduceIte, reduceIte, Nat.reduceAdd, Nat.reduceMul, Nat.reduceSub, Nat.reduceLeDiff, Nat.reduceBEq, Nat.reduceBNe, Int.reduceNeg, Int.reduceLT, Int.reduceLE, Int.reduceAdd, Int.reduceSub, Int.reduceToNat, Int.reduceEq, Int.reduceBEq, reduceCtorEq, List.cons.injEq, Int.reduceBNe, Int.sub_zero, decide_true, decide_false, false_and, and_false])
  refine W_drw [[], [0], [0, 1], [0, 1, 2], [], [], [5], [5, 6], [5, 6, 7], [5, 6, 7, 8], [4, 5, 6, 7, 8, 9], [0, 1, 2, 3, 4, 5, 6, 7, 8, 9, 10], [0, 1, 2, 3, 4, 5, 6, 7, 8, 9, 10, 11], [0, 1, 2, 3, 4, 5, 6, 7, 8, 9, 10, 11, 12]] follows_mixed (by rfl) (by rfl) ?_
  repeat (first
    | with_reducible refine W_seq fun K hK => ?_
    | ((with_reducible refine W_reg ?_ ?_); (· rfl); simp only [go_sem, Nat.reduceEqDiff, ↓reduceIte, reduceIte, Nat.reduceAdd, Nat.reduceMul, Nat.reduceSub, Nat.reduceLeDiff, Nat.reduceBEq, Nat.reduceBNe, Int.reduceNeg, Int.reduceLT, Int.reduceLE, Int.reduceAdd, Int.reduceSub, Int.reduceToNat, Int.reduceEq, Int.reduceBEq, reduceCtorEq, List.cons.injEq, Int.reduceBNe, Int.sub_zero, decide_true, decide_false, false_and, and_false, hb, w1, hn1, hn2])
    | ((with_reducible refine hK _ ?_); clear hK K)
    | (refine W_skip (hK _ ?_); clear hK K)
    | (refine W_cond rfl (fun hc => ?_) (fun hc => ?_); (· cases hc); clear hc)
    | (refine W_cond rfl (fun hc => ?_) (fun hc => ?_); rotate_left; (· cases hc); clear hc)
    | with_reducible refine W_block ?_
    | ((with_reducible refine W_exit ?_); simp only [go_sem, Nat.reduceEqDiff, ↓reduceIte, reduceIte, Nat.reduceAdd, Nat.reduceMul, Nat.reduceSub, Nat.reduceLeDiff, Nat.reduceBEq, Nat.reduceBNe, Int.reduceNeg, Int.reduceLT, Int.reduceLE, Int.reduceAdd, Int.reduceSub, Int.reduceToNat, Int.reduceEq, Int.reduceBEq, reduceCtorEq, List.cons.injEq, Int.reduceBNe, Int.sub_zero, decide_true, decide_false, false_and, and_false, hb, w1, hn1, hn2])
    | ((with_reducible refine W_ret ?_); simp only [go_sem, Nat.reduceEqDiff, ↓reduceIte, reduceIte, Nat.reduceAdd, Nat.reduceMul, Nat.reduceSub, Nat.reduceLeDiff, Nat.reduceBEq, Nat.reduceBNe, Int.reduceNeg, Int.reduceLT, Int.reduceLE, Int.reduceAdd, Int.reduceSub, Int.reduceToNat, Int.reduceEq, Int.reduceBEq, reduceCtorEq, List.cons.injEq, Int.reduceBNe, Int.sub_zero, decide_true, decide_false, false_and, and_false, hb, w1, hn1, hn2])
    | (clear hK K; (with_reducible refine hK _ ?_); clear hK K)
    | (clear hK K; clear hK K; (with_reducible refine hK _ ?_); clear hK K)
    | (clear hK K; clear hK K; clear hK K; (with_reducible refine hK _ ?_); clear hK K)
    | refine And.intro (by decide) (And.intro (by decide) ?_)
    | refine And.intro (by omega) ?_
    | simp only [go_sem, Nat.reduceEqDiff, ↓reduceIte, reduceIte, Nat.reduceAdd, Nat.reduceMul, Nat.reduceSub, Nat.reduceLeDiff, Nat.reduceBEq, Nat.reduceBNe, Int.reduceNeg, Int.reduceLT, Int.reduceLE, Int.reduceAdd, Int.reduceSub, Int.reduceToNat, Int.reduceEq, Int.reduceBEq, reduceCtorEq, List.cons.injEq, Int.reduceBNe, Int.sub_zero, decide_true, decide_false, false_and, and_false, hb, w1, hn1, hn2])
  refine sliceW_sq (i - s.i).toNat (sqL o).length ty26.2.2.2.1 ty44.2.1 Ent.enc_len (by simp only [bndA]; congr 1; omega) rfl (by omega) (by omega) ?_
  have ho1 : sqL (o.map fun x => (x.drop (i - s.i).toNat).take ((sqL o).length - (i - s.i).toNat)) = (sqL o).drop (i - s.i).toNat := by rw [sqL_map _ _ (by simp), List.take_of_length_le (by simp)]
  generalize (o.map fun x => (x.drop (i - s.i).toNat).take ((sqL o).length - (i - s.i).toNat)) = o1 at *
  simp only [go_sem, Nat.reduceEqDiff, ↓reduceIte, reduceIte, Nat.reduceAdd, Nat.reduceMul, Nat.reduceSub, Nat.reduceLeDiff, Nat.reduceBEq, Nat.reduceBNe, Int.reduceNeg, Int.reduceLT, Int.reduceLE, Int.reduceAdd, Int.reduceSub, Int.reduceToNat, Int.reduceEq, Int.reduceBEq, reduceCtorEq, List.cons.injEq, Int.reduceBNe, Int.sub_zero, decide_true, decide_false, false_and, and_false, hb, w1]
  refine stopD_append_nil 44 4 48 o1 ty26.2.2.2.1 ty44.2.1 ty44.2.2.1 (by simp only [go_sem, Nat.reduceEqDiff, ↓reduceIte, reduceIte, Nat.reduceAdd, Nat.reduceMul, Nat.reduceSub, Nat.reduceLeDiff, Nat.reduceBEq, Nat.reduceBNe, Int.reduceNeg, Int.reduceLT, Int.reduceLE, Int.reduceAdd, Int.reduceSub, Int.reduceToNat, Int.reduceEq, Int.reduceBEq, reduceCtorEq, List.cons.injEq, Int.reduceBNe, Int.sub_zero, decide_true, decide_false, false_and, and_false] <;> rfl) Ent.enc_len rfl rfl (by simp only [go_sem, Nat.reduceEqDiff, ↓reduceIte, reduceIte, Nat.reduceAdd, Nat.reduceMul, Nat.reduceSub, Nat.reduceLeDiff, Nat.reduceBEq, Nat.reduceBNe, Int.reduceNeg, Int.reduceLT, Int.reduceLE, Int.reduceAdd, Int.reduceSub, Int.reduceToNat, Int.reduceEq, Int.reduceBEq, reduceCtorEq, List.cons.injEq, Int.reduceBNe, Int.sub_zero, decide_true, decide_false, false_and, and_false] <;> rfl) (by rw [ho1]; simp; omega) (by rw [ho1]; simp [maxLen]; omega) ?_
  rw [ho1]
  repeat (first
    | with_reducible refine W_seq fun K hK => ?_
    | ((with_reducible refine W_reg ?_ ?_); (· rfl); simp only [go_sem, Nat.reduceEqDiff, ↓reduceIte, reduceIte, Nat.reduceAdd, Nat.reduceMul, Nat.reduceSub, Nat.reduceLeDiff, Nat.reduceBEq, Nat.reduceBNe, Int.reduceNeg, Int.reduceLT, Int.reduceLE, Int.reduceAdd, Int.reduceSub, Int.reduceToNat, Int.reduceEq, Int.reduceBEq, reduceCtorEq, List.cons.injEq, Int.reduceBNe, Int.sub_zero, decide_true, decide_false, false_and, and_false, hb, hn1, hn2])
    | ((with_reducible refine hK _ ?_); clear hK K)
    | (refine W_skip (hK _ ?_); clear hK K)
    | (refine W_cond rfl (fun hc => ?_) (fun hc => ?_); (· cases hc); clear hc)
    | (refine W_cond rfl (fun hc => ?_) (fun hc => ?_); rotate_left; (· cases hc); clear hc)
    | with_reducible refine W_block ?_
    | ((with_reducible refine W_exit ?_); simp only [go_sem, Nat.reduceEqDiff, ↓reduceIte, reduceIte, Nat.reduceAdd, Nat.reduceMul, Nat.reduceSub, Nat.reduceLeDiff, Nat.reduceBEq, Nat.reduceBNe, Int.reduceNeg, Int.reduceLT, Int.reduceLE, Int.reduceAdd, Int.reduceSub, Int.reduceToNat, Int.reduceEq, Int.reduceBEq, reduceCtorEq, List.cons.injEq, Int.reduceBNe, Int.sub_zero, decide_true, decide_false, false_and, and_false, hb, hn1, hn2])
    | ((with_reducible refine W_ret ?_); simp only [go_sem, Nat.reduceEqDiff, ↓reduceIte, reduceIte, Nat.reduceAdd, Nat.reduceMul, Nat.reduceSub, Nat.reduceLeDiff, Nat.reduceBEq, Nat.reduceBNe, Int.reduceNeg, Int.reduceLT, Int.reduceLE, Int.reduceAdd, Int.reduceSub, Int.reduceToNat, Int.reduceEq, Int.reduceBEq, reduceCtorEq, List.cons.injEq, Int.reduceBNe, Int.sub_zero, decide_true, decide_false, false_and, and_false, hb, hn1, hn2])
    | (clear hK K; (with_reducible refine hK _ ?_); clear hK K)
    | (clear hK K; clear hK K; (with_reducible refine hK _ ?_); clear hK K)
    | (clear hK K; clear hK K; clear hK K; (with_reducible refine hK _ ?_); clear hK K)
    | refine And.intro (by decide) (And.intro (by decide) ?_)
    | refine And.intro (by omega) ?_
    | simp only [go_sem, Nat.reduceEqDiff, ↓reduceIte, reduceIte, Nat.reduceAdd, Nat.reduceMul, Nat.reduceSub, Nat.reduceLeDiff, Nat.reduceBEq, Nat.reduceBNe, Int.reduceNeg, Int.reduceLT, Int.reduceLE, Int.reduceAdd, Int.reduceSub, Int.reduceToNat, Int.reduceEq, Int.reduceBEq, reduceCtorEq, List.cons.injEq, Int.reduceBNe, Int.sub_zero, decide_true, decide_false, false_and, and_false, hb, hn1, hn2])
  refine stop_append_nil 5 1 1 d ty23.2.2.2.1 ty5.2.1 ty5.2.2.1 (by simp only [go_sem, Nat.reduceEqDiff, ↓reduceIte, reduceIte, Nat.reduceAdd, Nat.reduceMul, Nat.reduceSub, Nat.reduceLeDiff, Nat.reduceBEq, Nat.reduceBNe, Int.reduceNeg, Int.reduceLT, Int.reduceLE, Int.reduceAdd, Int.reduceSub, Int.reduceToNat, Int.reduceEq, Int.reduceBEq, reduceCtorEq, List.cons.injEq, Int.reduceBNe, Int.sub_zero, decide_true, decide_false, false_and, and_false] <;> rfl) bE_len rfl rfl (by simp only [go_sem, Nat.reduceEqDiff, ↓reduceIte, reduceIte, Nat.reduceAdd, Nat.reduceMul, Nat.reduceSub, Nat.reduceLeDiff, Nat.reduceBEq, Nat.reduceBNe, Int.reduceNeg, Int.reduceLT, Int.reduceLE, Int.reduceAdd, Int.reduceSub, Int.reduceToNat, Int.reduceEq, Int.reduceBEq, reduceCtorEq, List.cons.injEq, Int.reduceBNe, Int.sub_zero, decide_true, decide_false, false_and, and_false] <;> rfl) (by omega) (by unfold maxLen; omega) ?_
  repeat (first
    | with_reducible refine W_seq fun K hK => ?_
    | ((with_reducible refine W_reg ?_ ?_); (· rfl); simp only [go_sem, Nat.reduceEqDiff, ↓reduceIte, reduceIte, Nat.reduceAdd, Nat.reduceMul, Nat.reduceSub, Nat.reduceLeDiff, Nat.reduceBEq, Nat.reduceBNe, Int.reduceNeg, Int.reduceLT, Int.reduceLE, Int.reduceAdd, Int.reduceSub, Int.reduceToNat, Int.reduceEq, Int.reduceBEq, reduceCtorEq, List.cons.injEq, Int.reduceBNe, Int.sub_zero, decide_true, decide_false, false_and, and_false, hb, hn1, hn2])
    | ((with_reducible refine hK _ ?_); clear hK K)
    | (refine W_skip (hK _ ?_); clear hK K)
    | (refine W_cond rfl (fun hc => ?_) (fun hc => ?_); (· cases hc); clear hc)
    | (refine W_cond rfl (fun hc => ?_) (fun hc => ?_); rotate_left; (· cases hc); clear hc)
    | with_reducible refine W_block ?_
    | ((with_reducible refine W_exit ?_); simp only [go_sem, Nat.reduceEqDiff, ↓reduceIte, reduceIte, Nat.reduceAdd, Nat.reduceMul, Nat.reduceSub, Nat.reduceLeDiff, Nat.reduceBEq, Nat.reduceBNe, Int.reduceNeg, Int.reduceLT, Int.reduceLE, Int.reduceAdd, Int.reduceSub, Int.reduceToNat, Int.reduceEq, Int.reduceBEq, reduceCtorEq, List.cons.injEq, Int.reduceBNe, Int.sub_zero, decide_true, decide_false, false_and, and_false, hb, hn1, hn2])
    | ((with_reducible refine W_ret ?_); simp only [go_sem, Nat.reduceEqDiff, ↓reduceIte, reduceIte, Nat.reduceAdd, Nat.reduceMul, Nat.reduceSub, Nat.reduceLeDiff, Nat.reduceBEq, Nat.reduceBNe, Int.reduceNeg, Int.reduceLT, Int.reduceLE, Int.reduceAdd, Int.reduceSub, Int.reduceToNat, Int.reduceEq, Int.reduceBEq, reduceCtorEq, List.cons.injEq, Int.reduceBNe, Int.sub_zero, decide_true, decide_false, false_and, and_false, hb, hn1, hn2])
    | (clear hK K; (with_reducible refine hK _ ?_); clear hK K)
    | (clear hK K; clear hK K; (with_reducible refine hK _ ?_); clear hK K)
    | (clear hK K; clear hK K; clear hK K; (with_reducible refine hK _ ?_); clear hK K)
    | refine And.intro (by decide) (And.intro (by decide) ?_)
    | refine And.intro (by omega) ?_
    | simp only [go_sem, Nat.reduceEqDiff, ↓reduceIte, reduceIte, Nat.reduceAdd, Nat.reduceMul, Nat.reduceSub, Nat.reduceLeDiff, Nat.reduceBEq, Nat.reduceBNe, Int.reduceNeg, Int.reduceLT, Int.reduceLE, Int.reduceAdd, Int.reduceSub, Int.reduceToNat, Int.reduceEq, Int.reduceBEq, reduceCtorEq, List.cons.injEq, Int.reduceBNe, Int.sub_zero, decide_true, decide_false, false_and, and_false, hb, hn1, hn2])
  refine ends_ret ?_ (hle_set1 (by simp only [go_sem, Nat.reduceEqDiff, ↓reduceIte, reduceIte, Nat.reduceAdd, Nat.reduceMul, Nat.reduceSub, Nat.reduceLeDiff, Nat.reduceBEq, Nat.reduceBNe, Int.reduceNeg, Int.reduceLT, Int.reduceLE, Int.reduceAdd, Int.reduceSub, Int.reduceToNat, Int.reduceEq, Int.reduceBEq, reduceCtorEq, List.cons.injEq, Int.reduceBNe, Int.sub_zero, decide_true, decide_false, false_and, and_false, hn1, hn2, lgC, compS]) (fun c hc hn => by have hq9 : ∀ i j, (c = i :: j :: id) = False := fun i j => (by rw [eq_iff_iff, iff_false]; rintro rfl; exact hn (hfr [i, j])); simp only [go_sem, Nat.reduceEqDiff, ↓reduceIte, reduceIte, Nat.reduceAdd, Nat.reduceMul, Nat.reduceSub, Nat.reduceLeDiff, Nat.reduceBEq, Nat.reduceBNe, Int.reduceNeg, Int.reduceLT, Int.reduceLE, Int.reduceAdd, Int.reduceSub, Int.reduceToNat, Int.reduceEq, Int.reduceBEq, reduceCtorEq, List.cons.injEq, Int.reduceBNe, Int.sub_zero, decide_true, decide_false, false_and, and_false, hc, hq9, hn1, hn2, lgC, compS]))
  simp only [go_sem, Nat.reduceEqDiff, ↓reduceIte, reduceIte, Nat.reduceAdd, Nat.reduceMul, Nat.reduceSub, Nat.reduceLeDiff, Nat.reduceBEq, Nat.reduceBNe, Int.reduceNeg, Int.reduceLT, Int.reduceLE, Int.reduceAdd, Int.reduceSub, Int.reduceToNat, Int.reduceEq, Int.reduceBEq, reduceCtorEq, List.cons.injEq, Int.reduceBNe, Int.sub_zero, decide_true, decide_false, false_and, and_false, Try.f14]
end Go.Proofs.Ytcfmbbebnobflaa
