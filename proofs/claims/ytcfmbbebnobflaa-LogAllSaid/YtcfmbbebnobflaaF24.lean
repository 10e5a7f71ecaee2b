/- begun. -/
import Derived.Test.YtcfmbbebnobflaaF23
set_option linter.unusedVariables false
set_option linter.unusedSimpArgs false
namespace Go.Proofs.Ytcfmbbebnobflaa
open Go Go.SX

def s0 : Snp := ⟨3, 1, some [1, 2], none⟩
def e0 : Ent := ⟨4, 2, 2, some [120]⟩
theorem new0 : newOk s0 [e0] := ⟨by decide, by decide, ⟨rfl, by decide, by decide, by decide, by decide, fun h => by cases h⟩, trivial⟩

set_option maxRecDepth 8000 in
set_option maxHeartbeats 1000000 in
theorem f4_ok (id : BId) : CallF Try.prog 4 [] id [] (.p (.bool true)) [] := by
  refine ⟨⟨_, Try.func4, by decide, rfl⟩, (by simp <;> repeat first | exact ⟨[_, _], rfl⟩ | constructor), fun h hr => callsA_of_W Try.func4 rfl fun hfr => ?_⟩
  have c1 : CallF Try.prog 7 [.agg [.p (.int .i64 3), .p (.int .i64 1), .imm true 2 [.p (.int .i64 1), .p (.int .i64 2)], .p (.slice none 0 0)], .imm true 1 [.p (.int .i64 4), .p (.int .i64 2), .p (.int .i64 2), .imm true 1 [.p (.int .u8 120)]]]
      (6 :: 1 :: id) [] (.ptr (3 :: 2 :: 6 :: 1 :: id) 0) [(3 :: 2 :: 6 :: 1 :: id, some (.cells 53 (lgC s0 (some [e0]))))] :=
    (f7_ok (6 :: 1 :: id) s0 (some [e0]) (by decide) (by decide) (by simp [sqL, e0]) (by decide) (by decide) new0).weak
      (.cons (sub_agg (.cons (sub_refl _) (.cons (sub_refl _) (.cons (sub_imm (subL_refl _) (fun h => by cases h)) (.cons (sub_refl _) .nil))))) (.cons (sub_imm (.cons (sub_refl _) (.cons (sub_refl _) (.cons (sub_refl _) (.cons (sub_imm (subL_refl _) (fun h => by cases h)) .nil)))) (fun h => by cases h)) .nil))
  have c2 : CallF Try.prog 7 [.agg [.p (.int .i64 0), .p (.int .i64 0), .p (.slice none 0 0), .p (.slice none 0 0)], .imm true 1 [.p (.int .i64 2), .p (.int .i64 1), .p (.int .i64 1), .p (.slice none 0 0)]] (31 :: 4 :: id) [] (.p (.pointer none)) [] :=
    (f7_bad (31 :: 4 :: id) ⟨0, 0, none, none⟩ (some [⟨2, 1, 1, none⟩]) (by decide) (by decide) (by simp [sqL]) (by rintro ⟨_, _, ⟨h, _⟩, _⟩; cases h)).weak
      (.cons (sub_refl _) (.cons (sub_imm (subL_refl _) (fun h => by cases h)) .nil))
  refine W_seq fun K hK => ?_
  refine W_reg rfl ?_
  simp only [go_sem, Nat.reduceEqDiff, ↓reduceIte, reduceIte, Nat.reduceAdd, Nat.reduceMul, Nat.reduceSub, Nat.reduceLeDiff, Nat.reduceBEq, Nat.reduceBNe, Int.reduceNeg, Int.reduceLT, Int.reduceLE, Int.reduceAdd, Int.reduceSub, Int.reduceToNat, Int.reduceEq, Int.reduceBEq, reduceCtorEq, List.cons.injEq, Int.reduceBNe, Int.sub_zero, decide_true, decide_false, false_and, and_false]
  refine hK _ ?_; clear hK K
  refine W_seq fun K hK => ?_
  refine W_regb [2, 3] (by rfl) ?_
  repeat (first
    | with_reducible refine W_seq fun K hK => ?_
    | ((with_reducible refine W_reg ?_ ?_); (· rfl); simp only [go_sem, Nat.reduceEqDiff, ↓reduceIte, reduceIte, Nat.reduceAdd, Nat.reduceMul, Nat.reduceSub, Nat.reduceLeDiff, Nat.reduceBEq, Nat.reduceBNe, Int.reduceNeg, Int.reduceLT, Int.reduceLE, Int.reduceAdd, Int.reduceSub, Int.reduceToNat, Int.reduceEq, Int.reduceBEq, reduceCtorEq, List.cons.injEq, Int.reduceBNe, Int.sub_zero, decide_true, decide_false, false_and, and_false])
    | ((with_reducible refine hK _ ?_); clear hK K)
    | (refine W_skip (hK _ ?_); clear hK K)
    | (refine W_cond rfl (fun hc => ?_) (fun hc => ?_); (· cases hc); clear hc)
    | (refine W_cond rfl (fun hc => ?_) (fun hc => ?_); rotate_left; (· cases hc); clear hc)
    | with_reducible refine W_block ?_
    | ((with_reducible refine W_exit ?_); simp only [go_sem, Nat.reduceEqDiff, ↓reduceIte, reduceIte, Nat.reduceAdd, Nat.reduceMul, Nat.reduceSub, Nat.reduceLeDiff, Nat.reduceBEq, Nat.reduceBNe, Int.reduceNeg, Int.reduceLT, Int.reduceLE, Int.reduceAdd, Int.reduceSub, Int.reduceToNat, Int.reduceEq, Int.reduceBEq, reduceCtorEq, List.cons.injEq, Int.reduceBNe, Int.sub_zero, decide_true, decide_false, false_and, and_false])
    | ((with_reducible refine W_ret ?_); simp only [go_sem, Nat.reduceEqDiff, ↓reduceIte, reduceIte, Nat.reduceAdd, Nat.reduceMul, Nat.reduceSub, Nat.reduceLeDiff, Nat.reduceBEq, Nat.reduceBNe, Int.reduceNeg, Int.reduceLT, Int.reduceLE, Int.reduceAdd, Int.reduceSub, Int.reduceToNat, Int.reduceEq, Int.reduceBEq, reduceCtorEq, List.cons.injEq, Int.reduceBNe, Int.sub_zero, decide_true, decide_false, false_and, and_false])
    | (clear hK K; (with_reducible refine hK _ ?_); clear hK K)
    | (clear hK K; clear hK K; (with_reducible refine hK _ ?_); clear hK K)
    | (clear hK K; clear hK K; clear hK K; (with_reducible refine hK _ ?_); clear hK K)
    | refine And.intro (by decide) (And.intro (by decide) ?_)
    | refine And.intro (by omega) ?_
    | simp only [go_sem, Nat.reduceEqDiff, ↓reduceIte, reduceIte, Nat.reduceAdd, Nat.reduceMul, Nat.reduceSub, Nat.reduceLeDiff, Nat.reduceBEq, Nat.reduceBNe, Int.reduceNeg, Int.reduceLT, Int.reduceLE, Int.reduceAdd, Int.reduceSub, Int.reduceToNat, Int.reduceEq, Int.reduceBEq, reduceCtorEq, List.cons.injEq, Int.reduceBNe, Int.sub_zero, decide_true, decide_false, false_and, and_false])
  refine stop_call c1 trivial ?_
  repeat (first
    | with_reducible refine W_seq fun K hK => ?_
    | ((with_reducible refine W_reg ?_ ?_); (· rfl); simp only [go_sem, Nat.reduceEqDiff, ↓reduceIte, reduceIte, Nat.reduceAdd, Nat.reduceMul, Nat.reduceSub, Nat.reduceLeDiff, Nat.reduceBEq, Nat.reduceBNe, Int.reduceNeg, Int.reduceLT, Int.reduceLE, Int.reduceAdd, Int.reduceSub, Int.reduceToNat, Int.reduceEq, Int.reduceBEq, reduceCtorEq, List.cons.injEq, Int.reduceBNe, Int.sub_zero, decide_true, decide_false, false_and, and_false])
    | ((with_reducible refine hK _ ?_); clear hK K)
    | (refine W_skip (hK _ ?_); clear hK K)
    | (refine W_cond rfl (fun hc => ?_) (fun hc => ?_); (· cases hc); clear hc)
    | (refine W_cond rfl (fun hc => ?_) (fun hc => ?_); rotate_left; (· cases hc); clear hc)
    | with_reducible refine W_block ?_
    | ((with_reducible refine W_exit ?_); simp only [go_sem, Nat.reduceEqDiff, ↓reduceIte, reduceIte, Nat.reduceAdd, Nat.reduceMul, Nat.reduceSub, Nat.reduceLeDiff, Nat.reduceBEq, Nat.reduceBNe, Int.reduceNeg, Int.reduceLT, Int.reduceLE, Int.reduceAdd, Int.reduceSub, Int.reduceToNat, Int.reduceEq, Int.reduceBEq, reduceCtorEq, List.cons.injEq, Int.reduceBNe, Int.sub_zero, decide_true, decide_false, false_and, and_false])
    | ((with_reducible refine W_ret ?_); simp only [go_sem, Nat.reduceEqDiff, ↓reduceIte, reduceIte, Nat.reduceAdd, Nat.reduceMul, Nat.reduceSub, Nat.reduceLeDiff, Nat.reduceBEq, Nat.reduceBNe, Int.reduceNeg, Int.reduceLT, Int.reduceLE, Int.reduceAdd, Int.reduceSub, Int.reduceToNat, Int.reduceEq, Int.reduceBEq, reduceCtorEq, List.cons.injEq, Int.reduceBNe, Int.sub_zero, decide_true, decide_false, false_and, and_false])
    | (clear hK K; (with_reducible refine hK _ ?_); clear hK K)
    | (clear hK K; clear hK K; (with_reducible refine hK _ ?_); clear hK K)
    | (clear hK K; clear hK K; clear hK K; (with_reducible refine hK _ ?_); clear hK K)
    | refine And.intro (by decide) (And.intro (by decide) ?_)
    | refine And.intro (by omega) ?_
    | simp only [go_sem, Nat.reduceEqDiff, ↓reduceIte, reduceIte, Nat.reduceAdd, Nat.reduceMul, Nat.reduceSub, Nat.reduceLeDiff, Nat.reduceBEq, Nat.reduceBNe, Int.reduceNeg, Int.reduceLT, Int.reduceLE, Int.reduceAdd, Int.reduceSub, Int.reduceToNat, Int.reduceEq, Int.reduceBEq, reduceCtorEq, List.cons.injEq, Int.reduceBNe, Int.sub_zero, decide_true, decide_false, false_and, and_false])
  have hb : ∀ (H : Heap) (X : Option Blk), hset H (3 :: 2 :: 6 :: 1 :: id) X (3 :: 2 :: 6 :: 1 :: id) = X := fun H X => hset_same _ _ _
  have t0 : s0.i = 3 := rfl
  have t1 : termL s0 [e0] 3 = (1, true) := rfl
  have t2 : lastL s0 [e0] = 4 := rfl
  have hd0 : ∀ e ∈ sqL (some [e0]), (sqL e.d).length ≤ 1000 := by simp [sqL, e0]
  have t3 : sqL (confA s0 [e0] 4) = [1, 2] := by
    have : confA s0 [e0] 4 = some [1, 2] := by
      show confN (some [1, 2]) [e0] (min 4 (3 + (1 : Int)) - 3).toNat = _
      rw [show (min 4 (3 + (1 : Int)) - 3).toNat = 0 + 1 from rfl, confN_miss (by decide) (by decide)]; rfl
    rw [this]; rfl
  have t4 : sliceL s0 [e0] 4 9 = [e0] := rfl
  refine stop_call (f17_ok _ (3 :: 2 :: 6 :: 1 :: id) s0 (some [e0]) 3 (by decide) (by decide)) ?_ ?_
  · first | trivial | (simp only [go_sem, Nat.reduceEqDiff, ↓reduceIte, reduceIte, Nat.reduceAdd, Nat.reduceMul, Nat.reduceSub, Nat.reduceLeDiff, Nat.reduceBEq, Nat.reduceBNe, Int.reduceNeg, Int.reduceLT, Int.reduceLE, Int.reduceAdd, Int.reduceSub, Int.reduceToNat, Int.reduceEq, Int.reduceBEq, reduceCtorEq, List.cons.injEq, Int.reduceBNe, Int.sub_zero, decide_true, decide_false, false_and, and_false, hb]; done)
  repeat (first
    | with_reducible refine W_seq fun K hK => ?_
    | ((with_reducible refine W_reg ?_ ?_); (· rfl); simp only [go_sem, Nat.reduceEqDiff, ↓reduceIte, reduceIte, Nat.reduceAdd, Nat.reduceMul, Nat.reduceSub, Nat.reduceLeDiff, Nat.reduceBEq, Nat.reduceBNe, Int.reduceNeg, Int.reduceLT, Int.reduceLE, Int.reduceAdd, Int.reduceSub, Int.reduceToNat, Int.reduceEq, Int.reduceBEq, reduceCtorEq, List.cons.injEq, Int.reduceBNe, Int.sub_zero, decide_true, decide_false, false_and, and_false, t1, sqL_some])
    | ((with_reducible refine hK _ ?_); clear hK K)
    | (refine W_skip (hK _ ?_); clear hK K)
    | (refine W_cond rfl (fun hc => ?_) (fun hc => ?_); (· cases hc); clear hc)
    | (refine W_cond rfl (fun hc => ?_) (fun hc => ?_); rotate_left; (· cases hc); clear hc)
    | with_reducible refine W_block ?_
    | ((with_reducible refine W_exit ?_); simp only [go_sem, Nat.reduceEqDiff, ↓reduceIte, reduceIte, Nat.reduceAdd, Nat.reduceMul, Nat.reduceSub, Nat.reduceLeDiff, Nat.reduceBEq, Nat.reduceBNe, Int.reduceNeg, Int.reduceLT, Int.reduceLE, Int.reduceAdd, Int.reduceSub, Int.reduceToNat, Int.reduceEq, Int.reduceBEq, reduceCtorEq, List.cons.injEq, Int.reduceBNe, Int.sub_zero, decide_true, decide_false, false_and, and_false, t1, sqL_some])
    | ((with_reducible refine W_ret ?_); simp only [go_sem, Nat.reduceEqDiff, ↓reduceIte, reduceIte, Nat.reduceAdd, Nat.reduceMul, Nat.reduceSub, Nat.reduceLeDiff, Nat.reduceBEq, Nat.reduceBNe, Int.reduceNeg, Int.reduceLT, Int.reduceLE, Int.reduceAdd, Int.reduceSub, Int.reduceToNat, Int.reduceEq, Int.reduceBEq, reduceCtorEq, List.cons.injEq, Int.reduceBNe, Int.sub_zero, decide_true, decide_false, false_and, and_false, t1, sqL_some])
    | (clear hK K; (with_reducible refine hK _ ?_); clear hK K)
    | (clear hK K; clear hK K; (with_reducible refine hK _ ?_); clear hK K)
    | (clear hK K; clear hK K; clear hK K; (with_reducible refine hK _ ?_); clear hK K)
    | refine And.intro (by decide) (And.intro (by decide) ?_)
    | refine And.intro (by omega) ?_
    | simp only [go_sem, Nat.reduceEqDiff, ↓reduceIte, reduceIte, Nat.reduceAdd, Nat.reduceMul, Nat.reduceSub, Nat.reduceLeDiff, Nat.reduceBEq, Nat.reduceBNe, Int.reduceNeg, Int.reduceLT, Int.reduceLE, Int.reduceAdd, Int.reduceSub, Int.reduceToNat, Int.reduceEq, Int.reduceBEq, reduceCtorEq, List.cons.injEq, Int.reduceBNe, Int.sub_zero, decide_true, decide_false, false_and, and_false, t1, sqL_some])
  refine stop_call (f18_ok _ (3 :: 2 :: 6 :: 1 :: id) s0 (some [e0])) ?_ ?_
  · first | trivial | (simp only [go_sem, Nat.reduceEqDiff, ↓reduceIte, reduceIte, Nat.reduceAdd, Nat.reduceMul, Nat.reduceSub, Nat.reduceLeDiff, Nat.reduceBEq, Nat.reduceBNe, Int.reduceNeg, Int.reduceLT, Int.reduceLE, Int.reduceAdd, Int.reduceSub, Int.reduceToNat, Int.reduceEq, Int.reduceBEq, reduceCtorEq, List.cons.injEq, Int.reduceBNe, Int.sub_zero, decide_true, decide_false, false_and, and_false, hb]; done)
  repeat (first
    | with_reducible refine W_seq fun K hK => ?_
    | ((with_reducible refine W_reg ?_ ?_); (· rfl); simp only [go_sem, Nat.reduceEqDiff, ↓reduceIte, reduceIte, Nat.reduceAdd, Nat.reduceMul, Nat.reduceSub, Nat.reduceLeDiff, Nat.reduceBEq, Nat.reduceBNe, Int.reduceNeg, Int.reduceLT, Int.reduceLE, Int.reduceAdd, Int.reduceSub, Int.reduceToNat, Int.reduceEq, Int.reduceBEq, reduceCtorEq, List.cons.injEq, Int.reduceBNe, Int.sub_zero, decide_true, decide_false, false_and, and_false, t0, beq_self_eq_true])
    | ((with_reducible refine hK _ ?_); clear hK K)
    | (refine W_skip (hK _ ?_); clear hK K)
    | (refine W_cond rfl (fun hc => ?_) (fun hc => ?_); (· cases hc); clear hc)
    | (refine W_cond rfl (fun hc => ?_) (fun hc => ?_); rotate_left; (· cases hc); clear hc)
    | with_reducible refine W_block ?_
    | ((with_reducible refine W_exit ?_); simp only [go_sem, Nat.reduceEqDiff, ↓reduceIte, reduceIte, Nat.reduceAdd, Nat.reduceMul, Nat.reduceSub, Nat.reduceLeDiff, Nat.reduceBEq, Nat.reduceBNe, Int.reduceNeg, Int.reduceLT, Int.reduceLE, Int.reduceAdd, Int.reduceSub, Int.reduceToNat, Int.reduceEq, Int.reduceBEq, reduceCtorEq, List.cons.injEq, Int.reduceBNe, Int.sub_zero, decide_true, decide_false, false_and, and_false, t0, beq_self_eq_true])
    | ((with_reducible refine W_ret ?_); simp only [go_sem, Nat.reduceEqDiff, ↓reduceIte, reduceIte, Nat.reduceAdd, Nat.reduceMul, Nat.reduceSub, Nat.reduceLeDiff, Nat.reduceBEq, Nat.reduceBNe, Int.reduceNeg, Int.reduceLT, Int.reduceLE, Int.reduceAdd, Int.reduceSub, Int.reduceToNat, Int.reduceEq, Int.reduceBEq, reduceCtorEq, List.cons.injEq, Int.reduceBNe, Int.sub_zero, decide_true, decide_false, false_and, and_false, t0, beq_self_eq_true])
    | (clear hK K; (with_reducible refine hK _ ?_); clear hK K)
    | (clear hK K; clear hK K; (with_reducible refine hK _ ?_); clear hK K)
    | (clear hK K; clear hK K; clear hK K; (with_reducible refine hK _ ?_); clear hK K)
    | refine And.intro (by decide) (And.intro (by decide) ?_)
    | refine And.intro (by omega) ?_
    | simp only [go_sem, Nat.reduceEqDiff, ↓reduceIte, reduceIte, Nat.reduceAdd, Nat.reduceMul, Nat.reduceSub, Nat.reduceLeDiff, Nat.reduceBEq, Nat.reduceBNe, Int.reduceNeg, Int.reduceLT, Int.reduceLE, Int.reduceAdd, Int.reduceSub, Int.reduceToNat, Int.reduceEq, Int.reduceBEq, reduceCtorEq, List.cons.injEq, Int.reduceBNe, Int.sub_zero, decide_true, decide_false, false_and, and_false, t0, beq_self_eq_true])
  refine stop_call (f19_ok _ (3 :: 2 :: 6 :: 1 :: id) s0 (some [e0]) (by decide)) ?_ ?_
  · first | trivial | (simp only [go_sem, Nat.reduceEqDiff, ↓reduceIte, reduceIte, Nat.reduceAdd, Nat.reduceMul, Nat.reduceSub, Nat.reduceLeDiff, Nat.reduceBEq, Nat.reduceBNe, Int.reduceNeg, Int.reduceLT, Int.reduceLE, Int.reduceAdd, Int.reduceSub, Int.reduceToNat, Int.reduceEq, Int.reduceBEq, reduceCtorEq, List.cons.injEq, Int.reduceBNe, Int.sub_zero, decide_true, decide_false, false_and, and_false, hb]; done)
  repeat (first
    | with_reducible refine W_seq fun K hK => ?_
    | ((with_reducible refine W_reg ?_ ?_); (· rfl); simp only [go_sem, Nat.reduceEqDiff, ↓reduceIte, reduceIte, Nat.reduceAdd, Nat.reduceMul, Nat.reduceSub, Nat.reduceLeDiff, Nat.reduceBEq, Nat.reduceBNe, Int.reduceNeg, Int.reduceLT, Int.reduceLE, Int.reduceAdd, Int.reduceSub, Int.reduceToNat, Int.reduceEq, Int.reduceBEq, reduceCtorEq, List.cons.injEq, Int.reduceBNe, Int.sub_zero, decide_true, decide_false, false_and, and_false, t2, sqL_some, beq_self_eq_true])
    | ((with_reducible refine hK _ ?_); clear hK K)
    | (refine W_skip (hK _ ?_); clear hK K)
    | (refine W_cond rfl (fun hc => ?_) (fun hc => ?_); (· cases hc); clear hc)
    | (refine W_cond rfl (fun hc => ?_) (fun hc => ?_); rotate_left; (· cases hc); clear hc)
    | with_reducible refine W_block ?_
    | ((with_reducible refine W_exit ?_); simp only [go_sem, Nat.reduceEqDiff, ↓reduceIte, reduceIte, Nat.reduceAdd, Nat.reduceMul, Nat.reduceSub, Nat.reduceLeDiff, Nat.reduceBEq, Nat.reduceBNe, Int.reduceNeg, Int.reduceLT, Int.reduceLE, Int.reduceAdd, Int.reduceSub, Int.reduceToNat, Int.reduceEq, Int.reduceBEq, reduceCtorEq, List.cons.injEq, Int.reduceBNe, Int.sub_zero, decide_true, decide_false, false_and, and_false, t2, sqL_some, beq_self_eq_true])
    | ((with_reducible refine W_ret ?_); simp only [go_sem, Nat.reduceEqDiff, ↓reduceIte, reduceIte, Nat.reduceAdd, Nat.reduceMul, Nat.reduceSub, Nat.reduceLeDiff, Nat.reduceBEq, Nat.reduceBNe, Int.reduceNeg, Int.reduceLT, Int.reduceLE, Int.reduceAdd, Int.reduceSub, Int.reduceToNat, Int.reduceEq, Int.reduceBEq, reduceCtorEq, List.cons.injEq, Int.reduceBNe, Int.sub_zero, decide_true, decide_false, false_and, and_false, t2, sqL_some, beq_self_eq_true])
    | (clear hK K; (with_reducible refine hK _ ?_); clear hK K)
    | (clear hK K; clear hK K; (with_reducible refine hK _ ?_); clear hK K)
    | (clear hK K; clear hK K; clear hK K; (with_reducible refine hK _ ?_); clear hK K)
    | refine And.intro (by decide) (And.intro (by decide) ?_)
    | refine And.intro (by omega) ?_
    | simp only [go_sem, Nat.reduceEqDiff, ↓reduceIte, reduceIte, Nat.reduceAdd, Nat.reduceMul, Nat.reduceSub, Nat.reduceLeDiff, Nat.reduceBEq, Nat.reduceBNe, Int.reduceNeg, Int.reduceLT, Int.reduceLE, Int.reduceAdd, Int.reduceSub, Int.reduceToNat, Int.reduceEq, Int.reduceBEq, reduceCtorEq, List.cons.injEq, Int.reduceBNe, Int.sub_zero, decide_true, decide_false, false_and, and_false, t2, sqL_some, beq_self_eq_true])
  refine stop_call (f20_ok _ (3 :: 2 :: 6 :: 1 :: id) s0 (some [e0]) (by decide) (by decide) hd0 (by decide)) ?_ ?_
  · first | trivial | (simp only [go_sem, Nat.reduceEqDiff, ↓reduceIte, reduceIte, Nat.reduceAdd, Nat.reduceMul, Nat.reduceSub, Nat.reduceLeDiff, Nat.reduceBEq, Nat.reduceBNe, Int.reduceNeg, Int.reduceLT, Int.reduceLE, Int.reduceAdd, Int.reduceSub, Int.reduceToNat, Int.reduceEq, Int.reduceBEq, reduceCtorEq, List.cons.injEq, Int.reduceBNe, Int.sub_zero, decide_true, decide_false, false_and, and_false, hb]; done)
  repeat (first
    | with_reducible refine W_seq fun K hK => ?_
    | ((with_reducible refine W_reg ?_ ?_); (· rfl); simp only [go_sem, Nat.reduceEqDiff, ↓reduceIte, reduceIte, Nat.reduceAdd, Nat.reduceMul, Nat.reduceSub, Nat.reduceLeDiff, Nat.reduceBEq, Nat.reduceBNe, Int.reduceNeg, Int.reduceLT, Int.reduceLE, Int.reduceAdd, Int.reduceSub, Int.reduceToNat, Int.reduceEq, Int.reduceBEq, reduceCtorEq, List.cons.injEq, Int.reduceBNe, Int.sub_zero, decide_true, decide_false, false_and, and_false, t2, t3, sqL_some, beq_self_eq_true, Int.cast_ofNat_Int])
    | ((with_reducible refine hK _ ?_); clear hK K)
    | (refine W_skip (hK _ ?_); clear hK K)
    | (refine W_cond rfl (fun hc => ?_) (fun hc => ?_); (· cases hc); clear hc)
    | (refine W_cond rfl (fun hc => ?_) (fun hc => ?_); rotate_left; (· cases hc); clear hc)
    | with_reducible refine W_block ?_
    | ((with_reducible refine W_exit ?_); simp only [go_sem, Nat.reduceEqDiff, ↓reduceIte, reduceIte, Nat.reduceAdd, Nat.reduceMul, Nat.reduceSub, Nat.reduceLeDiff, Nat.reduceBEq, Nat.reduceBNe, Int.reduceNeg, Int.reduceLT, Int.reduceLE, Int.reduceAdd, Int.reduceSub, Int.reduceToNat, Int.reduceEq, Int.reduceBEq, reduceCtorEq, List.cons.injEq, Int.reduceBNe, Int.sub_zero, decide_true, decide_false, false_and, and_false, t2, t3, sqL_some, beq_self_eq_true, Int.cast_ofNat_Int])
    | ((with_reducible refine W_ret ?_); simp only [go_sem, Nat.reduceEqDiff, ↓reduceIte, reduceIte, Nat.reduceAdd, Nat.reduceMul, Nat.reduceSub, Nat.reduceLeDiff, Nat.reduceBEq, Nat.reduceBNe, Int.reduceNeg, Int.reduceLT, Int.reduceLE, Int.reduceAdd, Int.reduceSub, Int.reduceToNat, Int.reduceEq, Int.reduceBEq, reduceCtorEq, List.cons.injEq, Int.reduceBNe, Int.sub_zero, decide_true, decide_false, false_and, and_false, t2, t3, sqL_some, beq_self_eq_true, Int.cast_ofNat_Int])
    | (clear hK K; (with_reducible refine hK _ ?_); clear hK K)
    | (clear hK K; clear hK K; (with_reducible refine hK _ ?_); clear hK K)
    | (clear hK K; clear hK K; clear hK K; (with_reducible refine hK _ ?_); clear hK K)
    | refine And.intro (by decide) (And.intro (by decide) ?_)
    | refine And.intro (by omega) ?_
    | simp only [go_sem, Nat.reduceEqDiff, ↓reduceIte, reduceIte, Nat.reduceAdd, Nat.reduceMul, Nat.reduceSub, Nat.reduceLeDiff, Nat.reduceBEq, Nat.reduceBNe, Int.reduceNeg, Int.reduceLT, Int.reduceLE, Int.reduceAdd, Int.reduceSub, Int.reduceToNat, Int.reduceEq, Int.reduceBEq, reduceCtorEq, List.cons.injEq, Int.reduceBNe, Int.sub_zero, decide_true, decide_false, false_and, and_false, t2, t3, sqL_some, beq_self_eq_true, Int.cast_ofNat_Int])
  refine stop_call (f21_ok _ (3 :: 2 :: 6 :: 1 :: id) s0 (some [e0]) 4 9 (by decide) (by decide) (by decide) hd0) ?_ ?_
  · first | trivial | (simp only [go_sem, Nat.reduceEqDiff, ↓reduceIte, reduceIte, Nat.reduceAdd, Nat.reduceMul, Nat.reduceSub, Nat.reduceLeDiff, Nat.reduceBEq, Nat.reduceBNe, Int.reduceNeg, Int.reduceLT, Int.reduceLE, Int.reduceAdd, Int.reduceSub, Int.reduceToNat, Int.reduceEq, Int.reduceBEq, reduceCtorEq, List.cons.injEq, Int.reduceBNe, Int.sub_zero, decide_true, decide_false, false_and, and_false, hb]; done)
  repeat (first
    | with_reducible refine W_seq fun K hK => ?_
    | ((with_reducible refine W_reg ?_ ?_); (· rfl); simp only [go_sem, Nat.reduceEqDiff, ↓reduceIte, reduceIte, Nat.reduceAdd, Nat.reduceMul, Nat.reduceSub, Nat.reduceLeDiff, Nat.reduceBEq, Nat.reduceBNe, Int.reduceNeg, Int.reduceLT, Int.reduceLE, Int.reduceAdd, Int.reduceSub, Int.reduceToNat, Int.reduceEq, Int.reduceBEq, reduceCtorEq, List.cons.injEq, Int.reduceBNe, Int.sub_zero, decide_true, decide_false, false_and, and_false, t4, sqL_some, sqL_ne, beq_self_eq_true, Int.cast_ofNat_Int])
    | ((with_reducible refine hK _ ?_); clear hK K)
    | (refine W_skip (hK _ ?_); clear hK K)
    | (refine W_cond rfl (fun hc => ?_) (fun hc => ?_); (· cases hc); clear hc)
    | (refine W_cond rfl (fun hc => ?_) (fun hc => ?_); rotate_left; (· cases hc); clear hc)
    | with_reducible refine W_block ?_
    | ((with_reducible refine W_exit ?_); simp only [go_sem, Nat.reduceEqDiff, ↓reduceIte, reduceIte, Nat.reduceAdd, Nat.reduceMul, Nat.reduceSub, Nat.reduceLeDiff, Nat.reduceBEq, Nat.reduceBNe, Int.reduceNeg, Int.reduceLT, Int.reduceLE, Int.reduceAdd, Int.reduceSub, Int.reduceToNat, Int.reduceEq, Int.reduceBEq, reduceCtorEq, List.cons.injEq, Int.reduceBNe, Int.sub_zero, decide_true, decide_false, false_and, and_false, t4, sqL_some, sqL_ne, beq_self_eq_true, Int.cast_ofNat_Int])
    | ((with_reducible refine W_ret ?_); simp only [go_sem, Nat.reduceEqDiff, ↓reduceIte, reduceIte, Nat.reduceAdd, Nat.reduceMul, Nat.reduceSub, Nat.reduceLeDiff, Nat.reduceBEq, Nat.reduceBNe, Int.reduceNeg, Int.reduceLT, Int.reduceLE, Int.reduceAdd, Int.reduceSub, Int.reduceToNat, Int.reduceEq, Int.reduceBEq, reduceCtorEq, List.cons.injEq, Int.reduceBNe, Int.sub_zero, decide_true, decide_false, false_and, and_false, t4, sqL_some, sqL_ne, beq_self_eq_true, Int.cast_ofNat_Int])
    | (clear hK K; (with_reducible refine hK _ ?_); clear hK K)
    | (clear hK K; clear hK K; (with_reducible refine hK _ ?_); clear hK K)
    | (clear hK K; clear hK K; clear hK K; (with_reducible refine hK _ ?_); clear hK K)
    | refine And.intro (by decide) (And.intro (by decide) ?_)
    | refine And.intro (by omega) ?_
    | simp only [go_sem, Nat.reduceEqDiff, ↓reduceIte, reduceIte, Nat.reduceAdd, Nat.reduceMul, Nat.reduceSub, Nat.reduceLeDiff, Nat.reduceBEq, Nat.reduceBNe, Int.reduceNeg, Int.reduceLT, Int.reduceLE, Int.reduceAdd, Int.reduceSub, Int.reduceToNat, Int.reduceEq, Int.reduceBEq, reduceCtorEq, List.cons.injEq, Int.reduceBNe, Int.sub_zero, decide_true, decide_false, false_and, and_false, t4, sqL_some, sqL_ne, beq_self_eq_true, Int.cast_ofNat_Int])
  refine stop_call c2 trivial ?_
  repeat (first
    | with_reducible refine W_seq fun K hK => ?_
    | ((with_reducible refine W_reg ?_ ?_); (· rfl); simp only [go_sem, Nat.reduceEqDiff, ↓reduceIte, reduceIte, Nat.reduceAdd, Nat.reduceMul, Nat.reduceSub, Nat.reduceLeDiff, Nat.reduceBEq, Nat.reduceBNe, Int.reduceNeg, Int.reduceLT, Int.reduceLE, Int.reduceAdd, Int.reduceSub, Int.reduceToNat, Int.reduceEq, Int.reduceBEq, reduceCtorEq, List.cons.injEq, Int.reduceBNe, Int.sub_zero, decide_true, decide_false, false_and, and_false])
    | ((with_reducible refine hK _ ?_); clear hK K)
    | (refine W_skip (hK _ ?_); clear hK K)
    | (refine W_cond rfl (fun hc => ?_) (fun hc => ?_); (· cases hc); clear hc)
    | (refine W_cond rfl (fun hc => ?_) (fun hc => ?_); rotate_left; (· cases hc); clear hc)
    | with_reducible refine W_block ?_
    | ((with_reducible refine W_exit ?_); simp only [go_sem, Nat.reduceEqDiff, ↓reduceIte, reduceIte, Nat.reduceAdd, Nat.reduceMul, Nat.reduceSub, Nat.reduceLeDiff, Nat.reduceBEq, Nat.reduceBNe, Int.reduceNeg, Int.reduceLT, Int.reduceLE, Int.reduceAdd, Int.reduceSub, Int.reduceToNat, Int.reduceEq, Int.reduceBEq, reduceCtorEq, List.cons.injEq, Int.reduceBNe, Int.sub_zero, decide_true, decide_false, false_and, and_false])
    | ((with_reducible refine W_ret ?_); simp only [go_sem, Nat.reduceEqDiff, ↓reduceIte, reduceIte, Nat.reduceAdd, Nat.reduceMul, Nat.reduceSub, Nat.reduceLeDiff, Nat.reduceBEq, Nat.reduceBNe, Int.reduceNeg, Int.reduceLT, Int.reduceLE, Int.reduceAdd, Int.reduceSub, Int.reduceToNat, Int.reduceEq, Int.reduceBEq, reduceCtorEq, List.cons.injEq, Int.reduceBNe, Int.sub_zero, decide_true, decide_false, false_and, and_false])
    | (clear hK K; (with_reducible refine hK _ ?_); clear hK K)
    | (clear hK K; clear hK K; (with_reducible refine hK _ ?_); clear hK K)
    | (clear hK K; clear hK K; clear hK K; (with_reducible refine hK _ ?_); clear hK K)
    | refine And.intro (by decide) (And.intro (by decide) ?_)
    | refine And.intro (by omega) ?_
    | simp only [go_sem, Nat.reduceEqDiff, ↓reduceIte, reduceIte, Nat.reduceAdd, Nat.reduceMul, Nat.reduceSub, Nat.reduceLeDiff, Nat.reduceBEq, Nat.reduceBNe, Int.reduceNeg, Int.reduceLT, Int.reduceLE, Int.reduceAdd, Int.reduceSub, Int.reduceToNat, Int.reduceEq, Int.reduceBEq, reduceCtorEq, List.cons.injEq, Int.reduceBNe, Int.sub_zero, decide_true, decide_false, false_and, and_false])
  refine ends_ret ?_ (by repeat first | exact HLe.refl _ | refine HLe.fresh ?_ (hfr [_, _]) | refine HLe.fresh ?_ (hfr [_, _, _, _]))
  simp only [go_sem, Nat.reduceEqDiff, ↓reduceIte, reduceIte, Nat.reduceAdd, Nat.reduceMul, Nat.reduceSub, Nat.reduceLeDiff, Nat.reduceBEq, Nat.reduceBNe, Int.reduceNeg, Int.reduceLT, Int.reduceLE, Int.reduceAdd, Int.reduceSub, Int.reduceToNat, Int.reduceEq, Int.reduceBEq, reduceCtorEq, List.cons.injEq, Int.reduceBNe, Int.sub_zero, decide_true, decide_false, false_and, and_false, Try.f4]
end Go.Proofs.Ytcfmbbebnobflaa
