/- Clip; snapshots and entries that are cut. -/
import Derived.Test.YtcfmbbebnobflaaF15
import Derived.Test.YtcfmbbebnobflaaSxN
set_option linter.unusedVariables false
set_option linter.unusedSimpArgs false
namespace Go.Proofs.Ytcfmbbebnobflaa
open Go Go.SX

theorem f39_ok (id : BId) (o : Option (List Ent)) : CallF Try.prog 39 [sq Ent.enc o] id [] (fq Ent.enc o) [] := by
  refine ⟨⟨_, Try.func39, by decide, rfl⟩, (by simp <;> repeat first | exact ⟨[_, _], rfl⟩ | constructor), fun h hr => callsA_of_W Try.func39 rfl fun hfr => ?_⟩
  cases o with
  | none =>
    simp only [sq, fq]
    repeat (first
      | with_reducible refine W_seq fun K hK => ?_
      | ((with_reducible refine W_reg ?_ ?_); (· rfl); simp only [go_sem, Nat.reduceEqDiff, ↓reduceIte, reduceIte, Nat.reduceAdd, Nat.reduceMul, Nat.reduceSub, Nat.reduceLeDiff, Nat.reduceBEq, Nat.reduceBNe, Int.reduceNeg, Int.reduceLT, Int.reduceLE, Int.reduceAdd, Int.reduceSub, Int.reduceToNat, Int.reduceEq, Int.reduceBEq, reduceCtorEq, List.cons.injEq, Int.reduceBNe, Int.sub_zero, decide_true, decide_false, false_and, and_false])
      | ((with_reducible refine hK _ ?_); clear hK K)
      | (refine W_skip (hK _ ?_); clear hK K)
      | (refine W_cond rfl (fun hc => ?_) (fun hc => ?_); (· cases hc); clear hc)
      | (refine W_cond rfl (fun hc => ?_) (fun hc => ?_); rotate_left; (· cases hc); clear hc)
      | with_reducible refine W_block ?_
      | ((with_reducible refine W_exit ?_); simp only [go_sem, Nat.reduceEqDiff, ↓reduceIte, reduceIte, Nat.reduceAdd, Nat.reduceMul, Nat.reduceSub, Nat.reduceLeDiff, Nat.reduceBEq, Nat.reduceBNe, Int.reduceNeg, Int.reduceLT, Int.reduceLE, Int.reduceAdd, Int.reduceSub, Int.reduceToNat, Int.reduceEq, Int.reduceBEq, reduceCtorEq, List.cons.injEq, Int.reduceBNe, Int.sub_zero, decide_true, decide_false, false_and, and_false])
      | ((with_reducible refine W_ret ?_); simp only [go_sem, Nat.reduceEqDiff, ↓reduceIte, reduceIte, Nat.reduceAdd, Nat.reduceMul, Nat.reduceSub, Nat.reduceLeDiff, Nat.reduceBEq, Nat.reduceBNe, Int.reduceNeg, Int.reduceLT, Int.reduceLE, Int.reduceAdd, Int.reduceSub, Int.reduceToNat, Int.reduceEq, Int.reduceBEq, reduceCtorEq, List.cons.injEq, Int.reduceBNe, Int.sub_zero, decide_true, decide_false, false_and, and_false])
      | (clear hK K; (with_reducible refine hK _ ?_); clear hK K)
      | (clear hK K; clear hK K; (with_reducible refine hK _ ?_); clear hK K)
      | (clear hK K; clear hK K; clear hK K; (with_reducible refine hK _ ?_); clear hK K)
      | refine And.intro (by decide) (And.intro (by decide) ?_)
      | refine And.intro (by omega) ?_
      | simp only [go_sem, Nat.reduceEqDiff, ↓reduceIte, reduceIte, Nat.reduceAdd, Nat.reduceMul, Nat.reduceSub, Nat.reduceLeDiff, Nat.reduceBEq, Nat.reduceBNe, Int.reduceNeg, Int.reduceLT, Int.reduceLE, Int.reduceAdd, Int.reduceSub, Int.reduceToNat, Int.reduceEq, Int.reduceBEq, reduceCtorEq, List.cons.injEq, Int.reduceBNe, Int.sub_zero, decide_true, decide_false, false_and, and_false])
    refine ends_ret ?_ (HLe.refl _)
    simp only [go_sem, Nat.reduceEqDiff, ↓reduceIte, reduceIte, Nat.reduceAdd, Nat.reduceMul, Nat.reduceSub, Nat.reduceLeDiff, Nat.reduceBEq, Nat.reduceBNe, Int.reduceNeg, Int.reduceLT, Int.reduceLE, Int.reduceAdd, Int.reduceSub, Int.reduceToNat, Int.reduceEq, Int.reduceBEq, reduceCtorEq, List.cons.injEq, Int.reduceBNe, Int.sub_zero, decide_true, decide_false, false_and, and_false, Try.f39]
  | some l =>
    simp only [sq, fq]
    repeat (first
      | with_reducible refine W_seq fun K hK => ?_
      | ((with_reducible refine W_reg ?_ ?_); (· rfl); simp only [go_sem, Nat.reduceEqDiff, ↓reduceIte, reduceIte, Nat.reduceAdd, Nat.reduceMul, Nat.reduceSub, Nat.reduceLeDiff, Nat.reduceBEq, Nat.reduceBNe, Int.reduceNeg, Int.reduceLT, Int.reduceLE, Int.reduceAdd, Int.reduceSub, Int.reduceToNat, Int.reduceEq, Int.reduceBEq, reduceCtorEq, List.cons.injEq, Int.reduceBNe, Int.sub_zero, decide_true, decide_false, false_and, and_false])
      | ((with_reducible refine hK _ ?_); clear hK K)
      | (refine W_skip (hK _ ?_); clear hK K)
      | (refine W_cond rfl (fun hc => ?_) (fun hc => ?_); (· cases hc); clear hc)
      | (refine W_cond rfl (fun hc => ?_) (fun hc => ?_); rotate_left; (· cases hc); clear hc)
      | with_reducible refine W_block ?_
      | ((with_reducible refine W_exit ?_); simp only [go_sem, Nat.reduceEqDiff, ↓reduceIte, reduceIte, Nat.reduceAdd, Nat.reduceMul, Nat.reduceSub, Nat.reduceLeDiff, Nat.reduceBEq, Nat.reduceBNe, Int.reduceNeg, Int.reduceLT, Int.reduceLE, Int.reduceAdd, Int.reduceSub, Int.reduceToNat, Int.reduceEq, Int.reduceBEq, reduceCtorEq, List.cons.injEq, Int.reduceBNe, Int.sub_zero, decide_true, decide_false, false_and, and_false])
      | ((with_reducible refine W_ret ?_); simp only [go_sem, Nat.reduceEqDiff, ↓reduceIte, reduceIte, Nat.reduceAdd, Nat.reduceMul, Nat.reduceSub, Nat.reduceLeDiff, Nat.reduceBEq, Nat.reduceBNe, Int.reduceNeg, Int.reduceLT, Int.reduceLE, Int.reduceAdd, Int.reduceSub, Int.reduceToNat, Int.reduceEq, Int.reduceBEq, reduceCtorEq, List.cons.injEq, Int.reduceBNe, Int.sub_zero, decide_true, decide_false, false_and, and_false])
      | (clear hK K; (with_reducible refine hK _ ?_); clear hK K)
      | (clear hK K; clear hK K; (with_reducible refine hK _ ?_); clear hK K)
      | (clear hK K; clear hK K; clear hK K; (with_reducible refine hK _ ?_); clear hK K)
      | refine And.intro (by decide) (And.intro (by decide) ?_)
      | refine And.intro (by omega) ?_
      | simp only [go_sem, Nat.reduceEqDiff, ↓reduceIte, reduceIte, Nat.reduceAdd, Nat.reduceMul, Nat.reduceSub, Nat.reduceLeDiff, Nat.reduceBEq, Nat.reduceBNe, Int.reduceNeg, Int.reduceLT, Int.reduceLE, Int.reduceAdd, Int.reduceSub, Int.reduceToNat, Int.reduceEq, Int.reduceBEq, reduceCtorEq, List.cons.injEq, Int.reduceBNe, Int.sub_zero, decide_true, decide_false, false_and, and_false])
    rw [List.take_of_length_le (by rw [flatMap_len Ent.enc_len]; omega)]
    repeat (first
      | with_reducible refine W_seq fun K hK => ?_
      | ((with_reducible refine W_reg ?_ ?_); (· rfl); simp only [go_sem, Nat.reduceEqDiff, ↓reduceIte, reduceIte, Nat.reduceAdd, Nat.reduceMul, Nat.reduceSub, Nat.reduceLeDiff, Nat.reduceBEq, Nat.reduceBNe, Int.reduceNeg, Int.reduceLT, Int.reduceLE, Int.reduceAdd, Int.reduceSub, Int.reduceToNat, Int.reduceEq, Int.reduceBEq, reduceCtorEq, List.cons.injEq, Int.reduceBNe, Int.sub_zero, decide_true, decide_false, false_and, and_false])
      | ((with_reducible refine hK _ ?_); clear hK K)
      | (refine W_skip (hK _ ?_); clear hK K)
      | (refine W_cond rfl (fun hc => ?_) (fun hc => ?_); (· cases hc); clear hc)
      | (refine W_cond rfl (fun hc => ?_) (fun hc => ?_); rotate_left; (· cases hc); clear hc)
      | with_reducible refine W_block ?_
      | ((with_reducible refine W_exit ?_); simp only [go_sem, Nat.reduceEqDiff, ↓reduceIte, reduceIte, Nat.reduceAdd, Nat.reduceMul, Nat.reduceSub, Nat.reduceLeDiff, Nat.reduceBEq, Nat.reduceBNe, Int.reduceNeg, Int.reduceLT, Int.reduceLE, Int.reduceAdd, Int.reduceSub, Int.reduceToNat, Int.reduceEq, Int.reduceBEq, reduceCtorEq, List.cons.injEq, Int.reduceBNe, Int.sub_zero, decide_true, decide_false, false_and, and_false])
      | ((with_reducible refine W_ret ?_); simp only [go_sem, Nat.reduceEqDiff, ↓reduceIte, reduceIte, Nat.reduceAdd, Nat.reduceMul, Nat.reduceSub, Nat.reduceLeDiff, Nat.reduceBEq, Nat.reduceBNe, Int.reduceNeg, Int.reduceLT, Int.reduceLE, Int.reduceAdd, Int.reduceSub, Int.reduceToNat, Int.reduceEq, Int.reduceBEq, reduceCtorEq, List.cons.injEq, Int.reduceBNe, Int.sub_zero, decide_true, decide_false, false_and, and_false])
      | (clear hK K; (with_reducible refine hK _ ?_); clear hK K)
      | (clear hK K; clear hK K; (with_reducible refine hK _ ?_); clear hK K)
      | (clear hK K; clear hK K; clear hK K; (with_reducible refine hK _ ?_); clear hK K)
      | refine And.intro (by decide) (And.intro (by decide) ?_)
      | refine And.intro (by omega) ?_
      | simp only [go_sem, Nat.reduceEqDiff, ↓reduceIte, reduceIte, Nat.reduceAdd, Nat.reduceMul, Nat.reduceSub, Nat.reduceLeDiff, Nat.reduceBEq, Nat.reduceBNe, Int.reduceNeg, Int.reduceLT, Int.reduceLE, Int.reduceAdd, Int.reduceSub, Int.reduceToNat, Int.reduceEq, Int.reduceBEq, reduceCtorEq, List.cons.injEq, Int.reduceBNe, Int.sub_zero, decide_true, decide_false, false_and, and_false])
    refine ends_ret ?_ (HLe.refl _)
    simp only [go_sem, Nat.reduceEqDiff, ↓reduceIte, reduceIte, Nat.reduceAdd, Nat.reduceMul, Nat.reduceSub, Nat.reduceLeDiff, Nat.reduceBEq, Nat.reduceBNe, Int.reduceNeg, Int.reduceLT, Int.reduceLE, Int.reduceAdd, Int.reduceSub, Int.reduceToNat, Int.reduceEq, Int.reduceBEq, reduceCtorEq, List.cons.injEq, Int.reduceBNe, Int.sub_zero, decide_true, decide_false, false_and, and_false, Try.f39]

open Classical in
noncomputable def cutSnap (x : Snp) : Snp := { x with c := if memP (sqL x.c) then x.c else none, d := cut 300 x.d }
open Classical in
theorem f5_ok (id : BId) (x : Snp) (hc : (sqL x.c).length ≤ maxLen) : CallF Try.prog 5 [.agg x.enc] id [] (.agg (cutSnap x).enc) [] := by
  refine ⟨⟨_, Try.func5, by decide, rfl⟩, (by simp <;> repeat first | exact ⟨[_, _], rfl⟩ | constructor), fun h hr => callsA_of_W Try.func5 rfl fun hfr => ?_⟩
  repeat (first
    | with_reducible refine W_seq fun K hK => ?_
    | ((with_reducible refine W_reg ?_ ?_); (· rfl); simp only [go_sem, Nat.reduceEqDiff, ↓reduceIte, reduceIte, Nat.reduceAdd, Nat.reduceMul, Nat.reduceSub, Nat.reduceLeDiff, Nat.reduceBEq, Nat.reduceBNe, Int.reduceNeg, Int.reduceLT, Int.reduceLE, Int.reduceAdd, Int.reduceSub, Int.reduceToNat, Int.reduceEq, Int.reduceBEq, reduceCtorEq, List.cons.injEq, Int.reduceBNe, Int.sub_zero, decide_true, decide_false, false_and, and_false, Snp.enc])
    | ((with_reducible refine hK _ ?_); clear hK K)
    | (refine W_skip (hK _ ?_); clear hK K)
    | (refine W_cond rfl (fun hc => ?_) (fun hc => ?_); (· cases hc); clear hc)
    | (refine W_cond rfl (fun hc => ?_) (fun hc => ?_); rotate_left; (· cases hc); clear hc)
    | with_reducible refine W_block ?_
    | ((with_reducible refine W_exit ?_); simp only [go_sem, Nat.reduceEqDiff, ↓reduceIte, reduceIte, Nat.reduceAdd, Nat.reduceMul, Nat.reduceSub, Nat.reduceLeDiff, Nat.reduceBEq, Nat.reduceBNe, Int.reduceNeg, Int.reduceLT, Int.reduceLE, Int.reduceAdd, Int.reduceSub, Int.reduceToNat, Int.reduceEq, Int.reduceBEq, reduceCtorEq, List.cons.injEq, Int.reduceBNe, Int.sub_zero, decide_true, decide_false, false_and, and_false, Snp.enc])
    | ((with_reducible refine W_ret ?_); simp only [go_sem, Nat.reduceEqDiff, ↓reduceIte, reduceIte, Nat.reduceAdd, Nat.reduceMul, Nat.reduceSub, Nat.reduceLeDiff, Nat.reduceBEq, Nat.reduceBNe, Int.reduceNeg, Int.reduceLT, Int.reduceLE, Int.reduceAdd, Int.reduceSub, Int.reduceToNat, Int.reduceEq, Int.reduceBEq, reduceCtorEq, List.cons.injEq, Int.reduceBNe, Int.sub_zero, decide_true, decide_false, false_and, and_false, Snp.enc])
    | (clear hK K; (with_reducible refine hK _ ?_); clear hK K)
    | (clear hK K; clear hK K; (with_reducible refine hK _ ?_); clear hK K)
    | (clear hK K; clear hK K; clear hK K; (with_reducible refine hK _ ?_); clear hK K)
    | refine And.intro (by decide) (And.intro (by decide) ?_)
    | refine And.intro (by omega) ?_
    | simp only [go_sem, Nat.reduceEqDiff, ↓reduceIte, reduceIte, Nat.reduceAdd, Nat.reduceMul, Nat.reduceSub, Nat.reduceLeDiff, Nat.reduceBEq, Nat.reduceBNe, Int.reduceNeg, Int.reduceLT, Int.reduceLE, Int.reduceAdd, Int.reduceSub, Int.reduceToNat, Int.reduceEq, Int.reduceBEq, reduceCtorEq, List.cons.injEq, Int.reduceBNe, Int.sub_zero, decide_true, decide_false, false_and, and_false, Snp.enc])
  refine stop_call (short_ok _ x.d 300) ?_ ?_
  · first | trivial | (simp only [go_sem, Nat.reduceEqDiff, ↓reduceIte, reduceIte, Nat.reduceAdd, Nat.reduceMul, Nat.reduceSub, Nat.reduceLeDiff, Nat.reduceBEq, Nat.reduceBNe, Int.reduceNeg, Int.reduceLT, Int.reduceLE, Int.reduceAdd, Int.reduceSub, Int.reduceToNat, Int.reduceEq, Int.reduceBEq, reduceCtorEq, List.cons.injEq, Int.reduceBNe, Int.sub_zero, decide_true, decide_false, false_and, and_false]; done)
  repeat (first
    | with_reducible refine W_seq fun K hK => ?_
    | ((with_reducible refine W_reg ?_ ?_); (· rfl); simp only [go_sem, Nat.reduceEqDiff, ↓reduceIte, reduceIte, Nat.reduceAdd, Nat.reduceMul, Nat.reduceSub, Nat.reduceLeDiff, Nat.reduceBEq, Nat.reduceBNe, Int.reduceNeg, Int.reduceLT, Int.reduceLE, Int.reduceAdd, Int.reduceSub, Int.reduceToNat, Int.reduceEq, Int.reduceBEq, reduceCtorEq, List.cons.injEq, Int.reduceBNe, Int.sub_zero, decide_true, decide_false, false_and, and_false])
    | ((with_reducible refine hK _ ?_); clear hK K)
    | (refine W_skip (hK _ ?_); clear hK K)
    | (refine W_cond rfl (fun hc => ?_) (fun hc => ?_); (· cases hc); clear hc)
    | (refine W_cond rfl (fun hc => ?_) (fun hc => ?_); rotate_left; (· cases hc); clear hc)
    | with_reducible refine W_block ?_
    | ((with_reducible refine W_exit ?_); simp only [go_sem, Nat.reduceEqDiff, ↓reduceIte, reduceIte, Nat.reduceAdd, Nat.reduceMul, Nat.reduceSub, Nat.reduceLeDiff, Nat.reduceBEq, Nat.reduceBNe, Int.reduceNeg, Int.reduceLT, Int.reduceLE, Int.reduceAdd, Int.reduceSub, Int.reduceToNat, Int.reduceEq, Int.reduceBEq, reduceCtorEq, List.cons.injEq, Int.reduceBNe, Int.sub_zero, decide_true, decide_false, false_and, and_false])
    | ((with_reducible refine W_ret ?_); simp only [go_sem, Nat.reduceEqDiff, ↓reduceIte, reduceIte, Nat.reduceAdd, Nat.reduceMul, Nat.reduceSub, Nat.reduceLeDiff, Nat.reduceBEq, Nat.reduceBNe, Int.reduceNeg, Int.reduceLT, Int.reduceLE, Int.reduceAdd, Int.reduceSub, Int.reduceToNat, Int.reduceEq, Int.reduceBEq, reduceCtorEq, List.cons.injEq, Int.reduceBNe, Int.sub_zero, decide_true, decide_false, false_and, and_false])
    | (clear hK K; (with_reducible refine hK _ ?_); clear hK K)
    | (clear hK K; clear hK K; (with_reducible refine hK _ ?_); clear hK K)
    | (clear hK K; clear hK K; clear hK K; (with_reducible refine hK _ ?_); clear hK K)
    | refine And.intro (by decide) (And.intro (by decide) ?_)
    | refine And.intro (by omega) ?_
    | simp only [go_sem, Nat.reduceEqDiff, ↓reduceIte, reduceIte, Nat.reduceAdd, Nat.reduceMul, Nat.reduceSub, Nat.reduceLeDiff, Nat.reduceBEq, Nat.reduceBNe, Int.reduceNeg, Int.reduceLT, Int.reduceLE, Int.reduceAdd, Int.reduceSub, Int.reduceToNat, Int.reduceEq, Int.reduceBEq, reduceCtorEq, List.cons.injEq, Int.reduceBNe, Int.sub_zero, decide_true, decide_false, false_and, and_false])
  refine stop_call (f22_ok _ x.c hc) ?_ ?_
  · first | trivial | (simp only [go_sem, Nat.reduceEqDiff, ↓reduceIte, reduceIte, Nat.reduceAdd, Nat.reduceMul, Nat.reduceSub, Nat.reduceLeDiff, Nat.reduceBEq, Nat.reduceBNe, Int.reduceNeg, Int.reduceLT, Int.reduceLE, Int.reduceAdd, Int.reduceSub, Int.reduceToNat, Int.reduceEq, Int.reduceBEq, reduceCtorEq, List.cons.injEq, Int.reduceBNe, Int.sub_zero, decide_true, decide_false, false_and, and_false]; done)
  repeat (first
    | with_reducible refine W_seq fun K hK => ?_
    | ((with_reducible refine W_reg ?_ ?_); (· rfl); simp only [go_sem, Nat.reduceEqDiff, ↓reduceIte, reduceIte, Nat.reduceAdd, Nat.reduceMul, Nat.reduceSub, Nat.reduceLeDiff, Nat.reduceBEq, Nat.reduceBNe, Int.reduceNeg, Int.reduceLT, Int.reduceLE, Int.reduceAdd, Int.reduceSub, Int.reduceToNat, Int.reduceEq, Int.reduceBEq, reduceCtorEq, List.cons.injEq, Int.reduceBNe, Int.sub_zero, decide_true, decide_false, false_and, and_false])
    | ((with_reducible refine hK _ ?_); clear hK K)
    | (refine W_skip (hK _ ?_); clear hK K)
    | (refine W_cond rfl (fun hc => ?_) (fun hc => ?_); (· cases hc); clear hc)
    | (refine W_cond rfl (fun hc => ?_) (fun hc => ?_); rotate_left; (· cases hc); clear hc)
    | with_reducible refine W_block ?_
    | ((with_reducible refine W_exit ?_); simp only [go_sem, Nat.reduceEqDiff, ↓reduceIte, reduceIte, Nat.reduceAdd, Nat.reduceMul, Nat.reduceSub, Nat.reduceLeDiff, Nat.reduceBEq, Nat.reduceBNe, Int.reduceNeg, Int.reduceLT, Int.reduceLE, Int.reduceAdd, Int.reduceSub, Int.reduceToNat, Int.reduceEq, Int.reduceBEq, reduceCtorEq, List.cons.injEq, Int.reduceBNe, Int.sub_zero, decide_true, decide_false, false_and, and_false])
    | ((with_reducible refine W_ret ?_); simp only [go_sem, Nat.reduceEqDiff, ↓reduceIte, reduceIte, Nat.reduceAdd, Nat.reduceMul, Nat.reduceSub, Nat.reduceLeDiff, Nat.reduceBEq, Nat.reduceBNe, Int.reduceNeg, Int.reduceLT, Int.reduceLE, Int.reduceAdd, Int.reduceSub, Int.reduceToNat, Int.reduceEq, Int.reduceBEq, reduceCtorEq, List.cons.injEq, Int.reduceBNe, Int.sub_zero, decide_true, decide_false, false_and, and_false])
    | (clear hK K; (with_reducible refine hK _ ?_); clear hK K)
    | (clear hK K; clear hK K; (with_reducible refine hK _ ?_); clear hK K)
    | (clear hK K; clear hK K; clear hK K; (with_reducible refine hK _ ?_); clear hK K)
    | refine And.intro (by decide) (And.intro (by decide) ?_)
    | refine And.intro (by omega) ?_
    | simp only [go_sem, Nat.reduceEqDiff, ↓reduceIte, reduceIte, Nat.reduceAdd, Nat.reduceMul, Nat.reduceSub, Nat.reduceLeDiff, Nat.reduceBEq, Nat.reduceBNe, Int.reduceNeg, Int.reduceLT, Int.reduceLE, Int.reduceAdd, Int.reduceSub, Int.reduceToNat, Int.reduceEq, Int.reduceBEq, reduceCtorEq, List.cons.injEq, Int.reduceBNe, Int.sub_zero, decide_true, decide_false, false_and, and_false])
  by_cases hm : memP (sqL x.c)
  · have e : (cutSnap x).enc = [.p (.int .i64 x.i), .p (.int .i64 x.t), sq nE x.c, sq bE (cut 300 x.d)] := by simp [cutSnap, Snp.enc, hm]
    refine W_cond (b := false) (by simp [evalA, put, hm]) (fun h1 => by cases h1) (fun h1 => ?_)
    repeat (first
      | with_reducible refine W_seq fun K hK => ?_
      | ((with_reducible refine W_reg ?_ ?_); (· rfl); simp only [go_sem, Nat.reduceEqDiff, ↓reduceIte, reduceIte, Nat.reduceAdd, Nat.reduceMul, Nat.reduceSub, Nat.reduceLeDiff, Nat.reduceBEq, Nat.reduceBNe, Int.reduceNeg, Int.reduceLT, Int.reduceLE, Int.reduceAdd, Int.reduceSub, Int.reduceToNat, Int.reduceEq, Int.reduceBEq, reduceCtorEq, List.cons.injEq, Int.reduceBNe, Int.sub_zero, decide_true, decide_false, false_and, and_false])
      | ((with_reducible refine hK _ ?_); clear hK K)
      | (refine W_skip (hK _ ?_); clear hK K)
      | (refine W_cond rfl (fun hc => ?_) (fun hc => ?_); (· cases hc); clear hc)
      | (refine W_cond rfl (fun hc => ?_) (fun hc => ?_); rotate_left; (· cases hc); clear hc)
      | with_reducible refine W_block ?_
      | ((with_reducible refine W_exit ?_); simp only [go_sem, Nat.reduceEqDiff, ↓reduceIte, reduceIte, Nat.reduceAdd, Nat.reduceMul, Nat.reduceSub, Nat.reduceLeDiff, Nat.reduceBEq, Nat.reduceBNe, Int.reduceNeg, Int.reduceLT, Int.reduceLE, Int.reduceAdd, Int.reduceSub, Int.reduceToNat, Int.reduceEq, Int.reduceBEq, reduceCtorEq, List.cons.injEq, Int.reduceBNe, Int.sub_zero, decide_true, decide_false, false_and, and_false])
      | ((with_reducible refine W_ret ?_); simp only [go_sem, Nat.reduceEqDiff, ↓reduceIte, reduceIte, Nat.reduceAdd, Nat.reduceMul, Nat.reduceSub, Nat.reduceLeDiff, Nat.reduceBEq, Nat.reduceBNe, Int.reduceNeg, Int.reduceLT, Int.reduceLE, Int.reduceAdd, Int.reduceSub, Int.reduceToNat, Int.reduceEq, Int.reduceBEq, reduceCtorEq, List.cons.injEq, Int.reduceBNe, Int.sub_zero, decide_true, decide_false, false_and, and_false])
      | (clear hK K; (with_reducible refine hK _ ?_); clear hK K)
      | (clear hK K; clear hK K; (with_reducible refine hK _ ?_); clear hK K)
      | (clear hK K; clear hK K; clear hK K; (with_reducible refine hK _ ?_); clear hK K)
      | refine And.intro (by decide) (And.intro (by decide) ?_)
      | refine And.intro (by omega) ?_
      | simp only [go_sem, Nat.reduceEqDiff, ↓reduceIte, reduceIte, Nat.reduceAdd, Nat.reduceMul, Nat.reduceSub, Nat.reduceLeDiff, Nat.reduceBEq, Nat.reduceBNe, Int.reduceNeg, Int.reduceLT, Int.reduceLE, Int.reduceAdd, Int.reduceSub, Int.reduceToNat, Int.reduceEq, Int.reduceBEq, reduceCtorEq, List.cons.injEq, Int.reduceBNe, Int.sub_zero, decide_true, decide_false, false_and, and_false])
    refine ends_ret ?_ (by (repeat first | exact HLe.refl _ | refine HLe.set ?_ _ _ | refine HLe.fresh ?_ (hfr [_, _])))
    simp only [go_sem, Nat.reduceEqDiff, ↓reduceIte, reduceIte, Nat.reduceAdd, Nat.reduceMul, Nat.reduceSub, Nat.reduceLeDiff, Nat.reduceBEq, Nat.reduceBNe, Int.reduceNeg, Int.reduceLT, Int.reduceLE, Int.reduceAdd, Int.reduceSub, Int.reduceToNat, Int.reduceEq, Int.reduceBEq, reduceCtorEq, List.cons.injEq, Int.reduceBNe, Int.sub_zero, decide_true, decide_false, false_and, and_false, Try.f5, e]
  · have e : (cutSnap x).enc = [.p (.int .i64 x.i), .p (.int .i64 x.t), .p (.slice none 0 0), sq bE (cut 300 x.d)] := by simp [cutSnap, Snp.enc, hm, sq]
    refine W_cond (b := true) (by simp [evalA, put, hm]) (fun h1 => ?_) (fun h1 => by cases h1)
    repeat (first
      | with_reducible refine W_seq fun K hK => ?_
      | ((with_reducible refine W_reg ?_ ?_); (· rfl); simp only [go_sem, Nat.reduceEqDiff, ↓reduceIte, reduceIte, Nat.reduceAdd, Nat.reduceMul, Nat.reduceSub, Nat.reduceLeDiff, Nat.reduceBEq, Nat.reduceBNe, Int.reduceNeg, Int.reduceLT, Int.reduceLE, Int.reduceAdd, Int.reduceSub, Int.reduceToNat, Int.reduceEq, Int.reduceBEq, reduceCtorEq, List.cons.injEq, Int.reduceBNe, Int.sub_zero, decide_true, decide_false, false_and, and_false])
      | ((with_reducible refine hK _ ?_); clear hK K)
      | (refine W_skip (hK _ ?_); clear hK K)
      | (refine W_cond rfl (fun hc => ?_) (fun hc => ?_); (· cases hc); clear hc)
      | (refine W_cond rfl (fun hc => ?_) (fun hc => ?_); rotate_left; (· cases hc); clear hc)
      | with_reducible refine W_block ?_
      | ((with_reducible refine W_exit ?_); simp only [go_sem, Nat.reduceEqDiff, ↓reduceIte, reduceIte, Nat.reduceAdd, Nat.reduceMul, Nat.reduceSub, Nat.reduceLeDiff, Nat.reduceBEq, Nat.reduceBNe, Int.reduceNeg, Int.reduceLT, Int.reduceLE, Int.reduceAdd, Int.reduceSub, Int.reduceToNat, Int.reduceEq, Int.reduceBEq, reduceCtorEq, List.cons.injEq, Int.reduceBNe, Int.sub_zero, decide_true, decide_false, false_and, and_false])
      | ((with_reducible refine W_ret ?_); simp only [go_sem, Nat.reduceEqDiff, ↓reduceIte, reduceIte, Nat.reduceAdd, Nat.reduceMul, Nat.reduceSub, Nat.reduceLeDiff, Nat.reduceBEq, Nat.reduceBNe, Int.reduceNeg, Int.reduceLT, Int.reduceLE, Int.reduceAdd, Int.reduceSub, Int.reduceToNat, Int.reduceEq, Int.reduceBEq, reduceCtorEq, List.cons.injEq, Int.reduceBNe, Int.sub_zero, decide_true, decide_false, false_and, and_false])
      | (clear hK K; (with_reducible refine hK _ ?_); clear hK K)
      | (clear hK K; clear hK K; (with_reducible refine hK _ ?_); clear hK K)
      | (clear hK K; clear hK K; clear hK K; (with_reducible refine hK _ ?_); clear hK K)
      | refine And.intro (by decide) (And.intro (by decide) ?_)
      | refine And.intro (by omega) ?_
      | simp only [go_sem, Nat.reduceEqDiff, ↓reduceIte, reduceIte, Nat.reduceAdd, Nat.reduceMul, Nat.reduceSub, Nat.reduceLeDiff, Nat.reduceBEq, Nat.reduceBNe, Int.reduceNeg, Int.reduceLT, Int.reduceLE, Int.reduceAdd, Int.reduceSub, Int.reduceToNat, Int.reduceEq, Int.reduceBEq, reduceCtorEq, List.cons.injEq, Int.reduceBNe, Int.sub_zero, decide_true, decide_false, false_and, and_false])
    refine ends_ret ?_ (by (repeat first | exact HLe.refl _ | refine HLe.set ?_ _ _ | refine HLe.fresh ?_ (hfr [_, _])))
    simp only [go_sem, Nat.reduceEqDiff, ↓reduceIte, reduceIte, Nat.reduceAdd, Nat.reduceMul, Nat.reduceSub, Nat.reduceLeDiff, Nat.reduceBEq, Nat.reduceBNe, Int.reduceNeg, Int.reduceLT, Int.reduceLE, Int.reduceAdd, Int.reduceSub, Int.reduceToNat, Int.reduceEq, Int.reduceBEq, reduceCtorEq, List.cons.injEq, Int.reduceBNe, Int.sub_zero, decide_true, decide_false, false_and, and_false, Try.f5, e]

def cutE (n : Nat) (o : Option (List Ent)) : List Ent := ((sqL o).take n).map fun e => { e with d := cut 60 e.d }
theorem cutE_succ {o : Option (List Ent)} {j : Nat} (h : j < (sqL o).length) : cutE (j + 1) o = cutE j o ++ [{ (sqL o)[j] with d := cut 60 (sqL o)[j].d }] := by
  unfold cutE; rw [List.take_succ_eq_append_getElem h, List.map_append]; rfl
theorem cutE_all {o : Option (List Ent)} {j n : Nat} (h : (sqL o).length ≤ j) (h2 : j ≤ n) : cutE j o = cutE n o := by
  unfold cutE; rw [List.take_of_length_le h, List.take_of_length_le (by omega)]

set_option maxRecDepth 8000 in
theorem f6_ok (id : BId) (o : Option (List Ent)) (n : Nat) (hn : n ≤ 100) (ho : (sqL o).length ≤ maxLen) : CallF Try.prog 6 [sq Ent.enc o, .p (.int .i64 n)] id [] (sq Ent.enc (ne (cutE n o))) [] := by
  refine ⟨⟨_, Try.func6, by decide, rfl⟩, (by simp <;> repeat first | exact ⟨[_, _], rfl⟩ | constructor), fun h hr => callsA_of_W Try.func6 rfl fun hfr => ?_⟩
  repeat (first
    | with_reducible refine W_seq fun K hK => ?_
    | ((with_reducible refine W_reg ?_ ?_); (· rfl); simp only [go_sem, Nat.reduceEqDiff, ↓reduceIte, reduceIte, Nat.reduceAdd, Nat.reduceMul, Nat.reduceSub, Nat.reduceLeDiff, Nat.reduceBEq, Nat.reduceBNe, Int.reduceNeg, Int.reduceLT, Int.reduceLE, Int.reduceAdd, Int.reduceSub, Int.reduceToNat, Int.reduceEq, Int.reduceBEq, reduceCtorEq, List.cons.injEq, Int.reduceBNe, Int.sub_zero, decide_true, decide_false, false_and, and_false])
    | ((with_reducible refine hK _ ?_); clear hK K)
    | (refine W_skip (hK _ ?_); clear hK K)
    | (refine W_cond rfl (fun hc => ?_) (fun hc => ?_); (· cases hc); clear hc)
    | (refine W_cond rfl (fun hc => ?_) (fun hc => ?_); rotate_left; (· cases hc); clear hc)
    | with_reducible refine W_block ?_
    | ((with_reducible refine W_exit ?_); simp only [go_sem, Nat.reduceEqDiff, ↓reduceIte, reduceIte, Nat.reduceAdd, Nat.reduceMul, Nat.reduceSub, Nat.reduceLeDiff, Nat.reduceBEq, Nat.reduceBNe, Int.reduceNeg, Int.reduceLT, Int.reduceLE, Int.reduceAdd, Int.reduceSub, Int.reduceToNat, Int.reduceEq, Int.reduceBEq, reduceCtorEq, List.cons.injEq, Int.reduceBNe, Int.sub_zero, decide_true, decide_false, false_and, and_false])
    | ((with_reducible refine W_ret ?_); simp only [go_sem, Nat.reduceEqDiff, ↓reduceIte, reduceIte, Nat.reduceAdd, Nat.reduceMul, Nat.reduceSub, Nat.reduceLeDiff, Nat.reduceBEq, Nat.reduceBNe, Int.reduceNeg, Int.reduceLT, Int.reduceLE, Int.reduceAdd, Int.reduceSub, Int.reduceToNat, Int.reduceEq, Int.reduceBEq, reduceCtorEq, List.cons.injEq, Int.reduceBNe, Int.sub_zero, decide_true, decide_false, false_and, and_false])
    | (clear hK K; (with_reducible refine hK _ ?_); clear hK K)
    | (clear hK K; clear hK K; (with_reducible refine hK _ ?_); clear hK K)
    | (clear hK K; clear hK K; clear hK K; (with_reducible refine hK _ ?_); clear hK K)
    | refine And.intro (by decide) (And.intro (by decide) ?_)
    | refine And.intro (by omega) ?_
    | simp only [go_sem, Nat.reduceEqDiff, ↓reduceIte, reduceIte, Nat.reduceAdd, Nat.reduceMul, Nat.reduceSub, Nat.reduceLeDiff, Nat.reduceBEq, Nat.reduceBNe, Int.reduceNeg, Int.reduceLT, Int.reduceLE, Int.reduceAdd, Int.reduceSub, Int.reduceToNat, Int.reduceEq, Int.reduceBEq, reduceCtorEq, List.cons.injEq, Int.reduceBNe, Int.sub_zero, decide_true, decide_false, false_and, and_false])
  refine W_loop ?_
  refine WL_nat (P := Try.prog) (fun m s' => ∃ j : Nat, m = n - j ∧ j ≤ n ∧ j ≤ (sqL o).length ∧ s'.tm 0 = sq Ent.enc o ∧ s'.tm 1 = .p (.int .i64 n) ∧ s'.tm 6 = .p (.int .i64 j) ∧ Grw Ent.enc 44 4 (.p (.slice none 0 0)) [] s'.h (s'.tm 5) (cutE j o) ∧ HLe h s'.h ∧ ∀ f b p n z, s'.tm 5 = .ref f b p n z → h b = none)
    (fun m s' hI => ?_) _ _ ⟨0, rfl, by omega, by omega, rfl, rfl, rfl, .inl ⟨rfl, rfl⟩, HLe.refl _, fun f b p n z e => by cases e⟩
  obtain ⟨j, rfl, hj, hj2, h0, h1, h6, how, hle, hfs⟩ := hI
  obtain ⟨tm, h2, tt⟩ := s'
  simp only at h0 h1 h6 how hle hfs
  have hB : cutE j o = cutE n o → ∀ (tm' : Nat → AV) (t' : Nat), tm' 5 = tm 5 → K ⟨tm', h2, t'⟩ := by
    intro et tm' t' e5
    rw [← e5] at how
    refine hK _ (W_grw 5 how rfl Ent.enc_len ?_)
    rw [grwV_nil, et]
    repeat (first
      | with_reducible refine W_seq fun K hK => ?_
      | ((with_reducible refine W_reg ?_ ?_); (· rfl); simp only [go_sem, Nat.reduceEqDiff, ↓reduceIte, reduceIte, Nat.reduceAdd, Nat.reduceMul, Nat.reduceSub, Nat.reduceLeDiff, Nat.reduceBEq, Nat.reduceBNe, Int.reduceNeg, Int.reduceLT, Int.reduceLE, Int.reduceAdd, Int.reduceSub, Int.reduceToNat, Int.reduceEq, Int.reduceBEq, reduceCtorEq, List.cons.injEq, Int.reduceBNe, Int.sub_zero, decide_true, decide_false, false_and, and_false])
      | ((with_reducible refine hK _ ?_); clear hK K)
      | (refine W_skip (hK _ ?_); clear hK K)
      | (refine W_cond rfl (fun hc => ?_) (fun hc => ?_); (· cases hc); clear hc)
      | (refine W_cond rfl (fun hc => ?_) (fun hc => ?_); rotate_left; (· cases hc); clear hc)
      | with_reducible refine W_block ?_
      | ((with_reducible refine W_exit ?_); simp only [go_sem, Nat.reduceEqDiff, ↓reduceIte, reduceIte, Nat.reduceAdd, Nat.reduceMul, Nat.reduceSub, Nat.reduceLeDiff, Nat.reduceBEq, Nat.reduceBNe, Int.reduceNeg, Int.reduceLT, Int.reduceLE, Int.reduceAdd, Int.reduceSub, Int.reduceToNat, Int.reduceEq, Int.reduceBEq, reduceCtorEq, List.cons.injEq, Int.reduceBNe, Int.sub_zero, decide_true, decide_false, false_and, and_false])
      | ((with_reducible refine W_ret ?_); simp only [go_sem, Nat.reduceEqDiff, ↓reduceIte, reduceIte, Nat.reduceAdd, Nat.reduceMul, Nat.reduceSub, Nat.reduceLeDiff, Nat.reduceBEq, Nat.reduceBNe, Int.reduceNeg, Int.reduceLT, Int.reduceLE, Int.reduceAdd, Int.reduceSub, Int.reduceToNat, Int.reduceEq, Int.reduceBEq, reduceCtorEq, List.cons.injEq, Int.reduceBNe, Int.sub_zero, decide_true, decide_false, false_and, and_false])
      | (clear hK K; (with_reducible refine hK _ ?_); clear hK K)
      | (clear hK K; clear hK K; (with_reducible refine hK _ ?_); clear hK K)
      | (clear hK K; clear hK K; clear hK K; (with_reducible refine hK _ ?_); clear hK K)
      | refine And.intro (by decide) (And.intro (by decide) ?_)
      | refine And.intro (by omega) ?_
      | simp only [go_sem, Nat.reduceEqDiff, ↓reduceIte, reduceIte, Nat.reduceAdd, Nat.reduceMul, Nat.reduceSub, Nat.reduceLeDiff, Nat.reduceBEq, Nat.reduceBNe, Int.reduceNeg, Int.reduceLT, Int.reduceLE, Int.reduceAdd, Int.reduceSub, Int.reduceToNat, Int.reduceEq, Int.reduceBEq, reduceCtorEq, List.cons.injEq, Int.reduceBNe, Int.sub_zero, decide_true, decide_false, false_and, and_false])
    refine ends_ret ?_ (hle_ownW (fun f b p n z e => hfs f b p n z (by rw [← e5]; exact e)) hle)
    simp only [go_sem, Nat.reduceEqDiff, ↓reduceIte, reduceIte, Nat.reduceAdd, Nat.reduceMul, Nat.reduceSub, Nat.reduceLeDiff, Nat.reduceBEq, Nat.reduceBNe, Int.reduceNeg, Int.reduceLT, Int.reduceLE, Int.reduceAdd, Int.reduceSub, Int.reduceToNat, Int.reduceEq, Int.reduceBEq, reduceCtorEq, List.cons.injEq, Int.reduceBNe, Int.sub_zero, decide_true, decide_false, false_and, and_false, Try.f6]
  by_cases c1 : j < (sqL o).length
  · have f1 : decide ((j : Int) < ((sqL o).length : Int)) = true := by simp; omega
    by_cases c2 : j < n
    · have f2 : decide ((j : Int) < (n : Int)) = true := by simp; omega
      clear hB
      have hx : ((sqL o).flatMap Ent.enc).drop (j * 4) = Ent.enc (sqL o)[j] ++ ((sqL o).drop (j + 1)).flatMap Ent.enc := flatMap_at Ent.enc_len _ _ c1
      have e6 : IntKind.i64.wrap ((j : Int) + 1) = ((j + 1 : Nat) : Int) := by rw [wrap_i64 (by omega)]; omega
      have e7 := cutE_succ c1
      generalize hy : (sqL o)[j] = y at *
      refine W_fr fun hF => ?_
      repeat (first
        | with_reducible refine W_seq fun K hK => ?_
        | ((with_reducible refine W_reg ?_ ?_); (· rfl); simp only [go_sem, Nat.reduceEqDiff, ↓reduceIte, reduceIte, Nat.reduceAdd, Nat.reduceMul, Nat.reduceSub, Nat.reduceLeDiff, Nat.reduceBEq, Nat.reduceBNe, Int.reduceNeg, Int.reduceLT, Int.reduceLE, Int.reduceAdd, Int.reduceSub, Int.reduceToNat, Int.reduceEq, Int.reduceBEq, reduceCtorEq, List.cons.injEq, Int.reduceBNe, Int.sub_zero, decide_true, decide_false, false_and, and_false, h0, h1, h6, f1, f2, hx, Ent.enc])
        | ((with_reducible refine hK _ ?_); clear hK K)
        | (refine W_skip (hK _ ?_); clear hK K)
        | (refine W_cond rfl (fun hc => ?_) (fun hc => ?_); (· cases hc); clear hc)
        | (refine W_cond rfl (fun hc => ?_) (fun hc => ?_); rotate_left; (· cases hc); clear hc)
        | with_reducible refine W_block ?_
        | ((with_reducible refine W_exit ?_); simp only [go_sem, Nat.reduceEqDiff, ↓reduceIte, reduceIte, Nat.reduceAdd, Nat.reduceMul, Nat.reduceSub, Nat.reduceLeDiff, Nat.reduceBEq, Nat.reduceBNe, Int.reduceNeg, Int.reduceLT, Int.reduceLE, Int.reduceAdd, Int.reduceSub, Int.reduceToNat, Int.reduceEq, Int.reduceBEq, reduceCtorEq, List.cons.injEq, Int.reduceBNe, Int.sub_zero, decide_true, decide_false, false_and, and_false, h0, h1, h6, f1, f2, hx, Ent.enc])
        | ((with_reducible refine W_ret ?_); simp only [go_sem, Nat.reduceEqDiff, ↓reduceIte, reduceIte, Nat.reduceAdd, Nat.reduceMul, Nat.reduceSub, Nat.reduceLeDiff, Nat.reduceBEq, Nat.reduceBNe, Int.reduceNeg, Int.reduceLT, Int.reduceLE, Int.reduceAdd, Int.reduceSub, Int.reduceToNat, Int.reduceEq, Int.reduceBEq, reduceCtorEq, List.cons.injEq, Int.reduceBNe, Int.sub_zero, decide_true, decide_false, false_and, and_false, h0, h1, h6, f1, f2, hx, Ent.enc])
        | (clear hK K; (with_reducible refine hK _ ?_); clear hK K)
        | (clear hK K; clear hK K; (with_reducible refine hK _ ?_); clear hK K)
        | (clear hK K; clear hK K; clear hK K; (with_reducible refine hK _ ?_); clear hK K)
        | refine And.intro (by decide) (And.intro (by decide) ?_)
        | refine And.intro (by omega) ?_
        | simp only [go_sem, Nat.reduceEqDiff, ↓reduceIte, reduceIte, Nat.reduceAdd, Nat.reduceMul, Nat.reduceSub, Nat.reduceLeDiff, Nat.reduceBEq, Nat.reduceBNe, Int.reduceNeg, Int.reduceLT, Int.reduceLE, Int.reduceAdd, Int.reduceSub, Int.reduceToNat, Int.reduceEq, Int.reduceBEq, reduceCtorEq, List.cons.injEq, Int.reduceBNe, Int.sub_zero, decide_true, decide_false, false_and, and_false, h0, h1, h6, f1, f2, hx, Ent.enc])
      refine stop_call (short_ok _ y.d 60) ?_ ?_
      · first | trivial | (simp only [go_sem, Nat.reduceEqDiff, ↓reduceIte, reduceIte, Nat.reduceAdd, Nat.reduceMul, Nat.reduceSub, Nat.reduceLeDiff, Nat.reduceBEq, Nat.reduceBNe, Int.reduceNeg, Int.reduceLT, Int.reduceLE, Int.reduceAdd, Int.reduceSub, Int.reduceToNat, Int.reduceEq, Int.reduceBEq, reduceCtorEq, List.cons.injEq, Int.reduceBNe, Int.sub_zero, decide_true, decide_false, false_and, and_false]; done)
      repeat (first
        | with_reducible refine W_seq fun K hK => ?_
        | ((with_reducible refine W_reg ?_ ?_); (· rfl); simp only [go_sem, Nat.reduceEqDiff, ↓reduceIte, reduceIte, Nat.reduceAdd, Nat.reduceMul, Nat.reduceSub, Nat.reduceLeDiff, Nat.reduceBEq, Nat.reduceBNe, Int.reduceNeg, Int.reduceLT, Int.reduceLE, Int.reduceAdd, Int.reduceSub, Int.reduceToNat, Int.reduceEq, Int.reduceBEq, reduceCtorEq, List.cons.injEq, Int.reduceBNe, Int.sub_zero, decide_true, decide_false, false_and, and_false])
        | ((with_reducible refine hK _ ?_); clear hK K)
        | (refine W_skip (hK _ ?_); clear hK K)
        | (refine W_cond rfl (fun hc => ?_) (fun hc => ?_); (· cases hc); clear hc)
        | (refine W_cond rfl (fun hc => ?_) (fun hc => ?_); rotate_left; (· cases hc); clear hc)
        | with_reducible refine W_block ?_
        | ((with_reducible refine W_exit ?_); simp only [go_sem, Nat.reduceEqDiff, ↓reduceIte, reduceIte, Nat.reduceAdd, Nat.reduceMul, Nat.reduceSub, Nat.reduceLeDiff, Nat.reduceBEq, Nat.reduceBNe, Int.reduceNeg, Int.reduceLT, Int.reduceLE, Int.reduceAdd, Int.reduceSub, Int.reduceToNat, Int.reduceEq, Int.reduceBEq, reduceCtorEq, List.cons.injEq, Int.reduceBNe, Int.sub_zero, decide_true, decide_false, false_and, and_false])
        | ((with_reducible refine W_ret ?_); simp only [go_sem, Nat.reduceEqDiff, ↓reduceIte, reduceIte, Nat.reduceAdd, Nat.reduceMul, Nat.reduceSub, Nat.reduceLeDiff, Nat.reduceBEq, Nat.reduceBNe, Int.reduceNeg, Int.reduceLT, Int.reduceLE, Int.reduceAdd, Int.reduceSub, Int.reduceToNat, Int.reduceEq, Int.reduceBEq, reduceCtorEq, List.cons.injEq, Int.reduceBNe, Int.sub_zero, decide_true, decide_false, false_and, and_false])
        | (clear hK K; (with_reducible refine hK _ ?_); clear hK K)
        | (clear hK K; clear hK K; (with_reducible refine hK _ ?_); clear hK K)
        | (clear hK K; clear hK K; clear hK K; (with_reducible refine hK _ ?_); clear hK K)
        | refine And.intro (by decide) (And.intro (by decide) ?_)
        | refine And.intro (by omega) ?_
        | simp only [go_sem, Nat.reduceEqDiff, ↓reduceIte, reduceIte, Nat.reduceAdd, Nat.reduceMul, Nat.reduceSub, Nat.reduceLeDiff, Nat.reduceBEq, Nat.reduceBNe, Int.reduceNeg, Int.reduceLT, Int.reduceLE, Int.reduceAdd, Int.reduceSub, Int.reduceToNat, Int.reduceEq, Int.reduceBEq, reduceCtorEq, List.cons.injEq, Int.reduceBNe, Int.sub_zero, decide_true, decide_false, false_and, and_false])
      refine stop_append_grw (l0 := []) 44 4 48 [.p (.int .i64 0), .p (.int .i64 0), .p (.int .i64 0), .p (.slice none 0 0)] (cutE j o) [{ y with d := cut 60 y.d }] ty26.2.2.2.1 ty44.2.1 ty44.2.2.1 ty44.2.2.2.2.2.1 rfl Ent.enc_len Ent.enc_one rfl (grw_far how (by repeat (first | exact far_refl _ | refine far_hset ?_ (hF _ (by simp) [_])))) (by simp only [go_sem, Nat.reduceEqDiff, ↓reduceIte, reduceIte, Nat.reduceAdd, Nat.reduceMul, Nat.reduceSub, Nat.reduceLeDiff, Nat.reduceBEq, Nat.reduceBNe, Int.reduceNeg, Int.reduceLT, Int.reduceLE, Int.reduceAdd, Int.reduceSub, Int.reduceToNat, Int.reduceEq, Int.reduceBEq, reduceCtorEq, List.cons.injEq, Int.reduceBNe, Int.sub_zero, decide_true, decide_false, false_and, and_false] <;> rfl) (by simp)
        (by simp [cutE, maxLen] at *; omega) (by simp [cutE, maxLen] at *; omega) ?_
      rw [← e7]
      repeat (first
        | with_reducible refine W_seq fun K hK => ?_
        | ((with_reducible refine W_reg ?_ ?_); (· rfl); simp only [go_sem, Nat.reduceEqDiff, ↓reduceIte, reduceIte, Nat.reduceAdd, Nat.reduceMul, Nat.reduceSub, Nat.reduceLeDiff, Nat.reduceBEq, Nat.reduceBNe, Int.reduceNeg, Int.reduceLT, Int.reduceLE, Int.reduceAdd, Int.reduceSub, Int.reduceToNat, Int.reduceEq, Int.reduceBEq, reduceCtorEq, List.cons.injEq, Int.reduceBNe, Int.sub_zero, decide_true, decide_false, false_and, and_false, h6, e6])
        | ((with_reducible refine hK _ ?_); clear hK K)
        | (refine W_skip (hK _ ?_); clear hK K)
        | (refine W_cond rfl (fun hc => ?_) (fun hc => ?_); (· cases hc); clear hc)
        | (refine W_cond rfl (fun hc => ?_) (fun hc => ?_); rotate_left; (· cases hc); clear hc)
        | with_reducible refine W_block ?_
        | ((with_reducible refine W_exit ?_); simp only [go_sem, Nat.reduceEqDiff, ↓reduceIte, reduceIte, Nat.reduceAdd, Nat.reduceMul, Nat.reduceSub, Nat.reduceLeDiff, Nat.reduceBEq, Nat.reduceBNe, Int.reduceNeg, Int.reduceLT, Int.reduceLE, Int.reduceAdd, Int.reduceSub, Int.reduceToNat, Int.reduceEq, Int.reduceBEq, reduceCtorEq, List.cons.injEq, Int.reduceBNe, Int.sub_zero, decide_true, decide_false, false_and, and_false, h6, e6])
        | ((with_reducible refine W_ret ?_); simp only [go_sem, Nat.reduceEqDiff, ↓reduceIte, reduceIte, Nat.reduceAdd, Nat.reduceMul, Nat.reduceSub, Nat.reduceLeDiff, Nat.reduceBEq, Nat.reduceBNe, Int.reduceNeg, Int.reduceLT, Int.reduceLE, Int.reduceAdd, Int.reduceSub, Int.reduceToNat, Int.reduceEq, Int.reduceBEq, reduceCtorEq, List.cons.injEq, Int.reduceBNe, Int.sub_zero, decide_true, decide_false, false_and, and_false, h6, e6])
        | (clear hK K; (with_reducible refine hK _ ?_); clear hK K)
        | (clear hK K; clear hK K; (with_reducible refine hK _ ?_); clear hK K)
        | (clear hK K; clear hK K; clear hK K; (with_reducible refine hK _ ?_); clear hK K)
        | refine And.intro (by decide) (And.intro (by decide) ?_)
        | refine And.intro (by omega) ?_
        | simp only [go_sem, Nat.reduceEqDiff, ↓reduceIte, reduceIte, Nat.reduceAdd, Nat.reduceMul, Nat.reduceSub, Nat.reduceLeDiff, Nat.reduceBEq, Nat.reduceBNe, Int.reduceNeg, Int.reduceLT, Int.reduceLE, Int.reduceAdd, Int.reduceSub, Int.reduceToNat, Int.reduceEq, Int.reduceBEq, reduceCtorEq, List.cons.injEq, Int.reduceBNe, Int.sub_zero, decide_true, decide_false, false_and, and_false, h6, e6])
      refine ⟨n - (j + 1), by omega, j + 1, rfl, by omega, by omega, h0, h1, rfl, .inr ⟨_, ?_, rfl, hset_same _ _ _⟩, HLe.fresh (hle_ownW hfs (by repeat first | exact hle | refine HLe.set ?_ _ _ | refine HLe.fresh ?_ (hfr [_, _]))) (hfr [_, _]), fun f b p n z e => ?_⟩
      · rw [e7]; simp
      · cases e; exact hfr [_, _]
    · have f2 : decide ((j : Int) < (n : Int)) = false := by simp; omega
      repeat (first
        | with_reducible refine W_seq fun K hK => ?_
        | ((with_reducible refine W_reg ?_ ?_); (· rfl); simp only [go_sem, Nat.reduceEqDiff, ↓reduceIte, reduceIte, Nat.reduceAdd, Nat.reduceMul, Nat.reduceSub, Nat.reduceLeDiff, Nat.reduceBEq, Nat.reduceBNe, Int.reduceNeg, Int.reduceLT, Int.reduceLE, Int.reduceAdd, Int.reduceSub, Int.reduceToNat, Int.reduceEq, Int.reduceBEq, reduceCtorEq, List.cons.injEq, Int.reduceBNe, Int.sub_zero, decide_true, decide_false, false_and, and_false, h0, h1, h6, f1, f2])
        | ((with_reducible refine hK _ ?_); clear hK K)
        | (refine W_skip (hK _ ?_); clear hK K)
        | (refine W_cond rfl (fun hc => ?_) (fun hc => ?_); (· cases hc); clear hc)
        | (refine W_cond rfl (fun hc => ?_) (fun hc => ?_); rotate_left; (· cases hc); clear hc)
        | with_reducible refine W_block ?_
        | ((with_reducible refine W_exit ?_); simp only [go_sem, Nat.reduceEqDiff, ↓reduceIte, reduceIte, Nat.reduceAdd, Nat.reduceMul, Nat.reduceSub, Nat.reduceLeDiff, Nat.reduceBEq, Nat.reduceBNe, Int.reduceNeg, Int.reduceLT, Int.reduceLE, Int.reduceAdd, Int.reduceSub, Int.reduceToNat, Int.reduceEq, Int.reduceBEq, reduceCtorEq, List.cons.injEq, Int.reduceBNe, Int.sub_zero, decide_true, decide_false, false_and, and_false, h0, h1, h6, f1, f2])
        | ((with_reducible refine W_ret ?_); simp only [go_sem, Nat.reduceEqDiff, ↓reduceIte, reduceIte, Nat.reduceAdd, Nat.reduceMul, Nat.reduceSub, Nat.reduceLeDiff, Nat.reduceBEq, Nat.reduceBNe, Int.reduceNeg, Int.reduceLT, Int.reduceLE, Int.reduceAdd, Int.reduceSub, Int.reduceToNat, Int.reduceEq, Int.reduceBEq, reduceCtorEq, List.cons.injEq, Int.reduceBNe, Int.sub_zero, decide_true, decide_false, false_and, and_false, h0, h1, h6, f1, f2])
        | (clear hK K; (with_reducible refine hK _ ?_); clear hK K)
        | (clear hK K; clear hK K; (with_reducible refine hK _ ?_); clear hK K)
        | (clear hK K; clear hK K; clear hK K; (with_reducible refine hK _ ?_); clear hK K)
        | refine And.intro (by decide) (And.intro (by decide) ?_)
        | refine And.intro (by omega) ?_
        | simp only [go_sem, Nat.reduceEqDiff, ↓reduceIte, reduceIte, Nat.reduceAdd, Nat.reduceMul, Nat.reduceSub, Nat.reduceLeDiff, Nat.reduceBEq, Nat.reduceBNe, Int.reduceNeg, Int.reduceLT, Int.reduceLE, Int.reduceAdd, Int.reduceSub, Int.reduceToNat, Int.reduceEq, Int.reduceBEq, reduceCtorEq, List.cons.injEq, Int.reduceBNe, Int.sub_zero, decide_true, decide_false, false_and, and_false, h0, h1, h6, f1, f2])
      exact hB (by rw [show j = n by omega]) _ _ rfl
  · have f1 : decide ((j : Int) < ((sqL o).length : Int)) = false := by simp; omega
    repeat (first
      | with_reducible refine W_seq fun K hK => ?_
      | ((with_reducible refine W_reg ?_ ?_); (· rfl); simp only [go_sem, Nat.reduceEqDiff, ↓reduceIte, reduceIte, Nat.reduceAdd, Nat.reduceMul, Nat.reduceSub, Nat.reduceLeDiff, Nat.reduceBEq, Nat.reduceBNe, Int.reduceNeg, Int.reduceLT, Int.reduceLE, Int.reduceAdd, Int.reduceSub, Int.reduceToNat, Int.reduceEq, Int.reduceBEq, reduceCtorEq, List.cons.injEq, Int.reduceBNe, Int.sub_zero, decide_true, decide_false, false_and, and_false, h0, h1, h6, f1])
      | ((with_reducible refine hK _ ?_); clear hK K)
      | (refine W_skip (hK _ ?_); clear hK K)
      | (refine W_cond rfl (fun hc => ?_) (fun hc => ?_); (· cases hc); clear hc)
      | (refine W_cond rfl (fun hc => ?_) (fun hc => ?_); rotate_left; (· cases hc); clear hc)
      | with_reducible refine W_block ?_
      | ((with_reducible refine W_exit ?_); simp only [go_sem, Nat.reduceEqDiff, ↓reduceIte, reduceIte, Nat.reduceAdd, Nat.reduceMul, Nat.reduceSub, Nat.reduceLeDiff, Nat.reduceBEq, Nat.reduceBNe, Int.reduceNeg, Int.reduceLT, Int.reduceLE, Int.reduceAdd, Int.reduceSub, Int.reduceToNat, Int.reduceEq, Int.reduceBEq, reduceCtorEq, List.cons.injEq, Int.reduceBNe, Int.sub_zero, decide_true, decide_false, false_and, and_false, h0, h1, h6, f1])
      | ((with_reducible refine W_ret ?_); simp only [go_sem, Nat.reduceEqDiff, ↓reduceIte, reduceIte, Nat.reduceAdd, Nat.reduceMul, Nat.reduceSub, Nat.reduceLeDiff, Nat.reduceBEq, Nat.reduceBNe, Int.reduceNeg, Int.reduceLT, Int.reduceLE, Int.reduceAdd, Int.reduceSub, Int.reduceToNat, Int.reduceEq, Int.reduceBEq, reduceCtorEq, List.cons.injEq, Int.reduceBNe, Int.sub_zero, decide_true, decide_false, false_and, and_false, h0, h1, h6, f1])
      | (clear hK K; (with_reducible refine hK _ ?_); clear hK K)
      | (clear hK K; clear hK K; (with_reducible refine hK _ ?_); clear hK K)
      | (clear hK K; clear hK K; clear hK K; (with_reducible refine hK _ ?_); clear hK K)
      | refine And.intro (by decide) (And.intro (by decide) ?_)
      | refine And.intro (by omega) ?_
      | simp only [go_sem, Nat.reduceEqDiff, ↓reduceIte, reduceIte, Nat.reduceAdd, Nat.reduceMul, Nat.reduceSub, Nat.reduceLeDiff, Nat.reduceBEq, Nat.reduceBNe, Int.reduceNeg, Int.reduceLT, Int.reduceLE, Int.reduceAdd, Int.reduceSub, Int.reduceToNat, Int.reduceEq, Int.reduceBEq, reduceCtorEq, List.cons.injEq, Int.reduceBNe, Int.sub_zero, decide_true, decide_false, false_and, and_false, h0, h1, h6, f1])
    exact hB (cutE_all (by omega) hj) _ _ rfl
end Go.Proofs.Ytcfmbbebnobflaa
