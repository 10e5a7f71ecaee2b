/- A new log, the document's too. -/
import Derived.Test.YtcfmbbebnobflaaF16
set_option linter.unusedVariables false
set_option linter.unusedSimpArgs false
namespace Go.Proofs.Ytcfmbbebnobflaa
open Go Go.SX

def newOk (s : Snp) (l : List Ent) : Prop := 0 ≤ s.i ∧ 0 ≤ s.t ∧ goodL s.i s.t l

open Classical in
theorem f8_bad (id : BId) (s : Snp) (o : Option (List Ent)) (hi : s.i ≤ 4611686018427387904) (hn : (sqL o).length ≤ 1000) (hd : ∀ e ∈ sqL o, (sqL e.d).length ≤ 1000) (hbad : ¬ newOk s (sqL o)) :
    CallF Try.prog 8 [.agg s.enc, sq Ent.enc o] id [] (.p (.pointer none)) [] := by
  refine ⟨⟨_, Try.func8, by decide, rfl⟩, (by simp <;> repeat first | exact ⟨[_, _], rfl⟩ | constructor), fun h hr => callsA_of_W Try.func8 rfl fun hfr => ?_⟩
  by_cases c1 : s.i < 0
  · have f1 : decide (s.i < 0) = true := by simpa using c1
    repeat (first
      | with_reducible refine W_seq fun K hK => ?_
      | ((with_reducible refine W_reg ?_ ?_); (· rfl); simp only [go_sem, Nat.reduceEqDiff, ↓reduceIte, reduceIte, Nat.reduceAdd, Nat.reduceMul, Nat.reduceSub, Nat.reduceLeDiff, Nat.reduceBEq, Nat.reduceBNe, Int.reduceNeg, Int.reduceLT, Int.reduceLE, Int.reduceAdd, Int.reduceSub, Int.reduceToNat, Int.reduceEq, Int.reduceBEq, reduceCtorEq, List.cons.injEq, Int.reduceBNe, Int.sub_zero, decide_true, decide_false, false_and, and_false, Snp.enc, f1])
      | ((with_reducible refine hK _ ?_); clear hK K)
      | (refine W_skip (hK _ ?_); clear hK K)
      | (refine W_cond rfl (fun hc => ?_) (fun hc => ?_); (· cases hc); clear hc)
      | (refine W_cond rfl (fun hc => ?_) (fun hc => ?_); rotate_left; (· cases hc); clear hc)
      | with_reducible refine W_block ?_
      | ((with_reducible refine W_exit ?_); simp only [go_sem, Nat.reduceEqDiff, ↓reduceIte, reduceIte, Nat.reduceAdd, Nat.reduceMul, Nat.reduceSub, Nat.reduceLeDiff, Nat.reduceBEq, Nat.reduceBNe, Int.reduceNeg, Int.reduceLT, Int.reduceLE, Int.reduceAdd, Int.reduceSub, Int.reduceToNat, Int.reduceEq, Int.reduceBEq, reduceCtorEq, List.cons.injEq, Int.reduceBNe, Int.sub_zero, decide_true, decide_false, false_and, and_false, Snp.enc, f1])
      | ((with_reducible refine W_ret ?_); simp only [go_sem, Nat.reduceEqDiff, ↓reduceIte, reduceIte, Nat.reduceAdd, Nat.reduceMul, Nat.reduceSub, Nat.reduceLeDiff, Nat.reduceBEq, Nat.reduceBNe, Int.reduceNeg, Int.reduceLT, Int.reduceLE, Int.reduceAdd, Int.reduceSub, Int.reduceToNat, Int.reduceEq, Int.reduceBEq, reduceCtorEq, List.cons.injEq, Int.reduceBNe, Int.sub_zero, decide_true, decide_false, false_and, and_false, Snp.enc, f1])
      | (clear hK K; (with_reducible refine hK _ ?_); clear hK K)
      | (clear hK K; clear hK K; (with_reducible refine hK _ ?_); clear hK K)
      | (clear hK K; clear hK K; clear hK K; (with_reducible refine hK _ ?_); clear hK K)
      | refine And.intro (by decide) (And.intro (by decide) ?_)
      | refine And.intro (by omega) ?_
      | simp only [go_sem, Nat.reduceEqDiff, ↓reduceIte, reduceIte, Nat.reduceAdd, Nat.reduceMul, Nat.reduceSub, Nat.reduceLeDiff, Nat.reduceBEq, Nat.reduceBNe, Int.reduceNeg, Int.reduceLT, Int.reduceLE, Int.reduceAdd, Int.reduceSub, Int.reduceToNat, Int.reduceEq, Int.reduceBEq, reduceCtorEq, List.cons.injEq, Int.reduceBNe, Int.sub_zero, decide_true, decide_false, false_and, and_false, Snp.enc, f1])
    refine ends_ret ?_ (by (repeat first | exact HLe.refl _ | refine HLe.set ?_ _ _ | refine HLe.fresh ?_ (hfr [_, _])))
    simp only [go_sem, Nat.reduceEqDiff, ↓reduceIte, reduceIte, Nat.reduceAdd, Nat.reduceMul, Nat.reduceSub, Nat.reduceLeDiff, Nat.reduceBEq, Nat.reduceBNe, Int.reduceNeg, Int.reduceLT, Int.reduceLE, Int.reduceAdd, Int.reduceSub, Int.reduceToNat, Int.reduceEq, Int.reduceBEq, reduceCtorEq, List.cons.injEq, Int.reduceBNe, Int.sub_zero, decide_true, decide_false, false_and, and_false, Try.f8]
  have f1 : decide (s.i < 0) = false := by simpa using c1
  by_cases c2 : s.t < 0
  · have f2 : decide (s.t < 0) = true := by simpa using c2
    repeat (first
      | with_reducible refine W_seq fun K hK => ?_
      | ((with_reducible refine W_reg ?_ ?_); (· rfl); simp only [go_sem, Nat.reduceEqDiff, ↓reduceIte, reduceIte, Nat.reduceAdd, Nat.reduceMul, Nat.reduceSub, Nat.reduceLeDiff, Nat.reduceBEq, Nat.reduceBNe, Int.reduceNeg, Int.reduceLT, Int.reduceLE, Int.reduceAdd, Int.reduceSub, Int.reduceToNat, Int.reduceEq, Int.reduceBEq, reduceCtorEq, List.cons.injEq, Int.reduceBNe, Int.sub_zero, decide_true, decide_false, false_and, and_false, Snp.enc, f1, f2])
      | ((with_reducible refine hK _ ?_); clear hK K)
      | (refine W_skip (hK _ ?_); clear hK K)
      | (refine W_cond rfl (fun hc => ?_) (fun hc => ?_); (· cases hc); clear hc)
      | (refine W_cond rfl (fun hc => ?_) (fun hc => ?_); rotate_left; (· cases hc); clear hc)
      | with_reducible refine W_block ?_
      | ((with_reducible refine W_exit ?_); simp only [go_sem, Nat.reduceEqDiff, ↓reduceIte, reduceIte, Nat.reduceAdd, Nat.reduceMul, Nat.reduceSub, Nat.reduceLeDiff, Nat.reduceBEq, Nat.reduceBNe, Int.reduceNeg, Int.reduceLT, Int.reduceLE, Int.reduceAdd, Int.reduceSub, Int.reduceToNat, Int.reduceEq, Int.reduceBEq, reduceCtorEq, List.cons.injEq, Int.reduceBNe, Int.sub_zero, decide_true, decide_false, false_and, and_false, Snp.enc, f1, f2])
      | ((with_reducible refine W_ret ?_); simp only [go_sem, Nat.reduceEqDiff, ↓reduceIte, reduceIte, Nat.reduceAdd, Nat.reduceMul, Nat.reduceSub, Nat.reduceLeDiff, Nat.reduceBEq, Nat.reduceBNe, Int.reduceNeg, Int.reduceLT, Int.reduceLE, Int.reduceAdd, Int.reduceSub, Int.reduceToNat, Int.reduceEq, Int.reduceBEq, reduceCtorEq, List.cons.injEq, Int.reduceBNe, Int.sub_zero, decide_true, decide_false, false_and, and_false, Snp.enc, f1, f2])
      | (clear hK K; (with_reducible refine hK _ ?_); clear hK K)
      | (clear hK K; clear hK K; (with_reducible refine hK _ ?_); clear hK K)
      | (clear hK K; clear hK K; clear hK K; (with_reducible refine hK _ ?_); clear hK K)
      | refine And.intro (by decide) (And.intro (by decide) ?_)
      | refine And.intro (by omega) ?_
      | simp only [go_sem, Nat.reduceEqDiff, ↓reduceIte, reduceIte, Nat.reduceAdd, Nat.reduceMul, Nat.reduceSub, Nat.reduceLeDiff, Nat.reduceBEq, Nat.reduceBNe, Int.reduceNeg, Int.reduceLT, Int.reduceLE, Int.reduceAdd, Int.reduceSub, Int.reduceToNat, Int.reduceEq, Int.reduceBEq, reduceCtorEq, List.cons.injEq, Int.reduceBNe, Int.sub_zero, decide_true, decide_false, false_and, and_false, Snp.enc, f1, f2])
    refine ends_ret ?_ (by (repeat first | exact HLe.refl _ | refine HLe.set ?_ _ _ | refine HLe.fresh ?_ (hfr [_, _])))
    simp only [go_sem, Nat.reduceEqDiff, ↓reduceIte, reduceIte, Nat.reduceAdd, Nat.reduceMul, Nat.reduceSub, Nat.reduceLeDiff, Nat.reduceBEq, Nat.reduceBNe, Int.reduceNeg, Int.reduceLT, Int.reduceLE, Int.reduceAdd, Int.reduceSub, Int.reduceToNat, Int.reduceEq, Int.reduceBEq, reduceCtorEq, List.cons.injEq, Int.reduceBNe, Int.sub_zero, decide_true, decide_false, false_and, and_false, Try.f8]
  have f2 : decide (s.t < 0) = false := by simpa using c2
  have f3 : decide (goodL s.i s.t (sqL o)) = false := by simp; exact fun h => hbad ⟨by omega, by omega, h⟩
  repeat (first
    | with_reducible refine W_seq fun K hK => ?_
    | ((with_reducible refine W_reg ?_ ?_); (· rfl); simp only [go_sem, Nat.reduceEqDiff, ↓reduceIte, reduceIte, Nat.reduceAdd, Nat.reduceMul, Nat.reduceSub, Nat.reduceLeDiff, Nat.reduceBEq, Nat.reduceBNe, Int.reduceNeg, Int.reduceLT, Int.reduceLE, Int.reduceAdd, Int.reduceSub, Int.reduceToNat, Int.reduceEq, Int.reduceBEq, reduceCtorEq, List.cons.injEq, Int.reduceBNe, Int.sub_zero, decide_true, decide_false, false_and, and_false, Snp.enc, f1, f2])
    | ((with_reducible refine hK _ ?_); clear hK K)
    | (refine W_skip (hK _ ?_); clear hK K)
    | (refine W_cond rfl (fun hc => ?_) (fun hc => ?_); (· cases hc); clear hc)
    | (refine W_cond rfl (fun hc => ?_) (fun hc => ?_); rotate_left; (· cases hc); clear hc)
    | with_reducible refine W_block ?_
    | ((with_reducible refine W_exit ?_); simp only [go_sem, Nat.reduceEqDiff, ↓reduceIte, reduceIte, Nat.reduceAdd, Nat.reduceMul, Nat.reduceSub, Nat.reduceLeDiff, Nat.reduceBEq, Nat.reduceBNe, Int.reduceNeg, Int.reduceLT, Int.reduceLE, Int.reduceAdd, Int.reduceSub, Int.reduceToNat, Int.reduceEq, Int.reduceBEq, reduceCtorEq, List.cons.injEq, Int.reduceBNe, Int.sub_zero, decide_true, decide_false, false_and, and_false, Snp.enc, f1, f2])
    | ((with_reducible refine W_ret ?_); simp only [go_sem, Nat.reduceEqDiff, ↓reduceIte, reduceIte, Nat.reduceAdd, Nat.reduceMul, Nat.reduceSub, Nat.reduceLeDiff, Nat.reduceBEq, Nat.reduceBNe, Int.reduceNeg, Int.reduceLT, Int.reduceLE, Int.reduceAdd, Int.reduceSub, Int.reduceToNat, Int.reduceEq, Int.reduceBEq, reduceCtorEq, List.cons.injEq, Int.reduceBNe, Int.sub_zero, decide_true, decide_false, false_and, and_false, Snp.enc, f1, f2])
    | (clear hK K; (with_reducible refine hK _ ?_); clear hK K)
    | (clear hK K; clear hK K; (with_reducible refine hK _ ?_); clear hK K)
    | (clear hK K; clear hK K; clear hK K; (with_reducible refine hK _ ?_); clear hK K)
    | refine And.intro (by decide) (And.intro (by decide) ?_)
    | refine And.intro (by omega) ?_
    | simp only [go_sem, Nat.reduceEqDiff, ↓reduceIte, reduceIte, Nat.reduceAdd, Nat.reduceMul, Nat.reduceSub, Nat.reduceLeDiff, Nat.reduceBEq, Nat.reduceBNe, Int.reduceNeg, Int.reduceLT, Int.reduceLE, Int.reduceAdd, Int.reduceSub, Int.reduceToNat, Int.reduceEq, Int.reduceBEq, reduceCtorEq, List.cons.injEq, Int.reduceBNe, Int.sub_zero, decide_true, decide_false, false_and, and_false, Snp.enc, f1, f2])
  refine stop_call (f26_ok _ s.i s.t o (by omega) hn hd) ?_ ?_
  · first | trivial | (simp only [go_sem, Nat.reduceEqDiff, ↓reduceIte, reduceIte, Nat.reduceAdd, Nat.reduceMul, Nat.reduceSub, Nat.reduceLeDiff, Nat.reduceBEq, Nat.reduceBNe, Int.reduceNeg, Int.reduceLT, Int.reduceLE, Int.reduceAdd, Int.reduceSub, Int.reduceToNat, Int.reduceEq, Int.reduceBEq, reduceCtorEq, List.cons.injEq, Int.reduceBNe, Int.sub_zero, decide_true, decide_false, false_and, and_false]; done)
  repeat (first
    | with_reducible refine W_seq fun K hK => ?_
    | ((with_reducible refine W_reg ?_ ?_); (· rfl); simp only [go_sem, Nat.reduceEqDiff, ↓reduceIte, reduceIte, Nat.reduceAdd, Nat.reduceMul, Nat.reduceSub, Nat.reduceLeDiff, Nat.reduceBEq, Nat.reduceBNe, Int.reduceNeg, Int.reduceLT, Int.reduceLE, Int.reduceAdd, Int.reduceSub, Int.reduceToNat, Int.reduceEq, Int.reduceBEq, reduceCtorEq, List.cons.injEq, Int.reduceBNe, Int.sub_zero, decide_true, decide_false, false_and, and_false, f3])
    | ((with_reducible refine hK _ ?_); clear hK K)
    | (refine W_skip (hK _ ?_); clear hK K)
    | (refine W_cond rfl (fun hc => ?_) (fun hc => ?_); (· cases hc); clear hc)
    | (refine W_cond rfl (fun hc => ?_) (fun hc => ?_); rotate_left; (· cases hc); clear hc)
    | with_reducible refine W_block ?_
    | ((with_reducible refine W_exit ?_); simp only [go_sem, Nat.reduceEqDiff, ↓reduceIte, reduceIte, Nat.reduceAdd, Nat.reduceMul, Nat.reduceSub, Nat.reduceLeDiff, Nat.reduceBEq, Nat.reduceBNe, Int.reduceNeg, Int.reduceLT, Int.reduceLE, Int.reduceAdd, Int.reduceSub, Int.reduceToNat, Int.reduceEq, Int.reduceBEq, reduceCtorEq, List.cons.injEq, Int.reduceBNe, Int.sub_zero, decide_true, decide_false, false_and, and_false, f3])
    | ((with_reducible refine W_ret ?_); simp only [go_sem, Nat.reduceEqDiff, ↓reduceIte, reduceIte, Nat.reduceAdd, Nat.reduceMul, Nat.reduceSub, Nat.reduceLeDiff, Nat.reduceBEq, Nat.reduceBNe, Int.reduceNeg, Int.reduceLT, Int.reduceLE, Int.reduceAdd, Int.reduceSub, Int.reduceToNat, Int.reduceEq, Int.reduceBEq, reduceCtorEq, List.cons.injEq, Int.reduceBNe, Int.sub_zero, decide_true, decide_false, false_and, and_false, f3])
    | (clear hK K; (with_reducible refine hK _ ?_); clear hK K)
    | (clear hK K; clear hK K; (with_reducible refine hK _ ?_); clear hK K)
    | (clear hK K; clear hK K; clear hK K; (with_reducible refine hK _ ?_); clear hK K)
    | refine And.intro (by decide) (And.intro (by decide) ?_)
    | refine And.intro (by omega) ?_
    | simp only [go_sem, Nat.reduceEqDiff, ↓reduceIte, reduceIte, Nat.reduceAdd, Nat.reduceMul, Nat.reduceSub, Nat.reduceLeDiff, Nat.reduceBEq, Nat.reduceBNe, Int.reduceNeg, Int.reduceLT, Int.reduceLE, Int.reduceAdd, Int.reduceSub, Int.reduceToNat, Int.reduceEq, Int.reduceBEq, reduceCtorEq, List.cons.injEq, Int.reduceBNe, Int.sub_zero, decide_true, decide_false, false_and, and_false, f3])
  refine ends_ret ?_ (by (repeat first | exact HLe.refl _ | refine HLe.set ?_ _ _ | refine HLe.fresh ?_ (hfr [_, _])))
  simp only [go_sem, Nat.reduceEqDiff, ↓reduceIte, reduceIte, Nat.reduceAdd, Nat.reduceMul, Nat.reduceSub, Nat.reduceLeDiff, Nat.reduceBEq, Nat.reduceBNe, Int.reduceNeg, Int.reduceLT, Int.reduceLE, Int.reduceAdd, Int.reduceSub, Int.reduceToNat, Int.reduceEq, Int.reduceBEq, reduceCtorEq, List.cons.injEq, Int.reduceBNe, Int.sub_zero, decide_true, decide_false, false_and, and_false, Try.f8]
open Classical in
theorem f8_ok (id : BId) (s : Snp) (o : Option (List Ent)) (hi : s.i ≤ 4611686018427387904) (hn : (sqL o).length ≤ 1000) (hd : ∀ e ∈ sqL o, (sqL e.d).length ≤ 1000) (hgood : newOk s (sqL o)) :
    CallF Try.prog 8 [.agg s.enc, sq Ent.enc o] id [] (.ptr (4 :: 2 :: id) 0) [(4 :: 2 :: id, some (.cells 57 (lgC s (ne (sqL o)))))] := by
  refine ⟨⟨_, Try.func8, by decide, rfl⟩, (by simp <;> repeat first | exact ⟨[_, _], rfl⟩ | constructor), fun h hr => callsA_of_W Try.func8 rfl fun hfr => ?_⟩
  obtain ⟨g1, g2, g3⟩ := hgood
  have f1 : decide (s.i < 0) = false := by simpa using g1
  have f2 : decide (s.t < 0) = false := by simpa using g2
  have f3 : decide (goodL s.i s.t (sqL o)) = true := by simpa using g3
  repeat (first
    | with_reducible refine W_seq fun K hK => ?_
    | ((with_reducible refine W_reg ?_ ?_); (· rfl); simp only [go_sem, Nat.reduceEqDiff, ↓reduceIte, reduceIte, Nat.reduceAdd, Nat.reduceMul, Nat.reduceSub, Nat.reduceLeDiff, Nat.reduceBEq, Nat.reduceBNe, Int.reduceNeg, Int.reduceLT, Int.reduceLE, Int.reduceAdd, Int.reduceSub, Int.reduceToNat, Int.reduceEq, Int.reduceBEq, reduceCtorEq, List.cons.injEq, Int.reduceBNe, Int.sub_zero, decide_true, decide_false, false_and, and_false, Snp.enc, f1, f2])
    | ((with_reducible refine hK _ ?_); clear hK K)
    | (refine W_skip (hK _ ?_); clear hK K)
    | (refine W_cond rfl (fun hc => ?_) (fun hc => ?_); (· cases hc); clear hc)
    | (refine W_cond rfl (fun hc => ?_) (fun hc => ?_); rotate_left; (· cases hc); clear hc)
    | with_reducible refine W_block ?_
    | ((with_reducible refine W_exit ?_); simp only [go_sem, Nat.reduceEqDiff, ↓reduceIte, reduceIte, Nat.reduceAdd, Nat.reduceMul, Nat.reduceSub, Nat.reduceLeDiff, Nat.reduceBEq, Nat.reduceBNe, Int.reduceNeg, Int.reduceLT, Int.reduceLE, Int.reduceAdd, Int.reduceSub, Int.reduceToNat, Int.reduceEq, Int.reduceBEq, reduceCtorEq, List.cons.injEq, Int.reduceBNe, Int.sub_zero, decide_true, decide_false, false_and, and_false, Snp.enc, f1, f2])
    | ((with_reducible refine W_ret ?_); simp only [go_sem, Nat.reduceEqDiff, ↓reduceIte, reduceIte, Nat.reduceAdd, Nat.reduceMul, Nat.reduceSub, Nat.reduceLeDiff, Nat.reduceBEq, Nat.reduceBNe, Int.reduceNeg, Int.reduceLT, Int.reduceLE, Int.reduceAdd, Int.reduceSub, Int.reduceToNat, Int.reduceEq, Int.reduceBEq, reduceCtorEq, List.cons.injEq, Int.reduceBNe, Int.sub_zero, decide_true, decide_false, false_and, and_false, Snp.enc, f1, f2])
    | (clear hK K; (with_reducible refine hK _ ?_); clear hK K)
    | (clear hK K; clear hK K; (with_reducible refine hK _ ?_); clear hK K)
    | (clear hK K; clear hK K; clear hK K; (with_reducible refine hK _ ?_); clear hK K)
    | refine And.intro (by decide) (And.intro (by decide) ?_)
    | refine And.intro (by omega) ?_
    | simp only [go_sem, Nat.reduceEqDiff, ↓reduceIte, reduceIte, Nat.reduceAdd, Nat.reduceMul, Nat.reduceSub, Nat.reduceLeDiff, Nat.reduceBEq, Nat.reduceBNe, Int.reduceNeg, Int.reduceLT, Int.reduceLE, Int.reduceAdd, Int.reduceSub, Int.reduceToNat, Int.reduceEq, Int.reduceBEq, reduceCtorEq, List.cons.injEq, Int.reduceBNe, Int.sub_zero, decide_true, decide_false, false_and, and_false, Snp.enc, f1, f2])
  refine stop_call (f26_ok _ s.i s.t o (by omega) hn hd) ?_ ?_
  · first | trivial | (simp only [go_sem, Nat.reduceEqDiff, ↓reduceIte, reduceIte, Nat.reduceAdd, Nat.reduceMul, Nat.reduceSub, Nat.reduceLeDiff, Nat.reduceBEq, Nat.reduceBNe, Int.reduceNeg, Int.reduceLT, Int.reduceLE, Int.reduceAdd, Int.reduceSub, Int.reduceToNat, Int.reduceEq, Int.reduceBEq, reduceCtorEq, List.cons.injEq, Int.reduceBNe, Int.sub_zero, decide_true, decide_false, false_and, and_false]; done)
  repeat (first
    | with_reducible refine W_seq fun K hK => ?_
    | ((with_reducible refine W_reg ?_ ?_); (· rfl); simp only [go_sem, Nat.reduceEqDiff, ↓reduceIte, reduceIte, Nat.reduceAdd, Nat.reduceMul, Nat.reduceSub, Nat.reduceLeDiff, Nat.reduceBEq, Nat.reduceBNe, Int.reduceNeg, Int.reduceLT, Int.reduceLE, Int.reduceAdd, Int.reduceSub, Int.reduceToNat, Int.reduceEq, Int.reduceBEq, reduceCtorEq, List.cons.injEq, Int.reduceBNe, Int.sub_zero, decide_true, decide_false, false_and, and_false, f3])
    | ((with_reducible refine hK _ ?_); clear hK K)
    | (refine W_skip (hK _ ?_); clear hK K)
    | (refine W_cond rfl (fun hc => ?_) (fun hc => ?_); (· cases hc); clear hc)
    | (refine W_cond rfl (fun hc => ?_) (fun hc => ?_); rotate_left; (· cases hc); clear hc)
    | with_reducible refine W_block ?_
    | ((with_reducible refine W_exit ?_); simp only [go_sem, Nat.reduceEqDiff, ↓reduceIte, reduceIte, Nat.reduceAdd, Nat.reduceMul, Nat.reduceSub, Nat.reduceLeDiff, Nat.reduceBEq, Nat.reduceBNe, Int.reduceNeg, Int.reduceLT, Int.reduceLE, Int.reduceAdd, Int.reduceSub, Int.reduceToNat, Int.reduceEq, Int.reduceBEq, reduceCtorEq, List.cons.injEq, Int.reduceBNe, Int.sub_zero, decide_true, decide_false, false_and, and_false, f3])
    | ((with_reducible refine W_ret ?_); simp only [go_sem, Nat.reduceEqDiff, ↓reduceIte, reduceIte, Nat.reduceAdd, Nat.reduceMul, Nat.reduceSub, Nat.reduceLeDiff, Nat.reduceBEq, Nat.reduceBNe, Int.reduceNeg, Int.reduceLT, Int.reduceLE, Int.reduceAdd, Int.reduceSub, Int.reduceToNat, Int.reduceEq, Int.reduceBEq, reduceCtorEq, List.cons.injEq, Int.reduceBNe, Int.sub_zero, decide_true, decide_false, false_and, and_false, f3])
    | (clear hK K; (with_reducible refine hK _ ?_); clear hK K)
    | (clear hK K; clear hK K; (with_reducible refine hK _ ?_); clear hK K)
    | (clear hK K; clear hK K; clear hK K; (with_reducible refine hK _ ?_); clear hK K)
    | refine And.intro (by decide) (And.intro (by decide) ?_)
    | refine And.intro (by omega) ?_
    | simp only [go_sem, Nat.reduceEqDiff, ↓reduceIte, reduceIte, Nat.reduceAdd, Nat.reduceMul, Nat.reduceSub, Nat.reduceLeDiff, Nat.reduceBEq, Nat.reduceBNe, Int.reduceNeg, Int.reduceLT, Int.reduceLE, Int.reduceAdd, Int.reduceSub, Int.reduceToNat, Int.reduceEq, Int.reduceBEq, reduceCtorEq, List.cons.injEq, Int.reduceBNe, Int.sub_zero, decide_true, decide_false, false_and, and_false, f3])
  refine W_drw [[], [], [1], [0, 1, 2], [0, 1, 2, 3], [0, 1, 2, 3, 4]] follows_mixed (by rfl) (by rfl) ?_
  simp only [go_sem, Nat.reduceEqDiff, ↓reduceIte, reduceIte, Nat.reduceAdd, Nat.reduceMul, Nat.reduceSub, Nat.reduceLeDiff, Nat.reduceBEq, Nat.reduceBNe, Int.reduceNeg, Int.reduceLT, Int.reduceLE, Int.reduceAdd, Int.reduceSub, Int.reduceToNat, Int.reduceEq, Int.reduceBEq, reduceCtorEq, List.cons.injEq, Int.reduceBNe, Int.sub_zero, decide_true, decide_false, false_and, and_false]
  refine stopD_append_nil 44 4 48 o ty26.2.2.2.1 ty44.2.1 ty44.2.2.1 (by simp only [go_sem, Nat.reduceEqDiff, ↓reduceIte, reduceIte, Nat.reduceAdd, Nat.reduceMul, Nat.reduceSub, Nat.reduceLeDiff, Nat.reduceBEq, Nat.reduceBNe, Int.reduceNeg, Int.reduceLT, Int.reduceLE, Int.reduceAdd, Int.reduceSub, Int.reduceToNat, Int.reduceEq, Int.reduceBEq, reduceCtorEq, List.cons.injEq, Int.reduceBNe, Int.sub_zero, decide_true, decide_false, false_and, and_false] <;> rfl) Ent.enc_len rfl rfl (by simp only [go_sem, Nat.reduceEqDiff, ↓reduceIte, reduceIte, Nat.reduceAdd, Nat.reduceMul, Nat.reduceSub, Nat.reduceLeDiff, Nat.reduceBEq, Nat.reduceBNe, Int.reduceNeg, Int.reduceLT, Int.reduceLE, Int.reduceAdd, Int.reduceSub, Int.reduceToNat, Int.reduceEq, Int.reduceBEq, reduceCtorEq, List.cons.injEq, Int.reduceBNe, Int.sub_zero, decide_true, decide_false, false_and, and_false] <;> rfl) (by omega) (by unfold maxLen; omega) ?_
  repeat (first
    | with_reducible refine W_seq fun K hK => ?_
    | ((with_reducible refine W_reg ?_ ?_); (· rfl); simp only [go_sem, Nat.reduceEqDiff, ↓reduceIte, reduceIte, Nat.reduceAdd, Nat.reduceMul, Nat.reduceSub, Nat.reduceLeDiff, Nat.reduceBEq, Nat.reduceBNe, Int.reduceNeg, Int.reduceLT, Int.reduceLE, Int.reduceAdd, Int.reduceSub, Int.reduceToNat, Int.reduceEq, Int.reduceBEq, reduceCtorEq, List.cons.injEq, Int.reduceBNe, Int.sub_zero, decide_true, decide_false, false_and, and_false])
    | ((with_reducible refine hK _ ?_); clear hK K)
    | (refine W_skip (hK _ ?_); clear hK K)
    | (refine W_cond rfl (fun hc => ?_) (fun hc => ?_); (· cases hc); clear hc)
    | (refine W_cond rfl (fun hc => ?_) (fun hc => ?_); rotate_left; (· cases hc); clear hc)
    | with_reducible refine W_block ?_
    | ((with_reducible refine W_exit ?_); simp only [go_sem, Nat.reduceEqDiff, ↓reduceIte, reduceIte, Nat.reduceAdd, Nat.reduceMul, Nat.reduceSub, Nat.reduceLeDiff, Nat.reduceBEq, Nat.reduceBNe, Int.reduceNeg, Int.reduceLT, Int.reduceLE, Int.reduceAdd, Int.reduceSub, Int.reduceToNat, Int.reduceEq, Int.reduceBEq, reduceCtorEq, List.cons.injEq, Int.reduceBNe, Int.sub_zero, decide_true, decide_false, false_and, and_false])
    | ((with_reducible refine W_ret ?_); simp only [go_sem, Nat.reduceEqDiff, ↓reduceIte, reduceIte, Nat.reduceAdd, Nat.reduceMul, Nat.reduceSub, Nat.reduceLeDiff, Nat.reduceBEq, Nat.reduceBNe, Int.reduceNeg, Int.reduceLT, Int.reduceLE, Int.reduceAdd, Int.reduceSub, Int.reduceToNat, Int.reduceEq, Int.reduceBEq, reduceCtorEq, List.cons.injEq, Int.reduceBNe, Int.sub_zero, decide_true, decide_false, false_and, and_false])
    | (clear hK K; (with_reducible refine hK _ ?_); clear hK K)
    | (clear hK K; clear hK K; (with_reducible refine hK _ ?_); clear hK K)
    | (clear hK K; clear hK K; clear hK K; (with_reducible refine hK _ ?_); clear hK K)
    | refine And.intro (by decide) (And.intro (by decide) ?_)
    | refine And.intro (by omega) ?_
    | simp only [go_sem, Nat.reduceEqDiff, ↓reduceIte, reduceIte, Nat.reduceAdd, Nat.reduceMul, Nat.reduceSub, Nat.reduceLeDiff, Nat.reduceBEq, Nat.reduceBNe, Int.reduceNeg, Int.reduceLT, Int.reduceLE, Int.reduceAdd, Int.reduceSub, Int.reduceToNat, Int.reduceEq, Int.reduceBEq, reduceCtorEq, List.cons.injEq, Int.reduceBNe, Int.sub_zero, decide_true, decide_false, false_and, and_false])
  refine ends_ret ?_ (by (repeat first | exact HLe.refl _ | refine HLe.set ?_ _ _ | refine HLe.fresh ?_ (hfr [_, _])))
  simp only [go_sem, Nat.reduceEqDiff, ↓reduceIte, reduceIte, Nat.reduceAdd, Nat.reduceMul, Nat.reduceSub, Nat.reduceLeDiff, Nat.reduceBEq, Nat.reduceBNe, Int.reduceNeg, Int.reduceLT, Int.reduceLE, Int.reduceAdd, Int.reduceSub, Int.reduceToNat, Int.reduceEq, Int.reduceBEq, reduceCtorEq, List.cons.injEq, Int.reduceBNe, Int.sub_zero, decide_true, decide_false, false_and, and_false, Try.f8]

open Classical in
theorem f7_bad (id : BId) (s : Snp) (o : Option (List Ent)) (hi : s.i ≤ 4611686018427387904) (hn : (sqL o).length ≤ 1000) (hd : ∀ e ∈ sqL o, (sqL e.d).length ≤ 1000) (hbad : ¬ newOk s (sqL o)) :
    CallF Try.prog 7 [.agg s.enc, sq Ent.enc o] id [] (.p (.pointer none)) [] := by
  refine ⟨⟨_, Try.func7, by decide, rfl⟩, (by simp <;> repeat first | exact ⟨[_, _], rfl⟩ | constructor), fun h hr => callsA_of_W Try.func7 rfl fun hfr => ?_⟩
  by_cases c1 : s.i < 0
  · have f1 : decide (s.i < 0) = true := by simpa using c1
    repeat (first
      | with_reducible refine W_seq fun K hK => ?_
      | ((with_reducible refine W_reg ?_ ?_); (· rfl); simp only [go_sem, Nat.reduceEqDiff, ↓reduceIte, reduceIte, Nat.reduceAdd, Nat.reduceMul, Nat.reduceSub, Nat.reduceLeDiff, Nat.reduceBEq, Nat.reduceBNe, Int.reduceNeg, Int.reduceLT, Int.reduceLE, Int.reduceAdd, Int.reduceSub, Int.reduceToNat, Int.reduceEq, Int.reduceBEq, reduceCtorEq, List.cons.injEq, Int.reduceBNe, Int.sub_zero, decide_true, decide_false, false_and, and_false, Snp.enc, f1])
      | ((with_reducible refine hK _ ?_); clear hK K)
      | (refine W_skip (hK _ ?_); clear hK K)
      | (refine W_cond rfl (fun hc => ?_) (fun hc => ?_); (· cases hc); clear hc)
      | (refine W_cond rfl (fun hc => ?_) (fun hc => ?_); rotate_left; (· cases hc); clear hc)
      | with_reducible refine W_block ?_
      | ((with_reducible refine W_exit ?_); simp only [go_sem, Nat.reduceEqDiff, ↓reduceIte, reduceIte, Nat.reduceAdd, Nat.reduceMul, Nat.reduceSub, Nat.reduceLeDiff, Nat.reduceBEq, Nat.reduceBNe, Int.reduceNeg, Int.reduceLT, Int.reduceLE, Int.reduceAdd, Int.reduceSub, Int.reduceToNat, Int.reduceEq, Int.reduceBEq, reduceCtorEq, List.cons.injEq, Int.reduceBNe, Int.sub_zero, decide_true, decide_false, false_and, and_false, Snp.enc, f1])
      | ((with_reducible refine W_ret ?_); simp only [go_sem, Nat.reduceEqDiff, ↓reduceIte, reduceIte, Nat.reduceAdd, Nat.reduceMul, Nat.reduceSub, Nat.reduceLeDiff, Nat.reduceBEq, Nat.reduceBNe, Int.reduceNeg, Int.reduceLT, Int.reduceLE, Int.reduceAdd, Int.reduceSub, Int.reduceToNat, Int.reduceEq, Int.reduceBEq, reduceCtorEq, List.cons.injEq, Int.reduceBNe, Int.sub_zero, decide_true, decide_false, false_and, and_false, Snp.enc, f1])
      | (clear hK K; (with_reducible refine hK _ ?_); clear hK K)
      | (clear hK K; clear hK K; (with_reducible refine hK _ ?_); clear hK K)
      | (clear hK K; clear hK K; clear hK K; (with_reducible refine hK _ ?_); clear hK K)
      | refine And.intro (by decide) (And.intro (by decide) ?_)
      | refine And.intro (by omega) ?_
      | simp only [go_sem, Nat.reduceEqDiff, ↓reduceIte, reduceIte, Nat.reduceAdd, Nat.reduceMul, Nat.reduceSub, Nat.reduceLeDiff, Nat.reduceBEq, Nat.reduceBNe, Int.reduceNeg, Int.reduceLT, Int.reduceLE, Int.reduceAdd, Int.reduceSub, Int.reduceToNat, Int.reduceEq, Int.reduceBEq, reduceCtorEq, List.cons.injEq, Int.reduceBNe, Int.sub_zero, decide_true, decide_false, false_and, and_false, Snp.enc, f1])
    refine ends_ret ?_ (by (repeat first | exact HLe.refl _ | refine HLe.set ?_ _ _ | refine HLe.fresh ?_ (hfr [_, _])))
    simp only [go_sem, Nat.reduceEqDiff, ↓reduceIte, reduceIte, Nat.reduceAdd, Nat.reduceMul, Nat.reduceSub, Nat.reduceLeDiff, Nat.reduceBEq, Nat.reduceBNe, Int.reduceNeg, Int.reduceLT, Int.reduceLE, Int.reduceAdd, Int.reduceSub, Int.reduceToNat, Int.reduceEq, Int.reduceBEq, reduceCtorEq, List.cons.injEq, Int.reduceBNe, Int.sub_zero, decide_true, decide_false, false_and, and_false, Try.f7]
  have f1 : decide (s.i < 0) = false := by simpa using c1
  by_cases c2 : s.t < 0
  · have f2 : decide (s.t < 0) = true := by simpa using c2
    repeat (first
      | with_reducible refine W_seq fun K hK => ?_
      | ((with_reducible refine W_reg ?_ ?_); (· rfl); simp only [go_sem, Nat.reduceEqDiff, ↓reduceIte, reduceIte, Nat.reduceAdd, Nat.reduceMul, Nat.reduceSub, Nat.reduceLeDiff, Nat.reduceBEq, Nat.reduceBNe, Int.reduceNeg, Int.reduceLT, Int.reduceLE, Int.reduceAdd, Int.reduceSub, Int.reduceToNat, Int.reduceEq, Int.reduceBEq, reduceCtorEq, List.cons.injEq, Int.reduceBNe, Int.sub_zero, decide_true, decide_false, false_and, and_false, Snp.enc, f1, f2])
      | ((with_reducible refine hK _ ?_); clear hK K)
      | (refine W_skip (hK _ ?_); clear hK K)
      | (refine W_cond rfl (fun hc => ?_) (fun hc => ?_); (· cases hc); clear hc)
      | (refine W_cond rfl (fun hc => ?_) (fun hc => ?_); rotate_left; (· cases hc); clear hc)
      | with_reducible refine W_block ?_
      | ((with_reducible refine W_exit ?_); simp only [go_sem, Nat.reduceEqDiff, ↓reduceIte, reduceIte, Nat.reduceAdd, Nat.reduceMul, Nat.reduceSub, Nat.reduceLeDiff, Nat.reduceBEq, Nat.reduceBNe, Int.reduceNeg, Int.reduceLT, Int.reduceLE, Int.reduceAdd, Int.reduceSub, Int.reduceToNat, Int.reduceEq, Int.reduceBEq, reduceCtorEq, List.cons.injEq, Int.reduceBNe, Int.sub_zero, decide_true, decide_false, false_and, and_false, Snp.enc, f1, f2])
      | ((with_reducible refine W_ret ?_); simp only [go_sem, Nat.reduceEqDiff, ↓reduceIte, reduceIte, Nat.reduceAdd, Nat.reduceMul, Nat.reduceSub, Nat.reduceLeDiff, Nat.reduceBEq, Nat.reduceBNe, Int.reduceNeg, Int.reduceLT, Int.reduceLE, Int.reduceAdd, Int.reduceSub, Int.reduceToNat, Int.reduceEq, Int.reduceBEq, reduceCtorEq, List.cons.injEq, Int.reduceBNe, Int.sub_zero, decide_true, decide_false, false_and, and_false, Snp.enc, f1, f2])
      | (clear hK K; (with_reducible refine hK _ ?_); clear hK K)
      | (clear hK K; clear hK K; (with_reducible refine hK _ ?_); clear hK K)
      | (clear hK K; clear hK K; clear hK K; (with_reducible refine hK _ ?_); clear hK K)
      | refine And.intro (by decide) (And.intro (by decide) ?_)
      | refine And.intro (by omega) ?_
      | simp only [go_sem, Nat.reduceEqDiff, ↓reduceIte, reduceIte, Nat.reduceAdd, Nat.reduceMul, Nat.reduceSub, Nat.reduceLeDiff, Nat.reduceBEq, Nat.reduceBNe, Int.reduceNeg, Int.reduceLT, Int.reduceLE, Int.reduceAdd, Int.reduceSub, Int.reduceToNat, Int.reduceEq, Int.reduceBEq, reduceCtorEq, List.cons.injEq, Int.reduceBNe, Int.sub_zero, decide_true, decide_false, false_and, and_false, Snp.enc, f1, f2])
    refine ends_ret ?_ (by (repeat first | exact HLe.refl _ | refine HLe.set ?_ _ _ | refine HLe.fresh ?_ (hfr [_, _])))
    simp only [go_sem, Nat.reduceEqDiff, ↓reduceIte, reduceIte, Nat.reduceAdd, Nat.reduceMul, Nat.reduceSub, Nat.reduceLeDiff, Nat.reduceBEq, Nat.reduceBNe, Int.reduceNeg, Int.reduceLT, Int.reduceLE, Int.reduceAdd, Int.reduceSub, Int.reduceToNat, Int.reduceEq, Int.reduceBEq, reduceCtorEq, List.cons.injEq, Int.reduceBNe, Int.sub_zero, decide_true, decide_false, false_and, and_false, Try.f7]
  have f2 : decide (s.t < 0) = false := by simpa using c2
  have f3 : decide (goodL s.i s.t (sqL o)) = false := by simp; exact fun h => hbad ⟨by omega, by omega, h⟩
  repeat (first
    | with_reducible refine W_seq fun K hK => ?_
    | ((with_reducible refine W_reg ?_ ?_); (· rfl); simp only [go_sem, Nat.reduceEqDiff, ↓reduceIte, reduceIte, Nat.reduceAdd, Nat.reduceMul, Nat.reduceSub, Nat.reduceLeDiff, Nat.reduceBEq, Nat.reduceBNe, Int.reduceNeg, Int.reduceLT, Int.reduceLE, Int.reduceAdd, Int.reduceSub, Int.reduceToNat, Int.reduceEq, Int.reduceBEq, reduceCtorEq, List.cons.injEq, Int.reduceBNe, Int.sub_zero, decide_true, decide_false, false_and, and_false, Snp.enc, f1, f2])
    | ((with_reducible refine hK _ ?_); clear hK K)
    | (refine W_skip (hK _ ?_); clear hK K)
    | (refine W_cond rfl (fun hc => ?_) (fun hc => ?_); (· cases hc); clear hc)
    | (refine W_cond rfl (fun hc => ?_) (fun hc => ?_); rotate_left; (· cases hc); clear hc)
    | with_reducible refine W_block ?_
    | ((with_reducible refine W_exit ?_); simp only [go_sem, Nat.reduceEqDiff, ↓reduceIte, reduceIte, Nat.reduceAdd, Nat.reduceMul, Nat.reduceSub, Nat.reduceLeDiff, Nat.reduceBEq, Nat.reduceBNe, Int.reduceNeg, Int.reduceLT, Int.reduceLE, Int.reduceAdd, Int.reduceSub, Int.reduceToNat, Int.reduceEq, Int.reduceBEq, reduceCtorEq, List.cons.injEq, Int.reduceBNe, Int.sub_zero, decide_true, decide_false, false_and, and_false, Snp.enc, f1, f2])
    | ((with_reducible refine W_ret ?_); simp only [go_sem, Nat.reduceEqDiff, ↓reduceIte, reduceIte, Nat.reduceAdd, Nat.reduceMul, Nat.reduceSub, Nat.reduceLeDiff, Nat.reduceBEq, Nat.reduceBNe, Int.reduceNeg, Int.reduceLT, Int.reduceLE, Int.reduceAdd, Int.reduceSub, Int.reduceToNat, Int.reduceEq, Int.reduceBEq, reduceCtorEq, List.cons.injEq, Int.reduceBNe, Int.sub_zero, decide_true, decide_false, false_and, and_false, Snp.enc, f1, f2])
    | (clear hK K; (with_reducible refine hK _ ?_); clear hK K)
    | (clear hK K; clear hK K; (with_reducible refine hK _ ?_); clear hK K)
    | (clear hK K; clear hK K; clear hK K; (with_reducible refine hK _ ?_); clear hK K)
    | refine And.intro (by decide) (And.intro (by decide) ?_)
    | refine And.intro (by omega) ?_
    | simp only [go_sem, Nat.reduceEqDiff, ↓reduceIte, reduceIte, Nat.reduceAdd, Nat.reduceMul, Nat.reduceSub, Nat.reduceLeDiff, Nat.reduceBEq, Nat.reduceBNe, Int.reduceNeg, Int.reduceLT, Int.reduceLE, Int.reduceAdd, Int.reduceSub, Int.reduceToNat, Int.reduceEq, Int.reduceBEq, reduceCtorEq, List.cons.injEq, Int.reduceBNe, Int.sub_zero, decide_true, decide_false, false_and, and_false, Snp.enc, f1, f2])
  refine stop_call (f23_ok _ s.i s.t o (by omega) hn hd) ?_ ?_
  · first | trivial | (simp only [go_sem, Nat.reduceEqDiff, ↓reduceIte, reduceIte, Nat.reduceAdd, Nat.reduceMul, Nat.reduceSub, Nat.reduceLeDiff, Nat.reduceBEq, Nat.reduceBNe, Int.reduceNeg, Int.reduceLT, Int.reduceLE, Int.reduceAdd, Int.reduceSub, Int.reduceToNat, Int.reduceEq, Int.reduceBEq, reduceCtorEq, List.cons.injEq, Int.reduceBNe, Int.sub_zero, decide_true, decide_false, false_and, and_false]; done)
  repeat (first
    | with_reducible refine W_seq fun K hK => ?_
    | ((with_reducible refine W_reg ?_ ?_); (· rfl); simp only [go_sem, Nat.reduceEqDiff, ↓reduceIte, reduceIte, Nat.reduceAdd, Nat.reduceMul, Nat.reduceSub, Nat.reduceLeDiff, Nat.reduceBEq, Nat.reduceBNe, Int.reduceNeg, Int.reduceLT, Int.reduceLE, Int.reduceAdd, Int.reduceSub, Int.reduceToNat, Int.reduceEq, Int.reduceBEq, reduceCtorEq, List.cons.injEq, Int.reduceBNe, Int.sub_zero, decide_true, decide_false, false_and, and_false, f3])
    | ((with_reducible refine hK _ ?_); clear hK K)
    | (refine W_skip (hK _ ?_); clear hK K)
    | (refine W_cond rfl (fun hc => ?_) (fun hc => ?_); (· cases hc); clear hc)
    | (refine W_cond rfl (fun hc => ?_) (fun hc => ?_); rotate_left; (· cases hc); clear hc)
    | with_reducible refine W_block ?_
    | ((with_reducible refine W_exit ?_); simp only [go_sem, Nat.reduceEqDiff, ↓reduceIte, reduceIte, Nat.reduceAdd, Nat.reduceMul, Nat.reduceSub, Nat.reduceLeDiff, Nat.reduceBEq, Nat.reduceBNe, Int.reduceNeg, Int.reduceLT, Int.reduceLE, Int.reduceAdd, Int.reduceSub, Int.reduceToNat, Int.reduceEq, Int.reduceBEq, reduceCtorEq, List.cons.injEq, Int.reduceBNe, Int.sub_zero, decide_true, decide_false, false_and, and_false, f3])
    | ((with_reducible refine W_ret ?_); simp only [go_sem, Nat.reduceEqDiff, ↓reduceIte, reduceIte, Nat.reduceAdd, Nat.reduceMul, Nat.reduceSub, Nat.reduceLeDiff, Nat.reduceBEq, Nat.reduceBNe, Int.reduceNeg, Int.reduceLT, Int.reduceLE, Int.reduceAdd, Int.reduceSub, Int.reduceToNat, Int.reduceEq, Int.reduceBEq, reduceCtorEq, List.cons.injEq, Int.reduceBNe, Int.sub_zero, decide_true, decide_false, false_and, and_false, f3])
    | (clear hK K; (with_reducible refine hK _ ?_); clear hK K)
    | (clear hK K; clear hK K; (with_reducible refine hK _ ?_); clear hK K)
    | (clear hK K; clear hK K; clear hK K; (with_reducible refine hK _ ?_); clear hK K)
    | refine And.intro (by decide) (And.intro (by decide) ?_)
    | refine And.intro (by omega) ?_
    | simp only [go_sem, Nat.reduceEqDiff, ↓reduceIte, reduceIte, Nat.reduceAdd, Nat.reduceMul, Nat.reduceSub, Nat.reduceLeDiff, Nat.reduceBEq, Nat.reduceBNe, Int.reduceNeg, Int.reduceLT, Int.reduceLE, Int.reduceAdd, Int.reduceSub, Int.reduceToNat, Int.reduceEq, Int.reduceBEq, reduceCtorEq, List.cons.injEq, Int.reduceBNe, Int.sub_zero, decide_true, decide_false, false_and, and_false, f3])
  refine ends_ret ?_ (by (repeat first | exact HLe.refl _ | refine HLe.set ?_ _ _ | refine HLe.fresh ?_ (hfr [_, _])))
  simp only [go_sem, Nat.reduceEqDiff, ↓reduceIte, reduceIte, Nat.reduceAdd, Nat.reduceMul, Nat.reduceSub, Nat.reduceLeDiff, Nat.reduceBEq, Nat.reduceBNe, Int.reduceNeg, Int.reduceLT, Int.reduceLE, Int.reduceAdd, Int.reduceSub, Int.reduceToNat, Int.reduceEq, Int.reduceBEq, reduceCtorEq, List.cons.injEq, Int.reduceBNe, Int.sub_zero, decide_true, decide_false, false_and, and_false, Try.f7]

open Classical in
theorem f7_ok (id : BId) (s : Snp) (o : Option (List Ent)) (hi : s.i ≤ 4611686018427387904) (hn : (sqL o).length ≤ 1000) (hd : ∀ e ∈ sqL o, (sqL e.d).length ≤ 1000) (hsd : (sqL s.d).length ≤ 1000) (hsc : (sqL s.c).length ≤ 1000) (hgood : newOk s (sqL o)) :
    CallF Try.prog 7 [.agg s.enc, sq Ent.enc o] id [] (.ptr (3 :: 2 :: id) 0) [(3 :: 2 :: id, some (.cells 53 (lgC s (ne (sqL o)))))] := by
  refine ⟨⟨_, Try.func7, by decide, rfl⟩, (by simp <;> repeat first | exact ⟨[_, _], rfl⟩ | constructor), fun h hr => callsA_of_W Try.func7 rfl fun hfr => ?_⟩
  obtain ⟨g1, g2, g3⟩ := hgood
  have f1 : decide (s.i < 0) = false := by simpa using g1
  have f2 : decide (s.t < 0) = false := by simpa using g2
  have f3 : decide (goodL s.i s.t (sqL o)) = true := by simpa using g3
  repeat (first
    | with_reducible refine W_seq fun K hK => ?_
    | ((with_reducible refine W_reg ?_ ?_); (· rfl); simp only [go_sem, Nat.reduceEqDiff, ↓reduceIte, reduceIte, Nat.reduceAdd, Nat.reduceMul, Nat.reduceSub, Nat.reduceLeDiff, Nat.reduceBEq, Nat.reduceBNe, Int.reduceNeg, Int.reduceLT, Int.reduceLE, Int.reduceAdd, Int.reduceSub, Int.reduceToNat, Int.reduceEq, Int.reduceBEq, reduceCtorEq, List.cons.injEq, Int.reduceBNe, Int.sub_zero, decide_true, decide_false, false_and, and_false, Snp.enc, f1, f2])
    | ((with_reducible refine hK _ ?_); clear hK K)
    | (refine W_skip (hK _ ?_); clear hK K)
    | (refine W_cond rfl (fun hc => ?_) (fun hc => ?_); (· cases hc); clear hc)
    | (refine W_cond rfl (fun hc => ?_) (fun hc => ?_); rotate_left; (· cases hc); clear hc)
    | with_reducible refine W_block ?_
    | ((with_reducible refine W_exit ?_); simp only [go_sem, Nat.reduceEqDiff, ↓reduceIte, reduceIte, Nat.reduceAdd, Nat.reduceMul, Nat.reduceSub, Nat.reduceLeDiff, Nat.reduceBEq, Nat.reduceBNe, Int.reduceNeg, Int.reduceLT, Int.reduceLE, Int.reduceAdd, Int.reduceSub, Int.reduceToNat, Int.reduceEq, Int.reduceBEq, reduceCtorEq, List.cons.injEq, Int.reduceBNe, Int.sub_zero, decide_true, decide_false, false_and, and_false, Snp.enc, f1, f2])
    | ((with_reducible refine W_ret ?_); simp only [go_sem, Nat.reduceEqDiff, ↓reduceIte, reduceIte, Nat.reduceAdd, Nat.reduceMul, Nat.reduceSub, Nat.reduceLeDiff, Nat.reduceBEq, Nat.reduceBNe, Int.reduceNeg, Int.reduceLT, Int.reduceLE, Int.reduceAdd, Int.reduceSub, Int.reduceToNat, Int.reduceEq, Int.reduceBEq, reduceCtorEq, List.cons.injEq, Int.reduceBNe, Int.sub_zero, decide_true, decide_false, false_and, and_false, Snp.enc, f1, f2])
    | (clear hK K; (with_reducible refine hK _ ?_); clear hK K)
    | (clear hK K; clear hK K; (with_reducible refine hK _ ?_); clear hK K)
    | (clear hK K; clear hK K; clear hK K; (with_reducible refine hK _ ?_); clear hK K)
    | refine And.intro (by decide) (And.intro (by decide) ?_)
    | refine And.intro (by omega) ?_
    | simp only [go_sem, Nat.reduceEqDiff, ↓reduceIte, reduceIte, Nat.reduceAdd, Nat.reduceMul, Nat.reduceSub, Nat.reduceLeDiff, Nat.reduceBEq, Nat.reduceBNe, Int.reduceNeg, Int.reduceLT, Int.reduceLE, Int.reduceAdd, Int.reduceSub, Int.reduceToNat, Int.reduceEq, Int.reduceBEq, reduceCtorEq, List.cons.injEq, Int.reduceBNe, Int.sub_zero, decide_true, decide_false, false_and, and_false, Snp.enc, f1, f2])
  refine stop_call (f23_ok _ s.i s.t o (by omega) hn hd) ?_ ?_
  · first | trivial | (simp only [go_sem, Nat.reduceEqDiff, ↓reduceIte, reduceIte, Nat.reduceAdd, Nat.reduceMul, Nat.reduceSub, Nat.reduceLeDiff, Nat.reduceBEq, Nat.reduceBNe, Int.reduceNeg, Int.reduceLT, Int.reduceLE, Int.reduceAdd, Int.reduceSub, Int.reduceToNat, Int.reduceEq, Int.reduceBEq, reduceCtorEq, List.cons.injEq, Int.reduceBNe, Int.sub_zero, decide_true, decide_false, false_and, and_false]; done)
  repeat (first
    | with_reducible refine W_seq fun K hK => ?_
    | ((with_reducible refine W_reg ?_ ?_); (· rfl); simp only [go_sem, Nat.reduceEqDiff, ↓reduceIte, reduceIte, Nat.reduceAdd, Nat.reduceMul, Nat.reduceSub, Nat.reduceLeDiff, Nat.reduceBEq, Nat.reduceBNe, Int.reduceNeg, Int.reduceLT, Int.reduceLE, Int.reduceAdd, Int.reduceSub, Int.reduceToNat, Int.reduceEq, Int.reduceBEq, reduceCtorEq, List.cons.injEq, Int.reduceBNe, Int.sub_zero, decide_true, decide_false, false_and, and_false, f3])
    | ((with_reducible refine hK _ ?_); clear hK K)
    | (refine W_skip (hK _ ?_); clear hK K)
    | (refine W_cond rfl (fun hc => ?_) (fun hc => ?_); (· cases hc); clear hc)
    | (refine W_cond rfl (fun hc => ?_) (fun hc => ?_); rotate_left; (· cases hc); clear hc)
    | with_reducible refine W_block ?_
    | ((with_reducible refine W_exit ?_); simp only [go_sem, Nat.reduceEqDiff, ↓reduceIte, reduceIte, Nat.reduceAdd, Nat.reduceMul, Nat.reduceSub, Nat.reduceLeDiff, Nat.reduceBEq, Nat.reduceBNe, Int.reduceNeg, Int.reduceLT, Int.reduceLE, Int.reduceAdd, Int.reduceSub, Int.reduceToNat, Int.reduceEq, Int.reduceBEq, reduceCtorEq, List.cons.injEq, Int.reduceBNe, Int.sub_zero, decide_true, decide_false, false_and, and_false, f3])
    | ((with_reducible refine W_ret ?_); simp only [go_sem, Nat.reduceEqDiff, ↓reduceIte, reduceIte, Nat.reduceAdd, Nat.reduceMul, Nat.reduceSub, Nat.reduceLeDiff, Nat.reduceBEq, Nat.reduceBNe, Int.reduceNeg, Int.reduceLT, Int.reduceLE, Int.reduceAdd, Int.reduceSub, Int.reduceToNat, Int.reduceEq, Int.reduceBEq, reduceCtorEq, List.cons.injEq, Int.reduceBNe, Int.sub_zero, decide_true, decide_false, false_and, and_false, f3])
    | (clear hK K; (with_reducible refine hK _ ?_); clear hK K)
    | (clear hK K; clear hK K; (with_reducible refine hK _ ?_); clear hK K)
    | (clear hK K; clear hK K; clear hK K; (with_reducible refine hK _ ?_); clear hK K)
    | refine And.intro (by decide) (And.intro (by decide) ?_)
    | refine And.intro (by omega) ?_
    | simp only [go_sem, Nat.reduceEqDiff, ↓reduceIte, reduceIte, Nat.reduceAdd, Nat.reduceMul, Nat.reduceSub, Nat.reduceLeDiff, Nat.reduceBEq, Nat.reduceBNe, Int.reduceNeg, Int.reduceLT, Int.reduceLE, Int.reduceAdd, Int.reduceSub, Int.reduceToNat, Int.reduceEq, Int.reduceBEq, reduceCtorEq, List.cons.injEq, Int.reduceBNe, Int.sub_zero, decide_true, decide_false, false_and, and_false, f3])
  refine stop_call (f24_ok _ s hsd hsc) ?_ ?_
  · first | trivial | (simp only [go_sem, Nat.reduceEqDiff, ↓reduceIte, reduceIte, Nat.reduceAdd, Nat.reduceMul, Nat.reduceSub, Nat.reduceLeDiff, Nat.reduceBEq, Nat.reduceBNe, Int.reduceNeg, Int.reduceLT, Int.reduceLE, Int.reduceAdd, Int.reduceSub, Int.reduceToNat, Int.reduceEq, Int.reduceBEq, reduceCtorEq, List.cons.injEq, Int.reduceBNe, Int.sub_zero, decide_true, decide_false, false_and, and_false]; done)
  repeat (first
    | with_reducible refine W_seq fun K hK => ?_
    | ((with_reducible refine W_reg ?_ ?_); (· rfl); simp only [go_sem, Nat.reduceEqDiff, ↓reduceIte, reduceIte, Nat.reduceAdd, Nat.reduceMul, Nat.reduceSub, Nat.reduceLeDiff, Nat.reduceBEq, Nat.reduceBNe, Int.reduceNeg, Int.reduceLT, Int.reduceLE, Int.reduceAdd, Int.reduceSub, Int.reduceToNat, Int.reduceEq, Int.reduceBEq, reduceCtorEq, List.cons.injEq, Int.reduceBNe, Int.sub_zero, decide_true, decide_false, false_and, and_false, Snp.enc])
    | ((with_reducible refine hK _ ?_); clear hK K)
    | (refine W_skip (hK _ ?_); clear hK K)
    | (refine W_cond rfl (fun hc => ?_) (fun hc => ?_); (· cases hc); clear hc)
    | (refine W_cond rfl (fun hc => ?_) (fun hc => ?_); rotate_left; (· cases hc); clear hc)
    | with_reducible refine W_block ?_
    | ((with_reducible refine W_exit ?_); simp only [go_sem, Nat.reduceEqDiff, ↓reduceIte, reduceIte, Nat.reduceAdd, Nat.reduceMul, Nat.reduceSub, Nat.reduceLeDiff, Nat.reduceBEq, Nat.reduceBNe, Int.reduceNeg, Int.reduceLT, Int.reduceLE, Int.reduceAdd, Int.reduceSub, Int.reduceToNat, Int.reduceEq, Int.reduceBEq, reduceCtorEq, List.cons.injEq, Int.reduceBNe, Int.sub_zero, decide_true, decide_false, false_and, and_false, Snp.enc])
    | ((with_reducible refine W_ret ?_); simp only [go_sem, Nat.reduceEqDiff, ↓reduceIte, reduceIte, Nat.reduceAdd, Nat.reduceMul, Nat.reduceSub, Nat.reduceLeDiff, Nat.reduceBEq, Nat.reduceBNe, Int.reduceNeg, Int.reduceLT, Int.reduceLE, Int.reduceAdd, Int.reduceSub, Int.reduceToNat, Int.reduceEq, Int.reduceBEq, reduceCtorEq, List.cons.injEq, Int.reduceBNe, Int.sub_zero, decide_true, decide_false, false_and, and_false, Snp.enc])
    | (clear hK K; (with_reducible refine hK _ ?_); clear hK K)
    | (clear hK K; clear hK K; (with_reducible refine hK _ ?_); clear hK K)
    | (clear hK K; clear hK K; clear hK K; (with_reducible refine hK _ ?_); clear hK K)
    | refine And.intro (by decide) (And.intro (by decide) ?_)
    | refine And.intro (by omega) ?_
    | simp only [go_sem, Nat.reduceEqDiff, ↓reduceIte, reduceIte, Nat.reduceAdd, Nat.reduceMul, Nat.reduceSub, Nat.reduceLeDiff, Nat.reduceBEq, Nat.reduceBNe, Int.reduceNeg, Int.reduceLT, Int.reduceLE, Int.reduceAdd, Int.reduceSub, Int.reduceToNat, Int.reduceEq, Int.reduceBEq, reduceCtorEq, List.cons.injEq, Int.reduceBNe, Int.sub_zero, decide_true, decide_false, false_and, and_false, Snp.enc])
  generalize hl : sqL o = l at *
  refine W_loop ?_
  refine WL_nat (P := Try.prog) (fun m s' => ∃ j : Nat, m = l.length - j ∧ j ≤ l.length ∧ s'.tm 5 = .ptr (3 :: 2 :: id) 0 ∧ s'.tm 29 = sq Ent.enc o ∧ s'.tm 30 = .p (.int .i64 l.length) ∧ s'.tm 31 = .p (.int .i64 j) ∧
      HLe h s'.h ∧ ∃ x, s'.h (3 :: 2 :: id) = some (.cells 53 [.p (.int .i64 s.i), .p (.int .i64 s.t), sq nE s.c, sq bE s.d, x]) ∧ Grw Ent.enc 44 4 (.p (.slice none 0 0)) [] s'.h x (l.take j) ∧ ∀ f b p n z, x = .ref f b p n z → h b = none ∧ b ≠ 3 :: 2 :: id)
    (fun m s' hI => ?_) _ _ ⟨0, rfl, by omega, rfl, rfl, rfl, rfl, (by repeat first | exact HLe.refl _ | refine HLe.set ?_ _ _ | refine HLe.fresh ?_ (hfr [_, _])), .p (.slice none 0 0), by simp [hset_at], .inl ⟨rfl, rfl⟩, fun f b p n z e => by cases e⟩
  obtain ⟨j, rfl, hj, h5, h29, h30, h31, hle, x, hx5, how, hfs⟩ := hI
  obtain ⟨tm, h2, tt⟩ := s'
  simp only at h5 h29 h30 h31 hle hx5 how
  by_cases c1 : j < l.length
  · have g1 : decide ((j : Int) < (l.length : Int)) = true := by simp; omega
    have hx : (l.flatMap Ent.enc).drop (j * 4) = Ent.enc l[j] ++ (l.drop (j + 1)).flatMap Ent.enc := flatMap_at Ent.enc_len l _ c1
    have hdn : (sqL l[j].d).length ≤ 1000 := hd _ (List.getElem_mem c1)
    have e7 : l.take (j + 1) = l.take j ++ [l[j]] := List.take_succ_eq_append_getElem c1
    have e6 : IntKind.i64.wrap ((j : Int) + 1) = ((j + 1 : Nat) : Int) := by rw [wrap_i64 (by omega)]; omega
    generalize hy : l[j] = y at *
    refine W_fr fun hF => ?_
    repeat (first
      | with_reducible refine W_seq fun K hK => ?_
      | ((with_reducible refine W_reg ?_ ?_); (· rfl); simp only [go_sem, Nat.reduceEqDiff, ↓reduceIte, reduceIte, Nat.reduceAdd, Nat.reduceMul, Nat.reduceSub, Nat.reduceLeDiff, Nat.reduceBEq, Nat.reduceBNe, Int.reduceNeg, Int.reduceLT, Int.reduceLE, Int.reduceAdd, Int.reduceSub, Int.reduceToNat, Int.reduceEq, Int.reduceBEq, reduceCtorEq, List.cons.injEq, Int.reduceBNe, Int.sub_zero, decide_true, decide_false, false_and, and_false, h5, h29, h30, h31, g1, hx, hl, hx5, Ent.enc])
      | ((with_reducible refine hK _ ?_); clear hK K)
      | (refine W_skip (hK _ ?_); clear hK K)
      | (refine W_cond rfl (fun hc => ?_) (fun hc => ?_); (· cases hc); clear hc)
      | (refine W_cond rfl (fun hc => ?_) (fun hc => ?_); rotate_left; (· cases hc); clear hc)
      | with_reducible refine W_block ?_
      | ((with_reducible refine W_exit ?_); simp only [go_sem, Nat.reduceEqDiff, ↓reduceIte, reduceIte, Nat.reduceAdd, Nat.reduceMul, Nat.reduceSub, Nat.reduceLeDiff, Nat.reduceBEq, Nat.reduceBNe, Int.reduceNeg, Int.reduceLT, Int.reduceLE, Int.reduceAdd, Int.reduceSub, Int.reduceToNat, Int.reduceEq, Int.reduceBEq, reduceCtorEq, List.cons.injEq, Int.reduceBNe, Int.sub_zero, decide_true, decide_false, false_and, and_false, h5, h29, h30, h31, g1, hx, hl, hx5, Ent.enc])
      | ((with_reducible refine W_ret ?_); simp only [go_sem, Nat.reduceEqDiff, ↓reduceIte, reduceIte, Nat.reduceAdd, Nat.reduceMul, Nat.reduceSub, Nat.reduceLeDiff, Nat.reduceBEq, Nat.reduceBNe, Int.reduceNeg, Int.reduceLT, Int.reduceLE, Int.reduceAdd, Int.reduceSub, Int.reduceToNat, Int.reduceEq, Int.reduceBEq, reduceCtorEq, List.cons.injEq, Int.reduceBNe, Int.sub_zero, decide_true, decide_false, false_and, and_false, h5, h29, h30, h31, g1, hx, hl, hx5, Ent.enc])
      | (clear hK K; (with_reducible refine hK _ ?_); clear hK K)
      | (clear hK K; clear hK K; (with_reducible refine hK _ ?_); clear hK K)
      | (clear hK K; clear hK K; clear hK K; (with_reducible refine hK _ ?_); clear hK K)
      | refine And.intro (by decide) (And.intro (by decide) ?_)
      | refine And.intro (by omega) ?_
      | simp only [go_sem, Nat.reduceEqDiff, ↓reduceIte, reduceIte, Nat.reduceAdd, Nat.reduceMul, Nat.reduceSub, Nat.reduceLeDiff, Nat.reduceBEq, Nat.reduceBNe, Int.reduceNeg, Int.reduceLT, Int.reduceLE, Int.reduceAdd, Int.reduceSub, Int.reduceToNat, Int.reduceEq, Int.reduceBEq, reduceCtorEq, List.cons.injEq, Int.reduceBNe, Int.sub_zero, decide_true, decide_false, false_and, and_false, h5, h29, h30, h31, g1, hx, hl, hx5, Ent.enc])
    refine W_drw [[], [], [1], [1, 2], [1, 2, 3], [], [5], [5, 6], [1, 2, 3, 4, 5, 6, 7], [0, 1, 2, 3, 4, 5, 6, 7, 8], [0, 1, 2, 3, 4, 5, 6, 7, 8, 9], [0, 1, 2, 3, 4, 5, 6, 7, 8, 9, 10]] follows_mixed (by rfl) (by rfl) ?_
    repeat (first
      | with_reducible refine W_seq fun K hK => ?_
      | ((with_reducible refine W_reg ?_ ?_); (· rfl); simp only [go_sem, Nat.reduceEqDiff, ↓reduceIte, reduceIte, Nat.reduceAdd, Nat.reduceMul, Nat.reduceSub, Nat.reduceLeDiff, Nat.reduceBEq, Nat.reduceBNe, Int.reduceNeg, Int.reduceLT, Int.reduceLE, Int.reduceAdd, Int.reduceSub, Int.reduceToNat, Int.reduceEq, Int.reduceBEq, reduceCtorEq, List.cons.injEq, Int.reduceBNe, Int.sub_zero, decide_true, decide_false, false_and, and_false, h5, h29, h30, h31, g1, hx, hl, hx5, Ent.enc])
      | ((with_reducible refine hK _ ?_); clear hK K)
      | (refine W_skip (hK _ ?_); clear hK K)
      | (refine W_cond rfl (fun hc => ?_) (fun hc => ?_); (· cases hc); clear hc)
      | (refine W_cond rfl (fun hc => ?_) (fun hc => ?_); rotate_left; (· cases hc); clear hc)
      | with_reducible refine W_block ?_
      | ((with_reducible refine W_exit ?_); simp only [go_sem, Nat.reduceEqDiff, ↓reduceIte, reduceIte, Nat.reduceAdd, Nat.reduceMul, Nat.reduceSub, Nat.reduceLeDiff, Nat.reduceBEq, Nat.reduceBNe, Int.reduceNeg, Int.reduceLT, Int.reduceLE, Int.reduceAdd, Int.reduceSub, Int.reduceToNat, Int.reduceEq, Int.reduceBEq, reduceCtorEq, List.cons.injEq, Int.reduceBNe, Int.sub_zero, decide_true, decide_false, false_and, and_false, h5, h29, h30, h31, g1, hx, hl, hx5, Ent.enc])
      | ((with_reducible refine W_ret ?_); simp only [go_sem, Nat.reduceEqDiff, ↓reduceIte, reduceIte, Nat.reduceAdd, Nat.reduceMul, Nat.reduceSub, Nat.reduceLeDiff, Nat.reduceBEq, Nat.reduceBNe, Int.reduceNeg, Int.reduceLT, Int.reduceLE, Int.reduceAdd, Int.reduceSub, Int.reduceToNat, Int.reduceEq, Int.reduceBEq, reduceCtorEq, List.cons.injEq, Int.reduceBNe, Int.sub_zero, decide_true, decide_false, false_and, and_false, h5, h29, h30, h31, g1, hx, hl, hx5, Ent.enc])
      | (clear hK K; (with_reducible refine hK _ ?_); clear hK K)
      | (clear hK K; clear hK K; (with_reducible refine hK _ ?_); clear hK K)
      | (clear hK K; clear hK K; clear hK K; (with_reducible refine hK _ ?_); clear hK K)
      | refine And.intro (by decide) (And.intro (by decide) ?_)
      | refine And.intro (by omega) ?_
      | simp only [go_sem, Nat.reduceEqDiff, ↓reduceIte, reduceIte, Nat.reduceAdd, Nat.reduceMul, Nat.reduceSub, Nat.reduceLeDiff, Nat.reduceBEq, Nat.reduceBNe, Int.reduceNeg, Int.reduceLT, Int.reduceLE, Int.reduceAdd, Int.reduceSub, Int.reduceToNat, Int.reduceEq, Int.reduceBEq, reduceCtorEq, List.cons.injEq, Int.reduceBNe, Int.sub_zero, decide_true, decide_false, false_and, and_false, h5, h29, h30, h31, g1, hx, hl, hx5, Ent.enc])
    refine stopD_call (own_ok _ y (by omega)) ?_ ?_
    · first | trivial | (simp only [go_sem, Nat.reduceEqDiff, ↓reduceIte, reduceIte, Nat.reduceAdd, Nat.reduceMul, Nat.reduceSub, Nat.reduceLeDiff, Nat.reduceBEq, Nat.reduceBNe, Int.reduceNeg, Int.reduceLT, Int.reduceLE, Int.reduceAdd, Int.reduceSub, Int.reduceToNat, Int.reduceEq, Int.reduceBEq, reduceCtorEq, List.cons.injEq, Int.reduceBNe, Int.sub_zero, decide_true, decide_false, false_and, and_false]; done)
    repeat (first
      | with_reducible refine W_seq fun K hK => ?_
      | ((with_reducible refine W_reg ?_ ?_); (· rfl); simp only [go_sem, Nat.reduceEqDiff, ↓reduceIte, reduceIte, Nat.reduceAdd, Nat.reduceMul, Nat.reduceSub, Nat.reduceLeDiff, Nat.reduceBEq, Nat.reduceBNe, Int.reduceNeg, Int.reduceLT, Int.reduceLE, Int.reduceAdd, Int.reduceSub, Int.reduceToNat, Int.reduceEq, Int.reduceBEq, reduceCtorEq, List.cons.injEq, Int.reduceBNe, Int.sub_zero, decide_true, decide_false, false_and, and_false, h5, hx5, Ent.enc])
      | ((with_reducible refine hK _ ?_); clear hK K)
      | (refine W_skip (hK _ ?_); clear hK K)
      | (refine W_cond rfl (fun hc => ?_) (fun hc => ?_); (· cases hc); clear hc)
      | (refine W_cond rfl (fun hc => ?_) (fun hc => ?_); rotate_left; (· cases hc); clear hc)
      | with_reducible refine W_block ?_
      | ((with_reducible refine W_exit ?_); simp only [go_sem, Nat.reduceEqDiff, ↓reduceIte, reduceIte, Nat.reduceAdd, Nat.reduceMul, Nat.reduceSub, Nat.reduceLeDiff, Nat.reduceBEq, Nat.reduceBNe, Int.reduceNeg, Int.reduceLT, Int.reduceLE, Int.reduceAdd, Int.reduceSub, Int.reduceToNat, Int.reduceEq, Int.reduceBEq, reduceCtorEq, List.cons.injEq, Int.reduceBNe, Int.sub_zero, decide_true, decide_false, false_and, and_false, h5, hx5, Ent.enc])
      | ((with_reducible refine W_ret ?_); simp only [go_sem, Nat.reduceEqDiff, ↓reduceIte, reduceIte, Nat.reduceAdd, Nat.reduceMul, Nat.reduceSub, Nat.reduceLeDiff, Nat.reduceBEq, Nat.reduceBNe, Int.reduceNeg, Int.reduceLT, Int.reduceLE, Int.reduceAdd, Int.reduceSub, Int.reduceToNat, Int.reduceEq, Int.reduceBEq, reduceCtorEq, List.cons.injEq, Int.reduceBNe, Int.sub_zero, decide_true, decide_false, false_and, and_false, h5, hx5, Ent.enc])
      | (clear hK K; (with_reducible refine hK _ ?_); clear hK K)
      | (clear hK K; clear hK K; (with_reducible refine hK _ ?_); clear hK K)
      | (clear hK K; clear hK K; clear hK K; (with_reducible refine hK _ ?_); clear hK K)
      | refine And.intro (by decide) (And.intro (by decide) ?_)
      | refine And.intro (by omega) ?_
      | simp only [go_sem, Nat.reduceEqDiff, ↓reduceIte, reduceIte, Nat.reduceAdd, Nat.reduceMul, Nat.reduceSub, Nat.reduceLeDiff, Nat.reduceBEq, Nat.reduceBNe, Int.reduceNeg, Int.reduceLT, Int.reduceLE, Int.reduceAdd, Int.reduceSub, Int.reduceToNat, Int.reduceEq, Int.reduceBEq, reduceCtorEq, List.cons.injEq, Int.reduceBNe, Int.sub_zero, decide_true, decide_false, false_and, and_false, h5, hx5, Ent.enc])
    refine stopD_append_grw (l0 := []) 44 4 48 [.p (.int .i64 0), .p (.int .i64 0), .p (.int .i64 0), .p (.slice none 0 0)] (l.take j) [y] ty26.2.2.2.1 ty44.2.1 ty44.2.2.1 ty44.2.2.2.2.2.1 rfl Ent.enc_len Ent.enc_one rfl (grw_far how (by repeat (first | exact far_refl _ | refine far_hset ?_ (hF _ (by simp) [_])))) (by simp only [go_sem, Nat.reduceEqDiff, ↓reduceIte, reduceIte, Nat.reduceAdd, Nat.reduceMul, Nat.reduceSub, Nat.reduceLeDiff, Nat.reduceBEq, Nat.reduceBNe, Int.reduceNeg, Int.reduceLT, Int.reduceLE, Int.reduceAdd, Int.reduceSub, Int.reduceToNat, Int.reduceEq, Int.reduceBEq, reduceCtorEq, List.cons.injEq, Int.reduceBNe, Int.sub_zero, decide_true, decide_false, false_and, and_false] <;> rfl) (by simp only [go_sem, Nat.reduceEqDiff, ↓reduceIte, reduceIte, Nat.reduceAdd, Nat.reduceMul, Nat.reduceSub, Nat.reduceLeDiff, Nat.reduceBEq, Nat.reduceBNe, Int.reduceNeg, Int.reduceLT, Int.reduceLE, Int.reduceAdd, Int.reduceSub, Int.reduceToNat, Int.reduceEq, Int.reduceBEq, reduceCtorEq, List.cons.injEq, Int.reduceBNe, Int.sub_zero, decide_true, decide_false, false_and, and_false] <;> rfl) (by simp)
      (by simp; omega) (by simp [maxLen]; omega) ?_
    rw [← e7]
    have hx6 : ∀ h', upd h' (ownW x) (3 :: 2 :: id) = h' (3 :: 2 :: id) := fun h' => upd_ownW_ne (fun f b p n z e => (hfs f b p n z e).2)
    repeat (first
      | with_reducible refine W_seq fun K hK => ?_
      | ((with_reducible refine W_reg ?_ ?_); (· rfl); simp only [go_sem, Nat.reduceEqDiff, ↓reduceIte, reduceIte, Nat.reduceAdd, Nat.reduceMul, Nat.reduceSub, Nat.reduceLeDiff, Nat.reduceBEq, Nat.reduceBNe, Int.reduceNeg, Int.reduceLT, Int.reduceLE, Int.reduceAdd, Int.reduceSub, Int.reduceToNat, Int.reduceEq, Int.reduceBEq, reduceCtorEq, List.cons.injEq, Int.reduceBNe, Int.sub_zero, decide_true, decide_false, false_and, and_false, h31, e6, hx6, hx5])
      | ((with_reducible refine hK _ ?_); clear hK K)
      | (refine W_skip (hK _ ?_); clear hK K)
      | (refine W_cond rfl (fun hc => ?_) (fun hc => ?_); (· cases hc); clear hc)
      | (refine W_cond rfl (fun hc => ?_) (fun hc => ?_); rotate_left; (· cases hc); clear hc)
      | with_reducible refine W_block ?_
      | ((with_reducible refine W_exit ?_); simp only [go_sem, Nat.reduceEqDiff, ↓reduceIte, reduceIte, Nat.reduceAdd, Nat.reduceMul, Nat.reduceSub, Nat.reduceLeDiff, Nat.reduceBEq, Nat.reduceBNe, Int.reduceNeg, Int.reduceLT, Int.reduceLE, Int.reduceAdd, Int.reduceSub, Int.reduceToNat, Int.reduceEq, Int.reduceBEq, reduceCtorEq, List.cons.injEq, Int.reduceBNe, Int.sub_zero, decide_true, decide_false, false_and, and_false, h31, e6, hx6, hx5])
      | ((with_reducible refine W_ret ?_); simp only [go_sem, Nat.reduceEqDiff, ↓reduceIte, reduceIte, Nat.reduceAdd, Nat.reduceMul, Nat.reduceSub, Nat.reduceLeDiff, Nat.reduceBEq, Nat.reduceBNe, Int.reduceNeg, Int.reduceLT, Int.reduceLE, Int.reduceAdd, Int.reduceSub, Int.reduceToNat, Int.reduceEq, Int.reduceBEq, reduceCtorEq, List.cons.injEq, Int.reduceBNe, Int.sub_zero, decide_true, decide_false, false_and, and_false, h31, e6, hx6, hx5])
      | (clear hK K; (with_reducible refine hK _ ?_); clear hK K)
      | (clear hK K; clear hK K; (with_reducible refine hK _ ?_); clear hK K)
      | (clear hK K; clear hK K; clear hK K; (with_reducible refine hK _ ?_); clear hK K)
      | refine And.intro (by decide) (And.intro (by decide) ?_)
      | refine And.intro (by omega) ?_
      | simp only [go_sem, Nat.reduceEqDiff, ↓reduceIte, reduceIte, Nat.reduceAdd, Nat.reduceMul, Nat.reduceSub, Nat.reduceLeDiff, Nat.reduceBEq, Nat.reduceBNe, Int.reduceNeg, Int.reduceLT, Int.reduceLE, Int.reduceAdd, Int.reduceSub, Int.reduceToNat, Int.reduceEq, Int.reduceBEq, reduceCtorEq, List.cons.injEq, Int.reduceBNe, Int.sub_zero, decide_true, decide_false, false_and, and_false, h31, e6, hx6, hx5])
    refine ⟨_, ?_, j + 1, rfl, by omega, h5, h29, h30, rfl, HLe.fresh (HLe.fresh (hle_ownW (fun f b p n z e => (hfs f b p n z e).1) (by repeat first | exact hle | refine HLe.set ?_ _ _ | refine HLe.fresh ?_ (hfr [_, _]))) (hfr [_, _])) (hfr [_, _]), _, rfl, .inr ⟨_, ?_, rfl, ?_⟩, fun f b p n z e => ?_⟩
    · omega
    · rw [e7]; simp
    · simp [hset_at]
    · cases e; exact ⟨hfr [_, _], by simp⟩
  · have g1 : decide ((j : Int) < (l.length : Int)) = false := by simp; omega
    refine W_grwH (3 :: 2 :: id) 4 hx5 rfl how rfl (fun f b p n z e => (hfs f b p n z e).2) Ent.enc_len ?_
    rw [List.take_of_length_le (by omega), grwV_nil]
    repeat (first
      | with_reducible refine W_seq fun K hK => ?_
      | ((with_reducible refine W_reg ?_ ?_); (· rfl); simp only [go_sem, Nat.reduceEqDiff, ↓reduceIte, reduceIte, Nat.reduceAdd, Nat.reduceMul, Nat.reduceSub, Nat.reduceLeDiff, Nat.reduceBEq, Nat.reduceBNe, Int.reduceNeg, Int.reduceLT, Int.reduceLE, Int.reduceAdd, Int.reduceSub, Int.reduceToNat, Int.reduceEq, Int.reduceBEq, reduceCtorEq, List.cons.injEq, Int.reduceBNe, Int.sub_zero, decide_true, decide_false, false_and, and_false, h5, h29, h30, h31, g1])
      | ((with_reducible refine hK _ ?_); clear hK K)
      | (refine W_skip (hK _ ?_); clear hK K)
      | (refine W_cond rfl (fun hc => ?_) (fun hc => ?_); (· cases hc); clear hc)
      | (refine W_cond rfl (fun hc => ?_) (fun hc => ?_); rotate_left; (· cases hc); clear hc)
      | with_reducible refine W_block ?_
      | ((with_reducible refine W_exit ?_); simp only [go_sem, Nat.reduceEqDiff, ↓reduceIte, reduceIte, Nat.reduceAdd, Nat.reduceMul, Nat.reduceSub, Nat.reduceLeDiff, Nat.reduceBEq, Nat.reduceBNe, Int.reduceNeg, Int.reduceLT, Int.reduceLE, Int.reduceAdd, Int.reduceSub, Int.reduceToNat, Int.reduceEq, Int.reduceBEq, reduceCtorEq, List.cons.injEq, Int.reduceBNe, Int.sub_zero, decide_true, decide_false, false_and, and_false, h5, h29, h30, h31, g1])
      | ((with_reducible refine W_ret ?_); simp only [go_sem, Nat.reduceEqDiff, ↓reduceIte, reduceIte, Nat.reduceAdd, Nat.reduceMul, Nat.reduceSub, Nat.reduceLeDiff, Nat.reduceBEq, Nat.reduceBNe, Int.reduceNeg, Int.reduceLT, Int.reduceLE, Int.reduceAdd, Int.reduceSub, Int.reduceToNat, Int.reduceEq, Int.reduceBEq, reduceCtorEq, List.cons.injEq, Int.reduceBNe, Int.sub_zero, decide_true, decide_false, false_and, and_false, h5, h29, h30, h31, g1])
      | (clear hK K; (with_reducible refine hK _ ?_); clear hK K)
      | (clear hK K; clear hK K; (with_reducible refine hK _ ?_); clear hK K)
      | (clear hK K; clear hK K; clear hK K; (with_reducible refine hK _ ?_); clear hK K)
      | refine And.intro (by decide) (And.intro (by decide) ?_)
      | refine And.intro (by omega) ?_
      | simp only [go_sem, Nat.reduceEqDiff, ↓reduceIte, reduceIte, Nat.reduceAdd, Nat.reduceMul, Nat.reduceSub, Nat.reduceLeDiff, Nat.reduceBEq, Nat.reduceBNe, Int.reduceNeg, Int.reduceLT, Int.reduceLE, Int.reduceAdd, Int.reduceSub, Int.reduceToNat, Int.reduceEq, Int.reduceBEq, reduceCtorEq, List.cons.injEq, Int.reduceBNe, Int.sub_zero, decide_true, decide_false, false_and, and_false, h5, h29, h30, h31, g1])
    refine ends_ret ?_ ((HLe.set (hle_ownW (fun f b p n z e => (hfs f b p n z e).1) hle) _ _))
    simp only [go_sem, Nat.reduceEqDiff, ↓reduceIte, reduceIte, Nat.reduceAdd, Nat.reduceMul, Nat.reduceSub, Nat.reduceLeDiff, Nat.reduceBEq, Nat.reduceBNe, Int.reduceNeg, Int.reduceLT, Int.reduceLE, Int.reduceAdd, Int.reduceSub, Int.reduceToNat, Int.reduceEq, Int.reduceBEq, reduceCtorEq, List.cons.injEq, Int.reduceBNe, Int.sub_zero, decide_true, decide_false, false_and, and_false, Try.f7, h5]
end Go.Proofs.Ytcfmbbebnobflaa
