/- Put, in the log and in the reference's: what may not be. -/
import Derived.Test.YtcfmbbebnobflaaF17
set_option linter.unusedVariables false
set_option linter.unusedSimpArgs false
namespace Go.Proofs.Ytcfmbbebnobflaa
open Go Go.SX

def headI (l : List Ent) : Int := (l.head?.map Ent.i).getD 0
def putOk (s : Snp) (es l : List Ent) : Prop := l ≠ [] ∧ s.i < headI l ∧ headI l ≤ lastL s es + 1 ∧ goodL (headI l - 1) (termL s es (headI l - 1)).1 l
def putL (s : Snp) (es l : List Ent) : List Ent := es.take (headI l - s.i - 1).toNat ++ l

set_option maxRecDepth 8000 in
open Classical in
theorem f10_bad (id b : BId) (s : Snp) (o p : Option (List Ent)) (hs : 0 ≤ s.i) (hl : lastL s (sqL o) ≤ 2305843009213693952) (hn : (sqL p).length ≤ 1000) (hd : ∀ e ∈ sqL p, (sqL e.d).length ≤ 1000) (hbad : ¬ putOk s (sqL o) (sqL p)) :
    CallF Try.prog 10 [.ptr b 0, sq Ent.enc p] id [(b, .cells 53 (lgC s o))] (.p (.bool false)) [] := by
  refine ⟨⟨_, Try.func10, by decide, rfl⟩, (by simp <;> repeat first | exact ⟨[_, _], rfl⟩ | constructor), fun h hr => callsA_of_W Try.func10 rfl fun hfr => ?_⟩
  have hb := hr.1; simp only [lgC] at hb
  have hl2 : lastL s (sqL o) = s.i + (sqL o).length := rfl
  rcases hq : sqL p with _ | ⟨e, rest⟩
  · have e0 : (((sqL p).length : Int) == 0) = true := by rw [hq]; rfl
    repeat (first
      | with_reducible refine W_seq fun K hK => ?_
      | ((with_reducible refine W_reg ?_ ?_); (· rfl); simp only [go_sem, Nat.reduceEqDiff, ↓reduceIte, reduceIte, Nat.reduceAdd, Nat.reduceMul, Nat.reduceSub, Nat.reduceLeDiff, Nat.reduceBEq, Nat.reduceBNe, Int.reduceNeg, Int.reduceLT, Int.reduceLE, Int.reduceAdd, Int.reduceSub, Int.reduceToNat, Int.reduceEq, Int.reduceBEq, reduceCtorEq, List.cons.injEq, Int.reduceBNe, Int.sub_zero, decide_true, decide_false, false_and, and_false, hb, e0])
      | ((with_reducible refine hK _ ?_); clear hK K)
      | (refine W_skip (hK _ ?_); clear hK K)
      | (refine W_cond rfl (fun hc => ?_) (fun hc => ?_); (· cases hc); clear hc)
      | (refine W_cond rfl (fun hc => ?_) (fun hc => ?_); rotate_left; (· cases hc); clear hc)
      | with_reducible refine W_block ?_
      | ((with_reducible refine W_exit ?_); simp only [go_sem, Nat.reduceEqDiff, ↓reduceIte, reduceIte, Nat.reduceAdd, Nat.reduceMul, Nat.reduceSub, Nat.reduceLeDiff, Nat.reduceBEq, Nat.reduceBNe, Int.reduceNeg, Int.reduceLT, Int.reduceLE, Int.reduceAdd, Int.reduceSub, Int.reduceToNat, Int.reduceEq, Int.reduceBEq, reduceCtorEq, List.cons.injEq, Int.reduceBNe, Int.sub_zero, decide_true, decide_false, false_and, and_false, hb, e0])
      | ((with_reducible refine W_ret ?_); simp only [go_sem, Nat.reduceEqDiff, ↓reduceIte, reduceIte, Nat.reduceAdd, Nat.reduceMul, Nat.reduceSub, Nat.reduceLeDiff, Nat.reduceBEq, Nat.reduceBNe, Int.reduceNeg, Int.reduceLT, Int.reduceLE, Int.reduceAdd, Int.reduceSub, Int.reduceToNat, Int.reduceEq, Int.reduceBEq, reduceCtorEq, List.cons.injEq, Int.reduceBNe, Int.sub_zero, decide_true, decide_false, false_and, and_false, hb, e0])
      | (clear hK K; (with_reducible refine hK _ ?_); clear hK K)
      | (clear hK K; clear hK K; (with_reducible refine hK _ ?_); clear hK K)
      | (clear hK K; clear hK K; clear hK K; (with_reducible refine hK _ ?_); clear hK K)
      | refine And.intro (by decide) (And.intro (by decide) ?_)
      | refine And.intro (by omega) ?_
      | simp only [go_sem, Nat.reduceEqDiff, ↓reduceIte, reduceIte, Nat.reduceAdd, Nat.reduceMul, Nat.reduceSub, Nat.reduceLeDiff, Nat.reduceBEq, Nat.reduceBNe, Int.reduceNeg, Int.reduceLT, Int.reduceLE, Int.reduceAdd, Int.reduceSub, Int.reduceToNat, Int.reduceEq, Int.reduceBEq, reduceCtorEq, List.cons.injEq, Int.reduceBNe, Int.sub_zero, decide_true, decide_false, false_and, and_false, hb, e0])
    refine ends_ret ?_ (by (repeat first | exact HLe.refl _ | refine HLe.set ?_ _ _ | refine HLe.fresh ?_ (hfr [_, _])))
    simp only [go_sem, Nat.reduceEqDiff, ↓reduceIte, reduceIte, Nat.reduceAdd, Nat.reduceMul, Nat.reduceSub, Nat.reduceLeDiff, Nat.reduceBEq, Nat.reduceBNe, Int.reduceNeg, Int.reduceLT, Int.reduceLE, Int.reduceAdd, Int.reduceSub, Int.reduceToNat, Int.reduceEq, Int.reduceBEq, reduceCtorEq, List.cons.injEq, Int.reduceBNe, Int.sub_zero, decide_true, decide_false, false_and, and_false, Try.f10]
  have e0 : (((sqL p).length : Int) == 0) = false := by rw [hq]; simp <;> omega
  have hx : (sqL p).flatMap Ent.enc = [.p (.int .i64 e.i), .p (.int .i64 e.t), .p (.int .i64 e.k), sq bE e.d] ++ rest.flatMap Ent.enc := by rw [hq]; rfl
  have hl3 : (0 : Int) < ((sqL p).length : Int) := by rw [hq]; simp <;> omega
  by_cases c1 : e.i ≤ s.i
  · have f1 : decide (e.i ≤ s.i) = true := by simpa using c1
    repeat (first
      | with_reducible refine W_seq fun K hK => ?_
      | ((with_reducible refine W_reg ?_ ?_); (· rfl); simp only [go_sem, Nat.reduceEqDiff, ↓reduceIte, reduceIte, Nat.reduceAdd, Nat.reduceMul, Nat.reduceSub, Nat.reduceLeDiff, Nat.reduceBEq, Nat.reduceBNe, Int.reduceNeg, Int.reduceLT, Int.reduceLE, Int.reduceAdd, Int.reduceSub, Int.reduceToNat, Int.reduceEq, Int.reduceBEq, reduceCtorEq, List.cons.injEq, Int.reduceBNe, Int.sub_zero, decide_true, decide_false, false_and, and_false, hb, e0, hx, f1])
      | ((with_reducible refine hK _ ?_); clear hK K)
      | (refine W_skip (hK _ ?_); clear hK K)
      | (refine W_cond rfl (fun hc => ?_) (fun hc => ?_); (· cases hc); clear hc)
      | (refine W_cond rfl (fun hc => ?_) (fun hc => ?_); rotate_left; (· cases hc); clear hc)
      | with_reducible refine W_block ?_
      | ((with_reducible refine W_exit ?_); simp only [go_sem, Nat.reduceEqDiff, ↓reduceIte, reduceIte, Nat.reduceAdd, Nat.reduceMul, Nat.reduceSub, Nat.reduceLeDiff, Nat.reduceBEq, Nat.reduceBNe, Int.reduceNeg, Int.reduceLT, Int.reduceLE, Int.reduceAdd, Int.reduceSub, Int.reduceToNat, Int.reduceEq, Int.reduceBEq, reduceCtorEq, List.cons.injEq, Int.reduceBNe, Int.sub_zero, decide_true, decide_false, false_and, and_false, hb, e0, hx, f1])
      | ((with_reducible refine W_ret ?_); simp only [go_sem, Nat.reduceEqDiff, ↓reduceIte, reduceIte, Nat.reduceAdd, Nat.reduceMul, Nat.reduceSub, Nat.reduceLeDiff, Nat.reduceBEq, Nat.reduceBNe, Int.reduceNeg, Int.reduceLT, Int.reduceLE, Int.reduceAdd, Int.reduceSub, Int.reduceToNat, Int.reduceEq, Int.reduceBEq, reduceCtorEq, List.cons.injEq, Int.reduceBNe, Int.sub_zero, decide_true, decide_false, false_and, and_false, hb, e0, hx, f1])
      | (clear hK K; (with_reducible refine hK _ ?_); clear hK K)
      | (clear hK K; clear hK K; (with_reducible refine hK _ ?_); clear hK K)
      | (clear hK K; clear hK K; clear hK K; (with_reducible refine hK _ ?_); clear hK K)
      | refine And.intro (by decide) (And.intro (by decide) ?_)
      | refine And.intro (by omega) ?_
      | simp only [go_sem, Nat.reduceEqDiff, ↓reduceIte, reduceIte, Nat.reduceAdd, Nat.reduceMul, Nat.reduceSub, Nat.reduceLeDiff, Nat.reduceBEq, Nat.reduceBNe, Int.reduceNeg, Int.reduceLT, Int.reduceLE, Int.reduceAdd, Int.reduceSub, Int.reduceToNat, Int.reduceEq, Int.reduceBEq, reduceCtorEq, List.cons.injEq, Int.reduceBNe, Int.sub_zero, decide_true, decide_false, false_and, and_false, hb, e0, hx, f1])
    refine ends_ret ?_ (by (repeat first | exact HLe.refl _ | refine HLe.set ?_ _ _ | refine HLe.fresh ?_ (hfr [_, _])))
    simp only [go_sem, Nat.reduceEqDiff, ↓reduceIte, reduceIte, Nat.reduceAdd, Nat.reduceMul, Nat.reduceSub, Nat.reduceLeDiff, Nat.reduceBEq, Nat.reduceBNe, Int.reduceNeg, Int.reduceLT, Int.reduceLE, Int.reduceAdd, Int.reduceSub, Int.reduceToNat, Int.reduceEq, Int.reduceBEq, reduceCtorEq, List.cons.injEq, Int.reduceBNe, Int.sub_zero, decide_true, decide_false, false_and, and_false, Try.f10]
  have f1 : decide (e.i ≤ s.i) = false := by simpa using c1
  have w1 : IntKind.i64.wrap (lastL s (sqL o) + 1) = lastL s (sqL o) + 1 := wrap_i64 (by omega)
  by_cases c2 : e.i > lastL s (sqL o) + 1
  · have f2 : decide (e.i > lastL s (sqL o) + 1) = true := by simpa using c2
    repeat (first
      | with_reducible refine W_seq fun K hK => ?_
      | ((with_reducible refine W_reg ?_ ?_); (· rfl); simp only [go_sem, Nat.reduceEqDiff, ↓reduceIte, reduceIte, Nat.reduceAdd, Nat.reduceMul, Nat.reduceSub, Nat.reduceLeDiff, Nat.reduceBEq, Nat.reduceBNe, Int.reduceNeg, Int.reduceLT, Int.reduceLE, Int.reduceAdd, Int.reduceSub, Int.reduceToNat, Int.reduceEq, Int.reduceBEq, reduceCtorEq, List.cons.injEq, Int.reduceBNe, Int.sub_zero, decide_true, decide_false, false_and, and_false, hb, e0, hx, f1])
      | ((with_reducible refine hK _ ?_); clear hK K)
      | (refine W_skip (hK _ ?_); clear hK K)
      | (refine W_cond rfl (fun hc => ?_) (fun hc => ?_); (· cases hc); clear hc)
      | (refine W_cond rfl (fun hc => ?_) (fun hc => ?_); rotate_left; (· cases hc); clear hc)
      | with_reducible refine W_block ?_
      | ((with_reducible refine W_exit ?_); simp only [go_sem, Nat.reduceEqDiff, ↓reduceIte, reduceIte, Nat.reduceAdd, Nat.reduceMul, Nat.reduceSub, Nat.reduceLeDiff, Nat.reduceBEq, Nat.reduceBNe, Int.reduceNeg, Int.reduceLT, Int.reduceLE, Int.reduceAdd, Int.reduceSub, Int.reduceToNat, Int.reduceEq, Int.reduceBEq, reduceCtorEq, List.cons.injEq, Int.reduceBNe, Int.sub_zero, decide_true, decide_false, false_and, and_false, hb, e0, hx, f1])
      | ((with_reducible refine W_ret ?_); simp only [go_sem, Nat.reduceEqDiff, ↓reduceIte, reduceIte, Nat.reduceAdd, Nat.reduceMul, Nat.reduceSub, Nat.reduceLeDiff, Nat.reduceBEq, Nat.reduceBNe, Int.reduceNeg, Int.reduceLT, Int.reduceLE, Int.reduceAdd, Int.reduceSub, Int.reduceToNat, Int.reduceEq, Int.reduceBEq, reduceCtorEq, List.cons.injEq, Int.reduceBNe, Int.sub_zero, decide_true, decide_false, false_and, and_false, hb, e0, hx, f1])
      | (clear hK K; (with_reducible refine hK _ ?_); clear hK K)
      | (clear hK K; clear hK K; (with_reducible refine hK _ ?_); clear hK K)
      | (clear hK K; clear hK K; clear hK K; (with_reducible refine hK _ ?_); clear hK K)
      | refine And.intro (by decide) (And.intro (by decide) ?_)
      | refine And.intro (by omega) ?_
      | simp only [go_sem, Nat.reduceEqDiff, ↓reduceIte, reduceIte, Nat.reduceAdd, Nat.reduceMul, Nat.reduceSub, Nat.reduceLeDiff, Nat.reduceBEq, Nat.reduceBNe, Int.reduceNeg, Int.reduceLT, Int.reduceLE, Int.reduceAdd, Int.reduceSub, Int.reduceToNat, Int.reduceEq, Int.reduceBEq, reduceCtorEq, List.cons.injEq, Int.reduceBNe, Int.sub_zero, decide_true, decide_false, false_and, and_false, hb, e0, hx, f1])
    refine stop_call (f19_ok _ b s o (by omega)) ?_ ?_
    · first | trivial | (simp only [go_sem, Nat.reduceEqDiff, ↓reduceIte, reduceIte, Nat.reduceAdd, Nat.reduceMul, Nat.reduceSub, Nat.reduceLeDiff, Nat.reduceBEq, Nat.reduceBNe, Int.reduceNeg, Int.reduceLT, Int.reduceLE, Int.reduceAdd, Int.reduceSub, Int.reduceToNat, Int.reduceEq, Int.reduceBEq, reduceCtorEq, List.cons.injEq, Int.reduceBNe, Int.sub_zero, decide_true, decide_false, false_and, and_false, hb, lgC]; done)
    repeat (first
      | with_reducible refine W_seq fun K hK => ?_
      | ((with_reducible refine W_reg ?_ ?_); (· rfl); simp only [go_sem, Nat.reduceEqDiff, ↓reduceIte, reduceIte, Nat.reduceAdd, Nat.reduceMul, Nat.reduceSub, Nat.reduceLeDiff, Nat.reduceBEq, Nat.reduceBNe, Int.reduceNeg, Int.reduceLT, Int.reduceLE, Int.reduceAdd, Int.reduceSub, Int.reduceToNat, Int.reduceEq, Int.reduceBEq, reduceCtorEq, List.cons.injEq, Int.reduceBNe, Int.sub_zero, decide_true, decide_false, false_and, and_false, w1, f2])
      | ((with_reducible refine hK _ ?_); clear hK K)
      | (refine W_skip (hK _ ?_); clear hK K)
      | (refine W_cond rfl (fun hc => ?_) (fun hc => ?_); (· cases hc); clear hc)
      | (refine W_cond rfl (fun hc => ?_) (fun hc => ?_); rotate_left; (· cases hc); clear hc)
      | with_reducible refine W_block ?_
      | ((with_reducible refine W_exit ?_); simp only [go_sem, Nat.reduceEqDiff, ↓reduceIte, reduceIte, Nat.reduceAdd, Nat.reduceMul, Nat.reduceSub, Nat.reduceLeDiff, Nat.reduceBEq, Nat.reduceBNe, Int.reduceNeg, Int.reduceLT, Int.reduceLE, Int.reduceAdd, Int.reduceSub, Int.reduceToNat, Int.reduceEq, Int.reduceBEq, reduceCtorEq, List.cons.injEq, Int.reduceBNe, Int.sub_zero, decide_true, decide_false, false_and, and_false, w1, f2])
      | ((with_reducible refine W_ret ?_); simp only [go_sem, Nat.reduceEqDiff, ↓reduceIte, reduceIte, Nat.reduceAdd, Nat.reduceMul, Nat.reduceSub, Nat.reduceLeDiff, Nat.reduceBEq, Nat.reduceBNe, Int.reduceNeg, Int.reduceLT, Int.reduceLE, Int.reduceAdd, Int.reduceSub, Int.reduceToNat, Int.reduceEq, Int.reduceBEq, reduceCtorEq, List.cons.injEq, Int.reduceBNe, Int.sub_zero, decide_true, decide_false, false_and, and_false, w1, f2])
      | (clear hK K; (with_reducible refine hK _ ?_); clear hK K)
      | (clear hK K; clear hK K; (with_reducible refine hK _ ?_); clear hK K)
      | (clear hK K; clear hK K; clear hK K; (with_reducible refine hK _ ?_); clear hK K)
      | refine And.intro (by decide) (And.intro (by decide) ?_)
      | refine And.intro (by omega) ?_
      | simp only [go_sem, Nat.reduceEqDiff, ↓reduceIte, reduceIte, Nat.reduceAdd, Nat.reduceMul, Nat.reduceSub, Nat.reduceLeDiff, Nat.reduceBEq, Nat.reduceBNe, Int.reduceNeg, Int.reduceLT, Int.reduceLE, Int.reduceAdd, Int.reduceSub, Int.reduceToNat, Int.reduceEq, Int.reduceBEq, reduceCtorEq, List.cons.injEq, Int.reduceBNe, Int.sub_zero, decide_true, decide_false, false_and, and_false, w1, f2])
    refine ends_ret ?_ (by (repeat first | exact HLe.refl _ | refine HLe.set ?_ _ _ | refine HLe.fresh ?_ (hfr [_, _])))
    simp only [go_sem, Nat.reduceEqDiff, ↓reduceIte, reduceIte, Nat.reduceAdd, Nat.reduceMul, Nat.reduceSub, Nat.reduceLeDiff, Nat.reduceBEq, Nat.reduceBNe, Int.reduceNeg, Int.reduceLT, Int.reduceLE, Int.reduceAdd, Int.reduceSub, Int.reduceToNat, Int.reduceEq, Int.reduceBEq, reduceCtorEq, List.cons.injEq, Int.reduceBNe, Int.sub_zero, decide_true, decide_false, false_and, and_false, Try.f10]
  have f2 : decide (e.i > lastL s (sqL o) + 1) = false := by simpa using c2
  have w2 : IntKind.i64.wrap (e.i - 1) = e.i - 1 := wrap_i64 (by omega)
  have f3 : decide (goodL (e.i - 1) (termL s (sqL o) (e.i - 1)).1 (sqL p)) = false := by
    simp only [decide_eq_false_iff_not]
    intro hg
    exact hbad ⟨by rw [hq]; simp, by rw [hq]; simp [headI]; omega, by rw [hq]; simp [headI]; omega, by rw [hq] at hg ⊢; exact hg⟩
  repeat (first
    | with_reducible refine W_seq fun K hK => ?_
    | ((with_reducible refine W_reg ?_ ?_); (· rfl); simp only [go_sem, Nat.reduceEqDiff, ↓reduceIte, reduceIte, Nat.reduceAdd, Nat.reduceMul, Nat.reduceSub, Nat.reduceLeDiff, Nat.reduceBEq, Nat.reduceBNe, Int.reduceNeg, Int.reduceLT, Int.reduceLE, Int.reduceAdd, Int.reduceSub, Int.reduceToNat, Int.reduceEq, Int.reduceBEq, reduceCtorEq, List.cons.injEq, Int.reduceBNe, Int.sub_zero, decide_true, decide_false, false_and, and_false, hb, e0, hx, f1])
    | ((with_reducible refine hK _ ?_); clear hK K)
    | (refine W_skip (hK _ ?_); clear hK K)
    | (refine W_cond rfl (fun hc => ?_) (fun hc => ?_); (· cases hc); clear hc)
    | (refine W_cond rfl (fun hc => ?_) (fun hc => ?_); rotate_left; (· cases hc); clear hc)
    | with_reducible refine W_block ?_
    | ((with_reducible refine W_exit ?_); simp only [go_sem, Nat.reduceEqDiff, ↓reduceIte, reduceIte, Nat.reduceAdd, Nat.reduceMul, Nat.reduceSub, Nat.reduceLeDiff, Nat.reduceBEq, Nat.reduceBNe, Int.reduceNeg, Int.reduceLT, Int.reduceLE, Int.reduceAdd, Int.reduceSub, Int.reduceToNat, Int.reduceEq, Int.reduceBEq, reduceCtorEq, List.cons.injEq, Int.reduceBNe, Int.sub_zero, decide_true, decide_false, false_and, and_false, hb, e0, hx, f1])
    | ((with_reducible refine W_ret ?_); simp only [go_sem, Nat.reduceEqDiff, ↓reduceIte, reduceIte, Nat.reduceAdd, Nat.reduceMul, Nat.reduceSub, Nat.reduceLeDiff, Nat.reduceBEq, Nat.reduceBNe, Int.reduceNeg, Int.reduceLT, Int.reduceLE, Int.reduceAdd, Int.reduceSub, Int.reduceToNat, Int.reduceEq, Int.reduceBEq, reduceCtorEq, List.cons.injEq, Int.reduceBNe, Int.sub_zero, decide_true, decide_false, false_and, and_false, hb, e0, hx, f1])
    | (clear hK K; (with_reducible refine hK _ ?_); clear hK K)
    | (clear hK K; clear hK K; (with_reducible refine hK _ ?_); clear hK K)
    | (clear hK K; clear hK K; clear hK K; (with_reducible refine hK _ ?_); clear hK K)
    | refine And.intro (by decide) (And.intro (by decide) ?_)
    | refine And.intro (by omega) ?_
    | simp only [go_sem, Nat.reduceEqDiff, ↓reduceIte, reduceIte, Nat.reduceAdd, Nat.reduceMul, Nat.reduceSub, Nat.reduceLeDiff, Nat.reduceBEq, Nat.reduceBNe, Int.reduceNeg, Int.reduceLT, Int.reduceLE, Int.reduceAdd, Int.reduceSub, Int.reduceToNat, Int.reduceEq, Int.reduceBEq, reduceCtorEq, List.cons.injEq, Int.reduceBNe, Int.sub_zero, decide_true, decide_false, false_and, and_false, hb, e0, hx, f1])
  refine stop_call (f19_ok _ b s o (by omega)) ?_ ?_
  · first | trivial | (simp only [go_sem, Nat.reduceEqDiff, ↓reduceIte, reduceIte, Nat.reduceAdd, Nat.reduceMul, Nat.reduceSub, Nat.reduceLeDiff, Nat.reduceBEq, Nat.reduceBNe, Int.reduceNeg, Int.reduceLT, Int.reduceLE, Int.reduceAdd, Int.reduceSub, Int.reduceToNat, Int.reduceEq, Int.reduceBEq, reduceCtorEq, List.cons.injEq, Int.reduceBNe, Int.sub_zero, decide_true, decide_false, false_and, and_false, hb, lgC]; done)
  repeat (first
    | with_reducible refine W_seq fun K hK => ?_
    | ((with_reducible refine W_reg ?_ ?_); (· rfl); simp only [go_sem, Nat.reduceEqDiff, ↓reduceIte, reduceIte, Nat.reduceAdd, Nat.reduceMul, Nat.reduceSub, Nat.reduceLeDiff, Nat.reduceBEq, Nat.reduceBNe, Int.reduceNeg, Int.reduceLT, Int.reduceLE, Int.reduceAdd, Int.reduceSub, Int.reduceToNat, Int.reduceEq, Int.reduceBEq, reduceCtorEq, List.cons.injEq, Int.reduceBNe, Int.sub_zero, decide_true, decide_false, false_and, and_false, w1, f2, w2])
    | ((with_reducible refine hK _ ?_); clear hK K)
    | (refine W_skip (hK _ ?_); clear hK K)
    | (refine W_cond rfl (fun hc => ?_) (fun hc => ?_); (· cases hc); clear hc)
    | (refine W_cond rfl (fun hc => ?_) (fun hc => ?_); rotate_left; (· cases hc); clear hc)
    | with_reducible refine W_block ?_
    | ((with_reducible refine W_exit ?_); simp only [go_sem, Nat.reduceEqDiff, ↓reduceIte, reduceIte, Nat.reduceAdd, Nat.reduceMul, Nat.reduceSub, Nat.reduceLeDiff, Nat.reduceBEq, Nat.reduceBNe, Int.reduceNeg, Int.reduceLT, Int.reduceLE, Int.reduceAdd, Int.reduceSub, Int.reduceToNat, Int.reduceEq, Int.reduceBEq, reduceCtorEq, List.cons.injEq, Int.reduceBNe, Int.sub_zero, decide_true, decide_false, false_and, and_false, w1, f2, w2])
    | ((with_reducible refine W_ret ?_); simp only [go_sem, Nat.reduceEqDiff, ↓reduceIte, reduceIte, Nat.reduceAdd, Nat.reduceMul, Nat.reduceSub, Nat.reduceLeDiff, Nat.reduceBEq, Nat.reduceBNe, Int.reduceNeg, Int.reduceLT, Int.reduceLE, Int.reduceAdd, Int.reduceSub, Int.reduceToNat, Int.reduceEq, Int.reduceBEq, reduceCtorEq, List.cons.injEq, Int.reduceBNe, Int.sub_zero, decide_true, decide_false, false_and, and_false, w1, f2, w2])
    | (clear hK K; (with_reducible refine hK _ ?_); clear hK K)
    | (clear hK K; clear hK K; (with_reducible refine hK _ ?_); clear hK K)
    | (clear hK K; clear hK K; clear hK K; (with_reducible refine hK _ ?_); clear hK K)
    | refine And.intro (by decide) (And.intro (by decide) ?_)
    | refine And.intro (by omega) ?_
    | simp only [go_sem, Nat.reduceEqDiff, ↓reduceIte, reduceIte, Nat.reduceAdd, Nat.reduceMul, Nat.reduceSub, Nat.reduceLeDiff, Nat.reduceBEq, Nat.reduceBNe, Int.reduceNeg, Int.reduceLT, Int.reduceLE, Int.reduceAdd, Int.reduceSub, Int.reduceToNat, Int.reduceEq, Int.reduceBEq, reduceCtorEq, List.cons.injEq, Int.reduceBNe, Int.sub_zero, decide_true, decide_false, false_and, and_false, w1, f2, w2])
  refine stop_call (f17_ok _ b s o (e.i - 1) hs (by omega)) ?_ ?_
  · first | trivial | (simp only [go_sem, Nat.reduceEqDiff, ↓reduceIte, reduceIte, Nat.reduceAdd, Nat.reduceMul, Nat.reduceSub, Nat.reduceLeDiff, Nat.reduceBEq, Nat.reduceBNe, Int.reduceNeg, Int.reduceLT, Int.reduceLE, Int.reduceAdd, Int.reduceSub, Int.reduceToNat, Int.reduceEq, Int.reduceBEq, reduceCtorEq, List.cons.injEq, Int.reduceBNe, Int.sub_zero, decide_true, decide_false, false_and, and_false, hb, lgC]; done)
  repeat (first
    | with_reducible refine W_seq fun K hK => ?_
    | ((with_reducible refine W_reg ?_ ?_); (· rfl); simp only [go_sem, Nat.reduceEqDiff, ↓reduceIte, reduceIte, Nat.reduceAdd, Nat.reduceMul, Nat.reduceSub, Nat.reduceLeDiff, Nat.reduceBEq, Nat.reduceBNe, Int.reduceNeg, Int.reduceLT, Int.reduceLE, Int.reduceAdd, Int.reduceSub, Int.reduceToNat, Int.reduceEq, Int.reduceBEq, reduceCtorEq, List.cons.injEq, Int.reduceBNe, Int.sub_zero, decide_true, decide_false, false_and, and_false, w2])
    | ((with_reducible refine hK _ ?_); clear hK K)
    | (refine W_skip (hK _ ?_); clear hK K)
    | (refine W_cond rfl (fun hc => ?_) (fun hc => ?_); (· cases hc); clear hc)
    | (refine W_cond rfl (fun hc => ?_) (fun hc => ?_); rotate_left; (· cases hc); clear hc)
    | with_reducible refine W_block ?_
    | ((with_reducible refine W_exit ?_); simp only [go_sem, Nat.reduceEqDiff, ↓reduceIte, reduceIte, Nat.reduceAdd, Nat.reduceMul, Nat.reduceSub, Nat.reduceLeDiff, Nat.reduceBEq, Nat.reduceBNe, Int.reduceNeg, Int.reduceLT, Int.reduceLE, Int.reduceAdd, Int.reduceSub, Int.reduceToNat, Int.reduceEq, Int.reduceBEq, reduceCtorEq, List.cons.injEq, Int.reduceBNe, Int.sub_zero, decide_true, decide_false, false_and, and_false, w2])
    | ((with_reducible refine W_ret ?_); simp only [go_sem, Nat.reduceEqDiff, ↓reduceIte, reduceIte, Nat.reduceAdd, Nat.reduceMul, Nat.reduceSub, Nat.reduceLeDiff, Nat.reduceBEq, Nat.reduceBNe, Int.reduceNeg, Int.reduceLT, Int.reduceLE, Int.reduceAdd, Int.reduceSub, Int.reduceToNat, Int.reduceEq, Int.reduceBEq, reduceCtorEq, List.cons.injEq, Int.reduceBNe, Int.sub_zero, decide_true, decide_false, false_and, and_false, w2])
    | (clear hK K; (with_reducible refine hK _ ?_); clear hK K)
    | (clear hK K; clear hK K; (with_reducible refine hK _ ?_); clear hK K)
    | (clear hK K; clear hK K; clear hK K; (with_reducible refine hK _ ?_); clear hK K)
    | refine And.intro (by decide) (And.intro (by decide) ?_)
    | refine And.intro (by omega) ?_
    | simp only [go_sem, Nat.reduceEqDiff, ↓reduceIte, reduceIte, Nat.reduceAdd, Nat.reduceMul, Nat.reduceSub, Nat.reduceLeDiff, Nat.reduceBEq, Nat.reduceBNe, Int.reduceNeg, Int.reduceLT, Int.reduceLE, Int.reduceAdd, Int.reduceSub, Int.reduceToNat, Int.reduceEq, Int.reduceBEq, reduceCtorEq, List.cons.injEq, Int.reduceBNe, Int.sub_zero, decide_true, decide_false, false_and, and_false, w2])
  refine stop_call (f23_ok _ (e.i - 1) _ p (by omega) hn hd) ?_ ?_
  · first | trivial | (simp only [go_sem, Nat.reduceEqDiff, ↓reduceIte, reduceIte, Nat.reduceAdd, Nat.reduceMul, Nat.reduceSub, Nat.reduceLeDiff, Nat.reduceBEq, Nat.reduceBNe, Int.reduceNeg, Int.reduceLT, Int.reduceLE, Int.reduceAdd, Int.reduceSub, Int.reduceToNat, Int.reduceEq, Int.reduceBEq, reduceCtorEq, List.cons.injEq, Int.reduceBNe, Int.sub_zero, decide_true, decide_false, false_and, and_false]; done)
  repeat (first
    | with_reducible refine W_seq fun K hK => ?_
    | ((with_reducible refine W_reg ?_ ?_); (· rfl); simp only [go_sem, Nat.reduceEqDiff, ↓reduceIte, reduceIte, Nat.reduceAdd, Nat.reduceMul, Nat.reduceSub, Nat.reduceLeDiff, Nat.reduceBEq, Nat.reduceBNe, Int.reduceNeg, Int.reduceLT, Int.reduceLE, Int.reduceAdd, Int.reduceSub, Int.reduceToNat, Int.reduceEq, Int.reduceBEq, reduceCtorEq, List.cons.injEq, Int.reduceBNe, Int.sub_zero, decide_true, decide_false, false_and, and_false, f3])
    | ((with_reducible refine hK _ ?_); clear hK K)
    | (refine W_skip (hK _ ?_); clear hK K)
    | (refine W_cond rfl (fun hc => ?_) (fun hc => ?_); (· cases hc); clear hc)
    | (refine W_cond rfl (fun hc => ?_) (fun hc => ?_); rotate_left; (· cases hc); clear hc)
    | with_reducible refine W_block ?_
    | ((with_reducible refine W_exit ?_); simp only [go_sem, Nat.reduceEqDiff, ↓reduceIte, reduceIte, Nat.reduceAdd, Nat.reduceMul, Nat.reduceSub, Nat.reduceLeDiff, Nat.reduceBEq, Nat.reduceBNe, Int.reduceNeg, Int.reduceLT, Int.reduceLE, Int.reduceAdd, Int.reduceSub, Int.reduceToNat, Int.reduceEq, Int.reduceBEq, reduceCtorEq, List.cons.injEq, Int.reduceBNe, Int.sub_zero, decide_true, decide_false, false_and, and_false, f3])
    | ((with_reducible refine W_ret ?_); simp only [go_sem, Nat.reduceEqDiff, ↓reduceIte, reduceIte, Nat.reduceAdd, Nat.reduceMul, Nat.reduceSub, Nat.reduceLeDiff, Nat.reduceBEq, Nat.reduceBNe, Int.reduceNeg, Int.reduceLT, Int.reduceLE, Int.reduceAdd, Int.reduceSub, Int.reduceToNat, Int.reduceEq, Int.reduceBEq, reduceCtorEq, List.cons.injEq, Int.reduceBNe, Int.sub_zero, decide_true, decide_false, false_and, and_false, f3])
    | (clear hK K; (with_reducible refine hK _ ?_); clear hK K)
    | (clear hK K; clear hK K; (with_reducible refine hK _ ?_); clear hK K)
    | (clear hK K; clear hK K; clear hK K; (with_reducible refine hK _ ?_); clear hK K)
    | refine And.intro (by decide) (And.intro (by decide) ?_)
    | refine And.intro (by omega) ?_
    | simp only [go_sem, Nat.reduceEqDiff, ↓reduceIte, reduceIte, Nat.reduceAdd, Nat.reduceMul, Nat.reduceSub, Nat.reduceLeDiff, Nat.reduceBEq, Nat.reduceBNe, Int.reduceNeg, Int.reduceLT, Int.reduceLE, Int.reduceAdd, Int.reduceSub, Int.reduceToNat, Int.reduceEq, Int.reduceBEq, reduceCtorEq, List.cons.injEq, Int.reduceBNe, Int.sub_zero, decide_true, decide_false, false_and, and_false, f3])
  refine ends_ret ?_ (by (repeat first | exact HLe.refl _ | refine HLe.set ?_ _ _ | refine HLe.fresh ?_ (hfr [_, _])))
  simp only [go_sem, Nat.reduceEqDiff, ↓reduceIte, reduceIte, Nat.reduceAdd, Nat.reduceMul, Nat.reduceSub, Nat.reduceLeDiff, Nat.reduceBEq, Nat.reduceBNe, Int.reduceNeg, Int.reduceLT, Int.reduceLE, Int.reduceAdd, Int.reduceSub, Int.reduceToNat, Int.reduceEq, Int.reduceBEq, reduceCtorEq, List.cons.injEq, Int.reduceBNe, Int.sub_zero, decide_true, decide_false, false_and, and_false, Try.f10]

set_option maxRecDepth 8000 in
open Classical in
theorem f11_bad (id b : BId) (s : Snp) (o p : Option (List Ent)) (hs : 0 ≤ s.i) (hl : lastL s (sqL o) ≤ 2305843009213693952) (hn : (sqL p).length ≤ 1000) (hd : ∀ e ∈ sqL p, (sqL e.d).length ≤ 1000) (hbad : ¬ putOk s (sqL o) (sqL p)) :
    CallF Try.prog 11 [.ptr b 0, sq Ent.enc p] id [(b, .cells 57 (lgC s o))] (.p (.bool false)) [] := by
  refine ⟨⟨_, Try.func11, by decide, rfl⟩, (by simp <;> repeat first | exact ⟨[_, _], rfl⟩ | constructor), fun h hr => callsA_of_W Try.func11 rfl fun hfr => ?_⟩
  have hb := hr.1; simp only [lgC] at hb
  have hl2 : lastL s (sqL o) = s.i + (sqL o).length := rfl
  rcases hq : sqL p with _ | ⟨e, rest⟩
  · have e0 : (((sqL p).length : Int) == 0) = true := by rw [hq]; rfl
    repeat (first
      | with_reducible refine W_seq fun K hK => ?_
      | ((with_reducible refine W_reg ?_ ?_); (· rfl); simp only [go_sem, Nat.reduceEqDiff, ↓reduceIte, reduceIte, Nat.reduceAdd, Nat.reduceMul, Nat.reduceSub, Nat.reduceLeDiff, Nat.reduceBEq, Nat.reduceBNe, Int.reduceNeg, Int.reduceLT, Int.reduceLE, Int.reduceAdd, Int.reduceSub, Int.reduceToNat, Int.reduceEq, Int.reduceBEq, reduceCtorEq, List.cons.injEq, Int.reduceBNe, Int.sub_zero, decide_true, decide_false, false_and, and_false, hb, e0])
      | ((with_reducible refine hK _ ?_); clear hK K)
      | (refine W_skip (hK _ ?_); clear hK K)
      | (refine W_cond rfl (fun hc => ?_) (fun hc => ?_); (· cases hc); clear hc)
      | (refine W_cond rfl (fun hc => ?_) (fun hc => ?_); rotate_left; (· cases hc); clear hc)
      | with_reducible refine W_block ?_
      | ((with_reducible refine W_exit ?_); simp only [go_sem, Nat.reduceEqDiff, ↓reduceIte, reduceIte, Nat.reduceAdd, Nat.reduceMul, Nat.reduceSub, Nat.reduceLeDiff, Nat.reduceBEq, Nat.reduceBNe, Int.reduceNeg, Int.reduceLT, Int.reduceLE, Int.reduceAdd, Int.reduceSub, Int.reduceToNat, Int.reduceEq, Int.reduceBEq, reduceCtorEq, List.cons.injEq, Int.reduceBNe, Int.sub_zero, decide_true, decide_false, false_and, and_false, hb, e0])
      | ((with_reducible refine W_ret ?_); simp only [go_sem, Nat.reduceEqDiff, ↓reduceIte, reduceIte, Nat.reduceAdd, Nat.reduceMul, Nat.reduceSub, Nat.reduceLeDiff, Nat.reduceBEq, Nat.reduceBNe, Int.reduceNeg, Int.reduceLT, Int.reduceLE, Int.reduceAdd, Int.reduceSub, Int.reduceToNat, Int.reduceEq, Int.reduceBEq, reduceCtorEq, List.cons.injEq, Int.reduceBNe, Int.sub_zero, decide_true, decide_false, false_and, and_false, hb, e0])
      | (clear hK K; (with_reducible refine hK _ ?_); clear hK K)
      | (clear hK K; clear hK K; (with_reducible refine hK _ ?_); clear hK K)
      | (clear hK K; clear hK K; clear hK K; (with_reducible refine hK _ ?_); clear hK K)
      | refine And.intro (by decide) (And.intro (by decide) ?_)
      | refine And.intro (by omega) ?_
      | simp only [go_sem, Nat.reduceEqDiff, ↓reduceIte, reduceIte, Nat.reduceAdd, Nat.reduceMul, Nat.reduceSub, Nat.reduceLeDiff, Nat.reduceBEq, Nat.reduceBNe, Int.reduceNeg, Int.reduceLT, Int.reduceLE, Int.reduceAdd, Int.reduceSub, Int.reduceToNat, Int.reduceEq, Int.reduceBEq, reduceCtorEq, List.cons.injEq, Int.reduceBNe, Int.sub_zero, decide_true, decide_false, false_and, and_false, hb, e0])
    refine W_drw ([] :: [0] :: [0, 1] :: [0, 1, 2] :: [0, 1, 2, 3] :: [0, 1, 2, 3, 4] :: [0, 1, 2, 3, 4, 5] :: [0, 1, 2, 3, 4, 5, 6] :: [0, 1, 2, 3] :: [0, 1, 2, 3, 8] :: [0, 1, 2, 3, 8, 9] :: [0, 1, 2, 3, 8, 9, 10] :: [0, 1, 2, 3, 8, 9, 10, 11] :: [0, 1, 2, 3, 4, 5, 6, 7, 8, 9, 10, 11, 12] :: [0, 1, 2, 3, 4, 5, 6, 7, 8, 9, 10, 11, 12, 13] :: [0, 1, 2, 3, 4, 5, 6, 7, 8, 9, 10, 11, 12, 13, 14] :: [0, 1, 2, 3, 4, 5, 6, 7, 8, 9, 10, 11, 12, 13, 14, 15] :: [0, 1, 2, 3, 4, 5, 6, 7, 8, 9, 10, 11, 12, 13, 14, 15, 16] :: [0, 1, 2, 3, 4, 5, 6, 7, 8, 9, 10, 11, 12, 13, 14, 15, 16, 17] :: [0, 1, 2, 3, 4, 5, 6, 7, 8, 9, 10, 11, 12, 13, 14, 15, 16, 17, 18] :: [0, 1, 2, 3, 4, 5, 6, 7, 8, 9, 10, 11, 12, 13, 14, 15] :: [0, 1, 2, 3, 4, 5, 6, 7, 8, 9, 10, 11, 12, 13, 14, 15, 20] :: [0, 1, 2, 3, 4, 5, 6, 7, 8, 9, 10, 11, 12, 13, 14, 15, 20, 21] :: [0, 1, 2, 3, 4, 5, 6, 7, 8, 9, 10, 11, 12, 13, 14, 15, 16, 17, 18, 19, 20, 21, 22] :: [0, 1, 2, 3, 4, 5, 6, 7, 8, 9, 10, 11, 12, 13, 14, 15, 16, 17, 18, 19, 20, 21, 22, 23] :: []) follows_mixed (by rfl) (by rfl) ?_
    repeat (first
      | with_reducible refine W_seq fun K hK => ?_
      | ((with_reducible refine W_reg ?_ ?_); (· rfl); simp only [go_sem, Nat.reduceEqDiff, ↓reduceIte, reduceIte, Nat.reduceAdd, Nat.reduceMul, Nat.reduceSub, Nat.reduceLeDiff, Nat.reduceBEq, Nat.reduceBNe, Int.reduceNeg, Int.reduceLT, Int.reduceLE, Int.reduceAdd, Int.reduceSub, Int.reduceToNat, Int.reduceEq, Int.reduceBEq, reduceCtorEq, List.cons.injEq, Int.reduceBNe, Int.sub_zero, decide_true, decide_false, false_and, and_false, hb, e0])
      | ((with_reducible refine hK _ ?_); clear hK K)
      | (refine W_skip (hK _ ?_); clear hK K)
      | (refine W_cond rfl (fun hc => ?_) (fun hc => ?_); (· cases hc); clear hc)
      | (refine W_cond rfl (fun hc => ?_) (fun hc => ?_); rotate_left; (· cases hc); clear hc)
      | with_reducible refine W_block ?_
      | ((with_reducible refine W_exit ?_); simp only [go_sem, Nat.reduceEqDiff, ↓reduceIte, reduceIte, Nat.reduceAdd, Nat.reduceMul, Nat.reduceSub, Nat.reduceLeDiff, Nat.reduceBEq, Nat.reduceBNe, Int.reduceNeg, Int.reduceLT, Int.reduceLE, Int.reduceAdd, Int.reduceSub, Int.reduceToNat, Int.reduceEq, Int.reduceBEq, reduceCtorEq, List.cons.injEq, Int.reduceBNe, Int.sub_zero, decide_true, decide_false, false_and, and_false, hb, e0])
      | ((with_reducible refine W_ret ?_); simp only [go_sem, Nat.reduceEqDiff, ↓reduceIte, reduceIte, Nat.reduceAdd, Nat.reduceMul, Nat.reduceSub, Nat.reduceLeDiff, Nat.reduceBEq, Nat.reduceBNe, Int.reduceNeg, Int.reduceLT, Int.reduceLE, Int.reduceAdd, Int.reduceSub, Int.reduceToNat, Int.reduceEq, Int.reduceBEq, reduceCtorEq, List.cons.injEq, Int.reduceBNe, Int.sub_zero, decide_true, decide_false, false_and, and_false, hb, e0])
      | (clear hK K; (with_reducible refine hK _ ?_); clear hK K)
      | (clear hK K; clear hK K; (with_reducible refine hK _ ?_); clear hK K)
      | (clear hK K; clear hK K; clear hK K; (with_reducible refine hK _ ?_); clear hK K)
      | refine And.intro (by decide) (And.intro (by decide) ?_)
      | refine And.intro (by omega) ?_
      | simp only [go_sem, Nat.reduceEqDiff, ↓reduceIte, reduceIte, Nat.reduceAdd, Nat.reduceMul, Nat.reduceSub, Nat.reduceLeDiff, Nat.reduceBEq, Nat.reduceBNe, Int.reduceNeg, Int.reduceLT, Int.reduceLE, Int.reduceAdd, Int.reduceSub, Int.reduceToNat, Int.reduceEq, Int.reduceBEq, reduceCtorEq, List.cons.injEq, Int.reduceBNe, Int.sub_zero, decide_true, decide_false, false_and, and_false, hb, e0])
    refine ends_ret ?_ (by (repeat first | exact HLe.refl _ | refine HLe.set ?_ _ _ | refine HLe.fresh ?_ (hfr [_, _])))
    simp only [go_sem, Nat.reduceEqDiff, ↓reduceIte, reduceIte, Nat.reduceAdd, Nat.reduceMul, Nat.reduceSub, Nat.reduceLeDiff, Nat.reduceBEq, Nat.reduceBNe, Int.reduceNeg, Int.reduceLT, Int.reduceLE, Int.reduceAdd, Int.reduceSub, Int.reduceToNat, Int.reduceEq, Int.reduceBEq, reduceCtorEq, List.cons.injEq, Int.reduceBNe, Int.sub_zero, decide_true, decide_false, false_and, and_false, Try.f11]
  have e0 : (((sqL p).length : Int) == 0) = false := by rw [hq]; simp <;> omega
  have hx : (sqL p).flatMap Ent.enc = [.p (.int .i64 e.i), .p (.int .i64 e.t), .p (.int .i64 e.k), sq bE e.d] ++ rest.flatMap Ent.enc := by rw [hq]; rfl
  have hl3 : (0 : Int) < ((sqL p).length : Int) := by rw [hq]; simp <;> omega
  by_cases c1 : e.i ≤ s.i
  · have f1 : decide (e.i ≤ s.i) = true := by simpa using c1
    repeat (first
      | with_reducible refine W_seq fun K hK => ?_
      | ((with_reducible refine W_reg ?_ ?_); (· rfl); simp only [go_sem, Nat.reduceEqDiff, ↓reduceIte, reduceIte, Nat.reduceAdd, Nat.reduceMul, Nat.reduceSub, Nat.reduceLeDiff, Nat.reduceBEq, Nat.reduceBNe, Int.reduceNeg, Int.reduceLT, Int.reduceLE, Int.reduceAdd, Int.reduceSub, Int.reduceToNat, Int.reduceEq, Int.reduceBEq, reduceCtorEq, List.cons.injEq, Int.reduceBNe, Int.sub_zero, decide_true, decide_false, false_and, and_false, hb, e0, hx, f1])
      | ((with_reducible refine hK _ ?_); clear hK K)
      | (refine W_skip (hK _ ?_); clear hK K)
      | (refine W_cond rfl (fun hc => ?_) (fun hc => ?_); (· cases hc); clear hc)
      | (refine W_cond rfl (fun hc => ?_) (fun hc => ?_); rotate_left; (· cases hc); clear hc)
      | with_reducible refine W_block ?_
      | ((with_reducible refine W_exit ?_); simp only [go_sem, Nat.reduceEqDiff, ↓reduceIte, reduceIte, Nat.reduceAdd, Nat.reduceMul, Nat.reduceSub, Nat.reduceLeDiff, Nat.reduceBEq, Nat.reduceBNe, Int.reduceNeg, Int.reduceLT, Int.reduceLE, Int.reduceAdd, Int.reduceSub, Int.reduceToNat, Int.reduceEq, Int.reduceBEq, reduceCtorEq, List.cons.injEq, Int.reduceBNe, Int.sub_zero, decide_true, decide_false, false_and, and_false, hb, e0, hx, f1])
      | ((with_reducible refine W_ret ?_); simp only [go_sem, Nat.reduceEqDiff, ↓reduceIte, reduceIte, Nat.reduceAdd, Nat.reduceMul, Nat.reduceSub, Nat.reduceLeDiff, Nat.reduceBEq, Nat.reduceBNe, Int.reduceNeg, Int.reduceLT, Int.reduceLE, Int.reduceAdd, Int.reduceSub, Int.reduceToNat, Int.reduceEq, Int.reduceBEq, reduceCtorEq, List.cons.injEq, Int.reduceBNe, Int.sub_zero, decide_true, decide_false, false_and, and_false, hb, e0, hx, f1])
      | (clear hK K; (with_reducible refine hK _ ?_); clear hK K)
      | (clear hK K; clear hK K; (with_reducible refine hK _ ?_); clear hK K)
      | (clear hK K; clear hK K; clear hK K; (with_reducible refine hK _ ?_); clear hK K)
      | refine And.intro (by decide) (And.intro (by decide) ?_)
      | refine And.intro (by omega) ?_
      | simp only [go_sem, Nat.reduceEqDiff, ↓reduceIte, reduceIte, Nat.reduceAdd, Nat.reduceMul, Nat.reduceSub, Nat.reduceLeDiff, Nat.reduceBEq, Nat.reduceBNe, Int.reduceNeg, Int.reduceLT, Int.reduceLE, Int.reduceAdd, Int.reduceSub, Int.reduceToNat, Int.reduceEq, Int.reduceBEq, reduceCtorEq, List.cons.injEq, Int.reduceBNe, Int.sub_zero, decide_true, decide_false, false_and, and_false, hb, e0, hx, f1])
    refine W_drw ([] :: [0] :: [0, 1] :: [0, 1, 2] :: [0, 1, 2, 3] :: [0, 1, 2, 3, 4] :: [0, 1, 2, 3, 4, 5] :: [0, 1, 2, 3, 4, 5, 6] :: [0, 1, 2, 3] :: [0, 1, 2, 3, 8] :: [0, 1, 2, 3, 8, 9] :: [0, 1, 2, 3, 8, 9, 10] :: [0, 1, 2, 3, 8, 9, 10, 11] :: [0, 1, 2, 3, 4, 5, 6, 7, 8, 9, 10, 11, 12] :: [0, 1, 2, 3, 4, 5, 6, 7, 8, 9, 10, 11, 12, 13] :: [0, 1, 2, 3, 4, 5, 6, 7, 8, 9, 10, 11, 12, 13, 14] :: [0, 1, 2, 3, 4, 5, 6, 7, 8, 9, 10, 11, 12, 13, 14, 15] :: [0, 1, 2, 3, 4, 5, 6, 7, 8, 9, 10, 11, 12, 13, 14, 15, 16] :: [0, 1, 2, 3, 4, 5, 6, 7, 8, 9, 10, 11, 12, 13, 14, 15, 16, 17] :: [0, 1, 2, 3, 4, 5, 6, 7, 8, 9, 10, 11, 12, 13, 14, 15, 16, 17, 18] :: [0, 1, 2, 3, 4, 5, 6, 7, 8, 9, 10, 11, 12, 13, 14, 15] :: [0, 1, 2, 3, 4, 5, 6, 7, 8, 9, 10, 11, 12, 13, 14, 15, 20] :: [0, 1, 2, 3, 4, 5, 6, 7, 8, 9, 10, 11, 12, 13, 14, 15, 20, 21] :: [0, 1, 2, 3, 4, 5, 6, 7, 8, 9, 10, 11, 12, 13, 14, 15, 16, 17, 18, 19, 20, 21, 22] :: [0, 1, 2, 3, 4, 5, 6, 7, 8, 9, 10, 11, 12, 13, 14, 15, 16, 17, 18, 19, 20, 21, 22, 23] :: []) follows_mixed (by rfl) (by rfl) ?_
    repeat (first
      | with_reducible refine W_seq fun K hK => ?_
      | ((with_reducible refine W_reg ?_ ?_); (· rfl); simp only [go_sem, Nat.reduceEqDiff, ↓reduceIte, reduceIte, Nat.reduceAdd, Nat.reduceMul, Nat.reduceSub, Nat.reduceLeDiff, Nat.reduceBEq, Nat.reduceBNe, Int.reduceNeg, Int.reduceLT, Int.reduceLE, Int.reduceAdd, Int.reduceSub, Int.reduceToNat, Int.reduceEq, Int.reduceBEq, reduceCtorEq, List.cons.injEq, Int.reduceBNe, Int.sub_zero, decide_true, decide_false, false_and, and_false, hb, e0, hx, f1])
      | ((with_reducible refine hK _ ?_); clear hK K)
      | (refine W_skip (hK _ ?_); clear hK K)
      | (refine W_cond rfl (fun hc => ?_) (fun hc => ?_); (· cases hc); clear hc)
      | (refine W_cond rfl (fun hc => ?_) (fun hc => ?_); rotate_left; (· cases hc); clear hc)
      | with_reducible refine W_block ?_
      | ((with_reducible refine W_exit ?_); simp only [go_sem, Nat.reduceEqDiff, ↓reduceIte, reduceIte, Nat.reduceAdd, Nat.reduceMul, Nat.reduceSub, Nat.reduceLeDiff, Nat.reduceBEq, Nat.reduceBNe, Int.reduceNeg, Int.reduceLT, Int.reduceLE, Int.reduceAdd, Int.reduceSub, Int.reduceToNat, Int.reduceEq, Int.reduceBEq, reduceCtorEq, List.cons.injEq, Int.reduceBNe, Int.sub_zero, decide_true, decide_false, false_and, and_false, hb, e0, hx, f1])
      | ((with_reducible refine W_ret ?_); simp only [go_sem, Nat.reduceEqDiff, ↓reduceIte, reduceIte, Nat.reduceAdd, Nat.reduceMul, Nat.reduceSub, Nat.reduceLeDiff, Nat.reduceBEq, Nat.reduceBNe, Int.reduceNeg, Int.reduceLT, Int.reduceLE, Int.reduceAdd, Int.reduceSub, Int.reduceToNat, Int.reduceEq, Int.reduceBEq, reduceCtorEq, List.cons.injEq, Int.reduceBNe, Int.sub_zero, decide_true, decide_false, false_and, and_false, hb, e0, hx, f1])
      | (clear hK K; (with_reducible refine hK _ ?_); clear hK K)
      | (clear hK K; clear hK K; (with_reducible refine hK _ ?_); clear hK K)
      | (clear hK K; clear hK K; clear hK K; (with_reducible refine hK _ ?_); clear hK K)
      | refine And.intro (by decide) (And.intro (by decide) ?_)
      | refine And.intro (by omega) ?_
      | simp only [go_sem, Nat.reduceEqDiff, ↓reduceIte, reduceIte, Nat.reduceAdd, Nat.reduceMul, Nat.reduceSub, Nat.reduceLeDiff, Nat.reduceBEq, Nat.reduceBNe, Int.reduceNeg, Int.reduceLT, Int.reduceLE, Int.reduceAdd, Int.reduceSub, Int.reduceToNat, Int.reduceEq, Int.reduceBEq, reduceCtorEq, List.cons.injEq, Int.reduceBNe, Int.sub_zero, decide_true, decide_false, false_and, and_false, hb, e0, hx, f1])
    refine ends_ret ?_ (by (repeat first | exact HLe.refl _ | refine HLe.set ?_ _ _ | refine HLe.fresh ?_ (hfr [_, _])))
    simp only [go_sem, Nat.reduceEqDiff, ↓reduceIte, reduceIte, Nat.reduceAdd, Nat.reduceMul, Nat.reduceSub, Nat.reduceLeDiff, Nat.reduceBEq, Nat.reduceBNe, Int.reduceNeg, Int.reduceLT, Int.reduceLE, Int.reduceAdd, Int.reduceSub, Int.reduceToNat, Int.reduceEq, Int.reduceBEq, reduceCtorEq, List.cons.injEq, Int.reduceBNe, Int.sub_zero, decide_true, decide_false, false_and, and_false, Try.f11]
  have f1 : decide (e.i ≤ s.i) = false := by simpa using c1
  have w1 : IntKind.i64.wrap (lastL s (sqL o) + 1) = lastL s (sqL o) + 1 := wrap_i64 (by omega)
  by_cases c2 : e.i > lastL s (sqL o) + 1
  · have f2 : decide (e.i > lastL s (sqL o) + 1) = true := by simpa using c2
    repeat (first
      | with_reducible refine W_seq fun K hK => ?_
      | ((with_reducible refine W_reg ?_ ?_); (· rfl); simp only [go_sem, Nat.reduceEqDiff, ↓reduceIte, reduceIte, Nat.reduceAdd, Nat.reduceMul, Nat.reduceSub, Nat.reduceLeDiff, Nat.reduceBEq, Nat.reduceBNe, Int.reduceNeg, Int.reduceLT, Int.reduceLE, Int.reduceAdd, Int.reduceSub, Int.reduceToNat, Int.reduceEq, Int.reduceBEq, reduceCtorEq, List.cons.injEq, Int.reduceBNe, Int.sub_zero, decide_true, decide_false, false_and, and_false, hb, e0, hx, f1])
      | ((with_reducible refine hK _ ?_); clear hK K)
      | (refine W_skip (hK _ ?_); clear hK K)
      | (refine W_cond rfl (fun hc => ?_) (fun hc => ?_); (· cases hc); clear hc)
      | (refine W_cond rfl (fun hc => ?_) (fun hc => ?_); rotate_left; (· cases hc); clear hc)
      | with_reducible refine W_block ?_
      | ((with_reducible refine W_exit ?_); simp only [go_sem, Nat.reduceEqDiff, ↓reduceIte, reduceIte, Nat.reduceAdd, Nat.reduceMul, Nat.reduceSub, Nat.reduceLeDiff, Nat.reduceBEq, Nat.reduceBNe, Int.reduceNeg, Int.reduceLT, Int.reduceLE, Int.reduceAdd, Int.reduceSub, Int.reduceToNat, Int.reduceEq, Int.reduceBEq, reduceCtorEq, List.cons.injEq, Int.reduceBNe, Int.sub_zero, decide_true, decide_false, false_and, and_false, hb, e0, hx, f1])
      | ((with_reducible refine W_ret ?_); simp only [go_sem, Nat.reduceEqDiff, ↓reduceIte, reduceIte, Nat.reduceAdd, Nat.reduceMul, Nat.reduceSub, Nat.reduceLeDiff, Nat.reduceBEq, Nat.reduceBNe, Int.reduceNeg, Int.reduceLT, Int.reduceLE, Int.reduceAdd, Int.reduceSub, Int.reduceToNat, Int.reduceEq, Int.reduceBEq, reduceCtorEq, List.cons.injEq, Int.reduceBNe, Int.sub_zero, decide_true, decide_false, false_and, and_false, hb, e0, hx, f1])
      | (clear hK K; (with_reducible refine hK _ ?_); clear hK K)
      | (clear hK K; clear hK K; (with_reducible refine hK _ ?_); clear hK K)
      | (clear hK K; clear hK K; clear hK K; (with_reducible refine hK _ ?_); clear hK K)
      | refine And.intro (by decide) (And.intro (by decide) ?_)
      | refine And.intro (by omega) ?_
      | simp only [go_sem, Nat.reduceEqDiff, ↓reduceIte, reduceIte, Nat.reduceAdd, Nat.reduceMul, Nat.reduceSub, Nat.reduceLeDiff, Nat.reduceBEq, Nat.reduceBNe, Int.reduceNeg, Int.reduceLT, Int.reduceLE, Int.reduceAdd, Int.reduceSub, Int.reduceToNat, Int.reduceEq, Int.reduceBEq, reduceCtorEq, List.cons.injEq, Int.reduceBNe, Int.sub_zero, decide_true, decide_false, false_and, and_false, hb, e0, hx, f1])
    refine W_drw ([] :: [0] :: [0, 1] :: [0, 1, 2] :: [0, 1, 2, 3] :: [0, 1, 2, 3, 4] :: [0, 1, 2, 3, 4, 5] :: [0, 1, 2, 3, 4, 5, 6] :: [0, 1, 2, 3] :: [0, 1, 2, 3, 8] :: [0, 1, 2, 3, 8, 9] :: [0, 1, 2, 3, 8, 9, 10] :: [0, 1, 2, 3, 8, 9, 10, 11] :: [0, 1, 2, 3, 4, 5, 6, 7, 8, 9, 10, 11, 12] :: [0, 1, 2, 3, 4, 5, 6, 7, 8, 9, 10, 11, 12, 13] :: [0, 1, 2, 3, 4, 5, 6, 7, 8, 9, 10, 11, 12, 13, 14] :: [0, 1, 2, 3, 4, 5, 6, 7, 8, 9, 10, 11, 12, 13, 14, 15] :: [0, 1, 2, 3, 4, 5, 6, 7, 8, 9, 10, 11, 12, 13, 14, 15, 16] :: [0, 1, 2, 3, 4, 5, 6, 7, 8, 9, 10, 11, 12, 13, 14, 15, 16, 17] :: [0, 1, 2, 3, 4, 5, 6, 7, 8, 9, 10, 11, 12, 13, 14, 15, 16, 17, 18] :: [0, 1, 2, 3, 4, 5, 6, 7, 8, 9, 10, 11, 12, 13, 14, 15] :: [0, 1, 2, 3, 4, 5, 6, 7, 8, 9, 10, 11, 12, 13, 14, 15, 20] :: [0, 1, 2, 3, 4, 5, 6, 7, 8, 9, 10, 11, 12, 13, 14, 15, 20, 21] :: [0, 1, 2, 3, 4, 5, 6, 7, 8, 9, 10, 11, 12, 13, 14, 15, 16, 17, 18, 19, 20, 21, 22] :: [0, 1, 2, 3, 4, 5, 6, 7, 8, 9, 10, 11, 12, 13, 14, 15, 16, 17, 18, 19, 20, 21, 22, 23] :: []) follows_mixed (by rfl) (by rfl) ?_
    repeat (first
      | with_reducible refine W_seq fun K hK => ?_
      | ((with_reducible refine W_reg ?_ ?_); (· rfl); simp only [go_sem, Nat.reduceEqDiff, ↓reduceIte, reduceIte, Nat.reduceAdd, Nat.reduceMul, Nat.reduceSub, Nat.reduceLeDiff, Nat.reduceBEq, Nat.reduceBNe, Int.reduceNeg, Int.reduceLT, Int.reduceLE, Int.reduceAdd, Int.reduceSub, Int.reduceToNat, Int.reduceEq, Int.reduceBEq, reduceCtorEq, List.cons.injEq, Int.reduceBNe, Int.sub_zero, decide_true, decide_false, false_and, and_false, hb, e0, hx, f1])
      | ((with_reducible refine hK _ ?_); clear hK K)
      | (refine W_skip (hK _ ?_); clear hK K)
      | (refine W_cond rfl (fun hc => ?_) (fun hc => ?_); (· cases hc); clear hc)
      | (refine W_cond rfl (fun hc => ?_) (fun hc => ?_); rotate_left; (· cases hc); clear hc)
      | with_reducible refine W_block ?_
      | ((with_reducible refine W_exit ?_); simp only [go_sem, Nat.reduceEqDiff, ↓reduceIte, reduceIte, Nat.reduceAdd, Nat.reduceMul, Nat.reduceSub, Nat.reduceLeDiff, Nat.reduceBEq, Nat.reduceBNe, Int.reduceNeg, Int.reduceLT, Int.reduceLE, Int.reduceAdd, Int.reduceSub, Int.reduceToNat, Int.reduceEq, Int.reduceBEq, reduceCtorEq, List.cons.injEq, Int.reduceBNe, Int.sub_zero, decide_true, decide_false, false_and, and_false, hb, e0, hx, f1])
      | ((with_reducible refine W_ret ?_); simp only [go_sem, Nat.reduceEqDiff, ↓reduceIte, reduceIte, Nat.reduceAdd, Nat.reduceMul, Nat.reduceSub, Nat.reduceLeDiff, Nat.reduceBEq, Nat.reduceBNe, Int.reduceNeg, Int.reduceLT, Int.reduceLE, Int.reduceAdd, Int.reduceSub, Int.reduceToNat, Int.reduceEq, Int.reduceBEq, reduceCtorEq, List.cons.injEq, Int.reduceBNe, Int.sub_zero, decide_true, decide_false, false_and, and_false, hb, e0, hx, f1])
      | (clear hK K; (with_reducible refine hK _ ?_); clear hK K)
      | (clear hK K; clear hK K; (with_reducible refine hK _ ?_); clear hK K)
      | (clear hK K; clear hK K; clear hK K; (with_reducible refine hK _ ?_); clear hK K)
      | refine And.intro (by decide) (And.intro (by decide) ?_)
      | refine And.intro (by omega) ?_
      | simp only [go_sem, Nat.reduceEqDiff, ↓reduceIte, reduceIte, Nat.reduceAdd, Nat.reduceMul, Nat.reduceSub, Nat.reduceLeDiff, Nat.reduceBEq, Nat.reduceBNe, Int.reduceNeg, Int.reduceLT, Int.reduceLE, Int.reduceAdd, Int.reduceSub, Int.reduceToNat, Int.reduceEq, Int.reduceBEq, reduceCtorEq, List.cons.injEq, Int.reduceBNe, Int.sub_zero, decide_true, decide_false, false_and, and_false, hb, e0, hx, f1])
    refine stopD_call (f27_ok _ b s o (by omega)) ?_ ?_
    · first | trivial | (simp only [go_sem, Nat.reduceEqDiff, ↓reduceIte, reduceIte, Nat.reduceAdd, Nat.reduceMul, Nat.reduceSub, Nat.reduceLeDiff, Nat.reduceBEq, Nat.reduceBNe, Int.reduceNeg, Int.reduceLT, Int.reduceLE, Int.reduceAdd, Int.reduceSub, Int.reduceToNat, Int.reduceEq, Int.reduceBEq, reduceCtorEq, List.cons.injEq, Int.reduceBNe, Int.sub_zero, decide_true, decide_false, false_and, and_false, hb, lgC]; done)
    repeat (first
      | with_reducible refine W_seq fun K hK => ?_
      | ((with_reducible refine W_reg ?_ ?_); (· rfl); simp only [go_sem, Nat.reduceEqDiff, ↓reduceIte, reduceIte, Nat.reduceAdd, Nat.reduceMul, Nat.reduceSub, Nat.reduceLeDiff, Nat.reduceBEq, Nat.reduceBNe, Int.reduceNeg, Int.reduceLT, Int.reduceLE, Int.reduceAdd, Int.reduceSub, Int.reduceToNat, Int.reduceEq, Int.reduceBEq, reduceCtorEq, List.cons.injEq, Int.reduceBNe, Int.sub_zero, decide_true, decide_false, false_and, and_false, w1, f2])
      | ((with_reducible refine hK _ ?_); clear hK K)
      | (refine W_skip (hK _ ?_); clear hK K)
      | (refine W_cond rfl (fun hc => ?_) (fun hc => ?_); (· cases hc); clear hc)
      | (refine W_cond rfl (fun hc => ?_) (fun hc => ?_); rotate_left; (· cases hc); clear hc)
      | with_reducible refine W_block ?_
      | ((with_reducible refine W_exit ?_); simp only [go_sem, Nat.reduceEqDiff, ↓reduceIte, reduceIte, Nat.reduceAdd, Nat.reduceMul, Nat.reduceSub, Nat.reduceLeDiff, Nat.reduceBEq, Nat.reduceBNe, Int.reduceNeg, Int.reduceLT, Int.reduceLE, Int.reduceAdd, Int.reduceSub, Int.reduceToNat, Int.reduceEq, Int.reduceBEq, reduceCtorEq, List.cons.injEq, Int.reduceBNe, Int.sub_zero, decide_true, decide_false, false_and, and_false, w1, f2])
      | ((with_reducible refine W_ret ?_); simp only [go_sem, Nat.reduceEqDiff, ↓reduceIte, reduceIte, Nat.reduceAdd, Nat.reduceMul, Nat.reduceSub, Nat.reduceLeDiff, Nat.reduceBEq, Nat.reduceBNe, Int.reduceNeg, Int.reduceLT, Int.reduceLE, Int.reduceAdd, Int.reduceSub, Int.reduceToNat, Int.reduceEq, Int.reduceBEq, reduceCtorEq, List.cons.injEq, Int.reduceBNe, Int.sub_zero, decide_true, decide_false, false_and, and_false, w1, f2])
      | (clear hK K; (with_reducible refine hK _ ?_); clear hK K)
      | (clear hK K; clear hK K; (with_reducible refine hK _ ?_); clear hK K)
      | (clear hK K; clear hK K; clear hK K; (with_reducible refine hK _ ?_); clear hK K)
      | refine And.intro (by decide) (And.intro (by decide) ?_)
      | refine And.intro (by omega) ?_
      | simp only [go_sem, Nat.reduceEqDiff, ↓reduceIte, reduceIte, Nat.reduceAdd, Nat.reduceMul, Nat.reduceSub, Nat.reduceLeDiff, Nat.reduceBEq, Nat.reduceBNe, Int.reduceNeg, Int.reduceLT, Int.reduceLE, Int.reduceAdd, Int.reduceSub, Int.reduceToNat, Int.reduceEq, Int.reduceBEq, reduceCtorEq, List.cons.injEq, Int.reduceBNe, Int.sub_zero, decide_true, decide_false, false_and, and_false, w1, f2])
    refine ends_ret ?_ (by (repeat first | exact HLe.refl _ | refine HLe.set ?_ _ _ | refine HLe.fresh ?_ (hfr [_, _])))
    simp only [go_sem, Nat.reduceEqDiff, ↓reduceIte, reduceIte, Nat.reduceAdd, Nat.reduceMul, Nat.reduceSub, Nat.reduceLeDiff, Nat.reduceBEq, Nat.reduceBNe, Int.reduceNeg, Int.reduceLT, Int.reduceLE, Int.reduceAdd, Int.reduceSub, Int.reduceToNat, Int.reduceEq, Int.reduceBEq, reduceCtorEq, List.cons.injEq, Int.reduceBNe, Int.sub_zero, decide_true, decide_false, false_and, and_false, Try.f11]
  have f2 : decide (e.i > lastL s (sqL o) + 1) = false := by simpa using c2
  have w2 : IntKind.i64.wrap (e.i - 1) = e.i - 1 := wrap_i64 (by omega)
  have f3 : decide (goodL (e.i - 1) (termL s (sqL o) (e.i - 1)).1 (sqL p)) = false := by
    simp only [decide_eq_false_iff_not]
    intro hg
    exact hbad ⟨by rw [hq]; simp, by rw [hq]; simp [headI]; omega, by rw [hq]; simp [headI]; omega, by rw [hq] at hg ⊢; exact hg⟩
  repeat (first
    | with_reducible refine W_seq fun K hK => ?_
    | ((with_reducible refine W_reg ?_ ?_); (· rfl); simp only [go_sem, Nat.reduceEqDiff, ↓reduceIte, reduceIte, Nat.reduceAdd, Nat.reduceMul, Nat.reduceSub, Nat.reduceLeDiff, Nat.reduceBEq, Nat.reduceBNe, Int.reduceNeg, Int.reduceLT, Int.reduceLE, Int.reduceAdd, Int.reduceSub, Int.reduceToNat, Int.reduceEq, Int.reduceBEq, reduceCtorEq, List.cons.injEq, Int.reduceBNe, Int.sub_zero, decide_true, decide_false, false_and, and_false, hb, e0, hx, f1])
    | ((with_reducible refine hK _ ?_); clear hK K)
    | (refine W_skip (hK _ ?_); clear hK K)
    | (refine W_cond rfl (fun hc => ?_) (fun hc => ?_); (· cases hc); clear hc)
    | (refine W_cond rfl (fun hc => ?_) (fun hc => ?_); rotate_left; (· cases hc); clear hc)
    | with_reducible refine W_block ?_
    | ((with_reducible refine W_exit ?_); simp only [go_sem, Nat.reduceEqDiff, ↓reduceIte, reduceIte, Nat.reduceAdd, Nat.reduceMul, Nat.reduceSub, Nat.reduceLeDiff, Nat.reduceBEq, Nat.reduceBNe, Int.reduceNeg, Int.reduceLT, Int.reduceLE, Int.reduceAdd, Int.reduceSub, Int.reduceToNat, Int.reduceEq, Int.reduceBEq, reduceCtorEq, List.cons.injEq, Int.reduceBNe, Int.sub_zero, decide_true, decide_false, false_and, and_false, hb, e0, hx, f1])
    | ((with_reducible refine W_ret ?_); simp only [go_sem, Nat.reduceEqDiff, ↓reduceIte, reduceIte, Nat.reduceAdd, Nat.reduceMul, Nat.reduceSub, Nat.reduceLeDiff, Nat.reduceBEq, Nat.reduceBNe, Int.reduceNeg, Int.reduceLT, Int.reduceLE, Int.reduceAdd, Int.reduceSub, Int.reduceToNat, Int.reduceEq, Int.reduceBEq, reduceCtorEq, List.cons.injEq, Int.reduceBNe, Int.sub_zero, decide_true, decide_false, false_and, and_false, hb, e0, hx, f1])
    | (clear hK K; (with_reducible refine hK _ ?_); clear hK K)
    | (clear hK K; clear hK K; (with_reducible refine hK _ ?_); clear hK K)
    | (clear hK K; clear hK K; clear hK K; (with_reducible refine hK _ ?_); clear hK K)
    | refine And.intro (by decide) (And.intro (by decide) ?_)
    | refine And.intro (by omega) ?_
    | simp only [go_sem, Nat.reduceEqDiff, ↓reduceIte, reduceIte, Nat.reduceAdd, Nat.reduceMul, Nat.reduceSub, Nat.reduceLeDiff, Nat.reduceBEq, Nat.reduceBNe, Int.reduceNeg, Int.reduceLT, Int.reduceLE, Int.reduceAdd, Int.reduceSub, Int.reduceToNat, Int.reduceEq, Int.reduceBEq, reduceCtorEq, List.cons.injEq, Int.reduceBNe, Int.sub_zero, decide_true, decide_false, false_and, and_false, hb, e0, hx, f1])
  refine W_drw ([] :: [0] :: [0, 1] :: [0, 1, 2] :: [0, 1, 2, 3] :: [0, 1, 2, 3, 4] :: [0, 1, 2, 3, 4, 5] :: [0, 1, 2, 3, 4, 5, 6] :: [0, 1, 2, 3] :: [0, 1, 2, 3, 8] :: [0, 1, 2, 3, 8, 9] :: [0, 1, 2, 3, 8, 9, 10] :: [0, 1, 2, 3, 8, 9, 10, 11] :: [0, 1, 2, 3, 4, 5, 6, 7, 8, 9, 10, 11, 12] :: [0, 1, 2, 3, 4, 5, 6, 7, 8, 9, 10, 11, 12, 13] :: [0, 1, 2, 3, 4, 5, 6, 7, 8, 9, 10, 11, 12, 13, 14] :: [0, 1, 2, 3, 4, 5, 6, 7, 8, 9, 10, 11, 12, 13, 14, 15] :: [0, 1, 2, 3, 4, 5, 6, 7, 8, 9, 10, 11, 12, 13, 14, 15, 16] :: [0, 1, 2, 3, 4, 5, 6, 7, 8, 9, 10, 11, 12, 13, 14, 15, 16, 17] :: [0, 1, 2, 3, 4, 5, 6, 7, 8, 9, 10, 11, 12, 13, 14, 15, 16, 17, 18] :: [0, 1, 2, 3, 4, 5, 6, 7, 8, 9, 10, 11, 12, 13, 14, 15] :: [0, 1, 2, 3, 4, 5, 6, 7, 8, 9, 10, 11, 12, 13, 14, 15, 20] :: [0, 1, 2, 3, 4, 5, 6, 7, 8, 9, 10, 11, 12, 13, 14, 15, 20, 21] :: [0, 1, 2, 3, 4, 5, 6, 7, 8, 9, 10, 11, 12, 13, 14, 15, 16, 17, 18, 19, 20, 21, 22] :: [0, 1, 2, 3, 4, 5, 6, 7, 8, 9, 10, 11, 12, 13, 14, 15, 16, 17, 18, 19, 20, 21, 22, 23] :: []) follows_mixed (by rfl) (by rfl) ?_
  repeat (first
    | with_reducible refine W_seq fun K hK => ?_
    | ((with_reducible refine W_reg ?_ ?_); (· rfl); simp only [go_sem, Nat.reduceEqDiff, ↓reduceIte, reduceIte, Nat.reduceAdd, Nat.reduceMul, Nat.reduceSub, Nat.reduceLeDiff, Nat.reduceBEq, Nat.reduceBNe, Int.reduceNeg, Int.reduceLT, Int.reduceLE, Int.reduceAdd, Int.reduceSub, Int.reduceToNat, Int.reduceEq, Int.reduceBEq, reduceCtorEq, List.cons.injEq, Int.reduceBNe, Int.sub_zero, decide_true, decide_false, false_and, and_false, hb, e0, hx, f1])
    | ((with_reducible refine hK _ ?_); clear hK K)
    | (refine W_skip (hK _ ?_); clear hK K)
    | (refine W_cond rfl (fun hc => ?_) (fun hc => ?_); (· cases hc); clear hc)
    | (refine W_cond rfl (fun hc => ?_) (fun hc => ?_); rotate_left; (· cases hc); clear hc)
    | with_reducible refine W_block ?_
    | ((with_reducible refine W_exit ?_); simp only [go_sem, Nat.reduceEqDiff, ↓reduceIte, reduceIte, Nat.reduceAdd, Nat.reduceMul, Nat.reduceSub, Nat.reduceLeDiff, Nat.reduceBEq, Nat.reduceBNe, Int.reduceNeg, Int.reduceLT, Int.reduceLE, Int.reduceAdd, Int.reduceSub, Int.reduceToNat, Int.reduceEq, Int.reduceBEq, reduceCtorEq, List.cons.injEq, Int.reduceBNe, Int.sub_zero, decide_true, decide_false, false_and, and_false, hb, e0, hx, f1])
    | ((with_reducible refine W_ret ?_); simp only [go_sem, Nat.reduceEqDiff, ↓reduceIte, reduceIte, Nat.reduceAdd, Nat.reduceMul, Nat.reduceSub, Nat.reduceLeDiff, Nat.reduceBEq, Nat.reduceBNe, Int.reduceNeg, Int.reduceLT, Int.reduceLE, Int.reduceAdd, Int.reduceSub, Int.reduceToNat, Int.reduceEq, Int.reduceBEq, reduceCtorEq, List.cons.injEq, Int.reduceBNe, Int.sub_zero, decide_true, decide_false, false_and, and_false, hb, e0, hx, f1])
    | (clear hK K; (with_reducible refine hK _ ?_); clear hK K)
    | (clear hK K; clear hK K; (with_reducible refine hK _ ?_); clear hK K)
    | (clear hK K; clear hK K; clear hK K; (with_reducible refine hK _ ?_); clear hK K)
    | refine And.intro (by decide) (And.intro (by decide) ?_)
    | refine And.intro (by omega) ?_
    | simp only [go_sem, Nat.reduceEqDiff, ↓reduceIte, reduceIte, Nat.reduceAdd, Nat.reduceMul, Nat.reduceSub, Nat.reduceLeDiff, Nat.reduceBEq, Nat.reduceBNe, Int.reduceNeg, Int.reduceLT, Int.reduceLE, Int.reduceAdd, Int.reduceSub, Int.reduceToNat, Int.reduceEq, Int.reduceBEq, reduceCtorEq, List.cons.injEq, Int.reduceBNe, Int.sub_zero, decide_true, decide_false, false_and, and_false, hb, e0, hx, f1])
  refine stopD_call (f27_ok _ b s o (by omega)) ?_ ?_
  · first | trivial | (simp only [go_sem, Nat.reduceEqDiff, ↓reduceIte, reduceIte, Nat.reduceAdd, Nat.reduceMul, Nat.reduceSub, Nat.reduceLeDiff, Nat.reduceBEq, Nat.reduceBNe, Int.reduceNeg, Int.reduceLT, Int.reduceLE, Int.reduceAdd, Int.reduceSub, Int.reduceToNat, Int.reduceEq, Int.reduceBEq, reduceCtorEq, List.cons.injEq, Int.reduceBNe, Int.sub_zero, decide_true, decide_false, false_and, and_false, hb, lgC]; done)
  repeat (first
    | with_reducible refine W_seq fun K hK => ?_
    | ((with_reducible refine W_reg ?_ ?_); (· rfl); simp only [go_sem, Nat.reduceEqDiff, ↓reduceIte, reduceIte, Nat.reduceAdd, Nat.reduceMul, Nat.reduceSub, Nat.reduceLeDiff, Nat.reduceBEq, Nat.reduceBNe, Int.reduceNeg, Int.reduceLT, Int.reduceLE, Int.reduceAdd, Int.reduceSub, Int.reduceToNat, Int.reduceEq, Int.reduceBEq, reduceCtorEq, List.cons.injEq, Int.reduceBNe, Int.sub_zero, decide_true, decide_false, false_and, and_false, w1, f2, w2, hx, hb])
    | ((with_reducible refine hK _ ?_); clear hK K)
    | (refine W_skip (hK _ ?_); clear hK K)
    | (refine W_cond rfl (fun hc => ?_) (fun hc => ?_); (· cases hc); clear hc)
    | (refine W_cond rfl (fun hc => ?_) (fun hc => ?_); rotate_left; (· cases hc); clear hc)
    | with_reducible refine W_block ?_
    | ((with_reducible refine W_exit ?_); simp only [go_sem, Nat.reduceEqDiff, ↓reduceIte, reduceIte, Nat.reduceAdd, Nat.reduceMul, Nat.reduceSub, Nat.reduceLeDiff, Nat.reduceBEq, Nat.reduceBNe, Int.reduceNeg, Int.reduceLT, Int.reduceLE, Int.reduceAdd, Int.reduceSub, Int.reduceToNat, Int.reduceEq, Int.reduceBEq, reduceCtorEq, List.cons.injEq, Int.reduceBNe, Int.sub_zero, decide_true, decide_false, false_and, and_false, w1, f2, w2, hx, hb])
    | ((with_reducible refine W_ret ?_); simp only [go_sem, Nat.reduceEqDiff, ↓reduceIte, reduceIte, Nat.reduceAdd, Nat.reduceMul, Nat.reduceSub, Nat.reduceLeDiff, Nat.reduceBEq, Nat.reduceBNe, Int.reduceNeg, Int.reduceLT, Int.reduceLE, Int.reduceAdd, Int.reduceSub, Int.reduceToNat, Int.reduceEq, Int.reduceBEq, reduceCtorEq, List.cons.injEq, Int.reduceBNe, Int.sub_zero, decide_true, decide_false, false_and, and_false, w1, f2, w2, hx, hb])
    | (clear hK K; (with_reducible refine hK _ ?_); clear hK K)
    | (clear hK K; clear hK K; (with_reducible refine hK _ ?_); clear hK K)
    | (clear hK K; clear hK K; clear hK K; (with_reducible refine hK _ ?_); clear hK K)
    | refine And.intro (by decide) (And.intro (by decide) ?_)
    | refine And.intro (by omega) ?_
    | simp only [go_sem, Nat.reduceEqDiff, ↓reduceIte, reduceIte, Nat.reduceAdd, Nat.reduceMul, Nat.reduceSub, Nat.reduceLeDiff, Nat.reduceBEq, Nat.reduceBNe, Int.reduceNeg, Int.reduceLT, Int.reduceLE, Int.reduceAdd, Int.reduceSub, Int.reduceToNat, Int.reduceEq, Int.reduceBEq, reduceCtorEq, List.cons.injEq, Int.reduceBNe, Int.sub_zero, decide_true, decide_false, false_and, and_false, w1, f2, w2, hx, hb])
  refine stop_call (f32_ok _ b s o (e.i - 1) hs (by omega)) ?_ ?_
  · first | trivial | (simp only [go_sem, Nat.reduceEqDiff, ↓reduceIte, reduceIte, Nat.reduceAdd, Nat.reduceMul, Nat.reduceSub, Nat.reduceLeDiff, Nat.reduceBEq, Nat.reduceBNe, Int.reduceNeg, Int.reduceLT, Int.reduceLE, Int.reduceAdd, Int.reduceSub, Int.reduceToNat, Int.reduceEq, Int.reduceBEq, reduceCtorEq, List.cons.injEq, Int.reduceBNe, Int.sub_zero, decide_true, decide_false, false_and, and_false, hb, lgC]; done)
  repeat (first
    | with_reducible refine W_seq fun K hK => ?_
    | ((with_reducible refine W_reg ?_ ?_); (· rfl); simp only [go_sem, Nat.reduceEqDiff, ↓reduceIte, reduceIte, Nat.reduceAdd, Nat.reduceMul, Nat.reduceSub, Nat.reduceLeDiff, Nat.reduceBEq, Nat.reduceBNe, Int.reduceNeg, Int.reduceLT, Int.reduceLE, Int.reduceAdd, Int.reduceSub, Int.reduceToNat, Int.reduceEq, Int.reduceBEq, reduceCtorEq, List.cons.injEq, Int.reduceBNe, Int.sub_zero, decide_true, decide_false, false_and, and_false, w2, hx])
    | ((with_reducible refine hK _ ?_); clear hK K)
    | (refine W_skip (hK _ ?_); clear hK K)
    | (refine W_cond rfl (fun hc => ?_) (fun hc => ?_); (· cases hc); clear hc)
    | (refine W_cond rfl (fun hc => ?_) (fun hc => ?_); rotate_left; (· cases hc); clear hc)
    | with_reducible refine W_block ?_
    | ((with_reducible refine W_exit ?_); simp only [go_sem, Nat.reduceEqDiff, ↓reduceIte, reduceIte, Nat.reduceAdd, Nat.reduceMul, Nat.reduceSub, Nat.reduceLeDiff, Nat.reduceBEq, Nat.reduceBNe, Int.reduceNeg, Int.reduceLT, Int.reduceLE, Int.reduceAdd, Int.reduceSub, Int.reduceToNat, Int.reduceEq, Int.reduceBEq, reduceCtorEq, List.cons.injEq, Int.reduceBNe, Int.sub_zero, decide_true, decide_false, false_and, and_false, w2, hx])
    | ((with_reducible refine W_ret ?_); simp only [go_sem, Nat.reduceEqDiff, ↓reduceIte, reduceIte, Nat.reduceAdd, Nat.reduceMul, Nat.reduceSub, Nat.reduceLeDiff, Nat.reduceBEq, Nat.reduceBNe, Int.reduceNeg, Int.reduceLT, Int.reduceLE, Int.reduceAdd, Int.reduceSub, Int.reduceToNat, Int.reduceEq, Int.reduceBEq, reduceCtorEq, List.cons.injEq, Int.reduceBNe, Int.sub_zero, decide_true, decide_false, false_and, and_false, w2, hx])
    | (clear hK K; (with_reducible refine hK _ ?_); clear hK K)
    | (clear hK K; clear hK K; (with_reducible refine hK _ ?_); clear hK K)
    | (clear hK K; clear hK K; clear hK K; (with_reducible refine hK _ ?_); clear hK K)
    | refine And.intro (by decide) (And.intro (by decide) ?_)
    | refine And.intro (by omega) ?_
    | simp only [go_sem, Nat.reduceEqDiff, ↓reduceIte, reduceIte, Nat.reduceAdd, Nat.reduceMul, Nat.reduceSub, Nat.reduceLeDiff, Nat.reduceBEq, Nat.reduceBNe, Int.reduceNeg, Int.reduceLT, Int.reduceLE, Int.reduceAdd, Int.reduceSub, Int.reduceToNat, Int.reduceEq, Int.reduceBEq, reduceCtorEq, List.cons.injEq, Int.reduceBNe, Int.sub_zero, decide_true, decide_false, false_and, and_false, w2, hx])
  refine stop_call (f26_ok _ (e.i - 1) _ p (by omega) hn hd) ?_ ?_
  · first | trivial | (simp only [go_sem, Nat.reduceEqDiff, ↓reduceIte, reduceIte, Nat.reduceAdd, Nat.reduceMul, Nat.reduceSub, Nat.reduceLeDiff, Nat.reduceBEq, Nat.reduceBNe, Int.reduceNeg, Int.reduceLT, Int.reduceLE, Int.reduceAdd, Int.reduceSub, Int.reduceToNat, Int.reduceEq, Int.reduceBEq, reduceCtorEq, List.cons.injEq, Int.reduceBNe, Int.sub_zero, decide_true, decide_false, false_and, and_false]; done)
  repeat (first
    | with_reducible refine W_seq fun K hK => ?_
    | ((with_reducible refine W_reg ?_ ?_); (· rfl); simp only [go_sem, Nat.reduceEqDiff, ↓reduceIte, reduceIte, Nat.reduceAdd, Nat.reduceMul, Nat.reduceSub, Nat.reduceLeDiff, Nat.reduceBEq, Nat.reduceBNe, Int.reduceNeg, Int.reduceLT, Int.reduceLE, Int.reduceAdd, Int.reduceSub, Int.reduceToNat, Int.reduceEq, Int.reduceBEq, reduceCtorEq, List.cons.injEq, Int.reduceBNe, Int.sub_zero, decide_true, decide_false, false_and, and_false, f3])
    | ((with_reducible refine hK _ ?_); clear hK K)
    | (refine W_skip (hK _ ?_); clear hK K)
    | (refine W_cond rfl (fun hc => ?_) (fun hc => ?_); (· cases hc); clear hc)
    | (refine W_cond rfl (fun hc => ?_) (fun hc => ?_); rotate_left; (· cases hc); clear hc)
    | with_reducible refine W_block ?_
    | ((with_reducible refine W_exit ?_); simp only [go_sem, Nat.reduceEqDiff, ↓reduceIte, reduceIte, Nat.reduceAdd, Nat.reduceMul, Nat.reduceSub, Nat.reduceLeDiff, Nat.reduceBEq, Nat.reduceBNe, Int.reduceNeg, Int.reduceLT, Int.reduceLE, Int.reduceAdd, Int.reduceSub, Int.reduceToNat, Int.reduceEq, Int.reduceBEq, reduceCtorEq, List.cons.injEq, Int.reduceBNe, Int.sub_zero, decide_true, decide_false, false_and, and_false, f3])
    | ((with_reducible refine W_ret ?_); simp only [go_sem, Nat.reduceEqDiff, ↓reduceIte, reduceIte, Nat.reduceAdd, Nat.reduceMul, Nat.reduceSub, Nat.reduceLeDiff, Nat.reduceBEq, Nat.reduceBNe, Int.reduceNeg, Int.reduceLT, Int.reduceLE, Int.reduceAdd, Int.reduceSub, Int.reduceToNat, Int.reduceEq, Int.reduceBEq, reduceCtorEq, List.cons.injEq, Int.reduceBNe, Int.sub_zero, decide_true, decide_false, false_and, and_false, f3])
    | (clear hK K; (with_reducible refine hK _ ?_); clear hK K)
    | (clear hK K; clear hK K; (with_reducible refine hK _ ?_); clear hK K)
    | (clear hK K; clear hK K; clear hK K; (with_reducible refine hK _ ?_); clear hK K)
    | refine And.intro (by decide) (And.intro (by decide) ?_)
    | refine And.intro (by omega) ?_
    | simp only [go_sem, Nat.reduceEqDiff, ↓reduceIte, reduceIte, Nat.reduceAdd, Nat.reduceMul, Nat.reduceSub, Nat.reduceLeDiff, Nat.reduceBEq, Nat.reduceBNe, Int.reduceNeg, Int.reduceLT, Int.reduceLE, Int.reduceAdd, Int.reduceSub, Int.reduceToNat, Int.reduceEq, Int.reduceBEq, reduceCtorEq, List.cons.injEq, Int.reduceBNe, Int.sub_zero, decide_true, decide_false, false_and, and_false, f3])
  refine ends_ret ?_ (by (repeat first | exact HLe.refl _ | refine HLe.set ?_ _ _ | refine HLe.fresh ?_ (hfr [_, _])))
  simp only [go_sem, Nat.reduceEqDiff, ↓reduceIte, reduceIte, Nat.reduceAdd, Nat.reduceMul, Nat.reduceSub, Nat.reduceLeDiff, Nat.reduceBEq, Nat.reduceBNe, Int.reduceNeg, Int.reduceLT, Int.reduceLE, Int.reduceAdd, Int.reduceSub, Int.reduceToNat, Int.reduceEq, Int.reduceBEq, reduceCtorEq, List.cons.injEq, Int.reduceBNe, Int.sub_zero, decide_true, decide_false, false_and, and_false, Try.f11]
end Go.Proofs.Ytcfmbbebnobflaa
