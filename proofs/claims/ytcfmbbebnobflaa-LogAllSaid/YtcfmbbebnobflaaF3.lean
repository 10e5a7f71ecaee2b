/- Snapshots of one's own; the log's small functions. -/
import Derived.Test.YtcfmbbebnobflaaF2
set_option linter.unusedVariables false
set_option linter.unusedSimpArgs false
namespace Go.Proofs.Ytcfmbbebnobflaa
open Go Go.SX
theorem follows_mixed : Try.prog.follows .mixedOrders = true := by kernel_rfl

/-- rlog.ownSnap. -/
theorem f24_ok (id : BId) (x : Snp) (hd : (sqL x.d).length ≤ 1000) (hc : (sqL x.c).length ≤ 1000) : CallF Try.prog 24 [.agg x.enc] id [] (.agg x.enc) [] := by
  refine ⟨⟨_, Try.func24, by decide, rfl⟩, (by simp <;> repeat first | exact ⟨[_, _], rfl⟩ | constructor), fun h hr => callsA_of_W Try.func24 rfl fun hfr => ?_⟩
  refine W_seq fun K1 hK1 => ?_
  refine W_reg rfl ?_
  simp only [go_sem, Nat.reduceEqDiff, ↓reduceIte, reduceIte, Nat.reduceAdd, Nat.reduceMul, Nat.reduceSub, Nat.reduceLeDiff, Nat.reduceBEq, Nat.reduceBNe, Int.reduceNeg, Int.reduceLT, Int.reduceLE, Int.reduceAdd, Int.reduceSub, Int.reduceToNat, Int.reduceEq, Int.reduceBEq, reduceCtorEq, List.cons.injEq, Int.reduceBNe, Int.sub_zero, decide_true, decide_false, false_and, and_false, ty25, Snp.enc]
  refine hK1 _ ?_; clear hK1 K1
  refine W_seq fun K2 hK2 => ?_
  refine W_drw [[], [0], [0, 1], [], [3], [0, 1, 2, 3, 4], [0, 1, 2, 3, 4], [0, 1, 2, 3, 4, 5, 6], [0, 1, 2, 3, 4, 5, 6, 7], [0, 1, 2, 3, 4, 5, 6, 7, 8]] follows_mixed (by rfl) (by rfl) ?_
  simp only [go_sem, Nat.reduceEqDiff, ↓reduceIte, reduceIte, Nat.reduceAdd, Nat.reduceMul, Nat.reduceSub, Nat.reduceLeDiff, Nat.reduceBEq, Nat.reduceBNe, Int.reduceNeg, Int.reduceLT, Int.reduceLE, Int.reduceAdd, Int.reduceSub, Int.reduceToNat, Int.reduceEq, Int.reduceBEq, reduceCtorEq, List.cons.injEq, Int.reduceBNe, Int.sub_zero, decide_true, decide_false, false_and, and_false, ty2, ty3, ty5, ty22, ty23, ty25]
  refine stopD_call (cloneI_ok _ _ hc) trivial ?_
  simp only [go_sem, Nat.reduceEqDiff, ↓reduceIte, reduceIte, Nat.reduceAdd, Nat.reduceMul, Nat.reduceSub, Nat.reduceLeDiff, Nat.reduceBEq, Nat.reduceBNe, Int.reduceNeg, Int.reduceLT, Int.reduceLE, Int.reduceAdd, Int.reduceSub, Int.reduceToNat, Int.reduceEq, Int.reduceBEq, reduceCtorEq, List.cons.injEq, Int.reduceBNe, Int.sub_zero, decide_true, decide_false, false_and, and_false, ty2, ty3, ty5, ty22, ty23, ty25]
  refine stopD_call (clone_ok _ _ (by omega)) trivial ?_
  simp only [go_sem, Nat.reduceEqDiff, ↓reduceIte, reduceIte, Nat.reduceAdd, Nat.reduceMul, Nat.reduceSub, Nat.reduceLeDiff, Nat.reduceBEq, Nat.reduceBNe, Int.reduceNeg, Int.reduceLT, Int.reduceLE, Int.reduceAdd, Int.reduceSub, Int.reduceToNat, Int.reduceEq, Int.reduceBEq, reduceCtorEq, List.cons.injEq, Int.reduceBNe, Int.sub_zero, decide_true, decide_false, false_and, and_false, ty2, ty3, ty5, ty22, ty23, ty25]
  refine hK2 _ ?_; clear hK2 K2
  refine W_seq fun K3 hK3 => ?_
  refine W_reg rfl ?_
  simp only [go_sem, Nat.reduceEqDiff, ↓reduceIte, reduceIte, Nat.reduceAdd, Nat.reduceMul, Nat.reduceSub, Nat.reduceLeDiff, Nat.reduceBEq, Nat.reduceBNe, Int.reduceNeg, Int.reduceLT, Int.reduceLE, Int.reduceAdd, Int.reduceSub, Int.reduceToNat, Int.reduceEq, Int.reduceBEq, reduceCtorEq, List.cons.injEq, Int.reduceBNe, Int.sub_zero, decide_true, decide_false, false_and, and_false, ty25]
  refine hK3 _ ?_; clear hK3 K3
  refine W_ret ?_
  simp only [go_sem, Nat.reduceEqDiff, ↓reduceIte, reduceIte, Nat.reduceAdd, Nat.reduceMul, Nat.reduceSub, Nat.reduceLeDiff, Nat.reduceBEq, Nat.reduceBNe, Int.reduceNeg, Int.reduceLT, Int.reduceLE, Int.reduceAdd, Int.reduceSub, Int.reduceToNat, Int.reduceEq, Int.reduceBEq, reduceCtorEq, List.cons.injEq, Int.reduceBNe, Int.sub_zero, decide_true, decide_false, false_and, and_false]
  refine ends_ret (by simp only [go_sem, Nat.reduceEqDiff, ↓reduceIte, reduceIte, Nat.reduceAdd, Nat.reduceMul, Nat.reduceSub, Nat.reduceLeDiff, Nat.reduceBEq, Nat.reduceBNe, Int.reduceNeg, Int.reduceLT, Int.reduceLE, Int.reduceAdd, Int.reduceSub, Int.reduceToNat, Int.reduceEq, Int.reduceBEq, reduceCtorEq, List.cons.injEq, Int.reduceBNe, Int.sub_zero, decide_true, decide_false, false_and, and_false, Try.f24, ty25, Snp.enc]) (by (repeat first | exact HLe.refl _ | refine HLe.set ?_ _ _ | refine HLe.fresh ?_ (hfr [_, _])))

/-- A log: a snapshot, and entries behind it. -/
def lgC (s : Snp) (o : Option (List Ent)) : List AV := [.p (.int .i64 s.i), .p (.int .i64 s.t), sq nE s.c, sq bE s.d, sq Ent.enc o]
theorem fr_ne {h : Heap} {id b : BId} {x : Blk} (hf : FrH h id) (hb : h b = some x) (p : List Nat) : (b = p ++ id) = False := by
  rw [eq_iff_iff, iff_false]; rintro rfl; rw [hf p] at hb; cases hb

/-- (*rlog.Log).Base. -/
theorem f18_ok (id b : BId) (s : Snp) (o : Option (List Ent)) : CallF Try.prog 18 [.ptr b 0] id [(b, .cells 53 (lgC s o))] (.p (.int .i64 s.i)) [] := by
  refine ⟨⟨_, Try.func18, by decide, rfl⟩, (by simp <;> repeat first | exact ⟨[_, _], rfl⟩ | constructor), fun h hr => callsA_of_W Try.func18 rfl fun hfr => ?_⟩
  have hb := hr.1; simp only [lgC] at hb
  refine W_seq fun K1 hK1 => ?_
  refine W_reg rfl ?_
  simp only [go_sem, Nat.reduceEqDiff, ↓reduceIte, reduceIte, Nat.reduceAdd, Nat.reduceMul, Nat.reduceSub, Nat.reduceLeDiff, Nat.reduceBEq, Nat.reduceBNe, Int.reduceNeg, Int.reduceLT, Int.reduceLE, Int.reduceAdd, Int.reduceSub, Int.reduceToNat, Int.reduceEq, Int.reduceBEq, reduceCtorEq, List.cons.injEq, Int.reduceBNe, Int.sub_zero, decide_true, decide_false, false_and, and_false]
  refine hK1 _ ?_; clear hK1 K1
  refine W_seq fun K2 hK2 => ?_
  refine W_seq fun K3 hK3 => ?_
  refine W_reg rfl ?_
  simp only [go_sem, Nat.reduceEqDiff, ↓reduceIte, reduceIte, Nat.reduceAdd, Nat.reduceMul, Nat.reduceSub, Nat.reduceLeDiff, Nat.reduceBEq, Nat.reduceBNe, Int.reduceNeg, Int.reduceLT, Int.reduceLE, Int.reduceAdd, Int.reduceSub, Int.reduceToNat, Int.reduceEq, Int.reduceBEq, reduceCtorEq, List.cons.injEq, Int.reduceBNe, Int.sub_zero, decide_true, decide_false, false_and, and_false, ty31]
  refine hK3 _ ?_; clear hK3 K3
  refine W_cond rfl (fun h4 => by cases h4) (fun h4 => ?_)
  refine W_skip (hK2 _ ?_); clear hK2 K2
  refine W_seq fun K6 hK6 => ?_
  refine W_reg rfl ?_
  simp only [go_sem, Nat.reduceEqDiff, ↓reduceIte, reduceIte, Nat.reduceAdd, Nat.reduceMul, Nat.reduceSub, Nat.reduceLeDiff, Nat.reduceBEq, Nat.reduceBNe, Int.reduceNeg, Int.reduceLT, Int.reduceLE, Int.reduceAdd, Int.reduceSub, Int.reduceToNat, Int.reduceEq, Int.reduceBEq, reduceCtorEq, List.cons.injEq, Int.reduceBNe, Int.sub_zero, decide_true, decide_false, false_and, and_false, ty2, ty25, ty53, hb]
  refine hK6 _ ?_; clear hK6 K6
  refine W_ret ?_
  simp only [go_sem, Nat.reduceEqDiff, ↓reduceIte, reduceIte, Nat.reduceAdd, Nat.reduceMul, Nat.reduceSub, Nat.reduceLeDiff, Nat.reduceBEq, Nat.reduceBNe, Int.reduceNeg, Int.reduceLT, Int.reduceLE, Int.reduceAdd, Int.reduceSub, Int.reduceToNat, Int.reduceEq, Int.reduceBEq, reduceCtorEq, List.cons.injEq, Int.reduceBNe, Int.sub_zero, decide_true, decide_false, false_and, and_false]
  refine ends_ret (by simp only [go_sem, Nat.reduceEqDiff, ↓reduceIte, reduceIte, Nat.reduceAdd, Nat.reduceMul, Nat.reduceSub, Nat.reduceLeDiff, Nat.reduceBEq, Nat.reduceBNe, Int.reduceNeg, Int.reduceLT, Int.reduceLE, Int.reduceAdd, Int.reduceSub, Int.reduceToNat, Int.reduceEq, Int.reduceBEq, reduceCtorEq, List.cons.injEq, Int.reduceBNe, Int.sub_zero, decide_true, decide_false, false_and, and_false, Try.f18]) (by (repeat first | exact HLe.refl _ | refine HLe.set ?_ _ _ | refine HLe.fresh ?_ (hfr [_, _])))

/-- (*rlog.Log).Last, the reference's. -/
def lastL (s : Snp) (es : List Ent) : Int := s.i + es.length
theorem f19_ok (id b : BId) (s : Snp) (o : Option (List Ent)) (hw : -9223372036854775808 ≤ lastL s (sqL o) ∧ lastL s (sqL o) ≤ 9223372036854775807) : CallF Try.prog 19 [.ptr b 0] id [(b, .cells 53 (lgC s o))] (.p (.int .i64 (lastL s (sqL o)))) [] := by
  refine ⟨⟨_, Try.func19, by decide, rfl⟩, (by simp <;> repeat first | exact ⟨[_, _], rfl⟩ | constructor), fun h hr => callsA_of_W Try.func19 rfl fun hfr => ?_⟩
  have hb := hr.1; simp only [lgC] at hb
  have e1 : IntKind.i64.wrap (s.i + ↑(sqL o).length) = lastL s (sqL o) := wrap_i64 hw
  refine W_seq fun K1 hK1 => ?_
  refine W_reg rfl ?_
  simp only [go_sem, Nat.reduceEqDiff, ↓reduceIte, reduceIte, Nat.reduceAdd, Nat.reduceMul, Nat.reduceSub, Nat.reduceLeDiff, Nat.reduceBEq, Nat.reduceBNe, Int.reduceNeg, Int.reduceLT, Int.reduceLE, Int.reduceAdd, Int.reduceSub, Int.reduceToNat, Int.reduceEq, Int.reduceBEq, reduceCtorEq, List.cons.injEq, Int.reduceBNe, Int.sub_zero, decide_true, decide_false, false_and, and_false]
  refine hK1 _ ?_; clear hK1 K1
  refine W_seq fun K2 hK2 => ?_
  refine W_seq fun K3 hK3 => ?_
  refine W_reg rfl ?_
  simp only [go_sem, Nat.reduceEqDiff, ↓reduceIte, reduceIte, Nat.reduceAdd, Nat.reduceMul, Nat.reduceSub, Nat.reduceLeDiff, Nat.reduceBEq, Nat.reduceBNe, Int.reduceNeg, Int.reduceLT, Int.reduceLE, Int.reduceAdd, Int.reduceSub, Int.reduceToNat, Int.reduceEq, Int.reduceBEq, reduceCtorEq, List.cons.injEq, Int.reduceBNe, Int.sub_zero, decide_true, decide_false, false_and, and_false, ty31]
  refine hK3 _ ?_; clear hK3 K3
  refine W_cond rfl (fun h4 => by cases h4) (fun h4 => ?_)
  refine W_skip (hK2 _ ?_); clear hK2 K2
  refine W_seq fun K6 hK6 => ?_
  refine W_drw [[], [0], [0, 1], [0, 1, 2], [0, 1, 2, 3], [], [5], [5, 6], [5, 6, 7], [5, 6, 7, 8], [0, 1, 2, 3, 4, 5, 6, 7, 8, 9], [0, 1, 2, 3, 4, 5, 6, 7, 8, 9, 10]] follows_mixed (by rfl) (by rfl) ?_
  simp only [go_sem, Nat.reduceEqDiff, ↓reduceIte, reduceIte, Nat.reduceAdd, Nat.reduceMul, Nat.reduceSub, Nat.reduceLeDiff, Nat.reduceBEq, Nat.reduceBNe, Int.reduceNeg, Int.reduceLT, Int.reduceLE, Int.reduceAdd, Int.reduceSub, Int.reduceToNat, Int.reduceEq, Int.reduceBEq, reduceCtorEq, List.cons.injEq, Int.reduceBNe, Int.sub_zero, decide_true, decide_false, false_and, and_false, ty2, ty25, ty26, ty44, ty53, hb, e1]
  refine hK6 _ ?_; clear hK6 K6
  refine W_ret ?_
  simp only [go_sem, Nat.reduceEqDiff, ↓reduceIte, reduceIte, Nat.reduceAdd, Nat.reduceMul, Nat.reduceSub, Nat.reduceLeDiff, Nat.reduceBEq, Nat.reduceBNe, Int.reduceNeg, Int.reduceLT, Int.reduceLE, Int.reduceAdd, Int.reduceSub, Int.reduceToNat, Int.reduceEq, Int.reduceBEq, reduceCtorEq, List.cons.injEq, Int.reduceBNe, Int.sub_zero, decide_true, decide_false, false_and, and_false]
  refine ends_ret (by simp only [go_sem, Nat.reduceEqDiff, ↓reduceIte, reduceIte, Nat.reduceAdd, Nat.reduceMul, Nat.reduceSub, Nat.reduceLeDiff, Nat.reduceBEq, Nat.reduceBNe, Int.reduceNeg, Int.reduceLT, Int.reduceLE, Int.reduceAdd, Int.reduceSub, Int.reduceToNat, Int.reduceEq, Int.reduceBEq, reduceCtorEq, List.cons.injEq, Int.reduceBNe, Int.sub_zero, decide_true, decide_false, false_and, and_false, Try.f19]) (by (repeat first | exact HLe.refl _ | refine HLe.set ?_ _ _ | refine HLe.fresh ?_ (hfr [_, _])))
theorem f27_ok (id b : BId) (s : Snp) (o : Option (List Ent)) (hw : -9223372036854775808 ≤ lastL s (sqL o) ∧ lastL s (sqL o) ≤ 9223372036854775807) : CallF Try.prog 27 [.ptr b 0] id [(b, .cells 57 (lgC s o))] (.p (.int .i64 (lastL s (sqL o)))) [] := by
  refine ⟨⟨_, Try.func27, by decide, rfl⟩, (by simp <;> repeat first | exact ⟨[_, _], rfl⟩ | constructor), fun h hr => callsA_of_W Try.func27 rfl fun hfr => ?_⟩
  have hb := hr.1; simp only [lgC] at hb
  have e1 : IntKind.i64.wrap (s.i + ↑(sqL o).length) = lastL s (sqL o) := wrap_i64 hw
  refine W_seq fun K1 hK1 => ?_
  refine W_reg rfl ?_
  simp only [go_sem, Nat.reduceEqDiff, ↓reduceIte, reduceIte, Nat.reduceAdd, Nat.reduceMul, Nat.reduceSub, Nat.reduceLeDiff, Nat.reduceBEq, Nat.reduceBNe, Int.reduceNeg, Int.reduceLT, Int.reduceLE, Int.reduceAdd, Int.reduceSub, Int.reduceToNat, Int.reduceEq, Int.reduceBEq, reduceCtorEq, List.cons.injEq, Int.reduceBNe, Int.sub_zero, decide_true, decide_false, false_and, and_false]
  refine hK1 _ ?_; clear hK1 K1
  refine W_seq fun K2 hK2 => ?_
  refine W_drw [[], [0], [0, 1], [0, 1, 2], [0, 1, 2, 3], [], [5], [5, 6], [5, 6, 7], [5, 6, 7, 8], [0, 1, 2, 3, 4, 5, 6, 7, 8, 9], [0, 1, 2, 3, 4, 5, 6, 7, 8, 9, 10]] follows_mixed (by rfl) (by rfl) ?_
  simp only [go_sem, Nat.reduceEqDiff, ↓reduceIte, reduceIte, Nat.reduceAdd, Nat.reduceMul, Nat.reduceSub, Nat.reduceLeDiff, Nat.reduceBEq, Nat.reduceBNe, Int.reduceNeg, Int.reduceLT, Int.reduceLE, Int.reduceAdd, Int.reduceSub, Int.reduceToNat, Int.reduceEq, Int.reduceBEq, reduceCtorEq, List.cons.injEq, Int.reduceBNe, Int.sub_zero, decide_true, decide_false, false_and, and_false, ty2, ty25, ty26, ty44, ty57, hb, e1]
  refine hK2 _ ?_; clear hK2 K2
  refine W_ret ?_
  simp only [go_sem, Nat.reduceEqDiff, ↓reduceIte, reduceIte, Nat.reduceAdd, Nat.reduceMul, Nat.reduceSub, Nat.reduceLeDiff, Nat.reduceBEq, Nat.reduceBNe, Int.reduceNeg, Int.reduceLT, Int.reduceLE, Int.reduceAdd, Int.reduceSub, Int.reduceToNat, Int.reduceEq, Int.reduceBEq, reduceCtorEq, List.cons.injEq, Int.reduceBNe, Int.sub_zero, decide_true, decide_false, false_and, and_false]
  refine ends_ret (by simp only [go_sem, Nat.reduceEqDiff, ↓reduceIte, reduceIte, Nat.reduceAdd, Nat.reduceMul, Nat.reduceSub, Nat.reduceLeDiff, Nat.reduceBEq, Nat.reduceBNe, Int.reduceNeg, Int.reduceLT, Int.reduceLE, Int.reduceAdd, Int.reduceSub, Int.reduceToNat, Int.reduceEq, Int.reduceBEq, reduceCtorEq, List.cons.injEq, Int.reduceBNe, Int.sub_zero, decide_true, decide_false, false_and, and_false, Try.f27]) (by (repeat first | exact HLe.refl _ | refine HLe.set ?_ _ _ | refine HLe.fresh ?_ (hfr [_, _])))
end Go.Proofs.Ytcfmbbebnobflaa
