/- Conf, Snap, Get. -/
import Derived.Test.YtcfmbbebnobflaaF11
set_option linter.unusedVariables false
set_option linter.unusedSimpArgs false
namespace Go.Proofs.Ytcfmbbebnobflaa
open Go Go.SX

set_option maxRecDepth 8000 in
theorem f20_ok (id b : BId) (s : Snp) (o : Option (List Ent)) (hs : 0 ≤ s.i) (hl : lastL s (sqL o) ≤ 4611686018427387904) (hd : ∀ e ∈ sqL o, (sqL e.d).length ≤ 1000) (hc : (sqL s.c).length ≤ 1000) :
    CallF Try.prog 20 [.ptr b 0] id [(b, .cells 53 (lgC s o))] (sq nE (confA s (sqL o) (lastL s (sqL o)))) [] := by
  refine ⟨⟨_, Try.func20, by decide, rfl⟩, (by simp <;> repeat first | exact ⟨[_, _], rfl⟩ | constructor), fun h hr => callsA_of_W Try.func20 rfl fun hfr => ?_⟩
  have hb := hr.1; simp only [lgC] at hb
  have hl2 : lastL s (sqL o) = s.i + (sqL o).length := rfl
  refine W_seq fun K1 hK1 => ?_
  refine W_reg rfl ?_
  simp only [go_sem, Nat.reduceEqDiff, ↓reduceIte, reduceIte, Nat.reduceAdd, Nat.reduceMul, Nat.reduceSub, Nat.reduceLeDiff, Nat.reduceBEq, Nat.reduceBNe, Int.reduceNeg, Int.reduceLT, Int.reduceLE, Int.reduceAdd, Int.reduceSub, Int.reduceToNat, Int.reduceEq, Int.reduceBEq, reduceCtorEq, List.cons.injEq, Int.reduceBNe, Int.sub_zero, decide_true, decide_false, false_and, and_false]
  refine hK1 _ ?_; clear hK1 K1
  refine W_seq fun K2 hK2 => ?_
  refine W_reg rfl ?_
  simp only [go_sem, Nat.reduceEqDiff, ↓reduceIte, reduceIte, Nat.reduceAdd, Nat.reduceMul, Nat.reduceSub, Nat.reduceLeDiff, Nat.reduceBEq, Nat.reduceBNe, Int.reduceNeg, Int.reduceLT, Int.reduceLE, Int.reduceAdd, Int.reduceSub, Int.reduceToNat, Int.reduceEq, Int.reduceBEq, reduceCtorEq, List.cons.injEq, Int.reduceBNe, Int.sub_zero, decide_true, decide_false, false_and, and_false]
  refine stop_call (f19_ok _ b s o (by omega)) ⟨hr.1, trivial⟩ ?_
  simp only [go_sem, Nat.reduceEqDiff, ↓reduceIte, reduceIte, Nat.reduceAdd, Nat.reduceMul, Nat.reduceSub, Nat.reduceLeDiff, Nat.reduceBEq, Nat.reduceBNe, Int.reduceNeg, Int.reduceLT, Int.reduceLE, Int.reduceAdd, Int.reduceSub, Int.reduceToNat, Int.reduceEq, Int.reduceBEq, reduceCtorEq, List.cons.injEq, Int.reduceBNe, Int.sub_zero, decide_true, decide_false, false_and, and_false]
  refine stop_call (f35_ok _ b s o _ hs hl hd hc) ⟨hr.1, trivial⟩ ?_
  simp only [go_sem, Nat.reduceEqDiff, ↓reduceIte, reduceIte, Nat.reduceAdd, Nat.reduceMul, Nat.reduceSub, Nat.reduceLeDiff, Nat.reduceBEq, Nat.reduceBNe, Int.reduceNeg, Int.reduceLT, Int.reduceLE, Int.reduceAdd, Int.reduceSub, Int.reduceToNat, Int.reduceEq, Int.reduceBEq, reduceCtorEq, List.cons.injEq, Int.reduceBNe, Int.sub_zero, decide_true, decide_false, false_and, and_false]
  refine hK2 _ ?_; clear hK2 K2
  refine W_ret ?_
  simp only [go_sem, Nat.reduceEqDiff, ↓reduceIte, reduceIte, Nat.reduceAdd, Nat.reduceMul, Nat.reduceSub, Nat.reduceLeDiff, Nat.reduceBEq, Nat.reduceBNe, Int.reduceNeg, Int.reduceLT, Int.reduceLE, Int.reduceAdd, Int.reduceSub, Int.reduceToNat, Int.reduceEq, Int.reduceBEq, reduceCtorEq, List.cons.injEq, Int.reduceBNe, Int.sub_zero, decide_true, decide_false, false_and, and_false]
  refine ends_ret (by simp only [go_sem, Nat.reduceEqDiff, ↓reduceIte, reduceIte, Nat.reduceAdd, Nat.reduceMul, Nat.reduceSub, Nat.reduceLeDiff, Nat.reduceBEq, Nat.reduceBNe, Int.reduceNeg, Int.reduceLT, Int.reduceLE, Int.reduceAdd, Int.reduceSub, Int.reduceToNat, Int.reduceEq, Int.reduceBEq, reduceCtorEq, List.cons.injEq, Int.reduceBNe, Int.sub_zero, decide_true, decide_false, false_and, and_false, Try.f20]) (HLe.refl _)

set_option maxRecDepth 8000 in
theorem f29_ok (id b : BId) (s : Snp) (o : Option (List Ent)) (hd : (sqL s.d).length ≤ 1000) (hc : (sqL s.c).length ≤ 1000) :
    CallF Try.prog 29 [.ptr b 0] id [(b, .cells 53 (lgC s o))] (.agg s.enc) [] := by
  refine ⟨⟨_, Try.func29, by decide, rfl⟩, (by simp <;> repeat first | exact ⟨[_, _], rfl⟩ | constructor), fun h hr => callsA_of_W Try.func29 rfl fun hfr => ?_⟩
  have hb := hr.1; simp only [lgC] at hb
  have ne1 := fr_ne hfr hr.1 [0, 0]
  simp only [List.cons_append, List.nil_append] at ne1
  refine W_seq fun K1 hK1 => ?_
  refine W_reg rfl ?_
  simp only [go_sem, Nat.reduceEqDiff, ↓reduceIte, reduceIte, Nat.reduceAdd, Nat.reduceMul, Nat.reduceSub, Nat.reduceLeDiff, Nat.reduceBEq, Nat.reduceBNe, Int.reduceNeg, Int.reduceLT, Int.reduceLE, Int.reduceAdd, Int.reduceSub, Int.reduceToNat, Int.reduceEq, Int.reduceBEq, reduceCtorEq, List.cons.injEq, Int.reduceBNe, Int.sub_zero, decide_true, decide_false, false_and, and_false, ty25]
  refine hK1 _ ?_; clear hK1 K1
  refine W_seq fun K2 hK2 => ?_
  refine W_seq fun K3 hK3 => ?_
  refine W_reg rfl ?_
  simp only [go_sem, Nat.reduceEqDiff, ↓reduceIte, reduceIte, Nat.reduceAdd, Nat.reduceMul, Nat.reduceSub, Nat.reduceLeDiff, Nat.reduceBEq, Nat.reduceBNe, Int.reduceNeg, Int.reduceLT, Int.reduceLE, Int.reduceAdd, Int.reduceSub, Int.reduceToNat, Int.reduceEq, Int.reduceBEq, reduceCtorEq, List.cons.injEq, Int.reduceBNe, Int.sub_zero, decide_true, decide_false, false_and, and_false, ty31]
  refine hK3 _ ?_; clear hK3 K3
  refine W_cond rfl (fun h => by cases h) (fun _ => ?_)
  refine W_skip (hK2 _ ?_); clear hK2 K2
  refine W_seq fun K4 hK4 => ?_
  refine W_reg rfl ?_
  simp only [go_sem, Nat.reduceEqDiff, ↓reduceIte, reduceIte, Nat.reduceAdd, Nat.reduceMul, Nat.reduceSub, Nat.reduceLeDiff, Nat.reduceBEq, Nat.reduceBNe, Int.reduceNeg, Int.reduceLT, Int.reduceLE, Int.reduceAdd, Int.reduceSub, Int.reduceToNat, Int.reduceEq, Int.reduceBEq, reduceCtorEq, List.cons.injEq, Int.reduceBNe, Int.sub_zero, decide_true, decide_false, false_and, and_false, ty25, ty53, hb, ne1]
  refine stop_call (f24_ok _ s hd hc) trivial ?_
  simp only [go_sem, Nat.reduceEqDiff, ↓reduceIte, reduceIte, Nat.reduceAdd, Nat.reduceMul, Nat.reduceSub, Nat.reduceLeDiff, Nat.reduceBEq, Nat.reduceBNe, Int.reduceNeg, Int.reduceLT, Int.reduceLE, Int.reduceAdd, Int.reduceSub, Int.reduceToNat, Int.reduceEq, Int.reduceBEq, reduceCtorEq, List.cons.injEq, Int.reduceBNe, Int.sub_zero, decide_true, decide_false, false_and, and_false, ty25, Snp.enc]
  refine hK4 _ ?_; clear hK4 K4
  refine W_ret ?_
  simp only [go_sem, Nat.reduceEqDiff, ↓reduceIte, reduceIte, Nat.reduceAdd, Nat.reduceMul, Nat.reduceSub, Nat.reduceLeDiff, Nat.reduceBEq, Nat.reduceBNe, Int.reduceNeg, Int.reduceLT, Int.reduceLE, Int.reduceAdd, Int.reduceSub, Int.reduceToNat, Int.reduceEq, Int.reduceBEq, reduceCtorEq, List.cons.injEq, Int.reduceBNe, Int.sub_zero, decide_true, decide_false, false_and, and_false]
  refine ends_ret (by simp only [go_sem, Nat.reduceEqDiff, ↓reduceIte, reduceIte, Nat.reduceAdd, Nat.reduceMul, Nat.reduceSub, Nat.reduceLeDiff, Nat.reduceBEq, Nat.reduceBNe, Int.reduceNeg, Int.reduceLT, Int.reduceLE, Int.reduceAdd, Int.reduceSub, Int.reduceToNat, Int.reduceEq, Int.reduceBEq, reduceCtorEq, List.cons.injEq, Int.reduceBNe, Int.sub_zero, decide_true, decide_false, false_and, and_false, Try.f29, ty25, Snp.enc]) (by (repeat first | exact HLe.refl _ | refine HLe.set ?_ _ _ | refine HLe.fresh ?_ (hfr [_, _])))

def zEnt : Ent := ⟨0, 0, 0, none⟩
def getL (s : Snp) (es : List Ent) (i : Int) : Ent := if i ≤ s.i ∨ lastL s es < i then zEnt else es.getD (i - s.i - 1).toNat zEnt
def hasL (s : Snp) (es : List Ent) (i : Int) : Bool := decide (s.i < i ∧ i ≤ lastL s es)
set_option maxRecDepth 8000 in
theorem f33_ok (id b : BId) (s : Snp) (o : Option (List Ent)) (i : Int) (hs : 0 ≤ s.i) (hl : lastL s (sqL o) ≤ 4611686018427387904) (hd : ∀ e ∈ sqL o, (sqL e.d).length ≤ 1000) :
    CallF Try.prog 33 [.ptr b 0, .p (.int .i64 i)] id [(b, .cells 53 (lgC s o))] (.tup [.agg (getL s (sqL o) i).enc, .p (.bool (hasL s (sqL o) i))]) [] := by
  refine ⟨⟨_, Try.func33, by decide, rfl⟩, (by simp <;> repeat first | exact ⟨[_, _], rfl⟩ | constructor), fun h hr => callsA_of_W Try.func33 rfl fun hfr => ?_⟩
  have hb := hr.1; simp only [lgC] at hb
  have hl2 : lastL s (sqL o) = s.i + (sqL o).length := rfl
  have ne1 := fr_ne hfr hr.1 [0, 0]
  simp only [List.cons_append, List.nil_append] at ne1
  refine W_seq fun K1 hK1 => ?_
  refine W_reg rfl ?_
  simp only [go_sem, Nat.reduceEqDiff, ↓reduceIte, reduceIte, Nat.reduceAdd, Nat.reduceMul, Nat.reduceSub, Nat.reduceLeDiff, Nat.reduceBEq, Nat.reduceBNe, Int.reduceNeg, Int.reduceLT, Int.reduceLE, Int.reduceAdd, Int.reduceSub, Int.reduceToNat, Int.reduceEq, Int.reduceBEq, reduceCtorEq, List.cons.injEq, Int.reduceBNe, Int.sub_zero, decide_true, decide_false, false_and, and_false, ty44]
  refine hK1 _ ?_; clear hK1 K1
  by_cases hlo : i ≤ s.i
  · have f1 : decide (i ≤ s.i) = true := by simpa using hlo
    have e1 : getL s (sqL o) i = zEnt := by unfold getL; rw [if_pos (.inl hlo)]
    have e2 : hasL s (sqL o) i = false := by unfold hasL; simp; omega
    rw [e1, e2]
    refine W_seq fun K2 hK2 => ?_
    refine W_seq fun K3 hK3 => ?_
    refine W_reg rfl ?_
    simp only [go_sem, Nat.reduceEqDiff, ↓reduceIte, reduceIte, Nat.reduceAdd, Nat.reduceMul, Nat.reduceSub, Nat.reduceLeDiff, Nat.reduceBEq, Nat.reduceBNe, Int.reduceNeg, Int.reduceLT, Int.reduceLE, Int.reduceAdd, Int.reduceSub, Int.reduceToNat, Int.reduceEq, Int.reduceBEq, reduceCtorEq, List.cons.injEq, Int.reduceBNe, Int.sub_zero, decide_true, decide_false, false_and, and_false, ty2, ty25, ty31, ty53, hb, ne1, f1]
    refine hK3 _ ?_; clear hK3 K3
    refine W_cond rfl (fun h4 => ?_) (fun h4 => by cases h4)
    refine W_seq fun K5 hK5 => ?_
    refine W_reg rfl ?_
    simp only [go_sem, Nat.reduceEqDiff, ↓reduceIte, reduceIte, Nat.reduceAdd, Nat.reduceMul, Nat.reduceSub, Nat.reduceLeDiff, Nat.reduceBEq, Nat.reduceBNe, Int.reduceNeg, Int.reduceLT, Int.reduceLE, Int.reduceAdd, Int.reduceSub, Int.reduceToNat, Int.reduceEq, Int.reduceBEq, reduceCtorEq, List.cons.injEq, Int.reduceBNe, Int.sub_zero, decide_true, decide_false, false_and, and_false, ty44]
    refine hK5 _ ?_; clear hK5 K5
    refine W_ret ?_
    simp only [go_sem, Nat.reduceEqDiff, ↓reduceIte, reduceIte, Nat.reduceAdd, Nat.reduceMul, Nat.reduceSub, Nat.reduceLeDiff, Nat.reduceBEq, Nat.reduceBNe, Int.reduceNeg, Int.reduceLT, Int.reduceLE, Int.reduceAdd, Int.reduceSub, Int.reduceToNat, Int.reduceEq, Int.reduceBEq, reduceCtorEq, List.cons.injEq, Int.reduceBNe, Int.sub_zero, decide_true, decide_false, false_and, and_false]
    refine ends_ret (by simp only [go_sem, Nat.reduceEqDiff, ↓reduceIte, reduceIte, Nat.reduceAdd, Nat.reduceMul, Nat.reduceSub, Nat.reduceLeDiff, Nat.reduceBEq, Nat.reduceBNe, Int.reduceNeg, Int.reduceLT, Int.reduceLE, Int.reduceAdd, Int.reduceSub, Int.reduceToNat, Int.reduceEq, Int.reduceBEq, reduceCtorEq, List.cons.injEq, Int.reduceBNe, Int.sub_zero, decide_true, decide_false, false_and, and_false, Try.f33, ty44, Ent.enc, zEnt] <;> rfl) (by (repeat first | exact HLe.refl _ | refine HLe.set ?_ _ _ | refine HLe.fresh ?_ (hfr [_, _])))
  have f1 : decide (i ≤ s.i) = false := by simpa using hlo
  by_cases hhi : lastL s (sqL o) < i
  · have f2 : decide (i > lastL s (sqL o)) = true := by simpa using hhi
    have e1 : getL s (sqL o) i = zEnt := by unfold getL; rw [if_pos (.inr hhi)]
    have e2 : hasL s (sqL o) i = false := by unfold hasL; simp; omega
    rw [e1, e2]
    refine W_seq fun K2 hK2 => ?_
    refine W_seq fun K3 hK3 => ?_
    refine W_reg rfl ?_
    simp only [go_sem, Nat.reduceEqDiff, ↓reduceIte, reduceIte, Nat.reduceAdd, Nat.reduceMul, Nat.reduceSub, Nat.reduceLeDiff, Nat.reduceBEq, Nat.reduceBNe, Int.reduceNeg, Int.reduceLT, Int.reduceLE, Int.reduceAdd, Int.reduceSub, Int.reduceToNat, Int.reduceEq, Int.reduceBEq, reduceCtorEq, List.cons.injEq, Int.reduceBNe, Int.sub_zero, decide_true, decide_false, false_and, and_false, ty2, ty25, ty31, ty53, hb, ne1, f1]
    refine stop_call (f19_ok _ b s o (by omega)) ⟨by simp only [hset, ne1]; exact hr.1, trivial⟩ ?_
    simp only [go_sem, Nat.reduceEqDiff, ↓reduceIte, reduceIte, Nat.reduceAdd, Nat.reduceMul, Nat.reduceSub, Nat.reduceLeDiff, Nat.reduceBEq, Nat.reduceBNe, Int.reduceNeg, Int.reduceLT, Int.reduceLE, Int.reduceAdd, Int.reduceSub, Int.reduceToNat, Int.reduceEq, Int.reduceBEq, reduceCtorEq, List.cons.injEq, Int.reduceBNe, Int.sub_zero, decide_true, decide_false, false_and, and_false, f2]
    refine hK3 _ ?_; clear hK3 K3
    refine W_cond rfl (fun h4 => ?_) (fun h4 => by cases h4)
    refine W_seq fun K5 hK5 => ?_
    refine W_reg rfl ?_
    simp only [go_sem, Nat.reduceEqDiff, ↓reduceIte, reduceIte, Nat.reduceAdd, Nat.reduceMul, Nat.reduceSub, Nat.reduceLeDiff, Nat.reduceBEq, Nat.reduceBNe, Int.reduceNeg, Int.reduceLT, Int.reduceLE, Int.reduceAdd, Int.reduceSub, Int.reduceToNat, Int.reduceEq, Int.reduceBEq, reduceCtorEq, List.cons.injEq, Int.reduceBNe, Int.sub_zero, decide_true, decide_false, false_and, and_false, ty44]
    refine hK5 _ ?_; clear hK5 K5
    refine W_ret ?_
    simp only [go_sem, Nat.reduceEqDiff, ↓reduceIte, reduceIte, Nat.reduceAdd, Nat.reduceMul, Nat.reduceSub, Nat.reduceLeDiff, Nat.reduceBEq, Nat.reduceBNe, Int.reduceNeg, Int.reduceLT, Int.reduceLE, Int.reduceAdd, Int.reduceSub, Int.reduceToNat, Int.reduceEq, Int.reduceBEq, reduceCtorEq, List.cons.injEq, Int.reduceBNe, Int.sub_zero, decide_true, decide_false, false_and, and_false]
    refine ends_ret (by simp only [go_sem, Nat.reduceEqDiff, ↓reduceIte, reduceIte, Nat.reduceAdd, Nat.reduceMul, Nat.reduceSub, Nat.reduceLeDiff, Nat.reduceBEq, Nat.reduceBNe, Int.reduceNeg, Int.reduceLT, Int.reduceLE, Int.reduceAdd, Int.reduceSub, Int.reduceToNat, Int.reduceEq, Int.reduceBEq, reduceCtorEq, List.cons.injEq, Int.reduceBNe, Int.sub_zero, decide_true, decide_false, false_and, and_false, Try.f33, ty44, Ent.enc, zEnt] <;> rfl) (by (repeat first | exact HLe.refl _ | refine HLe.set ?_ _ _ | refine HLe.fresh ?_ (hfr [_, _])))
  have f2 : decide (i > lastL s (sqL o)) = false := by simpa using hhi
  have hk : (i - s.i - 1).toNat < (sqL o).length := by omega
  have e1 : getL s (sqL o) i = (sqL o)[(i - s.i - 1).toNat] := by unfold getL; rw [if_neg (by omega), List.getD_eq_getElem?_getD, List.getElem?_eq_getElem hk]; rfl
  have e2 : hasL s (sqL o) i = true := by unfold hasL; simp; omega
  have e3 : IntKind.i64.wrap (i - s.i) = i - s.i := wrap_i64 (by omega)
  have e4 : IntKind.i64.wrap (i - s.i - 1) = i - s.i - 1 := wrap_i64 (by omega)
  have e5 := flatMap_at Ent.enc_len (sqL o) _ hk
  have e6 : 0 ≤ i - s.i - 1 ∧ i - s.i - 1 < (sqL o).length := by omega
  have hdn := hd _ (List.getElem_mem hk)
  rw [e1, e2]
  generalize (sqL o)[(i - s.i - 1).toNat] = y at *
  refine W_seq fun K2 hK2 => ?_
  refine W_seq fun K3 hK3 => ?_
  refine W_reg rfl ?_
  simp only [go_sem, Nat.reduceEqDiff, ↓reduceIte, reduceIte, Nat.reduceAdd, Nat.reduceMul, Nat.reduceSub, Nat.reduceLeDiff, Nat.reduceBEq, Nat.reduceBNe, Int.reduceNeg, Int.reduceLT, Int.reduceLE, Int.reduceAdd, Int.reduceSub, Int.reduceToNat, Int.reduceEq, Int.reduceBEq, reduceCtorEq, List.cons.injEq, Int.reduceBNe, Int.sub_zero, decide_true, decide_false, false_and, and_false, ty2, ty25, ty31, ty53, hb, ne1, f1]
  refine stop_call (f19_ok _ b s o (by omega)) ⟨by simp only [hset, ne1]; exact hr.1, trivial⟩ ?_
  simp only [go_sem, Nat.reduceEqDiff, ↓reduceIte, reduceIte, Nat.reduceAdd, Nat.reduceMul, Nat.reduceSub, Nat.reduceLeDiff, Nat.reduceBEq, Nat.reduceBNe, Int.reduceNeg, Int.reduceLT, Int.reduceLE, Int.reduceAdd, Int.reduceSub, Int.reduceToNat, Int.reduceEq, Int.reduceBEq, reduceCtorEq, List.cons.injEq, Int.reduceBNe, Int.sub_zero, decide_true, decide_false, false_and, and_false, f2]
  refine hK3 _ ?_; clear hK3 K3
  refine W_cond rfl (fun h4 => by cases h4) (fun h4 => ?_)
  refine W_skip (hK2 _ ?_); clear hK2 K2
  refine W_seq fun K4 hK4 => ?_
  refine W_drw [[], [0], [0, 1], [0, 1, 2], [], [], [5], [5, 6], [5, 6, 7], [5, 6, 7, 8], [4, 5, 6, 7, 8, 9], [4, 5, 6, 7, 8, 9, 10], [0, 1, 2, 3, 4, 5, 6, 7, 8, 9, 10, 11], [0, 1, 2, 3, 4, 5, 6, 7, 8, 9, 10, 11, 12], [0, 1, 2, 3, 4, 5, 6, 7, 8, 9, 10, 11, 12, 13], [0, 1, 2, 3, 4, 5, 6, 7, 8, 9, 10, 11, 12, 13, 14], [0, 1, 2, 3, 4, 5, 6, 7, 8, 9, 10, 11, 12, 13, 14, 15]] follows_mixed (by rfl) (by rfl) ?_
  simp only [go_sem, Nat.reduceEqDiff, ↓reduceIte, reduceIte, Nat.reduceAdd, Nat.reduceMul, Nat.reduceSub, Nat.reduceLeDiff, Nat.reduceBEq, Nat.reduceBNe, Int.reduceNeg, Int.reduceLT, Int.reduceLE, Int.reduceAdd, Int.reduceSub, Int.reduceToNat, Int.reduceEq, Int.reduceBEq, reduceCtorEq, List.cons.injEq, Int.reduceBNe, Int.sub_zero, decide_true, decide_false, false_and, and_false, ty2, ty25, ty26, ty44, ty53, hb, ne1, e3, e4, e5, e6, Ent.enc]
  refine stopD_call (own_ok _ y (by omega)) trivial ?_
  simp only [go_sem, Nat.reduceEqDiff, ↓reduceIte, reduceIte, Nat.reduceAdd, Nat.reduceMul, Nat.reduceSub, Nat.reduceLeDiff, Nat.reduceBEq, Nat.reduceBNe, Int.reduceNeg, Int.reduceLT, Int.reduceLE, Int.reduceAdd, Int.reduceSub, Int.reduceToNat, Int.reduceEq, Int.reduceBEq, reduceCtorEq, List.cons.injEq, Int.reduceBNe, Int.sub_zero, decide_true, decide_false, false_and, and_false, ty44, Ent.enc]
  refine hK4 _ ?_; clear hK4 K4
  refine W_ret ?_
  simp only [go_sem, Nat.reduceEqDiff, ↓reduceIte, reduceIte, Nat.reduceAdd, Nat.reduceMul, Nat.reduceSub, Nat.reduceLeDiff, Nat.reduceBEq, Nat.reduceBNe, Int.reduceNeg, Int.reduceLT, Int.reduceLE, Int.reduceAdd, Int.reduceSub, Int.reduceToNat, Int.reduceEq, Int.reduceBEq, reduceCtorEq, List.cons.injEq, Int.reduceBNe, Int.sub_zero, decide_true, decide_false, false_and, and_false]
  refine ends_ret (by simp only [go_sem, Nat.reduceEqDiff, ↓reduceIte, reduceIte, Nat.reduceAdd, Nat.reduceMul, Nat.reduceSub, Nat.reduceLeDiff, Nat.reduceBEq, Nat.reduceBNe, Int.reduceNeg, Int.reduceLT, Int.reduceLE, Int.reduceAdd, Int.reduceSub, Int.reduceToNat, Int.reduceEq, Int.reduceBEq, reduceCtorEq, List.cons.injEq, Int.reduceBNe, Int.sub_zero, decide_true, decide_false, false_and, and_false, Try.f33, ty44, Ent.enc]) (by (repeat first | exact HLe.refl _ | refine HLe.set ?_ _ _ | refine HLe.fresh ?_ (hfr [_, _])))
end Go.Proofs.Ytcfmbbebnobflaa
