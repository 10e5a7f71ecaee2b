/- Slice, in the log and in the reference's. -/
import Derived.Test.YtcfmbbebnobflaaF13
set_option linter.unusedVariables false
set_option linter.unusedSimpArgs false
namespace Go.Proofs.Ytcfmbbebnobflaa
open Go Go.SX

def sliceL (s : Snp) (es : List Ent) (i n : Int) : List Ent := if i ≤ s.i ∨ lastL s es < i ∨ n < 1 then [] else (es.drop (i - s.i - 1).toNat).take n.toNat
theorem sqL_map {α : Type} (o : Option (List α)) (f : List α → List α) (hf : f [] = []) : sqL (o.map f) = f (sqL o) := by cases o <;> simp [sqL, hf]

set_option maxRecDepth 8000 in
theorem f38_ok (id b : BId) (s : Snp) (o : Option (List Ent)) (i n : Int) (hs : 0 ≤ s.i) (hl : lastL s (sqL o) ≤ 4611686018427387904) (hlen : (sqL o).length ≤ 1000) :
    CallF Try.prog 38 [.ptr b 0, .p (.int .i64 i), .p (.int .i64 n)] id [(b, .cells 57 (lgC s o))] (sq Ent.enc (ne (sliceL s (sqL o) i n))) [] := by
  refine ⟨⟨_, Try.func38, by decide, rfl⟩, (by simp <;> repeat first | exact ⟨[_, _], rfl⟩ | constructor), fun h hr => callsA_of_W Try.func38 rfl fun hfr => ?_⟩
  have hb := hr.1; simp only [lgC] at hb
  have hl2 : lastL s (sqL o) = s.i + (sqL o).length := rfl
  refine W_seq fun K1 hK1 => ?_
  refine W_reg rfl ?_
  simp only [go_sem, Nat.reduceEqDiff, ↓reduceIte, reduceIte, Nat.reduceAdd, Nat.reduceMul, Nat.reduceSub, Nat.reduceLeDiff, Nat.reduceBEq, Nat.reduceBNe, Int.reduceNeg, Int.reduceLT, Int.reduceLE, Int.reduceAdd, Int.reduceSub, Int.reduceToNat, Int.reduceEq, Int.reduceBEq, reduceCtorEq, List.cons.injEq, Int.reduceBNe, Int.sub_zero, decide_true, decide_false, false_and, and_false]
  refine hK1 _ ?_; clear hK1 K1
  refine W_seq fun K2 hK2 => ?_
  refine W_seq_cut (fun s' => ∃ tm', s' = ⟨tm', h, 2⟩ ∧ tm' 24 = .p (.bool (decide (i ≤ s.i ∨ lastL s (sqL o) < i ∨ n < 1))) ∧ tm' 0 = .ptr b 0 ∧ tm' 1 = .p (.int .i64 i) ∧ tm' 2 = .p (.int .i64 n)) ?_ ?_
  · refine W_reg rfl ?_
    by_cases c1 : i ≤ s.i
    · have f1 : decide (i ≤ s.i) = true := by simpa using c1
      simp only [go_sem, Nat.reduceEqDiff, ↓reduceIte, reduceIte, Nat.reduceAdd, Nat.reduceMul, Nat.reduceSub, Nat.reduceLeDiff, Nat.reduceBEq, Nat.reduceBNe, Int.reduceNeg, Int.reduceLT, Int.reduceLE, Int.reduceAdd, Int.reduceSub, Int.reduceToNat, Int.reduceEq, Int.reduceBEq, reduceCtorEq, List.cons.injEq, Int.reduceBNe, Int.sub_zero, decide_true, decide_false, false_and, and_false, ty2, ty3, ty25, ty33, ty57, hb, f1]
      exact ⟨_, rfl, by simp [put, c1], rfl, rfl, rfl⟩
    have f1 : decide (i ≤ s.i) = false := by simpa using c1
    simp only [go_sem, Nat.reduceEqDiff, ↓reduceIte, reduceIte, Nat.reduceAdd, Nat.reduceMul, Nat.reduceSub, Nat.reduceLeDiff, Nat.reduceBEq, Nat.reduceBNe, Int.reduceNeg, Int.reduceLT, Int.reduceLE, Int.reduceAdd, Int.reduceSub, Int.reduceToNat, Int.reduceEq, Int.reduceBEq, reduceCtorEq, List.cons.injEq, Int.reduceBNe, Int.sub_zero, decide_true, decide_false, false_and, and_false, ty2, ty3, ty25, ty33, ty57, hb, f1]
    refine stop_call (f27_ok _ b s o (by omega)) ⟨hr.1, trivial⟩ ?_
    by_cases c2 : lastL s (sqL o) < i
    · have f2 : decide (i > lastL s (sqL o)) = true := by simpa using c2
      simp only [go_sem, Nat.reduceEqDiff, ↓reduceIte, reduceIte, Nat.reduceAdd, Nat.reduceMul, Nat.reduceSub, Nat.reduceLeDiff, Nat.reduceBEq, Nat.reduceBNe, Int.reduceNeg, Int.reduceLT, Int.reduceLE, Int.reduceAdd, Int.reduceSub, Int.reduceToNat, Int.reduceEq, Int.reduceBEq, reduceCtorEq, List.cons.injEq, Int.reduceBNe, Int.sub_zero, decide_true, decide_false, false_and, and_false, f2]
      exact ⟨_, rfl, by simp [put, c2], rfl, rfl, rfl⟩
    have f2 : decide (i > lastL s (sqL o)) = false := by simpa using c2
    simp only [go_sem, Nat.reduceEqDiff, ↓reduceIte, reduceIte, Nat.reduceAdd, Nat.reduceMul, Nat.reduceSub, Nat.reduceLeDiff, Nat.reduceBEq, Nat.reduceBNe, Int.reduceNeg, Int.reduceLT, Int.reduceLE, Int.reduceAdd, Int.reduceSub, Int.reduceToNat, Int.reduceEq, Int.reduceBEq, reduceCtorEq, List.cons.injEq, Int.reduceBNe, Int.sub_zero, decide_true, decide_false, false_and, and_false, f2]
    refine ⟨_, rfl, by simp [put, c1, c2], rfl, rfl, rfl⟩
  · rintro s' ⟨tm', rfl, q24, q0, q1, q2⟩
    refine W_cond q24 (fun h4 => ?_) (fun h4 => ?_)
    · have hc : i ≤ s.i ∨ lastL s (sqL o) < i ∨ n < 1 := by simpa using h4
      have hres : sliceL s (sqL o) i n = [] := by unfold sliceL; rw [if_pos hc]
      rw [hres]
      refine W_seq fun K5 hK5 => ?_
      refine W_reg rfl ?_
      simp only [go_sem, Nat.reduceEqDiff, ↓reduceIte, reduceIte, Nat.reduceAdd, Nat.reduceMul, Nat.reduceSub, Nat.reduceLeDiff, Nat.reduceBEq, Nat.reduceBNe, Int.reduceNeg, Int.reduceLT, Int.reduceLE, Int.reduceAdd, Int.reduceSub, Int.reduceToNat, Int.reduceEq, Int.reduceBEq, reduceCtorEq, List.cons.injEq, Int.reduceBNe, Int.sub_zero, decide_true, decide_false, false_and, and_false]
      refine hK5 _ ?_; clear hK5 K5
      refine W_ret ?_
      simp only [go_sem, Nat.reduceEqDiff, ↓reduceIte, reduceIte, Nat.reduceAdd, Nat.reduceMul, Nat.reduceSub, Nat.reduceLeDiff, Nat.reduceBEq, Nat.reduceBNe, Int.reduceNeg, Int.reduceLT, Int.reduceLE, Int.reduceAdd, Int.reduceSub, Int.reduceToNat, Int.reduceEq, Int.reduceBEq, reduceCtorEq, List.cons.injEq, Int.reduceBNe, Int.sub_zero, decide_true, decide_false, false_and, and_false]
      refine ends_ret (by simp only [go_sem, Nat.reduceEqDiff, ↓reduceIte, reduceIte, Nat.reduceAdd, Nat.reduceMul, Nat.reduceSub, Nat.reduceLeDiff, Nat.reduceBEq, Nat.reduceBNe, Int.reduceNeg, Int.reduceLT, Int.reduceLE, Int.reduceAdd, Int.reduceSub, Int.reduceToNat, Int.reduceEq, Int.reduceBEq, reduceCtorEq, List.cons.injEq, Int.reduceBNe, Int.sub_zero, decide_true, decide_false, false_and, and_false, Try.f38] <;> rfl) (HLe.refl _)
    · have hc : ¬ (i ≤ s.i ∨ lastL s (sqL o) < i ∨ n < 1) := by simpa using h4
      have hres : sliceL s (sqL o) i n = ((sqL o).drop (i - s.i - 1).toNat).take n.toNat := by unfold sliceL; rw [if_neg hc]
      have e3 : IntKind.i64.wrap (i - s.i) = i - s.i := wrap_i64 (by omega)
      have e4 : IntKind.i64.wrap (i - s.i - 1) = i - s.i - 1 := wrap_i64 (by omega)
      refine W_skip (hK2 _ ?_); clear hK2 K2
      rw [hres]
      refine W_seq fun K6 hK6 => ?_
      refine W_drw [[], [0], [0, 1], [0, 1, 2], [], [], [5], [5, 6], [5, 6, 7], [5, 6, 7, 8], [4, 5, 6, 7, 8, 9], [4, 5, 6, 7, 8, 9, 10], [0, 1, 2, 3, 4, 5, 6, 7, 8, 9, 10, 11], [0, 1, 2, 3, 4, 5, 6, 7, 8, 9, 10, 11, 12]] follows_mixed (by rfl) (by rfl) ?_
      simp only [go_sem, Nat.reduceEqDiff, ↓reduceIte, reduceIte, Nat.reduceAdd, Nat.reduceMul, Nat.reduceSub, Nat.reduceLeDiff, Nat.reduceBEq, Nat.reduceBNe, Int.reduceNeg, Int.reduceLT, Int.reduceLE, Int.reduceAdd, Int.reduceSub, Int.reduceToNat, Int.reduceEq, Int.reduceBEq, reduceCtorEq, List.cons.injEq, Int.reduceBNe, Int.sub_zero, decide_true, decide_false, false_and, and_false, ty2, ty25, ty26, ty44, ty57, q0, q1, hb, e3, e4]
      refine sliceW_sq (i - s.i - 1).toNat (sqL o).length ty26.2.2.2.1 ty44.2.1 Ent.enc_len (by simp only [bndA]; congr 1; omega) rfl (by omega) (by omega) ?_
      have ho1 : sqL (o.map fun x => (x.drop (i - s.i - 1).toNat).take ((sqL o).length - (i - s.i - 1).toNat)) = (sqL o).drop (i - s.i - 1).toNat := by
        rw [sqL_map _ _ (by simp), List.take_of_length_le (by simp)]
      generalize ho : (o.map fun x => (x.drop (i - s.i - 1).toNat).take ((sqL o).length - (i - s.i - 1).toNat)) = o1 at *
      rw [← ho1] at hK6
      simp only [go_sem, Nat.reduceEqDiff, ↓reduceIte, reduceIte, Nat.reduceAdd, Nat.reduceMul, Nat.reduceSub, Nat.reduceLeDiff, Nat.reduceBEq, Nat.reduceBNe, Int.reduceNeg, Int.reduceLT, Int.reduceLE, Int.reduceAdd, Int.reduceSub, Int.reduceToNat, Int.reduceEq, Int.reduceBEq, reduceCtorEq, List.cons.injEq, Int.reduceBNe, Int.sub_zero, decide_true, decide_false, false_and, and_false]
      refine hK6 _ ?_; clear hK6 K6
      have hl1 : (sqL o1).length ≤ 1000 := by rw [ho1]; simp; omega
      by_cases c5 : n < (sqL o1).length
      · have f5 : decide (((sqL o1).length : Int) > n) = true := by simp; omega
        refine W_seq fun K7 hK7 => ?_
        refine W_seq fun K8 hK8 => ?_
        refine W_reg rfl ?_
        simp only [go_sem, Nat.reduceEqDiff, ↓reduceIte, reduceIte, Nat.reduceAdd, Nat.reduceMul, Nat.reduceSub, Nat.reduceLeDiff, Nat.reduceBEq, Nat.reduceBNe, Int.reduceNeg, Int.reduceLT, Int.reduceLE, Int.reduceAdd, Int.reduceSub, Int.reduceToNat, Int.reduceEq, Int.reduceBEq, reduceCtorEq, List.cons.injEq, Int.reduceBNe, Int.sub_zero, decide_true, decide_false, false_and, and_false, ty3, ty26, ty44, q2, f5]
        refine hK8 _ ?_; clear hK8 K8
        refine W_cond rfl (fun h9 => ?_) (fun h9 => by cases h9)
        refine W_reg rfl ?_
        simp only [go_sem, Nat.reduceEqDiff, ↓reduceIte, reduceIte, Nat.reduceAdd, Nat.reduceMul, Nat.reduceSub, Nat.reduceLeDiff, Nat.reduceBEq, Nat.reduceBNe, Int.reduceNeg, Int.reduceLT, Int.reduceLE, Int.reduceAdd, Int.reduceSub, Int.reduceToNat, Int.reduceEq, Int.reduceBEq, reduceCtorEq, List.cons.injEq, Int.reduceBNe, Int.sub_zero, decide_true, decide_false, false_and, and_false, ty26, ty44, q2]
        refine sliceW_sq 0 n.toNat ty26.2.2.2.1 ty44.2.1 Ent.enc_len rfl (by simp only [bndA]; congr 1; omega) (by omega) (by omega) ?_
        simp only [go_sem, Nat.reduceEqDiff, ↓reduceIte, reduceIte, Nat.reduceAdd, Nat.reduceMul, Nat.reduceSub, Nat.reduceLeDiff, Nat.reduceBEq, Nat.reduceBNe, Int.reduceNeg, Int.reduceLT, Int.reduceLE, Int.reduceAdd, Int.reduceSub, Int.reduceToNat, Int.reduceEq, Int.reduceBEq, reduceCtorEq, List.cons.injEq, Int.reduceBNe, Int.sub_zero, decide_true, decide_false, false_and, and_false]
        refine hK7 _ ?_; clear hK7 K7
        refine W_seq fun K10 hK10 => ?_
        refine W_reg rfl ?_
        simp only [go_sem, Nat.reduceEqDiff, ↓reduceIte, reduceIte, Nat.reduceAdd, Nat.reduceMul, Nat.reduceSub, Nat.reduceLeDiff, Nat.reduceBEq, Nat.reduceBNe, Int.reduceNeg, Int.reduceLT, Int.reduceLE, Int.reduceAdd, Int.reduceSub, Int.reduceToNat, Int.reduceEq, Int.reduceBEq, reduceCtorEq, List.cons.injEq, Int.reduceBNe, Int.sub_zero, decide_true, decide_false, false_and, and_false]
        refine stop_append_nil 44 4 48 (o1.map fun x => (x.drop 0).take (n.toNat - 0)) ty26.2.2.2.1 ty44.2.1 ty44.2.2.1 (by simp only [ty44]; rfl) Ent.enc_len rfl rfl (by simp only [ty26]; rfl) ?_ ?_ ?_
        · rw [sqL_map _ _ (by simp)]; simp; omega
        · rw [sqL_map _ _ (by simp)]; simp [maxLen]; omega
        rw [sqL_map _ _ (by simp), List.drop_zero, Nat.sub_zero]
        simp only [go_sem, Nat.reduceEqDiff, ↓reduceIte, reduceIte, Nat.reduceAdd, Nat.reduceMul, Nat.reduceSub, Nat.reduceLeDiff, Nat.reduceBEq, Nat.reduceBNe, Int.reduceNeg, Int.reduceLT, Int.reduceLE, Int.reduceAdd, Int.reduceSub, Int.reduceToNat, Int.reduceEq, Int.reduceBEq, reduceCtorEq, List.cons.injEq, Int.reduceBNe, Int.sub_zero, decide_true, decide_false, false_and, and_false]
        refine hK10 _ ?_; clear hK10 K10
        refine W_ret ?_
        simp only [go_sem, Nat.reduceEqDiff, ↓reduceIte, reduceIte, Nat.reduceAdd, Nat.reduceMul, Nat.reduceSub, Nat.reduceLeDiff, Nat.reduceBEq, Nat.reduceBNe, Int.reduceNeg, Int.reduceLT, Int.reduceLE, Int.reduceAdd, Int.reduceSub, Int.reduceToNat, Int.reduceEq, Int.reduceBEq, reduceCtorEq, List.cons.injEq, Int.reduceBNe, Int.sub_zero, decide_true, decide_false, false_and, and_false]
        refine ends_ret (by simp only [go_sem, Nat.reduceEqDiff, ↓reduceIte, reduceIte, Nat.reduceAdd, Nat.reduceMul, Nat.reduceSub, Nat.reduceLeDiff, Nat.reduceBEq, Nat.reduceBNe, Int.reduceNeg, Int.reduceLT, Int.reduceLE, Int.reduceAdd, Int.reduceSub, Int.reduceToNat, Int.reduceEq, Int.reduceBEq, reduceCtorEq, List.cons.injEq, Int.reduceBNe, Int.sub_zero, decide_true, decide_false, false_and, and_false, Try.f38]) (HLe.refl _)
      · have f5 : decide (((sqL o1).length : Int) > n) = false := by simp; omega
        refine W_seq fun K7 hK7 => ?_
        refine W_seq fun K8 hK8 => ?_
        refine W_reg rfl ?_
        simp only [go_sem, Nat.reduceEqDiff, ↓reduceIte, reduceIte, Nat.reduceAdd, Nat.reduceMul, Nat.reduceSub, Nat.reduceLeDiff, Nat.reduceBEq, Nat.reduceBNe, Int.reduceNeg, Int.reduceLT, Int.reduceLE, Int.reduceAdd, Int.reduceSub, Int.reduceToNat, Int.reduceEq, Int.reduceBEq, reduceCtorEq, List.cons.injEq, Int.reduceBNe, Int.sub_zero, decide_true, decide_false, false_and, and_false, ty3, ty26, ty44, q2, f5]
        refine hK8 _ ?_; clear hK8 K8
        refine W_cond rfl (fun h9 => by cases h9) (fun h9 => ?_)
        refine W_skip (hK7 _ ?_); clear hK7 K7
        refine W_seq fun K11 hK11 => ?_
        refine W_reg rfl ?_
        simp only [go_sem, Nat.reduceEqDiff, ↓reduceIte, reduceIte, Nat.reduceAdd, Nat.reduceMul, Nat.reduceSub, Nat.reduceLeDiff, Nat.reduceBEq, Nat.reduceBNe, Int.reduceNeg, Int.reduceLT, Int.reduceLE, Int.reduceAdd, Int.reduceSub, Int.reduceToNat, Int.reduceEq, Int.reduceBEq, reduceCtorEq, List.cons.injEq, Int.reduceBNe, Int.sub_zero, decide_true, decide_false, false_and, and_false]
        refine stop_append_nil 44 4 48 o1 ty26.2.2.2.1 ty44.2.1 ty44.2.2.1 (by simp only [ty44]; rfl) Ent.enc_len rfl rfl (by simp only [ty26]; rfl) (by omega) (by unfold maxLen; omega) ?_
        simp only [go_sem, Nat.reduceEqDiff, ↓reduceIte, reduceIte, Nat.reduceAdd, Nat.reduceMul, Nat.reduceSub, Nat.reduceLeDiff, Nat.reduceBEq, Nat.reduceBNe, Int.reduceNeg, Int.reduceLT, Int.reduceLE, Int.reduceAdd, Int.reduceSub, Int.reduceToNat, Int.reduceEq, Int.reduceBEq, reduceCtorEq, List.cons.injEq, Int.reduceBNe, Int.sub_zero, decide_true, decide_false, false_and, and_false]
        refine hK11 _ ?_; clear hK11 K11
        refine W_ret ?_
        simp only [go_sem, Nat.reduceEqDiff, ↓reduceIte, reduceIte, Nat.reduceAdd, Nat.reduceMul, Nat.reduceSub, Nat.reduceLeDiff, Nat.reduceBEq, Nat.reduceBNe, Int.reduceNeg, Int.reduceLT, Int.reduceLE, Int.reduceAdd, Int.reduceSub, Int.reduceToNat, Int.reduceEq, Int.reduceBEq, reduceCtorEq, List.cons.injEq, Int.reduceBNe, Int.sub_zero, decide_true, decide_false, false_and, and_false]
        rw [List.take_of_length_le (by omega)]
        refine ends_ret (by simp only [go_sem, Nat.reduceEqDiff, ↓reduceIte, reduceIte, Nat.reduceAdd, Nat.reduceMul, Nat.reduceSub, Nat.reduceLeDiff, Nat.reduceBEq, Nat.reduceBNe, Int.reduceNeg, Int.reduceLT, Int.reduceLE, Int.reduceAdd, Int.reduceSub, Int.reduceToNat, Int.reduceEq, Int.reduceBEq, reduceCtorEq, List.cons.injEq, Int.reduceBNe, Int.sub_zero, decide_true, decide_false, false_and, and_false, Try.f38]) (HLe.refl _)
end Go.Proofs.Ytcfmbbebnobflaa
