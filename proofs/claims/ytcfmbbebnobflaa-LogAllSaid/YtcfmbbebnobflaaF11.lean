/- The members as of an index, in the log and in the reference's. -/
import Derived.Test.YtcfmbbebnobflaaF10
set_option linter.unusedVariables false
set_option linter.unusedSimpArgs false
namespace Go.Proofs.Ytcfmbbebnobflaa
open Go Go.SX

/-- What the first n entries say of the members. -/
noncomputable def confN (c : Option (List Int)) (es : List Ent) : Nat → Option (List Int)
  | 0 => c
  | n + 1 => match es[n]? with
    | some e => if e.k = 3 then membL (sqL e.d) else confN c es n
    | none => confN c es n
noncomputable def confA (s : Snp) (es : List Ent) (i : Int) : Option (List Int) := confN s.c es (min i (lastL s es) - s.i).toNat
theorem confN_hit {c : Option (List Int)} {es : List Ent} {n : Nat} (h : n < es.length) (hk : es[n].k = 3) : confN c es (n + 1) = membL (sqL es[n].d) := by
  simp only [confN, List.getElem?_eq_getElem h]; rw [if_pos hk]
theorem confN_miss {c : Option (List Int)} {es : List Ent} {n : Nat} (h : n < es.length) (hk : es[n].k ≠ 3) : confN c es (n + 1) = confN c es n := by
  simp only [confN, List.getElem?_eq_getElem h]; rw [if_neg hk]

set_option maxRecDepth 8000 in
open Classical in
theorem f35_ok (id b : BId) (s : Snp) (o : Option (List Ent)) (i : Int) (hs : 0 ≤ s.i) (hl : lastL s (sqL o) ≤ 4611686018427387904) (hd : ∀ e ∈ sqL o, (sqL e.d).length ≤ 1000) (hc : (sqL s.c).length ≤ 1000) :
    CallF Try.prog 35 [.ptr b 0, .p (.int .i64 i)] id [(b, .cells 53 (lgC s o))] (sq nE (confA s (sqL o) i)) [] := by
  refine ⟨⟨_, Try.func35, by decide, rfl⟩, (by simp <;> repeat first | exact ⟨[_, _], rfl⟩ | constructor), fun h hr => callsA_of_W Try.func35 rfl fun hfr => ?_⟩
  have hb := hr.1; simp only [lgC] at hb
  generalize hL : sqL o = l at *
  have hl2 : lastL s l = s.i + l.length := rfl
  refine W_seq fun K1 hK1 => ?_
  refine W_reg rfl ?_
  simp only [go_sem, Nat.reduceEqDiff, ↓reduceIte, reduceIte, Nat.reduceAdd, Nat.reduceMul, Nat.reduceSub, Nat.reduceLeDiff, Nat.reduceBEq, Nat.reduceBNe, Int.reduceNeg, Int.reduceLT, Int.reduceLE, Int.reduceAdd, Int.reduceSub, Int.reduceToNat, Int.reduceEq, Int.reduceBEq, reduceCtorEq, List.cons.injEq, Int.reduceBNe, Int.sub_zero, decide_true, decide_false, false_and, and_false]
  refine hK1 _ ?_; clear hK1 K1
  refine W_seq fun K2 hK2 => ?_
  refine W_seq fun K3 hK3 => ?_
  refine W_reg rfl ?_
  simp only [go_sem, Nat.reduceEqDiff, ↓reduceIte, reduceIte, Nat.reduceAdd, Nat.reduceMul, Nat.reduceSub, Nat.reduceLeDiff, Nat.reduceBEq, Nat.reduceBNe, Int.reduceNeg, Int.reduceLT, Int.reduceLE, Int.reduceAdd, Int.reduceSub, Int.reduceToNat, Int.reduceEq, Int.reduceBEq, reduceCtorEq, List.cons.injEq, Int.reduceBNe, Int.sub_zero, decide_true, decide_false, false_and, and_false, ty31]
  refine hK3 _ ?_; clear hK3 K3
  refine W_cond rfl (fun h => by cases h) (fun _ => ?_)
  refine W_skip (hK2 _ ?_); clear hK2 K2
  refine W_seq fun K6 hK6 => ?_
  refine W_seq fun K7 hK7 => ?_
  refine W_reg rfl ?_
  simp only [go_sem, Nat.reduceEqDiff, ↓reduceIte, reduceIte, Nat.reduceAdd, Nat.reduceMul, Nat.reduceSub, Nat.reduceLeDiff, Nat.reduceBEq, Nat.reduceBNe, Int.reduceNeg, Int.reduceLT, Int.reduceLE, Int.reduceAdd, Int.reduceSub, Int.reduceToNat, Int.reduceEq, Int.reduceBEq, reduceCtorEq, List.cons.injEq, Int.reduceBNe, Int.sub_zero, decide_true, decide_false, false_and, and_false]
  refine stop_call (f19_ok _ b s o (by rw [hL]; omega)) ⟨hr.1, trivial⟩ ?_
  rw [hL]
  simp only [go_sem, Nat.reduceEqDiff, ↓reduceIte, reduceIte, Nat.reduceAdd, Nat.reduceMul, Nat.reduceSub, Nat.reduceLeDiff, Nat.reduceBEq, Nat.reduceBNe, Int.reduceNeg, Int.reduceLT, Int.reduceLE, Int.reduceAdd, Int.reduceSub, Int.reduceToNat, Int.reduceEq, Int.reduceBEq, reduceCtorEq, List.cons.injEq, Int.reduceBNe, Int.sub_zero, decide_true, decide_false, false_and, and_false, mm2]
  refine hK7 _ ?_; clear hK7 K7
  have hmin : (if decide (lastL s l < i) = true then lastL s l else i) = min i (lastL s l) := by simp only [decide_eq_true_eq]; omega
  refine W_block ?_
  refine W_loop ?_
  refine WL_nat (P := Try.prog) (fun m s' => ∃ k : Int, m = (k - s.i).toNat ∧ k ≤ lastL s l ∧ confA s l i = confN s.c l (k - s.i).toNat ∧ s'.tm 0 = .ptr b 0 ∧ s'.tm 5 = .p (.int .i64 k) ∧ HLe h s'.h) (fun m s' hI => ?_) _ _ ⟨min i (lastL s l), rfl, by omega, rfl, rfl, ?_, HLe.refl _⟩
  rotate_left
  · show AV.p (.int .i64 _) = _
    rw [← hmin]
  obtain ⟨k, rfl, hk, hconf, h0, h5, hle⟩ := hI
  obtain ⟨tm, h2, tt⟩ := s'
  simp only at h0 h5 hle
  have hb2 := hle _ _ hr.1; simp only [lgC] at hb2
  by_cases hlt : s.i < k
  · have g1 : decide (k > s.i) = true := by simp; omega
    have hn : (k - s.i - 1).toNat < l.length := by omega
    have hx : (l.flatMap Ent.enc).drop ((k - s.i - 1).toNat * 4) = Ent.enc l[(k - s.i - 1).toNat] ++ (l.drop ((k - s.i - 1).toNat + 1)).flatMap Ent.enc := flatMap_at Ent.enc_len l _ hn
    have hstep : (k - s.i).toNat = (k - s.i - 1).toNat + 1 := by omega
    have hhit := confN_hit (c := s.c) hn
    have hmiss := confN_miss (c := s.c) hn
    have hdn : (sqL l[(k - s.i - 1).toNat].d).length ≤ 1000 := hd _ (List.getElem_mem hn)
    rw [hstep] at hconf
    generalize hy : l[(k - s.i - 1).toNat] = y at *
    have ne1 : (14 :: (tt + 1) :: id = b) = False := by have := fr_ne hfr hr.1 [14, tt + 1]; rw [eq_iff_iff, iff_false] at this ⊢; exact fun e => this e.symm
    have e1 : (0 : Int) ≤ k - s.i - 1 ∧ k - s.i - 1 < (l.length : Int) := by omega
    have e3 : IntKind.i64.wrap (k - s.i) = k - s.i := wrap_i64 (by omega)
    have e4 : IntKind.i64.wrap (k - s.i - 1) = k - s.i - 1 := wrap_i64 (by omega)
    have e5 : IntKind.i64.wrap (k - 1) = k - 1 := wrap_i64 (by omega)
    refine W_seq fun K8 hK8 => ?_
    refine W_seq fun K9 hK9 => ?_
    refine W_reg rfl ?_
    simp only [go_sem, Nat.reduceEqDiff, ↓reduceIte, reduceIte, Nat.reduceAdd, Nat.reduceMul, Nat.reduceSub, Nat.reduceLeDiff, Nat.reduceBEq, Nat.reduceBNe, Int.reduceNeg, Int.reduceLT, Int.reduceLE, Int.reduceAdd, Int.reduceSub, Int.reduceToNat, Int.reduceEq, Int.reduceBEq, reduceCtorEq, List.cons.injEq, Int.reduceBNe, Int.sub_zero, decide_true, decide_false, false_and, and_false, ty2, ty25, ty53, h0, h5, hb2, g1]
    refine hK9 _ ?_; clear hK9 K9
    refine W_cond rfl (fun h10 => ?_) (fun h10 => by cases h10)
    refine W_skip (hK8 _ ?_); clear hK8 K8
    refine W_seq fun K11 hK11 => ?_
    refine W_block ?_
    refine W_seq fun K12 hK12 => ?_
    refine W_drw [[], [0], [0, 1], [0, 1, 2], [], [], [5], [5, 6], [5, 6, 7], [5, 6, 7, 8], [4, 5, 6, 7, 8, 9], [4, 5, 6, 7, 8, 9, 10], [0, 1, 2, 3, 4, 5, 6, 7, 8, 9, 10, 11], [0, 1, 2, 3, 4, 5, 6, 7, 8, 9, 10, 11, 12], [], [0, 1, 2, 3, 4, 5, 6, 7, 8, 9, 10, 11, 12, 13, 14]] follows_mixed (by rfl) (by rfl) ?_
    simp only [go_sem, Nat.reduceEqDiff, ↓reduceIte, reduceIte, Nat.reduceAdd, Nat.reduceMul, Nat.reduceSub, Nat.reduceLeDiff, Nat.reduceBEq, Nat.reduceBNe, Int.reduceNeg, Int.reduceLT, Int.reduceLE, Int.reduceAdd, Int.reduceSub, Int.reduceToNat, Int.reduceEq, Int.reduceBEq, reduceCtorEq, List.cons.injEq, Int.reduceBNe, Int.sub_zero, decide_true, decide_false, false_and, and_false, ty2, ty25, ty26, ty44, ty53, h0, h5, hb2, hL, hx, e1, e3, e4, Ent.enc, ne1]
    refine hK12 _ ?_; clear hK12 K12
    by_cases hy3 : y.k = 3
    · have f1 : (y.k == 3) = true := by simpa using hy3
      rw [hhit hy3] at hconf
      refine W_seq fun K13 hK13 => ?_
      refine W_reg rfl ?_
      simp only [go_sem, Nat.reduceEqDiff, ↓reduceIte, reduceIte, Nat.reduceAdd, Nat.reduceMul, Nat.reduceSub, Nat.reduceLeDiff, Nat.reduceBEq, Nat.reduceBNe, Int.reduceNeg, Int.reduceLT, Int.reduceLE, Int.reduceAdd, Int.reduceSub, Int.reduceToNat, Int.reduceEq, Int.reduceBEq, reduceCtorEq, List.cons.injEq, Int.reduceBNe, Int.sub_zero, decide_true, decide_false, false_and, and_false, ty2, ty3, ty44, f1]
      refine hK13 _ ?_; clear hK13 K13
      refine W_cond rfl (fun h14 => ?_) (fun h14 => by cases h14)
      refine W_seq fun K15 hK15 => ?_
      refine W_reg rfl ?_
      simp only [go_sem, Nat.reduceEqDiff, ↓reduceIte, reduceIte, Nat.reduceAdd, Nat.reduceMul, Nat.reduceSub, Nat.reduceLeDiff, Nat.reduceBEq, Nat.reduceBNe, Int.reduceNeg, Int.reduceLT, Int.reduceLE, Int.reduceAdd, Int.reduceSub, Int.reduceToNat, Int.reduceEq, Int.reduceBEq, reduceCtorEq, List.cons.injEq, Int.reduceBNe, Int.sub_zero, decide_true, decide_false, false_and, and_false, ty3, ty5, ty23, ty44]
      refine stop_call (f42_ok _ y.d hdn) trivial ?_
      simp only [go_sem, Nat.reduceEqDiff, ↓reduceIte, reduceIte, Nat.reduceAdd, Nat.reduceMul, Nat.reduceSub, Nat.reduceLeDiff, Nat.reduceBEq, Nat.reduceBNe, Int.reduceNeg, Int.reduceLT, Int.reduceLE, Int.reduceAdd, Int.reduceSub, Int.reduceToNat, Int.reduceEq, Int.reduceBEq, reduceCtorEq, List.cons.injEq, Int.reduceBNe, Int.sub_zero, decide_true, decide_false, false_and, and_false, ty3, ty5, ty23, ty44]
      refine hK15 _ ?_; clear hK15 K15
      refine W_ret ?_
      simp only [go_sem, Nat.reduceEqDiff, ↓reduceIte, reduceIte, Nat.reduceAdd, Nat.reduceMul, Nat.reduceSub, Nat.reduceLeDiff, Nat.reduceBEq, Nat.reduceBNe, Int.reduceNeg, Int.reduceLT, Int.reduceLE, Int.reduceAdd, Int.reduceSub, Int.reduceToNat, Int.reduceEq, Int.reduceBEq, reduceCtorEq, List.cons.injEq, Int.reduceBNe, Int.sub_zero, decide_true, decide_false, false_and, and_false]
      rw [hconf]
      refine ends_ret (by simp only [go_sem, Nat.reduceEqDiff, ↓reduceIte, reduceIte, Nat.reduceAdd, Nat.reduceMul, Nat.reduceSub, Nat.reduceLeDiff, Nat.reduceBEq, Nat.reduceBNe, Int.reduceNeg, Int.reduceLT, Int.reduceLE, Int.reduceAdd, Int.reduceSub, Int.reduceToNat, Int.reduceEq, Int.reduceBEq, reduceCtorEq, List.cons.injEq, Int.reduceBNe, Int.sub_zero, decide_true, decide_false, false_and, and_false, Try.f35]) (HLe.fresh (HLe.fresh hle (hfr [_, _])) (hfr [_, _]))
    · have f1 : (y.k == 3) = false := by simpa using hy3
      rw [hmiss hy3] at hconf
      refine W_seq fun K13 hK13 => ?_
      refine W_reg rfl ?_
      simp only [go_sem, Nat.reduceEqDiff, ↓reduceIte, reduceIte, Nat.reduceAdd, Nat.reduceMul, Nat.reduceSub, Nat.reduceLeDiff, Nat.reduceBEq, Nat.reduceBNe, Int.reduceNeg, Int.reduceLT, Int.reduceLE, Int.reduceAdd, Int.reduceSub, Int.reduceToNat, Int.reduceEq, Int.reduceBEq, reduceCtorEq, List.cons.injEq, Int.reduceBNe, Int.sub_zero, decide_true, decide_false, false_and, and_false, ty2, ty3, ty44, f1]
      refine hK13 _ ?_; clear hK13 K13
      refine W_cond rfl (fun h14 => by cases h14) (fun h14 => ?_)
      refine W_skip ?_
      simp only [go_sem, Nat.reduceEqDiff, ↓reduceIte, reduceIte, Nat.reduceAdd, Nat.reduceMul, Nat.reduceSub, Nat.reduceLeDiff, Nat.reduceBEq, Nat.reduceBNe, Int.reduceNeg, Int.reduceLT, Int.reduceLE, Int.reduceAdd, Int.reduceSub, Int.reduceToNat, Int.reduceEq, Int.reduceBEq, reduceCtorEq, List.cons.injEq, Int.reduceBNe, Int.sub_zero, decide_true, decide_false, false_and, and_false]
      refine hK11 _ ?_; clear hK11 K11
      refine W_reg rfl ?_
      simp only [go_sem, Nat.reduceEqDiff, ↓reduceIte, reduceIte, Nat.reduceAdd, Nat.reduceMul, Nat.reduceSub, Nat.reduceLeDiff, Nat.reduceBEq, Nat.reduceBNe, Int.reduceNeg, Int.reduceLT, Int.reduceLE, Int.reduceAdd, Int.reduceSub, Int.reduceToNat, Int.reduceEq, Int.reduceBEq, reduceCtorEq, List.cons.injEq, Int.reduceBNe, Int.sub_zero, decide_true, decide_false, false_and, and_false, ty2, h5, e5]
      have e9 : (k - 1 - s.i).toNat = (k - s.i - 1).toNat := by omega
      refine ⟨_, ?_, k - 1, rfl, by omega, by rw [e9]; exact hconf, h0, rfl, HLe.fresh (HLe.fresh hle (hfr [_, _])) (hfr [_, _])⟩
      omega
  · have g1 : decide (k > s.i) = false := by simp; omega
    have hz : (k - s.i).toNat = 0 := by omega
    rw [hz] at hconf
    refine W_seq fun K8 hK8 => ?_
    refine W_seq fun K9 hK9 => ?_
    refine W_reg rfl ?_
    simp only [go_sem, Nat.reduceEqDiff, ↓reduceIte, reduceIte, Nat.reduceAdd, Nat.reduceMul, Nat.reduceSub, Nat.reduceLeDiff, Nat.reduceBEq, Nat.reduceBNe, Int.reduceNeg, Int.reduceLT, Int.reduceLE, Int.reduceAdd, Int.reduceSub, Int.reduceToNat, Int.reduceEq, Int.reduceBEq, reduceCtorEq, List.cons.injEq, Int.reduceBNe, Int.sub_zero, decide_true, decide_false, false_and, and_false, ty2, ty25, ty53, h0, h5, hb2, g1]
    refine hK9 _ ?_; clear hK9 K9
    refine W_cond rfl (fun h10 => by cases h10) (fun h10 => ?_)
    refine W_exit ?_
    simp only [go_sem, Nat.reduceEqDiff, ↓reduceIte, reduceIte, Nat.reduceAdd, Nat.reduceMul, Nat.reduceSub, Nat.reduceLeDiff, Nat.reduceBEq, Nat.reduceBNe, Int.reduceNeg, Int.reduceLT, Int.reduceLE, Int.reduceAdd, Int.reduceSub, Int.reduceToNat, Int.reduceEq, Int.reduceBEq, reduceCtorEq, List.cons.injEq, Int.reduceBNe, Int.sub_zero, decide_true, decide_false, false_and, and_false]
    clear hK8 K8
    refine hK6 _ ?_; clear hK6 K6
    refine W_seq fun K9 hK9 => ?_
    refine W_reg rfl ?_
    simp only [go_sem, Nat.reduceEqDiff, ↓reduceIte, reduceIte, Nat.reduceAdd, Nat.reduceMul, Nat.reduceSub, Nat.reduceLeDiff, Nat.reduceBEq, Nat.reduceBNe, Int.reduceNeg, Int.reduceLT, Int.reduceLE, Int.reduceAdd, Int.reduceSub, Int.reduceToNat, Int.reduceEq, Int.reduceBEq, reduceCtorEq, List.cons.injEq, Int.reduceBNe, Int.sub_zero, decide_true, decide_false, false_and, and_false, ty3, ty22, ty25, ty53, h0, hb2]
    refine stop_call (cloneI_ok _ s.c hc) trivial ?_
    simp only [go_sem, Nat.reduceEqDiff, ↓reduceIte, reduceIte, Nat.reduceAdd, Nat.reduceMul, Nat.reduceSub, Nat.reduceLeDiff, Nat.reduceBEq, Nat.reduceBNe, Int.reduceNeg, Int.reduceLT, Int.reduceLE, Int.reduceAdd, Int.reduceSub, Int.reduceToNat, Int.reduceEq, Int.reduceBEq, reduceCtorEq, List.cons.injEq, Int.reduceBNe, Int.sub_zero, decide_true, decide_false, false_and, and_false]
    refine hK9 _ ?_; clear hK9 K9
    refine W_ret ?_
    simp only [go_sem, Nat.reduceEqDiff, ↓reduceIte, reduceIte, Nat.reduceAdd, Nat.reduceMul, Nat.reduceSub, Nat.reduceLeDiff, Nat.reduceBEq, Nat.reduceBNe, Int.reduceNeg, Int.reduceLT, Int.reduceLE, Int.reduceAdd, Int.reduceSub, Int.reduceToNat, Int.reduceEq, Int.reduceBEq, reduceCtorEq, List.cons.injEq, Int.reduceBNe, Int.sub_zero, decide_true, decide_false, false_and, and_false]
    rw [hconf]
    refine ends_ret (by simp only [go_sem, Nat.reduceEqDiff, ↓reduceIte, reduceIte, Nat.reduceAdd, Nat.reduceMul, Nat.reduceSub, Nat.reduceLeDiff, Nat.reduceBEq, Nat.reduceBNe, Int.reduceNeg, Int.reduceLT, Int.reduceLE, Int.reduceAdd, Int.reduceSub, Int.reduceToNat, Int.reduceEq, Int.reduceBEq, reduceCtorEq, List.cons.injEq, Int.reduceBNe, Int.sub_zero, decide_true, decide_false, false_and, and_false, Try.f35] <;> rfl) hle
end Go.Proofs.Ytcfmbbebnobflaa
