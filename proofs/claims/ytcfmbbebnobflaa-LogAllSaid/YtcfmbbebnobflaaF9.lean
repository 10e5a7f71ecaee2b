/- Entries that may stand behind an index and a term: the reference's Good. -/
import Derived.Test.YtcfmbbebnobflaaF8
set_option linter.unusedVariables false
set_option linter.unusedSimpArgs false
namespace Go.Proofs.Ytcfmbbebnobflaa
open Go Go.SX

set_option maxRecDepth 8000 in
open Classical in
theorem f26_ok (id : BId) (i0 t0 : Int) (o : Option (List Ent)) (hi0 : -9223372036854775808 ≤ i0 ∧ i0 ≤ 4611686018427387904) (hn : (sqL o).length ≤ 1000) (hd : ∀ e ∈ sqL o, (sqL e.d).length ≤ 1000) :
    CallF Try.prog 26 [sq Ent.enc o, .p (.int .i64 i0), .p (.int .i64 t0)] id [] (.p (.bool (decide (goodL i0 t0 (sqL o))))) [] := by
  refine ⟨⟨_, Try.func26, by decide, rfl⟩, (by simp <;> repeat first | exact ⟨[_, _], rfl⟩ | constructor), fun h hr => callsA_of_W Try.func26 rfl fun hfr => ?_⟩
  generalize hl : sqL o = l at *
  refine W_seq fun K1 hK1 => ?_
  refine W_reg rfl ?_
  simp only [go_sem, Nat.reduceEqDiff, ↓reduceIte, reduceIte, Nat.reduceAdd, Nat.reduceMul, Nat.reduceSub, Nat.reduceLeDiff, Nat.reduceBEq, Nat.reduceBNe, Int.reduceNeg, Int.reduceLT, Int.reduceLE, Int.reduceAdd, Int.reduceSub, Int.reduceToNat, Int.reduceEq, Int.reduceBEq, reduceCtorEq, List.cons.injEq, Int.reduceBNe, Int.sub_zero, decide_true, decide_false, false_and, and_false]
  refine hK1 _ ?_; clear hK1 K1
  refine W_seq fun K2 hK2 => ?_
  refine W_seq fun K3 hK3 => ?_
  refine W_reg rfl ?_
  simp only [go_sem, Nat.reduceEqDiff, ↓reduceIte, reduceIte, Nat.reduceAdd, Nat.reduceMul, Nat.reduceSub, Nat.reduceLeDiff, Nat.reduceBEq, Nat.reduceBNe, Int.reduceNeg, Int.reduceLT, Int.reduceLE, Int.reduceAdd, Int.reduceSub, Int.reduceToNat, Int.reduceEq, Int.reduceBEq, reduceCtorEq, List.cons.injEq, Int.reduceBNe, Int.sub_zero, decide_true, decide_false, false_and, and_false]
  refine hK3 _ ?_; clear hK3 K3
  refine W_block ?_
  refine W_loop ?_
  refine WL_nat (P := Try.prog) (fun m s => ∃ (n : Nat) (i t : Int), m = l.length - n ∧ n ≤ l.length ∧ (goodL i0 t0 l ↔ goodL i t (l.drop n)) ∧ i = i0 + n ∧ s.tm 0 = sq Ent.enc o ∧ s.tm 1 = .p (.int .i64 i) ∧ s.tm 2 = .p (.int .i64 t) ∧ s.tm 7 = .p (.int .i64 n) ∧ HLe h s.h)
    (fun m s hI => ?_) (l.length - 0) _ ⟨0, i0, t0, rfl, by omega, Iff.rfl, by simp, rfl, rfl, rfl, rfl, HLe.refl _⟩
  obtain ⟨n, i, t, rfl, hnl, hgood, hin, h0, h1, h2', h7, hle⟩ := hI
  obtain ⟨tm, h2, tt⟩ := s
  simp only at h0 h1 h2' h7 hle
  by_cases hlt : n < l.length
  · have g1 : decide ((n : Int) < (l.length : Int)) = true := by simp; omega
    have hx : (l.flatMap Ent.enc).drop (n * 4) = Ent.enc l[n] ++ (l.drop (n + 1)).flatMap Ent.enc := flatMap_at Ent.enc_len l n hlt
    have hdn : (sqL l[n].d).length ≤ 1000 := hd _ (List.getElem_mem hlt)
    have hgs := goodL_step hlt hgood
    generalize hy : l[n] = y at *
    have e1 : (0 : Int) ≤ (n : Int) ∧ (n : Int) < (l.length : Int) := by omega
    have e3 : IntKind.i64.wrap (i + 1) = i + 1 := wrap_i64 (by omega)
    have e4 : IntKind.i64.wrap ((n : Int) + 1) = ((n + 1 : Nat) : Int) := by rw [wrap_i64 (by omega)]; omega
    refine W_seq fun K4 hK4 => ?_
    refine W_seq fun K5 hK5 => ?_
    refine W_reg rfl ?_
    simp only [go_sem, Nat.reduceEqDiff, ↓reduceIte, reduceIte, Nat.reduceAdd, Nat.reduceMul, Nat.reduceSub, Nat.reduceLeDiff, Nat.reduceBEq, Nat.reduceBNe, Int.reduceNeg, Int.reduceLT, Int.reduceLE, Int.reduceAdd, Int.reduceSub, Int.reduceToNat, Int.reduceEq, Int.reduceBEq, reduceCtorEq, List.cons.injEq, Int.reduceBNe, Int.sub_zero, decide_true, decide_false, false_and, and_false, ty3, ty26, ty44, h0, h7, hl, g1]
    refine hK5 _ ?_; clear hK5 K5
    refine W_cond rfl (fun h6 => ?_) (fun h6 => by cases h6)
    refine W_skip (hK4 _ ?_); clear hK4 K4
    refine W_seq fun K7 hK7 => ?_
    refine W_block ?_
    refine W_seq fun K8 hK8 => ?_
    refine W_reg rfl ?_
    simp only [go_sem, Nat.reduceEqDiff, ↓reduceIte, reduceIte, Nat.reduceAdd, Nat.reduceMul, Nat.reduceSub, Nat.reduceLeDiff, Nat.reduceBEq, Nat.reduceBNe, Int.reduceNeg, Int.reduceLT, Int.reduceLE, Int.reduceAdd, Int.reduceSub, Int.reduceToNat, Int.reduceEq, Int.reduceBEq, reduceCtorEq, List.cons.injEq, Int.reduceBNe, Int.sub_zero, decide_true, decide_false, false_and, and_false, ty26, ty44, h0, h7, hl, hx, e1, Ent.enc]
    refine hK8 _ ?_; clear hK8 K8
    refine W_seq fun K14 hK14 => ?_
    refine W_seq_cut (fun s => ∃ tm', s = ⟨tm', hset (hset h2 (4 :: (tt + 1) :: id) (some (.cells 44 [.p (.int .i64 0), .p (.int .i64 0), .p (.int .i64 0), .p (.slice none 0 0)]))) (4 :: (tt + 1) :: id) (some (.cells 44 [.p (.int .i64 y.i), .p (.int .i64 y.t), .p (.int .i64 y.k), sq bE y.d])), tt + 1 + 1 + 1⟩ ∧
      tm' 55 = .p (.bool (!decide (entOk i t y))) ∧ tm' 0 = sq Ent.enc o ∧ tm' 1 = .p (.int .i64 i) ∧ tm' 8 = .ptr (4 :: (tt + 1) :: id) 0 ∧ tm' 7 = .p (.int .i64 n)) ?_ ?_
    · refine W_reg rfl ?_
      by_cases c1 : ¬ y.i = i + 1
      · have f1 : (y.i != i + 1) = true := by simpa using c1
        have hv : entOk i t y = False := by rw [eq_iff_iff, iff_false]; intro hh; unfold entOk at hh; omega
        simp only [go_sem, Nat.reduceEqDiff, ↓reduceIte, reduceIte, Nat.reduceAdd, Nat.reduceMul, Nat.reduceSub, Nat.reduceLeDiff, Nat.reduceBEq, Nat.reduceBNe, Int.reduceNeg, Int.reduceLT, Int.reduceLE, Int.reduceAdd, Int.reduceSub, Int.reduceToNat, Int.reduceEq, Int.reduceBEq, reduceCtorEq, List.cons.injEq, Int.reduceBNe, Int.sub_zero, decide_true, decide_false, false_and, and_false, ty2, ty3, ty5, ty22, ty23, ty44, h1, h2', e3, f1]
        exact ⟨_, rfl, by simp [hv, put], h0, h1, rfl, h7⟩
      have f1 : (y.i != i + 1) = false := by simpa using c1
      by_cases c2 : y.t < 1
      · have f2 : decide (y.t < 1) = true := by simp; omega
        have hv : entOk i t y = False := by rw [eq_iff_iff, iff_false]; intro hh; unfold entOk at hh; omega
        simp only [go_sem, Nat.reduceEqDiff, ↓reduceIte, reduceIte, Nat.reduceAdd, Nat.reduceMul, Nat.reduceSub, Nat.reduceLeDiff, Nat.reduceBEq, Nat.reduceBNe, Int.reduceNeg, Int.reduceLT, Int.reduceLE, Int.reduceAdd, Int.reduceSub, Int.reduceToNat, Int.reduceEq, Int.reduceBEq, reduceCtorEq, List.cons.injEq, Int.reduceBNe, Int.sub_zero, decide_true, decide_false, false_and, and_false, ty2, ty3, ty5, ty22, ty23, ty44, h1, h2', e3, f1, f2]
        exact ⟨_, rfl, by simp [hv, put], h0, h1, rfl, h7⟩
      have f2 : decide (y.t < 1) = false := by simp; omega
      by_cases c3 : y.t < t
      · have f3 : decide (y.t < t) = true := by simp; omega
        have hv : entOk i t y = False := by rw [eq_iff_iff, iff_false]; intro hh; unfold entOk at hh; omega
        simp only [go_sem, Nat.reduceEqDiff, ↓reduceIte, reduceIte, Nat.reduceAdd, Nat.reduceMul, Nat.reduceSub, Nat.reduceLeDiff, Nat.reduceBEq, Nat.reduceBNe, Int.reduceNeg, Int.reduceLT, Int.reduceLE, Int.reduceAdd, Int.reduceSub, Int.reduceToNat, Int.reduceEq, Int.reduceBEq, reduceCtorEq, List.cons.injEq, Int.reduceBNe, Int.sub_zero, decide_true, decide_false, false_and, and_false, ty2, ty3, ty5, ty22, ty23, ty44, h1, h2', e3, f1, f2, f3]
        exact ⟨_, rfl, by simp [hv, put], h0, h1, rfl, h7⟩
      have f3 : decide (y.t < t) = false := by simp; omega
      by_cases c4 : y.k < 1
      · have f4 : decide (y.k < 1) = true := by simp; omega
        have hv : entOk i t y = False := by rw [eq_iff_iff, iff_false]; intro hh; unfold entOk at hh; omega
        simp only [go_sem, Nat.reduceEqDiff, ↓reduceIte, reduceIte, Nat.reduceAdd, Nat.reduceMul, Nat.reduceSub, Nat.reduceLeDiff, Nat.reduceBEq, Nat.reduceBNe, Int.reduceNeg, Int.reduceLT, Int.reduceLE, Int.reduceAdd, Int.reduceSub, Int.reduceToNat, Int.reduceEq, Int.reduceBEq, reduceCtorEq, List.cons.injEq, Int.reduceBNe, Int.sub_zero, decide_true, decide_false, false_and, and_false, ty2, ty3, ty5, ty22, ty23, ty44, h1, h2', e3, f1, f2, f3, f4]
        exact ⟨_, rfl, by simp [hv, put], h0, h1, rfl, h7⟩
      have f4 : decide (y.k < 1) = false := by simp; omega
      by_cases c5 : y.k > 3
      · have f5 : decide (y.k > 3) = true := by simp; omega
        have hv : entOk i t y = False := by rw [eq_iff_iff, iff_false]; intro hh; unfold entOk at hh; omega
        simp only [go_sem, Nat.reduceEqDiff, ↓reduceIte, reduceIte, Nat.reduceAdd, Nat.reduceMul, Nat.reduceSub, Nat.reduceLeDiff, Nat.reduceBEq, Nat.reduceBNe, Int.reduceNeg, Int.reduceLT, Int.reduceLE, Int.reduceAdd, Int.reduceSub, Int.reduceToNat, Int.reduceEq, Int.reduceBEq, reduceCtorEq, List.cons.injEq, Int.reduceBNe, Int.sub_zero, decide_true, decide_false, false_and, and_false, ty2, ty3, ty5, ty22, ty23, ty44, h1, h2', e3, f1, f2, f3, f4, f5]
        exact ⟨_, rfl, by simp [hv, put], h0, h1, rfl, h7⟩
      have f5 : decide (y.k > 3) = false := by simp; omega
      by_cases c6 : ¬ y.k = 3
      · have f6 : (y.k == 3) = false := by simpa using c6
        have hv : entOk i t y = True := by rw [eq_iff_iff, iff_true]; exact ⟨by omega, by omega, by omega, by omega, by omega, fun h => absurd h c6⟩
        simp only [go_sem, Nat.reduceEqDiff, ↓reduceIte, reduceIte, Nat.reduceAdd, Nat.reduceMul, Nat.reduceSub, Nat.reduceLeDiff, Nat.reduceBEq, Nat.reduceBNe, Int.reduceNeg, Int.reduceLT, Int.reduceLE, Int.reduceAdd, Int.reduceSub, Int.reduceToNat, Int.reduceEq, Int.reduceBEq, reduceCtorEq, List.cons.injEq, Int.reduceBNe, Int.sub_zero, decide_true, decide_false, false_and, and_false, ty2, ty3, ty5, ty22, ty23, ty44, h1, h2', e3, f1, f2, f3, f4, f5, f6]
        exact ⟨_, rfl, by simp [hv, put], h0, h1, rfl, h7⟩
      have f6 : (y.k == 3) = true := by simpa using c6
      simp only [go_sem, Nat.reduceEqDiff, ↓reduceIte, reduceIte, Nat.reduceAdd, Nat.reduceMul, Nat.reduceSub, Nat.reduceLeDiff, Nat.reduceBEq, Nat.reduceBNe, Int.reduceNeg, Int.reduceLT, Int.reduceLE, Int.reduceAdd, Int.reduceSub, Int.reduceToNat, Int.reduceEq, Int.reduceBEq, reduceCtorEq, List.cons.injEq, Int.reduceBNe, Int.sub_zero, decide_true, decide_false, false_and, and_false, ty2, ty3, ty5, ty22, ty23, ty44, h1, h2', e3, f1, f2, f3, f4, f5, f6]
      refine stop_call (f44_ok _ y.d hdn) trivial ?_
      cases hm : membL (sqL y.d) with
      | none =>
        have hv : entOk i t y = False := by rw [eq_iff_iff, iff_false]; intro hh; exact hh.2.2.2.2.2 (by omega) hm
        simp only [go_sem, Nat.reduceEqDiff, ↓reduceIte, reduceIte, Nat.reduceAdd, Nat.reduceMul, Nat.reduceSub, Nat.reduceLeDiff, Nat.reduceBEq, Nat.reduceBNe, Int.reduceNeg, Int.reduceLT, Int.reduceLE, Int.reduceAdd, Int.reduceSub, Int.reduceToNat, Int.reduceEq, Int.reduceBEq, reduceCtorEq, List.cons.injEq, Int.reduceBNe, Int.sub_zero, decide_true, decide_false, false_and, and_false, ty2, ty3, ty5, ty22, ty23, ty44, h1, h2', e3]
        exact ⟨_, rfl, by simp [hv, put], h0, h1, rfl, h7⟩
      | some q =>
        have hv : entOk i t y = True := by rw [eq_iff_iff, iff_true]; exact ⟨by omega, by omega, by omega, by omega, by omega, fun h => by rw [hm]; simp⟩
        simp only [go_sem, Nat.reduceEqDiff, ↓reduceIte, reduceIte, Nat.reduceAdd, Nat.reduceMul, Nat.reduceSub, Nat.reduceLeDiff, Nat.reduceBEq, Nat.reduceBNe, Int.reduceNeg, Int.reduceLT, Int.reduceLE, Int.reduceAdd, Int.reduceSub, Int.reduceToNat, Int.reduceEq, Int.reduceBEq, reduceCtorEq, List.cons.injEq, Int.reduceBNe, Int.sub_zero, decide_true, decide_false, false_and, and_false, ty2, ty3, ty5, ty22, ty23, ty44, h1, h2', e3]
        exact ⟨_, rfl, by simp [hv, put], h0, h1, rfl, h7⟩
    · rintro s ⟨tm', rfl, q55, q0, q1, q8, q7⟩
      refine W_cond q55 (fun h16 => ?_) (fun h16 => ?_)
      · have hbad : ¬ entOk i t y := by simpa using h16
        have hm : goodL i0 t0 l = False := by rw [eq_iff_iff, iff_false, hgs]; rintro ⟨h1, _⟩; exact hbad h1
        refine W_seq fun K17 hK17 => ?_
        refine W_reg rfl ?_
        simp only [go_sem, Nat.reduceEqDiff, ↓reduceIte, reduceIte, Nat.reduceAdd, Nat.reduceMul, Nat.reduceSub, Nat.reduceLeDiff, Nat.reduceBEq, Nat.reduceBNe, Int.reduceNeg, Int.reduceLT, Int.reduceLE, Int.reduceAdd, Int.reduceSub, Int.reduceToNat, Int.reduceEq, Int.reduceBEq, reduceCtorEq, List.cons.injEq, Int.reduceBNe, Int.sub_zero, decide_true, decide_false, false_and, and_false]
        refine hK17 _ ?_; clear hK17 K17
        refine W_ret ?_
        simp only [go_sem, Nat.reduceEqDiff, ↓reduceIte, reduceIte, Nat.reduceAdd, Nat.reduceMul, Nat.reduceSub, Nat.reduceLeDiff, Nat.reduceBEq, Nat.reduceBNe, Int.reduceNeg, Int.reduceLT, Int.reduceLE, Int.reduceAdd, Int.reduceSub, Int.reduceToNat, Int.reduceEq, Int.reduceBEq, reduceCtorEq, List.cons.injEq, Int.reduceBNe, Int.sub_zero, decide_true, decide_false, false_and, and_false]
        refine ends_ret (by simp only [go_sem, Nat.reduceEqDiff, ↓reduceIte, reduceIte, Nat.reduceAdd, Nat.reduceMul, Nat.reduceSub, Nat.reduceLeDiff, Nat.reduceBEq, Nat.reduceBNe, Int.reduceNeg, Int.reduceLT, Int.reduceLE, Int.reduceAdd, Int.reduceSub, Int.reduceToNat, Int.reduceEq, Int.reduceBEq, reduceCtorEq, List.cons.injEq, Int.reduceBNe, Int.sub_zero, decide_true, decide_false, false_and, and_false, Try.f26, hm] <;> rfl) (HLe.fresh (HLe.fresh hle (hfr [_, _])) (hfr [_, _]))
      · have hgd : entOk i t y := by simpa using h16
        refine W_skip (hK14 _ ?_); clear hK14 K14
        refine W_drw [[], [0], [], [2], [0, 1], [0, 1, 2, 3, 4]] follows_mixed (by rfl) (by rfl) ?_
        simp only [go_sem, Nat.reduceEqDiff, ↓reduceIte, reduceIte, Nat.reduceAdd, Nat.reduceMul, Nat.reduceSub, Nat.reduceLeDiff, Nat.reduceBEq, Nat.reduceBNe, Int.reduceNeg, Int.reduceLT, Int.reduceLE, Int.reduceAdd, Int.reduceSub, Int.reduceToNat, Int.reduceEq, Int.reduceBEq, reduceCtorEq, List.cons.injEq, Int.reduceBNe, Int.sub_zero, decide_true, decide_false, false_and, and_false, ty2, ty44, q8]
        refine hK7 _ ?_; clear hK7 K7
        refine W_reg rfl ?_
        simp only [go_sem, Nat.reduceEqDiff, ↓reduceIte, reduceIte, Nat.reduceAdd, Nat.reduceMul, Nat.reduceSub, Nat.reduceLeDiff, Nat.reduceBEq, Nat.reduceBNe, Int.reduceNeg, Int.reduceLT, Int.reduceLE, Int.reduceAdd, Int.reduceSub, Int.reduceToNat, Int.reduceEq, Int.reduceBEq, reduceCtorEq, List.cons.injEq, Int.reduceBNe, Int.sub_zero, decide_true, decide_false, false_and, and_false, ty3, q7, e4]
        refine ⟨_, ?_, n + 1, y.i, y.t, rfl, by omega, hgs.trans ⟨fun h => h.2, fun h => ⟨hgd, h⟩⟩, ?_, q0, rfl, rfl, rfl, HLe.fresh (HLe.fresh hle (hfr [_, _])) (hfr [_, _])⟩
        · omega
        · rw [hgd.1]; omega
  · have hge : n = l.length := by omega
    have g1 : decide ((n : Int) < (l.length : Int)) = false := by simp; omega
    have hm : goodL i0 t0 l = True := by rw [eq_iff_iff, iff_true, hgood, hge, List.drop_length]; trivial
    refine W_seq fun K4 hK4 => ?_
    refine W_seq fun K5 hK5 => ?_
    refine W_reg rfl ?_
    simp only [go_sem, Nat.reduceEqDiff, ↓reduceIte, reduceIte, Nat.reduceAdd, Nat.reduceMul, Nat.reduceSub, Nat.reduceLeDiff, Nat.reduceBEq, Nat.reduceBNe, Int.reduceNeg, Int.reduceLT, Int.reduceLE, Int.reduceAdd, Int.reduceSub, Int.reduceToNat, Int.reduceEq, Int.reduceBEq, reduceCtorEq, List.cons.injEq, Int.reduceBNe, Int.sub_zero, decide_true, decide_false, false_and, and_false, ty3, ty26, ty44, h0, h7, hl, g1]
    refine hK5 _ ?_; clear hK5 K5
    refine W_cond rfl (fun h6 => by cases h6) (fun h6 => ?_)
    refine W_exit ?_
    simp only [go_sem, Nat.reduceEqDiff, ↓reduceIte, reduceIte, Nat.reduceAdd, Nat.reduceMul, Nat.reduceSub, Nat.reduceLeDiff, Nat.reduceBEq, Nat.reduceBNe, Int.reduceNeg, Int.reduceLT, Int.reduceLE, Int.reduceAdd, Int.reduceSub, Int.reduceToNat, Int.reduceEq, Int.reduceBEq, reduceCtorEq, List.cons.injEq, Int.reduceBNe, Int.sub_zero, decide_true, decide_false, false_and, and_false]
    clear hK4 K4
    refine hK2 _ ?_; clear hK2 K2
    refine W_seq fun K9 hK9 => ?_
    refine W_reg rfl ?_
    simp only [go_sem, Nat.reduceEqDiff, ↓reduceIte, reduceIte, Nat.reduceAdd, Nat.reduceMul, Nat.reduceSub, Nat.reduceLeDiff, Nat.reduceBEq, Nat.reduceBNe, Int.reduceNeg, Int.reduceLT, Int.reduceLE, Int.reduceAdd, Int.reduceSub, Int.reduceToNat, Int.reduceEq, Int.reduceBEq, reduceCtorEq, List.cons.injEq, Int.reduceBNe, Int.sub_zero, decide_true, decide_false, false_and, and_false]
    refine hK9 _ ?_; clear hK9 K9
    refine W_ret ?_
    simp only [go_sem, Nat.reduceEqDiff, ↓reduceIte, reduceIte, Nat.reduceAdd, Nat.reduceMul, Nat.reduceSub, Nat.reduceLeDiff, Nat.reduceBEq, Nat.reduceBNe, Int.reduceNeg, Int.reduceLT, Int.reduceLE, Int.reduceAdd, Int.reduceSub, Int.reduceToNat, Int.reduceEq, Int.reduceBEq, reduceCtorEq, List.cons.injEq, Int.reduceBNe, Int.sub_zero, decide_true, decide_false, false_and, and_false]
    refine ends_ret (by simp only [go_sem, Nat.reduceEqDiff, ↓reduceIte, reduceIte, Nat.reduceAdd, Nat.reduceMul, Nat.reduceSub, Nat.reduceLeDiff, Nat.reduceBEq, Nat.reduceBNe, Int.reduceNeg, Int.reduceLT, Int.reduceLE, Int.reduceAdd, Int.reduceSub, Int.reduceToNat, Int.reduceEq, Int.reduceBEq, reduceCtorEq, List.cons.injEq, Int.reduceBNe, Int.sub_zero, decide_true, decide_false, false_and, and_false, Try.f26, hm] <;> rfl) hle
end Go.Proofs.Ytcfmbbebnobflaa
