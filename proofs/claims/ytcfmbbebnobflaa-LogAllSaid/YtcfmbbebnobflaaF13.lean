/- The reference's ConfAt and Conf. -/
import Derived.Test.YtcfmbbebnobflaaF12
set_option linter.unusedVariables false
set_option linter.unusedSimpArgs false
namespace Go.Proofs.Ytcfmbbebnobflaa
open Go Go.SX

set_option maxRecDepth 8000 in
theorem f36_ok (id b : BId) (s : Snp) (o : Option (List Ent)) (i : Int) (hs : 0 ≤ s.i) (hl : lastL s (sqL o) ≤ 4611686018427387904) (hd : ∀ e ∈ sqL o, (sqL e.d).length ≤ 1000) (hix : ∀ (n : Nat) (h : n < (sqL o).length), ((sqL o)[n]).i = s.i + n + 1) :
    CallF Try.prog 36 [.ptr b 0, .p (.int .i64 i)] id [(b, .cells 57 (lgC s o))] (sq nE (confA s (sqL o) i)) [] := by
  refine ⟨⟨_, Try.func36, by decide, rfl⟩, (by simp <;> repeat first | exact ⟨[_, _], rfl⟩ | constructor), fun h hr => callsA_of_W Try.func36 rfl fun hfr => ?_⟩
  have hb := hr.1; simp only [lgC] at hb
  generalize hL : sqL o = l at *
  have hl2 : lastL s l = s.i + l.length := rfl
  have e0 : IntKind.i64.wrap ((l.length : Int) - 1) = (l.length : Int) - 1 := wrap_i64 (by omega)
  refine W_seq fun K1 hK1 => ?_
  refine W_reg rfl ?_
  simp only [go_sem, Nat.reduceEqDiff, ↓reduceIte, reduceIte, Nat.reduceAdd, Nat.reduceMul, Nat.reduceSub, Nat.reduceLeDiff, Nat.reduceBEq, Nat.reduceBNe, Int.reduceNeg, Int.reduceLT, Int.reduceLE, Int.reduceAdd, Int.reduceSub, Int.reduceToNat, Int.reduceEq, Int.reduceBEq, reduceCtorEq, List.cons.injEq, Int.reduceBNe, Int.sub_zero, decide_true, decide_false, false_and, and_false]
  refine hK1 _ ?_; clear hK1 K1
  refine W_seq fun K2 hK2 => ?_
  refine W_seq fun K3 hK3 => ?_
  refine W_reg rfl ?_
  simp only [go_sem, Nat.reduceEqDiff, ↓reduceIte, reduceIte, Nat.reduceAdd, Nat.reduceMul, Nat.reduceSub, Nat.reduceLeDiff, Nat.reduceBEq, Nat.reduceBNe, Int.reduceNeg, Int.reduceLT, Int.reduceLE, Int.reduceAdd, Int.reduceSub, Int.reduceToNat, Int.reduceEq, Int.reduceBEq, reduceCtorEq, List.cons.injEq, Int.reduceBNe, Int.sub_zero, decide_true, decide_false, false_and, and_false, ty3, ty26, ty44, ty57, hb, hL, e0]
  refine hK3 _ ?_; clear hK3 K3
  refine W_block ?_
  refine W_loop ?_
  generalize hm : (min i (lastL s l) - s.i).toNat = m
  have hcf : confA s l i = confN s.c l m := by unfold confA; rw [hm]
  refine WL_nat (P := Try.prog) (fun q s' => ∃ n : Nat, q = n ∧ n ≤ l.length ∧ confN s.c l m = confN s.c l (min m n) ∧ s'.tm 0 = .ptr b 0 ∧ s'.tm 1 = .p (.int .i64 i) ∧ s'.tm 5 = .p (.int .i64 ((n : Int) - 1)) ∧ s'.h = h) (fun q s' hI => ?_) _ _ ⟨l.length, rfl, by omega, by rw [Nat.min_eq_left (by omega)], rfl, rfl, rfl, rfl⟩
  obtain ⟨n, hqn, hn, hcn, h0, h1, h5, hh⟩ := hI
  obtain ⟨tm, h2, tt⟩ := s'
  simp only at h0 h1 h5 hh
  subst hh
  cases n with
  | succ n =>
    have g1 : decide (((n + 1 : Nat) : Int) - 1 ≥ 0) = true := by simp
    have g2 : ((n + 1 : Nat) : Int) - 1 = (n : Int) := by omega
    have g3 : IntKind.i64.wrap ((n : Int) - 1) = (n : Int) - 1 := wrap_i64 (by omega)
    have hn' : n < l.length := by omega
    have hx : (l.flatMap Ent.enc).drop (n * 4) = Ent.enc l[n] ++ (l.drop (n + 1)).flatMap Ent.enc := flatMap_at Ent.enc_len l _ hn'
    have hhit := confN_hit (c := s.c) hn'
    have hmiss := confN_miss (c := s.c) hn'
    have hdn : (sqL l[n].d).length ≤ 1000 := hd _ (List.getElem_mem hn')
    have hyi := hix n hn'
    generalize hy : l[n] = y at *
    have e1 : (0 : Int) ≤ (n : Int) ∧ (n : Int) < (l.length : Int) := by omega
    have hskip : (y.k ≠ 3 ∨ i < y.i) → confN s.c l m = confN s.c l (min m n) := by
      intro hq
      rw [hcn]
      by_cases hmn : n + 1 ≤ m
      · rw [Nat.min_eq_right hmn, Nat.min_eq_right (by omega)]
        rcases hq with hq | hq
        · exact hmiss hq
        · omega
      · rw [Nat.min_eq_left (by omega), Nat.min_eq_left (by omega)]
    rw [g2] at h5 g1
    refine W_seq fun K4 hK4 => ?_
    refine W_seq fun K5 hK5 => ?_
    refine W_reg rfl ?_
    simp only [go_sem, Nat.reduceEqDiff, ↓reduceIte, reduceIte, Nat.reduceAdd, Nat.reduceMul, Nat.reduceSub, Nat.reduceLeDiff, Nat.reduceBEq, Nat.reduceBNe, Int.reduceNeg, Int.reduceLT, Int.reduceLE, Int.reduceAdd, Int.reduceSub, Int.reduceToNat, Int.reduceEq, Int.reduceBEq, reduceCtorEq, List.cons.injEq, Int.reduceBNe, Int.sub_zero, decide_true, decide_false, false_and, and_false, ty3, h5, g1]
    refine hK5 _ ?_; clear hK5 K5
    refine W_cond rfl (fun h6 => ?_) (fun h6 => by cases h6)
    refine W_skip (hK4 _ ?_); clear hK4 K4
    refine W_seq fun K7 hK7 => ?_
    refine W_block ?_
    refine W_seq_cut (fun s' => ∃ tm', s' = ⟨tm', h2, tt + 1 + 1⟩ ∧ tm' 36 = .p (.bool (decide (y.k = 3 ∧ y.i ≤ i))) ∧ tm' 0 = .ptr b 0 ∧ tm' 1 = .p (.int .i64 i) ∧ tm' 5 = .p (.int .i64 n)) ?_ ?_
    · refine W_reg rfl ?_
      by_cases c1 : y.k = 3
      · have f1 : (y.k == 3) = true := by simpa using c1
        simp only [go_sem, Nat.reduceEqDiff, ↓reduceIte, reduceIte, Nat.reduceAdd, Nat.reduceMul, Nat.reduceSub, Nat.reduceLeDiff, Nat.reduceBEq, Nat.reduceBNe, Int.reduceNeg, Int.reduceLT, Int.reduceLE, Int.reduceAdd, Int.reduceSub, Int.reduceToNat, Int.reduceEq, Int.reduceBEq, reduceCtorEq, List.cons.injEq, Int.reduceBNe, Int.sub_zero, decide_true, decide_false, false_and, and_false, ty2, ty3, ty26, ty44, ty57, hb, hL, h0, h1, h5, hx, e1, f1, Ent.enc]
        exact ⟨_, rfl, by simp [put, c1], h0, h1, h5⟩
      · have f1 : (y.k == 3) = false := by simpa using c1
        simp only [go_sem, Nat.reduceEqDiff, ↓reduceIte, reduceIte, Nat.reduceAdd, Nat.reduceMul, Nat.reduceSub, Nat.reduceLeDiff, Nat.reduceBEq, Nat.reduceBNe, Int.reduceNeg, Int.reduceLT, Int.reduceLE, Int.reduceAdd, Int.reduceSub, Int.reduceToNat, Int.reduceEq, Int.reduceBEq, reduceCtorEq, List.cons.injEq, Int.reduceBNe, Int.sub_zero, decide_true, decide_false, false_and, and_false, ty2, ty3, ty26, ty44, ty57, hb, hL, h0, h1, h5, hx, e1, f1, Ent.enc]
        exact ⟨_, rfl, by simp [put, c1], h0, h1, h5⟩
    · rintro s' ⟨tm', rfl, q36, q0, q1, q5⟩
      refine W_cond q36 (fun h9 => ?_) (fun h9 => ?_)
      · have hc : y.k = 3 ∧ y.i ≤ i := by simpa using h9
        have hres : confA s l i = membL (sqL y.d) := by
          rw [hcf, hcn, Nat.min_eq_right (by omega)]; exact hhit hc.1
        refine W_seq fun K10 hK10 => ?_
        refine W_reg rfl ?_
        simp only [go_sem, Nat.reduceEqDiff, ↓reduceIte, reduceIte, Nat.reduceAdd, Nat.reduceMul, Nat.reduceSub, Nat.reduceLeDiff, Nat.reduceBEq, Nat.reduceBNe, Int.reduceNeg, Int.reduceLT, Int.reduceLE, Int.reduceAdd, Int.reduceSub, Int.reduceToNat, Int.reduceEq, Int.reduceBEq, reduceCtorEq, List.cons.injEq, Int.reduceBNe, Int.sub_zero, decide_true, decide_false, false_and, and_false, ty3, ty5, ty23, ty26, ty44, ty57, hb, hL, q0, q5, hx, e1, Ent.enc]
        refine stop_call (f44_ok _ y.d hdn) trivial ?_
        simp only [go_sem, Nat.reduceEqDiff, ↓reduceIte, reduceIte, Nat.reduceAdd, Nat.reduceMul, Nat.reduceSub, Nat.reduceLeDiff, Nat.reduceBEq, Nat.reduceBNe, Int.reduceNeg, Int.reduceLT, Int.reduceLE, Int.reduceAdd, Int.reduceSub, Int.reduceToNat, Int.reduceEq, Int.reduceBEq, reduceCtorEq, List.cons.injEq, Int.reduceBNe, Int.sub_zero, decide_true, decide_false, false_and, and_false]
        refine hK10 _ ?_; clear hK10 K10
        refine W_ret ?_
        simp only [go_sem, Nat.reduceEqDiff, ↓reduceIte, reduceIte, Nat.reduceAdd, Nat.reduceMul, Nat.reduceSub, Nat.reduceLeDiff, Nat.reduceBEq, Nat.reduceBNe, Int.reduceNeg, Int.reduceLT, Int.reduceLE, Int.reduceAdd, Int.reduceSub, Int.reduceToNat, Int.reduceEq, Int.reduceBEq, reduceCtorEq, List.cons.injEq, Int.reduceBNe, Int.sub_zero, decide_true, decide_false, false_and, and_false]
        rw [hres]
        refine ends_ret (by simp only [go_sem, Nat.reduceEqDiff, ↓reduceIte, reduceIte, Nat.reduceAdd, Nat.reduceMul, Nat.reduceSub, Nat.reduceLeDiff, Nat.reduceBEq, Nat.reduceBNe, Int.reduceNeg, Int.reduceLT, Int.reduceLE, Int.reduceAdd, Int.reduceSub, Int.reduceToNat, Int.reduceEq, Int.reduceBEq, reduceCtorEq, List.cons.injEq, Int.reduceBNe, Int.sub_zero, decide_true, decide_false, false_and, and_false, Try.f36]) (HLe.refl _)
      · have hc : ¬ (y.k = 3 ∧ y.i ≤ i) := by simpa using h9
        refine W_skip ?_
        simp only [go_sem, Nat.reduceEqDiff, ↓reduceIte, reduceIte, Nat.reduceAdd, Nat.reduceMul, Nat.reduceSub, Nat.reduceLeDiff, Nat.reduceBEq, Nat.reduceBNe, Int.reduceNeg, Int.reduceLT, Int.reduceLE, Int.reduceAdd, Int.reduceSub, Int.reduceToNat, Int.reduceEq, Int.reduceBEq, reduceCtorEq, List.cons.injEq, Int.reduceBNe, Int.sub_zero, decide_true, decide_false, false_and, and_false]
        refine hK7 _ ?_; clear hK7 K7
        refine W_reg rfl ?_
        simp only [go_sem, Nat.reduceEqDiff, ↓reduceIte, reduceIte, Nat.reduceAdd, Nat.reduceMul, Nat.reduceSub, Nat.reduceLeDiff, Nat.reduceBEq, Nat.reduceBNe, Int.reduceNeg, Int.reduceLT, Int.reduceLE, Int.reduceAdd, Int.reduceSub, Int.reduceToNat, Int.reduceEq, Int.reduceBEq, reduceCtorEq, List.cons.injEq, Int.reduceBNe, Int.sub_zero, decide_true, decide_false, false_and, and_false, ty3, q5, g3]
        refine ⟨n, by omega, n, rfl, by omega, hskip (by omega), q0, q1, ?_⟩
        first | rfl | exact ⟨rfl, rfl⟩
  | zero =>
    have g1 : decide (((0 : Nat) : Int) - 1 ≥ 0) = false := rfl
    refine W_seq fun K4 hK4 => ?_
    refine W_seq fun K5 hK5 => ?_
    refine W_reg rfl ?_
    simp only [go_sem, Nat.reduceEqDiff, ↓reduceIte, reduceIte, Nat.reduceAdd, Nat.reduceMul, Nat.reduceSub, Nat.reduceLeDiff, Nat.reduceBEq, Nat.reduceBNe, Int.reduceNeg, Int.reduceLT, Int.reduceLE, Int.reduceAdd, Int.reduceSub, Int.reduceToNat, Int.reduceEq, Int.reduceBEq, reduceCtorEq, List.cons.injEq, Int.reduceBNe, Int.sub_zero, decide_true, decide_false, false_and, and_false, ty3, h5, g1]
    refine hK5 _ ?_; clear hK5 K5
    refine W_cond rfl (fun h6 => by cases h6) (fun h6 => ?_)
    refine W_exit ?_
    simp only [go_sem, Nat.reduceEqDiff, ↓reduceIte, reduceIte, Nat.reduceAdd, Nat.reduceMul, Nat.reduceSub, Nat.reduceLeDiff, Nat.reduceBEq, Nat.reduceBNe, Int.reduceNeg, Int.reduceLT, Int.reduceLE, Int.reduceAdd, Int.reduceSub, Int.reduceToNat, Int.reduceEq, Int.reduceBEq, reduceCtorEq, List.cons.injEq, Int.reduceBNe, Int.sub_zero, decide_true, decide_false, false_and, and_false]
    clear hK4 K4
    refine hK2 _ ?_; clear hK2 K2
    have hres : confA s l i = s.c := by rw [hcf, hcn, Nat.min_zero]; rfl
    refine W_seq fun K9 hK9 => ?_
    refine W_reg rfl ?_
    simp only [go_sem, Nat.reduceEqDiff, ↓reduceIte, reduceIte, Nat.reduceAdd, Nat.reduceMul, Nat.reduceSub, Nat.reduceLeDiff, Nat.reduceBEq, Nat.reduceBNe, Int.reduceNeg, Int.reduceLT, Int.reduceLE, Int.reduceAdd, Int.reduceSub, Int.reduceToNat, Int.reduceEq, Int.reduceBEq, reduceCtorEq, List.cons.injEq, Int.reduceBNe, Int.sub_zero, decide_true, decide_false, false_and, and_false, ty3, ty22, ty25, ty57, h0, hb]
    refine hK9 _ ?_; clear hK9 K9
    refine W_ret ?_
    simp only [go_sem, Nat.reduceEqDiff, ↓reduceIte, reduceIte, Nat.reduceAdd, Nat.reduceMul, Nat.reduceSub, Nat.reduceLeDiff, Nat.reduceBEq, Nat.reduceBNe, Int.reduceNeg, Int.reduceLT, Int.reduceLE, Int.reduceAdd, Int.reduceSub, Int.reduceToNat, Int.reduceEq, Int.reduceBEq, reduceCtorEq, List.cons.injEq, Int.reduceBNe, Int.sub_zero, decide_true, decide_false, false_and, and_false]
    rw [hres]
    refine ends_ret (by simp only [go_sem, Nat.reduceEqDiff, ↓reduceIte, reduceIte, Nat.reduceAdd, Nat.reduceMul, Nat.reduceSub, Nat.reduceLeDiff, Nat.reduceBEq, Nat.reduceBNe, Int.reduceNeg, Int.reduceLT, Int.reduceLE, Int.reduceAdd, Int.reduceSub, Int.reduceToNat, Int.reduceEq, Int.reduceBEq, reduceCtorEq, List.cons.injEq, Int.reduceBNe, Int.sub_zero, decide_true, decide_false, false_and, and_false, Try.f36]) (HLe.refl _)

set_option maxRecDepth 8000 in
theorem f31_ok (id b : BId) (s : Snp) (o : Option (List Ent)) (hs : 0 ≤ s.i) (hl : lastL s (sqL o) ≤ 4611686018427387904) (hd : ∀ e ∈ sqL o, (sqL e.d).length ≤ 1000) (hix : ∀ (n : Nat) (h : n < (sqL o).length), ((sqL o)[n]).i = s.i + n + 1) :
    CallF Try.prog 31 [.ptr b 0] id [(b, .cells 57 (lgC s o))] (sq nE (confA s (sqL o) (lastL s (sqL o)))) [] := by
  refine ⟨⟨_, Try.func31, by decide, rfl⟩, (by simp <;> repeat first | exact ⟨[_, _], rfl⟩ | constructor), fun h hr => callsA_of_W Try.func31 rfl fun hfr => ?_⟩
  have hb := hr.1; simp only [lgC] at hb
  have hl2 : lastL s (sqL o) = s.i + (sqL o).length := rfl
  refine W_seq fun K1 hK1 => ?_
  refine W_reg rfl ?_
  simp only [go_sem, Nat.reduceEqDiff, ↓reduceIte, reduceIte, Nat.reduceAdd, Nat.reduceMul, Nat.reduceSub, Nat.reduceLeDiff, Nat.reduceBEq, Nat.reduceBNe, Int.reduceNeg, Int.reduceLT, Int.reduceLE, Int.reduceAdd, Int.reduceSub, Int.reduceToNat, Int.reduceEq, Int.reduceBEq, reduceCtorEq, List.cons.injEq, Int.reduceBNe, Int.sub_zero, decide_true, decide_false, false_and, and_false]
  refine hK1 _ ?_; clear hK1 K1
  refine W_seq fun K2 hK2 => ?_
  refine W_reg rfl ?_
  simp only [go_sem, Nat.reduceEqDiff, ↓reduceIte, reduceIte, Nat.reduceAdd, Nat.reduceMul, Nat.reduceSub, Nat.reduceLeDiff, Nat.reduceBEq, Nat.reduceBNe, Int.reduceNeg, Int.reduceLT, Int.reduceLE, Int.reduceAdd, Int.reduceSub, Int.reduceToNat, Int.reduceEq, Int.reduceBEq, reduceCtorEq, List.cons.injEq, Int.reduceBNe, Int.sub_zero, decide_true, decide_false, false_and, and_false]
  refine stop_call (f27_ok _ b s o (by omega)) ⟨hr.1, trivial⟩ ?_
  simp only [go_sem, Nat.reduceEqDiff, ↓reduceIte, reduceIte, Nat.reduceAdd, Nat.reduceMul, Nat.reduceSub, Nat.reduceLeDiff, Nat.reduceBEq, Nat.reduceBNe, Int.reduceNeg, Int.reduceLT, Int.reduceLE, Int.reduceAdd, Int.reduceSub, Int.reduceToNat, Int.reduceEq, Int.reduceBEq, reduceCtorEq, List.cons.injEq, Int.reduceBNe, Int.sub_zero, decide_true, decide_false, false_and, and_false]
  refine stop_call (f36_ok _ b s o _ hs hl hd hix) ⟨hr.1, trivial⟩ ?_
  simp only [go_sem, Nat.reduceEqDiff, ↓reduceIte, reduceIte, Nat.reduceAdd, Nat.reduceMul, Nat.reduceSub, Nat.reduceLeDiff, Nat.reduceBEq, Nat.reduceBNe, Int.reduceNeg, Int.reduceLT, Int.reduceLE, Int.reduceAdd, Int.reduceSub, Int.reduceToNat, Int.reduceEq, Int.reduceBEq, reduceCtorEq, List.cons.injEq, Int.reduceBNe, Int.sub_zero, decide_true, decide_false, false_and, and_false]
  refine hK2 _ ?_; clear hK2 K2
  refine W_ret ?_
  simp only [go_sem, Nat.reduceEqDiff, ↓reduceIte, reduceIte, Nat.reduceAdd, Nat.reduceMul, Nat.reduceSub, Nat.reduceLeDiff, Nat.reduceBEq, Nat.reduceBNe, Int.reduceNeg, Int.reduceLT, Int.reduceLE, Int.reduceAdd, Int.reduceSub, Int.reduceToNat, Int.reduceEq, Int.reduceBEq, reduceCtorEq, List.cons.injEq, Int.reduceBNe, Int.sub_zero, decide_true, decide_false, false_and, and_false]
  refine ends_ret (by simp only [go_sem, Nat.reduceEqDiff, ↓reduceIte, reduceIte, Nat.reduceAdd, Nat.reduceMul, Nat.reduceSub, Nat.reduceLeDiff, Nat.reduceBEq, Nat.reduceBNe, Int.reduceNeg, Int.reduceLT, Int.reduceLE, Int.reduceAdd, Int.reduceSub, Int.reduceToNat, Int.reduceEq, Int.reduceBEq, reduceCtorEq, List.cons.injEq, Int.reduceBNe, Int.sub_zero, decide_true, decide_false, false_and, and_false, Try.f31]) (HLe.refl _)
end Go.Proofs.Ytcfmbbebnobflaa
