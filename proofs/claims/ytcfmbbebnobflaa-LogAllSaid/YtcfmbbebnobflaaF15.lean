/- The log's Slice. -/
import Derived.Test.YtcfmbbebnobflaaF14
set_option linter.unusedVariables false
set_option linter.unusedSimpArgs false
namespace Go.Proofs.Ytcfmbbebnobflaa
open Go Go.SX

theorem Ent.enc_one (a : Ent) : (Ent.enc a).all AV.one = true := by simp [Ent.enc, one_p, one_sq, oc_int]

set_option maxRecDepth 8000 in
theorem f21_ok (id b : BId) (s : Snp) (o : Option (List Ent)) (i n : Int) (hs : 0 ≤ s.i) (hl : lastL s (sqL o) ≤ 4611686018427387904) (hlen : (sqL o).length ≤ 1000) (hd : ∀ e ∈ sqL o, (sqL e.d).length ≤ 1000) :
    CallF Try.prog 21 [.ptr b 0, .p (.int .i64 i), .p (.int .i64 n)] id [(b, .cells 53 (lgC s o))] (sq Ent.enc (ne (sliceL s (sqL o) i n))) [] := by
  refine ⟨⟨_, Try.func21, by decide, rfl⟩, (by simp <;> repeat first | exact ⟨[_, _], rfl⟩ | constructor), fun h hr => callsA_of_W Try.func21 rfl fun hfr => ?_⟩
  have hb := hr.1; simp only [lgC] at hb
  have hl2 : lastL s (sqL o) = s.i + (sqL o).length := rfl
  refine W_seq fun K1 hK1 => ?_
  refine W_reg rfl ?_
  simp only [go_sem, Nat.reduceEqDiff, ↓reduceIte, reduceIte, Nat.reduceAdd, Nat.reduceMul, Nat.reduceSub, Nat.reduceLeDiff, Nat.reduceBEq, Nat.reduceBNe, Int.reduceNeg, Int.reduceLT, Int.reduceLE, Int.reduceAdd, Int.reduceSub, Int.reduceToNat, Int.reduceEq, Int.reduceBEq, reduceCtorEq, List.cons.injEq, Int.reduceBNe, Int.sub_zero, decide_true, decide_false, false_and, and_false]
  refine hK1 _ ?_; clear hK1 K1
  refine W_seq fun K2 hK2 => ?_
  refine W_seq_cut (fun s' => ∃ tm', s' = ⟨tm', h, 2⟩ ∧ tm' 30 = .p (.bool (decide (i ≤ s.i ∨ lastL s (sqL o) < i ∨ n < 1))) ∧ tm' 0 = .ptr b 0 ∧ tm' 1 = .p (.int .i64 i) ∧ tm' 2 = .p (.int .i64 n)) ?_ ?_
  · refine W_reg rfl ?_
    by_cases c1 : i ≤ s.i
    · have f1 : decide (i ≤ s.i) = true := by simpa using c1
      simp only [go_sem, Nat.reduceEqDiff, ↓reduceIte, reduceIte, Nat.reduceAdd, Nat.reduceMul, Nat.reduceSub, Nat.reduceLeDiff, Nat.reduceBEq, Nat.reduceBNe, Int.reduceNeg, Int.reduceLT, Int.reduceLE, Int.reduceAdd, Int.reduceSub, Int.reduceToNat, Int.reduceEq, Int.reduceBEq, reduceCtorEq, List.cons.injEq, Int.reduceBNe, Int.sub_zero, decide_true, decide_false, false_and, and_false, ty2, ty3, ty25, ty31, ty53, hb, f1]
      exact ⟨_, rfl, by simp [put, c1], rfl, rfl, rfl⟩
    have f1 : decide (i ≤ s.i) = false := by simpa using c1
    simp only [go_sem, Nat.reduceEqDiff, ↓reduceIte, reduceIte, Nat.reduceAdd, Nat.reduceMul, Nat.reduceSub, Nat.reduceLeDiff, Nat.reduceBEq, Nat.reduceBNe, Int.reduceNeg, Int.reduceLT, Int.reduceLE, Int.reduceAdd, Int.reduceSub, Int.reduceToNat, Int.reduceEq, Int.reduceBEq, reduceCtorEq, List.cons.injEq, Int.reduceBNe, Int.sub_zero, decide_true, decide_false, false_and, and_false, ty2, ty3, ty25, ty31, ty53, hb, f1]
    refine stop_call (f19_ok _ b s o (by omega)) ⟨hr.1, trivial⟩ ?_
    by_cases c2 : lastL s (sqL o) < i
    · have f2 : decide (i > lastL s (sqL o)) = true := by simpa using c2
      simp only [go_sem, Nat.reduceEqDiff, ↓reduceIte, reduceIte, Nat.reduceAdd, Nat.reduceMul, Nat.reduceSub, Nat.reduceLeDiff, Nat.reduceBEq, Nat.reduceBNe, Int.reduceNeg, Int.reduceLT, Int.reduceLE, Int.reduceAdd, Int.reduceSub, Int.reduceToNat, Int.reduceEq, Int.reduceBEq, reduceCtorEq, List.cons.injEq, Int.reduceBNe, Int.sub_zero, decide_true, decide_false, false_and, and_false, f2]
      exact ⟨_, rfl, by simp [put, c2], rfl, rfl, rfl⟩
    have f2 : decide (i > lastL s (sqL o)) = false := by simpa using c2
    simp only [go_sem, Nat.reduceEqDiff, ↓reduceIte, reduceIte, Nat.reduceAdd, Nat.reduceMul, Nat.reduceSub, Nat.reduceLeDiff, Nat.reduceBEq, Nat.reduceBNe, Int.reduceNeg, Int.reduceLT, Int.reduceLE, Int.reduceAdd, Int.reduceSub, Int.reduceToNat, Int.reduceEq, Int.reduceBEq, reduceCtorEq, List.cons.injEq, Int.reduceBNe, Int.sub_zero, decide_true, decide_false, false_and, and_false, f2]
    refine ⟨_, rfl, by simp [put, c1, c2], rfl, rfl, rfl⟩
  · rintro s' ⟨tm', rfl, q24, q0, q1, q2⟩
    refine W_cond q24 (fun h4 => ?_) (fun h4 => ?_)
    · have hc : i ≤ s.i ∨ lastL s (sqL o) < i ∨ n < 1 := by simpa using h4
      have hres : sliceL s (sqL o) i n = [] := by unfold sliceL; rw [if_pos hc]
      rw [hres]
      refine W_seq fun K5 hK5 => ?_
      refine W_reg rfl ?_
      simp only [go_sem, Nat.reduceEqDiff, ↓reduceIte, reduceIte, Nat.reduceAdd, Nat.reduceMul, Nat.reduceSub, Nat.reduceLeDiff, Nat.reduceBEq, Nat.reduceBNe, Int.reduceNeg, Int.reduceLT, Int.reduceLE, Int.reduceAdd, Int.reduceSub, Int.reduceToNat, Int.reduceEq, Int.reduceBEq, reduceCtorEq, List.cons.injEq, Int.reduceBNe, Int.sub_zero, decide_true, decide_false, false_and, and_false]
      refine hK5 _ ?_; clear hK5 K5
      refine W_ret ?_
      simp only [go_sem, Nat.reduceEqDiff, ↓reduceIte, reduceIte, Nat.reduceAdd, Nat.reduceMul, Nat.reduceSub, Nat.reduceLeDiff, Nat.reduceBEq, Nat.reduceBNe, Int.reduceNeg, Int.reduceLT, Int.reduceLE, Int.reduceAdd, Int.reduceSub, Int.reduceToNat, Int.reduceEq, Int.reduceBEq, reduceCtorEq, List.cons.injEq, Int.reduceBNe, Int.sub_zero, decide_true, decide_false, false_and, and_false]
      refine ends_ret (by simp only [go_sem, Nat.reduceEqDiff, ↓reduceIte, reduceIte, Nat.reduceAdd, Nat.reduceMul, Nat.reduceSub, Nat.reduceLeDiff, Nat.reduceBEq, Nat.reduceBNe, Int.reduceNeg, Int.reduceLT, Int.reduceLE, Int.reduceAdd, Int.reduceSub, Int.reduceToNat, Int.reduceEq, Int.reduceBEq, reduceCtorEq, List.cons.injEq, Int.reduceBNe, Int.sub_zero, decide_true, decide_false, false_and, and_false, Try.f21] <;> rfl) (HLe.refl _)
    · have hc : ¬ (i ≤ s.i ∨ lastL s (sqL o) < i ∨ n < 1) := by simpa using h4
      have hres : sliceL s (sqL o) i n = ((sqL o).drop (i - s.i - 1).toNat).take n.toNat := by unfold sliceL; rw [if_neg hc]
      have e3 : IntKind.i64.wrap (i - s.i) = i - s.i := wrap_i64 (by omega)
      have e4 : IntKind.i64.wrap (i - s.i - 1) = i - s.i - 1 := wrap_i64 (by omega)
      have ho1 : sqL (o.map fun x => (x.drop (i - s.i - 1).toNat).take ((sqL o).length - (i - s.i - 1).toNat)) = (sqL o).drop (i - s.i - 1).toNat := by
        rw [sqL_map _ _ (by simp), List.take_of_length_le (by simp)]
      have hd1 : ∀ e ∈ sqL (o.map fun x => (x.drop (i - s.i - 1).toNat).take ((sqL o).length - (i - s.i - 1).toNat)), (sqL e.d).length ≤ 1000 := fun e he => by
        rw [ho1] at he; exact hd e (List.mem_of_mem_drop he)
      refine W_skip (hK2 _ ?_); clear hK2 K2
      rw [hres, ← ho1]
      refine W_seq fun K6 hK6 => ?_
      refine W_reg rfl ?_
      simp only [go_sem, Nat.reduceEqDiff, ↓reduceIte, reduceIte, Nat.reduceAdd, Nat.reduceMul, Nat.reduceSub, Nat.reduceLeDiff, Nat.reduceBEq, Nat.reduceBNe, Int.reduceNeg, Int.reduceLT, Int.reduceLE, Int.reduceAdd, Int.reduceSub, Int.reduceToNat, Int.reduceEq, Int.reduceBEq, reduceCtorEq, List.cons.injEq, Int.reduceBNe, Int.sub_zero, decide_true, decide_false, false_and, and_false]
      refine hK6 _ ?_; clear hK6 K6
      refine W_seq fun K7 hK7 => ?_
      refine W_seq fun K8 hK8 => ?_
      refine W_drw [[], [0], [0, 1], [0, 1, 2], [], [], [5], [5, 6], [5, 6, 7], [5, 6, 7, 8], [4, 5, 6, 7, 8, 9], [4, 5, 6, 7, 8, 9, 10], [0, 1, 2, 3, 4, 5, 6, 7, 8, 9, 10, 11], [0, 1, 2, 3, 4, 5, 6, 7, 8, 9, 10, 11, 12], []] follows_mixed (by rfl) (by rfl) ?_
      simp only [go_sem, Nat.reduceEqDiff, ↓reduceIte, reduceIte, Nat.reduceAdd, Nat.reduceMul, Nat.reduceSub, Nat.reduceLeDiff, Nat.reduceBEq, Nat.reduceBNe, Int.reduceNeg, Int.reduceLT, Int.reduceLE, Int.reduceAdd, Int.reduceSub, Int.reduceToNat, Int.reduceEq, Int.reduceBEq, reduceCtorEq, List.cons.injEq, Int.reduceBNe, Int.sub_zero, decide_true, decide_false, false_and, and_false, ty2, ty25, ty26, ty44, ty53, q0, q1, hb, e3, e4]
      refine sliceW_sq (i - s.i - 1).toNat (sqL o).length ty26.2.2.2.1 ty44.2.1 Ent.enc_len (by simp only [bndA]; congr 1; omega) rfl (by omega) (by omega) ?_
      have hl1 : (sqL (o.map fun x => (x.drop (i - s.i - 1).toNat).take ((sqL o).length - (i - s.i - 1).toNat))).length ≤ 1000 := by rw [ho1]; simp; omega
      clear ho1
      generalize (o.map fun x => (x.drop (i - s.i - 1).toNat).take ((sqL o).length - (i - s.i - 1).toNat)) = o1 at *
      simp only [go_sem, Nat.reduceEqDiff, ↓reduceIte, reduceIte, Nat.reduceAdd, Nat.reduceMul, Nat.reduceSub, Nat.reduceLeDiff, Nat.reduceBEq, Nat.reduceBNe, Int.reduceNeg, Int.reduceLT, Int.reduceLE, Int.reduceAdd, Int.reduceSub, Int.reduceToNat, Int.reduceEq, Int.reduceBEq, reduceCtorEq, List.cons.injEq, Int.reduceBNe, Int.sub_zero, decide_true, decide_false, false_and, and_false, ty26]
      refine hK8 _ ?_; clear hK8 K8
      generalize hL : sqL o1 = l at *
      refine W_block ?_
      refine W_loop ?_
      refine WL_nat (P := Try.prog) (fun m s' => ∃ j : Nat, m = l.length - j ∧ j ≤ l.length ∧ (j : Int) ≤ n ∧ s'.tm 2 = .p (.int .i64 n) ∧ s'.tm 43 = sq Ent.enc o1 ∧ s'.tm 44 = .p (.int .i64 l.length) ∧ s'.tm 45 = .p (.int .i64 j) ∧
        Own Ent.enc 44 4 s'.h (s'.tm 7) (l.take j) ∧ HLe h s'.h ∧ ∀ b f p n z, s'.tm 7 = .ref f b p n z → h b = none) (fun m s' hI => ?_) _ _ ⟨0, rfl, by omega, by omega, q2, rfl, rfl, rfl, .inl ⟨rfl, rfl⟩, HLe.refl _, fun b f p n z e => by cases e⟩
      obtain ⟨j, rfl, hj, hjn, h2', h43, h44, h45, how, hle, hfs⟩ := hI
      obtain ⟨tm, h2, tt⟩ := s'
      simp only at h2' h43 h44 h45 how hle hfs
      have hB : (l.take j = l.take n.toNat) → ∀ (tm' : Nat → AV) (h' : Heap) (t' : Nat), tm' 7 = tm 7 → Own Ent.enc 44 4 h' (tm' 7) (l.take j) → HLe h h' → K7 ⟨tm', h', t'⟩ := by
        intro et tm' h' t' e7 how' hle'
        refine hK7 _ ?_; clear hK7 K7
        refine W_own 7 (enc := Ent.enc) how' Ent.enc_len ?_
        rw [et] at how'
        refine W_seq fun K9 hK9 => ?_
        refine W_reg rfl ?_
        simp only [go_sem, Nat.reduceEqDiff, ↓reduceIte, reduceIte, Nat.reduceAdd, Nat.reduceMul, Nat.reduceSub, Nat.reduceLeDiff, Nat.reduceBEq, Nat.reduceBNe, Int.reduceNeg, Int.reduceLT, Int.reduceLE, Int.reduceAdd, Int.reduceSub, Int.reduceToNat, Int.reduceEq, Int.reduceBEq, reduceCtorEq, List.cons.injEq, Int.reduceBNe, Int.sub_zero, decide_true, decide_false, false_and, and_false]
        refine hK9 _ ?_; clear hK9 K9
        refine W_ret ?_
        simp only [go_sem, Nat.reduceEqDiff, ↓reduceIte, reduceIte, Nat.reduceAdd, Nat.reduceMul, Nat.reduceSub, Nat.reduceLeDiff, Nat.reduceBEq, Nat.reduceBNe, Int.reduceNeg, Int.reduceLT, Int.reduceLE, Int.reduceAdd, Int.reduceSub, Int.reduceToNat, Int.reduceEq, Int.reduceBEq, reduceCtorEq, List.cons.injEq, Int.reduceBNe, Int.sub_zero, decide_true, decide_false, false_and, and_false]
        refine ends_ret (by simp only [go_sem, Nat.reduceEqDiff, ↓reduceIte, reduceIte, Nat.reduceAdd, Nat.reduceMul, Nat.reduceSub, Nat.reduceLeDiff, Nat.reduceBEq, Nat.reduceBNe, Int.reduceNeg, Int.reduceLT, Int.reduceLE, Int.reduceAdd, Int.reduceSub, Int.reduceToNat, Int.reduceEq, Int.reduceBEq, reduceCtorEq, List.cons.injEq, Int.reduceBNe, Int.sub_zero, decide_true, decide_false, false_and, and_false, Try.f21]; rw [et]) (own_keep how' (fun b f p n z e => hfs b f p n z (by rw [← e7]; exact e)) hle')
      by_cases hlt : j < l.length
      · have g1 : decide ((j : Int) < (l.length : Int)) = true := by simp; omega
        have hx : (l.flatMap Ent.enc).drop (j * 4) = Ent.enc l[j] ++ (l.drop (j + 1)).flatMap Ent.enc := flatMap_at Ent.enc_len l _ hlt
        have hdn : (sqL l[j].d).length ≤ 1000 := hd1 _ (List.getElem_mem hlt)
        have e7 : l.take (j + 1) = l.take j ++ [l[j]] := List.take_succ_eq_append_getElem hlt
        have e6 : IntKind.i64.wrap ((j : Int) + 1) = ((j + 1 : Nat) : Int) := by rw [wrap_i64 (by omega)]; omega
        generalize hy : l[j] = y at *
        have e1 : (0 : Int) ≤ (j : Int) ∧ (j : Int) < (l.length : Int) := by omega
        refine W_fr fun hF => ?_
        have hnew : h2 (2 :: (tt + 1) :: id) = none := hF (tt + 1) (by simp) [2]
        have how2 : Own Ent.enc 44 4 (hset (hset h2 (2 :: (tt + 1) :: id) (some (.cells 44 [.p (.int .i64 0), .p (.int .i64 0), .p (.int .i64 0), .p (.slice none 0 0)]))) (2 :: (tt + 1) :: id) (some (.cells 44 [.p (.int .i64 y.i), .p (.int .i64 y.t), .p (.int .i64 y.k), sq bE y.d]))) (tm 7) (l.take j) := own_hset2 how hnew
        have hle2 : HLe h (hset (hset h2 (2 :: (tt + 1) :: id) (some (.cells 44 [.p (.int .i64 0), .p (.int .i64 0), .p (.int .i64 0), .p (.slice none 0 0)]))) (2 :: (tt + 1) :: id) (some (.cells 44 [.p (.int .i64 y.i), .p (.int .i64 y.t), .p (.int .i64 y.k), sq bE y.d]))) := HLe.fresh (HLe.fresh hle (hfr [_, _])) (hfr [_, _])
        have htl : (l.take j).length = j := by simp; omega
        refine W_seq fun K9 hK9 => ?_
        refine W_reg rfl ?_
        simp only [go_sem, Nat.reduceEqDiff, ↓reduceIte, reduceIte, Nat.reduceAdd, Nat.reduceMul, Nat.reduceSub, Nat.reduceLeDiff, Nat.reduceBEq, Nat.reduceBNe, Int.reduceNeg, Int.reduceLT, Int.reduceLE, Int.reduceAdd, Int.reduceSub, Int.reduceToNat, Int.reduceEq, Int.reduceBEq, reduceCtorEq, List.cons.injEq, Int.reduceBNe, Int.sub_zero, decide_true, decide_false, false_and, and_false, ty3, h44, h45, g1]
        refine hK9 _ ?_; clear hK9 K9
        refine W_seq fun K10 hK10 => ?_
        refine W_cond rfl (fun h11 => ?_) (fun h11 => by cases h11)
        refine W_skip (hK10 _ ?_); clear hK10 K10
        refine W_seq fun K12 hK12 => ?_
        refine W_block ?_
        refine W_seq fun K13 hK13 => ?_
        refine W_reg rfl ?_
        simp only [go_sem, Nat.reduceEqDiff, ↓reduceIte, reduceIte, Nat.reduceAdd, Nat.reduceMul, Nat.reduceSub, Nat.reduceLeDiff, Nat.reduceBEq, Nat.reduceBNe, Int.reduceNeg, Int.reduceLT, Int.reduceLE, Int.reduceAdd, Int.reduceSub, Int.reduceToNat, Int.reduceEq, Int.reduceBEq, reduceCtorEq, List.cons.injEq, Int.reduceBNe, Int.sub_zero, decide_true, decide_false, false_and, and_false, ty26, ty44, h43, h45, hL, hx, e1, Ent.enc]
        refine hK13 _ ?_; clear hK13 K13
        refine W_seq fun K14 hK14 => ?_
        refine W_seq fun K15 hK15 => ?_
        refine W_reg rfl ?_
        simp only [go_sem, Nat.reduceEqDiff, ↓reduceIte, reduceIte, Nat.reduceAdd, Nat.reduceMul, Nat.reduceSub, Nat.reduceLeDiff, Nat.reduceBEq, Nat.reduceBNe, Int.reduceNeg, Int.reduceLT, Int.reduceLE, Int.reduceAdd, Int.reduceSub, Int.reduceToNat, Int.reduceEq, Int.reduceBEq, reduceCtorEq, List.cons.injEq, Int.reduceBNe, Int.sub_zero, decide_true, decide_false, false_and, and_false]
        refine lenW_own how2 (by simp only [ty26]; rfl) ?_
        rw [htl]
        by_cases c5 : (j : Int) = n
        · have f5 : ((j : Int) == n) = true := by simpa using c5
          simp only [go_sem, Nat.reduceEqDiff, ↓reduceIte, reduceIte, Nat.reduceAdd, Nat.reduceMul, Nat.reduceSub, Nat.reduceLeDiff, Nat.reduceBEq, Nat.reduceBNe, Int.reduceNeg, Int.reduceLT, Int.reduceLE, Int.reduceAdd, Int.reduceSub, Int.reduceToNat, Int.reduceEq, Int.reduceBEq, reduceCtorEq, List.cons.injEq, Int.reduceBNe, Int.sub_zero, decide_true, decide_false, false_and, and_false, h2', f5]
          refine hK15 _ ?_; clear hK15 K15
          refine W_cond rfl (fun h16 => ?_) (fun h16 => by cases h16)
          refine W_exit ?_
          simp only [go_sem, Nat.reduceEqDiff, ↓reduceIte, reduceIte, Nat.reduceAdd, Nat.reduceMul, Nat.reduceSub, Nat.reduceLeDiff, Nat.reduceBEq, Nat.reduceBNe, Int.reduceNeg, Int.reduceLT, Int.reduceLE, Int.reduceAdd, Int.reduceSub, Int.reduceToNat, Int.reduceEq, Int.reduceBEq, reduceCtorEq, List.cons.injEq, Int.reduceBNe, Int.sub_zero, decide_true, decide_false, false_and, and_false]
          exact hB (by rw [← c5, Int.toNat_natCast]) _ _ _ rfl how2 hle2
        · have f5 : ((j : Int) == n) = false := by simpa using c5
          simp only [go_sem, Nat.reduceEqDiff, ↓reduceIte, reduceIte, Nat.reduceAdd, Nat.reduceMul, Nat.reduceSub, Nat.reduceLeDiff, Nat.reduceBEq, Nat.reduceBNe, Int.reduceNeg, Int.reduceLT, Int.reduceLE, Int.reduceAdd, Int.reduceSub, Int.reduceToNat, Int.reduceEq, Int.reduceBEq, reduceCtorEq, List.cons.injEq, Int.reduceBNe, Int.sub_zero, decide_true, decide_false, false_and, and_false, h2', f5]
          refine hK15 _ ?_; clear hK15 K15
          refine W_cond rfl (fun h16 => by cases h16) (fun h16 => ?_)
          refine W_skip (hK14 _ ?_); clear hK14 K14
          refine W_reg rfl ?_
          simp only [go_sem, Nat.reduceEqDiff, ↓reduceIte, reduceIte, Nat.reduceAdd, Nat.reduceMul, Nat.reduceSub, Nat.reduceLeDiff, Nat.reduceBEq, Nat.reduceBNe, Int.reduceNeg, Int.reduceLT, Int.reduceLE, Int.reduceAdd, Int.reduceSub, Int.reduceToNat, Int.reduceEq, Int.reduceBEq, reduceCtorEq, List.cons.injEq, Int.reduceBNe, Int.sub_zero, decide_true, decide_false, false_and, and_false, ty26, ty44]
          refine stop_call (own_ok _ y (by omega)) trivial ?_
          simp only [go_sem, Nat.reduceEqDiff, ↓reduceIte, reduceIte, Nat.reduceAdd, Nat.reduceMul, Nat.reduceSub, Nat.reduceLeDiff, Nat.reduceBEq, Nat.reduceBNe, Int.reduceNeg, Int.reduceLT, Int.reduceLE, Int.reduceAdd, Int.reduceSub, Int.reduceToNat, Int.reduceEq, Int.reduceBEq, reduceCtorEq, List.cons.injEq, Int.reduceBNe, Int.sub_zero, decide_true, decide_false, false_and, and_false, ty26, ty44, Ent.enc]
          refine ⟨by decide, by decide, ?_⟩
          refine stop_append_grow 44 4 48 [.p (.int .i64 0), .p (.int .i64 0), .p (.int .i64 0), .p (.slice none 0 0)] (l.take j) [y] ty26.2.2.2.1 ty44.2.1 ty44.2.2.1 ty44.2.2.2.2.2.1 rfl Ent.enc_len Ent.enc_one how2 (by simp only [go_sem, Nat.reduceEqDiff, ↓reduceIte, reduceIte, Nat.reduceAdd, Nat.reduceMul, Nat.reduceSub, Nat.reduceLeDiff, Nat.reduceBEq, Nat.reduceBNe, Int.reduceNeg, Int.reduceLT, Int.reduceLE, Int.reduceAdd, Int.reduceSub, Int.reduceToNat, Int.reduceEq, Int.reduceBEq, reduceCtorEq, List.cons.injEq, Int.reduceBNe, Int.sub_zero, decide_true, decide_false, false_and, and_false, ty26] <;> rfl) (by simp)
            (by simp; omega) (by simp [maxLen]; omega) ?_
          rw [← e7]
          simp only [go_sem, Nat.reduceEqDiff, ↓reduceIte, reduceIte, Nat.reduceAdd, Nat.reduceMul, Nat.reduceSub, Nat.reduceLeDiff, Nat.reduceBEq, Nat.reduceBNe, Int.reduceNeg, Int.reduceLT, Int.reduceLE, Int.reduceAdd, Int.reduceSub, Int.reduceToNat, Int.reduceEq, Int.reduceBEq, reduceCtorEq, List.cons.injEq, Int.reduceBNe, Int.sub_zero, decide_true, decide_false, false_and, and_false]
          refine hK12 _ ?_; clear hK12 K12
          refine W_reg rfl ?_
          simp only [go_sem, Nat.reduceEqDiff, ↓reduceIte, reduceIte, Nat.reduceAdd, Nat.reduceMul, Nat.reduceSub, Nat.reduceLeDiff, Nat.reduceBEq, Nat.reduceBNe, Int.reduceNeg, Int.reduceLT, Int.reduceLE, Int.reduceAdd, Int.reduceSub, Int.reduceToNat, Int.reduceEq, Int.reduceBEq, reduceCtorEq, List.cons.injEq, Int.reduceBNe, Int.sub_zero, decide_true, decide_false, false_and, and_false, ty3, h45, e6]
          refine ⟨_, ?_, j + 1, rfl, by omega, by omega, h2', h43, h44, rfl, .inr ⟨_, ?_, rfl, hset_same _ _ _⟩, HLe.fresh (own_keep how2 hfs hle2) (hfr [_, _]), fun b f p n z e => ?_⟩
          · omega
          · rw [e7]; simp
          · cases e; exact hfr [_, _]
      · have g1 : decide ((j : Int) < (l.length : Int)) = false := by simp; omega
        refine W_seq fun K9 hK9 => ?_
        refine W_reg rfl ?_
        simp only [go_sem, Nat.reduceEqDiff, ↓reduceIte, reduceIte, Nat.reduceAdd, Nat.reduceMul, Nat.reduceSub, Nat.reduceLeDiff, Nat.reduceBEq, Nat.reduceBNe, Int.reduceNeg, Int.reduceLT, Int.reduceLE, Int.reduceAdd, Int.reduceSub, Int.reduceToNat, Int.reduceEq, Int.reduceBEq, reduceCtorEq, List.cons.injEq, Int.reduceBNe, Int.sub_zero, decide_true, decide_false, false_and, and_false, ty3, h44, h45, g1]
        refine hK9 _ ?_; clear hK9 K9
        refine W_seq fun K10 hK10 => ?_
        refine W_cond rfl (fun h11 => by cases h11) (fun h11 => ?_)
        refine W_exit ?_
        simp only [go_sem, Nat.reduceEqDiff, ↓reduceIte, reduceIte, Nat.reduceAdd, Nat.reduceMul, Nat.reduceSub, Nat.reduceLeDiff, Nat.reduceBEq, Nat.reduceBNe, Int.reduceNeg, Int.reduceLT, Int.reduceLE, Int.reduceAdd, Int.reduceSub, Int.reduceToNat, Int.reduceEq, Int.reduceBEq, reduceCtorEq, List.cons.injEq, Int.reduceBNe, Int.sub_zero, decide_true, decide_false, false_and, and_false]
        exact hB (by rw [List.take_of_length_le (by omega), List.take_of_length_le (by omega)]) _ _ _ rfl how hle
end Go.Proofs.Ytcfmbbebnobflaa
