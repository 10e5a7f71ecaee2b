/- The reference's Ids. -/
import Derived.Test.YtcfmbbebnobflaaF6
set_option linter.unusedVariables false
set_option linter.unusedSimpArgs false
namespace Go.Proofs.Ytcfmbbebnobflaa
open Go Go.SX

theorem okAt_ge {l : List UInt8} : ∀ (j : Nat) (hj : j < l.length), (∀ k, k ≤ j → okAt l k) → j + 1 ≤ l[j].toNat
  | 0, hj, h => (h 0 (Nat.le_refl _) hj).1
  | j + 1, hj, h => by
    have h1 := okAt_ge j (by omega) (fun k hk => h k (by omega))
    have h2 := (h (j + 1) (Nat.le_refl _) hj).2.2 (by omega)
    simp only [Nat.add_sub_cancel] at h2
    omega
theorem okAt_short {l : List UInt8} (h : ∀ j, j < l.length → okAt l j) : l.length ≤ 7 := by
  rcases Nat.lt_or_ge 7 l.length with hl | hl
  · have h1 := okAt_ge 7 hl (fun k hk => h k (by omega))
    have h2 := (h 7 hl hl).2.1
    omega
  · exact hl
theorem okI_intsOf {l : List UInt8} {j : Nat} (hj : j < l.length) : okI (intsOf l) j ↔ okAt l j := by
  have hlen : (intsOf l).length = l.length := by simp [intsOf]
  have e1 : ∀ (k : Nat) (hk : k < (intsOf l).length), (intsOf l)[k] = (l[k]'(by omega)).toNat := fun k hk => by simp [intsOf]
  constructor
  · intro h hj2
    obtain ⟨h1, h2, h3⟩ := h (by omega)
    rw [e1] at h1 h2
    refine ⟨by omega, by omega, fun h0 => ?_⟩
    have := h3 h0
    rw [e1, e1] at this
    omega
  · intro h hj2
    obtain ⟨h1, h2, h3⟩ := h hj
    rw [e1]
    refine ⟨by omega, by omega, fun h0 => ?_⟩
    have := h3 h0
    rw [e1]
    omega
open Classical in
theorem ids_law (l : List UInt8) : (if memP (intsOf (l.take 8)) then some (intsOf (l.take 8)) else none) = membL l := by
  by_cases h8 : l.length ≤ 7
  · have ht : l.take 8 = l := List.take_of_length_le (by omega)
    rw [ht]
    unfold membL memP
    have hlen : (intsOf l).length = l.length := by simp [intsOf]
    congr 1
    rw [eq_iff_iff, hlen]
    constructor
    · rintro ⟨h1, h2, _⟩
      exact ⟨by rintro rfl; simp at h2, fun j hj => (okI_intsOf hj).1 (h1 j hj)⟩
    · rintro ⟨h1, h2⟩
      exact ⟨fun j hj => (okI_intsOf hj).2 (h2 j hj), List.length_pos_iff.2 h1, h8⟩
  · rw [if_neg, membL, if_neg]
    · rintro ⟨_, h⟩; exact h8 (okAt_short h)
    · rintro ⟨_, _, h⟩
      simp [intsOf] at h
      omega

set_option maxRecDepth 8000 in
open Classical in
theorem f44_ok (id : BId) (o : Option (List UInt8)) (hn : (sqL o).length ≤ 1000) : CallF Try.prog 44 [sq bE o] id [] (sq nE (membL (sqL o))) [] := by
  refine ⟨⟨_, Try.func44, by decide, rfl⟩, (by simp <;> repeat first | exact ⟨[_, _], rfl⟩ | constructor), fun h hr => callsA_of_W Try.func44 rfl fun hfr => ?_⟩
  generalize hl : sqL o = l at *
  refine W_seq fun K1 hK1 => ?_
  refine W_reg rfl ?_
  simp only [go_sem, Nat.reduceEqDiff, ↓reduceIte, reduceIte, Nat.reduceAdd, Nat.reduceMul, Nat.reduceSub, Nat.reduceLeDiff, Nat.reduceBEq, Nat.reduceBNe, Int.reduceNeg, Int.reduceLT, Int.reduceLE, Int.reduceAdd, Int.reduceSub, Int.reduceToNat, Int.reduceEq, Int.reduceBEq, reduceCtorEq, List.cons.injEq, Int.reduceBNe, Int.sub_zero, decide_true, decide_false, false_and, and_false]
  refine hK1 _ ?_; clear hK1 K1
  refine W_seq fun K2 hK2 => ?_
  refine W_reg rfl ?_
  simp only [go_sem, Nat.reduceEqDiff, ↓reduceIte, reduceIte, Nat.reduceAdd, Nat.reduceMul, Nat.reduceSub, Nat.reduceLeDiff, Nat.reduceBEq, Nat.reduceBNe, Int.reduceNeg, Int.reduceLT, Int.reduceLE, Int.reduceAdd, Int.reduceSub, Int.reduceToNat, Int.reduceEq, Int.reduceBEq, reduceCtorEq, List.cons.injEq, Int.reduceBNe, Int.sub_zero, decide_true, decide_false, false_and, and_false]
  refine hK2 _ ?_; clear hK2 K2
  refine W_seq fun K3 hK3 => ?_
  refine W_seq fun K4 hK4 => ?_
  refine W_reg rfl ?_
  simp only [go_sem, Nat.reduceEqDiff, ↓reduceIte, reduceIte, Nat.reduceAdd, Nat.reduceMul, Nat.reduceSub, Nat.reduceLeDiff, Nat.reduceBEq, Nat.reduceBNe, Int.reduceNeg, Int.reduceLT, Int.reduceLE, Int.reduceAdd, Int.reduceSub, Int.reduceToNat, Int.reduceEq, Int.reduceBEq, reduceCtorEq, List.cons.injEq, Int.reduceBNe, Int.sub_zero, decide_true, decide_false, false_and, and_false]
  refine hK4 _ ?_; clear hK4 K4
  refine W_block ?_
  refine W_loop ?_
  refine WL_nat (P := Try.prog) (fun m s => ∃ i, m = 8 - i ∧ i ≤ l.length ∧ i ≤ 8 ∧ s.tm 0 = sq bE o ∧ s.tm 4 = .p (.int .i64 i) ∧
    Own nE 3 1 s.h (s.tm 3) (intsOf (l.take i)) ∧ HLe h s.h ∧ ∀ b f p n z, s.tm 3 = .ref f b p n z → h b = none) (fun m s hI => ?_) (8 - 0) _ ⟨0, rfl, by omega, by omega, rfl, rfl, .inl ⟨rfl, rfl⟩, HLe.refl _, fun b f p n z e => by cases e⟩
  obtain ⟨i, rfl, hi, hi8, h0, h4, how, hle, hfs⟩ := hI
  obtain ⟨tm, h2, t⟩ := s
  simp only at h0 h4 how hle hfs
  by_cases hlt : i < l.length ∧ i < 8
  · obtain ⟨hlt, hlt8⟩ := hlt
    have hx : (l.flatMap bE).drop i = u8A l[i] :: (l.drop (i + 1)).flatMap bE := by simpa [bE] using flatMap_at bE_len l i hlt
    have e1 : (0 : Int) ≤ (i : Int) ∧ (i : Int) < (l.length : Int) := by omega
    have g1 : decide ((i : Int) < (l.length : Int)) = true := by simp; omega
    have g2 : decide ((i : Int) < 8) = true := by simp; omega
    have e5 : IntKind.i64.wrap (l[i].toNat : Int) = (l[i].toNat : Int) := wrap_i64 (by have := (l[i]).toNat_lt; omega)
    have e6 : IntKind.i64.wrap ((i : Int) + 1) = ((i + 1 : Nat) : Int) := by rw [wrap_i64 (by omega)]; omega
    have e7 : intsOf (l.take (i + 1)) = intsOf (l.take i) ++ [(l[i].toNat : Int)] := by unfold intsOf; rw [List.take_succ_eq_append_getElem hlt, List.map_append]; rfl
    refine W_seq fun K5 hK5 => ?_
    refine W_seq fun K6 hK6 => ?_
    refine W_reg rfl ?_
    simp only [go_sem, Nat.reduceEqDiff, ↓reduceIte, reduceIte, Nat.reduceAdd, Nat.reduceMul, Nat.reduceSub, Nat.reduceLeDiff, Nat.reduceBEq, Nat.reduceBNe, Int.reduceNeg, Int.reduceLT, Int.reduceLE, Int.reduceAdd, Int.reduceSub, Int.reduceToNat, Int.reduceEq, Int.reduceBEq, reduceCtorEq, List.cons.injEq, Int.reduceBNe, Int.sub_zero, decide_true, decide_false, false_and, and_false, ty3, ty5, ty23, h0, h4, hl, g1, g2]
    refine hK6 _ ?_; clear hK6 K6
    refine W_cond rfl (fun h7 => ?_) (fun h7 => by cases h7)
    refine W_skip (hK5 _ ?_); clear hK5 K5
    refine W_seq fun K8 hK8 => ?_
    refine W_block ?_
    refine W_reg rfl ?_
    simp only [go_sem, Nat.reduceEqDiff, ↓reduceIte, reduceIte, Nat.reduceAdd, Nat.reduceMul, Nat.reduceSub, Nat.reduceLeDiff, Nat.reduceBEq, Nat.reduceBNe, Int.reduceNeg, Int.reduceLT, Int.reduceLE, Int.reduceAdd, Int.reduceSub, Int.reduceToNat, Int.reduceEq, Int.reduceBEq, reduceCtorEq, List.cons.injEq, Int.reduceBNe, Int.sub_zero, decide_true, decide_false, false_and, and_false, ty3, ty5, ty22, ty23, h0, h4, hl, hx, e1, e5, u8A]
    refine ⟨by decide, by decide, ?_⟩
    refine stop_append_grow 3 1 8 [.p (.int .i64 0)] (intsOf (l.take i)) [(l[i].toNat : Int)] ty22.2.2.2.1 ty3.2.1 ty3.2.2.1 ty3.2.2.2.2.2.2 rfl nE_len (fun a => rfl) how (by simp only [go_sem, Nat.reduceEqDiff, ↓reduceIte, reduceIte, Nat.reduceAdd, Nat.reduceMul, Nat.reduceSub, Nat.reduceLeDiff, Nat.reduceBEq, Nat.reduceBNe, Int.reduceNeg, Int.reduceLT, Int.reduceLE, Int.reduceAdd, Int.reduceSub, Int.reduceToNat, Int.reduceEq, Int.reduceBEq, reduceCtorEq, List.cons.injEq, Int.reduceBNe, Int.sub_zero, decide_true, decide_false, false_and, and_false, ty22] <;> rfl) (by simp)
      (by simp [intsOf]; omega) (by simp [intsOf, maxLen]; omega) ?_
    rw [← e7]
    simp only [go_sem, Nat.reduceEqDiff, ↓reduceIte, reduceIte, Nat.reduceAdd, Nat.reduceMul, Nat.reduceSub, Nat.reduceLeDiff, Nat.reduceBEq, Nat.reduceBNe, Int.reduceNeg, Int.reduceLT, Int.reduceLE, Int.reduceAdd, Int.reduceSub, Int.reduceToNat, Int.reduceEq, Int.reduceBEq, reduceCtorEq, List.cons.injEq, Int.reduceBNe, Int.sub_zero, decide_true, decide_false, false_and, and_false]
    refine hK8 _ ?_; clear hK8 K8
    refine W_reg rfl ?_
    simp only [go_sem, Nat.reduceEqDiff, ↓reduceIte, reduceIte, Nat.reduceAdd, Nat.reduceMul, Nat.reduceSub, Nat.reduceLeDiff, Nat.reduceBEq, Nat.reduceBNe, Int.reduceNeg, Int.reduceLT, Int.reduceLE, Int.reduceAdd, Int.reduceSub, Int.reduceToNat, Int.reduceEq, Int.reduceBEq, reduceCtorEq, List.cons.injEq, Int.reduceBNe, Int.sub_zero, decide_true, decide_false, false_and, and_false, ty3, h4, e6]
    refine ⟨_, ?_, i + 1, rfl, by omega, by omega, h0, rfl, .inr ⟨_, ?_, rfl, hset_same _ _ _⟩, HLe.fresh (own_keep how hfs hle) (hfr [_, _]), fun b f p n z e => ?_⟩
    · omega
    · rw [e7]; simp
    · cases e; exact hfr [_, _]
  · have ht : l.take i = l.take 8 := by
      rcases Nat.lt_or_ge i l.length with h1 | h1
      · have : i = 8 := by omega
        rw [this]
      · rw [List.take_of_length_le (by omega), List.take_of_length_le (by omega)]
    rw [ht] at how
    have hB : ∀ (tm' : Nat → AV) (h' : Heap) (t' : Nat), tm' 3 = tm 3 → Own nE 3 1 h' (tm' 3) (intsOf (l.take 8)) → HLe h (upd h' (ownW (tm' 3))) → K3 ⟨tm', h', t'⟩ := by
      intro tm' h' t' et how' hle'
      refine hK3 _ ?_; clear hK3 K3
      refine W_own 3 (enc := nE) how' nE_len ?_
      rw [et] at how' hle' ⊢
      have hlen : (sqL (ne (intsOf (l.take 8)))).length ≤ maxLen := by rw [sqL_ne]; simp [intsOf, maxLen]; omega
      have hlaw := ids_law l
      refine W_seq fun K6 hK6 => ?_
      refine W_seq fun K7 hK7 => ?_
      refine W_reg rfl ?_
      simp only [go_sem, Nat.reduceEqDiff, ↓reduceIte, reduceIte, Nat.reduceAdd, Nat.reduceMul, Nat.reduceSub, Nat.reduceLeDiff, Nat.reduceBEq, Nat.reduceBNe, Int.reduceNeg, Int.reduceLT, Int.reduceLE, Int.reduceAdd, Int.reduceSub, Int.reduceToNat, Int.reduceEq, Int.reduceBEq, reduceCtorEq, List.cons.injEq, Int.reduceBNe, Int.sub_zero, decide_true, decide_false, false_and, and_false, ty3, ty22]
      refine stop_call (f22_ok _ (ne (intsOf (l.take 8))) hlen) trivial ?_
      rw [sqL_ne]
      by_cases hm : memP (intsOf (l.take 8))
      · have hm' : memP (intsOf (l.take 8)) = True := by rw [eq_iff_iff, iff_true]; exact hm
        rw [if_pos hm] at hlaw
        have hne : ne (intsOf (l.take 8)) = some (intsOf (l.take 8)) := ne_cons (by intro e; rw [e] at hm; have := hm.2.1; simp at this)
        simp only [go_sem, Nat.reduceEqDiff, ↓reduceIte, reduceIte, Nat.reduceAdd, Nat.reduceMul, Nat.reduceSub, Nat.reduceLeDiff, Nat.reduceBEq, Nat.reduceBNe, Int.reduceNeg, Int.reduceLT, Int.reduceLE, Int.reduceAdd, Int.reduceSub, Int.reduceToNat, Int.reduceEq, Int.reduceBEq, reduceCtorEq, List.cons.injEq, Int.reduceBNe, Int.sub_zero, decide_true, decide_false, false_and, and_false, hm', decide_true]
        refine hK7 _ ?_; clear hK7 K7
        refine W_cond rfl (fun h8 => by cases h8) (fun h8 => ?_)
        refine W_skip (hK6 _ ?_); clear hK6 K6
        refine W_seq fun K9 hK9 => ?_
        refine W_reg rfl ?_
        simp only [go_sem, Nat.reduceEqDiff, ↓reduceIte, reduceIte, Nat.reduceAdd, Nat.reduceMul, Nat.reduceSub, Nat.reduceLeDiff, Nat.reduceBEq, Nat.reduceBNe, Int.reduceNeg, Int.reduceLT, Int.reduceLE, Int.reduceAdd, Int.reduceSub, Int.reduceToNat, Int.reduceEq, Int.reduceBEq, reduceCtorEq, List.cons.injEq, Int.reduceBNe, Int.sub_zero, decide_true, decide_false, false_and, and_false]
        refine hK9 _ ?_; clear hK9 K9
        refine W_ret ?_
        simp only [go_sem, Nat.reduceEqDiff, ↓reduceIte, reduceIte, Nat.reduceAdd, Nat.reduceMul, Nat.reduceSub, Nat.reduceLeDiff, Nat.reduceBEq, Nat.reduceBNe, Int.reduceNeg, Int.reduceLT, Int.reduceLE, Int.reduceAdd, Int.reduceSub, Int.reduceToNat, Int.reduceEq, Int.reduceBEq, reduceCtorEq, List.cons.injEq, Int.reduceBNe, Int.sub_zero, decide_true, decide_false, false_and, and_false]
        refine ends_ret (by simp only [go_sem, Nat.reduceEqDiff, ↓reduceIte, reduceIte, Nat.reduceAdd, Nat.reduceMul, Nat.reduceSub, Nat.reduceLeDiff, Nat.reduceBEq, Nat.reduceBNe, Int.reduceNeg, Int.reduceLT, Int.reduceLE, Int.reduceAdd, Int.reduceSub, Int.reduceToNat, Int.reduceEq, Int.reduceBEq, reduceCtorEq, List.cons.injEq, Int.reduceBNe, Int.sub_zero, decide_true, decide_false, false_and, and_false, Try.f44]; rw [hne, hlaw]) hle'
      · have hm' : memP (intsOf (l.take 8)) = False := by rw [eq_iff_iff, iff_false]; exact hm
        rw [if_neg hm] at hlaw
        simp only [go_sem, Nat.reduceEqDiff, ↓reduceIte, reduceIte, Nat.reduceAdd, Nat.reduceMul, Nat.reduceSub, Nat.reduceLeDiff, Nat.reduceBEq, Nat.reduceBNe, Int.reduceNeg, Int.reduceLT, Int.reduceLE, Int.reduceAdd, Int.reduceSub, Int.reduceToNat, Int.reduceEq, Int.reduceBEq, reduceCtorEq, List.cons.injEq, Int.reduceBNe, Int.sub_zero, decide_true, decide_false, false_and, and_false, hm', decide_false]
        refine hK7 _ ?_; clear hK7 K7
        refine W_cond rfl (fun h8 => ?_) (fun h8 => by cases h8)
        refine W_seq fun K9 hK9 => ?_
        refine W_reg rfl ?_
        simp only [go_sem, Nat.reduceEqDiff, ↓reduceIte, reduceIte, Nat.reduceAdd, Nat.reduceMul, Nat.reduceSub, Nat.reduceLeDiff, Nat.reduceBEq, Nat.reduceBNe, Int.reduceNeg, Int.reduceLT, Int.reduceLE, Int.reduceAdd, Int.reduceSub, Int.reduceToNat, Int.reduceEq, Int.reduceBEq, reduceCtorEq, List.cons.injEq, Int.reduceBNe, Int.sub_zero, decide_true, decide_false, false_and, and_false]
        refine hK9 _ ?_; clear hK9 K9
        refine W_ret ?_
        simp only [go_sem, Nat.reduceEqDiff, ↓reduceIte, reduceIte, Nat.reduceAdd, Nat.reduceMul, Nat.reduceSub, Nat.reduceLeDiff, Nat.reduceBEq, Nat.reduceBNe, Int.reduceNeg, Int.reduceLT, Int.reduceLE, Int.reduceAdd, Int.reduceSub, Int.reduceToNat, Int.reduceEq, Int.reduceBEq, reduceCtorEq, List.cons.injEq, Int.reduceBNe, Int.sub_zero, decide_true, decide_false, false_and, and_false]
        refine ends_ret (by simp only [go_sem, Nat.reduceEqDiff, ↓reduceIte, reduceIte, Nat.reduceAdd, Nat.reduceMul, Nat.reduceSub, Nat.reduceLeDiff, Nat.reduceBEq, Nat.reduceBNe, Int.reduceNeg, Int.reduceLT, Int.reduceLE, Int.reduceAdd, Int.reduceSub, Int.reduceToNat, Int.reduceEq, Int.reduceBEq, reduceCtorEq, List.cons.injEq, Int.reduceBNe, Int.sub_zero, decide_true, decide_false, false_and, and_false, Try.f44]; rw [← hlaw]; rfl) hle'
    refine W_seq fun K5 hK5 => ?_
    refine W_seq fun K6 hK6 => ?_
    refine W_reg rfl ?_
    by_cases g0 : i < l.length
    · have g1 : decide ((i : Int) < (l.length : Int)) = true := by simp; omega
      have g2 : decide ((i : Int) < 8) = false := by simp; omega
      simp only [go_sem, Nat.reduceEqDiff, ↓reduceIte, reduceIte, Nat.reduceAdd, Nat.reduceMul, Nat.reduceSub, Nat.reduceLeDiff, Nat.reduceBEq, Nat.reduceBNe, Int.reduceNeg, Int.reduceLT, Int.reduceLE, Int.reduceAdd, Int.reduceSub, Int.reduceToNat, Int.reduceEq, Int.reduceBEq, reduceCtorEq, List.cons.injEq, Int.reduceBNe, Int.sub_zero, decide_true, decide_false, false_and, and_false, ty3, ty5, ty23, h0, h4, hl, g1, g2]
      refine hK6 _ ?_; clear hK6 K6
      refine W_cond rfl (fun h7 => by cases h7) (fun h7 => ?_)
      refine W_exit ?_
      simp only [go_sem, Nat.reduceEqDiff, ↓reduceIte, reduceIte, Nat.reduceAdd, Nat.reduceMul, Nat.reduceSub, Nat.reduceLeDiff, Nat.reduceBEq, Nat.reduceBNe, Int.reduceNeg, Int.reduceLT, Int.reduceLE, Int.reduceAdd, Int.reduceSub, Int.reduceToNat, Int.reduceEq, Int.reduceBEq, reduceCtorEq, List.cons.injEq, Int.reduceBNe, Int.sub_zero, decide_true, decide_false, false_and, and_false]
      exact hB _ _ _ rfl how (own_keep how hfs hle)
    · have g1 : decide ((i : Int) < (l.length : Int)) = false := by simp; omega
      simp only [go_sem, Nat.reduceEqDiff, ↓reduceIte, reduceIte, Nat.reduceAdd, Nat.reduceMul, Nat.reduceSub, Nat.reduceLeDiff, Nat.reduceBEq, Nat.reduceBNe, Int.reduceNeg, Int.reduceLT, Int.reduceLE, Int.reduceAdd, Int.reduceSub, Int.reduceToNat, Int.reduceEq, Int.reduceBEq, reduceCtorEq, List.cons.injEq, Int.reduceBNe, Int.sub_zero, decide_true, decide_false, false_and, and_false, ty3, ty5, ty23, h0, h4, hl, g1]
      refine hK6 _ ?_; clear hK6 K6
      refine W_cond rfl (fun h7 => by cases h7) (fun h7 => ?_)
      refine W_exit ?_
      simp only [go_sem, Nat.reduceEqDiff, ↓reduceIte, reduceIte, Nat.reduceAdd, Nat.reduceMul, Nat.reduceSub, Nat.reduceLeDiff, Nat.reduceBEq, Nat.reduceBNe, Int.reduceNeg, Int.reduceLT, Int.reduceLE, Int.reduceAdd, Int.reduceSub, Int.reduceToNat, Int.reduceEq, Int.reduceBEq, reduceCtorEq, List.cons.injEq, Int.reduceBNe, Int.sub_zero, decide_true, decide_false, false_and, and_false]
      exact hB _ _ _ rfl how (own_keep how hfs hle)
end Go.Proofs.Ytcfmbbebnobflaa
