/- Members that bytes say: rlog.members, and the reference's Ids. -/
import Derived.Test.YtcfmbbebnobflaaF4
set_option linter.unusedVariables false
set_option linter.unusedSimpArgs false
namespace Go.Proofs.Ytcfmbbebnobflaa
open Go Go.SX

/-- A byte that may stand at its place. -/
def okAt (l : List UInt8) (j : Nat) : Prop := ∀ h : j < l.length, 1 ≤ l[j].toNat ∧ l[j].toNat ≤ 7 ∧ ∀ hj : 0 < j, (l[j - 1]'(by omega)).toNat < l[j].toNat
def intsOf (l : List UInt8) : List Int := l.map fun b => (b.toNat : Int)
open Classical in
noncomputable def membL (l : List UInt8) : Option (List Int) := if l ≠ [] ∧ ∀ j, j < l.length → okAt l j then some (intsOf l) else none
theorem membL_bad {l : List UInt8} {j : Nat} (hj : j < l.length) (h : ¬ okAt l j) : membL l = none := by
  unfold membL; rw [if_neg]; rintro ⟨_, h2⟩; exact h (h2 j hj)

open Classical in
theorem f42_ok (id : BId) (o : Option (List UInt8)) (hn : (sqL o).length ≤ 1000) : CallF Try.prog 42 [sq bE o] id [] (sq nE (membL (sqL o))) [] := by
  refine ⟨⟨_, Try.func42, by decide, rfl⟩, (by simp <;> repeat first | exact ⟨[_, _], rfl⟩ | constructor), fun h hr => callsA_of_W Try.func42 rfl fun hfr => ?_⟩
  generalize hl : sqL o = l at *
  refine W_seq fun K1 hK1 => ?_
  refine W_reg rfl ?_
  simp only [go_sem, Nat.reduceEqDiff, ↓reduceIte, reduceIte, Nat.reduceAdd, Nat.reduceMul, Nat.reduceSub, Nat.reduceLeDiff, Nat.reduceBEq, Nat.reduceBNe, Int.reduceNeg, Int.reduceLT, Int.reduceLE, Int.reduceAdd, Int.reduceSub, Int.reduceToNat, Int.reduceEq, Int.reduceBEq, reduceCtorEq, List.cons.injEq, Int.reduceBNe, Int.sub_zero, decide_true, decide_false, false_and, and_false]
  refine hK1 _ ?_; clear hK1 K1
  refine W_seq fun K2 hK2 => ?_
  refine W_reg rfl ?_
  simp only [go_sem, Nat.reduceEqDiff, ↓reduceIte, reduceIte, Nat.reduceAdd, Nat.reduceMul, Nat.reduceSub, Nat.reduceLeDiff, Nat.reduceBEq, Nat.reduceBNe, Int.reduceNeg, Int.reduceLT, Int.reduceLE, Int.reduceAdd, Int.reduceSub, Int.reduceToNat, Int.reduceEq, Int.reduceBEq, reduceCtorEq, List.cons.injEq, Int.reduceBNe, Int.sub_zero, decide_true, decide_false, false_and, and_false]
  refine hK2 _ ?_; clear hK2 K2
  refine W_seq fun K3 hK3 => ?_
  refine W_seq fun K4 hK4 => ?_
  refine W_reg rfl ?_
  simp only [go_sem, Nat.reduceEqDiff, ↓reduceIte, reduceIte, Nat.reduceAdd, Nat.reduceMul, Nat.reduceSub, Nat.reduceLeDiff, Nat.reduceBEq, Nat.reduceBNe, Int.reduceNeg, Int.reduceLT, Int.reduceLE, Int.reduceAdd, Int.reduceSub, Int.reduceToNat, Int.reduceEq, Int.reduceBEq, reduceCtorEq, List.cons.injEq, Int.reduceBNe, Int.sub_zero, decide_true, decide_false, false_and, and_false, ty5, ty23, hl]
  refine hK4 _ ?_; clear hK4 K4
  refine W_block ?_
  refine W_loop ?_
  refine WL_nat (P := Try.prog) (fun m s => ∃ i, m = l.length - i ∧ i ≤ l.length ∧ (∀ j, j < i → okAt l j) ∧ s.tm 0 = sq bE o ∧ s.tm 6 = sq bE o ∧ s.tm 7 = .p (.int .i64 l.length) ∧ s.tm 8 = .p (.int .i64 i) ∧
    Own nE 3 1 s.h (s.tm 3) (intsOf (l.take i)) ∧ HLe h s.h ∧ ∀ b f p n z, s.tm 3 = .ref f b p n z → h b = none) (fun m s hI => ?_) (l.length - 0) _ ⟨0, rfl, by omega, by omega, ?_⟩
  rotate_left
  · refine ⟨rfl, rfl, rfl, rfl, .inl ⟨rfl, rfl⟩, HLe.refl _, fun b f p n z e => by cases e⟩
  obtain ⟨i, rfl, hi, hok, h0, h6, h7', h8, how, hle, hfs⟩ := hI
  obtain ⟨tm, h2, t⟩ := s
  simp only at h0 h6 h7' h8 how hle hfs
  refine W_seq fun K5 hK5 => ?_
  refine W_reg rfl ?_
  simp only [go_sem, Nat.reduceEqDiff, ↓reduceIte, reduceIte, Nat.reduceAdd, Nat.reduceMul, Nat.reduceSub, Nat.reduceLeDiff, Nat.reduceBEq, Nat.reduceBNe, Int.reduceNeg, Int.reduceLT, Int.reduceLE, Int.reduceAdd, Int.reduceSub, Int.reduceToNat, Int.reduceEq, Int.reduceBEq, reduceCtorEq, List.cons.injEq, Int.reduceBNe, Int.sub_zero, decide_true, decide_false, false_and, and_false, ty3, h7', h8]
  refine hK5 _ ?_; clear hK5 K5
  refine W_seq fun K6 hK6 => ?_
  refine W_cond rfl (fun h7 => ?_) (fun h7 => ?_)
  · have hlt : i < l.length := by simpa using h7
    have hx : (l.flatMap bE).drop i = u8A l[i] :: (l.drop (i + 1)).flatMap bE := by simpa [bE] using flatMap_at bE_len l i hlt
    have e1 : (0 : Int) ≤ (i : Int) ∧ (i : Int) < (l.length : Int) := by omega
    refine W_skip (hK6 _ ?_); clear hK6 K6
    refine W_seq fun K8 hK8 => ?_
    refine W_block ?_
    refine W_seq fun K9 hK9 => ?_
    refine W_reg rfl ?_
    simp only [go_sem, Nat.reduceEqDiff, ↓reduceIte, reduceIte, Nat.reduceAdd, Nat.reduceMul, Nat.reduceSub, Nat.reduceLeDiff, Nat.reduceBEq, Nat.reduceBNe, Int.reduceNeg, Int.reduceLT, Int.reduceLE, Int.reduceAdd, Int.reduceSub, Int.reduceToNat, Int.reduceEq, Int.reduceBEq, reduceCtorEq, List.cons.injEq, Int.reduceBNe, Int.sub_zero, decide_true, decide_false, false_and, and_false, ty5, ty23, h0, h6, h8, hl, hx, e1, u8A]
    refine hK9 _ ?_; clear hK9 K9
    refine W_seq fun K10 hK10 => ?_
    refine W_seq_cut (fun s => ∃ tm', s = ⟨tm', h2, t + 1 + 1 + 1⟩ ∧ tm' 31 = .p (.bool (!decide (okAt l i))) ∧ tm' 0 = sq bE o ∧ tm' 3 = tm 3 ∧ tm' 5 = .p (.int .u8 l[i].toNat) ∧ tm' 6 = sq bE o ∧ tm' 7 = .p (.int .i64 l.length) ∧ tm' 8 = .p (.int .i64 i)) ?_ ?_
    · refine W_reg rfl ?_
      have hb := (l[i]).toNat_lt
      by_cases c1 : l[i].toNat < 1
      · have f1 : decide ((l[i].toNat : Int) < 1) = true := by simp; omega
        have hv : okAt l i = False := by rw [eq_iff_iff, iff_false]; intro hh; have := hh hlt; omega
        simp only [go_sem, Nat.reduceEqDiff, ↓reduceIte, reduceIte, Nat.reduceAdd, Nat.reduceMul, Nat.reduceSub, Nat.reduceLeDiff, Nat.reduceBEq, Nat.reduceBNe, Int.reduceNeg, Int.reduceLT, Int.reduceLE, Int.reduceAdd, Int.reduceSub, Int.reduceToNat, Int.reduceEq, Int.reduceBEq, reduceCtorEq, List.cons.injEq, Int.reduceBNe, Int.sub_zero, decide_true, decide_false, false_and, and_false, ty3, ty5, ty23, f1]
        exact ⟨_, rfl, by simp [hv, put], h0, rfl, rfl, h6, h7', h8⟩
      have f1 : decide ((l[i].toNat : Int) < 1) = false := by simp; omega
      by_cases c2 : 7 < l[i].toNat
      · have f2 : decide ((l[i].toNat : Int) > 7) = true := by simp; omega
        have hv : okAt l i = False := by rw [eq_iff_iff, iff_false]; intro hh; have := hh hlt; omega
        simp only [go_sem, Nat.reduceEqDiff, ↓reduceIte, reduceIte, Nat.reduceAdd, Nat.reduceMul, Nat.reduceSub, Nat.reduceLeDiff, Nat.reduceBEq, Nat.reduceBNe, Int.reduceNeg, Int.reduceLT, Int.reduceLE, Int.reduceAdd, Int.reduceSub, Int.reduceToNat, Int.reduceEq, Int.reduceBEq, reduceCtorEq, List.cons.injEq, Int.reduceBNe, Int.sub_zero, decide_true, decide_false, false_and, and_false, ty3, ty5, ty23, f1, f2]
        exact ⟨_, rfl, by simp [hv, put], h0, rfl, rfl, h6, h7', h8⟩
      have f2 : decide ((l[i].toNat : Int) > 7) = false := by simp; omega
      by_cases c3 : i = 0
      · subst c3
        have hv : okAt l 0 = True := by rw [eq_iff_iff, iff_true]; intro _; exact ⟨by omega, by omega, fun hj => by omega⟩
        have f3 : decide (((0 : Nat) : Int) > 0) = false := rfl
        simp only [go_sem, Nat.reduceEqDiff, ↓reduceIte, reduceIte, Nat.reduceAdd, Nat.reduceMul, Nat.reduceSub, Nat.reduceLeDiff, Nat.reduceBEq, Nat.reduceBNe, Int.reduceNeg, Int.reduceLT, Int.reduceLE, Int.reduceAdd, Int.reduceSub, Int.reduceToNat, Int.reduceEq, Int.reduceBEq, reduceCtorEq, List.cons.injEq, Int.reduceBNe, Int.sub_zero, decide_true, decide_false, false_and, and_false, ty3, ty5, ty23, f1, f2, f3]
        exact ⟨_, rfl, by simp [hv, put], h0, rfl, rfl, h6, h7', h8⟩
      have f3 : decide ((i : Int) > 0) = true := by simp; omega
      have f4 : IntKind.i64.wrap ((i : Int) - 1) = ((i - 1 : Nat) : Int) := by rw [wrap_i64 (by omega)]; omega
      have f5 : (0 : Int) ≤ ((i - 1 : Nat) : Int) ∧ ((i - 1 : Nat) : Int) < (l.length : Int) := by omega
      have f6 : (l.flatMap bE).drop (i - 1) = u8A l[i - 1] :: (l.drop (i - 1 + 1)).flatMap bE := by simpa [bE] using flatMap_at bE_len l (i - 1) (by omega)
      by_cases c4 : l[i].toNat ≤ l[i - 1].toNat
      · have f7 : decide ((l[i].toNat : Int) ≤ (l[i - 1].toNat : Int)) = true := by simp; omega
        have hv : okAt l i = False := by rw [eq_iff_iff, iff_false]; intro hh; have := (hh hlt).2.2 (by omega); omega
        simp only [go_sem, Nat.reduceEqDiff, ↓reduceIte, reduceIte, Nat.reduceAdd, Nat.reduceMul, Nat.reduceSub, Nat.reduceLeDiff, Nat.reduceBEq, Nat.reduceBNe, Int.reduceNeg, Int.reduceLT, Int.reduceLE, Int.reduceAdd, Int.reduceSub, Int.reduceToNat, Int.reduceEq, Int.reduceBEq, reduceCtorEq, List.cons.injEq, Int.reduceBNe, Int.sub_zero, decide_true, decide_false, false_and, and_false, ty3, ty5, ty23, f1, f2, f3, f4, f5, f6, f7, u8A, h0, hl]
        exact ⟨_, rfl, by simp [hv, put], h0, rfl, rfl, h6, h7', h8⟩
      · have f7 : decide ((l[i].toNat : Int) ≤ (l[i - 1].toNat : Int)) = false := by simp; omega
        have hv : okAt l i = True := by rw [eq_iff_iff, iff_true]; intro _; exact ⟨by omega, by omega, fun hj => by omega⟩
        simp only [go_sem, Nat.reduceEqDiff, ↓reduceIte, reduceIte, Nat.reduceAdd, Nat.reduceMul, Nat.reduceSub, Nat.reduceLeDiff, Nat.reduceBEq, Nat.reduceBNe, Int.reduceNeg, Int.reduceLT, Int.reduceLE, Int.reduceAdd, Int.reduceSub, Int.reduceToNat, Int.reduceEq, Int.reduceBEq, reduceCtorEq, List.cons.injEq, Int.reduceBNe, Int.sub_zero, decide_true, decide_false, false_and, and_false, ty3, ty5, ty23, f1, f2, f3, f4, f5, f6, f7, u8A, h0, hl]
        exact ⟨_, rfl, by simp [hv, put], h0, rfl, rfl, h6, h7', h8⟩
    · rintro s ⟨tm', rfl, q31, q0, q3, q5, q6, q7, q8⟩
      refine W_cond q31 (fun h12 => ?_) (fun h12 => ?_)
      · have hbad : ¬ okAt l i := by simpa using h12
        rw [membL_bad hlt hbad]
        refine W_seq fun K13 hK13 => ?_
        refine W_reg rfl ?_
        simp only [go_sem, Nat.reduceEqDiff, ↓reduceIte, reduceIte, Nat.reduceAdd, Nat.reduceMul, Nat.reduceSub, Nat.reduceLeDiff, Nat.reduceBEq, Nat.reduceBNe, Int.reduceNeg, Int.reduceLT, Int.reduceLE, Int.reduceAdd, Int.reduceSub, Int.reduceToNat, Int.reduceEq, Int.reduceBEq, reduceCtorEq, List.cons.injEq, Int.reduceBNe, Int.sub_zero, decide_true, decide_false, false_and, and_false]
        refine hK13 _ ?_; clear hK13 K13
        refine W_ret ?_
        simp only [go_sem, Nat.reduceEqDiff, ↓reduceIte, reduceIte, Nat.reduceAdd, Nat.reduceMul, Nat.reduceSub, Nat.reduceLeDiff, Nat.reduceBEq, Nat.reduceBNe, Int.reduceNeg, Int.reduceLT, Int.reduceLE, Int.reduceAdd, Int.reduceSub, Int.reduceToNat, Int.reduceEq, Int.reduceBEq, reduceCtorEq, List.cons.injEq, Int.reduceBNe, Int.sub_zero, decide_true, decide_false, false_and, and_false]
        refine ends_ret (by simp only [go_sem, Nat.reduceEqDiff, ↓reduceIte, reduceIte, Nat.reduceAdd, Nat.reduceMul, Nat.reduceSub, Nat.reduceLeDiff, Nat.reduceBEq, Nat.reduceBNe, Int.reduceNeg, Int.reduceLT, Int.reduceLE, Int.reduceAdd, Int.reduceSub, Int.reduceToNat, Int.reduceEq, Int.reduceBEq, reduceCtorEq, List.cons.injEq, Int.reduceBNe, Int.sub_zero, decide_true, decide_false, false_and, and_false, Try.f42] <;> rfl) hle
      · have hgood : okAt l i := by simpa using h12
        refine W_skip (hK10 _ ?_); clear hK10 K10
        refine W_reg rfl ?_
        have e5 : IntKind.i64.wrap (l[i].toNat : Int) = (l[i].toNat : Int) := wrap_i64 (by have := (l[i]).toNat_lt; omega)
        have e6 : IntKind.i64.wrap ((i : Int) + 1) = ((i + 1 : Nat) : Int) := by rw [wrap_i64 (by omega)]; omega
        have e7 : intsOf (l.take (i + 1)) = intsOf (l.take i) ++ [(l[i].toNat : Int)] := by unfold intsOf; rw [List.take_succ_eq_append_getElem hlt, List.map_append]; rfl
        simp only [go_sem, Nat.reduceEqDiff, ↓reduceIte, reduceIte, Nat.reduceAdd, Nat.reduceMul, Nat.reduceSub, Nat.reduceLeDiff, Nat.reduceBEq, Nat.reduceBNe, Int.reduceNeg, Int.reduceLT, Int.reduceLE, Int.reduceAdd, Int.reduceSub, Int.reduceToNat, Int.reduceEq, Int.reduceBEq, reduceCtorEq, List.cons.injEq, Int.reduceBNe, Int.sub_zero, decide_true, decide_false, false_and, and_false, ty3, ty5, ty22, q3, q5, e5]
        refine ⟨by decide, by decide, ?_⟩
        refine stop_append_grow 3 1 8 [.p (.int .i64 0)] (intsOf (l.take i)) [(l[i].toNat : Int)] ty22.2.2.2.1 ty3.2.1 ty3.2.2.1 ty3.2.2.2.2.2.2 rfl nE_len (fun a => rfl) how (by simp only [go_sem, Nat.reduceEqDiff, ↓reduceIte, reduceIte, Nat.reduceAdd, Nat.reduceMul, Nat.reduceSub, Nat.reduceLeDiff, Nat.reduceBEq, Nat.reduceBNe, Int.reduceNeg, Int.reduceLT, Int.reduceLE, Int.reduceAdd, Int.reduceSub, Int.reduceToNat, Int.reduceEq, Int.reduceBEq, reduceCtorEq, List.cons.injEq, Int.reduceBNe, Int.sub_zero, decide_true, decide_false, false_and, and_false, ty22] <;> rfl) (by simp)
          (by simp [intsOf]; omega) (by simp [intsOf, maxLen]; omega) ?_
        rw [← e7]
        simp only [go_sem, Nat.reduceEqDiff, ↓reduceIte, reduceIte, Nat.reduceAdd, Nat.reduceMul, Nat.reduceSub, Nat.reduceLeDiff, Nat.reduceBEq, Nat.reduceBNe, Int.reduceNeg, Int.reduceLT, Int.reduceLE, Int.reduceAdd, Int.reduceSub, Int.reduceToNat, Int.reduceEq, Int.reduceBEq, reduceCtorEq, List.cons.injEq, Int.reduceBNe, Int.sub_zero, decide_true, decide_false, false_and, and_false, q3]
        refine hK8 _ ?_; clear hK8 K8
        refine W_reg rfl ?_
        simp only [go_sem, Nat.reduceEqDiff, ↓reduceIte, reduceIte, Nat.reduceAdd, Nat.reduceMul, Nat.reduceSub, Nat.reduceLeDiff, Nat.reduceBEq, Nat.reduceBNe, Int.reduceNeg, Int.reduceLT, Int.reduceLE, Int.reduceAdd, Int.reduceSub, Int.reduceToNat, Int.reduceEq, Int.reduceBEq, reduceCtorEq, List.cons.injEq, Int.reduceBNe, Int.sub_zero, decide_true, decide_false, false_and, and_false, ty3, q8, e6]
        refine ⟨_, ?_, i + 1, rfl, by omega, fun j hj => ?_, q0, q6, q7, rfl, .inr ⟨_, ?_, rfl, hset_same _ _ _⟩, HLe.fresh (own_keep how hfs hle) (hfr [_, _]), fun b f p n z e => ?_⟩
        · omega
        · rcases Nat.lt_succ_iff_lt_or_eq.1 hj with hj | rfl
          · exact hok j hj
          · exact hgood
        · rw [e7]; simp
        · cases e; exact hfr [_, _]
  · have hge : i = l.length := by simp at h7; omega
    subst hge
    refine W_exit ?_
    simp only [go_sem, Nat.reduceEqDiff, ↓reduceIte, reduceIte, Nat.reduceAdd, Nat.reduceMul, Nat.reduceSub, Nat.reduceLeDiff, Nat.reduceBEq, Nat.reduceBNe, Int.reduceNeg, Int.reduceLT, Int.reduceLE, Int.reduceAdd, Int.reduceSub, Int.reduceToNat, Int.reduceEq, Int.reduceBEq, reduceCtorEq, List.cons.injEq, Int.reduceBNe, Int.sub_zero, decide_true, decide_false, false_and, and_false]
    clear hK6 K6
    refine hK3 _ ?_; clear hK3 K3
    have e8 : ne (intsOf (List.take l.length l)) = membL l := by
      rw [List.take_length]
      cases l with
      | nil => simp [membL, ne, intsOf]
      | cons a l => unfold membL; rw [if_pos ⟨by simp, hok⟩]; rfl
    refine W_own 3 (enc := nE) how nE_len ?_
    refine W_seq fun K9 hK9 => ?_
    refine W_reg rfl ?_
    simp only [go_sem, Nat.reduceEqDiff, ↓reduceIte, reduceIte, Nat.reduceAdd, Nat.reduceMul, Nat.reduceSub, Nat.reduceLeDiff, Nat.reduceBEq, Nat.reduceBNe, Int.reduceNeg, Int.reduceLT, Int.reduceLE, Int.reduceAdd, Int.reduceSub, Int.reduceToNat, Int.reduceEq, Int.reduceBEq, reduceCtorEq, List.cons.injEq, Int.reduceBNe, Int.sub_zero, decide_true, decide_false, false_and, and_false]
    refine hK9 _ ?_; clear hK9 K9
    refine W_ret ?_
    simp only [go_sem, Nat.reduceEqDiff, ↓reduceIte, reduceIte, Nat.reduceAdd, Nat.reduceMul, Nat.reduceSub, Nat.reduceLeDiff, Nat.reduceBEq, Nat.reduceBNe, Int.reduceNeg, Int.reduceLT, Int.reduceLE, Int.reduceAdd, Int.reduceSub, Int.reduceToNat, Int.reduceEq, Int.reduceBEq, reduceCtorEq, List.cons.injEq, Int.reduceBNe, Int.sub_zero, decide_true, decide_false, false_and, and_false]
    refine ends_ret (by simp only [go_sem, Nat.reduceEqDiff, ↓reduceIte, reduceIte, Nat.reduceAdd, Nat.reduceMul, Nat.reduceSub, Nat.reduceLeDiff, Nat.reduceBEq, Nat.reduceBNe, Int.reduceNeg, Int.reduceLT, Int.reduceLE, Int.reduceAdd, Int.reduceSub, Int.reduceToNat, Int.reduceEq, Int.reduceBEq, reduceCtorEq, List.cons.injEq, Int.reduceBNe, Int.sub_zero, decide_true, decide_false, false_and, and_false, Try.f42]; rw [e8]) (own_keep how hfs hle)
end Go.Proofs.Ytcfmbbebnobflaa
