/- ClientSeq holds. -/
import Derived.Test.YtmpndjpaelcnkaaB23
set_option linter.unusedVariables false
set_option linter.unusedSimpArgs false
namespace Go.Proofs.Ytmpndjpaelcnkaa
open Go Go.SX

def goodM (k : Int) (j : Nat) : Mg := ⟨11, 1, 100 + k, 0, (j : Int) + 1, 0, 0, none, true, 0, none, some [0, 0, 0], 0, 0, 0⟩
theorem readP0 : readP (some [0, 0, 0]) = (Rp0, 0) := by decide +kernel
theorem readP9 : readP (some [9]) = (Rp.zero, 3) := by decide +kernel
theorem hear_good (k : Int) (j : Nat) (hint : Int) (hk : 1 ≤ k ∧ k ≤ 8) : hearC ⟨k, (j : Int) + 1, true, ⟨2, k, (j : Int) + 1, [112]⟩, hint⟩ (goodM k j) = ((Rp0, true), ⟨k, (j : Int) + 1, false, ⟨2, k, (j : Int) + 1, [112]⟩, hint⟩) := by
  unfold hearC goodM
  simp [readP0]
theorem hear_shut (c : Cl) (m : Mg) (h : c.busy = false) : hearC c m = ((Rp.zero, false), c) := by unfold hearC; rw [if_pos h]
theorem mel (x : Mg) : x.enc.length = 15 := rfl
theorem mtk (x : Mg) : List.take 15 x.enc = x.enc := rfl
theorem may_seq {k n : Int} (hk : 1 ≤ k ∧ k ≤ 8) (hn : 1 ≤ n ∧ n ≤ 100) : mayL ⟨2, k, n, [112]⟩ = true := by
  unfold mayL
  simp only [Bool.and_eq_true, decide_eq_true_eq]
  exact ⟨by decide, by decide, hk.1, hk.2, hn.1, by omega, by decide⟩
set_option maxRecDepth 8000 in
set_option maxHeartbeats 1000000 in
theorem f4_ok (id : BId) (who : Int) (xs : Option (List Int)) (hxs : (sqL xs).length ≤ maxLen) : CallF Try.prog 4 [.p (.int .i64 who), sq nE xs] id [] (.p (.bool true)) [] := by
  unfold maxLen at hxs
  obtain ⟨k, hk, w1, w2⟩ : ∃ k : Int, (1 ≤ k ∧ k ≤ 8) ∧ IntKind.i64.wrap (who.tmod 8 + 8) = who.tmod 8 + 8 ∧ IntKind.i64.wrap (1 + (who.tmod 8 + 8).tmod 8) = k := by
    have h1 := Int.tmod_lt_of_pos who (show (0 : Int) < 8 by decide)
    have h2 : -8 < who.tmod 8 := by
      have := Int.lt_tmod_of_pos who (show (0 : Int) < 8 by decide); omega
    have h3 := Int.tmod_lt_of_pos (who.tmod 8 + 8) (show (0 : Int) < 8 by decide)
    have h4 : 0 ≤ (who.tmod 8 + 8).tmod 8 := Int.tmod_nonneg _ (by omega)
    exact ⟨1 + (who.tmod 8 + 8).tmod 8, by omega, wrap_i64 (by omega), wrap_i64 (by omega)⟩
  have hN := fun id => new_ok id k hk
  refine ⟨⟨_, Try.func4, by decide, rfl⟩, (by simp <;> repeat first | exact ⟨[_, _], rfl⟩ | constructor), fun h hr => callsA_of_W Try.func4 rfl fun hfr => ?_⟩
  repeat (first
    | with_reducible refine W_seq fun K hK => ?_
    | (with_reducible refine hK _ ?_); clear hK K
    | (with_reducible refine W_skipK hK ?_); clear hK K
    | (with_reducible refine W_condT ?_ ?_); (· rfl)
    | (with_reducible refine W_condF ?_ ?_); (· rfl)
    | with_reducible refine W_block ?_
    | clear hK K; (with_reducible refine hK _ ?_); clear hK K
    | clear hK K; clear hK K; (with_reducible refine hK _ ?_); clear hK K
    | clear hK K; clear hK K; clear hK K; (with_reducible refine hK _ ?_); clear hK K
    | (with_reducible refine And.intro ?_ ?_); (· first | omega | decide)
    | (try first | ((with_reducible refine W_reg ?_ ?_); (· rfl)) | (with_reducible refine W_exit ?_) | (with_reducible refine W_ret ?_)); simp only [go_sem, Nat.reduceEqDiff, ↓reduceIte, reduceIte, Nat.reduceAdd, Nat.reduceMul, Nat.reduceSub, Nat.reduceLeDiff, Nat.reduceBEq, Nat.reduceBNe, Int.reduceNeg, Int.reduceLT, Int.reduceLE, Int.reduceAdd, Int.reduceSub, Int.reduceToNat, Int.reduceEq, Int.reduceBEq, reduceCtorEq, Int.reduceBNe])
  refine stop_call (begun22_ok _) ?_ ?_
  · first | trivial | (simp only [go_sem, Nat.reduceEqDiff, ↓reduceIte, reduceIte, Nat.reduceAdd, Nat.reduceMul, Nat.reduceSub, Nat.reduceLeDiff, Nat.reduceBEq, Nat.reduceBNe, Int.reduceNeg, Int.reduceLT, Int.reduceLE, Int.reduceAdd, Int.reduceSub, Int.reduceToNat, Int.reduceEq, Int.reduceBEq, reduceCtorEq, Int.reduceBNe]; done)
  repeat (first
    | with_reducible refine W_seq fun K hK => ?_
    | (with_reducible refine hK _ ?_); clear hK K
    | (with_reducible refine W_skipK hK ?_); clear hK K
    | (with_reducible refine W_condT ?_ ?_); (· rfl)
    | (with_reducible refine W_condF ?_ ?_); (· rfl)
    | with_reducible refine W_block ?_
    | clear hK K; (with_reducible refine hK _ ?_); clear hK K
    | clear hK K; clear hK K; (with_reducible refine hK _ ?_); clear hK K
    | clear hK K; clear hK K; clear hK K; (with_reducible refine hK _ ?_); clear hK K
    | (with_reducible refine And.intro ?_ ?_); (· first | omega | decide)
    | (try first | ((with_reducible refine W_reg ?_ ?_); (· rfl)) | (with_reducible refine W_exit ?_) | (with_reducible refine W_ret ?_)); simp only [go_sem, Nat.reduceEqDiff, ↓reduceIte, reduceIte, Nat.reduceAdd, Nat.reduceMul, Nat.reduceSub, Nat.reduceLeDiff, Nat.reduceBEq, Nat.reduceBNe, Int.reduceNeg, Int.reduceLT, Int.reduceLE, Int.reduceAdd, Int.reduceSub, Int.reduceToNat, Int.reduceEq, Int.reduceBEq, reduceCtorEq, Int.reduceBNe, w1, w2])
  refine stop_call (hN _) ?_ ?_
  · first | trivial | (simp only [go_sem, Nat.reduceEqDiff, ↓reduceIte, reduceIte, Nat.reduceAdd, Nat.reduceMul, Nat.reduceSub, Nat.reduceLeDiff, Nat.reduceBEq, Nat.reduceBNe, Int.reduceNeg, Int.reduceLT, Int.reduceLE, Int.reduceAdd, Int.reduceSub, Int.reduceToNat, Int.reduceEq, Int.reduceBEq, reduceCtorEq, Int.reduceBNe]; done)
  repeat (first
    | with_reducible refine W_seq fun K hK => ?_
    | (with_reducible refine hK _ ?_); clear hK K
    | (with_reducible refine W_skipK hK ?_); clear hK K
    | (with_reducible refine W_condT ?_ ?_); (· rfl)
    | (with_reducible refine W_condF ?_ ?_); (· rfl)
    | with_reducible refine W_block ?_
    | clear hK K; (with_reducible refine hK _ ?_); clear hK K
    | clear hK K; clear hK K; (with_reducible refine hK _ ?_); clear hK K
    | clear hK K; clear hK K; clear hK K; (with_reducible refine hK _ ?_); clear hK K
    | (with_reducible refine And.intro ?_ ?_); (· first | omega | decide)
    | (try first | ((with_reducible refine W_reg ?_ ?_); (· rfl)) | (with_reducible refine W_exit ?_) | (with_reducible refine W_ret ?_)); simp only [go_sem, Nat.reduceEqDiff, ↓reduceIte, reduceIte, Nat.reduceAdd, Nat.reduceMul, Nat.reduceSub, Nat.reduceLeDiff, Nat.reduceBEq, Nat.reduceBNe, Int.reduceNeg, Int.reduceLT, Int.reduceLE, Int.reduceAdd, Int.reduceSub, Int.reduceToNat, Int.reduceEq, Int.reduceBEq, reduceCtorEq, Int.reduceBNe])
  refine W_loop ?_
  refine WL_nat (P := Try.prog) (fun m q => ∃ (j : Nat) (last : Cm) (hint : Int), m = 20 - j ∧ j ≤ 20 ∧ q.tm 0 = .p (.int .i64 k) ∧ q.tm 1 = sq nE xs ∧ q.tm 6 = .ptr (2 :: 2 :: 1 :: 4 :: id) 0 ∧ q.tm 7 = .p (.int .i64 j) ∧ 5 ≤ q.t ∧
      q.h (2 :: 2 :: 1 :: 4 :: id) = some (.cells 130 (Cl.enc ⟨k, j, false, last, hint⟩)) ∧ HLe h q.h) (fun m q hI => ?_) _ _
    ⟨0, Cm.zero, 0, rfl, by omega, rfl, rfl, rfl, rfl, by simp, by simp only [go_sem, Nat.reduceEqDiff, ↓reduceIte, reduceIte, Nat.reduceAdd, Nat.reduceMul, Nat.reduceSub, Nat.reduceLeDiff, Nat.reduceBEq, Nat.reduceBNe, Int.reduceNeg, Int.reduceLT, Int.reduceLE, Int.reduceAdd, Int.reduceSub, Int.reduceToNat, Int.reduceEq, Int.reduceBEq, reduceCtorEq, Int.reduceBNe]; rfl, by repeat (first | exact HLe.refl _ | refine HLe.fresh ?_ (hfr [_, _]) | refine HLe.fresh ?_ (hfr [_, _, _, _]))⟩
  obtain ⟨j, last, hint, rfl, hj, h0, h1, h6, h7, ht, hB, hle⟩ := hI
  obtain ⟨tm, hh, tt⟩ := q
  simp only at h0 h1 h6 h7 ht hB hle
  by_cases c1 : j < (sqL xs).length
  · have g1 : decide ((j : Int) < ((sqL xs).length : Int)) = true := by simp; omega
    by_cases c2 : j < 20
    · have g2 : decide ((j : Int) < 20) = true := by simp; omega
      have e6 : IntKind.i64.wrap ((j : Int) + 1) = ((j + 1 : Nat) : Int) := by rw [wrap_i64 (by omega)]; omega
      have hx : ((sqL xs).flatMap nE).drop j = .p (.int .i64 (sqL xs)[j]) :: ((sqL xs).drop (j + 1)).flatMap nE := by simpa [nE] using flatMap_at nE_len (sqL xs) j c1
      generalize (sqL xs)[j] = y at *
      have hc1 : callC ⟨k, j, false, last, hint⟩ 2 [112] = ((⟨2, k, j + 1, [112]⟩, 0), ⟨k, j + 1, true, ⟨2, k, j + 1, [112]⟩, hint⟩) := by
        unfold callC
        simp only [Bool.false_eq_true, if_false]
        rw [if_pos (may_seq hk (by omega))]
      have hC := fun id b => call_ok id b ⟨k, j, false, last, hint⟩ 2 [112] (by simp; omega)
      rw [hc1] at hC
      simp only [strA, Cm.enc] at hC
      have q1 : ((((j + 1 : Nat) : Int)) != ((j + 1 : Nat) : Int)) = false := by simp
      have hR := fun id => reply_ok id Rp0 (rp_R (by unfold i64R Rp0; decide) rfl)
      have d6 : repB Rp0 = [0, 0, 0] := by decide
      rw [d6] at hR
      simp only [Rp0, Rp.enc, sq_none] at hR
      have w3 : IntKind.i64.wrap (100 + k) = 100 + k := wrap_i64 (by omega)
      obtain ⟨z, hz, w4, w5⟩ : ∃ z : Int, (0 ≤ z ∧ z ≤ 3) ∧ IntKind.i64.wrap (y.tmod 4 + 4) = y.tmod 4 + 4 ∧ (y.tmod 4 + 4).tmod 4 = z := by
        have h1 := Int.tmod_lt_of_pos y (show (0 : Int) < 4 by decide)
        have h2 : -4 < y.tmod 4 := by
          have := Int.lt_tmod_of_pos y (show (0 : Int) < 4 by decide); omega
        have h3 := Int.tmod_lt_of_pos (y.tmod 4 + 4) (show (0 : Int) < 4 by decide)
        have h4 : 0 ≤ (y.tmod 4 + 4).tmod 4 := Int.tmod_nonneg _ (by omega)
        exact ⟨(y.tmod 4 + 4).tmod 4, by omega, wrap_i64 (by omega), rfl⟩
      have hjn : ((j + 1 : Nat) : Int) = (j : Int) + 1 := by omega
      rw [hjn] at e6
      repeat (first
        | with_reducible refine W_seq fun K hK => ?_
        | (with_reducible refine hK _ ?_); clear hK K
        | (with_reducible refine W_skipK hK ?_); clear hK K
        | (with_reducible refine W_condT ?_ ?_); (· rfl)
        | (with_reducible refine W_condF ?_ ?_); (· rfl)
        | with_reducible refine W_block ?_
        | clear hK K; (with_reducible refine hK _ ?_); clear hK K
        | clear hK K; clear hK K; (with_reducible refine hK _ ?_); clear hK K
        | clear hK K; clear hK K; clear hK K; (with_reducible refine hK _ ?_); clear hK K
        | (with_reducible refine And.intro ?_ ?_); (· first | omega | decide)
        | (try first | ((with_reducible refine W_reg ?_ ?_); (· rfl)) | (with_reducible refine W_exit ?_) | (with_reducible refine W_ret ?_)); simp only [go_sem, Nat.reduceEqDiff, ↓reduceIte, reduceIte, Nat.reduceAdd, Nat.reduceMul, Nat.reduceSub, Nat.reduceLeDiff, Nat.reduceBEq, Nat.reduceBNe, Int.reduceNeg, Int.reduceLT, Int.reduceLE, Int.reduceAdd, Int.reduceSub, Int.reduceToNat, Int.reduceEq, Int.reduceBEq, reduceCtorEq, Int.reduceBNe, h0, h1, h6, h7, g1, g2])
      refine stop_call (hC _ _) ?_ ?_
      · simp only [go_sem, Nat.reduceEqDiff, ↓reduceIte, reduceIte, Nat.reduceAdd, Nat.reduceMul, Nat.reduceSub, Nat.reduceLeDiff, Nat.reduceBEq, Nat.reduceBNe, Int.reduceNeg, Int.reduceLT, Int.reduceLE, Int.reduceAdd, Int.reduceSub, Int.reduceToNat, Int.reduceEq, Int.reduceBEq, reduceCtorEq, Int.reduceBNe, hB]
      repeat (first
        | with_reducible refine W_seq fun K hK => ?_
        | (with_reducible refine hK _ ?_); clear hK K
        | (with_reducible refine W_skipK hK ?_); clear hK K
        | (with_reducible refine W_condT ?_ ?_); (· rfl)
        | (with_reducible refine W_condF ?_ ?_); (· rfl)
        | with_reducible refine W_block ?_
        | clear hK K; (with_reducible refine hK _ ?_); clear hK K
        | clear hK K; clear hK K; (with_reducible refine hK _ ?_); clear hK K
        | clear hK K; clear hK K; clear hK K; (with_reducible refine hK _ ?_); clear hK K
        | (with_reducible refine And.intro ?_ ?_); (· first | omega | decide)
        | (try first | ((with_reducible refine W_reg ?_ ?_); (· rfl)) | (with_reducible refine W_exit ?_) | (with_reducible refine W_ret ?_)); simp only [go_sem, Nat.reduceEqDiff, ↓reduceIte, reduceIte, Nat.reduceAdd, Nat.reduceMul, Nat.reduceSub, Nat.reduceLeDiff, Nat.reduceBEq, Nat.reduceBNe, Int.reduceNeg, Int.reduceLT, Int.reduceLE, Int.reduceAdd, Int.reduceSub, Int.reduceToNat, Int.reduceEq, Int.reduceBEq, reduceCtorEq, Int.reduceBNe, h0, h1, h6, h7, e6, bne_self_eq_false])
      refine W_drw [[], [0], [], [2], [], [4], [0, 1, 2, 3, 4, 5], [], [0, 1, 2, 3, 4, 5, 6, 7]] follows_mixed (by rfl) (by rfl) ?_
      repeat (first
        | with_reducible refine W_seq fun K hK => ?_
        | (with_reducible refine hK _ ?_); clear hK K
        | (with_reducible refine W_skipK hK ?_); clear hK K
        | (with_reducible refine W_condT ?_ ?_); (· rfl)
        | (with_reducible refine W_condF ?_ ?_); (· rfl)
        | with_reducible refine W_block ?_
        | clear hK K; (with_reducible refine hK _ ?_); clear hK K
        | clear hK K; clear hK K; (with_reducible refine hK _ ?_); clear hK K
        | clear hK K; clear hK K; clear hK K; (with_reducible refine hK _ ?_); clear hK K
        | (with_reducible refine And.intro ?_ ?_); (· first | omega | decide)
        | (try first | ((with_reducible refine W_reg ?_ ?_); (· rfl)) | (with_reducible refine W_exit ?_) | (with_reducible refine W_ret ?_)); simp only [go_sem, Nat.reduceEqDiff, ↓reduceIte, reduceIte, Nat.reduceAdd, Nat.reduceMul, Nat.reduceSub, Nat.reduceLeDiff, Nat.reduceBEq, Nat.reduceBNe, Int.reduceNeg, Int.reduceLT, Int.reduceLE, Int.reduceAdd, Int.reduceSub, Int.reduceToNat, Int.reduceEq, Int.reduceBEq, reduceCtorEq, Int.reduceBNe, h0, h1, h6, h7, w3])
      refine stopD_call (hR _) ?_ ?_
      · first | trivial | (simp only [go_sem, Nat.reduceEqDiff, ↓reduceIte, reduceIte, Nat.reduceAdd, Nat.reduceMul, Nat.reduceSub, Nat.reduceLeDiff, Nat.reduceBEq, Nat.reduceBNe, Int.reduceNeg, Int.reduceLT, Int.reduceLE, Int.reduceAdd, Int.reduceSub, Int.reduceToNat, Int.reduceEq, Int.reduceBEq, reduceCtorEq, Int.reduceBNe]; done)
      repeat (first
        | with_reducible refine W_seq fun K hK => ?_
        | (with_reducible refine hK _ ?_); clear hK K
        | (with_reducible refine W_skipK hK ?_); clear hK K
        | (with_reducible refine W_condT ?_ ?_); (· rfl)
        | (with_reducible refine W_condF ?_ ?_); (· rfl)
        | with_reducible refine W_block ?_
        | clear hK K; (with_reducible refine hK _ ?_); clear hK K
        | clear hK K; clear hK K; (with_reducible refine hK _ ?_); clear hK K
        | clear hK K; clear hK K; clear hK K; (with_reducible refine hK _ ?_); clear hK K
        | (with_reducible refine And.intro ?_ ?_); (· first | omega | decide)
        | (try first | ((with_reducible refine W_reg ?_ ?_); (· rfl)) | (with_reducible refine W_exit ?_) | (with_reducible refine W_ret ?_)); simp only [go_sem, Nat.reduceEqDiff, ↓reduceIte, reduceIte, Nat.reduceAdd, Nat.reduceMul, Nat.reduceSub, Nat.reduceLeDiff, Nat.reduceBEq, Nat.reduceBNe, Int.reduceNeg, Int.reduceLT, Int.reduceLE, Int.reduceAdd, Int.reduceSub, Int.reduceToNat, Int.reduceEq, Int.reduceBEq, reduceCtorEq, Int.reduceBNe, h0, h1, h6, h7, w3, w4, w5, hx])
      have hg := hear_good k j hint hk
      have hHg := fun id b => hear_ok id b ⟨k, (j : Int) + 1, true, ⟨2, k, (j : Int) + 1, [112]⟩, hint⟩ (goodM k j) hk (by simp [goodM, sqL])
      have hHb := fun id b => hear_ok id b ⟨k, (j : Int) + 1, false, ⟨2, k, (j : Int) + 1, [112]⟩, hint⟩ (goodM k j) hk (by simp [goodM, sqL])
      have hOp := fun id b => open_ok id b ⟨k, (j : Int) + 1, false, ⟨2, k, (j : Int) + 1, [112]⟩, hint⟩
      rw [hg] at hHg
      rw [hear_shut _ _ rfl] at hHb
      have tail : ∀ (tm' : Nat → AV) (h' : Heap) (t' : Nat) (A : List AV), tm' 0 = .p (.int .i64 k) → tm' 1 = sq nE xs → tm' 6 = .ptr (2 :: 2 :: 1 :: 4 :: id) 0 → tm' 7 = .p (.int .i64 j) → tm' 10 = .ptr (7 :: (tt + 1 + 1 + 1) :: id) 0 → tm' 11 = .ptr (1 :: (tt + 1 + 1 + 1 + 1) :: id) 0 → tt + 5 ≤ t' →
          h' (2 :: 2 :: 1 :: 4 :: id) = some (.cells 130 (Cl.enc ⟨k, (j : Int) + 1, true, ⟨2, k, (j : Int) + 1, [112]⟩, hint⟩)) → h' (7 :: (tt + 1 + 1 + 1) :: id) = some (.cells 26 (goodM k j).enc) → h' (1 :: (tt + 1 + 1 + 1 + 1) :: id) = some (.cells 26 A) → A.length = 15 → HLe h h' →
          (∀ id b, CallF Try.prog 26 [.ptr b 0, .agg A] id [(b, .cells 130 (Cl.enc ⟨k, (j : Int) + 1, true, ⟨2, k, (j : Int) + 1, [112]⟩, hint⟩))] (.tup [.agg Rp.zero.enc, .p (.bool false)]) [(b, some (.cells 130 (Cl.enc ⟨k, (j : Int) + 1, true, ⟨2, k, (j : Int) + 1, [112]⟩, hint⟩)))]) → K ⟨tm', h', t'⟩ := by
        intro tm' h' t' A i0 i1 i6 i7 i10 i11 it iB iG iD iA iH iC
        refine hK _ ?_
        clear hK
        have hA15 : List.take 15 A = A := List.take_of_length_le (by omega)
        simp only [Rp.zero, Rp0, Rp.enc, sq_none] at iC hHg hHb
        repeat (first
          | with_reducible refine W_seq fun K hK => ?_
          | (with_reducible refine hK _ ?_); clear hK K
          | (with_reducible refine W_skipK hK ?_); clear hK K
          | (with_reducible refine W_condT ?_ ?_); (· rfl)
          | (with_reducible refine W_condF ?_ ?_); (· rfl)
          | with_reducible refine W_block ?_
          | clear hK K; (with_reducible refine hK _ ?_); clear hK K
          | clear hK K; clear hK K; (with_reducible refine hK _ ?_); clear hK K
          | clear hK K; clear hK K; clear hK K; (with_reducible refine hK _ ?_); clear hK K
          | (with_reducible refine And.intro ?_ ?_); (· first | omega | decide)
          | (try first | ((with_reducible refine W_reg ?_ ?_); (· rfl)) | (with_reducible refine W_exit ?_) | (with_reducible refine W_ret ?_)); simp only [go_sem, Nat.reduceEqDiff, ↓reduceIte, reduceIte, Nat.reduceAdd, Nat.reduceMul, Nat.reduceSub, Nat.reduceLeDiff, Nat.reduceBEq, Nat.reduceBNe, Int.reduceNeg, Int.reduceLT, Int.reduceLE, Int.reduceAdd, Int.reduceSub, Int.reduceToNat, Int.reduceEq, Int.reduceBEq, reduceCtorEq, Int.reduceBNe, i0, i1, i6, i7, i10, i11, iD, iA, hA15])
        refine stop_call (iC _ _) ?_ ?_
        · simp only [go_sem, Nat.reduceEqDiff, ↓reduceIte, reduceIte, Nat.reduceAdd, Nat.reduceMul, Nat.reduceSub, Nat.reduceLeDiff, Nat.reduceBEq, Nat.reduceBNe, Int.reduceNeg, Int.reduceLT, Int.reduceLE, Int.reduceAdd, Int.reduceSub, Int.reduceToNat, Int.reduceEq, Int.reduceBEq, reduceCtorEq, Int.reduceBNe, iB]
        repeat (first
          | with_reducible refine W_seq fun K hK => ?_
          | (with_reducible refine hK _ ?_); clear hK K
          | (with_reducible refine W_skipK hK ?_); clear hK K
          | (with_reducible refine W_condT ?_ ?_); (· rfl)
          | (with_reducible refine W_condF ?_ ?_); (· rfl)
          | with_reducible refine W_block ?_
          | clear hK K; (with_reducible refine hK _ ?_); clear hK K
          | clear hK K; clear hK K; (with_reducible refine hK _ ?_); clear hK K
          | clear hK K; clear hK K; clear hK K; (with_reducible refine hK _ ?_); clear hK K
          | (with_reducible refine And.intro ?_ ?_); (· first | omega | decide)
          | (try first | ((with_reducible refine W_reg ?_ ?_); (· rfl)) | (with_reducible refine W_exit ?_) | (with_reducible refine W_ret ?_)); simp only [go_sem, Nat.reduceEqDiff, ↓reduceIte, reduceIte, Nat.reduceAdd, Nat.reduceMul, Nat.reduceSub, Nat.reduceLeDiff, Nat.reduceBEq, Nat.reduceBNe, Int.reduceNeg, Int.reduceLT, Int.reduceLE, Int.reduceAdd, Int.reduceSub, Int.reduceToNat, Int.reduceEq, Int.reduceBEq, reduceCtorEq, Int.reduceBNe, i0, i1, i6, i7, i10, i11, iG, mel, mtk])
        refine stop_call (hHg _ _) ?_ ?_
        · simp only [go_sem, Nat.reduceEqDiff, ↓reduceIte, reduceIte, Nat.reduceAdd, Nat.reduceMul, Nat.reduceSub, Nat.reduceLeDiff, Nat.reduceBEq, Nat.reduceBNe, Int.reduceNeg, Int.reduceLT, Int.reduceLE, Int.reduceAdd, Int.reduceSub, Int.reduceToNat, Int.reduceEq, Int.reduceBEq, reduceCtorEq, Int.reduceBNe]
        repeat (first
          | with_reducible refine W_seq fun K hK => ?_
          | (with_reducible refine hK _ ?_); clear hK K
          | (with_reducible refine W_skipK hK ?_); clear hK K
          | (with_reducible refine W_condT ?_ ?_); (· rfl)
          | (with_reducible refine W_condF ?_ ?_); (· rfl)
          | with_reducible refine W_block ?_
          | clear hK K; (with_reducible refine hK _ ?_); clear hK K
          | clear hK K; clear hK K; (with_reducible refine hK _ ?_); clear hK K
          | clear hK K; clear hK K; clear hK K; (with_reducible refine hK _ ?_); clear hK K
          | (with_reducible refine And.intro ?_ ?_); (· first | omega | decide)
          | (try first | ((with_reducible refine W_reg ?_ ?_); (· rfl)) | (with_reducible refine W_exit ?_) | (with_reducible refine W_ret ?_)); simp only [go_sem, Nat.reduceEqDiff, ↓reduceIte, reduceIte, Nat.reduceAdd, Nat.reduceMul, Nat.reduceSub, Nat.reduceLeDiff, Nat.reduceBEq, Nat.reduceBNe, Int.reduceNeg, Int.reduceLT, Int.reduceLE, Int.reduceAdd, Int.reduceSub, Int.reduceToNat, Int.reduceEq, Int.reduceBEq, reduceCtorEq, Int.reduceBNe, i0, i1, i6, i7, i10, i11, iG, mel, mtk])
        refine stop_call (hHb _ _) ?_ ?_
        · simp only [go_sem, Nat.reduceEqDiff, ↓reduceIte, reduceIte, Nat.reduceAdd, Nat.reduceMul, Nat.reduceSub, Nat.reduceLeDiff, Nat.reduceBEq, Nat.reduceBNe, Int.reduceNeg, Int.reduceLT, Int.reduceLE, Int.reduceAdd, Int.reduceSub, Int.reduceToNat, Int.reduceEq, Int.reduceBEq, reduceCtorEq, Int.reduceBNe]
        repeat (first
          | with_reducible refine W_seq fun K hK => ?_
          | (with_reducible refine hK _ ?_); clear hK K
          | (with_reducible refine W_skipK hK ?_); clear hK K
          | (with_reducible refine W_condT ?_ ?_); (· rfl)
          | (with_reducible refine W_condF ?_ ?_); (· rfl)
          | with_reducible refine W_block ?_
          | clear hK K; (with_reducible refine hK _ ?_); clear hK K
          | clear hK K; clear hK K; (with_reducible refine hK _ ?_); clear hK K
          | clear hK K; clear hK K; clear hK K; (with_reducible refine hK _ ?_); clear hK K
          | (with_reducible refine And.intro ?_ ?_); (· first | omega | decide)
          | (try first | ((with_reducible refine W_reg ?_ ?_); (· rfl)) | (with_reducible refine W_exit ?_) | (with_reducible refine W_ret ?_)); simp only [go_sem, Nat.reduceEqDiff, ↓reduceIte, reduceIte, Nat.reduceAdd, Nat.reduceMul, Nat.reduceSub, Nat.reduceLeDiff, Nat.reduceBEq, Nat.reduceBNe, Int.reduceNeg, Int.reduceLT, Int.reduceLE, Int.reduceAdd, Int.reduceSub, Int.reduceToNat, Int.reduceEq, Int.reduceBEq, reduceCtorEq, Int.reduceBNe, i0, i1, i6, i7, i10, i11, iG, mel, mtk])
        refine stop_call (hOp _ _) ?_ ?_
        · simp only [go_sem, Nat.reduceEqDiff, ↓reduceIte, reduceIte, Nat.reduceAdd, Nat.reduceMul, Nat.reduceSub, Nat.reduceLeDiff, Nat.reduceBEq, Nat.reduceBNe, Int.reduceNeg, Int.reduceLT, Int.reduceLE, Int.reduceAdd, Int.reduceSub, Int.reduceToNat, Int.reduceEq, Int.reduceBEq, reduceCtorEq, Int.reduceBNe]
        repeat (first
          | with_reducible refine W_seq fun K hK => ?_
          | (with_reducible refine hK _ ?_); clear hK K
          | (with_reducible refine W_skipK hK ?_); clear hK K
          | (with_reducible refine W_condT ?_ ?_); (· rfl)
          | (with_reducible refine W_condF ?_ ?_); (· rfl)
          | with_reducible refine W_block ?_
          | clear hK K; (with_reducible refine hK _ ?_); clear hK K
          | clear hK K; clear hK K; (with_reducible refine hK _ ?_); clear hK K
          | clear hK K; clear hK K; clear hK K; (with_reducible refine hK _ ?_); clear hK K
          | (with_reducible refine And.intro ?_ ?_); (· first | omega | decide)
          | (try first | ((with_reducible refine W_reg ?_ ?_); (· rfl)) | (with_reducible refine W_exit ?_) | (with_reducible refine W_ret ?_)); simp only [go_sem, Nat.reduceEqDiff, ↓reduceIte, reduceIte, Nat.reduceAdd, Nat.reduceMul, Nat.reduceSub, Nat.reduceLeDiff, Nat.reduceBEq, Nat.reduceBNe, Int.reduceNeg, Int.reduceLT, Int.reduceLE, Int.reduceAdd, Int.reduceSub, Int.reduceToNat, Int.reduceEq, Int.reduceBEq, reduceCtorEq, Int.reduceBNe, i0, i1, i6, i7, i10, i11, iG, mel, mtk])
        refine W_skip ?_
        repeat (first
          | with_reducible refine W_seq fun K hK => ?_
          | (with_reducible refine hK _ ?_); clear hK K
          | (with_reducible refine W_skipK hK ?_); clear hK K
          | (with_reducible refine W_condT ?_ ?_); (· rfl)
          | (with_reducible refine W_condF ?_ ?_); (· rfl)
          | with_reducible refine W_block ?_
          | clear hK K; (with_reducible refine hK _ ?_); clear hK K
          | clear hK K; clear hK K; (with_reducible refine hK _ ?_); clear hK K
          | clear hK K; clear hK K; clear hK K; (with_reducible refine hK _ ?_); clear hK K
          | (with_reducible refine And.intro ?_ ?_); (· first | omega | decide)
          | (try first | ((with_reducible refine W_reg ?_ ?_); (· rfl)) | (with_reducible refine W_exit ?_) | (with_reducible refine W_ret ?_)); simp only [go_sem, Nat.reduceEqDiff, ↓reduceIte, reduceIte, Nat.reduceAdd, Nat.reduceMul, Nat.reduceSub, Nat.reduceLeDiff, Nat.reduceBEq, Nat.reduceBNe, Int.reduceNeg, Int.reduceLT, Int.reduceLE, Int.reduceAdd, Int.reduceSub, Int.reduceToNat, Int.reduceEq, Int.reduceBEq, reduceCtorEq, Int.reduceBNe, i0, i1, i6, i7, e6])
        refine ⟨_, ?_, j + 1, ⟨2, k, (j : Int) + 1, [112]⟩, hint, rfl, by omega, ?_⟩
        · omega
        · rw [hjn]
          refine ⟨rfl, rfl, ?_⟩
          repeat (first | exact iH | refine HLe.fresh ?_ (hfr [_, _]) | refine HLe.fresh ?_ (hfr [_, _, _, _]))
      clear hK
      have hK9 := tail
      clear tail
      have hzz : z = 0 ∨ z = 1 ∨ z = 2 ∨ z = 3 := by omega
      rcases hzz with rfl | rfl | rfl | rfl
      · have w6 : IntKind.i64.wrap ((j : Int) + 1 - 1) = (j : Int) := by rw [wrap_i64 (by omega)]; omega
        have hb9 : hearC ⟨k, (j : Int) + 1, true, ⟨2, k, (j : Int) + 1, [112]⟩, hint⟩ ⟨11, 1, 100 + k, 0, j, 0, 0, none, true, 0, none, some [0, 0, 0], 0, 0, 0⟩ = ((Rp.zero, false), ⟨k, (j : Int) + 1, true, ⟨2, k, (j : Int) + 1, [112]⟩, hint⟩) := by
          unfold hearC
          rw [if_neg (by simp), if_neg (by simp), if_neg (by simp), if_pos (by simp <;> omega)]
        have hc9 := fun id b => hear_ok id b ⟨k, (j : Int) + 1, true, ⟨2, k, (j : Int) + 1, [112]⟩, hint⟩ ⟨11, 1, 100 + k, 0, j, 0, 0, none, true, 0, none, some [0, 0, 0], 0, 0, 0⟩ hk (by simp [sqL])
        rw [hb9] at hc9
        repeat (first
          | with_reducible refine W_seq fun K hK => ?_
          | (with_reducible refine hK _ ?_); clear hK K
          | (with_reducible refine W_skipK hK ?_); clear hK K
          | (with_reducible refine W_condT ?_ ?_); (· rfl)
          | (with_reducible refine W_condF ?_ ?_); (· rfl)
          | with_reducible refine W_block ?_
          | clear hK K; (with_reducible refine hK _ ?_); clear hK K
          | clear hK K; clear hK K; (with_reducible refine hK _ ?_); clear hK K
          | clear hK K; clear hK K; clear hK K; (with_reducible refine hK _ ?_); clear hK K
          | (with_reducible refine And.intro ?_ ?_); (· first | omega | decide)
          | (try first | ((with_reducible refine W_reg ?_ ?_); (· rfl)) | (with_reducible refine W_exit ?_) | (with_reducible refine W_ret ?_)); simp only [go_sem, Nat.reduceEqDiff, ↓reduceIte, reduceIte, Nat.reduceAdd, Nat.reduceMul, Nat.reduceSub, Nat.reduceLeDiff, Nat.reduceBEq, Nat.reduceBNe, Int.reduceNeg, Int.reduceLT, Int.reduceLE, Int.reduceAdd, Int.reduceSub, Int.reduceToNat, Int.reduceEq, Int.reduceBEq, reduceCtorEq, Int.reduceBNe, w6])
        refine hK9 _ _ _ (Mg.enc ⟨11, 1, 100 + k, 0, j, 0, 0, none, true, 0, none, some [0, 0, 0], 0, 0, 0⟩) h0 h1 h6 h7 rfl rfl (by omega) ?_ ?_ ?_ rfl (by repeat (first | exact hle | refine HLe.fresh ?_ (hfr [_, _]) | refine HLe.fresh ?_ (hfr [_, _, _, _]))) hc9
        · simp only [go_sem, Nat.reduceEqDiff, ↓reduceIte, reduceIte, Nat.reduceAdd, Nat.reduceMul, Nat.reduceSub, Nat.reduceLeDiff, Nat.reduceBEq, Nat.reduceBNe, Int.reduceNeg, Int.reduceLT, Int.reduceLE, Int.reduceAdd, Int.reduceSub, Int.reduceToNat, Int.reduceEq, Int.reduceBEq, reduceCtorEq, Int.reduceBNe]
        · simp only [go_sem, Nat.reduceEqDiff, ↓reduceIte, reduceIte, Nat.reduceAdd, Nat.reduceMul, Nat.reduceSub, Nat.reduceLeDiff, Nat.reduceBEq, Nat.reduceBNe, Int.reduceNeg, Int.reduceLT, Int.reduceLE, Int.reduceAdd, Int.reduceSub, Int.reduceToNat, Int.reduceEq, Int.reduceBEq, reduceCtorEq, Int.reduceBNe, goodM, Mg.enc]
          rfl
        · simp only [go_sem, Nat.reduceEqDiff, ↓reduceIte, reduceIte, Nat.reduceAdd, Nat.reduceMul, Nat.reduceSub, Nat.reduceLeDiff, Nat.reduceBEq, Nat.reduceBNe, Int.reduceNeg, Int.reduceLT, Int.reduceLE, Int.reduceAdd, Int.reduceSub, Int.reduceToNat, Int.reduceEq, Int.reduceBEq, reduceCtorEq, Int.reduceBNe, Mg.enc]
          rfl
      · have w6 : IntKind.i64.wrap (100 + k + 1) = 101 + k := by rw [wrap_i64 (by omega)]; omega
        have hb9 : hearC ⟨k, (j : Int) + 1, true, ⟨2, k, (j : Int) + 1, [112]⟩, hint⟩ ⟨11, 1, 101 + k, 0, (j : Int) + 1, 0, 0, none, true, 0, none, some [0, 0, 0], 0, 0, 0⟩ = ((Rp.zero, false), ⟨k, (j : Int) + 1, true, ⟨2, k, (j : Int) + 1, [112]⟩, hint⟩) := by
          unfold hearC
          rw [if_neg (by simp), if_neg (by simp), if_pos (by simp <;> omega)]
        have hc9 := fun id b => hear_ok id b ⟨k, (j : Int) + 1, true, ⟨2, k, (j : Int) + 1, [112]⟩, hint⟩ ⟨11, 1, 101 + k, 0, (j : Int) + 1, 0, 0, none, true, 0, none, some [0, 0, 0], 0, 0, 0⟩ hk (by simp [sqL])
        rw [hb9] at hc9
        repeat (first
          | with_reducible refine W_seq fun K hK => ?_
          | (with_reducible refine hK _ ?_); clear hK K
          | (with_reducible refine W_skipK hK ?_); clear hK K
          | (with_reducible refine W_condT ?_ ?_); (· rfl)
          | (with_reducible refine W_condF ?_ ?_); (· rfl)
          | with_reducible refine W_block ?_
          | clear hK K; (with_reducible refine hK _ ?_); clear hK K
          | clear hK K; clear hK K; (with_reducible refine hK _ ?_); clear hK K
          | clear hK K; clear hK K; clear hK K; (with_reducible refine hK _ ?_); clear hK K
          | (with_reducible refine And.intro ?_ ?_); (· first | omega | decide)
          | (try first | ((with_reducible refine W_reg ?_ ?_); (· rfl)) | (with_reducible refine W_exit ?_) | (with_reducible refine W_ret ?_)); simp only [go_sem, Nat.reduceEqDiff, ↓reduceIte, reduceIte, Nat.reduceAdd, Nat.reduceMul, Nat.reduceSub, Nat.reduceLeDiff, Nat.reduceBEq, Nat.reduceBNe, Int.reduceNeg, Int.reduceLT, Int.reduceLE, Int.reduceAdd, Int.reduceSub, Int.reduceToNat, Int.reduceEq, Int.reduceBEq, reduceCtorEq, Int.reduceBNe, w6])
        refine hK9 _ _ _ (Mg.enc ⟨11, 1, 101 + k, 0, (j : Int) + 1, 0, 0, none, true, 0, none, some [0, 0, 0], 0, 0, 0⟩) h0 h1 h6 h7 rfl rfl (by omega) ?_ ?_ ?_ rfl (by repeat (first | exact hle | refine HLe.fresh ?_ (hfr [_, _]) | refine HLe.fresh ?_ (hfr [_, _, _, _]))) hc9
        · simp only [go_sem, Nat.reduceEqDiff, ↓reduceIte, reduceIte, Nat.reduceAdd, Nat.reduceMul, Nat.reduceSub, Nat.reduceLeDiff, Nat.reduceBEq, Nat.reduceBNe, Int.reduceNeg, Int.reduceLT, Int.reduceLE, Int.reduceAdd, Int.reduceSub, Int.reduceToNat, Int.reduceEq, Int.reduceBEq, reduceCtorEq, Int.reduceBNe]
        · simp only [go_sem, Nat.reduceEqDiff, ↓reduceIte, reduceIte, Nat.reduceAdd, Nat.reduceMul, Nat.reduceSub, Nat.reduceLeDiff, Nat.reduceBEq, Nat.reduceBNe, Int.reduceNeg, Int.reduceLT, Int.reduceLE, Int.reduceAdd, Int.reduceSub, Int.reduceToNat, Int.reduceEq, Int.reduceBEq, reduceCtorEq, Int.reduceBNe, goodM, Mg.enc]
          rfl
        · simp only [go_sem, Nat.reduceEqDiff, ↓reduceIte, reduceIte, Nat.reduceAdd, Nat.reduceMul, Nat.reduceSub, Nat.reduceLeDiff, Nat.reduceBEq, Nat.reduceBNe, Int.reduceNeg, Int.reduceLT, Int.reduceLE, Int.reduceAdd, Int.reduceSub, Int.reduceToNat, Int.reduceEq, Int.reduceBEq, reduceCtorEq, Int.reduceBNe, Mg.enc]
          rfl
      · skip
        have hb9 : hearC ⟨k, (j : Int) + 1, true, ⟨2, k, (j : Int) + 1, [112]⟩, hint⟩ ⟨10, 1, 100 + k, 0, (j : Int) + 1, 0, 0, none, true, 0, none, some [0, 0, 0], 0, 0, 0⟩ = ((Rp.zero, false), ⟨k, (j : Int) + 1, true, ⟨2, k, (j : Int) + 1, [112]⟩, hint⟩) := by
          unfold hearC
          rw [if_neg (by simp), if_pos (by simp)]
        have hc9 := fun id b => hear_ok id b ⟨k, (j : Int) + 1, true, ⟨2, k, (j : Int) + 1, [112]⟩, hint⟩ ⟨10, 1, 100 + k, 0, (j : Int) + 1, 0, 0, none, true, 0, none, some [0, 0, 0], 0, 0, 0⟩ hk (by simp [sqL])
        rw [hb9] at hc9
        repeat (first
          | with_reducible refine W_seq fun K hK => ?_
          | (with_reducible refine hK _ ?_); clear hK K
          | (with_reducible refine W_skipK hK ?_); clear hK K
          | (with_reducible refine W_condT ?_ ?_); (· rfl)
          | (with_reducible refine W_condF ?_ ?_); (· rfl)
          | with_reducible refine W_block ?_
          | clear hK K; (with_reducible refine hK _ ?_); clear hK K
          | clear hK K; clear hK K; (with_reducible refine hK _ ?_); clear hK K
          | clear hK K; clear hK K; clear hK K; (with_reducible refine hK _ ?_); clear hK K
          | (with_reducible refine And.intro ?_ ?_); (· first | omega | decide)
          | (try first | ((with_reducible refine W_reg ?_ ?_); (· rfl)) | (with_reducible refine W_exit ?_) | (with_reducible refine W_ret ?_)); simp only [go_sem, Nat.reduceEqDiff, ↓reduceIte, reduceIte, Nat.reduceAdd, Nat.reduceMul, Nat.reduceSub, Nat.reduceLeDiff, Nat.reduceBEq, Nat.reduceBNe, Int.reduceNeg, Int.reduceLT, Int.reduceLE, Int.reduceAdd, Int.reduceSub, Int.reduceToNat, Int.reduceEq, Int.reduceBEq, reduceCtorEq, Int.reduceBNe])
        refine hK9 _ _ _ (Mg.enc ⟨10, 1, 100 + k, 0, (j : Int) + 1, 0, 0, none, true, 0, none, some [0, 0, 0], 0, 0, 0⟩) h0 h1 h6 h7 rfl rfl (by omega) ?_ ?_ ?_ rfl (by repeat (first | exact hle | refine HLe.fresh ?_ (hfr [_, _]) | refine HLe.fresh ?_ (hfr [_, _, _, _]))) hc9
        · simp only [go_sem, Nat.reduceEqDiff, ↓reduceIte, reduceIte, Nat.reduceAdd, Nat.reduceMul, Nat.reduceSub, Nat.reduceLeDiff, Nat.reduceBEq, Nat.reduceBNe, Int.reduceNeg, Int.reduceLT, Int.reduceLE, Int.reduceAdd, Int.reduceSub, Int.reduceToNat, Int.reduceEq, Int.reduceBEq, reduceCtorEq, Int.reduceBNe]
        · simp only [go_sem, Nat.reduceEqDiff, ↓reduceIte, reduceIte, Nat.reduceAdd, Nat.reduceMul, Nat.reduceSub, Nat.reduceLeDiff, Nat.reduceBEq, Nat.reduceBNe, Int.reduceNeg, Int.reduceLT, Int.reduceLE, Int.reduceAdd, Int.reduceSub, Int.reduceToNat, Int.reduceEq, Int.reduceBEq, reduceCtorEq, Int.reduceBNe, goodM, Mg.enc]
          rfl
        · simp only [go_sem, Nat.reduceEqDiff, ↓reduceIte, reduceIte, Nat.reduceAdd, Nat.reduceMul, Nat.reduceSub, Nat.reduceLeDiff, Nat.reduceBEq, Nat.reduceBNe, Int.reduceNeg, Int.reduceLT, Int.reduceLE, Int.reduceAdd, Int.reduceSub, Int.reduceToNat, Int.reduceEq, Int.reduceBEq, reduceCtorEq, Int.reduceBNe, Mg.enc]
          rfl
      · skip
        have hb9 : hearC ⟨k, (j : Int) + 1, true, ⟨2, k, (j : Int) + 1, [112]⟩, hint⟩ ⟨11, 1, 100 + k, 0, (j : Int) + 1, 0, 0, none, true, 0, none, some [9], 0, 0, 0⟩ = ((Rp.zero, false), ⟨k, (j : Int) + 1, true, ⟨2, k, (j : Int) + 1, [112]⟩, hint⟩) := by
          unfold hearC
          rw [if_neg (by simp), if_neg (by simp), if_neg (by simp), if_neg (by simp), if_neg (by simp), readP9]; rfl
        have hc9 := fun id b => hear_ok id b ⟨k, (j : Int) + 1, true, ⟨2, k, (j : Int) + 1, [112]⟩, hint⟩ ⟨11, 1, 100 + k, 0, (j : Int) + 1, 0, 0, none, true, 0, none, some [9], 0, 0, 0⟩ hk (by simp [sqL])
        rw [hb9] at hc9
        repeat (first
          | with_reducible refine W_seq fun K hK => ?_
          | (with_reducible refine hK _ ?_); clear hK K
          | (with_reducible refine W_skipK hK ?_); clear hK K
          | (with_reducible refine W_condT ?_ ?_); (· rfl)
          | (with_reducible refine W_condF ?_ ?_); (· rfl)
          | with_reducible refine W_block ?_
          | clear hK K; (with_reducible refine hK _ ?_); clear hK K
          | clear hK K; clear hK K; (with_reducible refine hK _ ?_); clear hK K
          | clear hK K; clear hK K; clear hK K; (with_reducible refine hK _ ?_); clear hK K
          | (with_reducible refine And.intro ?_ ?_); (· first | omega | decide)
          | (try first | ((with_reducible refine W_reg ?_ ?_); (· rfl)) | (with_reducible refine W_exit ?_) | (with_reducible refine W_ret ?_)); simp only [go_sem, Nat.reduceEqDiff, ↓reduceIte, reduceIte, Nat.reduceAdd, Nat.reduceMul, Nat.reduceSub, Nat.reduceLeDiff, Nat.reduceBEq, Nat.reduceBNe, Int.reduceNeg, Int.reduceLT, Int.reduceLE, Int.reduceAdd, Int.reduceSub, Int.reduceToNat, Int.reduceEq, Int.reduceBEq, reduceCtorEq, Int.reduceBNe])
        refine hK9 _ _ _ [.p (.int .i64 11), .p (.int .i64 1), .p (.int .i64 (100 + k)), .p (.int .i64 0), .p (.int .i64 ((j : Int) + 1)), .p (.int .i64 0), .p (.int .i64 0), .p (.slice none 0 0), .p (.bool true), .p (.int .i64 0), .p (.slice none 0 0), .imm true 1 [.p (.int .u8 9)], .p (.int .i64 0), .p (.int .i64 0), .p (.int .i64 0)] h0 h1 h6 h7 rfl rfl (by omega) ?_ ?_ ?_ rfl (by repeat (first | exact hle | refine HLe.fresh ?_ (hfr [_, _]) | refine HLe.fresh ?_ (hfr [_, _, _, _]))) (fun id b => (hc9 id b).weak (.cons (sub_refl _) (.cons (sub_agg (.cons (sub_refl _) (.cons (sub_refl _) (.cons (sub_refl _) (.cons (sub_refl _) (.cons (sub_refl _) (.cons (sub_refl _) (.cons (sub_refl _) (.cons (sub_refl _) (.cons (sub_refl _) (.cons (sub_refl _) (.cons (sub_refl _) (.cons (sub_imm (subL_refl _) (fun h => by cases h)) (.cons (sub_refl _) (.cons (sub_refl _) (.cons (sub_refl _) .nil)))))))))))))))) .nil)))
        · simp only [go_sem, Nat.reduceEqDiff, ↓reduceIte, reduceIte, Nat.reduceAdd, Nat.reduceMul, Nat.reduceSub, Nat.reduceLeDiff, Nat.reduceBEq, Nat.reduceBNe, Int.reduceNeg, Int.reduceLT, Int.reduceLE, Int.reduceAdd, Int.reduceSub, Int.reduceToNat, Int.reduceEq, Int.reduceBEq, reduceCtorEq, Int.reduceBNe]
        · simp only [go_sem, Nat.reduceEqDiff, ↓reduceIte, reduceIte, Nat.reduceAdd, Nat.reduceMul, Nat.reduceSub, Nat.reduceLeDiff, Nat.reduceBEq, Nat.reduceBNe, Int.reduceNeg, Int.reduceLT, Int.reduceLE, Int.reduceAdd, Int.reduceSub, Int.reduceToNat, Int.reduceEq, Int.reduceBEq, reduceCtorEq, Int.reduceBNe, goodM, Mg.enc]
          rfl
        · simp only [go_sem, Nat.reduceEqDiff, ↓reduceIte, reduceIte, Nat.reduceAdd, Nat.reduceMul, Nat.reduceSub, Nat.reduceLeDiff, Nat.reduceBEq, Nat.reduceBNe, Int.reduceNeg, Int.reduceLT, Int.reduceLE, Int.reduceAdd, Int.reduceSub, Int.reduceToNat, Int.reduceEq, Int.reduceBEq, reduceCtorEq, Int.reduceBNe]
    · have g2 : decide ((j : Int) < 20) = false := by simp; omega
      repeat (first
        | with_reducible refine W_seq fun K hK => ?_
        | (with_reducible refine hK _ ?_); clear hK K
        | (with_reducible refine W_skipK hK ?_); clear hK K
        | (with_reducible refine W_condT ?_ ?_); (· rfl)
        | (with_reducible refine W_condF ?_ ?_); (· rfl)
        | with_reducible refine W_block ?_
        | clear hK K; (with_reducible refine hK _ ?_); clear hK K
        | clear hK K; clear hK K; (with_reducible refine hK _ ?_); clear hK K
        | clear hK K; clear hK K; clear hK K; (with_reducible refine hK _ ?_); clear hK K
        | (with_reducible refine And.intro ?_ ?_); (· first | omega | decide)
        | (try first | ((with_reducible refine W_reg ?_ ?_); (· rfl)) | (with_reducible refine W_exit ?_) | (with_reducible refine W_ret ?_)); simp only [go_sem, Nat.reduceEqDiff, ↓reduceIte, reduceIte, Nat.reduceAdd, Nat.reduceMul, Nat.reduceSub, Nat.reduceLeDiff, Nat.reduceBEq, Nat.reduceBNe, Int.reduceNeg, Int.reduceLT, Int.reduceLE, Int.reduceAdd, Int.reduceSub, Int.reduceToNat, Int.reduceEq, Int.reduceBEq, reduceCtorEq, Int.reduceBNe, h0, h1, h6, h7, g1, g2])
      refine ends_ret ?_ (hle)
      simp only [go_sem, Nat.reduceEqDiff, ↓reduceIte, reduceIte, Nat.reduceAdd, Nat.reduceMul, Nat.reduceSub, Nat.reduceLeDiff, Nat.reduceBEq, Nat.reduceBNe, Int.reduceNeg, Int.reduceLT, Int.reduceLE, Int.reduceAdd, Int.reduceSub, Int.reduceToNat, Int.reduceEq, Int.reduceBEq, reduceCtorEq, Int.reduceBNe, Try.f4]
  · have g1 : decide ((j : Int) < ((sqL xs).length : Int)) = false := by simp; omega
    repeat (first
      | with_reducible refine W_seq fun K hK => ?_
      | (with_reducible refine hK _ ?_); clear hK K
      | (with_reducible refine W_skipK hK ?_); clear hK K
      | (with_reducible refine W_condT ?_ ?_); (· rfl)
      | (with_reducible refine W_condF ?_ ?_); (· rfl)
      | with_reducible refine W_block ?_
      | clear hK K; (with_reducible refine hK _ ?_); clear hK K
      | clear hK K; clear hK K; (with_reducible refine hK _ ?_); clear hK K
      | clear hK K; clear hK K; clear hK K; (with_reducible refine hK _ ?_); clear hK K
      | (with_reducible refine And.intro ?_ ?_); (· first | omega | decide)
      | (try first | ((with_reducible refine W_reg ?_ ?_); (· rfl)) | (with_reducible refine W_exit ?_) | (with_reducible refine W_ret ?_)); simp only [go_sem, Nat.reduceEqDiff, ↓reduceIte, reduceIte, Nat.reduceAdd, Nat.reduceMul, Nat.reduceSub, Nat.reduceLeDiff, Nat.reduceBEq, Nat.reduceBNe, Int.reduceNeg, Int.reduceLT, Int.reduceLE, Int.reduceAdd, Int.reduceSub, Int.reduceToNat, Int.reduceEq, Int.reduceBEq, reduceCtorEq, Int.reduceBNe, h0, h1, h6, h7, g1])
    refine ends_ret ?_ (hle)
    simp only [go_sem, Nat.reduceEqDiff, ↓reduceIte, reduceIte, Nat.reduceAdd, Nat.reduceMul, Nat.reduceSub, Nat.reduceLeDiff, Nat.reduceBEq, Nat.reduceBNe, Int.reduceNeg, Int.reduceLT, Int.reduceLE, Int.reduceAdd, Int.reduceSub, Int.reduceToNat, Int.reduceEq, Int.reduceBEq, reduceCtorEq, Int.reduceBNe, Try.f4]
end Go.Proofs.Ytmpndjpaelcnkaa
