/- A number is read. -/
import Derived.Test.YtmpndjpaelcnkaaB3
set_option linter.unusedVariables false
set_option linter.unusedSimpArgs false
namespace Go.Proofs.Ytmpndjpaelcnkaa
open Go Go.SX

theorem rdF_more {l : List UInt8} {i u : Nat} (hi : i < l.length) (h10 : i < 10) (hc : 128 ≤ l[i].toNat) : rdF i u (l.drop i) = rdF (i + 1) (u + l[i].toNat % 128 * 128 ^ i) (l.drop (i + 1)) := by
  rw [List.drop_eq_getElem_cons hi]
  simp only [rdF]
  rw [if_neg (by omega), if_pos hc]
theorem rdF_bad {l : List UInt8} {i u : Nat} (hi : i < l.length) (hc : l[i].toNat < 128) (hb : (0 < i ∧ l[i].toNat = 0) ∨ (i = 9 ∧ 1 < l[i].toNat)) : rdF i u (l.drop i) = none := by
  rw [List.drop_eq_getElem_cons hi]
  unfold rdF
  by_cases h : 10 ≤ i
  · rw [if_pos h]
  · rw [if_neg h, if_neg (by omega), if_pos hb]
theorem rdF_good {l : List UInt8} {i u : Nat} (hi : i < l.length) (h10 : i < 10) (hc : l[i].toNat < 128) (hb : ¬ ((0 < i ∧ l[i].toNat = 0) ∨ (i = 9 ∧ 1 < l[i].toNat))) : rdF i u (l.drop i) = some (u + l[i].toNat * 128 ^ i, l.drop (i + 1)) := by
  rw [List.drop_eq_getElem_cons hi]
  simp only [rdF]
  rw [if_neg (by omega), if_neg (by omega), if_neg hb]
theorem rdF_end {l : List UInt8} {i u : Nat} (h : l.length ≤ i ∨ 10 ≤ i) : rdF i u (l.drop i) = none := by
  cases hd : l.drop i with
  | nil => rfl
  | cons c r =>
    have : i < l.length := by
      have := congrArg List.length hd; simp at this; omega
    simp only [rdF]
    rw [if_pos (by omega)]
theorem p128 (i : Nat) : (128 : Nat) ^ i = 2 ^ (7 * i) := by rw [show (128 : Nat) = 2 ^ 7 by decide, ← Nat.pow_mul]

set_option maxRecDepth 8000 in
set_option maxHeartbeats 1000000 in
theorem rnum_ok (id b : BId) (s : Rd) (hn : (sqL s.o).length ≤ 1000000000) : CallF Try.prog 74 [.ptr b 0] id [(b, .cells 166 s.enc)] (.p (.int .i64 s.num.1)) [(b, some (.cells 166 s.num.2.enc))] := by
  refine ⟨⟨_, Try.func74, by decide, rfl⟩, (by simp <;> repeat first | exact ⟨[_, _], rfl⟩ | constructor), fun h hr => callsA_of_W Try.func74 rfl fun hfr => ?_⟩
  have hb := hr.1; simp only [Rd.enc] at hb
  generalize hl : sqL s.o = l at *
  repeat (first
    | with_reducible refine W_seq fun K hK => ?_
    | (with_reducible refine hK _ ?_); clear hK K
    | (with_reducible refine W_skipK hK ?_); clear hK K
    | (with_reducible refine W_condT ?_ ?_); (· rfl)
    | (with_reducible refine W_condF ?_ ?_); (· rfl)
    | with_reducible refine W_block ?_
    | clear hK K; (with_reducible refine hK _ ?_); clear hK K
    | clear hK K; clear hK K; (with_reducible refine hK _ ?_); clear hK K
    | clear hK K; clear hK K; clear hK K; (with_reducible refine hK _ ?_); clear hK K
    | (with_reducible refine And.intro ?_ ?_); (· first | omega | decide)
    | (try first | ((with_reducible refine W_reg ?_ ?_); (· rfl)) | (with_reducible refine W_exit ?_) | (with_reducible refine W_ret ?_)); simp only [go_sem, Nat.reduceEqDiff, ↓reduceIte, reduceIte, Nat.reduceAdd, Nat.reduceMul, Nat.reduceSub, Nat.reduceLeDiff, Nat.reduceBEq, Nat.reduceBNe, Int.reduceNeg, Int.reduceLT, Int.reduceLE, Int.reduceAdd, Int.reduceSub, Int.reduceToNat, Int.reduceEq, Int.reduceBEq, reduceCtorEq, Int.reduceBNe, hb])
  refine W_drw [[], [0], [0, 1], [0, 1, 2], [], [4], [4, 5], [4, 5, 6], [4, 5, 6, 7], [4, 5, 6, 7, 8], [0, 1, 2, 3, 4, 5, 6, 7, 8, 9], [0, 1, 2, 3, 4, 5, 6, 7, 8, 9, 10], []] follows_mixed (by rfl) (by rfl) ?_
  repeat (first
    | with_reducible refine W_seq fun K hK => ?_
    | (with_reducible refine hK _ ?_); clear hK K
    | (with_reducible refine W_skipK hK ?_); clear hK K
    | (with_reducible refine W_condT ?_ ?_); (· rfl)
    | (with_reducible refine W_condF ?_ ?_); (· rfl)
    | with_reducible refine W_block ?_
    | clear hK K; (with_reducible refine hK _ ?_); clear hK K
    | clear hK K; clear hK K; (with_reducible refine hK _ ?_); clear hK K
    | clear hK K; clear hK K; clear hK K; (with_reducible refine hK _ ?_); clear hK K
    | (with_reducible refine And.intro ?_ ?_); (· first | omega | decide)
    | (try first | ((with_reducible refine W_reg ?_ ?_); (· rfl)) | (with_reducible refine W_exit ?_) | (with_reducible refine W_ret ?_)); simp only [go_sem, Nat.reduceEqDiff, ↓reduceIte, reduceIte, Nat.reduceAdd, Nat.reduceMul, Nat.reduceSub, Nat.reduceLeDiff, Nat.reduceBEq, Nat.reduceBNe, Int.reduceNeg, Int.reduceLT, Int.reduceLE, Int.reduceAdd, Int.reduceSub, Int.reduceToNat, Int.reduceEq, Int.reduceBEq, reduceCtorEq, Int.reduceBNe, hb, hl])
  generalize hk : min l.length 10 = k at *
  have hmin : (if decide ((10 : Int) < (l.length : Int)) = true then (10 : Int) else (l.length : Int)) = ((k : Nat) : Int) := by simp only [decide_eq_true_eq]; split <;> omega
  rw [hmin]
  refine sliceW_sq 0 k ty24.2.2.2.1 ty5.2.1 bE_len rfl rfl (by omega) (by rw [hl]; omega) ?_
  have hl2 : sqL (s.o.map fun x => (x.drop 0).take (k - 0)) = l.take k := by rw [sqL_map _ _ (by simp), hl]; simp
  have hkl : (l.take k).length = k := by simp; omega
  generalize (s.o.map fun x => (x.drop 0).take (k - 0)) = o2 at *
  repeat (first
    | with_reducible refine W_seq fun K hK => ?_
    | (with_reducible refine hK _ ?_); clear hK K
    | (with_reducible refine W_skipK hK ?_); clear hK K
    | (with_reducible refine W_condT ?_ ?_); (· rfl)
    | (with_reducible refine W_condF ?_ ?_); (· rfl)
    | with_reducible refine W_block ?_
    | clear hK K; (with_reducible refine hK _ ?_); clear hK K
    | clear hK K; clear hK K; (with_reducible refine hK _ ?_); clear hK K
    | clear hK K; clear hK K; clear hK K; (with_reducible refine hK _ ?_); clear hK K
    | (with_reducible refine And.intro ?_ ?_); (· first | omega | decide)
    | (try first | ((with_reducible refine W_reg ?_ ?_); (· rfl)) | (with_reducible refine W_exit ?_) | (with_reducible refine W_ret ?_)); simp only [go_sem, Nat.reduceEqDiff, ↓reduceIte, reduceIte, Nat.reduceAdd, Nat.reduceMul, Nat.reduceSub, Nat.reduceLeDiff, Nat.reduceBEq, Nat.reduceBNe, Int.reduceNeg, Int.reduceLT, Int.reduceLE, Int.reduceAdd, Int.reduceSub, Int.reduceToNat, Int.reduceEq, Int.reduceBEq, reduceCtorEq, Int.reduceBNe, hl2, hkl])
  refine W_loop ?_
  refine WL_nat (P := Try.prog) (fun m q => ∃ (i u : Nat) (u' : Int), m = k - i ∧ i ≤ k ∧ rdF 0 0 l = rdF i u (l.drop i) ∧ (i ≤ 9 → u' = u ∧ u < 128 ^ i) ∧ q.tm 0 = .ptr b 0 ∧ q.tm 3 = .p (.int .u64 u') ∧ q.tm 18 = sq bE o2 ∧ q.tm 19 = .p (.int .i64 k) ∧ q.tm 20 = .p (.int .i64 i) ∧ q.h = h)
    (fun m q hI => ?_) _ _ ⟨0, 0, 0, rfl, by omega, rfl, fun _ => ⟨rfl, by decide⟩, rfl, rfl, rfl, rfl, rfl, rfl⟩
  obtain ⟨i, u, u', rfl, hi, hrd, hu, h0, h3, h18, h19, h20, hh⟩ := hI
  obtain ⟨tm, hc, tt⟩ := q
  simp only at h0 h3 h18 h19 h20 hh
  subst hh
  have hfail : rdF 0 0 l = none → ∀ (tm' : Nat → AV) (t' : Nat), tm' 0 = .ptr b 0 → K ⟨tm', hc, t'⟩ := by
    intro hf tm' t' q0
    have hnum : s.num = (0, ⟨none, true⟩) := by unfold Rd.num rdN; rw [hl, hf]; rfl
    rw [hnum] at hK
    refine hK _ ?_
    repeat (first
      | with_reducible refine W_seq fun K hK => ?_
      | (with_reducible refine hK _ ?_); clear hK K
      | (with_reducible refine W_skipK hK ?_); clear hK K
      | (with_reducible refine W_condT ?_ ?_); (· rfl)
      | (with_reducible refine W_condF ?_ ?_); (· rfl)
      | with_reducible refine W_block ?_
      | clear hK K; (with_reducible refine hK _ ?_); clear hK K
      | clear hK K; clear hK K; (with_reducible refine hK _ ?_); clear hK K
      | clear hK K; clear hK K; clear hK K; (with_reducible refine hK _ ?_); clear hK K
      | (with_reducible refine And.intro ?_ ?_); (· first | omega | decide)
      | (try first | ((with_reducible refine W_reg ?_ ?_); (· rfl)) | (with_reducible refine W_exit ?_) | (with_reducible refine W_ret ?_)); simp only [go_sem, Nat.reduceEqDiff, ↓reduceIte, reduceIte, Nat.reduceAdd, Nat.reduceMul, Nat.reduceSub, Nat.reduceLeDiff, Nat.reduceBEq, Nat.reduceBNe, Int.reduceNeg, Int.reduceLT, Int.reduceLE, Int.reduceAdd, Int.reduceSub, Int.reduceToNat, Int.reduceEq, Int.reduceBEq, reduceCtorEq, Int.reduceBNe, q0])
    refine stop_call (fail_ok _ b s) ?_ ?_
    · first | trivial | (simp only [go_sem, Nat.reduceEqDiff, ↓reduceIte, reduceIte, Nat.reduceAdd, Nat.reduceMul, Nat.reduceSub, Nat.reduceLeDiff, Nat.reduceBEq, Nat.reduceBNe, Int.reduceNeg, Int.reduceLT, Int.reduceLE, Int.reduceAdd, Int.reduceSub, Int.reduceToNat, Int.reduceEq, Int.reduceBEq, reduceCtorEq, Int.reduceBNe, hb, Rd.enc]; done)
    repeat (first
      | with_reducible refine W_seq fun K hK => ?_
      | (with_reducible refine hK _ ?_); clear hK K
      | (with_reducible refine W_skipK hK ?_); clear hK K
      | (with_reducible refine W_condT ?_ ?_); (· rfl)
      | (with_reducible refine W_condF ?_ ?_); (· rfl)
      | with_reducible refine W_block ?_
      | clear hK K; (with_reducible refine hK _ ?_); clear hK K
      | clear hK K; clear hK K; (with_reducible refine hK _ ?_); clear hK K
      | clear hK K; clear hK K; clear hK K; (with_reducible refine hK _ ?_); clear hK K
      | (with_reducible refine And.intro ?_ ?_); (· first | omega | decide)
      | (try first | ((with_reducible refine W_reg ?_ ?_); (· rfl)) | (with_reducible refine W_exit ?_) | (with_reducible refine W_ret ?_)); simp only [go_sem, Nat.reduceEqDiff, ↓reduceIte, reduceIte, Nat.reduceAdd, Nat.reduceMul, Nat.reduceSub, Nat.reduceLeDiff, Nat.reduceBEq, Nat.reduceBNe, Int.reduceNeg, Int.reduceLT, Int.reduceLE, Int.reduceAdd, Int.reduceSub, Int.reduceToNat, Int.reduceEq, Int.reduceBEq, reduceCtorEq, Int.reduceBNe])
    refine ends_ret ?_ ((HLe.refl _))
    simp only [go_sem, Nat.reduceEqDiff, ↓reduceIte, reduceIte, Nat.reduceAdd, Nat.reduceMul, Nat.reduceSub, Nat.reduceLeDiff, Nat.reduceBEq, Nat.reduceBNe, Int.reduceNeg, Int.reduceLT, Int.reduceLE, Int.reduceAdd, Int.reduceSub, Int.reduceToNat, Int.reduceEq, Int.reduceBEq, reduceCtorEq, Int.reduceBNe, Try.f74]
  by_cases c1 : i < k
  · have hil : i < l.length := by omega
    have h10 : i < 10 := by omega
    have g1 : decide ((i : Int) < (k : Int)) = true := by simp; omega
    obtain ⟨hu1, hu2⟩ := hu (by omega)
    subst hu1
    have hx : ((l.take k).flatMap bE).drop i = bE l[i] ++ ((l.take k).drop (i + 1)).flatMap bE := by
      have := flatMap_at bE_len (l.take k) i (by omega)
      rw [Nat.mul_one] at this
      rw [this]; simp
    have hmore := rdF_more (u := u) hil h10
    have hbad := rdF_bad (u := u) hil
    have hgood := rdF_good (u := u) hil h10
    generalize l[i] = c at *
    have hclt := c.toNat_lt
    have a1 := andI127 c
    have a2 : IntKind.u64.wrap ((c.toNat % 128 : Nat) : Int) = ((c.toNat % 128 : Nat) : Int) := wrap_u64 (by omega)
    have a3 : IntKind.i64.wrap (7 * (i : Int)) = ((7 * i : Nat) : Int) := by rw [wrap_i64 (by omega)]; omega
    have e6 : IntKind.i64.wrap ((i : Int) + 1) = ((i + 1 : Nat) : Int) := by rw [wrap_i64 (by omega)]; omega
    -- the value, where it counts
    have hval : (i ≤ 8 ∨ c.toNat ≤ 1) → orI .u64 (u : Int) (shlI .u64 ((c.toNat % 128 : Nat) : Int) ((7 * i : Nat) : Int)) = ((u + c.toNat % 128 * 128 ^ i : Nat) : Int) ∧ u + c.toNat % 128 * 128 ^ i < 18446744073709551616 ∧ (i ≤ 8 → u + c.toNat % 128 * 128 ^ i < 128 ^ (i + 1)) := by
      intro hcase
      have hm : c.toNat % 128 * 128 ^ i ≤ 127 * 128 ^ i := Nat.mul_le_mul_right _ (by omega)
      have hlt : u + c.toNat % 128 * 128 ^ i < 18446744073709551616 := by
        rcases hcase with h8 | h1
        · have : 128 ^ i ≤ 128 ^ 8 := Nat.pow_le_pow_right (by decide) h8
          omega
        · have h9 : 128 ^ i ≤ 128 ^ 9 := Nat.pow_le_pow_right (by decide) (by omega)
          have : c.toNat % 128 * 128 ^ i ≤ 1 * 128 ^ i := Nat.mul_le_mul_right _ (by omega)
          omega
      rw [p128] at hlt hu2 ⊢
      refine ⟨?_, hlt, fun h8 => ?_⟩
      · rw [shlI64 (by omega) (by omega), orI64 hu2 hlt]
      · rw [← p128] at hu2 ⊢
        rw [Nat.pow_succ]; omega
    generalize hv : orI .u64 (u : Int) (shlI .u64 ((c.toNat % 128 : Nat) : Int) ((7 * i : Nat) : Int)) = v at *
    by_cases c2 : 128 ≤ c.toNat
    · have g2 : decide ((c.toNat : Int) > 127) = true := by simp; omega
      repeat (first
        | with_reducible refine W_seq fun K hK => ?_
        | (with_reducible refine hK _ ?_); clear hK K
        | (with_reducible refine W_skipK hK ?_); clear hK K
        | (with_reducible refine W_condT ?_ ?_); (· rfl)
        | (with_reducible refine W_condF ?_ ?_); (· rfl)
        | with_reducible refine W_block ?_
        | clear hK K; (with_reducible refine hK _ ?_); clear hK K
        | clear hK K; clear hK K; (with_reducible refine hK _ ?_); clear hK K
        | clear hK K; clear hK K; clear hK K; (with_reducible refine hK _ ?_); clear hK K
        | (with_reducible refine And.intro ?_ ?_); (· first | omega | decide)
        | (try first | ((with_reducible refine W_reg ?_ ?_); (· rfl)) | (with_reducible refine W_exit ?_) | (with_reducible refine W_ret ?_)); simp only [go_sem, Nat.reduceEqDiff, ↓reduceIte, reduceIte, Nat.reduceAdd, Nat.reduceMul, Nat.reduceSub, Nat.reduceLeDiff, Nat.reduceBEq, Nat.reduceBNe, Int.reduceNeg, Int.reduceLT, Int.reduceLE, Int.reduceAdd, Int.reduceSub, Int.reduceToNat, Int.reduceEq, Int.reduceBEq, reduceCtorEq, Int.reduceBNe, h0, h3, h18, h19, h20, g1, hl2, hkl, hx, bE, u8A, a1, a2, a3, hv, g2, e6])
      refine ⟨_, ?_, i + 1, u + c.toNat % 128 * 128 ^ i, v, rfl, by omega, by rw [hrd, hmore c2], fun h9 => ?_, rfl, rfl⟩
      · omega
      · obtain ⟨q1, q2, q3⟩ := hval (.inl (by omega))
        exact ⟨q1, q3 (by omega)⟩
    · have g2 : decide ((c.toNat : Int) > 127) = false := by simp; omega
      by_cases c3 : 0 < i
      · have g3 : decide ((i : Int) > 0) = true := by simp; omega
        by_cases c4 : c.toNat = 0
        · have g4 : ((c.toNat : Int) == 0) = true := by simp; omega
          have hnone : rdF 0 0 l = none := by rw [hrd]; exact hbad (by omega) (.inl ⟨c3, c4⟩)
          repeat (first
            | with_reducible refine W_seq fun K hK => ?_
            | (with_reducible refine hK _ ?_); clear hK K
            | (with_reducible refine W_skipK hK ?_); clear hK K
            | (with_reducible refine W_condT ?_ ?_); (· rfl)
            | (with_reducible refine W_condF ?_ ?_); (· rfl)
            | with_reducible refine W_block ?_
            | clear hK K; (with_reducible refine hK _ ?_); clear hK K
            | clear hK K; clear hK K; (with_reducible refine hK _ ?_); clear hK K
            | clear hK K; clear hK K; clear hK K; (with_reducible refine hK _ ?_); clear hK K
            | (with_reducible refine And.intro ?_ ?_); (· first | omega | decide)
            | (try first | ((with_reducible refine W_reg ?_ ?_); (· rfl)) | (with_reducible refine W_exit ?_) | (with_reducible refine W_ret ?_)); simp only [go_sem, Nat.reduceEqDiff, ↓reduceIte, reduceIte, Nat.reduceAdd, Nat.reduceMul, Nat.reduceSub, Nat.reduceLeDiff, Nat.reduceBEq, Nat.reduceBNe, Int.reduceNeg, Int.reduceLT, Int.reduceLE, Int.reduceAdd, Int.reduceSub, Int.reduceToNat, Int.reduceEq, Int.reduceBEq, reduceCtorEq, Int.reduceBNe, h0, h3, h18, h19, h20, g1, hl2, hkl, hx, bE, u8A, a1, a2, a3, hv, g2, e6, g3, g4])
          exact hfail hnone _ _ h0
        · have g4 : ((c.toNat : Int) == 0) = false := by simp; omega
          by_cases c5 : i = 9
          · have g5 : ((i : Int) == 9) = true := by simp; omega
            by_cases c6 : 1 < c.toNat
            · have g6 : decide ((c.toNat : Int) > 1) = true := by simp; omega
              have hnone : rdF 0 0 l = none := by rw [hrd]; exact hbad (by omega) (.inr ⟨c5, c6⟩)
              repeat (first
                | with_reducible refine W_seq fun K hK => ?_
                | (with_reducible refine hK _ ?_); clear hK K
                | (with_reducible refine W_skipK hK ?_); clear hK K
                | (with_reducible refine W_condT ?_ ?_); (· rfl)
                | (with_reducible refine W_condF ?_ ?_); (· rfl)
                | with_reducible refine W_block ?_
                | clear hK K; (with_reducible refine hK _ ?_); clear hK K
                | clear hK K; clear hK K; (with_reducible refine hK _ ?_); clear hK K
                | clear hK K; clear hK K; clear hK K; (with_reducible refine hK _ ?_); clear hK K
                | (with_reducible refine And.intro ?_ ?_); (· first | omega | decide)
                | (try first | ((with_reducible refine W_reg ?_ ?_); (· rfl)) | (with_reducible refine W_exit ?_) | (with_reducible refine W_ret ?_)); simp only [go_sem, Nat.reduceEqDiff, ↓reduceIte, reduceIte, Nat.reduceAdd, Nat.reduceMul, Nat.reduceSub, Nat.reduceLeDiff, Nat.reduceBEq, Nat.reduceBNe, Int.reduceNeg, Int.reduceLT, Int.reduceLE, Int.reduceAdd, Int.reduceSub, Int.reduceToNat, Int.reduceEq, Int.reduceBEq, reduceCtorEq, Int.reduceBNe, h0, h3, h18, h19, h20, g1, hl2, hkl, hx, bE, u8A, a1, a2, a3, hv, g2, e6, g3, g4, g5, g6])
              exact hfail hnone _ _ h0
            · have g6 : decide ((c.toNat : Int) > 1) = false := by simp; omega
              obtain ⟨q1, q2, q3⟩ := hval (.inr (by omega))
              have hr := hgood (by omega) (by omega)
              have hcc : c.toNat % 128 = c.toNat := by omega
              rw [hcc] at q1 q2
              generalize u + c.toNat * 128 ^ i = w at *
              have hnum : s.num = (unzig w, ⟨some (l.drop (i + 1)), s.bad⟩) := by unfold Rd.num rdN; rw [hl, hrd, hr]; rfl
              have k1 := @shrI1 w
              have k2 : IntKind.i64.wrap ((w / 2 : Nat) : Int) = ((w / 2 : Nat) : Int) := wrap_i64 (by omega)
              have k3 := andI1 q2
              have k4 : IntKind.i64.wrap ((w % 2 : Nat) : Int) = ((w % 2 : Nat) : Int) := wrap_i64 (by omega)
              have k5 := xorUnzig q2
              subst q1
              repeat (first
                | with_reducible refine W_seq fun K hK => ?_
                | (with_reducible refine hK _ ?_); clear hK K
                | (with_reducible refine W_skipK hK ?_); clear hK K
                | (with_reducible refine W_condT ?_ ?_); (· rfl)
                | (with_reducible refine W_condF ?_ ?_); (· rfl)
                | with_reducible refine W_block ?_
                | clear hK K; (with_reducible refine hK _ ?_); clear hK K
                | clear hK K; clear hK K; (with_reducible refine hK _ ?_); clear hK K
                | clear hK K; clear hK K; clear hK K; (with_reducible refine hK _ ?_); clear hK K
                | (with_reducible refine And.intro ?_ ?_); (· first | omega | decide)
                | (try first | ((with_reducible refine W_reg ?_ ?_); (· rfl)) | (with_reducible refine W_exit ?_) | (with_reducible refine W_ret ?_)); simp only [go_sem, Nat.reduceEqDiff, ↓reduceIte, reduceIte, Nat.reduceAdd, Nat.reduceMul, Nat.reduceSub, Nat.reduceLeDiff, Nat.reduceBEq, Nat.reduceBNe, Int.reduceNeg, Int.reduceLT, Int.reduceLE, Int.reduceAdd, Int.reduceSub, Int.reduceToNat, Int.reduceEq, Int.reduceBEq, reduceCtorEq, Int.reduceBNe, h0, h3, h18, h19, h20, g1, hl2, hkl, hx, bE, u8A, a1, a2, a3, hv, g2, e6, g3, g4, g5, g6, hb, hl, k1, k2, k3, k4, k5])
              refine sliceW_sq (i + 1) l.length ty24.2.2.2.1 ty5.2.1 bE_len (by simp only [bndA]) (by rw [hl]; rfl) (by omega) (by rw [hl]; exact Nat.le_refl _) ?_
              have ho3 : (s.o.map fun x => (x.drop (i + 1)).take (l.length - (i + 1))) = some (l.drop (i + 1)) := by
                cases hso : s.o with
                | none => rw [hso] at hl; simp [sqL] at hl; subst hl; simp at hil
                | some z => rw [hso] at hl; simp only [sqL] at hl; subst hl; simp only [Option.map_some]; rw [List.take_of_length_le (by simp)]
              rw [ho3]
              repeat (first
                | with_reducible refine W_seq fun K hK => ?_
                | (with_reducible refine hK _ ?_); clear hK K
                | (with_reducible refine W_skipK hK ?_); clear hK K
                | (with_reducible refine W_condT ?_ ?_); (· rfl)
                | (with_reducible refine W_condF ?_ ?_); (· rfl)
                | with_reducible refine W_block ?_
                | clear hK K; (with_reducible refine hK _ ?_); clear hK K
                | clear hK K; clear hK K; (with_reducible refine hK _ ?_); clear hK K
                | clear hK K; clear hK K; clear hK K; (with_reducible refine hK _ ?_); clear hK K
                | (with_reducible refine And.intro ?_ ?_); (· first | omega | decide)
                | (try first | ((with_reducible refine W_reg ?_ ?_); (· rfl)) | (with_reducible refine W_exit ?_) | (with_reducible refine W_ret ?_)); simp only [go_sem, Nat.reduceEqDiff, ↓reduceIte, reduceIte, Nat.reduceAdd, Nat.reduceMul, Nat.reduceSub, Nat.reduceLeDiff, Nat.reduceBEq, Nat.reduceBNe, Int.reduceNeg, Int.reduceLT, Int.reduceLE, Int.reduceAdd, Int.reduceSub, Int.reduceToNat, Int.reduceEq, Int.reduceBEq, reduceCtorEq, Int.reduceBNe, hb, k1, k2, k3, k4, k5])
              rw [hnum]
              refine ends_ret ?_ (hle_set1 (by simp only [go_sem, Nat.reduceEqDiff, ↓reduceIte, reduceIte, Nat.reduceAdd, Nat.reduceMul, Nat.reduceSub, Nat.reduceLeDiff, Nat.reduceBEq, Nat.reduceBNe, Int.reduceNeg, Int.reduceLT, Int.reduceLE, Int.reduceAdd, Int.reduceSub, Int.reduceToNat, Int.reduceEq, Int.reduceBEq, reduceCtorEq, Int.reduceBNe, Rd.enc]) (fun c hc hn => by simp only [go_sem, Nat.reduceEqDiff, ↓reduceIte, reduceIte, Nat.reduceAdd, Nat.reduceMul, Nat.reduceSub, Nat.reduceLeDiff, Nat.reduceBEq, Nat.reduceBNe, Int.reduceNeg, Int.reduceLT, Int.reduceLE, Int.reduceAdd, Int.reduceSub, Int.reduceToNat, Int.reduceEq, Int.reduceBEq, reduceCtorEq, Int.reduceBNe, hc]))
              simp only [go_sem, Nat.reduceEqDiff, ↓reduceIte, reduceIte, Nat.reduceAdd, Nat.reduceMul, Nat.reduceSub, Nat.reduceLeDiff, Nat.reduceBEq, Nat.reduceBNe, Int.reduceNeg, Int.reduceLT, Int.reduceLE, Int.reduceAdd, Int.reduceSub, Int.reduceToNat, Int.reduceEq, Int.reduceBEq, reduceCtorEq, Int.reduceBNe, Try.f74, Rd.enc]
          · have g5 : ((i : Int) == 9) = false := by simp; omega
            obtain ⟨q1, q2, q3⟩ := hval (.inl (by omega))
            have hr := hgood (by omega) (by omega)
            have hcc : c.toNat % 128 = c.toNat := by omega
            rw [hcc] at q1 q2
            generalize u + c.toNat * 128 ^ i = w at *
            have hnum : s.num = (unzig w, ⟨some (l.drop (i + 1)), s.bad⟩) := by unfold Rd.num rdN; rw [hl, hrd, hr]; rfl
            have k1 := @shrI1 w
            have k2 : IntKind.i64.wrap ((w / 2 : Nat) : Int) = ((w / 2 : Nat) : Int) := wrap_i64 (by omega)
            have k3 := andI1 q2
            have k4 : IntKind.i64.wrap ((w % 2 : Nat) : Int) = ((w % 2 : Nat) : Int) := wrap_i64 (by omega)
            have k5 := xorUnzig q2
            subst q1
            repeat (first
              | with_reducible refine W_seq fun K hK => ?_
              | (with_reducible refine hK _ ?_); clear hK K
              | (with_reducible refine W_skipK hK ?_); clear hK K
              | (with_reducible refine W_condT ?_ ?_); (· rfl)
              | (with_reducible refine W_condF ?_ ?_); (· rfl)
              | with_reducible refine W_block ?_
              | clear hK K; (with_reducible refine hK _ ?_); clear hK K
              | clear hK K; clear hK K; (with_reducible refine hK _ ?_); clear hK K
              | clear hK K; clear hK K; clear hK K; (with_reducible refine hK _ ?_); clear hK K
              | (with_reducible refine And.intro ?_ ?_); (· first | omega | decide)
              | (try first | ((with_reducible refine W_reg ?_ ?_); (· rfl)) | (with_reducible refine W_exit ?_) | (with_reducible refine W_ret ?_)); simp only [go_sem, Nat.reduceEqDiff, ↓reduceIte, reduceIte, Nat.reduceAdd, Nat.reduceMul, Nat.reduceSub, Nat.reduceLeDiff, Nat.reduceBEq, Nat.reduceBNe, Int.reduceNeg, Int.reduceLT, Int.reduceLE, Int.reduceAdd, Int.reduceSub, Int.reduceToNat, Int.reduceEq, Int.reduceBEq, reduceCtorEq, Int.reduceBNe, h0, h3, h18, h19, h20, g1, hl2, hkl, hx, bE, u8A, a1, a2, a3, hv, g2, e6, g3, g4, g5, hb, hl, k1, k2, k3, k4, k5])
            refine sliceW_sq (i + 1) l.length ty24.2.2.2.1 ty5.2.1 bE_len (by simp only [bndA]) (by rw [hl]; rfl) (by omega) (by rw [hl]; exact Nat.le_refl _) ?_
            have ho3 : (s.o.map fun x => (x.drop (i + 1)).take (l.length - (i + 1))) = some (l.drop (i + 1)) := by
              cases hso : s.o with
              | none => rw [hso] at hl; simp [sqL] at hl; subst hl; simp at hil
              | some z => rw [hso] at hl; simp only [sqL] at hl; subst hl; simp only [Option.map_some]; rw [List.take_of_length_le (by simp)]
            rw [ho3]
            repeat (first
              | with_reducible refine W_seq fun K hK => ?_
              | (with_reducible refine hK _ ?_); clear hK K
              | (with_reducible refine W_skipK hK ?_); clear hK K
              | (with_reducible refine W_condT ?_ ?_); (· rfl)
              | (with_reducible refine W_condF ?_ ?_); (· rfl)
              | with_reducible refine W_block ?_
              | clear hK K; (with_reducible refine hK _ ?_); clear hK K
              | clear hK K; clear hK K; (with_reducible refine hK _ ?_); clear hK K
              | clear hK K; clear hK K; clear hK K; (with_reducible refine hK _ ?_); clear hK K
              | (with_reducible refine And.intro ?_ ?_); (· first | omega | decide)
              | (try first | ((with_reducible refine W_reg ?_ ?_); (· rfl)) | (with_reducible refine W_exit ?_) | (with_reducible refine W_ret ?_)); simp only [go_sem, Nat.reduceEqDiff, ↓reduceIte, reduceIte, Nat.reduceAdd, Nat.reduceMul, Nat.reduceSub, Nat.reduceLeDiff, Nat.reduceBEq, Nat.reduceBNe, Int.reduceNeg, Int.reduceLT, Int.reduceLE, Int.reduceAdd, Int.reduceSub, Int.reduceToNat, Int.reduceEq, Int.reduceBEq, reduceCtorEq, Int.reduceBNe, hb, k1, k2, k3, k4, k5])
            rw [hnum]
            refine ends_ret ?_ (hle_set1 (by simp only [go_sem, Nat.reduceEqDiff, ↓reduceIte, reduceIte, Nat.reduceAdd, Nat.reduceMul, Nat.reduceSub, Nat.reduceLeDiff, Nat.reduceBEq, Nat.reduceBNe, Int.reduceNeg, Int.reduceLT, Int.reduceLE, Int.reduceAdd, Int.reduceSub, Int.reduceToNat, Int.reduceEq, Int.reduceBEq, reduceCtorEq, Int.reduceBNe, Rd.enc]) (fun c hc hn => by simp only [go_sem, Nat.reduceEqDiff, ↓reduceIte, reduceIte, Nat.reduceAdd, Nat.reduceMul, Nat.reduceSub, Nat.reduceLeDiff, Nat.reduceBEq, Nat.reduceBNe, Int.reduceNeg, Int.reduceLT, Int.reduceLE, Int.reduceAdd, Int.reduceSub, Int.reduceToNat, Int.reduceEq, Int.reduceBEq, reduceCtorEq, Int.reduceBNe, hc]))
            simp only [go_sem, Nat.reduceEqDiff, ↓reduceIte, reduceIte, Nat.reduceAdd, Nat.reduceMul, Nat.reduceSub, Nat.reduceLeDiff, Nat.reduceBEq, Nat.reduceBNe, Int.reduceNeg, Int.reduceLT, Int.reduceLE, Int.reduceAdd, Int.reduceSub, Int.reduceToNat, Int.reduceEq, Int.reduceBEq, reduceCtorEq, Int.reduceBNe, Try.f74, Rd.enc]
      · have g3 : decide ((i : Int) > 0) = false := by simp; omega
        have g5 : ((i : Int) == 9) = false := by simp; omega
        obtain ⟨q1, q2, q3⟩ := hval (.inl (by omega))
        have hr := hgood (by omega) (by omega)
        have hcc : c.toNat % 128 = c.toNat := by omega
        rw [hcc] at q1 q2
        generalize u + c.toNat * 128 ^ i = w at *
        have hnum : s.num = (unzig w, ⟨some (l.drop (i + 1)), s.bad⟩) := by unfold Rd.num rdN; rw [hl, hrd, hr]; rfl
        have k1 := @shrI1 w
        have k2 : IntKind.i64.wrap ((w / 2 : Nat) : Int) = ((w / 2 : Nat) : Int) := wrap_i64 (by omega)
        have k3 := andI1 q2
        have k4 : IntKind.i64.wrap ((w % 2 : Nat) : Int) = ((w % 2 : Nat) : Int) := wrap_i64 (by omega)
        have k5 := xorUnzig q2
        subst q1
        repeat (first
          | with_reducible refine W_seq fun K hK => ?_
          | (with_reducible refine hK _ ?_); clear hK K
          | (with_reducible refine W_skipK hK ?_); clear hK K
          | (with_reducible refine W_condT ?_ ?_); (· rfl)
          | (with_reducible refine W_condF ?_ ?_); (· rfl)
          | with_reducible refine W_block ?_
          | clear hK K; (with_reducible refine hK _ ?_); clear hK K
          | clear hK K; clear hK K; (with_reducible refine hK _ ?_); clear hK K
          | clear hK K; clear hK K; clear hK K; (with_reducible refine hK _ ?_); clear hK K
          | (with_reducible refine And.intro ?_ ?_); (· first | omega | decide)
          | (try first | ((with_reducible refine W_reg ?_ ?_); (· rfl)) | (with_reducible refine W_exit ?_) | (with_reducible refine W_ret ?_)); simp only [go_sem, Nat.reduceEqDiff, ↓reduceIte, reduceIte, Nat.reduceAdd, Nat.reduceMul, Nat.reduceSub, Nat.reduceLeDiff, Nat.reduceBEq, Nat.reduceBNe, Int.reduceNeg, Int.reduceLT, Int.reduceLE, Int.reduceAdd, Int.reduceSub, Int.reduceToNat, Int.reduceEq, Int.reduceBEq, reduceCtorEq, Int.reduceBNe, h0, h3, h18, h19, h20, g1, hl2, hkl, hx, bE, u8A, a1, a2, a3, hv, g2, e6, g3, g5, hb, hl, k1, k2, k3, k4, k5])
        refine sliceW_sq (i + 1) l.length ty24.2.2.2.1 ty5.2.1 bE_len (by simp only [bndA]) (by rw [hl]; rfl) (by omega) (by rw [hl]; exact Nat.le_refl _) ?_
        have ho3 : (s.o.map fun x => (x.drop (i + 1)).take (l.length - (i + 1))) = some (l.drop (i + 1)) := by
          cases hso : s.o with
          | none => rw [hso] at hl; simp [sqL] at hl; subst hl; simp at hil
          | some z => rw [hso] at hl; simp only [sqL] at hl; subst hl; simp only [Option.map_some]; rw [List.take_of_length_le (by simp)]
        rw [ho3]
        repeat (first
          | with_reducible refine W_seq fun K hK => ?_
          | (with_reducible refine hK _ ?_); clear hK K
          | (with_reducible refine W_skipK hK ?_); clear hK K
          | (with_reducible refine W_condT ?_ ?_); (· rfl)
          | (with_reducible refine W_condF ?_ ?_); (· rfl)
          | with_reducible refine W_block ?_
          | clear hK K; (with_reducible refine hK _ ?_); clear hK K
          | clear hK K; clear hK K; (with_reducible refine hK _ ?_); clear hK K
          | clear hK K; clear hK K; clear hK K; (with_reducible refine hK _ ?_); clear hK K
          | (with_reducible refine And.intro ?_ ?_); (· first | omega | decide)
          | (try first | ((with_reducible refine W_reg ?_ ?_); (· rfl)) | (with_reducible refine W_exit ?_) | (with_reducible refine W_ret ?_)); simp only [go_sem, Nat.reduceEqDiff, ↓reduceIte, reduceIte, Nat.reduceAdd, Nat.reduceMul, Nat.reduceSub, Nat.reduceLeDiff, Nat.reduceBEq, Nat.reduceBNe, Int.reduceNeg, Int.reduceLT, Int.reduceLE, Int.reduceAdd, Int.reduceSub, Int.reduceToNat, Int.reduceEq, Int.reduceBEq, reduceCtorEq, Int.reduceBNe, hb, k1, k2, k3, k4, k5])
        rw [hnum]
        refine ends_ret ?_ (hle_set1 (by simp only [go_sem, Nat.reduceEqDiff, ↓reduceIte, reduceIte, Nat.reduceAdd, Nat.reduceMul, Nat.reduceSub, Nat.reduceLeDiff, Nat.reduceBEq, Nat.reduceBNe, Int.reduceNeg, Int.reduceLT, Int.reduceLE, Int.reduceAdd, Int.reduceSub, Int.reduceToNat, Int.reduceEq, Int.reduceBEq, reduceCtorEq, Int.reduceBNe, Rd.enc]) (fun c hc hn => by simp only [go_sem, Nat.reduceEqDiff, ↓reduceIte, reduceIte, Nat.reduceAdd, Nat.reduceMul, Nat.reduceSub, Nat.reduceLeDiff, Nat.reduceBEq, Nat.reduceBNe, Int.reduceNeg, Int.reduceLT, Int.reduceLE, Int.reduceAdd, Int.reduceSub, Int.reduceToNat, Int.reduceEq, Int.reduceBEq, reduceCtorEq, Int.reduceBNe, hc]))
        simp only [go_sem, Nat.reduceEqDiff, ↓reduceIte, reduceIte, Nat.reduceAdd, Nat.reduceMul, Nat.reduceSub, Nat.reduceLeDiff, Nat.reduceBEq, Nat.reduceBNe, Int.reduceNeg, Int.reduceLT, Int.reduceLE, Int.reduceAdd, Int.reduceSub, Int.reduceToNat, Int.reduceEq, Int.reduceBEq, reduceCtorEq, Int.reduceBNe, Try.f74, Rd.enc]
  · have g1 : decide ((i : Int) < (k : Int)) = false := by simp; omega
    have hnone : rdF 0 0 l = none := by rw [hrd]; exact rdF_end (by omega)
    repeat (first
      | with_reducible refine W_seq fun K hK => ?_
      | (with_reducible refine hK _ ?_); clear hK K
      | (with_reducible refine W_skipK hK ?_); clear hK K
      | (with_reducible refine W_condT ?_ ?_); (· rfl)
      | (with_reducible refine W_condF ?_ ?_); (· rfl)
      | with_reducible refine W_block ?_
      | clear hK K; (with_reducible refine hK _ ?_); clear hK K
      | clear hK K; clear hK K; (with_reducible refine hK _ ?_); clear hK K
      | clear hK K; clear hK K; clear hK K; (with_reducible refine hK _ ?_); clear hK K
      | (with_reducible refine And.intro ?_ ?_); (· first | omega | decide)
      | (try first | ((with_reducible refine W_reg ?_ ?_); (· rfl)) | (with_reducible refine W_exit ?_) | (with_reducible refine W_ret ?_)); simp only [go_sem, Nat.reduceEqDiff, ↓reduceIte, reduceIte, Nat.reduceAdd, Nat.reduceMul, Nat.reduceSub, Nat.reduceLeDiff, Nat.reduceBEq, Nat.reduceBNe, Int.reduceNeg, Int.reduceLT, Int.reduceLE, Int.reduceAdd, Int.reduceSub, Int.reduceToNat, Int.reduceEq, Int.reduceBEq, reduceCtorEq, Int.reduceBNe, h0, h3, h18, h19, h20, g1])
    exact hfail hnone _ _ h0
end Go.Proofs.Ytmpndjpaelcnkaa
