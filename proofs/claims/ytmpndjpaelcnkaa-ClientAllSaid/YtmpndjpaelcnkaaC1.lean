/- The codec, as plain law: what is written is read, what is read was written. -/
import Derived.Test.YtmpndjpaelcnkaaB15
set_option linter.unusedVariables false
set_option linter.unusedSimpArgs false
namespace Go.Proofs.Ytmpndjpaelcnkaa
open Go Go.SX

theorem ofNat_toNat {u : Nat} (h : u < 256) : (UInt8.ofNat u).toNat = u := by simp; omega
theorem rdF_numF : ∀ (k i w u : Nat) (r : List UInt8), i + k = 10 → 1 ≤ k → u * 128 ^ i < 18446744073709551616 → (0 < i → 1 ≤ u) → rdF i w (numF k u ++ r) = some (w + u * 128 ^ i, r)
  | 0, i, w, u, r, _, h1, _, _ => by omega
  | k + 1, i, w, u, r, hk, h1, hu, hp => by
    unfold numF
    by_cases c : u < 128
    · rw [if_pos c]
      simp only [List.cons_append, List.nil_append, rdF]
      rw [ofNat_toNat (by omega), if_neg (by omega), if_neg (by omega), if_neg]
      rintro (⟨h, h2⟩ | ⟨h, h2⟩)
      · have := hp h; omega
      · subst h
        have : 2 * 128 ^ 9 ≤ u * 128 ^ 9 := Nat.mul_le_mul_right _ (by omega)
        omega
    · rw [if_neg c]
      simp only [List.cons_append, rdF]
      rw [ofNat_toNat (by omega), if_neg (by omega), if_pos (by omega)]
      have e1 : (u % 128 + 128) % 128 = u % 128 := by omega
      have e2 : u * 128 ^ i = u % 128 * 128 ^ i + u / 128 * 128 ^ (i + 1) := by
        rw [Nat.pow_succ, Nat.mul_comm (128 ^ i) 128, ← Nat.mul_assoc, ← Nat.add_mul]
        congr 1; omega
      have hk1 : 1 ≤ k := by
        rcases Nat.lt_or_ge i 9 with h | h
        · omega
        · have hi : i = 9 := by omega
          subst hi
          have : 128 * 128 ^ 9 ≤ u * 128 ^ 9 := Nat.mul_le_mul_right _ (by omega)
          omega
      rw [rdF_numF k (i + 1) _ (u / 128) r (by omega) hk1 (by omega) (fun _ => by omega), e1, e2, Nat.add_assoc]
theorem numF_rdF : ∀ (l : List UInt8) (i w v : Nat) (r : List UInt8), rdF i w l = some (v, r) → ∃ u, v = w + u * 128 ^ i ∧ l = numF (10 - i) u ++ r ∧ (0 < i → 1 ≤ u) ∧ u * 128 ^ i < 18446744073709551616 ∧ i < 10
  | [], i, w, v, r, h => by simp [rdF] at h
  | c :: l, i, w, v, r, h => by
    unfold rdF at h
    have hc := c.toNat_lt
    split at h
    · cases h
    · rename_i h10
      split at h
      · rename_i h128
        obtain ⟨u, e1, e2, e3, e4, e5⟩ := numF_rdF l (i + 1) _ v r h
        refine ⟨c.toNat % 128 + 128 * u, ?_, ?_, fun _ => ?_, ?_, by omega⟩
        · rw [e1, Nat.pow_succ, Nat.add_mul]
          rw [Nat.mul_comm (128 ^ i) 128, ← Nat.mul_assoc, Nat.mul_comm u 128]; omega
        · obtain ⟨k, hk⟩ : ∃ k, 10 - i = k + 1 := ⟨9 - i, by omega⟩
          have hk2 : 10 - (i + 1) = k := by omega
          have h1 : 1 ≤ u := e3 (by omega)
          rw [hk, e2, hk2]
          simp only [numF]
          rw [if_neg (by omega)]
          have q1 : (c.toNat % 128 + 128 * u) % 128 + 128 = c.toNat := by omega
          have q2 : (c.toNat % 128 + 128 * u) / 128 = u := by omega
          rw [q1, q2]; simp
        · have := e3 (by omega); omega
        · have h1 : (c.toNat % 128 + 128 * u) * 128 ^ i = c.toNat % 128 * 128 ^ i + u * 128 ^ (i + 1) := by
            rw [Nat.pow_succ, Nat.add_mul, Nat.mul_comm (128 ^ i) 128, ← Nat.mul_assoc, Nat.mul_comm u 128]
          rw [h1]
          -- u * 128^(i+1) is a multiple of 128^(i+1), and so is 2^64 or less room is left
          have hu : u < 2 ^ (64 - 7 * (i + 1)) := by
            have hp : 128 ^ (i + 1) = 2 ^ (7 * (i + 1)) := p128 (i + 1)
            rw [hp] at e4
            have h64 : (18446744073709551616 : Nat) = 2 ^ (64 - 7 * (i + 1)) * 2 ^ (7 * (i + 1)) := by
              rw [← Nat.pow_add]; rw [show 64 - 7 * (i + 1) + 7 * (i + 1) = 64 by omega]
            rw [h64] at e4
            exact Nat.lt_of_mul_lt_mul_right e4
          have hm : c.toNat % 128 * 128 ^ i < 128 ^ (i + 1) := by
            rw [Nat.pow_succ, Nat.mul_comm (128 ^ i) 128]
            exact Nat.mul_lt_mul_of_pos_right (by omega) (Nat.pow_pos (by decide))
          have h2 : (u + 1) * 128 ^ (i + 1) ≤ 18446744073709551616 := by
            have hp : 128 ^ (i + 1) = 2 ^ (7 * (i + 1)) := p128 (i + 1)
            have h64 : (18446744073709551616 : Nat) = 2 ^ (64 - 7 * (i + 1)) * 2 ^ (7 * (i + 1)) := by
              rw [← Nat.pow_add]; rw [show 64 - 7 * (i + 1) + 7 * (i + 1) = 64 by omega]
            rw [hp, h64]
            exact Nat.mul_le_mul_right _ hu
          rw [Nat.add_mul] at h2
          omega
      · rename_i h128
        split at h
        · cases h
        · rename_i hb
          cases h
          refine ⟨c.toNat, rfl, ?_, fun hi => ?_, ?_, by omega⟩
          · obtain ⟨k, hk⟩ : ∃ k, 10 - i = k + 1 := ⟨9 - i, by omega⟩
            rw [hk]
            simp only [numF]
            rw [if_pos (by omega)]; simp
          · rcases Nat.eq_zero_or_pos c.toNat with q | q
            · exact absurd (.inl ⟨hi, q⟩) hb
            · exact q
          · rcases Nat.lt_or_ge i 9 with h9 | h9
            · have h1 : c.toNat * 128 ^ i ≤ 127 * 128 ^ 8 := Nat.mul_le_mul (by omega) (Nat.pow_le_pow_right (by decide) (by omega))
              omega
            · have hi : i = 9 := by omega
              have h2 : ¬ 1 < c.toNat := fun q => hb (.inr ⟨hi, q⟩)
              subst hi
              have h1 : c.toNat * 128 ^ 9 ≤ 1 * 128 ^ 9 := Nat.mul_le_mul_right _ (by omega)
              omega
theorem unzig_zig (n : Int) : unzig (zig n) = n := by unfold unzig zig; split <;> split <;> omega
theorem zig_unzig (u : Nat) : zig (unzig u) = u := by unfold unzig zig; split <;> split <;> omega
theorem unzig_R {u : Nat} (h : u < 18446744073709551616) : i64R (unzig u) := by unfold unzig i64R; split <;> omega
theorem rdN_num {n : Int} (h : i64R n) (r : List UInt8) : rdN (numB n ++ r) = some (n, r) := by
  have hz := zig_lt h
  unfold rdN numB numU
  rw [rdF_numF 10 0 0 (zig n) r rfl (by omega) (by simpa using hz) (fun q => by omega)]
  simp [unzig_zig]
theorem num_rdN {l r : List UInt8} {n : Int} (h : rdN l = some (n, r)) : l = numB n ++ r ∧ i64R n := by
  unfold rdN at h
  cases hr : rdF 0 0 l with
  | none => rw [hr] at h; cases h
  | some q =>
    rw [hr] at h
    obtain ⟨v, r'⟩ := q
    simp only [Option.map_some, Option.some.injEq, Prod.mk.injEq] at h
    obtain ⟨rfl, rfl⟩ := h
    obtain ⟨u, e1, e2, e3, e4, e5⟩ := numF_rdF l 0 0 v _ hr
    have : v = u := by rw [e1]; simp
    subst this
    refine ⟨?_, unzig_R (by simpa using e4)⟩
    unfold numB numU; rw [zig_unzig]; exact e2

/-- A reader that is sound and stands before l. -/
def At (s : Rd) (l : List UInt8) : Prop := s.bad = false ∧ sqL s.o = l
theorem num_fwd {s : Rd} {n : Int} {r : List UInt8} (h : At s (numB n ++ r)) (hn : i64R n) : s.num.1 = n ∧ At s.num.2 r := by
  unfold Rd.num; rw [h.2, rdN_num hn]; exact ⟨rfl, h.1, rfl⟩
theorem num_bwd {s : Rd} (h : s.num.2.bad = false) : i64R s.num.1 ∧ At s (numB s.num.1 ++ sqL s.num.2.o) := by
  unfold Rd.num at h ⊢
  cases hr : rdN (sqL s.o) with
  | none => rw [hr] at h; cases h
  | some q =>
    rw [hr] at h
    obtain ⟨h1, h2⟩ := num_rdN hr
    exact ⟨h2, h, h1⟩
theorem text_fwd {s : Rd} {d r : List UInt8} (h : At s (textB d ++ r)) (hd : d.length ≤ 1000000000) : sqL s.text.1 = d ∧ At s.text.2 r := by
  unfold textB at h
  rw [List.append_assoc] at h
  obtain ⟨h1, h2, h3⟩ := num_fwd h (by unfold i64R; omega)
  unfold Rd.text
  rw [if_neg (by rw [h2]; simp), h1, h3, if_neg (by simp <;> omega)]
  simp only [Int.toNat_natCast, sqL_cut, sqL_dropB, At, h3, h2]
  simp
theorem text_bwd {s : Rd} (h : s.text.2.bad = false) : At s (textB (sqL s.text.1) ++ sqL s.text.2.o) := by
  unfold Rd.text at h ⊢
  split at h
  · rename_i hb; rw [hb] at h; cases h
  · rename_i hb
    rw [if_neg hb]
    split at h
    · cases h
    · rename_i hc
      rw [if_neg hc]
      have hb2 : s.num.2.bad = false := by simpa using hb
      obtain ⟨h1, h2, h3⟩ := num_bwd hb2
      refine ⟨h2, ?_⟩
      rw [h3]
      simp only [sqL_cut, sqL_dropB, textB, List.append_assoc, List.take_append_drop]
      congr 2
      rw [List.length_take]; omega
theorem flag_fwd {s : Rd} {f : Bool} {r : List UInt8} (h : At s (flagB f ++ r)) : s.flag.1 = f ∧ At s.flag.2 r := by
  unfold Rd.flag
  have : sqL s.o = (if f then 1 else 0) :: r := h.2
  rw [this]
  cases f <;> simp [At, h.1, sqL]
theorem flag_bwd {s : Rd} (h : s.flag.2.bad = false) : At s (flagB s.flag.1 ++ sqL s.flag.2.o) := by
  unfold Rd.flag at h ⊢
  cases hs : sqL s.o with
  | nil => rw [hs] at h; cases h
  | cons c r =>
    rw [hs] at h
    simp only at h ⊢
    split at h
    · cases h
    · rename_i hc
      rw [if_neg hc]
      refine ⟨h, ?_⟩
      rw [hs]
      have h01 : c = 0 ∨ c = 1 := by
        rcases Nat.lt_or_ge c.toNat 1 with q | q
        · left; apply UInt8.toNat_inj.1; simp; omega
        · right; apply UInt8.toNat_inj.1; simp; omega
      rcases h01 with rfl | rfl <;> simp [flagB, sqL]
theorem count_fwd {s : Rd} {n : Nat} {r : List UInt8} (h : At s (numB n ++ r)) (hn : n ≤ r.length) (hr : r.length ≤ 1000000000) : s.count.1 = n ∧ At s.count.2 r := by
  obtain ⟨h1, h2, h3⟩ := num_fwd h (by unfold i64R; omega)
  unfold Rd.count
  rw [h1, h3, if_neg (by omega)]
  exact ⟨h1, h2, h3⟩
theorem count_bwd {s : Rd} (h : s.count.2.bad = false) : At s (numB s.count.1.toNat ++ sqL s.count.2.o) := by
  unfold Rd.count at h ⊢
  split at h
  · cases h
  · rename_i hc
    rw [if_neg hc]
    obtain ⟨h1, h2, h3⟩ := num_bwd h
    refine ⟨h2, ?_⟩
    rw [h3]
    congr 2; omega
end Go.Proofs.Ytmpndjpaelcnkaa
