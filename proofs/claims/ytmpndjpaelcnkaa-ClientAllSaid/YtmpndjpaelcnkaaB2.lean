/- Texts and truths as bytes; a reader's beginning. -/
import Derived.Test.YtmpndjpaelcnkaaB1
set_option linter.unusedVariables false
set_option linter.unusedSimpArgs false
namespace Go.Proofs.Ytmpndjpaelcnkaa
open Go Go.SX

theorem numF_len : ∀ (k u : Nat), (numF k u).length ≤ k
  | 0, _ => by simp [numF]
  | k + 1, u => by
    unfold numF; split
    · simp
    · have := numF_len k (u / 128); simp; omega
theorem numB_len (n : Int) : (numB n).length ≤ 10 := numF_len 10 _
theorem numF_ne (k u : Nat) : numF (k + 1) u ≠ [] := by unfold numF; split <;> simp
theorem numB_ne (n : Int) : numB n ≠ [] := numF_ne 9 _
def textB (l : List UInt8) : List UInt8 := numB l.length ++ l
def flagB (f : Bool) : List UInt8 := [if f then 1 else 0]
theorem textB_len (l : List UInt8) : (textB l).length ≤ 10 + l.length := by unfold textB; have := numB_len l.length; simp; omega
theorem Wr.ne {h : Heap} {id b : BId} {l : List UInt8} (hw : Wr h b l) (hfr : FrH h id) (p : List Nat) : (b = p ++ id) = False := by
  obtain ⟨x, q1, _⟩ := hw
  rw [eq_iff_iff, iff_false]; rintro rfl; rw [hfr p] at q1; cases q1

/-- Bytes that are appended in one statement: what the steps want. -/
theorem flag_ok (id b : BId) (h : Heap) (l : List UInt8) (f : Bool) (hl : l.length ≤ 1000000) (hw : Wr h b l) : CallH Try.prog 70 [.ptr b 0, .p (.bool f)] id h (fun v h' => v = .tup [] ∧ WrK id h h' b (l ++ flagB f)) := by
  refine callE_of_W (fn := Try.f70) Try.func70 (by decide) rfl fun hfr => ?_
  have hnb : ∀ i j, (b = i :: j :: id) = False := fun i j => hw.ne hfr [i, j]
  have hw9 := hw
  obtain ⟨y, q1, q2, q3⟩ := hw9
  have hq2 : upd h (ownW y) b = some (.cells 116 [y]) := by rw [ownW_far q3]; exact q1
  cases f with
  | true =>
    repeat (first
      | with_reducible refine W_seq fun K hK => ?_
      | (with_reducible refine hK _ ?_); clear hK K
      | (with_reducible refine W_skipK hK ?_); clear hK K
      | (with_reducible refine W_condT ?_ ?_); (· rfl)
      | (with_reducible refine W_condF ?_ ?_); (· rfl)
      | with_reducible refine W_block ?_
      | clear hK K; (with_reducible refine hK _ ?_); clear hK K
      | clear hK K; clear hK K; (with_reducible refine hK _ ?_); clear hK K
      | clear hK K; clear hK K; clear hK K; (with_reducible refine hK _ ?_); clear hK K
      | (with_reducible refine And.intro ?_ ?_); (· first | omega | decide)
      | (try first | ((with_reducible refine W_reg ?_ ?_); (· rfl)) | (with_reducible refine W_exit ?_) | (with_reducible refine W_ret ?_)); simp only [go_sem, Nat.reduceEqDiff, ↓reduceIte, reduceIte, Nat.reduceAdd, Nat.reduceMul, Nat.reduceSub, Nat.reduceLeDiff, Nat.reduceBEq, Nat.reduceBNe, Int.reduceNeg, Int.reduceLT, Int.reduceLE, Int.reduceAdd, Int.reduceSub, Int.reduceToNat, Int.reduceEq, Int.reduceBEq, reduceCtorEq, Int.reduceBNe, q1])
    refine stop_append_grw (x0 := .p (.slice none 0 0)) (l0 := []) 5 1 1 [.p (.int .u8 0)] l [1] ty24.2.2.2.1 ty5.2.1 ty5.2.2.1 (by simp only [go_sem, Nat.reduceEqDiff, ↓reduceIte, reduceIte, Nat.reduceAdd, Nat.reduceMul, Nat.reduceSub, Nat.reduceLeDiff, Nat.reduceBEq, Nat.reduceBNe, Int.reduceNeg, Int.reduceLT, Int.reduceLE, Int.reduceAdd, Int.reduceSub, Int.reduceToNat, Int.reduceEq, Int.reduceBEq, reduceCtorEq, Int.reduceBNe]) rfl bE_len bE_one rfl (by exact q2) (by simp only [go_sem, Nat.reduceEqDiff, ↓reduceIte, reduceIte, Nat.reduceAdd, Nat.reduceMul, Nat.reduceSub, Nat.reduceLeDiff, Nat.reduceBEq, Nat.reduceBNe, Int.reduceNeg, Int.reduceLT, Int.reduceLE, Int.reduceAdd, Int.reduceSub, Int.reduceToNat, Int.reduceEq, Int.reduceBEq, reduceCtorEq, Int.reduceBNe]; rfl) (by simp) (by simp; omega) (by simp [maxLen]; omega) ?_
    simp only [go_sem, Nat.reduceEqDiff, ↓reduceIte, reduceIte, Nat.reduceAdd, Nat.reduceMul, Nat.reduceSub, Nat.reduceLeDiff, Nat.reduceBEq, Nat.reduceBNe, Int.reduceNeg, Int.reduceLT, Int.reduceLE, Int.reduceAdd, Int.reduceSub, Int.reduceToNat, Int.reduceEq, Int.reduceBEq, reduceCtorEq, Int.reduceBNe, hnb, hq2]
    refine wr_end hfr hw (.inr rfl) (by simp only [go_sem, Nat.reduceEqDiff, ↓reduceIte, reduceIte, Nat.reduceAdd, Nat.reduceMul, Nat.reduceSub, Nat.reduceLeDiff, Nat.reduceBEq, Nat.reduceBNe, Int.reduceNeg, Int.reduceLT, Int.reduceLE, Int.reduceAdd, Int.reduceSub, Int.reduceToNat, Int.reduceEq, Int.reduceBEq, reduceCtorEq, Int.reduceBNe, Try.f70]) (hw.refl.app hfr q1 ⟨[_, _], rfl⟩ (by simp))
  | false =>
    repeat (first
      | with_reducible refine W_seq fun K hK => ?_
      | (with_reducible refine hK _ ?_); clear hK K
      | (with_reducible refine W_skipK hK ?_); clear hK K
      | (with_reducible refine W_condT ?_ ?_); (· rfl)
      | (with_reducible refine W_condF ?_ ?_); (· rfl)
      | with_reducible refine W_block ?_
      | clear hK K; (with_reducible refine hK _ ?_); clear hK K
      | clear hK K; clear hK K; (with_reducible refine hK _ ?_); clear hK K
      | clear hK K; clear hK K; clear hK K; (with_reducible refine hK _ ?_); clear hK K
      | (with_reducible refine And.intro ?_ ?_); (· first | omega | decide)
      | (try first | ((with_reducible refine W_reg ?_ ?_); (· rfl)) | (with_reducible refine W_exit ?_) | (with_reducible refine W_ret ?_)); simp only [go_sem, Nat.reduceEqDiff, ↓reduceIte, reduceIte, Nat.reduceAdd, Nat.reduceMul, Nat.reduceSub, Nat.reduceLeDiff, Nat.reduceBEq, Nat.reduceBNe, Int.reduceNeg, Int.reduceLT, Int.reduceLE, Int.reduceAdd, Int.reduceSub, Int.reduceToNat, Int.reduceEq, Int.reduceBEq, reduceCtorEq, Int.reduceBNe, q1])
    refine stop_append_grw (x0 := .p (.slice none 0 0)) (l0 := []) 5 1 1 [.p (.int .u8 0)] l [0] ty24.2.2.2.1 ty5.2.1 ty5.2.2.1 (by simp only [go_sem, Nat.reduceEqDiff, ↓reduceIte, reduceIte, Nat.reduceAdd, Nat.reduceMul, Nat.reduceSub, Nat.reduceLeDiff, Nat.reduceBEq, Nat.reduceBNe, Int.reduceNeg, Int.reduceLT, Int.reduceLE, Int.reduceAdd, Int.reduceSub, Int.reduceToNat, Int.reduceEq, Int.reduceBEq, reduceCtorEq, Int.reduceBNe]) rfl bE_len bE_one rfl (by exact q2) (by simp only [go_sem, Nat.reduceEqDiff, ↓reduceIte, reduceIte, Nat.reduceAdd, Nat.reduceMul, Nat.reduceSub, Nat.reduceLeDiff, Nat.reduceBEq, Nat.reduceBNe, Int.reduceNeg, Int.reduceLT, Int.reduceLE, Int.reduceAdd, Int.reduceSub, Int.reduceToNat, Int.reduceEq, Int.reduceBEq, reduceCtorEq, Int.reduceBNe]; rfl) (by simp) (by simp; omega) (by simp [maxLen]; omega) ?_
    simp only [go_sem, Nat.reduceEqDiff, ↓reduceIte, reduceIte, Nat.reduceAdd, Nat.reduceMul, Nat.reduceSub, Nat.reduceLeDiff, Nat.reduceBEq, Nat.reduceBNe, Int.reduceNeg, Int.reduceLT, Int.reduceLE, Int.reduceAdd, Int.reduceSub, Int.reduceToNat, Int.reduceEq, Int.reduceBEq, reduceCtorEq, Int.reduceBNe, hnb, hq2]
    refine wr_end hfr hw (.inr rfl) (by simp only [go_sem, Nat.reduceEqDiff, ↓reduceIte, reduceIte, Nat.reduceAdd, Nat.reduceMul, Nat.reduceSub, Nat.reduceLeDiff, Nat.reduceBEq, Nat.reduceBNe, Int.reduceNeg, Int.reduceLT, Int.reduceLE, Int.reduceAdd, Int.reduceSub, Int.reduceToNat, Int.reduceEq, Int.reduceBEq, reduceCtorEq, Int.reduceBNe, Try.f70]) (hw.refl.app hfr q1 ⟨[_, _], rfl⟩ (by simp))

set_option maxRecDepth 8000 in
theorem text_ok (id b : BId) (h : Heap) (l : List UInt8) (o : Option (List UInt8)) (hl : l.length ≤ 900000) (ho : (sqL o).length ≤ 90000) (hw : Wr h b l) : CallH Try.prog 69 [.ptr b 0, sq bE o] id h (fun v h' => v = .tup [] ∧ WrK id h h' b (l ++ textB (sqL o))) := by
  refine callE_of_W (fn := Try.f69) Try.func69 (by decide) rfl fun hfr => ?_
  repeat (first
    | with_reducible refine W_seq fun K hK => ?_
    | (with_reducible refine hK _ ?_); clear hK K
    | (with_reducible refine W_skipK hK ?_); clear hK K
    | (with_reducible refine W_condT ?_ ?_); (· rfl)
    | (with_reducible refine W_condF ?_ ?_); (· rfl)
    | with_reducible refine W_block ?_
    | clear hK K; (with_reducible refine hK _ ?_); clear hK K
    | clear hK K; clear hK K; (with_reducible refine hK _ ?_); clear hK K
    | clear hK K; clear hK K; clear hK K; (with_reducible refine hK _ ?_); clear hK K
    | (with_reducible refine And.intro ?_ ?_); (· first | omega | decide)
    | (try first | ((with_reducible refine W_reg ?_ ?_); (· rfl)) | (with_reducible refine W_exit ?_) | (with_reducible refine W_ret ?_)); simp only [go_sem, Nat.reduceEqDiff, ↓reduceIte, reduceIte, Nat.reduceAdd, Nat.reduceMul, Nat.reduceSub, Nat.reduceLeDiff, Nat.reduceBEq, Nat.reduceBNe, Int.reduceNeg, Int.reduceLT, Int.reduceLE, Int.reduceAdd, Int.reduceSub, Int.reduceToNat, Int.reduceEq, Int.reduceBEq, reduceCtorEq, Int.reduceBNe])
  refine stop_callH (num_ok _ b h l ((sqL o).length : Int) (by omega) (by omega) hw) ?_
  rintro _ v h1 ⟨rfl, hw1⟩
  have hw2 := hw1.wr
  have hnum := numB_len (sqL o).length
  have hnb : ∀ i j, (b = i :: j :: id) = False := fun i j => hw.ne hfr [i, j]
  have hw9 := hw2
  obtain ⟨y, q1, q2, q3⟩ := hw9
  have hq2 : upd h1 (ownW y) b = some (.cells 116 [y]) := by rw [ownW_far q3]; exact q1
  have hw3 : WrK id h h1 b (l ++ numB (sqL o).length) := by
    obtain ⟨x, y, r1, r2, r3, r4, r5, r6⟩ := hw1
    exact ⟨x, y, r1, r2, r3, r4, fun c hc => (r5 c hc).imp (fun q => q) (fun q => q.up.up), r6⟩
  by_cases h0 : sqL o = []
  · skip
    repeat (first
      | with_reducible refine W_seq fun K hK => ?_
      | (with_reducible refine hK _ ?_); clear hK K
      | (with_reducible refine W_skipK hK ?_); clear hK K
      | (with_reducible refine W_condT ?_ ?_); (· rfl)
      | (with_reducible refine W_condF ?_ ?_); (· rfl)
      | with_reducible refine W_block ?_
      | clear hK K; (with_reducible refine hK _ ?_); clear hK K
      | clear hK K; clear hK K; (with_reducible refine hK _ ?_); clear hK K
      | clear hK K; clear hK K; clear hK K; (with_reducible refine hK _ ?_); clear hK K
      | (with_reducible refine And.intro ?_ ?_); (· first | omega | decide)
      | (try first | ((with_reducible refine W_reg ?_ ?_); (· rfl)) | (with_reducible refine W_exit ?_) | (with_reducible refine W_ret ?_)); simp only [go_sem, Nat.reduceEqDiff, ↓reduceIte, reduceIte, Nat.reduceAdd, Nat.reduceMul, Nat.reduceSub, Nat.reduceLeDiff, Nat.reduceBEq, Nat.reduceBNe, Int.reduceNeg, Int.reduceLT, Int.reduceLE, Int.reduceAdd, Int.reduceSub, Int.reduceToNat, Int.reduceEq, Int.reduceBEq, reduceCtorEq, Int.reduceBNe, q1])
    refine stop_append_zero 5 1 ty24.2.2.2.1 ty5.2.1 (by exact grw_isSl q2 rfl) (by simp only [go_sem, Nat.reduceEqDiff, ↓reduceIte, reduceIte, Nat.reduceAdd, Nat.reduceMul, Nat.reduceSub, Nat.reduceLeDiff, Nat.reduceBEq, Nat.reduceBNe, Int.reduceNeg, Int.reduceLT, Int.reduceLE, Int.reduceAdd, Int.reduceSub, Int.reduceToNat, Int.reduceEq, Int.reduceBEq, reduceCtorEq, Int.reduceBNe, h0]; rfl) ?_
    obtain ⟨k1, k2⟩ := isSl_box (grw_isSl q2 rfl)
    simp only [go_sem, Nat.reduceEqDiff, ↓reduceIte, reduceIte, Nat.reduceAdd, Nat.reduceMul, Nat.reduceSub, Nat.reduceLeDiff, Nat.reduceBEq, Nat.reduceBNe, Int.reduceNeg, Int.reduceLT, Int.reduceLE, Int.reduceAdd, Int.reduceSub, Int.reduceToNat, Int.reduceEq, Int.reduceBEq, reduceCtorEq, Int.reduceBNe, q1, k1, k2]
    rw [hset_self q1]
    refine wr_end hfr hw (.inr rfl) (by simp only [go_sem, Nat.reduceEqDiff, ↓reduceIte, reduceIte, Nat.reduceAdd, Nat.reduceMul, Nat.reduceSub, Nat.reduceLeDiff, Nat.reduceBEq, Nat.reduceBNe, Int.reduceNeg, Int.reduceLT, Int.reduceLE, Int.reduceAdd, Int.reduceSub, Int.reduceToNat, Int.reduceEq, Int.reduceBEq, reduceCtorEq, Int.reduceBNe, Try.f69]) (by simpa [textB, h0] using hw3)
  · skip
    repeat (first
      | with_reducible refine W_seq fun K hK => ?_
      | (with_reducible refine hK _ ?_); clear hK K
      | (with_reducible refine W_skipK hK ?_); clear hK K
      | (with_reducible refine W_condT ?_ ?_); (· rfl)
      | (with_reducible refine W_condF ?_ ?_); (· rfl)
      | with_reducible refine W_block ?_
      | clear hK K; (with_reducible refine hK _ ?_); clear hK K
      | clear hK K; clear hK K; (with_reducible refine hK _ ?_); clear hK K
      | clear hK K; clear hK K; clear hK K; (with_reducible refine hK _ ?_); clear hK K
      | (with_reducible refine And.intro ?_ ?_); (· first | omega | decide)
      | (try first | ((with_reducible refine W_reg ?_ ?_); (· rfl)) | (with_reducible refine W_exit ?_) | (with_reducible refine W_ret ?_)); simp only [go_sem, Nat.reduceEqDiff, ↓reduceIte, reduceIte, Nat.reduceAdd, Nat.reduceMul, Nat.reduceSub, Nat.reduceLeDiff, Nat.reduceBEq, Nat.reduceBNe, Int.reduceNeg, Int.reduceLT, Int.reduceLE, Int.reduceAdd, Int.reduceSub, Int.reduceToNat, Int.reduceEq, Int.reduceBEq, reduceCtorEq, Int.reduceBNe, q1])
    refine stop_append_grw (x0 := .p (.slice none 0 0)) (l0 := []) 5 1 1 [.p (.int .u8 0)] (l ++ numB (sqL o).length) (sqL o) ty24.2.2.2.1 ty5.2.1 ty5.2.2.1 (by simp only [go_sem, Nat.reduceEqDiff, ↓reduceIte, reduceIte, Nat.reduceAdd, Nat.reduceMul, Nat.reduceSub, Nat.reduceLeDiff, Nat.reduceBEq, Nat.reduceBNe, Int.reduceNeg, Int.reduceLT, Int.reduceLE, Int.reduceAdd, Int.reduceSub, Int.reduceToNat, Int.reduceEq, Int.reduceBEq, reduceCtorEq, Int.reduceBNe]) rfl bE_len bE_one rfl (by exact q2) (by simp only [go_sem, Nat.reduceEqDiff, ↓reduceIte, reduceIte, Nat.reduceAdd, Nat.reduceMul, Nat.reduceSub, Nat.reduceLeDiff, Nat.reduceBEq, Nat.reduceBNe, Int.reduceNeg, Int.reduceLT, Int.reduceLE, Int.reduceAdd, Int.reduceSub, Int.reduceToNat, Int.reduceEq, Int.reduceBEq, reduceCtorEq, Int.reduceBNe]) h0 (by simp; omega) (by simp [maxLen]; omega) ?_
    simp only [go_sem, Nat.reduceEqDiff, ↓reduceIte, reduceIte, Nat.reduceAdd, Nat.reduceMul, Nat.reduceSub, Nat.reduceLeDiff, Nat.reduceBEq, Nat.reduceBNe, Int.reduceNeg, Int.reduceLT, Int.reduceLE, Int.reduceAdd, Int.reduceSub, Int.reduceToNat, Int.reduceEq, Int.reduceBEq, reduceCtorEq, Int.reduceBNe, hnb, hq2]
    have := hw3.app (nm := 6 :: 2 :: id) hfr q1 ⟨[_, _], rfl⟩ h0
    rw [List.append_assoc] at this
    refine wr_end hfr hw (.inr rfl) (by simp only [go_sem, Nat.reduceEqDiff, ↓reduceIte, reduceIte, Nat.reduceAdd, Nat.reduceMul, Nat.reduceSub, Nat.reduceLeDiff, Nat.reduceBEq, Nat.reduceBNe, Int.reduceNeg, Int.reduceLT, Int.reduceLE, Int.reduceAdd, Int.reduceSub, Int.reduceToNat, Int.reduceEq, Int.reduceBEq, reduceCtorEq, Int.reduceBNe, Try.f69]) (by simpa [textB] using this)
end Go.Proofs.Ytmpndjpaelcnkaa
