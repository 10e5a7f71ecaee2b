/- A text, a truth, numbers in a row are read. -/
import Derived.Test.YtmpndjpaelcnkaaB4
set_option linter.unusedVariables false
set_option linter.unusedSimpArgs false
namespace Go.Proofs.Ytmpndjpaelcnkaa
open Go Go.SX

def dropB {α : Type} (n : Nat) (o : Option (List α)) : Option (List α) := o.map (·.drop n)
theorem sqL_dropB {α : Type} (n : Nat) (o : Option (List α)) : sqL (dropB n o) = (sqL o).drop n := by cases o <;> simp [dropB, sqL]
theorem sqL_cut {α : Type} (n : Nat) (o : Option (List α)) : sqL (cut n o) = (sqL o).take n := by cases o <;> simp [cut, sqL]
def Rd.text (s : Rd) : Option (List UInt8) × Rd :=
  if s.num.2.bad = true then (none, s.num.2) else if s.num.1 < 0 ∨ ((sqL s.num.2.o).length : Int) < s.num.1 then (none, ⟨none, true⟩)
  else (cut s.num.1.toNat s.num.2.o, ⟨dropB s.num.1.toNat s.num.2.o, s.num.2.bad⟩)
def Rd.flag (s : Rd) : Bool × Rd := match sqL s.o with
  | [] => (false, ⟨none, true⟩)
  | c :: r => if 1 < c.toNat then (false, ⟨none, true⟩) else (c.toNat == 1, ⟨some r, s.bad⟩)
theorem rdF_len : ∀ (l : List UInt8) (i u : Nat) (q : Nat × List UInt8), rdF i u l = some q → q.2.length < l.length
  | [], _, _, _, h => by simp [rdF] at h
  | c :: r, i, u, q, h => by
    unfold rdF at h
    split at h
    · cases h
    · split at h
      · have := rdF_len r _ _ _ h; simp; omega
      · split at h
        · cases h
        · cases h; simp
theorem Rd.num_len (s : Rd) : (sqL s.num.2.o).length ≤ (sqL s.o).length := by
  unfold Rd.num rdN
  cases h : rdF 0 0 (sqL s.o) with
  | none => simp [sqL]
  | some q => have := rdF_len _ _ _ _ h; simp [sqL]; simp only [sqL] at this; omega

set_option maxRecDepth 8000 in
theorem rtext_ok (id b : BId) (s : Rd) (hn : (sqL s.o).length ≤ 1000000000) : CallF Try.prog 76 [.ptr b 0] id [(b, .cells 166 s.enc)] (sq bE s.text.1) [(b, some (.cells 166 s.text.2.enc))] := by
  have hlen := s.num_len
  have hnum := fun id => rnum_ok id b s hn
  unfold Rd.text
  generalize s.num = q at *
  obtain ⟨n, s1⟩ := q
  simp only at hlen hnum ⊢
  by_cases c1 : s1.bad = true
  · have f1 : (!s1.bad) = false := by simp [c1]
    rw [if_pos c1]
    refine ⟨⟨_, Try.func76, by decide, rfl⟩, (by simp <;> repeat first | exact ⟨[_, _], rfl⟩ | constructor), fun h hr => callsA_of_W Try.func76 rfl fun hfr => ?_⟩
    have hb := hr.1; simp only [Rd.enc] at hb
    repeat (first
      | with_reducible refine W_seq fun K hK => ?_
      | (with_reducible refine hK _ ?_); clear hK K
      | (with_reducible refine W_skipK hK ?_); clear hK K
      | (with_reducible refine W_condT ?_ ?_); (· rfl)
      | (with_reducible refine W_condF ?_ ?_); (· rfl)
      | with_reducible refine W_block ?_
      | clear hK K; (with_reducible refine hK _ ?_); clear hK K
      | clear hK K; clear hK K; (with_reducible refine hK _ ?_); clear hK K
      | clear hK K; clear hK K; clear hK K; (with_reducible refine hK _ ?_); clear hK K
      | (with_reducible refine And.intro ?_ ?_); (· first | omega | decide)
      | (try first | ((with_reducible refine W_reg ?_ ?_); (· rfl)) | (with_reducible refine W_exit ?_) | (with_reducible refine W_ret ?_)); simp only [go_sem, Nat.reduceEqDiff, ↓reduceIte, reduceIte, Nat.reduceAdd, Nat.reduceMul, Nat.reduceSub, Nat.reduceLeDiff, Nat.reduceBEq, Nat.reduceBNe, Int.reduceNeg, Int.reduceLT, Int.reduceLE, Int.reduceAdd, Int.reduceSub, Int.reduceToNat, Int.reduceEq, Int.reduceBEq, reduceCtorEq, Int.reduceBNe])
    refine stop_call (hnum _) ?_ ?_
    · first | trivial | (simp only [go_sem, Nat.reduceEqDiff, ↓reduceIte, reduceIte, Nat.reduceAdd, Nat.reduceMul, Nat.reduceSub, Nat.reduceLeDiff, Nat.reduceBEq, Nat.reduceBNe, Int.reduceNeg, Int.reduceLT, Int.reduceLE, Int.reduceAdd, Int.reduceSub, Int.reduceToNat, Int.reduceEq, Int.reduceBEq, reduceCtorEq, Int.reduceBNe, hb, Rd.enc]; done)
    repeat (first
      | with_reducible refine W_seq fun K hK => ?_
      | (with_reducible refine hK _ ?_); clear hK K
      | (with_reducible refine W_skipK hK ?_); clear hK K
      | (with_reducible refine W_condT ?_ ?_); (· rfl)
      | (with_reducible refine W_condF ?_ ?_); (· rfl)
      | with_reducible refine W_block ?_
      | clear hK K; (with_reducible refine hK _ ?_); clear hK K
      | clear hK K; clear hK K; (with_reducible refine hK _ ?_); clear hK K
      | clear hK K; clear hK K; clear hK K; (with_reducible refine hK _ ?_); clear hK K
      | (with_reducible refine And.intro ?_ ?_); (· first | omega | decide)
      | (try first | ((with_reducible refine W_reg ?_ ?_); (· rfl)) | (with_reducible refine W_exit ?_) | (with_reducible refine W_ret ?_)); simp only [go_sem, Nat.reduceEqDiff, ↓reduceIte, reduceIte, Nat.reduceAdd, Nat.reduceMul, Nat.reduceSub, Nat.reduceLeDiff, Nat.reduceBEq, Nat.reduceBNe, Int.reduceNeg, Int.reduceLT, Int.reduceLE, Int.reduceAdd, Int.reduceSub, Int.reduceToNat, Int.reduceEq, Int.reduceBEq, reduceCtorEq, Int.reduceBNe])
    refine stop_call (ok_ok _ b s1) ?_ ?_
    · first | trivial | (simp only [go_sem, Nat.reduceEqDiff, ↓reduceIte, reduceIte, Nat.reduceAdd, Nat.reduceMul, Nat.reduceSub, Nat.reduceLeDiff, Nat.reduceBEq, Nat.reduceBNe, Int.reduceNeg, Int.reduceLT, Int.reduceLE, Int.reduceAdd, Int.reduceSub, Int.reduceToNat, Int.reduceEq, Int.reduceBEq, reduceCtorEq, Int.reduceBNe]; done)
    repeat (first
      | with_reducible refine W_seq fun K hK => ?_
      | (with_reducible refine hK _ ?_); clear hK K
      | (with_reducible refine W_skipK hK ?_); clear hK K
      | (with_reducible refine W_condT ?_ ?_); (· rfl)
      | (with_reducible refine W_condF ?_ ?_); (· rfl)
      | with_reducible refine W_block ?_
      | clear hK K; (with_reducible refine hK _ ?_); clear hK K
      | clear hK K; clear hK K; (with_reducible refine hK _ ?_); clear hK K
      | clear hK K; clear hK K; clear hK K; (with_reducible refine hK _ ?_); clear hK K
      | (with_reducible refine And.intro ?_ ?_); (· first | omega | decide)
      | (try first | ((with_reducible refine W_reg ?_ ?_); (· rfl)) | (with_reducible refine W_exit ?_) | (with_reducible refine W_ret ?_)); simp only [go_sem, Nat.reduceEqDiff, ↓reduceIte, reduceIte, Nat.reduceAdd, Nat.reduceMul, Nat.reduceSub, Nat.reduceLeDiff, Nat.reduceBEq, Nat.reduceBNe, Int.reduceNeg, Int.reduceLT, Int.reduceLE, Int.reduceAdd, Int.reduceSub, Int.reduceToNat, Int.reduceEq, Int.reduceBEq, reduceCtorEq, Int.reduceBNe, f1])
    rw [sq_none]
    refine ends_ret ?_ (HLe.refl _)
    simp only [go_sem, Nat.reduceEqDiff, ↓reduceIte, reduceIte, Nat.reduceAdd, Nat.reduceMul, Nat.reduceSub, Nat.reduceLeDiff, Nat.reduceBEq, Nat.reduceBNe, Int.reduceNeg, Int.reduceLT, Int.reduceLE, Int.reduceAdd, Int.reduceSub, Int.reduceToNat, Int.reduceEq, Int.reduceBEq, reduceCtorEq, Int.reduceBNe, Try.f76]
  · have f1 : (!s1.bad) = true := by simpa using c1
    rw [if_neg c1]
    by_cases c2 : n < 0
    · have f2 : decide (n < 0) = true := by simpa using c2
      rw [if_pos (.inl c2)]
      refine ⟨⟨_, Try.func76, by decide, rfl⟩, (by simp <;> repeat first | exact ⟨[_, _], rfl⟩ | constructor), fun h hr => callsA_of_W Try.func76 rfl fun hfr => ?_⟩
      have hb := hr.1; simp only [Rd.enc] at hb
      repeat (first
        | with_reducible refine W_seq fun K hK => ?_
        | (with_reducible refine hK _ ?_); clear hK K
        | (with_reducible refine W_skipK hK ?_); clear hK K
        | (with_reducible refine W_condT ?_ ?_); (· rfl)
        | (with_reducible refine W_condF ?_ ?_); (· rfl)
        | with_reducible refine W_block ?_
        | clear hK K; (with_reducible refine hK _ ?_); clear hK K
        | clear hK K; clear hK K; (with_reducible refine hK _ ?_); clear hK K
        | clear hK K; clear hK K; clear hK K; (with_reducible refine hK _ ?_); clear hK K
        | (with_reducible refine And.intro ?_ ?_); (· first | omega | decide)
        | (try first | ((with_reducible refine W_reg ?_ ?_); (· rfl)) | (with_reducible refine W_exit ?_) | (with_reducible refine W_ret ?_)); simp only [go_sem, Nat.reduceEqDiff, ↓reduceIte, reduceIte, Nat.reduceAdd, Nat.reduceMul, Nat.reduceSub, Nat.reduceLeDiff, Nat.reduceBEq, Nat.reduceBNe, Int.reduceNeg, Int.reduceLT, Int.reduceLE, Int.reduceAdd, Int.reduceSub, Int.reduceToNat, Int.reduceEq, Int.reduceBEq, reduceCtorEq, Int.reduceBNe])
      refine stop_call (hnum _) ?_ ?_
      · first | trivial | (simp only [go_sem, Nat.reduceEqDiff, ↓reduceIte, reduceIte, Nat.reduceAdd, Nat.reduceMul, Nat.reduceSub, Nat.reduceLeDiff, Nat.reduceBEq, Nat.reduceBNe, Int.reduceNeg, Int.reduceLT, Int.reduceLE, Int.reduceAdd, Int.reduceSub, Int.reduceToNat, Int.reduceEq, Int.reduceBEq, reduceCtorEq, Int.reduceBNe, hb, Rd.enc]; done)
      repeat (first
        | with_reducible refine W_seq fun K hK => ?_
        | (with_reducible refine hK _ ?_); clear hK K
        | (with_reducible refine W_skipK hK ?_); clear hK K
        | (with_reducible refine W_condT ?_ ?_); (· rfl)
        | (with_reducible refine W_condF ?_ ?_); (· rfl)
        | with_reducible refine W_block ?_
        | clear hK K; (with_reducible refine hK _ ?_); clear hK K
        | clear hK K; clear hK K; (with_reducible refine hK _ ?_); clear hK K
        | clear hK K; clear hK K; clear hK K; (with_reducible refine hK _ ?_); clear hK K
        | (with_reducible refine And.intro ?_ ?_); (· first | omega | decide)
        | (try first | ((with_reducible refine W_reg ?_ ?_); (· rfl)) | (with_reducible refine W_exit ?_) | (with_reducible refine W_ret ?_)); simp only [go_sem, Nat.reduceEqDiff, ↓reduceIte, reduceIte, Nat.reduceAdd, Nat.reduceMul, Nat.reduceSub, Nat.reduceLeDiff, Nat.reduceBEq, Nat.reduceBNe, Int.reduceNeg, Int.reduceLT, Int.reduceLE, Int.reduceAdd, Int.reduceSub, Int.reduceToNat, Int.reduceEq, Int.reduceBEq, reduceCtorEq, Int.reduceBNe])
      refine stop_call (ok_ok _ b s1) ?_ ?_
      · first | trivial | (simp only [go_sem, Nat.reduceEqDiff, ↓reduceIte, reduceIte, Nat.reduceAdd, Nat.reduceMul, Nat.reduceSub, Nat.reduceLeDiff, Nat.reduceBEq, Nat.reduceBNe, Int.reduceNeg, Int.reduceLT, Int.reduceLE, Int.reduceAdd, Int.reduceSub, Int.reduceToNat, Int.reduceEq, Int.reduceBEq, reduceCtorEq, Int.reduceBNe]; done)
      repeat (first
        | with_reducible refine W_seq fun K hK => ?_
        | (with_reducible refine hK _ ?_); clear hK K
        | (with_reducible refine W_skipK hK ?_); clear hK K
        | (with_reducible refine W_condT ?_ ?_); (· rfl)
        | (with_reducible refine W_condF ?_ ?_); (· rfl)
        | with_reducible refine W_block ?_
        | clear hK K; (with_reducible refine hK _ ?_); clear hK K
        | clear hK K; clear hK K; (with_reducible refine hK _ ?_); clear hK K
        | clear hK K; clear hK K; clear hK K; (with_reducible refine hK _ ?_); clear hK K
        | (with_reducible refine And.intro ?_ ?_); (· first | omega | decide)
        | (try first | ((with_reducible refine W_reg ?_ ?_); (· rfl)) | (with_reducible refine W_exit ?_) | (with_reducible refine W_ret ?_)); simp only [go_sem, Nat.reduceEqDiff, ↓reduceIte, reduceIte, Nat.reduceAdd, Nat.reduceMul, Nat.reduceSub, Nat.reduceLeDiff, Nat.reduceBEq, Nat.reduceBNe, Int.reduceNeg, Int.reduceLT, Int.reduceLE, Int.reduceAdd, Int.reduceSub, Int.reduceToNat, Int.reduceEq, Int.reduceBEq, reduceCtorEq, Int.reduceBNe, f1, f2])
      refine stop_call (fail_ok _ b s1) ?_ ?_
      · first | trivial | (simp only [go_sem, Nat.reduceEqDiff, ↓reduceIte, reduceIte, Nat.reduceAdd, Nat.reduceMul, Nat.reduceSub, Nat.reduceLeDiff, Nat.reduceBEq, Nat.reduceBNe, Int.reduceNeg, Int.reduceLT, Int.reduceLE, Int.reduceAdd, Int.reduceSub, Int.reduceToNat, Int.reduceEq, Int.reduceBEq, reduceCtorEq, Int.reduceBNe]; done)
      repeat (first
        | with_reducible refine W_seq fun K hK => ?_
        | (with_reducible refine hK _ ?_); clear hK K
        | (with_reducible refine W_skipK hK ?_); clear hK K
        | (with_reducible refine W_condT ?_ ?_); (· rfl)
        | (with_reducible refine W_condF ?_ ?_); (· rfl)
        | with_reducible refine W_block ?_
        | clear hK K; (with_reducible refine hK _ ?_); clear hK K
        | clear hK K; clear hK K; (with_reducible refine hK _ ?_); clear hK K
        | clear hK K; clear hK K; clear hK K; (with_reducible refine hK _ ?_); clear hK K
        | (with_reducible refine And.intro ?_ ?_); (· first | omega | decide)
        | (try first | ((with_reducible refine W_reg ?_ ?_); (· rfl)) | (with_reducible refine W_exit ?_) | (with_reducible refine W_ret ?_)); simp only [go_sem, Nat.reduceEqDiff, ↓reduceIte, reduceIte, Nat.reduceAdd, Nat.reduceMul, Nat.reduceSub, Nat.reduceLeDiff, Nat.reduceBEq, Nat.reduceBNe, Int.reduceNeg, Int.reduceLT, Int.reduceLE, Int.reduceAdd, Int.reduceSub, Int.reduceToNat, Int.reduceEq, Int.reduceBEq, reduceCtorEq, Int.reduceBNe])
      rw [sq_none]
      refine ends_ret ?_ (hle_set1 (by simp only [go_sem, Nat.reduceEqDiff, ↓reduceIte, reduceIte, Nat.reduceAdd, Nat.reduceMul, Nat.reduceSub, Nat.reduceLeDiff, Nat.reduceBEq, Nat.reduceBNe, Int.reduceNeg, Int.reduceLT, Int.reduceLE, Int.reduceAdd, Int.reduceSub, Int.reduceToNat, Int.reduceEq, Int.reduceBEq, reduceCtorEq, Int.reduceBNe, Rd.enc]) (fun c hc hn => by simp only [go_sem, Nat.reduceEqDiff, ↓reduceIte, reduceIte, Nat.reduceAdd, Nat.reduceMul, Nat.reduceSub, Nat.reduceLeDiff, Nat.reduceBEq, Nat.reduceBNe, Int.reduceNeg, Int.reduceLT, Int.reduceLE, Int.reduceAdd, Int.reduceSub, Int.reduceToNat, Int.reduceEq, Int.reduceBEq, reduceCtorEq, Int.reduceBNe, hc]))
      simp only [go_sem, Nat.reduceEqDiff, ↓reduceIte, reduceIte, Nat.reduceAdd, Nat.reduceMul, Nat.reduceSub, Nat.reduceLeDiff, Nat.reduceBEq, Nat.reduceBNe, Int.reduceNeg, Int.reduceLT, Int.reduceLE, Int.reduceAdd, Int.reduceSub, Int.reduceToNat, Int.reduceEq, Int.reduceBEq, reduceCtorEq, Int.reduceBNe, Try.f76]
    · have f2 : decide (n < 0) = false := by simpa using c2
      by_cases c3 : ((sqL s1.o).length : Int) < n
      · have f3 : decide (n > ((sqL s1.o).length : Int)) = true := by simp; omega
        rw [if_pos (.inr c3)]
        refine ⟨⟨_, Try.func76, by decide, rfl⟩, (by simp <;> repeat first | exact ⟨[_, _], rfl⟩ | constructor), fun h hr => callsA_of_W Try.func76 rfl fun hfr => ?_⟩
        have hb := hr.1; simp only [Rd.enc] at hb
        repeat (first
          | with_reducible refine W_seq fun K hK => ?_
          | (with_reducible refine hK _ ?_); clear hK K
          | (with_reducible refine W_skipK hK ?_); clear hK K
          | (with_reducible refine W_condT ?_ ?_); (· rfl)
          | (with_reducible refine W_condF ?_ ?_); (· rfl)
          | with_reducible refine W_block ?_
          | clear hK K; (with_reducible refine hK _ ?_); clear hK K
          | clear hK K; clear hK K; (with_reducible refine hK _ ?_); clear hK K
          | clear hK K; clear hK K; clear hK K; (with_reducible refine hK _ ?_); clear hK K
          | (with_reducible refine And.intro ?_ ?_); (· first | omega | decide)
          | (try first | ((with_reducible refine W_reg ?_ ?_); (· rfl)) | (with_reducible refine W_exit ?_) | (with_reducible refine W_ret ?_)); simp only [go_sem, Nat.reduceEqDiff, ↓reduceIte, reduceIte, Nat.reduceAdd, Nat.reduceMul, Nat.reduceSub, Nat.reduceLeDiff, Nat.reduceBEq, Nat.reduceBNe, Int.reduceNeg, Int.reduceLT, Int.reduceLE, Int.reduceAdd, Int.reduceSub, Int.reduceToNat, Int.reduceEq, Int.reduceBEq, reduceCtorEq, Int.reduceBNe])
        refine stop_call (hnum _) ?_ ?_
        · first | trivial | (simp only [go_sem, Nat.reduceEqDiff, ↓reduceIte, reduceIte, Nat.reduceAdd, Nat.reduceMul, Nat.reduceSub, Nat.reduceLeDiff, Nat.reduceBEq, Nat.reduceBNe, Int.reduceNeg, Int.reduceLT, Int.reduceLE, Int.reduceAdd, Int.reduceSub, Int.reduceToNat, Int.reduceEq, Int.reduceBEq, reduceCtorEq, Int.reduceBNe, hb, Rd.enc]; done)
        repeat (first
          | with_reducible refine W_seq fun K hK => ?_
          | (with_reducible refine hK _ ?_); clear hK K
          | (with_reducible refine W_skipK hK ?_); clear hK K
          | (with_reducible refine W_condT ?_ ?_); (· rfl)
          | (with_reducible refine W_condF ?_ ?_); (· rfl)
          | with_reducible refine W_block ?_
          | clear hK K; (with_reducible refine hK _ ?_); clear hK K
          | clear hK K; clear hK K; (with_reducible refine hK _ ?_); clear hK K
          | clear hK K; clear hK K; clear hK K; (with_reducible refine hK _ ?_); clear hK K
          | (with_reducible refine And.intro ?_ ?_); (· first | omega | decide)
          | (try first | ((with_reducible refine W_reg ?_ ?_); (· rfl)) | (with_reducible refine W_exit ?_) | (with_reducible refine W_ret ?_)); simp only [go_sem, Nat.reduceEqDiff, ↓reduceIte, reduceIte, Nat.reduceAdd, Nat.reduceMul, Nat.reduceSub, Nat.reduceLeDiff, Nat.reduceBEq, Nat.reduceBNe, Int.reduceNeg, Int.reduceLT, Int.reduceLE, Int.reduceAdd, Int.reduceSub, Int.reduceToNat, Int.reduceEq, Int.reduceBEq, reduceCtorEq, Int.reduceBNe])
        refine stop_call (ok_ok _ b s1) ?_ ?_
        · first | trivial | (simp only [go_sem, Nat.reduceEqDiff, ↓reduceIte, reduceIte, Nat.reduceAdd, Nat.reduceMul, Nat.reduceSub, Nat.reduceLeDiff, Nat.reduceBEq, Nat.reduceBNe, Int.reduceNeg, Int.reduceLT, Int.reduceLE, Int.reduceAdd, Int.reduceSub, Int.reduceToNat, Int.reduceEq, Int.reduceBEq, reduceCtorEq, Int.reduceBNe]; done)
        repeat (first
          | with_reducible refine W_seq fun K hK => ?_
          | (with_reducible refine hK _ ?_); clear hK K
          | (with_reducible refine W_skipK hK ?_); clear hK K
          | (with_reducible refine W_condT ?_ ?_); (· rfl)
          | (with_reducible refine W_condF ?_ ?_); (· rfl)
          | with_reducible refine W_block ?_
          | clear hK K; (with_reducible refine hK _ ?_); clear hK K
          | clear hK K; clear hK K; (with_reducible refine hK _ ?_); clear hK K
          | clear hK K; clear hK K; clear hK K; (with_reducible refine hK _ ?_); clear hK K
          | (with_reducible refine And.intro ?_ ?_); (· first | omega | decide)
          | (try first | ((with_reducible refine W_reg ?_ ?_); (· rfl)) | (with_reducible refine W_exit ?_) | (with_reducible refine W_ret ?_)); simp only [go_sem, Nat.reduceEqDiff, ↓reduceIte, reduceIte, Nat.reduceAdd, Nat.reduceMul, Nat.reduceSub, Nat.reduceLeDiff, Nat.reduceBEq, Nat.reduceBNe, Int.reduceNeg, Int.reduceLT, Int.reduceLE, Int.reduceAdd, Int.reduceSub, Int.reduceToNat, Int.reduceEq, Int.reduceBEq, reduceCtorEq, Int.reduceBNe, f1, f2, f3, Rd.enc])
        refine stop_call (fail_ok _ b s1) ?_ ?_
        · first | trivial | (simp only [go_sem, Nat.reduceEqDiff, ↓reduceIte, reduceIte, Nat.reduceAdd, Nat.reduceMul, Nat.reduceSub, Nat.reduceLeDiff, Nat.reduceBEq, Nat.reduceBNe, Int.reduceNeg, Int.reduceLT, Int.reduceLE, Int.reduceAdd, Int.reduceSub, Int.reduceToNat, Int.reduceEq, Int.reduceBEq, reduceCtorEq, Int.reduceBNe, Rd.enc]; done)
        repeat (first
          | with_reducible refine W_seq fun K hK => ?_
          | (with_reducible refine hK _ ?_); clear hK K
          | (with_reducible refine W_skipK hK ?_); clear hK K
          | (with_reducible refine W_condT ?_ ?_); (· rfl)
          | (with_reducible refine W_condF ?_ ?_); (· rfl)
          | with_reducible refine W_block ?_
          | clear hK K; (with_reducible refine hK _ ?_); clear hK K
          | clear hK K; clear hK K; (with_reducible refine hK _ ?_); clear hK K
          | clear hK K; clear hK K; clear hK K; (with_reducible refine hK _ ?_); clear hK K
          | (with_reducible refine And.intro ?_ ?_); (· first | omega | decide)
          | (try first | ((with_reducible refine W_reg ?_ ?_); (· rfl)) | (with_reducible refine W_exit ?_) | (with_reducible refine W_ret ?_)); simp only [go_sem, Nat.reduceEqDiff, ↓reduceIte, reduceIte, Nat.reduceAdd, Nat.reduceMul, Nat.reduceSub, Nat.reduceLeDiff, Nat.reduceBEq, Nat.reduceBNe, Int.reduceNeg, Int.reduceLT, Int.reduceLE, Int.reduceAdd, Int.reduceSub, Int.reduceToNat, Int.reduceEq, Int.reduceBEq, reduceCtorEq, Int.reduceBNe])
        rw [sq_none]
        refine ends_ret ?_ (hle_set1 (by simp only [go_sem, Nat.reduceEqDiff, ↓reduceIte, reduceIte, Nat.reduceAdd, Nat.reduceMul, Nat.reduceSub, Nat.reduceLeDiff, Nat.reduceBEq, Nat.reduceBNe, Int.reduceNeg, Int.reduceLT, Int.reduceLE, Int.reduceAdd, Int.reduceSub, Int.reduceToNat, Int.reduceEq, Int.reduceBEq, reduceCtorEq, Int.reduceBNe, Rd.enc]) (fun c hc hn => by simp only [go_sem, Nat.reduceEqDiff, ↓reduceIte, reduceIte, Nat.reduceAdd, Nat.reduceMul, Nat.reduceSub, Nat.reduceLeDiff, Nat.reduceBEq, Nat.reduceBNe, Int.reduceNeg, Int.reduceLT, Int.reduceLE, Int.reduceAdd, Int.reduceSub, Int.reduceToNat, Int.reduceEq, Int.reduceBEq, reduceCtorEq, Int.reduceBNe, hc]))
        simp only [go_sem, Nat.reduceEqDiff, ↓reduceIte, reduceIte, Nat.reduceAdd, Nat.reduceMul, Nat.reduceSub, Nat.reduceLeDiff, Nat.reduceBEq, Nat.reduceBNe, Int.reduceNeg, Int.reduceLT, Int.reduceLE, Int.reduceAdd, Int.reduceSub, Int.reduceToNat, Int.reduceEq, Int.reduceBEq, reduceCtorEq, Int.reduceBNe, Try.f76]
      · have f3 : decide (n > ((sqL s1.o).length : Int)) = false := by simp; omega
        rw [if_neg (by omega)]
        refine ⟨⟨_, Try.func76, by decide, rfl⟩, (by simp <;> repeat first | exact ⟨[_, _], rfl⟩ | constructor), fun h hr => callsA_of_W Try.func76 rfl fun hfr => ?_⟩
        have hb := hr.1; simp only [Rd.enc] at hb
        repeat (first
          | with_reducible refine W_seq fun K hK => ?_
          | (with_reducible refine hK _ ?_); clear hK K
          | (with_reducible refine W_skipK hK ?_); clear hK K
          | (with_reducible refine W_condT ?_ ?_); (· rfl)
          | (with_reducible refine W_condF ?_ ?_); (· rfl)
          | with_reducible refine W_block ?_
          | clear hK K; (with_reducible refine hK _ ?_); clear hK K
          | clear hK K; clear hK K; (with_reducible refine hK _ ?_); clear hK K
          | clear hK K; clear hK K; clear hK K; (with_reducible refine hK _ ?_); clear hK K
          | (with_reducible refine And.intro ?_ ?_); (· first | omega | decide)
          | (try first | ((with_reducible refine W_reg ?_ ?_); (· rfl)) | (with_reducible refine W_exit ?_) | (with_reducible refine W_ret ?_)); simp only [go_sem, Nat.reduceEqDiff, ↓reduceIte, reduceIte, Nat.reduceAdd, Nat.reduceMul, Nat.reduceSub, Nat.reduceLeDiff, Nat.reduceBEq, Nat.reduceBNe, Int.reduceNeg, Int.reduceLT, Int.reduceLE, Int.reduceAdd, Int.reduceSub, Int.reduceToNat, Int.reduceEq, Int.reduceBEq, reduceCtorEq, Int.reduceBNe])
        refine stop_call (hnum _) ?_ ?_
        · first | trivial | (simp only [go_sem, Nat.reduceEqDiff, ↓reduceIte, reduceIte, Nat.reduceAdd, Nat.reduceMul, Nat.reduceSub, Nat.reduceLeDiff, Nat.reduceBEq, Nat.reduceBNe, Int.reduceNeg, Int.reduceLT, Int.reduceLE, Int.reduceAdd, Int.reduceSub, Int.reduceToNat, Int.reduceEq, Int.reduceBEq, reduceCtorEq, Int.reduceBNe, hb, Rd.enc]; done)
        repeat (first
          | with_reducible refine W_seq fun K hK => ?_
          | (with_reducible refine hK _ ?_); clear hK K
          | (with_reducible refine W_skipK hK ?_); clear hK K
          | (with_reducible refine W_condT ?_ ?_); (· rfl)
          | (with_reducible refine W_condF ?_ ?_); (· rfl)
          | with_reducible refine W_block ?_
          | clear hK K; (with_reducible refine hK _ ?_); clear hK K
          | clear hK K; clear hK K; (with_reducible refine hK _ ?_); clear hK K
          | clear hK K; clear hK K; clear hK K; (with_reducible refine hK _ ?_); clear hK K
          | (with_reducible refine And.intro ?_ ?_); (· first | omega | decide)
          | (try first | ((with_reducible refine W_reg ?_ ?_); (· rfl)) | (with_reducible refine W_exit ?_) | (with_reducible refine W_ret ?_)); simp only [go_sem, Nat.reduceEqDiff, ↓reduceIte, reduceIte, Nat.reduceAdd, Nat.reduceMul, Nat.reduceSub, Nat.reduceLeDiff, Nat.reduceBEq, Nat.reduceBNe, Int.reduceNeg, Int.reduceLT, Int.reduceLE, Int.reduceAdd, Int.reduceSub, Int.reduceToNat, Int.reduceEq, Int.reduceBEq, reduceCtorEq, Int.reduceBNe])
        refine stop_call (ok_ok _ b s1) ?_ ?_
        · first | trivial | (simp only [go_sem, Nat.reduceEqDiff, ↓reduceIte, reduceIte, Nat.reduceAdd, Nat.reduceMul, Nat.reduceSub, Nat.reduceLeDiff, Nat.reduceBEq, Nat.reduceBNe, Int.reduceNeg, Int.reduceLT, Int.reduceLE, Int.reduceAdd, Int.reduceSub, Int.reduceToNat, Int.reduceEq, Int.reduceBEq, reduceCtorEq, Int.reduceBNe]; done)
        repeat (first
          | with_reducible refine W_seq fun K hK => ?_
          | (with_reducible refine hK _ ?_); clear hK K
          | (with_reducible refine W_skipK hK ?_); clear hK K
          | (with_reducible refine W_condT ?_ ?_); (· rfl)
          | (with_reducible refine W_condF ?_ ?_); (· rfl)
          | with_reducible refine W_block ?_
          | clear hK K; (with_reducible refine hK _ ?_); clear hK K
          | clear hK K; clear hK K; (with_reducible refine hK _ ?_); clear hK K
          | clear hK K; clear hK K; clear hK K; (with_reducible refine hK _ ?_); clear hK K
          | (with_reducible refine And.intro ?_ ?_); (· first | omega | decide)
          | (try first | ((with_reducible refine W_reg ?_ ?_); (· rfl)) | (with_reducible refine W_exit ?_) | (with_reducible refine W_ret ?_)); simp only [go_sem, Nat.reduceEqDiff, ↓reduceIte, reduceIte, Nat.reduceAdd, Nat.reduceMul, Nat.reduceSub, Nat.reduceLeDiff, Nat.reduceBEq, Nat.reduceBNe, Int.reduceNeg, Int.reduceLT, Int.reduceLE, Int.reduceAdd, Int.reduceSub, Int.reduceToNat, Int.reduceEq, Int.reduceBEq, reduceCtorEq, Int.reduceBNe, f1, f2, f3, Rd.enc])
        refine sliceW_sq 0 n.toNat ty24.2.2.2.1 ty5.2.1 bE_len rfl (by simp only [bndA]; congr 1; omega) (by omega) (by omega) ?_
        have ho1 : (s1.o.map fun x => (x.drop 0).take (n.toNat - 0)) = cut n.toNat s1.o := by cases s1.o <;> simp [cut]
        rw [ho1]
        simp only [go_sem, Nat.reduceEqDiff, ↓reduceIte, reduceIte, Nat.reduceAdd, Nat.reduceMul, Nat.reduceSub, Nat.reduceLeDiff, Nat.reduceBEq, Nat.reduceBNe, Int.reduceNeg, Int.reduceLT, Int.reduceLE, Int.reduceAdd, Int.reduceSub, Int.reduceToNat, Int.reduceEq, Int.reduceBEq, reduceCtorEq, Int.reduceBNe]
        refine stop_call (clone_ok _ (cut n.toNat s1.o) (by rw [sqL_cut]; simp; omega)) trivial ?_
        repeat (first
          | with_reducible refine W_seq fun K hK => ?_
          | (with_reducible refine hK _ ?_); clear hK K
          | (with_reducible refine W_skipK hK ?_); clear hK K
          | (with_reducible refine W_condT ?_ ?_); (· rfl)
          | (with_reducible refine W_condF ?_ ?_); (· rfl)
          | with_reducible refine W_block ?_
          | clear hK K; (with_reducible refine hK _ ?_); clear hK K
          | clear hK K; clear hK K; (with_reducible refine hK _ ?_); clear hK K
          | clear hK K; clear hK K; clear hK K; (with_reducible refine hK _ ?_); clear hK K
          | (with_reducible refine And.intro ?_ ?_); (· first | omega | decide)
          | (try first | ((with_reducible refine W_reg ?_ ?_); (· rfl)) | (with_reducible refine W_exit ?_) | (with_reducible refine W_ret ?_)); simp only [go_sem, Nat.reduceEqDiff, ↓reduceIte, reduceIte, Nat.reduceAdd, Nat.reduceMul, Nat.reduceSub, Nat.reduceLeDiff, Nat.reduceBEq, Nat.reduceBNe, Int.reduceNeg, Int.reduceLT, Int.reduceLE, Int.reduceAdd, Int.reduceSub, Int.reduceToNat, Int.reduceEq, Int.reduceBEq, reduceCtorEq, Int.reduceBNe])
        refine sliceW_sq n.toNat (sqL s1.o).length ty24.2.2.2.1 ty5.2.1 bE_len (by simp only [bndA]; congr 1; omega) rfl (by omega) (by omega) ?_
        have ho2 : (s1.o.map fun x => (x.drop n.toNat).take ((sqL s1.o).length - n.toNat)) = dropB n.toNat s1.o := by
          cases s1.o with
          | none => rfl
          | some z => simp only [dropB, sqL, Option.map_some]; rw [List.take_of_length_le (by simp)]
        rw [ho2]
        repeat (first
          | with_reducible refine W_seq fun K hK => ?_
          | (with_reducible refine hK _ ?_); clear hK K
          | (with_reducible refine W_skipK hK ?_); clear hK K
          | (with_reducible refine W_condT ?_ ?_); (· rfl)
          | (with_reducible refine W_condF ?_ ?_); (· rfl)
          | with_reducible refine W_block ?_
          | clear hK K; (with_reducible refine hK _ ?_); clear hK K
          | clear hK K; clear hK K; (with_reducible refine hK _ ?_); clear hK K
          | clear hK K; clear hK K; clear hK K; (with_reducible refine hK _ ?_); clear hK K
          | (with_reducible refine And.intro ?_ ?_); (· first | omega | decide)
          | (try first | ((with_reducible refine W_reg ?_ ?_); (· rfl)) | (with_reducible refine W_exit ?_) | (with_reducible refine W_ret ?_)); simp only [go_sem, Nat.reduceEqDiff, ↓reduceIte, reduceIte, Nat.reduceAdd, Nat.reduceMul, Nat.reduceSub, Nat.reduceLeDiff, Nat.reduceBEq, Nat.reduceBNe, Int.reduceNeg, Int.reduceLT, Int.reduceLE, Int.reduceAdd, Int.reduceSub, Int.reduceToNat, Int.reduceEq, Int.reduceBEq, reduceCtorEq, Int.reduceBNe])
        refine ends_ret ?_ (hle_set1 (by simp only [go_sem, Nat.reduceEqDiff, ↓reduceIte, reduceIte, Nat.reduceAdd, Nat.reduceMul, Nat.reduceSub, Nat.reduceLeDiff, Nat.reduceBEq, Nat.reduceBNe, Int.reduceNeg, Int.reduceLT, Int.reduceLE, Int.reduceAdd, Int.reduceSub, Int.reduceToNat, Int.reduceEq, Int.reduceBEq, reduceCtorEq, Int.reduceBNe, Rd.enc]) (fun c hc hn => by simp only [go_sem, Nat.reduceEqDiff, ↓reduceIte, reduceIte, Nat.reduceAdd, Nat.reduceMul, Nat.reduceSub, Nat.reduceLeDiff, Nat.reduceBEq, Nat.reduceBNe, Int.reduceNeg, Int.reduceLT, Int.reduceLE, Int.reduceAdd, Int.reduceSub, Int.reduceToNat, Int.reduceEq, Int.reduceBEq, reduceCtorEq, Int.reduceBNe, hc]))
        simp only [go_sem, Nat.reduceEqDiff, ↓reduceIte, reduceIte, Nat.reduceAdd, Nat.reduceMul, Nat.reduceSub, Nat.reduceLeDiff, Nat.reduceBEq, Nat.reduceBNe, Int.reduceNeg, Int.reduceLT, Int.reduceLE, Int.reduceAdd, Int.reduceSub, Int.reduceToNat, Int.reduceEq, Int.reduceBEq, reduceCtorEq, Int.reduceBNe, Try.f76]

set_option maxRecDepth 8000 in
theorem rflag_ok (id b : BId) (s : Rd) (hn : (sqL s.o).length ≤ 1000000000) : CallF Try.prog 77 [.ptr b 0] id [(b, .cells 166 s.enc)] (.p (.bool s.flag.1)) [(b, some (.cells 166 s.flag.2.enc))] := by
  unfold Rd.flag
  cases hl : sqL s.o with
  | nil =>
    have e0 : (((sqL s.o).length : Int) == 0) = true := by rw [hl]; rfl
    refine ⟨⟨_, Try.func77, by decide, rfl⟩, (by simp <;> repeat first | exact ⟨[_, _], rfl⟩ | constructor), fun h hr => callsA_of_W Try.func77 rfl fun hfr => ?_⟩
    have hb := hr.1; simp only [Rd.enc] at hb
    repeat (first
      | with_reducible refine W_seq fun K hK => ?_
      | (with_reducible refine hK _ ?_); clear hK K
      | (with_reducible refine W_skipK hK ?_); clear hK K
      | (with_reducible refine W_condT ?_ ?_); (· rfl)
      | (with_reducible refine W_condF ?_ ?_); (· rfl)
      | with_reducible refine W_block ?_
      | clear hK K; (with_reducible refine hK _ ?_); clear hK K
      | clear hK K; clear hK K; (with_reducible refine hK _ ?_); clear hK K
      | clear hK K; clear hK K; clear hK K; (with_reducible refine hK _ ?_); clear hK K
      | (with_reducible refine And.intro ?_ ?_); (· first | omega | decide)
      | (try first | ((with_reducible refine W_reg ?_ ?_); (· rfl)) | (with_reducible refine W_exit ?_) | (with_reducible refine W_ret ?_)); simp only [go_sem, Nat.reduceEqDiff, ↓reduceIte, reduceIte, Nat.reduceAdd, Nat.reduceMul, Nat.reduceSub, Nat.reduceLeDiff, Nat.reduceBEq, Nat.reduceBNe, Int.reduceNeg, Int.reduceLT, Int.reduceLE, Int.reduceAdd, Int.reduceSub, Int.reduceToNat, Int.reduceEq, Int.reduceBEq, reduceCtorEq, Int.reduceBNe, hb, e0])
    refine stop_call (fail_ok _ b s) ?_ ?_
    · first | trivial | (simp only [go_sem, Nat.reduceEqDiff, ↓reduceIte, reduceIte, Nat.reduceAdd, Nat.reduceMul, Nat.reduceSub, Nat.reduceLeDiff, Nat.reduceBEq, Nat.reduceBNe, Int.reduceNeg, Int.reduceLT, Int.reduceLE, Int.reduceAdd, Int.reduceSub, Int.reduceToNat, Int.reduceEq, Int.reduceBEq, reduceCtorEq, Int.reduceBNe, hb, Rd.enc]; done)
    repeat (first
      | with_reducible refine W_seq fun K hK => ?_
      | (with_reducible refine hK _ ?_); clear hK K
      | (with_reducible refine W_skipK hK ?_); clear hK K
      | (with_reducible refine W_condT ?_ ?_); (· rfl)
      | (with_reducible refine W_condF ?_ ?_); (· rfl)
      | with_reducible refine W_block ?_
      | clear hK K; (with_reducible refine hK _ ?_); clear hK K
      | clear hK K; clear hK K; (with_reducible refine hK _ ?_); clear hK K
      | clear hK K; clear hK K; clear hK K; (with_reducible refine hK _ ?_); clear hK K
      | (with_reducible refine And.intro ?_ ?_); (· first | omega | decide)
      | (try first | ((with_reducible refine W_reg ?_ ?_); (· rfl)) | (with_reducible refine W_exit ?_) | (with_reducible refine W_ret ?_)); simp only [go_sem, Nat.reduceEqDiff, ↓reduceIte, reduceIte, Nat.reduceAdd, Nat.reduceMul, Nat.reduceSub, Nat.reduceLeDiff, Nat.reduceBEq, Nat.reduceBNe, Int.reduceNeg, Int.reduceLT, Int.reduceLE, Int.reduceAdd, Int.reduceSub, Int.reduceToNat, Int.reduceEq, Int.reduceBEq, reduceCtorEq, Int.reduceBNe])
    refine ends_ret ?_ (hle_set1 (by simp only [go_sem, Nat.reduceEqDiff, ↓reduceIte, reduceIte, Nat.reduceAdd, Nat.reduceMul, Nat.reduceSub, Nat.reduceLeDiff, Nat.reduceBEq, Nat.reduceBNe, Int.reduceNeg, Int.reduceLT, Int.reduceLE, Int.reduceAdd, Int.reduceSub, Int.reduceToNat, Int.reduceEq, Int.reduceBEq, reduceCtorEq, Int.reduceBNe, Rd.enc]) (fun c hc hn => by simp only [go_sem, Nat.reduceEqDiff, ↓reduceIte, reduceIte, Nat.reduceAdd, Nat.reduceMul, Nat.reduceSub, Nat.reduceLeDiff, Nat.reduceBEq, Nat.reduceBNe, Int.reduceNeg, Int.reduceLT, Int.reduceLE, Int.reduceAdd, Int.reduceSub, Int.reduceToNat, Int.reduceEq, Int.reduceBEq, reduceCtorEq, Int.reduceBNe, hc]))
    simp only [go_sem, Nat.reduceEqDiff, ↓reduceIte, reduceIte, Nat.reduceAdd, Nat.reduceMul, Nat.reduceSub, Nat.reduceLeDiff, Nat.reduceBEq, Nat.reduceBNe, Int.reduceNeg, Int.reduceLT, Int.reduceLE, Int.reduceAdd, Int.reduceSub, Int.reduceToNat, Int.reduceEq, Int.reduceBEq, reduceCtorEq, Int.reduceBNe, Try.f77]
  | cons c r =>
    have e0 : (((sqL s.o).length : Int) == 0) = false := by rw [hl]; simp <;> omega
    have hl3 : (0 : Int) < ((sqL s.o).length : Int) := by rw [hl]; simp <;> omega
    have hx : (sqL s.o).flatMap bE = .p (.int .u8 c.toNat) :: r.flatMap bE := by rw [hl]; rfl
    simp only
    by_cases c1 : 1 < c.toNat
    · have f1 : decide ((c.toNat : Int) > 1) = true := by simp; omega
      rw [if_pos c1]
      refine ⟨⟨_, Try.func77, by decide, rfl⟩, (by simp <;> repeat first | exact ⟨[_, _], rfl⟩ | constructor), fun h hr => callsA_of_W Try.func77 rfl fun hfr => ?_⟩
      have hb := hr.1; simp only [Rd.enc] at hb
      repeat (first
        | with_reducible refine W_seq fun K hK => ?_
        | (with_reducible refine hK _ ?_); clear hK K
        | (with_reducible refine W_skipK hK ?_); clear hK K
        | (with_reducible refine W_condT ?_ ?_); (· rfl)
        | (with_reducible refine W_condF ?_ ?_); (· rfl)
        | with_reducible refine W_block ?_
        | clear hK K; (with_reducible refine hK _ ?_); clear hK K
        | clear hK K; clear hK K; (with_reducible refine hK _ ?_); clear hK K
        | clear hK K; clear hK K; clear hK K; (with_reducible refine hK _ ?_); clear hK K
        | (with_reducible refine And.intro ?_ ?_); (· first | omega | decide)
        | (try first | ((with_reducible refine W_reg ?_ ?_); (· rfl)) | (with_reducible refine W_exit ?_) | (with_reducible refine W_ret ?_)); simp only [go_sem, Nat.reduceEqDiff, ↓reduceIte, reduceIte, Nat.reduceAdd, Nat.reduceMul, Nat.reduceSub, Nat.reduceLeDiff, Nat.reduceBEq, Nat.reduceBNe, Int.reduceNeg, Int.reduceLT, Int.reduceLE, Int.reduceAdd, Int.reduceSub, Int.reduceToNat, Int.reduceEq, Int.reduceBEq, reduceCtorEq, Int.reduceBNe, hb, e0, hx, f1])
      refine stop_call (fail_ok _ b s) ?_ ?_
      · first | trivial | (simp only [go_sem, Nat.reduceEqDiff, ↓reduceIte, reduceIte, Nat.reduceAdd, Nat.reduceMul, Nat.reduceSub, Nat.reduceLeDiff, Nat.reduceBEq, Nat.reduceBNe, Int.reduceNeg, Int.reduceLT, Int.reduceLE, Int.reduceAdd, Int.reduceSub, Int.reduceToNat, Int.reduceEq, Int.reduceBEq, reduceCtorEq, Int.reduceBNe, hb, Rd.enc]; done)
      repeat (first
        | with_reducible refine W_seq fun K hK => ?_
        | (with_reducible refine hK _ ?_); clear hK K
        | (with_reducible refine W_skipK hK ?_); clear hK K
        | (with_reducible refine W_condT ?_ ?_); (· rfl)
        | (with_reducible refine W_condF ?_ ?_); (· rfl)
        | with_reducible refine W_block ?_
        | clear hK K; (with_reducible refine hK _ ?_); clear hK K
        | clear hK K; clear hK K; (with_reducible refine hK _ ?_); clear hK K
        | clear hK K; clear hK K; clear hK K; (with_reducible refine hK _ ?_); clear hK K
        | (with_reducible refine And.intro ?_ ?_); (· first | omega | decide)
        | (try first | ((with_reducible refine W_reg ?_ ?_); (· rfl)) | (with_reducible refine W_exit ?_) | (with_reducible refine W_ret ?_)); simp only [go_sem, Nat.reduceEqDiff, ↓reduceIte, reduceIte, Nat.reduceAdd, Nat.reduceMul, Nat.reduceSub, Nat.reduceLeDiff, Nat.reduceBEq, Nat.reduceBNe, Int.reduceNeg, Int.reduceLT, Int.reduceLE, Int.reduceAdd, Int.reduceSub, Int.reduceToNat, Int.reduceEq, Int.reduceBEq, reduceCtorEq, Int.reduceBNe])
      refine ends_ret ?_ (hle_set1 (by simp only [go_sem, Nat.reduceEqDiff, ↓reduceIte, reduceIte, Nat.reduceAdd, Nat.reduceMul, Nat.reduceSub, Nat.reduceLeDiff, Nat.reduceBEq, Nat.reduceBNe, Int.reduceNeg, Int.reduceLT, Int.reduceLE, Int.reduceAdd, Int.reduceSub, Int.reduceToNat, Int.reduceEq, Int.reduceBEq, reduceCtorEq, Int.reduceBNe, Rd.enc]) (fun c hc hn => by simp only [go_sem, Nat.reduceEqDiff, ↓reduceIte, reduceIte, Nat.reduceAdd, Nat.reduceMul, Nat.reduceSub, Nat.reduceLeDiff, Nat.reduceBEq, Nat.reduceBNe, Int.reduceNeg, Int.reduceLT, Int.reduceLE, Int.reduceAdd, Int.reduceSub, Int.reduceToNat, Int.reduceEq, Int.reduceBEq, reduceCtorEq, Int.reduceBNe, hc]))
      simp only [go_sem, Nat.reduceEqDiff, ↓reduceIte, reduceIte, Nat.reduceAdd, Nat.reduceMul, Nat.reduceSub, Nat.reduceLeDiff, Nat.reduceBEq, Nat.reduceBNe, Int.reduceNeg, Int.reduceLT, Int.reduceLE, Int.reduceAdd, Int.reduceSub, Int.reduceToNat, Int.reduceEq, Int.reduceBEq, reduceCtorEq, Int.reduceBNe, Try.f77]
    · have f1 : decide ((c.toNat : Int) > 1) = false := by simp; omega
      rw [if_neg c1]
      refine ⟨⟨_, Try.func77, by decide, rfl⟩, (by simp <;> repeat first | exact ⟨[_, _], rfl⟩ | constructor), fun h hr => callsA_of_W Try.func77 rfl fun hfr => ?_⟩
      have hb := hr.1; simp only [Rd.enc] at hb
      repeat (first
        | with_reducible refine W_seq fun K hK => ?_
        | (with_reducible refine hK _ ?_); clear hK K
        | (with_reducible refine W_skipK hK ?_); clear hK K
        | (with_reducible refine W_condT ?_ ?_); (· rfl)
        | (with_reducible refine W_condF ?_ ?_); (· rfl)
        | with_reducible refine W_block ?_
        | clear hK K; (with_reducible refine hK _ ?_); clear hK K
        | clear hK K; clear hK K; (with_reducible refine hK _ ?_); clear hK K
        | clear hK K; clear hK K; clear hK K; (with_reducible refine hK _ ?_); clear hK K
        | (with_reducible refine And.intro ?_ ?_); (· first | omega | decide)
        | (try first | ((with_reducible refine W_reg ?_ ?_); (· rfl)) | (with_reducible refine W_exit ?_) | (with_reducible refine W_ret ?_)); simp only [go_sem, Nat.reduceEqDiff, ↓reduceIte, reduceIte, Nat.reduceAdd, Nat.reduceMul, Nat.reduceSub, Nat.reduceLeDiff, Nat.reduceBEq, Nat.reduceBNe, Int.reduceNeg, Int.reduceLT, Int.reduceLE, Int.reduceAdd, Int.reduceSub, Int.reduceToNat, Int.reduceEq, Int.reduceBEq, reduceCtorEq, Int.reduceBNe, hb, e0, hx, f1])
      refine sliceW_sq 1 (sqL s.o).length ty24.2.2.2.1 ty5.2.1 bE_len rfl rfl (by omega) (by omega) ?_
      have ho3 : (s.o.map fun x => (x.drop 1).take ((sqL s.o).length - 1)) = some r := by
        cases hso : s.o with
        | none => rw [hso] at hl; simp [sqL] at hl
        | some z => rw [hso] at hl; simp only [sqL] at hl; subst hl; simp [sqL]
      rw [ho3]
      repeat (first
        | with_reducible refine W_seq fun K hK => ?_
        | (with_reducible refine hK _ ?_); clear hK K
        | (with_reducible refine W_skipK hK ?_); clear hK K
        | (with_reducible refine W_condT ?_ ?_); (· rfl)
        | (with_reducible refine W_condF ?_ ?_); (· rfl)
        | with_reducible refine W_block ?_
        | clear hK K; (with_reducible refine hK _ ?_); clear hK K
        | clear hK K; clear hK K; (with_reducible refine hK _ ?_); clear hK K
        | clear hK K; clear hK K; clear hK K; (with_reducible refine hK _ ?_); clear hK K
        | (with_reducible refine And.intro ?_ ?_); (· first | omega | decide)
        | (try first | ((with_reducible refine W_reg ?_ ?_); (· rfl)) | (with_reducible refine W_exit ?_) | (with_reducible refine W_ret ?_)); simp only [go_sem, Nat.reduceEqDiff, ↓reduceIte, reduceIte, Nat.reduceAdd, Nat.reduceMul, Nat.reduceSub, Nat.reduceLeDiff, Nat.reduceBEq, Nat.reduceBNe, Int.reduceNeg, Int.reduceLT, Int.reduceLE, Int.reduceAdd, Int.reduceSub, Int.reduceToNat, Int.reduceEq, Int.reduceBEq, reduceCtorEq, Int.reduceBNe, hb])
      have e1 : ((c.toNat : Int) == 1) = (c.toNat == 1) := by
        by_cases q : c.toNat = 1
        · simp [q]
        · have : ((c.toNat : Int) == 1) = false := by simp; omega
          rw [this]; simp [q]
      refine ends_ret ?_ (hle_set1 (by simp only [go_sem, Nat.reduceEqDiff, ↓reduceIte, reduceIte, Nat.reduceAdd, Nat.reduceMul, Nat.reduceSub, Nat.reduceLeDiff, Nat.reduceBEq, Nat.reduceBNe, Int.reduceNeg, Int.reduceLT, Int.reduceLE, Int.reduceAdd, Int.reduceSub, Int.reduceToNat, Int.reduceEq, Int.reduceBEq, reduceCtorEq, Int.reduceBNe, Rd.enc]) (fun c hc hn => by simp only [go_sem, Nat.reduceEqDiff, ↓reduceIte, reduceIte, Nat.reduceAdd, Nat.reduceMul, Nat.reduceSub, Nat.reduceLeDiff, Nat.reduceBEq, Nat.reduceBNe, Int.reduceNeg, Int.reduceLT, Int.reduceLE, Int.reduceAdd, Int.reduceSub, Int.reduceToNat, Int.reduceEq, Int.reduceBEq, reduceCtorEq, Int.reduceBNe, hc]))
      simp only [go_sem, Nat.reduceEqDiff, ↓reduceIte, reduceIte, Nat.reduceAdd, Nat.reduceMul, Nat.reduceSub, Nat.reduceLeDiff, Nat.reduceBEq, Nat.reduceBNe, Int.reduceNeg, Int.reduceLT, Int.reduceLE, Int.reduceAdd, Int.reduceSub, Int.reduceToNat, Int.reduceEq, Int.reduceBEq, reduceCtorEq, Int.reduceBNe, Try.f77, e1]
end Go.Proofs.Ytmpndjpaelcnkaa
