/- The beginning of the client's laws. -/
import Derived.Test.YtmpndjpaelcnkaaB22
set_option linter.unusedVariables false
set_option linter.unusedSimpArgs false
namespace Go.Proofs.Ytmpndjpaelcnkaa
open Go Go.SX

def cl1 : Cl := ⟨2, 1, true, ⟨2, 2, 1, [112]⟩, 0⟩
def rp1 : Rp := ⟨0, true, none⟩
def mg1 : Mg := ⟨11, 3, 102, 0, 1, 0, 0, none, true, 0, none, some [0, 1, 0], 0, 0, 0⟩
theorem d1 : callC (Cl.new 2) 2 [112] = ((⟨2, 2, 1, [112]⟩, 0), cl1) := by rfl
theorem d2 : askC cl1 3 = (⟨10, 102, 3, 0, 1, 0, 0, none, false, 0, none, (encC ⟨2, 2, 1, [112]⟩).1, 0, 0, 0⟩, true) := by rfl
theorem d3 : repB rp1 = [0, 1, 0] := by decide
theorem d4 : readP (some [0, 1, 0]) = (rp1, 0) := by decide +kernel
theorem d5 : hearC cl1 mg1 = ((rp1, true), ⟨2, 1, false, ⟨2, 2, 1, [112]⟩, 0⟩) := by
  unfold hearC
  have e : mg1.data = some [0, 1, 0] := rfl
  rw [e, d4]; rfl
theorem rp_R {r : Rp} (h1 : i64R r.err) (h : r.nm = none) : r.R := ⟨h1, by rw [h]; simp [sqL], by rw [h]; simp [sqL], by rw [h]; simp [sqL]⟩
set_option maxRecDepth 8000 in
set_option maxHeartbeats 1000000 in
theorem begun22_ok (id : BId) : CallF Try.prog 22 [] id [] (.p (.bool true)) [] := by
  have hN := fun id => new_ok id 2 (by decide)
  have hN9 := fun id => new_bad id 9 (by decide)
  have hC := fun id b => call_ok id b (Cl.new 2) 2 [112] (by decide)
  have hA := fun id b => ask_ok id b cl1 3 (by decide)
  have hR := fun id => reply_ok id rp1 (rp_R (by unfold i64R rp1; decide) rfl)
  have hH := fun id b => hear_ok id b cl1 mg1 (by decide) (by decide)
  have hO := fun id b => open_ok id b ⟨2, 1, false, ⟨2, 2, 1, [112]⟩, 0⟩
  rw [d1] at hC
  rw [d2] at hA
  rw [d3] at hR
  rw [d5] at hH
  generalize (encC ⟨2, 2, 1, [112]⟩).1 = eb at *
  simp only [strA, Cm.enc, mg1, Mg.enc, rp1, Rp.enc, Cl.enc, cl1, Cl.new, Cm.zero, sq_none] at hN hN9 hC hA hR hH hO
  refine ⟨⟨_, Try.func22, by decide, rfl⟩, (by simp <;> repeat first | exact ⟨[_, _], rfl⟩ | constructor), fun h hr => callsA_of_W Try.func22 rfl fun hfr => ?_⟩
  repeat (first
    | with_reducible refine W_seq fun K hK => ?_
    | (with_reducible refine hK _ ?_); clear hK K
    | (with_reducible refine W_skipK hK ?_); clear hK K
    | (with_reducible refine W_condT ?_ ?_); (· rfl)
    | (with_reducible refine W_condF ?_ ?_); (· rfl)
    | with_reducible refine W_block ?_
    | clear hK K; (with_reducible refine hK _ ?_); clear hK K
    | clear hK K; clear hK K; (with_reducible refine hK _ ?_); clear hK K
    | clear hK K; clear hK K; clear hK K; (with_reducible refine hK _ ?_); clear hK K
    | (with_reducible refine And.intro ?_ ?_); (· first | omega | decide)
    | (try first | ((with_reducible refine W_reg ?_ ?_); (· rfl)) | (with_reducible refine W_exit ?_) | (with_reducible refine W_ret ?_)); simp only [go_sem, Nat.reduceEqDiff, ↓reduceIte, reduceIte, Nat.reduceAdd, Nat.reduceMul, Nat.reduceSub, Nat.reduceLeDiff, Nat.reduceBEq, Nat.reduceBNe, Int.reduceNeg, Int.reduceLT, Int.reduceLE, Int.reduceAdd, Int.reduceSub, Int.reduceToNat, Int.reduceEq, Int.reduceBEq, reduceCtorEq, Int.reduceBNe])
  refine stop_call (hN _) ?_ ?_
  · first | trivial | (simp only [go_sem, Nat.reduceEqDiff, ↓reduceIte, reduceIte, Nat.reduceAdd, Nat.reduceMul, Nat.reduceSub, Nat.reduceLeDiff, Nat.reduceBEq, Nat.reduceBNe, Int.reduceNeg, Int.reduceLT, Int.reduceLE, Int.reduceAdd, Int.reduceSub, Int.reduceToNat, Int.reduceEq, Int.reduceBEq, reduceCtorEq, Int.reduceBNe]; done)
  repeat (first
    | with_reducible refine W_seq fun K hK => ?_
    | (with_reducible refine hK _ ?_); clear hK K
    | (with_reducible refine W_skipK hK ?_); clear hK K
    | (with_reducible refine W_condT ?_ ?_); (· rfl)
    | (with_reducible refine W_condF ?_ ?_); (· rfl)
    | with_reducible refine W_block ?_
    | clear hK K; (with_reducible refine hK _ ?_); clear hK K
    | clear hK K; clear hK K; (with_reducible refine hK _ ?_); clear hK K
    | clear hK K; clear hK K; clear hK K; (with_reducible refine hK _ ?_); clear hK K
    | (with_reducible refine And.intro ?_ ?_); (· first | omega | decide)
    | (try first | ((with_reducible refine W_reg ?_ ?_); (· rfl)) | (with_reducible refine W_exit ?_) | (with_reducible refine W_ret ?_)); simp only [go_sem, Nat.reduceEqDiff, ↓reduceIte, reduceIte, Nat.reduceAdd, Nat.reduceMul, Nat.reduceSub, Nat.reduceLeDiff, Nat.reduceBEq, Nat.reduceBNe, Int.reduceNeg, Int.reduceLT, Int.reduceLE, Int.reduceAdd, Int.reduceSub, Int.reduceToNat, Int.reduceEq, Int.reduceBEq, reduceCtorEq, Int.reduceBNe])
  refine stop_call (hC _ _) ?_ ?_
  · simp only [go_sem, Nat.reduceEqDiff, ↓reduceIte, reduceIte, Nat.reduceAdd, Nat.reduceMul, Nat.reduceSub, Nat.reduceLeDiff, Nat.reduceBEq, Nat.reduceBNe, Int.reduceNeg, Int.reduceLT, Int.reduceLE, Int.reduceAdd, Int.reduceSub, Int.reduceToNat, Int.reduceEq, Int.reduceBEq, reduceCtorEq, Int.reduceBNe]
  repeat (first
    | with_reducible refine W_seq fun K hK => ?_
    | (with_reducible refine hK _ ?_); clear hK K
    | (with_reducible refine W_skipK hK ?_); clear hK K
    | (with_reducible refine W_condT ?_ ?_); (· rfl)
    | (with_reducible refine W_condF ?_ ?_); (· rfl)
    | with_reducible refine W_block ?_
    | clear hK K; (with_reducible refine hK _ ?_); clear hK K
    | clear hK K; clear hK K; (with_reducible refine hK _ ?_); clear hK K
    | clear hK K; clear hK K; clear hK K; (with_reducible refine hK _ ?_); clear hK K
    | (with_reducible refine And.intro ?_ ?_); (· first | omega | decide)
    | (try first | ((with_reducible refine W_reg ?_ ?_); (· rfl)) | (with_reducible refine W_exit ?_) | (with_reducible refine W_ret ?_)); simp only [go_sem, Nat.reduceEqDiff, ↓reduceIte, reduceIte, Nat.reduceAdd, Nat.reduceMul, Nat.reduceSub, Nat.reduceLeDiff, Nat.reduceBEq, Nat.reduceBNe, Int.reduceNeg, Int.reduceLT, Int.reduceLE, Int.reduceAdd, Int.reduceSub, Int.reduceToNat, Int.reduceEq, Int.reduceBEq, reduceCtorEq, Int.reduceBNe])
  refine stop_call (hA _ _) ?_ ?_
  · simp only [go_sem, Nat.reduceEqDiff, ↓reduceIte, reduceIte, Nat.reduceAdd, Nat.reduceMul, Nat.reduceSub, Nat.reduceLeDiff, Nat.reduceBEq, Nat.reduceBNe, Int.reduceNeg, Int.reduceLT, Int.reduceLE, Int.reduceAdd, Int.reduceSub, Int.reduceToNat, Int.reduceEq, Int.reduceBEq, reduceCtorEq, Int.reduceBNe]
  repeat (first
    | with_reducible refine W_seq fun K hK => ?_
    | (with_reducible refine hK _ ?_); clear hK K
    | (with_reducible refine W_skipK hK ?_); clear hK K
    | (with_reducible refine W_condT ?_ ?_); (· rfl)
    | (with_reducible refine W_condF ?_ ?_); (· rfl)
    | with_reducible refine W_block ?_
    | clear hK K; (with_reducible refine hK _ ?_); clear hK K
    | clear hK K; clear hK K; (with_reducible refine hK _ ?_); clear hK K
    | clear hK K; clear hK K; clear hK K; (with_reducible refine hK _ ?_); clear hK K
    | (with_reducible refine And.intro ?_ ?_); (· first | omega | decide)
    | (try first | ((with_reducible refine W_reg ?_ ?_); (· rfl)) | (with_reducible refine W_exit ?_) | (with_reducible refine W_ret ?_)); simp only [go_sem, Nat.reduceEqDiff, ↓reduceIte, reduceIte, Nat.reduceAdd, Nat.reduceMul, Nat.reduceSub, Nat.reduceLeDiff, Nat.reduceBEq, Nat.reduceBNe, Int.reduceNeg, Int.reduceLT, Int.reduceLE, Int.reduceAdd, Int.reduceSub, Int.reduceToNat, Int.reduceEq, Int.reduceBEq, reduceCtorEq, Int.reduceBNe])
  refine stop_call (hR _) ?_ ?_
  · trivial
  repeat (first
    | with_reducible refine W_seq fun K hK => ?_
    | (with_reducible refine hK _ ?_); clear hK K
    | (with_reducible refine W_skipK hK ?_); clear hK K
    | (with_reducible refine W_condT ?_ ?_); (· rfl)
    | (with_reducible refine W_condF ?_ ?_); (· rfl)
    | with_reducible refine W_block ?_
    | clear hK K; (with_reducible refine hK _ ?_); clear hK K
    | clear hK K; clear hK K; (with_reducible refine hK _ ?_); clear hK K
    | clear hK K; clear hK K; clear hK K; (with_reducible refine hK _ ?_); clear hK K
    | (with_reducible refine And.intro ?_ ?_); (· first | omega | decide)
    | (try first | ((with_reducible refine W_reg ?_ ?_); (· rfl)) | (with_reducible refine W_exit ?_) | (with_reducible refine W_ret ?_)); simp only [go_sem, Nat.reduceEqDiff, ↓reduceIte, reduceIte, Nat.reduceAdd, Nat.reduceMul, Nat.reduceSub, Nat.reduceLeDiff, Nat.reduceBEq, Nat.reduceBNe, Int.reduceNeg, Int.reduceLT, Int.reduceLE, Int.reduceAdd, Int.reduceSub, Int.reduceToNat, Int.reduceEq, Int.reduceBEq, reduceCtorEq, Int.reduceBNe])
  refine stop_call (hH _ _) ?_ ?_
  · simp only [go_sem, Nat.reduceEqDiff, ↓reduceIte, reduceIte, Nat.reduceAdd, Nat.reduceMul, Nat.reduceSub, Nat.reduceLeDiff, Nat.reduceBEq, Nat.reduceBNe, Int.reduceNeg, Int.reduceLT, Int.reduceLE, Int.reduceAdd, Int.reduceSub, Int.reduceToNat, Int.reduceEq, Int.reduceBEq, reduceCtorEq, Int.reduceBNe]
  repeat (first
    | with_reducible refine W_seq fun K hK => ?_
    | (with_reducible refine hK _ ?_); clear hK K
    | (with_reducible refine W_skipK hK ?_); clear hK K
    | (with_reducible refine W_condT ?_ ?_); (· rfl)
    | (with_reducible refine W_condF ?_ ?_); (· rfl)
    | with_reducible refine W_block ?_
    | clear hK K; (with_reducible refine hK _ ?_); clear hK K
    | clear hK K; clear hK K; (with_reducible refine hK _ ?_); clear hK K
    | clear hK K; clear hK K; clear hK K; (with_reducible refine hK _ ?_); clear hK K
    | (with_reducible refine And.intro ?_ ?_); (· first | omega | decide)
    | (try first | ((with_reducible refine W_reg ?_ ?_); (· rfl)) | (with_reducible refine W_exit ?_) | (with_reducible refine W_ret ?_)); simp only [go_sem, Nat.reduceEqDiff, ↓reduceIte, reduceIte, Nat.reduceAdd, Nat.reduceMul, Nat.reduceSub, Nat.reduceLeDiff, Nat.reduceBEq, Nat.reduceBNe, Int.reduceNeg, Int.reduceLT, Int.reduceLE, Int.reduceAdd, Int.reduceSub, Int.reduceToNat, Int.reduceEq, Int.reduceBEq, reduceCtorEq, Int.reduceBNe])
  refine stop_call (hO _ _) ?_ ?_
  · simp only [go_sem, Nat.reduceEqDiff, ↓reduceIte, reduceIte, Nat.reduceAdd, Nat.reduceMul, Nat.reduceSub, Nat.reduceLeDiff, Nat.reduceBEq, Nat.reduceBNe, Int.reduceNeg, Int.reduceLT, Int.reduceLE, Int.reduceAdd, Int.reduceSub, Int.reduceToNat, Int.reduceEq, Int.reduceBEq, reduceCtorEq, Int.reduceBNe]
  repeat (first
    | with_reducible refine W_seq fun K hK => ?_
    | (with_reducible refine hK _ ?_); clear hK K
    | (with_reducible refine W_skipK hK ?_); clear hK K
    | (with_reducible refine W_condT ?_ ?_); (· rfl)
    | (with_reducible refine W_condF ?_ ?_); (· rfl)
    | with_reducible refine W_block ?_
    | clear hK K; (with_reducible refine hK _ ?_); clear hK K
    | clear hK K; clear hK K; (with_reducible refine hK _ ?_); clear hK K
    | clear hK K; clear hK K; clear hK K; (with_reducible refine hK _ ?_); clear hK K
    | (with_reducible refine And.intro ?_ ?_); (· first | omega | decide)
    | (try first | ((with_reducible refine W_reg ?_ ?_); (· rfl)) | (with_reducible refine W_exit ?_) | (with_reducible refine W_ret ?_)); simp only [go_sem, Nat.reduceEqDiff, ↓reduceIte, reduceIte, Nat.reduceAdd, Nat.reduceMul, Nat.reduceSub, Nat.reduceLeDiff, Nat.reduceBEq, Nat.reduceBNe, Int.reduceNeg, Int.reduceLT, Int.reduceLE, Int.reduceAdd, Int.reduceSub, Int.reduceToNat, Int.reduceEq, Int.reduceBEq, reduceCtorEq, Int.reduceBNe])
  refine stop_call (hN9 _) trivial ?_
  repeat (first
    | with_reducible refine W_seq fun K hK => ?_
    | (with_reducible refine hK _ ?_); clear hK K
    | (with_reducible refine W_skipK hK ?_); clear hK K
    | (with_reducible refine W_condT ?_ ?_); (· rfl)
    | (with_reducible refine W_condF ?_ ?_); (· rfl)
    | with_reducible refine W_block ?_
    | clear hK K; (with_reducible refine hK _ ?_); clear hK K
    | clear hK K; clear hK K; (with_reducible refine hK _ ?_); clear hK K
    | clear hK K; clear hK K; clear hK K; (with_reducible refine hK _ ?_); clear hK K
    | (with_reducible refine And.intro ?_ ?_); (· first | omega | decide)
    | (try first | ((with_reducible refine W_reg ?_ ?_); (· rfl)) | (with_reducible refine W_exit ?_) | (with_reducible refine W_ret ?_)); simp only [go_sem, Nat.reduceEqDiff, ↓reduceIte, reduceIte, Nat.reduceAdd, Nat.reduceMul, Nat.reduceSub, Nat.reduceLeDiff, Nat.reduceBEq, Nat.reduceBNe, Int.reduceNeg, Int.reduceLT, Int.reduceLE, Int.reduceAdd, Int.reduceSub, Int.reduceToNat, Int.reduceEq, Int.reduceBEq, reduceCtorEq, Int.reduceBNe])
  refine ends_ret ?_ ((by repeat (first | exact HLe.refl _ | refine HLe.fresh ?_ (hfr [_, _]) | refine HLe.fresh ?_ (hfr [_, _, _, _]))))
  simp only [go_sem, Nat.reduceEqDiff, ↓reduceIte, reduceIte, Nat.reduceAdd, Nat.reduceMul, Nat.reduceSub, Nat.reduceLeDiff, Nat.reduceBEq, Nat.reduceBNe, Int.reduceNeg, Int.reduceLT, Int.reduceLE, Int.reduceAdd, Int.reduceSub, Int.reduceToNat, Int.reduceEq, Int.reduceBEq, reduceCtorEq, Int.reduceBNe, Try.f22]
end Go.Proofs.Ytmpndjpaelcnkaa
