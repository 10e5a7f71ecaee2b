/- ClientSeq is true of every input, and leaves it as it is. -/
import Derived.Test.YtmpndjpaelcnkaaB24
import Derived.Test.YtmpndjpaelcnkaaSxR
import Derived.Test.YtmpndjpaelcnkaaRows
set_option linter.unusedVariables false
set_option linter.unusedSimpArgs false
namespace Go.Proofs.Ytmpndjpaelcnkaa.clientSeq
open Go Go.SX
section
variable {H : Type} {enc : TypeId × Value → H} {w : World}
theorem opens_len : Opens enc Try.prog w 23 (fun o : Option (List Int) => [sq nE o]) (fun o => (sqL o).length ≤ maxLen) :=
  (opens_slice Try.underlying23 (cellsOf_sz ty3.2.1) nE_len (opens_i64 Try.underlying3)).map _root_.id (fun _ _ => rfl) (fun a h => h.1)
end
open Go.ChangeShapes Go.WideShapes Go.ChangeAt Go.RowKit
theorem own : ownKnob Try.prog.godebug = none := by kernel_rfl
theorem laidOut : laidOutB Try.prog = true := by kernel_rfl
set_option maxRecDepth 100000 in
theorem lifted (os : Os) (started : os.Started) (H : Type) (enc : TypeId × Value → H) :
    ReturnsInHanded {} Try.checked os 4 .any (Rows.clientSeqSpec.pre6 enc Try.prog Try.f4 Rows.clientSeqRow.domain false) (Rows.clientSeqSpec.post enc Try.prog Try.f4 false true false false) := by
  refine returnsInHanded_of_change_sized (C := Try.checked) own started (by kernel_rfl) Try.func4
    (ChangeSpec.witness6 (enc := enc) (C := Try.checked) false ⟨#[], #[.int .i64 0, .slice none 0 0], []⟩ 8 (by kernel_rfl) (by kernel_rfl) (by kernel_rfl) (by kernel_rfl)) ?_
  intro W base args ds gs before hval0 hW hcnd hsz0 _
  have hval : ∀ (j : Nat) t v, Try.f4.params[j]? = some t → args[j]? = some v → Value.okWide Try.prog W .any base t v := hval0
  have hW' := hW
  obtain ⟨p, q, hA0, hV, rfl, hfz, hnd⟩ := hW
  have hA : DataW.TrodAll enc Try.prog W 0 (fun _ => true) true Try.f4.params.toList args.toList ds p := hA0
  rw [Try.params4] at hA hval
  obtain ⟨v0, vs0, d0, ds0, p0, q0, hargs, rfl, rfl, h0, r0⟩ := trodAll_cons hA
  obtain ⟨v1, vs1, d1, ds1, p1, q1, rfl, rfl, rfl, h1, r1⟩ := trodAll_cons r0
  obtain ⟨rfl, rfl, rfl⟩ := trodAll_nil r1
  obtain rfl : args = #[v0, v1] := by cases args; simp_all
  obtain ⟨rfl, rfl⟩ := trodVars_none hV
  have lt0 : ∀ x ∈ p0, x.block < W.heap.size := by obtain ⟨m, hm⟩ := h0; exact DataW.trod_lt m _ _ _ hm
  have lt1 : ∀ x ∈ p1, x.block < W.heap.size := by obtain ⟨m, hm⟩ := h1; exact DataW.trod_lt m _ _ _ hm
  have c0 : v0.cells = #[v0] := by obtain ⟨a, rfl⟩ := okWide_int Try.underlying3 (hval 0 3 v0 rfl rfl); rfl
  have c1 : v1.cells = #[v1] := by obtain ⟨a, l, c, rfl⟩ := okWide_slice Try.underlying23 (hval 1 23 v1 rfl rfl); rfl
  obtain ⟨who, _, rep0⟩ := rep_one (e := fun n : Int => .p (.int .i64 n)) c0 h0 (opens_i64 Try.underlying3)
  obtain ⟨xs, k1, rep1⟩ := rep_one c1 h1 opens_len
  clear hA0 hval0 hsz0
  refine (law_calls (us := [v0, v1]) (f4_ok [] who xs k1) rfl (fun i x u hx hu => ?_)).mono fun e W' ⟨he, bel⟩ => ?_
  · match i, hx, hu with
    | 0, hx, hu => cases hx; cases hu; exact rep0
    | 1, hx, hu => cases hx; cases hu; exact rep1
    | n + 2, hx, hu => simp at hx
  subst he
  exact ⟨_, rfl, _, _, _, [], _, [], hW', trodAll_mk1 (shut_bool Try.underlying4 _), (trodAll_cons_mk (Below.trod laidOut (by kernel_rfl) (of_decide_eq_true (by kernel_rfl)) h0 bel lt0) (trodAll_cons_mk (Below.trod laidOut (by kernel_rfl) (of_decide_eq_true (by kernel_rfl)) h1 bel lt1) trodAll_mk0)), rfl, bel.frame _, fun h => by cases h⟩
theorem over : Rows.clientSeqRow.holds Try.pinned (OpenSpec.ofChange Rows.clientSeqSpec) :=
  OpenClaim.holds_of_wide 4 Try.f4 rfl rfl rfl rfl rfl rfl rfl ⟨rfl, rfl, rfl, rfl, rfl⟩ rfl rfl rfl rfl rfl (by kernel_rfl) Try.func4 (by kernel_rfl)
    (of_decide_eq_true (by kernel_rfl)) (by unfold Func.isWrapper; first | (rw [if_pos (by decide +kernel)]; kernel_rfl) | (rw [if_neg (by decide +kernel)]; exact ⟨rfl, rfl⟩))
    (fun os started H enc _ => lifted os started H enc)
end Go.Proofs.Ytmpndjpaelcnkaa.clientSeq
namespace Go.Proofs.Ytmpndjpaelcnkaa
/-- The row, under a short name, for the claim. -/
theorem clientSeq_holds : Rows.ClientSeqSaid := clientSeq.over
#print axioms clientSeq_holds
end Go.Proofs.Ytmpndjpaelcnkaa
