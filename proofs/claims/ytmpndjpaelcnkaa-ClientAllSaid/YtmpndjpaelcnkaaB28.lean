/- ClientAll is true of every input, and leaves it as it is. -/
import Derived.Test.YtmpndjpaelcnkaaB27
import Derived.Test.YtmpndjpaelcnkaaSxR
import Derived.Test.YtmpndjpaelcnkaaRows
set_option linter.unusedVariables false
set_option linter.unusedSimpArgs false
namespace Go.Proofs.Ytmpndjpaelcnkaa.clientAll
open Go Go.SX
section
variable {H : Type} {enc : TypeId × Value → H} {w : World}
theorem one_len {β : Type} (e : β → AV) (b : β) : ((fun o => [e o]) b : List AV).length = 1 := rfl
theorem opens_bytes : Opens enc Try.prog w 24 (fun o : Option (List UInt8) => [sq bE o]) (fun _ => True) :=
  (opens_slice Try.underlying24 (cellsOf_sz ty5.2.1) bE_len (opens_u8 Try.underlying5)).map _root_.id (fun _ _ => rfl) (fun a h => trivial)
theorem opens_ints : Opens enc Try.prog w 23 (fun o : Option (List Int) => [sq nE o]) (fun _ => True) :=
  (opens_slice Try.underlying23 (cellsOf_sz ty3.2.1) nE_len (opens_i64 Try.underlying3)).map _root_.id (fun _ _ => rfl) (fun a h => trivial)
theorem opens_ent : Opens enc Try.prog w 112 Ent.enc (fun _ => True) :=
  (opens_struct Try.underlying112 (cellsOf_sz ty112.2.1) (fun _ => rfl)
    (opensF_cons rfl nE_len (cellsOf_sz ty2.2.1) (opens_i64 Try.underlying2) (opensF_cons rfl nE_len (cellsOf_sz ty2.2.1) (opens_i64 Try.underlying2) (opensF_cons rfl nE_len (cellsOf_sz ty3.2.1) (opens_i64 Try.underlying3)
      (opensF_cons rfl (one_len (sq bE)) (cellsOf_sz ty24.2.1) opens_bytes opensF_nil))))).map (fun q => (⟨q.1, q.2.1, q.2.2.1, q.2.2.2.1⟩ : Ent)) (fun _ _ => rfl) (fun _ h => trivial)
theorem opens_ents : Opens enc Try.prog w 22 (fun o : Option (List Ent) => [sq Ent.enc o]) (fun _ => True) :=
  (opens_slice Try.underlying22 (cellsOf_sz ty112.2.1) Ent.enc_len opens_ent).map _root_.id (fun _ _ => rfl) (fun a h => trivial)
theorem opens_b1 : Opens enc Try.prog w 4 (fun n : Bool => [.p (.bool n)]) (fun _ => True) := opens_bool Try.underlying4
theorem opens_msg : Opens enc Try.prog w 26 Mg.enc (fun _ => True) :=
  (opens_struct Try.underlying26 (cellsOf_sz ty26.2.1) (fun _ => rfl)
    (opensF_cons rfl nE_len (cellsOf_sz ty3.2.1) (opens_i64 Try.underlying3) (opensF_cons rfl nE_len (cellsOf_sz ty3.2.1) (opens_i64 Try.underlying3) (opensF_cons rfl nE_len (cellsOf_sz ty3.2.1) (opens_i64 Try.underlying3)
    (opensF_cons rfl nE_len (cellsOf_sz ty2.2.1) (opens_i64 Try.underlying2) (opensF_cons rfl nE_len (cellsOf_sz ty2.2.1) (opens_i64 Try.underlying2) (opensF_cons rfl nE_len (cellsOf_sz ty2.2.1) (opens_i64 Try.underlying2) (opensF_cons rfl nE_len (cellsOf_sz ty2.2.1) (opens_i64 Try.underlying2)
    (opensF_cons rfl (one_len (sq Ent.enc)) (cellsOf_sz ty22.2.1) opens_ents (opensF_cons rfl (one_len (fun n : Bool => .p (.bool n))) (cellsOf_sz ty4.2.1) opens_b1 (opensF_cons rfl nE_len (cellsOf_sz ty2.2.1) (opens_i64 Try.underlying2)
    (opensF_cons rfl (one_len (sq nE)) (cellsOf_sz ty23.2.1) opens_ints (opensF_cons rfl (one_len (sq bE)) (cellsOf_sz ty24.2.1) opens_bytes
    (opensF_cons rfl nE_len (cellsOf_sz ty3.2.1) (opens_i64 Try.underlying3) (opensF_cons rfl nE_len (cellsOf_sz ty3.2.1) (opens_i64 Try.underlying3) (opensF_cons rfl nE_len (cellsOf_sz ty2.2.1) (opens_i64 Try.underlying2) opensF_nil)))))))))))))))).map
    (fun ⟨a0, a1, a2, a3, a4, a5, a6, a7, a8, a9, a10, a11, a12, a13, a14, _⟩ => (⟨a0, a1, a2, a3, a4, a5, a6, a7, a8, a9, a10, a11, a12, a13, a14⟩ : Mg)) (fun _ _ => rfl) (fun _ _ => trivial)
theorem opens_s : Opens enc Try.prog w 9 sE (fun _ => True) :=
  (opens_str Try.underlying9).map (fun n : ByteArray => n.data.toList) (fun n _ => by unfold sE strA; rw [Array.toArray_toList]) (fun _ _ => trivial)
theorem opens_strs : Opens enc Try.prog w 42 (fun o : Option (List (List UInt8)) => [sq sE o]) (fun _ => True) :=
  (opens_slice Try.underlying42 (cellsOf_sz ty9.2.1) sE_len opens_s).map _root_.id (fun _ _ => rfl) (fun a h => trivial)
theorem opens_rep : Opens enc Try.prog w 44 Rp.enc (fun _ => True) :=
  (opens_struct Try.underlying44 (cellsOf_sz ty44.2.1) (fun _ => rfl)
    (opensF_cons rfl nE_len (cellsOf_sz ty30.2.1) (opens_i64 Try.underlying30) (opensF_cons rfl (one_len (fun n : Bool => .p (.bool n))) (cellsOf_sz ty4.2.1) opens_b1 (opensF_cons rfl (one_len (sq sE)) (cellsOf_sz ty42.2.1) opens_strs opensF_nil)))).map
    (fun q => (⟨q.1, q.2.1, q.2.2.1⟩ : Rp)) (fun _ _ => rfl) (fun _ _ => trivial)
theorem mgl (x : Mg) : x.enc.length = 15 := rfl
theorem rpl (x : Rp) : x.enc.length = 3 := rfl
theorem opens_opr : Opens enc Try.prog w 50 Opr.enc (fun _ => True) :=
  (opens_struct Try.underlying50 (cellsOf_sz ty50.2.1) (fun _ => rfl)
    (opensF_cons rfl nE_len (cellsOf_sz ty3.2.1) (opens_i64 Try.underlying3) (opensF_cons rfl nE_len (cellsOf_sz ty3.2.1) (opens_i64 Try.underlying3) (opensF_cons rfl sE_len (cellsOf_sz ty9.2.1) opens_s
      (opensF_cons rfl mgl (cellsOf_sz ty26.2.1) opens_msg (opensF_cons rfl rpl (cellsOf_sz ty44.2.1) opens_rep opensF_nil)))))).map
    (fun q => (⟨q.1, q.2.1, q.2.2.1, q.2.2.2.1, q.2.2.2.2.1⟩ : Opr)) (fun _ _ => rfl) (fun _ _ => trivial)
theorem opens_oprs : Opens enc Try.prog w 48 (fun o : Option (List Opr) => [sq Opr.enc o]) (fun o => (sqL o).length ≤ maxLen) :=
  (opens_slice Try.underlying48 (cellsOf_sz ty50.2.1) Opr.enc_len opens_opr).map _root_.id (fun _ _ => rfl) (fun a h => h.1)
theorem f5_all (id : BId) (who : Int) (ops : Option (List Opr)) (hops : (sqL ops).length ≤ maxLen) : CallF Try.prog 5 [.p (.int .i64 who), sq Opr.enc ops] id [] (.p (.bool true)) [] := by
  by_cases hw : 1 ≤ who ∧ who ≤ 8
  · exact f5_ok id who ops hops hw
  · exact f5_bad id who ops (by omega)
end
open Go.ChangeShapes Go.WideShapes Go.ChangeAt Go.RowKit
theorem own : ownKnob Try.prog.godebug = none := by kernel_rfl
theorem laidOut : laidOutB Try.prog = true := by kernel_rfl
set_option maxRecDepth 100000 in
theorem lifted (os : Os) (started : os.Started) (H : Type) (enc : TypeId × Value → H) :
    ReturnsInHanded {} Try.checked os 5 .any (Rows.clientAllSpec.pre6 enc Try.prog Try.f5 Rows.clientAllRow.domain false) (Rows.clientAllSpec.post enc Try.prog Try.f5 false true false false) := by
  refine returnsInHanded_of_change_sized (C := Try.checked) own started (by kernel_rfl) Try.func5
    (ChangeSpec.witness6 (enc := enc) (C := Try.checked) false ⟨#[], #[.int .i64 0, .slice none 0 0], []⟩ 8 (by kernel_rfl) (by kernel_rfl) (by kernel_rfl) (by kernel_rfl)) ?_
  intro W base args ds gs before hval0 hW hcnd hsz0 _
  have hval : ∀ (j : Nat) t v, Try.f5.params[j]? = some t → args[j]? = some v → Value.okWide Try.prog W .any base t v := hval0
  have hW' := hW
  obtain ⟨p, q, hA0, hV, rfl, hfz, hnd⟩ := hW
  have hA : DataW.TrodAll enc Try.prog W 0 (fun _ => true) true Try.f5.params.toList args.toList ds p := hA0
  rw [Try.params5] at hA hval
  obtain ⟨v0, vs0, d0, ds0, p0, q0, hargs, rfl, rfl, h0, r0⟩ := trodAll_cons hA
  obtain ⟨v1, vs1, d1, ds1, p1, q1, rfl, rfl, rfl, h1, r1⟩ := trodAll_cons r0
  obtain ⟨rfl, rfl, rfl⟩ := trodAll_nil r1
  obtain rfl : args = #[v0, v1] := by cases args; simp_all
  obtain ⟨rfl, rfl⟩ := trodVars_none hV
  have lt0 : ∀ x ∈ p0, x.block < W.heap.size := by obtain ⟨m, hm⟩ := h0; exact DataW.trod_lt m _ _ _ hm
  have lt1 : ∀ x ∈ p1, x.block < W.heap.size := by obtain ⟨m, hm⟩ := h1; exact DataW.trod_lt m _ _ _ hm
  have c0 : v0.cells = #[v0] := by obtain ⟨a, rfl⟩ := okWide_int Try.underlying3 (hval 0 3 v0 rfl rfl); rfl
  have c1 : v1.cells = #[v1] := by obtain ⟨a, l, c, rfl⟩ := okWide_slice Try.underlying48 (hval 1 48 v1 rfl rfl); rfl
  obtain ⟨who, _, rep0⟩ := rep_one (e := fun n : Int => .p (.int .i64 n)) c0 h0 (opens_i64 Try.underlying3)
  obtain ⟨xs, k1, rep1⟩ := rep_one c1 h1 opens_oprs
  clear hA0 hval0 hsz0
  refine (law_calls (us := [v0, v1]) (f5_all [] who xs k1) rfl (fun i x u hx hu => ?_)).mono fun e W' ⟨he, bel⟩ => ?_
  · match i, hx, hu with
    | 0, hx, hu => cases hx; cases hu; exact rep0
    | 1, hx, hu => cases hx; cases hu; exact rep1
    | n + 2, hx, hu => simp at hx
  subst he
  exact ⟨_, rfl, _, _, _, [], _, [], hW', trodAll_mk1 (shut_bool Try.underlying4 _), (trodAll_cons_mk (Below.trod laidOut (by kernel_rfl) (of_decide_eq_true (by kernel_rfl)) h0 bel lt0) (trodAll_cons_mk (Below.trod laidOut (by kernel_rfl) (of_decide_eq_true (by kernel_rfl)) h1 bel lt1) trodAll_mk0)), rfl, bel.frame _, fun h => by cases h⟩
theorem over : Rows.clientAllRow.holds Try.pinned (OpenSpec.ofChange Rows.clientAllSpec) :=
  OpenClaim.holds_of_wide 5 Try.f5 rfl rfl rfl rfl rfl rfl rfl ⟨rfl, rfl, rfl, rfl, rfl⟩ rfl rfl rfl rfl rfl (by kernel_rfl) Try.func5 (by kernel_rfl)
    (of_decide_eq_true (by kernel_rfl)) (by unfold Func.isWrapper; first | (rw [if_pos (by decide +kernel)]; kernel_rfl) | (rw [if_neg (by decide +kernel)]; exact ⟨rfl, rfl⟩))
    (fun os started H enc _ => lifted os started H enc)
end Go.Proofs.Ytmpndjpaelcnkaa.clientAll
namespace Go.Proofs.Ytmpndjpaelcnkaa
/-- The row, under a short name, for the claim. -/
theorem clientAll_holds : Rows.ClientAllSaid := clientAll.over
#print axioms clientAll_holds
end Go.Proofs.Ytmpndjpaelcnkaa
