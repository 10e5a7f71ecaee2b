/- CommandMsg is true of every input, and leaves it as it is. -/
import Derived.Test.YtmpndjpaelcnkaaB16
import Derived.Test.YtmpndjpaelcnkaaSxR
import Derived.Test.YtmpndjpaelcnkaaRows
set_option linter.unusedVariables false
set_option linter.unusedSimpArgs false
namespace Go.Proofs.Ytmpndjpaelcnkaa
open Go Go.SX

section
variable {H : Type} {enc : TypeId × Value → H} {w : World}
theorem one_len {β : Type} (e : β → AV) (b : β) : ((fun o => [e o]) b : List AV).length = 1 := rfl
theorem opens_bytes : Opens enc Try.prog w 24 (fun o : Option (List UInt8) => [sq bE o]) (fun o => (sqL o).length ≤ maxLen) :=
  (opens_slice Try.underlying24 (cellsOf_sz ty5.2.1) bE_len (opens_u8 Try.underlying5)).map _root_.id (fun _ _ => rfl) (fun a h => h.1)
theorem opens_ints : Opens enc Try.prog w 23 (fun o : Option (List Int) => [sq nE o]) (fun o => ∀ n ∈ sqL o, i64R n) :=
  (opens_slice Try.underlying23 (cellsOf_sz ty3.2.1) nE_len (opens_i64 Try.underlying3)).map _root_.id (fun _ _ => rfl) (fun a h => h.2)
theorem opens_ent : Opens enc Try.prog w 112 Ent.enc Ent.N :=
  (opens_struct Try.underlying112 (cellsOf_sz ty112.2.1) (fun _ => rfl)
    (opensF_cons rfl nE_len (cellsOf_sz ty2.2.1) (opens_i64 Try.underlying2) (opensF_cons rfl nE_len (cellsOf_sz ty2.2.1) (opens_i64 Try.underlying2) (opensF_cons rfl nE_len (cellsOf_sz ty3.2.1) (opens_i64 Try.underlying3)
      (opensF_cons rfl (one_len (sq bE)) (cellsOf_sz ty24.2.1) opens_bytes opensF_nil))))).map (fun q => (⟨q.1, q.2.1, q.2.2.1, q.2.2.2.1⟩ : Ent)) (fun _ _ => rfl) (fun _ h => ⟨h.1, h.2.1, h.2.2.1⟩)
theorem opens_ents : Opens enc Try.prog w 22 (fun o : Option (List Ent) => [sq Ent.enc o]) (fun o => ∀ e ∈ sqL o, e.N) :=
  (opens_slice Try.underlying22 (cellsOf_sz ty112.2.1) Ent.enc_len opens_ent).map _root_.id (fun _ _ => rfl) (fun a h => h.2)
theorem opens_b1 : Opens enc Try.prog w 4 (fun n : Bool => [.p (.bool n)]) (fun _ => True) := opens_bool Try.underlying4
theorem opens_msg : Opens enc Try.prog w 26 Mg.enc Mg.N :=
  (opens_struct Try.underlying26 (cellsOf_sz ty26.2.1) (fun _ => rfl)
    (opensF_cons rfl nE_len (cellsOf_sz ty3.2.1) (opens_i64 Try.underlying3) (opensF_cons rfl nE_len (cellsOf_sz ty3.2.1) (opens_i64 Try.underlying3) (opensF_cons rfl nE_len (cellsOf_sz ty3.2.1) (opens_i64 Try.underlying3)
    (opensF_cons rfl nE_len (cellsOf_sz ty2.2.1) (opens_i64 Try.underlying2) (opensF_cons rfl nE_len (cellsOf_sz ty2.2.1) (opens_i64 Try.underlying2) (opensF_cons rfl nE_len (cellsOf_sz ty2.2.1) (opens_i64 Try.underlying2) (opensF_cons rfl nE_len (cellsOf_sz ty2.2.1) (opens_i64 Try.underlying2)
    (opensF_cons rfl (one_len (sq Ent.enc)) (cellsOf_sz ty22.2.1) opens_ents (opensF_cons rfl (one_len (fun n : Bool => .p (.bool n))) (cellsOf_sz ty4.2.1) opens_b1 (opensF_cons rfl nE_len (cellsOf_sz ty2.2.1) (opens_i64 Try.underlying2)
    (opensF_cons rfl (one_len (sq nE)) (cellsOf_sz ty23.2.1) opens_ints (opensF_cons rfl (one_len (sq bE)) (cellsOf_sz ty24.2.1) opens_bytes
    (opensF_cons rfl nE_len (cellsOf_sz ty3.2.1) (opens_i64 Try.underlying3) (opensF_cons rfl nE_len (cellsOf_sz ty3.2.1) (opens_i64 Try.underlying3) (opensF_cons rfl nE_len (cellsOf_sz ty2.2.1) (opens_i64 Try.underlying2) opensF_nil)))))))))))))))).map
    (fun ⟨a0, a1, a2, a3, a4, a5, a6, a7, a8, a9, a10, a11, a12, a13, a14, _⟩ => (⟨a0, a1, a2, a3, a4, a5, a6, a7, a8, a9, a10, a11, a12, a13, a14⟩ : Mg)) (fun _ _ => rfl)
    (fun ⟨a0, a1, a2, a3, a4, a5, a6, a7, a8, a9, a10, a11, a12, a13, a14, _⟩ ⟨h0, h1, h2, h3, h4, h5, h6, h7, h8, h9, h10, h11, h12, h13, h14, _⟩ =>
      ⟨by simp only [Mg.hd, List.mem_cons, List.not_mem_nil, or_false, forall_eq_or_imp, forall_eq]; exact ⟨h0, h1, h2, h3, h4, h5, h6⟩, h7, h9, h10, h12, h13, h14⟩)
end
end Go.Proofs.Ytmpndjpaelcnkaa
namespace Go.Proofs.Ytmpndjpaelcnkaa.commandMsg
open Go Go.SX Go.ChangeShapes Go.WideShapes Go.ChangeAt Go.RowKit
theorem own : ownKnob Try.prog.godebug = none := by kernel_rfl
theorem laidOut : laidOutB Try.prog = true := by kernel_rfl
set_option maxRecDepth 100000 in
theorem lifted (os : Os) (started : os.Started) (H : Type) (enc : TypeId × Value → H) :
    ReturnsInHanded {} Try.checked os 3 .any (Rows.commandMsgSpec.pre6 enc Try.prog Try.f3 Rows.commandMsgRow.domain false) (Rows.commandMsgSpec.post enc Try.prog Try.f3 false true false false) := by
  refine returnsInHanded_of_change_sized (C := Try.checked) own started (by kernel_rfl) Try.func3
    (ChangeSpec.witness6 (enc := enc) (C := Try.checked) false ⟨#[], #[.agg #[.int .i64 0, .int .i64 0, .int .i64 0, .int .i64 0, .int .i64 0, .int .i64 0, .int .i64 0, .slice none 0 0, .bool false, .int .i64 0, .slice none 0 0, .slice none 0 0, .int .i64 0, .int .i64 0, .int .i64 0], .agg #[.int .i64 0, .int .i64 0, .int .i64 0, .int .i64 0, .int .i64 0, .int .i64 0, .int .i64 0, .slice none 0 0, .bool false, .int .i64 0, .slice none 0 0, .slice none 0 0, .int .i64 0, .int .i64 0, .int .i64 0], .int .i64 0, .int .u8 0], []⟩ 8 (by kernel_rfl) (by kernel_rfl) (by kernel_rfl) (by kernel_rfl)) ?_
  intro W base args ds gs before hval0 hW hcnd hsz0 _
  have hval : ∀ (j : Nat) t v, Try.f3.params[j]? = some t → args[j]? = some v → Value.okWide Try.prog W .any base t v := hval0
  have hW' := hW
  obtain ⟨p, q, hA0, hV, rfl, hfz, hnd⟩ := hW
  have hA : DataW.TrodAll enc Try.prog W 0 (fun _ => true) true Try.f3.params.toList args.toList ds p := hA0
  rw [Try.params3] at hA hval
  obtain ⟨v0, vs0, d0, ds0, p0, q0, hargs, rfl, rfl, h0, r0⟩ := trodAll_cons hA
  obtain ⟨v1, vs1, d1, ds1, p1, q1, rfl, rfl, rfl, h1, r1⟩ := trodAll_cons r0
  obtain ⟨v2, vs2, d2, ds2, p2, q2, rfl, rfl, rfl, h2, r2⟩ := trodAll_cons r1
  obtain ⟨v3, vs3, d3, ds3, p3, q3, rfl, rfl, rfl, h3, r3⟩ := trodAll_cons r2
  obtain ⟨rfl, rfl, rfl⟩ := trodAll_nil r3
  obtain rfl : args = #[v0, v1, v2, v3] := by cases args; simp_all
  obtain ⟨rfl, rfl⟩ := trodVars_none hV
  have lt0 : ∀ x ∈ p0, x.block < W.heap.size := by obtain ⟨m, hm⟩ := h0; exact DataW.trod_lt m _ _ _ hm
  have lt1 : ∀ x ∈ p1, x.block < W.heap.size := by obtain ⟨m, hm⟩ := h1; exact DataW.trod_lt m _ _ _ hm
  have lt2 : ∀ x ∈ p2, x.block < W.heap.size := by obtain ⟨m, hm⟩ := h2; exact DataW.trod_lt m _ _ _ hm
  have lt3 : ∀ x ∈ p3, x.block < W.heap.size := by obtain ⟨m, hm⟩ := h3; exact DataW.trod_lt m _ _ _ hm
  obtain ⟨x, k0, rep0⟩ := rep_struct Try.underlying26 (hval 0 26 v0 rfl rfl) h0 opens_msg
  obtain ⟨y, k1, rep1⟩ := rep_struct Try.underlying26 (hval 1 26 v1 rfl rfl) h1 opens_msg
  have c2 : v2.cells = #[v2] := by obtain ⟨a, rfl⟩ := okWide_int Try.underlying3 (hval 2 3 v2 rfl rfl); rfl
  have c3 : v3.cells = #[v3] := by obtain ⟨a, rfl⟩ := okWide_int Try.underlying5 (hval 3 5 v3 rfl rfl); rfl
  obtain ⟨at_, k2, rep2⟩ := rep_one (e := fun n : Int => .p (.int .i64 n)) c2 h2 (opens_i64 Try.underlying3)
  obtain ⟨bit, _, rep3⟩ := rep_one (e := fun b : UInt8 => .p (.int .u8 b.toNat)) c3 h3 (opens_u8 Try.underlying5)
  clear hA0 hval0 hsz0
  refine (law_calls (us := [v0, v1, v2, v3]) (f3_ok [] x y k0 k1 at_ k2 bit) rfl (fun i x u hx hu => ?_)).mono fun e W' ⟨he, bel⟩ => ?_
  · match i, hx, hu with
    | 0, hx, hu => cases hx; cases hu; exact rep0
    | 1, hx, hu => cases hx; cases hu; exact rep1
    | 2, hx, hu => cases hx; cases hu; exact rep2
    | 3, hx, hu => cases hx; cases hu; exact rep3
    | n + 4, hx, hu => simp at hx
  subst he
  exact ⟨_, rfl, _, _, _, [], _, [], hW', trodAll_mk1 (shut_bool Try.underlying4 _),
    trodAll_cons_mk (Below.trod laidOut (by kernel_rfl) (of_decide_eq_true (by kernel_rfl)) h0 bel lt0) (trodAll_cons_mk (Below.trod laidOut (by kernel_rfl) (of_decide_eq_true (by kernel_rfl)) h1 bel lt1)
      (trodAll_cons_mk (Below.trod laidOut (by kernel_rfl) (of_decide_eq_true (by kernel_rfl)) h2 bel lt2) (trodAll_cons_mk (Below.trod laidOut (by kernel_rfl) (of_decide_eq_true (by kernel_rfl)) h3 bel lt3) trodAll_mk0))), rfl, bel.frame _, fun h => by cases h⟩
theorem over : Rows.commandMsgRow.holds Try.pinned (OpenSpec.ofChange Rows.commandMsgSpec) :=
  OpenClaim.holds_of_wide 3 Try.f3 rfl rfl rfl rfl rfl rfl rfl ⟨rfl, rfl, rfl, rfl, rfl⟩ rfl rfl rfl rfl rfl (by kernel_rfl) Try.func3 (by kernel_rfl)
    (of_decide_eq_true (by kernel_rfl)) (by unfold Func.isWrapper; first | (rw [if_pos (by decide +kernel)]; kernel_rfl) | (rw [if_neg (by decide +kernel)]; exact ⟨rfl, rfl⟩))
    (fun os started H enc _ => lifted os started H enc)
end Go.Proofs.Ytmpndjpaelcnkaa.commandMsg
namespace Go.Proofs.Ytmpndjpaelcnkaa
/-- The row, under a short name, for the claim. -/
theorem commandMsg_holds : Rows.CommandMsgSaid := commandMsg.over
#print axioms commandMsg_holds
end Go.Proofs.Ytmpndjpaelcnkaa
