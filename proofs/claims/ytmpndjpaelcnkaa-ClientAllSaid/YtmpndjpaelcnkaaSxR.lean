/- What comes in, read as data, stands for values without memory; a law's row, out of its steps. -/
import Derived.Test.YtmpndjpaelcnkaaSxM
import Derived.Deep.Slices
import Derived.Below
import Derived.ProofKit
import Derived.WalkKit
import Derived.OpenShut
import Derived.ShutString
import Derived.ChangeOld
import Derived.SizedLaws
set_option linter.unusedVariables false
set_option linter.unusedSimpArgs false
namespace Go.SX
open Go Go.ChangeShapes Go.WideShapes

/-- At a call's begin: all that lies there stays as it is. -/
def Gh.old (w : World) : Gh := ⟨fun _ => none, fun k => k < w.heap.size⟩
def RepL (g : Gh) (w : World) (xs : List AV) (cs : List Value) : Prop := cs.length = xs.length ∧ ∀ (i : Nat) (x : AV) (u : Value), xs[i]? = some x → cs[i]? = some u → Rep g w x u
theorem RepL.one {g : Gh} {w : World} {x : AV} {u : Value} (h : Rep g w x u) : RepL g w [x] [u] := ⟨rfl, fun i y v hy hv => by
  cases i with
  | zero => simp at hy hv; subst hy; subst hv; exact h
  | succ i => simp at hy⟩

section
variable {H : Type} (enc : TypeId × Value → H) (P : Program) (w : World)
/-- Whatever is read at a type stands for a datum's cells. -/
def Opens (t : TypeId) {α : Type} (e : α → List AV) (ok : α → Prop) : Prop :=
  ∀ (fuel : Nat) (cs : List Value) (x : DataW H × List MemPlace), DataW.trod enc P w 0 (fun _ => true) true fuel t cs = some x → ∃ a, ok a ∧ RepL (Gh.old w) w (e a) cs
end
section
variable {H : Type} {enc : TypeId × Value → H} {P : Program} {w : World}
theorem opens_int {t : TypeId} {k : IntKind} (ht : P.underlying t = some (.int k)) : Opens enc P w t (fun n : Int => [.p (.int k n)]) (fun n => (Lit.int k n).wf = true) := fun fuel cs x h => by
  obtain ⟨n, rfl, _, hw⟩ := DataW.trod_int ht h
  exact ⟨n, hw, .one (.p _)⟩
theorem opens_bool {t : TypeId} (ht : P.underlying t = some .bool) : Opens enc P w t (fun n : Bool => [.p (.bool n)]) (fun _ => True) := fun fuel cs x h => by
  obtain ⟨n, rfl, _⟩ := DataW.trod_bool ht h
  exact ⟨n, trivial, .one (.p _)⟩
theorem opens_str {t : TypeId} (ht : P.underlying t = some .string) : Opens enc P w t (fun n : ByteArray => [.p (.string n)]) (fun s => s.size ≤ maxLen) := fun fuel cs x h => by
  obtain ⟨n, rfl, _, hw⟩ := DataW.trod_string ht h
  exact ⟨n, hw, .one (.p _)⟩
theorem Opens.map {t : TypeId} {α β : Type} {e : α → List AV} {e2 : β → List AV} {ok : α → Prop} {ok2 : β → Prop} (h : Opens enc P w t e ok) (f : α → β) (he : ∀ a, ok a → e2 (f a) = e a) (ho : ∀ a, ok a → ok2 (f a)) : Opens enc P w t e2 ok2 := fun fuel cs x hx => by
  obtain ⟨a, h1, h2⟩ := h fuel cs x hx
  exact ⟨f a, ho a h1, by rw [he a h1]; exact h2⟩

theorem opens_u8 {t : TypeId} (ht : P.underlying t = some (.int .u8)) : Opens enc P w t bE (fun _ => True) :=
  (opens_int ht).map (fun n => UInt8.ofNat n.toNat) (fun n hn => by
    have h : 0 ≤ n ∧ n ≤ 255 := by simpa [Lit.wf, IntKind.min, IntKind.max, IntKind.signed, IntKind.bits] using hn
    have h2 : ((UInt8.ofNat n.toNat).toNat : Int) = n := by rw [UInt8.toNat_ofNat']; omega
    simp only [bE, u8A, h2]) (fun _ _ => trivial)
theorem opens_i64 {t : TypeId} (ht : P.underlying t = some (.int .i64)) : Opens enc P w t nE (fun n => -9223372036854775808 ≤ n ∧ n ≤ 9223372036854775807) :=
  (opens_int ht).map id (fun _ _ => rfl) (fun n hn => by simpa [Lit.wf, IntKind.min, IntKind.max, IntKind.signed, IntKind.bits] using hn)
theorem cellsOf_sz {t n : Nat} (h : szA P t = some n) : P.cellsOf t = n := by
  unfold Program.cellsOf; unfold szA at h; rw [h]; rfl
theorem flat_rep {g : Gh} {α : Type} {e : α → List AV} {sz : Nat} (he : ∀ a, (e a).length = sz) : ∀ (as : List α) (us : List (List Value)), us.length = as.length → (∀ (i : Nat) (a : α) (u : List Value), as[i]? = some a → us[i]? = some u → RepL g w (e a) u) →
    RepL g w (as.flatMap e) us.flatten := by
  intro as
  induction as with
  | nil =>
    intro us hl _
    obtain rfl : us = [] := List.length_eq_zero_iff.1 hl
    exact ⟨rfl, fun i x u hx => by simp at hx⟩
  | cons a as ih =>
    intro us hl h
    cases us with
    | nil => simp at hl
    | cons u us =>
      have h0 := h 0 a u rfl rfl
      have h1 := ih us (by simpa using hl) (fun i => h (i + 1))
      refine ⟨by simp [h0.1, h1.1], fun i x v hx hv => ?_⟩
      simp only [List.flatMap_cons, List.flatten_cons] at hx hv
      by_cases hi : i < (e a).length
      · rw [List.getElem?_append_left hi] at hx
        rw [List.getElem?_append_left (by rw [h0.1]; exact hi)] at hv
        exact h0.2 i x v hx hv
      · rw [List.getElem?_append_right (by omega)] at hx
        rw [List.getElem?_append_right (by rw [h0.1]; omega), h0.1] at hv
        exact h1.2 _ x v hx hv

theorem flat_get {n : Nat} : ∀ (us : List (List Value)), (∀ u ∈ us, u.length = n) → ∀ (i : Nat) (v : Value), us.flatten[i]? = some v → ∃ (j k : Nat) (u : List Value), us[j]? = some u ∧ u[k]? = some v ∧ i = j * n + k
  | [], _, i, v, h => by simp at h
  | u :: us, hu, i, v, h => by
    simp only [List.flatten_cons] at h
    have hl := hu u List.mem_cons_self
    by_cases hi : i < u.length
    · rw [List.getElem?_append_left hi] at h
      exact ⟨0, i, u, rfl, h, by simp⟩
    · rw [List.getElem?_append_right (by omega)] at h
      obtain ⟨j, k, u', h1, h2, h3⟩ := flat_get us (fun u hm => hu u (List.mem_cons_of_mem _ hm)) _ v h
      exact ⟨j + 1, k, u', by simpa using h1, h2, by rw [Nat.succ_mul]; omega⟩

theorem opens_slice {t el : TypeId} {sz : Nat} {α : Type} {e : α → List AV} {ok : α → Prop} (ht : P.underlying t = some (.slice el)) (hs : P.cellsOf el = sz) (he : ∀ a, (e a).length = sz) (ho : Opens enc P w el e ok) :
    Opens enc P w t (fun o : Option (List α) => [sq e o]) (fun o => (sqL o).length ≤ maxLen ∧ ∀ a ∈ sqL o, ok a) := fun fuel cs x h => by
  subst hs
  rcases Deep.open_slice ht h with ⟨rfl, _⟩ | ⟨a, len, cap, m, n, D, Pl, rfl, _, h1, h2, hm, _, hel⟩
  · exact ⟨none, ⟨by simp [sqL], by simp [sqL]⟩, .one (.p _)⟩
  · simp only [if_true] at hm
    subst hm
    have hall : ∀ i, i < len → ∃ q : α × List Value, w.cells? 0 (a.add (i * P.cellsOf el)) (P.cellsOf el) = some q.2 ∧ ok q.1 ∧ RepL (Gh.old w) w (e q.1) q.2 := fun i hi => by
      obtain ⟨cs', h3, h4⟩ := hel i (by omega)
      obtain ⟨y, h5, h6⟩ := ho _ _ _ h4
      exact ⟨(y, cs'), h3, h5, h6⟩
    obtain ⟨qs, hql, hq⟩ := choose_list (p := fun i (q : α × List Value) => w.cells? 0 (a.add (i * P.cellsOf el)) (P.cellsOf el) = some q.2 ∧ ok q.1 ∧ RepL (Gh.old w) w (e q.1) q.2) len hall
    have hrep : RepL (Gh.old w) w ((qs.map (·.1)).flatMap e) (qs.map (·.2)).flatten := by
      refine flat_rep he _ _ (by simp) (fun i y u hy hu => ?_)
      rw [List.getElem?_map] at hy hu
      cases hx : qs[i]? with
      | none => rw [hx] at hy; cases hy
      | some q => rw [hx] at hy hu; cases hy; cases hu; exact (hq i q hx).2.2
    have hcell : ∀ (i : Nat) (u : Value), (qs.map (·.2)).flatten[i]? = some u → w.cell? (a.add i) = some u := by
      intro i u hu
      have hlen : ∀ u ∈ qs.map (·.2), u.length = P.cellsOf el := by
        intro u hm
        obtain ⟨q, hq2, rfl⟩ := List.mem_map.1 hm
        obtain ⟨j, hj⟩ := List.mem_iff_getElem?.1 hq2
        exact (World.cells?_some (hq j q hj).1).2.1
      obtain ⟨j, k, u', h5, h6, h7⟩ := flat_get _ hlen i u hu
      rw [List.getElem?_map] at h5
      cases hx : qs[j]? with
      | none => rw [hx] at h5; cases h5
      | some q =>
        rw [hx] at h5; cases h5
        have hk := (World.cells?_some (hq j q hx).1).2.2 k (by rw [← (World.cells?_some (hq j q hx).1).2.1]; exact (List.getElem?_eq_some_iff.1 h6).1)
        rw [Deep.add_add, ← h7, h6] at hk
        exact hk
    refine ⟨some (qs.map (·.1)), ⟨by simp [sqL, hql]; omega, fun y hy => ?_⟩, .one ?_⟩
    · simp only [sqL] at hy
      obtain ⟨q, hm, rfl⟩ := List.mem_map.1 hy
      obtain ⟨j, hj⟩ := List.mem_iff_getElem?.1 hm
      exact (hq j q hj).2.1
    · show Rep _ _ (.imm false (qs.map (·.1)).length _) _
      have : (qs.map (·.1)).length = len := by simp [hql]
      rw [this]
      refine .imm _ _ _ a m (qs.map (·.2)).flatten ?_ h1 h2 (fun e => by cases e) hrep.1 hcell hrep.2
      by_cases h0 : (qs.map (·.1)).flatMap e = []
      · exact .inl h0
      · right
        have hpos : 0 < (qs.map (·.2)).flatten.length := by rw [hrep.1]; exact List.length_pos_iff.2 h0
        have hc := hcell 0 _ (List.getElem?_eq_getElem hpos)
        show a.block < w.heap.size
        unfold World.cell? at hc
        rw [addr_add_block] at hc
        cases hb : w.heap[a.block]? with
        | none => rw [hb] at hc; cases hc
        | some o => exact (Array.getElem?_eq_some_iff.1 hb).1

/-- The fields of a struct, from a place on. -/
def OpensF (enc : TypeId × Value → H) (P : Program) (w : World) (fs : List Field) (off : Nat) {α : Type} (e : α → List AV) (ok : α → Prop) : Prop :=
  ∀ (n : Nat) (cs : List Value) (xs : List (DataW H × List MemPlace)), off ≤ cs.length → (∀ (i : Nat) (f : Field), fs[i]? = some f → ∃ x, DataW.trod enc P w 0 (fun _ => true) true n f.type ((cs.drop f.offset).take (P.cellsOf f.type)) = some x) →
    ∃ a, ok a ∧ ∀ (i : Nat) (x : AV) (u : Value), (e a)[i]? = some x → cs[off + i]? = some u → Rep (Gh.old w) w x u
theorem opensF_nil {off : Nat} : OpensF enc P w [] off (fun _ : Unit => []) (fun _ => True) := fun n cs xs _ _ => ⟨(), trivial, fun i x u hx => by simp at hx⟩
theorem opensF_cons {f : Field} {fs : List Field} {off sz : Nat} {α β : Type} {e : α → List AV} {ok : α → Prop} {e2 : β → List AV} {ok2 : β → Prop} (hf : f.offset = off) (he : ∀ a, (e a).length = sz) (hs : P.cellsOf f.type = sz) (h1 : Opens enc P w f.type e ok) (h2 : OpensF enc P w fs (off + sz) e2 ok2) :
    OpensF enc P w (f :: fs) off (fun q : α × β => e q.1 ++ e2 q.2) (fun q => ok q.1 ∧ ok2 q.2) := fun n cs xs hle h => by
  obtain ⟨x0, hx0⟩ := h 0 f rfl
  obtain ⟨a, ha, hr⟩ := h1 _ _ _ hx0
  have hlen := hr.1
  rw [he, List.length_take, List.length_drop, hf, hs] at hlen
  obtain ⟨b, hb, hr2⟩ := h2 n cs xs (by omega) (fun i f hf => h (i + 1) f (by simpa using hf))
  refine ⟨(a, b), ⟨ha, hb⟩, fun i x u hx hu => ?_⟩
  simp only at hx
  by_cases hi : i < sz
  · rw [List.getElem?_append_left (by rw [he]; exact hi)] at hx
    refine hr.2 i x u hx ?_
    rw [hf, hs, List.getElem?_take, if_pos hi, List.getElem?_drop]; exact hu
  · rw [List.getElem?_append_right (by rw [he]; omega), he] at hx
    exact hr2 _ x u hx (by rw [show off + sz + (i - sz) = off + i by omega]; exact hu)
theorem opens_struct {t : TypeId} {fs : Array Field} {n : Nat} {α : Type} {e : α → List AV} {ok : α → Prop} (ht : P.underlying t = some (.struct fs)) (hs : P.cellsOf t = n) (he : ∀ a, (e a).length = n) (h : OpensF enc P w fs.toList 0 e ok) : Opens enc P w t e ok := fun fuel cs x hx => by
  obtain ⟨xs, m, _, _, hl, hxl, hf⟩ := DataW.trod_struct ht hx
  obtain ⟨a, ha, hr⟩ := h m cs xs (Nat.zero_le _) (fun i f hif => by
    have hi : i < fs.size := by
      have := (List.getElem?_eq_some_iff.1 hif).1; simpa using this
    have := hf i f (by simpa using hif)
    exact ⟨xs[i]'(by omega), by rw [this, List.getElem?_eq_getElem]⟩)
  refine ⟨a, ha, by rw [hl, hs, he], fun i x u hx hu => hr i x u hx (by simpa using hu)⟩

theorem rep_struct {t : TypeId} {fs : Array Field} {α : Type} {e : α → List AV} {ok : α → Prop} {v : Value} {d : DataW H} {ps : List MemPlace} {r : Reach} {b : Nat} (ht : P.underlying t = some (.struct fs)) (hval : Value.okWide P w r b t v) (h : DataW.Trod enc P w 0 (fun _ => true) true t v d ps)
    (ho : Opens enc P w t e ok) : ∃ a, ok a ∧ Rep (Gh.old w) w (.agg (e a)) v := by
  obtain ⟨cs, rfl, _⟩ := okWide_struct ht hval
  obtain ⟨fuel, hf⟩ := h
  obtain ⟨a, ha, hr⟩ := ho _ _ _ hf
  refine ⟨a, ha, .agg _ _ (by simpa [Value.cells] using hr.1.symm) (fun i x u hx hu => hr.2 i x u hx (by simpa [Value.cells] using hu))⟩
theorem rep_one {t : TypeId} {α : Type} {e : α → AV} {ok : α → Prop} {v : Value} {d : DataW H} {ps : List MemPlace} (h1 : v.cells = #[v]) (h : DataW.Trod enc P w 0 (fun _ => true) true t v d ps)
    (ho : Opens enc P w t (fun a => [e a]) ok) : ∃ a, ok a ∧ Rep (Gh.old w) w (e a) v := by
  obtain ⟨fuel, hf⟩ := h
  obtain ⟨a, ha, hr⟩ := ho _ _ _ hf
  exact ⟨a, ha, hr.2 0 _ _ rfl (by rw [h1]; rfl)⟩
end

/-- A law's call, out of its contract. -/
theorem law_calls {P : Program} {f : FuncId} {w : World} {xs : List AV} {us : List Value} (h : CallF P f xs [] [] (.p (.bool true)) []) (hl : us.length = xs.length) (hr : ∀ (i : Nat) (x : AV) (u : Value), xs[i]? = some x → us[i]? = some u → Rep (Gh.old w) w x u) :
    Calls P f us.toArray w fun e w' => e = .returned (.bool true) ∧ RowKit.Below w.heap.size w w' := by
  have hI : Inv (Gh.old w) w (fun _ => none) := ⟨fun b e cs hb => (by cases hb), fun b es hb => (by cases hb), fun b b' pb ba ba' hb => (by simp at hb), fun k hk => hk⟩
  refine (h.ok (fun _ => none) trivial (Gh.old w) w us hl hr hI (fun p => rfl)).mono ?_
  rintro e w' ⟨u, g', rfl, hx, _, hv, _⟩
  rw [rep_p hv]
  exact ⟨rfl, hx.os, hx.tape, hx.output, hx.size, fun k hk => hx.imb k hk⟩
end Go.SX
