/- New blocks, parts of slices, conversions. -/
import Derived.Test.YtmpndjpaelcnkaaSxE
set_option linter.unusedVariables false
set_option linter.unusedSimpArgs false
namespace Go.SX
open Go

section
variable {P : Program} {id : BId} {o : Oper} {tm : Nat → AV} {h : Heap} {K : AV → List (BId × Option Blk) → Prop}

theorem zA_some {t : TypeId} {zs : List AV} (h : zA P t = some zs) : ∃ i v, P.info? t = some i ∧ i.zero = some v ∧ zs = v.cells.toList.map .p := by
  unfold zA at h
  obtain ⟨v, hv, rfl⟩ := Option.map_eq_some_iff.1 h
  obtain ⟨i, hi, hz⟩ := Option.bind_eq_some_iff.1 hv
  exact ⟨i, v, hi, hz, rfl⟩
theorem rep_zeros (g : Gh) (w : World) (cs : Array Value) : ∀ (i : Nat) (x : AV), (cs.toList.map AV.p)[i]? = some x → ∃ u : Value, cs[i]? = some u ∧ Rep g w x u := by
  intro i x hx
  rw [List.getElem?_map, Array.getElem?_toList] at hx
  obtain ⟨u, hu, rfl⟩ := Option.map_eq_some_iff.1 hx
  exact ⟨u, hu, .p u⟩

theorem alloc_sound {e : TypeId} (ho : o.op = .alloc e) {zs : List AV} (hz : zA P e = some zs) (hk : K (.ptr id 0) [(id, some (.cells e zs))]) : WRop P id o tm h K := by
  refine ⟨_, [], _, opF_alloc (fun g w a h hr hev hI => ?_), trivial, hk⟩
  obtain ⟨i, v, hi, hv, rfl⟩ := zA_some hz
  refine ⟨.pointer (some ⟨w.heap.size, 0, none⟩), w.alloc (.cells v.cells e), v.cells, ?_, alloc_pushed _ _, by simp, rep_zeros g w _, fun g' hg' _ => .ptr _ 0 _ 0 hg'⟩
  simp [execOp, ho, Instr.alloc, zeroValue, typeInfo, hi, hv, newVar, newRow]
theorem box_sound {e : TypeId} {x : Operand} (ho : o.op = .box e x) {cs : List AV} (hb : boxA (evalA tm x) = some cs) (hk : K (.ptr id 0) [(id, some (.cells e cs))]) : WRop P id o tm h K := by
  refine ⟨_, [], _, opF_alloc (fun g w a h hr hev hI => ?_), trivial, hk⟩
  obtain ⟨h1, h2⟩ := rep_box (hev x) hb
  refine ⟨.pointer (some ⟨w.heap.size, 0, none⟩), w.alloc (.cells (a.eval x).cells e), (a.eval x).cells, ?_, alloc_pushed _ _, by omega, h2, fun g' hg' _ => .ptr _ 0 _ 0 hg'⟩
  simp [execOp, ho, Instr.box, newVar, newRow]

/-! #### parts filled in -/
def fillA (place : Nat → Option (Nat × Nat)) (cells : List AV) : List (Nat × AV) → Option (List AV)
  | [] => some cells
  | (i, v) :: rest =>
    match place i, boxA v with
    | some (off, size), some xs => if xs.length = size ∧ off + xs.length ≤ cells.length then fillA place (setSeg cells off xs) rest else none
    | _, _ => none

theorem foldl_zipIdx_set (off : Nat) : ∀ (us : List Value) (k : Nat) (cs : Array Value), ((us.zipIdx k).foldl (fun cs (x : Value × Nat) => cs.setIfInBounds (off + x.2) x.1) cs).toList = if off + k + us.length ≤ cs.size then cs.toList.take (off + k) ++ us ++ cs.toList.drop (off + k + us.length) else ((us.zipIdx k).foldl (fun cs (x : Value × Nat) => cs.setIfInBounds (off + x.2) x.1) cs).toList := by
  intro us
  induction us with
  | nil => intro k cs; simp
  | cons u us ih =>
    intro k cs
    split
    · rename_i hle
      simp only [List.zipIdx_cons, List.foldl_cons]
      rw [ih (k + 1)]
      rw [if_pos (by simp at hle ⊢; omega)]
      have e := list_seg_step cs.toList (off + k) u us (by simp at hle ⊢; omega)
      simpa [Array.toList_setIfInBounds, Nat.add_assoc, Nat.add_comm 1] using e
    · rfl
theorem fill_sound {g : Gh} {w : World} {place : Nat → Option (Nat × Nat)} : ∀ (parts : List (Nat × AV)) (vals : List (Nat × Value)) (cells : List AV) (cs : Array Value) (r : List AV),
    parts.length = vals.length → (∀ (i : Nat) (p : Nat × AV) (v : Nat × Value), parts[i]? = some p → vals[i]? = some v → p.1 = v.1 ∧ Rep g w p.2 v.2) →
    cells.length = cs.size → (∀ (i : Nat) (x : AV), cells[i]? = some x → ∃ u : Value, cs[i]? = some u ∧ Rep g w x u) → fillA place cells parts = some r →
    ∃ rs, Instr.fill place cs vals = some rs ∧ r.length = rs.size ∧ ∀ (i : Nat) (x : AV), r[i]? = some x → ∃ u : Value, rs[i]? = some u ∧ Rep g w x u := by
  intro parts
  induction parts with
  | nil =>
    intro vals cells cs r hl _ hcl hc hf
    cases vals with
    | nil => simp only [fillA, Option.some.injEq] at hf; subst hf; exact ⟨cs, rfl, hcl, hc⟩
    | cons _ _ => simp at hl
  | cons p parts ih =>
    intro vals cells cs r hl hr hcl hc hf
    cases vals with
    | nil => simp at hl
    | cons v vals =>
      obtain ⟨i, x⟩ := p
      obtain ⟨j, u⟩ := v
      obtain ⟨hij, hxu⟩ := hr 0 _ _ rfl rfl
      simp only at hij hxu
      subst hij
      simp only [fillA] at hf
      split at hf
      · rename_i off size xs hp hb
        split at hf
        · rename_i hcond
          obtain ⟨hsz, hle⟩ := hcond
          obtain ⟨k1, k2⟩ := rep_box hxu hb
          have hfold := foldl_zipIdx_set off u.cells.toList 0 cs
          rw [if_pos (by simp; omega)] at hfold
          have hE : (u.cells.zipIdx.foldl (fun cs (x : Value × Nat) => cs.setIfInBounds (off + x.2) x.1) cs) = (cs.toList.take off ++ u.cells.toList ++ cs.toList.drop (off + u.cells.toList.length)).toArray := by
            apply Array.toList_inj.1
            rw [← Array.foldl_toList, Array.toList_zipIdx]
            simpa using hfold
          have := ih vals (setSeg cells off xs) (cs.toList.take off ++ u.cells.toList ++ cs.toList.drop (off + u.cells.toList.length)).toArray r (by simpa using hl)
            (fun i p v hp hv => hr (i + 1) p v hp hv) (by simp [setSeg]; omega) ?_ hf
          · obtain ⟨rs, h1, h2, h3⟩ := this
            refine ⟨rs, ?_, h2, h3⟩
            simp only [Instr.fill, hp]
            rw [if_neg (by simp; omega)]
            rw [hE]; exact h1
          · intro k y hy
            unfold setSeg at hy
            rw [getElem?_seg _ _ _ _ hle] at hy
            have hsz2 : off + u.cells.toList.length ≤ cs.toList.length := by simp; omega
            have hget : (cs.toList.take off ++ u.cells.toList ++ cs.toList.drop (off + u.cells.toList.length)).toArray[k]? = if k < off then cs[k]? else if k < off + xs.length then u.cells[k - off]? else cs[k]? := by
              rw [List.getElem?_toArray, getElem?_seg _ _ _ _ hsz2]
              simp [k1]
            rw [hget]
            by_cases c1 : k < off
            · rw [if_pos c1] at hy ⊢; exact hc _ _ hy
            · rw [if_neg c1] at hy ⊢
              by_cases c2 : k < off + xs.length
              · rw [if_pos c2] at hy ⊢; exact k2 _ _ hy
              · rw [if_neg c2] at hy ⊢; exact hc _ _ hy
        · cases hf
      · cases hf

/-- Where a type's parts lie. -/
def placesA (P : Program) (t : TypeId) : Option (List (Nat × Nat)) :=
  match P.underlying t with
  | some (.struct fields) => fields.toList.mapM (fun f => (P.info? f.type).map fun i => (f.offset, i.size))
  | some (.array n e) => (P.info? e).map fun i => (List.range n).map fun k => (k * i.size, i.size)
  | _ => none
def partsA (ev : Operand → AV) (parts : List (Nat × Operand)) : List (Nat × AV) := parts.map fun q => (q.1, ev q.2)
theorem fill_array {sz n : Nat} : ∀ (parts : List (Nat × AV)) (cells r : List AV), fillA (fun k => ((List.range n).map fun k => (k * sz, sz))[k]?) cells parts = some r → fillA (fun k => some (k * sz, sz)) cells parts = some r := by
  intro parts
  induction parts with
  | nil => intro cells r h; exact h
  | cons p parts ih =>
    intro cells r h
    obtain ⟨i, x⟩ := p
    simp only [fillA] at h ⊢
    split at h
    · rename_i off size xs hp hb
      rw [List.getElem?_map] at hp
      obtain ⟨k, hk, he⟩ := Option.map_eq_some_iff.1 hp
      have hki : k = i := by
        have := List.getElem?_eq_some_iff.1 hk
        obtain ⟨hlt, he⟩ := this
        simp at he; exact he.symm
      subst hki
      simp only [Prod.mk.injEq] at he
      obtain ⟨rfl, rfl⟩ := he
      rw [hb]
      simp only
      split at h
      · rename_i hc; rw [if_pos hc]; exact ih _ _ h
      · cases h
    · cases h
theorem build_sound {t : TypeId} {parts : Array (Nat × Operand)} (ho : o.op = .build t parts) {zs cs : List AV} {pl : List (Nat × Nat)} (hz : zA P t = some zs) (hp : placesA P t = some pl)
    (hf : fillA (fun k => pl[k]?) zs (partsA (evalA tm) parts.toList) = some cs) (hk : K (.agg cs) []) : WRop P id o tm h K := by
  refine WRop_value (R := []) trivial hk fun g w a h hr hev hI => ?_
  obtain ⟨i, v, hi, hv, rfl⟩ := zA_some hz
  have hparts : ∀ (i : Nat) (p : Nat × AV) (v : Nat × Value), (partsA (evalA tm) parts.toList)[i]? = some p → ((parts.map fun (i, x) => (i, a.eval x)).toList)[i]? = some v → p.1 = v.1 ∧ Rep g w p.2 v.2 := by
    intro i p v hp hv
    simp only [partsA, List.getElem?_map, Array.toList_map] at hp hv
    cases hq : parts.toList[i]? with
    | none => rw [hq] at hp; cases hp
    | some q =>
      rw [hq] at hp hv
      simp only [Option.map_some, Option.some.injEq] at hp hv
      subst hp; subst hv
      exact ⟨rfl, hev _⟩
  unfold placesA at hp
  split at hp
  · rename_i fields hu
    obtain ⟨rs, h1, h2, h3⟩ := fill_sound (g := g) (w := w) _ ((parts.map fun (i, x) => (i, a.eval x)).toList) _ v.cells cs (by simp [partsA]) hparts (by simp) (rep_zeros g w _) hf
    refine ⟨.agg rs, ?_, .agg _ _ h2 (fun i x u hx hu => ?_)⟩
    · have hb : P.built t (parts.map fun (i, x) => (i, a.eval x)).toList = some rs := by
        simp only [Program.built, hi, hu, hv, hp]
        simpa using h1
      simp only [execOp, ho, Sem.run_bind, run_build w t _ rs hb, Result.andThen_ok, Sem.run_pure]
    · obtain ⟨u', hu', hr'⟩ := h3 i x hx
      rw [hu] at hu'; cases hu'; exact hr'
  · rename_i n e hu
    obtain ⟨ie, hie, hpl⟩ := Option.map_eq_some_iff.1 hp
    subst hpl
    obtain ⟨rs, h1, h2, h3⟩ := fill_sound (g := g) (w := w) _ ((parts.map fun (i, x) => (i, a.eval x)).toList) _ v.cells cs (by simp [partsA]) hparts (by simp) (rep_zeros g w _) (fill_array _ _ _ hf)
    refine ⟨.agg rs, ?_, .agg _ _ h2 (fun i x u hx hu => ?_)⟩
    · have hb : P.built t (parts.map fun (i, x) => (i, a.eval x)).toList = some rs := by
        simp only [Program.built, hi, hu, hv, hie]
        exact h1
      simp only [execOp, ho, Sem.run_bind, run_build w t _ rs hb, Result.andThen_ok, Sem.run_pure]
    · obtain ⟨u', hu', hr'⟩ := h3 i x hx
      rw [hu] at hu'; cases hu'; exact hr'
  · cases hp

/-- A slice's literal: zeros, parts filled in. -/
def zerosA (zs : List AV) (n : Nat) : List AV := (List.range n).map fun i => zs.getD (i % zs.length) .top
theorem buildSlice_key {t : TypeId} {len : Nat} {parts : Array (Nat × Operand)} (ho : o.op = .buildSlice t len parts) {e : TypeId} {sz : Nat} {zs cs : List AV} (he : elA P t = some e) (hs : szA P e = some sz) (hz : zA P e = some zs)
    (hb : len * sz ≤ 2 ^ 24) (hf : fillA (fun k => some (k * sz, sz)) (zerosA zs (len * sz)) (partsA (evalA tm) parts.toList) = some cs) {g : Gh} {w : World} {a : Act} (hev : ∀ x, Rep g w (evalA tm x) (a.eval x)) :
    ∃ rs, (execOp a.eval o).run P w = .ok (.value (.slice (some ⟨w.heap.size, 0, none⟩) len len)) (w.alloc (.cells rs e)) ∧ cs.length = rs.size ∧ ∀ (i : Nat) (x : AV), cs[i]? = some x → ∃ u : Value, rs[i]? = some u ∧ Rep g w x u := by
  obtain ⟨i, v, hi, hv, rfl⟩ := zA_some hz
  obtain ⟨i', hi', hsz⟩ := Option.map_eq_some_iff.1 hs
  rw [hi] at hi'; cases hi'
  have hparts : ∀ (i : Nat) (p : Nat × AV) (v : Nat × Value), (partsA (evalA tm) parts.toList)[i]? = some p → ((parts.map fun (i, x) => (i, a.eval x)).toList)[i]? = some v → p.1 = v.1 ∧ Rep g w p.2 v.2 := by
    intro i p v hp hv
    simp only [partsA, List.getElem?_map, Array.toList_map] at hp hv
    cases hq : parts.toList[i]? with
    | none => rw [hq] at hp; cases hp
    | some q =>
      rw [hq] at hp hv
      simp only [Option.map_some, Option.some.injEq] at hp hv
      subst hp; subst hv
      exact ⟨rfl, hev _⟩
  -- the zeros, whichever way they are made
  have main : ∀ zero : Array Value, (zero = v.cells ∨ (zero = #[] ∧ len * sz = 0)) → ∃ rs, Instr.fill (fun k => some (k * sz, sz)) ((Array.range (len * sz)).map (zero[· % zero.size]!)) ((parts.map fun (i, x) => (i, a.eval x)).toList) = some rs ∧
      cs.length = rs.size ∧ ∀ (i : Nat) (x : AV), cs[i]? = some x → ∃ u : Value, rs[i]? = some u ∧ Rep g w x u := by
    intro zero hzero
    refine fill_sound (g := g) (w := w) _ _ _ _ cs (by simp [partsA]) hparts (by simp [zerosA]) ?_ hf
    intro i x hx
    simp only [zerosA, List.getElem?_map] at hx
    obtain ⟨k, hk1, hk2⟩ := Option.map_eq_some_iff.1 hx
    obtain ⟨hlt, hk3⟩ := List.getElem?_eq_some_iff.1 hk1
    simp at hlt hk3
    subst hk3
    rcases hzero with rfl | ⟨_, h0⟩
    · refine ⟨_, by simp [hlt]; rfl, ?_⟩
      by_cases hz0 : v.cells.size = 0
      · have : v.cells = #[] := Array.eq_empty_of_size_eq_zero hz0
        simp [this] at hk2
        subst hk2; exact .top _
      · have hm : i % v.cells.size < v.cells.size := Nat.mod_lt _ (by omega)
        simp [List.getD, hm] at hk2
        subst hk2
        simp [hm]
        exact .p _
    · omega
  have hb' : ¬ (2 ^ 24 < len * sz) := by omega
  by_cases h0 : len * sz = 0
  · obtain ⟨rs, h1, h2, h3⟩ := main #[] (.inr ⟨rfl, h0⟩)
    refine ⟨rs, ?_, h2, h3⟩
    rw [h0] at h1
    simp only [execOp, ho, Instr.buildSlice, Sem.run_bind, run_el he, Result.andThen_ok, run_sz hs, h0]
    simp only [Sem.run_ite, Sem.run_bind, Sem.run_pure, Result.andThen_ok, gt_iff_lt, Nat.not_lt_zero, if_false, if_true, h1]
    simp [newRow]
  · obtain ⟨rs, h1, h2, h3⟩ := main v.cells (.inl rfl)
    refine ⟨rs, ?_, h2, h3⟩
    simp only [execOp, ho, Instr.buildSlice, Sem.run_bind, run_el he, Result.andThen_ok, run_sz hs]
    simp only [Sem.run_ite, Sem.run_bind, Sem.run_pure, Result.andThen_ok, gt_iff_lt, hb', h0, if_false, zeroValue, typeInfo, run_program, hi, hv, h1]
    simp [newRow]
theorem buildSlice_sound {t : TypeId} {len : Nat} {parts : Array (Nat × Operand)} (ho : o.op = .buildSlice t len parts) {e : TypeId} {sz : Nat} {zs cs : List AV} (he : elA P t = some e) (hs : szA P e = some sz) (hz : zA P e = some zs)
    (hm : len ≤ maxLen) (hb : len * sz ≤ 2 ^ 24) (hf : fillA (fun k => some (k * sz, sz)) (zerosA zs (len * sz)) (partsA (evalA tm) parts.toList) = some cs) (hk : K (.imm true len cs) []) : WRop P id o tm h K := by
  refine ⟨_, [], _, opF_fix (fun g w a h hr hev hI => ?_), trivial, hk⟩
  obtain ⟨rs, h1, h2, h3⟩ := buildSlice_key ho he hs hz hb hf hev
  refine ⟨_, _, _, h1, alloc_pushed _ _, fun g' hg' hx => ?_⟩
  have hnew : (w.alloc (.cells rs e)).heap[w.heap.size]? = some (.cells rs e (0, 0)) := (alloc_pushed w (.cells rs e)).new
  refine .imm _ _ _ _ _ rs.toList (.inr hg') (Nat.le_refl _) ?_ (fun _ => rfl) (by simp [h2]) (fun i u hu => ?_) (fun i x u hx' hu => ?_)
  · exact hm
  · rw [addr_add_none, cell_of_row _ _ _ _ _ _ hnew]; simpa using hu
  · obtain ⟨u', hu', hr'⟩ := h3 i x hx'
    simp at hu
    rw [hu] at hu'; cases hu'; exact hr'.mono hx

/-! #### parts of slices and strings -/
theorem Rep.imm_cut {g : Gh} {w : World} {f : Bool} {len : Nat} {cs : List AV} {a : Addr} {cap : Nat} (hr : Rep g w (.imm f len cs) (.slice (some a) len cap)) {f' : Bool} (k n : Nat) {cap' len' : Nat} {a' : Addr} (ha : a' = a.add k ∨ (a' = a ∧ (cs.drop k).take n = []))
    (h1 : len' ≤ cap') (h2 : cap' ≤ maxLen) (h3 : f' = true → cap' = len') : Rep g w (.imm f' len' ((cs.drop k).take n)) (.slice (some a') len' cap') := by
  cases hr with
  | imm _ _ _ _ _ us hi _ _ _ hl hc hh =>
    rcases ha with rfl | ⟨rfl, h0⟩
    · refine .imm _ _ _ _ _ ((us.drop k).take n) ?_ h1 h2 h3 (by simp [hl]) (fun i u hu => ?_) (fun i x u hx hu => ?_)
      · rw [addr_add_block]
        rcases hi with hi | hi
        · exact .inl (by simp [hi])
        · exact .inr hi
      · rw [List.getElem?_take] at hu
        split at hu
        · rw [List.getElem?_drop] at hu
          rw [addr_add_add]; exact hc _ _ hu
        · cases hu
      · rw [List.getElem?_take] at hx hu
        split at hx
        · rename_i hlt
          rw [if_pos hlt] at hu
          rw [List.getElem?_drop] at hx hu
          exact hh _ _ _ hx hu
        · cases hx
    · rw [h0]
      exact .imm _ _ _ _ _ [] (.inl rfl) h1 h2 h3 rfl (by simp) (by simp)
/-- A bound of a part: left out, or a number. -/
def bndA (d : Int) : Option AV → Option Int
  | none => some d
  | some (.p (.int _ n)) => some n
  | _ => none
/-- x[lo:hi] (and x[lo:hi:hi]). -/
def sliceW (P : Program) (t : TypeId) (x : AV) (lo hi mx : Option AV) (K : AV → Prop) : Prop :=
  match x with
  | .p (.string s) => match P.underlying t, bndA 0 lo, bndA s.size hi, mx with
    | some .string, some l, some h, none => (0 ≤ l ∧ l ≤ h ∧ h ≤ s.size) ∧ K (.p (.string (s.extract l.toNat h.toNat)))
    | _, _, _, _ => False
  | .p (.slice none 0 0) => match elA P t, bndA 0 lo, bndA 0 hi, bndA 0 mx with
    | some e, some l, some h, some m => (szA P e).isSome = true ∧ (l = 0 ∧ h = 0 ∧ m = 0 ∧ (mx.isSome = true → hi.isSome = true)) ∧ K (.p (.slice none 0 0))
    | _, _, _, _ => False
  | .imm f len cs => match elA P t, bndA 0 lo, bndA len hi with
    | some e, some l, some h => match szA P e with
      | some sz => (0 ≤ l ∧ l ≤ h ∧ h ≤ len) ∧ (match mx with
        | none => K (.imm (match hi with | none => f | some _ => false) (h - l).toNat ((cs.drop (l.toNat * sz)).take ((h - l).toNat * sz)))
        | some m => hi.isSome = true ∧ bndA 0 (some m) = some h ∧ K (.imm true (h - l).toNat ((cs.drop (l.toNat * sz)).take ((h - l).toNat * sz))))
      | none => False
    | _, _, _ => False
  | .ref f b off len sz0 => match elA P t, bndA 0 lo, bndA len hi with
    | some e, some l, some h => match szA P e with
      | some sz => (sz = sz0 ∧ 0 ≤ l ∧ l ≤ h ∧ h ≤ len) ∧ (match mx with
        | none => K (.ref (match hi with | none => f | some _ => false) b (off + l.toNat * sz) (h - l).toNat sz)
        | some m => hi.isSome = true ∧ bndA 0 (some m) = some h ∧ K (.ref true b (off + l.toNat * sz) (h - l).toNat sz))
      | none => False
    | _, _, _ => False
  | _ => False

/-- What a bound says of the bound in memory. -/
theorem bnd_rep {g : Gh} {w : World} {d : Int} {x : Option Operand} {n : Int} {act : Act} (hev : ∀ x, Rep g w (evalA tm x) (act.eval x)) (h : bndA d (x.map (evalA tm)) = some n) :
    (x = none ∧ n = d) ∨ ∃ k y, x = some y ∧ act.eval y = .int k n := by
  cases x with
  | none => simp [bndA] at h; exact .inl ⟨rfl, h.symm⟩
  | some y =>
    simp only [Option.map_some] at h
    have hy := hev y
    generalize evalA tm y = z at h hy
    unfold bndA at h
    split at h
    · rename_i e; cases e
    · rename_i k m e
      cases e; cases h
      exact .inr ⟨k, y, rfl, rep_p hy⟩
    · cases h
theorem run_bounds {w : World} {isS : Bool} {len cap : Nat} {lo hi mx : Option Value} {l h m : Int} (hlo : (lo = none ∧ l = 0) ∨ ∃ k, lo = some (.int k l)) (hhi : (hi = none ∧ mx = none ∧ h = len) ∨ ∃ k, hi = some (.int k h))
    (hmx : (mx = none ∧ m = cap) ∨ ∃ k, mx = some (.int k m)) (h0 : 0 ≤ l) (h1 : l ≤ h) (h2 : h ≤ m) (h3 : m ≤ cap) : (Instr.sliceBounds isS len cap lo hi mx).run P w = .ok (l.toNat, h.toNat, m.toNat) w := by
  have hb : ∀ (k : IntKind) (i : Int) (y : Nat) (c : BoundsCode), 0 ≤ i → i ≤ y → (Instr.sliceBound (.int k i) y c).run P w = .ok i.toNat w := fun k i y c a b => run_sliceBound (P := P) (w := w) k i y c a b
  rcases hmx with ⟨rfl, rfl⟩ | ⟨km, rfl⟩
  · rcases hhi with ⟨rfl, _, rfl⟩ | ⟨kh, rfl⟩
    · rcases hlo with ⟨rfl, rfl⟩ | ⟨kl, rfl⟩
      · simp [Instr.sliceBounds]
      · simp [Instr.sliceBounds, hb kl l len _ h0 (by omega)]
    · have e1 := hb kh h cap (if isS = true then .sliceAcap else .sliceAlen) (by omega) (by omega)
      rcases hlo with ⟨rfl, rfl⟩ | ⟨kl, rfl⟩
      · simp [Instr.sliceBounds, e1]
      · have e2 := hb kl l h.toNat .sliceB h0 (by omega)
        simp [Instr.sliceBounds, e1, e2]
  · have e0 := hb km m cap (if isS = true then .slice3Acap else .slice3Alen) (by omega) (by omega)
    rcases hhi with ⟨_, hq, _⟩ | ⟨kh, rfl⟩
    · cases hq
    · have e1 := hb kh h m.toNat .slice3B (by omega) (by omega)
      rcases hlo with ⟨rfl, rfl⟩ | ⟨kl, rfl⟩
      · simp [Instr.sliceBounds, e0, e1]
      · have e2 := hb kl l h.toNat .slice3C h0 (by omega)
        simp [Instr.sliceBounds, e0, e1, e2]
theorem run_slice_of {w : World} {t e : TypeId} {sz : Nat} {a : Option Addr} {len cap : Nat} {lo hi mx : Option Value} {l h m : Nat} (he : elA P t = some e) (hs : szA P e = some sz) (hb : (Instr.sliceBounds true len cap lo hi mx).run P w = .ok (l, h, m) w) :
    (Instr.sliceAt t (.slice a len cap) lo hi mx).run P w = .ok (.slice (if m = l then a else a.map (·.add (l * sz))) (h - l) (m - l)) w := by
  simp only [Instr.sliceAt, Instr.slice, Sem.run_bind, run_el he, Result.andThen_ok, hb, run_sz hs, Sem.run_pure]
theorem slice_sound {t : TypeId} {x : Operand} {lo hi mx : Option Operand} (ho : o.op = .slice t x lo hi mx) (hw : sliceW P t (evalA tm x) (lo.map (evalA tm)) (hi.map (evalA tm)) (mx.map (evalA tm)) (fun v => K v [])) : WRop P id o tm h K := by
  have hexec : ∀ (act : Act), execOp act.eval o = (do pure (.value (← Instr.sliceAt t (act.eval x) (lo.map act.eval) (hi.map act.eval) (mx.map act.eval)))) := fun act => by simp only [execOp, ho]
  have hlo : ∀ {g : Gh} {w : World} {act : Act} {l : Int}, (∀ x, Rep g w (evalA tm x) (act.eval x)) → bndA 0 (lo.map (evalA tm)) = some l → (lo.map act.eval = none ∧ l = 0) ∨ ∃ k, lo.map act.eval = some (.int k l) := by
    intro g w act l hev hb
    rcases bnd_rep hev hb with ⟨rfl, rfl⟩ | ⟨k, y, rfl, e⟩
    · exact .inl ⟨rfl, rfl⟩
    · exact .inr ⟨k, by simp [e]⟩
  have hhi : ∀ {g : Gh} {w : World} {act : Act} {d n : Int}, (∀ x, Rep g w (evalA tm x) (act.eval x)) → bndA d (hi.map (evalA tm)) = some n → (hi.map act.eval = none ∧ hi = none ∧ n = d) ∨ ∃ k, hi.map act.eval = some (.int k n) := by
    intro g w act d n hev hb
    rcases bnd_rep hev hb with ⟨rfl, rfl⟩ | ⟨k, y, rfl, e⟩
    · exact .inl ⟨rfl, rfl, rfl⟩
    · exact .inr ⟨k, by simp [e]⟩
  unfold sliceW at hw
  split at hw
  · -- a string
    rename_i s hx
    split at hw
    · rename_i l hh hu hbl hbh hm
      obtain ⟨⟨h0, h1, h2⟩, hK⟩ := hw
      have hmx : mx = none := by cases mx <;> simp_all
      subst hmx
      refine WRop_value (R := []) trivial hK fun g w act h hr hev hI => ⟨_, ?_, .p _⟩
      have q := hev x
      rw [hx] at q
      rw [hexec, rep_p q]
      have hbs := run_bounds (P := P) (w := w) (isS := false) (len := s.size) (cap := s.size) (lo := lo.map act.eval) (hi := hi.map act.eval) (mx := none) (l := l) (h := hh) (m := s.size) (hlo hev hbl)
        (by rcases hhi hev hbh with ⟨e, _, rfl⟩ | hk
            · exact .inl ⟨e, rfl, rfl⟩
            · exact .inr hk) (.inl ⟨rfl, rfl⟩) h0 h1 h2 (by omega)
      simp only [Instr.sliceAt, Instr.slice, Sem.run_bind, run_underlying hu, Result.andThen_ok, Option.map_none, Option.isSome_none, Bool.false_eq_true, if_false, Sem.run_pure, hbs]
    · exact hw.elim
  · -- nil
    rename_i hx
    split at hw
    · rename_i e l hh m he hbl hbh hbm
      obtain ⟨hs, ⟨rfl, rfl, rfl, hmh⟩, hK⟩ := hw
      obtain ⟨sz, hs⟩ := Option.isSome_iff_exists.1 hs
      refine WRop_value (R := []) trivial hK fun g w act h hr hev hI => ⟨_, ?_, .p _⟩
      have q := hev x
      rw [hx] at q
      rw [hexec, rep_p q]
      by_cases hmn : mx = none
      · subst hmn
        have hbs := run_bounds (P := P) (w := w) (isS := true) (len := 0) (cap := 0) (lo := lo.map act.eval) (hi := hi.map act.eval) (mx := none) (l := 0) (h := 0) (m := 0) (hlo hev hbl)
          (by rcases hhi hev hbh with ⟨e, _, _⟩ | hk
              · exact .inl ⟨e, rfl, rfl⟩
              · exact .inr hk) (.inl ⟨rfl, rfl⟩) (by omega) (by omega) (by omega) (by omega)
        have := run_slice_of (a := none) he hs hbs
        simp only [Option.map_none]
        simp only [Sem.run_bind, this, Result.andThen_ok, Sem.run_pure]
        simp
      · obtain ⟨my, rfl⟩ : ∃ y, mx = some y := by cases mx <;> simp_all
        obtain ⟨km, y, e1, e2⟩ : ∃ k y, some my = some y ∧ act.eval y = .int k 0 := by
          rcases bnd_rep hev hbm with ⟨e, _⟩ | hk
          · cases e
          · exact hk
        cases e1
        rcases hhi hev hbh with ⟨e, hn, _⟩ | ⟨kh, hk⟩
        · subst hn; simp at hmh
        · have hbs := run_bounds (P := P) (w := w) (isS := true) (len := 0) (cap := 0) (lo := lo.map act.eval) (hi := hi.map act.eval) (mx := some (act.eval my)) (l := 0) (h := 0) (m := 0) (hlo hev hbl)
            (.inr ⟨kh, hk⟩) (.inr ⟨km, by rw [e2]⟩) (by omega) (by omega) (by omega) (by omega)
          have := run_slice_of (a := none) he hs hbs
          simp only [Option.map_some]
          simp only [Sem.run_bind, this, Result.andThen_ok, Sem.run_pure]
          simp
    · exact hw.elim
  · -- what stays as it is
    rename_i f len cs hx
    split at hw
    case h_2 => exact hw.elim
    rename_i e l hh he hbl hbh
    split at hw
    case h_2 => exact hw.elim
    rename_i sz hs
    obtain ⟨⟨h0, h1, h2⟩, hw⟩ := hw
    obtain ⟨ln, rfl⟩ := Int.eq_ofNat_of_zero_le h0
    obtain ⟨hn, rfl⟩ := Int.eq_ofNat_of_zero_le (show 0 ≤ hh by omega)
    have hsub : ((hn : Int) - (ln : Int)).toNat = hn - ln := by omega
    simp only [Int.toNat_natCast, hsub] at hw
    split at hw
    · rename_i hm
      have hmx : mx = none := by cases mx <;> simp_all
      subst hmx
      refine WRop_value (R := []) trivial hw fun g w act h hr hev hI => ?_
      have q := hev x
      rw [hx] at q
      obtain ⟨a, cap, ev, k1, k2, k3, _⟩ := q.imm_ep
      rw [ev] at q
      have hcase := hhi hev hbh
      have hbs := run_bounds (P := P) (w := w) (isS := true) (len := len) (cap := cap) (lo := lo.map act.eval) (hi := hi.map act.eval) (mx := none) (l := ln) (h := hn) (m := cap) (hlo hev hbl)
        (by rcases hcase with ⟨e, _, e2⟩ | hk
            · exact .inl ⟨e, rfl, e2⟩
            · exact .inr hk) (.inl ⟨rfl, rfl⟩) h0 h1 (by omega) (by omega)
      simp only [Int.toNat_natCast] at hbs
      have hrun := run_slice_of (a := some a) he hs hbs
      refine ⟨.slice (if cap = ln then some a else (some a).map (·.add (ln * sz))) (hn - ln) (cap - ln), ?_, ?_⟩
      · rw [hexec, ev]
        simp only [Option.map_none, Sem.run_bind, hrun, Result.andThen_ok, Sem.run_pure]
      · have haddr : (if cap = ln then some a else (some a).map (·.add (ln * sz))) = some (if cap = ln then a else a.add (ln * sz)) := by split <;> rfl
        rw [haddr]
        refine q.imm_cut (ln * sz) ((hn - ln) * sz) ?_ (by omega) (by omega) ?_
        · by_cases hc : cap = ln
          · rw [if_pos hc]
            exact .inr ⟨rfl, by rw [show hn - ln = 0 by omega, Nat.zero_mul, List.take_zero]⟩
          · rw [if_neg hc]; exact .inl rfl
        · rcases hcase with ⟨_, rfl, e2⟩ | ⟨k, hk⟩
          · simp only [Option.map_none]
            intro hf; have := k3 hf; omega
          · cases hi with
            | none => simp at hk
            | some y => simp
    · rename_i m hm
      obtain ⟨g1, g2, hK⟩ := hw
      obtain ⟨my, rfl⟩ : ∃ y, mx = some y := by cases mx <;> simp_all
      refine WRop_value (R := []) trivial hK fun g w act h hr hev hI => ?_
      have q := hev x
      rw [hx] at q
      obtain ⟨a, cap, ev, k1, k2, k3, _⟩ := q.imm_ep
      rw [ev] at q
      simp only [Option.map_some, Option.some.injEq] at hm
      obtain ⟨km, y, e1, e2⟩ : ∃ k y, some my = some y ∧ act.eval y = .int k hn := by
        rcases bnd_rep (x := some my) (d := 0) hev (by rw [Option.map_some, hm]; exact g2) with ⟨e, _⟩ | hk
        · cases e
        · exact hk
      cases e1
      have hk : ∃ k, hi.map act.eval = some (.int k hn) := by
        rcases hhi hev hbh with ⟨_, hn', _⟩ | hk
        · subst hn'; simp at g1
        · exact hk
      have hbs := run_bounds (P := P) (w := w) (isS := true) (len := len) (cap := cap) (lo := lo.map act.eval) (hi := hi.map act.eval) (mx := some (act.eval my)) (l := ln) (h := hn) (m := hn) (hlo hev hbl)
        (.inr hk) (.inr ⟨km, by rw [e2]⟩) h0 h1 (by omega) (by omega)
      simp only [Int.toNat_natCast] at hbs
      have hrun := run_slice_of (a := some a) he hs hbs
      refine ⟨.slice (if hn = ln then some a else (some a).map (·.add (ln * sz))) (hn - ln) (hn - ln), ?_, ?_⟩
      · rw [hexec, ev]
        simp only [Option.map_some, Sem.run_bind, hrun, Result.andThen_ok, Sem.run_pure]
      · have haddr : (if hn = ln then some a else (some a).map (·.add (ln * sz))) = some (if hn = ln then a else a.add (ln * sz)) := by split <;> rfl
        rw [haddr]
        refine q.imm_cut (ln * sz) ((hn - ln) * sz) ?_ (by omega) (by omega) (fun _ => rfl)
        by_cases hc : hn = ln
        · rw [if_pos hc]
          exact .inr ⟨rfl, by rw [show hn - ln = 0 by omega, Nat.zero_mul, List.take_zero]⟩
        · rw [if_neg hc]; exact .inl rfl
  · -- a block of one's own
    rename_i f b off len sz0 hx
    split at hw
    case h_2 => exact hw.elim
    rename_i e l hh he hbl hbh
    split at hw
    case h_2 => exact hw.elim
    rename_i sz hs
    obtain ⟨⟨rfl, h0, h1, h2⟩, hw⟩ := hw
    obtain ⟨ln, rfl⟩ := Int.eq_ofNat_of_zero_le h0
    obtain ⟨hn, rfl⟩ := Int.eq_ofNat_of_zero_le (show 0 ≤ hh by omega)
    have hsub : ((hn : Int) - (ln : Int)).toNat = hn - ln := by omega
    simp only [Int.toNat_natCast, hsub] at hw
    have hadd : ∀ (cap o m : Nat), o + cap * sz ≤ m → ∀ c, c ≤ cap → ln ≤ c → o + ln * sz + (c - ln) * sz ≤ m := by
      intro cap o m hm c hc hl
      rw [Nat.add_assoc, ← Nat.add_mul, show ln + (c - ln) = c by omega]
      exact Nat.le_trans (Nat.add_le_add_left (Nat.mul_le_mul_right _ hc) _) hm
    split at hw
    · rename_i hm
      have hmx : mx = none := by cases mx <;> simp_all
      subst hmx
      refine WRop_value (R := []) trivial hw fun g w act h hr hev hI => ?_
      have q := hev x
      rw [hx] at q
      obtain ⟨pb, ba, oo, cap, e', m, ev, hp, hsh, hoo, k1, k2, k3, k4⟩ := q.refv
      have hcase := hhi hev hbh
      have hbs := run_bounds (P := P) (w := w) (isS := true) (len := len) (cap := cap) (lo := lo.map act.eval) (hi := hi.map act.eval) (mx := none) (l := ln) (h := hn) (m := cap) (hlo hev hbl)
        (by rcases hcase with ⟨e, _, e2⟩ | hk
            · exact .inl ⟨e, rfl, e2⟩
            · exact .inr hk) (.inl ⟨rfl, rfl⟩) h0 h1 (by omega) (by omega)
      simp only [Int.toNat_natCast] at hbs
      have hrun := run_slice_of (a := some ⟨pb, oo, none⟩) he hs hbs
      refine ⟨.slice (if cap = ln then some (⟨pb, oo, none⟩ : Addr) else (some (⟨pb, oo, none⟩ : Addr)).map (·.add (ln * sz))) (hn - ln) (cap - ln), ?_, ?_⟩
      · rw [hexec, ev]
        simp only [Option.map_none, Sem.run_bind, hrun, Result.andThen_ok, Sem.run_pure]
      · have haddr : (if cap = ln then some (⟨pb, oo, none⟩ : Addr) else (some (⟨pb, oo, none⟩ : Addr)).map (·.add (ln * sz))) = some ⟨pb, if cap = ln then oo else oo + ln * sz, none⟩ := by
          split
          · rfl
          · simp [addr_add_none]
        rw [haddr]
        refine .ref _ _ _ _ _ pb ba _ (cap - ln) e' m hp hsh ?_ (by omega) (by omega) ?_ ?_
        · by_cases hc : cap = ln
          · exact .inl (by omega)
          · rw [if_neg hc]
            exact .inr (by rw [hoo.resolve_left (by omega), Nat.add_assoc])
        · rcases hcase with ⟨_, rfl, e2⟩ | ⟨k, hk⟩
          · simp only [Option.map_none]
            intro hf; have := k3 hf; omega
          · cases hi with
            | none => simp at hk
            | some y => simp
        · by_cases hc : cap = ln
          · rw [if_pos hc]
            have : (cap - ln) * sz = 0 := by rw [hc]; simp
            rw [this]
            exact Nat.le_trans (Nat.le_add_right _ _) k4
          · rw [if_neg hc]; exact hadd cap oo m k4 cap (Nat.le_refl _) (by omega)
    · rename_i m hm
      obtain ⟨g1, g2, hK⟩ := hw
      obtain ⟨my, rfl⟩ : ∃ y, mx = some y := by cases mx <;> simp_all
      refine WRop_value (R := []) trivial hK fun g w act h hr hev hI => ?_
      have q := hev x
      rw [hx] at q
      obtain ⟨pb, ba, oo, cap, e', m', ev, hp, hsh, hoo, k1, k2, k3, k4⟩ := q.refv
      simp only [Option.map_some, Option.some.injEq] at hm
      obtain ⟨km, y, e1, e2⟩ : ∃ k y, some my = some y ∧ act.eval y = .int k hn := by
        rcases bnd_rep (x := some my) (d := 0) hev (by rw [Option.map_some, hm]; exact g2) with ⟨e, _⟩ | hk
        · cases e
        · exact hk
      cases e1
      have hk : ∃ k, hi.map act.eval = some (.int k hn) := by
        rcases hhi hev hbh with ⟨_, hn', _⟩ | hk
        · subst hn'; simp at g1
        · exact hk
      have hbs := run_bounds (P := P) (w := w) (isS := true) (len := len) (cap := cap) (lo := lo.map act.eval) (hi := hi.map act.eval) (mx := some (act.eval my)) (l := ln) (h := hn) (m := hn) (hlo hev hbl)
        (.inr hk) (.inr ⟨km, by rw [e2]⟩) h0 h1 (by omega) (by omega)
      simp only [Int.toNat_natCast] at hbs
      have hrun := run_slice_of (a := some ⟨pb, oo, none⟩) he hs hbs
      refine ⟨.slice (if hn = ln then some (⟨pb, oo, none⟩ : Addr) else (some (⟨pb, oo, none⟩ : Addr)).map (·.add (ln * sz))) (hn - ln) (hn - ln), ?_, ?_⟩
      · rw [hexec, ev]
        simp only [Option.map_some, Sem.run_bind, hrun, Result.andThen_ok, Sem.run_pure]
      · have haddr : (if hn = ln then some (⟨pb, oo, none⟩ : Addr) else (some (⟨pb, oo, none⟩ : Addr)).map (·.add (ln * sz))) = some ⟨pb, if hn = ln then oo else oo + ln * sz, none⟩ := by
          split
          · rfl
          · simp [addr_add_none]
        rw [haddr]
        refine .ref _ _ _ _ _ pb ba _ (hn - ln) e' m' hp hsh ?_ (by omega) (by omega) (fun _ => rfl) ?_
        · by_cases hc : hn = ln
          · exact .inl (by omega)
          · rw [if_neg hc]
            exact .inr (by rw [hoo.resolve_left (by omega), Nat.add_assoc])
        · by_cases hc : hn = ln
          · rw [if_pos hc, hc]
            simp
            exact Nat.le_trans (Nat.le_add_right _ _) k4
          · rw [if_neg hc]; exact hadd cap oo m' k4 hn (by omega) (by omega)
  · exact hw.elim

end
end Go.SX
