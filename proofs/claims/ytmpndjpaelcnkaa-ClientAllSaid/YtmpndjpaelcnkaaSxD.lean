/- What single operations do: the ones that compute, read, make and write memory. -/
import Derived.Test.YtmpndjpaelcnkaaSxC
set_option linter.unusedVariables false
set_option linter.unusedSimpArgs false
namespace Go.SX
open Go

/-! ### what is asked of the types -/
def isAggD : TypeDesc → Bool
  | .struct _ | .array _ _ => true
  | _ => false
def aggA (P : Program) (t : TypeId) : Option Bool := (P.underlying t).map isAggD
def szA (P : Program) (t : TypeId) : Option Nat := (P.info? t).map (·.size)
def byA (P : Program) (t : TypeId) : Option Nat := (P.info? t).map (·.bytes)
def elA (P : Program) (t : TypeId) : Option TypeId := match P.underlying t with | some (.slice e) => some e | _ => none
def arA (P : Program) (t : TypeId) : Option (Nat × TypeId) := match P.underlying t with | some (.array n e) => some (n, e) | _ => none
def kdA (P : Program) (t : TypeId) : Option IntKind := match P.underlying t with | some (.int k) => some k | _ => none
def dsA (P : Program) (t : TypeId) : Option TypeDesc := P.underlying t
def fdA (P : Program) (t : TypeId) (k : Nat) : Option Nat :=
  match P.underlying t with
  | some (.struct fs) => match fs[k]? with
    | some f => match P.info? f.type with
      | some i => if i.size = 0 then none else some f.offset
      | none => none
    | none => none
  | _ => none
def zA (P : Program) (t : TypeId) : Option (List AV) := ((P.info? t).bind (·.zero)).map fun v => v.cells.toList.map .p

section
variable {P : Program} {w : World}
theorem run_sz {t : TypeId} {n : Nat} (h : szA P t = some n) : (sizeOf t).run P w = .ok n w := by
  obtain ⟨i, hi, rfl⟩ := Option.map_eq_some_iff.1 h
  simp [sizeOf, typeInfo, hi]
theorem run_agg {t : TypeId} {b : Bool} (h : aggA P t = some b) : (isAgg t).run P w = .ok b w := by
  obtain ⟨d, hd, rfl⟩ := Option.map_eq_some_iff.1 h
  unfold isAgg
  rw [Sem.run_bind, run_underlying hd w]
  cases d <;> simp [isAggD]
theorem und_of_el {t e : TypeId} (h : elA P t = some e) : P.underlying t = some (.slice e) := by
  unfold elA at h
  split at h <;> simp_all
theorem und_of_ar {t e : TypeId} {n : Nat} (h : arA P t = some (n, e)) : P.underlying t = some (.array n e) := by
  unfold arA at h
  split at h <;> simp_all
theorem und_of_kd {t : TypeId} {k : IntKind} (h : kdA P t = some k) : P.underlying t = some (.int k) := by
  unfold kdA at h
  split at h <;> simp_all
theorem run_el {t e : TypeId} (h : elA P t = some e) : (underlying t).run P w = .ok (.slice e) w := run_underlying (und_of_el h) w

theorem run_loadVar_agg {t : TypeId} {a : Addr} {us : List Value} (hg : aggA P t = some true) (hs : szA P t = some us.length) (hc : ∀ (i : Nat) (u : Value), us[i]? = some u → w.cell? (a.add i) = some u) :
    (loadVar t a).run P w = .ok (.agg us.toArray) w := by
  have hl := run_loadCells_list (P := P) w a us hc
  simp [loadVar, Sem.run_bind, run_agg hg, run_sz hs, hl]
theorem run_loadVar_one {t : TypeId} {a : Addr} {u : Value} (hg : aggA P t = some false) (hc : w.cell? a = some u) : (loadVar t a).run P w = .ok u w := by
  simp [loadVar, Sem.run_bind, run_agg hg, hc]
end

/-! ### operations that leave the world alone -/
section
variable {P : Program} {id : BId} {o : Oper} {ev : Operand → AV} {tm : Nat → AV} {h : Heap}

theorem opF_value {R : List (BId × Blk)} {v : AV} (hrun : ∀ (g : Gh) (w : World) (a : Act) (h : Heap), Reads h R → (∀ x, Rep g w (ev x) (a.eval x)) → Inv g w h → ∃ u, (execOp a.eval o).run P w = .ok (.value u) w ∧ Rep g w v u) : OpF P id o ev R v [] where
  wok := by simp
  ok h hr g w a next Q hev hI hf hn := by
    obtain ⟨u, hu, hv⟩ := hrun g w a h hr hev hI
    unfold Oper.wp
    rw [hu]
    exact hn g w u (Ext.refl _ _) (Loc.refl _ _) hv hI

theorem WRop_value {R : List (BId × Blk)} {v : AV} {K : AV → List (BId × Option Blk) → Prop} (hr : Reads h R) (hk : K v [])
    (hrun : ∀ (g : Gh) (w : World) (a : Act) (h : Heap), Reads h R → (∀ x, Rep g w (evalA tm x) (a.eval x)) → Inv g w h → ∃ u, (execOp a.eval o).run P w = .ok (.value u) w ∧ Rep g w v u) : WRop P id o tm h K :=
  ⟨v, R, [], opF_value hrun, hr, hk⟩

/-- A new block of one's own. -/
theorem opF_alloc {R : List (BId × Blk)} {v : AV} {e : TypeId} {cs : List AV} (hrun : ∀ (g : Gh) (w : World) (a : Act) (h : Heap), Reads h R → (∀ x, Rep g w (ev x) (a.eval x)) → Inv g w h →
      ∃ u w' pc, (execOp a.eval o).run P w = .ok (.value u) w' ∧ Pushed w w' (.cells pc e) ∧ cs.length ≤ pc.size ∧ (∀ (i : Nat) (x : AV), cs[i]? = some x → ∃ u : Value, pc[i]? = some u ∧ Rep g w x u) ∧
        (∀ g', g'.φ id = some (w.heap.size, 0) → Ext g w g' w' → Rep g' w' v u)) : OpF P id o ev R v [(id, some (.cells e cs))] where
  wok q hq := .inr (by simp at hq; subst hq; exact under_self id)
  ok h hr g w a next Q hev hI hf hn := by
    obtain ⟨u, w', pc, hu, hp, hl, hc, hv⟩ := hrun g w a h hr hev hI
    obtain ⟨hx, hI'⟩ := inv_alloc hI hf hp hl hc
    unfold Oper.wp
    rw [hu]
    exact hn _ w' u hx (Gh.name_loc _ _ _) (hv _ (Gh.name_same _ _ _) hx) hI'

/-- A new block that stays as it is. -/
theorem opF_fix {R : List (BId × Blk)} {v : AV} (hrun : ∀ (g : Gh) (w : World) (a : Act) (h : Heap), Reads h R → (∀ x, Rep g w (ev x) (a.eval x)) → Inv g w h →
      ∃ u w' o', (execOp a.eval o).run P w = .ok (.value u) w' ∧ Pushed w w' o' ∧ (∀ g', g'.im w.heap.size → Ext g w g' w' → Rep g' w' v u)) : OpF P id o ev R v [] where
  wok := by simp
  ok h hr g w a next Q hev hI hf hn := by
    obtain ⟨u, w', o', hu, hp, hv⟩ := hrun g w a h hr hev hI
    obtain ⟨hx, hI'⟩ := inv_alloc_fix hI hp
    unfold Oper.wp
    rw [hu]
    exact hn _ w' u hx (Gh.fix_loc _ _ _) (hv _ (.inr rfl) hx) hI'

/-! #### cells -/
theorem rep_len_cells {g : Gh} {w : World} {x : AV} {v : Value} {xs : List AV} (hr : Rep g w x v) (hx : x = .agg xs) : ∃ vs : Array Value, v = .agg vs ∧ xs.length = vs.size ∧ ∀ (i : Nat) (x : AV) (v : Value), xs[i]? = some x → vs[i]? = some v → Rep g w x v := by
  subst hx
  cases hr with
  | agg _ vs hl hh => exact ⟨vs, rfl, hl, hh⟩
/-- The cells that a value takes. -/
def boxA : AV → Option (List AV)
  | .agg xs => some xs
  | x => if x.one then some [x] else none
theorem choose_list {α : Type} {p : Nat → α → Prop} (n : Nat) (h : ∀ i, i < n → ∃ u, p i u) : ∃ us : List α, us.length = n ∧ ∀ (i : Nat) (u : α), us[i]? = some u → p i u := by
  induction n with
  | zero => exact ⟨[], rfl, by simp⟩
  | succ n ih =>
    obtain ⟨us, hl, hu⟩ := ih (fun i hi => h i (by omega))
    obtain ⟨x, hx⟩ := h n (by omega)
    refine ⟨us ++ [x], by simp [hl], fun i u hi => ?_⟩
    by_cases hin : i < n
    · rw [List.getElem?_append_left (by omega)] at hi; exact hu i u hi
    · rw [List.getElem?_append_right (by omega)] at hi
      have : i = n := by
        have := (List.getElem?_eq_some_iff.1 hi).1; simp at this; omega
      subst this
      simp [hl] at hi; subst hi; exact hx
theorem cells_one {v : Value} (h : v.oneCell' = true) : v.cells = #[v] := by cases v <;> first | rfl | simp [Value.oneCell'] at h
theorem rep_box {g : Gh} {w : World} {x : AV} {v : Value} {cs : List AV} (hr : Rep g w x v) (hb : boxA x = some cs) : cs.length = v.cells.size ∧ ∀ (i : Nat) (y : AV), cs[i]? = some y → ∃ u : Value, v.cells[i]? = some u ∧ Rep g w y u := by
  have hone : ∀ {x : AV}, Rep g w x v → x.one = true → (some [x] = some cs) → cs.length = v.cells.size ∧ ∀ (i : Nat) (y : AV), cs[i]? = some y → ∃ u : Value, v.cells[i]? = some u ∧ Rep g w y u := by
    intro x hr h1 he
    cases he
    rw [cells_one (hr.one h1)]
    refine ⟨rfl, fun i y hy => ?_⟩
    cases i with
    | zero => simp at hy; subst hy; exact ⟨v, rfl, hr⟩
    | succ i => simp at hy
  cases x with
  | agg xs =>
    simp only [boxA, Option.some.injEq] at hb
    subst hb
    obtain ⟨vs, rfl, hl, hh⟩ := rep_len_cells hr rfl
    refine ⟨hl, fun i y hy => ?_⟩
    have hi : i < vs.size := by rw [← hl]; exact (List.getElem?_eq_some_iff.1 hy).1
    exact ⟨vs[i], by simp [Value.cells, hi], hh i y _ hy (by simp [hi])⟩
  | _ =>
    simp only [boxA] at hb
    split at hb
    · rename_i h1; exact hone hr h1 hb
    · cases hb

/-! #### reading -/
def ldA (agg : Bool) (sz : Nat) (cs : List AV) : Option AV := if agg then (if sz ≤ cs.length then some (.agg (cs.take sz)) else none) else cs.head?
theorem run_ld {P : Program} {g : Gh} {w : World} {t : TypeId} {agg : Bool} {sz : Nat} {cs : List AV} {v : AV} {a : Addr} (hg : aggA P t = some agg) (hs : szA P t = some sz) (hv : ldA agg sz cs = some v)
    (hc : ∀ (i : Nat) (x : AV), cs[i]? = some x → ∃ u, w.cell? (a.add i) = some u ∧ Rep g w x u) : ∃ u, (loadVar t a).run P w = .ok u w ∧ Rep g w v u := by
  cases agg with
  | false =>
    simp only [ldA, Bool.false_eq_true, if_false] at hv
    obtain ⟨u, hu, hr⟩ := hc 0 v (by rw [← List.head?_eq_getElem?]; exact hv)
    refine ⟨u, run_loadVar_one hg ?_, hr⟩
    simpa [Addr.add] using hu
  | true =>
    simp only [ldA, if_true] at hv
    split at hv
    · rename_i hle
      cases hv
      have hch : ∀ i, i < sz → ∃ u, w.cell? (a.add i) = some u ∧ ∀ x, cs[i]? = some x → Rep g w x u := fun i hi => by
        obtain ⟨u, hu, hr⟩ := hc i cs[i] (by simp [show i < cs.length by omega])
        exact ⟨u, hu, fun x hx => by rw [List.getElem?_eq_getElem (by omega)] at hx; cases hx; exact hr⟩
      obtain ⟨us, hul, hus⟩ := choose_list sz hch
      refine ⟨_, run_loadVar_agg hg (by rw [hul]; exact hs) (fun i u hu => (hus i u hu).1), .agg _ _ (by simp [hul]; omega) ?_⟩
      intro i x u hx hu
      simp at hu
      rw [List.getElem?_take] at hx
      split at hx
      · exact (hus i u hu).2 x hx
      · cases hx
    · cases hv

theorem Inv.cell {g : Gh} {w : World} {h : Heap} (hI : Inv g w h) {b : BId} {e : TypeId} {cs : List AV} (hb : h b = some (.cells e cs)) {pb ba : Nat} (hp : g.φ b = some (pb, ba)) (off : Nat) :
    ∀ (i : Nat) (x : AV), (cs.drop off)[i]? = some x → ∃ u, w.cell? ((⟨pb, ba + off, none⟩ : Addr).add i) = some u ∧ Rep g w x u := by
  intro i x hx
  obtain ⟨pb', ba', pc, h1, h2, h3, h4, h5⟩ := hI.cells b e cs hb
  rw [hp] at h1; cases h1
  rw [List.getElem?_drop] at hx
  obtain ⟨u, hu, hr⟩ := h5 _ _ hx
  exact ⟨u, by rw [addr_add_none, cell_of_row _ _ _ _ _ _ h3, Nat.add_assoc]; exact hu, hr⟩
theorem Rep.epc {g : Gh} {w : World} {cs : List AV} {v : Value} (hr : Rep g w (.ep cs) v) : ∃ a, v = .pointer (some a) ∧ ∀ (i : Nat) (x : AV), cs[i]? = some x → ∃ u, w.cell? (a.add i) = some u ∧ Rep g w x u := by
  cases hr with
  | ep _ a us hi hl hc hh =>
    refine ⟨a, rfl, fun i x hx => ?_⟩
    have : i < us.length := by rw [hl]; exact (List.getElem?_eq_some_iff.1 hx).1
    exact ⟨us[i], hc i _ (by simp [this]), hh i x _ hx (by simp [this])⟩
theorem Rep.ptrv {g : Gh} {w : World} {b : BId} {off : Nat} {v : Value} (hr : Rep g w (.ptr b off) v) : ∃ pb ba, g.φ b = some (pb, ba) ∧ v = .pointer (some ⟨pb, ba + off, none⟩) := by
  cases hr with
  | ptr _ _ pb ba hp => exact ⟨pb, ba, hp, rfl⟩

/-- What is loaded, and of which block. -/
def loadW (P : Program) (t : TypeId) (x : AV) (h : Heap) (K : AV → Prop) : Prop :=
  match aggA P t, szA P t with
  | some agg, some sz =>
    match x with
    | .ptr b off => match h b with
      | some (.cells _ cs) => match ldA agg sz (cs.drop off) with
        | some v => K v
        | none => False
      | _ => False
    | .ep cs => match ldA agg sz cs with
      | some v => K v
      | none => False
    | _ => False
  | _, _ => False
/-- The block that an address lies in. -/
def ptrR (x : AV) (h : Heap) : List (BId × Blk) :=
  match x with
  | .ptr b _ => match h b with
    | some y => [(b, y)]
    | none => []
  | _ => []
def ptrIds : AV → List BId
  | .ptr b _ => [b]
  | _ => []
theorem ptrR_ids {b : BId} {off : Nat} {h : Heap} {y : Blk} (hb : h b = some y) : ptrR (.ptr b off) h = [(b, y)] := by simp [ptrR, hb]
theorem load_sound {P : Program} {t : TypeId} {x : AV} {h : Heap} {K : AV → Prop} (hw : loadW P t x h K) : ∃ v, ∃ R, (R = ptrR x h ∧ R.map (·.1) = ptrIds x) ∧ Reads h R ∧ K v ∧ ∀ (g : Gh) (w : World) (h2 : Heap) (u : Value), Reads h2 R → Inv g w h2 → Rep g w x u →
    ∃ r, (do loadVar t (← asAddr u)).run P w = .ok r w ∧ (Instr.loadAt t u).run P w = .ok r w ∧ Rep g w v r := by
  unfold loadW at hw
  split at hw
  · rename_i agg sz hg hs
    split at hw
    · rename_i b off
      split at hw
      · rename_i e cs hb
        split at hw
        · rename_i v hv
          refine ⟨v, [(b, .cells e cs)], ⟨(ptrR_ids hb).symm, rfl⟩, ⟨hb, trivial⟩, hw, fun g w h2 u hr hI hu => ?_⟩
          obtain ⟨pb, ba, hp, rfl⟩ := hu.ptrv
          obtain ⟨r, hrun, hrep⟩ := run_ld (w := w) (g := g) hg hs hv (hI.cell hr.1 hp off)
          exact ⟨r, by simp [asAddr, hrun], by simp [Instr.loadAt, Instr.sureAddr, hrun], hrep⟩
        · exact hw.elim
      · exact hw.elim
    · rename_i cs
      split at hw
      · rename_i v hv
        refine ⟨v, [], ⟨rfl, rfl⟩, trivial, hw, fun g w h2 u hr hI hu => ?_⟩
        obtain ⟨a, rfl, hc⟩ := hu.epc
        obtain ⟨r, hrun, hrep⟩ := run_ld (w := w) (g := g) hg hs hv hc
        exact ⟨r, by simp [asAddr, hrun], by simp [Instr.loadAt, Instr.sureAddr, hrun], hrep⟩
      · exact hw.elim
    · exact hw.elim
  · exact hw.elim

/-! #### writing -/
def setSeg (cs : List AV) (off : Nat) (xs : List AV) : List AV := cs.take off ++ xs ++ cs.drop (off + xs.length)
def storeW (P : Program) (t : TypeId) (x v : AV) (h : Heap) (K : List (BId × Option Blk) → Prop) : Prop :=
  match szA P t, boxA v with
  | some sz, some xs =>
    match x with
    | .ptr b off => match h b with
      | some (.cells e cs) => (xs.length = sz ∧ off + xs.length ≤ cs.length ∧ xs.all AV.one = true) ∧ K [(b, some (.cells e (setSeg cs off xs)))]
      | _ => False
    | _ => False
  | _, _ => False

theorem getElem?_seg {α : Type} (l xs : List α) (off i : Nat) (hl : off + xs.length ≤ l.length) : (l.take off ++ xs ++ l.drop (off + xs.length))[i]? = if i < off then l[i]? else if i < off + xs.length then xs[i - off]? else l[i]? := by
  have ht : (l.take off).length = off := by rw [List.length_take]; omega
  by_cases h1 : i < off
  · rw [if_pos h1, List.append_assoc, List.getElem?_append_left (by omega), List.getElem?_take, if_pos h1]
  · rw [if_neg h1]
    by_cases h2 : i < off + xs.length
    · rw [if_pos h2, List.append_assoc, List.getElem?_append_right (by omega), ht, List.getElem?_append_left (by omega)]
    · rw [if_neg h2, List.getElem?_append_right (by simp; omega), List.getElem?_drop]
      congr 1
      simp; omega

theorem run_storeCells {P : Program} {w : World} {pb off : Nat} {e : TypeId} {pc : Array Value} {us : List Value} (hp : w.heap[pb]? = some (.cells pc e (0, 0))) (hl : off + us.length ≤ pc.size) (h1 : ∀ u ∈ us, u.oneCell' = true) :
    ∃ w', (storeCells ⟨pb, off, none⟩ us).run P w = .ok () w' ∧ SetB w w' pb (.cells (pc.toList.take off ++ us ++ pc.toList.drop (off + us.length)).toArray e (0, 0)) := by
  refine ⟨_, run_storeCells_at P pb off e us 0 pc w hp (by simpa using hl) h1, ?_⟩
  constructor
  · simp only [World.setRow, Nat.add_zero]
    apply Array.ext_getElem?
    intro j
    rw [Array.getElem?_modify, Array.getElem?_setIfInBounds]
    by_cases hj : pb = j
    · subst hj
      have hlt := (Array.getElem?_eq_some_iff.1 hp).1
      simp only [if_true, hp, Option.map_some, if_pos hlt]
    · simp [hj]
  all_goals rfl

theorem list_one {g : Gh} {w : World} {xs : List AV} {us : Array Value} (hl : xs.length = us.size) (hr : ∀ (i : Nat) (y : AV), xs[i]? = some y → ∃ u : Value, us[i]? = some u ∧ Rep g w y u) (h1 : xs.all AV.one = true) : ∀ u ∈ us.toList, u.oneCell' = true := by
  intro u hu
  obtain ⟨i, hi, rfl⟩ := List.getElem_of_mem hu
  have hix : i < xs.length := by rw [hl]; simpa using hi
  obtain ⟨u', hu', hrep⟩ := hr i xs[i] (by simp [hix])
  have : u' = us.toList[i] := by
    simp at hi
    rw [Array.getElem?_eq_getElem hi] at hu'
    simpa using hu'.symm
  rw [← this]
  exact hrep.one (List.all_eq_true.1 h1 _ (List.getElem_mem hix))

/-- A block of one's own after some of its cells were written. -/
theorem inv_store {P : Program} {g : Gh} {w : World} {h : Heap} {b id : BId} {e : TypeId} {cs xs : List AV} {pb ba off : Nat} {us : Array Value} (hI : Inv g w h) (hb : h b = some (.cells e cs)) (hp : g.φ b = some (pb, ba)) (hl : off + xs.length ≤ cs.length)
    (hus : xs.length = us.size) (hr : ∀ (i : Nat) (y : AV), xs[i]? = some y → ∃ u : Value, us[i]? = some u ∧ Rep g w y u) (h1 : xs.all AV.one = true) (hid : id = b ∨ FrG g id) :
    ∃ w', (storeCells ⟨pb, ba + off, none⟩ us.toList).run P w = .ok () w' ∧ Ext g w (g.name id (pb, ba)) w' ∧ Inv (g.name id (pb, ba)) w' (hset (hset h b none) id (some (.cells e (setSeg cs off xs)))) := by
  obtain ⟨pb', ba', pc, q1, q2, q3, q4, q5⟩ := hI.cells b e cs hb
  rw [hp] at q1; cases q1
  obtain ⟨w', hrun, hset'⟩ := run_storeCells (P := P) (off := ba + off) (us := us.toList) q3 (by simp; omega) (list_one hus hr h1)
  refine ⟨w', hrun, ?_⟩
  refine inv_write hI hb hp q3 hset' ?_ ?_ ?_ (hid.imp (fun e => ⟨e, rfl⟩) (fun e => e))
  · simp; omega
  · simp [setSeg]; omega
  · intro i x hx
    unfold setSeg at hx
    rw [getElem?_seg _ _ _ _ hl] at hx
    have hsz : ba + off + us.toList.length ≤ pc.toList.length := by simp; omega
    have hget : (pc.toList.take (ba + off) ++ us.toList ++ pc.toList.drop (ba + off + us.toList.length)).toArray[ba + i]? = if i < off then pc[ba + i]? else if i < off + xs.length then us[i - off]? else pc[ba + i]? := by
      rw [List.getElem?_toArray, getElem?_seg _ _ _ _ hsz]
      have c1 : (ba + i < ba + off) = (i < off) := by simp
      have c2 : (ba + i < ba + off + us.toList.length) = (i < off + xs.length) := by simp [hus]; omega
      have c3 : ba + i - (ba + off) = i - off := by omega
      simp only [c1, c2, c3, Array.getElem?_toList]
    rw [hget]
    by_cases c1 : i < off
    · rw [if_pos c1] at hx ⊢; exact q5 i x hx
    · rw [if_neg c1] at hx ⊢
      by_cases c2 : i < off + xs.length
      · rw [if_pos c2] at hx ⊢; exact hr _ _ hx
      · rw [if_neg c2] at hx ⊢; exact q5 i x hx

theorem store_sound' {P : Program} {id : BId} {o : Oper} {tm : Nat → AV} {h : Heap} {t : TypeId} {a v : Operand} {K : List (BId × Option Blk) → Prop} (ho : o.op = .store t a v)
    (hw : storeW P t (evalA tm a) (evalA tm v) h K) : ∃ R W, OpF P id o (evalA tm) R (.p undef) W ∧ Reads h R ∧ R.map (·.1) = ptrIds (evalA tm a) ∧ K W := by
  unfold storeW at hw
  split at hw
  · rename_i sz xs hs hx
    split at hw
    · rename_i b off hab
      split at hw
      · rename_i e cs hb
        obtain ⟨⟨h1, h2, h3⟩, hK⟩ := hw
        refine ⟨[(b, .cells e cs)], _, ⟨?_, ?_⟩, ⟨hb, trivial⟩, by rw [hab]; rfl, hK⟩
        · intro q hq
          simp at hq; subst hq
          exact .inl ⟨_, List.mem_singleton.2 rfl⟩
        · intro h0 hr g w act next Q hev hI hf hn
          have hra := hev a
          have hrv := hev v
          rw [hab] at hra
          obtain ⟨pb, ba, hp, hea⟩ := hra.ptrv
          obtain ⟨k1, k2⟩ := rep_box hrv hx
          obtain ⟨w', hrun, hx', hI'⟩ := inv_store (P := P) hI hr.1 hp h2 k1 k2 h3 (.inl rfl)
          have hname : (g.name b (pb, ba)) = g := by
            unfold Gh.name
            congr 1
            funext c
            split
            · rename_i e; rw [e, hp]
            · rfl
          rw [hname] at hx' hI'
          have hheap : hset (hset h0 b none) b (some (.cells e (setSeg cs off xs))) = upd h0 [(b, some (.cells e (setSeg cs off xs)))] := by
            funext c
            simp only [upd, hset]
            split <;> rfl
          rw [hheap] at hI'
          have hst : (storeVar t ⟨pb, ba + off, none⟩ (act.eval v)).run P w = .ok () w' := by
            simp only [storeVar, Sem.run_bind, run_sz hs, Result.andThen_ok]
            rw [if_neg (by rw [← k1, h1]; simp)]
            exact hrun
          have : (execOp act.eval o).run P w = .ok .skip w' := by
            simp only [execOp, ho, hea, Instr.storeAt, Instr.sureAddr, Sem.run_bind, Sem.run_pure, Result.andThen_ok, hst]
          unfold Oper.wp
          rw [this]
          exact hn g w' undef hx' (Loc.refl _ _) (.p _) hI'
      · exact hw.elim
    · exact hw.elim
  · exact hw.elim
theorem store_sound {P : Program} {id : BId} {o : Oper} {tm : Nat → AV} {h : Heap} {t : TypeId} {a v : Operand} {K : AV → List (BId × Option Blk) → Prop} (ho : o.op = .store t a v)
    (hw : storeW P t (evalA tm a) (evalA tm v) h (fun W => K (.p undef) W)) : WRop P id o tm h K :=
  let ⟨R, W, h1, h2, _, h4⟩ := store_sound' ho hw; ⟨_, R, W, h1, h2, h4⟩
end
end Go.SX
