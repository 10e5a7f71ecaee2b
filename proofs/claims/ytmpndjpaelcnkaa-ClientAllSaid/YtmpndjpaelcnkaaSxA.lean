/- The words of a symbolic execution: values without memory (AV), what a value in memory must be to stand for one (Rep), heaps of blocks by names (Inv), and how they stay (Ext). -/
import Derived.WalkKit
set_option linter.unusedVariables false
set_option linter.unusedSimpArgs false
namespace Go.SX
open Go

/-- The name of a block: where it was made. -/
abbrev BId := List Nat

inductive AV where
  | p (v : Value)
  | agg (xs : List AV)
  | tup (xs : List AV)
  | imm (full : Bool) (len : Nat) (cs : List AV)
  | ref (full : Bool) (b : BId) (off len sz : Nat)
  | ptr (b : BId) (off : Nat)
  | ep (cs : List AV)
  | mp (b : BId)
  | fn (f : FuncId) (caps : List AV)
  | top

inductive Blk where
  | cells (e : TypeId) (cs : List AV)
  | map (es : List (Value × AV))

abbrev Heap := BId → Option Blk

structure Gh where
  φ : BId → Option (Nat × Nat)
  im : Nat → Prop

inductive Rep (g : Gh) (w : World) : AV → Value → Prop
  | top (v : Value) : Rep g w .top v
  | p (v : Value) : Rep g w (.p v) v
  | agg (xs : List AV) (vs : Array Value) (hl : xs.length = vs.size) (h : ∀ (i : Nat) (x : AV) (v : Value), xs[i]? = some x → vs[i]? = some v → Rep g w x v) : Rep g w (.agg xs) (.agg vs)
  | tup (xs : List AV) (vs : Array Value) (hl : xs.length = vs.size) (h : ∀ (i : Nat) (x : AV) (v : Value), xs[i]? = some x → vs[i]? = some v → Rep g w x v) : Rep g w (.tup xs) (.tuple vs)
  | imm (full : Bool) (len : Nat) (cs : List AV) (a : Addr) (cap : Nat) (us : List Value) (hi : cs = [] ∨ g.im a.block) (hlen : len ≤ cap) (hcap : cap ≤ maxLen) (hf : full = true → cap = len)
      (hl : us.length = cs.length) (hc : ∀ (i : Nat) (u : Value), us[i]? = some u → w.cell? (a.add i) = some u) (h : ∀ (i : Nat) (x : AV) (u : Value), cs[i]? = some x → us[i]? = some u → Rep g w x u) : Rep g w (.imm full len cs) (.slice (some a) len cap)
  | ref (full : Bool) (b : BId) (off len sz : Nat) (pb ba o cap : Nat) (e : TypeId) (m : Nat) (hφ : g.φ b = some (pb, ba)) (hs : w.shape? pb = some (e, m)) (ho : cap = 0 ∨ o = ba + off) (hlen : len ≤ cap) (hcap : cap ≤ maxLen)
      (hf : full = true → cap = len) (hm : o + cap * sz ≤ m) : Rep g w (.ref full b off len sz) (.slice (some ⟨pb, o, none⟩) len cap)
  | ptr (b : BId) (off pb ba : Nat) (hφ : g.φ b = some (pb, ba)) : Rep g w (.ptr b off) (.pointer (some ⟨pb, ba + off, none⟩))
  | ep (cs : List AV) (a : Addr) (us : List Value) (hi : cs = [] ∨ g.im a.block) (hl : us.length = cs.length) (hc : ∀ (i : Nat) (u : Value), us[i]? = some u → w.cell? (a.add i) = some u)
      (h : ∀ (i : Nat) (x : AV) (u : Value), cs[i]? = some x → us[i]? = some u → Rep g w x u) : Rep g w (.ep cs) (.pointer (some a))
  | mp (b : BId) (pb : Nat) (hφ : g.φ b = some (pb, 0)) : Rep g w (.mp b) (.map (some pb))
  | fn (f : FuncId) (caps : List AV) (vs : Array Value) (hl : caps.length = vs.size) (h : ∀ (i : Nat) (x : AV) (v : Value), caps[i]? = some x → vs[i]? = some v → Rep g w x v) : Rep g w (.fn f caps) (.func (.func f) #[] vs)

structure Ext (g : Gh) (w : World) (g' : Gh) (w' : World) : Prop where
  φ : ∀ b pb, g.φ b = some pb → g'.φ b = some pb
  im : ∀ k, g.im k → g'.im k
  imb : ∀ k, g.im k → w'.heap[k]? = w.heap[k]?
  size : w.heap.size ≤ w'.heap.size
  shape : ∀ k s, w.shape? k = some s → w'.shape? k = some s
  os : w'.os = w.os
  tape : w'.tape = w.tape
  output : w'.output = w.output

theorem Ext.refl (g : Gh) (w : World) : Ext g w g w := ⟨fun _ _ h => h, fun _ h => h, fun _ _ => rfl, Nat.le_refl _, fun _ _ h => h, rfl, rfl, rfl⟩
theorem Ext.trans {g g' g'' : Gh} {w w' w'' : World} (h : Ext g w g' w') (k : Ext g' w' g'' w'') : Ext g w g'' w'' :=
  ⟨fun b pb e => k.φ _ _ (h.φ _ _ e), fun _ e => k.im _ (h.im _ e), fun _ e => (k.imb _ (h.im _ e)).trans (h.imb _ e), Nat.le_trans h.size k.size, fun _ _ e => k.shape _ _ (h.shape _ _ e),
    k.os.trans h.os, k.tape.trans h.tape, k.output.trans h.output⟩
theorem Ext.cell {g g' : Gh} {w w' : World} (h : Ext g w g' w') {a : Addr} (ha : g.im a.block) : w'.cell? a = w.cell? a := World.cell?_of_block (h.imb _ ha)

theorem addr_add_block (a : Addr) (i : Nat) : (a.add i).block = a.block := by unfold Addr.add; split <;> rfl
theorem addr_add_add (a : Addr) (i j : Nat) : (a.add i).add j = a.add (i + j) := by
  unfold Addr.add
  by_cases hi : i = 0 <;> by_cases hj : j = 0 <;> simp [hi, hj, Nat.add_assoc]
theorem addr_add_none (b o i : Nat) : (⟨b, o, none⟩ : Addr).add i = ⟨b, o + i, none⟩ := by
  unfold Addr.add; split <;> simp_all

theorem Rep.mono {g g' : Gh} {w w' : World} (h : Ext g w g' w') {x : AV} {v : Value} (hr : Rep g w x v) : Rep g' w' x v := by
  induction hr with
  | top v => exact .top v
  | p v => exact .p v
  | agg xs vs hl _ ih => exact .agg xs vs hl ih
  | tup xs vs hl _ ih => exact .tup xs vs hl ih
  | imm full len cs a cap us hi hlen hcap hf hl hc _ ih =>
    refine .imm full len cs a cap us (hi.imp id (h.im _)) hlen hcap hf hl (fun i u hu => ?_) ih
    rcases hi with hi | hi
    · subst hi; simp at hl; subst hl; simp at hu
    · rw [h.cell (by rw [addr_add_block]; exact hi)]; exact hc i u hu
  | ref full b off len sz pb ba o cap e m hφ hs ho hlen hcap hf hm => exact .ref full b off len sz pb ba o cap e m (h.φ _ _ hφ) (h.shape _ _ hs) ho hlen hcap hf hm
  | ptr b off pb ba hφ => exact .ptr b off pb ba (h.φ _ _ hφ)
  | ep cs a us hi hl hc _ ih =>
    refine .ep cs a us (hi.imp id (h.im _)) hl (fun i u hu => ?_) ih
    rcases hi with hi | hi
    · subst hi; simp at hl; subst hl; simp at hu
    · rw [h.cell (by rw [addr_add_block]; exact hi)]; exact hc i u hu
  | mp b pb hφ => exact .mp b pb (h.φ _ _ hφ)
  | fn f caps vs hl _ ih => exact .fn f caps vs hl ih

/-- Which values take one cell. -/
def AV.one : AV → Bool
  | .p v => v.oneCell'
  | .agg _ | .tup _ | .top => false
  | _ => true
theorem Rep.one {g : Gh} {w : World} {x : AV} {v : Value} (h : Rep g w x v) (h1 : x.one = true) : v.oneCell' = true := by
  cases h <;> first | rfl | exact h1 | simp [AV.one] at h1
/-- The cells of a value. -/
def AV.cells : AV → List AV
  | .agg xs => xs
  | x => [x]

structure Inv (g : Gh) (w : World) (h : Heap) : Prop where
  cells : ∀ b e cs, h b = some (.cells e cs) → ∃ pb ba pc, g.φ b = some (pb, ba) ∧ ¬ g.im pb ∧ w.heap[pb]? = some (.cells pc e (0, 0)) ∧ ba + cs.length ≤ pc.size ∧
    ∀ (i : Nat) (x : AV), cs[i]? = some x → ∃ u : Value, pc[ba + i]? = some u ∧ Rep g w x u
  map : ∀ b es, h b = some (.map es) → ∃ pb pe ck, g.φ b = some (pb, 0) ∧ ¬ g.im pb ∧ w.heap[pb]? = some (.map pe ck) ∧ pe.size = es.length ∧
    ∀ (i : Nat) (k : Value) (x : AV), es[i]? = some (k, x) → ∃ en : MapEntry, pe[i]? = some en ∧ en.key = k ∧ Rep g w x en.val
  inj : ∀ b b' pb ba ba', (h b).isSome = true → (h b').isSome = true → g.φ b = some (pb, ba) → g.φ b' = some (pb, ba') → b = b'
  lt : ∀ k, g.im k → k < w.heap.size

theorem Inv.some_φ {g : Gh} {w : World} {h : Heap} (hI : Inv g w h) {b : BId} {x : Blk} (hb : h b = some x) : ∃ pb ba, g.φ b = some (pb, ba) ∧ pb < w.heap.size ∧ ¬ g.im pb := by
  cases x with
  | cells e cs =>
    obtain ⟨pb, ba, pc, h1, h2, h3, _⟩ := hI.cells b e cs hb
    exact ⟨pb, ba, h1, (Array.getElem?_eq_some_iff.1 h3).1, h2⟩
  | map es =>
    obtain ⟨pb, pc, fz, h1, h2, h3, _⟩ := hI.map b es hb
    exact ⟨pb, 0, h1, (Array.getElem?_eq_some_iff.1 h3).1, h2⟩

/-- Less is known of the heap. -/
theorem Inv.sub {g : Gh} {w : World} {h h' : Heap} (hI : Inv g w h) (hs : ∀ b x, h' b = some x → h b = some x) : Inv g w h' where
  cells b e cs hb := hI.cells b e cs (hs _ _ hb)
  map b es hb := hI.map b es (hs _ _ hb)
  inj b b' pb ba ba' h1 h2 := by
    obtain ⟨x, hx⟩ := Option.isSome_iff_exists.1 h1
    obtain ⟨y, hy⟩ := Option.isSome_iff_exists.1 h2
    exact hI.inj b b' pb ba ba' (by rw [hs _ _ hx]; rfl) (by rw [hs _ _ hy]; rfl)
  lt := hI.lt

/-- A step that touches no block of the heap's. -/
theorem Inv.step {g g' : Gh} {w w' : World} {h : Heap} (hI : Inv g w h) (hx : Ext g w g' w') (him : ∀ b pb ba, (h b).isSome = true → g.φ b = some (pb, ba) → ¬ g'.im pb)
    (hblk : ∀ b pb ba, (h b).isSome = true → g.φ b = some (pb, ba) → w'.heap[pb]? = w.heap[pb]?) (hlt : ∀ k, g'.im k → k < w'.heap.size) : Inv g' w' h where
  cells b e cs hb := by
    obtain ⟨pb, ba, pc, h1, h2, h3, h5, h6⟩ := hI.cells b e cs hb
    refine ⟨pb, ba, pc, hx.φ _ _ h1, him _ _ _ (by rw [hb]; rfl) h1, by rw [hblk b pb _ (by rw [hb]; rfl) h1]; exact h3, h5, fun i x hix => ?_⟩
    obtain ⟨u, hu, hr⟩ := h6 i x hix
    exact ⟨u, hu, hr.mono hx⟩
  map b es hb := by
    obtain ⟨pb, pe, ck, h1, h2, h3, h5, h6⟩ := hI.map b es hb
    refine ⟨pb, pe, ck, hx.φ _ _ h1, him _ _ _ (by rw [hb]; rfl) h1, by rw [hblk b pb _ (by rw [hb]; rfl) h1]; exact h3, h5, fun i k x hix => ?_⟩
    obtain ⟨u, hu, hk, hr⟩ := h6 i k x hix
    exact ⟨u, hu, hk, hr.mono hx⟩
  inj b b' pb ba ba' h1 h2 e1 e2 := by
    obtain ⟨x, hx1⟩ := Option.isSome_iff_exists.1 h1
    obtain ⟨y, hy1⟩ := Option.isSome_iff_exists.1 h2
    obtain ⟨p1, a1, q1, _⟩ := hI.some_φ hx1
    obtain ⟨p2, a2, q2, _⟩ := hI.some_φ hy1
    have r1 := hx.φ _ _ q1
    have r2 := hx.φ _ _ q2
    rw [e1] at r1; rw [e2] at r2
    cases r1; cases r2
    exact hI.inj b b' _ _ _ h1 h2 q1 q2
  lt := hlt

def hset (h : Heap) (b : BId) (x : Option Blk) : Heap := fun y => if y = b then x else h y
theorem hset_same (h : Heap) (b : BId) (x : Option Blk) : hset h b x b = x := if_pos rfl
theorem hset_ne (h : Heap) (b : BId) (x : Option Blk) {y : BId} (hn : y ≠ b) : hset h b x y = h y := if_neg hn

end Go.SX
