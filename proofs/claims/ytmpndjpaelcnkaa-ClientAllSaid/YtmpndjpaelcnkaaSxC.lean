/- How a world's change (a new block, a block written) is a change of the heap that stands for it. -/
import Derived.Test.YtmpndjpaelcnkaaSxB
set_option linter.unusedVariables false
set_option linter.unusedSimpArgs false
namespace Go.SX
open Go

/-- A new block; nothing else. -/
structure Pushed (w w' : World) (o : Obj) : Prop where
  heap : w'.heap = w.heap.push o
  os : w'.os = w.os
  tape : w'.tape = w.tape
  output : w'.output = w.output
/-- One block is another one; nothing else. -/
structure SetB (w w' : World) (pb : Nat) (o : Obj) : Prop where
  heap : w'.heap = w.heap.setIfInBounds pb o
  os : w'.os = w.os
  tape : w'.tape = w.tape
  output : w'.output = w.output

section
variable {g : Gh} {w w' : World} {h : Heap}

theorem Pushed.old {o : Obj} (hp : Pushed w w' o) {k : Nat} (hk : k < w.heap.size) : w'.heap[k]? = w.heap[k]? := by
  rw [hp.heap, Array.getElem?_push, if_neg (by omega)]
theorem Pushed.new {o : Obj} (hp : Pushed w w' o) : w'.heap[w.heap.size]? = some o := by
  rw [hp.heap, Array.getElem?_push, if_pos rfl]
theorem Pushed.shape {o : Obj} (hp : Pushed w w' o) (k : Nat) (s : TypeId × Nat) (hs : w.shape? k = some s) : w'.shape? k = some s := by
  unfold World.shape? at hs ⊢
  have hk : k < w.heap.size := by
    cases hq : w.heap[k]? with
    | none => rw [hq] at hs; simp at hs
    | some o => exact (Array.getElem?_eq_some_iff.1 hq).1
  rw [hp.old hk]; exact hs
theorem alloc_pushed (w : World) (o : Obj) : Pushed w (w.alloc o) o := ⟨rfl, rfl, rfl, rfl⟩
theorem drew_pushed (w : World) (o : Obj) : Pushed w (w.drew.alloc o) o := ⟨rfl, rfl, rfl, rfl⟩

/-- The ghost with one name more. -/
def Gh.name (g : Gh) (id : BId) (pb : Nat × Nat) : Gh := { g with φ := fun b => if b = id then some pb else g.φ b }
theorem Gh.name_same (g : Gh) (id : BId) (pb : Nat × Nat) : (g.name id pb).φ id = some pb := if_pos rfl
theorem Gh.name_ne (g : Gh) {id b : BId} (pb : Nat × Nat) (hn : b ≠ id) : (g.name id pb).φ b = g.φ b := if_neg hn
theorem Gh.name_loc (g : Gh) (id : BId) (pb : Nat × Nat) : Loc id g (g.name id pb) := fun b hb => Gh.name_ne g pb (fun e => hb (e ▸ under_self id))
/-- The ghost with one block more that stays as it is. -/
def Gh.fix (g : Gh) (k : Nat) : Gh := { g with im := fun j => g.im j ∨ j = k }
theorem Gh.fix_loc (g : Gh) (id : BId) (k : Nat) : Loc id g (g.fix k) := fun _ _ => rfl

theorem ext_name {id : BId} {pb : Nat × Nat} (hf : g.φ id = none) (him : ∀ k, g.im k → w'.heap[k]? = w.heap[k]?) (hs : w.heap.size ≤ w'.heap.size) (hsh : ∀ k s, w.shape? k = some s → w'.shape? k = some s)
    (h1 : w'.os = w.os) (h2 : w'.tape = w.tape) (h3 : w'.output = w.output) : Ext g w (g.name id pb) w' :=
  ⟨fun b q hb => by rw [Gh.name_ne _ _ (fun e => by rw [e, hf] at hb; cases hb)]; exact hb, fun _ hk => hk, him, hs, hsh, h1, h2, h3⟩
theorem ext_push {o : Obj} (hI : Inv g w h) (hp : Pushed w w' o) : Ext g w g w' :=
  ⟨fun _ _ e => e, fun _ e => e, fun k hk => hp.old (hI.lt k hk), by rw [hp.heap]; simp, hp.shape, hp.os, hp.tape, hp.output⟩
theorem ext_push_name {o : Obj} {id : BId} {pb : Nat × Nat} (hI : Inv g w h) (hp : Pushed w w' o) (hf : g.φ id = none) : Ext g w (g.name id pb) w' :=
  ext_name hf (fun k hk => hp.old (hI.lt k hk)) (by rw [hp.heap]; simp) hp.shape hp.os hp.tape hp.output
theorem ext_push_fix {o : Obj} (hI : Inv g w h) (hp : Pushed w w' o) : Ext g w (g.fix w.heap.size) w' :=
  ⟨fun _ _ e => e, fun _ e => .inl e, fun k hk => hp.old (hI.lt k hk), by rw [hp.heap]; simp, hp.shape, hp.os, hp.tape, hp.output⟩

/-- A draw, or nothing: the same heap. -/
theorem inv_same (hI : Inv g w h) (he : w'.heap = w.heap) (h1 : w'.os = w.os) (h2 : w'.tape = w.tape) (h3 : w'.output = w.output) : Ext g w g w' ∧ Inv g w' h := by
  have hx : Ext g w g w' := ⟨fun _ _ e => e, fun _ e => e, fun k hk => by rw [he], by rw [he]; exact Nat.le_refl _, fun k s hs => by unfold World.shape? at hs ⊢; rw [he]; exact hs, h1, h2, h3⟩
  refine ⟨hx, hI.step hx (fun b pb ba hb hp => ?_) (fun b pb ba _ _ => by rw [he]) (fun k hk => by rw [he]; exact hI.lt k hk)⟩
  obtain ⟨x, hx1⟩ := Option.isSome_iff_exists.1 hb
  obtain ⟨p1, a1, q1, _, q2⟩ := hI.some_φ hx1
  rw [q1] at hp; cases hp; exact q2

theorem Inv.not_im (hI : Inv g w h) {b : BId} {pb ba : Nat} (hb : (h b).isSome = true) (hp : g.φ b = some (pb, ba)) : ¬ g.im pb ∧ pb < w.heap.size := by
  obtain ⟨x, hx1⟩ := Option.isSome_iff_exists.1 hb
  obtain ⟨p1, a1, q1, q3, q2⟩ := hI.some_φ hx1
  rw [q1] at hp; cases hp; exact ⟨q2, q3⟩

/-- A new block of one's own. -/
theorem inv_alloc {id : BId} {e : TypeId} {pc : Array Value} {cs : List AV} (hI : Inv g w h) (hf : FrG g id) (hp : Pushed w w' (.cells pc e)) (hl : cs.length ≤ pc.size)
    (hc : ∀ (i : Nat) (x : AV), cs[i]? = some x → ∃ u : Value, pc[i]? = some u ∧ Rep g w x u) :
    Ext g w (g.name id (w.heap.size, 0)) w' ∧ Inv (g.name id (w.heap.size, 0)) w' (hset h id (some (.cells e cs))) := by
  have hid : g.φ id = none := by simpa using hf []
  have hx : Ext g w (g.name id (w.heap.size, 0)) w' := ext_push_name hI hp hid
  have hne : ∀ {b : BId} {x : Blk}, h b = some x → b ≠ id := fun {b x} hb e => by
    obtain ⟨pb, ba, h1, _⟩ := hI.some_φ hb
    rw [e, hid] at h1; cases h1
  have hold : Inv (g.name id (w.heap.size, 0)) w' h := hI.step hx (fun b pb ba hb hpb => (hI.not_im hb hpb).1) (fun b pb ba hb hpb => hp.old (hI.not_im hb hpb).2) (fun k hk => by rw [hp.heap]; simp; have := hI.lt k hk; omega)
  refine ⟨hx, ⟨?_, ?_, ?_, hold.lt⟩⟩
  · intro b e' cs' hb
    by_cases hbi : b = id
    · subst hbi
      rw [hset_same] at hb
      cases hb
      refine ⟨w.heap.size, 0, pc, Gh.name_same _ _ _, fun hk => ?_, hp.new, by omega, fun i x hix => ?_⟩
      · have := hI.lt _ hk; omega
      · obtain ⟨u, hu, hr⟩ := hc i x hix; exact ⟨u, by rw [Nat.zero_add]; exact hu, hr.mono hx⟩
    · rw [hset_ne _ _ _ hbi] at hb
      exact hold.cells b e' cs' hb
  · intro b es hb
    by_cases hbi : b = id
    · subst hbi; rw [hset_same] at hb; cases hb
    · rw [hset_ne _ _ _ hbi] at hb
      exact hold.map b es hb
  · intro b b' pb ba ba' h1 h2 e1 e2
    have key : ∀ {c : BId}, c ≠ id → (hset h id (some (.cells e cs)) c).isSome = true → ∀ {q a : Nat}, (g.name id (w.heap.size, 0)).φ c = some (q, a) → q < w.heap.size := by
      intro c hc1 hc2 q a hq
      rw [hset_ne _ _ _ hc1] at hc2
      rw [Gh.name_ne _ _ hc1] at hq
      exact (hI.not_im hc2 hq).2
    by_cases hb : b = id <;> by_cases hb' : b' = id
    · rw [hb, hb']
    · subst hb; rw [Gh.name_same] at e1; cases e1
      have := key hb' h2 e2; omega
    · subst hb'; rw [Gh.name_same] at e2; cases e2
      have := key hb h1 e1; omega
    · rw [hset_ne _ _ _ hb] at h1; rw [hset_ne _ _ _ hb'] at h2
      exact hold.inj b b' pb ba ba' h1 h2 e1 e2

/-- A new block that stays as it is. -/
theorem inv_alloc_fix {o : Obj} (hI : Inv g w h) (hp : Pushed w w' o) : Ext g w (g.fix w.heap.size) w' ∧ Inv (g.fix w.heap.size) w' h := by
  have hx := ext_push_fix hI hp
  refine ⟨hx, hI.step hx (fun b pb ba hb hpb => ?_) (fun b pb ba hb hpb => hp.old (hI.not_im hb hpb).2) (fun k hk => ?_)⟩
  · rintro (hk | hk)
    · exact (hI.not_im hb hpb).1 hk
    · have := (hI.not_im hb hpb).2; omega
  · rw [hp.heap]; simp
    rcases hk with hk | hk
    · have := hI.lt k hk; omega
    · omega

theorem SetB.same {pb : Nat} {o : Obj} (hs : SetB w w' pb o) (hl : pb < w.heap.size) : w'.heap[pb]? = some o := by
  rw [hs.heap, Array.getElem?_setIfInBounds]; simp [hl]
theorem SetB.ne {pb k : Nat} {o : Obj} (hs : SetB w w' pb o) (hn : k ≠ pb) : w'.heap[k]? = w.heap[k]? := by
  rw [hs.heap, Array.getElem?_setIfInBounds_ne (Ne.symm hn)]
theorem SetB.size {pb : Nat} {o : Obj} (hs : SetB w w' pb o) : w'.heap.size = w.heap.size := by rw [hs.heap]; simp

/-- A block of one's own is written, and is henceforth (as) another one, or the same; it may begin later. -/
theorem inv_write {id b0 : BId} {e : TypeId} {pb ba ba' : Nat} {pc pc' : Array Value} {cs cs' : List AV} (hI : Inv g w h) (hb0 : h b0 = some (.cells e cs)) (hφ : g.φ b0 = some (pb, ba)) (hpb : w.heap[pb]? = some (.cells pc e (0, 0)))
    (hp : SetB w w' pb (.cells pc' e (0, 0))) (hsz : pc'.size = pc.size) (hl : ba' + cs'.length ≤ pc'.size)
    (hc : ∀ (i : Nat) (x : AV), cs'[i]? = some x → ∃ u : Value, pc'[ba' + i]? = some u ∧ Rep g w x u) (hid : (id = b0 ∧ ba' = ba) ∨ FrG g id) :
    Ext g w (g.name id (pb, ba')) w' ∧ Inv (g.name id (pb, ba')) w' (hset (hset h b0 none) id (some (.cells e cs'))) := by
  have hlt : pb < w.heap.size := (Array.getElem?_eq_some_iff.1 hpb).1
  have hni : ¬ g.im pb := (hI.not_im (by rw [hb0]; rfl) hφ).1
  have hφid : g.φ id = none ∨ (id = b0 ∧ g.φ id = some (pb, ba')) := by
    rcases hid with ⟨rfl, rfl⟩ | hf
    · exact .inr ⟨rfl, hφ⟩
    · exact .inl (by simpa using hf [])
  have hx : Ext g w (g.name id (pb, ba')) w' := by
    refine ⟨fun b q hb => ?_, fun _ hk => hk, fun k hk => hp.ne (fun e => hni (e ▸ hk)), by rw [hp.size]; exact Nat.le_refl _, fun k s hs => ?_, hp.os, hp.tape, hp.output⟩
    · by_cases hbi : b = id
      · subst hbi
        rw [Gh.name_same]
        rcases hφid with hq | ⟨_, hq⟩ <;> rw [hq] at hb <;> cases hb
        rfl
      · rw [Gh.name_ne _ _ hbi]; exact hb
    · by_cases hk : k = pb
      · subst hk
        unfold World.shape? at hs ⊢
        rw [hpb] at hs
        rw [hp.same hlt]
        simp only [Option.some.injEq] at hs ⊢
        rw [← hs, hsz]
      · unfold World.shape? at hs ⊢
        rw [hp.ne hk]; exact hs
  -- the other blocks
  have hrest : Inv g w (hset h b0 none) := hI.sub (fun b x hb => by
    by_cases hbb : b = b0
    · subst hbb; rw [hset_same] at hb; cases hb
    · rw [hset_ne _ _ _ hbb] at hb; exact hb)
  have hother : ∀ {b : BId} {q a : Nat}, (hset h b0 none b).isSome = true → g.φ b = some (q, a) → q ≠ pb ∧ b ≠ b0 := by
    intro b q a hb hq
    have hbb : b ≠ b0 := fun e => by rw [e, hset_same] at hb; cases hb
    rw [hset_ne _ _ _ hbb] at hb
    refine ⟨fun e => hbb ?_, hbb⟩
    subst e
    exact hI.inj b b0 q _ _ hb (by rw [hb0]; rfl) hq hφ
  have hold : Inv (g.name id (pb, ba')) w' (hset h b0 none) := hrest.step hx (fun b q a hb hq => (hrest.not_im hb hq).1) (fun b q a hb hq => hp.ne (hother hb hq).1) (fun k hk => by rw [hp.size]; exact hI.lt k hk)
  refine ⟨hx, ⟨?_, ?_, ?_, hold.lt⟩⟩
  · intro b e' cs2 hb
    by_cases hbi : b = id
    · subst hbi
      rw [hset_same] at hb
      cases hb
      refine ⟨pb, ba', pc', Gh.name_same _ _ _, hni, hp.same hlt, hl, fun i x hix => ?_⟩
      obtain ⟨u, hu, hr⟩ := hc i x hix; exact ⟨u, hu, hr.mono hx⟩
    · rw [hset_ne _ _ _ hbi] at hb
      exact hold.cells b e' cs2 hb
  · intro b es hb
    by_cases hbi : b = id
    · subst hbi; rw [hset_same] at hb; cases hb
    · rw [hset_ne _ _ _ hbi] at hb
      exact hold.map b es hb
  · intro b b' q a a' h1 h2 e1 e2
    by_cases hb : b = id <;> by_cases hb' : b' = id
    · rw [hb, hb']
    · subst hb; rw [Gh.name_same] at e1; cases e1
      rw [hset_ne _ _ _ hb'] at h2
      rw [Gh.name_ne _ _ hb'] at e2
      exact ((hother h2 e2).1 rfl).elim
    · subst hb'; rw [Gh.name_same] at e2; cases e2
      rw [hset_ne _ _ _ hb] at h1
      rw [Gh.name_ne _ _ hb] at e1
      exact ((hother h1 e1).1 rfl).elim
    · rw [hset_ne _ _ _ hb] at h1; rw [hset_ne _ _ _ hb'] at h2
      exact hold.inj b b' q a a' h1 h2 e1 e2

/-- A block of one's own stays as it is from now on. -/
theorem inv_freeze {b0 : BId} {x0 : Blk} {pb ba : Nat} (hI : Inv g w h) (hb0 : h b0 = some x0) (hφ : g.φ b0 = some (pb, ba)) : Ext g w (g.fix pb) w ∧ Inv (g.fix pb) w (hset h b0 none) := by
  have hlt : pb < w.heap.size := (hI.not_im (by rw [hb0]; rfl) hφ).2
  have hx : Ext g w (g.fix pb) w := ⟨fun _ _ e => e, fun _ e => .inl e, fun _ _ => rfl, Nat.le_refl _, fun _ _ e => e, rfl, rfl, rfl⟩
  have hrest : Inv g w (hset h b0 none) := hI.sub (fun b x hb => by
    by_cases hbb : b = b0
    · subst hbb; rw [hset_same] at hb; cases hb
    · rw [hset_ne _ _ _ hbb] at hb; exact hb)
  refine ⟨hx, hrest.step hx (fun b q a hb hq => ?_) (fun _ _ _ _ _ => rfl) (fun k hk => hk.elim (hI.lt k) (fun e => e ▸ hlt))⟩
  rintro (hk | hk)
  · exact (hrest.not_im hb hq).1 hk
  · subst hk
    have hbb : b ≠ b0 := fun e => by rw [e, hset_same] at hb; cases hb
    rw [hset_ne _ _ _ hbb] at hb
    exact hbb (hI.inj b b0 q _ _ hb (by rw [hb0]; rfl) hq hφ)
end
end Go.SX
