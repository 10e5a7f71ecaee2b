/- Conversions. -/
import Derived.Test.YtmpndjpaelcnkaaSxF
set_option linter.unusedVariables false
set_option linter.unusedSimpArgs false
namespace Go.SX
open Go

section
variable {P : Program} {id : BId} {o : Oper} {tm : Nat → AV} {h : Heap} {K : AV → List (BId × Option Blk) → Prop}

/-! #### conversions -/
def u8A (b : UInt8) : AV := .p (.int .u8 b.toNat)
def u8s (l : List UInt8) : List AV := l.map u8A
/-- Bytes as they stand in memory. -/
def byteA : AV → Option UInt8
  | .p (.int .u8 n) => if 0 ≤ n ∧ n < 256 then some (UInt8.ofNat n.toNat) else none
  | _ => none
theorem byteA_u8A (b : UInt8) : byteA (u8A b) = some b := by
  have := b.toNat_lt
  simp [byteA, u8A]
  omega
def bytesA (cs : List AV) : Option (List UInt8) := cs.mapM byteA
theorem bytesA_u8s (l : List UInt8) : bytesA (u8s l) = some l := by
  unfold bytesA u8s
  induction l with
  | nil => rfl
  | cons b l ih => simp [List.mapM_cons, byteA_u8A, ih]
theorem bytesA_rep {g : Gh} {w : World} {cs : List AV} {l : List UInt8} (h : bytesA cs = some l) {us : List Value} (hl : us.length = cs.length) (hr : ∀ (i : Nat) (x : AV) (u : Value), cs[i]? = some x → us[i]? = some u → Rep g w x u) :
    us = l.map (fun b => Value.int .u8 (b.toNat : Int)) := by
  induction cs generalizing l us with
  | nil => simp [bytesA] at h; subst h; simp at hl; simp [hl]
  | cons c cs ih =>
    cases us with
    | nil => simp at hl
    | cons u us =>
      simp only [bytesA, List.mapM_cons, Option.bind_eq_bind, Option.pure_def] at h
      cases hb : byteA c with
      | none => simp [hb] at h
      | some b =>
        cases hm : cs.mapM byteA with
        | none => simp [hb, hm] at h
        | some r =>
          simp [hb, hm] at h
          subst h
          have hrest := ih hm (by simpa using hl) (fun i x u hx hu => hr (i + 1) x u hx hu)
          have h0 := hr 0 c u rfl rfl
          have : u = .int .u8 (b.toNat : Int) := by
            cases c with
            | p v =>
              rw [rep_p h0]
              cases v <;> simp [byteA] at hb
              rename_i k n
              cases k <;> simp [byteA] at hb
              obtain ⟨⟨h1, h2⟩, rfl⟩ := hb
              congr 1
              simp
              omega
            | _ => simp [byteA] at hb
          rw [this, hrest]; rfl
theorem foldl_push (ns : List UInt8) : ∀ (s : ByteArray), ((ns.map (fun b => (b.toNat : Int))).foldl (fun r n => r.push (UInt8.ofNat n.toNat)) s).data.toList = s.data.toList ++ ns := by
  induction ns with
  | nil => intro s; simp
  | cons n ns ih =>
    intro s
    simp only [List.map_cons, List.foldl_cons]
    rw [ih]
    simp [ByteArray.push]
theorem bytes_ext {a b : ByteArray} (h : a.data.toList = b.data.toList) : a = b := by
  cases a; cases b; simp at h; rw [h]
def convW (P : Program) (src dst : TypeId) (x : AV) (h : Heap) (K : AV → Prop) : Prop :=
  match x with
  | .p (.int _ n) => match kdA P dst with
    | some k => (P.underlying src).isSome = true ∧ K (.p (.int k (k.wrap n)))
    | none => False
  | .p (.string s) => match P.underlying src, P.underlying dst with
    | some .string, some .string => K (.p (.string s))
    | some .string, some (.slice e) => kdA P e = some .u8 ∧ s.size ≤ maxLen ∧ K (.imm false s.size (u8s s.data.toList))
    | _, _ => False
  | .p (.slice none _ _) => match elA P src, P.underlying dst with
    | some e, some .string => kdA P e = some .u8 ∧ K (.p (.string .empty))
    | _, _ => False
  | .imm _ len cs => match elA P src, P.underlying dst, bytesA cs with
    | some e, some .string, some l => (kdA P e = some .u8 ∧ cs.length = len) ∧ K (.p (.string ⟨l.toArray⟩))
    | _, _, _ => False
  | _ => False
theorem conv_sound {src dst : TypeId} {x : Operand} (ho : o.op = .convert src dst x) (hw : convW P src dst (evalA tm x) h (fun v => K v [])) : WRop P id o tm h K := by
  unfold convW at hw
  split at hw
  · rename_i kk n hx
    split at hw
    · rename_i k hk
      obtain ⟨hs, hK⟩ := hw
      obtain ⟨d, hd⟩ := Option.isSome_iff_exists.1 hs
      refine WRop_value (R := []) trivial hK fun g w act h hr hev hI => ⟨_, ?_, .p _⟩
      have q := hev x
      rw [hx] at q
      simp [execOp, ho, rep_p q, convert, run_underlying hd, run_underlying (und_of_kd hk), Conv.intToInt]
    · exact hw.elim
  · rename_i s hx
    split at hw
    · rename_i h1 h2
      refine WRop_value (R := []) trivial hw fun g w act h hr hev hI => ⟨_, ?_, .p _⟩
      have q := hev x
      rw [hx] at q
      simp [execOp, ho, rep_p q, convert, run_underlying h1, run_underlying h2]
    · rename_i e h1 h2
      obtain ⟨hk, hm, hK⟩ := hw
      refine ⟨_, [], _, opF_fix (fun g w act h hr hev hI => ?_), trivial, hK⟩
      have q := hev x
      rw [hx] at q
      refine ⟨.slice (some ⟨w.heap.size, 0, none⟩) s.size (grownCap w s.size 0 e), _,
        .cells (bytesRow s (grownCap w s.size 0 e)) e ((bytesRow s (grownCap w s.size 0 e)).size, (bytesRow s (grownCap w s.size 0 e)).size + 1), ?_, drew_pushed _ _, fun g' hg' hxt => ?_⟩
      · simp only [execOp, ho, rep_p q, Sem.run_bind, run_bytes_of_string w src dst e s h1 h2 (und_of_kd hk), Result.andThen_ok, Sem.run_pure]
      · have hnew := (drew_pushed w (.cells (bytesRow s (grownCap w s.size 0 e)) e ((bytesRow s (grownCap w s.size 0 e)).size, (bytesRow s (grownCap w s.size 0 e)).size + 1))).new
        refine .imm _ _ _ _ _ (s.data.toList.map (fun b => Value.int .u8 (b.toNat : Int))) (.inr hg') (grownCap_ge w s.size 0 e) (grownCap_le_maxLen w s.size 0 e hm) (by simp) (by simp [u8s]) (fun i u hu => ?_) (fun i x u hx hu => ?_)
        · rw [addr_add_none, cell_of_row _ _ _ _ _ _ hnew, Nat.zero_add]
          rw [List.getElem?_map] at hu
          obtain ⟨b, hb, rfl⟩ := Option.map_eq_some_iff.1 hu
          obtain ⟨hlt, hb'⟩ := List.getElem?_eq_some_iff.1 hb
          simp at hlt hb'
          rw [bytesRow, Array.getElem?_append_left (by simpa using hlt)]
          simp [hlt, hb']
        · simp only [u8s, List.getElem?_map] at hx hu
          obtain ⟨b, hb, rfl⟩ := Option.map_eq_some_iff.1 hx
          rw [hb] at hu
          simp at hu
          subst hu
          exact .p _
    · exact hw.elim
  · rename_i a b hx
    split at hw
    · rename_i e he hd
      obtain ⟨hk, hK⟩ := hw
      refine WRop_value (R := []) trivial hK fun g w act h hr hev hI => ⟨_, ?_, .p _⟩
      have q := hev x
      rw [hx] at q
      simp [execOp, ho, rep_p q, convert, run_el he, run_underlying hd, run_underlying (und_of_kd hk), Conv.bytesToString]
    · exact hw.elim
  · rename_i f len cs hx
    split at hw
    · rename_i e l he hd hb
      obtain ⟨⟨hk, hcl⟩, hK⟩ := hw
      refine WRop_value (R := []) trivial hK fun g w act h hr hev hI => ⟨_, ?_, .p _⟩
      have q := hev x
      rw [hx] at q
      generalize hev' : act.eval x = uu at q
      cases q with
      | imm _ _ _ a cap us hi k1 k2 k3 hl hc hh =>
        have hus := bytesA_rep hb hl hh
        have hload : (loadCells a len).run P w = .ok ((l.map (fun b => (b.toNat : Int))).map (Value.int .u8)).toArray w := by
          have := run_loadCells_list (P := P) w a us hc
          rw [hl, hcl] at this
          rw [this, hus]
          simp
        have := run_bytesToString (P := P) w a len cap _ hload
        simp only [execOp, ho, hev', Sem.run_bind, run_convert_bytes_string w src dst e (some a) len cap (und_of_el he) (und_of_kd hk) hd, this, Result.andThen_ok, Sem.run_pure]
        congr 3
        apply bytes_ext
        rw [foldl_push]
        simp
    · exact hw.elim
  · exact hw.elim
end
end Go.SX
