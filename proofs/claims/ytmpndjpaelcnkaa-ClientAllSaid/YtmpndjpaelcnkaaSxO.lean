/- []byte("..."): a row that is made, and then held for a string's bytes; what is said less of arguments. -/
import Derived.Test.YtmpndjpaelcnkaaSxN
set_option linter.unusedVariables false
set_option linter.unusedSimpArgs false
namespace Go.SX
open Go

section
variable {g : Gh} {w w' : World} {h : Heap}
/-- A block of one's own is marked, and stays as it is from now on. -/
theorem inv_mark {b0 : BId} {e : TypeId} {cs : List AV} {pb ba : Nat} {pc : Array Value} {fr : Nat × Nat} (hI : Inv g w h) (hb0 : h b0 = some (.cells e cs)) (hφ : g.φ b0 = some (pb, ba)) (hpb : w.heap[pb]? = some (.cells pc e (0, 0))) (hp : SetB w w' pb (.cells pc e fr)) :
    Ext g w (g.fix pb) w' ∧ Inv (g.fix pb) w' (hset h b0 none) := by
  have hlt : pb < w.heap.size := (Array.getElem?_eq_some_iff.1 hpb).1
  have hni : ¬ g.im pb := (hI.not_im (by rw [hb0]; rfl) hφ).1
  have hx : Ext g w (g.fix pb) w' := by
    refine ⟨fun _ _ q => q, fun _ q => .inl q, fun k hk => hp.ne (by rintro rfl; exact hni hk), by rw [hp.size]; exact Nat.le_refl _, fun k s hs => ?_, hp.os, hp.tape, hp.output⟩
    by_cases hk : k = pb
    · subst hk
      unfold World.shape? at hs ⊢
      rw [hpb] at hs
      rw [hp.same hlt]
      exact hs
    · unfold World.shape? at hs ⊢
      rw [hp.ne hk]; exact hs
  have hrest : Inv g w (hset h b0 none) := hI.sub (fun b x hb => by
    by_cases hbb : b = b0
    · subst hbb; rw [hset_same] at hb; cases hb
    · rw [hset_ne _ _ _ hbb] at hb; exact hb)
  have hne : ∀ b q a, (hset h b0 none b).isSome = true → g.φ b = some (q, a) → q ≠ pb := by
    rintro b q a hb hq rfl
    have hbb : b ≠ b0 := fun e => by rw [e, hset_same] at hb; cases hb
    rw [hset_ne _ _ _ hbb] at hb
    exact hbb (hI.inj b b0 q _ _ hb (by rw [hb0]; rfl) hq hφ)
  refine ⟨hx, hrest.step hx (fun b q a hb hq => ?_) (fun b q a hb hq => hp.ne (hne b q a hb hq)) (fun k hk => by rw [hp.size]; exact hk.elim (hI.lt k) (fun e => e ▸ hlt))⟩
  rintro (hk | hk)
  · exact (hrest.not_im hb hq).1 hk
  · exact hne b q a hb hq hk
end

def litW (P : Program) (id : BId) (op : Op) (tm : Nat → AV) (h : Heap) (K : AV → List (BId × Option Blk) → Prop) : Prop :=
  match op with
  | .buildSlice t len parts => match elA P t with
    | some e => match szA P e, zA P e with
      | some sz, some zs => match fillA (fun k => some (k * sz, sz)) (zerosA zs (len * sz)) (partsA (evalA tm) parts.toList) with
        | some cs => len ≤ maxLen ∧ len * sz ≤ 2 ^ 24 ∧ K (.ref true id 0 len sz) [(id, some (.cells e cs))]
        | none => False
      | _, _ => False
    | none => False
  | .convert s d x => match evalA tm x with
    | .ref true b 0 len sz => match elA P s, h b with
      | some e, some (.cells e2 cs) => (s = d ∧ e2 = e ∧ kdA P e = some .u8 ∧ len * sz ≤ cs.length) ∧ K (.imm true len (cs.take (len * sz))) [(b, none)]
      | _, _ => False
    | _ => False
  | _ => False

theorem fillA_len {place : Nat → Option (Nat × Nat)} : ∀ (parts : List (Nat × AV)) (cells r : List AV), fillA place cells parts = some r → r.length = cells.length
  | [], cells, r, h => by simp [fillA] at h; rw [h]
  | (i, v) :: rest, cells, r, h => by
    unfold fillA at h
    split at h
    · rename_i off size xs h1 h2
      split at h
      · rename_i hc
        rw [fillA_len rest _ _ h]
        simp [setSeg]; omega
      · cases h
    · cases h
section
variable {P : Program} {id : BId} {o : Oper} {tm : Nat → AV} {h : Heap} {K : AV → List (BId × Option Blk) → Prop}
theorem buildRef_sound {t : TypeId} {len : Nat} {parts : Array (Nat × Operand)} (ho : o.op = .buildSlice t len parts) {e : TypeId} {sz : Nat} {zs cs : List AV} (he : elA P t = some e) (hs : szA P e = some sz) (hz : zA P e = some zs)
    (hm : len ≤ maxLen) (hb : len * sz ≤ 2 ^ 24) (hf : fillA (fun k => some (k * sz, sz)) (zerosA zs (len * sz)) (partsA (evalA tm) parts.toList) = some cs) (hk : K (.ref true id 0 len sz) [(id, some (.cells e cs))]) : WRop P id o tm h K := by
  refine ⟨_, [], _, opF_alloc (fun g w a h hr hev hI => ?_), trivial, hk⟩
  obtain ⟨rs, h1, h2, h3⟩ := buildSlice_key ho he hs hz hb hf hev
  refine ⟨_, _, rs, h1, alloc_pushed _ _, by omega, h3, fun g' hg' hx => ?_⟩
  have hnew : (w.alloc (.cells rs e)).heap[w.heap.size]? = some (.cells rs e (0, 0)) := (alloc_pushed w (.cells rs e)).new
  have hfl : cs.length = len * sz := by
    have q := fillA_len _ _ _ hf
    rw [q]; simp [zerosA]
  exact .ref true id 0 len sz w.heap.size 0 0 len e rs.size hg' (by unfold World.shape?; rw [hnew]) (.inr rfl) (Nat.le_refl _) hm (fun _ => rfl) (by omega)
theorem run_mark {s : TypeId} {e : TypeId} {pb oo len cap : Nat} {pc : Array Value} {w : World} (he : P.underlying s = some (.slice e)) (hk : P.underlying e = some (.int .u8)) (hpb : w.heap[pb]? = some (.cells pc e (0, 0))) :
    ∃ w', (convert s s (.slice (some ⟨pb, oo, none⟩) len cap)).run P w = .ok (.slice (some ⟨pb, oo, none⟩) len cap) w' ∧ SetB w w' pb (.cells pc e (pc.size, pc.size + 1)) := by
  have hsh : w.shape? pb = some (e, pc.size) := by unfold World.shape?; rw [hpb]
  refine ⟨w.freeze ⟨pb, pc.size, none⟩ 1, ?_, ?_⟩
  · simp [convert, run_underlying he, run_underlying hk, markStringish, shape, freeze, Sem.run, Sem.bind, hsh]
  · have hlt := (Array.getElem?_eq_some_iff.1 hpb).1
    refine ⟨?_, rfl, rfl, rfl⟩
    unfold World.freeze
    simp only [Nat.one_ne_zero, if_false]
    apply Array.ext_getElem?
    intro k
    rw [Array.getElem?_modify, Array.getElem?_setIfInBounds]
    by_cases hkk : pb = k
    · subst hkk
      simp only [if_true, hlt, hpb, Option.map_some]
      simp
    · simp [hkk]
theorem convRef_sound {s : TypeId} {x : Operand} (ho : o.op = .convert s s x) {b : BId} {len sz : Nat} {e : TypeId} {cs : List AV} (hx : evalA tm x = .ref true b 0 len sz) (he : elA P s = some e) (hb : h b = some (.cells e cs)) (hk8 : kdA P e = some .u8) (hl : len * sz ≤ cs.length)
    (hk : K (.imm true len (cs.take (len * sz))) [(b, none)]) : WRop P id o tm h K := by
  refine ⟨_, [(b, .cells e cs)], _, ⟨fun q hq => .inl ?_, fun h2 hr2 g w a next Q hev hI hf hn => ?_⟩, ⟨hb, trivial⟩, hk⟩
  · simp at hq; subst hq; exact ⟨_, List.mem_singleton.2 rfl⟩
  · have q := hev x
    rw [hx] at q
    obtain ⟨pb, ba, oo, cap, e2, mm, ev, hφ, hsh, hoo, k1, k2, k3, k4⟩ := q.refv
    have hb2 := hr2.1
    obtain ⟨pb', ba', pc, r1, r2, r3, r4, r5⟩ := hI.cells b e cs hb2
    rw [hφ] at r1; cases r1
    obtain ⟨w', hrun, hset⟩ := run_mark (oo := oo) (len := len) (cap := cap) (und_of_el he) (und_of_kd hk8) r3
    obtain ⟨hx', hI'⟩ := inv_mark hI hb2 hφ r3 hset
    have hlt := (Array.getElem?_eq_some_iff.1 r3).1
    unfold Oper.wp
    have hexec : (execOp a.eval o).run P w = .ok (.value (.slice (some ⟨pb, oo, none⟩) len cap)) w' := by
      simp only [execOp, ho, Sem.run_bind, ev, hrun, Result.andThen_ok, Sem.run_pure]
    rw [hexec]
    refine hn (g.fix pb) w' _ hx' (Gh.fix_loc _ _ _) ?_ hI'
    by_cases h0 : len * sz = 0
    · rw [h0, List.take_zero]
      exact .imm _ _ _ _ _ [] (.inl rfl) k1 k2 k3 rfl (fun i u hu => by simp at hu) (fun i x u hx => by simp at hx)
    · have hc0 : cap ≠ 0 := by rintro rfl; have : len = 0 := by omega
                               subst this; simp at h0
      have hoo' : oo = ba := by have := hoo.resolve_left hc0; omega
      subst hoo'
      refine .imm _ _ _ _ _ ((pc.toList.drop oo).take (len * sz)) (.inr (.inr rfl)) k1 k2 k3 (by simp; omega) (fun i u hu => ?_) (fun i y u hy hu => ?_)
      · rw [List.getElem?_take] at hu
        split at hu
        · rw [List.getElem?_drop] at hu
          rw [addr_add_none, cell_of_row _ _ _ _ _ _ (hset.same hlt)]
          simpa using hu
        · cases hu
      · rw [List.getElem?_take] at hy hu
        split at hy
        · rename_i hi
          rw [if_pos hi, List.getElem?_drop] at hu
          obtain ⟨u', hu', hr'⟩ := r5 i y hy
          have : pc[oo + i]? = some u := by simpa using hu
          rw [this] at hu'; cases hu'
          exact hr'.mono hx'
        · cases hy
theorem litW_sound (hw : litW P id o.op tm h K) : WRop P id o tm h K := by
  generalize ho : o.op = op at hw
  cases op <;> try exact hw.elim
  case buildSlice t len parts =>
    simp only [litW] at hw
    split at hw
    · rename_i e he
      split at hw
      · rename_i sz zs hs hz
        split at hw
        · rename_i cs hf; exact buildRef_sound ho he hs hz hw.1 hw.2.1 hf hw.2.2
        · exact hw.elim
      · exact hw.elim
    · exact hw.elim
  case convert s d x =>
    simp only [litW] at hw
    split at hw
    · rename_i b len sz hx
      split at hw
      · rename_i e e2 cs he hb
        obtain ⟨⟨rfl, rfl, hk, hl⟩, hK⟩ := hw
        exact convRef_sound ho hx he hb hk hl hK
      · exact hw.elim
    · exact hw.elim
end

/-! ### regions with literals -/
def opL (b : Bool) (P : Program) (id : BId) (op : Op) (tm : Nat → AV) (h : Heap) (K : AV → List (BId × Option Blk) → Prop) : Prop := bif b then litW P id op tm h K else opW P id op tm h K
def WRb (P : Program) (ns : BId) (t : Nat) (ops : Array Oper) (B : List Nat) : Nat → List Oper → (Nat → AV) → Heap → ((Nat → AV) → Heap → Prop) → Prop
  | _, [], tm, h, K => K tm h
  | k, o :: rest, tm, h, K =>
    match o.guard with
    | none => opL (B.contains k) P (k :: t :: ns) o.op tm h fun v W => WRb P ns t ops B (k + 1) rest (putO tm o.dst v) (upd h W) K
    | some _ => False
theorem WR_of_WRb {P : Program} {ns : BId} {t : Nat} {ops : Array Oper} {B : List Nat} : ∀ (l : List Oper) (k : Nat) (tm : Nat → AV) (h : Heap) (K : (Nat → AV) → Heap → Prop), WRb P ns t ops B k l tm h K → WR P ns t ops k l tm h K := by
  intro l
  induction l with
  | nil => intro k tm h K hw; exact hw
  | cons o rest ih =>
    intro k tm h K hw
    unfold WRb at hw
    unfold WR
    cases hg : o.guard with
    | some q => rw [hg] at hw; exact hw.elim
    | none =>
      rw [hg] at hw
      simp only [gW]
      simp only [opL] at hw
      cases hb : B.contains k with
      | true =>
        rw [hb, cond_true] at hw
        exact (litW_sound hw).toK.mono fun v W h3 => ih _ _ _ _ h3
      | false =>
        rw [hb, cond_false] at hw
        exact (opW_toK hw).mono fun v W h3 => ih _ _ _ _ h3
theorem W_regb {P : Program} {n : Nat} {ns : BId} {Q : Exit → SSt → Prop} {st : SSt} {id : Nat} {ops : Array Oper} (B : List Nat) (hs : slotsOk n ops.toList = true) (h : WRb P ns st.t ops B 0 ops.toList st.tm st.h fun tm' h' => Q .normal ⟨tm', h', st.t + 1⟩) : W P n ns (.region id ops false) Q st :=
  W_region hs (WR_of_WRb _ _ _ _ _ h)
def WRbk (P : Program) (ns : BId) (t : Nat) (ops : Array Oper) (B : List Nat) (k : Nat) (o : Oper) (rest : List Oper) (tm : Nat → AV) (h : Heap) (K : (Nat → AV) → Heap → Prop) (v : AV) (W : List (BId × Option Blk)) : Prop :=
  WRb P ns t ops B (k + 1) rest (putO tm o.dst v) (upd h W) K
def stepL (P : Program) (ns : BId) (t : Nat) (ops : Array Oper) (B : List Nat) (k : Nat) (o : Oper) (rest : List Oper) (tm : Nat → AV) (h : Heap) (K : (Nat → AV) → Heap → Prop) (g : Option (Nat × Bool)) (b : Bool) : Prop :=
  match g with
  | none => opL b P (k :: t :: ns) o.op tm h (WRbk P ns t ops B k o rest tm h K)
  | some _ => False
section
variable {P : Program} {ns id : BId} {t k : Nat} {ops : Array Oper} {B : List Nat} {o : Oper} {rest : List Oper} {tm : Nat → AV} {h : Heap} {K : (Nat → AV) → Heap → Prop} {K2 : AV → List (BId × Option Blk) → Prop} {v : AV} {W : List (BId × Option Blk)}
theorem WRb_nil : WRb P ns t ops B k [] tm h K = K tm h := nr rfl
theorem WRb_cons : WRb P ns t ops B k (o :: rest) tm h K = stepL P ns t ops B k o rest tm h K o.guard (B.contains k) := by
  show (match o.guard with | none => _ | some _ => _) = _
  unfold stepL
  cases o.guard <;> rfl
theorem stepL_t : stepL P ns t ops B k o rest tm h K none true = litW P (k :: t :: ns) o.op tm h (WRbk P ns t ops B k o rest tm h K) := nr rfl
theorem stepL_f : stepL P ns t ops B k o rest tm h K none false = opW P (k :: t :: ns) o.op tm h (WRbk P ns t ops B k o rest tm h K) := nr rfl
theorem WRbk_eq : WRbk P ns t ops B k o rest tm h K v W = WRb P ns t ops B (k + 1) rest (putO tm o.dst v) (upd h W) K := nr rfl
def blW (P : Program) (id : BId) (e : Option TypeId) (len : Nat) (ps : List (Nat × AV)) (K : AV → List (BId × Option Blk) → Prop) : Prop :=
  match e with
  | some e => match szA P e, zA P e with
    | some sz, some zs => match fillA (fun k => some (k * sz, sz)) (zerosA zs (len * sz)) ps with
      | some cs => len ≤ maxLen ∧ len * sz ≤ 2 ^ 24 ∧ K (.ref true id 0 len sz) [(id, some (.cells e cs))]
      | none => False
    | _, _ => False
  | none => False
theorem litW_build {s : TypeId} {len : Nat} {ps : Array (Nat × Operand)} : litW P id (.buildSlice s len ps) tm h K2 = blW P id (elA P s) len (partsA (evalA tm) ps.toList) K2 := by
  unfold litW blW; rfl
def cvW (P : Program) (s d : TypeId) (x : AV) (h : Heap) (K : AV → List (BId × Option Blk) → Prop) : Prop :=
  match x with
  | .ref true b 0 len sz => match elA P s, h b with
    | some e, some (.cells e2 cs) => (s = d ∧ e2 = e ∧ kdA P e = some .u8 ∧ len * sz ≤ cs.length) ∧ K (.imm true len (cs.take (len * sz))) [(b, none)]
    | _, _ => False
  | _ => False
theorem litW_conv {s d : TypeId} {x : Operand} : litW P id (.convert s d x) tm h K2 = cvW P s d (evalA tm x) h K2 := by
  unfold litW cvW; rfl
end
attribute [go_sem ↓] WRb_cons litW_build litW_conv
attribute [go_sem] stepL_t stepL_f WRbk_eq WRb_nil blW cvW List.elem_cons List.elem_nil

theorem W_skipK {P : Program} {n : Nat} {ns : BId} {y : Code} {Q Q' : Exit → SSt → Prop} {K : SSt → Prop} {st : SSt} (hK : ∀ s, W P n ns y Q' s → K s) (h : W P n ns y Q' st) : W P n ns .skip (thenW K Q) st := W_skip (hK _ h)
theorem W_condT {P : Program} {n : Nat} {ns : BId} {x y : Code} {Q : Exit → SSt → Prop} {st : SSt} {c : Operand} (hc : evalA st.tm c = .p (.bool true)) (h : W P n ns x Q st) : W P n ns (.cond c x y) Q st := W_cond hc (fun _ => h) (fun e => by cases e)
theorem W_condF {P : Program} {n : Nat} {ns : BId} {x y : Code} {Q : Exit → SSt → Prop} {st : SSt} {c : Operand} (hc : evalA st.tm c = .p (.bool false)) (h : W P n ns y Q st) : W P n ns (.cond c x y) Q st := W_cond hc (fun e => by cases e) (fun _ => h)
/-! ### an append of nothing -/
def isSl : AV → Bool
  | .p (.slice none 0 0) | .imm .. | .ref .. => true
  | _ => false
theorem isSl_box {x : AV} (h : isSl x = true) : boxA x = some [x] ∧ x.one = true := by
  unfold isSl at h
  split at h <;> first | exact ⟨rfl, rfl⟩ | cases h
theorem append_zero {P : Program} {id : BId} {o : Oper} {tm : Nat → AV} {h : Heap} {s x : Operand} {t t2 e : TypeId} {sz : Nat} (ho : o.op = .call { callee := .builtin .append, args := #[s, x], argTypes := #[t, t2] }) (he : elA P t = some e) (hsz : szA P e = some sz)
    (hs : isSl (evalA tm s) = true) (hx : srcA P t2 (evalA tm x) h = some (0, [])) : OpF P id o (evalA tm) (readsOf (evalA tm x) h) (evalA tm s) [] := by
  refine opF_value fun g w a h2 hr hev hI => ⟨a.eval s, ?_, hev s⟩
  obtain ⟨i, hi, rfl⟩ := Option.map_eq_some_iff.1 hsz
  obtain ⟨news, hsrc, _⟩ := src_sound (sz := i.size) hx (by simp) hr hI (hev x)
  have hn : news = [] := List.eq_nil_of_length_eq_zero (by rw [hsrc.nl]; simp)
  subst hn
  have hsr := hev s
  have key : (Builtin.append_ #[t, t2] o.type #[a.eval s, a.eval x]).run P w = .ok (a.eval s) w := by
    generalize evalA tm s = y at hs hsr
    generalize hu : a.eval s = u at hsr ⊢
    cases hsr with
    | p v =>
      unfold isSl at hs
      split at hs <;> first | (rename_i q; cases q; exact run_app_nil he hi hsrc) | (rename_i q; cases q; done) | (cases hs; done)
    | imm f n cs ad cap us hi2 h1 h2 h3 hl hc hh => exact run_app_room he hi hsrc (by omega) (by simp [storeCells])
    | ref f b off n sz2 pb ba oo cap e2 m hφ hsh hoo h1 h2 h3 h4 => exact run_app_room he hi hsrc (by omega) (by simp [storeCells])
    | _ => simp [isSl] at hs
  rw [exec_append ho, Sem.run_bind, key]; rfl
theorem stop_append_zero {P : Program} {id : BId} {tm : Nat → AV} {h : Heap} {K : AV → List (BId × Option Blk) → Prop} {s x : Operand} {t t2 : TypeId} (e : TypeId) (sz : Nat) (he : elA P t = some e) (hsz : szA P e = some sz)
    (hs : isSl (evalA tm s) = true) (hx : srcA P t2 (evalA tm x) h = some (0, [])) (hk : K (evalA tm s) []) : Stop P id (.call { callee := .builtin .append, args := #[s, x], argTypes := #[t, t2] }) tm h K :=
  ⟨rfl, fun _ => ⟨_, _, fun o ho => (append_zero ho he hsz hs hx).toK (reads_of _ _), hk⟩⟩
theorem grw_isSl {α : Type} {enc : α → List AV} {e : TypeId} {sz : Nat} {x0 : AV} {l0 : List α} {h : Heap} {x : AV} {m : List α} (hg : Grw enc e sz x0 l0 h x m) (h0 : isSl x0 = true) : isSl x = true := by
  rcases hg with ⟨rfl, _⟩ | ⟨b, _, rfl, _⟩
  · exact h0
  · rfl
/-! ### arguments, said less of -/
def Sub (x y : AV) : Prop := ∀ (g : Gh) (w : World) (u : Value), Rep g w x u → Rep g w y u
inductive SubL : List AV → List AV → Prop
  | nil : SubL [] []
  | cons {x y : AV} {xs ys : List AV} (h : Sub x y) (t : SubL xs ys) : SubL (x :: xs) (y :: ys)
theorem sub_refl (x : AV) : Sub x x := fun _ _ _ h => h
theorem subL_refl : ∀ xs : List AV, SubL xs xs
  | [] => .nil
  | x :: xs => .cons (sub_refl x) (subL_refl xs)
theorem SubL.len {xs ys : List AV} (h : SubL xs ys) : xs.length = ys.length := by induction h <;> simp_all
theorem SubL.at_ {xs ys : List AV} (h : SubL xs ys) : ∀ (i : Nat) (y : AV), ys[i]? = some y → ∃ x, xs[i]? = some x ∧ Sub x y := by
  induction h with
  | nil => intro i y h; simp at h
  | cons h t ih =>
    intro i y hy
    cases i with
    | zero => simp at hy; subst hy; exact ⟨_, rfl, h⟩
    | succ i => simp at hy; simpa using ih i y hy
theorem SubL.app {xs ys xs2 ys2 : List AV} (h : SubL xs ys) (h2 : SubL xs2 ys2) : SubL (xs ++ xs2) (ys ++ ys2) := by
  induction h with
  | nil => exact h2
  | cons h t ih => exact .cons h ih
theorem sub_agg {xs ys : List AV} (h : SubL xs ys) : Sub (.agg xs) (.agg ys) := fun g w u hr => by
  cases hr with
  | agg _ vs hl hh => exact .agg _ _ (by rw [← h.len]; exact hl) (fun i y v hy hv => by obtain ⟨x, hx, hs⟩ := h.at_ i y hy; exact hs g w v (hh i x v hx hv))
theorem sub_imm {f f2 : Bool} {n : Nat} {xs ys : List AV} (h : SubL xs ys) (hf : f2 = true → f = true) : Sub (.imm f n xs) (.imm f2 n ys) := fun g w u hr => by
  cases hr with
  | imm _ _ _ a cap us hi h1 h2 h3 hl hc hh =>
    refine .imm _ _ _ a cap us ?_ h1 h2 (fun e => h3 (hf e)) (by rw [← h.len]; exact hl) hc (fun i y u hy hu => by obtain ⟨x, hx, hs⟩ := h.at_ i y hy; exact hs g w u (hh i x u hx hu))
    rcases hi with hi | hi
    · subst hi; exact .inl (List.length_eq_zero_iff.1 (by rw [← h.len]; rfl))
    · exact .inr hi
theorem CallF.weak {P : Program} {f : FuncId} {args args' : List AV} {id : BId} {R : List (BId × Blk)} {r : AV} {W : List (BId × Option Blk)} (hc : CallF P f args id R r W) (hs : SubL args' args) : CallF P f args' id R r W :=
  ⟨hc.isF, hc.wok, fun h hr g w us hl hrep hI hf => hc.ok h hr g w us (by rw [hl, hs.len]) (fun i x u hx hu => by obtain ⟨x', hx', hsub⟩ := hs.at_ i x hx; exact hsub g w u (hrep i x' u hx' hu)) hI hf⟩
/-! ### calls of which a law tells less than all: what the heap is behind them -/
def CallH (P : Program) (f : FuncId) (args : List AV) (id : BId) (h : Heap) (Post : AV → Heap → Prop) : Prop := CallE P f args id h (fun v W => Post v (upd h W))
theorem stop_callH {P : Program} {id ns : BId} {tm : Nat → AV} {h : Heap} {K : (Nat → AV) → Heap → Prop} {f : FuncId} {args : Array Operand} {ts : Array TypeId} {Post : AV → Heap → Prop} {t k : Nat} {ops : Array Oper} {o : Oper} {rest : List Oper}
    (hc : CallH P f (args.toList.map (evalA tm)) id h Post) (hk : FrH h id → ∀ v h', Post v h' → WRf P ns t ops (k + 1) rest (putO tm o.dst v) h' K) :
    Stop P id (.call { callee := .value (.func f), args := args, argTypes := ts }) tm h (WRk P ns t ops k o rest tm h K) :=
  stop_callE hc fun hf v W hp => hk hf v _ hp
theorem CallH.mono {P : Program} {f : FuncId} {args : List AV} {id : BId} {h : Heap} {Post Post' : AV → Heap → Prop} (hc : CallH P f args id h Post) (hp : ∀ v h', Post v h' → Post' v h') : CallH P f args id h Post' := CallE.mono hc fun v W => hp _ _
attribute [go_sem] List.cons.injEq Int.sub_zero decide_true decide_false false_and and_false Int.cast_ofNat_Int
end Go.SX
