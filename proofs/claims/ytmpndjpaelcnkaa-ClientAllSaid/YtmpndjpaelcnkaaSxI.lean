/- The steps: one function that says what each operation asks and hands on; calls; results. -/
import Derived.Test.YtmpndjpaelcnkaaSxH
set_option linter.unusedVariables false
set_option linter.unusedSimpArgs false
namespace Go.SX
open Go

/-- Which operations have laws of their own. -/
def stopOp : Op → Bool
  | .move _ | .assign _ | .pick .. | .alloc _ | .box .. | .build .. | .buildSlice .. | .load .. | .store .. | .nilCheck _ | .binOp .. | .unOp .. | .convert .. | .slice .. | .fieldAddr .. | .indexAddr .. | .index .. | .extract .. => false
  | .call c => match c.callee with
    | .builtin .len | .builtin .min | .builtin .max => false
    | _ => true
  | _ => true
/-- An operation that has a law of its own (a call, append): the steps stop here. -/
def Stop (P : Program) (id : BId) (op : Op) (tm : Nat → AV) (h : Heap) (K : AV → List (BId × Option Blk) → Prop) : Prop :=
  stopOp op = true ∧ (FrH h id → ∃ v W, (∀ o : Oper, o.op = op → OpK P id o (evalA tm) h v W) ∧ K v W)
theorem Stop.congr_self {P : Program} {id : BId} {op : Op} {tm : Nat → AV} {h : Heap} {K : AV → List (BId × Option Blk) → Prop} : Stop P id op tm h K = Stop P id op tm h K := rfl

/-- The length of a value. -/
def lenW (P : Program) (t : TypeId) (x : AV) (h : Heap) (K : AV → Prop) : Prop :=
  match x with
  | .p (.string s) => P.underlying t = some .string ∧ K (.p (.int .i64 s.size))
  | .p (.slice none n _) => (elA P t).isSome = true ∧ n = 0 ∧ K (.p (.int .i64 0))
  | .imm _ n _ => (elA P t).isSome = true ∧ K (.p (.int .i64 n))
  | .ref _ _ _ n _ => (elA P t).isSome = true ∧ K (.p (.int .i64 n))
  | _ => False
/-- An element of a string or of an array. -/
def atW (P : Program) (t : TypeId) (x i : AV) (K : AV → Prop) : Prop :=
  match x, i with
  | .p (.string s), .p (.int _ n) => P.underlying t = some .string ∧ (0 ≤ n ∧ n < s.size) ∧ K (u8A (s.data.toList.getD n.toNat 0))
  | .agg cs, .p (.int _ n) => match arA P t with
    | some (len, e) => match szA P e, aggA P e with
      | some sz, some agg => (0 ≤ n ∧ n < len) ∧ (match ldA agg sz (cs.drop (n.toNat * sz)) with | some v => K v | none => False)
      | _, _ => False
    | none => False
  | _, _ => False

def opW (P : Program) (id : BId) (op : Op) (tm : Nat → AV) (h : Heap) (K : AV → List (BId × Option Blk) → Prop) : Prop :=
  match op with
  | .move x | .assign x => K (evalA tm x) []
  | .pick c a b => match evalA tm c with
    | .p (.bool t) => K (bif t then evalA tm a else evalA tm b) []
    | _ => False
  | .alloc e => match zA P e with
    | some zs => K (.ptr id 0) [(id, some (.cells e zs))]
    | none => False
  | .box e x => match boxA (evalA tm x) with
    | some cs => K (.ptr id 0) [(id, some (.cells e cs))]
    | none => False
  | .build t parts => match zA P t, placesA P t with
    | some zs, some pl => match fillA (fun k => pl[k]?) zs (partsA (evalA tm) parts.toList) with
      | some cs => K (.agg cs) []
      | none => False
    | _, _ => False
  | .buildSlice t len parts => match elA P t with
    | some e => match szA P e, zA P e with
      | some sz, some zs => match fillA (fun k => some (k * sz, sz)) (zerosA zs (len * sz)) (partsA (evalA tm) parts.toList) with
        | some cs => len ≤ maxLen ∧ len * sz ≤ 2 ^ 24 ∧ K (.imm true len cs) []
        | none => False
      | _, _ => False
    | none => False
  | .load t x => loadW P t (evalA tm x) h (fun v => K v [])
  | .store t a v => storeW P t (evalA tm a) (evalA tm v) h (fun W => K (.p undef) W)
  | .nilCheck x => match evalA tm x with
    | .ptr b o => K (.ptr b o) []
    | .ep cs => K (.ep cs) []
    | _ => False
  | .binOp op t x y _ => binW P op t (evalA tm x) (evalA tm y) (fun v => K v [])
  | .unOp op _ x => unW op (evalA tm x) (fun v => K v [])
  | .convert src dst x => convW P src dst (evalA tm x) h (fun v => K v [])
  | .slice t x lo hi mx => sliceW P t (evalA tm x) (lo.map (evalA tm)) (hi.map (evalA tm)) (mx.map (evalA tm)) (fun v => K v [])
  | .fieldAddr t x k => fieldW P t (evalA tm x) k (fun v => K v [])
  | .indexAddr t x i => indexW P t (evalA tm x) (evalA tm i) (fun v => K v [])
  | .index t x i => atW P t (evalA tm x) (evalA tm i) (fun v => K v [])
  | .extract x k => match evalA tm x with
    | .tup xs => match xs[k]? with
      | some v => K v []
      | none => False
    | _ => False
  | .call c => match c with
    | { callee := .builtin .len, args, argTypes } => match args.toList, argTypes.toList with
      | [x], [t] => lenW P t (evalA tm x) h (fun v => K v [])
      | _, _ => False
    | { callee := .builtin .min, args, argTypes } => match args.toList with
      | [x, y] => match evalA tm x, evalA tm y with
        | .p (.int k a), .p (.int k' b) => K (.p (.int k (if b < a then b else a))) []
        | _, _ => False
      | _ => False
    | { callee := .builtin .max, args, argTypes } => match args.toList with
      | [x, y] => match evalA tm x, evalA tm y with
        | .p (.int k a), .p (.int k' b) => K (.p (.int k (if b > a then b else a))) []
        | _, _ => False
      | _ => False
    | _ => Stop P id op tm h K
  | _ => Stop P id op tm h K

section
variable {P : Program} {id : BId} {o : Oper} {tm : Nat → AV} {h : Heap} {K : AV → List (BId × Option Blk) → Prop}

theorem Rep.len_im {g : Gh} {w : World} {f : Bool} {n : Nat} {cs : List AV} {v : Value} (h : Rep g w (.imm f n cs) v) : ∃ a c, v = .slice (some a) n c := by
  obtain ⟨a, c, e, _⟩ := h.imm_ep; exact ⟨a, c, e⟩
theorem len_sound {x : Operand} {t : TypeId} (ho : o.op = .call { callee := .builtin .len, args := #[x], argTypes := #[t] }) (hw : lenW P t (evalA tm x) h (fun v => K v [])) : WRop P id o tm h K := by
  have hexec : ∀ (a : Act), execOp a.eval o = (do pure (.value (← Builtin.len_ #[t] o.type #[a.eval x]))) := fun a => by simp [execOp, ho, resolve, invoke, builtin]
  unfold lenW at hw
  split at hw
  · rename_i s hx
    obtain ⟨hu, hK⟩ := hw
    refine WRop_value (R := []) trivial hK fun g w act h hr hev hI => ⟨_, ?_, .p _⟩
    have q := hev x
    rw [hx] at q
    rw [hexec, rep_p q]
    simp [Builtin.len_, run_underlying hu, goInt]
  · rename_i n0 n hx
    obtain ⟨he, rfl, hK⟩ := hw
    obtain ⟨e, he⟩ := Option.isSome_iff_exists.1 he
    refine WRop_value (R := []) trivial hK fun g w act h hr hev hI => ⟨_, ?_, .p _⟩
    have q := hev x
    rw [hx] at q
    rw [hexec, rep_p q]
    simp [Builtin.len_, run_el he, goInt]
  · rename_i f n cs hx
    obtain ⟨he, hK⟩ := hw
    obtain ⟨e, he⟩ := Option.isSome_iff_exists.1 he
    refine WRop_value (R := []) trivial hK fun g w act h hr hev hI => ⟨_, ?_, .p _⟩
    have q := hev x
    rw [hx] at q
    obtain ⟨a, c, ev⟩ := q.len_im
    rw [hexec, ev]
    simp [Builtin.len_, run_el he, goInt]
  · rename_i f b off n sz hx
    obtain ⟨he, hK⟩ := hw
    obtain ⟨e, he⟩ := Option.isSome_iff_exists.1 he
    refine WRop_value (R := []) trivial hK fun g w act h hr hev hI => ⟨_, ?_, .p _⟩
    have q := hev x
    rw [hx] at q
    obtain ⟨pb, ba, oo, cap, e2, mm, ev, _⟩ := q.refv
    rw [hexec, ev]
    simp [Builtin.len_, run_el he, goInt]
  · exact hw.elim

theorem at_sound {x i : Operand} {t : TypeId} (ho : o.op = .index t x i) (hw : atW P t (evalA tm x) (evalA tm i) (fun v => K v [])) : WRop P id o tm h K := by
  unfold atW at hw
  split at hw
  · rename_i s k n hx hi
    obtain ⟨hu, ⟨h0, h1⟩, hK⟩ := hw
    refine WRop_value (R := []) trivial hK fun g w act h hr hev hI => ⟨_, ?_, .p _⟩
    have q1 := hev x; have q2 := hev i
    rw [hx] at q1; rw [hi] at q2
    have hlt : n.toNat < s.size := by omega
    have hs : s[n.toNat]? = some (s.data.toList.getD n.toNat 0) := by
      have hlt' : n.toNat < s.data.toList.length := by simpa using hlt
      rw [List.getD_eq_getElem?_getD, List.getElem?_eq_getElem hlt', Option.getD_some]
      have : s[n.toNat]? = some s[n.toNat] := by simp [hlt]
      rw [this]
      congr 1
    simp [execOp, ho, rep_p q1, rep_p q2, Instr.index, asIntOf, run_underlying hu, h0, hs]
  · rename_i cs k n hx hi
    split at hw
    case h_2 => exact hw.elim
    rename_i len e he
    split at hw
    case h_2 => exact hw.elim
    rename_i sz agg hs hg
    obtain ⟨⟨h0, h1⟩, hw⟩ := hw
    split at hw
    case h_2 => exact hw.elim
    rename_i v hv
    refine WRop_value (R := []) trivial hw fun g w act h hr hev hI => ?_
    have q1 := hev x; have q2 := hev i
    rw [hx] at q1; rw [hi] at q2
    obtain ⟨vs, e1, hl, hh⟩ := rep_len_cells q1 rfl
    have hu := und_of_ar he
    have key : ∃ u, (part e vs (n.toNat * sz)).run P w = .ok u w ∧ Rep g w v u := by
      cases agg with
      | false =>
        simp only [ldA, Bool.false_eq_true, if_false] at hv
        have hv' : cs[n.toNat * sz]? = some v := by
          rw [List.head?_eq_getElem?, List.getElem?_drop] at hv; simpa using hv
        have hlt : n.toNat * sz < vs.size := by rw [← hl]; exact (List.getElem?_eq_some_iff.1 hv').1
        refine ⟨vs[n.toNat * sz], ?_, hh _ _ _ hv' (by simp [hlt])⟩
        simp [part, run_agg hg, hlt]
      | true =>
        simp only [ldA, if_true] at hv
        split at hv
        · rename_i hle
          cases hv
          refine ⟨_, by simp only [part, Sem.run_bind, run_agg hg, Result.andThen_ok, if_true, run_sz hs, Sem.run_map]; rfl, .agg _ _ ?_ (fun j y u hy hu => ?_)⟩
          · simp at hle ⊢; omega
          · rw [List.getElem?_take] at hy
            split at hy
            · rw [List.getElem?_drop] at hy
              rw [Array.getElem?_extract] at hu
              split at hu
              · exact hh _ _ _ hy hu
              · cases hu
            · cases hy
        · cases hv
    obtain ⟨u, hu1, hu2⟩ := key
    refine ⟨u, ?_, hu2⟩
    simp [execOp, ho, rep_p q2, e1, Instr.index, asIntOf, run_underlying hu, h0, h1, run_sz hs, hu1]
  · exact hw.elim

theorem opW_stop {op : Op} (hs : stopOp op = true) : opW P id op tm h K = Stop P id op tm h K := by
  cases op <;> first | rfl | (cases hs; done) | skip
  rename_i c
  obtain ⟨callee, args, argTypes⟩ := c
  cases callee <;> first | rfl | skip
  rename_i b
  cases b <;> first | rfl | (cases hs; done)
theorem opW_sound (hns : stopOp o.op = false) (hw : opW P id o.op tm h K) : WRop P id o tm h K := by
  have stop : ∀ op, o.op = op → Stop P id op tm h K → WRop P id o tm h K := fun op ho hs => absurd hs.1 (by rw [← ho, hns]; simp)
  have same : ∀ x, (∀ a : Act, execOp a.eval o = pure (.value (a.eval x))) → K (evalA tm x) [] → WRop P id o tm h K := fun x he hK =>
    WRop_value (R := []) trivial hK fun g w act h hr hev hI => ⟨_, by rw [he]; rfl, hev x⟩
  generalize ho : o.op = op at hw
  cases op with
  | move x => exact same x (fun a => by simp [execOp, ho]) hw
  | assign x => exact same x (fun a => by simp [execOp, ho]) hw
  | pick c a b =>
    simp only [opW] at hw
    split at hw
    · rename_i t hc
      refine WRop_value (R := []) trivial hw fun g w act h hr hev hI => ?_
      have q := hev c
      rw [hc] at q
      cases t
      · exact ⟨_, by simp [execOp, ho, rep_p q, asBool], hev b⟩
      · exact ⟨_, by simp [execOp, ho, rep_p q, asBool], hev a⟩
    · exact hw.elim
  | alloc e =>
    simp only [opW] at hw
    split at hw
    · rename_i zs hz; exact alloc_sound ho hz hw
    · exact hw.elim
  | box e x =>
    simp only [opW] at hw
    split at hw
    · rename_i cs hz; exact box_sound ho hz hw
    · exact hw.elim
  | build t parts =>
    simp only [opW] at hw
    split at hw
    · rename_i zs pl hz hp
      split at hw
      · rename_i cs hf; exact build_sound ho hz hp hf hw
      · exact hw.elim
    · exact hw.elim
  | buildSlice t len parts =>
    simp only [opW] at hw
    split at hw
    · rename_i e he
      split at hw
      · rename_i sz zs hs hz
        split at hw
        · rename_i cs hf; exact buildSlice_sound ho he hs hz hw.1 hw.2.1 hf hw.2.2
        · exact hw.elim
      · exact hw.elim
    · exact hw.elim
  | load t x =>
    simp only [opW] at hw
    obtain ⟨v, R, _, hr, hK, hs⟩ := load_sound hw
    refine WRop_value (R := R) hr hK fun g w act h2 hr2 hev hI => ?_
    obtain ⟨r, _, h2', h3⟩ := hs g w h2 (act.eval x) hr2 hI (hev x)
    exact ⟨r, by simp only [execOp, ho, Sem.run_bind, h2', Result.andThen_ok, Sem.run_pure], h3⟩
  | store t a v => exact store_sound ho hw
  | nilCheck x =>
    simp only [opW] at hw
    split at hw
    · rename_i b off hx
      refine WRop_value (R := []) trivial hw fun g w act h hr hev hI => ?_
      have q := hev x
      rw [hx] at q
      refine ⟨act.eval x, ?_, q⟩
      obtain ⟨pb, ba, hp, e⟩ := q.ptrv
      simp [execOp, ho, e]
    · rename_i cs hx
      refine WRop_value (R := []) trivial hw fun g w act h hr hev hI => ?_
      have q := hev x
      rw [hx] at q
      refine ⟨act.eval x, ?_, q⟩
      obtain ⟨a, e, _⟩ := q.epc
      simp [execOp, ho, e]
    · exact hw.elim
  | binOp op t x y t2 => exact bin_sound ho hw
  | unOp op t x => exact un_sound ho hw
  | convert src dst x => exact conv_sound ho hw
  | slice t x lo hi mx => exact slice_sound ho hw
  | fieldAddr t x k => exact field_sound ho hw
  | indexAddr t x i => exact index_sound ho hw
  | index t x i => exact at_sound ho hw
  | extract x k =>
    simp only [opW] at hw
    split at hw
    · rename_i xs hx
      split at hw
      · rename_i v hv
        refine WRop_value (R := []) trivial hw fun g w act h hr hev hI => ?_
        have q := hev x
        rw [hx] at q
        generalize he : act.eval x = u at q
        cases q with
        | tup _ vs hl hh =>
          have hk : k < vs.size := by rw [← hl]; exact (List.getElem?_eq_some_iff.1 hv).1
          exact ⟨vs[k], by simp [execOp, ho, he, Instr.extract, hk], hh k v _ hv (by simp [hk])⟩
      · exact hw.elim
    · exact hw.elim
  | call c =>
    obtain ⟨callee, args, argTypes⟩ := c
    have fallback : opW P id (.call ⟨callee, args, argTypes⟩) tm h K = Stop P id (.call ⟨callee, args, argTypes⟩) tm h K → WRop P id o tm h K := fun e => stop _ ho (e ▸ hw)
    cases callee with
    | value f => exact fallback rfl
    | invoke r m => exact fallback rfl
    | builtin b =>
      have hargs : ∀ {l : List Operand}, args.toList = l → args = l.toArray := fun e => by rw [← e]
      have hts : ∀ {l : List TypeId}, argTypes.toList = l → argTypes = l.toArray := fun e => by rw [← e]
      cases b <;> try exact fallback rfl
      case len =>
        simp only [opW] at hw
        split at hw
        · rename_i x t h1 h2
          exact len_sound (by rw [ho, hargs h1, hts h2]) hw
        · exact hw.elim
      case min =>
        simp only [opW] at hw
        split at hw
        · rename_i x y h1
          split at hw
          · rename_i k a k' b hx hy
            refine WRop_value (R := []) trivial hw fun g w act h hr hev hI => ⟨_, ?_, .p _⟩
            have q1 := hev x; have q2 := hev y
            rw [hx] at q1; rw [hy] at q2
            have ha := hargs h1
            subst ha
            simp [execOp, ho, resolve, invoke, builtin, rep_p q1, rep_p q2, run_min_int2]
          · exact hw.elim
        · exact hw.elim
      case max =>
        simp only [opW] at hw
        split at hw
        · rename_i x y h1
          split at hw
          · rename_i k a k' b hx hy
            refine WRop_value (R := []) trivial hw fun g w act h hr hev hI => ⟨_, ?_, .p _⟩
            have q1 := hev x; have q2 := hev y
            rw [hx] at q1; rw [hy] at q2
            have ha := hargs h1
            subst ha
            simp [execOp, ho, resolve, invoke, builtin, rep_p q1, rep_p q2, run_max_int2]
          · exact hw.elim
        · exact hw.elim
  | _ => exact stop _ ho hw
end

section
variable {P : Program} {id : BId} {o : Oper} {tm : Nat → AV} {h : Heap} {K : AV → List (BId × Option Blk) → Prop}
theorem opW_toK (hw : opW P id o.op tm h K) : WRopK P id o tm h K := by
  cases hs : stopOp o.op with
  | false => exact (opW_sound hs hw).toK
  | true =>
    rw [opW_stop hs] at hw
    exact fun hf => let ⟨v, W, h1, h2⟩ := hw.2 hf; ⟨v, W, h1 o rfl, h2⟩
end

/-! ### the steps of a region -/
def WRf (P : Program) (ns : BId) (t : Nat) (ops : Array Oper) : Nat → List Oper → (Nat → AV) → Heap → ((Nat → AV) → Heap → Prop) → Prop
  | _, [], tm, h, K => K tm h
  | k, o :: rest, tm, h, K =>
    gW ops tm o.guard (opW P (k :: t :: ns) o.op tm h fun v W => WRf P ns t ops (k + 1) rest (putO tm o.dst v) (upd h W) K)
      (WRf P ns t ops (k + 1) rest (putO tm o.dst (.p undef)) h K)
theorem gW_mono {ops : Array Oper} {tm : Nat → AV} {g : Option (Nat × Bool)} {A A' B B' : Prop} (ha : A → A') (hb : B → B') (h : gW ops tm g A B) : gW ops tm g A' B' := by
  cases g with
  | none => exact ha h
  | some q =>
    obtain ⟨j, want⟩ := q
    simp only [gW] at h ⊢
    split at h
    · exact h.elim
    · split at h
      · exact ⟨fun e => ha (h.1 e), fun e => hb (h.2 e)⟩
      · exact hb h
      · exact h.elim
theorem WR_of_WRf {P : Program} {ns : BId} {t : Nat} {ops : Array Oper} : ∀ (l : List Oper) (k : Nat) (tm : Nat → AV) (h : Heap) (K : (Nat → AV) → Heap → Prop), WRf P ns t ops k l tm h K → WR P ns t ops k l tm h K := by
  intro l
  induction l with
  | nil => intro k tm h K hw; exact hw
  | cons o rest ih =>
    intro k tm h K hw
    unfold WRf at hw
    unfold WR
    refine gW_mono (fun ha => ?_) (fun hb => ih _ _ _ _ hb) hw
    exact (opW_toK ha).mono fun v W h3 => ih _ _ _ _ h3

section
variable {P : Program} {n : Nat} {ns : BId} {Q : Exit → SSt → Prop} {st : SSt}
theorem W_reg {id : Nat} {ops : Array Oper} (hs : slotsOk n ops.toList = true) (h : WRf P ns st.t ops 0 ops.toList st.tm st.h fun tm' h' => Q .normal ⟨tm', h', st.t + 1⟩) : W P n ns (.region id ops false) Q st :=
  W_region hs (WR_of_WRf _ _ _ _ _ h)
end

/-! ### calls -/
theorem call_opF {P : Program} {id : BId} {tm : Nat → AV} {o : Oper} {f : FuncId} {args : Array Operand} {ts : Array TypeId} {R : List (BId × Blk)} {v : AV} {W : List (BId × Option Blk)}
    (hc : CallF P f (args.toList.map (evalA tm)) id R v W) (ho : o.op = .call { callee := .value (.func f), args := args, argTypes := ts }) : OpF P id o (evalA tm) R v W := by
  refine ⟨hc.wok, fun h2 hr2 g w a next Q hev hI hf hn => ?_⟩
  obtain ⟨fn, h1, h2', h3⟩ := hc.isF
  have hcall := hc.ok h2 hr2 g w (args.toList.map a.eval) (by simp) (fun i x u hx hu => by
    rw [List.getElem?_map] at hx hu
    cases hq : args.toList[i]? with
    | none => rw [hq] at hx; cases hx
    | some q => rw [hq] at hx hu; cases hx; cases hu; exact hev q) hI hf
  unfold Oper.wp
  have : (execOp a.eval o).run P w = .ok (.enter f (args.map a.eval)) w := by
    have h2'' : ¬ fn.name = "runtime.NumGoroutine" := by simpa using h2'
    have h3' : ¬ fn.body = none := by intro e; rw [e] at h3; simp at h3
    simp [execOp, ho, resolve, Act.eval, Deferred.ofValue, invoke, callFunc, h1, h2'', h3']
  rw [this]
  have ha : args.map a.eval = (args.toList.map a.eval).toArray := by apply Array.ext'; simp
  rw [ha]
  show Calls P f _ w _
  refine hcall.mono ?_
  rintro e w' ⟨u, g', rfl, hx, hl, hv, hI'⟩
  exact hn g' w' u hx hl hv hI'

theorem stop_call {P : Program} {id : BId} {tm : Nat → AV} {h : Heap} {K : AV → List (BId × Option Blk) → Prop} {f : FuncId} {args : Array Operand} {ts : Array TypeId} {R : List (BId × Blk)} {v : AV} {W : List (BId × Option Blk)}
    (hc : CallF P f (args.toList.map (evalA tm)) id R v W) (hr : Reads h R) (hk : K v W) : Stop P id (.call { callee := .value (.func f), args := args, argTypes := ts }) tm h K :=
  ⟨rfl, fun _ => ⟨v, W, fun o ho => (call_opF hc ho).toK hr, hk⟩⟩

section
variable {P : Program} {id : BId} {tm : Nat → AV} {h : Heap} {K : AV → List (BId × Option Blk) → Prop} {s x : Operand} {t t2 : TypeId}
/-- append whose outcome stays as it is. -/
theorem stop_append_fix (e : TypeId) (sz by_ n m : Nat) (cs ys : List AV) (he : elA P t = some e) (hsz : szA P e = some sz) (hby : byA P e = some by_) (hz : (zA P e).isSome = true) (hs : fullA (evalA tm s) = some (n, cs)) (hcl : cs.length = n * sz)
    (hx : srcA P t2 (evalA tm x) h = some (m, ys)) (hyl : ys.length = m * sz) (hb : (n + m) * by_ ≤ 140737488355328) (hm : n + m ≤ maxLen) (hk : K (appA (evalA tm s) m (.imm false (n + m) (cs ++ ys))) []) :
    Stop P id (.call { callee := .builtin .append, args := #[s, x], argTypes := #[t, t2] }) tm h K :=
  ⟨rfl, fun _ => ⟨_, _, fun o ho => (append_fix ho he hsz hby hz hs hcl hx hyl hb hm).toK (reads_of _ _), hk⟩⟩
/-- append that makes a new block of one's own. -/
theorem stop_append_new (e : TypeId) (sz by_ n m : Nat) (cs ys zs : List AV) (he : elA P t = some e) (hsz : szA P e = some sz) (hby : byA P e = some by_) (hz : zA P e = some zs) (hzl : zs.length = sz) (hs : fullA (evalA tm s) = some (n, cs)) (hcl : cs.length = n * sz)
    (hx : srcA P t2 (evalA tm x) h = some (m, ys)) (hyl : ys.length = m * sz) (hm0 : 0 < m) (hb : (n + m) * by_ ≤ 140737488355328) (hm : n + m ≤ maxLen) (hk : K (.ref false id 0 (n + m) sz) [(id, some (.cells e (cs ++ ys)))]) :
    Stop P id (.call { callee := .builtin .append, args := #[s, x], argTypes := #[t, t2] }) tm h K :=
  ⟨rfl, fun _ => ⟨_, _, fun o ho => (append_new ho he hsz hby hz hzl hs hcl hx hyl hm0 hb hm).toK (reads_of _ _), hk⟩⟩
/-- append onto a block of one's own. -/
theorem stop_append_own (e : TypeId) (sz by_ n m off : Nat) (f : Bool) (b : BId) (all ys zs : List AV) (he : elA P t = some e) (hsz : szA P e = some sz) (hby : byA P e = some by_) (hz : zA P e = some zs) (hzl : zs.length = sz)
    (hs : evalA tm s = .ref f b off n sz) (hbk : h b = some (.cells e all)) (hend : all.length = off + n * sz) (hx : srcA P t2 (evalA tm x) h = some (m, ys)) (hyl : ys.length = m * sz) (hone : ys.all AV.one = true)
    (hm0 : 0 < m) (hb : (n + m) * by_ ≤ 140737488355328) (hm : n + m ≤ maxLen) (hk : K (.ref false id 0 (n + m) sz) [(b, none), (id, some (.cells e (all.drop off ++ ys)))]) :
    Stop P id (.call { callee := .builtin .append, args := #[s, x], argTypes := #[t, t2] }) tm h K :=
  ⟨rfl, fun _ => ⟨_, _, fun o ho => (append_own ho he hsz hby hz hzl hs hend hx hyl hone hm0 hb hm).toK (h := h) ⟨hbk, reads_of _ _⟩, hk⟩⟩
end

/-- A call of whose outcome a law tells less than all. -/
structure CallE (P : Program) (f : FuncId) (args : List AV) (id : BId) (h : Heap) (Post : AV → List (BId × Option Blk) → Prop) : Prop where
  isF : ∃ fn, P.funcs[f]? = some fn ∧ (fn.name == "runtime.NumGoroutine") = false ∧ fn.body.isNone = false
  ok : FrH h id → ∃ v W, (∀ q ∈ W, (h q.1).isSome = true ∨ Under id q.1) ∧ CallsA P f args h id v (upd h W) ∧ Post v W
theorem CallF.toE {P : Program} {f : FuncId} {args : List AV} {id : BId} {R : List (BId × Blk)} {r : AV} {W : List (BId × Option Blk)} {h : Heap} (hc : CallF P f args id R r W) (hr : Reads h R) {Post : AV → List (BId × Option Blk) → Prop} (hp : Post r W) : CallE P f args id h Post :=
  ⟨hc.isF, fun _ => ⟨r, W, fun q hq => (hc.wok q hq).imp (fun ⟨y, hy⟩ => by rw [hr.mem hy]; rfl) (fun e => e), hc.ok h hr, hp⟩⟩
theorem CallE.mono {P : Program} {f : FuncId} {args : List AV} {id : BId} {h : Heap} {Post Post' : AV → List (BId × Option Blk) → Prop} (hc : CallE P f args id h Post) (hp : ∀ v W, Post v W → Post' v W) : CallE P f args id h Post' :=
  ⟨hc.isF, fun hf => let ⟨v, W, h1, h2, h3⟩ := hc.ok hf; ⟨v, W, h1, h2, hp _ _ h3⟩⟩
theorem callA_opOK {P : Program} {id : BId} {tm : Nat → AV} {o : Oper} {f : FuncId} {args : Array Operand} {ts : Array TypeId} {h h' : Heap} {v : AV} (hf : ∃ fn, P.funcs[f]? = some fn ∧ (fn.name == "runtime.NumGoroutine") = false ∧ fn.body.isNone = false)
    (hc : CallsA P f (args.toList.map (evalA tm)) h id v h') (ho : o.op = .call { callee := .value (.func f), args := args, argTypes := ts }) : OpOK P id o (evalA tm) h v h' := by
  intro g w a next Q hev hI hfr hn
  obtain ⟨fn, h1, h2', h3⟩ := hf
  have hcall := hc g w (args.toList.map a.eval) (by simp) (fun i x u hx hu => by
    rw [List.getElem?_map] at hx hu
    cases hq : args.toList[i]? with
    | none => rw [hq] at hx; cases hx
    | some q => rw [hq] at hx hu; cases hx; cases hu; exact hev q) hI hfr
  unfold Oper.wp
  have : (execOp a.eval o).run P w = .ok (.enter f (args.map a.eval)) w := by
    have h2'' : ¬ fn.name = "runtime.NumGoroutine" := by simpa using h2'
    have h3' : ¬ fn.body = none := by intro e; rw [e] at h3; simp at h3
    simp [execOp, ho, resolve, Act.eval, Deferred.ofValue, invoke, callFunc, h1, h2'', h3']
  rw [this]
  have ha : args.map a.eval = (args.toList.map a.eval).toArray := by apply Array.ext'; simp
  rw [ha]
  show Calls P f _ w _
  refine hcall.mono ?_
  rintro e w' ⟨u, g', rfl, hx, hl, hv, hI'⟩
  exact hn g' w' u hx hl hv hI'
theorem stop_callE {P : Program} {id : BId} {tm : Nat → AV} {h : Heap} {K : AV → List (BId × Option Blk) → Prop} {f : FuncId} {args : Array Operand} {ts : Array TypeId} {Post : AV → List (BId × Option Blk) → Prop}
    (hc : CallE P f (args.toList.map (evalA tm)) id h Post) (hk : FrH h id → ∀ v W, Post v W → K v W) : Stop P id (.call { callee := .value (.func f), args := args, argTypes := ts }) tm h K :=
  ⟨rfl, fun hf => let ⟨v, W, h1, h2, h3⟩ := hc.ok hf; ⟨v, W, fun o ho => ⟨h1, callA_opOK hc.isF h2 ho⟩, hk hf v W h3⟩⟩

def resA (P : Program) (h : Heap) (tm : Nat → AV) : List ResultVar → (List AV → Prop) → Prop
  | [], K => K []
  | .tmp t :: r, K => resA P h tm r fun l => K (tm t :: l)
  | .cell a t :: r, K => loadW P t (tm a) h fun v => resA P h tm r fun l => K (v :: l)
def oneA : List AV → AV
  | [x] => x
  | l => .tup l

theorem resA_sound {P : Program} {g : Gh} {w : World} {h : Heap} {tm : Nat → AV} {tmps : Array Value} (hI : Inv g w h) (htm : ∀ d, Rep g w (tm d) (tmps.getD d undef)) (f : ResultVar → Sem Value) (hf : ∀ u, f (.tmp u) = pure (tmps.getD u undef)) (hc : ∀ a t, f (.cell a t) = (do loadVar t (← asAddr (tmps.getD a undef)))) :
    ∀ (rs : List ResultVar) (K : List AV → Prop), resA P h tm rs K → ∃ l vs, K l ∧ (rs.mapM f).run P w = .ok vs w ∧ l.length = vs.length ∧ ∀ (i : Nat) (x : AV) (v : Value), l[i]? = some x → vs[i]? = some v → Rep g w x v := by
  intro rs
  induction rs with
  | nil => intro K hK; exact ⟨[], [], hK, by simp, rfl, by simp⟩
  | cons r rs ih =>
    intro K hK
    have fin : ∀ (x : AV) (u : Value), (f r).run P w = .ok u w → Rep g w x u → (∃ l vs, K (x :: l) ∧ (rs.mapM f).run P w = .ok vs w ∧ l.length = vs.length ∧ ∀ (i : Nat) (x : AV) (v : Value), l[i]? = some x → vs[i]? = some v → Rep g w x v) →
        ∃ l vs, K l ∧ ((r :: rs).mapM f).run P w = .ok vs w ∧ l.length = vs.length ∧ ∀ (i : Nat) (x : AV) (v : Value), l[i]? = some x → vs[i]? = some v → Rep g w x v := by
      rintro x u hru hxu ⟨l, vs, h1, h2, h3, h4⟩
      refine ⟨x :: l, u :: vs, h1, by simp [List.mapM_cons, hru, h2], by simp [h3], fun i y v hy hv => ?_⟩
      cases i with
      | zero => simp at hy hv; subst hy; subst hv; exact hxu
      | succ i => simp at hy hv; exact h4 i y v hy hv
    cases r with
    | tmp t => exact fin (tm t) _ (by rw [hf]; rfl) (htm t) (ih _ hK)
    | cell a t =>
      obtain ⟨v, R, _, hr, hK', hs⟩ := load_sound hK
      obtain ⟨u, h1, _, h3⟩ := hs g w h _ hr hI (htm a)
      exact fin v u (by rw [hc]; exact h1) h3 (ih _ hK')

theorem results_sound {P : Program} {fn : Func} {g : Gh} {w : World} {h : Heap} {tm : Nat → AV} {tmps : Array Value} {K : AV → Prop} (hI : Inv g w h) (htm : ∀ d, Rep g w (tm d) (tmps.getD d undef)) (hr : resA P h tm fn.results.toList fun l => K (oneA l)) :
    ∃ r u, K r ∧ (results fn tmps).run P w = .ok u w ∧ Rep g w r u := by
  unfold results
  obtain ⟨l, vs, h1, h2, h3, h4⟩ := resA_sound (tmps := tmps) hI htm (fun
    | .tmp t => pure (tmps.getD t undef)
    | .cell a t => do loadVar t (← asAddr (tmps.getD a undef))) (fun _ => rfl) (fun _ _ => rfl) _ _ hr
  have hrun : (fn.results.mapM (m := Sem) (fun
    | .tmp t => pure (tmps.getD t undef)
    | .cell a t => do loadVar t (← asAddr (tmps.getD a undef)))).run P w = .ok vs.toArray w := by
    rw [Array.mapM_eq_mapM_toList, Sem.run_map, h2]; rfl
  refine ⟨oneA l, _, h1, by rw [Sem.run_bind]; erw [hrun]; rfl, ?_⟩
  match l, vs, h3, h4 with
  | [x], [v], _, h4 => exact h4 0 x v rfl rfl
  | [], [], _, h4 => exact .tup _ _ (by simp) (by simp)
  | x :: y :: l, u :: v :: vs, h3, h4 => exact .tup _ _ (by simpa using h3) (fun i x v hx hv => h4 i x v hx (by simpa using hv))

def initTm (args : List AV) : Nat → AV := fun d => args.getD d (.p undef)

/-- What a body's end must be. -/
def Ends (P : Program) (rs : List ResultVar) (r : AV) (h' : Heap) (e : Exit) (st : SSt) : Prop := (e = .ret ∨ e = .normal) ∧ resA P st.h st.tm rs (fun l => oneA l = r) ∧ HLe h' st.h
theorem ends_ret {P : Program} {rs : List ResultVar} {r : AV} {h' : Heap} {st : SSt} (h1 : resA P st.h st.tm rs (fun l => oneA l = r)) (h2 : HLe h' st.h) : Ends P rs r h' .ret st := ⟨.inl rfl, h1, h2⟩
theorem ends_normal {P : Program} {rs : List ResultVar} {r : AV} {h' : Heap} {st : SSt} (h1 : resA P st.h st.tm rs (fun l => oneA l = r)) (h2 : HLe h' st.h) : Ends P rs r h' .normal st := ⟨.inr rfl, h1, h2⟩
theorem HLe.refl (h : Heap) : HLe h h := fun _ _ e => e
/-- A call, out of its body's steps. -/
theorem callsA_of_W {P : Program} {f : FuncId} {fn : Func} {c : Code} {args : List AV} {h h' : Heap} {id : BId} {r : AV} (hf : P.funcs[f]? = some fn) (hb : fn.body = some c)
    (hw : FrH h id → W P (args.length + (fn.ntmps - args.length)) id c (Ends P fn.results.toList r h') ⟨initTm args, h, 0⟩) : CallsA P f args h id r h' := by
  intro g w us hul hus hI hfr
  have hFr : FrS id ⟨initTm args, h, 0⟩ := fun t' _ p => by have := hI.frH hfr (p ++ [t']); simpa using this
  obtain ⟨e, st, h1, h2, h3, h4, h5⟩ := hw (hI.frH hfr) hFr
  refine calls_of_wp hf hb ?_
  have hR : RelS (args.length + (fn.ntmps - args.length)) id g w { tmps := us.toArray ++ Array.replicate (fn.ntmps - us.toArray.size) undef, defers := [] } ⟨initTm args, h, 0⟩ := by
    refine ⟨by simp [hul], fun d => ?_, hI, fun t' _ p => by have := hfr (p ++ [t']); simpa using this, rfl⟩
    simp only [initTm]
    rw [Array.getD_eq_getD_getElem?, List.getD_eq_getElem?_getD]
    by_cases hd : d < args.length
    · have hd' : d < us.length := by omega
      rw [Array.getElem?_append_left (by simpa using hd')]
      simp only [List.getElem?_toArray, List.getElem?_eq_getElem hd, List.getElem?_eq_getElem hd', Option.getD_some]
      exact hus d _ _ (List.getElem?_eq_getElem hd) (List.getElem?_eq_getElem hd')
    · rw [List.getElem?_eq_none (by omega), Array.getElem?_append_right (by simp; omega)]
      simp only [Option.getD_none, Array.getElem?_replicate]
      split <;> exact .p _
  refine wp_mono (h1 g w _ hR) ?_
  rintro e' a' w' ⟨rfl, g', hx, hl, hR'⟩
  obtain ⟨r', u, k1, k2, k3⟩ := results_sound (fn := fn) (K := fun x => x = r) hR'.inv hR'.tm h4
  subst k1
  have post : a'.defers = [] ∧ ∃ v, (results fn a'.tmps).run P w' = .ok v w' ∧ (∃ u g', Ending.returned v = .returned u ∧ Ext g w g' w' ∧ Loc id g g' ∧ Rep g' w' r' u ∧ Inv g' w' h') :=
    ⟨hR'.df, u, k2, u, g', rfl, hx, hl, k3, hR'.inv.sub h5⟩
  rcases h3 with rfl | rfl
  · exact post
  · exact post
theorem callE_of_W {P : Program} {f : FuncId} {fn : Func} {c : Code} {args : List AV} {h : Heap} {id : BId} {Post : AV → List (BId × Option Blk) → Prop} (hf : P.funcs[f]? = some fn) (hn : (fn.name == "runtime.NumGoroutine") = false) (hb : fn.body = some c)
    (hw : FrH h id → W P (args.length + (fn.ntmps - args.length)) id c (fun e st => ∃ r Wr, (∀ q ∈ Wr, (h q.1).isSome = true ∨ Under id q.1) ∧ Ends P fn.results.toList r (upd h Wr) e st ∧ Post r Wr) ⟨initTm args, h, 0⟩) : CallE P f args id h Post := by
  refine ⟨⟨fn, hf, hn, by rw [hb]; rfl⟩, fun hfr => ?_⟩
  have hFr : FrS id ⟨initTm args, h, 0⟩ := fun t' _ p => by have := hfr (p ++ [t']); simpa using this
  obtain ⟨e, st, h1, h2, r, Wr, h3, h4, h5⟩ := hw hfr hFr
  refine ⟨r, Wr, h3, ?_, h5⟩
  refine callsA_of_W hf hb (fun _ => ?_)
  exact fun _ => ⟨e, st, h1, h2, h4⟩
end Go.SX
