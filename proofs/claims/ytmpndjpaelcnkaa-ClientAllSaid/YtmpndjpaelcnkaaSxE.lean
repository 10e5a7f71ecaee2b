/- Arithmetic, comparisons, slices, indexes, conversions. -/
import Derived.Test.YtmpndjpaelcnkaaSxD
set_option linter.unusedVariables false
set_option linter.unusedSimpArgs false
namespace Go.SX
open Go

/-! ### operators -/
def andI (k : IntKind) (a b : Int) : Int := k.wrap (BitVec.ofInt k.bits a &&& BitVec.ofInt k.bits b).toNat
def orI (k : IntKind) (a b : Int) : Int := k.wrap (BitVec.ofInt k.bits a ||| BitVec.ofInt k.bits b).toNat
def xorI (k : IntKind) (a b : Int) : Int := k.wrap (BitVec.ofInt k.bits a ^^^ BitVec.ofInt k.bits b).toNat
def shlI (k : IntKind) (a b : Int) : Int := k.wrap (a * 2 ^ min b.toNat k.bits)
def shrI (k : IntKind) (a b : Int) : Int := a.fdiv (2 ^ min b.toNat k.bits)
def intW (op : BinOp) (k : IntKind) (a : Int) (k' : IntKind) (b : Int) (K : AV → Prop) : Prop :=
  match op with
  | .shl => 0 ≤ b ∧ K (.p (.int k (shlI k a b)))
  | .shr => 0 ≤ b ∧ K (.p (.int k (shrI k a b)))
  | .add => k = k' ∧ K (.p (.int k (k.wrap (a + b))))
  | .sub => k = k' ∧ K (.p (.int k (k.wrap (a - b))))
  | .mul => k = k' ∧ K (.p (.int k (k.wrap (a * b))))
  | .quo => k = k' ∧ b ≠ 0 ∧ K (.p (.int k (k.wrap (a.tdiv b))))
  | .rem => k = k' ∧ b ≠ 0 ∧ K (.p (.int k (a.tmod b)))
  | .and => k = k' ∧ K (.p (.int k (andI k a b)))
  | .or => k = k' ∧ K (.p (.int k (orI k a b)))
  | .xor => k = k' ∧ K (.p (.int k (xorI k a b)))
  | .andNot => k = k' ∧ K (.p (.int k (k.wrap (BitVec.ofInt k.bits a &&& ~~~BitVec.ofInt k.bits b).toNat)))
  | .eql => k = k' ∧ K (.p (.bool (a == b)))
  | .neq => k = k' ∧ K (.p (.bool (a != b)))
  | .lss => k = k' ∧ K (.p (.bool (a < b)))
  | .leq => k = k' ∧ K (.p (.bool (a ≤ b)))
  | .gtr => k = k' ∧ K (.p (.bool (a > b)))
  | .geq => k = k' ∧ K (.p (.bool (a ≥ b)))
def strW (op : BinOp) (a b : ByteArray) (K : AV → Prop) : Prop :=
  match op with
  | .add => a.size + b.size ≤ 9223372036854775807 ∧ K (.p (.string (a ++ b)))
  | .eql => K (.p (.bool (a.toList == b.toList)))
  | .neq => K (.p (.bool (!(a.toList == b.toList))))
  | .lss => K (.p (.bool (Op.bytesLess a.toList b.toList)))
  | .leq => K (.p (.bool (Op.bytesLess a.toList b.toList || a.toList == b.toList)))
  | .gtr => K (.p (.bool (!(Op.bytesLess a.toList b.toList || a.toList == b.toList))))
  | .geq => K (.p (.bool (!(Op.bytesLess a.toList b.toList))))
  | _ => False
/-- What is held against nil. -/
def nilA (P : Program) (t : TypeId) (x y : AV) : Option Bool :=
  match P.underlying t, x, y with
  | some (.slice _), .p (.slice none _ _), .p (.slice none _ _) => some true
  | some (.slice _), .imm _ _ _, .p (.slice none _ _) => some false
  | some (.slice _), .ref _ _ _ _ _, .p (.slice none _ _) => some false
  | some (.slice _), .p (.slice none _ _), .imm _ _ _ => some false
  | some (.slice _), .p (.slice none _ _), .ref _ _ _ _ _ => some false
  | some (.pointer _), .p (.pointer none), .p (.pointer none) => some true
  | some (.pointer _), .ptr _ _, .p (.pointer none) => some false
  | some (.pointer _), .p (.pointer none), .ptr _ _ => some false
  | some (.map _ _), .p (.map none), .p (.map none) => some true
  | some (.map _ _), .mp _, .p (.map none) => some false
  | some .bool, .p (.bool a), .p (.bool b) => some (a == b)
  | _, _, _ => none
def binW (P : Program) (op : BinOp) (t : TypeId) (x y : AV) (K : AV → Prop) : Prop :=
  match x, y with
  | .p (.int k a), .p (.int k' b) => intW op k a k' b K
  | .p (.string a), .p (.string b) => strW op a b K
  | x, y =>
    match nilA P t x y with
    | some r => match op with
      | .eql => K (.p (.bool r))
      | .neq => K (.p (.bool (!r)))
      | _ => False
    | none => False

section
variable {P : Program} {g : Gh} {w : World}

theorem int_sound {op : BinOp} {k k' : IntKind} {a b : Int} {t : TypeId} {K : AV → Prop} (h : intW op k a k' b K) : ∃ v, K (.p v) ∧ ∀ (P : Program) (w : World), (binOp op t (.int k a) (.int k' b)).run P w = .ok v w := by
  cases op
  case shl | shr =>
    obtain ⟨h0, hK⟩ := h
    refine ⟨_, hK, fun P w => ?_⟩
    have : ¬ b < 0 := by omega
    simp [binOp, Op.shift, this, shlI, shrI]
  case quo | rem =>
    obtain ⟨rfl, h0, hK⟩ := h
    exact ⟨_, hK, fun P w => by simp [binOp, Op.intDiv, h0]⟩
  all_goals
    obtain ⟨rfl, hK⟩ := h
    exact ⟨_, hK, fun P w => by simp [binOp, Op.intArith, Op.intBits, Op.intCmp, andI, orI, xorI]⟩

theorem str_sound {op : BinOp} {a b : ByteArray} {t : TypeId} {K : AV → Prop} (h : strW op a b K) : ∃ v, K (.p v) ∧ ∀ (P : Program) (w : World), (binOp op t (.string a) (.string b)).run P w = .ok v w := by
  cases op <;> first | exact h.elim | skip
  case add =>
    obtain ⟨h0, hK⟩ := h
    refine ⟨_, hK, fun P w => ?_⟩
    have : ¬ (9223372036854775807 < (a.size : Int) + (b.size : Int)) := by omega
    simp [binOp, Op.stringOp, this]
  all_goals exact ⟨_, h, fun P w => by simp [binOp, Op.stringOp]⟩

theorem run_eqn_of {t : TypeId} {u v : Value} {r : Bool} (he : ∀ d, (Op.equalIn (d + 1) t u v).run P w = .ok r w)
    (h1 : binOp .eql t u v = (do pure (.bool (← Op.equal t u v)))) (h2 : binOp .neq t u v = (do pure (.bool (!(← Op.equal t u v))))) :
    (binOp .eql t u v).run P w = .ok (.bool r) w ∧ (binOp .neq t u v).run P w = .ok (.bool (!r)) w := by
  have he' : (Op.equal t u v).run P w = .ok r w := he 9999
  rw [h1, h2]
  simp only [Sem.run_bind, he', Result.andThen_ok, Sem.run_pure, and_self]
theorem nil_sound {op : BinOp} {t : TypeId} {x y : AV} {u v : Value} {r : Bool} (h : nilA P t x y = some r) (hx : Rep g w x u) (hy : Rep g w y v) (xo yo : Operand) :
    (eqGuard op t xo yo u v = pure ()) ∧ (binOp .eql t u v).run P w = .ok (.bool r) w ∧ (binOp .neq t u v).run P w = .ok (.bool (!r)) w := by
  cases hd : P.underlying t with
  | none => simp [nilA, hd] at h
  | some d =>
    unfold nilA at h
    rw [hd] at h
    split at h <;> (try cases h) <;> rename_i he <;> (try (cases he)) <;> cases hx <;> cases hy <;> (refine ⟨by cases op <;> rfl, run_eqn_of (fun d => ?_) rfl rfl⟩) <;>
      simp only [Op.equalIn, run_underlying hd, Sem.run_bind, Result.andThen_ok, Sem.run_pure, Option.isNone]

theorem bin_sound {id : BId} {o : Oper} {tm : Nat → AV} {h : Heap} {op : BinOp} {t t2 : TypeId} {x y : Operand} {K : AV → List (BId × Option Blk) → Prop} (ho : o.op = .binOp op t x y t2)
    (hw : binW P op t (evalA tm x) (evalA tm y) (fun v => K v [])) : WRop P id o tm h K := by
  unfold binW at hw
  split at hw
  · rename_i k a k' b hx hy
    obtain ⟨v, hK, hrun⟩ := int_sound (t := t) hw
    refine WRop_value (R := []) trivial hK fun g w act h hr hev hI => ?_
    have h1 := hev x; have h2 := hev y
    rw [hx] at h1; rw [hy] at h2
    refine ⟨v, ?_, .p _⟩
    simp only [execOp, ho, rep_p h1, rep_p h2, Sem.run_bind, eqGuard_at_int, Sem.run_pure, Result.andThen_ok, hrun]
  · rename_i a b hx hy
    obtain ⟨v, hK, hrun⟩ := str_sound (t := t) hw
    refine WRop_value (R := []) trivial hK fun g w act h hr hev hI => ?_
    have h1 := hev x; have h2 := hev y
    rw [hx] at h1; rw [hy] at h2
    refine ⟨v, ?_, .p _⟩
    simp only [execOp, ho, rep_p h1, rep_p h2, Sem.run_bind, eqGuard_at_string, Sem.run_pure, Result.andThen_ok, hrun]
  · split at hw
    · rename_i r hr0
      have key : ∀ (op' : BinOp) (z : Value), (op' = .eql ∧ z = .bool r ∨ op' = .neq ∧ z = .bool (!r)) → op = op' → K (.p z) [] → WRop P id o tm h K := by
        rintro op' z hz rfl hK
        refine WRop_value (R := []) trivial hK fun g w act h hr hev hI => ⟨z, ?_, .p _⟩
        obtain ⟨q1, q2, q3⟩ := nil_sound (op := op) hr0 (hev x) (hev y) x y
        rcases hz with ⟨rfl, rfl⟩ | ⟨rfl, rfl⟩
        · simp only [execOp, ho, q1, q2, Sem.run_bind, Sem.run_pure, Result.andThen_ok]
        · simp only [execOp, ho, q1, q3, Sem.run_bind, Sem.run_pure, Result.andThen_ok]
      cases op <;> first | exact hw.elim | exact key .eql _ (.inl ⟨rfl, rfl⟩) rfl hw | exact key .neq _ (.inr ⟨rfl, rfl⟩) rfl hw
    · exact hw.elim
end

def unW (op : UnOp) (x : AV) (K : AV → Prop) : Prop :=
  match op, x with
  | .not, .p (.bool b) => K (.p (.bool !b))
  | .neg, .p (.int k n) => K (.p (.int k (k.wrap (0 - n))))
  | .xor, .p (.int k n) => K (.p (.int k (k.wrap (BitVec.ofInt k.bits (if k.signed then -1 else k.max) ^^^ BitVec.ofInt k.bits n).toNat)))
  | _, _ => False
theorem un_sound {P : Program} {id : BId} {o : Oper} {tm : Nat → AV} {h : Heap} {op : UnOp} {t : TypeId} {x : Operand} {K : AV → List (BId × Option Blk) → Prop} (ho : o.op = .unOp op t x)
    (hw : unW op (evalA tm x) (fun v => K v [])) : WRop P id o tm h K := by
  unfold unW at hw
  split at hw <;> first | exact hw.elim | skip
  all_goals
    rename_i hx
    refine WRop_value (R := []) trivial hw fun g w act h hr hev hI => ⟨_, ?_, .p _⟩
    have h1 := hev x
    rw [hx] at h1
    simp [execOp, ho, rep_p h1, Op.unary, Op.intArith, Op.intBits]

/-! ### fields, elements, parts -/
def fieldW (P : Program) (t : TypeId) (x : AV) (k : Nat) (K : AV → Prop) : Prop :=
  match fdA P t k with
  | some off => match x with
    | .ptr b o => K (.ptr b (o + off))
    | .ep cs => K (.ep (cs.drop off))
    | _ => False
  | none => False
theorem Rep.ep_drop {g : Gh} {w : World} {cs : List AV} {a : Addr} (hr : Rep g w (.ep cs) (.pointer (some a))) (k : Nat) : Rep g w (.ep (cs.drop k)) (.pointer (some (a.add k))) := by
  cases hr with
  | ep _ _ us hi hl hc hh =>
    refine .ep _ _ (us.drop k) ?_ (by simp [hl]) (fun i u hu => ?_) (fun i x u hx hu => ?_)
    · rw [addr_add_block]
      rcases hi with hi | hi
      · exact .inl (by simp [hi])
      · exact .inr hi
    · rw [List.getElem?_drop] at hu
      rw [addr_add_add]; exact hc _ _ hu
    · rw [List.getElem?_drop] at hx hu
      exact hh _ _ _ hx hu
theorem run_fieldAt {P : Program} {w : World} {t : TypeId} {k off : Nat} (hf : fdA P t k = some off) (a : Addr) : (Instr.fieldAt t (.pointer (some a)) k).run P w = .ok (.pointer (some (a.add off))) w := by
  unfold fdA at hf
  split at hf
  · rename_i fs hu
    split at hf
    · rename_i f hfk
      split at hf
      · rename_i i hi
        split at hf
        · cases hf
        · rename_i hs
          cases hf
          simp [Instr.fieldAt, run_underlying hu, hfk, Instr.sureAddr, fieldPlace, sizeOf, typeInfo, hi, hs]
      · cases hf
    · cases hf
  · cases hf
theorem field_sound {P : Program} {id : BId} {o : Oper} {tm : Nat → AV} {h : Heap} {t : TypeId} {x : Operand} {k : Nat} {K : AV → List (BId × Option Blk) → Prop} (ho : o.op = .fieldAddr t x k)
    (hw : fieldW P t (evalA tm x) k (fun v => K v [])) : WRop P id o tm h K := by
  unfold fieldW at hw
  split at hw
  · rename_i off hf
    split at hw
    · rename_i b q hx
      refine WRop_value (R := []) trivial hw fun g w act h hr hev hI => ?_
      have h1 := hev x
      rw [hx] at h1
      obtain ⟨pb, ba, hp, he⟩ := h1.ptrv
      refine ⟨.pointer (some ⟨pb, ba + (q + off), none⟩), ?_, .ptr _ _ _ _ hp⟩
      simp only [execOp, ho, he, Sem.run_bind, run_fieldAt hf, Result.andThen_ok, Sem.run_pure, addr_add_none, Nat.add_assoc]
    · rename_i cs hx
      refine WRop_value (R := []) trivial hw fun g w act h hr hev hI => ?_
      have h1 := hev x
      rw [hx] at h1
      obtain ⟨a, he, _⟩ := h1.epc
      rw [he] at h1
      refine ⟨_, ?_, h1.ep_drop off⟩
      simp only [execOp, ho, he, Sem.run_bind, run_fieldAt hf, Result.andThen_ok, Sem.run_pure]
    · exact hw.elim
  · exact hw.elim

def indexW (P : Program) (t : TypeId) (x i : AV) (K : AV → Prop) : Prop :=
  match i with
  | .p (.int _ n) =>
    match elA P t with
    | some e => match szA P e with
      | some sz => match x with
        | .imm _ len cs => (0 ≤ n ∧ n < len) ∧ K (.ep (cs.drop (n.toNat * sz)))
        | .ref _ b off len _ => (0 ≤ n ∧ n < len) ∧ K (.ptr b (off + n.toNat * sz))
        | _ => False
      | none => False
    | none => match arA P t with
      | some (len, e) => match szA P e with
        | some sz => match x with
          | .ptr b off => (0 ≤ n ∧ n < len) ∧ K (.ptr b (off + n.toNat * sz))
          | .ep cs => (0 ≤ n ∧ n < len) ∧ K (.ep (cs.drop (n.toNat * sz)))
          | _ => False
        | none => False
      | none => False
  | _ => False
theorem Rep.imm_ep {g : Gh} {w : World} {f : Bool} {len : Nat} {cs : List AV} {v : Value} (hr : Rep g w (.imm f len cs) v) : ∃ a cap, v = .slice (some a) len cap ∧ len ≤ cap ∧ cap ≤ maxLen ∧ (f = true → cap = len) ∧ Rep g w (.ep cs) (.pointer (some a)) := by
  cases hr with
  | imm _ _ _ a cap us hi h1 h2 h3 hl hc hh => exact ⟨a, cap, rfl, h1, h2, h3, .ep _ _ us hi hl hc hh⟩
theorem Rep.refv {g : Gh} {w : World} {f : Bool} {b : BId} {off len sz : Nat} {v : Value} (hr : Rep g w (.ref f b off len sz) v) : ∃ pb ba o cap e m, v = .slice (some ⟨pb, o, none⟩) len cap ∧ g.φ b = some (pb, ba) ∧ w.shape? pb = some (e, m) ∧ (cap = 0 ∨ o = ba + off) ∧ len ≤ cap ∧ cap ≤ maxLen ∧ (f = true → cap = len) ∧ o + cap * sz ≤ m := by
  cases hr with
  | ref _ _ _ _ _ pb ba o cap e m hφ hs ho h1 h2 h3 hm => exact ⟨pb, ba, o, cap, e, m, rfl, hφ, hs, ho, h1, h2, h3, hm⟩
theorem index_sound {P : Program} {id : BId} {o : Oper} {tm : Nat → AV} {h : Heap} {t : TypeId} {x i : Operand} {K : AV → List (BId × Option Blk) → Prop} (ho : o.op = .indexAddr t x i)
    (hw : indexW P t (evalA tm x) (evalA tm i) (fun v => K v [])) : WRop P id o tm h K := by
  unfold indexW at hw
  split at hw
  case h_2 => exact hw.elim
  rename_i kk n hi
  split at hw
  · rename_i e he
    split at hw
    case h_2 => exact hw.elim
    rename_i sz hs
    have hu := und_of_el he
    split at hw
    · rename_i f len cs hx
      obtain ⟨⟨h0, h1⟩, hK⟩ := hw
      refine WRop_value (R := []) trivial hK fun g w act h hr hev hI => ?_
      have q1 := hev x; have q2 := hev i
      rw [hx] at q1; rw [hi] at q2
      obtain ⟨a, cap, ev, _, _, _, hep⟩ := q1.imm_ep
      refine ⟨_, ?_, hep.ep_drop (n.toNat * sz)⟩
      simp [execOp, ho, rep_p q2, ev, Instr.indexAt, asIntOf, run_underlying hu, h0, h1, run_sz hs]
    · rename_i f b off len sz' hx
      obtain ⟨⟨h0, h1⟩, hK⟩ := hw
      refine WRop_value (R := []) trivial hK fun g w act h hr hev hI => ?_
      have q1 := hev x; have q2 := hev i
      rw [hx] at q1; rw [hi] at q2
      obtain ⟨pb, ba, oo, cap, e', m, ev, hp, _, hoo, hle, _⟩ := q1.refv
      have : oo = ba + off := hoo.resolve_left (by omega)
      subst this
      refine ⟨_, ?_, .ptr _ _ pb ba hp⟩
      simp [execOp, ho, rep_p q2, ev, Instr.indexAt, asIntOf, run_underlying hu, h0, h1, run_sz hs, addr_add_none, Nat.add_assoc]
    · exact hw.elim
  · split at hw
    case h_2 => exact hw.elim
    rename_i len e he
    split at hw
    case h_2 => exact hw.elim
    rename_i sz hs
    have hu := und_of_ar he
    split at hw
    · rename_i b off hx
      obtain ⟨⟨h0, h1⟩, hK⟩ := hw
      refine WRop_value (R := []) trivial hK fun g w act h hr hev hI => ?_
      have q1 := hev x; have q2 := hev i
      rw [hx] at q1; rw [hi] at q2
      obtain ⟨pb, ba, hp, ev⟩ := q1.ptrv
      refine ⟨_, ?_, .ptr _ _ pb ba hp⟩
      simp [execOp, ho, rep_p q2, ev, Instr.indexAt, asIntOf, run_underlying hu, h0, h1, run_sz hs, addr_add_none, Instr.sureAddr, Nat.add_assoc]
    · rename_i cs hx
      obtain ⟨⟨h0, h1⟩, hK⟩ := hw
      refine WRop_value (R := []) trivial hK fun g w act h hr hev hI => ?_
      have q1 := hev x; have q2 := hev i
      rw [hx] at q1; rw [hi] at q2
      obtain ⟨a, ev, _⟩ := q1.epc
      rw [ev] at q1
      refine ⟨_, ?_, q1.ep_drop (n.toNat * sz)⟩
      simp [execOp, ho, rep_p q2, ev, Instr.indexAt, asIntOf, run_underlying hu, h0, h1, run_sz hs, Instr.sureAddr]
    · exact hw.elim
end Go.SX
