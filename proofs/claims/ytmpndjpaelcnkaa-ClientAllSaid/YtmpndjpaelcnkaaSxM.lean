/- Slices that may be nil (sq); appends that grow a slice of one's own or none; what is forgotten. -/
import Derived.Test.YtmpndjpaelcnkaaSxL
set_option linter.unusedVariables false
set_option linter.unusedSimpArgs false
namespace Go.SX
open Go

/-- A slice of values, nil or not. -/
def sq {α : Type} (e : α → List AV) : Option (List α) → AV
  | none => .p (.slice none 0 0)
  | some l => .imm false l.length (l.flatMap e)
def sqL {α : Type} : Option (List α) → List α
  | none => []
  | some l => l
theorem sqL_none {α : Type} : sqL (none : Option (List α)) = [] := nr rfl
theorem sqL_some {α : Type} (l : List α) : sqL (some l) = l := nr rfl
def bE (b : UInt8) : List AV := [u8A b]
def nE (n : Int) : List AV := [.p (.int .i64 n)]
theorem flatMap_bE (l : List UInt8) : l.flatMap bE = u8s l := by
  induction l with
  | nil => rfl
  | cons b l ih => simp [bE, u8s]; rw [ih]; rfl

theorem flatMap_len {α : Type} {e : α → List AV} {sz : Nat} (he : ∀ a, (e a).length = sz) (l : List α) : (l.flatMap e).length = l.length * sz := by
  induction l with
  | nil => simp
  | cons a l ih => simp [ih, he, Nat.succ_mul]; omega
theorem flatMap_drop {α : Type} {e : α → List AV} {sz : Nat} (he : ∀ a, (e a).length = sz) : ∀ (l : List α) (n : Nat), (l.flatMap e).drop (n * sz) = (l.drop n).flatMap e
  | [], n => by simp
  | a :: l, 0 => by simp
  | a :: l, n + 1 => by
    have hn : (n + 1) * sz = (e a).length + n * sz := by rw [he, Nat.succ_mul]; omega
    rw [List.flatMap_cons, hn, List.drop_append, List.drop_succ_cons, ← flatMap_drop he l n]
    simp
theorem flatMap_take {α : Type} {e : α → List AV} {sz : Nat} (he : ∀ a, (e a).length = sz) : ∀ (l : List α) (n : Nat), (l.flatMap e).take (n * sz) = (l.take n).flatMap e
  | [], n => by simp
  | a :: l, 0 => by simp
  | a :: l, n + 1 => by
    have hn : (n + 1) * sz = (e a).length + n * sz := by rw [he, Nat.succ_mul]; omega
    rw [List.flatMap_cons, hn, List.take_append, List.take_succ_cons, List.flatMap_cons, ← flatMap_take he l n, List.take_of_length_le (by omega)]
    simp
theorem flatMap_at {α : Type} {e : α → List AV} {sz : Nat} (he : ∀ a, (e a).length = sz) (l : List α) (n : Nat) (h : n < l.length) : (l.flatMap e).drop (n * sz) = e l[n] ++ (l.drop (n + 1)).flatMap e := by
  rw [flatMap_drop he, List.drop_eq_getElem_cons h, List.flatMap_cons]

section
variable {P : Program} {α : Type} {e : α → List AV}
theorem lenW_sq {t : TypeId} {o : Option (List α)} {h : Heap} {K : AV → Prop} : lenW P t (sq e o) h K = ((elA P t).isSome = true ∧ K (.p (.int .i64 (sqL o).length))) := by
  cases o <;> simp [lenW, sq, sqL]
theorem indexW_sq {t : TypeId} {o : Option (List α)} {k : IntKind} {n : Int} {K : AV → Prop} : indexW P t (sq e o) (.p (.int k n)) K =
    match elA P t with
    | some el => (match szA P el with
      | some sz => (0 ≤ n ∧ n < (sqL o).length) ∧ K (.ep (((sqL o).flatMap e).drop (n.toNat * sz)))
      | none => False)
    | none => False := by
  unfold indexW
  simp only
  cases hel : elA P t with
  | none =>
    simp only
    cases har : arA P t with
    | none => rfl
    | some q =>
      obtain ⟨len, el⟩ := q
      simp only
      cases szA P el with
      | none => rfl
      | some sz => cases o <;> rfl
  | some el =>
    simp only
    cases szA P el with
    | none => rfl
    | some sz =>
      cases o with
      | none =>
        simp only [sq, sqL, eq_iff_iff, false_iff]
        rintro ⟨⟨h1, h2⟩, _⟩
        simp at h2; omega
      | some l => rfl
theorem srcA_sq {t : TypeId} {o : Option (List α)} {h : Heap} : srcA P t (sq e o) h = if (elA P t).isSome then some ((sqL o).length, (sqL o).flatMap e) else none := by
  cases o <;> simp [srcA, sq, sqL]
theorem readsOf_sq {o : Option (List α)} {h : Heap} : readsOf (sq e o) h = [] := by
  cases o <;> simp [readsOf, sq]
theorem boxA_sq {o : Option (List α)} : boxA (sq e o) = some [sq e o] := by cases o <;> rfl
theorem one_sq {o : Option (List α)} : (sq e o).one = true := by cases o <;> rfl
theorem convW_sq {s d : TypeId} {o : Option (List UInt8)} {h : Heap} {K : AV → Prop} : convW P s d (sq bE o) h K =
    match elA P s, P.underlying d with
    | some el, some .string => kdA P el = some .u8 ∧ K (.p (.string ⟨(sqL o).toArray⟩))
    | _, _ => False := by
  cases o with
  | none => rfl
  | some l =>
    simp only [sq, sqL, flatMap_bE]
    unfold convW
    simp only [bytesA_u8s]
    cases elA P s with
    | none => rfl
    | some el =>
      cases P.underlying d with
      | none => rfl
      | some u => cases u <;> simp [u8s]
/-- x[lo:hi] of such a slice. -/
theorem sliceW_sq {t el : TypeId} {sz : Nat} {o : Option (List α)} {lo hi : Option AV} {K : AV → Prop} (l r : Nat) (he : elA P t = some el) (hs : szA P el = some sz) (hz : ∀ a, (e a).length = sz)
    (hlo : bndA 0 lo = some (l : Int)) (hhi : bndA (sqL o).length hi = some (r : Int)) (h1 : l ≤ r) (h2 : r ≤ (sqL o).length) (hK : K (sq e (o.map fun x => (x.drop l).take (r - l)))) : sliceW P t (sq e o) lo hi none K := by
  cases o with
  | none =>
    simp only [sqL, List.length_nil, Nat.le_zero] at h2
    subst h2
    have : l = 0 := by omega
    subst this
    simp only [sq, Option.map_none] at hK ⊢
    simp only [sqL, List.length_nil] at hhi
    unfold sliceW
    have h3 : bndA 0 hi = some 0 := hhi
    have h4 : bndA 0 lo = some 0 := hlo
    simp only [he, h3, h4, hs]
    exact ⟨by rw [hs]; rfl, ⟨rfl, rfl, rfl, by simp⟩, hK⟩
  | some x =>
    simp only [sqL] at h2 hhi
    simp only [sq, Option.map_some] at hK ⊢
    unfold sliceW
    simp only [he, hlo, hhi, hs]
    refine ⟨⟨by omega, by omega, by omega⟩, ?_⟩
    have e1 : ((r : Int) - (l : Int)).toNat = r - l := by omega
    have e2 : ((x.drop l).take (r - l)).length = r - l := by simp; omega
    rw [e1, Int.toNat_natCast, flatMap_drop hz, flatMap_take hz]
    rw [e2] at hK
    cases hi <;> exact hK
end

/-! ### the steps' functions, by the value's form -/
section
variable {P : Program} {t t2 s d el : TypeId} {h : Heap} {K : AV → Prop} {f f2 : Bool} {n m : Nat} {cs xs : List AV} {b b2 : BId} {off sz : Nat} {k k2 : IntKind} {x y : Int} {u w : ByteArray}
theorem lenW_str : lenW P t (.p (.string u)) h K = (P.underlying t = some .string ∧ K (.p (.int .i64 u.size))) := nr rfl
theorem lenW_nil : lenW P t (.p (.slice none 0 0)) h K = ((elA P t).isSome = true ∧ K (.p (.int .i64 0))) := by simp [lenW]
theorem lenW_imm : lenW P t (.imm f n cs) h K = ((elA P t).isSome = true ∧ K (.p (.int .i64 n))) := nr rfl
theorem lenW_ref : lenW P t (.ref f b off n sz) h K = ((elA P t).isSome = true ∧ K (.p (.int .i64 n))) := nr rfl
theorem indexW_imm : indexW P t (.imm f n cs) (.p (.int k x)) K =
    match elA P t with
    | some el => (match szA P el with
      | some sz => (0 ≤ x ∧ x < n) ∧ K (.ep (cs.drop (x.toNat * sz)))
      | none => False)
    | none => False := by
  unfold indexW
  simp only
  cases elA P t with
  | some el => rfl
  | none =>
    simp only
    cases arA P t with
    | none => rfl
    | some q => obtain ⟨len, el⟩ := q; simp only; cases szA P el <;> rfl
theorem indexW_ref : indexW P t (.ref f b off n sz) (.p (.int k x)) K =
    match elA P t with
    | some el => (match szA P el with
      | some sz => (0 ≤ x ∧ x < n) ∧ K (.ptr b (off + x.toNat * sz))
      | none => False)
    | none => False := by
  unfold indexW
  simp only
  cases elA P t with
  | some el => rfl
  | none =>
    simp only
    cases arA P t with
    | none => rfl
    | some q => obtain ⟨len, el⟩ := q; simp only; cases szA P el <;> rfl
theorem indexW_ptr : indexW P t (.ptr b off) (.p (.int k x)) K =
    match elA P t with
    | some _ => False
    | none => match arA P t with
      | some (len, e) => (match szA P e with
        | some sz => (0 ≤ x ∧ x < len) ∧ K (.ptr b (off + x.toNat * sz))
        | none => False)
      | none => False := by
  unfold indexW
  simp only
  cases elA P t with
  | some el => simp only; cases szA P el <;> rfl
  | none => rfl
theorem indexW_ep : indexW P t (.ep cs) (.p (.int k x)) K =
    match elA P t with
    | some _ => False
    | none => match arA P t with
      | some (len, e) => (match szA P e with
        | some sz => (0 ≤ x ∧ x < len) ∧ K (.ep (cs.drop (x.toNat * sz)))
        | none => False)
      | none => False := by
  unfold indexW
  simp only
  cases elA P t with
  | some el => simp only; cases szA P el <;> rfl
  | none => rfl
theorem sliceW_str {lo hi mx : Option AV} : sliceW P t (.p (.string u)) lo hi mx K = (match P.underlying t, bndA 0 lo, bndA u.size hi, mx with
    | some .string, some l, some h, none => (0 ≤ l ∧ l ≤ h ∧ h ≤ u.size) ∧ K (.p (.string (u.extract l.toNat h.toNat)))
    | _, _, _, _ => False) := nr rfl
theorem sliceW_nil {lo hi mx : Option AV} : sliceW P t (.p (.slice none 0 0)) lo hi mx K = (match elA P t, bndA 0 lo, bndA 0 hi, bndA 0 mx with
    | some e, some l, some h, some m => (szA P e).isSome = true ∧ (l = 0 ∧ h = 0 ∧ m = 0 ∧ (mx.isSome = true → hi.isSome = true)) ∧ K (.p (.slice none 0 0))
    | _, _, _, _ => False) := nr rfl
theorem sliceW_imm {lo hi mx : Option AV} : sliceW P t (.imm f n cs) lo hi mx K = (match elA P t, bndA 0 lo, bndA n hi with
    | some e, some l, some h => match szA P e with
      | some sz => (0 ≤ l ∧ l ≤ h ∧ h ≤ n) ∧ (match mx with
        | none => K (.imm (match hi with | none => f | some _ => false) (h - l).toNat ((cs.drop (l.toNat * sz)).take ((h - l).toNat * sz)))
        | some m => hi.isSome = true ∧ bndA 0 (some m) = some h ∧ K (.imm true (h - l).toNat ((cs.drop (l.toNat * sz)).take ((h - l).toNat * sz))))
      | none => False
    | _, _, _ => False) := nr rfl
theorem sliceW_ref {lo hi mx : Option AV} : sliceW P t (.ref f b off n sz) lo hi mx K = (match elA P t, bndA 0 lo, bndA n hi with
    | some e, some l, some h => match szA P e with
      | some sz2 => (sz2 = sz ∧ 0 ≤ l ∧ l ≤ h ∧ h ≤ n) ∧ (match mx with
        | none => K (.ref (match hi with | none => f | some _ => false) b (off + l.toNat * sz2) (h - l).toNat sz2)
        | some m => hi.isSome = true ∧ bndA 0 (some m) = some h ∧ K (.ref true b (off + l.toNat * sz2) (h - l).toNat sz2))
      | none => False
    | _, _, _ => False) := nr rfl
theorem convW_int : convW P s d (.p (.int k x)) h K = (match kdA P d with
    | some k => (P.underlying s).isSome = true ∧ K (.p (.int k (k.wrap x)))
    | none => False) := nr rfl
theorem convW_str : convW P s d (.p (.string u)) h K = (match P.underlying s, P.underlying d with
    | some .string, some .string => K (.p (.string u))
    | some .string, some (.slice e) => kdA P e = some .u8 ∧ u.size ≤ maxLen ∧ K (.imm false u.size (u8s u.data.toList))
    | _, _ => False) := nr rfl
theorem convW_nil : convW P s d (.p (.slice none 0 0)) h K = (match elA P s, P.underlying d with
    | some e, some .string => kdA P e = some .u8 ∧ K (.p (.string .empty))
    | _, _ => False) := nr rfl
theorem convW_imm : convW P s d (.imm f n cs) h K = (match elA P s, P.underlying d, bytesA cs with
    | some e, some .string, some l => (kdA P e = some .u8 ∧ cs.length = n) ∧ K (.p (.string ⟨l.toArray⟩))
    | _, _, _ => False) := nr rfl
theorem boxA_agg : boxA (.agg xs) = some xs := nr rfl
theorem boxA_p {v : Value} : boxA (.p v) = if v.oneCell' = true then some [.p v] else none := nr rfl
theorem boxA_imm : boxA (.imm f n cs) = some [.imm f n cs] := nr rfl
theorem boxA_ref : boxA (.ref f b off n sz) = some [.ref f b off n sz] := nr rfl
theorem boxA_ptr : boxA (.ptr b off) = some [.ptr b off] := nr rfl
theorem boxA_ep : boxA (.ep cs) = some [.ep cs] := nr rfl
theorem boxA_mp : boxA (.mp b) = some [.mp b] := nr rfl
theorem boxA_fn {q : FuncId} : boxA (.fn q cs) = some [.fn q cs] := nr rfl
theorem one_p {v : Value} : (AV.p v).one = v.oneCell' := nr rfl
theorem one_imm : (AV.imm f n cs).one = true := nr rfl
theorem one_ref : (AV.ref f b off n sz).one = true := nr rfl
theorem one_ptr : (AV.ptr b off).one = true := nr rfl
theorem one_ep : (AV.ep cs).one = true := nr rfl
theorem one_mp : (AV.mp b).one = true := nr rfl
theorem one_fn {q : FuncId} : (AV.fn q cs).one = true := nr rfl
theorem one_agg : (AV.agg xs).one = false := nr rfl
theorem oc_int : Value.oneCell' (.int k x) = true := nr rfl
theorem oc_bool {q : Bool} : Value.oneCell' (.bool q) = true := nr rfl
theorem oc_string : Value.oneCell' (.string u) = true := nr rfl
theorem oc_slice {q : Option Addr} {i j : Nat} : Value.oneCell' (.slice q i j) = true := nr rfl
theorem oc_pointer {q : Option Addr} : Value.oneCell' (.pointer q) = true := nr rfl
theorem oc_map {q : Option Nat} : Value.oneCell' (.map q) = true := nr rfl
theorem srcA_imm : srcA P t2 (.imm f n cs) h = if (elA P t2).isSome then some (n, cs) else none := nr rfl
theorem srcA_nil : srcA P t2 (.p (.slice none 0 0)) h = if (elA P t2).isSome then some (0, []) else none := nr rfl
theorem srcA_str : srcA P t2 (.p (.string u)) h = (match P.underlying t2 with | some .string => some (u.size, u8s u.data.toList) | _ => none) := nr rfl
theorem srcA_ref : srcA P t2 (.ref f b off n sz) h = if (elA P t2).isSome then (match h b with | some (.cells _ cs) => some (n, (cs.drop off).take (n * sz)) | _ => none) else none := nr rfl
theorem readsOf_imm : readsOf (.imm f n cs) h = [] := nr rfl
theorem readsOf_p {v : Value} : readsOf (.p v) h = [] := nr rfl
theorem readsOf_ref : readsOf (.ref f b off n sz) h = match h b with | some y => [(b, y)] | none => [] := nr rfl
variable {op : BinOp}
theorem binW_int : binW P op t (.p (.int k x)) (.p (.int k2 y)) K = intW op k x k2 y K := nr rfl
theorem binW_str : binW P op t (.p (.string u)) (.p (.string w)) K = strW op u w K := nr rfl
/-- What is held for equal. -/
def eqW (op : BinOp) (r : Option Bool) (K : AV → Prop) : Prop :=
  match r with
  | some r => match op with
    | .eql => K (.p (.bool r))
    | .neq => K (.p (.bool (!r)))
    | _ => False
  | none => False
theorem binW_bool {p q : Bool} : binW P op t (.p (.bool p)) (.p (.bool q)) K = eqW op (nilA P t (.p (.bool p)) (.p (.bool q))) K := nr rfl
theorem binW_nn {a c : Nat} : binW P op t (.p (.slice none n m)) (.p (.slice none a c)) K = eqW op (nilA P t (.p (.slice none n m)) (.p (.slice none a c))) K := nr rfl
theorem binW_in {a c : Nat} : binW P op t (.imm f n cs) (.p (.slice none a c)) K = eqW op (nilA P t (.imm f n cs) (.p (.slice none a c))) K := nr rfl
theorem binW_rn {a c : Nat} : binW P op t (.ref f b off n sz) (.p (.slice none a c)) K = eqW op (nilA P t (.ref f b off n sz) (.p (.slice none a c))) K := nr rfl
theorem binW_ni {a c : Nat} : binW P op t (.p (.slice none a c)) (.imm f n cs) K = eqW op (nilA P t (.p (.slice none a c)) (.imm f n cs)) K := nr rfl
theorem binW_pp : binW P op t (.p (.pointer none)) (.p (.pointer none)) K = eqW op (nilA P t (.p (.pointer none)) (.p (.pointer none))) K := nr rfl
theorem binW_pn : binW P op t (.ptr b off) (.p (.pointer none)) K = eqW op (nilA P t (.ptr b off) (.p (.pointer none))) K := nr rfl
theorem binW_np : binW P op t (.p (.pointer none)) (.ptr b off) K = eqW op (nilA P t (.p (.pointer none)) (.ptr b off)) K := nr rfl
theorem binW_mm : binW P op t (.p (.map none)) (.p (.map none)) K = eqW op (nilA P t (.p (.map none)) (.p (.map none))) K := nr rfl
theorem binW_mn : binW P op t (.mp b) (.p (.map none)) K = eqW op (nilA P t (.mp b) (.p (.map none))) K := nr rfl
theorem binW_sq {α : Type} {e : α → List AV} {o : Option (List α)} : binW P op t (sq e o) (.p (.slice none 0 0)) K = eqW op (match P.underlying t with | some (.slice _) => some o.isNone | _ => none) K := by
  cases o with
  | none =>
    show eqW op (nilA P t (.p (.slice none 0 0)) (.p (.slice none 0 0))) K = _
    unfold nilA
    cases P.underlying t with
    | none => rfl
    | some u => cases u <;> rfl
  | some l =>
    show eqW op (nilA P t (.imm false l.length (l.flatMap e)) (.p (.slice none 0 0))) K = _
    unfold nilA
    cases P.underlying t with
    | none => rfl
    | some u => cases u <;> rfl
end

/-! ### what follows an operation is not looked at before its turn -/
section
variable {P : Program}
theorem lenW_congr {t : TypeId} {x x' : AV} {h : Heap} {K : AV → Prop} (e : x = x') : lenW P t x h K = lenW P t x' h K := by rw [e]
theorem binW_congr {op : BinOp} {t : TypeId} {x x' y y' : AV} {K : AV → Prop} (e : x = x') (e2 : y = y') : binW P op t x y K = binW P op t x' y' K := by rw [e, e2]
theorem indexW_congr {t : TypeId} {x x' i i' : AV} {K : AV → Prop} (e : x = x') (e2 : i = i') : indexW P t x i K = indexW P t x' i' K := by rw [e, e2]
theorem sliceW_congr {t : TypeId} {x x' : AV} {lo lo' hi hi' mx mx' : Option AV} {K : AV → Prop} (e : x = x') (e1 : lo = lo') (e2 : hi = hi') (e3 : mx = mx') : sliceW P t x lo hi mx K = sliceW P t x' lo' hi' mx' K := by rw [e, e1, e2, e3]
theorem convW_congr {s d : TypeId} {x x' : AV} {h : Heap} {K : AV → Prop} (e : x = x') : convW P s d x h K = convW P s d x' h K := by rw [e]
attribute [congr] lenW_congr binW_congr indexW_congr sliceW_congr convW_congr
end

/-! ### a slice of one's own, or none, that grows -/
/-- x is nil and l is empty, or x is a slice of one's own that holds l. -/
def Own {α : Type} (enc : α → List AV) (e : TypeId) (sz : Nat) (h : Heap) (x : AV) (l : List α) : Prop :=
  (x = .p (.slice none 0 0) ∧ l = []) ∨ ∃ b, l ≠ [] ∧ x = .ref false b 0 l.length sz ∧ h b = some (.cells e (l.flatMap enc))
/-- nil, if there is nothing in it. -/
def ne {α : Type} (l : List α) : Option (List α) := if l.isEmpty then none else some l
theorem ne_nil {α : Type} : ne ([] : List α) = none := rfl
theorem ne_cons {α : Type} {l : List α} (h : l ≠ []) : ne l = some l := by unfold ne; simp [h]
theorem sqL_ne {α : Type} (l : List α) : sqL (ne l) = l := by cases l <;> rfl
def ownW : AV → List (BId × Option Blk)
  | .ref _ b _ _ _ => [(b, none)]
  | _ => []
section
variable {P : Program} {id : BId} {tm : Nat → AV} {h : Heap} {K : AV → List (BId × Option Blk) → Prop} {s x : Operand} {t t2 : TypeId} {α : Type} {enc : α → List AV}
theorem stop_append_grow (e : TypeId) (sz by_ : Nat) (zs : List AV) (l m : List α) (he : elA P t = some e) (hsz : szA P e = some sz) (hby : byA P e = some by_) (hz : zA P e = some zs) (hzl : zs.length = sz)
    (hel : ∀ a, (enc a).length = sz) (hone : ∀ a, (enc a).all AV.one = true) (hs : Own enc e sz h (evalA tm s) l) (hx : srcA P t2 (evalA tm x) h = some (m.length, m.flatMap enc))
    (hm0 : m ≠ []) (hb : (l.length + m.length) * by_ ≤ 140737488355328) (hm : l.length + m.length ≤ maxLen)
    (hk : K (.ref false id 0 (l ++ m).length sz) (ownW (evalA tm s) ++ [(id, some (.cells e ((l ++ m).flatMap enc)))])) :
    Stop P id (.call { callee := .builtin .append, args := #[s, x], argTypes := #[t, t2] }) tm h K := by
  have hm1 : 0 < m.length := List.length_pos_iff.2 hm0
  rw [List.length_append, List.flatMap_append] at hk
  rcases hs with ⟨hs, rfl⟩ | ⟨b, _, hs, hbk⟩
  · rw [hs] at hk
    refine stop_append_new e sz by_ 0 m.length [] (m.flatMap enc) zs he hsz hby hz hzl (by rw [hs]; rfl) (by simp) hx (flatMap_len hel m) hm1 (by simpa using hb) (by simpa using hm) ?_
    simpa [ownW] using hk
  · rw [hs] at hk
    refine stop_append_own e sz by_ l.length m.length 0 false b (l.flatMap enc) (m.flatMap enc) zs he hsz hby hz hzl hs hbk (by rw [flatMap_len hel]; omega) hx (flatMap_len hel m) ?_ hm1 hb hm ?_
    · simp only [List.all_eq_true, List.mem_flatMap]
      rintro y ⟨a, _, ha⟩
      exact List.all_eq_true.1 (hone a) y ha
    · simpa [ownW] using hk
end
section
variable {P : Program} {id : BId} {tm : Nat → AV} {h : Heap} {s x : Operand} {t t2 : TypeId} {α : Type} {enc : α → List AV}
theorem appA_ne {l : List α} : appA (.p (.slice none 0 0)) l.length (.imm false (0 + l.length) ([] ++ l.flatMap enc)) = sq enc (ne l) := by
  cases l with
  | nil => rfl
  | cons a l => rw [appA_pos (by simp), Nat.zero_add]; rfl
/-- append of a slice to nil: a copy. -/
theorem stop_append_nil {K : AV → List (BId × Option Blk) → Prop} (e : TypeId) (sz by_ : Nat) (o : Option (List α)) (he : elA P t = some e) (hsz : szA P e = some sz) (hby : byA P e = some by_) (hz : (zA P e).isSome = true) (hel : ∀ a, (enc a).length = sz)
    (hs : evalA tm s = .p (.slice none 0 0)) (hx : evalA tm x = sq enc o) (he2 : (elA P t2).isSome = true) (hb : (sqL o).length * by_ ≤ 140737488355328) (hm : (sqL o).length ≤ maxLen) (hk : K (sq enc (ne (sqL o))) []) :
    Stop P id (.call { callee := .builtin .append, args := #[s, x], argTypes := #[t, t2] }) tm h K := by
  refine stop_append_fix e sz by_ 0 (sqL o).length [] ((sqL o).flatMap enc) he hsz hby hz (by rw [hs]; rfl) (by simp) (by rw [hx, srcA_sq, if_pos he2]) (flatMap_len hel _) (by simpa using hb) (by simpa using hm) ?_
  rw [hs, appA_ne]; exact hk
theorem stopD_append_nil {K : AV → List BId → List (BId × Option Blk) → Prop} (e : TypeId) (sz by_ : Nat) (o : Option (List α)) (he : elA P t = some e) (hsz : szA P e = some sz) (hby : byA P e = some by_) (hz : (zA P e).isSome = true) (hel : ∀ a, (enc a).length = sz)
    (hs : evalA tm s = .p (.slice none 0 0)) (hx : evalA tm x = sq enc o) (he2 : (elA P t2).isSome = true) (hb : (sqL o).length * by_ ≤ 140737488355328) (hm : (sqL o).length ≤ maxLen) (hk : K (sq enc (ne (sqL o))) [] []) :
    StopD P id (.call { callee := .builtin .append, args := #[s, x], argTypes := #[t, t2] }) tm h K := by
  refine stopD_append_fix e sz by_ 0 (sqL o).length [] ((sqL o).flatMap enc) he hsz hby hz (by rw [hs]; rfl) (by simp) (by rw [hx, srcA_sq, if_pos he2]) (flatMap_len hel _) (by simpa using hb) (by simpa using hm) ?_
  rw [hs, appA_ne, hx, readsOf_sq]; exact hk
end
theorem upd_append (h : Heap) : ∀ (W V : List (BId × Option Blk)), upd h (W ++ V) = upd (upd h W) V
  | [], _ => rfl
  | (b, x) :: W, V => upd_append (hset h b x) W V
theorem own_far {α : Type} {enc : α → List AV} {e : TypeId} {sz : Nat} {h : Heap} {x : AV} {l : List α} (ho : Own enc e sz h x l) {b : BId} (hb : h b = none) : upd h (ownW x) b = none := by
  rcases ho with ⟨rfl, _⟩ | ⟨b', _, rfl, h2⟩
  · exact hb
  · simp only [ownW, upd, hset]
    split
    · rfl
    · exact hb
/-- What is known of a heap in which a slice of one's own is forgotten. -/
theorem own_keep {α : Type} {enc : α → List AV} {e : TypeId} {sz : Nat} {h h0 : Heap} {x : AV} {l : List α} (ho : Own enc e sz h x l) (hn : ∀ b f o n z, x = .ref f b o n z → h0 b = none) (hl : HLe h0 h) : HLe h0 (upd h (ownW x)) := by
  rcases ho with ⟨rfl, _⟩ | ⟨b', _, rfl, h2⟩
  · exact hl
  · simp only [ownW, upd]
    intro c y hc
    rw [hset_at]
    split
    · rename_i ec; rw [ec, hn _ _ _ _ _ rfl] at hc; cases hc
    · exact hl _ _ hc

theorem own_hset {α : Type} {enc : α → List AV} {e : TypeId} {sz : Nat} {h : Heap} {x : AV} {l : List α} (ho : Own enc e sz h x l) {c : BId} {y : Option Blk} (hc : h c = none) : Own enc e sz (hset h c y) x l := by
  rcases ho with ⟨h1, h2⟩ | ⟨b, h1, h2, h3⟩
  · exact .inl ⟨h1, h2⟩
  · refine .inr ⟨b, h1, h2, ?_⟩
    rw [hset_ne _ _ _ (by rintro rfl; rw [hc] at h3; cases h3)]; exact h3
theorem own_hset2 {α : Type} {enc : α → List AV} {e : TypeId} {sz : Nat} {h : Heap} {x : AV} {l : List α} (ho : Own enc e sz h x l) {c : BId} {y z : Option Blk} (hc : h c = none) : Own enc e sz (hset (hset h c y) c z) x l := by
  rcases ho with ⟨h1, h2⟩ | ⟨b, h1, h2, h3⟩
  · exact .inl ⟨h1, h2⟩
  · have hb : b ≠ c := by rintro rfl; rw [hc] at h3; cases h3
    exact .inr ⟨b, h1, h2, by rw [hset_ne _ _ _ hb, hset_ne _ _ _ hb]; exact h3⟩
theorem lenW_own {P : Program} {α : Type} {enc : α → List AV} {e t : TypeId} {sz : Nat} {h h' : Heap} {x : AV} {l : List α} {K : AV → Prop} (ho : Own enc e sz h x l) (he : (elA P t).isSome = true) (hK : K (.p (.int .i64 l.length))) : lenW P t x h' K := by
  rcases ho with ⟨rfl, rfl⟩ | ⟨b, _, rfl, _⟩
  · rw [lenW_nil]; exact ⟨he, hK⟩
  · rw [lenW_ref]; exact ⟨he, hK⟩
section
variable {P : Program} {n : Nat} {ns : BId} {Q : Exit → SSt → Prop} {c : Code}
/-- A slot's value, said otherwise. -/
theorem W_repT {tm : Nat → AV} {h : Heap} {t : Nat} (d : Nat) (y : AV) (hr : ∀ g w u, Rep g w (tm d) u → Rep g w y u) (hw : W P n ns c Q ⟨put tm d y, h, t⟩) : W P n ns c Q ⟨tm, h, t⟩ :=
  W_shift (st' := ⟨put tm d y, h, t⟩) (fun g w a hR => ⟨g, Ext.refl _ _, Loc.refl _ _, hR.size, fun x => by
      show Rep g w (put tm d y x) _
      simp only [put]
      split
      · rename_i e; subst e; exact hr g w _ (hR.tm x)
      · exact hR.tm x, hR.inv, hR.fr, hR.df⟩)
    (fun hf => hf) hw
/-- A cell's value, said otherwise. -/
theorem W_repH {tm : Nat → AV} {h : Heap} {t : Nat} (b : BId) (i : Nat) (x y : AV) {e : TypeId} {l : List AV} (hb : h b = some (.cells e l)) (hx : l[i]? = some x) (hr : ∀ g w u, Rep g w x u → Rep g w y u)
    (hw : W P n ns c Q ⟨tm, hset h b (some (.cells e (l.set i y))), t⟩) : W P n ns c Q ⟨tm, h, t⟩ :=
  W_shift (st' := ⟨tm, hset h b (some (.cells e (l.set i y))), t⟩) (fun g w a hR => ⟨g, Ext.refl _ _, Loc.refl _ _, hR.size, hR.tm, by
      have hI : Inv g w h := hR.inv
      show Inv g w (hset h b _)
      refine ⟨fun b' e' cs' hb' => ?_, fun b' es hb' => ?_, ?_, hI.lt⟩
      · by_cases hbc : b' = b
        · subst hbc
          rw [hset_same] at hb'
          cases hb'
          obtain ⟨pb, ba, pc, q1, q2, q3, q4, q5⟩ := hI.cells b' e l hb
          refine ⟨pb, ba, pc, q1, q2, q3, by simpa using q4, fun j z hj => ?_⟩
          by_cases hji : j = i
          · subst hji
            have hlt := (List.getElem?_eq_some_iff.1 hx).1
            rw [List.getElem?_set_self hlt] at hj
            cases hj
            obtain ⟨u, hu, hru⟩ := q5 j x hx
            exact ⟨u, hu, hr _ _ _ hru⟩
          · rw [List.getElem?_set_ne (Ne.symm hji)] at hj
            exact q5 j z hj
        · rw [hset_ne _ _ _ hbc] at hb'
          exact hI.cells b' e' cs' hb'
      · by_cases hbc : b' = b
        · subst hbc; rw [hset_same] at hb'; cases hb'
        · rw [hset_ne _ _ _ hbc] at hb'
          exact hI.map b' es hb'
      · have hs : ∀ b', (hset h b (some (.cells e (l.set i y))) b').isSome = true → (h b').isSome = true := by
          intro b' hb'
          by_cases hbc : b' = b
          · subst hbc; rw [hb]; rfl
          · rw [hset_ne _ _ _ hbc] at hb'; exact hb'
        intro b1 b2 q a1 a2 h1 h2 e1 e2
        exact hI.inj b1 b2 q a1 a2 (hs _ h1) (hs _ h2) e1 e2, hR.fr, hR.df⟩)
    (fun hf t' ht p => by
      simp only [hset]
      split
      · rename_i e1
        have h2 : h (p ++ t' :: ns) = none := hf t' ht p
        rw [e1, hb] at h2; cases h2
      · exact hf t' ht p) hw
/-- A slice of one's own (or none) stays as it is from now on. -/
theorem W_own {α : Type} {enc : α → List AV} {tm : Nat → AV} {h : Heap} {t : Nat} (d : Nat) {e : TypeId} {sz : Nat} {l : List α} (ho : Own enc e sz h (tm d) l) (hel : ∀ a, (enc a).length = sz)
    (hw : W P n ns c Q ⟨put tm d (sq enc (ne l)), upd h (ownW (tm d)), t⟩) : W P n ns c Q ⟨tm, h, t⟩ := by
  rcases ho with ⟨hs, rfl⟩ | ⟨b, hne, hs, hb⟩
  · rw [hs] at hw
    have e1 : put tm d (sq enc (ne [])) = tm := by
      funext x; simp only [put]; split
      · rename_i e; subst e; rw [hs]; rfl
      · rfl
    rw [e1] at hw
    exact hw
  · refine W_freeze d hs hb (by rw [flatMap_len hel]; omega) ?_
    rw [hs, ne_cons hne] at hw
    have e2 : ((l.flatMap enc).drop 0).take (l.length * sz) = l.flatMap enc := by
      rw [List.drop_zero, List.take_of_length_le (by rw [flatMap_len hel]; omega)]
    rw [e2]
    exact hw
end
theorem rep_unfull {g : Gh} {w : World} {f : Bool} {n : Nat} {cs : List AV} {u : Value} (h : Rep g w (.imm f n cs) u) : Rep g w (.imm false n cs) u := by
  cases h with
  | imm _ _ _ a cap us hi h1 h2 h3 hl hc hh => exact .imm _ _ _ _ _ us hi h1 h2 (fun e => by cases e) hl hc hh

attribute [go_sem] lenW_str lenW_nil lenW_imm lenW_ref indexW_imm indexW_ref indexW_ptr indexW_ep sliceW_str sliceW_nil sliceW_imm sliceW_ref convW_int convW_str convW_nil convW_imm
  boxA_agg boxA_p boxA_imm boxA_ref boxA_ptr boxA_ep boxA_mp boxA_fn one_p one_imm one_ref one_ptr one_ep one_mp one_fn one_agg oc_int oc_bool oc_string oc_slice oc_pointer oc_map srcA_imm srcA_nil srcA_str srcA_ref readsOf_imm readsOf_p readsOf_ref
  binW_int binW_str eqW binW_bool binW_nn binW_in binW_rn binW_ni binW_pp binW_pn binW_np binW_mm binW_mn binW_sq Option.isNone_none Option.isNone_some
attribute [go_sem] upd_append sqL_none sqL_some lenW_sq indexW_sq srcA_sq readsOf_sq boxA_sq one_sq convW_sq
end Go.SX
