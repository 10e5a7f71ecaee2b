/- A slice that begins as one without room behind it (or as none) and grows by appends. -/
import Derived.Test.YtmpndjpaelcnkaaSxM
set_option linter.unusedVariables false
set_option linter.unusedSimpArgs false
namespace Go.SX
open Go

/-- A slice without room behind it. -/
def fq {α : Type} (e : α → List AV) : Option (List α) → AV
  | none => .p (.slice none 0 0)
  | some l => .imm true l.length (l.flatMap e)
theorem fullA_fq {α : Type} (e : α → List AV) (o : Option (List α)) : fullA (fq e o) = some ((sqL o).length, (sqL o).flatMap e) := by cases o <;> rfl
theorem fullA_nil {α : Type} (e : α → List AV) : fullA (.p (.slice none 0 0)) = some (([] : List α).length, ([] : List α).flatMap e) := rfl

/-- x0 and what was appended to it. -/
def Grw {α : Type} (enc : α → List AV) (e : TypeId) (sz : Nat) (x0 : AV) (l0 : List α) (h : Heap) (x : AV) (m : List α) : Prop :=
  (x = x0 ∧ m = []) ∨ ∃ b, m ≠ [] ∧ x = .ref false b 0 (l0 ++ m).length sz ∧ h b = some (.cells e ((l0 ++ m).flatMap enc))
def grwV {α : Type} (enc : α → List AV) (x0 : AV) (l0 m : List α) : AV := if m.isEmpty then x0 else sq enc (some (l0 ++ m))
theorem grwV_nil {α : Type} (enc : α → List AV) (m : List α) : grwV enc (.p (.slice none 0 0)) [] m = sq enc (ne m) := by cases m <;> rfl
theorem grwV_ne {α : Type} (enc : α → List AV) (x0 : AV) (l0 m : List α) (h : m ≠ []) : grwV enc x0 l0 m = sq enc (some (l0 ++ m)) := by cases m <;> first | rfl | exact absurd rfl h
theorem fullA_ownW {x : AV} {q : Nat × List AV} (h : fullA x = some q) : ownW x = [] := by
  unfold fullA at h
  split at h <;> first | rfl | cases h

section
variable {P : Program} {id : BId} {tm : Nat → AV} {h : Heap} {s x : Operand} {t t2 : TypeId} {α : Type} {enc : α → List AV} {x0 : AV} {l0 : List α}
theorem stop_append_grw {K : AV → List (BId × Option Blk) → Prop} (e : TypeId) (sz by_ : Nat) (zs : List AV) (l m : List α) (he : elA P t = some e) (hsz : szA P e = some sz) (hby : byA P e = some by_) (hz : zA P e = some zs) (hzl : zs.length = sz)
    (hel : ∀ a, (enc a).length = sz) (hone : ∀ a, (enc a).all AV.one = true) (h0 : fullA x0 = some (l0.length, l0.flatMap enc)) (hs : Grw enc e sz x0 l0 h (evalA tm s) l) (hx : srcA P t2 (evalA tm x) h = some (m.length, m.flatMap enc))
    (hm0 : m ≠ []) (hb : (l0.length + l.length + m.length) * by_ ≤ 140737488355328) (hm : l0.length + l.length + m.length ≤ maxLen)
    (hk : K (.ref false id 0 (l0 ++ (l ++ m)).length sz) (ownW (evalA tm s) ++ [(id, some (.cells e ((l0 ++ (l ++ m)).flatMap enc)))])) :
    Stop P id (.call { callee := .builtin .append, args := #[s, x], argTypes := #[t, t2] }) tm h K := by
  have hm1 : 0 < m.length := List.length_pos_iff.2 hm0
  rcases hs with ⟨hs, rfl⟩ | ⟨b, _, hs, hbk⟩
  · rw [hs, fullA_ownW h0] at hk
    refine stop_append_new e sz by_ l0.length m.length (l0.flatMap enc) (m.flatMap enc) zs he hsz hby hz hzl (by rw [hs]; exact h0) (flatMap_len hel l0) hx (flatMap_len hel m) hm1 (by simpa using hb) (by simpa using hm) ?_
    simpa using hk
  · rw [hs] at hk
    refine stop_append_own e sz by_ (l0 ++ l).length m.length 0 false b ((l0 ++ l).flatMap enc) (m.flatMap enc) zs he hsz hby hz hzl hs hbk (by rw [flatMap_len hel]; omega) hx (flatMap_len hel m) ?_ hm1 (by simpa using hb) (by simpa using hm) ?_
    · simp only [List.all_eq_true, List.mem_flatMap]
      rintro y ⟨a, _, ha⟩
      exact List.all_eq_true.1 (hone a) y ha
    · simpa [ownW, Nat.add_assoc] using hk
/-- The names of what is read and forgotten. -/
def ownB : AV → List BId
  | .ref _ b _ _ _ => [b]
  | _ => []
theorem stopD_append_grw {K : AV → List BId → List (BId × Option Blk) → Prop} (e : TypeId) (sz by_ : Nat) (zs : List AV) (l m : List α) (he : elA P t = some e) (hsz : szA P e = some sz) (hby : byA P e = some by_) (hz : zA P e = some zs) (hzl : zs.length = sz)
    (hel : ∀ a, (enc a).length = sz) (hone : ∀ a, (enc a).all AV.one = true) (h0 : fullA x0 = some (l0.length, l0.flatMap enc)) (hs : Grw enc e sz x0 l0 h (evalA tm s) l) (hx : srcA P t2 (evalA tm x) h = some (m.length, m.flatMap enc)) (hrd : readsOf (evalA tm x) h = [])
    (hm0 : m ≠ []) (hb : (l0.length + l.length + m.length) * by_ ≤ 140737488355328) (hm : l0.length + l.length + m.length ≤ maxLen)
    (hk : K (.ref false id 0 (l0 ++ (l ++ m)).length sz) (ownB (evalA tm s)) (ownW (evalA tm s) ++ [(id, some (.cells e ((l0 ++ (l ++ m)).flatMap enc)))])) :
    StopD P id (.call { callee := .builtin .append, args := #[s, x], argTypes := #[t, t2] }) tm h K := by
  have hm1 : 0 < m.length := List.length_pos_iff.2 hm0
  rcases hs with ⟨hs, rfl⟩ | ⟨b, _, hs, hbk⟩
  · have hob : ownB x0 = [] := by
      unfold fullA at h0
      split at h0 <;> first | rfl | cases h0
    rw [hs, fullA_ownW h0, hob] at hk
    refine stopD_append_new e sz by_ l0.length m.length (l0.flatMap enc) (m.flatMap enc) zs he hsz hby hz hzl (by rw [hs]; exact h0) (flatMap_len hel l0) hx (flatMap_len hel m) hm1 (by simpa using hb) (by simpa using hm) ?_
    rw [hrd]
    simpa using hk
  · rw [hs] at hk
    refine stopD_append_own e sz by_ (l0 ++ l).length m.length 0 false b ((l0 ++ l).flatMap enc) (m.flatMap enc) zs he hsz hby hz hzl hs hbk (by rw [flatMap_len hel]; omega) hx (flatMap_len hel m) ?_ hm1 (by simpa using hb) (by simpa using hm) ?_
    · simp only [List.all_eq_true, List.mem_flatMap]
      rintro y ⟨a, _, ha⟩
      exact List.all_eq_true.1 (hone a) y ha
    · rw [hrd]
      simpa [ownW, ownB, Nat.add_assoc] using hk
end

theorem sq_none {α : Type} {enc : α → List AV} : sq enc none = .p (.slice none 0 0) := nr rfl
theorem ownW_p {v : Value} : ownW (.p v) = [] := nr rfl
theorem ownW_imm {f : Bool} {n : Nat} {cs : List AV} : ownW (.imm f n cs) = [] := nr rfl
theorem ownW_ref {f : Bool} {b : BId} {off n sz : Nat} : ownW (.ref f b off n sz) = [(b, none)] := nr rfl
theorem ownB_p {v : Value} : ownB (.p v) = [] := nr rfl
theorem ownB_imm {f : Bool} {n : Nat} {cs : List AV} : ownB (.imm f n cs) = [] := nr rfl
theorem ownB_ref {f : Bool} {b : BId} {off n sz : Nat} : ownB (.ref f b off n sz) = [b] := nr rfl
theorem boxA_fq {α : Type} {e : α → List AV} {o : Option (List α)} : boxA (fq e o) = some [fq e o] := by cases o <;> rfl
theorem one_fq {α : Type} {e : α → List AV} {o : Option (List α)} : (fq e o).one = true := by cases o <;> rfl
theorem ownW_fq {α : Type} {e : α → List AV} {o : Option (List α)} : ownW (fq e o) = [] := by cases o <;> rfl
theorem ownB_fq {α : Type} {e : α → List AV} {o : Option (List α)} : ownB (fq e o) = [] := by cases o <;> rfl
attribute [go_sem] boxA_fq one_fq ownW_fq ownB_fq
attribute [go_sem] ownW_p ownW_imm ownW_ref ownB_p ownB_imm ownB_ref
theorem hset_self {h : Heap} {b : BId} {x : Blk} (e : h b = some x) : hset h b (some x) = h := by
  funext y; simp only [hset]; split
  · rename_i q; rw [q, e]
  · rfl
section
variable {P : Program} {n : Nat} {ns : BId} {Q : Exit → SSt → Prop} {c : Code} {α : Type} {enc : α → List AV} {x0 : AV} {l0 : List α}
/-- A cell's slice grows no more. -/
theorem W_grwH {tm : Nat → AV} {h : Heap} {t : Nat} (B : BId) (i : Nat) {e0 e : TypeId} {sz : Nat} {cs : List AV} {x : AV} {m : List α} (hB : h B = some (.cells e0 cs)) (hx : cs[i]? = some x) (ho : Grw enc e sz x0 l0 h x m) (h0 : ownW x0 = []) (hne : ∀ f b p n z, x = .ref f b p n z → b ≠ B) (hel : ∀ a, (enc a).length = sz)
    (hw : W P n ns c Q ⟨tm, hset (upd h (ownW x)) B (some (.cells e0 (cs.set i (grwV enc x0 l0 m)))), t⟩) : W P n ns c Q ⟨tm, h, t⟩ := by
  rcases ho with ⟨rfl, rfl⟩ | ⟨b, hm, rfl, hb⟩
  · rw [h0] at hw
    have e1 : cs.set i (grwV enc x l0 []) = cs := by
      apply List.ext_getElem?
      intro j
      by_cases hj : j = i
      · subst hj
        rw [List.getElem?_set_self (List.getElem?_eq_some_iff.1 hx).1, hx]; rfl
      · rw [List.getElem?_set_ne (Ne.symm hj)]
    rw [e1, upd_nil, hset_self hB] at hw
    exact hw
  · refine W_freezeH B i hB hx hb (fun q => hne _ _ _ _ _ rfl q.symm) (by rw [flatMap_len hel]; omega) ?_
    rw [List.drop_zero, List.take_of_length_le (by rw [flatMap_len hel]; omega)]
    rw [grwV_ne _ _ _ _ hm] at hw
    exact hw
/-- A slot's slice grows no more. -/
theorem W_grw {tm : Nat → AV} {h : Heap} {t : Nat} (d : Nat) {e : TypeId} {sz : Nat} {m : List α} (ho : Grw enc e sz x0 l0 h (tm d) m) (h0 : ownW x0 = []) (hel : ∀ a, (enc a).length = sz)
    (hw : W P n ns c Q ⟨put tm d (grwV enc x0 l0 m), upd h (ownW (tm d)), t⟩) : W P n ns c Q ⟨tm, h, t⟩ := by
  rcases ho with ⟨hs, rfl⟩ | ⟨b, hm, hs, hb⟩
  · rw [hs, h0] at hw
    have e1 : put tm d (grwV enc x0 l0 []) = tm := by
      funext x; simp only [put]; split
      · rename_i e; subst e; rw [hs]; rfl
      · rfl
    rw [e1] at hw
    exact hw
  · refine W_freeze d hs hb (by rw [flatMap_len hel]; omega) ?_
    rw [List.drop_zero, List.take_of_length_le (by rw [flatMap_len hel]; omega)]
    rw [hs, grwV_ne _ _ _ _ hm] at hw
    exact hw
end
theorem grw_hset {α : Type} {enc : α → List AV} {e : TypeId} {sz : Nat} {x0 : AV} {l0 : List α} {h : Heap} {x : AV} {m : List α} (ho : Grw enc e sz x0 l0 h x m) {c : BId} {y : Option Blk} (hc : ∀ f b p n z, x = .ref f b p n z → b ≠ c) : Grw enc e sz x0 l0 (hset h c y) x m := by
  rcases ho with h1 | ⟨b, h1, h2, h3⟩
  · exact .inl h1
  · exact .inr ⟨b, h1, h2, by rw [hset_ne _ _ _ (hc _ _ _ _ _ h2)]; exact h3⟩
theorem grw_far {α : Type} {enc : α → List AV} {e : TypeId} {sz : Nat} {x0 : AV} {l0 : List α} {h h' : Heap} {x : AV} {m : List α} (ho : Grw enc e sz x0 l0 h x m) (hh : ∀ b, h b ≠ none → h' b = h b) : Grw enc e sz x0 l0 h' x m := by
  rcases ho with h1 | ⟨b, h1, h2, h3⟩
  · exact .inl h1
  · exact .inr ⟨b, h1, h2, by rw [hh b (by rw [h3]; simp)]; exact h3⟩
theorem far_refl (h : Heap) : ∀ b, h b ≠ none → h b = h b := fun _ _ => rfl
theorem far_hset {h h' : Heap} {c : BId} {y : Option Blk} (hh : ∀ b, h b ≠ none → h' b = h b) (hc : h c = none) : ∀ b, h b ≠ none → hset h' c y b = h b := fun b hb => by
  rw [hset_ne _ _ _ (by rintro rfl; exact hb hc)]; exact hh b hb
theorem hle_set1 {h H : Heap} {b : BId} {X : Blk} (h1 : H b = some X) (h2 : ∀ c, c ≠ b → h c ≠ none → H c = h c) : HLe (hset h b (some X)) H := fun c y hc => by
  rw [hset_at] at hc
  split at hc
  · rename_i e; subst e; rw [h1]; exact hc
  · rename_i e; rw [h2 c e (by rw [hc]; simp)]; exact hc
/-- What is known of a heap in which a slice is forgotten. -/
theorem hle_ownW {h h0 : Heap} {x : AV} (hn : ∀ f b p n z, x = .ref f b p n z → h0 b = none) (hl : HLe h0 h) : HLe h0 (upd h (ownW x)) := by
  cases x <;> try exact hl
  rename_i f b p n z
  simp only [ownW, upd]
  intro c y hc
  rw [hset_at]
  split
  · rename_i ec; rw [ec, hn _ _ _ _ _ rfl] at hc; cases hc
  · exact hl _ _ hc
theorem upd_ownW_ne {h : Heap} {x : AV} {c : BId} (hn : ∀ f b p n z, x = .ref f b p n z → b ≠ c) : upd h (ownW x) c = h c := by
  cases x <;> try rfl
  rename_i f b p n z
  simp only [ownW, upd]
  rw [hset_ne _ _ _ (Ne.symm (hn _ _ _ _ _ rfl))]
/-- x[:0:0] -/
theorem sliceW_zero {P : Program} {t el : TypeId} {sz : Nat} {α : Type} {e : α → List AV} {o : Option (List α)} {k k2 : IntKind} {K : AV → Prop} (he : elA P t = some el) (hs : szA P el = some sz) (hK : K (fq e (o.map fun _ => []))) :
    sliceW P t (sq e o) none (some (.p (.int k 0))) (some (.p (.int k2 0))) K := by
  cases o with
  | none =>
    rw [sq_none, sliceW_nil]
    simp only [he, bndA, hs]
    exact ⟨rfl, ⟨trivial, trivial, trivial, fun _ => rfl⟩, hK⟩
  | some l =>
    show sliceW P t (.imm false l.length (l.flatMap e)) _ _ _ K
    rw [sliceW_imm]
    simp only [he, bndA, hs]
    refine ⟨⟨by omega, by omega, by omega⟩, rfl, trivial, ?_⟩
    simpa [fq] using hK
theorem rep_fq {α : Type} {e : α → List AV} {o : Option (List α)} {g : Gh} {w : World} {u : Value} (h : Rep g w (fq e o) u) : Rep g w (sq e o) u := by
  cases o with
  | none => exact h
  | some l => exact rep_unfull h
end Go.SX
