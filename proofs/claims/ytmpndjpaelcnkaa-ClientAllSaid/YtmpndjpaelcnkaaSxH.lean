/- append. -/
import Derived.Test.YtmpndjpaelcnkaaSxG
set_option linter.unusedVariables false
set_option linter.unusedSimpArgs false
namespace Go.SX
open Go

/-- What is appended: in memory. -/
structure Src (P : Program) (w : World) (t2 : TypeId) (sz m : Nat) (u : Value) (news : List Value) : Prop where
  ty : (∃ e', P.underlying t2 = some (.slice e')) ∨ P.underlying t2 = some .string
  len : ∀ w', (Builtin.lenOf u).run P w' = .ok m w'
  cells : ∀ w', w'.heap = w.heap → (Builtin.firstCells sz m u).run P w' = .ok news.toArray w'
  nl : news.length = m * sz

section
variable {P : Program} {w : World}

theorem cell_heap {w w' : World} (h : w'.heap = w.heap) (a : Addr) : w'.cell? a = w.cell? a := by unfold World.cell?; rw [h]

theorem run_app_grow {t t2 ty e : TypeId} {i : TypeInfo} {z : Value} {m sLen sCap : Nat} {base : Option Addr} {u : Value} {olds news : List Value} (he : elA P t = some e) (hi : P.info? e = some i) (hz : i.zero = some z)
    (hs : Src P w t2 i.size m u news) (hold : ∀ w', w'.heap = w.heap → (Builtin.firstCells i.size sLen (.slice base sLen sCap)).run P w' = .ok olds.toArray w')
    (hg : sCap < sLen + m) (h63 : sLen + m ≤ maxLen) (hb : (sLen + m) * i.bytes ≤ 140737488355328) :
    (Builtin.append_ #[t, t2] ty #[.slice base sLen sCap, u]).run P w =
      .ok (.slice (some ⟨w.heap.size, 0, none⟩) (sLen + m) (grownCap w (sLen + m) sCap e)) (w.drew.alloc (.cells (olds.toArray ++ news.toArray ++ Builtin.zeroCells z.cells (grownCap w (sLen + m) sCap e - (sLen + m))) e)) := by
  have hn : ¬ (sLen + m ≤ sCap) := by omega
  have h63' : ¬ (9223372036854775807 < ((sLen : Int) + (m : Int))) := by unfold maxLen at h63; omega
  have hfit := growslice_fits (need := sLen + m) (old := sCap) (bytes := i.bytes) (by omega) hb
  have h48' : ¬ (281474976710656 < Builtin.nextslicecap (sLen + m) sCap * i.bytes) := by omega
  have hf := hs.cells w.drew rfl
  have hfo := hold w.drew rfl
  have hl := hs.len w
  have ht := und_of_el he
  rcases hs.ty with ⟨e', hd⟩ | hd
  all_goals
    simp [Builtin.append_, run_underlying ht, run_underlying hd, sizeOf, typeInfo, zeroValue, hi, hz, hl, hn, h63', h48', Question.forced, hf, hfo, newRow, grownCap]
    try (congr 2; apply Array.ext'; simp [List.append_assoc])

theorem run_app_room {t t2 ty e : TypeId} {i : TypeInfo} {m sLen sCap : Nat} {a : Addr} {u : Value} {news : List Value} (he : elA P t = some e) (hi : P.info? e = some i)
    (hs : Src P w t2 i.size m u news) (hg : sLen + m ≤ sCap) {w' : World} (hst : (storeCells (a.add (sLen * i.size)) news).run P w = .ok () w') :
    (Builtin.append_ #[t, t2] ty #[.slice (some a) sLen sCap, u]).run P w = .ok (.slice (some a) (sLen + m) sCap) w' := by
  have hf := hs.cells w rfl
  have hl := hs.len w
  have ht := und_of_el he
  rcases hs.ty with ⟨e', hd⟩ | hd <;> simp [Builtin.append_, run_underlying ht, run_underlying hd, sizeOf, typeInfo, hi, hl, hg, hf, hst]

theorem run_app_nil {t t2 ty e : TypeId} {i : TypeInfo} {u : Value} {news : List Value} (he : elA P t = some e) (hi : P.info? e = some i)
    (hs : Src P w t2 i.size 0 u news) : (Builtin.append_ #[t, t2] ty #[.slice none 0 0, u]).run P w = .ok (.slice none 0 0) w := by
  have hf := hs.cells w rfl
  have hl := hs.len w
  have ht := und_of_el he
  rcases hs.ty with ⟨e', hd⟩ | hd <;> simp [Builtin.append_, run_underlying ht, run_underlying hd, sizeOf, typeInfo, hi, hl, hf]
end

/-- What is appended: how many, which cells, of which block. -/
def srcA (P : Program) (t2 : TypeId) (x : AV) (h : Heap) : Option (Nat × List AV) :=
  match x with
  | .imm _ m ys => if (elA P t2).isSome then some (m, ys) else none
  | .p (.slice none 0 0) => if (elA P t2).isSome then some (0, []) else none
  | .p (.string s) => match P.underlying t2 with | some .string => some (s.size, u8s s.data.toList) | _ => none
  | .ref _ b off m sz => if (elA P t2).isSome then (match h b with | some (.cells _ cs) => some (m, (cs.drop off).take (m * sz)) | _ => none) else none
  | _ => none
def readsOf (x : AV) (h : Heap) : List (BId × Blk) :=
  match x with
  | .ref _ b _ _ _ => match h b with | some y => [(b, y)] | none => []
  | _ => []
theorem reads_of (x : AV) (h : Heap) : Reads h (readsOf x h) := by
  unfold readsOf
  split
  · split
    · rename_i hb; exact ⟨hb, trivial⟩
    · trivial
  · trivial

theorem src_sound {P : Program} {t2 : TypeId} {x : AV} {h h2 : Heap} {sz m : Nat} {ys : List AV} (hsrc : srcA P t2 x h = some (m, ys)) (hyl : ys.length = m * sz) {g : Gh} {w : World} {u : Value} (hr : Reads h2 (readsOf x h)) (hI : Inv g w h2) (hx : Rep g w x u) :
    ∃ news, Src P w t2 sz m u news ∧ ∀ (i : Nat) (y : AV), ys[i]? = some y → ∃ v : Value, news[i]? = some v ∧ Rep g w y v := by
  unfold srcA at hsrc
  split at hsrc
  · rename_i f m' ys'
    split at hsrc
    case isFalse => cases hsrc
    rename_i he
    cases hsrc
    obtain ⟨e, he⟩ := Option.isSome_iff_exists.1 he
    cases hx with
    | imm _ _ _ a cap us hi k1 k2 k3 hl hc hh =>
      refine ⟨us, ⟨.inl ⟨_, und_of_el he⟩, fun w' => rfl, fun w' hw' => ?_, by rw [hl, hyl]⟩, fun i y hy => ?_⟩
      · exact run_firstCells_some w' sz m a m cap us (by rw [hl, hyl]) (fun j v hj => by rw [cell_heap hw']; exact hc j v hj)
      · have : i < us.length := by rw [hl]; exact (List.getElem?_eq_some_iff.1 hy).1
        exact ⟨us[i], by simp [this], hh i y _ hy (by simp [this])⟩
  · split at hsrc
    case isFalse => cases hsrc
    rename_i he
    cases hsrc
    obtain ⟨e, he⟩ := Option.isSome_iff_exists.1 he
    rw [rep_p hx]
    exact ⟨[], ⟨.inl ⟨_, und_of_el he⟩, fun w' => rfl, fun w' hw' => run_firstCells_none w' sz 0 0 0, by simp⟩, by simp⟩
  · rename_i s
    split at hsrc
    · rename_i hu
      cases hsrc
      rw [rep_p hx]
      refine ⟨s.data.toList.map (fun b => Value.int .u8 (b.toNat : Int)), ⟨.inr hu, fun w' => rfl, fun w' hw' => ?_, by rw [← hyl]; simp [u8s]⟩, fun i y hy => ?_⟩
      · have he : (s.extract 0 s.size) = s := by
          apply bytes_ext
          simp [ByteArray.data_extract]
        simp only [Builtin.firstCells, he, Sem.run_pure]
        congr 1
        apply Array.ext'
        simp
      · simp only [u8s, List.getElem?_map] at hy ⊢
        obtain ⟨b, hb, rfl⟩ := Option.map_eq_some_iff.1 hy
        exact ⟨_, by rw [hb]; rfl, .p _⟩
    · cases hsrc
  · rename_i f b off m' sz'
    split at hsrc
    case isFalse => cases hsrc
    rename_i he
    split at hsrc
    · rename_i e' cs hb
      cases hsrc
      obtain ⟨e, he⟩ := Option.isSome_iff_exists.1 he
      simp only [readsOf, hb] at hr
      obtain ⟨pb, ba, oo, cap, e2, mm, ev, hp, hsh, hoo, k1, k2, k3, k4⟩ := hx.refv
      subst ev
      obtain ⟨us, hul, hus⟩ := choose_list (p := fun i (u : Value) => w.cell? ((⟨pb, ba + off, none⟩ : Addr).add i) = some u ∧ ∀ y, ((cs.drop off).take (m * sz'))[i]? = some y → Rep g w y u) (m * sz) (fun i hi => by
        have hlt : i < ((cs.drop off).take (m * sz')).length := by rw [hyl]; exact hi
        have hget : ((cs.drop off).take (m * sz'))[i]? = (cs.drop off)[i]? := by
          rw [List.getElem?_take]
          rw [List.length_take] at hlt
          rw [if_pos (by omega)]
        have hlt2 : i < (cs.drop off).length := by rw [List.length_take] at hlt; omega
        obtain ⟨u, hu, hru⟩ := hI.cell hr.1 hp off i (cs.drop off)[i] (List.getElem?_eq_getElem hlt2)
        refine ⟨u, hu, fun y hy => ?_⟩
        rw [hget, List.getElem?_eq_getElem hlt2] at hy
        cases hy; exact hru)
      refine ⟨us, ⟨.inl ⟨_, und_of_el he⟩, fun w' => rfl, fun w' hw' => ?_, hul⟩, fun i y hy => ?_⟩
      · by_cases hc0 : cap = 0
        · have hm0 : m = 0 := by omega
          subst hm0
          have : us = [] := List.eq_nil_of_length_eq_zero (by simpa using hul)
          subst this
          exact run_firstCells_some w' sz 0 _ 0 cap [] (by simp) (by simp)
        · have : oo = ba + off := hoo.resolve_left hc0
          subst this
          exact run_firstCells_some w' sz m _ m cap us hul (fun j v hj => by rw [cell_heap hw']; exact (hus j v hj).1)
      · have hi : i < us.length := by rw [hul, ← hyl]; exact (List.getElem?_eq_some_iff.1 hy).1
        exact ⟨us[i], by simp [hi], (hus i us[i] (by simp [hi])).2 y hy⟩
    · cases hsrc
  · cases hsrc

theorem size_zeroCells' (z : Array Value) (n : Nat) : (Builtin.zeroCells z n).size = n * z.size := by simp [Builtin.zeroCells]

section
variable {P : Program} {id : BId} {o : Oper} {tm : Nat → AV} {h : Heap} {K : AV → List (BId × Option Blk) → Prop}

/-- The slice that is appended to, where an append makes a new block (or nothing is appended). -/
def fullA : AV → Option (Nat × List AV)
  | .p (.slice none 0 0) => some (0, [])
  | .imm true n cs => some (n, cs)
  | _ => none
theorem full_rep {g : Gh} {w : World} {x : AV} {u : Value} {n sz : Nat} {cs : List AV} (hf : fullA x = some (n, cs)) (hr : Rep g w x u) (hl : cs.length = n * sz) :
    ∃ (base : Option Addr) (olds : List Value), u = .slice base n n ∧ olds.length = n * sz ∧ (base = none ↔ x = .p (.slice none 0 0)) ∧ n ≤ maxLen ∧ (∀ w', w'.heap = w.heap → (Builtin.firstCells sz n u).run P w' = .ok olds.toArray w') ∧
      ∀ (i : Nat) (y : AV), cs[i]? = some y → ∃ v : Value, olds[i]? = some v ∧ Rep g w y v := by
  unfold fullA at hf
  split at hf
  · cases hf
    rw [rep_p hr]
    exact ⟨none, [], rfl, by simp, by simp, by simp [maxLen], fun w' _ => run_firstCells_none w' sz 0 0 0, by simp⟩
  · cases hf
    cases hr with
    | imm _ _ _ a cap us hi k1 k2 k3 hl' hc hh =>
      have := k3 rfl
      subst this
      refine ⟨some a, us, rfl, by rw [hl', hl], by simp, k2, fun w' hw' => ?_, fun i y hy => ?_⟩
      · exact run_firstCells_some w' sz _ a _ _ us (by rw [hl', hl]) (fun j v hj => by rw [cell_heap hw']; exact hc j v hj)
      · have hi' : i < us.length := by rw [hl']; exact (List.getElem?_eq_some_iff.1 hy).1
        exact ⟨us[i], by simp [hi'], hh i y _ hy (by simp [hi'])⟩
  · cases hf

theorem exec_append {s x : Operand} {t t2 : TypeId} (ho : o.op = .call { callee := .builtin .append, args := #[s, x], argTypes := #[t, t2] }) (a : Act) :
    execOp a.eval o = (do pure (.value (← Builtin.append_ #[t, t2] o.type #[a.eval s, a.eval x]))) := by
  simp [execOp, ho, resolve, invoke, builtin]

theorem reps_append {g : Gh} {w : World} {cs ys : List AV} {olds news rest : List Value} (ho : olds.length = cs.length) (h1 : ∀ (i : Nat) (y : AV), cs[i]? = some y → ∃ v : Value, olds[i]? = some v ∧ Rep g w y v)
    (h2 : ∀ (i : Nat) (y : AV), ys[i]? = some y → ∃ v : Value, news[i]? = some v ∧ Rep g w y v) : ∀ (i : Nat) (y : AV), (cs ++ ys)[i]? = some y → ∃ v : Value, (olds ++ (news ++ rest))[i]? = some v ∧ Rep g w y v := by
  intro i y hy
  by_cases hi : i < cs.length
  · rw [List.getElem?_append_left hi] at hy
    obtain ⟨v, hv, hr⟩ := h1 i y hy
    exact ⟨v, by rw [List.getElem?_append_left (by omega)]; exact hv, hr⟩
  · rw [List.getElem?_append_right (by omega)] at hy
    obtain ⟨v, hv, hr⟩ := h2 _ y hy
    refine ⟨v, ?_, hr⟩
    rw [List.getElem?_append_right (by omega), ho, List.getElem?_append_left (List.getElem?_eq_some_iff.1 hv).1]
    exact hv

/-- Nothing appended to nothing is nil. -/
def appA (s : AV) (m : Nat) (r : AV) : AV :=
  match s, m with
  | .p (.slice none 0 0), 0 => .p (.slice none 0 0)
  | _, _ => r
theorem appA_pos {s : AV} {m : Nat} {r : AV} (h : m ≠ 0) : appA s m r = r := by
  unfold appA
  split
  · exact absurd rfl h
  · rfl
/-- append whose outcome stays as it is. -/
theorem append_fix {s x : Operand} {t t2 e : TypeId} {sz by_ n m : Nat} {cs ys : List AV} (ho : o.op = .call { callee := .builtin .append, args := #[s, x], argTypes := #[t, t2] })
    (he : elA P t = some e) (hsz : szA P e = some sz) (hby : byA P e = some by_) (hz : (zA P e).isSome = true) (hs : fullA (evalA tm s) = some (n, cs)) (hcl : cs.length = n * sz) (hx : srcA P t2 (evalA tm x) h = some (m, ys)) (hyl : ys.length = m * sz)
    (hb : (n + m) * by_ ≤ 140737488355328) (hm : n + m ≤ maxLen) : OpF P id o (evalA tm) (readsOf (evalA tm x) h) (appA (evalA tm s) m (.imm false (n + m) (cs ++ ys))) [] := by
  refine ⟨by simp, fun h2 hr g w a next Q hev hI hf hn => ?_⟩
  obtain ⟨i, hi, rfl⟩ := Option.map_eq_some_iff.1 hsz
  obtain ⟨i', hi', rfl⟩ := Option.map_eq_some_iff.1 hby
  rw [hi] at hi'; cases hi'
  obtain ⟨zs, hzs⟩ := Option.isSome_iff_exists.1 hz
  obtain ⟨i', z, hi', hz', rfl⟩ := zA_some hzs
  rw [hi] at hi'; cases hi'
  obtain ⟨news, hsrc, hnews⟩ := src_sound hx hyl hr hI (hev x)
  obtain ⟨base, olds, es, hol, hbase, hnm, hold, holds⟩ := full_rep (P := P) hs (hev s) hcl
  unfold Oper.wp
  rw [exec_append ho]
  by_cases hm0 : m = 0
  · subst hm0
    have hnl : news = [] := List.eq_nil_of_length_eq_zero (by simpa using hsrc.nl)
    subst hnl
    have hys : ys = [] := List.eq_nil_of_length_eq_zero (by simpa using hyl)
    subst hys
    cases base with
    | none =>
      have hsn := hbase.1 rfl
      rw [hsn] at hs hn
      simp [fullA] at hs
      obtain ⟨rfl, rfl⟩ := hs
      rw [es, Sem.run_bind, run_app_nil he hi hsrc]
      exact hn g w _ (Ext.refl _ _) (Loc.refl _ _) (.p _) hI
    | some a0 =>
      have hrun := run_app_room (ty := o.type) (a := a0) (sLen := n) (sCap := n) he hi hsrc (by omega) (w' := w) rfl
      rw [es, Sem.run_bind, hrun]
      have hsr := hev s
      rw [es] at hsr
      have hne : evalA tm s ≠ .p (.slice none 0 0) := fun e => by have := hbase.2 e; cases this
      generalize evalA tm s = sv at hs hsr hne hn
      unfold fullA at hs
      split at hs
      · exact absurd rfl hne
      · cases hs
        refine hn g w _ (Ext.refl _ _) (Loc.refl _ _) ?_ hI
        simp only [Nat.add_zero, List.append_nil]
        cases hsr with
        | imm _ _ _ _ _ us q1 q2 q3 q4 q5 q6 q7 => exact .imm _ _ _ _ _ us q1 q2 q3 (by simp) q5 q6 q7
      · cases hs
  · have hrun := run_app_grow (ty := o.type) (z := z) (base := base) (olds := olds) he hi hz' hsrc (fun w' hw' => by rw [← es]; exact hold w' hw') (by omega) hm hb
    rw [es, Sem.run_bind, hrun]
    have hp := drew_pushed w (.cells (olds.toArray ++ news.toArray ++ Builtin.zeroCells z.cells (grownCap w (n + m) n e - (n + m))) e)
    obtain ⟨hxt, hI'⟩ := inv_alloc_fix hI hp
    refine hn _ _ _ hxt (Gh.fix_loc _ _ _) ?_ hI'
    rw [appA_pos hm0]
    have hall := reps_append (rest := []) (by rw [hol, hcl]) holds hnews
    simp only [List.append_nil] at hall
    refine .imm _ _ _ _ _ (olds ++ news) (.inr (.inr rfl)) (grownCap_ge w _ _ e) (grownCap_le_maxLen w _ _ e hm) (by simp) (by simp [hol, hcl, hsrc.nl, hyl]) (fun j u hu => ?_) (fun j y u hy hu => ?_)
    · rw [addr_add_none, cell_of_row _ _ _ _ _ _ hp.new, Nat.zero_add]
      have hj : j < (olds ++ news).length := (List.getElem?_eq_some_iff.1 hu).1
      rw [Array.getElem?_append_left (by simpa using hj)]
      rw [List.append_toArray, List.getElem?_toArray]
      exact hu
    · obtain ⟨v, hv, hr'⟩ := hall j y hy
      rw [hu] at hv; cases hv
      exact hr'.mono hxt

/-- append that makes a new block of one's own. -/
theorem append_new {s x : Operand} {t t2 e : TypeId} {sz by_ n m : Nat} {cs ys zs : List AV} (ho : o.op = .call { callee := .builtin .append, args := #[s, x], argTypes := #[t, t2] })
    (he : elA P t = some e) (hsz : szA P e = some sz) (hby : byA P e = some by_) (hz : zA P e = some zs) (hzl : zs.length = sz) (hs : fullA (evalA tm s) = some (n, cs)) (hcl : cs.length = n * sz) (hx : srcA P t2 (evalA tm x) h = some (m, ys)) (hyl : ys.length = m * sz)
    (hm0 : 0 < m) (hb : (n + m) * by_ ≤ 140737488355328) (hm : n + m ≤ maxLen) : OpF P id o (evalA tm) (readsOf (evalA tm x) h) (.ref false id 0 (n + m) sz) [(id, some (.cells e (cs ++ ys)))] := by
  refine ⟨fun q hq => .inr (by simp at hq; subst hq; exact under_self id), fun h2 hr g w a next Q hev hI hf hn => ?_⟩
  obtain ⟨i, hi, rfl⟩ := Option.map_eq_some_iff.1 hsz
  obtain ⟨i', hi', rfl⟩ := Option.map_eq_some_iff.1 hby
  rw [hi] at hi'; cases hi'
  obtain ⟨i', z, hi', hz', rfl⟩ := zA_some hz
  rw [hi] at hi'; cases hi'
  obtain ⟨news, hsrc, hnews⟩ := src_sound hx hyl hr hI (hev x)
  obtain ⟨base, olds, es, hol, hbase, hnm, hold, holds⟩ := full_rep (P := P) hs (hev s) hcl
  unfold Oper.wp
  rw [exec_append ho]
  have hrun := run_app_grow (ty := o.type) (z := z) (base := base) (olds := olds) he hi hz' hsrc (fun w' hw' => by rw [← es]; exact hold w' hw') (by omega) hm hb
  rw [es, Sem.run_bind, hrun]
  have hp := drew_pushed w (.cells (olds.toArray ++ news.toArray ++ Builtin.zeroCells z.cells (grownCap w (n + m) n e - (n + m))) e)
  have hge := grownCap_ge w (n + m) n e
  have hall := reps_append (rest := (Builtin.zeroCells z.cells (grownCap w (n + m) n e - (n + m))).toList) (by rw [hol, hcl]) holds hnews
  obtain ⟨hxt, hI'⟩ := inv_alloc (cs := cs ++ ys) hI hf hp (by simp [hol, hcl, hsrc.nl, hyl]) (fun j y hy => by
    obtain ⟨v, hv, hr'⟩ := hall j y hy
    refine ⟨v, ?_, hr'⟩
    rw [← Array.getElem?_toList]
    simpa using hv)
  refine hn _ _ _ hxt (Gh.name_loc _ _ _) ?_ hI'
  refine .ref _ _ _ _ _ w.heap.size 0 0 (grownCap w (n + m) n e) e _ (Gh.name_same _ _ _) ?_ (.inr rfl) hge (grownCap_le_maxLen w _ _ e hm) (by simp) (Nat.le_refl _)
  unfold World.shape?
  rw [hp.new]
  simp only [Option.some.injEq, Prod.mk.injEq, true_and]
  simp only [Array.size_append, List.size_toArray, size_zeroCells', hol, hsrc.nl]
  simp at hzl
  rw [hzl, ← Nat.add_mul, ← Nat.add_mul, Nat.zero_add]
  congr 1
  omega

theorem append_own_aux {w : World} {pb : Nat} {e : TypeId} {pc : Array Value} (h : w.heap[pb]? = some (.cells pc e (0, 0))) : w.shape? pb = some (e, pc.size) := by
  unfold World.shape?; rw [h]

/-- append onto a block of one's own, at its end: the block is henceforth another one. -/
theorem append_own {s x : Operand} {t t2 e : TypeId} {sz by_ n m off : Nat} {f : Bool} {b : BId} {all ys zs : List AV} (ho : o.op = .call { callee := .builtin .append, args := #[s, x], argTypes := #[t, t2] })
    (he : elA P t = some e) (hsz : szA P e = some sz) (hby : byA P e = some by_) (hz : zA P e = some zs) (hzl : zs.length = sz) (hs : evalA tm s = .ref f b off n sz) (hend : all.length = off + n * sz)
    (hx : srcA P t2 (evalA tm x) h = some (m, ys)) (hyl : ys.length = m * sz) (hone : ys.all AV.one = true)
    (hm0 : 0 < m) (hb : (n + m) * by_ ≤ 140737488355328) (hm : n + m ≤ maxLen) : OpF P id o (evalA tm) ((b, .cells e all) :: readsOf (evalA tm x) h) (.ref false id 0 (n + m) sz) [(b, none), (id, some (.cells e (all.drop off ++ ys)))] := by
  refine ⟨fun q hq => ?_, fun h2 hr g w a next Q hev hI hf hn => ?_⟩
  · simp at hq
    rcases hq with rfl | rfl
    · exact .inl ⟨_, List.mem_cons_self⟩
    · exact .inr (under_self id)
  obtain ⟨i, hi, rfl⟩ := Option.map_eq_some_iff.1 hsz
  obtain ⟨i', hi', rfl⟩ := Option.map_eq_some_iff.1 hby
  rw [hi] at hi'; cases hi'
  obtain ⟨i', z, hi', hz', rfl⟩ := zA_some hz
  rw [hi] at hi'; cases hi'
  obtain ⟨news, hsrc, hnews⟩ := src_sound hx hyl hr.2 hI (hev x)
  have hsr := hev s
  rw [hs] at hsr
  obtain ⟨pb, ba, oo, cap, e2, mm, es, hp, hsh, hoo, k1, k2, k3, k4⟩ := hsr.refv
  obtain ⟨pb', ba', pc, q1, q2, q3, q4, q5⟩ := hI.cells b e all hr.1
  rw [hp] at q1; cases q1
  rw [append_own_aux q3] at hsh
  cases hsh
  unfold Oper.wp
  rw [exec_append ho]
  have hres : upd h2 [(b, none), (id, some (.cells e (all.drop off ++ ys)))] = hset (hset h2 b none) id (some (.cells e (all.drop off ++ ys))) := rfl
  rw [hres] at hn
  by_cases hroom : n + m ≤ cap
  · -- there is room
    have hoff : oo = ba + off := hoo.resolve_left (by omega)
    subst hoff
    have hfit : ba + off + n * i.size + news.length ≤ pc.size := by
      rw [hsrc.nl]
      have : (n + m) * i.size ≤ cap * i.size := Nat.mul_le_mul_right _ hroom
      rw [Nat.add_mul] at this
      omega
    have hnone : ∀ v ∈ news, v.oneCell' = true := by
      have := list_one (us := news.toArray) (by simp [hyl, hsrc.nl]) (fun i y hy => by obtain ⟨v, hv, hr'⟩ := hnews i y hy; exact ⟨v, by simpa using hv, hr'⟩) hone
      simpa using this
    obtain ⟨w', hst, hset'⟩ := run_storeCells (P := P) (off := ba + off + n * i.size) (us := news) q3 hfit hnone
    have hrun := run_app_room (ty := o.type) (a := ⟨pb, ba + off, none⟩) (sLen := n) (sCap := cap) he hi hsrc hroom (w' := w') (by rw [addr_add_none]; exact hst)
    rw [es, Sem.run_bind, hrun]
    have hcl2 : ∀ (j : Nat) (y : AV), (all.drop off ++ ys)[j]? = some y → ∃ v : Value, (pc.toList.take (ba + off + n * i.size) ++ news ++ pc.toList.drop (ba + off + n * i.size + news.length)).toArray[ba + off + j]? = some v ∧ Rep g w y v := by
      intro j y hy
      rw [List.getElem?_toArray, getElem?_seg _ _ _ _ (by simp; omega)]
      by_cases hj : j < (all.drop off).length
      · rw [List.getElem?_append_left hj, List.getElem?_drop] at hy
        simp at hj
        rw [if_pos (by omega)]
        obtain ⟨v, hv, hr'⟩ := q5 _ y hy
        exact ⟨v, by rw [Array.getElem?_toList, Nat.add_assoc]; exact hv, hr'⟩
      · rw [List.getElem?_append_right (by omega)] at hy
        simp at hj
        obtain ⟨v, hv, hr'⟩ := hnews _ y hy
        have hvl := (List.getElem?_eq_some_iff.1 hv).1
        simp at hvl hv
        rw [if_neg (by omega), if_pos (by omega)]
        refine ⟨v, ?_, hr'⟩
        rw [← hv]
        congr 1
        omega
    obtain ⟨hxt, hI'⟩ := inv_write (id := id) (ba' := ba + off) (cs' := all.drop off ++ ys) hI hr.1 hp q3 hset' (by simp; omega) (by simp; rw [hyl]; have := hsrc.nl; omega) hcl2 (.inr hf)
    · refine hn _ _ _ hxt (Gh.name_loc _ _ _) ?_ hI'
      refine .ref _ _ _ _ _ pb (ba + off) (ba + off) cap e _ (Gh.name_same _ _ _) (append_own_aux (hset'.same (Array.getElem?_eq_some_iff.1 q3).1)) (.inr rfl) hroom k2 (by simp) ?_
      simp; omega
  · -- it moves
    have hcells : ∀ w', w'.heap = w.heap → (Builtin.firstCells i.size n (.slice (some ⟨pb, oo, none⟩) n cap)).run P w' = .ok ((pc.toList.drop (ba + off)).take (n * i.size)).toArray w' := by
      intro w' hw'
      by_cases hn0 : n = 0
      · subst hn0
        simp only [Nat.zero_mul, List.take_zero]
        exact run_firstCells_some w' i.size 0 _ 0 cap [] (by simp) (by simp)
      · have hoff : oo = ba + off := hoo.resolve_left (by omega)
        subst hoff
        refine run_firstCells_some w' i.size n _ n cap _ ?_ ?_
        · simp; omega
        · intro j v hv
          rw [List.getElem?_take] at hv
          split at hv
          · rw [List.getElem?_drop] at hv
            rw [cell_heap hw', addr_add_none, cell_of_row _ _ _ _ _ _ q3]
            simpa using hv
          · cases hv
    have hol : ((pc.toList.drop (ba + off)).take (n * i.size)).length = n * i.size := by simp; omega
    have holds : ∀ (j : Nat) (y : AV), (all.drop off)[j]? = some y → ∃ v : Value, ((pc.toList.drop (ba + off)).take (n * i.size))[j]? = some v ∧ Rep g w y v := by
      intro j y hy
      have hj := (List.getElem?_eq_some_iff.1 hy).1
      simp at hj
      rw [List.getElem?_drop] at hy
      obtain ⟨v, hv, hr'⟩ := q5 _ y hy
      refine ⟨v, ?_, hr'⟩
      rw [List.getElem?_take, if_pos (by omega), List.getElem?_drop, Array.getElem?_toList, Nat.add_assoc]
      exact hv
    have hrun := run_app_grow (ty := o.type) (z := z) (base := some ⟨pb, oo, none⟩) he hi hz' hsrc hcells (by omega) hm hb
    rw [es, Sem.run_bind, hrun]
    have hpu := drew_pushed w (.cells (((pc.toList.drop (ba + off)).take (n * i.size)).toArray ++ news.toArray ++ Builtin.zeroCells z.cells (grownCap w (n + m) cap e - (n + m))) e)
    have hge := grownCap_ge w (n + m) cap e
    have hall := reps_append (rest := (Builtin.zeroCells z.cells (grownCap w (n + m) cap e - (n + m))).toList) (by rw [hol]; simp; omega) holds hnews
    have hI0 : Inv g w (hset h2 b none) := hI.sub (fun c x hc => by
      by_cases hcb : c = b
      · subst hcb; rw [hset_same] at hc; cases hc
      · rw [hset_ne _ _ _ hcb] at hc; exact hc)
    obtain ⟨hxt, hI'⟩ := inv_alloc (cs := all.drop off ++ ys) hI0 hf hpu (by simp [hsrc.nl, hyl]; omega) (fun j y hy => by
      obtain ⟨v, hv, hr'⟩ := hall j y hy
      refine ⟨v, ?_, hr'⟩
      rw [← Array.getElem?_toList]
      simpa using hv)
    refine hn _ _ _ hxt (Gh.name_loc _ _ _) ?_ hI'
    refine .ref _ _ _ _ _ w.heap.size 0 0 (grownCap w (n + m) cap e) e _ (Gh.name_same _ _ _) (append_own_aux hpu.new) (.inr rfl) hge (grownCap_le_maxLen w _ _ e hm) (by simp) ?_
    simp only [Array.size_append, List.size_toArray, size_zeroCells', hol, hsrc.nl]
    simp at hzl
    rw [hzl, ← Nat.add_mul, ← Nat.add_mul, Nat.zero_add]
    exact Nat.mul_le_mul_right _ (by omega)
end
end Go.SX
