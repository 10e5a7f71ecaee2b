/- What serves the proofs: blocks frozen, loops by a measure, the words of the steps. -/
import Derived.Test.YtmpndjpaelcnkaaSxK
set_option linter.unusedVariables false
set_option linter.unusedSimpArgs false
namespace Go.SX
open Go

attribute [congr] Stop.congr_self
theorem StopD.congr_self {P : Program} {id : BId} {op : Op} {tm : Nat → AV} {h : Heap} {K : AV → List BId → List (BId × Option Blk) → Prop} : StopD P id op tm h K = StopD P id op tm h K := rfl
attribute [congr] StopD.congr_self

section
variable {P : Program} {n : Nat} {ns : BId} {Q : Exit → SSt → Prop} {st : SSt} {c : Code}

/-- Another state stands for the same memory. -/
theorem W_shift {st' : SSt} (hs : ∀ (g : Gh) (w : World) (a : Act), RelS n ns g w a st → ∃ g', Ext g w g' w ∧ Loc ns g g' ∧ RelS n ns g' w a st') (hf : FrS ns st → FrS ns st') (h : W P n ns c Q st') : W P n ns c Q st := fun hfr => by
  obtain ⟨e, s, h1, h2, h3⟩ := h (hf hfr)
  refine ⟨e, s, fun g w a hR => ?_, h2, h3⟩
  obtain ⟨g', hx, hl, hR'⟩ := hs g w a hR
  refine wp_mono (h1 g' w a hR') ?_
  rintro e' a' w' ⟨rfl, g'', hx', hl', hR''⟩
  exact ⟨rfl, g'', hx.trans hx', hl.trans hl', hR''⟩
/-- Less is known. -/
theorem W_less {tm : Nat → AV} {h : Heap} {t : Nat} {tm' : Nat → AV} {h' : Heap} (htm : ∀ d, tm' d = tm d ∨ tm' d = .top) (hh : HLe h' h) (hw : W P n ns c Q ⟨tm', h', t⟩) : W P n ns c Q ⟨tm, h, t⟩ :=
  W_shift (st' := ⟨tm', h', t⟩) (fun g w a hR => ⟨g, Ext.refl _ _, Loc.refl _ _, hR.size, fun d => by
      rcases htm d with e | e
      · show Rep g w (tm' d) _
        rw [e]; exact hR.tm d
      · show Rep g w (tm' d) _
        rw [e]; exact .top _, hR.inv.sub hh, hR.fr, hR.df⟩)
    (fun hf t' ht p => by
      cases hq : h' (p ++ t' :: ns) with
      | none => exact hq
      | some x => have := hh _ _ hq; have h2 : h (p ++ t' :: ns) = none := hf t' ht p; rw [h2] at this; cases this) hw

theorem frozen_rep {g : Gh} {w : World} {h : Heap} {b : BId} {e : TypeId} {cs : List AV} {pb ba : Nat} (hI : Inv g w h) (hb : h b = some (.cells e cs)) (hp : g.φ b = some (pb, ba)) {f : Bool} {off m sz : Nat} {u : Value} (hr : Rep g w (.ref f b off m sz) u)
    (hle : off + m * sz ≤ cs.length) : Rep (g.fix pb) w (.imm f m ((cs.drop off).take (m * sz))) u := by
  obtain ⟨hx, _⟩ := inv_freeze hI hb hp
  obtain ⟨pb', ba', oo, cap, e2, mm, ev, hp', hsh, hoo, k1, k2, k3, k4⟩ := hr.refv
  rw [hp] at hp'; cases hp'
  subst ev
  have hwin : ∀ (i : Nat) (y : AV), ((cs.drop off).take (m * sz))[i]? = some y → (cs.drop off)[i]? = some y := by
    intro i y hy
    rw [List.getElem?_take] at hy
    split at hy
    · exact hy
    · cases hy
  obtain ⟨us, hul, hus⟩ := choose_list (p := fun i (u : Value) => w.cell? ((⟨pb, ba + off, none⟩ : Addr).add i) = some u ∧ ∀ y, ((cs.drop off).take (m * sz))[i]? = some y → Rep g w y u) (m * sz) (fun i hi => by
    have hlt : i < (cs.drop off).length := by simp; omega
    obtain ⟨u, hu, hru⟩ := hI.cell hb hp off i (cs.drop off)[i] (List.getElem?_eq_getElem hlt)
    refine ⟨u, hu, fun y hy => ?_⟩
    have := hwin i y hy
    rw [List.getElem?_eq_getElem hlt] at this
    cases this; exact hru)
  refine .imm _ _ _ _ _ us (.inr (.inr rfl)) k1 k2 k3 (by simp [hul]; omega) (fun i u hu => ?_) (fun i x u hx' hu => ((hus i u hu).2 x hx').mono hx)
  have hi := (List.getElem?_eq_some_iff.1 hu).1
  by_cases hc0 : cap = 0
  · have : m = 0 := by omega
    subst this
    simp [hul] at hi
  · rw [hoo.resolve_left hc0]; exact (hus i u hu).1

/-- A block that a slot holds stays as it is from now on. -/
theorem W_freeze {tm : Nat → AV} {h : Heap} {t : Nat} (d : Nat) {f : Bool} {b : BId} {off m sz : Nat} {e : TypeId} {cs : List AV} (hd : tm d = .ref f b off m sz) (hb : h b = some (.cells e cs)) (hle : off + m * sz ≤ cs.length)
    (hw : W P n ns c Q ⟨put tm d (.imm f m ((cs.drop off).take (m * sz))), hset h b none, t⟩) : W P n ns c Q ⟨tm, h, t⟩ := by
  refine W_shift (fun g w a hR => ?_) (fun hf t' ht p => ?_) hw
  · obtain ⟨pb, ba, hp, _⟩ := hR.inv.some_φ hb
    obtain ⟨hx, hI'⟩ := inv_freeze hR.inv hb hp
    refine ⟨g.fix pb, hx, Gh.fix_loc _ _ _, hR.size, fun x => ?_, hI', hR.fr, hR.df⟩
    simp only [put]
    split
    · rename_i e1
      subst e1
      have := hR.tm x
      simp only [hd] at this
      exact frozen_rep hR.inv hb hp this hle
    · exact (hR.tm x).mono hx
  · simp only [hset]
    split
    · rfl
    · exact hf t' ht p

/-- A block that a cell of another block holds stays as it is from now on. -/
theorem W_freezeH {tm : Nat → AV} {h : Heap} {t : Nat} (c0 : BId) (i : Nat) {e0 : TypeId} {l : List AV} {f : Bool} {b : BId} {off m sz : Nat} {e : TypeId} {cs : List AV} (hc0 : h c0 = some (.cells e0 l)) (hd : l[i]? = some (.ref f b off m sz)) (hb : h b = some (.cells e cs)) (hne : c0 ≠ b) (hle : off + m * sz ≤ cs.length)
    (hw : W P n ns c Q ⟨tm, hset (hset h b none) c0 (some (.cells e0 (l.set i (.imm f m ((cs.drop off).take (m * sz)))))), t⟩) : W P n ns c Q ⟨tm, h, t⟩ := by
  refine W_shift (fun g w a hR => ?_) (fun hf t' ht p => ?_) hw
  · obtain ⟨pb, ba, hp, _⟩ := hR.inv.some_φ hb
    obtain ⟨hx, hI'⟩ := inv_freeze hR.inv hb hp
    refine ⟨g.fix pb, hx, Gh.fix_loc _ _ _, hR.size, fun x => (hR.tm x).mono hx, ?_, hR.fr, hR.df⟩
    have hI0 : Inv g w h := hR.inv
    replace hI' : Inv (g.fix pb) w (hset h b none) := hI'
    show Inv (g.fix pb) w (hset (hset h b none) c0 (some (.cells e0 (l.set i (.imm f m ((cs.drop off).take (m * sz)))))))
    refine ⟨?_, ?_, ?_, hI'.lt⟩
    · intro b' e' cs' hb'
      by_cases hbc : b' = c0
      · subst hbc
        rw [hset_same] at hb'
        cases hb'
        obtain ⟨pb', ba', pc, q1, q2, q3, q4, q5⟩ := hI'.cells b' e0 l (by rw [hset_ne _ _ _ hne]; exact hc0)
        refine ⟨pb', ba', pc, q1, q2, q3, by simpa using q4, fun j x hj => ?_⟩
        by_cases hji : j = i
        · subst hji
          have hlt := (List.getElem?_eq_some_iff.1 hj).1
          simp at hlt
          rw [List.getElem?_set_self (by simpa using hlt)] at hj
          cases hj
          obtain ⟨pb2, ba2, pc2, r1, r2, r3, r4, r5⟩ := hI0.cells b' e0 l hc0
          have q1' : g.φ b' = some (pb', ba') := q1
          rw [r1] at q1'; cases q1'
          rw [r3] at q3; cases q3
          obtain ⟨u, hu, hru⟩ := r5 j _ hd
          exact ⟨u, hu, frozen_rep hI0 hb hp hru hle⟩
        · rw [List.getElem?_set_ne (Ne.symm hji)] at hj
          exact q5 j x hj
      · rw [hset_ne _ _ _ hbc] at hb'
        exact hI'.cells b' e' cs' hb'
    · intro b' es hb'
      by_cases hbc : b' = c0
      · subst hbc; rw [hset_same] at hb'; cases hb'
      · rw [hset_ne _ _ _ hbc] at hb'
        exact hI'.map b' es hb'
    · have hs : ∀ b', (hset (hset h b none) c0 (some (.cells e0 (l.set i (.imm f m ((cs.drop off).take (m * sz)))))) b').isSome = true → (hset h b none b').isSome = true := by
        intro b' hb'
        by_cases hbc : b' = c0
        · subst hbc; rw [hset_ne _ _ _ hne, hc0]; rfl
        · rw [hset_ne _ _ _ hbc] at hb'; exact hb'
      intro b1 b2 q a1 a2 h1 h2 e1 e2
      exact hI'.inj b1 b2 q a1 a2 (hs _ h1) (hs _ h2) e1 e2
  · simp only [hset]
    split
    · rename_i e1
      have h2 : h (p ++ t' :: ns) = none := hf t' ht p
      rw [e1, hc0] at h2; cases h2
    · split
      · rfl
      · exact hf t' ht p

/-- A loop, by a measure. -/
theorem WL_nat (I : Nat → SSt → Prop) (hstep : ∀ m s, I m s → W P n ns c (thenW (fun s' => ∃ m', m' < m ∧ I m' s') Q) s) : ∀ m s, I m s → WL P n ns c Q s := by
  intro m
  induction m using Nat.strongRecOn with
  | _ m ih =>
    intro s hs
    refine WL_step (W_mono (hstep m s hs) ?_)
    intro e s' he
    cases e with
    | normal => obtain ⟨m', hlt, hI⟩ := he; exact ih m' hlt s' hI
    | _ => exact he
/-- Where ways meet again: what holds there. -/
theorem W_seq_cut {x y : Code} (R : SSt → Prop) (h1 : W P n ns x (thenW R Q) st) (h2 : ∀ s, R s → W P n ns y Q s) : W P n ns (.seq x y) Q st :=
  W_seq0 (W_mono h1 (fun e s he => by cases e <;> first | exact h2 s he | exact he))
end

/-- Not by computation: the kernel is led step by step. -/
theorem nr {α : Sort _} {a b : α} (h : a = b) : a = b := h
theorem put_at (tm : Nat → AV) (d : Nat) (v : AV) (x : Nat) : put tm d v x = if x = d then v else tm x := nr rfl
theorem hset_at (h : Heap) (b : BId) (x : Option Blk) (y : BId) : hset h b x y = if y = b then x else h y := nr rfl
theorem upd_nil (h : Heap) : upd h [] = h := nr rfl
theorem upd_cons (h : Heap) (b : BId) (x : Option Blk) (r : List (BId × Option Blk)) : upd h ((b, x) :: r) = upd (hset h b x) r := nr rfl
theorem reads_nil (h : Heap) : Reads h [] = True := nr rfl
theorem reads_cons (h : Heap) (b : BId) (x : Blk) (r : List (BId × Blk)) : Reads h ((b, x) :: r) = (h b = some x ∧ Reads h r) := nr rfl
theorem thenW_normal (K : SSt → Prop) (Q : Exit → SSt → Prop) (s : SSt) : thenW K Q .normal s = K s := nr rfl
theorem thenW_ret (K : SSt → Prop) (Q : Exit → SSt → Prop) (s : SSt) : thenW K Q .ret s = Q .ret s := nr rfl
theorem thenW_exit (K : SSt → Prop) (Q : Exit → SSt → Prop) (i : Nat) (s : SSt) : thenW K Q (.exit i) s = Q (.exit i) s := nr rfl
theorem blockW_normal (i : Nat) (Q : Exit → SSt → Prop) (s : SSt) : blockW i Q .normal s = Q .normal s := nr rfl
theorem blockW_ret (i : Nat) (Q : Exit → SSt → Prop) (s : SSt) : blockW i Q .ret s = Q .ret s := nr rfl
theorem blockW_exit (i j : Nat) (Q : Exit → SSt → Prop) (s : SSt) : blockW i Q (.exit j) s = if j = i then Q .normal s else Q (.exit j) s := nr rfl
theorem oneA_one (x : AV) : oneA [x] = x := nr rfl
theorem oneA_nil : oneA [] = .tup [] := nr rfl
theorem oneA_two (x y : AV) (l : List AV) : oneA (x :: y :: l) = .tup (x :: y :: l) := nr rfl
theorem HLe.fresh {h' h : Heap} (hs : HLe h' h) {b : BId} {x : Option Blk} (hn : h' b = none) : HLe h' (hset h b x) := fun c y hc => by
  rw [hset_at]
  split
  · rename_i e; rw [e, hn] at hc; cases hc
  · exact hs c y hc
theorem HLe.set {h' h : Heap} (hs : HLe h' h) (b : BId) (x : Option Blk) : HLe (hset h' b x) (hset h b x) := fun c y hc => by
  rw [hset_at] at hc ⊢
  split at hc
  · rename_i e; rw [if_pos e]; exact hc
  · rename_i e; rw [if_neg e]; exact hs c y hc
theorem HLe.trans {a b c : Heap} (h1 : HLe a b) (h2 : HLe b c) : HLe a c := fun x y e => h2 x y (h1 x y e)

/-- int's arithmetic, where it fits. -/
theorem wrap_i64 {x : Int} (h : -9223372036854775808 ≤ x ∧ x ≤ 9223372036854775807) : IntKind.i64.wrap x = x := by
  have h2 : (2 : Int) ^ (IntKind.i64.bits) = 18446744073709551616 := by decide
  have h3 : (2 : Int) ^ (IntKind.i64.bits - 1) = 9223372036854775808 := by decide
  have h4 : IntKind.i64.signed = true := nr rfl
  simp only [IntKind.wrap, h2, h3, h4, Bool.true_and]
  split <;> rename_i hc <;> simp at hc <;> omega


/-! ### the order in which the steps are looked at: what follows stands behind a name -/
section
variable {P : Program} {ns id : BId} {t n k : Nat} {ops : Array Oper} {pre : List (List Nat)} {o : Oper} {rest : List Oper} {acc : List (Nat × List BId × List BId)} {tm : Nat → AV} {h : Heap}
def WRk (P : Program) (ns : BId) (t : Nat) (ops : Array Oper) (k : Nat) (o : Oper) (rest : List Oper) (tm : Nat → AV) (h : Heap) (K : (Nat → AV) → Heap → Prop) (v : AV) (W : List (BId × Option Blk)) : Prop :=
  WRf P ns t ops (k + 1) rest (putO tm o.dst v) (upd h W) K
def WDk (P : Program) (ns : BId) (t : Nat) (ops : Array Oper) (pre : List (List Nat)) (k : Nat) (o : Oper) (rest : List Oper) (acc : List (Nat × List BId × List BId)) (tm : Nat → AV) (h : Heap) (K : (Nat → AV) → Heap → Prop) (v : AV) (Ri : List BId) (W : List (BId × Option Blk)) : Prop :=
  confA pre k Ri (W.map (·.1)) acc ∧ WDf P ns t ops pre (k + 1) rest ((k, Ri, W.map (·.1)) :: acc) (putO tm o.dst v) (upd h W) K
theorem WRk_eq {K : (Nat → AV) → Heap → Prop} {v : AV} {W : List (BId × Option Blk)} : WRk P ns t ops k o rest tm h K v W = WRf P ns t ops (k + 1) rest (putO tm o.dst v) (upd h W) K := nr rfl
theorem WDk_eq {K : (Nat → AV) → Heap → Prop} {v : AV} {Ri : List BId} {W : List (BId × Option Blk)} : WDk P ns t ops pre k o rest acc tm h K v Ri W =
  (confA pre k Ri (W.map (·.1)) acc ∧ WDf P ns t ops pre (k + 1) rest ((k, Ri, W.map (·.1)) :: acc) (putO tm o.dst v) (upd h W) K) := nr rfl
theorem WRf_nil {K : (Nat → AV) → Heap → Prop} : WRf P ns t ops k [] tm h K = K tm h := nr rfl
theorem WDf_nil {K : (Nat → AV) → Heap → Prop} : WDf P ns t ops pre k [] acc tm h K = K tm h := nr rfl
/-- The slot that a guard looks at. -/
def gV (ops : Array Oper) (tm : Nat → AV) (j : Nat) : AV :=
  match (ops[j]?).bind (·.dst) with
  | none => .top
  | some d => tm d
def stepW (P : Program) (ns : BId) (t : Nat) (ops : Array Oper) (k : Nat) (o : Oper) (rest : List Oper) (tm : Nat → AV) (h : Heap) (K : (Nat → AV) → Heap → Prop) (x : AV) (want : Bool) : Prop :=
  match x with
  | .p (.bool b) => (b = want → opW P (k :: t :: ns) o.op tm h (WRk P ns t ops k o rest tm h K)) ∧ (b = !want → WRf P ns t ops (k + 1) rest (putO tm o.dst (.p undef)) h K)
  | .p (.tuple _) => WRf P ns t ops (k + 1) rest (putO tm o.dst (.p undef)) h K
  | _ => False
def stepD (P : Program) (ns : BId) (t : Nat) (ops : Array Oper) (pre : List (List Nat)) (k : Nat) (o : Oper) (rest : List Oper) (acc : List (Nat × List BId × List BId)) (tm : Nat → AV) (h : Heap) (K : (Nat → AV) → Heap → Prop) (x : AV) (want : Bool) : Prop :=
  match x with
  | .p (.bool b) => (b = want → opD P (k :: t :: ns) o.op tm h (WDk P ns t ops pre k o rest acc tm h K)) ∧ (b = !want → WDf P ns t ops pre (k + 1) rest acc (putO tm o.dst (.p undef)) h K)
  | .p (.tuple _) => WDf P ns t ops pre (k + 1) rest acc (putO tm o.dst (.p undef)) h K
  | _ => False
section
variable {d : Option Nat} {op : Op} {ty : TypeId} {pos : String} {after : Array Edge} {j : Nat} {want b : Bool} {x : AV} {us : Array Value} {K : (Nat → AV) → Heap → Prop}
theorem gV_s {n : Nat} (e : (ops[j]?).bind (·.dst) = some n) : gV ops tm j = tm n := by unfold gV; rw [e]
def stepG (P : Program) (ns : BId) (t : Nat) (ops : Array Oper) (k : Nat) (o : Oper) (rest : List Oper) (tm : Nat → AV) (h : Heap) (K : (Nat → AV) → Heap → Prop) (g : Option (Nat × Bool)) : Prop :=
  match g with
  | none => opW P (k :: t :: ns) o.op tm h (WRk P ns t ops k o rest tm h K)
  | some (j, want) => stepW P ns t ops k o rest tm h K (gV ops tm j) want
def stepH (P : Program) (ns : BId) (t : Nat) (ops : Array Oper) (pre : List (List Nat)) (k : Nat) (o : Oper) (rest : List Oper) (acc : List (Nat × List BId × List BId)) (tm : Nat → AV) (h : Heap) (K : (Nat → AV) → Heap → Prop) (g : Option (Nat × Bool)) : Prop :=
  match g with
  | none => opD P (k :: t :: ns) o.op tm h (WDk P ns t ops pre k o rest acc tm h K)
  | some (j, want) => stepD P ns t ops pre k o rest acc tm h K (gV ops tm j) want
theorem WRf_cons : WRf P ns t ops k (o :: rest) tm h K = stepG P ns t ops k o rest tm h K o.guard := by
  show gW _ _ _ _ _ = _
  unfold gW stepG stepW gV
  cases o.guard with
  | none => rfl
  | some q =>
    obtain ⟨j, want⟩ := q
    simp only
    cases hq : (ops[j]?).bind (·.dst) with
    | none => rfl
    | some d =>
      simp only
      cases tm d <;> rfl
theorem stepG_none : stepG P ns t ops k o rest tm h K none = opW P (k :: t :: ns) o.op tm h (WRk P ns t ops k o rest tm h K) := nr rfl
theorem stepG_some : stepG P ns t ops k o rest tm h K (some (j, want)) = stepW P ns t ops k o rest tm h K (gV ops tm j) want := nr rfl
theorem WDf_cons : WDf P ns t ops pre k (o :: rest) acc tm h K = stepH P ns t ops pre k o rest acc tm h K o.guard := by
  show gW _ _ _ _ _ = _
  unfold gW stepH stepD gV
  cases o.guard with
  | none => rfl
  | some q =>
    obtain ⟨j, want⟩ := q
    simp only
    cases hq : (ops[j]?).bind (·.dst) with
    | none => rfl
    | some d =>
      simp only
      cases tm d <;> rfl
theorem stepH_none : stepH P ns t ops pre k o rest acc tm h K none = opD P (k :: t :: ns) o.op tm h (WDk P ns t ops pre k o rest acc tm h K) := nr rfl
theorem stepH_some : stepH P ns t ops pre k o rest acc tm h K (some (j, want)) = stepD P ns t ops pre k o rest acc tm h K (gV ops tm j) want := nr rfl
theorem stepW_tt : stepW P ns t ops k o rest tm h K (.p (.bool true)) true = opW P (k :: t :: ns) o.op tm h (WRk P ns t ops k o rest tm h K) := by simp [stepW]
theorem stepW_ff : stepW P ns t ops k o rest tm h K (.p (.bool false)) false = opW P (k :: t :: ns) o.op tm h (WRk P ns t ops k o rest tm h K) := by simp [stepW]
theorem stepW_tf : stepW P ns t ops k o rest tm h K (.p (.bool true)) false = WRf P ns t ops (k + 1) rest (putO tm o.dst (.p undef)) h K := by simp [stepW]
theorem stepW_ft : stepW P ns t ops k o rest tm h K (.p (.bool false)) true = WRf P ns t ops (k + 1) rest (putO tm o.dst (.p undef)) h K := by simp [stepW]
theorem stepW_un : stepW P ns t ops k o rest tm h K (.p (.tuple us)) want = WRf P ns t ops (k + 1) rest (putO tm o.dst (.p undef)) h K := nr rfl
theorem stepW_undef : stepW P ns t ops k o rest tm h K (.p undef) want = WRf P ns t ops (k + 1) rest (putO tm o.dst (.p undef)) h K := nr rfl
theorem stepW_b : stepW P ns t ops k o rest tm h K (.p (.bool b)) want = ((b = want → opW P (k :: t :: ns) o.op tm h (WRk P ns t ops k o rest tm h K)) ∧ (b = !want → WRf P ns t ops (k + 1) rest (putO tm o.dst (.p undef)) h K)) := nr rfl
theorem stepD_tt : stepD P ns t ops pre k o rest acc tm h K (.p (.bool true)) true = opD P (k :: t :: ns) o.op tm h (WDk P ns t ops pre k o rest acc tm h K) := by simp [stepD]
theorem stepD_ff : stepD P ns t ops pre k o rest acc tm h K (.p (.bool false)) false = opD P (k :: t :: ns) o.op tm h (WDk P ns t ops pre k o rest acc tm h K) := by simp [stepD]
theorem stepD_tf : stepD P ns t ops pre k o rest acc tm h K (.p (.bool true)) false = WDf P ns t ops pre (k + 1) rest acc (putO tm o.dst (.p undef)) h K := by simp [stepD]
theorem stepD_ft : stepD P ns t ops pre k o rest acc tm h K (.p (.bool false)) true = WDf P ns t ops pre (k + 1) rest acc (putO tm o.dst (.p undef)) h K := by simp [stepD]
theorem stepD_un : stepD P ns t ops pre k o rest acc tm h K (.p (.tuple us)) want = WDf P ns t ops pre (k + 1) rest acc (putO tm o.dst (.p undef)) h K := nr rfl
theorem stepD_undef : stepD P ns t ops pre k o rest acc tm h K (.p undef) want = WDf P ns t ops pre (k + 1) rest acc (putO tm o.dst (.p undef)) h K := nr rfl
theorem stepD_b : stepD P ns t ops pre k o rest acc tm h K (.p (.bool b)) want = ((b = want → opD P (k :: t :: ns) o.op tm h (WDk P ns t ops pre k o rest acc tm h K)) ∧ (b = !want → WDf P ns t ops pre (k + 1) rest acc (putO tm o.dst (.p undef)) h K)) := nr rfl
end
variable {K : AV → List (BId × Option Blk) → Prop} {KD : AV → List BId → List (BId × Option Blk) → Prop} {v w : AV} {ids : List BId} {W : List (BId × Option Blk)}
def kV (K : AV → List (BId × Option Blk) → Prop) (v : AV) : Prop := K v []
def kW (K : AV → List (BId × Option Blk) → Prop) (W : List (BId × Option Blk)) : Prop := K (.p undef) W
def kD (K : AV → List BId → List (BId × Option Blk) → Prop) (ids : List BId) (v : AV) : Prop := K v ids []
def kDW (K : AV → List BId → List (BId × Option Blk) → Prop) (ids : List BId) (W : List (BId × Option Blk)) : Prop := K (.p undef) ids W
def kP (K : AV → List BId → List (BId × Option Blk) → Prop) (v : AV) (W : List (BId × Option Blk)) : Prop := K v [] W
theorem kV_eq : kV K v = K v [] := nr rfl
theorem kW_eq : kW K W = K (.p undef) W := nr rfl
theorem kD_eq : kD KD ids v = KD v ids [] := nr rfl
theorem kDW_eq : kDW KD ids W = KD (.p undef) ids W := nr rfl
theorem kP_eq : kP KD v W = KD v [] W := nr rfl
def pickW (c a b : AV) (K : AV → Prop) : Prop :=
  match c with
  | .p (.bool t) => K (bif t then a else b)
  | _ => False
def allocW (e : TypeId) (id : BId) (z : Option (List AV)) (K : AV → List (BId × Option Blk) → Prop) : Prop :=
  match z with
  | some zs => K (.ptr id 0) [(id, some (.cells e zs))]
  | none => False
def aggW (z : Option (List AV)) (K : AV → Prop) : Prop :=
  match z with
  | some cs => K (.agg cs)
  | none => False
def buildW (zs : Option (List AV)) (pl : Option (List (Nat × Nat))) (ps : List (Nat × AV)) (K : AV → Prop) : Prop :=
  match zs, pl with
  | some zs, some pl => aggW (fillA (fun k => pl[k]?) zs ps) K
  | _, _ => False
def immW (len sz : Nat) (z : Option (List AV)) (K : AV → Prop) : Prop :=
  match z with
  | some cs => len ≤ maxLen ∧ len * sz ≤ 2 ^ 24 ∧ K (.imm true len cs)
  | none => False
def bslW (P : Program) (e : Option TypeId) (len : Nat) (ps : List (Nat × AV)) (K : AV → Prop) : Prop :=
  match e with
  | some e => (match szA P e, zA P e with
    | some sz, some zs => immW len sz (fillA (fun k => some (k * sz, sz)) (zerosA zs (len * sz)) ps) K
    | _, _ => False)
  | none => False
def nilcW (x : AV) (K : AV → Prop) : Prop :=
  match x with
  | .ptr b o => K (.ptr b o)
  | .ep cs => K (.ep cs)
  | _ => False
def extrW (x : AV) (k : Nat) (K : AV → Prop) : Prop :=
  match x with
  | .tup xs => aggE xs[k]? K
  | _ => False
where aggE (o : Option AV) (K : AV → Prop) : Prop :=
  match o with
  | some v => K v
  | none => False
def mm2 (lt : Int → Int → Bool) (x y : AV) (K : AV → Prop) : Prop :=
  match x, y with
  | .p (.int k a), .p (.int k' b) => K (.p (.int k (if lt b a then b else a)))
  | _, _ => False
theorem pickW_b {t : Bool} {a b : AV} {K : AV → Prop} : pickW (.p (.bool t)) a b K = K (bif t then a else b) := nr rfl
theorem allocW_s {e : TypeId} {zs : List AV} : allocW e id (some zs) K = K (.ptr id 0) [(id, some (.cells e zs))] := nr rfl
theorem aggW_s {zs : List AV} {K : AV → Prop} : aggW (some zs) K = K (.agg zs) := nr rfl
theorem buildW_s {zs : List AV} {pl : List (Nat × Nat)} {ps : List (Nat × AV)} {K : AV → Prop} : buildW (some zs) (some pl) ps K = aggW (fillA (fun k => pl[k]?) zs ps) K := nr rfl
theorem immW_s {len sz : Nat} {zs : List AV} {K : AV → Prop} : immW len sz (some zs) K = (len ≤ maxLen ∧ len * sz ≤ 2 ^ 24 ∧ K (.imm true len zs)) := nr rfl
theorem bslW_s {e : TypeId} {len : Nat} {ps : List (Nat × AV)} {K : AV → Prop} : bslW P (some e) len ps K = (match szA P e, zA P e with
    | some sz, some zs => immW len sz (fillA (fun k => some (k * sz, sz)) (zerosA zs (len * sz)) ps) K
    | _, _ => False) := nr rfl
theorem nilcW_ptr {b : BId} {i : Nat} {K : AV → Prop} : nilcW (.ptr b i) K = K (.ptr b i) := nr rfl
theorem nilcW_ep {cs : List AV} {K : AV → Prop} : nilcW (.ep cs) K = K (.ep cs) := nr rfl
theorem extrW_t {xs : List AV} {K : AV → Prop} : extrW (.tup xs) n K = extrW.aggE xs[n]? K := nr rfl
theorem extrW_s {K : AV → Prop} : extrW.aggE (some v) K = K v := nr rfl
theorem opW_move {x : Operand} : opW P id (.move x) tm h K = K (evalA tm x) [] := nr rfl
theorem opW_assign {x : Operand} : opW P id (.assign x) tm h K = K (evalA tm x) [] := nr rfl
theorem opW_pick {c a b : Operand} : opW P id (.pick c a b) tm h K = pickW (evalA tm c) (evalA tm a) (evalA tm b) (kV K) := nr rfl
theorem opW_alloc {e : TypeId} : opW P id (.alloc e) tm h K = allocW e id (zA P e) K := nr rfl
theorem opW_box {e : TypeId} {x : Operand} : opW P id (.box e x) tm h K = allocW e id (boxA (evalA tm x)) K := nr rfl
theorem opW_build {e : TypeId} {ps : Array (Nat × Operand)} : opW P id (.build e ps) tm h K = buildW (zA P e) (placesA P e) (partsA (evalA tm) ps.toList) (kV K) := by
  unfold opW buildW
  simp only
  cases zA P e <;> cases placesA P e <;> rfl
theorem opW_buildSlice {e : TypeId} {len : Nat} {ps : Array (Nat × Operand)} : opW P id (.buildSlice e len ps) tm h K = bslW P (elA P e) len (partsA (evalA tm) ps.toList) (kV K) := by
  unfold opW bslW
  simp only
  cases elA P e with
  | none => rfl
  | some el => simp only; cases szA P el <;> cases zA P el <;> rfl
theorem opW_load {e : TypeId} {x : Operand} : opW P id (.load e x) tm h K = loadW P e (evalA tm x) h (kV K) := nr rfl
theorem opW_store {e : TypeId} {x y : Operand} : opW P id (.store e x y) tm h K = storeW P e (evalA tm x) (evalA tm y) h (kW K) := nr rfl
theorem opW_nilCheck {x : Operand} : opW P id (.nilCheck x) tm h K = nilcW (evalA tm x) (kV K) := nr rfl
theorem opW_binOp {op : BinOp} {e e2 : TypeId} {x y : Operand} : opW P id (.binOp op e x y e2) tm h K = binW P op e (evalA tm x) (evalA tm y) (kV K) := nr rfl
theorem opW_unOp {op : UnOp} {e : TypeId} {x : Operand} : opW P id (.unOp op e x) tm h K = unW op (evalA tm x) (kV K) := nr rfl
theorem opW_convert {e e2 : TypeId} {x : Operand} : opW P id (.convert e e2 x) tm h K = convW P e e2 (evalA tm x) h (kV K) := nr rfl
theorem opW_slice {e : TypeId} {x : Operand} {lo hi mx : Option Operand} : opW P id (.slice e x lo hi mx) tm h K = sliceW P e (evalA tm x) (lo.map (evalA tm)) (hi.map (evalA tm)) (mx.map (evalA tm)) (kV K) := nr rfl
theorem opW_fieldAddr {e : TypeId} {x : Operand} {i : Nat} : opW P id (.fieldAddr e x i) tm h K = fieldW P e (evalA tm x) i (kV K) := nr rfl
theorem opW_indexAddr {e : TypeId} {x i : Operand} : opW P id (.indexAddr e x i) tm h K = indexW P e (evalA tm x) (evalA tm i) (kV K) := nr rfl
theorem opW_index {e : TypeId} {x i : Operand} : opW P id (.index e x i) tm h K = atW P e (evalA tm x) (evalA tm i) (kV K) := nr rfl
theorem opW_extract {x : Operand} {i : Nat} : opW P id (.extract x i) tm h K = extrW (evalA tm x) i (kV K) := nr rfl
theorem opW_len {x : Operand} {e : TypeId} : opW P id (.call { callee := .builtin .len, args := #[x], argTypes := #[e] }) tm h K = lenW P e (evalA tm x) h (kV K) := nr rfl
theorem opW_min {x y : Operand} {ts : Array TypeId} : opW P id (.call { callee := .builtin .min, args := #[x, y], argTypes := ts }) tm h K = mm2 (fun b a => decide (b < a)) (evalA tm x) (evalA tm y) (kV K) := by
  unfold mm2 kV
  simp only [opW, decide_eq_true_eq]
  generalize evalA tm x = a, evalA tm y = b
  rcases a with v | _ <;> first | rfl | (cases v <;> first | rfl | (rcases b with u | _ <;> first | rfl | (cases u <;> rfl)))
theorem opW_max {x y : Operand} {ts : Array TypeId} : opW P id (.call { callee := .builtin .max, args := #[x, y], argTypes := ts }) tm h K = mm2 (fun b a => decide (b > a)) (evalA tm x) (evalA tm y) (kV K) := by
  unfold mm2 kV
  simp only [opW, decide_eq_true_eq]
  generalize evalA tm x = a, evalA tm y = b
  rcases a with v | _ <;> first | rfl | (cases v <;> first | rfl | (rcases b with u | _ <;> first | rfl | (cases u <;> rfl)))
theorem opW_append {xs : Array Operand} {ts : Array TypeId} : opW P id (.call { callee := .builtin .append, args := xs, argTypes := ts }) tm h K = Stop P id (.call { callee := .builtin .append, args := xs, argTypes := ts }) tm h K := nr rfl
theorem opW_copy {xs : Array Operand} {ts : Array TypeId} : opW P id (.call { callee := .builtin .copy, args := xs, argTypes := ts }) tm h K = Stop P id (.call { callee := .builtin .copy, args := xs, argTypes := ts }) tm h K := nr rfl
theorem opW_delete {xs : Array Operand} {ts : Array TypeId} : opW P id (.call { callee := .builtin .delete, args := xs, argTypes := ts }) tm h K = Stop P id (.call { callee := .builtin .delete, args := xs, argTypes := ts }) tm h K := nr rfl
theorem opW_clear {xs : Array Operand} {ts : Array TypeId} : opW P id (.call { callee := .builtin .clear, args := xs, argTypes := ts }) tm h K = Stop P id (.call { callee := .builtin .clear, args := xs, argTypes := ts }) tm h K := nr rfl
theorem opW_call {f : Operand} {xs : Array Operand} {ts : Array TypeId} : opW P id (.call { callee := .value f, args := xs, argTypes := ts }) tm h K = Stop P id (.call { callee := .value f, args := xs, argTypes := ts }) tm h K := nr rfl
theorem opD_load {e : TypeId} {x : Operand} : opD P id (.load e x) tm h KD = loadW P e (evalA tm x) h (kD KD (ptrIds (evalA tm x))) := nr rfl
theorem opD_store {e : TypeId} {x y : Operand} : opD P id (.store e x y) tm h KD = storeW P e (evalA tm x) (evalA tm y) h (kDW KD (ptrIds (evalA tm x))) := nr rfl
theorem opD_move {x : Operand} : opD P id (.move x) tm h KD = opW P id (.move x) tm noH (kP KD) := nr rfl
theorem opD_assign {x : Operand} : opD P id (.assign x) tm h KD = opW P id (.assign x) tm noH (kP KD) := nr rfl
theorem opD_pick {c : Operand} {a : Operand} {b : Operand} : opD P id (.pick c a b) tm h KD = opW P id (.pick c a b) tm noH (kP KD) := nr rfl
theorem opD_alloc {e : TypeId} : opD P id (.alloc e) tm h KD = opW P id (.alloc e) tm noH (kP KD) := nr rfl
theorem opD_box {e : TypeId} {x : Operand} : opD P id (.box e x) tm h KD = opW P id (.box e x) tm noH (kP KD) := nr rfl
theorem opD_build {t : TypeId} {ps : Array (Nat × Operand)} : opD P id (.build t ps) tm h KD = opW P id (.build t ps) tm noH (kP KD) := nr rfl
theorem opD_buildSlice {t : TypeId} {n : Nat} {ps : Array (Nat × Operand)} : opD P id (.buildSlice t n ps) tm h KD = opW P id (.buildSlice t n ps) tm noH (kP KD) := nr rfl
theorem opD_nilCheck {x : Operand} : opD P id (.nilCheck x) tm h KD = opW P id (.nilCheck x) tm noH (kP KD) := nr rfl
theorem opD_binOp {op : BinOp} {t : TypeId} {x : Operand} {y : Operand} {t2 : TypeId} : opD P id (.binOp op t x y t2) tm h KD = opW P id (.binOp op t x y t2) tm noH (kP KD) := nr rfl
theorem opD_unOp {op : UnOp} {t : TypeId} {x : Operand} : opD P id (.unOp op t x) tm h KD = opW P id (.unOp op t x) tm noH (kP KD) := nr rfl
theorem opD_convert {a : TypeId} {b : TypeId} {x : Operand} : opD P id (.convert a b x) tm h KD = opW P id (.convert a b x) tm noH (kP KD) := nr rfl
theorem opD_slice {t : TypeId} {x : Operand} {lo : Option Operand} {hi : Option Operand} {mx : Option Operand} : opD P id (.slice t x lo hi mx) tm h KD = opW P id (.slice t x lo hi mx) tm noH (kP KD) := nr rfl
theorem opD_fieldAddr {t : TypeId} {x : Operand} {k : Nat} : opD P id (.fieldAddr t x k) tm h KD = opW P id (.fieldAddr t x k) tm noH (kP KD) := nr rfl
theorem opD_indexAddr {t : TypeId} {x : Operand} {i : Operand} : opD P id (.indexAddr t x i) tm h KD = opW P id (.indexAddr t x i) tm noH (kP KD) := nr rfl
theorem opD_index {t : TypeId} {x : Operand} {i : Operand} : opD P id (.index t x i) tm h KD = opW P id (.index t x i) tm noH (kP KD) := nr rfl
theorem opD_extract {x : Operand} {k : Nat} : opD P id (.extract x k) tm h KD = opW P id (.extract x k) tm noH (kP KD) := nr rfl
theorem opD_len {xs : Array Operand} {ts : Array TypeId} : opD P id (.call { callee := .builtin .len, args := xs, argTypes := ts }) tm h KD = opW P id (.call { callee := .builtin .len, args := xs, argTypes := ts }) tm noH (kP KD) := nr rfl
theorem opD_min {xs : Array Operand} {ts : Array TypeId} : opD P id (.call { callee := .builtin .min, args := xs, argTypes := ts }) tm h KD = opW P id (.call { callee := .builtin .min, args := xs, argTypes := ts }) tm noH (kP KD) := nr rfl
theorem opD_max {xs : Array Operand} {ts : Array TypeId} : opD P id (.call { callee := .builtin .max, args := xs, argTypes := ts }) tm h KD = opW P id (.call { callee := .builtin .max, args := xs, argTypes := ts }) tm noH (kP KD) := nr rfl
theorem opD_append {xs : Array Operand} {ts : Array TypeId} : opD P id (.call { callee := .builtin .append, args := xs, argTypes := ts }) tm h KD = StopD P id (.call { callee := .builtin .append, args := xs, argTypes := ts }) tm h KD := nr rfl
theorem opD_copy {xs : Array Operand} {ts : Array TypeId} : opD P id (.call { callee := .builtin .copy, args := xs, argTypes := ts }) tm h KD = StopD P id (.call { callee := .builtin .copy, args := xs, argTypes := ts }) tm h KD := nr rfl
theorem opD_delete {xs : Array Operand} {ts : Array TypeId} : opD P id (.call { callee := .builtin .delete, args := xs, argTypes := ts }) tm h KD = StopD P id (.call { callee := .builtin .delete, args := xs, argTypes := ts }) tm h KD := nr rfl
theorem opD_clear {xs : Array Operand} {ts : Array TypeId} : opD P id (.call { callee := .builtin .clear, args := xs, argTypes := ts }) tm h KD = StopD P id (.call { callee := .builtin .clear, args := xs, argTypes := ts }) tm h KD := nr rfl
theorem opD_call {f : Operand} {xs : Array Operand} {ts : Array TypeId} : opD P id (.call { callee := .value f, args := xs, argTypes := ts }) tm h KD = StopD P id (.call { callee := .value f, args := xs, argTypes := ts }) tm h KD := nr rfl
end

attribute [go_sem high] stepW_tt stepW_ff stepW_tf stepW_ft stepD_tt stepD_ff stepD_tf stepD_ft
attribute [go_sem low] stepW_b stepD_b
attribute [go_sem] stepG_none stepG_some stepH_none stepH_some
attribute [go_sem ↓] WRf_cons WDf_cons opW_move opW_assign opW_pick opW_alloc opW_box opW_build opW_buildSlice opW_load opW_store opW_nilCheck opW_binOp opW_unOp opW_convert opW_slice opW_fieldAddr opW_indexAddr opW_index opW_extract opW_len opW_min opW_max opW_append opW_copy opW_delete opW_clear opW_call opD_load opD_store opD_move opD_assign opD_pick opD_alloc opD_box opD_build opD_buildSlice opD_nilCheck opD_binOp opD_unOp opD_convert opD_slice opD_fieldAddr opD_indexAddr opD_index opD_extract opD_len opD_min opD_max opD_append opD_copy opD_delete opD_clear opD_call
attribute [go_sem] WRk_eq WDk_eq WRf_nil WDf_nil gV Oper.dst Oper.op stepW_un stepD_un stepW_undef stepD_undef kV_eq kW_eq kD_eq kDW_eq kP_eq pickW_b allocW_s aggW_s buildW_s immW_s bslW_s nilcW_ptr nilcW_ep extrW_t extrW_s mm2
attribute [go_sem] List.not_mem_nil List.mem_cons not_false_eq_true false_implies implies_true forall_eq or_false forall_eq_or_imp not_or
attribute [go_sem] List.getElem?_toArray Bool.true_eq_false Bool.false_eq_true
attribute [go_sem] putO put_at hset_at upd_nil upd_cons reads_nil reads_cons thenW_normal thenW_ret thenW_exit blockW_normal blockW_ret blockW_exit
  evalA ofVal intW strW nilA unW fieldW loadW storeW ldA bndA atW setSeg fillA partsA zerosA appA confA ptrIds initTm resA oneA_one oneA_nil oneA_two fullA disjP
  List.drop_zero List.drop_succ_cons List.drop_nil List.take_succ_cons List.take_zero List.take_nil List.length_cons List.length_nil List.map_cons List.map_nil List.getElem?_cons_zero List.getElem?_cons_succ List.head?_cons List.getD_cons_zero List.getD_cons_succ
  List.cons_append List.nil_append List.append_nil List.set_cons_zero List.set_cons_succ List.all_cons List.all_nil List.range_zero List.contains_cons List.contains_nil
  Option.map_some Option.map_none Option.bind_some Option.isSome_some Option.isSome_none cond_true cond_false Bool.not_true Bool.not_false Bool.and_true Bool.true_and Bool.and_false Bool.false_and Bool.or_true Bool.true_or Bool.or_false Bool.false_or
  Int.toNat_natCast Nat.zero_mul Nat.mul_zero Nat.zero_add Nat.add_zero Nat.mul_one Nat.one_mul and_true true_and true_implies if_true if_false Bool.false_eq_true
end Go.SX
