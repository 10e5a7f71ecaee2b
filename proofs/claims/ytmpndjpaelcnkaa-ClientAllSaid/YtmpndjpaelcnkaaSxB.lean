/- The frame of a symbolic execution: what one operation, one region, one piece of code and one call do to a state of values without memory, whatever the memory is, and how they follow one another. -/
import Derived.Test.YtmpndjpaelcnkaaSxA
set_option linter.unusedVariables false
set_option linter.unusedSimpArgs false
namespace Go.SX
open Go

structure SSt where
  tm : Nat → AV
  h : Heap
  t : Nat

def put (tm : Nat → AV) (d : Nat) (v : AV) : Nat → AV := fun x => if x = d then v else tm x
def putO (tm : Nat → AV) (d : Option Nat) (v : AV) : Nat → AV := match d with | some d => put tm d v | none => tm
def upd (h : Heap) : List (BId × Option Blk) → Heap
  | [] => h
  | (b, x) :: r => upd (hset h b x) r
def Reads (h : Heap) : List (BId × Blk) → Prop
  | [] => True
  | (b, x) :: r => h b = some x ∧ Reads h r
/-- A value of the text. -/
def ofVal : Value → AV
  | .agg cs => .agg (cs.toList.map .p)
  | .tuple vs => .tup (vs.toList.map .p)
  | v => .p v
def evalA (tm : Nat → AV) : Operand → AV
  | .tmp t => tm t
  | .const v => ofVal v
  | .global _ => .top
  | .func f => .p (.func (.func f) #[] #[])

theorem rep_ofVal (g : Gh) (w : World) (v : Value) : Rep g w (ofVal v) v := by
  cases v <;> try exact .p _
  case agg cs =>
    refine .agg _ _ (by simp) (fun i x v hx hv => ?_)
    rw [List.getElem?_map, Array.getElem?_toList, hv] at hx
    simp at hx; subst hx; exact .p v
  case tuple cs =>
    refine .tup _ _ (by simp) (fun i x v hx hv => ?_)
    rw [List.getElem?_map, Array.getElem?_toList, hv] at hx
    simp at hx; subst hx; exact .p v

theorem rep_p {g : Gh} {w : World} {v u : Value} (h : Rep g w (.p v) u) : u = v := by cases h; rfl

def FrG (g : Gh) (id : BId) : Prop := ∀ p : List Nat, g.φ (p ++ id) = none
def FrH (h : Heap) (id : BId) : Prop := ∀ p : List Nat, h (p ++ id) = none
def Under (id b : BId) : Prop := ∃ p : List Nat, b = p ++ id
def Loc (id : BId) (g g' : Gh) : Prop := ∀ b, ¬ Under id b → g'.φ b = g.φ b

theorem Under.ne {j k : Nat} {ns b : BId} (h : Under (j :: ns) b) (hn : j ≠ k) : ¬ Under (k :: ns) b := by
  rintro ⟨q, rfl⟩
  obtain ⟨p, hp⟩ := h
  have := (List.append_inj' hp (by simp)).2
  simp at this; exact hn this.symm
theorem Under.up {k : Nat} {ns b : BId} (h : Under (k :: ns) b) : Under ns b := by
  obtain ⟨p, rfl⟩ := h
  exact ⟨p ++ [k], by simp⟩
theorem under_self (id : BId) : Under id id := ⟨[], rfl⟩
theorem under_app (p : List Nat) (id : BId) : Under id (p ++ id) := ⟨p, rfl⟩
theorem Loc.refl (id : BId) (g : Gh) : Loc id g g := fun _ _ => rfl
theorem Loc.trans {id : BId} {g g' g'' : Gh} (h : Loc id g g') (k : Loc id g' g'') : Loc id g g'' := fun b hb => (k b hb).trans (h b hb)
theorem Loc.up {k : Nat} {ns : BId} {g g' : Gh} (h : Loc (k :: ns) g g') : Loc ns g g' := fun b hb => h b (fun hu => hb hu.up)
theorem FrG.loc {j k : Nat} {ns : BId} {g g' : Gh} (h : FrG g (j :: ns)) (hl : Loc (k :: ns) g g') (hn : j ≠ k) : FrG g' (j :: ns) := fun p => by
  rw [hl _ (Under.ne (under_app p _) hn)]; exact h p
theorem FrG.sub {k : Nat} {ns : BId} {g : Gh} (h : FrG g ns) : FrG g (k :: ns) := fun p => by
  have := h (p ++ [k]); simpa using this
theorem Inv.frH {g : Gh} {w : World} {h : Heap} (hI : Inv g w h) {id : BId} (hf : FrG g id) : FrH h id := fun p => by
  cases hb : h (p ++ id) with
  | none => rfl
  | some x =>
    obtain ⟨pb, ba, h1, _⟩ := hI.some_φ hb
    rw [hf p] at h1; cases h1

/-- What an operation does: its value stands for v, the heap for h'. -/
def OpOK (P : Program) (id : BId) (o : Oper) (ev : Operand → AV) (h : Heap) (v : AV) (h' : Heap) : Prop :=
  ∀ (g : Gh) (w : World) (a : Act) (next : Act → World → Prop) (Q : Exit → Act → World → Prop), (∀ x, Rep g w (ev x) (a.eval x)) → Inv g w h → FrG g id →
    (∀ g' w' u, Ext g w g' w' → Loc id g g' → Rep g' w' v u → Inv g' w' h' → next (a.put o.dst u) w') → o.wp P a w next Q

structure OpF (P : Program) (id : BId) (o : Oper) (ev : Operand → AV) (R : List (BId × Blk)) (v : AV) (W : List (BId × Option Blk)) : Prop where
  wok : ∀ q ∈ W, (∃ y, (q.1, y) ∈ R) ∨ Under id q.1
  ok : ∀ h, Reads h R → OpOK P id o ev h v (upd h W)

def CallsA (P : Program) (f : FuncId) (args : List AV) (h : Heap) (id : BId) (r : AV) (h' : Heap) : Prop :=
  ∀ (g : Gh) (w : World) (us : List Value), us.length = args.length → (∀ (i : Nat) (x : AV) (u : Value), args[i]? = some x → us[i]? = some u → Rep g w x u) → Inv g w h → FrG g id →
    Calls P f us.toArray w fun e w' => ∃ u g', e = .returned u ∧ Ext g w g' w' ∧ Loc id g g' ∧ Rep g' w' r u ∧ Inv g' w' h'

structure CallF (P : Program) (f : FuncId) (args : List AV) (id : BId) (R : List (BId × Blk)) (r : AV) (W : List (BId × Option Blk)) : Prop where
  isF : ∃ fn, P.funcs[f]? = some fn ∧ (fn.name == "runtime.NumGoroutine") = false ∧ fn.body.isNone = false
  wok : ∀ q ∈ W, (∃ y, (q.1, y) ∈ R) ∨ Under id q.1
  ok : ∀ h, Reads h R → CallsA P f args h id r (upd h W)

theorem Reads.mem {h : Heap} {R : List (BId × Blk)} (hr : Reads h R) {b : BId} {x : Blk} (hm : (b, x) ∈ R) : h b = some x := by
  induction R with
  | nil => cases hm
  | cons q R ih =>
    obtain ⟨b', x'⟩ := q
    rcases List.mem_cons.1 hm with hm | hm
    · cases hm; exact hr.1
    · exact ih hr.2 hm
theorem upd_far {h : Heap} {W : List (BId × Option Blk)} {b : BId} (hn : ∀ q ∈ W, q.1 ≠ b) : upd h W b = h b := by
  induction W generalizing h with
  | nil => rfl
  | cons q W ih =>
    obtain ⟨b', x'⟩ := q
    simp only [upd]
    rw [ih (fun q hq => hn q (List.mem_cons_of_mem _ hq)), hset_ne _ _ _ (Ne.symm (hn (b', x') List.mem_cons_self))]
/-- What was not there stays away. -/
theorem FrH.upd {h : Heap} {R : List (BId × Blk)} {W : List (BId × Option Blk)} {id id2 : BId} (hf : FrH h id2) (hr : Reads h R) (hw : ∀ q ∈ W, (∃ y, (q.1, y) ∈ R) ∨ Under id q.1)
    (hd : ∀ b, Under id2 b → ¬ Under id b) : FrH (upd h W) id2 := fun p => by
  rw [upd_far (b := p ++ id2) (fun q hq e => ?_)]
  · exact hf p
  · rcases hw q hq with ⟨y, hy⟩ | hu
    · have := hr.mem hy; rw [e, hf p] at this; cases this
    · exact hd _ (under_app p id2) (e ▸ hu)

/-- One operation of a region. -/
def WRop (P : Program) (id : BId) (o : Oper) (tm : Nat → AV) (h : Heap) (K : AV → List (BId × Option Blk) → Prop) : Prop :=
  ∃ v R W, OpF P id o (evalA tm) R v W ∧ Reads h R ∧ K v W

/-- What an operation does to this very heap. -/
structure OpK (P : Program) (id : BId) (o : Oper) (ev : Operand → AV) (h : Heap) (v : AV) (W : List (BId × Option Blk)) : Prop where
  wok : ∀ q ∈ W, (h q.1).isSome = true ∨ Under id q.1
  ok : OpOK P id o ev h v (upd h W)
theorem OpF.toK {P : Program} {id : BId} {o : Oper} {ev : Operand → AV} {R : List (BId × Blk)} {v : AV} {W : List (BId × Option Blk)} {h : Heap} (hf : OpF P id o ev R v W) (hr : Reads h R) : OpK P id o ev h v W :=
  ⟨fun q hq => (hf.wok q hq).imp (fun ⟨y, hy⟩ => by rw [hr.mem hy]; rfl) (fun e => e), hf.ok h hr⟩
def WRopK (P : Program) (id : BId) (o : Oper) (tm : Nat → AV) (h : Heap) (K : AV → List (BId × Option Blk) → Prop) : Prop :=
  FrH h id → ∃ v W, OpK P id o (evalA tm) h v W ∧ K v W
theorem WRop.toK {P : Program} {id : BId} {o : Oper} {tm : Nat → AV} {h : Heap} {K : AV → List (BId × Option Blk) → Prop} (hw : WRop P id o tm h K) : WRopK P id o tm h K := fun _ =>
  let ⟨v, _, W, h1, h2, h3⟩ := hw; ⟨v, W, h1.toK h2, h3⟩
theorem WRopK.mono {P : Program} {id : BId} {o : Oper} {tm : Nat → AV} {h : Heap} {K K' : AV → List (BId × Option Blk) → Prop} (hw : WRopK P id o tm h K) (hk : ∀ v W, K v W → K' v W) : WRopK P id o tm h K' := fun hf =>
  let ⟨v, W, h1, h3⟩ := hw hf; ⟨v, W, h1, hk _ _ h3⟩
theorem FrH.updK {h : Heap} {W : List (BId × Option Blk)} {id id2 : BId} (hf : FrH h id2) (hw : ∀ q ∈ W, (h q.1).isSome = true ∨ Under id q.1)
    (hd : ∀ b, Under id2 b → ¬ Under id b) : FrH (Go.SX.upd h W) id2 := fun p => by
  rw [upd_far (b := p ++ id2) (fun q hq e => ?_)]
  · exact hf p
  · rcases hw q hq with hy | hu
    · rw [e, hf p] at hy; cases hy
    · exact hd _ (under_app p id2) (e ▸ hu)

/-- A guard: what it says of an operation. -/
def gW (ops : Array Oper) (tm : Nat → AV) (g : Option (Nat × Bool)) (A B : Prop) : Prop :=
  match g with
  | none => A
  | some (j, want) =>
    match (ops[j]?).bind (·.dst) with
    | none => False
    | some d =>
      match tm d with
      | .p (.bool b) => (b = want → A) ∧ (b = !want → B)
      | .p (.tuple _) => B
      | _ => False

def WR (P : Program) (ns : BId) (t : Nat) (ops : Array Oper) : Nat → List Oper → (Nat → AV) → Heap → ((Nat → AV) → Heap → Prop) → Prop
  | _, [], tm, h, K => K tm h
  | k, o :: rest, tm, h, K =>
    gW ops tm o.guard (WRopK P (k :: t :: ns) o tm h fun v W => WR P ns t ops (k + 1) rest (putO tm o.dst v) (upd h W) K)
      (WR P ns t ops (k + 1) rest (putO tm o.dst (.p undef)) h K)

structure RelR (n : Nat) (ns : BId) (t k : Nat) (g : Gh) (w : World) (a : Act) (tm : Nat → AV) (h : Heap) : Prop where
  size : a.tmps.size = n
  tm : ∀ d, Rep g w (tm d) (a.tmps.getD d undef)
  inv : Inv g w h
  frk : ∀ j, k ≤ j → FrG g (j :: t :: ns)
  frt : ∀ t', t < t' → FrG g (t' :: ns)
  df : a.defers = []

structure FrHR (ns : BId) (t k : Nat) (h : Heap) : Prop where
  frk : ∀ j, k ≤ j → FrH h (j :: t :: ns)
  frt : ∀ t', t < t' → FrH h (t' :: ns)

theorem eval_rep {g : Gh} {w : World} {a : Act} {tm : Nat → AV} (h : ∀ d, Rep g w (tm d) (a.tmps.getD d undef)) (x : Operand) : Rep g w (evalA tm x) (a.eval x) := by
  cases x with
  | tmp t => exact h t
  | const v => exact rep_ofVal g w v
  | global _ => exact .top _
  | func f => exact .p _

theorem rep_put {g : Gh} {w : World} {a : Act} {tm : Nat → AV} {n : Nat} (hs : a.tmps.size = n) (h : ∀ d, Rep g w (tm d) (a.tmps.getD d undef)) {d : Option Nat} {v : AV} {u : Value}
    (hd : ∀ x, d = some x → x < n) (hv : Rep g w v u) : ∀ x, Rep g w (putO tm d v x) ((a.put d u).tmps.getD x undef) := by
  intro x
  cases d with
  | none => exact h x
  | some d =>
    have hlt := hd d rfl
    simp only [putO, put, Act.put]
    by_cases e : x = d
    · subst e
      rw [if_pos rfl]
      have : (a.tmps.setIfInBounds x u).getD x undef = u := by
        simp [Array.getD, hs, hlt]
      rw [this]; exact hv
    · rw [if_neg e]
      have : (a.tmps.setIfInBounds d u).getD x undef = a.tmps.getD x undef := by
        rw [Array.getD_eq_getD_getElem?, Array.getD_eq_getD_getElem?, Array.getElem?_setIfInBounds_ne (Ne.symm e)]
      rw [this]; exact h x
theorem size_put (a : Act) (d : Option Nat) (u : Value) : (a.put d u).tmps.size = a.tmps.size := by cases d <;> simp [Act.put]
theorem defers_put (a : Act) (d : Option Nat) (u : Value) : (a.put d u).defers = a.defers := by cases d <;> rfl

/-- Where the slots of a list of operations lie. -/
def slotsOk (n : Nat) (l : List Oper) : Bool := l.all fun o => match o.dst with | some d => decide (d < n) | none => true

theorem WR_sound {P : Program} {n : Nat} {ns : BId} {t : Nat} {ops : Array Oper} : ∀ (l : List Oper) (k : Nat) (tm : Nat → AV) (h : Heap) (K : (Nat → AV) → Heap → Prop),
    slotsOk n l = true → WR P ns t ops k l tm h K → FrHR ns t k h →
    ∃ tm' h', K tm' h' ∧ FrHR ns t (k + l.length) h' ∧ ∀ (g : Gh) (w : World) (a : Act) (Q : Exit → Act → World → Prop), RelR n ns t k g w a tm h →
      (∀ g' w' a', Ext g w g' w' → Loc (t :: ns) g g' → RelR n ns t (k + l.length) g' w' a' tm' h' → Q .normal a' w') → wpList P ops Q l a w := by
  intro l
  induction l with
  | nil =>
    intro k tm h K _ hW hF
    exact ⟨tm, h, hW, hF, fun g w a Q hR hQ => hQ g w a (Ext.refl _ _) (Loc.refl _ _) hR⟩
  | cons o rest ih =>
    intro k tm h K hsl hW hF
    have hdn : ∀ x, o.dst = some x → x < n := by
      intro x hx
      simp only [slotsOk, List.all_cons, Bool.and_eq_true, hx, decide_eq_true_eq] at hsl
      exact hsl.1
    have hrest : slotsOk n rest = true := by
      simp only [slotsOk, List.all_cons, Bool.and_eq_true] at hsl
      exact hsl.2
    have hskip : ∀ (g : Gh) (w : World) (a : Act), RelR n ns t k g w a tm h → RelR n ns t (k + 1) g w (a.put o.dst undef) (putO tm o.dst (.p undef)) h := fun g w a hR =>
      ⟨(size_put _ _ _).trans hR.size, rep_put hR.size hR.tm hdn (.p _), hR.inv, fun j hj => hR.frk j (by omega), hR.frt, (defers_put _ _ _).trans hR.df⟩
    have hlen : k + (o :: rest).length = k + 1 + rest.length := by simp only [List.length_cons]; omega
    -- the operation is done
    have doit : WRopK P (k :: t :: ns) o tm h (fun v W => WR P ns t ops (k + 1) rest (putO tm o.dst v) (upd h W) K) →
        ∃ tm' h', K tm' h' ∧ FrHR ns t (k + (o :: rest).length) h' ∧ ∀ (g : Gh) (w : World) (a : Act) (Q : Exit → Act → World → Prop), RelR n ns t k g w a tm h →
          (∀ g' w' a', Ext g w g' w' → Loc (t :: ns) g g' → RelR n ns t (k + (o :: rest).length) g' w' a' tm' h' → Q .normal a' w') → o.wp P a w (wpList P ops Q rest) Q := by
      intro hop0
      obtain ⟨v, W, hop, hK⟩ := hop0 (hF.frk k (Nat.le_refl _))
      have hF' : FrHR ns t (k + 1) (upd h W) := ⟨fun j hj => (hF.frk j (by omega)).updK hop.wok (fun b hb => hb.ne (by omega)), fun t' ht => (hF.frt t' ht).updK hop.wok (fun b hb hu => hb.ne (by omega) hu.up)⟩
      obtain ⟨tm', h', hKK, hFF, hsem⟩ := ih (k + 1) _ _ K hrest hK hF'
      refine ⟨tm', h', hKK, by rw [hlen]; exact hFF, fun g w a Q hR hQ => ?_⟩
      refine hop.ok g w a _ Q (eval_rep hR.tm) hR.inv (hR.frk k (Nat.le_refl _)) ?_
      intro g' w' u hx hl hv hI
      refine hsem g' w' _ Q ⟨(size_put _ _ _).trans hR.size, rep_put hR.size (fun d => (hR.tm d).mono hx) hdn hv, hI, fun j hj => (hR.frk j (by omega)).loc hl (by omega),
        fun t' ht => (hR.frt t' ht).loc hl.up (by omega), (defers_put _ _ _).trans hR.df⟩ ?_
      intro g2 w2 a2 hx2 hl2 hR2
      exact hQ g2 w2 a2 (hx.trans hx2) (hl.up.trans hl2) (by rw [hlen]; exact hR2)
    have skip : WR P ns t ops (k + 1) rest (putO tm o.dst (.p undef)) h K →
        ∃ tm' h', K tm' h' ∧ FrHR ns t (k + (o :: rest).length) h' ∧ ∀ (g : Gh) (w : World) (a : Act) (Q : Exit → Act → World → Prop), RelR n ns t k g w a tm h →
          (∀ g' w' a', Ext g w g' w' → Loc (t :: ns) g g' → RelR n ns t (k + (o :: rest).length) g' w' a' tm' h' → Q .normal a' w') → wpList P ops Q rest (a.put o.dst undef) w := by
      intro hK
      obtain ⟨tm', h', hKK, hFF, hsem⟩ := ih (k + 1) _ _ K hrest hK ⟨fun j hj => hF.frk j (by omega), hF.frt⟩
      refine ⟨tm', h', hKK, by rw [hlen]; exact hFF, fun g w a Q hR hQ => hsem g w _ Q (hskip g w a hR) fun g2 w2 a2 hx2 hl2 hR2 => hQ g2 w2 a2 hx2 hl2 (by rw [hlen]; exact hR2)⟩
    unfold WR at hW
    cases hg : o.guard with
    | none =>
      simp only [hg, gW] at hW
      obtain ⟨tm', h', h1, h2, h3⟩ := doit hW
      refine ⟨tm', h', h1, h2, fun g w a Q hR hQ => ?_⟩
      unfold wpList
      rw [if_pos (by simp [Region.wanted, hg])]
      exact .inl (h3 g w a Q hR hQ)
    | some jw =>
      obtain ⟨j, want⟩ := jw
      simp only [hg, gW] at hW
      cases hd : (ops[j]?).bind (·.dst) with
      | none => simp only [hd] at hW
      | some d =>
        simp only [hd] at hW
        have hval : ∀ (g : Gh) (w : World) (a : Act) (v : Value), RelR n ns t k g w a tm h → tm d = .p v → a.tmps.getD d undef = v := by
          intro g w a v hR hv
          have hq := hR.tm d
          rw [hv] at hq
          exact rep_p hq
        cases hv : tm d with
        | p v =>
          simp only [hv] at hW
          cases v with
          | bool b =>
            simp only at hW
            have hy : ∀ (g : Gh) (w : World) (a : Act), RelR n ns t k g w a tm h → yielded ops a.tmps j = some b := by
              intro g w a hR
              have := hval g w a _ hR hv
              unfold yielded
              rw [hd]
              simp only [Option.bind_some]
              rw [Array.getD_eq_getD_getElem?] at this
              cases hx : a.tmps[d]? with
              | none => rw [hx] at this; simp [undef] at this
              | some y => rw [hx] at this; simp at this; rw [this]
            by_cases hb : b = want
            · obtain ⟨tm', h', h1, h2, h3⟩ := doit (hW.1 hb)
              refine ⟨tm', h', h1, h2, fun g w a Q hR hQ => ?_⟩
              unfold wpList
              rw [if_pos (by simp [Region.wanted, hg, hy g w a hR, hb])]
              exact .inl (h3 g w a Q hR hQ)
            · obtain ⟨tm', h', h1, h2, h3⟩ := skip (hW.2 (by cases b <;> cases want <;> simp_all))
              refine ⟨tm', h', h1, h2, fun g w a Q hR hQ => ?_⟩
              unfold wpList
              rw [if_neg (by simp [Region.wanted, hg, hy g w a hR, hb])]
              exact h3 g w a Q hR hQ
          | tuple vs =>
            simp only at hW
            have hy : ∀ (g : Gh) (w : World) (a : Act), RelR n ns t k g w a tm h → yielded ops a.tmps j = none := by
              intro g w a hR
              have := hval g w a _ hR hv
              unfold yielded
              rw [hd]
              simp only [Option.bind_some]
              rw [Array.getD_eq_getD_getElem?] at this
              cases hx : a.tmps[d]? with
              | none => rfl
              | some y => rw [hx] at this; simp at this; rw [this]
            obtain ⟨tm', h', h1, h2, h3⟩ := skip hW
            refine ⟨tm', h', h1, h2, fun g w a Q hR hQ => ?_⟩
            unfold wpList
            rw [if_neg (by simp [Region.wanted, hg, hy g w a hR])]
            exact h3 g w a Q hR hQ
          | _ => simp only at hW
        | _ => simp only [hv] at hW

/-! ### code -/
structure RelS (n : Nat) (ns : BId) (g : Gh) (w : World) (a : Act) (st : SSt) : Prop where
  size : a.tmps.size = n
  tm : ∀ d, Rep g w (st.tm d) (a.tmps.getD d undef)
  inv : Inv g w st.h
  fr : ∀ t', st.t ≤ t' → FrG g (t' :: ns)
  df : a.defers = []
def FrS (ns : BId) (st : SSt) : Prop := ∀ t', st.t ≤ t' → FrH st.h (t' :: ns)

def Runs (P : Program) (n : Nat) (ns : BId) (c : Code) (st : SSt) (e : Exit) (st' : SSt) : Prop :=
  ∀ (g : Gh) (w : World) (a : Act), RelS n ns g w a st → c.wp P (fun e' a' w' => e' = e ∧ ∃ g', Ext g w g' w' ∧ Loc ns g g' ∧ RelS n ns g' w' a' st') a w

def W (P : Program) (n : Nat) (ns : BId) (c : Code) (Q : Exit → SSt → Prop) (st : SSt) : Prop := FrS ns st → ∃ e st', Runs P n ns c st e st' ∧ FrS ns st' ∧ Q e st'

section
variable {P : Program} {n : Nat} {ns : BId} {Q : Exit → SSt → Prop} {st : SSt}

theorem W_fr {c : Code} (h : FrS ns st → W P n ns c Q st) : W P n ns c Q st := fun hf => h hf hf
theorem W_mono {c : Code} {Q' : Exit → SSt → Prop} (h : W P n ns c Q st) (hq : ∀ e s, Q e s → Q' e s) : W P n ns c Q' st := fun hf =>
  let ⟨e, s, h1, h2, h3⟩ := h hf; ⟨e, s, h1, h2, hq _ _ h3⟩
theorem W_skip (h : Q .normal st) : W P n ns .skip Q st := fun hf =>
  ⟨.normal, st, fun g w a hR => wp_skip ⟨rfl, g, Ext.refl _ _, Loc.refl _ _, hR⟩, hf, h⟩
theorem W_label {l : Nat} (h : Q .normal st) : W P n ns (.label l) Q st := fun hf =>
  ⟨.normal, st, fun g w a hR => wp_label ⟨rfl, g, Ext.refl _ _, Loc.refl _ _, hR⟩, hf, h⟩
theorem W_exit {id : Nat} (h : Q (.exit id) st) : W P n ns (.exit id) Q st := fun hf =>
  ⟨.exit id, st, fun g w a hR => wp_exit ⟨rfl, g, Ext.refl _ _, Loc.refl _ _, hR⟩, hf, h⟩
theorem W_ret (h : Q .ret st) : W P n ns .ret Q st := fun hf =>
  ⟨.ret, st, fun g w a hR => wp_ret ⟨rfl, g, Ext.refl _ _, Loc.refl _ _, hR⟩, hf, h⟩

/-- What follows behind a piece of code. -/
def thenW (K : SSt → Prop) (Q : Exit → SSt → Prop) : Exit → SSt → Prop
  | .normal, s => K s
  | e, s => Q e s
def blockW (id : Nat) (Q : Exit → SSt → Prop) : Exit → SSt → Prop
  | .exit i, s => if i = id then Q .normal s else Q (.exit i) s
  | e, s => Q e s

theorem W_seq0 {x y : Code} (h : W P n ns x (thenW (W P n ns y Q) Q) st) : W P n ns (.seq x y) Q st := fun hf => by
  obtain ⟨e, s, h1, h2, h3⟩ := h hf
  by_cases he : e = .normal
  · subst he
    obtain ⟨e2, s2, k1, k2, k3⟩ := h3 h2
    refine ⟨e2, s2, fun g w a hR => wp_seq (wp_mono (h1 g w a hR) ?_), k2, k3⟩
    rintro e' a' w' ⟨rfl, g', hx, hl, hR'⟩
    refine wp_mono (k1 g' w' a' hR') ?_
    rintro e'' a'' w'' ⟨rfl, g'', hx', hl', hR''⟩
    exact ⟨rfl, g'', hx.trans hx', hl.trans hl', hR''⟩
  · refine ⟨e, s, fun g w a hR => wp_seq (wp_mono (h1 g w a hR) ?_), h2, ?_⟩
    · rintro e' a' w' ⟨rfl, hrest⟩
      cases e' <;> first | exact absurd rfl he | exact ⟨rfl, hrest⟩
    · cases e <;> first | exact absurd rfl he | exact h3
/-- The code that follows stands behind a name. -/
theorem W_seq {x y : Code} (h : ∀ K : SSt → Prop, (∀ s, W P n ns y Q s → K s) → W P n ns x (thenW K Q) st) : W P n ns (.seq x y) Q st := W_seq0 (h _ fun _ h => h)
theorem W_cond {c : Operand} {x y : Code} {b : Bool} (hc : evalA st.tm c = .p (.bool b)) (ht : b = true → W P n ns x Q st) (hf : b = false → W P n ns y Q st) : W P n ns (.cond c x y) Q st := by
  have hb : ∀ g w a, RelS n ns g w a st → a.eval c = .bool b := fun g w a hR => by
    have := eval_rep hR.tm c
    rw [hc] at this
    exact rep_p this
  intro hfr
  cases b with
  | true =>
    obtain ⟨e, s, h1, h2, h3⟩ := ht rfl hfr
    exact ⟨e, s, fun g w a hR => wp_cond_true (hb g w a hR) (h1 g w a hR), h2, h3⟩
  | false =>
    obtain ⟨e, s, h1, h2, h3⟩ := hf rfl hfr
    exact ⟨e, s, fun g w a hR => wp_cond_false (hb g w a hR) (h1 g w a hR), h2, h3⟩
theorem W_block {id : Nat} {c : Code} (h : W P n ns c (blockW id Q) st) : W P n ns (.block id c) Q st := fun hf => by
  obtain ⟨e, s, h1, h2, h3⟩ := h hf
  cases e with
  | exit i =>
    by_cases hi : i = id
    · simp only [blockW, hi, if_true] at h3
      refine ⟨.normal, s, fun g w a hR => wp_block (wp_mono (h1 g w a hR) ?_), h2, h3⟩
      rintro e' a' w' ⟨rfl, hrest⟩
      simp only [Exit.inBlock, hi, if_true]
      exact ⟨trivial, hrest⟩
    · simp only [blockW, hi, if_false] at h3
      refine ⟨.exit i, s, fun g w a hR => wp_block (wp_mono (h1 g w a hR) ?_), h2, h3⟩
      rintro e' a' w' ⟨rfl, hrest⟩
      simp only [Exit.inBlock, hi, if_false]
      exact ⟨trivial, hrest⟩
  | _ =>
    refine ⟨_, s, fun g w a hR => wp_block (wp_mono (h1 g w a hR) ?_), h2, h3⟩
    rintro e' a' w' ⟨rfl, hrest⟩
    exact ⟨rfl, hrest⟩

/-- A loop's rounds. -/
def WLn (P : Program) (n : Nat) (ns : BId) (c : Code) (Q : Exit → SSt → Prop) : Nat → SSt → Prop
  | 0, _ => False
  | m + 1, st => W P n ns c (thenW (WLn P n ns c Q m) Q) st
/-- The loop, from a round's head on. -/
def WL (P : Program) (n : Nat) (ns : BId) (c : Code) (Q : Exit → SSt → Prop) (st : SSt) : Prop := FrS ns st → ∃ m, WLn P n ns c Q m st

theorem rounds_mono {c : Code} {Q1 Q2 : Exit → Act → World → Prop} (hq : ∀ e a w, Q1 e a w → Q2 e a w) : ∀ (m : Nat) (a : Act) (w : World), Code.rounds P c Q1 m a w → Code.rounds P c Q2 m a w := by
  intro m
  induction m with
  | zero => intro a w h; exact h
  | succ m ih =>
    intro a w h
    rw [rounds_succ] at h ⊢
    refine wp_mono h ?_
    intro e a' w' he
    cases e <;> first | exact ih _ _ he | exact hq _ _ _ he

theorem WLn_sound {c : Code} : ∀ (m : Nat) (st : SSt), WLn P n ns c Q m st → FrS ns st → ∃ e s, FrS ns s ∧ Q e s ∧ ∀ (g : Gh) (w : World) (a : Act), RelS n ns g w a st →
    Code.rounds P c (fun e' a' w' => e' = e ∧ ∃ g', Ext g w g' w' ∧ Loc ns g g' ∧ RelS n ns g' w' a' s) m a w := by
  intro m
  induction m with
  | zero => intro st h; exact h.elim
  | succ m ih =>
    intro st h hf
    obtain ⟨e, s, h1, h2, h3⟩ := h hf
    by_cases he : e = .normal
    · subst he
      obtain ⟨e2, s2, k1, k2, k3⟩ := ih s h3 h2
      refine ⟨e2, s2, k1, k2, fun g w a hR => ?_⟩
      rw [rounds_succ]
      refine wp_mono (h1 g w a hR) ?_
      rintro e' a' w' ⟨rfl, g', hx, hl, hR'⟩
      refine rounds_mono ?_ m a' w' (k3 g' w' a' hR')
      rintro e'' a'' w'' ⟨rfl, g'', hx', hl', hR''⟩
      exact ⟨rfl, g'', hx.trans hx', hl.trans hl', hR''⟩
    · refine ⟨e, s, h2, ?_, fun g w a hR => ?_⟩
      · cases e <;> first | exact absurd rfl he | exact h3
      · rw [rounds_succ]
        refine wp_mono (h1 g w a hR) ?_
        rintro e' a' w' ⟨rfl, hrest⟩
        cases e' <;> first | exact absurd rfl he | exact ⟨rfl, hrest⟩
theorem W_loop {c : Code} (h : WL P n ns c Q st) : W P n ns (.loop c) Q st := fun hf => by
  obtain ⟨m, hm⟩ := h hf
  obtain ⟨e, s, h1, h2, h3⟩ := WLn_sound m st hm hf
  exact ⟨e, s, fun g w a hR => wp_loop_rounds m (h3 g w a hR), h1, h2⟩
theorem WL_step {c : Code} (h : W P n ns c (thenW (WL P n ns c Q) Q) st) : WL P n ns c Q st := fun hf => by
  obtain ⟨e, s, h1, h2, h3⟩ := h hf
  by_cases he : e = .normal
  · subst he
    obtain ⟨m, hm⟩ := h3 h2
    exact ⟨m + 1, fun _ => ⟨.normal, s, h1, h2, hm⟩⟩
  · refine ⟨1, fun _ => ⟨e, s, h1, h2, ?_⟩⟩
    cases e <;> first | exact absurd rfl he | exact h3
theorem WL_fr {c : Code} (h : FrS ns st → WL P n ns c Q st) : WL P n ns c Q st := fun hf => h hf hf

/-! ### regions -/
theorem RelS.relR {g : Gh} {w : World} {a : Act} (h : RelS n ns g w a st) : RelR n ns st.t 0 g w a st.tm st.h :=
  ⟨h.size, h.tm, h.inv, fun j _ => (h.fr st.t (Nat.le_refl _)).sub, fun t' ht => h.fr t' (by omega), h.df⟩
theorem FrS.frR (h : FrS ns st) : FrHR ns st.t 0 st.h := ⟨fun j _ p => by have := h st.t (Nat.le_refl _) (p ++ [j]); simpa using this, fun t' ht => h t' (by omega)⟩

theorem W_region {id : Nat} {ops : Array Oper} (hs : slotsOk n ops.toList = true) (h : WR P ns st.t ops 0 ops.toList st.tm st.h fun tm' h' => Q .normal ⟨tm', h', st.t + 1⟩) : W P n ns (.region id ops false) Q st := fun hf => by
  obtain ⟨tm', h', h1, h2, h3⟩ := WR_sound ops.toList 0 st.tm st.h _ hs h hf.frR
  refine ⟨.normal, ⟨tm', h', st.t + 1⟩, fun g w a hR => wp_region_list (h3 g w a _ hR.relR ?_), fun t' ht => h2.frt t' (by simp only at ht; omega), h1⟩
  intro g' w' a' hx hl hR'
  exact ⟨rfl, g', hx, hl.up, hR'.size, hR'.tm, hR'.inv, fun t' ht => hR'.frt t' (by simp only at ht; omega), hR'.df⟩
end

/-! ### calls -/
def loadA (P : Program) (t : TypeId) (h : Heap) (x : AV) : Option AV :=
  match P.underlying t, P.info? t with
  | some d, some i =>
    let agg := match d with | .struct _ | .array _ _ => true | _ => false
    match x with
    | .ptr b off =>
      match h b with
      | some (.cells _ cs) => if agg then (if off + i.size ≤ cs.length then some (.agg ((cs.drop off).take i.size)) else none) else cs[off]?
      | _ => none
    | .ep cs => if agg then (if i.size ≤ cs.length then some (.agg (cs.take i.size)) else none) else cs[0]?
    | _ => none
  | _, _ => none

/-- What a heap is known to hold is what another one holds. -/
def HLe (h' h : Heap) : Prop := ∀ b x, h' b = some x → h b = some x
end Go.SX
