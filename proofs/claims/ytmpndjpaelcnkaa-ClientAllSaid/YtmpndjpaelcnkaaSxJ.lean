/- A region that draws its order: one walk in the text's order serves for all orders, where what conflicts is ordered. -/
import Derived.Test.YtmpndjpaelcnkaaSxI
set_option linter.unusedVariables false
set_option linter.unusedSimpArgs false
namespace Go.SX
open Go

/-! ### which operations stand ahead -/
/-- Each edge that binds leads back. -/
def edgesOk (ops : Array Oper) : Bool := (List.range ops.size).all fun k => match ops[k]? with | some o => o.after.toList.all fun e => !Region.binds .any e || decide (e.on < k) | none => true
/-- 'pre': for each operation, ones that stand ahead of it whatever the order. -/
def preOk (ops : Array Oper) (pre : List (List Nat)) : Bool :=
  (List.range ops.size).all fun k => (pre.getD k []).all fun i => match ops[k]? with | some o => o.after.toList.any fun e => Region.binds .any e && (e.on == i || (pre.getD e.on []).contains i) | none => false
/-- Who writes a slot stands ahead of, or behind, all who look at it or write it. -/
def slotsApart (ops : Array Oper) (pre : List (List Nat)) : Bool :=
  (List.range ops.size).all fun k => (List.range k).all fun i => (pre.getD k []).contains i || (match ops[i]?, ops[k]? with
    | some oi, some ok => (match oi.dst with | some d => !(ok.looksAt ops).contains d && !(ok.dst == some d) | none => true) && (match ok.dst with | some d => !(oi.looksAt ops).contains d | none => true)
    | _, _ => true)
def drawOk (ops : Array Oper) (pre : List (List Nat)) : Bool := edgesOk ops && preOk ops pre && slotsApart ops pre

/-- What an operation can see of the slots. -/
def mask (ops : Array Oper) (o : Oper) (tm : Nat → AV) : Nat → AV := fun d => if (o.looksAt ops).contains d then tm d else .top

/-- Two operations' footprints in the heap do not meet. -/
def disjP (Ri Wi Rk Wk : List BId) : Prop := (∀ b ∈ Wi, b ∉ Rk ∧ b ∉ Wk) ∧ ∀ b ∈ Wk, b ∉ Ri
def confA (pre : List (List Nat)) (k : Nat) (Rk Wk : List BId) : List (Nat × List BId × List BId) → Prop
  | [] => True
  | (i, Ri, Wi) :: r => (if (pre.getD k []).contains i then True else disjP Ri Wi Rk Wk) ∧ confA pre k Rk Wk r

def WD (P : Program) (ns : BId) (t : Nat) (ops : Array Oper) (pre : List (List Nat)) : Nat → List Oper → List (Nat × List BId × List BId) → (Nat → AV) → Heap → ((Nat → AV) → Heap → Prop) → Prop
  | _, [], _, tm, h, K => K tm h
  | k, o :: rest, acc, tm, h, K =>
    gW ops tm o.guard (∃ v R W, OpF P (k :: t :: ns) o (evalA (mask ops o tm)) R v W ∧ Reads h R ∧ confA pre k (R.map (·.1)) (W.map (·.1)) acc ∧
        WD P ns t ops pre (k + 1) rest ((k, R.map (·.1), W.map (·.1)) :: acc) (putO tm o.dst v) (upd h W) K)
      (WD P ns t ops pre (k + 1) rest acc (putO tm o.dst (.p undef)) h K)

/-! ### what was done, whatever the order -/
structure TRec where
  dst : Option Nat
  v : AV
  R : List (BId × Blk)
  W : List (BId × Option Blk)

def tmD (tm0 : Nat → AV) (recs : List TRec) (D : Nat → Bool) : Nat → (Nat → AV)
  | 0 => tm0
  | k + 1 => match recs[k]? with
    | some r => if D k then putO (tmD tm0 recs D k) r.dst r.v else tmD tm0 recs D k
    | none => tmD tm0 recs D k
def hD (h0 : Heap) (recs : List TRec) (D : Nat → Bool) : Nat → Heap
  | 0 => h0
  | k + 1 => match recs[k]? with
    | some r => if D k then upd (hD h0 recs D k) r.W else hD h0 recs D k
    | none => hD h0 recs D k
def allD : Nat → Bool := fun _ => true

def guardT (ops : Array Oper) (tm : Nat → AV) (g : Option (Nat × Bool)) : Prop :=
  match g with
  | none => True
  | some (j, want) => ∃ d, (ops[j]?).bind (·.dst) = some d ∧ tm d = .p (.bool want)
def guardF (ops : Array Oper) (tm : Nat → AV) (g : Option (Nat × Bool)) : Prop :=
  ∃ j want d, g = some (j, want) ∧ (ops[j]?).bind (·.dst) = some d ∧ (tm d = .p (.bool (!want)) ∨ ∃ vs, tm d = .p (.tuple vs))

structure Good (P : Program) (ns : BId) (t : Nat) (ops : Array Oper) (pre : List (List Nat)) (tm0 : Nat → AV) (h0 : Heap) (recs : List TRec) (k : Nat) (o : Oper) (r : TRec) : Prop where
  dst : r.dst = o.dst
  wok : ∀ q ∈ r.W, (∃ y, (q.1, y) ∈ r.R) ∨ Under (k :: t :: ns) q.1
  rd : Reads (hD h0 recs allD k) r.R
  how : (guardT ops (tmD tm0 recs allD k) o.guard ∧ OpF P (k :: t :: ns) o (evalA (mask ops o (tmD tm0 recs allD k))) r.R r.v r.W) ∨ (guardF ops (tmD tm0 recs allD k) o.guard ∧ r.v = .p undef ∧ r.W = [])
  conf : ∀ i ri, i < k → recs[i]? = some ri → (pre.getD k []).contains i = false → disjP (ri.R.map (·.1)) (ri.W.map (·.1)) (r.R.map (·.1)) (r.W.map (·.1))

theorem tmD_append {tm0 : Nat → AV} {pr suf : List TRec} {D : Nat → Bool} : ∀ k, k ≤ pr.length → tmD tm0 (pr ++ suf) D k = tmD tm0 pr D k := by
  intro k
  induction k with
  | zero => intro _; rfl
  | succ k ih =>
    intro hk
    simp only [tmD]
    rw [ih (by omega), List.getElem?_append_left (by omega)]
theorem hD_append {h0 : Heap} {pr suf : List TRec} {D : Nat → Bool} : ∀ k, k ≤ pr.length → hD h0 (pr ++ suf) D k = hD h0 pr D k := by
  intro k
  induction k with
  | zero => intro _; rfl
  | succ k ih =>
    intro hk
    simp only [hD]
    rw [ih (by omega), List.getElem?_append_left (by omega)]

theorem confA_mem {pre : List (List Nat)} {k : Nat} {Rk Wk : List BId} : ∀ (acc : List (Nat × List BId × List BId)), confA pre k Rk Wk acc → ∀ i Ri Wi, (i, Ri, Wi) ∈ acc → (pre.getD k []).contains i = false → disjP Ri Wi Rk Wk := by
  intro acc
  induction acc with
  | nil => intro _ i Ri Wi h; cases h
  | cons e acc ih =>
    obtain ⟨i', Ri', Wi'⟩ := e
    intro h i Ri Wi hm hc
    rcases List.mem_cons.1 hm with hm | hm
    · cases hm
      have := h.1
      rw [if_neg (by rw [hc]; simp)] at this
      exact this
    · exact ih h.2 i Ri Wi hm hc
theorem disjP_nil_left {Rk Wk : List BId} : disjP [] [] Rk Wk := ⟨by simp, by simp⟩
theorem disjP_nil_right {Ri Wi : List BId} : disjP Ri Wi [] [] := ⟨by simp, by simp⟩

theorem WD_trace {P : Program} {ns : BId} {t : Nat} {ops : Array Oper} {pre : List (List Nat)} {tm0 : Nat → AV} {h0 : Heap} : ∀ (rest : List Oper) (prl : List TRec) (acc : List (Nat × List BId × List BId)) (tm : Nat → AV) (h : Heap) (K : (Nat → AV) → Heap → Prop),
    tm = tmD tm0 prl allD prl.length → h = hD h0 prl allD prl.length → (∀ i ri, prl[i]? = some ri → (ri.R = [] ∧ ri.W = []) ∨ (i, ri.R.map (·.1), ri.W.map (·.1)) ∈ acc) →
    WD P ns t ops pre prl.length rest acc tm h K →
    ∃ suf : List TRec, suf.length = rest.length ∧ (∀ j o, rest[j]? = some o → ∃ r, suf[j]? = some r ∧ Good P ns t ops pre tm0 h0 (prl ++ suf) (prl.length + j) o r) ∧
      K (tmD tm0 (prl ++ suf) allD (prl.length + rest.length)) (hD h0 (prl ++ suf) allD (prl.length + rest.length)) := by
  intro rest
  induction rest with
  | nil =>
    intro prl acc tm h K htm hh _ hw
    refine ⟨[], rfl, by simp, ?_⟩
    simp only [List.append_nil, List.length_nil, Nat.add_zero]
    rw [← htm, ← hh]; exact hw
  | cons o rest ih =>
    intro prl acc tm h K htm hh hacc hw
    unfold WD at hw
    -- one operation more
    have step : ∀ (r : TRec) (acc' : List (Nat × List BId × List BId)), r.dst = o.dst → (∀ q ∈ r.W, (∃ y, (q.1, y) ∈ r.R) ∨ Under (prl.length :: t :: ns) q.1) → Reads h r.R →
        ((guardT ops tm o.guard ∧ OpF P (prl.length :: t :: ns) o (evalA (mask ops o tm)) r.R r.v r.W) ∨ (guardF ops tm o.guard ∧ r.v = .p undef ∧ r.W = [])) →
        (∀ i ri, i < prl.length → prl[i]? = some ri → (pre.getD prl.length []).contains i = false → disjP (ri.R.map (·.1)) (ri.W.map (·.1)) (r.R.map (·.1)) (r.W.map (·.1))) →
        (∀ e ∈ acc, e ∈ acc') → ((r.R = [] ∧ r.W = []) ∨ (prl.length, r.R.map (·.1), r.W.map (·.1)) ∈ acc') → WD P ns t ops pre (prl.length + 1) rest acc' (putO tm o.dst r.v) (upd h r.W) K →
        ∃ suf : List TRec, suf.length = (o :: rest).length ∧ (∀ j o', (o :: rest)[j]? = some o' → ∃ r, suf[j]? = some r ∧ Good P ns t ops pre tm0 h0 (prl ++ suf) (prl.length + j) o' r) ∧
          K (tmD tm0 (prl ++ suf) allD (prl.length + (o :: rest).length)) (hD h0 (prl ++ suf) allD (prl.length + (o :: rest).length)) := by
      intro r acc' h1 h2 h3 h4 h5 h6 h7 h8
      have hget : (prl ++ [r])[prl.length]? = some r := by simp
      have ht' : putO tm o.dst r.v = tmD tm0 (prl ++ [r]) allD (prl ++ [r]).length := by
        rw [List.length_append, List.length_singleton]
        simp only [tmD, hget]
        rw [if_pos (show allD prl.length = true from rfl), tmD_append _ (Nat.le_refl _), ← h1, htm]
      have hh' : upd h r.W = hD h0 (prl ++ [r]) allD (prl ++ [r]).length := by
        rw [List.length_append, List.length_singleton]
        simp only [hD, hget]
        rw [if_pos (show allD prl.length = true from rfl), hD_append _ (Nat.le_refl _), hh]
      have hacc' : ∀ i ri, (prl ++ [r])[i]? = some ri → (ri.R = [] ∧ ri.W = []) ∨ (i, ri.R.map (·.1), ri.W.map (·.1)) ∈ acc' := by
        intro i ri hi
        by_cases hlt : i < prl.length
        · rw [List.getElem?_append_left hlt] at hi
          exact (hacc i ri hi).imp id (h6 _)
        · have hle := (List.getElem?_eq_some_iff.1 hi).1
          simp at hle
          have : i = prl.length := by omega
          subst this
          rw [hget] at hi; cases hi; exact h7
      obtain ⟨suf, k1, k2, k3⟩ := ih (prl ++ [r]) acc' _ _ K ht' hh' hacc' (by rw [List.length_append, List.length_singleton]; exact h8)
      rw [List.append_assoc, List.singleton_append] at k2 k3
      rw [List.length_append, List.length_singleton] at k2 k3
      refine ⟨r :: suf, by simp [k1], ?_, ?_⟩
      · intro j o' hj
        cases j with
        | zero =>
          simp at hj
          subst hj
          refine ⟨r, rfl, ?_⟩
          rw [Nat.add_zero]
          refine ⟨h1, h2, ?_, ?_, ?_⟩
          · rw [hD_append _ (Nat.le_refl _), ← hh]; exact h3
          · rw [tmD_append _ (Nat.le_refl _), ← htm]; exact h4
          · intro i ri hi hri hc
            rw [List.getElem?_append_left hi] at hri
            exact h5 i ri hi hri hc
        | succ j =>
          simp at hj
          obtain ⟨r', q1, q2⟩ := k2 j o' hj
          refine ⟨r', by simpa using q1, ?_⟩
          rw [show prl.length + (j + 1) = prl.length + 1 + j by omega]; exact q2
      · rw [show prl.length + (o :: rest).length = prl.length + 1 + rest.length by simp only [List.length_cons]; omega]; exact k3
    have doit : guardT ops tm o.guard → (∃ v R W, OpF P (prl.length :: t :: ns) o (evalA (mask ops o tm)) R v W ∧ Reads h R ∧ confA pre prl.length (R.map (·.1)) (W.map (·.1)) acc ∧
        WD P ns t ops pre (prl.length + 1) rest ((prl.length, R.map (·.1), W.map (·.1)) :: acc) (putO tm o.dst v) (upd h W) K) → ∃ suf : List TRec, suf.length = (o :: rest).length ∧ (∀ j o', (o :: rest)[j]? = some o' → ∃ r, suf[j]? = some r ∧ Good P ns t ops pre tm0 h0 (prl ++ suf) (prl.length + j) o' r) ∧
          K (tmD tm0 (prl ++ suf) allD (prl.length + (o :: rest).length)) (hD h0 (prl ++ suf) allD (prl.length + (o :: rest).length)) := by
      rintro hg ⟨v, R, W, q1, q2, q3, q4⟩
      exact step ⟨o.dst, v, R, W⟩ _ rfl q1.wok q2 (.inl ⟨hg, q1⟩) (fun i ri hi hri hc => (hacc i ri hri).elim (fun e => by rw [e.1, e.2]; exact disjP_nil_left) (fun hm => confA_mem acc q3 _ _ _ hm hc))
        (fun e he => List.mem_cons_of_mem _ he) (.inr List.mem_cons_self) q4
    have skip : guardF ops tm o.guard → WD P ns t ops pre (prl.length + 1) rest acc (putO tm o.dst (.p undef)) h K → ∃ suf : List TRec, suf.length = (o :: rest).length ∧ (∀ j o', (o :: rest)[j]? = some o' → ∃ r, suf[j]? = some r ∧ Good P ns t ops pre tm0 h0 (prl ++ suf) (prl.length + j) o' r) ∧
          K (tmD tm0 (prl ++ suf) allD (prl.length + (o :: rest).length)) (hD h0 (prl ++ suf) allD (prl.length + (o :: rest).length)) := by
      intro hg q
      exact step ⟨o.dst, .p undef, [], []⟩ acc rfl (by simp) trivial (.inr ⟨hg, rfl, rfl⟩) (fun i ri hi hri hc => disjP_nil_right) (fun e he => he) (.inl ⟨rfl, rfl⟩) q
    cases hg : o.guard with
    | none =>
      simp only [hg, gW] at hw
      exact doit (by rw [hg]; trivial) hw
    | some jw =>
      obtain ⟨j, want⟩ := jw
      simp only [hg, gW] at hw
      cases hd : (ops[j]?).bind (·.dst) with
      | none => simp only [hd] at hw
      | some d =>
        simp only [hd] at hw
        cases hv : tm d with
        | p v =>
          simp only [hv] at hw
          cases v with
          | bool b =>
            simp only at hw
            by_cases hb : b = want
            · exact doit (by rw [hg]; exact ⟨d, hd, by rw [hv, hb]⟩) (hw.1 hb)
            · have hb' : b = !want := by cases b <;> cases want <;> simp_all
              exact skip ⟨j, want, d, hg, hd, .inl (by rw [hv, hb'])⟩ (hw.2 hb')
          | tuple vs =>
            simp only at hw
            exact skip ⟨j, want, d, hg, hd, .inr ⟨vs, hv⟩⟩ hw
          | _ => simp only at hw
        | _ => simp only [hv] at hw

/-! ### any order -/
section
variable {ops : Array Oper} {pre : List (List Nat)} {tm0 : Nat → AV} {h0 : Heap} {recs : List TRec} {D : Nat → Bool}

/-- What the slots hold does not hang on what was not written. -/
theorem tmD_eq {d i n : Nat} (hin : i ≤ n) (hlo : ∀ k r, k < i → recs[k]? = some r → r.dst = some d → D k = true) (hhi : ∀ k r, i ≤ k → recs[k]? = some r → r.dst = some d → D k = false) : tmD tm0 recs D n d = tmD tm0 recs allD i d := by
  have h1 : ∀ k, k ≤ i → tmD tm0 recs D k d = tmD tm0 recs allD k d := by
    intro k
    induction k with
    | zero => intro _; rfl
    | succ k ih =>
      intro hk
      simp only [tmD]
      cases hr : recs[k]? with
      | none => simp only; exact ih (by omega)
      | some r =>
        simp only
        rw [if_pos (show allD k = true from rfl)]
        by_cases hd : r.dst = some d
        · rw [if_pos (hlo k r (by omega) hr hd), hd]
          simp [putO, put]
        · have e : ∀ (f : Nat → AV), putO f r.dst r.v d = f d := by
            intro f
            cases hq : r.dst with
            | none => rfl
            | some x =>
              simp only [putO, put]
              rw [if_neg (fun e => hd (by rw [hq, e]))]
          rw [e]
          split
          · rw [e]; exact ih (by omega)
          · exact ih (by omega)
  have h2 : ∀ k, i ≤ k → tmD tm0 recs D k d = tmD tm0 recs D i d := by
    intro k hk
    induction k with
    | zero => have : i = 0 := by omega
              subst this; rfl
    | succ k ih =>
      by_cases hik : i = k + 1
      · subst hik; rfl
      · simp only [tmD]
        cases hr : recs[k]? with
        | none => simp only; exact ih (by omega)
        | some r =>
          simp only
          by_cases hd : r.dst = some d
          · rw [if_neg (by rw [hhi k r (by omega) hr hd]; simp)]; exact ih (by omega)
          · have e : ∀ (f : Nat → AV), putO f r.dst r.v d = f d := by
              intro f
              cases hq : r.dst with
              | none => rfl
              | some x =>
                simp only [putO, put]
                rw [if_neg (fun e => hd (by rw [hq, e]))]
            split
            · rw [e]; exact ih (by omega)
            · exact ih (by omega)
  rw [h2 n hin, h1 i (Nat.le_refl _)]

theorem upd_at {h h' : Heap} {b : BId} : ∀ (W : List (BId × Option Blk)), b ∈ W.map (·.1) ∨ h b = h' b → upd h W b = upd h' W b := by
  intro W
  induction W generalizing h h' with
  | nil =>
    intro hb
    rcases hb with hb | hb
    · simp at hb
    · exact hb
  | cons q W ih =>
    obtain ⟨c, x⟩ := q
    intro hb
    simp only [upd]
    refine ih ?_
    by_cases hcb : b = c
    · exact .inr (by simp [hset, hcb])
    · rcases hb with hb | hb
      · simp at hb
        rcases hb with hb | hb
        · exact absurd hb hcb
        · exact .inl (by simpa using hb)
      · exact .inr (by simp [hset, hcb, hb])
theorem upd_out {h : Heap} {b : BId} {W : List (BId × Option Blk)} (hb : b ∉ W.map (·.1)) : upd h W b = h b :=
  upd_far (fun q hq e => hb (e ▸ List.mem_map_of_mem hq))

theorem hD_eq {b : BId} {i n : Nat} (hin : i ≤ n) (hlo : ∀ k r, k < i → recs[k]? = some r → b ∈ r.W.map (·.1) → D k = true) (hhi : ∀ k r, i ≤ k → recs[k]? = some r → b ∈ r.W.map (·.1) → D k = false) : hD h0 recs D n b = hD h0 recs allD i b := by
  have h1 : ∀ k, k ≤ i → hD h0 recs D k b = hD h0 recs allD k b := by
    intro k
    induction k with
    | zero => intro _; rfl
    | succ k ih =>
      intro hk
      simp only [hD]
      cases hr : recs[k]? with
      | none => simp only; exact ih (by omega)
      | some r =>
        simp only
        rw [if_pos (show allD k = true from rfl)]
        by_cases hd : b ∈ r.W.map (·.1)
        · rw [if_pos (hlo k r (by omega) hr hd)]
          exact upd_at _ (.inl hd)
        · rw [upd_out hd]
          split
          · rw [upd_out hd]; exact ih (by omega)
          · exact ih (by omega)
  have h2 : ∀ k, i ≤ k → hD h0 recs D k b = hD h0 recs D i b := by
    intro k hk
    induction k with
    | zero => have : i = 0 := by omega
              subst this; rfl
    | succ k ih =>
      by_cases hik : i = k + 1
      · subst hik; rfl
      · simp only [hD]
        cases hr : recs[k]? with
        | none => simp only; exact ih (by omega)
        | some r =>
          simp only
          by_cases hd : b ∈ r.W.map (·.1)
          · rw [if_neg (by rw [hhi k r (by omega) hr hd]; simp)]; exact ih (by omega)
          · split
            · rw [upd_out hd]; exact ih (by omega)
            · exact ih (by omega)
  rw [h2 n hin, h1 i (Nat.le_refl _)]

/-- One more was done. -/
def addD (D : Nat → Bool) (i : Nat) : Nat → Bool := fun j => if j = i then true else D j
theorem tmD_add {i n : Nat} {ri : TRec} (hin : i < n) (hri : recs[i]? = some ri) (hDi : D i = false) (hhi : ∀ k r d, i < k → recs[k]? = some r → r.dst = some d → ri.dst = some d → D k = false) :
    tmD tm0 recs (addD D i) n = putO (tmD tm0 recs D n) ri.dst ri.v := by
  have h1 : ∀ k, k ≤ i → tmD tm0 recs (addD D i) k = tmD tm0 recs D k := by
    intro k
    induction k with
    | zero => intro _; rfl
    | succ k ih =>
      intro hk
      simp only [tmD]
      have : addD D i k = D k := by simp [addD]; omega
      rw [this, ih (by omega)]
  have h2 : ∀ k, i < k → tmD tm0 recs (addD D i) k = putO (tmD tm0 recs D k) ri.dst ri.v := by
    intro k hk
    induction k with
    | zero => omega
    | succ k ih =>
      by_cases hik : i = k
      · subst hik
        simp only [tmD, hri, hDi]
        rw [h1 i (Nat.le_refl _)]
        simp [addD]
      · simp only [tmD]
        have hadd : addD D i k = D k := by simp [addD]; omega
        rw [hadd, ih (by omega)]
        cases hr : recs[k]? with
        | none => rfl
        | some r =>
          simp only
          split
          · rename_i hDk
            funext x
            cases hd : r.dst with
            | none => cases hd2 : ri.dst <;> rfl
            | some d =>
              cases hd2 : ri.dst with
              | none => rfl
              | some d2 =>
                have hne : d ≠ d2 := fun e => by
                  have := hhi k r d (by omega) hr hd (by rw [hd2, e])
                  rw [hDk] at this; cases this
                simp only [putO, put]
                by_cases c1 : x = d
                · rw [if_pos c1, if_neg (fun e => hne (c1.symm.trans e)), if_pos c1]
                · rw [if_neg c1]
                  by_cases c2 : x = d2
                  · rw [if_pos c2, if_pos c2]
                  · rw [if_neg c2, if_neg c2, if_neg c1]
          · rfl
  exact h2 n hin
theorem hD_add {i n : Nat} {ri : TRec} (hin : i < n) (hri : recs[i]? = some ri) (hDi : D i = false) (hhi : ∀ k r b, i < k → recs[k]? = some r → b ∈ r.W.map (·.1) → b ∈ ri.W.map (·.1) → D k = false) :
    hD h0 recs (addD D i) n = upd (hD h0 recs D n) ri.W := by
  have h1 : ∀ k, k ≤ i → hD h0 recs (addD D i) k = hD h0 recs D k := by
    intro k
    induction k with
    | zero => intro _; rfl
    | succ k ih =>
      intro hk
      simp only [hD]
      have : addD D i k = D k := by simp [addD]; omega
      rw [this, ih (by omega)]
  have h2 : ∀ k, i < k → hD h0 recs (addD D i) k = upd (hD h0 recs D k) ri.W := by
    intro k hk
    induction k with
    | zero => omega
    | succ k ih =>
      by_cases hik : i = k
      · subst hik
        simp only [hD, hri, hDi]
        rw [h1 i (Nat.le_refl _)]
        simp [addD]
      · simp only [hD]
        have hadd : addD D i k = D k := by simp [addD]; omega
        rw [hadd, ih (by omega)]
        cases hr : recs[k]? with
        | none => rfl
        | some r =>
          simp only
          split
          · rename_i hDk
            funext b
            by_cases hb : b ∈ r.W.map (·.1)
            · have hb2 : b ∉ ri.W.map (·.1) := fun e => by
                have := hhi k r b (by omega) hr hb e
                rw [hDk] at this; cases this
              rw [upd_out hb2]
              exact upd_at _ (.inl hb)
            · rw [upd_out hb]
              by_cases hb2 : b ∈ ri.W.map (·.1)
              · exact upd_at _ (.inl hb2)
              · rw [upd_out hb2, upd_out hb2, upd_out hb]
          · rfl
  exact h2 n hin

theorem getD_all {n : Nat} {p : Nat → Bool} (h : (List.range n).all p = true) {k : Nat} (hk : k < n) : p k = true := List.all_eq_true.1 h k (List.mem_range.2 hk)

/-- What is done is closed under what stands ahead. -/
theorem pre_closed (he : edgesOk ops = true) (hp : preOk ops pre = true) {listed : Array Bool} (hc : ∀ k o, listed.getD k false = true → ops[k]? = some o → ∀ e ∈ o.after, Region.binds .any e = true → listed.getD e.on false = true) :
    ∀ k i, k < ops.size → listed.getD k false = true → (pre.getD k []).contains i = true → listed.getD i false = true := by
  intro k
  induction k using Nat.strongRecOn with
  | _ k ih =>
    intro i hk hl hi
    have h1 := getD_all hp hk
    have ho : ops[k]? = some ops[k] := by simp [hk]
    have h2 := List.all_eq_true.1 h1 i (by simpa using hi)
    rw [ho] at h2
    simp only at h2
    obtain ⟨e, hem, heb⟩ := List.any_eq_true.1 h2
    simp only [Bool.and_eq_true, Bool.or_eq_true, beq_iff_eq] at heb
    have hon := hc k _ hl ho e (by simpa using hem) heb.1
    rcases heb.2 with rfl | hin
    · exact hon
    · have h3 := getD_all he hk
      rw [ho] at h3
      simp only at h3
      have h4 := List.all_eq_true.1 h3 e hem
      simp only [Bool.or_eq_true, Bool.not_eq_true', decide_eq_true_eq] at h4
      have hlt : e.on < k := h4.resolve_left (by rw [heb.1]; simp)
      exact ih e.on hlt i (by omega) hon hin

structure RelD (P : Program) (n : Nat) (ns : BId) (t : Nat) (ops : Array Oper) (tm0 : Nat → AV) (h0 : Heap) (recs : List TRec) (D : Nat → Bool) (g : Gh) (w : World) (a : Act) : Prop where
  size : a.tmps.size = n
  tm : ∀ d, Rep g w (tmD tm0 recs D ops.size d) (a.tmps.getD d undef)
  inv : Inv g w (hD h0 recs D ops.size)
  frk : ∀ j, j < ops.size → D j = false → FrG g (j :: t :: ns)
  frt : ∀ t', t < t' → FrG g (t' :: ns)
  df : a.defers = []

theorem any_sound {P : Program} {n : Nat} {ns : BId} {t : Nat} (hok : drawOk ops pre = true) (hsl : slotsOk n ops.toList = true) (hrl : recs.length = ops.size)
    (hgood : ∀ j o, ops[j]? = some o → ∃ r, recs[j]? = some r ∧ Good P ns t ops pre tm0 h0 recs j o r) {g0 : Gh} {w0 : World} {Q : Exit → Act → World → Prop}
    (hQ : ∀ g w a, Ext g0 w0 g w → Loc (t :: ns) g0 g → RelD P n ns t ops tm0 h0 recs allD g w a → Q .normal a w) :
    ∀ (fuel : Nat) (listed : Array Bool) (g : Gh) (w : World) (a : Act), listed.size = ops.size → (List.range ops.size).countP (fun k => !listed.getD k false) ≤ fuel →
      (∀ k o, listed.getD k false = true → ops[k]? = some o → ∀ e ∈ o.after, Region.binds .any e = true → listed.getD e.on false = true) →
      Ext g0 w0 g w → Loc (t :: ns) g0 g → RelD P n ns t ops tm0 h0 recs (fun k => listed.getD k false) g w a → wpAny P .any ops Q fuel listed a w := by
  simp only [drawOk, Bool.and_eq_true] at hok
  obtain ⟨⟨hedges, hpre⟩, hslots⟩ := hok
  -- all was done
  have fin : ∀ (listed : Array Bool) (g : Gh) (w : World) (a : Act), (∀ k, k < ops.size → listed.getD k false = true) → Ext g0 w0 g w → Loc (t :: ns) g0 g → RelD P n ns t ops tm0 h0 recs (fun k => listed.getD k false) g w a → Q .normal a w := by
    intro listed g w a hall hx hl hR
    refine hQ g w a hx hl ⟨hR.size, fun d => ?_, ?_, fun j hj hD => ?_, hR.frt, hR.df⟩
    · have := hR.tm d
      rw [tmD_eq (i := ops.size) (Nat.le_refl _) (fun k r hk _ _ => hall k hk) (fun k r hk hr _ => by have := (List.getElem?_eq_some_iff.1 hr).1; omega)] at this
      exact this
    · have he : hD h0 recs (fun k => listed.getD k false) ops.size = hD h0 recs allD ops.size := by
        funext b
        exact hD_eq (Nat.le_refl _) (fun k r hk _ _ => hall k hk) (fun k r hk hr _ => by have := (List.getElem?_eq_some_iff.1 hr).1; omega)
      rw [← he]; exact hR.inv
    · cases hD
  -- nothing is ready: all was done
  have none_ready : ∀ (listed : Array Bool), listed.size = ops.size → Region.ready .any ops listed = [] → ∀ k, k < ops.size → listed.getD k false = true := by
    intro listed hsz hr k
    induction k using Nat.strongRecOn with
    | _ k ih =>
      intro hk
      cases hc : listed.getD k false with
      | true => rfl
      | false =>
        have hm : k ∈ Region.ready .any ops listed := by
          rw [mem_ready]
          refine ⟨?_, ops[k], by simp [hk], fun e he hb => ?_⟩
          · rw [Array.getD_eq_getD_getElem?] at hc ⊢
            have : listed[k]? = some listed[k] := by simp [hsz, hk]
            rw [this] at hc ⊢
            exact hc
          · have h3 := getD_all hedges hk
            have ho : ops[k]? = some ops[k] := by simp [hk]
            rw [ho] at h3
            simp only at h3
            have h4 := List.all_eq_true.1 h3 e (by simpa using he)
            simp only [Bool.or_eq_true, Bool.not_eq_true', decide_eq_true_eq] at h4
            have hlt : e.on < k := h4.resolve_left (by rw [hb]; simp)
            exact ih e.on hlt (by omega)
        rw [hr] at hm; cases hm
  intro fuel
  induction fuel with
  | zero =>
    intro listed g w a hsz hcnt hcl hx hl hR
    have hall : ∀ k, k < ops.size → listed.getD k false = true := by
      intro k hk
      have h0 : (List.range ops.size).countP (fun k => !listed.getD k false) = 0 := by omega
      have := List.countP_eq_zero.1 h0 k (List.mem_range.2 hk)
      simpa using this
    refine ⟨?_, fin listed g w a hall hx hl hR⟩
    cases hr : Region.ready .any ops listed with
    | nil => rfl
    | cons i rs =>
      have hm : i ∈ Region.ready .any ops listed := by rw [hr]; exact List.mem_cons_self
      rw [mem_ready] at hm
      obtain ⟨h1, o, ho, _⟩ := hm
      have hi := (Array.getElem?_eq_some_iff.1 ho).1
      have := hall i hi
      rw [Array.getD_eq_getD_getElem?] at this h1
      have e : listed[i]? = some listed[i] := by simp [hsz, hi]
      rw [e] at this h1
      simp at this h1
      rw [this] at h1; cases h1
  | succ fuel ih =>
    intro listed g w a hsz hcnt hcl hx hl hR
    refine ⟨fun hr => fin listed g w a (none_ready listed hsz hr) hx hl hR, fun i hi => ?_⟩
    rw [mem_ready] at hi
    obtain ⟨hli, o, ho, hready⟩ := hi
    have hin : i < ops.size := (Array.getElem?_eq_some_iff.1 ho).1
    obtain ⟨r, hr, hG⟩ := hgood i o ho
    have hDi : listed.getD i false = false := by
      rw [Array.getD_eq_getD_getElem?] at hli ⊢
      have e : listed[i]? = some listed[i] := by simp [hsz, hin]
      rw [e] at hli ⊢
      exact hli
    have hdstops : ∀ (k : Nat) (rk : TRec), recs[k]? = some rk → ∃ ok : Oper, ops[k]? = some ok ∧ rk.dst = ok.dst := by
      intro k rk hk
      have hlt : k < ops.size := by rw [← hrl]; exact (List.getElem?_eq_some_iff.1 hk).1
      obtain ⟨rk', h1, h2⟩ := hgood k ops[k] (by simp [hlt])
      rw [hk] at h1; cases h1
      exact ⟨ops[k], by simp [hlt], h2.dst⟩
    -- what stands ahead of i was done; what i stands ahead of was not
    have ahead : ∀ k, (pre.getD i []).contains k = true → listed.getD k false = true := by
      intro k hk
      have h1 := getD_all hpre hin
      have h2 := List.all_eq_true.1 h1 k (by simpa using hk)
      rw [ho] at h2
      simp only at h2
      obtain ⟨e, hem, heb⟩ := List.any_eq_true.1 h2
      simp only [Bool.and_eq_true, Bool.or_eq_true, beq_iff_eq] at heb
      have hon := hready e (by simpa using hem) heb.1
      rcases heb.2 with rfl | hin2
      · exact hon
      · have h3 := getD_all hedges hin
        rw [ho] at h3
        simp only at h3
        have h4 := List.all_eq_true.1 h3 e hem
        simp only [Bool.or_eq_true, Bool.not_eq_true', decide_eq_true_eq] at h4
        have hlt : e.on < i := h4.resolve_left (by rw [heb.1]; simp)
        exact pre_closed hedges hpre hcl e.on k (by omega) hon hin2
    have behind : ∀ k, k < ops.size → (pre.getD k []).contains i = true → listed.getD k false = false := by
      intro k hk hki
      cases hc : listed.getD k false with
      | false => rfl
      | true =>
        have := pre_closed hedges hpre hcl k i hk hc hki
        rw [hDi] at this; cases this
    -- slots
    have slot : ∀ d, d ∈ o.looksAt ops → tmD tm0 recs (fun k => listed.getD k false) ops.size d = tmD tm0 recs allD i d := by
      intro d hd
      refine tmD_eq (by omega) (fun k rk hk hrk hdk => ?_) (fun k rk hk hrk hdk => ?_)
      · obtain ⟨ok, hok', hdst⟩ := hdstops k rk hrk
        have h1 := getD_all hslots hin
        have h2 := List.all_eq_true.1 h1 k (List.mem_range.2 hk)
        simp only [Bool.or_eq_true] at h2
        rcases h2 with h2 | h2
        · exact ahead k h2
        · rw [hok', ho] at h2
          simp only [← hdst, hdk, Bool.and_eq_true, Bool.not_eq_true'] at h2
          have := h2.1.1
          rw [List.contains_eq_mem, decide_eq_false_iff_not] at this
          exact absurd hd this
      · by_cases hki : k = i
        · subst hki; exact hDi
        · obtain ⟨ok, hok', hdst⟩ := hdstops k rk hrk
          have hkn := (Array.getElem?_eq_some_iff.1 hok').1
          have h1 := getD_all hslots hkn
          have h2 := List.all_eq_true.1 h1 i (List.mem_range.2 (by omega))
          simp only [Bool.or_eq_true] at h2
          rcases h2 with h2 | h2
          · exact behind k hkn h2
          · rw [hok', ho] at h2
            simp only [← hdst, hdk, Bool.and_eq_true, Bool.not_eq_true'] at h2
            have := h2.2
            rw [List.contains_eq_mem, decide_eq_false_iff_not] at this
            exact absurd hd this
    have hmask : ∀ x, Rep g w (evalA (mask ops o (tmD tm0 recs allD i)) x) (a.eval x) := by
      refine eval_rep fun d => ?_
      unfold mask
      split
      · rename_i hd
        rw [List.contains_eq_mem, decide_eq_true_eq] at hd
        rw [← slot d hd]; exact hR.tm d
      · exact .top _
    -- the heap
    have hreads : Reads (hD h0 recs (fun k => listed.getD k false) ops.size) r.R := by
      have key : ∀ b ∈ r.R.map (·.1), hD h0 recs (fun k => listed.getD k false) ops.size b = hD h0 recs allD i b := by
        intro b hb
        refine hD_eq (by omega) (fun k rk hk hrk hbk => ?_) (fun k rk hk hrk hbk => ?_)
        · cases hc : (pre.getD i []).contains k with
          | true => exact ahead k hc
          | false => exact absurd hb ((hG.conf k rk hk hrk hc).1 b hbk).1
        · by_cases hki : k = i
          · subst hki; exact hDi
          · have hkn : k < ops.size := by rw [← hrl]; exact (List.getElem?_eq_some_iff.1 hrk).1
            obtain ⟨rk', h1, h2⟩ := hgood k ops[k] (by simp [hkn])
            rw [hrk] at h1; cases h1
            cases hc : (pre.getD k []).contains i with
            | true => exact behind k hkn hc
            | false => exact absurd hb ((h2.conf i r (by omega) hr hc).2 b hbk)
      have trans : ∀ (R : List (BId × Blk)), (∀ b ∈ R.map (·.1), hD h0 recs (fun k => listed.getD k false) ops.size b = hD h0 recs allD i b) → Reads (hD h0 recs allD i) R → Reads (hD h0 recs (fun k => listed.getD k false) ops.size) R := by
        intro R
        induction R with
        | nil => intro _ _; trivial
        | cons q R ihR =>
          obtain ⟨b, x⟩ := q
          intro hk hrd
          exact ⟨by rw [hk b (by simp)]; exact hrd.1, ihR (fun b' hb' => hk b' (by simp at hb' ⊢; exact .inr hb')) hrd.2⟩
      exact trans r.R key hG.rd
    -- what is done then
    have hadd : ∀ k, (listed.setIfInBounds i true).getD k false = addD (fun k => listed.getD k false) i k := by
      intro k
      unfold addD
      by_cases hk : k = i
      · subst hk
        rw [if_pos rfl, Array.getD_eq_getD_getElem?, Array.getElem?_setIfInBounds_self]
        simp [hsz, hin]
      · rw [if_neg hk]
        exact getD_set_ne false (Ne.symm hk)
    have hfun : (fun k => (listed.setIfInBounds i true).getD k false) = addD (fun k => listed.getD k false) i := funext hadd
    have htmadd : tmD tm0 recs (addD (fun k => listed.getD k false) i) ops.size = putO (tmD tm0 recs (fun k => listed.getD k false) ops.size) r.dst r.v := by
      refine tmD_add hin hr hDi (fun k rk d hk hrk h1 h2 => ?_)
      obtain ⟨ok, hok', hdst⟩ := hdstops k rk hrk
      have hkn := (Array.getElem?_eq_some_iff.1 hok').1
      have h3 := getD_all hslots hkn
      have h4 := List.all_eq_true.1 h3 i (List.mem_range.2 (by omega))
      simp only [Bool.or_eq_true] at h4
      rcases h4 with h4 | h4
      · exact behind k hkn h4
      · rw [hok', ho] at h4
        rw [hG.dst] at h2
        simp only [h2, ← hdst, h1, Bool.and_eq_true, Bool.not_eq_true'] at h4
        simp at h4
    have hhadd : hD h0 recs (addD (fun k => listed.getD k false) i) ops.size = upd (hD h0 recs (fun k => listed.getD k false) ops.size) r.W := by
      refine hD_add hin hr hDi (fun k rk b hk hrk h1 h2 => ?_)
      have hkn : k < ops.size := by rw [← hrl]; exact (List.getElem?_eq_some_iff.1 hrk).1
      obtain ⟨rk', h3, h4⟩ := hgood k ops[k] (by simp [hkn])
      rw [hrk] at h3; cases h3
      cases hc : (pre.getD k []).contains i with
      | true => exact behind k hkn hc
      | false => exact absurd h1 ((h4.conf i r (by omega) hr hc).1 b h2).2
    have hcnt' : (List.range ops.size).countP (fun k => !(listed.setIfInBounds i true).getD k false) ≤ fuel := by
      have hlt : (List.range ops.size).countP (fun k => !(listed.setIfInBounds i true).getD k false) < (List.range ops.size).countP (fun k => !listed.getD k false) := by
        have e1 : ∀ (l : List Nat), i ∈ l → (∀ k ∈ l, True) → l.countP (fun k => !(listed.setIfInBounds i true).getD k false) < l.countP (fun k => !listed.getD k false) := by
          intro l
          have mono : ∀ (l : List Nat), l.countP (fun k => !(listed.setIfInBounds i true).getD k false) ≤ l.countP (fun k => !listed.getD k false) := fun l => List.countP_mono_left (fun k _ hk => by
            rw [hadd k] at hk
            unfold addD at hk
            split at hk
            · simp at hk
            · exact hk)
          induction l with
          | nil => intro h; cases h
          | cons c l ihl =>
            intro hm _
            rw [List.countP_cons, List.countP_cons]
            by_cases hci : c = i
            · subst hci
              have := mono l
              have a1 : (!(listed.setIfInBounds c true).getD c false) = false := by rw [hadd c]; simp [addD]
              have a2 : (!listed.getD c false) = true := by rw [hDi]; rfl
              rw [a1, a2]
              simp only [Bool.false_eq_true, if_false, if_true]
              omega
            · have hm' : i ∈ l := by
                rcases List.mem_cons.1 hm with h | h
                · exact absurd h.symm hci
                · exact h
              have := ihl hm' (fun _ _ => trivial)
              have a1 : (listed.setIfInBounds i true).getD c false = listed.getD c false := getD_set_ne false (Ne.symm hci)
              rw [a1]
              split <;> omega
        exact e1 _ (List.mem_range.2 hin) (fun _ _ => trivial)
      omega
    have hcl' : ∀ k o, (listed.setIfInBounds i true).getD k false = true → ops[k]? = some o → ∀ e ∈ o.after, Region.binds .any e = true → (listed.setIfInBounds i true).getD e.on false = true := by
      intro k o' hk hok' e he hb
      by_cases hki : k = i
      · subst hki
        rw [ho] at hok'; cases hok'
        exact getD_set_true (hready e he hb)
      · rw [getD_set_ne false (Ne.symm hki)] at hk
        exact getD_set_true (hcl k o' hk hok' e he hb)
    have hdn : ∀ x, r.dst = some x → x < n := by
      intro x hx'
      rw [hG.dst] at hx'
      have := List.all_eq_true.1 hsl o (by have := Array.getElem?_eq_some_iff.1 ho; rw [← this.2]; simp)
      rw [hx'] at this
      simpa using this
    -- the next state
    have next : ∀ g' w' u, Ext g w g' w' → Loc (i :: t :: ns) g g' → Rep g' w' r.v u → Inv g' w' (upd (hD h0 recs (fun k => listed.getD k false) ops.size) r.W) → wpAny P .any ops Q fuel (listed.setIfInBounds i true) (a.put o.dst u) w' := by
      intro g' w' u hx' hl' hv hI'
      refine ih _ g' w' _ (by simp [hsz]) hcnt' hcl' (hx.trans hx') (hl.trans hl'.up) ?_
      rw [hfun]
      refine ⟨(size_put _ _ _).trans hR.size, ?_, by rw [hhadd]; exact hI', fun j hj hDj => ?_, fun t' ht => (hR.frt t' ht).loc hl'.up (by omega), (defers_put _ _ _).trans hR.df⟩
      · rw [htmadd, ← hG.dst]
        exact rep_put hR.size (fun d => (hR.tm d).mono hx') hdn hv
      · have hji : j ≠ i := fun e => by subst e; simp [addD] at hDj
        have hDj' : listed.getD j false = false := by simpa [addD, hji] using hDj
        exact (hR.frk j hj hDj').loc hl' hji
    unfold wpOp
    rw [ho]
    simp only
    have hguardrep : ∀ d v, tmD tm0 recs allD i d = .p v → (∃ j want, o.guard = some (j, want) ∧ (ops[j]?).bind (·.dst) = some d) → a.tmps.getD d undef = v := by
      rintro d v hv ⟨j, want, hg, hd⟩
      have hlook : d ∈ o.looksAt ops := by
        unfold Oper.looksAt
        rw [hg]
        refine List.mem_append_right _ ?_
        simp [hd]
      have := hR.tm d
      rw [slot d hlook, hv] at this
      exact rep_p this
    rcases hG.how with ⟨hgT, hop⟩ | ⟨hgF, hv, hW⟩
    · have hw : Region.wanted o (yielded ops a.tmps) = true := by
        unfold Region.wanted
        cases hg : o.guard with
        | none => rfl
        | some jw =>
          obtain ⟨j, want⟩ := jw
          rw [hg] at hgT
          obtain ⟨d, hd, hv⟩ := hgT
          have := hguardrep d _ hv ⟨j, want, hg, hd⟩
          simp only [yielded, hd, Option.bind_some]
          rw [Array.getD_eq_getD_getElem?] at this
          cases hx : a.tmps[d]? with
          | none => rw [hx] at this; simp [undef] at this
          | some y => rw [hx] at this; simp at this; rw [this]; simp
      rw [if_pos hw]
      refine .inl (hop.ok _ hreads g w a _ Q hmask hR.inv (hR.frk i hin hDi) ?_)
      exact next
    · have hw : Region.wanted o (yielded ops a.tmps) = false := by
        obtain ⟨j, want, d, hg, hd, hv'⟩ := hgF
        unfold Region.wanted
        rw [hg]
        simp only [yielded, hd, Option.bind_some]
        rcases hv' with hv' | ⟨vs, hv'⟩
        · have := hguardrep d _ hv' ⟨j, want, hg, hd⟩
          rw [Array.getD_eq_getD_getElem?] at this
          cases hx : a.tmps[d]? with
          | none => rw [hx] at this; simp [undef] at this
          | some y => rw [hx] at this; simp at this; rw [this]; cases want <;> simp
        · have := hguardrep d _ hv' ⟨j, want, hg, hd⟩
          rw [Array.getD_eq_getD_getElem?] at this
          cases hx : a.tmps[d]? with
          | none => simp
          | some y => rw [hx] at this; simp at this; rw [this]; simp
      rw [if_neg (by rw [hw]; simp)]
      refine next g w undef (Ext.refl _ _) (Loc.refl _ _) (by rw [hv]; exact .p _) (by rw [hW]; exact hR.inv)
end

section
variable {P : Program} {n : Nat} {ns : BId} {Q : Exit → SSt → Prop} {st : SSt}
theorem W_draw {id : Nat} {ops : Array Oper} (pre : List (List Nat)) (hm : P.follows .mixedOrders = true) (hok : drawOk ops pre = true) (hs : slotsOk n ops.toList = true)
    (h : WD P ns st.t ops pre 0 ops.toList [] st.tm st.h fun tm' h' => Q .normal ⟨tm', h', st.t + 1⟩) : W P n ns (.region id ops true) Q st := fun hf => by
  obtain ⟨recs, h1, h2, h3⟩ := WD_trace (tm0 := st.tm) (h0 := st.h) ops.toList [] [] st.tm st.h _ rfl rfl (by simp) h
  simp only [List.nil_append, List.length_nil, Nat.zero_add] at h2 h3
  have hlen : recs.length = ops.size := by rw [h1]; simp
  have hgood : ∀ j o, ops[j]? = some o → ∃ r, recs[j]? = some r ∧ Good P ns st.t ops pre st.tm st.h recs j o r := fun j o ho => h2 j o (by simpa using ho)
  rw [Array.length_toList] at h3
  have hF : ∀ t', st.t < t' → FrH (hD st.h recs allD ops.size) (t' :: ns) := by
    intro t' ht
    have key : ∀ k, k ≤ ops.size → FrH (hD st.h recs allD k) (t' :: ns) := by
      intro k
      induction k with
      | zero => intro _; exact hf t' (by omega)
      | succ k ih =>
        intro hk
        have ho : ops[k]? = some ops[k] := by simp [show k < ops.size by omega]
        obtain ⟨r, hr, hG⟩ := hgood k _ ho
        simp only [hD, hr]
        rw [if_pos (show allD k = true from rfl)]
        exact (ih (by omega)).upd hG.rd hG.wok (fun b hb hu => hb.ne (by omega) hu.up)
    exact key _ (Nat.le_refl _)
  refine ⟨.normal, ⟨tmD st.tm recs allD ops.size, hD st.h recs allD ops.size, st.t + 1⟩, fun g w a hR => ?_, fun t' ht => hF t' (by simp only at ht; omega), h3⟩
  refine wp_region_any hm ?_
  have hno : ∀ k, (Array.replicate ops.size false).getD k false = false := by
    intro k
    rw [Array.getD_eq_getD_getElem?, Array.getElem?_replicate]
    split <;> rfl
  obtain ⟨hx0, hI0⟩ := inv_same (w' := { w with drawn := w.drawn + 1 }) hR.inv rfl rfl rfl rfl
  refine any_sound (g0 := g) (w0 := w) (tm0 := st.tm) (h0 := st.h) hok hs hlen hgood ?_ ops.size _ g _ a (by simp) ?_ ?_ hx0 (Loc.refl _ _) ?_
  · intro g' w' a' hx hl hD'
    exact ⟨rfl, g', hx, hl.up, hD'.size, hD'.tm, hD'.inv, fun t' ht => hD'.frt t' (by simp only at ht; omega), hD'.df⟩
  · refine Nat.le_trans List.countP_le_length ?_
    simp
  · intro k o hk _ e _ _
    rw [hno] at hk; cases hk
  · have hfun : (fun k => (Array.replicate ops.size false).getD k false) = fun _ => false := funext hno
    rw [hfun]
    have e1 : ∀ k, tmD st.tm recs (fun _ => false) k = st.tm := by
      intro k
      induction k with
      | zero => rfl
      | succ k ih => simp only [tmD]; split <;> simp [ih]
    have e2 : ∀ k, hD st.h recs (fun _ => false) k = st.h := by
      intro k
      induction k with
      | zero => rfl
      | succ k ih => simp only [hD]; split <;> simp [ih]
    refine ⟨hR.size, fun d => by rw [e1]; exact (hR.tm d).mono hx0, by rw [e2]; exact hI0, fun j _ _ => (hR.fr st.t (Nat.le_refl _)).sub, fun t' ht => hR.fr t' (by omega), hR.df⟩
end
end Go.SX
