/- The steps of a region that draws its order. -/
import Derived.Test.YtmpndjpaelcnkaaSxJ
set_option linter.unusedVariables false
set_option linter.unusedSimpArgs false
namespace Go.SX
open Go

def StopD (P : Program) (id : BId) (op : Op) (tm : Nat → AV) (h : Heap) (K : AV → List BId → List (BId × Option Blk) → Prop) : Prop :=
  ∃ v R W, (∀ (o : Oper) (tm' : Nat → AV), o.op = op → (∀ x ∈ op.operands, evalA tm' x = evalA tm x) → OpF P id o (evalA tm') R v W) ∧ Reads h R ∧ K v (R.map (·.1)) W

def noH : Heap := fun _ => none
theorem reads_none {R : List (BId × Blk)} (h : Reads noH R) : R = [] := by
  cases R with
  | nil => rfl
  | cons q R => obtain ⟨b, x⟩ := q; exact absurd h.1 (by simp [noH])

def opD (P : Program) (id : BId) (op : Op) (tm : Nat → AV) (h : Heap) (K : AV → List BId → List (BId × Option Blk) → Prop) : Prop :=
  match op with
  | .load t x => loadW P t (evalA tm x) h (fun v => K v (ptrIds (evalA tm x)) [])
  | .store t a v => storeW P t (evalA tm a) (evalA tm v) h (fun W => K (.p undef) (ptrIds (evalA tm a)) W)
  | .move x => opW P id (.move x) tm noH fun v W => K v [] W
  | .assign x => opW P id (.assign x) tm noH fun v W => K v [] W
  | .pick c a b => opW P id (.pick c a b) tm noH fun v W => K v [] W
  | .alloc e => opW P id (.alloc e) tm noH fun v W => K v [] W
  | .box e x => opW P id (.box e x) tm noH fun v W => K v [] W
  | .build t ps => opW P id (.build t ps) tm noH fun v W => K v [] W
  | .buildSlice t n ps => opW P id (.buildSlice t n ps) tm noH fun v W => K v [] W
  | .nilCheck x => opW P id (.nilCheck x) tm noH fun v W => K v [] W
  | .binOp op t x y t2 => opW P id (.binOp op t x y t2) tm noH fun v W => K v [] W
  | .unOp op t x => opW P id (.unOp op t x) tm noH fun v W => K v [] W
  | .convert a b x => opW P id (.convert a b x) tm noH fun v W => K v [] W
  | .slice t x lo hi mx => opW P id (.slice t x lo hi mx) tm noH fun v W => K v [] W
  | .fieldAddr t x k => opW P id (.fieldAddr t x k) tm noH fun v W => K v [] W
  | .indexAddr t x i => opW P id (.indexAddr t x i) tm noH fun v W => K v [] W
  | .index t x i => opW P id (.index t x i) tm noH fun v W => K v [] W
  | .extract x k => opW P id (.extract x k) tm noH fun v W => K v [] W
  | .call c => match c with
    | { callee := .builtin .len, args, argTypes } => opW P id (.call { callee := .builtin .len, args, argTypes }) tm noH fun v W => K v [] W
    | { callee := .builtin .min, args, argTypes } => opW P id (.call { callee := .builtin .min, args, argTypes }) tm noH fun v W => K v [] W
    | { callee := .builtin .max, args, argTypes } => opW P id (.call { callee := .builtin .max, args, argTypes }) tm noH fun v W => K v [] W
    | _ => StopD P id op tm h K
  | _ => StopD P id op tm h K

theorem parts_congr {tm tm' : Nat → AV} {ps : Array (Nat × Operand)} (h : ∀ x ∈ (ps.toList.map (·.2)).toArray, evalA tm' x = evalA tm x) : partsA (evalA tm') ps.toList = partsA (evalA tm) ps.toList := by
  unfold partsA
  refine List.map_congr_left fun q hq => ?_
  rw [h q.2 (by simp only [List.mem_toArray, List.mem_map]; exact ⟨q, hq, rfl⟩)]

section
variable {P : Program} {id : BId} {o : Oper} {tm tm' : Nat → AV} {h : Heap} {K : AV → List BId → List (BId × Option Blk) → Prop}

theorem opD_sound (hx : ∀ x ∈ o.op.operands, evalA tm' x = evalA tm x) (hw : opD P id o.op tm h K) : ∃ v R W, OpF P id o (evalA tm') R v W ∧ Reads h R ∧ K v (R.map (·.1)) W := by
  generalize ho : o.op = op at hw hx
  -- an operation that looks at slots alone
  have pure_ : stopOp op = false → (opW P id op tm noH fun v W => K v [] W) = (opW P id op tm' noH fun v W => K v [] W) → (opW P id op tm noH fun v W => K v [] W) → ∃ v R W, OpF P id o (evalA tm') R v W ∧ Reads h R ∧ K v (R.map (·.1)) W := by
    intro hns e hq
    rw [e, ← ho] at hq
    obtain ⟨v, R, W, h1, h2, h3⟩ := opW_sound (by rw [ho]; exact hns) hq
    have := reads_none h2
    subst this
    exact ⟨v, [], W, h1, trivial, h3⟩
  have stop : StopD P id op tm h K → ∃ v R W, OpF P id o (evalA tm') R v W ∧ Reads h R ∧ K v (R.map (·.1)) W := fun ⟨v, R, W, h1, h2, h3⟩ => ⟨v, R, W, h1 o tm' ho hx, h2, h3⟩
  cases op with
  | load t x =>
    have ex := hx x (by simp [Op.operands])
    simp only [opD, ← ex] at hw
    obtain ⟨v, R, ⟨_, hid⟩, hr, hK, hs⟩ := load_sound hw
    refine ⟨v, R, [], opF_value fun g w act h2 hr2 hev hI => ?_, hr, by rw [hid]; exact hK⟩
    obtain ⟨r, _, h2', h3⟩ := hs g w h2 (act.eval x) hr2 hI (hev x)
    exact ⟨r, by simp only [execOp, ho, Sem.run_bind, h2', Result.andThen_ok, Sem.run_pure], h3⟩
  | store t a v =>
    have ea := hx a (by simp [Op.operands])
    have ev := hx v (by simp [Op.operands])
    simp only [opD, ← ea, ← ev] at hw
    obtain ⟨R, W, h1, h2, h3, h4⟩ := store_sound' ho hw
    exact ⟨_, R, W, h1, h2, by rw [h3]; exact h4⟩
  | move x => exact pure_ rfl (by simp only [opW, hx x (by simp [Op.operands])]) hw
  | assign x => exact pure_ rfl (by simp only [opW, hx x (by simp [Op.operands])]) hw
  | pick c a b => exact pure_ rfl (by simp only [opW, hx c (by simp [Op.operands]), hx a (by simp [Op.operands]), hx b (by simp [Op.operands])]) hw
  | alloc e => exact pure_ rfl rfl hw
  | box e x => exact pure_ rfl (by simp only [opW, hx x (by simp [Op.operands])]) hw
  | build t ps => exact pure_ rfl (by simp only [opW, parts_congr (ps := ps) hx]) hw
  | buildSlice t n ps => exact pure_ rfl (by simp only [opW, parts_congr (ps := ps) hx]) hw
  | nilCheck x => exact pure_ rfl (by simp only [opW, hx x (by simp [Op.operands])]) hw
  | binOp op t x y t2 => exact pure_ rfl (by simp only [opW, hx x (by simp [Op.operands]), hx y (by simp [Op.operands])]) hw
  | unOp op t x => exact pure_ rfl (by simp only [opW, hx x (by simp [Op.operands])]) hw
  | convert a b x => exact pure_ rfl (by simp only [opW, hx x (by simp [Op.operands])]) hw
  | slice t x lo hi mx =>
    have e1 : lo.map (evalA tm') = lo.map (evalA tm) := by cases lo with | none => rfl | some y => simp [hx y (by simp [Op.operands])]
    have e2 : hi.map (evalA tm') = hi.map (evalA tm) := by cases hi with | none => rfl | some y => simp [hx y (by simp [Op.operands])]
    have e3 : mx.map (evalA tm') = mx.map (evalA tm) := by cases mx with | none => rfl | some y => simp [hx y (by simp [Op.operands])]
    exact pure_ rfl (by simp only [opW, hx x (by simp [Op.operands]), e1, e2, e3]) hw
  | fieldAddr t x k => exact pure_ rfl (by simp only [opW, hx x (by simp [Op.operands])]) hw
  | indexAddr t x i => exact pure_ rfl (by simp only [opW, hx x (by simp [Op.operands]), hx i (by simp [Op.operands])]) hw
  | index t x i => exact pure_ rfl (by simp only [opW, hx x (by simp [Op.operands]), hx i (by simp [Op.operands])]) hw
  | extract x k => exact pure_ rfl (by simp only [opW, hx x (by simp [Op.operands])]) hw
  | call c =>
    obtain ⟨callee, args, argTypes⟩ := c
    have hargs : ∀ x ∈ args.toList, evalA tm' x = evalA tm x := fun x hm => hx x (by simp [Op.operands, Call.operands, Array.mem_toList_iff.1 hm])
    cases callee with
    | value f => exact stop hw
    | invoke r m => exact stop hw
    | builtin b =>
      cases b <;> try exact stop hw
      case len =>
        refine pure_ rfl ?_ hw
        simp only [opW]
        split
        · rename_i x t h1 h2
          rw [hargs x (by rw [h1]; simp)]
        · rfl
      case min =>
        refine pure_ rfl ?_ hw
        simp only [opW]
        split
        · rename_i x y h1
          rw [hargs x (by rw [h1]; simp), hargs y (by rw [h1]; simp)]
        · rfl
      case max =>
        refine pure_ rfl ?_ hw
        simp only [opW]
        split
        · rename_i x y h1
          rw [hargs x (by rw [h1]; simp), hargs y (by rw [h1]; simp)]
        · rfl
  | _ => exact stop hw
end

def WDf (P : Program) (ns : BId) (t : Nat) (ops : Array Oper) (pre : List (List Nat)) : Nat → List Oper → List (Nat × List BId × List BId) → (Nat → AV) → Heap → ((Nat → AV) → Heap → Prop) → Prop
  | _, [], _, tm, h, K => K tm h
  | k, o :: rest, acc, tm, h, K =>
    gW ops tm o.guard (opD P (k :: t :: ns) o.op tm h fun v Ri W => confA pre k Ri (W.map (·.1)) acc ∧
        WDf P ns t ops pre (k + 1) rest ((k, Ri, W.map (·.1)) :: acc) (putO tm o.dst v) (upd h W) K)
      (WDf P ns t ops pre (k + 1) rest acc (putO tm o.dst (.p undef)) h K)
theorem WD_of_WDf {P : Program} {ns : BId} {t : Nat} {ops : Array Oper} {pre : List (List Nat)} : ∀ (l : List Oper) (k : Nat) (acc : List (Nat × List BId × List BId)) (tm : Nat → AV) (h : Heap) (K : (Nat → AV) → Heap → Prop), WDf P ns t ops pre k l acc tm h K → WD P ns t ops pre k l acc tm h K := by
  intro l
  induction l with
  | nil => intro k acc tm h K hw; exact hw
  | cons o rest ih =>
    intro k acc tm h K hw
    unfold WDf at hw
    unfold WD
    refine gW_mono (fun ha => ?_) (fun hb => ih _ _ _ _ _ hb) hw
    have hx : ∀ x ∈ o.op.operands, evalA (mask ops o tm) x = evalA tm x := by
      intro x hx
      cases x with
      | tmp d =>
        simp only [evalA, mask]
        rw [if_pos]
        rw [List.contains_eq_mem, decide_eq_true_eq]
        unfold Oper.looksAt
        exact List.mem_append_left _ (List.mem_filterMap.2 ⟨.tmp d, by simpa using hx, rfl⟩)
      | _ => rfl
    obtain ⟨v, R, W, h1, h2, h3, h4⟩ := opD_sound hx ha
    exact ⟨v, R, W, h1, h2, h3, ih _ _ _ _ _ h4⟩
theorem W_drw {P : Program} {n : Nat} {ns : BId} {Q : Exit → SSt → Prop} {st : SSt} {id : Nat} {ops : Array Oper} (pre : List (List Nat)) (hm : P.follows .mixedOrders = true) (hok : drawOk ops pre = true) (hs : slotsOk n ops.toList = true)
    (h : WDf P ns st.t ops pre 0 ops.toList [] st.tm st.h fun tm' h' => Q .normal ⟨tm', h', st.t + 1⟩) : W P n ns (.region id ops true) Q st := W_draw pre hm hok hs (WD_of_WDf _ _ _ _ _ _ h)

theorem stopD_call {P : Program} {id : BId} {tm : Nat → AV} {h : Heap} {K : AV → List BId → List (BId × Option Blk) → Prop} {f : FuncId} {args : Array Operand} {ts : Array TypeId} {R : List (BId × Blk)} {v : AV} {W : List (BId × Option Blk)}
    (hc : CallF P f (args.toList.map (evalA tm)) id R v W) (hr : Reads h R) (hk : K v (R.map (·.1)) W) : StopD P id (.call { callee := .value (.func f), args := args, argTypes := ts }) tm h K := by
  refine ⟨v, R, W, fun o tm' ho hx => ?_, hr, hk⟩
  have hargs : args.toList.map (evalA tm') = args.toList.map (evalA tm) := List.map_congr_left fun x hm => hx x (by simp [Op.operands, Call.operands, Array.mem_toList_iff.1 hm])
  rw [← hargs] at hc
  exact call_opF hc ho

section
variable {P : Program} {id : BId} {tm : Nat → AV} {h : Heap} {K : AV → List BId → List (BId × Option Blk) → Prop} {s x : Operand} {t t2 : TypeId}
theorem stopD_append_fix (e : TypeId) (sz by_ n m : Nat) (cs ys : List AV) (he : elA P t = some e) (hsz : szA P e = some sz) (hby : byA P e = some by_) (hz : (zA P e).isSome = true) (hs : fullA (evalA tm s) = some (n, cs)) (hcl : cs.length = n * sz)
    (hx : srcA P t2 (evalA tm x) h = some (m, ys)) (hyl : ys.length = m * sz) (hb : (n + m) * by_ ≤ 140737488355328) (hm : n + m ≤ maxLen) (hk : K (appA (evalA tm s) m (.imm false (n + m) (cs ++ ys))) ((readsOf (evalA tm x) h).map (·.1)) []) :
    StopD P id (.call { callee := .builtin .append, args := #[s, x], argTypes := #[t, t2] }) tm h K := by
  refine ⟨_, _, _, fun o tm' ho hq => ?_, reads_of _ _, hk⟩
  have es := hq s (by simp [Op.operands, Call.operands]); have ex := hq x (by simp [Op.operands, Call.operands])
  rw [← es, ← ex]
  exact append_fix ho he hsz hby hz (by rw [es]; exact hs) hcl (by rw [ex]; exact hx) hyl hb hm
theorem stopD_append_new (e : TypeId) (sz by_ n m : Nat) (cs ys zs : List AV) (he : elA P t = some e) (hsz : szA P e = some sz) (hby : byA P e = some by_) (hz : zA P e = some zs) (hzl : zs.length = sz) (hs : fullA (evalA tm s) = some (n, cs)) (hcl : cs.length = n * sz)
    (hx : srcA P t2 (evalA tm x) h = some (m, ys)) (hyl : ys.length = m * sz) (hm0 : 0 < m) (hb : (n + m) * by_ ≤ 140737488355328) (hm : n + m ≤ maxLen) (hk : K (.ref false id 0 (n + m) sz) ((readsOf (evalA tm x) h).map (·.1)) [(id, some (.cells e (cs ++ ys)))]) :
    StopD P id (.call { callee := .builtin .append, args := #[s, x], argTypes := #[t, t2] }) tm h K := by
  refine ⟨_, _, _, fun o tm' ho hq => ?_, reads_of _ _, hk⟩
  have es := hq s (by simp [Op.operands, Call.operands]); have ex := hq x (by simp [Op.operands, Call.operands])
  rw [← ex]
  exact append_new ho he hsz hby hz hzl (by rw [es]; exact hs) hcl (by rw [ex]; exact hx) hyl hm0 hb hm
theorem stopD_append_own (e : TypeId) (sz by_ n m off : Nat) (f : Bool) (b : BId) (all ys zs : List AV) (he : elA P t = some e) (hsz : szA P e = some sz) (hby : byA P e = some by_) (hz : zA P e = some zs) (hzl : zs.length = sz)
    (hs : evalA tm s = .ref f b off n sz) (hbk : h b = some (.cells e all)) (hend : all.length = off + n * sz) (hx : srcA P t2 (evalA tm x) h = some (m, ys)) (hyl : ys.length = m * sz) (hone : ys.all AV.one = true)
    (hm0 : 0 < m) (hb : (n + m) * by_ ≤ 140737488355328) (hm : n + m ≤ maxLen) (hk : K (.ref false id 0 (n + m) sz) (b :: (readsOf (evalA tm x) h).map (·.1)) [(b, none), (id, some (.cells e (all.drop off ++ ys)))]) :
    StopD P id (.call { callee := .builtin .append, args := #[s, x], argTypes := #[t, t2] }) tm h K := by
  refine ⟨_, (b, .cells e all) :: readsOf (evalA tm x) h, _, fun o tm' ho hq => ?_, ⟨hbk, reads_of _ _⟩, hk⟩
  have es := hq s (by simp [Op.operands, Call.operands]); have ex := hq x (by simp [Op.operands, Call.operands])
  rw [← ex]
  exact append_own ho he hsz hby hz hzl (by rw [es]; exact hs) hend (by rw [ex]; exact hx) hyl hone hm0 hb hm
end
end Go.SX
