/- Messages as bytes: command.Msg. -/
import Derived.Test.YtmpndjpaelcnkaaB7
set_option linter.unusedVariables false
set_option linter.unusedSimpArgs false
namespace Go.Proofs.Ytmpndjpaelcnkaa
open Go Go.SX

/-- An entry. -/
structure Ent where
  i : Int
  t : Int
  k : Int
  d : Option (List UInt8)
def Ent.enc (x : Ent) : List AV := [.p (.int .i64 x.i), .p (.int .i64 x.t), .p (.int .i64 x.k), sq bE x.d]
theorem Ent.enc_len (x : Ent) : x.enc.length = 4 := rfl
theorem Ent.enc_one (a : Ent) : (Ent.enc a).all AV.one = true := by simp [Ent.enc, one_p, one_sq, oc_int]
def Ent.R (x : Ent) : Prop := i64R x.i ∧ i64R x.t ∧ i64R x.k ∧ (sqL x.d).length ≤ 40000
/-- A message. -/
structure Mg where
  kind : Int
  frm : Int
  to : Int
  term : Int
  idx : Int
  lt : Int
  com : Int
  es : Option (List Ent)
  ok : Bool
  hint : Int
  conf : Option (List Int)
  data : Option (List UInt8)
  off : Int
  size : Int
  ctx : Int
def Mg.enc (x : Mg) : List AV := [.p (.int .i64 x.kind), .p (.int .i64 x.frm), .p (.int .i64 x.to), .p (.int .i64 x.term), .p (.int .i64 x.idx), .p (.int .i64 x.lt), .p (.int .i64 x.com), sq Ent.enc x.es, .p (.bool x.ok), .p (.int .i64 x.hint), sq nE x.conf, sq bE x.data,
  .p (.int .i64 x.off), .p (.int .i64 x.size), .p (.int .i64 x.ctx)]
def Mg.hd (x : Mg) : List Int := [x.kind, x.frm, x.to, x.term, x.idx, x.lt, x.com]
def entB (e : Ent) : List UInt8 := numB e.i ++ (numB e.t ++ (numB e.k ++ textB (sqL e.d)))
structure Mg.R (x : Mg) : Prop where
  hd : ∀ n ∈ x.hd, i64R n
  es : (sqL x.es).length ≤ 100000
  et : ((sqL x.es).flatMap entB).length ≤ 150000
  er : ∀ e ∈ sqL x.es, e.R
  hint : i64R x.hint
  conf : (sqL x.conf).length ≤ 10000
  cr : ∀ n ∈ sqL x.conf, i64R n
  data : (sqL x.data).length ≤ 40000
  off : i64R x.off
  size : i64R x.size
  ctx : i64R x.ctx
def msgB (x : Mg) : List UInt8 := x.hd.flatMap numB ++ (numB (sqL x.es).length ++ ((sqL x.es).flatMap entB ++ (flagB x.ok ++ (numB x.hint ++ (confB (sqL x.conf) ++ (textB (sqL x.data) ++ (numB x.off ++ (numB x.size ++ numB x.ctx))))))))
theorem flatTake_len {α β : Type} (f : α → List β) (l : List α) (i : Nat) : ((l.take i).flatMap f).length ≤ (l.flatMap f).length := by
  have := congrArg (fun l => (l.flatMap f).length) (List.take_append_drop i l)
  simp only [List.flatMap_append, List.length_append] at this; omega
theorem confB_len (c : List Int) : (confB c).length ≤ 10 + 10 * c.length := by unfold confB; have := numB_len c.length; have := flatNum_len c; simp only [List.length_append]; omega

theorem msgB_ne (x : Mg) : msgB x ≠ [] := by
  have : x.hd.flatMap numB ≠ [] := by unfold Mg.hd; simp [numB_ne]
  unfold msgB; simp [this]
/-- Names that are made from a time on. -/
def Lat (t : Nat) (id c : BId) : Prop := ∃ t' p, t ≤ t' ∧ c = p ++ t' :: id
theorem lat_fr {h : Heap} {id c : BId} {t : Nat} (hf : FrH h id) (hl : Lat t id c) : h c = none := by
  obtain ⟨t', p, _, rfl⟩ := hl
  have := hf (p ++ [t']); simpa using this
theorem lat_ne {id c : BId} {t i j : Nat} (hl : Lat t id c) (hj : j < t) : (c = i :: j :: id) = False := by
  obtain ⟨t', p, ht, rfl⟩ := hl
  rw [eq_iff_iff, iff_false]; intro e
  have h1 : p ++ [t'] ++ id = [i, j] ++ id := by simpa using e
  have h2 := List.append_cancel_right h1
  have h3 : p ++ [t'] = [i] ++ [j] := by simpa using h2
  have h4 := (List.append_inj' h3 rfl).2
  simp at h4; omega
theorem under_lat {id c : BId} {k t t0 : Nat} (hu : Under (k :: t :: id) c) (ht : t0 ≤ t) : Lat t0 id c := by
  obtain ⟨p, rfl⟩ := hu
  exact ⟨t, p ++ [k], ht, by simp⟩
/-- A new block beside a writer. -/
theorem WrN.far {N : BId → Prop} {h0 hh h1 : Heap} {b nm : BId} {l : List UInt8} (hw : WrN N h0 hh b l) (hn : hh nm = none) (hn0 : h0 nm = none) (hf : ∀ c, c ≠ nm → h1 c = hh c) : WrN N h0 h1 b l := by
  obtain ⟨x, y, q1, q2, q3, q4, q5, q6⟩ := hw
  have hb : b ≠ nm := by rintro rfl; rw [hn] at q2; cases q2
  refine ⟨x, y, q1, by rw [hf b hb]; exact q2, ?_, q4, q5, fun c hc hcb hx => ?_⟩
  · rcases q3 with h | ⟨b2, r1, r2, r3⟩
    · exact .inl h
    · exact .inr ⟨b2, r1, r2, by rw [hf b2 (by rintro rfl; rw [hn] at r3; cases r3)]; exact r3⟩
  · rw [hf c (by rintro rfl; rw [hn0] at hc; cases hc)]; exact q6 c hc hcb hx

set_option maxRecDepth 8000 in
set_option maxHeartbeats 2000000 in
theorem msg_ok (id : BId) (x : Mg) (hx : x.R) : CallF Try.prog 19 [.agg x.enc] id [] (sq bE (some (msgB x))) [] := by
  refine ⟨⟨_, Try.func19, by decide, rfl⟩, (by simp <;> repeat first | exact ⟨[_, _], rfl⟩ | constructor), fun h hr => callsA_of_W Try.func19 rfl fun hfr => ?_⟩
  repeat (first
    | with_reducible refine W_seq fun K hK => ?_
    | (with_reducible refine hK _ ?_); clear hK K
    | (with_reducible refine W_skipK hK ?_); clear hK K
    | (with_reducible refine W_condT ?_ ?_); (· rfl)
    | (with_reducible refine W_condF ?_ ?_); (· rfl)
    | with_reducible refine W_block ?_
    | clear hK K; (with_reducible refine hK _ ?_); clear hK K
    | clear hK K; clear hK K; (with_reducible refine hK _ ?_); clear hK K
    | clear hK K; clear hK K; clear hK K; (with_reducible refine hK _ ?_); clear hK K
    | (with_reducible refine And.intro ?_ ?_); (· first | omega | decide)
    | (try first | ((with_reducible refine W_reg ?_ ?_); (· rfl)) | (with_reducible refine W_exit ?_) | (with_reducible refine W_ret ?_)); simp only [go_sem, Nat.reduceEqDiff, ↓reduceIte, reduceIte, Nat.reduceAdd, Nat.reduceMul, Nat.reduceSub, Nat.reduceLeDiff, Nat.reduceBEq, Nat.reduceBNe, Int.reduceNeg, Int.reduceLT, Int.reduceLE, Int.reduceAdd, Int.reduceSub, Int.reduceToNat, Int.reduceEq, Int.reduceBEq, reduceCtorEq, Int.reduceBNe, Mg.enc])
  have hnb0 : (0 :: 0 :: id : BId) ≠ 1 :: 1 :: id := by simp
  have hw0 : Wr (hset (hset h (0 :: 0 :: id) (some (.cells 26 x.enc))) (1 :: 1 :: id) (some (.cells 116 [.p (.slice none 0 0)]))) (1 :: 1 :: id) [] := ⟨_, hset_same _ _ _, .inl ⟨rfl, rfl⟩, fun ⟨f, p, n, z, e⟩ => by cases e⟩
  have hbox : hset (hset h (0 :: 0 :: id) (some (.cells 26 x.enc))) (1 :: 1 :: id) (some (.cells 116 [.p (.slice none 0 0)])) (0 :: 0 :: id) = some (.cells 26 x.enc) := by rw [hset_ne _ _ _ hnb0, hset_same]
  have hwb0 : hset (hset h (0 :: 0 :: id) (some (.cells 26 x.enc))) (1 :: 1 :: id) (some (.cells 116 [.p (.slice none 0 0)])) (1 :: 1 :: id) = some (.cells 116 [.p (.slice none 0 0)]) := hset_same _ _ _
  have h0fr : ∀ c, Lat 3 id c → hset (hset h (0 :: 0 :: id) (some (.cells 26 x.enc))) (1 :: 1 :: id) (some (.cells 116 [.p (.slice none 0 0)])) c = none := fun c hc => by
    have q1 : ∀ i, (c = i :: 0 :: id) = False := fun i => lat_ne hc (by decide)
    have q2 : ∀ i, (c = i :: 1 :: id) = False := fun i => lat_ne hc (by decide)
    simp only [go_sem, Nat.reduceEqDiff, ↓reduceIte, reduceIte, Nat.reduceAdd, Nat.reduceMul, Nat.reduceSub, Nat.reduceLeDiff, Nat.reduceBEq, Nat.reduceBNe, Int.reduceNeg, Int.reduceLT, Int.reduceLE, Int.reduceAdd, Int.reduceSub, Int.reduceToNat, Int.reduceEq, Int.reduceBEq, reduceCtorEq, Int.reduceBNe, q1, q2]
    exact lat_fr hfr hc
  have hle0 : HLe h (hset (hset h (0 :: 0 :: id) (some (.cells 26 x.enc))) (1 :: 1 :: id) (some (.cells 116 [.p (.slice none 0 0)]))) := (by repeat first | exact HLe.refl _ | refine HLe.set ?_ _ _ | refine HLe.fresh ?_ (hfr [_, _]))
  simp only [Mg.enc] at hw0 hbox hwb0 h0fr hle0
  generalize hset (hset h (0 :: 0 :: id) _) (1 :: 1 :: id) _ = h0 at *
  have hxl : [AV.p (.int .i64 x.kind), .p (.int .i64 x.frm), .p (.int .i64 x.to), .p (.int .i64 x.term), .p (.int .i64 x.idx), .p (.int .i64 x.lt), .p (.int .i64 x.com)] = x.hd.flatMap nE := rfl
  have hhl : x.hd.length = 7 := rfl
  refine W_loop ?_
  refine WL_nat (P := Try.prog) (fun m q => ∃ (j : Nat), m = 7 - j ∧ j ≤ 7 ∧ q.tm 1 = .ptr (0 :: 0 :: id) 0 ∧ q.tm 3 = .ptr (1 :: 1 :: id) 0 ∧ q.tm 24 = .imm true 7 (x.hd.flatMap nE) ∧ q.tm 25 = .p (.int .i64 7) ∧ q.tm 26 = .p (.int .i64 j) ∧ 3 ≤ q.t ∧ WrN (Lat 3 id) h0 q.h (1 :: 1 :: id) ((x.hd.take j).flatMap numB))
    (fun m q hI => ?_) _ _ ⟨0, rfl, by omega, rfl, rfl, rfl, rfl, rfl, by simp, WrN.reflN hw0⟩
  obtain ⟨j, rfl, hj, h1, h3, h24, h25, h26, ht, hW⟩ := hI
  obtain ⟨tm, hh, tt⟩ := q
  simp only at h1 h3 h24 h25 h26 ht hW
  replace hbox := hW.keepT hw0 hbox (by decide) hnb0
  by_cases c1 : j < 7
  · have g1 : decide ((j : Int) < 7) = true := by simp; omega
    have hjl : j < x.hd.length := by omega
    have hxj : (x.hd.flatMap nE).drop j = nE x.hd[j] ++ (x.hd.drop (j + 1)).flatMap nE := by simpa using flatMap_at nE_len x.hd j hjl
    have e7 : x.hd.take (j + 1) = x.hd.take j ++ [x.hd[j]] := List.take_succ_eq_append_getElem hjl
    have e6 : IntKind.i64.wrap ((j : Int) + 1) = ((j + 1 : Nat) : Int) := by rw [wrap_i64 (by omega)]; omega
    have hrj := hx.hd _ (List.getElem_mem hjl)
    have hbl := flatNum_len (x.hd.take j)
    rw [List.length_take] at hbl
    generalize x.hd[j] = y at *
    repeat (first
      | with_reducible refine W_seq fun K hK => ?_
      | (with_reducible refine hK _ ?_); clear hK K
      | (with_reducible refine W_skipK hK ?_); clear hK K
      | (with_reducible refine W_condT ?_ ?_); (· rfl)
      | (with_reducible refine W_condF ?_ ?_); (· rfl)
      | with_reducible refine W_block ?_
      | clear hK K; (with_reducible refine hK _ ?_); clear hK K
      | clear hK K; clear hK K; (with_reducible refine hK _ ?_); clear hK K
      | clear hK K; clear hK K; clear hK K; (with_reducible refine hK _ ?_); clear hK K
      | (with_reducible refine And.intro ?_ ?_); (· first | omega | decide)
      | (try first | ((with_reducible refine W_reg ?_ ?_); (· rfl)) | (with_reducible refine W_exit ?_) | (with_reducible refine W_ret ?_)); simp only [go_sem, Nat.reduceEqDiff, ↓reduceIte, reduceIte, Nat.reduceAdd, Nat.reduceMul, Nat.reduceSub, Nat.reduceLeDiff, Nat.reduceBEq, Nat.reduceBNe, Int.reduceNeg, Int.reduceLT, Int.reduceLE, Int.reduceAdd, Int.reduceSub, Int.reduceToNat, Int.reduceEq, Int.reduceBEq, reduceCtorEq, Int.reduceBNe, h1, h3, h24, h25, h26, g1, hxj, nE])
    refine stop_callH (num_ok _ _ _ ((x.hd.take j).flatMap numB) y hrj (by omega) hW.wr) ?_
    rintro _ v h9 ⟨rfl, hk9⟩
    repeat (first
      | with_reducible refine W_seq fun K hK => ?_
      | (with_reducible refine hK _ ?_); clear hK K
      | (with_reducible refine W_skipK hK ?_); clear hK K
      | (with_reducible refine W_condT ?_ ?_); (· rfl)
      | (with_reducible refine W_condF ?_ ?_); (· rfl)
      | with_reducible refine W_block ?_
      | clear hK K; (with_reducible refine hK _ ?_); clear hK K
      | clear hK K; clear hK K; (with_reducible refine hK _ ?_); clear hK K
      | clear hK K; clear hK K; clear hK K; (with_reducible refine hK _ ?_); clear hK K
      | (with_reducible refine And.intro ?_ ?_); (· first | omega | decide)
      | (try first | ((with_reducible refine W_reg ?_ ?_); (· rfl)) | (with_reducible refine W_exit ?_) | (with_reducible refine W_ret ?_)); simp only [go_sem, Nat.reduceEqDiff, ↓reduceIte, reduceIte, Nat.reduceAdd, Nat.reduceMul, Nat.reduceSub, Nat.reduceLeDiff, Nat.reduceBEq, Nat.reduceBNe, Int.reduceNeg, Int.reduceLT, Int.reduceLE, Int.reduceAdd, Int.reduceSub, Int.reduceToNat, Int.reduceEq, Int.reduceBEq, reduceCtorEq, Int.reduceBNe, h1, h3, h24, h25, h26, e6])
    refine ⟨_, ?_, j + 1, rfl, by omega, rfl, ?_⟩
    · omega
    · have := hW.trans hk9 h0fr (fun c hc => under_lat hc (by omega))
      rw [e7, List.flatMap_append]
      simpa using this
  have g1 : decide ((j : Int) < 7) = false := by simp; omega
  have e8 : x.hd.take j = x.hd := List.take_of_length_le (by omega)
  rw [e8] at hW
  have hnl := numB_len (sqL x.es).length
  have hdl := flatNum_len x.hd
  have hcl := confB_len (sqL x.conf)
  have htl := textB_len (sqL x.data)
  have hnh := numB_len x.hint
  have hno := numB_len x.off
  have hns := numB_len x.size
  have hes := hx.es
  have hcf := hx.conf
  have hdt := hx.data
  repeat (first
    | with_reducible refine W_seq fun K hK => ?_
    | (with_reducible refine hK _ ?_); clear hK K
    | (with_reducible refine W_skipK hK ?_); clear hK K
    | (with_reducible refine W_condT ?_ ?_); (· rfl)
    | (with_reducible refine W_condF ?_ ?_); (· rfl)
    | with_reducible refine W_block ?_
    | clear hK K; (with_reducible refine hK _ ?_); clear hK K
    | clear hK K; clear hK K; (with_reducible refine hK _ ?_); clear hK K
    | clear hK K; clear hK K; clear hK K; (with_reducible refine hK _ ?_); clear hK K
    | (with_reducible refine And.intro ?_ ?_); (· first | omega | decide)
    | (try first | ((with_reducible refine W_reg ?_ ?_); (· rfl)) | (with_reducible refine W_exit ?_) | (with_reducible refine W_ret ?_)); simp only [go_sem, Nat.reduceEqDiff, ↓reduceIte, reduceIte, Nat.reduceAdd, Nat.reduceMul, Nat.reduceSub, Nat.reduceLeDiff, Nat.reduceBEq, Nat.reduceBNe, Int.reduceNeg, Int.reduceLT, Int.reduceLE, Int.reduceAdd, Int.reduceSub, Int.reduceToNat, Int.reduceEq, Int.reduceBEq, reduceCtorEq, Int.reduceBNe, h1, h3, h24, h25, h26, g1, hbox])
  refine stop_callH (num_ok _ _ _ (x.hd.flatMap numB) ((sqL x.es).length : Int) (by omega) (by omega) hW.wr) ?_
  rintro _ v h9 ⟨rfl, hk9⟩
  replace hbox := hk9.keepT hW.wr hbox (by decide) hnb0
  replace hW := hW.trans hk9 h0fr (fun c hc => under_lat hc (by omega))
  repeat (first
    | with_reducible refine W_seq fun K hK => ?_
    | (with_reducible refine hK _ ?_); clear hK K
    | (with_reducible refine W_skipK hK ?_); clear hK K
    | (with_reducible refine W_condT ?_ ?_); (· rfl)
    | (with_reducible refine W_condF ?_ ?_); (· rfl)
    | with_reducible refine W_block ?_
    | clear hK K; (with_reducible refine hK _ ?_); clear hK K
    | clear hK K; clear hK K; (with_reducible refine hK _ ?_); clear hK K
    | clear hK K; clear hK K; clear hK K; (with_reducible refine hK _ ?_); clear hK K
    | (with_reducible refine And.intro ?_ ?_); (· first | omega | decide)
    | (try first | ((with_reducible refine W_reg ?_ ?_); (· rfl)) | (with_reducible refine W_exit ?_) | (with_reducible refine W_ret ?_)); simp only [go_sem, Nat.reduceEqDiff, ↓reduceIte, reduceIte, Nat.reduceAdd, Nat.reduceMul, Nat.reduceSub, Nat.reduceLeDiff, Nat.reduceBEq, Nat.reduceBNe, Int.reduceNeg, Int.reduceLT, Int.reduceLE, Int.reduceAdd, Int.reduceSub, Int.reduceToNat, Int.reduceEq, Int.reduceBEq, reduceCtorEq, Int.reduceBNe, h1, h3, hbox])
  refine W_loop ?_
  refine WL_nat (P := Try.prog) (fun m q => ∃ (j : Nat), m = (sqL x.es).length - j ∧ j ≤ (sqL x.es).length ∧ q.tm 1 = .ptr (0 :: 0 :: id) 0 ∧ q.tm 3 = .ptr (1 :: 1 :: id) 0 ∧ q.tm 40 = sq Ent.enc x.es ∧ q.tm 41 = .p (.int .i64 (sqL x.es).length) ∧ q.tm 42 = .p (.int .i64 j) ∧ 3 ≤ q.t ∧
      q.h (0 :: 0 :: id) = some (.cells 26 x.enc) ∧ WrN (Lat 3 id) h0 q.h (1 :: 1 :: id) (x.hd.flatMap numB ++ numB (sqL x.es).length ++ ((sqL x.es).take j).flatMap entB))
    (fun m q hI => ?_) _ _ ⟨0, rfl, by omega, h1, h3, rfl, rfl, rfl, by simp, hbox, by simpa using hW⟩
  clear hW hbox h1 h3 h24 h25 h26 ht
  obtain ⟨i, rfl, hi, h1, h3, h40, h41, h42, ht, hbox, hW⟩ := hI
  obtain ⟨tm, hh, tt⟩ := q
  simp only at h1 h3 h40 h41 h42 ht hbox hW
  have hbl := Nat.le_trans (flatTake_len entB (sqL x.es) i) hx.et
  by_cases c1 : i < (sqL x.es).length
  · have g1 : decide ((i : Int) < ((sqL x.es).length : Int)) = true := by simp; omega
    have hxj : ((sqL x.es).flatMap Ent.enc).drop (i * 4) = Ent.enc (sqL x.es)[i] ++ ((sqL x.es).drop (i + 1)).flatMap Ent.enc := flatMap_at Ent.enc_len _ i c1
    have e7 : (sqL x.es).take (i + 1) = (sqL x.es).take i ++ [(sqL x.es)[i]] := List.take_succ_eq_append_getElem c1
    have e6 : IntKind.i64.wrap ((i : Int) + 1) = ((i + 1 : Nat) : Int) := by rw [wrap_i64 (by omega)]; omega
    obtain ⟨r1, r2, r3, r4⟩ := hx.er _ (List.getElem_mem c1)
    generalize (sqL x.es)[i] = y at *
    have hy1 := numB_len y.i
    have hy2 := numB_len y.t
    have hy3 := numB_len y.k
    refine W_fr fun hF => ?_
    have hfn : hh (2 :: (tt + 1) :: id) = none := hF (tt + 1) (by simp) [2]
    have hf0 : h0 (2 :: (tt + 1) :: id) = none := h0fr _ ⟨tt + 1, [2], by omega, rfl⟩
    have hnb1 : (2 :: (tt + 1) :: id : BId) ≠ 1 :: 1 :: id := by simp
    repeat (first
      | with_reducible refine W_seq fun K hK => ?_
      | (with_reducible refine hK _ ?_); clear hK K
      | (with_reducible refine W_skipK hK ?_); clear hK K
      | (with_reducible refine W_condT ?_ ?_); (· rfl)
      | (with_reducible refine W_condF ?_ ?_); (· rfl)
      | with_reducible refine W_block ?_
      | clear hK K; (with_reducible refine hK _ ?_); clear hK K
      | clear hK K; clear hK K; (with_reducible refine hK _ ?_); clear hK K
      | clear hK K; clear hK K; clear hK K; (with_reducible refine hK _ ?_); clear hK K
      | (with_reducible refine And.intro ?_ ?_); (· first | omega | decide)
      | (try first | ((with_reducible refine W_reg ?_ ?_); (· rfl)) | (with_reducible refine W_exit ?_) | (with_reducible refine W_ret ?_)); simp only [go_sem, Nat.reduceEqDiff, ↓reduceIte, reduceIte, Nat.reduceAdd, Nat.reduceMul, Nat.reduceSub, Nat.reduceLeDiff, Nat.reduceBEq, Nat.reduceBNe, Int.reduceNeg, Int.reduceLT, Int.reduceLE, Int.reduceAdd, Int.reduceSub, Int.reduceToNat, Int.reduceEq, Int.reduceBEq, reduceCtorEq, Int.reduceBNe, h1, h3, h40, h41, h42, g1, hxj, Ent.enc])
    have hn : ∀ X Y : Option Blk, hset (hset hh (2 :: (tt + 1) :: id) X) (2 :: (tt + 1) :: id) Y (2 :: (tt + 1) :: id) = Y := fun X Y => hset_same _ _ _
    have hnE := hn (some (.cells 112 [.p (.int .i64 0), .p (.int .i64 0), .p (.int .i64 0), .p (.slice none 0 0)])) (some (.cells 112 [.p (.int .i64 y.i), .p (.int .i64 y.t), .p (.int .i64 y.k), sq bE y.d]))
    have hfarE : ∀ c, c ≠ 2 :: (tt + 1) :: id → hset (hset hh (2 :: (tt + 1) :: id) (some (.cells 112 [.p (.int .i64 0), .p (.int .i64 0), .p (.int .i64 0), .p (.slice none 0 0)]))) (2 :: (tt + 1) :: id) (some (.cells 112 [.p (.int .i64 y.i), .p (.int .i64 y.t), .p (.int .i64 y.k), sq bE y.d])) c = hh c := fun c hc => by rw [hset_ne _ _ _ hc, hset_ne _ _ _ hc]
    clear hn
    generalize hset (hset hh (2 :: (tt + 1) :: id) _) (2 :: (tt + 1) :: id) _ = hE at *
    replace hbox := (hfarE _ (by simp : (0 :: 0 :: id : BId) ≠ _)).trans hbox
    replace hW := hW.far hfn hf0 hfarE
    clear hfarE hF hfn hf0
    generalize hL : x.hd.flatMap numB ++ numB (sqL x.es).length ++ ((sqL x.es).take i).flatMap entB = L at *
    have hLl : L.length ≤ 150100 := by rw [← hL]; simp only [List.length_append]; rw [hhl] at hdl; omega
    refine stop_callH (num_ok _ _ _ (L) y.i r1 (by omega) hW.wr) ?_
    rintro _ v h9 ⟨rfl, hk9⟩
    replace hnE := hk9.keepT hW.wr hnE (by decide) hnb1
    replace hbox := hk9.keepT hW.wr hbox (by decide) hnb0
    replace hW := hW.trans hk9 h0fr (fun c hc => under_lat hc (by omega))
    clear hk9
    repeat (first
      | with_reducible refine W_seq fun K hK => ?_
      | (with_reducible refine hK _ ?_); clear hK K
      | (with_reducible refine W_skipK hK ?_); clear hK K
      | (with_reducible refine W_condT ?_ ?_); (· rfl)
      | (with_reducible refine W_condF ?_ ?_); (· rfl)
      | with_reducible refine W_block ?_
      | clear hK K; (with_reducible refine hK _ ?_); clear hK K
      | clear hK K; clear hK K; (with_reducible refine hK _ ?_); clear hK K
      | clear hK K; clear hK K; clear hK K; (with_reducible refine hK _ ?_); clear hK K
      | (with_reducible refine And.intro ?_ ?_); (· first | omega | decide)
      | (try first | ((with_reducible refine W_reg ?_ ?_); (· rfl)) | (with_reducible refine W_exit ?_) | (with_reducible refine W_ret ?_)); simp only [go_sem, Nat.reduceEqDiff, ↓reduceIte, reduceIte, Nat.reduceAdd, Nat.reduceMul, Nat.reduceSub, Nat.reduceLeDiff, Nat.reduceBEq, Nat.reduceBNe, Int.reduceNeg, Int.reduceLT, Int.reduceLE, Int.reduceAdd, Int.reduceSub, Int.reduceToNat, Int.reduceEq, Int.reduceBEq, reduceCtorEq, Int.reduceBNe, h1, h3, h40, h41, h42, hnE, e6])
    refine stop_callH (num_ok _ _ _ (L ++ numB y.i) y.t r2 (by simp; omega) hW.wr) ?_
    rintro _ v h9 ⟨rfl, hk9⟩
    replace hnE := hk9.keepT hW.wr hnE (by decide) hnb1
    replace hbox := hk9.keepT hW.wr hbox (by decide) hnb0
    replace hW := hW.trans hk9 h0fr (fun c hc => under_lat hc (by omega))
    clear hk9
    repeat (first
      | with_reducible refine W_seq fun K hK => ?_
      | (with_reducible refine hK _ ?_); clear hK K
      | (with_reducible refine W_skipK hK ?_); clear hK K
      | (with_reducible refine W_condT ?_ ?_); (· rfl)
      | (with_reducible refine W_condF ?_ ?_); (· rfl)
      | with_reducible refine W_block ?_
      | clear hK K; (with_reducible refine hK _ ?_); clear hK K
      | clear hK K; clear hK K; (with_reducible refine hK _ ?_); clear hK K
      | clear hK K; clear hK K; clear hK K; (with_reducible refine hK _ ?_); clear hK K
      | (with_reducible refine And.intro ?_ ?_); (· first | omega | decide)
      | (try first | ((with_reducible refine W_reg ?_ ?_); (· rfl)) | (with_reducible refine W_exit ?_) | (with_reducible refine W_ret ?_)); simp only [go_sem, Nat.reduceEqDiff, ↓reduceIte, reduceIte, Nat.reduceAdd, Nat.reduceMul, Nat.reduceSub, Nat.reduceLeDiff, Nat.reduceBEq, Nat.reduceBNe, Int.reduceNeg, Int.reduceLT, Int.reduceLE, Int.reduceAdd, Int.reduceSub, Int.reduceToNat, Int.reduceEq, Int.reduceBEq, reduceCtorEq, Int.reduceBNe, h1, h3, h40, h41, h42, hnE, e6])
    refine stop_callH (num_ok _ _ _ (L ++ numB y.i ++ numB y.t) y.k r3 (by simp; omega) hW.wr) ?_
    rintro _ v h9 ⟨rfl, hk9⟩
    replace hnE := hk9.keepT hW.wr hnE (by decide) hnb1
    replace hbox := hk9.keepT hW.wr hbox (by decide) hnb0
    replace hW := hW.trans hk9 h0fr (fun c hc => under_lat hc (by omega))
    clear hk9
    repeat (first
      | with_reducible refine W_seq fun K hK => ?_
      | (with_reducible refine hK _ ?_); clear hK K
      | (with_reducible refine W_skipK hK ?_); clear hK K
      | (with_reducible refine W_condT ?_ ?_); (· rfl)
      | (with_reducible refine W_condF ?_ ?_); (· rfl)
      | with_reducible refine W_block ?_
      | clear hK K; (with_reducible refine hK _ ?_); clear hK K
      | clear hK K; clear hK K; (with_reducible refine hK _ ?_); clear hK K
      | clear hK K; clear hK K; clear hK K; (with_reducible refine hK _ ?_); clear hK K
      | (with_reducible refine And.intro ?_ ?_); (· first | omega | decide)
      | (try first | ((with_reducible refine W_reg ?_ ?_); (· rfl)) | (with_reducible refine W_exit ?_) | (with_reducible refine W_ret ?_)); simp only [go_sem, Nat.reduceEqDiff, ↓reduceIte, reduceIte, Nat.reduceAdd, Nat.reduceMul, Nat.reduceSub, Nat.reduceLeDiff, Nat.reduceBEq, Nat.reduceBNe, Int.reduceNeg, Int.reduceLT, Int.reduceLE, Int.reduceAdd, Int.reduceSub, Int.reduceToNat, Int.reduceEq, Int.reduceBEq, reduceCtorEq, Int.reduceBNe, h1, h3, h40, h41, h42, hnE, e6])
    refine stop_callH (text_ok _ _ _ (L ++ numB y.i ++ numB y.t ++ numB y.k) y.d (by simp; omega) (by omega) hW.wr) ?_
    rintro _ v h9 ⟨rfl, hk9⟩
    replace hnE := hk9.keepT hW.wr hnE (by decide) hnb1
    replace hbox := hk9.keepT hW.wr hbox (by decide) hnb0
    replace hW := hW.trans hk9 h0fr (fun c hc => under_lat hc (by omega))
    clear hk9
    repeat (first
      | with_reducible refine W_seq fun K hK => ?_
      | (with_reducible refine hK _ ?_); clear hK K
      | (with_reducible refine W_skipK hK ?_); clear hK K
      | (with_reducible refine W_condT ?_ ?_); (· rfl)
      | (with_reducible refine W_condF ?_ ?_); (· rfl)
      | with_reducible refine W_block ?_
      | clear hK K; (with_reducible refine hK _ ?_); clear hK K
      | clear hK K; clear hK K; (with_reducible refine hK _ ?_); clear hK K
      | clear hK K; clear hK K; clear hK K; (with_reducible refine hK _ ?_); clear hK K
      | (with_reducible refine And.intro ?_ ?_); (· first | omega | decide)
      | (try first | ((with_reducible refine W_reg ?_ ?_); (· rfl)) | (with_reducible refine W_exit ?_) | (with_reducible refine W_ret ?_)); simp only [go_sem, Nat.reduceEqDiff, ↓reduceIte, reduceIte, Nat.reduceAdd, Nat.reduceMul, Nat.reduceSub, Nat.reduceLeDiff, Nat.reduceBEq, Nat.reduceBNe, Int.reduceNeg, Int.reduceLT, Int.reduceLE, Int.reduceAdd, Int.reduceSub, Int.reduceToNat, Int.reduceEq, Int.reduceBEq, reduceCtorEq, Int.reduceBNe, h1, h3, h40, h41, h42, e6])
    have e8 : x.hd.flatMap numB ++ numB (sqL x.es).length ++ ((sqL x.es).take (i + 1)).flatMap entB = L ++ numB y.i ++ numB y.t ++ numB y.k ++ textB (sqL y.d) := by
      rw [e7, List.flatMap_append, ← hL]; simp [entB]
    refine ⟨_, ?_, i + 1, rfl, by omega, rfl, hbox, ?_⟩
    · omega
    · rw [e8]; exact hW
  · have g1 : decide ((i : Int) < ((sqL x.es).length : Int)) = false := by simp; omega
    have e9 : (sqL x.es).take i = sqL x.es := List.take_of_length_le (by omega)
    rw [e9] at hW hbl
    have ebox : x.enc = [.p (.int .i64 x.kind), .p (.int .i64 x.frm), .p (.int .i64 x.to), .p (.int .i64 x.term), .p (.int .i64 x.idx), .p (.int .i64 x.lt), .p (.int .i64 x.com), sq Ent.enc x.es, .p (.bool x.ok), .p (.int .i64 x.hint), sq nE x.conf, sq bE x.data,
      .p (.int .i64 x.off), .p (.int .i64 x.size), .p (.int .i64 x.ctx)] := rfl
    rw [ebox] at hbox
    generalize hL : x.hd.flatMap numB ++ numB (sqL x.es).length ++ (sqL x.es).flatMap entB = L at *
    have hLl : L.length ≤ 200000 := by rw [← hL]; simp only [List.length_append]; rw [hhl] at hdl; omega
    repeat (first
      | with_reducible refine W_seq fun K hK => ?_
      | (with_reducible refine hK _ ?_); clear hK K
      | (with_reducible refine W_skipK hK ?_); clear hK K
      | (with_reducible refine W_condT ?_ ?_); (· rfl)
      | (with_reducible refine W_condF ?_ ?_); (· rfl)
      | with_reducible refine W_block ?_
      | clear hK K; (with_reducible refine hK _ ?_); clear hK K
      | clear hK K; clear hK K; (with_reducible refine hK _ ?_); clear hK K
      | clear hK K; clear hK K; clear hK K; (with_reducible refine hK _ ?_); clear hK K
      | (with_reducible refine And.intro ?_ ?_); (· first | omega | decide)
      | (try first | ((with_reducible refine W_reg ?_ ?_); (· rfl)) | (with_reducible refine W_exit ?_) | (with_reducible refine W_ret ?_)); simp only [go_sem, Nat.reduceEqDiff, ↓reduceIte, reduceIte, Nat.reduceAdd, Nat.reduceMul, Nat.reduceSub, Nat.reduceLeDiff, Nat.reduceBEq, Nat.reduceBNe, Int.reduceNeg, Int.reduceLT, Int.reduceLE, Int.reduceAdd, Int.reduceSub, Int.reduceToNat, Int.reduceEq, Int.reduceBEq, reduceCtorEq, Int.reduceBNe, h1, h3, h40, h41, h42, g1, hbox])
    refine stop_callH (flag_ok _ _ _ L x.ok (by omega) hW.wr) ?_
    rintro _ v h9 ⟨rfl, hk9⟩
    replace hbox := hk9.keepT hW.wr hbox (by decide) hnb0
    replace hW := hW.trans hk9 h0fr (fun c hc => under_lat hc (by omega))
    clear hk9
    repeat (first
      | with_reducible refine W_seq fun K hK => ?_
      | (with_reducible refine hK _ ?_); clear hK K
      | (with_reducible refine W_skipK hK ?_); clear hK K
      | (with_reducible refine W_condT ?_ ?_); (· rfl)
      | (with_reducible refine W_condF ?_ ?_); (· rfl)
      | with_reducible refine W_block ?_
      | clear hK K; (with_reducible refine hK _ ?_); clear hK K
      | clear hK K; clear hK K; (with_reducible refine hK _ ?_); clear hK K
      | clear hK K; clear hK K; clear hK K; (with_reducible refine hK _ ?_); clear hK K
      | (with_reducible refine And.intro ?_ ?_); (· first | omega | decide)
      | (try first | ((with_reducible refine W_reg ?_ ?_); (· rfl)) | (with_reducible refine W_exit ?_) | (with_reducible refine W_ret ?_)); simp only [go_sem, Nat.reduceEqDiff, ↓reduceIte, reduceIte, Nat.reduceAdd, Nat.reduceMul, Nat.reduceSub, Nat.reduceLeDiff, Nat.reduceBEq, Nat.reduceBNe, Int.reduceNeg, Int.reduceLT, Int.reduceLE, Int.reduceAdd, Int.reduceSub, Int.reduceToNat, Int.reduceEq, Int.reduceBEq, reduceCtorEq, Int.reduceBNe, h1, h3, hbox])
    refine stop_callH (num_ok _ _ _ (L ++ flagB x.ok) x.hint hx.hint (by simp [flagB]; omega) hW.wr) ?_
    rintro _ v h9 ⟨rfl, hk9⟩
    replace hbox := hk9.keepT hW.wr hbox (by decide) hnb0
    replace hW := hW.trans hk9 h0fr (fun c hc => under_lat hc (by omega))
    clear hk9
    repeat (first
      | with_reducible refine W_seq fun K hK => ?_
      | (with_reducible refine hK _ ?_); clear hK K
      | (with_reducible refine W_skipK hK ?_); clear hK K
      | (with_reducible refine W_condT ?_ ?_); (· rfl)
      | (with_reducible refine W_condF ?_ ?_); (· rfl)
      | with_reducible refine W_block ?_
      | clear hK K; (with_reducible refine hK _ ?_); clear hK K
      | clear hK K; clear hK K; (with_reducible refine hK _ ?_); clear hK K
      | clear hK K; clear hK K; clear hK K; (with_reducible refine hK _ ?_); clear hK K
      | (with_reducible refine And.intro ?_ ?_); (· first | omega | decide)
      | (try first | ((with_reducible refine W_reg ?_ ?_); (· rfl)) | (with_reducible refine W_exit ?_) | (with_reducible refine W_ret ?_)); simp only [go_sem, Nat.reduceEqDiff, ↓reduceIte, reduceIte, Nat.reduceAdd, Nat.reduceMul, Nat.reduceSub, Nat.reduceLeDiff, Nat.reduceBEq, Nat.reduceBNe, Int.reduceNeg, Int.reduceLT, Int.reduceLE, Int.reduceAdd, Int.reduceSub, Int.reduceToNat, Int.reduceEq, Int.reduceBEq, reduceCtorEq, Int.reduceBNe, h1, h3, hbox])
    refine stop_callH (putConf_ok _ _ _ (L ++ flagB x.ok ++ numB x.hint) x.conf (by simp [flagB]; omega) (by omega) hx.cr hW.wr) ?_
    rintro _ v h9 ⟨rfl, hk9⟩
    replace hbox := hk9.keepT hW.wr hbox (by decide) hnb0
    replace hW := hW.trans hk9 h0fr (fun c hc => under_lat hc (by omega))
    clear hk9
    repeat (first
      | with_reducible refine W_seq fun K hK => ?_
      | (with_reducible refine hK _ ?_); clear hK K
      | (with_reducible refine W_skipK hK ?_); clear hK K
      | (with_reducible refine W_condT ?_ ?_); (· rfl)
      | (with_reducible refine W_condF ?_ ?_); (· rfl)
      | with_reducible refine W_block ?_
      | clear hK K; (with_reducible refine hK _ ?_); clear hK K
      | clear hK K; clear hK K; (with_reducible refine hK _ ?_); clear hK K
      | clear hK K; clear hK K; clear hK K; (with_reducible refine hK _ ?_); clear hK K
      | (with_reducible refine And.intro ?_ ?_); (· first | omega | decide)
      | (try first | ((with_reducible refine W_reg ?_ ?_); (· rfl)) | (with_reducible refine W_exit ?_) | (with_reducible refine W_ret ?_)); simp only [go_sem, Nat.reduceEqDiff, ↓reduceIte, reduceIte, Nat.reduceAdd, Nat.reduceMul, Nat.reduceSub, Nat.reduceLeDiff, Nat.reduceBEq, Nat.reduceBNe, Int.reduceNeg, Int.reduceLT, Int.reduceLE, Int.reduceAdd, Int.reduceSub, Int.reduceToNat, Int.reduceEq, Int.reduceBEq, reduceCtorEq, Int.reduceBNe, h1, h3, hbox])
    refine stop_callH (text_ok _ _ _ (L ++ flagB x.ok ++ numB x.hint ++ confB (sqL x.conf)) x.data (by simp [flagB]; omega) (by omega) hW.wr) ?_
    rintro _ v h9 ⟨rfl, hk9⟩
    replace hbox := hk9.keepT hW.wr hbox (by decide) hnb0
    replace hW := hW.trans hk9 h0fr (fun c hc => under_lat hc (by omega))
    clear hk9
    repeat (first
      | with_reducible refine W_seq fun K hK => ?_
      | (with_reducible refine hK _ ?_); clear hK K
      | (with_reducible refine W_skipK hK ?_); clear hK K
      | (with_reducible refine W_condT ?_ ?_); (· rfl)
      | (with_reducible refine W_condF ?_ ?_); (· rfl)
      | with_reducible refine W_block ?_
      | clear hK K; (with_reducible refine hK _ ?_); clear hK K
      | clear hK K; clear hK K; (with_reducible refine hK _ ?_); clear hK K
      | clear hK K; clear hK K; clear hK K; (with_reducible refine hK _ ?_); clear hK K
      | (with_reducible refine And.intro ?_ ?_); (· first | omega | decide)
      | (try first | ((with_reducible refine W_reg ?_ ?_); (· rfl)) | (with_reducible refine W_exit ?_) | (with_reducible refine W_ret ?_)); simp only [go_sem, Nat.reduceEqDiff, ↓reduceIte, reduceIte, Nat.reduceAdd, Nat.reduceMul, Nat.reduceSub, Nat.reduceLeDiff, Nat.reduceBEq, Nat.reduceBNe, Int.reduceNeg, Int.reduceLT, Int.reduceLE, Int.reduceAdd, Int.reduceSub, Int.reduceToNat, Int.reduceEq, Int.reduceBEq, reduceCtorEq, Int.reduceBNe, h1, h3, hbox])
    refine stop_callH (num_ok _ _ _ (L ++ flagB x.ok ++ numB x.hint ++ confB (sqL x.conf) ++ textB (sqL x.data)) x.off hx.off (by simp [flagB]; omega) hW.wr) ?_
    rintro _ v h9 ⟨rfl, hk9⟩
    replace hbox := hk9.keepT hW.wr hbox (by decide) hnb0
    replace hW := hW.trans hk9 h0fr (fun c hc => under_lat hc (by omega))
    clear hk9
    repeat (first
      | with_reducible refine W_seq fun K hK => ?_
      | (with_reducible refine hK _ ?_); clear hK K
      | (with_reducible refine W_skipK hK ?_); clear hK K
      | (with_reducible refine W_condT ?_ ?_); (· rfl)
      | (with_reducible refine W_condF ?_ ?_); (· rfl)
      | with_reducible refine W_block ?_
      | clear hK K; (with_reducible refine hK _ ?_); clear hK K
      | clear hK K; clear hK K; (with_reducible refine hK _ ?_); clear hK K
      | clear hK K; clear hK K; clear hK K; (with_reducible refine hK _ ?_); clear hK K
      | (with_reducible refine And.intro ?_ ?_); (· first | omega | decide)
      | (try first | ((with_reducible refine W_reg ?_ ?_); (· rfl)) | (with_reducible refine W_exit ?_) | (with_reducible refine W_ret ?_)); simp only [go_sem, Nat.reduceEqDiff, ↓reduceIte, reduceIte, Nat.reduceAdd, Nat.reduceMul, Nat.reduceSub, Nat.reduceLeDiff, Nat.reduceBEq, Nat.reduceBNe, Int.reduceNeg, Int.reduceLT, Int.reduceLE, Int.reduceAdd, Int.reduceSub, Int.reduceToNat, Int.reduceEq, Int.reduceBEq, reduceCtorEq, Int.reduceBNe, h1, h3, hbox])
    refine stop_callH (num_ok _ _ _ (L ++ flagB x.ok ++ numB x.hint ++ confB (sqL x.conf) ++ textB (sqL x.data) ++ numB x.off) x.size hx.size (by simp [flagB]; omega) hW.wr) ?_
    rintro _ v h9 ⟨rfl, hk9⟩
    replace hbox := hk9.keepT hW.wr hbox (by decide) hnb0
    replace hW := hW.trans hk9 h0fr (fun c hc => under_lat hc (by omega))
    clear hk9
    repeat (first
      | with_reducible refine W_seq fun K hK => ?_
      | (with_reducible refine hK _ ?_); clear hK K
      | (with_reducible refine W_skipK hK ?_); clear hK K
      | (with_reducible refine W_condT ?_ ?_); (· rfl)
      | (with_reducible refine W_condF ?_ ?_); (· rfl)
      | with_reducible refine W_block ?_
      | clear hK K; (with_reducible refine hK _ ?_); clear hK K
      | clear hK K; clear hK K; (with_reducible refine hK _ ?_); clear hK K
      | clear hK K; clear hK K; clear hK K; (with_reducible refine hK _ ?_); clear hK K
      | (with_reducible refine And.intro ?_ ?_); (· first | omega | decide)
      | (try first | ((with_reducible refine W_reg ?_ ?_); (· rfl)) | (with_reducible refine W_exit ?_) | (with_reducible refine W_ret ?_)); simp only [go_sem, Nat.reduceEqDiff, ↓reduceIte, reduceIte, Nat.reduceAdd, Nat.reduceMul, Nat.reduceSub, Nat.reduceLeDiff, Nat.reduceBEq, Nat.reduceBNe, Int.reduceNeg, Int.reduceLT, Int.reduceLE, Int.reduceAdd, Int.reduceSub, Int.reduceToNat, Int.reduceEq, Int.reduceBEq, reduceCtorEq, Int.reduceBNe, h1, h3, hbox])
    refine stop_callH (num_ok _ _ _ (L ++ flagB x.ok ++ numB x.hint ++ confB (sqL x.conf) ++ textB (sqL x.data) ++ numB x.off ++ numB x.size) x.ctx hx.ctx (by simp [flagB]; omega) hW.wr) ?_
    rintro _ v h9 ⟨rfl, hk9⟩
    replace hbox := hk9.keepT hW.wr hbox (by decide) hnb0
    replace hW := hW.trans hk9 h0fr (fun c hc => under_lat hc (by omega))
    clear hk9
    repeat (first
      | with_reducible refine W_seq fun K hK => ?_
      | (with_reducible refine hK _ ?_); clear hK K
      | (with_reducible refine W_skipK hK ?_); clear hK K
      | (with_reducible refine W_condT ?_ ?_); (· rfl)
      | (with_reducible refine W_condF ?_ ?_); (· rfl)
      | with_reducible refine W_block ?_
      | clear hK K; (with_reducible refine hK _ ?_); clear hK K
      | clear hK K; clear hK K; (with_reducible refine hK _ ?_); clear hK K
      | clear hK K; clear hK K; clear hK K; (with_reducible refine hK _ ?_); clear hK K
      | (with_reducible refine And.intro ?_ ?_); (· first | omega | decide)
      | (try first | ((with_reducible refine W_reg ?_ ?_); (· rfl)) | (with_reducible refine W_exit ?_) | (with_reducible refine W_ret ?_)); simp only [go_sem, Nat.reduceEqDiff, ↓reduceIte, reduceIte, Nat.reduceAdd, Nat.reduceMul, Nat.reduceSub, Nat.reduceLeDiff, Nat.reduceBEq, Nat.reduceBNe, Int.reduceNeg, Int.reduceLT, Int.reduceLE, Int.reduceAdd, Int.reduceSub, Int.reduceToNat, Int.reduceEq, Int.reduceBEq, reduceCtorEq, Int.reduceBNe, h1, h3, hbox])
    have hctx := numB_len x.ctx
    refine stop_callH (bytes_ok _ _ _ (L ++ flagB x.ok ++ numB x.hint ++ confB (sqL x.conf) ++ textB (sqL x.data) ++ numB x.off ++ numB x.size ++ numB x.ctx) (by simp [flagB]; omega) hW.wr) ?_
    rintro _ v h9 ⟨rfl, rfl⟩
    repeat (first
      | with_reducible refine W_seq fun K hK => ?_
      | (with_reducible refine hK _ ?_); clear hK K
      | (with_reducible refine W_skipK hK ?_); clear hK K
      | (with_reducible refine W_condT ?_ ?_); (· rfl)
      | (with_reducible refine W_condF ?_ ?_); (· rfl)
      | with_reducible refine W_block ?_
      | clear hK K; (with_reducible refine hK _ ?_); clear hK K
      | clear hK K; clear hK K; (with_reducible refine hK _ ?_); clear hK K
      | clear hK K; clear hK K; clear hK K; (with_reducible refine hK _ ?_); clear hK K
      | (with_reducible refine And.intro ?_ ?_); (· first | omega | decide)
      | (try first | ((with_reducible refine W_reg ?_ ?_); (· rfl)) | (with_reducible refine W_exit ?_) | (with_reducible refine W_ret ?_)); simp only [go_sem, Nat.reduceEqDiff, ↓reduceIte, reduceIte, Nat.reduceAdd, Nat.reduceMul, Nat.reduceSub, Nat.reduceLeDiff, Nat.reduceBEq, Nat.reduceBNe, Int.reduceNeg, Int.reduceLT, Int.reduceLE, Int.reduceAdd, Int.reduceSub, Int.reduceToNat, Int.reduceEq, Int.reduceBEq, reduceCtorEq, Int.reduceBNe, h1, h3])
    have e9 : L ++ flagB x.ok ++ numB x.hint ++ confB (sqL x.conf) ++ textB (sqL x.data) ++ numB x.off ++ numB x.size ++ numB x.ctx = msgB x := by rw [← hL]; simp [msgB]
    rw [e9, ne_cons (msgB_ne x)]
    refine ends_ret (by simp only [go_sem, Nat.reduceEqDiff, ↓reduceIte, reduceIte, Nat.reduceAdd, Nat.reduceMul, Nat.reduceSub, Nat.reduceLeDiff, Nat.reduceBEq, Nat.reduceBNe, Int.reduceNeg, Int.reduceLT, Int.reduceLE, Int.reduceAdd, Int.reduceSub, Int.reduceToNat, Int.reduceEq, Int.reduceBEq, reduceCtorEq, Int.reduceBNe, Try.f19]) ?_
    intro b v hb
    have hb0 := hle0 b v hb
    obtain ⟨w, z, q1, q2, q3, q4, q5, q6⟩ := hW
    rw [hwb0] at q1; cases q1
    show h9 b = some v
    rw [q6 b (by rw [hb0]; rfl) (by rintro rfl; have := hfr [1, 1]; simp at this; rw [this] at hb; cases hb) (fun ⟨f, p, n, z, e⟩ => by cases e), hb0]
end Go.Proofs.Ytmpndjpaelcnkaa
