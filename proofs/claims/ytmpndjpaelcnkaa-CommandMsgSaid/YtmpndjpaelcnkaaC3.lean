/- Cut messages; the laws of reading and writing, put together. -/
import Derived.Test.YtmpndjpaelcnkaaC2
set_option linter.unusedVariables false
set_option linter.unusedSimpArgs false
namespace Go.Proofs.Ytmpndjpaelcnkaa
open Go Go.SX

/-- A message whose numbers lie in 64 bits. -/
structure Mg.N (x : Mg) : Prop where
  hd : ∀ n ∈ x.hd, i64R n
  er : ∀ e ∈ sqL x.es, e.N
  hint : i64R x.hint
  cr : ∀ n ∈ sqL x.conf, i64R n
  off : i64R x.off
  size : i64R x.size
  ctx : i64R x.ctx
theorem msgB_len {x : Mg} : (msgB x).length ≤ 250 + ((sqL x.es).flatMap entB).length + 10 * (sqL x.conf).length + (sqL x.data).length := by
  have h1 := flatNum_len x.hd; have h3 := confB_len (sqL x.conf); have h4 := textB_len (sqL x.data)
  have h7 := numB_len (sqL x.es).length; have h8 := numB_len x.hint; have h9 := numB_len x.off; have h10 := numB_len x.size; have h11 := numB_len x.ctx
  have h12 : x.hd.length = 7 := rfl
  have h13 : (flagB x.ok).length = 1 := rfl
  unfold msgB; simp only [List.length_append]; omega
theorem entB_len2 (e : Ent) : (entB e).length ≤ 40 + (sqL e.d).length := by
  have h1 := numB_len e.i; have h2 := numB_len e.t; have h3 := numB_len e.k; have h4 := textB_len (sqL e.d)
  unfold entB; simp only [List.length_append]; omega
theorem cut8_len (l : List Ent) : ((l.map cutE).flatMap entB).length ≤ 140 * l.length := by
  induction l with
  | nil => simp
  | cons e l ih =>
    have h1 := entB_len2 (cutE e)
    have h2 : (sqL (cutE e).d).length ≤ 100 := cut_len 100 e.d
    simp only [List.map_cons, List.flatMap_cons, List.length_append, List.length_cons]; omega
theorem cutM_R {x : Mg} (h : x.N) : (cutM x).R ∧ (msgB (cutM x)).length ≤ 2000 := by
  have h1 := cut8_len ((sqL x.es).take 8)
  have h2 : ((sqL x.es).take 8).length ≤ 8 := by rw [List.length_take]; omega
  have h3 : (sqL (cut 9 x.conf)).length ≤ 9 := cut_len 9 x.conf
  have h4 : (sqL (cut 100 x.data)).length ≤ 100 := cut_len 100 x.data
  have e1 : sqL (cutM x).es = ((sqL x.es).take 8).map cutE := sqL_ne _
  have e2 : (cutM x).conf = cut 9 x.conf := rfl
  have e3 : (cutM x).data = cut 100 x.data := rfl
  refine ⟨⟨h.hd, ?_, ?_, ?_, h.hint, ?_, ?_, ?_, h.off, h.size, h.ctx⟩, ?_⟩
  · rw [e1]; simp only [List.length_map]; omega
  · rw [e1]; omega
  · rw [e1]
    intro e he
    obtain ⟨e', he', rfl⟩ := List.mem_map.1 he
    obtain ⟨r1, r2, r3⟩ := h.er e' (List.mem_of_mem_take he')
    have := cut_len 100 e'.d
    exact ⟨r1, r2, r3, by show (sqL (cut 100 e'.d)).length ≤ _; omega⟩
  · rw [e2]; omega
  · rw [e2, sqL_cut]; exact fun n hn => h.cr n (List.mem_of_mem_take hn)
  · rw [e3]; omega
  · have := @msgB_len (cutM x)
    rw [e1, e2, e3] at this; omega
theorem flat_mem {f : Ent → List UInt8} {l : List Ent} {e : Ent} (h : e ∈ l) : (f e).length ≤ (l.flatMap f).length := by
  induction l with
  | nil => cases h
  | cons a l ih =>
    simp only [List.flatMap_cons, List.length_append]
    rcases List.mem_cons.1 h with rfl | h
    · omega
    · have := ih h; omega
/-- What is written is read again. -/
theorem readM_msg {x : Mg} (hx : x.R) : (readM (some (msgB x))).2 = 0 ∧ (readM (some (msgB x))).1.can = x.can := by
  obtain ⟨h1, h2⟩ := msg_fwd (s := ⟨some (msgB x), false⟩) ⟨rfl, rfl⟩ hx
  unfold readM
  rw [if_pos h2]; exact ⟨rfl, h1⟩
/-- What is read is written so. -/
theorem readM_good {o : Option (List UInt8)} (hl : (sqL o).length ≤ 2000) (h : (readM o).2 = 0) : msgB (readM o).1 = sqL o ∧ (readM o).1.R := by
  unfold readM at h ⊢
  split at h
  · rename_i hw
    rw [if_pos hw]
    obtain ⟨h1, h2, h3, h4, h5, h6, h7, h8⟩ := msg_bwd hw
    have e1 : sqL o = msgB (readR ⟨o, false⟩).1 := h1.2
    generalize (readR ⟨o, false⟩).1 = z at *
    rw [e1] at hl
    have g1 : ((sqL z.es).flatMap entB).length + (confB (sqL z.conf)).length + (textB (sqL z.data)).length ≤ 2000 := by
      unfold msgB at hl; simp only [List.length_append] at hl; omega
    have g2 := flat_ge entB entB_pos (sqL z.es)
    have g3 := flat_ge numB numB_pos (sqL z.conf)
    have g4 : (confB (sqL z.conf)).length = (numB ((sqL z.conf).length : Int)).length + ((sqL z.conf).flatMap numB).length := by unfold confB; simp
    have g5 : (textB (sqL z.data)).length = (numB ((sqL z.data).length : Int)).length + (sqL z.data).length := by unfold textB; simp
    refine ⟨e1.symm, ⟨h2, by omega, by omega, fun e he => ?_, h4, by omega, h5, by omega, h6, h7, h8⟩⟩
    obtain ⟨r1, r2, r3⟩ := h3 e he
    have g6 := flat_mem (f := entB) he
    have g7 : (entB e).length = (numB e.i).length + ((numB e.t).length + ((numB e.k).length + ((numB ((sqL e.d).length : Int)).length + (sqL e.d).length))) := by unfold entB textB; simp
    exact ⟨r1, r2, r3, by omega⟩
  · cases h
theorem readM_bad {o : Option (List UInt8)} (h : (readM o).2 ≠ 0) : readM o = (Mg.zero, 3) := by
  unfold readM at h ⊢
  split
  · rename_i hw; rw [if_pos hw] at h; exact absurd rfl h
  · rfl
/-- Messages that are written alike are alike. -/
theorem msgB_eq {x y : Mg} (hx : x.R) (hy : y.R) : (msgB x == msgB y) = eqM x y := by
  apply Bool.eq_iff_iff.2
  rw [beq_iff_eq, eqM_iff]
  constructor
  · intro h
    have h1 := (readM_msg hx).2
    rw [h] at h1
    exact h1.symm.trans (readM_msg hy).2
  · exact msgB_can
theorem xor8 (a b : UInt8) : xorI .u8 (a.toNat : Int) (b.toNat : Int) = ((a ^^^ b).toNat : Int) := by
  have ha := a.toNat_lt; have hb := b.toNat_lt
  show IntKind.u8.wrap ↑(BitVec.ofInt 8 (a.toNat : Int) ^^^ BitVec.ofInt 8 (b.toNat : Int)).toNat = _
  have e1 : ∀ c : UInt8, BitVec.ofInt 8 (c.toNat : Int) = c.toBitVec := fun c => by
    apply BitVec.eq_of_toNat_eq
    rw [BitVec.toNat_ofInt]
    have := c.toNat_lt
    have e5 : ((2 ^ 8 : Nat) : Int) = 256 := by decide
    rw [e5]
    show ((c.toNat : Int) % 256).toNat = c.toNat
    omega
  rw [e1, e1]
  have e2 : (a.toBitVec ^^^ b.toBitVec).toNat = (a ^^^ b).toNat := rfl
  rw [e2, wrap_u8 (by have := (a ^^^ b).toNat_lt; omega)]
end Go.Proofs.Ytmpndjpaelcnkaa
