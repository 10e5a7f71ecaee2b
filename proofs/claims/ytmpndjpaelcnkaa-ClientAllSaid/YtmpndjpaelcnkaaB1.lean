/- Bytes: copies, cuts; numbers as bytes: what is written. -/
import Derived.Test.YtmpndjpaelcnkaaSxT
import Derived.Test.YtmpndjpaelcnkaaSxO
set_option linter.unusedVariables false
set_option linter.unusedSimpArgs false
namespace Go.Proofs.Ytmpndjpaelcnkaa
open Go Go.SX
theorem follows_mixed : Try.prog.follows .mixedOrders = true := by kernel_rfl
theorem bE_len (x : UInt8) : (bE x).length = 1 := rfl
theorem nE_len (x : Int) : (nE x).length = 1 := rfl
theorem bE_one (a : UInt8) : (bE a).all AV.one = true := by simp [bE, u8A, one_p, oc_int]
theorem nE_one (a : Int) : (nE a).all AV.one = true := by simp [nE, one_p, oc_int]
theorem sqL_map {α : Type} (o : Option (List α)) (f : List α → List α) (hf : f [] = []) : sqL (o.map f) = f (sqL o) := by cases o <;> simp [sqL, hf]

/-- bytes.Clone. -/
theorem clone_ok (id : BId) (o : Option (List UInt8)) (hn : (sqL o).length ≤ 140737488355328) : CallF Try.prog 89 [sq bE o] id [] (sq bE o) [] := by
  refine ⟨⟨_, Try.func89, by decide, rfl⟩, (by simp <;> repeat first | exact ⟨[_, _], rfl⟩ | constructor), fun h hr => callsA_of_W Try.func89 rfl fun hfr => ?_⟩
  cases o with
  | none =>
    rw [sq_none]
    repeat (first
      | with_reducible refine W_seq fun K hK => ?_
      | (with_reducible refine hK _ ?_); clear hK K
      | (with_reducible refine W_skipK hK ?_); clear hK K
      | (with_reducible refine W_condT ?_ ?_); (· rfl)
      | (with_reducible refine W_condF ?_ ?_); (· rfl)
      | with_reducible refine W_block ?_
      | clear hK K; (with_reducible refine hK _ ?_); clear hK K
      | clear hK K; clear hK K; (with_reducible refine hK _ ?_); clear hK K
      | clear hK K; clear hK K; clear hK K; (with_reducible refine hK _ ?_); clear hK K
      | (with_reducible refine And.intro ?_ ?_); (· first | omega | decide)
      | (try first | ((with_reducible refine W_reg ?_ ?_); (· rfl)) | (with_reducible refine W_exit ?_) | (with_reducible refine W_ret ?_)); simp only [go_sem, Nat.reduceEqDiff, ↓reduceIte, reduceIte, Nat.reduceAdd, Nat.reduceMul, Nat.reduceSub, Nat.reduceLeDiff, Nat.reduceBEq, Nat.reduceBNe, Int.reduceNeg, Int.reduceLT, Int.reduceLE, Int.reduceAdd, Int.reduceSub, Int.reduceToNat, Int.reduceEq, Int.reduceBEq, reduceCtorEq, Int.reduceBNe])
    refine ends_ret ?_ (by (repeat first | exact HLe.refl _ | refine HLe.set ?_ _ _ | refine HLe.fresh ?_ (hfr [_, _])))
    simp only [go_sem, Nat.reduceEqDiff, ↓reduceIte, reduceIte, Nat.reduceAdd, Nat.reduceMul, Nat.reduceSub, Nat.reduceLeDiff, Nat.reduceBEq, Nat.reduceBNe, Int.reduceNeg, Int.reduceLT, Int.reduceLE, Int.reduceAdd, Int.reduceSub, Int.reduceToNat, Int.reduceEq, Int.reduceBEq, reduceCtorEq, Int.reduceBNe, Try.f89]
  | some l =>
    simp only [sq, sqL] at hn ⊢
    repeat (first
      | with_reducible refine W_seq fun K hK => ?_
      | (with_reducible refine hK _ ?_); clear hK K
      | (with_reducible refine W_skipK hK ?_); clear hK K
      | (with_reducible refine W_condT ?_ ?_); (· rfl)
      | (with_reducible refine W_condF ?_ ?_); (· rfl)
      | with_reducible refine W_block ?_
      | clear hK K; (with_reducible refine hK _ ?_); clear hK K
      | clear hK K; clear hK K; (with_reducible refine hK _ ?_); clear hK K
      | clear hK K; clear hK K; clear hK K; (with_reducible refine hK _ ?_); clear hK K
      | (with_reducible refine And.intro ?_ ?_); (· first | omega | decide)
      | (try first | ((with_reducible refine W_reg ?_ ?_); (· rfl)) | (with_reducible refine W_exit ?_) | (with_reducible refine W_ret ?_)); simp only [go_sem, Nat.reduceEqDiff, ↓reduceIte, reduceIte, Nat.reduceAdd, Nat.reduceMul, Nat.reduceSub, Nat.reduceLeDiff, Nat.reduceBEq, Nat.reduceBNe, Int.reduceNeg, Int.reduceLT, Int.reduceLE, Int.reduceAdd, Int.reduceSub, Int.reduceToNat, Int.reduceEq, Int.reduceBEq, reduceCtorEq, Int.reduceBNe])
    refine stop_append_fix 5 1 1 0 l.length [] (l.flatMap bE) ty24.2.2.2.1 ty5.2.1 ty5.2.2.1 (by simp only [go_sem, Nat.reduceEqDiff, ↓reduceIte, reduceIte, Nat.reduceAdd, Nat.reduceMul, Nat.reduceSub, Nat.reduceLeDiff, Nat.reduceBEq, Nat.reduceBNe, Int.reduceNeg, Int.reduceLT, Int.reduceLE, Int.reduceAdd, Int.reduceSub, Int.reduceToNat, Int.reduceEq, Int.reduceBEq, reduceCtorEq, Int.reduceBNe] <;> rfl) rfl (by rfl) (by simp only [go_sem, Nat.reduceEqDiff, ↓reduceIte, reduceIte, Nat.reduceAdd, Nat.reduceMul, Nat.reduceSub, Nat.reduceLeDiff, Nat.reduceBEq, Nat.reduceBNe, Int.reduceNeg, Int.reduceLT, Int.reduceLE, Int.reduceAdd, Int.reduceSub, Int.reduceToNat, Int.reduceEq, Int.reduceBEq, reduceCtorEq, Int.reduceBNe] <;> rfl) (flatMap_len bE_len l) (by omega) (by unfold maxLen; omega) ?_
    repeat (first
      | with_reducible refine W_seq fun K hK => ?_
      | (with_reducible refine hK _ ?_); clear hK K
      | (with_reducible refine W_skipK hK ?_); clear hK K
      | (with_reducible refine W_condT ?_ ?_); (· rfl)
      | (with_reducible refine W_condF ?_ ?_); (· rfl)
      | with_reducible refine W_block ?_
      | clear hK K; (with_reducible refine hK _ ?_); clear hK K
      | clear hK K; clear hK K; (with_reducible refine hK _ ?_); clear hK K
      | clear hK K; clear hK K; clear hK K; (with_reducible refine hK _ ?_); clear hK K
      | (with_reducible refine And.intro ?_ ?_); (· first | omega | decide)
      | (try first | ((with_reducible refine W_reg ?_ ?_); (· rfl)) | (with_reducible refine W_exit ?_) | (with_reducible refine W_ret ?_)); simp only [go_sem, Nat.reduceEqDiff, ↓reduceIte, reduceIte, Nat.reduceAdd, Nat.reduceMul, Nat.reduceSub, Nat.reduceLeDiff, Nat.reduceBEq, Nat.reduceBNe, Int.reduceNeg, Int.reduceLT, Int.reduceLE, Int.reduceAdd, Int.reduceSub, Int.reduceToNat, Int.reduceEq, Int.reduceBEq, reduceCtorEq, Int.reduceBNe])
    refine ends_ret ?_ (by (repeat first | exact HLe.refl _ | refine HLe.set ?_ _ _ | refine HLe.fresh ?_ (hfr [_, _])))
    simp only [go_sem, Nat.reduceEqDiff, ↓reduceIte, reduceIte, Nat.reduceAdd, Nat.reduceMul, Nat.reduceSub, Nat.reduceLeDiff, Nat.reduceBEq, Nat.reduceBNe, Int.reduceNeg, Int.reduceLT, Int.reduceLE, Int.reduceAdd, Int.reduceSub, Int.reduceToNat, Int.reduceEq, Int.reduceBEq, reduceCtorEq, Int.reduceBNe, Try.f89]

/-- delphilaw1.Short. -/
def cut {α : Type} (n : Nat) (o : Option (List α)) : Option (List α) := o.map (·.take n)
theorem cut_len {α : Type} (n : Nat) (o : Option (List α)) : (sqL (cut n o)).length ≤ n := by cases o <;> simp [cut, sqL]; omega
theorem short_ok (id : BId) (o : Option (List UInt8)) (n : Nat) : CallF Try.prog 67 [sq bE o, .p (.int .i64 n)] id [] (sq bE (cut n o)) [] := by
  refine ⟨⟨_, Try.func67, by decide, rfl⟩, (by simp <;> repeat first | exact ⟨[_, _], rfl⟩ | constructor), fun h hr => callsA_of_W Try.func67 rfl fun hfr => ?_⟩
  by_cases h1 : (sqL o).length > n
  · have f1 : decide (((sqL o).length : Int) > (n : Int)) = true := by simp; omega
    repeat (first
      | with_reducible refine W_seq fun K hK => ?_
      | (with_reducible refine hK _ ?_); clear hK K
      | (with_reducible refine W_skipK hK ?_); clear hK K
      | (with_reducible refine W_condT ?_ ?_); (· rfl)
      | (with_reducible refine W_condF ?_ ?_); (· rfl)
      | with_reducible refine W_block ?_
      | clear hK K; (with_reducible refine hK _ ?_); clear hK K
      | clear hK K; clear hK K; (with_reducible refine hK _ ?_); clear hK K
      | clear hK K; clear hK K; clear hK K; (with_reducible refine hK _ ?_); clear hK K
      | (with_reducible refine And.intro ?_ ?_); (· first | omega | decide)
      | (try first | ((with_reducible refine W_reg ?_ ?_); (· rfl)) | (with_reducible refine W_exit ?_) | (with_reducible refine W_ret ?_)); simp only [go_sem, Nat.reduceEqDiff, ↓reduceIte, reduceIte, Nat.reduceAdd, Nat.reduceMul, Nat.reduceSub, Nat.reduceLeDiff, Nat.reduceBEq, Nat.reduceBNe, Int.reduceNeg, Int.reduceLT, Int.reduceLE, Int.reduceAdd, Int.reduceSub, Int.reduceToNat, Int.reduceEq, Int.reduceBEq, reduceCtorEq, Int.reduceBNe, f1])
    refine sliceW_sq 0 n ty24.2.2.2.1 ty5.2.1 bE_len rfl rfl (by omega) (by omega) ?_
    repeat (first
      | with_reducible refine W_seq fun K hK => ?_
      | (with_reducible refine hK _ ?_); clear hK K
      | (with_reducible refine W_skipK hK ?_); clear hK K
      | (with_reducible refine W_condT ?_ ?_); (· rfl)
      | (with_reducible refine W_condF ?_ ?_); (· rfl)
      | with_reducible refine W_block ?_
      | clear hK K; (with_reducible refine hK _ ?_); clear hK K
      | clear hK K; clear hK K; (with_reducible refine hK _ ?_); clear hK K
      | clear hK K; clear hK K; clear hK K; (with_reducible refine hK _ ?_); clear hK K
      | (with_reducible refine And.intro ?_ ?_); (· first | omega | decide)
      | (try first | ((with_reducible refine W_reg ?_ ?_); (· rfl)) | (with_reducible refine W_exit ?_) | (with_reducible refine W_ret ?_)); simp only [go_sem, Nat.reduceEqDiff, ↓reduceIte, reduceIte, Nat.reduceAdd, Nat.reduceMul, Nat.reduceSub, Nat.reduceLeDiff, Nat.reduceBEq, Nat.reduceBNe, Int.reduceNeg, Int.reduceLT, Int.reduceLE, Int.reduceAdd, Int.reduceSub, Int.reduceToNat, Int.reduceEq, Int.reduceBEq, reduceCtorEq, Int.reduceBNe])
    refine ends_ret ?_ (by (repeat first | exact HLe.refl _ | refine HLe.set ?_ _ _ | refine HLe.fresh ?_ (hfr [_, _])))
    simp only [go_sem, Nat.reduceEqDiff, ↓reduceIte, reduceIte, Nat.reduceAdd, Nat.reduceMul, Nat.reduceSub, Nat.reduceLeDiff, Nat.reduceBEq, Nat.reduceBNe, Int.reduceNeg, Int.reduceLT, Int.reduceLE, Int.reduceAdd, Int.reduceSub, Int.reduceToNat, Int.reduceEq, Int.reduceBEq, reduceCtorEq, Int.reduceBNe, Try.f67, cut, List.drop_zero, Nat.sub_zero]
  · have f1 : decide (((sqL o).length : Int) > (n : Int)) = false := by simp; omega
    have e : cut n o = o := by cases o <;> simp [cut]; exact List.take_of_length_le (by simpa [sqL] using h1)
    rw [e]
    repeat (first
      | with_reducible refine W_seq fun K hK => ?_
      | (with_reducible refine hK _ ?_); clear hK K
      | (with_reducible refine W_skipK hK ?_); clear hK K
      | (with_reducible refine W_condT ?_ ?_); (· rfl)
      | (with_reducible refine W_condF ?_ ?_); (· rfl)
      | with_reducible refine W_block ?_
      | clear hK K; (with_reducible refine hK _ ?_); clear hK K
      | clear hK K; clear hK K; (with_reducible refine hK _ ?_); clear hK K
      | clear hK K; clear hK K; clear hK K; (with_reducible refine hK _ ?_); clear hK K
      | (with_reducible refine And.intro ?_ ?_); (· first | omega | decide)
      | (try first | ((with_reducible refine W_reg ?_ ?_); (· rfl)) | (with_reducible refine W_exit ?_) | (with_reducible refine W_ret ?_)); simp only [go_sem, Nat.reduceEqDiff, ↓reduceIte, reduceIte, Nat.reduceAdd, Nat.reduceMul, Nat.reduceSub, Nat.reduceLeDiff, Nat.reduceBEq, Nat.reduceBNe, Int.reduceNeg, Int.reduceLT, Int.reduceLE, Int.reduceAdd, Int.reduceSub, Int.reduceToNat, Int.reduceEq, Int.reduceBEq, reduceCtorEq, Int.reduceBNe, f1])
    refine ends_ret ?_ (by (repeat first | exact HLe.refl _ | refine HLe.set ?_ _ _ | refine HLe.fresh ?_ (hfr [_, _])))
    simp only [go_sem, Nat.reduceEqDiff, ↓reduceIte, reduceIte, Nat.reduceAdd, Nat.reduceMul, Nat.reduceSub, Nat.reduceLeDiff, Nat.reduceBEq, Nat.reduceBNe, Int.reduceNeg, Int.reduceLT, Int.reduceLE, Int.reduceAdd, Int.reduceSub, Int.reduceToNat, Int.reduceEq, Int.reduceBEq, reduceCtorEq, Int.reduceBNe, Try.f67]

/-- A number as bytes. -/
def numF : Nat → Nat → List UInt8
  | 0, _ => []
  | k + 1, u => if u < 128 then [UInt8.ofNat u] else UInt8.ofNat (u % 128 + 128) :: numF k (u / 128)
def numU (u : Nat) : List UInt8 := numF 10 u
def zig (n : Int) : Nat := if 0 ≤ n then (2 * n).toNat else (-2 * n - 1).toNat
def numB (n : Int) : List UInt8 := numU (zig n)
theorem zig_lt {n : Int} (h : -9223372036854775808 ≤ n ∧ n ≤ 9223372036854775807) : zig n < 18446744073709551616 := by unfold zig; split <;> omega
theorem or128 : ∀ x : BitVec 8, (x ||| 128#8).toNat = x.toNat % 128 + 128 := by decide +kernel

/-- The block that a slice of one's own lies in. -/
def ownOf (x : AV) (c : BId) : Prop := ∃ f p n z, x = .ref f c p n z
theorem ownW_far {h : Heap} {x : AV} {c : BId} (hn : ¬ ownOf x c) : upd h (ownW x) c = h c := upd_ownW_ne (fun f b p n z e q => hn ⟨f, p, n, z, by rw [e, q]⟩)
/-- A writer that holds l. -/
def Wr (h : Heap) (b : BId) (l : List UInt8) : Prop := ∃ x, h b = some (.cells 116 [x]) ∧ Grw bE 5 1 (.p (.slice none 0 0)) [] h x l ∧ ¬ ownOf x b
/-- A writer holds l' now; nothing else has turned, but that its former block is forgotten. -/
def WrN (N : BId → Prop) (h h' : Heap) (b : BId) (l' : List UInt8) : Prop :=
  ∃ x y, h b = some (.cells 116 [x]) ∧ h' b = some (.cells 116 [y]) ∧ Grw bE 5 1 (.p (.slice none 0 0)) [] h' y l' ∧ ¬ ownOf y b ∧ (∀ c, ownOf y c → ownOf x c ∨ N c) ∧ ∀ c, (h c).isSome = true → c ≠ b → ¬ ownOf x c → h' c = h c
abbrev WrK (id : BId) (h h' : Heap) (b : BId) (l' : List UInt8) : Prop := WrN (Under id) h h' b l'
theorem WrN.trans {N N2 : BId → Prop} {h h1 h2 : Heap} {b : BId} {l1 l2 : List UInt8} (hw : WrN N h h1 b l1) (hw2 : WrN N2 h1 h2 b l2) (hfr : ∀ c, N c → h c = none) (hu : ∀ c, N2 c → N c) : WrN N h h2 b l2 := by
  obtain ⟨x, y, q1, q2, q3, q4, q5, q6⟩ := hw
  obtain ⟨y', z, r1, r2, r3, r4, r5, r6⟩ := hw2
  rw [q2] at r1; cases r1
  refine ⟨x, z, q1, r2, r3, r4, fun c hc => ?_, fun c hc hb hx => ?_⟩
  · rcases r5 c hc with h | h
    · exact q5 c h
    · exact .inr (hu c h)
  · have e1 := q6 c hc hb hx
    rw [r6 c (by rw [e1]; exact hc) hb (fun ho => ?_), e1]
    rcases q5 c ho with h | h
    · exact hx h
    · rw [hfr c h] at hc; cases hc
theorem WrN.reflN {N : BId → Prop} {h : Heap} {b : BId} {l : List UInt8} (hw : Wr h b l) : WrN N h h b l := let ⟨x, h1, h2, h3⟩ := hw; ⟨x, x, h1, h1, h2, h3, fun c hc => .inl hc, fun c _ _ _ => rfl⟩
theorem WrN.wr {N : BId → Prop} {h h' : Heap} {b : BId} {l : List UInt8} (hw : WrN N h h' b l) : Wr h' b l := let ⟨x, y, h1, h2, h3, h4, _⟩ := hw; ⟨y, h2, h3, h4⟩
/-- Blocks of other types stay. -/
theorem WrN.keepT {N : BId → Prop} {h h' : Heap} {b c : BId} {l l' : List UInt8} {e : TypeId} {cs : List AV} (hw : WrN N h h' b l') (hw0 : Wr h b l) (hc : h c = some (.cells e cs)) (he : e ≠ 5) (hb : c ≠ b) : h' c = some (.cells e cs) := by
  obtain ⟨x, y, q1, q2, q3, q4, q5, q6⟩ := hw
  obtain ⟨x', r1, r2, r3⟩ := hw0
  rw [q1] at r1; cases r1
  rw [q6 c (by rw [hc]; rfl) hb ?_, hc]
  rintro ⟨f, p, n, z, e1⟩
  rcases r2 with ⟨h1, _⟩ | ⟨b2, _, h2, h3⟩
  · rw [h1] at e1; cases e1
  · rw [h2] at e1; cases e1; rw [hc] at h3; cases h3; exact he rfl
theorem Wr.refl {id : BId} {h : Heap} {b : BId} {l : List UInt8} (hw : Wr h b l) : WrK id h h b l := let ⟨x, h1, h2, h3⟩ := hw; ⟨x, x, h1, h1, h2, h3, fun c hc => .inl hc, fun c _ _ _ => rfl⟩
theorem WrK.wr {id : BId} {h h' : Heap} {b : BId} {l : List UInt8} (hw : WrK id h h' b l) : Wr h' b l := let ⟨x, y, h1, h2, h3, h4, _⟩ := hw; ⟨y, h2, h3, h4⟩
theorem WrK.trans {id id2 : BId} {h h1 h2 : Heap} {b : BId} {l1 l2 : List UInt8} (hw : WrK id h h1 b l1) (hw2 : WrK id2 h1 h2 b l2) (hfr : FrH h id) (hu : ∀ c, Under id2 c → Under id c) : WrK id h h2 b l2 := by
  obtain ⟨x, y, q1, q2, q3, q4, q5, q6⟩ := hw
  obtain ⟨y', z, r1, r2, r3, r4, r5, r6⟩ := hw2
  rw [q2] at r1; cases r1
  refine ⟨x, z, q1, r2, r3, r4, fun c hc => ?_, fun c hc hb hx => ?_⟩
  · rcases r5 c hc with h | h
    · exact q5 c h
    · exact .inr (hu c h)
  · have e1 := q6 c hc hb hx
    rw [r6 c (by rw [e1]; exact hc) hb (fun ho => ?_), e1]
    rcases q5 c ho with h | h
    · exact hx h
    · obtain ⟨p, rfl⟩ := h
      rw [hfr p] at hc; cases hc
theorem under_fr {h : Heap} {id c : BId} (hfr : FrH h id) (hu : Under id c) : h c = none := by obtain ⟨p, rfl⟩ := hu; exact hfr p
/-- Bytes are appended. -/
theorem WrK.app {id : BId} {h hc : Heap} {b nm : BId} {l m : List UInt8} {y : AV} (hw : WrK id h hc b l) (hfr : FrH h id) (hy : hc b = some (.cells 116 [y])) (hu : Under id nm) (hm : m ≠ []) :
    WrK id h (hset (hset (upd hc (ownW y)) nm (some (.cells 5 ((l ++ m).flatMap bE)))) b (some (.cells 116 [.ref false nm 0 (l ++ m).length 1]))) b (l ++ m) := by
  obtain ⟨x, y', q1, q2, q3, q4, q5, q6⟩ := hw
  rw [hy] at q2; cases q2
  have hnb : nm ≠ b := by rintro rfl; rw [under_fr hfr hu] at q1; cases q1
  refine ⟨x, _, q1, hset_same _ _ _, .inr ⟨nm, by simp [hm], by simp, ?_⟩, ?_, ?_, fun c hc' hb hx => ?_⟩
  · rw [hset_ne _ _ _ hnb, hset_same]; simp
  · rintro ⟨f, p, n, z, e⟩; cases e; exact hnb rfl
  · rintro c ⟨f, p, n, z, e⟩; cases e; exact .inr hu
  · rw [hset_ne _ _ _ hb, hset_ne _ _ _ (by rintro rfl; rw [under_fr hfr hu] at hc'; cases hc'), ownW_far, q6 c hc' hb hx]
    intro ho
    rcases q5 c ho with h1 | h1
    · exact hx h1
    · rw [under_fr hfr h1] at hc'; cases hc'
/-- A block of another type stays. -/
theorem WrK.keepT {id : BId} {h h' : Heap} {b c : BId} {l l' : List UInt8} {e : TypeId} {cs : List AV} (hw0 : Wr h b l) (hw : WrK id h h' b l') (hc : h c = some (.cells e cs)) (he : e ≠ 5) (hb : c ≠ b) : h' c = some (.cells e cs) := by
  obtain ⟨x, y, q1, q2, q3, q4, q5, q6⟩ := hw
  obtain ⟨x', r1, r2, r3⟩ := hw0
  rw [q1] at r1; cases r1
  rw [q6 c (by rw [hc]; rfl) hb ?_, hc]
  rintro ⟨f, p, n, z, e1⟩
  rcases r2 with ⟨h1, _⟩ | ⟨b2, _, h2, h3⟩
  · rw [h1] at e1; cases e1
  · rw [h2] at e1; cases e1; rw [hc] at h3; cases h3; exact he rfl
theorem ownW_at {h : Heap} {x : AV} {c : BId} (hn : ownOf x c) : upd h (ownW x) c = none := by
  obtain ⟨f, p, n, z, rfl⟩ := hn
  exact hset_same _ _ _
theorem ownW_le {h H : Heap} {x : AV} (hk : ∀ c, ¬ ownOf x c → ∀ y, h c = some y → H c = some y) : HLe (upd h (ownW x)) H := fun c y hc => by
  by_cases ho : ownOf x c
  · rw [ownW_at ho] at hc; cases hc
  · rw [ownW_far ho] at hc; exact hk c ho y hc
/-- The end of a function that writes. -/
theorem wr_end {P : Program} {rs : List ResultVar} {id : BId} {h : Heap} {b : BId} {l l' : List UInt8} {e : Exit} {st : SSt} (hfr : FrH h id) (hw0 : Wr h b l) (he : e = .ret ∨ e = .normal) (hr : resA P st.h st.tm rs (fun l => oneA l = .tup [])) (hw : WrK id h st.h b l') :
    ∃ r W, (∀ q ∈ W, (h q.1).isSome = true ∨ Under id q.1) ∧ SX.Ends P rs r (upd h W) e st ∧ (r = .tup [] ∧ WrK id h (upd h W) b l') := by
  obtain ⟨x, y, q1, q2, q3, q4, q5, q6⟩ := hw
  obtain ⟨x', r1, r2, r3⟩ := hw0
  rw [q1] at r1; cases r1
  have hox : ∀ c, ownOf x c → (h c).isSome = true := by
    rintro c ⟨f, p, n, z, rfl⟩
    rcases r2 with ⟨h1, _⟩ | ⟨b2, _, h2, h3⟩
    · cases h1
    · cases h2; rw [h3]; rfl
  have hwx : ∀ q ∈ ownW x, (h q.1).isSome = true := by
    intro q hq
    cases x <;> simp only [ownW, List.mem_singleton, List.not_mem_nil] at hq
    subst hq
    exact hox _ ⟨_, _, _, _, rfl⟩
  rcases q3 with ⟨rfl, rfl⟩ | ⟨b2, hne, rfl, hb2⟩
  · refine ⟨_, ownW x ++ [(b, some (.cells 116 [.p (.slice none 0 0)]))], fun q hq => ?_, ⟨he, hr, ?_⟩, rfl, x, _, q1, ?_, .inl ⟨rfl, rfl⟩, q4, q5, fun c hc hb hx => ?_⟩
    · rcases List.mem_append.1 hq with hq | hq
      · exact .inl (hwx q hq)
      · simp at hq; subst hq; exact .inl (by rw [q1]; rfl)
    · rw [upd_append]
      intro c z hc
      simp only [upd, hset_at] at hc
      split at hc
      · rename_i e; subst e; rw [q2]; exact hc
      · rename_i e
        by_cases ho : ownOf x c
        · rw [ownW_at ho] at hc; cases hc
        · rw [ownW_far ho] at hc; rw [q6 c (by rw [hc]; rfl) e ho]; exact hc
    · rw [upd_append]; exact hset_same _ _ _
    · rw [upd_append]; simp only [upd]; rw [hset_ne _ _ _ hb, ownW_far hx]
  · have hbb : b2 ≠ b := fun e => q4 ⟨_, _, _, _, by rw [e]⟩
    refine ⟨_, ownW x ++ [(b, some (.cells 116 [.ref false b2 0 ([] ++ l').length 1])), (b2, some (.cells 5 (([] ++ l').flatMap bE)))], fun q hq => ?_, ⟨he, hr, ?_⟩, rfl, x, _, q1, ?_, .inr ⟨b2, hne, rfl, ?_⟩, q4, q5, fun c hc hb hx => ?_⟩
    · rcases List.mem_append.1 hq with hq | hq
      · exact .inl (hwx q hq)
      · simp at hq
        rcases hq with rfl | rfl
        · exact .inl (by rw [q1]; rfl)
        · exact (q5 b2 ⟨_, _, _, _, rfl⟩).imp (fun q => hox _ q) (fun q => q)
    · rw [upd_append]
      intro c z hc
      simp only [upd, hset_at] at hc
      split at hc
      · rename_i e; subst e; rw [hb2]; exact hc
      · split at hc
        · rename_i e; subst e; rw [q2]; exact hc
        · rename_i e
          by_cases ho : ownOf x c
          · rw [ownW_at ho] at hc; cases hc
          · rw [ownW_far ho] at hc; rw [q6 c (by rw [hc]; rfl) e ho]; exact hc
    · rw [upd_append]; simp only [upd]; rw [hset_ne _ _ _ hbb.symm, hset_same]
    · rw [upd_append]; simp only [upd]; rw [hset_same]
    · rw [upd_append]; simp only [upd]; rw [hset_ne _ _ _ ?_, hset_ne _ _ _ hb, ownW_far hx]
      rintro rfl
      rcases q5 c ⟨_, _, _, _, rfl⟩ with h1 | h1
      · exact hx h1
      · rw [under_fr hfr h1] at hc; cases hc

theorem wrap_u64 {x : Int} (h : 0 ≤ x ∧ x < 18446744073709551616) : IntKind.u64.wrap x = x := by
  have h2 : (2 : Int) ^ (IntKind.u64.bits) = 18446744073709551616 := by decide
  simp only [IntKind.wrap, h2, show IntKind.u64.signed = false from rfl, Bool.false_and, Bool.false_eq_true, if_false]
  omega
theorem wrap_u8 {x : Int} (h : 0 ≤ x ∧ x < 256) : IntKind.u8.wrap x = x := by
  have h2 : (2 : Int) ^ (IntKind.u8.bits) = 256 := by decide
  simp only [IntKind.wrap, h2, show IntKind.u8.signed = false from rfl, Bool.false_and, Bool.false_eq_true, if_false]
  omega
theorem wrap_u8m {x : Int} : IntKind.u8.wrap x = x % 256 := by
  have h2 : (2 : Int) ^ (IntKind.u8.bits) = 256 := by decide
  simp only [IntKind.wrap, h2, show IntKind.u8.signed = false from rfl, Bool.false_and, Bool.false_eq_true, if_false]
theorem wrap_u64m {x : Int} : IntKind.u64.wrap x = x % 18446744073709551616 := by
  have h2 : (2 : Int) ^ (IntKind.u64.bits) = 18446744073709551616 := by decide
  simp only [IntKind.wrap, h2, show IntKind.u64.signed = false from rfl, Bool.false_and, Bool.false_eq_true, if_false]

theorem zig_eq {n : Int} (h : -9223372036854775808 ≤ n ∧ n ≤ 9223372036854775807) :
    IntKind.u64.wrap ↑(BitVec.ofInt 64 (IntKind.u64.wrap (IntKind.u64.wrap n * 2 ^ min 1 64)) ^^^ BitVec.ofInt 64 (IntKind.u64.wrap (n.fdiv (2 ^ min 63 64)))).toNat = (zig n : Int) := by
  have e1 : (2 : Int) ^ min 1 64 = 2 := by decide
  have e2 : (2 : Int) ^ min 63 64 = 9223372036854775808 := by decide
  rw [e1, e2]
  simp only [wrap_u64m]
  have e3 : n.fdiv 9223372036854775808 = if 0 ≤ n then 0 else -1 := by
    rw [Int.fdiv_eq_ediv_of_nonneg _ (by decide)]
    split <;> omega
  rw [e3]
  unfold zig
  by_cases c : 0 ≤ n
  · rw [if_pos c, if_pos c]
    have e4 : BitVec.ofInt 64 (0 % 18446744073709551616) = 0#64 := by decide
    rw [e4, BitVec.xor_zero, BitVec.toNat_ofInt]
    have e5 : ((2 ^ 64 : Nat) : Int) = 18446744073709551616 := by decide
    rw [e5]
    omega
  · rw [if_neg c, if_neg c]
    have e4 : BitVec.ofInt 64 (-1 % 18446744073709551616) = BitVec.allOnes 64 := by decide
    rw [e4, BitVec.xor_allOnes, BitVec.toNat_not, BitVec.toNat_ofInt]
    have e5 : ((2 ^ 64 : Nat) : Int) = 18446744073709551616 := by decide
    rw [e5]
    omega
theorem or_eq {u : Int} (h : 0 ≤ u) : IntKind.u8.wrap ↑(BitVec.ofInt 8 (IntKind.u8.wrap u) ||| BitVec.ofInt 8 128).toNat = u % 128 + 128 := by
  have e1 : BitVec.ofInt 8 128 = 128#8 := by decide
  have h2 : (2 : Int) ^ (IntKind.u8.bits) = 256 := by decide
  rw [e1, or128, BitVec.toNat_ofInt]
  have e5 : ((2 ^ 8 : Nat) : Int) = 256 := by decide
  rw [e5]
  simp only [IntKind.wrap, h2, show IntKind.u8.signed = false from rfl, Bool.false_and, Bool.false_eq_true, if_false]
  omega

set_option maxRecDepth 8000 in
theorem num_ok (id b : BId) (h : Heap) (l : List UInt8) (n : Int) (hn : -9223372036854775808 ≤ n ∧ n ≤ 9223372036854775807) (hl : l.length ≤ 1000000) (hw : Wr h b l) : CallH Try.prog 68 [.ptr b 0, .p (.int .i64 n)] id h (fun v h' => v = .tup [] ∧ WrK id h h' b (l ++ numB n)) := by
  refine callE_of_W (fn := Try.f68) Try.func68 (by decide) rfl fun hfr => ?_
  repeat (first
    | with_reducible refine W_seq fun K hK => ?_
    | (with_reducible refine hK _ ?_); clear hK K
    | (with_reducible refine W_skipK hK ?_); clear hK K
    | (with_reducible refine W_condT ?_ ?_); (· rfl)
    | (with_reducible refine W_condF ?_ ?_); (· rfl)
    | with_reducible refine W_block ?_
    | clear hK K; (with_reducible refine hK _ ?_); clear hK K
    | clear hK K; clear hK K; (with_reducible refine hK _ ?_); clear hK K
    | clear hK K; clear hK K; clear hK K; (with_reducible refine hK _ ?_); clear hK K
    | (with_reducible refine And.intro ?_ ?_); (· first | omega | decide)
    | (try first | ((with_reducible refine W_reg ?_ ?_); (· rfl)) | (with_reducible refine W_exit ?_) | (with_reducible refine W_ret ?_)); simp only [go_sem, Nat.reduceEqDiff, ↓reduceIte, reduceIte, Nat.reduceAdd, Nat.reduceMul, Nat.reduceSub, Nat.reduceLeDiff, Nat.reduceBEq, Nat.reduceBNe, Int.reduceNeg, Int.reduceLT, Int.reduceLE, Int.reduceAdd, Int.reduceSub, Int.reduceToNat, Int.reduceEq, Int.reduceBEq, reduceCtorEq, Int.reduceBNe])
  have hz := zig_lt hn
  refine W_loop ?_
  refine WL_nat (P := Try.prog) (fun m s => ∃ (u k : Nat) (pre : List UInt8), m = k ∧ numB n = pre ++ numF k u ∧ u < 128 ^ k ∧ 1 ≤ k ∧ k ≤ 10 ∧ pre.length = 10 - k ∧ s.tm 0 = .ptr b 0 ∧ s.tm 4 = .p (.int .u64 u) ∧ WrK id h s.h b (l ++ pre)) (fun m s hI => ?_) _ _
    ⟨zig n, 10, [], rfl, rfl, by omega, by omega, by omega, rfl, rfl, ?_, by rw [List.append_nil]; exact hw.refl⟩
  rotate_left
  · exact congrArg (fun z => AV.p (Value.int .u64 z)) (zig_eq hn)
  obtain ⟨u, k, pre, rfl, hnum, hu, hk1, hk2, hpl, h0, h4, hWK⟩ := hI
  obtain ⟨tm, hc, tt⟩ := s
  simp only at h0 h4 hWK
  obtain ⟨k, rfl⟩ : ∃ k', m = k' + 1 := ⟨m - 1, by omega⟩
  have hK2 := hWK
  obtain ⟨x, y, q1, q2, q3, q4, q5, q6⟩ := hK2
  have hw1 : IntKind.u8.wrap (u : Int) = ((u % 256 : Nat) : Int) := by rw [wrap_u8m]; omega
  by_cases c1 : u < 128
  · have f1 : decide ((u : Int) > 127) = false := by simp; omega
    have e1 : numF (k + 1) u = [UInt8.ofNat u] := by simp [numF, c1]
    have e2 : ((UInt8.ofNat u).toNat : Int) = ((u % 256 : Nat) : Int) := by rw [UInt8.toNat_ofNat']
    repeat (first
      | with_reducible refine W_seq fun K hK => ?_
      | (with_reducible refine hK _ ?_); clear hK K
      | (with_reducible refine W_skipK hK ?_); clear hK K
      | (with_reducible refine W_condT ?_ ?_); (· rfl)
      | (with_reducible refine W_condF ?_ ?_); (· rfl)
      | with_reducible refine W_block ?_
      | clear hK K; (with_reducible refine hK _ ?_); clear hK K
      | clear hK K; clear hK K; (with_reducible refine hK _ ?_); clear hK K
      | clear hK K; clear hK K; clear hK K; (with_reducible refine hK _ ?_); clear hK K
      | (with_reducible refine And.intro ?_ ?_); (· first | omega | decide)
      | (try first | ((with_reducible refine W_reg ?_ ?_); (· rfl)) | (with_reducible refine W_exit ?_) | (with_reducible refine W_ret ?_)); simp only [go_sem, Nat.reduceEqDiff, ↓reduceIte, reduceIte, Nat.reduceAdd, Nat.reduceMul, Nat.reduceSub, Nat.reduceLeDiff, Nat.reduceBEq, Nat.reduceBNe, Int.reduceNeg, Int.reduceLT, Int.reduceLE, Int.reduceAdd, Int.reduceSub, Int.reduceToNat, Int.reduceEq, Int.reduceBEq, reduceCtorEq, Int.reduceBNe, h0, h4, f1, q2, hw1])
    refine stop_append_grw (x0 := .p (.slice none 0 0)) (l0 := []) 5 1 1 [.p (.int .u8 0)] (l ++ pre) [UInt8.ofNat u] ty24.2.2.2.1 ty5.2.1 ty5.2.2.1 (by simp only [go_sem, Nat.reduceEqDiff, ↓reduceIte, reduceIte, Nat.reduceAdd, Nat.reduceMul, Nat.reduceSub, Nat.reduceLeDiff, Nat.reduceBEq, Nat.reduceBNe, Int.reduceNeg, Int.reduceLT, Int.reduceLE, Int.reduceAdd, Int.reduceSub, Int.reduceToNat, Int.reduceEq, Int.reduceBEq, reduceCtorEq, Int.reduceBNe]) rfl bE_len bE_one rfl (by exact q3) (by simp only [go_sem, Nat.reduceEqDiff, ↓reduceIte, reduceIte, Nat.reduceAdd, Nat.reduceMul, Nat.reduceSub, Nat.reduceLeDiff, Nat.reduceBEq, Nat.reduceBNe, Int.reduceNeg, Int.reduceLT, Int.reduceLE, Int.reduceAdd, Int.reduceSub, Int.reduceToNat, Int.reduceEq, Int.reduceBEq, reduceCtorEq, Int.reduceBNe, List.flatMap_cons, List.flatMap_nil, bE, u8A, e2]) (by simp)
      (by simp; omega) (by simp [maxLen]; omega) ?_
    have hnb : ∀ i j, (b = i :: j :: id) = False := fun i j => by rw [eq_iff_iff, iff_false]; rintro rfl; rw [under_fr (c := i :: j :: id) hfr ⟨[i, j], rfl⟩] at q1; cases q1
    have hq2 : upd hc (ownW y) b = some (.cells 116 [y]) := by rw [ownW_far q4]; exact q2
    simp only [go_sem, Nat.reduceEqDiff, ↓reduceIte, reduceIte, Nat.reduceAdd, Nat.reduceMul, Nat.reduceSub, Nat.reduceLeDiff, Nat.reduceBEq, Nat.reduceBNe, Int.reduceNeg, Int.reduceLT, Int.reduceLE, Int.reduceAdd, Int.reduceSub, Int.reduceToNat, Int.reduceEq, Int.reduceBEq, reduceCtorEq, Int.reduceBNe, h0, hnb, hq2]
    rw [hnum, e1, ← List.append_assoc]
    refine wr_end hfr hw (.inr rfl) (by simp only [go_sem, Nat.reduceEqDiff, ↓reduceIte, reduceIte, Nat.reduceAdd, Nat.reduceMul, Nat.reduceSub, Nat.reduceLeDiff, Nat.reduceBEq, Nat.reduceBNe, Int.reduceNeg, Int.reduceLT, Int.reduceLE, Int.reduceAdd, Int.reduceSub, Int.reduceToNat, Int.reduceEq, Int.reduceBEq, reduceCtorEq, Int.reduceBNe, Try.f68]) (hWK.app hfr q2 ⟨[_, _], rfl⟩ (by simp))
  · have f1 : decide ((u : Int) > 127) = true := by simp; omega
    have hk3 : 1 ≤ k := by
      rcases Nat.eq_zero_or_pos k with rfl | h
      · simp at hu; omega
      · exact h
    have e1 : numF (k + 1) u = UInt8.ofNat (u % 128 + 128) :: numF k (u / 128) := by simp [numF, c1]
    have e3 : IntKind.u8.wrap ↑(BitVec.ofInt 8 ((u % 256 : Nat) : Int) ||| BitVec.ofInt 8 128).toNat = ((UInt8.ofNat (u % 128 + 128)).toNat : Int) := by
      have := or_eq (u := (u : Int)) (by omega)
      rw [hw1] at this
      rw [this, UInt8.toNat_ofNat']; omega
    have e4 : shrI .u64 (u : Int) 7 = ((u / 128 : Nat) : Int) := by
      unfold shrI
      show (u : Int).fdiv (2 ^ min 7 64) = _
      rw [show (2 : Int) ^ min 7 64 = 128 by decide, Int.fdiv_eq_ediv_of_nonneg _ (by decide)]; omega
    have hnb : ∀ i j, (b = i :: j :: id) = False := fun i j => by rw [eq_iff_iff, iff_false]; rintro rfl; rw [under_fr (c := i :: j :: id) hfr ⟨[i, j], rfl⟩] at q1; cases q1
    have hq2 : upd hc (ownW y) b = some (.cells 116 [y]) := by rw [ownW_far q4]; exact q2
    repeat (first
      | with_reducible refine W_seq fun K hK => ?_
      | (with_reducible refine hK _ ?_); clear hK K
      | (with_reducible refine W_skipK hK ?_); clear hK K
      | (with_reducible refine W_condT ?_ ?_); (· rfl)
      | (with_reducible refine W_condF ?_ ?_); (· rfl)
      | with_reducible refine W_block ?_
      | clear hK K; (with_reducible refine hK _ ?_); clear hK K
      | clear hK K; clear hK K; (with_reducible refine hK _ ?_); clear hK K
      | clear hK K; clear hK K; clear hK K; (with_reducible refine hK _ ?_); clear hK K
      | (with_reducible refine And.intro ?_ ?_); (· first | omega | decide)
      | (try first | ((with_reducible refine W_reg ?_ ?_); (· rfl)) | (with_reducible refine W_exit ?_) | (with_reducible refine W_ret ?_)); simp only [go_sem, Nat.reduceEqDiff, ↓reduceIte, reduceIte, Nat.reduceAdd, Nat.reduceMul, Nat.reduceSub, Nat.reduceLeDiff, Nat.reduceBEq, Nat.reduceBNe, Int.reduceNeg, Int.reduceLT, Int.reduceLE, Int.reduceAdd, Int.reduceSub, Int.reduceToNat, Int.reduceEq, Int.reduceBEq, reduceCtorEq, Int.reduceBNe, h0, h4, f1, q2, hw1, e3])
    refine stop_append_grw (x0 := .p (.slice none 0 0)) (l0 := []) 5 1 1 [.p (.int .u8 0)] (l ++ pre) [UInt8.ofNat (u % 128 + 128)] ty24.2.2.2.1 ty5.2.1 ty5.2.2.1 (by simp only [go_sem, Nat.reduceEqDiff, ↓reduceIte, reduceIte, Nat.reduceAdd, Nat.reduceMul, Nat.reduceSub, Nat.reduceLeDiff, Nat.reduceBEq, Nat.reduceBNe, Int.reduceNeg, Int.reduceLT, Int.reduceLE, Int.reduceAdd, Int.reduceSub, Int.reduceToNat, Int.reduceEq, Int.reduceBEq, reduceCtorEq, Int.reduceBNe]) rfl bE_len bE_one rfl (by exact q3) (by simp only [go_sem, Nat.reduceEqDiff, ↓reduceIte, reduceIte, Nat.reduceAdd, Nat.reduceMul, Nat.reduceSub, Nat.reduceLeDiff, Nat.reduceBEq, Nat.reduceBNe, Int.reduceNeg, Int.reduceLT, Int.reduceLE, Int.reduceAdd, Int.reduceSub, Int.reduceToNat, Int.reduceEq, Int.reduceBEq, reduceCtorEq, Int.reduceBNe, List.flatMap_cons, List.flatMap_nil, bE, u8A]; exact congrArg (fun z => some (1, [AV.p (Value.int .u8 z)])) e3) (by simp)
      (by simp; omega) (by simp [maxLen]; omega) ?_
    simp only [go_sem, Nat.reduceEqDiff, ↓reduceIte, reduceIte, Nat.reduceAdd, Nat.reduceMul, Nat.reduceSub, Nat.reduceLeDiff, Nat.reduceBEq, Nat.reduceBNe, Int.reduceNeg, Int.reduceLT, Int.reduceLE, Int.reduceAdd, Int.reduceSub, Int.reduceToNat, Int.reduceEq, Int.reduceBEq, reduceCtorEq, Int.reduceBNe, h0, hnb, hq2]
    repeat (first
      | with_reducible refine W_seq fun K hK => ?_
      | (with_reducible refine hK _ ?_); clear hK K
      | (with_reducible refine W_skipK hK ?_); clear hK K
      | (with_reducible refine W_condT ?_ ?_); (· rfl)
      | (with_reducible refine W_condF ?_ ?_); (· rfl)
      | with_reducible refine W_block ?_
      | clear hK K; (with_reducible refine hK _ ?_); clear hK K
      | clear hK K; clear hK K; (with_reducible refine hK _ ?_); clear hK K
      | clear hK K; clear hK K; clear hK K; (with_reducible refine hK _ ?_); clear hK K
      | (with_reducible refine And.intro ?_ ?_); (· first | omega | decide)
      | (try first | ((with_reducible refine W_reg ?_ ?_); (· rfl)) | (with_reducible refine W_exit ?_) | (with_reducible refine W_ret ?_)); simp only [go_sem, Nat.reduceEqDiff, ↓reduceIte, reduceIte, Nat.reduceAdd, Nat.reduceMul, Nat.reduceSub, Nat.reduceLeDiff, Nat.reduceBEq, Nat.reduceBNe, Int.reduceNeg, Int.reduceLT, Int.reduceLE, Int.reduceAdd, Int.reduceSub, Int.reduceToNat, Int.reduceEq, Int.reduceBEq, reduceCtorEq, Int.reduceBNe, h4, e4])
    refine ⟨k, by omega, u / 128, k, pre ++ [UInt8.ofNat (u % 128 + 128)], rfl, by rw [hnum, e1, List.append_assoc]; rfl, ?_, hk3, by omega, by simp; omega, h0, rfl, ?_⟩
    · rw [Nat.pow_succ] at hu; omega
    · rw [← List.append_assoc]
      exact hWK.app hfr q2 ⟨[_, _], rfl⟩ (by simp)
end Go.Proofs.Ytmpndjpaelcnkaa
