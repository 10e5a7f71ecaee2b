/- Replies: written, read. -/
import Derived.Test.YtmpndjpaelcnkaaC2
set_option linter.unusedVariables false
set_option linter.unusedSimpArgs false
namespace Go.Proofs.Ytmpndjpaelcnkaa
open Go Go.SX

/-- A reply. -/
structure Rp where
  err : Int
  ok : Bool
  nm : Option (List (List UInt8))
deriving DecidableEq
def sE (s : List UInt8) : List AV := [strA s]
theorem sE_len (s : List UInt8) : (sE s).length = 1 := rfl
theorem sE_one (a : List UInt8) : (sE a).all AV.one = true := by simp [sE, strA, one_p, oc_string]
def Rp.enc (r : Rp) : List AV := [.p (.int .i64 r.err), .p (.bool r.ok), sq sE r.nm]
structure Rp.R (r : Rp) : Prop where
  err : i64R r.err
  nl : (sqL r.nm).length ≤ 10000
  nt : ((sqL r.nm).flatMap textB).length ≤ 150000
  ns : ∀ s ∈ sqL r.nm, s.length ≤ 40000
def repB (r : Rp) : List UInt8 := numB r.err ++ (flagB r.ok ++ (numB (sqL r.nm).length ++ (sqL r.nm).flatMap textB))

set_option maxRecDepth 8000 in
set_option maxHeartbeats 1000000 in
theorem putReply_ok (id b : BId) (h : Heap) (l : List UInt8) (r : Rp) (hl : l.length ≤ 100000) (hr : r.R) (hw : Wr h b l) :
    CallH Try.prog 83 [.ptr b 0, .agg r.enc] id h (fun v h' => v = .tup [] ∧ WrK id h h' b (l ++ repB r)) := by
  refine callE_of_W (fn := Try.f83) Try.func83 (by decide) rfl fun hfr => ?_
  have hnb : (0 :: 0 :: id : BId) ≠ b := fun q => by have := hw.ne hfr [0, 0]; simp at this; exact this q.symm
  have hb0 : h (0 :: 0 :: id) = none := hfr [0, 0]
  obtain ⟨r1, r2, r3, r4⟩ := hr
  have hn1 := numB_len r.err
  have hn2 := numB_len (sqL r.nm).length
  repeat (first
    | with_reducible refine W_seq fun K hK => ?_
    | (with_reducible refine hK _ ?_); clear hK K
    | (with_reducible refine W_skipK hK ?_); clear hK K
    | (with_reducible refine W_condT ?_ ?_); (· rfl)
    | (with_reducible refine W_condF ?_ ?_); (· rfl)
    | with_reducible refine W_block ?_
    | clear hK K; (with_reducible refine hK _ ?_); clear hK K
    | clear hK K; clear hK K; (with_reducible refine hK _ ?_); clear hK K
    | clear hK K; clear hK K; clear hK K; (with_reducible refine hK _ ?_); clear hK K
    | (with_reducible refine And.intro ?_ ?_); (· first | omega | decide)
    | (try first | ((with_reducible refine W_reg ?_ ?_); (· rfl)) | (with_reducible refine W_exit ?_) | (with_reducible refine W_ret ?_)); simp only [go_sem, Nat.reduceEqDiff, ↓reduceIte, reduceIte, Nat.reduceAdd, Nat.reduceMul, Nat.reduceSub, Nat.reduceLeDiff, Nat.reduceBEq, Nat.reduceBNe, Int.reduceNeg, Int.reduceLT, Int.reduceLE, Int.reduceAdd, Int.reduceSub, Int.reduceToNat, Int.reduceEq, Int.reduceBEq, reduceCtorEq, Int.reduceBNe, Rp.enc])
  have hbox : hset h (0 :: 0 :: id) (some (.cells 44 [.p (.int .i64 r.err), .p (.bool r.ok), sq sE r.nm])) (0 :: 0 :: id) = some (.cells 44 [.p (.int .i64 r.err), .p (.bool r.ok), sq sE r.nm]) := hset_same _ _ _
  have hW : WrK id h (hset h (0 :: 0 :: id) (some (.cells 44 [.p (.int .i64 r.err), .p (.bool r.ok), sq sE r.nm]))) b l := (WrN.reflN hw).far hb0 hb0 (fun c hc => hset_ne _ _ _ hc)
  generalize hset h (0 :: 0 :: id) _ = h0 at *
  refine stop_callH (num_ok _ _ _ l r.err r1 (by omega) hW.wr) ?_
  rintro _ v h9 ⟨rfl, hk9⟩
  replace hbox := hk9.keepT hW.wr hbox (by decide) hnb
  replace hW := hW.next hfr hk9
  clear hk9
  repeat (first
    | with_reducible refine W_seq fun K hK => ?_
    | (with_reducible refine hK _ ?_); clear hK K
    | (with_reducible refine W_skipK hK ?_); clear hK K
    | (with_reducible refine W_condT ?_ ?_); (· rfl)
    | (with_reducible refine W_condF ?_ ?_); (· rfl)
    | with_reducible refine W_block ?_
    | clear hK K; (with_reducible refine hK _ ?_); clear hK K
    | clear hK K; clear hK K; (with_reducible refine hK _ ?_); clear hK K
    | clear hK K; clear hK K; clear hK K; (with_reducible refine hK _ ?_); clear hK K
    | (with_reducible refine And.intro ?_ ?_); (· first | omega | decide)
    | (try first | ((with_reducible refine W_reg ?_ ?_); (· rfl)) | (with_reducible refine W_exit ?_) | (with_reducible refine W_ret ?_)); simp only [go_sem, Nat.reduceEqDiff, ↓reduceIte, reduceIte, Nat.reduceAdd, Nat.reduceMul, Nat.reduceSub, Nat.reduceLeDiff, Nat.reduceBEq, Nat.reduceBNe, Int.reduceNeg, Int.reduceLT, Int.reduceLE, Int.reduceAdd, Int.reduceSub, Int.reduceToNat, Int.reduceEq, Int.reduceBEq, reduceCtorEq, Int.reduceBNe, hbox])
  refine stop_callH (flag_ok _ _ _ (l ++ numB r.err) r.ok (by simp; omega) hW.wr) ?_
  rintro _ v h9 ⟨rfl, hk9⟩
  replace hbox := hk9.keepT hW.wr hbox (by decide) hnb
  replace hW := hW.next hfr hk9
  clear hk9
  repeat (first
    | with_reducible refine W_seq fun K hK => ?_
    | (with_reducible refine hK _ ?_); clear hK K
    | (with_reducible refine W_skipK hK ?_); clear hK K
    | (with_reducible refine W_condT ?_ ?_); (· rfl)
    | (with_reducible refine W_condF ?_ ?_); (· rfl)
    | with_reducible refine W_block ?_
    | clear hK K; (with_reducible refine hK _ ?_); clear hK K
    | clear hK K; clear hK K; (with_reducible refine hK _ ?_); clear hK K
    | clear hK K; clear hK K; clear hK K; (with_reducible refine hK _ ?_); clear hK K
    | (with_reducible refine And.intro ?_ ?_); (· first | omega | decide)
    | (try first | ((with_reducible refine W_reg ?_ ?_); (· rfl)) | (with_reducible refine W_exit ?_) | (with_reducible refine W_ret ?_)); simp only [go_sem, Nat.reduceEqDiff, ↓reduceIte, reduceIte, Nat.reduceAdd, Nat.reduceMul, Nat.reduceSub, Nat.reduceLeDiff, Nat.reduceBEq, Nat.reduceBNe, Int.reduceNeg, Int.reduceLT, Int.reduceLE, Int.reduceAdd, Int.reduceSub, Int.reduceToNat, Int.reduceEq, Int.reduceBEq, reduceCtorEq, Int.reduceBNe, hbox])
  refine stop_callH (num_ok _ _ _ (l ++ numB r.err ++ flagB r.ok) ((sqL r.nm).length : Int) (by omega) (by simp [flagB]; omega) hW.wr) ?_
  rintro _ v h9 ⟨rfl, hk9⟩
  replace hbox := hk9.keepT hW.wr hbox (by decide) hnb
  replace hW := hW.next hfr hk9
  clear hk9
  repeat (first
    | with_reducible refine W_seq fun K hK => ?_
    | (with_reducible refine hK _ ?_); clear hK K
    | (with_reducible refine W_skipK hK ?_); clear hK K
    | (with_reducible refine W_condT ?_ ?_); (· rfl)
    | (with_reducible refine W_condF ?_ ?_); (· rfl)
    | with_reducible refine W_block ?_
    | clear hK K; (with_reducible refine hK _ ?_); clear hK K
    | clear hK K; clear hK K; (with_reducible refine hK _ ?_); clear hK K
    | clear hK K; clear hK K; clear hK K; (with_reducible refine hK _ ?_); clear hK K
    | (with_reducible refine And.intro ?_ ?_); (· first | omega | decide)
    | (try first | ((with_reducible refine W_reg ?_ ?_); (· rfl)) | (with_reducible refine W_exit ?_) | (with_reducible refine W_ret ?_)); simp only [go_sem, Nat.reduceEqDiff, ↓reduceIte, reduceIte, Nat.reduceAdd, Nat.reduceMul, Nat.reduceSub, Nat.reduceLeDiff, Nat.reduceBEq, Nat.reduceBNe, Int.reduceNeg, Int.reduceLT, Int.reduceLE, Int.reduceAdd, Int.reduceSub, Int.reduceToNat, Int.reduceEq, Int.reduceBEq, reduceCtorEq, Int.reduceBNe, hbox])
  generalize hL : l ++ numB r.err ++ flagB r.ok ++ numB (sqL r.nm).length = L at *
  have hLl : L.length ≤ 100100 := by rw [← hL]; simp [flagB]; omega
  refine W_loop ?_
  refine WL_nat (P := Try.prog) (fun m q => ∃ (j : Nat), m = (sqL r.nm).length - j ∧ j ≤ (sqL r.nm).length ∧ q.tm 0 = .ptr b 0 ∧ q.tm 20 = sq sE r.nm ∧ q.tm 21 = .p (.int .i64 (sqL r.nm).length) ∧ q.tm 22 = .p (.int .i64 j) ∧ WrK id h q.h b (L ++ ((sqL r.nm).take j).flatMap textB))
    (fun m q hI => ?_) _ _ ⟨0, rfl, by omega, rfl, rfl, rfl, rfl, by simpa using hW⟩
  clear hW hbox
  obtain ⟨j, rfl, hj, h0, h20, h21, h22, hW⟩ := hI
  obtain ⟨tm, hh, tt⟩ := q
  simp only at h0 h20 h21 h22 hW
  have hbl := Nat.le_trans (flatTake_len textB (sqL r.nm) j) r3
  by_cases c1 : j < (sqL r.nm).length
  · have g1 : decide ((j : Int) < ((sqL r.nm).length : Int)) = true := by simp; omega
    have hx : ((sqL r.nm).flatMap sE).drop j = sE (sqL r.nm)[j] ++ ((sqL r.nm).drop (j + 1)).flatMap sE := by simpa using flatMap_at sE_len (sqL r.nm) j c1
    have e7 : (sqL r.nm).take (j + 1) = (sqL r.nm).take j ++ [(sqL r.nm)[j]] := List.take_succ_eq_append_getElem c1
    have e6 : IntKind.i64.wrap ((j : Int) + 1) = ((j + 1 : Nat) : Int) := by rw [wrap_i64 (by omega)]; omega
    have hys := r4 _ (List.getElem_mem c1)
    generalize (sqL r.nm)[j] = y at *
    repeat (first
      | with_reducible refine W_seq fun K hK => ?_
      | (with_reducible refine hK _ ?_); clear hK K
      | (with_reducible refine W_skipK hK ?_); clear hK K
      | (with_reducible refine W_condT ?_ ?_); (· rfl)
      | (with_reducible refine W_condF ?_ ?_); (· rfl)
      | with_reducible refine W_block ?_
      | clear hK K; (with_reducible refine hK _ ?_); clear hK K
      | clear hK K; clear hK K; (with_reducible refine hK _ ?_); clear hK K
      | clear hK K; clear hK K; clear hK K; (with_reducible refine hK _ ?_); clear hK K
      | (with_reducible refine And.intro ?_ ?_); (· first | omega | decide)
      | (try first | ((with_reducible refine W_reg ?_ ?_); (· rfl)) | (with_reducible refine W_exit ?_) | (with_reducible refine W_ret ?_)); simp only [go_sem, Nat.reduceEqDiff, ↓reduceIte, reduceIte, Nat.reduceAdd, Nat.reduceMul, Nat.reduceSub, Nat.reduceLeDiff, Nat.reduceBEq, Nat.reduceBNe, Int.reduceNeg, Int.reduceLT, Int.reduceLE, Int.reduceAdd, Int.reduceSub, Int.reduceToNat, Int.reduceEq, Int.reduceBEq, reduceCtorEq, Int.reduceBNe, h0, h20, h21, h22, g1, hx, sE, strA, u8s_eq])
    refine ⟨by simp [maxLen]; omega, ?_⟩
    obtain ⟨oo, hoo, hos⟩ : ∃ oo : Option (List UInt8), some y = oo ∧ sqL oo = y := ⟨_, rfl, rfl⟩
    rw [hoo]
    refine stop_callH (by exact text_ok _ _ _ (L ++ ((sqL r.nm).take j).flatMap textB) oo (by simp only [List.length_append]; omega) (by rw [hos]; omega) hW.wr) ?_
    rintro _ v h9 ⟨rfl, hk9⟩
    rw [hos] at hk9
    replace hW := hW.next hfr hk9
    clear hk9
    repeat (first
      | with_reducible refine W_seq fun K hK => ?_
      | (with_reducible refine hK _ ?_); clear hK K
      | (with_reducible refine W_skipK hK ?_); clear hK K
      | (with_reducible refine W_condT ?_ ?_); (· rfl)
      | (with_reducible refine W_condF ?_ ?_); (· rfl)
      | with_reducible refine W_block ?_
      | clear hK K; (with_reducible refine hK _ ?_); clear hK K
      | clear hK K; clear hK K; (with_reducible refine hK _ ?_); clear hK K
      | clear hK K; clear hK K; clear hK K; (with_reducible refine hK _ ?_); clear hK K
      | (with_reducible refine And.intro ?_ ?_); (· first | omega | decide)
      | (try first | ((with_reducible refine W_reg ?_ ?_); (· rfl)) | (with_reducible refine W_exit ?_) | (with_reducible refine W_ret ?_)); simp only [go_sem, Nat.reduceEqDiff, ↓reduceIte, reduceIte, Nat.reduceAdd, Nat.reduceMul, Nat.reduceSub, Nat.reduceLeDiff, Nat.reduceBEq, Nat.reduceBNe, Int.reduceNeg, Int.reduceLT, Int.reduceLE, Int.reduceAdd, Int.reduceSub, Int.reduceToNat, Int.reduceEq, Int.reduceBEq, reduceCtorEq, Int.reduceBNe, h0, h20, h21, h22, e6])
    refine ⟨_, ?_, j + 1, rfl, by omega, rfl, ?_⟩
    · omega
    · rw [e7, List.flatMap_append]; simpa using hW
  · have g1 : decide ((j : Int) < ((sqL r.nm).length : Int)) = false := by simp; omega
    have e8 : (sqL r.nm).take j = sqL r.nm := List.take_of_length_le (by omega)
    rw [e8] at hW
    have e9 : L ++ (sqL r.nm).flatMap textB = l ++ repB r := by rw [← hL]; simp [repB]
    rw [e9] at hW
    repeat (first
      | with_reducible refine W_seq fun K hK => ?_
      | (with_reducible refine hK _ ?_); clear hK K
      | (with_reducible refine W_skipK hK ?_); clear hK K
      | (with_reducible refine W_condT ?_ ?_); (· rfl)
      | (with_reducible refine W_condF ?_ ?_); (· rfl)
      | with_reducible refine W_block ?_
      | clear hK K; (with_reducible refine hK _ ?_); clear hK K
      | clear hK K; clear hK K; (with_reducible refine hK _ ?_); clear hK K
      | clear hK K; clear hK K; clear hK K; (with_reducible refine hK _ ?_); clear hK K
      | (with_reducible refine And.intro ?_ ?_); (· first | omega | decide)
      | (try first | ((with_reducible refine W_reg ?_ ?_); (· rfl)) | (with_reducible refine W_exit ?_) | (with_reducible refine W_ret ?_)); simp only [go_sem, Nat.reduceEqDiff, ↓reduceIte, reduceIte, Nat.reduceAdd, Nat.reduceMul, Nat.reduceSub, Nat.reduceLeDiff, Nat.reduceBEq, Nat.reduceBNe, Int.reduceNeg, Int.reduceLT, Int.reduceLE, Int.reduceAdd, Int.reduceSub, Int.reduceToNat, Int.reduceEq, Int.reduceBEq, reduceCtorEq, Int.reduceBNe, h0, h20, h21, h22, g1])
    exact wr_end hfr hw (.inr rfl) (by simp only [go_sem, Nat.reduceEqDiff, ↓reduceIte, reduceIte, Nat.reduceAdd, Nat.reduceMul, Nat.reduceSub, Nat.reduceLeDiff, Nat.reduceBEq, Nat.reduceBNe, Int.reduceNeg, Int.reduceLT, Int.reduceLE, Int.reduceAdd, Int.reduceSub, Int.reduceToNat, Int.reduceEq, Int.reduceBEq, reduceCtorEq, Int.reduceBNe, Try.f83]) hW

def Rd.strs : Nat → Rd → List (List UInt8) × Rd
  | 0, s => ([], s)
  | k + 1, s => (sqL s.text.1 :: (s.text.2.strs k).1, (s.text.2.strs k).2)
theorem Rd.strs_succ (s : Rd) (k : Nat) : (s.strs (k + 1)).1 = (s.strs k).1 ++ [sqL (s.strs k).2.text.1] ∧ (s.strs (k + 1)).2 = (s.strs k).2.text.2 := by
  induction k generalizing s with
  | zero => exact ⟨rfl, rfl⟩
  | succ k ih =>
    obtain ⟨h1, h2⟩ := ih s.text.2
    refine ⟨?_, h2⟩
    show sqL s.text.1 :: (s.text.2.strs (k + 1)).1 = sqL s.text.1 :: (s.text.2.strs k).1 ++ [sqL ((s.text.2.strs k).2).text.1]
    rw [h1]; rfl
theorem Rd.strs_len (s : Rd) (k : Nat) : (s.strs k).1.length = k ∧ (sqL (s.strs k).2.o).length ≤ (sqL s.o).length := by
  induction k generalizing s with
  | zero => exact ⟨rfl, Nat.le_refl _⟩
  | succ k ih =>
    obtain ⟨h1, h2⟩ := ih s.text.2
    have := s.text_len
    exact ⟨by simp [Rd.strs, h1], by simp only [Rd.strs]; omega⟩
theorem Rd.strs_okR (s : Rd) (k : Nat) (h : s.ok) : (s.strs k).2.ok := by
  induction k generalizing s with
  | zero => exact h
  | succ k ih => exact ih s.text.2 (Rd.text_okR h)
def Rp.zero : Rp := ⟨0, false, none⟩
def getR (s : Rd) : (Rp × Bool) × Rd :=
  let a := s.num; let f := a.2.flag; let n := f.2.num
  if a.1 < 0 ∨ 14 < a.1 ∨ n.1 < 0 ∨ 1000 < n.1 then ((Rp.zero, false), n.2)
  else let e := n.2.strs n.1.toNat; if e.2.bad = true then ((Rp.zero, false), e.2) else ((⟨a.1, f.1, ne e.1⟩, true), e.2)
end Go.Proofs.Ytmpndjpaelcnkaa
