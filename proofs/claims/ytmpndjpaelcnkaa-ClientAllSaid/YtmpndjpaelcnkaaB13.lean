/- Commands: may it be; as bytes; out of bytes. -/
import Derived.Test.YtmpndjpaelcnkaaB12
set_option linter.unusedVariables false
set_option linter.unusedSimpArgs false
namespace Go.Proofs.Ytmpndjpaelcnkaa
open Go Go.SX

/-- A command. -/
structure Cm where
  k : Int
  key : Int
  n : Int
  s : List UInt8
deriving DecidableEq
def strA (s : List UInt8) : AV := .p (.string (ByteArray.mk s.toArray))
def Cm.enc (c : Cm) : List AV := [.p (.int .i64 c.k), .p (.int .i64 c.key), .p (.int .i64 c.n), strA c.s]
def mayL (c : Cm) : Bool := decide (c.k ≥ 1) && (decide (c.k ≤ 4) && (decide (c.key ≥ 1) && (decide (c.key ≤ 8) && (decide (c.n ≥ 1) && (decide (c.n ≤ 1099511627776) && (decide ((c.s.length : Int) ≤ 4000)))))))
set_option maxRecDepth 8000 in
theorem may_ok (id : BId) (c : Cm) : CallF Try.prog 82 [.agg c.enc] id [] (.p (.bool (mayL c))) [] := by
  unfold mayL
  cases h0 : decide (c.k ≥ 1) with
  | false =>
    refine ⟨⟨_, Try.func82, by decide, rfl⟩, (by simp <;> repeat first | exact ⟨[_, _], rfl⟩ | constructor), fun h hr => callsA_of_W Try.func82 rfl fun hfr => ?_⟩
    repeat (first
      | with_reducible refine W_seq fun K hK => ?_
      | (with_reducible refine hK _ ?_); clear hK K
      | (with_reducible refine W_skipK hK ?_); clear hK K
      | (with_reducible refine W_condT ?_ ?_); (· rfl)
      | (with_reducible refine W_condF ?_ ?_); (· rfl)
      | with_reducible refine W_block ?_
      | clear hK K; (with_reducible refine hK _ ?_); clear hK K
      | clear hK K; clear hK K; (with_reducible refine hK _ ?_); clear hK K
      | clear hK K; clear hK K; clear hK K; (with_reducible refine hK _ ?_); clear hK K
      | (with_reducible refine And.intro ?_ ?_); (· first | omega | decide)
      | (try first | ((with_reducible refine W_reg ?_ ?_); (· rfl)) | (with_reducible refine W_exit ?_) | (with_reducible refine W_ret ?_)); simp only [go_sem, Nat.reduceEqDiff, ↓reduceIte, reduceIte, Nat.reduceAdd, Nat.reduceMul, Nat.reduceSub, Nat.reduceLeDiff, Nat.reduceBEq, Nat.reduceBNe, Int.reduceNeg, Int.reduceLT, Int.reduceLE, Int.reduceAdd, Int.reduceSub, Int.reduceToNat, Int.reduceEq, Int.reduceBEq, reduceCtorEq, Int.reduceBNe, Cm.enc, strA, h0, app_cons, app_nil, List.size_toArray])
    refine ends_ret ?_ (by (repeat first | exact HLe.refl _ | refine HLe.set ?_ _ _ | refine HLe.fresh ?_ (hfr [_, _])))
    simp only [go_sem, Nat.reduceEqDiff, ↓reduceIte, reduceIte, Nat.reduceAdd, Nat.reduceMul, Nat.reduceSub, Nat.reduceLeDiff, Nat.reduceBEq, Nat.reduceBNe, Int.reduceNeg, Int.reduceLT, Int.reduceLE, Int.reduceAdd, Int.reduceSub, Int.reduceToNat, Int.reduceEq, Int.reduceBEq, reduceCtorEq, Int.reduceBNe, Try.f82, Bool.false_and, Bool.true_and]
  | true =>
  cases h1 : decide (c.k ≤ 4) with
  | false =>
    refine ⟨⟨_, Try.func82, by decide, rfl⟩, (by simp <;> repeat first | exact ⟨[_, _], rfl⟩ | constructor), fun h hr => callsA_of_W Try.func82 rfl fun hfr => ?_⟩
    repeat (first
      | with_reducible refine W_seq fun K hK => ?_
      | (with_reducible refine hK _ ?_); clear hK K
      | (with_reducible refine W_skipK hK ?_); clear hK K
      | (with_reducible refine W_condT ?_ ?_); (· rfl)
      | (with_reducible refine W_condF ?_ ?_); (· rfl)
      | with_reducible refine W_block ?_
      | clear hK K; (with_reducible refine hK _ ?_); clear hK K
      | clear hK K; clear hK K; (with_reducible refine hK _ ?_); clear hK K
      | clear hK K; clear hK K; clear hK K; (with_reducible refine hK _ ?_); clear hK K
      | (with_reducible refine And.intro ?_ ?_); (· first | omega | decide)
      | (try first | ((with_reducible refine W_reg ?_ ?_); (· rfl)) | (with_reducible refine W_exit ?_) | (with_reducible refine W_ret ?_)); simp only [go_sem, Nat.reduceEqDiff, ↓reduceIte, reduceIte, Nat.reduceAdd, Nat.reduceMul, Nat.reduceSub, Nat.reduceLeDiff, Nat.reduceBEq, Nat.reduceBNe, Int.reduceNeg, Int.reduceLT, Int.reduceLE, Int.reduceAdd, Int.reduceSub, Int.reduceToNat, Int.reduceEq, Int.reduceBEq, reduceCtorEq, Int.reduceBNe, Cm.enc, strA, h0, h1, app_cons, app_nil, List.size_toArray])
    refine ends_ret ?_ (by (repeat first | exact HLe.refl _ | refine HLe.set ?_ _ _ | refine HLe.fresh ?_ (hfr [_, _])))
    simp only [go_sem, Nat.reduceEqDiff, ↓reduceIte, reduceIte, Nat.reduceAdd, Nat.reduceMul, Nat.reduceSub, Nat.reduceLeDiff, Nat.reduceBEq, Nat.reduceBNe, Int.reduceNeg, Int.reduceLT, Int.reduceLE, Int.reduceAdd, Int.reduceSub, Int.reduceToNat, Int.reduceEq, Int.reduceBEq, reduceCtorEq, Int.reduceBNe, Try.f82, Bool.false_and, Bool.true_and]
  | true =>
  cases h2 : decide (c.key ≥ 1) with
  | false =>
    refine ⟨⟨_, Try.func82, by decide, rfl⟩, (by simp <;> repeat first | exact ⟨[_, _], rfl⟩ | constructor), fun h hr => callsA_of_W Try.func82 rfl fun hfr => ?_⟩
    repeat (first
      | with_reducible refine W_seq fun K hK => ?_
      | (with_reducible refine hK _ ?_); clear hK K
      | (with_reducible refine W_skipK hK ?_); clear hK K
      | (with_reducible refine W_condT ?_ ?_); (· rfl)
      | (with_reducible refine W_condF ?_ ?_); (· rfl)
      | with_reducible refine W_block ?_
      | clear hK K; (with_reducible refine hK _ ?_); clear hK K
      | clear hK K; clear hK K; (with_reducible refine hK _ ?_); clear hK K
      | clear hK K; clear hK K; clear hK K; (with_reducible refine hK _ ?_); clear hK K
      | (with_reducible refine And.intro ?_ ?_); (· first | omega | decide)
      | (try first | ((with_reducible refine W_reg ?_ ?_); (· rfl)) | (with_reducible refine W_exit ?_) | (with_reducible refine W_ret ?_)); simp only [go_sem, Nat.reduceEqDiff, ↓reduceIte, reduceIte, Nat.reduceAdd, Nat.reduceMul, Nat.reduceSub, Nat.reduceLeDiff, Nat.reduceBEq, Nat.reduceBNe, Int.reduceNeg, Int.reduceLT, Int.reduceLE, Int.reduceAdd, Int.reduceSub, Int.reduceToNat, Int.reduceEq, Int.reduceBEq, reduceCtorEq, Int.reduceBNe, Cm.enc, strA, h0, h1, h2, app_cons, app_nil, List.size_toArray])
    refine ends_ret ?_ (by (repeat first | exact HLe.refl _ | refine HLe.set ?_ _ _ | refine HLe.fresh ?_ (hfr [_, _])))
    simp only [go_sem, Nat.reduceEqDiff, ↓reduceIte, reduceIte, Nat.reduceAdd, Nat.reduceMul, Nat.reduceSub, Nat.reduceLeDiff, Nat.reduceBEq, Nat.reduceBNe, Int.reduceNeg, Int.reduceLT, Int.reduceLE, Int.reduceAdd, Int.reduceSub, Int.reduceToNat, Int.reduceEq, Int.reduceBEq, reduceCtorEq, Int.reduceBNe, Try.f82, Bool.false_and, Bool.true_and]
  | true =>
  cases h3 : decide (c.key ≤ 8) with
  | false =>
    refine ⟨⟨_, Try.func82, by decide, rfl⟩, (by simp <;> repeat first | exact ⟨[_, _], rfl⟩ | constructor), fun h hr => callsA_of_W Try.func82 rfl fun hfr => ?_⟩
    repeat (first
      | with_reducible refine W_seq fun K hK => ?_
      | (with_reducible refine hK _ ?_); clear hK K
      | (with_reducible refine W_skipK hK ?_); clear hK K
      | (with_reducible refine W_condT ?_ ?_); (· rfl)
      | (with_reducible refine W_condF ?_ ?_); (· rfl)
      | with_reducible refine W_block ?_
      | clear hK K; (with_reducible refine hK _ ?_); clear hK K
      | clear hK K; clear hK K; (with_reducible refine hK _ ?_); clear hK K
      | clear hK K; clear hK K; clear hK K; (with_reducible refine hK _ ?_); clear hK K
      | (with_reducible refine And.intro ?_ ?_); (· first | omega | decide)
      | (try first | ((with_reducible refine W_reg ?_ ?_); (· rfl)) | (with_reducible refine W_exit ?_) | (with_reducible refine W_ret ?_)); simp only [go_sem, Nat.reduceEqDiff, ↓reduceIte, reduceIte, Nat.reduceAdd, Nat.reduceMul, Nat.reduceSub, Nat.reduceLeDiff, Nat.reduceBEq, Nat.reduceBNe, Int.reduceNeg, Int.reduceLT, Int.reduceLE, Int.reduceAdd, Int.reduceSub, Int.reduceToNat, Int.reduceEq, Int.reduceBEq, reduceCtorEq, Int.reduceBNe, Cm.enc, strA, h0, h1, h2, h3, app_cons, app_nil, List.size_toArray])
    refine ends_ret ?_ (by (repeat first | exact HLe.refl _ | refine HLe.set ?_ _ _ | refine HLe.fresh ?_ (hfr [_, _])))
    simp only [go_sem, Nat.reduceEqDiff, ↓reduceIte, reduceIte, Nat.reduceAdd, Nat.reduceMul, Nat.reduceSub, Nat.reduceLeDiff, Nat.reduceBEq, Nat.reduceBNe, Int.reduceNeg, Int.reduceLT, Int.reduceLE, Int.reduceAdd, Int.reduceSub, Int.reduceToNat, Int.reduceEq, Int.reduceBEq, reduceCtorEq, Int.reduceBNe, Try.f82, Bool.false_and, Bool.true_and]
  | true =>
  cases h4 : decide (c.n ≥ 1) with
  | false =>
    refine ⟨⟨_, Try.func82, by decide, rfl⟩, (by simp <;> repeat first | exact ⟨[_, _], rfl⟩ | constructor), fun h hr => callsA_of_W Try.func82 rfl fun hfr => ?_⟩
    repeat (first
      | with_reducible refine W_seq fun K hK => ?_
      | (with_reducible refine hK _ ?_); clear hK K
      | (with_reducible refine W_skipK hK ?_); clear hK K
      | (with_reducible refine W_condT ?_ ?_); (· rfl)
      | (with_reducible refine W_condF ?_ ?_); (· rfl)
      | with_reducible refine W_block ?_
      | clear hK K; (with_reducible refine hK _ ?_); clear hK K
      | clear hK K; clear hK K; (with_reducible refine hK _ ?_); clear hK K
      | clear hK K; clear hK K; clear hK K; (with_reducible refine hK _ ?_); clear hK K
      | (with_reducible refine And.intro ?_ ?_); (· first | omega | decide)
      | (try first | ((with_reducible refine W_reg ?_ ?_); (· rfl)) | (with_reducible refine W_exit ?_) | (with_reducible refine W_ret ?_)); simp only [go_sem, Nat.reduceEqDiff, ↓reduceIte, reduceIte, Nat.reduceAdd, Nat.reduceMul, Nat.reduceSub, Nat.reduceLeDiff, Nat.reduceBEq, Nat.reduceBNe, Int.reduceNeg, Int.reduceLT, Int.reduceLE, Int.reduceAdd, Int.reduceSub, Int.reduceToNat, Int.reduceEq, Int.reduceBEq, reduceCtorEq, Int.reduceBNe, Cm.enc, strA, h0, h1, h2, h3, h4, app_cons, app_nil, List.size_toArray])
    refine ends_ret ?_ (by (repeat first | exact HLe.refl _ | refine HLe.set ?_ _ _ | refine HLe.fresh ?_ (hfr [_, _])))
    simp only [go_sem, Nat.reduceEqDiff, ↓reduceIte, reduceIte, Nat.reduceAdd, Nat.reduceMul, Nat.reduceSub, Nat.reduceLeDiff, Nat.reduceBEq, Nat.reduceBNe, Int.reduceNeg, Int.reduceLT, Int.reduceLE, Int.reduceAdd, Int.reduceSub, Int.reduceToNat, Int.reduceEq, Int.reduceBEq, reduceCtorEq, Int.reduceBNe, Try.f82, Bool.false_and, Bool.true_and]
  | true =>
  cases h5 : decide (c.n ≤ 1099511627776) with
  | false =>
    refine ⟨⟨_, Try.func82, by decide, rfl⟩, (by simp <;> repeat first | exact ⟨[_, _], rfl⟩ | constructor), fun h hr => callsA_of_W Try.func82 rfl fun hfr => ?_⟩
    repeat (first
      | with_reducible refine W_seq fun K hK => ?_
      | (with_reducible refine hK _ ?_); clear hK K
      | (with_reducible refine W_skipK hK ?_); clear hK K
      | (with_reducible refine W_condT ?_ ?_); (· rfl)
      | (with_reducible refine W_condF ?_ ?_); (· rfl)
      | with_reducible refine W_block ?_
      | clear hK K; (with_reducible refine hK _ ?_); clear hK K
      | clear hK K; clear hK K; (with_reducible refine hK _ ?_); clear hK K
      | clear hK K; clear hK K; clear hK K; (with_reducible refine hK _ ?_); clear hK K
      | (with_reducible refine And.intro ?_ ?_); (· first | omega | decide)
      | (try first | ((with_reducible refine W_reg ?_ ?_); (· rfl)) | (with_reducible refine W_exit ?_) | (with_reducible refine W_ret ?_)); simp only [go_sem, Nat.reduceEqDiff, ↓reduceIte, reduceIte, Nat.reduceAdd, Nat.reduceMul, Nat.reduceSub, Nat.reduceLeDiff, Nat.reduceBEq, Nat.reduceBNe, Int.reduceNeg, Int.reduceLT, Int.reduceLE, Int.reduceAdd, Int.reduceSub, Int.reduceToNat, Int.reduceEq, Int.reduceBEq, reduceCtorEq, Int.reduceBNe, Cm.enc, strA, h0, h1, h2, h3, h4, h5, app_cons, app_nil, List.size_toArray])
    refine ends_ret ?_ (by (repeat first | exact HLe.refl _ | refine HLe.set ?_ _ _ | refine HLe.fresh ?_ (hfr [_, _])))
    simp only [go_sem, Nat.reduceEqDiff, ↓reduceIte, reduceIte, Nat.reduceAdd, Nat.reduceMul, Nat.reduceSub, Nat.reduceLeDiff, Nat.reduceBEq, Nat.reduceBNe, Int.reduceNeg, Int.reduceLT, Int.reduceLE, Int.reduceAdd, Int.reduceSub, Int.reduceToNat, Int.reduceEq, Int.reduceBEq, reduceCtorEq, Int.reduceBNe, Try.f82, Bool.false_and, Bool.true_and]
  | true =>
  cases h6 : decide ((c.s.length : Int) ≤ 4000) with
  | false =>
    refine ⟨⟨_, Try.func82, by decide, rfl⟩, (by simp <;> repeat first | exact ⟨[_, _], rfl⟩ | constructor), fun h hr => callsA_of_W Try.func82 rfl fun hfr => ?_⟩
    repeat (first
      | with_reducible refine W_seq fun K hK => ?_
      | (with_reducible refine hK _ ?_); clear hK K
      | (with_reducible refine W_skipK hK ?_); clear hK K
      | (with_reducible refine W_condT ?_ ?_); (· rfl)
      | (with_reducible refine W_condF ?_ ?_); (· rfl)
      | with_reducible refine W_block ?_
      | clear hK K; (with_reducible refine hK _ ?_); clear hK K
      | clear hK K; clear hK K; (with_reducible refine hK _ ?_); clear hK K
      | clear hK K; clear hK K; clear hK K; (with_reducible refine hK _ ?_); clear hK K
      | (with_reducible refine And.intro ?_ ?_); (· first | omega | decide)
      | (try first | ((with_reducible refine W_reg ?_ ?_); (· rfl)) | (with_reducible refine W_exit ?_) | (with_reducible refine W_ret ?_)); simp only [go_sem, Nat.reduceEqDiff, ↓reduceIte, reduceIte, Nat.reduceAdd, Nat.reduceMul, Nat.reduceSub, Nat.reduceLeDiff, Nat.reduceBEq, Nat.reduceBNe, Int.reduceNeg, Int.reduceLT, Int.reduceLE, Int.reduceAdd, Int.reduceSub, Int.reduceToNat, Int.reduceEq, Int.reduceBEq, reduceCtorEq, Int.reduceBNe, Cm.enc, strA, h0, h1, h2, h3, h4, h5, h6, app_cons, app_nil, List.size_toArray])
    refine ends_ret ?_ (by (repeat first | exact HLe.refl _ | refine HLe.set ?_ _ _ | refine HLe.fresh ?_ (hfr [_, _])))
    simp only [go_sem, Nat.reduceEqDiff, ↓reduceIte, reduceIte, Nat.reduceAdd, Nat.reduceMul, Nat.reduceSub, Nat.reduceLeDiff, Nat.reduceBEq, Nat.reduceBNe, Int.reduceNeg, Int.reduceLT, Int.reduceLE, Int.reduceAdd, Int.reduceSub, Int.reduceToNat, Int.reduceEq, Int.reduceBEq, reduceCtorEq, Int.reduceBNe, Try.f82, Bool.false_and, Bool.true_and]
  | true =>
    refine ⟨⟨_, Try.func82, by decide, rfl⟩, (by simp <;> repeat first | exact ⟨[_, _], rfl⟩ | constructor), fun h hr => callsA_of_W Try.func82 rfl fun hfr => ?_⟩
    repeat (first
      | with_reducible refine W_seq fun K hK => ?_
      | (with_reducible refine hK _ ?_); clear hK K
      | (with_reducible refine W_skipK hK ?_); clear hK K
      | (with_reducible refine W_condT ?_ ?_); (· rfl)
      | (with_reducible refine W_condF ?_ ?_); (· rfl)
      | with_reducible refine W_block ?_
      | clear hK K; (with_reducible refine hK _ ?_); clear hK K
      | clear hK K; clear hK K; (with_reducible refine hK _ ?_); clear hK K
      | clear hK K; clear hK K; clear hK K; (with_reducible refine hK _ ?_); clear hK K
      | (with_reducible refine And.intro ?_ ?_); (· first | omega | decide)
      | (try first | ((with_reducible refine W_reg ?_ ?_); (· rfl)) | (with_reducible refine W_exit ?_) | (with_reducible refine W_ret ?_)); simp only [go_sem, Nat.reduceEqDiff, ↓reduceIte, reduceIte, Nat.reduceAdd, Nat.reduceMul, Nat.reduceSub, Nat.reduceLeDiff, Nat.reduceBEq, Nat.reduceBNe, Int.reduceNeg, Int.reduceLT, Int.reduceLE, Int.reduceAdd, Int.reduceSub, Int.reduceToNat, Int.reduceEq, Int.reduceBEq, reduceCtorEq, Int.reduceBNe, Cm.enc, strA, h0, h1, h2, h3, h4, h5, h6, app_cons, app_nil, List.size_toArray])
    refine ends_ret ?_ (by (repeat first | exact HLe.refl _ | refine HLe.set ?_ _ _ | refine HLe.fresh ?_ (hfr [_, _])))
    simp only [go_sem, Nat.reduceEqDiff, ↓reduceIte, reduceIte, Nat.reduceAdd, Nat.reduceMul, Nat.reduceSub, Nat.reduceLeDiff, Nat.reduceBEq, Nat.reduceBNe, Int.reduceNeg, Int.reduceLT, Int.reduceLE, Int.reduceAdd, Int.reduceSub, Int.reduceToNat, Int.reduceEq, Int.reduceBEq, reduceCtorEq, Int.reduceBNe, Try.f82, Bool.false_and, Bool.true_and]
set_option maxRecDepth 8000 in
theorem may2_ok (id : BId) (c : Cm) : CallF Try.prog 29 [.agg c.enc] id [] (.p (.bool (mayL c))) [] := by
  unfold mayL
  cases h0 : decide (c.k ≥ 1) with
  | false =>
    refine ⟨⟨_, Try.func29, by decide, rfl⟩, (by simp <;> repeat first | exact ⟨[_, _], rfl⟩ | constructor), fun h hr => callsA_of_W Try.func29 rfl fun hfr => ?_⟩
    repeat (first
      | with_reducible refine W_seq fun K hK => ?_
      | (with_reducible refine hK _ ?_); clear hK K
      | (with_reducible refine W_skipK hK ?_); clear hK K
      | (with_reducible refine W_condT ?_ ?_); (· rfl)
      | (with_reducible refine W_condF ?_ ?_); (· rfl)
      | with_reducible refine W_block ?_
      | clear hK K; (with_reducible refine hK _ ?_); clear hK K
      | clear hK K; clear hK K; (with_reducible refine hK _ ?_); clear hK K
      | clear hK K; clear hK K; clear hK K; (with_reducible refine hK _ ?_); clear hK K
      | (with_reducible refine And.intro ?_ ?_); (· first | omega | decide)
      | (try first | ((with_reducible refine W_reg ?_ ?_); (· rfl)) | (with_reducible refine W_exit ?_) | (with_reducible refine W_ret ?_)); simp only [go_sem, Nat.reduceEqDiff, ↓reduceIte, reduceIte, Nat.reduceAdd, Nat.reduceMul, Nat.reduceSub, Nat.reduceLeDiff, Nat.reduceBEq, Nat.reduceBNe, Int.reduceNeg, Int.reduceLT, Int.reduceLE, Int.reduceAdd, Int.reduceSub, Int.reduceToNat, Int.reduceEq, Int.reduceBEq, reduceCtorEq, Int.reduceBNe, Cm.enc, strA, h0, app_cons, app_nil, List.size_toArray])
    refine ends_ret ?_ (by (repeat first | exact HLe.refl _ | refine HLe.set ?_ _ _ | refine HLe.fresh ?_ (hfr [_, _])))
    simp only [go_sem, Nat.reduceEqDiff, ↓reduceIte, reduceIte, Nat.reduceAdd, Nat.reduceMul, Nat.reduceSub, Nat.reduceLeDiff, Nat.reduceBEq, Nat.reduceBNe, Int.reduceNeg, Int.reduceLT, Int.reduceLE, Int.reduceAdd, Int.reduceSub, Int.reduceToNat, Int.reduceEq, Int.reduceBEq, reduceCtorEq, Int.reduceBNe, Try.f29, Bool.false_and, Bool.true_and]
  | true =>
  cases h1 : decide (c.k ≤ 4) with
  | false =>
    refine ⟨⟨_, Try.func29, by decide, rfl⟩, (by simp <;> repeat first | exact ⟨[_, _], rfl⟩ | constructor), fun h hr => callsA_of_W Try.func29 rfl fun hfr => ?_⟩
    repeat (first
      | with_reducible refine W_seq fun K hK => ?_
      | (with_reducible refine hK _ ?_); clear hK K
      | (with_reducible refine W_skipK hK ?_); clear hK K
      | (with_reducible refine W_condT ?_ ?_); (· rfl)
      | (with_reducible refine W_condF ?_ ?_); (· rfl)
      | with_reducible refine W_block ?_
      | clear hK K; (with_reducible refine hK _ ?_); clear hK K
      | clear hK K; clear hK K; (with_reducible refine hK _ ?_); clear hK K
      | clear hK K; clear hK K; clear hK K; (with_reducible refine hK _ ?_); clear hK K
      | (with_reducible refine And.intro ?_ ?_); (· first | omega | decide)
      | (try first | ((with_reducible refine W_reg ?_ ?_); (· rfl)) | (with_reducible refine W_exit ?_) | (with_reducible refine W_ret ?_)); simp only [go_sem, Nat.reduceEqDiff, ↓reduceIte, reduceIte, Nat.reduceAdd, Nat.reduceMul, Nat.reduceSub, Nat.reduceLeDiff, Nat.reduceBEq, Nat.reduceBNe, Int.reduceNeg, Int.reduceLT, Int.reduceLE, Int.reduceAdd, Int.reduceSub, Int.reduceToNat, Int.reduceEq, Int.reduceBEq, reduceCtorEq, Int.reduceBNe, Cm.enc, strA, h0, h1, app_cons, app_nil, List.size_toArray])
    refine ends_ret ?_ (by (repeat first | exact HLe.refl _ | refine HLe.set ?_ _ _ | refine HLe.fresh ?_ (hfr [_, _])))
    simp only [go_sem, Nat.reduceEqDiff, ↓reduceIte, reduceIte, Nat.reduceAdd, Nat.reduceMul, Nat.reduceSub, Nat.reduceLeDiff, Nat.reduceBEq, Nat.reduceBNe, Int.reduceNeg, Int.reduceLT, Int.reduceLE, Int.reduceAdd, Int.reduceSub, Int.reduceToNat, Int.reduceEq, Int.reduceBEq, reduceCtorEq, Int.reduceBNe, Try.f29, Bool.false_and, Bool.true_and]
  | true =>
  cases h2 : decide (c.key ≥ 1) with
  | false =>
    refine ⟨⟨_, Try.func29, by decide, rfl⟩, (by simp <;> repeat first | exact ⟨[_, _], rfl⟩ | constructor), fun h hr => callsA_of_W Try.func29 rfl fun hfr => ?_⟩
    repeat (first
      | with_reducible refine W_seq fun K hK => ?_
      | (with_reducible refine hK _ ?_); clear hK K
      | (with_reducible refine W_skipK hK ?_); clear hK K
      | (with_reducible refine W_condT ?_ ?_); (· rfl)
      | (with_reducible refine W_condF ?_ ?_); (· rfl)
      | with_reducible refine W_block ?_
      | clear hK K; (with_reducible refine hK _ ?_); clear hK K
      | clear hK K; clear hK K; (with_reducible refine hK _ ?_); clear hK K
      | clear hK K; clear hK K; clear hK K; (with_reducible refine hK _ ?_); clear hK K
      | (with_reducible refine And.intro ?_ ?_); (· first | omega | decide)
      | (try first | ((with_reducible refine W_reg ?_ ?_); (· rfl)) | (with_reducible refine W_exit ?_) | (with_reducible refine W_ret ?_)); simp only [go_sem, Nat.reduceEqDiff, ↓reduceIte, reduceIte, Nat.reduceAdd, Nat.reduceMul, Nat.reduceSub, Nat.reduceLeDiff, Nat.reduceBEq, Nat.reduceBNe, Int.reduceNeg, Int.reduceLT, Int.reduceLE, Int.reduceAdd, Int.reduceSub, Int.reduceToNat, Int.reduceEq, Int.reduceBEq, reduceCtorEq, Int.reduceBNe, Cm.enc, strA, h0, h1, h2, app_cons, app_nil, List.size_toArray])
    refine ends_ret ?_ (by (repeat first | exact HLe.refl _ | refine HLe.set ?_ _ _ | refine HLe.fresh ?_ (hfr [_, _])))
    simp only [go_sem, Nat.reduceEqDiff, ↓reduceIte, reduceIte, Nat.reduceAdd, Nat.reduceMul, Nat.reduceSub, Nat.reduceLeDiff, Nat.reduceBEq, Nat.reduceBNe, Int.reduceNeg, Int.reduceLT, Int.reduceLE, Int.reduceAdd, Int.reduceSub, Int.reduceToNat, Int.reduceEq, Int.reduceBEq, reduceCtorEq, Int.reduceBNe, Try.f29, Bool.false_and, Bool.true_and]
  | true =>
  cases h3 : decide (c.key ≤ 8) with
  | false =>
    refine ⟨⟨_, Try.func29, by decide, rfl⟩, (by simp <;> repeat first | exact ⟨[_, _], rfl⟩ | constructor), fun h hr => callsA_of_W Try.func29 rfl fun hfr => ?_⟩
    repeat (first
      | with_reducible refine W_seq fun K hK => ?_
      | (with_reducible refine hK _ ?_); clear hK K
      | (with_reducible refine W_skipK hK ?_); clear hK K
      | (with_reducible refine W_condT ?_ ?_); (· rfl)
      | (with_reducible refine W_condF ?_ ?_); (· rfl)
      | with_reducible refine W_block ?_
      | clear hK K; (with_reducible refine hK _ ?_); clear hK K
      | clear hK K; clear hK K; (with_reducible refine hK _ ?_); clear hK K
      | clear hK K; clear hK K; clear hK K; (with_reducible refine hK _ ?_); clear hK K
      | (with_reducible refine And.intro ?_ ?_); (· first | omega | decide)
      | (try first | ((with_reducible refine W_reg ?_ ?_); (· rfl)) | (with_reducible refine W_exit ?_) | (with_reducible refine W_ret ?_)); simp only [go_sem, Nat.reduceEqDiff, ↓reduceIte, reduceIte, Nat.reduceAdd, Nat.reduceMul, Nat.reduceSub, Nat.reduceLeDiff, Nat.reduceBEq, Nat.reduceBNe, Int.reduceNeg, Int.reduceLT, Int.reduceLE, Int.reduceAdd, Int.reduceSub, Int.reduceToNat, Int.reduceEq, Int.reduceBEq, reduceCtorEq, Int.reduceBNe, Cm.enc, strA, h0, h1, h2, h3, app_cons, app_nil, List.size_toArray])
    refine ends_ret ?_ (by (repeat first | exact HLe.refl _ | refine HLe.set ?_ _ _ | refine HLe.fresh ?_ (hfr [_, _])))
    simp only [go_sem, Nat.reduceEqDiff, ↓reduceIte, reduceIte, Nat.reduceAdd, Nat.reduceMul, Nat.reduceSub, Nat.reduceLeDiff, Nat.reduceBEq, Nat.reduceBNe, Int.reduceNeg, Int.reduceLT, Int.reduceLE, Int.reduceAdd, Int.reduceSub, Int.reduceToNat, Int.reduceEq, Int.reduceBEq, reduceCtorEq, Int.reduceBNe, Try.f29, Bool.false_and, Bool.true_and]
  | true =>
  cases h4 : decide (c.n ≥ 1) with
  | false =>
    refine ⟨⟨_, Try.func29, by decide, rfl⟩, (by simp <;> repeat first | exact ⟨[_, _], rfl⟩ | constructor), fun h hr => callsA_of_W Try.func29 rfl fun hfr => ?_⟩
    repeat (first
      | with_reducible refine W_seq fun K hK => ?_
      | (with_reducible refine hK _ ?_); clear hK K
      | (with_reducible refine W_skipK hK ?_); clear hK K
      | (with_reducible refine W_condT ?_ ?_); (· rfl)
      | (with_reducible refine W_condF ?_ ?_); (· rfl)
      | with_reducible refine W_block ?_
      | clear hK K; (with_reducible refine hK _ ?_); clear hK K
      | clear hK K; clear hK K; (with_reducible refine hK _ ?_); clear hK K
      | clear hK K; clear hK K; clear hK K; (with_reducible refine hK _ ?_); clear hK K
      | (with_reducible refine And.intro ?_ ?_); (· first | omega | decide)
      | (try first | ((with_reducible refine W_reg ?_ ?_); (· rfl)) | (with_reducible refine W_exit ?_) | (with_reducible refine W_ret ?_)); simp only [go_sem, Nat.reduceEqDiff, ↓reduceIte, reduceIte, Nat.reduceAdd, Nat.reduceMul, Nat.reduceSub, Nat.reduceLeDiff, Nat.reduceBEq, Nat.reduceBNe, Int.reduceNeg, Int.reduceLT, Int.reduceLE, Int.reduceAdd, Int.reduceSub, Int.reduceToNat, Int.reduceEq, Int.reduceBEq, reduceCtorEq, Int.reduceBNe, Cm.enc, strA, h0, h1, h2, h3, h4, app_cons, app_nil, List.size_toArray])
    refine ends_ret ?_ (by (repeat first | exact HLe.refl _ | refine HLe.set ?_ _ _ | refine HLe.fresh ?_ (hfr [_, _])))
    simp only [go_sem, Nat.reduceEqDiff, ↓reduceIte, reduceIte, Nat.reduceAdd, Nat.reduceMul, Nat.reduceSub, Nat.reduceLeDiff, Nat.reduceBEq, Nat.reduceBNe, Int.reduceNeg, Int.reduceLT, Int.reduceLE, Int.reduceAdd, Int.reduceSub, Int.reduceToNat, Int.reduceEq, Int.reduceBEq, reduceCtorEq, Int.reduceBNe, Try.f29, Bool.false_and, Bool.true_and]
  | true =>
  cases h5 : decide (c.n ≤ 1099511627776) with
  | false =>
    refine ⟨⟨_, Try.func29, by decide, rfl⟩, (by simp <;> repeat first | exact ⟨[_, _], rfl⟩ | constructor), fun h hr => callsA_of_W Try.func29 rfl fun hfr => ?_⟩
    repeat (first
      | with_reducible refine W_seq fun K hK => ?_
      | (with_reducible refine hK _ ?_); clear hK K
      | (with_reducible refine W_skipK hK ?_); clear hK K
      | (with_reducible refine W_condT ?_ ?_); (· rfl)
      | (with_reducible refine W_condF ?_ ?_); (· rfl)
      | with_reducible refine W_block ?_
      | clear hK K; (with_reducible refine hK _ ?_); clear hK K
      | clear hK K; clear hK K; (with_reducible refine hK _ ?_); clear hK K
      | clear hK K; clear hK K; clear hK K; (with_reducible refine hK _ ?_); clear hK K
      | (with_reducible refine And.intro ?_ ?_); (· first | omega | decide)
      | (try first | ((with_reducible refine W_reg ?_ ?_); (· rfl)) | (with_reducible refine W_exit ?_) | (with_reducible refine W_ret ?_)); simp only [go_sem, Nat.reduceEqDiff, ↓reduceIte, reduceIte, Nat.reduceAdd, Nat.reduceMul, Nat.reduceSub, Nat.reduceLeDiff, Nat.reduceBEq, Nat.reduceBNe, Int.reduceNeg, Int.reduceLT, Int.reduceLE, Int.reduceAdd, Int.reduceSub, Int.reduceToNat, Int.reduceEq, Int.reduceBEq, reduceCtorEq, Int.reduceBNe, Cm.enc, strA, h0, h1, h2, h3, h4, h5, app_cons, app_nil, List.size_toArray])
    refine ends_ret ?_ (by (repeat first | exact HLe.refl _ | refine HLe.set ?_ _ _ | refine HLe.fresh ?_ (hfr [_, _])))
    simp only [go_sem, Nat.reduceEqDiff, ↓reduceIte, reduceIte, Nat.reduceAdd, Nat.reduceMul, Nat.reduceSub, Nat.reduceLeDiff, Nat.reduceBEq, Nat.reduceBNe, Int.reduceNeg, Int.reduceLT, Int.reduceLE, Int.reduceAdd, Int.reduceSub, Int.reduceToNat, Int.reduceEq, Int.reduceBEq, reduceCtorEq, Int.reduceBNe, Try.f29, Bool.false_and, Bool.true_and]
  | true =>
  cases h6 : decide ((c.s.length : Int) ≤ 4000) with
  | false =>
    refine ⟨⟨_, Try.func29, by decide, rfl⟩, (by simp <;> repeat first | exact ⟨[_, _], rfl⟩ | constructor), fun h hr => callsA_of_W Try.func29 rfl fun hfr => ?_⟩
    repeat (first
      | with_reducible refine W_seq fun K hK => ?_
      | (with_reducible refine hK _ ?_); clear hK K
      | (with_reducible refine W_skipK hK ?_); clear hK K
      | (with_reducible refine W_condT ?_ ?_); (· rfl)
      | (with_reducible refine W_condF ?_ ?_); (· rfl)
      | with_reducible refine W_block ?_
      | clear hK K; (with_reducible refine hK _ ?_); clear hK K
      | clear hK K; clear hK K; (with_reducible refine hK _ ?_); clear hK K
      | clear hK K; clear hK K; clear hK K; (with_reducible refine hK _ ?_); clear hK K
      | (with_reducible refine And.intro ?_ ?_); (· first | omega | decide)
      | (try first | ((with_reducible refine W_reg ?_ ?_); (· rfl)) | (with_reducible refine W_exit ?_) | (with_reducible refine W_ret ?_)); simp only [go_sem, Nat.reduceEqDiff, ↓reduceIte, reduceIte, Nat.reduceAdd, Nat.reduceMul, Nat.reduceSub, Nat.reduceLeDiff, Nat.reduceBEq, Nat.reduceBNe, Int.reduceNeg, Int.reduceLT, Int.reduceLE, Int.reduceAdd, Int.reduceSub, Int.reduceToNat, Int.reduceEq, Int.reduceBEq, reduceCtorEq, Int.reduceBNe, Cm.enc, strA, h0, h1, h2, h3, h4, h5, h6, app_cons, app_nil, List.size_toArray])
    refine ends_ret ?_ (by (repeat first | exact HLe.refl _ | refine HLe.set ?_ _ _ | refine HLe.fresh ?_ (hfr [_, _])))
    simp only [go_sem, Nat.reduceEqDiff, ↓reduceIte, reduceIte, Nat.reduceAdd, Nat.reduceMul, Nat.reduceSub, Nat.reduceLeDiff, Nat.reduceBEq, Nat.reduceBNe, Int.reduceNeg, Int.reduceLT, Int.reduceLE, Int.reduceAdd, Int.reduceSub, Int.reduceToNat, Int.reduceEq, Int.reduceBEq, reduceCtorEq, Int.reduceBNe, Try.f29, Bool.false_and, Bool.true_and]
  | true =>
    refine ⟨⟨_, Try.func29, by decide, rfl⟩, (by simp <;> repeat first | exact ⟨[_, _], rfl⟩ | constructor), fun h hr => callsA_of_W Try.func29 rfl fun hfr => ?_⟩
    repeat (first
      | with_reducible refine W_seq fun K hK => ?_
      | (with_reducible refine hK _ ?_); clear hK K
      | (with_reducible refine W_skipK hK ?_); clear hK K
      | (with_reducible refine W_condT ?_ ?_); (· rfl)
      | (with_reducible refine W_condF ?_ ?_); (· rfl)
      | with_reducible refine W_block ?_
      | clear hK K; (with_reducible refine hK _ ?_); clear hK K
      | clear hK K; clear hK K; (with_reducible refine hK _ ?_); clear hK K
      | clear hK K; clear hK K; clear hK K; (with_reducible refine hK _ ?_); clear hK K
      | (with_reducible refine And.intro ?_ ?_); (· first | omega | decide)
      | (try first | ((with_reducible refine W_reg ?_ ?_); (· rfl)) | (with_reducible refine W_exit ?_) | (with_reducible refine W_ret ?_)); simp only [go_sem, Nat.reduceEqDiff, ↓reduceIte, reduceIte, Nat.reduceAdd, Nat.reduceMul, Nat.reduceSub, Nat.reduceLeDiff, Nat.reduceBEq, Nat.reduceBNe, Int.reduceNeg, Int.reduceLT, Int.reduceLE, Int.reduceAdd, Int.reduceSub, Int.reduceToNat, Int.reduceEq, Int.reduceBEq, reduceCtorEq, Int.reduceBNe, Cm.enc, strA, h0, h1, h2, h3, h4, h5, h6, app_cons, app_nil, List.size_toArray])
    refine ends_ret ?_ (by (repeat first | exact HLe.refl _ | refine HLe.set ?_ _ _ | refine HLe.fresh ?_ (hfr [_, _])))
    simp only [go_sem, Nat.reduceEqDiff, ↓reduceIte, reduceIte, Nat.reduceAdd, Nat.reduceMul, Nat.reduceSub, Nat.reduceLeDiff, Nat.reduceBEq, Nat.reduceBNe, Int.reduceNeg, Int.reduceLT, Int.reduceLE, Int.reduceAdd, Int.reduceSub, Int.reduceToNat, Int.reduceEq, Int.reduceBEq, reduceCtorEq, Int.reduceBNe, Try.f29, Bool.false_and, Bool.true_and]

def comB (c : Cm) : List UInt8 := numB c.k ++ (numB c.key ++ (numB c.n ++ textB c.s))
theorem u8s_eq (l : List UInt8) : AV.imm false l.toArray.size (u8s l) = sq bE (some l) := by
  have : l.flatMap bE = l.map u8A := by rw [List.map_eq_flatMap]; rfl
  show AV.imm false l.toArray.size (l.map u8A) = AV.imm false l.length (l.flatMap bE)
  rw [this]; simp
theorem comB_ne (c : Cm) : comB c ≠ [] := by unfold comB; simp [numB_ne]
def encC (c : Cm) : Option (List UInt8) × Int := if mayL c = true then (some (comB c), 0) else (none, 3)
theorem may_R {c : Cm} (h : mayL c = true) : i64R c.k ∧ i64R c.key ∧ i64R c.n ∧ c.s.length ≤ 4000 := by
  unfold mayL at h
  simp only [Bool.and_eq_true, decide_eq_true_eq] at h
  unfold i64R; omega
/-- What a writer of one's own leaves. -/
theorem WrN.hle {N : BId → Prop} {h h0 h9 : Heap} {b : BId} {l : List UInt8} (hW : WrN N h0 h9 b l) (hle : HLe h h0) (hb0 : h0 b = some (.cells 116 [.p (.slice none 0 0)])) (hb : h b = none) : HLe h h9 := by
  intro c v hc
  have hc0 := hle c v hc
  obtain ⟨w, z, q1, q2, q3, q4, q5, q6⟩ := hW
  rw [hb0] at q1; cases q1
  rw [q6 c (by rw [hc0]; rfl) (by rintro rfl; rw [hb] at hc; cases hc) (fun ⟨f, p, n, z, e⟩ => by cases e), hc0]

set_option maxRecDepth 8000 in
set_option maxHeartbeats 1000000 in
theorem encode_ok (id : BId) (c : Cm) : CallF Try.prog 31 [.agg c.enc] id [] (.tup [sq bE (encC c).1, .p (.int .i64 (encC c).2)]) [] := by
  unfold encC
  cases hm : mayL c with
  | false =>
    refine ⟨⟨_, Try.func31, by decide, rfl⟩, (by simp <;> repeat first | exact ⟨[_, _], rfl⟩ | constructor), fun h hr => callsA_of_W Try.func31 rfl fun hfr => ?_⟩
    repeat (first
      | with_reducible refine W_seq fun K hK => ?_
      | (with_reducible refine hK _ ?_); clear hK K
      | (with_reducible refine W_skipK hK ?_); clear hK K
      | (with_reducible refine W_condT ?_ ?_); (· rfl)
      | (with_reducible refine W_condF ?_ ?_); (· rfl)
      | with_reducible refine W_block ?_
      | clear hK K; (with_reducible refine hK _ ?_); clear hK K
      | clear hK K; clear hK K; (with_reducible refine hK _ ?_); clear hK K
      | clear hK K; clear hK K; clear hK K; (with_reducible refine hK _ ?_); clear hK K
      | (with_reducible refine And.intro ?_ ?_); (· first | omega | decide)
      | (try first | ((with_reducible refine W_reg ?_ ?_); (· rfl)) | (with_reducible refine W_exit ?_) | (with_reducible refine W_ret ?_)); simp only [go_sem, Nat.reduceEqDiff, ↓reduceIte, reduceIte, Nat.reduceAdd, Nat.reduceMul, Nat.reduceSub, Nat.reduceLeDiff, Nat.reduceBEq, Nat.reduceBNe, Int.reduceNeg, Int.reduceLT, Int.reduceLE, Int.reduceAdd, Int.reduceSub, Int.reduceToNat, Int.reduceEq, Int.reduceBEq, reduceCtorEq, Int.reduceBNe, Cm.enc, strA])
    refine stop_call (may_ok _ c) ?_ ?_
    · first | trivial | (simp only [go_sem, Nat.reduceEqDiff, ↓reduceIte, reduceIte, Nat.reduceAdd, Nat.reduceMul, Nat.reduceSub, Nat.reduceLeDiff, Nat.reduceBEq, Nat.reduceBNe, Int.reduceNeg, Int.reduceLT, Int.reduceLE, Int.reduceAdd, Int.reduceSub, Int.reduceToNat, Int.reduceEq, Int.reduceBEq, reduceCtorEq, Int.reduceBNe]; done)
    repeat (first
      | with_reducible refine W_seq fun K hK => ?_
      | (with_reducible refine hK _ ?_); clear hK K
      | (with_reducible refine W_skipK hK ?_); clear hK K
      | (with_reducible refine W_condT ?_ ?_); (· rfl)
      | (with_reducible refine W_condF ?_ ?_); (· rfl)
      | with_reducible refine W_block ?_
      | clear hK K; (with_reducible refine hK _ ?_); clear hK K
      | clear hK K; clear hK K; (with_reducible refine hK _ ?_); clear hK K
      | clear hK K; clear hK K; clear hK K; (with_reducible refine hK _ ?_); clear hK K
      | (with_reducible refine And.intro ?_ ?_); (· first | omega | decide)
      | (try first | ((with_reducible refine W_reg ?_ ?_); (· rfl)) | (with_reducible refine W_exit ?_) | (with_reducible refine W_ret ?_)); simp only [go_sem, Nat.reduceEqDiff, ↓reduceIte, reduceIte, Nat.reduceAdd, Nat.reduceMul, Nat.reduceSub, Nat.reduceLeDiff, Nat.reduceBEq, Nat.reduceBNe, Int.reduceNeg, Int.reduceLT, Int.reduceLE, Int.reduceAdd, Int.reduceSub, Int.reduceToNat, Int.reduceEq, Int.reduceBEq, reduceCtorEq, Int.reduceBNe, hm])
    refine ends_ret ?_ (by (repeat first | exact HLe.refl _ | refine HLe.set ?_ _ _ | refine HLe.fresh ?_ (hfr [_, _])))
    simp only [go_sem, Nat.reduceEqDiff, ↓reduceIte, reduceIte, Nat.reduceAdd, Nat.reduceMul, Nat.reduceSub, Nat.reduceLeDiff, Nat.reduceBEq, Nat.reduceBNe, Int.reduceNeg, Int.reduceLT, Int.reduceLE, Int.reduceAdd, Int.reduceSub, Int.reduceToNat, Int.reduceEq, Int.reduceBEq, reduceCtorEq, Int.reduceBNe, Try.f31, sq_none, Bool.false_eq_true]
  | true =>
    obtain ⟨r1, r2, r3, r4⟩ := may_R hm
    refine ⟨⟨_, Try.func31, by decide, rfl⟩, (by simp <;> repeat first | exact ⟨[_, _], rfl⟩ | constructor), fun h hr => callsA_of_W Try.func31 rfl fun hfr => ?_⟩
    repeat (first
      | with_reducible refine W_seq fun K hK => ?_
      | (with_reducible refine hK _ ?_); clear hK K
      | (with_reducible refine W_skipK hK ?_); clear hK K
      | (with_reducible refine W_condT ?_ ?_); (· rfl)
      | (with_reducible refine W_condF ?_ ?_); (· rfl)
      | with_reducible refine W_block ?_
      | clear hK K; (with_reducible refine hK _ ?_); clear hK K
      | clear hK K; clear hK K; (with_reducible refine hK _ ?_); clear hK K
      | clear hK K; clear hK K; clear hK K; (with_reducible refine hK _ ?_); clear hK K
      | (with_reducible refine And.intro ?_ ?_); (· first | omega | decide)
      | (try first | ((with_reducible refine W_reg ?_ ?_); (· rfl)) | (with_reducible refine W_exit ?_) | (with_reducible refine W_ret ?_)); simp only [go_sem, Nat.reduceEqDiff, ↓reduceIte, reduceIte, Nat.reduceAdd, Nat.reduceMul, Nat.reduceSub, Nat.reduceLeDiff, Nat.reduceBEq, Nat.reduceBNe, Int.reduceNeg, Int.reduceLT, Int.reduceLE, Int.reduceAdd, Int.reduceSub, Int.reduceToNat, Int.reduceEq, Int.reduceBEq, reduceCtorEq, Int.reduceBNe, Cm.enc, strA])
    refine stop_call (may_ok _ c) ?_ ?_
    · first | trivial | (simp only [go_sem, Nat.reduceEqDiff, ↓reduceIte, reduceIte, Nat.reduceAdd, Nat.reduceMul, Nat.reduceSub, Nat.reduceLeDiff, Nat.reduceBEq, Nat.reduceBNe, Int.reduceNeg, Int.reduceLT, Int.reduceLE, Int.reduceAdd, Int.reduceSub, Int.reduceToNat, Int.reduceEq, Int.reduceBEq, reduceCtorEq, Int.reduceBNe]; done)
    repeat (first
      | with_reducible refine W_seq fun K hK => ?_
      | (with_reducible refine hK _ ?_); clear hK K
      | (with_reducible refine W_skipK hK ?_); clear hK K
      | (with_reducible refine W_condT ?_ ?_); (· rfl)
      | (with_reducible refine W_condF ?_ ?_); (· rfl)
      | with_reducible refine W_block ?_
      | clear hK K; (with_reducible refine hK _ ?_); clear hK K
      | clear hK K; clear hK K; (with_reducible refine hK _ ?_); clear hK K
      | clear hK K; clear hK K; clear hK K; (with_reducible refine hK _ ?_); clear hK K
      | (with_reducible refine And.intro ?_ ?_); (· first | omega | decide)
      | (try first | ((with_reducible refine W_reg ?_ ?_); (· rfl)) | (with_reducible refine W_exit ?_) | (with_reducible refine W_ret ?_)); simp only [go_sem, Nat.reduceEqDiff, ↓reduceIte, reduceIte, Nat.reduceAdd, Nat.reduceMul, Nat.reduceSub, Nat.reduceLeDiff, Nat.reduceBEq, Nat.reduceBNe, Int.reduceNeg, Int.reduceLT, Int.reduceLE, Int.reduceAdd, Int.reduceSub, Int.reduceToNat, Int.reduceEq, Int.reduceBEq, reduceCtorEq, Int.reduceBNe, hm])
    have hn1 := numB_len c.k
    have hn2 := numB_len c.key
    have hn3 := numB_len c.n
    have hw0 : Wr (hset (hset h (0 :: 0 :: id) (some (.cells 38 [.p (.int .i64 c.k), .p (.int .i64 c.key), .p (.int .i64 c.n), .p (.string (ByteArray.mk c.s.toArray))]))) (1 :: 2 :: id) (some (.cells 116 [.p (.slice none 0 0)]))) (1 :: 2 :: id) [] := ⟨_, hset_same _ _ _, .inl ⟨rfl, rfl⟩, fun ⟨f, p, n, z, e⟩ => by cases e⟩
    have hbox : (hset (hset h (0 :: 0 :: id) (some (.cells 38 [.p (.int .i64 c.k), .p (.int .i64 c.key), .p (.int .i64 c.n), .p (.string (ByteArray.mk c.s.toArray))]))) (1 :: 2 :: id) (some (.cells 116 [.p (.slice none 0 0)]))) (0 :: 0 :: id) = some (.cells 38 [.p (.int .i64 c.k), .p (.int .i64 c.key), .p (.int .i64 c.n), .p (.string (ByteArray.mk c.s.toArray))]) := by rw [hset_ne _ _ _ (by simp), hset_same]
    have hwb0 : (hset (hset h (0 :: 0 :: id) (some (.cells 38 [.p (.int .i64 c.k), .p (.int .i64 c.key), .p (.int .i64 c.n), .p (.string (ByteArray.mk c.s.toArray))]))) (1 :: 2 :: id) (some (.cells 116 [.p (.slice none 0 0)]))) (1 :: 2 :: id) = some (.cells 116 [.p (.slice none 0 0)]) := hset_same _ _ _
    have h0fr : ∀ b, Lat 3 id b → (hset (hset h (0 :: 0 :: id) (some (.cells 38 [.p (.int .i64 c.k), .p (.int .i64 c.key), .p (.int .i64 c.n), .p (.string (ByteArray.mk c.s.toArray))]))) (1 :: 2 :: id) (some (.cells 116 [.p (.slice none 0 0)]))) b = none := fun b hc => by
      have q1 : ∀ i, (b = i :: 0 :: id) = False := fun i => lat_ne hc (by decide)
      have q2 : ∀ i, (b = i :: 2 :: id) = False := fun i => lat_ne hc (by decide)
      simp only [go_sem, Nat.reduceEqDiff, ↓reduceIte, reduceIte, Nat.reduceAdd, Nat.reduceMul, Nat.reduceSub, Nat.reduceLeDiff, Nat.reduceBEq, Nat.reduceBNe, Int.reduceNeg, Int.reduceLT, Int.reduceLE, Int.reduceAdd, Int.reduceSub, Int.reduceToNat, Int.reduceEq, Int.reduceBEq, reduceCtorEq, Int.reduceBNe, q1, q2]
      exact lat_fr hfr hc
    have hle0 : HLe h (hset (hset h (0 :: 0 :: id) (some (.cells 38 [.p (.int .i64 c.k), .p (.int .i64 c.key), .p (.int .i64 c.n), .p (.string (ByteArray.mk c.s.toArray))]))) (1 :: 2 :: id) (some (.cells 116 [.p (.slice none 0 0)]))) := by repeat (first | exact HLe.refl _ | refine HLe.fresh ?_ (hfr [_, _]))
    have hnb0 : (0 :: 0 :: id : BId) ≠ 1 :: 2 :: id := by simp
    generalize hset (hset h (0 :: 0 :: id) _) (1 :: 2 :: id) _ = h0 at *
    have hW : WrN (Lat 3 id) h0 h0 (1 :: 2 :: id) [] := WrN.reflN hw0
    refine stop_callH (num_ok _ _ _ ([]) c.k r1 (by simp; try omega) hW.wr) ?_
    rintro _ v h9 ⟨rfl, hk9⟩
    replace hbox := hk9.keepT hW.wr hbox (by decide) hnb0
    replace hW := hW.trans hk9 h0fr (fun b hb => under_lat hb (by omega))
    clear hk9
    repeat (first
      | with_reducible refine W_seq fun K hK => ?_
      | (with_reducible refine hK _ ?_); clear hK K
      | (with_reducible refine W_skipK hK ?_); clear hK K
      | (with_reducible refine W_condT ?_ ?_); (· rfl)
      | (with_reducible refine W_condF ?_ ?_); (· rfl)
      | with_reducible refine W_block ?_
      | clear hK K; (with_reducible refine hK _ ?_); clear hK K
      | clear hK K; clear hK K; (with_reducible refine hK _ ?_); clear hK K
      | clear hK K; clear hK K; clear hK K; (with_reducible refine hK _ ?_); clear hK K
      | (with_reducible refine And.intro ?_ ?_); (· first | omega | decide)
      | (try first | ((with_reducible refine W_reg ?_ ?_); (· rfl)) | (with_reducible refine W_exit ?_) | (with_reducible refine W_ret ?_)); simp only [go_sem, Nat.reduceEqDiff, ↓reduceIte, reduceIte, Nat.reduceAdd, Nat.reduceMul, Nat.reduceSub, Nat.reduceLeDiff, Nat.reduceBEq, Nat.reduceBNe, Int.reduceNeg, Int.reduceLT, Int.reduceLE, Int.reduceAdd, Int.reduceSub, Int.reduceToNat, Int.reduceEq, Int.reduceBEq, reduceCtorEq, Int.reduceBNe, hbox])
    refine stop_callH (num_ok _ _ _ ([] ++ numB c.k) c.key r2 (by simp; try omega) hW.wr) ?_
    rintro _ v h9 ⟨rfl, hk9⟩
    replace hbox := hk9.keepT hW.wr hbox (by decide) hnb0
    replace hW := hW.trans hk9 h0fr (fun b hb => under_lat hb (by omega))
    clear hk9
    repeat (first
      | with_reducible refine W_seq fun K hK => ?_
      | (with_reducible refine hK _ ?_); clear hK K
      | (with_reducible refine W_skipK hK ?_); clear hK K
      | (with_reducible refine W_condT ?_ ?_); (· rfl)
      | (with_reducible refine W_condF ?_ ?_); (· rfl)
      | with_reducible refine W_block ?_
      | clear hK K; (with_reducible refine hK _ ?_); clear hK K
      | clear hK K; clear hK K; (with_reducible refine hK _ ?_); clear hK K
      | clear hK K; clear hK K; clear hK K; (with_reducible refine hK _ ?_); clear hK K
      | (with_reducible refine And.intro ?_ ?_); (· first | omega | decide)
      | (try first | ((with_reducible refine W_reg ?_ ?_); (· rfl)) | (with_reducible refine W_exit ?_) | (with_reducible refine W_ret ?_)); simp only [go_sem, Nat.reduceEqDiff, ↓reduceIte, reduceIte, Nat.reduceAdd, Nat.reduceMul, Nat.reduceSub, Nat.reduceLeDiff, Nat.reduceBEq, Nat.reduceBNe, Int.reduceNeg, Int.reduceLT, Int.reduceLE, Int.reduceAdd, Int.reduceSub, Int.reduceToNat, Int.reduceEq, Int.reduceBEq, reduceCtorEq, Int.reduceBNe, hbox])
    refine stop_callH (num_ok _ _ _ ([] ++ numB c.k ++ numB c.key) c.n r3 (by simp; try omega) hW.wr) ?_
    rintro _ v h9 ⟨rfl, hk9⟩
    replace hbox := hk9.keepT hW.wr hbox (by decide) hnb0
    replace hW := hW.trans hk9 h0fr (fun b hb => under_lat hb (by omega))
    clear hk9
    repeat (first
      | with_reducible refine W_seq fun K hK => ?_
      | (with_reducible refine hK _ ?_); clear hK K
      | (with_reducible refine W_skipK hK ?_); clear hK K
      | (with_reducible refine W_condT ?_ ?_); (· rfl)
      | (with_reducible refine W_condF ?_ ?_); (· rfl)
      | with_reducible refine W_block ?_
      | clear hK K; (with_reducible refine hK _ ?_); clear hK K
      | clear hK K; clear hK K; (with_reducible refine hK _ ?_); clear hK K
      | clear hK K; clear hK K; clear hK K; (with_reducible refine hK _ ?_); clear hK K
      | (with_reducible refine And.intro ?_ ?_); (· first | omega | decide)
      | (try first | ((with_reducible refine W_reg ?_ ?_); (· rfl)) | (with_reducible refine W_exit ?_) | (with_reducible refine W_ret ?_)); simp only [go_sem, Nat.reduceEqDiff, ↓reduceIte, reduceIte, Nat.reduceAdd, Nat.reduceMul, Nat.reduceSub, Nat.reduceLeDiff, Nat.reduceBEq, Nat.reduceBNe, Int.reduceNeg, Int.reduceLT, Int.reduceLE, Int.reduceAdd, Int.reduceSub, Int.reduceToNat, Int.reduceEq, Int.reduceBEq, reduceCtorEq, Int.reduceBNe, hbox, u8s_eq])
    refine ⟨by simp [maxLen]; omega, ?_⟩
    obtain ⟨oo, hoo, hos⟩ : ∃ oo : Option (List UInt8), some c.s = oo ∧ sqL oo = c.s := ⟨_, rfl, rfl⟩
    rw [hoo]
    refine stop_callH (by exact text_ok _ _ _ ([] ++ numB c.k ++ numB c.key ++ numB c.n) oo (by simp; omega) (by rw [hos]; omega) hW.wr) ?_
    rintro _ v h9 ⟨rfl, hk9⟩
    rw [hos] at hk9
    replace hbox := hk9.keepT hW.wr hbox (by decide) hnb0
    replace hW := hW.trans hk9 h0fr (fun b hb => under_lat hb (by omega))
    clear hk9
    repeat (first
      | with_reducible refine W_seq fun K hK => ?_
      | (with_reducible refine hK _ ?_); clear hK K
      | (with_reducible refine W_skipK hK ?_); clear hK K
      | (with_reducible refine W_condT ?_ ?_); (· rfl)
      | (with_reducible refine W_condF ?_ ?_); (· rfl)
      | with_reducible refine W_block ?_
      | clear hK K; (with_reducible refine hK _ ?_); clear hK K
      | clear hK K; clear hK K; (with_reducible refine hK _ ?_); clear hK K
      | clear hK K; clear hK K; clear hK K; (with_reducible refine hK _ ?_); clear hK K
      | (with_reducible refine And.intro ?_ ?_); (· first | omega | decide)
      | (try first | ((with_reducible refine W_reg ?_ ?_); (· rfl)) | (with_reducible refine W_exit ?_) | (with_reducible refine W_ret ?_)); simp only [go_sem, Nat.reduceEqDiff, ↓reduceIte, reduceIte, Nat.reduceAdd, Nat.reduceMul, Nat.reduceSub, Nat.reduceLeDiff, Nat.reduceBEq, Nat.reduceBNe, Int.reduceNeg, Int.reduceLT, Int.reduceLE, Int.reduceAdd, Int.reduceSub, Int.reduceToNat, Int.reduceEq, Int.reduceBEq, reduceCtorEq, Int.reduceBNe, hbox])
    have hts : (textB c.s).length ≤ 10 + c.s.length := textB_len c.s
    refine stop_callH (bytes_ok _ _ _ ([] ++ numB c.k ++ numB c.key ++ numB c.n ++ textB c.s) (by simp; omega) hW.wr) ?_
    rintro _ v h9 ⟨rfl, rfl⟩
    repeat (first
      | with_reducible refine W_seq fun K hK => ?_
      | (with_reducible refine hK _ ?_); clear hK K
      | (with_reducible refine W_skipK hK ?_); clear hK K
      | (with_reducible refine W_condT ?_ ?_); (· rfl)
      | (with_reducible refine W_condF ?_ ?_); (· rfl)
      | with_reducible refine W_block ?_
      | clear hK K; (with_reducible refine hK _ ?_); clear hK K
      | clear hK K; clear hK K; (with_reducible refine hK _ ?_); clear hK K
      | clear hK K; clear hK K; clear hK K; (with_reducible refine hK _ ?_); clear hK K
      | (with_reducible refine And.intro ?_ ?_); (· first | omega | decide)
      | (try first | ((with_reducible refine W_reg ?_ ?_); (· rfl)) | (with_reducible refine W_exit ?_) | (with_reducible refine W_ret ?_)); simp only [go_sem, Nat.reduceEqDiff, ↓reduceIte, reduceIte, Nat.reduceAdd, Nat.reduceMul, Nat.reduceSub, Nat.reduceLeDiff, Nat.reduceBEq, Nat.reduceBNe, Int.reduceNeg, Int.reduceLT, Int.reduceLE, Int.reduceAdd, Int.reduceSub, Int.reduceToNat, Int.reduceEq, Int.reduceBEq, reduceCtorEq, Int.reduceBNe])
    have e9 : [] ++ numB c.k ++ numB c.key ++ numB c.n ++ textB c.s = comB c := by simp [comB]
    have e10 : ne (numB c.k ++ numB c.key ++ numB c.n ++ textB c.s) = some (comB c) := (congrArg ne e9).trans (ne_cons (comB_ne c))
    simp only [e10]
    refine ends_ret ?_ (hW.hle hle0 hwb0 (hfr [1, 2]))
    simp only [go_sem, Nat.reduceEqDiff, ↓reduceIte, reduceIte, Nat.reduceAdd, Nat.reduceMul, Nat.reduceSub, Nat.reduceLeDiff, Nat.reduceBEq, Nat.reduceBNe, Int.reduceNeg, Int.reduceLT, Int.reduceLE, Int.reduceAdd, Int.reduceSub, Int.reduceToNat, Int.reduceEq, Int.reduceBEq, reduceCtorEq, Int.reduceBNe, Try.f31]
end Go.Proofs.Ytmpndjpaelcnkaa
