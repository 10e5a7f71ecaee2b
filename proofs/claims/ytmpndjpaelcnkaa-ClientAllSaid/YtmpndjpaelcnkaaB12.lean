/- CutMsg. -/
import Derived.Test.YtmpndjpaelcnkaaB11
set_option linter.unusedVariables false
set_option linter.unusedSimpArgs false
namespace Go.Proofs.Ytmpndjpaelcnkaa
open Go Go.SX

def cutE (e : Ent) : Ent := ⟨e.i, e.t, e.k, cut 100 e.d⟩
def cutM (x : Mg) : Mg := { x with es := ne (((sqL x.es).take 8).map cutE), conf := cut 9 x.conf, data := cut 100 x.data }
theorem cut_all {α : Type} {n : Nat} {o : Option (List α)} (h : (sqL o).length ≤ n) : cut n o = o := by
  cases o with
  | none => rfl
  | some l => simp only [cut, Option.map_some]; rw [List.take_of_length_le (by simpa [sqL] using h)]

set_option maxRecDepth 8000 in
set_option maxHeartbeats 2000000 in
theorem cutMsg_ok (id : BId) (x : Mg) : CallF Try.prog 18 [.agg x.enc] id [] (.agg (cutM x).enc) [] := by
  refine ⟨⟨_, Try.func18, by decide, rfl⟩, (by simp <;> repeat first | exact ⟨[_, _], rfl⟩ | constructor), fun h hr => callsA_of_W Try.func18 rfl fun hfr => ?_⟩
  repeat (first
    | with_reducible refine W_seq fun K hK => ?_
    | (with_reducible refine hK _ ?_); clear hK K
    | (with_reducible refine W_skipK hK ?_); clear hK K
    | (with_reducible refine W_condT ?_ ?_); (· rfl)
    | (with_reducible refine W_condF ?_ ?_); (· rfl)
    | with_reducible refine W_block ?_
    | clear hK K; (with_reducible refine hK _ ?_); clear hK K
    | clear hK K; clear hK K; (with_reducible refine hK _ ?_); clear hK K
    | clear hK K; clear hK K; clear hK K; (with_reducible refine hK _ ?_); clear hK K
    | (with_reducible refine And.intro ?_ ?_); (· first | omega | decide)
    | (try first | ((with_reducible refine W_reg ?_ ?_); (· rfl)) | (with_reducible refine W_exit ?_) | (with_reducible refine W_ret ?_)); simp only [go_sem, Nat.reduceEqDiff, ↓reduceIte, reduceIte, Nat.reduceAdd, Nat.reduceMul, Nat.reduceSub, Nat.reduceLeDiff, Nat.reduceBEq, Nat.reduceBNe, Int.reduceNeg, Int.reduceLT, Int.reduceLE, Int.reduceAdd, Int.reduceSub, Int.reduceToNat, Int.reduceEq, Int.reduceBEq, reduceCtorEq, Int.reduceBNe, Mg.enc])
  have tail : ∀ st : SSt, (st.tm 1 = .ptr (0 :: 0 :: id) 0 ∧ st.tm 2 = .ptr (1 :: 0 :: id) 0 ∧ 2 ≤ st.t ∧ st.h (0 :: 0 :: id) = some (.cells 26 (Mg.enc { x with es := cut 8 x.es })) ∧ st.h (1 :: 0 :: id) = some (.cells 26 Mg.zero.enc) ∧ HLe h st.h) → K st := by
    rintro ⟨tm, hh, tt⟩ ⟨h1, h2, ht, hb, hz, hle⟩
    refine hK _ ?_
    clear hK
    simp only at h1 h2 ht hb hz hle
    have hL8 : (sqL (cut 8 x.es)).length ≤ 8 := cut_len 8 x.es
    have hcm : cutM x = { x with es := ne ((sqL (cut 8 x.es)).map cutE), conf := cut 9 x.conf, data := cut 100 x.data } := by unfold cutM; rw [sqL_cut]
    generalize cut 8 x.es = o at *
    repeat (first
      | with_reducible refine W_seq fun K hK => ?_
      | (with_reducible refine hK _ ?_); clear hK K
      | (with_reducible refine W_skipK hK ?_); clear hK K
      | (with_reducible refine W_condT ?_ ?_); (· rfl)
      | (with_reducible refine W_condF ?_ ?_); (· rfl)
      | with_reducible refine W_block ?_
      | clear hK K; (with_reducible refine hK _ ?_); clear hK K
      | clear hK K; clear hK K; (with_reducible refine hK _ ?_); clear hK K
      | clear hK K; clear hK K; clear hK K; (with_reducible refine hK _ ?_); clear hK K
      | (with_reducible refine And.intro ?_ ?_); (· first | omega | decide)
      | (try first | ((with_reducible refine W_reg ?_ ?_); (· rfl)) | (with_reducible refine W_exit ?_) | (with_reducible refine W_ret ?_)); simp only [go_sem, Nat.reduceEqDiff, ↓reduceIte, reduceIte, Nat.reduceAdd, Nat.reduceMul, Nat.reduceSub, Nat.reduceLeDiff, Nat.reduceBEq, Nat.reduceBNe, Int.reduceNeg, Int.reduceLT, Int.reduceLE, Int.reduceAdd, Int.reduceSub, Int.reduceToNat, Int.reduceEq, Int.reduceBEq, reduceCtorEq, Int.reduceBNe])
    refine W_loop ?_
    refine WL_nat (P := Try.prog) (fun m q => ∃ (j : Nat), m = (sqL o).length - j ∧ j ≤ (sqL o).length ∧ q.tm 1 = .ptr (0 :: 0 :: id) 0 ∧ q.tm 2 = .ptr (1 :: 0 :: id) 0 ∧ q.tm 4 = .p (.int .i64 j) ∧ 2 ≤ q.t ∧ q.h (0 :: 0 :: id) = some (.cells 26 (Mg.enc { x with es := o })) ∧ q.h (1 :: 0 :: id) = some (.cells 26 Mg.zero.enc) ∧ HLe h q.h ∧
        Grw Ent.enc 112 4 (.p (.slice none 0 0)) [] q.h (q.tm 3) (((sqL o).take j).map cutE) ∧ ∀ f b2 p n z, q.tm 3 = .ref f b2 p n z → Lat 2 id b2) (fun m q hI => ?_) _ _
      ⟨0, rfl, by omega, h1, h2, rfl, by simp <;> omega, hb, hz, hle, .inl ⟨rfl, rfl⟩, fun f b2 p n z e => by cases e⟩
    clear h1 h2 ht hb hz hle
    obtain ⟨j, rfl, hj, h1, h2, h4, ht, hb, hz, hle, hgw, hxl⟩ := hI
    obtain ⟨tm, hh, tt⟩ := q
    simp only at h1 h2 h4 ht hb hz hle hgw hxl
    have hf1 : ∀ f b2 p n z, tm 3 = .ref f b2 p n z → b2 ≠ 0 :: 0 :: id := fun f b2 p n z e q => by
      have := lat_ne3 (hxl f b2 p n z e) (j := 0) (by decide) [0]; simp at this; exact this q
    have hf2 : ∀ f b2 p n z, tm 3 = .ref f b2 p n z → b2 ≠ 1 :: 0 :: id := fun f b2 p n z e q => by
      have := lat_ne3 (hxl f b2 p n z e) (j := 0) (by decide) [1]; simp at this; exact this q
    simp only [Mg.enc] at hb
    by_cases c1 : j < (sqL o).length
    · have g1 : decide ((j : Int) < ((sqL o).length : Int)) = true := by simp; omega
      have hxj : ((sqL o).flatMap Ent.enc).drop (j * 4) = Ent.enc (sqL o)[j] ++ ((sqL o).drop (j + 1)).flatMap Ent.enc := flatMap_at Ent.enc_len _ j c1
      have e7 : ((sqL o).take (j + 1)).map cutE = ((sqL o).take j).map cutE ++ [cutE (sqL o)[j]] := by rw [List.take_succ_eq_append_getElem c1, List.map_append]; rfl
      have e6 : IntKind.i64.wrap ((j : Int) + 1) = ((j + 1 : Nat) : Int) := by rw [wrap_i64 (by omega)]; omega
      have hlm : (((sqL o).take j).map cutE).length ≤ 8 := by simp; omega
      generalize (sqL o)[j] = y at *
      refine W_fr fun hF => ?_
      have hfn : ∀ f b2 p n z, tm 3 = .ref f b2 p n z → b2 ≠ 5 :: (tt + 1) :: id := fun f b2 p n z e q => by
        rcases hgw with ⟨q1, _⟩ | ⟨b3, _, q2, q3⟩
        · rw [q1] at e; cases e
        · rw [q2] at e; cases e; subst q; have q9 : hh (5 :: (tt + 1) :: id) = none := hF (tt + 1) (by simp) [5]
          rw [q9] at q3; cases q3
      repeat (first
        | with_reducible refine W_seq fun K hK => ?_
        | (with_reducible refine hK _ ?_); clear hK K
        | (with_reducible refine W_skipK hK ?_); clear hK K
        | (with_reducible refine W_condT ?_ ?_); (· rfl)
        | (with_reducible refine W_condF ?_ ?_); (· rfl)
        | with_reducible refine W_block ?_
        | clear hK K; (with_reducible refine hK _ ?_); clear hK K
        | clear hK K; clear hK K; (with_reducible refine hK _ ?_); clear hK K
        | clear hK K; clear hK K; clear hK K; (with_reducible refine hK _ ?_); clear hK K
        | (with_reducible refine And.intro ?_ ?_); (· first | omega | decide)
        | (try first | ((with_reducible refine W_reg ?_ ?_); (· rfl)) | (with_reducible refine W_exit ?_) | (with_reducible refine W_ret ?_)); simp only [go_sem, Nat.reduceEqDiff, ↓reduceIte, reduceIte, Nat.reduceAdd, Nat.reduceMul, Nat.reduceSub, Nat.reduceLeDiff, Nat.reduceBEq, Nat.reduceBNe, Int.reduceNeg, Int.reduceLT, Int.reduceLE, Int.reduceAdd, Int.reduceSub, Int.reduceToNat, Int.reduceEq, Int.reduceBEq, reduceCtorEq, Int.reduceBNe, h1, h2, h4, hb, g1, hxj, Ent.enc])
      refine stop_call (short_ok _ y.d 100) trivial ?_
      repeat (first
        | with_reducible refine W_seq fun K hK => ?_
        | (with_reducible refine hK _ ?_); clear hK K
        | (with_reducible refine W_skipK hK ?_); clear hK K
        | (with_reducible refine W_condT ?_ ?_); (· rfl)
        | (with_reducible refine W_condF ?_ ?_); (· rfl)
        | with_reducible refine W_block ?_
        | clear hK K; (with_reducible refine hK _ ?_); clear hK K
        | clear hK K; clear hK K; (with_reducible refine hK _ ?_); clear hK K
        | clear hK K; clear hK K; clear hK K; (with_reducible refine hK _ ?_); clear hK K
        | (with_reducible refine And.intro ?_ ?_); (· first | omega | decide)
        | (try first | ((with_reducible refine W_reg ?_ ?_); (· rfl)) | (with_reducible refine W_exit ?_) | (with_reducible refine W_ret ?_)); simp only [go_sem, Nat.reduceEqDiff, ↓reduceIte, reduceIte, Nat.reduceAdd, Nat.reduceMul, Nat.reduceSub, Nat.reduceLeDiff, Nat.reduceBEq, Nat.reduceBNe, Int.reduceNeg, Int.reduceLT, Int.reduceLE, Int.reduceAdd, Int.reduceSub, Int.reduceToNat, Int.reduceEq, Int.reduceBEq, reduceCtorEq, Int.reduceBNe, h1, h2, h4, hb])
      refine stop_append_grw (x0 := .p (.slice none 0 0)) (l0 := []) 112 4 48 [.p (.int .i64 0), .p (.int .i64 0), .p (.int .i64 0), .p (.slice none 0 0)] (((sqL o).take j).map cutE) [cutE y] ty22.2.2.2.1 ty112.2.1 ty112.2.2.1 ty112.2.2.2.2.2.1 rfl Ent.enc_len Ent.enc_one rfl
        (by exact grw_hset (grw_hset (grw_hset hgw hfn) hfn) hfn) (by simp only [go_sem, Nat.reduceEqDiff, ↓reduceIte, reduceIte, Nat.reduceAdd, Nat.reduceMul, Nat.reduceSub, Nat.reduceLeDiff, Nat.reduceBEq, Nat.reduceBNe, Int.reduceNeg, Int.reduceLT, Int.reduceLE, Int.reduceAdd, Int.reduceSub, Int.reduceToNat, Int.reduceEq, Int.reduceBEq, reduceCtorEq, Int.reduceBNe] <;> rfl) (by simp) (by simp; omega) (by simp [maxLen]; omega) ?_
      rw [← e7]
      have hx1 : ∀ h', upd h' (ownW (tm 3)) (0 :: 0 :: id) = h' (0 :: 0 :: id) := fun h' => upd_ownW_ne hf1
      have hx2 : ∀ h', upd h' (ownW (tm 3)) (1 :: 0 :: id) = h' (1 :: 0 :: id) := fun h' => upd_ownW_ne hf2
      repeat (first
        | with_reducible refine W_seq fun K hK => ?_
        | (with_reducible refine hK _ ?_); clear hK K
        | (with_reducible refine W_skipK hK ?_); clear hK K
        | (with_reducible refine W_condT ?_ ?_); (· rfl)
        | (with_reducible refine W_condF ?_ ?_); (· rfl)
        | with_reducible refine W_block ?_
        | clear hK K; (with_reducible refine hK _ ?_); clear hK K
        | clear hK K; clear hK K; (with_reducible refine hK _ ?_); clear hK K
        | clear hK K; clear hK K; clear hK K; (with_reducible refine hK _ ?_); clear hK K
        | (with_reducible refine And.intro ?_ ?_); (· first | omega | decide)
        | (try first | ((with_reducible refine W_reg ?_ ?_); (· rfl)) | (with_reducible refine W_exit ?_) | (with_reducible refine W_ret ?_)); simp only [go_sem, Nat.reduceEqDiff, ↓reduceIte, reduceIte, Nat.reduceAdd, Nat.reduceMul, Nat.reduceSub, Nat.reduceLeDiff, Nat.reduceBEq, Nat.reduceBNe, Int.reduceNeg, Int.reduceLT, Int.reduceLE, Int.reduceAdd, Int.reduceSub, Int.reduceToNat, Int.reduceEq, Int.reduceBEq, reduceCtorEq, Int.reduceBNe, h1, h2, h4, e6, hx1, hx2])
      refine ⟨_, ?_, j + 1, rfl, by omega, rfl, hb, hz, ?_, .inr ⟨_, ?_, rfl, ?_⟩, fun f b2 p n z e => ?_⟩
      · omega
      · exact HLe.fresh (hle_ownW (fun f b p n z e => lat_fr hfr (hxl f b p n z e)) (by repeat (first | exact hle | refine HLe.fresh ?_ (hfr [_, _])))) (hfr [_, _])
      · rw [e7]; simp
      · rw [hset_same]; rfl
      · cases e; exact ⟨tt + 1 + 1 + 1, [3], by omega, rfl⟩
    · have g1 : decide ((j : Int) < ((sqL o).length : Int)) = false := by simp; omega
      rw [List.take_of_length_le (by omega)] at hgw
      refine W_grw 3 hgw rfl Ent.enc_len ?_
      rw [grwV_nil]
      have hb2 : upd hh (ownW (tm 3)) (0 :: 0 :: id) = _ := (upd_ownW_ne hf1).trans hb
      have hz2 : upd hh (ownW (tm 3)) (1 :: 0 :: id) = _ := (upd_ownW_ne hf2).trans hz
      have hle2 : HLe h (upd hh (ownW (tm 3))) := hle_ownW (fun f b p n z e => lat_fr hfr (hxl f b p n z e)) hle
      generalize upd hh (ownW (tm 3)) = H at *
      repeat (first
        | with_reducible refine W_seq fun K hK => ?_
        | (with_reducible refine hK _ ?_); clear hK K
        | (with_reducible refine W_skipK hK ?_); clear hK K
        | (with_reducible refine W_condT ?_ ?_); (· rfl)
        | (with_reducible refine W_condF ?_ ?_); (· rfl)
        | with_reducible refine W_block ?_
        | clear hK K; (with_reducible refine hK _ ?_); clear hK K
        | clear hK K; clear hK K; (with_reducible refine hK _ ?_); clear hK K
        | clear hK K; clear hK K; clear hK K; (with_reducible refine hK _ ?_); clear hK K
        | (with_reducible refine And.intro ?_ ?_); (· first | omega | decide)
        | (try first | ((with_reducible refine W_reg ?_ ?_); (· rfl)) | (with_reducible refine W_exit ?_) | (with_reducible refine W_ret ?_)); simp only [go_sem, Nat.reduceEqDiff, ↓reduceIte, reduceIte, Nat.reduceAdd, Nat.reduceMul, Nat.reduceSub, Nat.reduceLeDiff, Nat.reduceBEq, Nat.reduceBNe, Int.reduceNeg, Int.reduceLT, Int.reduceLE, Int.reduceAdd, Int.reduceSub, Int.reduceToNat, Int.reduceEq, Int.reduceBEq, reduceCtorEq, Int.reduceBNe, h1, h2, h4, hb2, g1])
      have tail2 : ∀ st : SSt, (st.tm 1 = .ptr (0 :: 0 :: id) 0 ∧ st.tm 2 = .ptr (1 :: 0 :: id) 0 ∧ st.h (0 :: 0 :: id) = some (.cells 26 (Mg.enc { x with es := ne ((sqL o).map cutE), conf := cut 9 x.conf })) ∧ st.h (1 :: 0 :: id) = some (.cells 26 Mg.zero.enc) ∧ HLe h st.h) → K st := by
        rintro ⟨tm', hh', tt'⟩ ⟨h1, h2, hb, hz, hle⟩
        refine hK _ ?_
        clear hK
        simp only at h1 h2 hb hz hle
        simp only [Mg.enc] at hb
        repeat (first
          | with_reducible refine W_seq fun K hK => ?_
          | (with_reducible refine hK _ ?_); clear hK K
          | (with_reducible refine W_skipK hK ?_); clear hK K
          | (with_reducible refine W_condT ?_ ?_); (· rfl)
          | (with_reducible refine W_condF ?_ ?_); (· rfl)
          | with_reducible refine W_block ?_
          | clear hK K; (with_reducible refine hK _ ?_); clear hK K
          | clear hK K; clear hK K; (with_reducible refine hK _ ?_); clear hK K
          | clear hK K; clear hK K; clear hK K; (with_reducible refine hK _ ?_); clear hK K
          | (with_reducible refine And.intro ?_ ?_); (· first | omega | decide)
          | (try first | ((with_reducible refine W_reg ?_ ?_); (· rfl)) | (with_reducible refine W_exit ?_) | (with_reducible refine W_ret ?_)); simp only [go_sem, Nat.reduceEqDiff, ↓reduceIte, reduceIte, Nat.reduceAdd, Nat.reduceMul, Nat.reduceSub, Nat.reduceLeDiff, Nat.reduceBEq, Nat.reduceBNe, Int.reduceNeg, Int.reduceLT, Int.reduceLE, Int.reduceAdd, Int.reduceSub, Int.reduceToNat, Int.reduceEq, Int.reduceBEq, reduceCtorEq, Int.reduceBNe, h1, h2, hb])
        refine stop_call (short_ok _ x.data 100) trivial ?_
        repeat (first
          | with_reducible refine W_seq fun K hK => ?_
          | (with_reducible refine hK _ ?_); clear hK K
          | (with_reducible refine W_skipK hK ?_); clear hK K
          | (with_reducible refine W_condT ?_ ?_); (· rfl)
          | (with_reducible refine W_condF ?_ ?_); (· rfl)
          | with_reducible refine W_block ?_
          | clear hK K; (with_reducible refine hK _ ?_); clear hK K
          | clear hK K; clear hK K; (with_reducible refine hK _ ?_); clear hK K
          | clear hK K; clear hK K; clear hK K; (with_reducible refine hK _ ?_); clear hK K
          | (with_reducible refine And.intro ?_ ?_); (· first | omega | decide)
          | (try first | ((with_reducible refine W_reg ?_ ?_); (· rfl)) | (with_reducible refine W_exit ?_) | (with_reducible refine W_ret ?_)); simp only [go_sem, Nat.reduceEqDiff, ↓reduceIte, reduceIte, Nat.reduceAdd, Nat.reduceMul, Nat.reduceSub, Nat.reduceLeDiff, Nat.reduceBEq, Nat.reduceBNe, Int.reduceNeg, Int.reduceLT, Int.reduceLE, Int.reduceAdd, Int.reduceSub, Int.reduceToNat, Int.reduceEq, Int.reduceBEq, reduceCtorEq, Int.reduceBNe, h1, h2, hb, hz])
        rw [hcm]
        refine ends_ret ?_ (by repeat (first | exact hle | refine HLe.fresh ?_ (hfr [_, _])))
        simp only [go_sem, Nat.reduceEqDiff, ↓reduceIte, reduceIte, Nat.reduceAdd, Nat.reduceMul, Nat.reduceSub, Nat.reduceLeDiff, Nat.reduceBEq, Nat.reduceBNe, Int.reduceNeg, Int.reduceLT, Int.reduceLE, Int.reduceAdd, Int.reduceSub, Int.reduceToNat, Int.reduceEq, Int.reduceBEq, reduceCtorEq, Int.reduceBNe, Try.f18, h2, Mg.enc]
      clear hK
      have hK := tail2
      by_cases c9 : (sqL x.conf).length > 9
      · have f9 : decide (((sqL x.conf).length : Int) > 9) = true := by simp; omega
        repeat (first
          | with_reducible refine W_seq fun K hK => ?_
          | (with_reducible refine hK _ ?_); clear hK K
          | (with_reducible refine W_skipK hK ?_); clear hK K
          | (with_reducible refine W_condT ?_ ?_); (· rfl)
          | (with_reducible refine W_condF ?_ ?_); (· rfl)
          | with_reducible refine W_block ?_
          | clear hK K; (with_reducible refine hK _ ?_); clear hK K
          | clear hK K; clear hK K; (with_reducible refine hK _ ?_); clear hK K
          | clear hK K; clear hK K; clear hK K; (with_reducible refine hK _ ?_); clear hK K
          | (with_reducible refine And.intro ?_ ?_); (· first | omega | decide)
          | (try first | ((with_reducible refine W_reg ?_ ?_); (· rfl)) | (with_reducible refine W_exit ?_) | (with_reducible refine W_ret ?_)); simp only [go_sem, Nat.reduceEqDiff, ↓reduceIte, reduceIte, Nat.reduceAdd, Nat.reduceMul, Nat.reduceSub, Nat.reduceLeDiff, Nat.reduceBEq, Nat.reduceBNe, Int.reduceNeg, Int.reduceLT, Int.reduceLE, Int.reduceAdd, Int.reduceSub, Int.reduceToNat, Int.reduceEq, Int.reduceBEq, reduceCtorEq, Int.reduceBNe, f9, h1, hb2])
        refine sliceW_sq 0 9 ty23.2.2.2.1 ty3.2.1 nE_len rfl rfl (by omega) (by omega) ?_
        have e9 : (x.conf.map fun l => (l.drop 0).take (9 - 0)) = cut 9 x.conf := by simp [cut]
        rw [e9]
        repeat (first
          | with_reducible refine W_seq fun K hK => ?_
          | (with_reducible refine hK _ ?_); clear hK K
          | (with_reducible refine W_skipK hK ?_); clear hK K
          | (with_reducible refine W_condT ?_ ?_); (· rfl)
          | (with_reducible refine W_condF ?_ ?_); (· rfl)
          | with_reducible refine W_block ?_
          | clear hK K; (with_reducible refine hK _ ?_); clear hK K
          | clear hK K; clear hK K; (with_reducible refine hK _ ?_); clear hK K
          | clear hK K; clear hK K; clear hK K; (with_reducible refine hK _ ?_); clear hK K
          | (with_reducible refine And.intro ?_ ?_); (· first | omega | decide)
          | (try first | ((with_reducible refine W_reg ?_ ?_); (· rfl)) | (with_reducible refine W_exit ?_) | (with_reducible refine W_ret ?_)); simp only [go_sem, Nat.reduceEqDiff, ↓reduceIte, reduceIte, Nat.reduceAdd, Nat.reduceMul, Nat.reduceSub, Nat.reduceLeDiff, Nat.reduceBEq, Nat.reduceBNe, Int.reduceNeg, Int.reduceLT, Int.reduceLE, Int.reduceAdd, Int.reduceSub, Int.reduceToNat, Int.reduceEq, Int.reduceBEq, reduceCtorEq, Int.reduceBNe, h1, hb2])
        refine hK _ ⟨h1, h2, by simp only [go_sem, Nat.reduceEqDiff, ↓reduceIte, reduceIte, Nat.reduceAdd, Nat.reduceMul, Nat.reduceSub, Nat.reduceLeDiff, Nat.reduceBEq, Nat.reduceBNe, Int.reduceNeg, Int.reduceLT, Int.reduceLE, Int.reduceAdd, Int.reduceSub, Int.reduceToNat, Int.reduceEq, Int.reduceBEq, reduceCtorEq, Int.reduceBNe, Mg.enc], by simp only [go_sem, Nat.reduceEqDiff, ↓reduceIte, reduceIte, Nat.reduceAdd, Nat.reduceMul, Nat.reduceSub, Nat.reduceLeDiff, Nat.reduceBEq, Nat.reduceBNe, Int.reduceNeg, Int.reduceLT, Int.reduceLE, Int.reduceAdd, Int.reduceSub, Int.reduceToNat, Int.reduceEq, Int.reduceBEq, reduceCtorEq, Int.reduceBNe, hz2], ?_⟩
        · repeat (first | exact hle2 | refine HLe.fresh ?_ (hfr [_, _]))
      · have f9 : decide (((sqL x.conf).length : Int) > 9) = false := by simp; omega
        have e9 : cut 9 x.conf = x.conf := cut_all (by omega)
        repeat (first
          | with_reducible refine W_seq fun K hK => ?_
          | (with_reducible refine hK _ ?_); clear hK K
          | (with_reducible refine W_skipK hK ?_); clear hK K
          | (with_reducible refine W_condT ?_ ?_); (· rfl)
          | (with_reducible refine W_condF ?_ ?_); (· rfl)
          | with_reducible refine W_block ?_
          | clear hK K; (with_reducible refine hK _ ?_); clear hK K
          | clear hK K; clear hK K; (with_reducible refine hK _ ?_); clear hK K
          | clear hK K; clear hK K; clear hK K; (with_reducible refine hK _ ?_); clear hK K
          | (with_reducible refine And.intro ?_ ?_); (· first | omega | decide)
          | (try first | ((with_reducible refine W_reg ?_ ?_); (· rfl)) | (with_reducible refine W_exit ?_) | (with_reducible refine W_ret ?_)); simp only [go_sem, Nat.reduceEqDiff, ↓reduceIte, reduceIte, Nat.reduceAdd, Nat.reduceMul, Nat.reduceSub, Nat.reduceLeDiff, Nat.reduceBEq, Nat.reduceBNe, Int.reduceNeg, Int.reduceLT, Int.reduceLE, Int.reduceAdd, Int.reduceSub, Int.reduceToNat, Int.reduceEq, Int.reduceBEq, reduceCtorEq, Int.reduceBNe, f9])
        refine W_skip (hK _ ⟨h1, h2, by simp only [go_sem, Nat.reduceEqDiff, ↓reduceIte, reduceIte, Nat.reduceAdd, Nat.reduceMul, Nat.reduceSub, Nat.reduceLeDiff, Nat.reduceBEq, Nat.reduceBNe, Int.reduceNeg, Int.reduceLT, Int.reduceLE, Int.reduceAdd, Int.reduceSub, Int.reduceToNat, Int.reduceEq, Int.reduceBEq, reduceCtorEq, Int.reduceBNe, Mg.enc, e9, hset_at], by simp only [go_sem, Nat.reduceEqDiff, ↓reduceIte, reduceIte, Nat.reduceAdd, Nat.reduceMul, Nat.reduceSub, Nat.reduceLeDiff, Nat.reduceBEq, Nat.reduceBNe, Int.reduceNeg, Int.reduceLT, Int.reduceLE, Int.reduceAdd, Int.reduceSub, Int.reduceToNat, Int.reduceEq, Int.reduceBEq, reduceCtorEq, Int.reduceBNe, hz2, hset_at], ?_⟩)
        · repeat (first | exact hle2 | refine HLe.fresh ?_ (hfr [_, _]))
  clear hK
  have hK := tail
  by_cases c8 : (sqL x.es).length > 8
  · have f1 : decide (((sqL x.es).length : Int) > 8) = true := by simp; omega
    repeat (first
      | with_reducible refine W_seq fun K hK => ?_
      | (with_reducible refine hK _ ?_); clear hK K
      | (with_reducible refine W_skipK hK ?_); clear hK K
      | (with_reducible refine W_condT ?_ ?_); (· rfl)
      | (with_reducible refine W_condF ?_ ?_); (· rfl)
      | with_reducible refine W_block ?_
      | clear hK K; (with_reducible refine hK _ ?_); clear hK K
      | clear hK K; clear hK K; (with_reducible refine hK _ ?_); clear hK K
      | clear hK K; clear hK K; clear hK K; (with_reducible refine hK _ ?_); clear hK K
      | (with_reducible refine And.intro ?_ ?_); (· first | omega | decide)
      | (try first | ((with_reducible refine W_reg ?_ ?_); (· rfl)) | (with_reducible refine W_exit ?_) | (with_reducible refine W_ret ?_)); simp only [go_sem, Nat.reduceEqDiff, ↓reduceIte, reduceIte, Nat.reduceAdd, Nat.reduceMul, Nat.reduceSub, Nat.reduceLeDiff, Nat.reduceBEq, Nat.reduceBNe, Int.reduceNeg, Int.reduceLT, Int.reduceLE, Int.reduceAdd, Int.reduceSub, Int.reduceToNat, Int.reduceEq, Int.reduceBEq, reduceCtorEq, Int.reduceBNe, f1])
    refine sliceW_sq 0 8 ty22.2.2.2.1 ty112.2.1 Ent.enc_len rfl rfl (by omega) (by omega) ?_
    repeat (first
      | with_reducible refine W_seq fun K hK => ?_
      | (with_reducible refine hK _ ?_); clear hK K
      | (with_reducible refine W_skipK hK ?_); clear hK K
      | (with_reducible refine W_condT ?_ ?_); (· rfl)
      | (with_reducible refine W_condF ?_ ?_); (· rfl)
      | with_reducible refine W_block ?_
      | clear hK K; (with_reducible refine hK _ ?_); clear hK K
      | clear hK K; clear hK K; (with_reducible refine hK _ ?_); clear hK K
      | clear hK K; clear hK K; clear hK K; (with_reducible refine hK _ ?_); clear hK K
      | (with_reducible refine And.intro ?_ ?_); (· first | omega | decide)
      | (try first | ((with_reducible refine W_reg ?_ ?_); (· rfl)) | (with_reducible refine W_exit ?_) | (with_reducible refine W_ret ?_)); simp only [go_sem, Nat.reduceEqDiff, ↓reduceIte, reduceIte, Nat.reduceAdd, Nat.reduceMul, Nat.reduceSub, Nat.reduceLeDiff, Nat.reduceBEq, Nat.reduceBNe, Int.reduceNeg, Int.reduceLT, Int.reduceLE, Int.reduceAdd, Int.reduceSub, Int.reduceToNat, Int.reduceEq, Int.reduceBEq, reduceCtorEq, Int.reduceBNe, Mg.enc, Mg.zero])
    have e8 : (x.es.map fun l => l.take 8) = cut 8 x.es := rfl
    simp only [e8]
    refine hK _ ⟨rfl, rfl, by simp, by simp only [go_sem, Nat.reduceEqDiff, ↓reduceIte, reduceIte, Nat.reduceAdd, Nat.reduceMul, Nat.reduceSub, Nat.reduceLeDiff, Nat.reduceBEq, Nat.reduceBNe, Int.reduceNeg, Int.reduceLT, Int.reduceLE, Int.reduceAdd, Int.reduceSub, Int.reduceToNat, Int.reduceEq, Int.reduceBEq, reduceCtorEq, Int.reduceBNe, Mg.enc], by simp only [go_sem, Nat.reduceEqDiff, ↓reduceIte, reduceIte, Nat.reduceAdd, Nat.reduceMul, Nat.reduceSub, Nat.reduceLeDiff, Nat.reduceBEq, Nat.reduceBNe, Int.reduceNeg, Int.reduceLT, Int.reduceLE, Int.reduceAdd, Int.reduceSub, Int.reduceToNat, Int.reduceEq, Int.reduceBEq, reduceCtorEq, Int.reduceBNe]; rfl, ?_⟩
    · repeat (first | exact HLe.refl _ | refine HLe.fresh ?_ (hfr [_, _]))
  · have f1 : decide (((sqL x.es).length : Int) > 8) = false := by simp; omega
    repeat (first
      | with_reducible refine W_seq fun K hK => ?_
      | (with_reducible refine hK _ ?_); clear hK K
      | (with_reducible refine W_skipK hK ?_); clear hK K
      | (with_reducible refine W_condT ?_ ?_); (· rfl)
      | (with_reducible refine W_condF ?_ ?_); (· rfl)
      | with_reducible refine W_block ?_
      | clear hK K; (with_reducible refine hK _ ?_); clear hK K
      | clear hK K; clear hK K; (with_reducible refine hK _ ?_); clear hK K
      | clear hK K; clear hK K; clear hK K; (with_reducible refine hK _ ?_); clear hK K
      | (with_reducible refine And.intro ?_ ?_); (· first | omega | decide)
      | (try first | ((with_reducible refine W_reg ?_ ?_); (· rfl)) | (with_reducible refine W_exit ?_) | (with_reducible refine W_ret ?_)); simp only [go_sem, Nat.reduceEqDiff, ↓reduceIte, reduceIte, Nat.reduceAdd, Nat.reduceMul, Nat.reduceSub, Nat.reduceLeDiff, Nat.reduceBEq, Nat.reduceBNe, Int.reduceNeg, Int.reduceLT, Int.reduceLE, Int.reduceAdd, Int.reduceSub, Int.reduceToNat, Int.reduceEq, Int.reduceBEq, reduceCtorEq, Int.reduceBNe, f1])
    have e8 : cut 8 x.es = x.es := cut_all (by omega)
    refine W_skip (hK _ ⟨rfl, rfl, by simp, by simp only [go_sem, Nat.reduceEqDiff, ↓reduceIte, reduceIte, Nat.reduceAdd, Nat.reduceMul, Nat.reduceSub, Nat.reduceLeDiff, Nat.reduceBEq, Nat.reduceBNe, Int.reduceNeg, Int.reduceLT, Int.reduceLE, Int.reduceAdd, Int.reduceSub, Int.reduceToNat, Int.reduceEq, Int.reduceBEq, reduceCtorEq, Int.reduceBNe, Mg.enc, e8, hset_at], by simp only [go_sem, Nat.reduceEqDiff, ↓reduceIte, reduceIte, Nat.reduceAdd, Nat.reduceMul, Nat.reduceSub, Nat.reduceLeDiff, Nat.reduceBEq, Nat.reduceBNe, Int.reduceNeg, Int.reduceLT, Int.reduceLE, Int.reduceAdd, Int.reduceSub, Int.reduceToNat, Int.reduceEq, Int.reduceBEq, reduceCtorEq, Int.reduceBNe, hset_at] <;> rfl, ?_⟩)
    · repeat (first | exact HLe.refl _ | refine HLe.fresh ?_ (hfr [_, _]))
end Go.Proofs.Ytmpndjpaelcnkaa
