/- The plain side: what a log and the document's beside it are behind each call; begun. -/
import Derived.Test.YtcfmbbebnobflaaF22
import Derived.Test.YtcfmbbebnobflaaSxO
set_option linter.unusedVariables false
set_option linter.unusedSimpArgs false
namespace Go.Proofs.Ytcfmbbebnobflaa
open Go Go.SX

theorem goodL_ix : ∀ (l : List Ent) (i t : Int), goodL i t l → ∀ (n : Nat) (h : n < l.length), (l[n]).i = i + n + 1
  | [], _, _, _, n, h => by simp at h
  | e :: es, i, t, hg, n, h => by
    obtain ⟨h1, h2⟩ := hg
    cases n with
    | zero => simp; have := h1.1; omega
    | succ n =>
      have := goodL_ix es e.i e.t h2 n (by simpa using h)
      have h3 := h1.1
      simp only [List.getElem_cons_succ]; omega
theorem cutE_len (n : Nat) (o : Option (List Ent)) : (cutE n o).length ≤ n := by simp [cutE]; omega
theorem cutE_d (n : Nat) (o : Option (List Ent)) : ∀ e ∈ cutE n o, (sqL e.d).length ≤ 1000 := by
  intro e he
  obtain ⟨x, hx, rfl⟩ := List.mem_map.1 he
  cases hd : x.d <;> simp [cut, sqL]; omega
theorem cutSnap_d (x : Snp) : (sqL (cutSnap x).d).length ≤ 1000 := by unfold cutSnap; cases hd : x.d <;> simp [cut, sqL]; omega
theorem cutSnap_c (x : Snp) : (sqL (cutSnap x).c).length ≤ 1000 := by
  unfold cutSnap; simp only
  split
  · rename_i h; have := h.2.2; omega
  · simp [sqL]

/-- With bounds that tell how far it may have grown. -/
structure PairB (j : Nat) (s s' : Snp) (o o' : Option (List Ent)) : Prop where
  p : Pair s s' o o'
  len : (sqL o).length ≤ 20 + 8 * j
  last : lastL s (sqL o) ≤ 1125899906842624 + 20 + 8 * j
theorem PairB.succ {j : Nat} {s s' : Snp} {o o' : Option (List Ent)} (h : PairB j s s' o o') : PairB (j + 1) s s' o o' := ⟨h.p, by have := h.len; omega, by have := h.last; omega⟩
theorem pair_new (s : Snp) (es : Option (List Ent)) (h : newOk (cutSnap s) (cutE 20 es)) (hi : s.i ≤ 1125899906842624) : PairB 0 (cutSnap s) (cutSnap s) (ne (cutE 20 es)) (ne (cutE 20 es)) := by
  have hl := cutE_len 20 es
  have hci : (cutSnap s).i = s.i := rfl
  have hla : lastL (cutSnap s) (cutE 20 es) = s.i + (cutE 20 es).length := rfl
  refine ⟨⟨rfl, rfl, rfl, rfl, rfl, h.1, by rw [sqL_ne]; omega, by rw [sqL_ne]; omega, by rw [sqL_ne]; exact cutE_d 20 es, cutSnap_d s, cutSnap_c s, ?_⟩, by rw [sqL_ne]; omega, by rw [sqL_ne]; omega⟩
  rw [sqL_ne]
  exact goodL_ix _ _ _ h.2.2
theorem Pair.putOk {s s' : Snp} {o o' : Option (List Ent)} (h : Pair s s' o o') (l : List Ent) : putOk s' (sqL o') l ↔ putOk s (sqL o) l := by
  unfold Proofs.Ytcfmbbebnobflaa.putOk; rw [h.i, h.last, h.term]
theorem Pair.putL {s s' : Snp} {o o' : Option (List Ent)} (h : Pair s s' o o') (l : List Ent) : putL s' (sqL o') l = putL s (sqL o) l := by
  unfold Proofs.Ytcfmbbebnobflaa.putL; rw [h.i, h.e]
theorem putL_last {s : Snp} {es l : List Ent} (h : putOk s es l) : lastL s (putL s es l) = headI l - 1 + l.length := by
  have hl : lastL s es = s.i + es.length := rfl
  obtain ⟨_, h1, h2, _⟩ := h
  unfold lastL putL
  rw [List.length_append, List.length_take]
  omega
theorem pair_put {j : Nat} {s s' : Snp} {o o' : Option (List Ent)} (h : PairB j s s' o o') (l : List Ent) (hl : l.length ≤ 8) (hd : ∀ e ∈ l, (sqL e.d).length ≤ 1000) (hj : j ≤ 20) (hp : putOk s (sqL o) l) :
    PairB (j + 1) s s' (some (putL s (sqL o) l)) (some (putL s' (sqL o') l)) := by
  have h1 := putL_last hp
  have h2 := h.len
  have h3 := h.last
  have h4 : (putL s (sqL o) l).length ≤ (sqL o).length + 8 := by unfold Proofs.Ytcfmbbebnobflaa.putL; rw [List.length_append, List.length_take]; omega
  have h5 : lastL s (putL s (sqL o) l) ≤ lastL s (sqL o) + 8 := by rw [h1]; have := hp.2.2.1; omega
  refine ⟨⟨h.p.i, h.p.t, h.p.c, h.p.d, ?_, h.p.hs, by rw [sqL_some]; omega, by rw [sqL_some]; omega, ?_, h.p.hsd, h.p.hsc, ?_⟩, by rw [sqL_some]; omega, by rw [sqL_some]; omega⟩
  · rw [sqL_some, sqL_some, h.p.putL]
  · rw [sqL_some]
    intro e he
    rcases List.mem_append.1 he with he | he
    · exact h.p.hd e (List.mem_of_mem_take he)
    · exact hd e he
  · rw [sqL_some]
    intro n hn
    have hla : lastL s (sqL o) = s.i + (sqL o).length := rfl
    obtain ⟨_, q1, q2, q3⟩ := hp
    have hk : ((sqL o).take (headI l - s.i - 1).toNat).length = (headI l - s.i - 1).toNat := by rw [List.length_take]; omega
    have e1 : (putL s (sqL o) l)[n]? = if n < (headI l - s.i - 1).toNat then (sqL o)[n]? else l[n - (headI l - s.i - 1).toNat]? := by
      unfold Proofs.Ytcfmbbebnobflaa.putL
      by_cases c : n < (headI l - s.i - 1).toNat
      · rw [List.getElem?_append_left (by omega), if_pos c, List.getElem?_take, if_pos c]
      · rw [List.getElem?_append_right (by omega), if_neg c, hk]
    rw [List.getElem?_eq_getElem hn] at e1
    split at e1
    · rename_i c
      have hlt : n < (sqL o).length := by omega
      rw [List.getElem?_eq_getElem hlt] at e1
      have e2 := Option.some.inj e1
      rw [e2]; exact h.p.hix n hlt
    · rename_i c
      have hlt : n - (headI l - s.i - 1).toNat < l.length := by
        unfold Proofs.Ytcfmbbebnobflaa.putL at hn; rw [List.length_append, hk] at hn; omega
      rw [List.getElem?_eq_getElem hlt] at e1
      have e2 := Option.some.inj e1
      rw [e2, goodL_ix l _ _ q3 _ hlt]
      omega
theorem Pair.compOk {s s' : Snp} {o o' : Option (List Ent)} (h : Pair s s' o o') (i : Int) : compOk s' (sqL o') i ↔ compOk s (sqL o) i := by
  unfold Proofs.Ytcfmbbebnobflaa.compOk; rw [h.i, h.last]
theorem drop_ix {s : Snp} {es : List Ent} (hix : ∀ (n : Nat) (h : n < es.length), (es[n]).i = s.i + n + 1) (k : Nat) : ∀ (n : Nat) (h : n < (es.drop k).length), ((es.drop k)[n]).i = s.i + k + n + 1 := by
  intro n h
  have h2 : k + n < es.length := by simp at h; omega
  have := hix (k + n) h2
  rw [List.getElem_drop, this]; omega
theorem pair_comp {j : Nat} {s s' : Snp} {o o' : Option (List Ent)} (h : PairB j s s' o o') (i : Int) (d : Option (List UInt8)) (hd : (sqL d).length ≤ 1000) (hj : j ≤ 20) (hp : compOk s (sqL o) i) :
    PairB (j + 1) (compS s (sqL o) i d) (compS s' (sqL o') i (ne (sqL d))) (dropO (i - s.i).toNat o) (ne ((sqL o').drop (i - s'.i).toNat)) := by
  have hla : lastL s (sqL o) = s.i + (sqL o).length := rfl
  have h2 := h.len
  have h3 := h.last
  obtain ⟨q1, q2⟩ := hp
  have hla2 : lastL (compS s (sqL o) i d) (sqL (dropO (i - s.i).toNat o)) = lastL s (sqL o) := by
    rw [sqL_dropO]; unfold lastL compS; simp only [List.length_drop]; rw [hla] at q2; have := h.p.hs; omega
  refine ⟨⟨rfl, ?_, ?_, ?_, ?_, by show 0 ≤ i; have := h.p.hs; omega, by rw [hla2]; omega, by rw [sqL_dropO, List.length_drop]; omega, ?_, hd, ?_, ?_⟩, by rw [sqL_dropO, List.length_drop]; omega, by rw [hla2]; omega⟩
  · show (termL s' (sqL o') i).1 = (termL s (sqL o) i).1; rw [h.p.term]
  · exact h.p.conf i
  · show sqL d = sqL (ne (sqL d)); rw [sqL_ne]
  · rw [sqL_ne, sqL_dropO, h.p.e, h.p.i]
  · rw [sqL_dropO]; intro e he; exact h.p.hd e (List.mem_of_mem_drop he)
  · exact confA_len h.p.hsc h.p.hd
  · rw [sqL_dropO]
    intro n hn
    rw [drop_ix h.p.hix]
    show _ = i + n + 1
    omega
theorem Pair.resetL {s s' : Snp} {o o' : Option (List Ent)} (h : Pair s s' o o') (x : Snp) : resetL s' (sqL o') x = resetL s (sqL o) x := by
  unfold Proofs.Ytcfmbbebnobflaa.resetL; rw [h.term, h.i, h.e]
theorem pair_reset {j : Nat} {s s' : Snp} {o o' : Option (List Ent)} (h : PairB j s s' o o') (x : Snp) (hx0 : 0 ≤ x.i) (hxi : x.i ≤ 1125899906842624) (hxd : (sqL x.d).length ≤ 1000) (hxc : (sqL x.c).length ≤ 1000) (hj : j ≤ 20) {o1 : Option (List Ent)} (ho : sqL o1 = resetL s (sqL o) x) :
    PairB (j + 1) x x o1 (ne (resetL s' (sqL o') x)) := by
  have hla : lastL s (sqL o) = s.i + (sqL o).length := rfl
  have h2 := h.len
  have h3 := h.last
  have key : (resetL s (sqL o) x).length ≤ (sqL o).length ∧ (lastL x (resetL s (sqL o) x) = x.i ∨ lastL x (resetL s (sqL o) x) = lastL s (sqL o)) ∧ (∀ e ∈ resetL s (sqL o) x, (sqL e.d).length ≤ 1000) ∧
      ∀ (n : Nat) (hn : n < (resetL s (sqL o) x).length), ((resetL s (sqL o) x)[n]).i = x.i + n + 1 := by
    by_cases c : (termL s (sqL o) x.i).2 = true ∧ s.i < x.i ∧ (termL s (sqL o) x.i).1 = x.t
    · have e : resetL s (sqL o) x = (sqL o).drop (x.i - s.i).toNat := by unfold Proofs.Ytcfmbbebnobflaa.resetL; rw [if_pos c]
      have hle : x.i ≤ lastL s (sqL o) := by
        by_cases q : x.i ≤ lastL s (sqL o)
        · exact q
        · have := c.1; rw [termL_out (.inr (by omega))] at this; cases this
      rw [e]
      refine ⟨by rw [List.length_drop]; omega, .inr ?_, fun y hy => h.p.hd y (List.mem_of_mem_drop hy), fun n hn => ?_⟩
      · unfold lastL; rw [List.length_drop]; unfold lastL at hle; have := c.2.1; omega
      · rw [drop_ix h.p.hix]; have := c.2.1; omega
    · have e : resetL s (sqL o) x = [] := by unfold Proofs.Ytcfmbbebnobflaa.resetL; rw [if_neg c]
      rw [e]
      exact ⟨by simp, .inl (by simp [lastL]), by simp, by simp⟩
  rw [← ho] at key
  obtain ⟨k1, k2, k3, k4⟩ := key
  exact ⟨⟨rfl, rfl, rfl, rfl, by rw [sqL_ne, h.p.resetL, ho], hx0, by omega, by omega, k3, hxd, hxc, k4⟩, by omega, by omega⟩
end Go.Proofs.Ytcfmbbebnobflaa
