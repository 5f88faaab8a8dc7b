/-
  Plain: what the merged encoder writes; it has no two equivalent states.
-/
import Derived.Test.YtmjkbidnghcfnaaPK
namespace Go.Proofs.Ytmjkbidnghcfnaa
set_option linter.unusedVariables false
open Go Go.Lift

theorem numL_eq {ks : List Finer} {s t : Nat} {e : Enc} {cl nx : List Int} {i : Nat} (hk : ks = keysE e cl i nx) (hs : s < e.rows.length) (ht : t < e.rows.length) :
    (numL ks).getD s 0 = (numL ks).getD t 0 ↔ nx.getD s 0 = nx.getD t 0 ∧ (cellAt e s i).word = (cellAt e t i).word ∧ cl.getD (cellAt e s i).to.toNat 0 = cl.getD (cellAt e t i).to.toNat 0 := by
  subst hk
  rw [numL_inj (d := default) (by simpa using hs) (by simpa using ht), keysE_at hs, keysE_at ht]
  simp only [Finer.mk.injEq]
theorem part_eq {e : Enc} {cl : List Int} {s t : Nat} (hs : s < e.rows.length) (ht : t < e.rows.length) : ∀ i, (partE e cl i).getD s 0 = (partE e cl i).getD t 0 ↔
    cl.getD s 0 = cl.getD t 0 ∧ ∀ j, j < i → (cellAt e s j).word = (cellAt e t j).word ∧ cl.getD (cellAt e s j).to.toNat 0 = cl.getD (cellAt e t j).to.toNat 0
  | 0 => by
    show cl.getD s 0 = cl.getD t 0 ↔ _
    exact ⟨fun h => ⟨h, fun j hj => absurd hj (Nat.not_lt_zero _)⟩, fun h => h.1⟩
  | i + 1 => by
    rw [partE_succ]
    unfold stepE
    rw [numL_eq rfl hs ht, part_eq hs ht i]
    constructor
    · rintro ⟨⟨h1, h2⟩, h3⟩
      refine ⟨h1, fun j hj => ?_⟩
      rcases Nat.lt_succ_iff_lt_or_eq.1 hj with h4 | h4
      · exact h2 j h4
      · rw [h4]; exact h3
    · rintro ⟨h1, h2⟩
      exact ⟨⟨h1, fun j hj => h2 j (by omega)⟩, h2 i (Nat.lt_succ_self _)⟩
theorem classesAt_eq {e : Enc} {s t : Nat} (hs : s < e.rows.length) (ht : t < e.rows.length) (k : Nat) : (classesAt e (k + 1)).getD s 0 = (classesAt e (k + 1)).getD t 0 ↔
    (classesAt e k).getD s 0 = (classesAt e k).getD t 0 ∧ ∀ j, j < e.inputs.toNat → (cellAt e s j).word = (cellAt e t j).word ∧ (classesAt e k).getD (cellAt e s j).to.toNat 0 = (classesAt e k).getD (cellAt e t j).to.toNat 0 := by
  have h := part_eq (e := e) (cl := classesAt e k) hs ht e.inputs.toNat
  rw [partE_all rfl] at h
  exact h
theorem stable_fix {e : Enc} (h0 : 0 < e.rows.length) {k : Nat} (hk : e.rows.length ≤ k) : classesAt e k = classesE e := by
  obtain ⟨j, rfl⟩ : ∃ j, k = e.rows.length + j := ⟨k - e.rows.length, by omega⟩
  have hst := classes_stable h0
  have hfix : roundE e (classesE e) = classesE e := by
    have : ∀ i, i ≤ e.inputs.toNat → partE e (classesE e) i = classesE e := fun i => by
      induction i with
      | zero => intro _; rfl
      | succ i ih => intro hi; rw [partE_succ, ih (by omega)]; exact hst.step i (by omega)
    rw [← partE_all (e := e) (cl := classesE e) rfl]
    exact this _ (Nat.le_refl _)
  exact iter_fix (f := roundE e) (x := zerosE e) (k := e.rows.length) hfix j

section
variable {e : Enc}
theorem mrows_at {cl : List Int} (h : RG 0 cl) : ∀ s, s ≤ cl.length → ∀ k, k < (mrowsAt e cl s).length → ∃ t, t < s ∧ (mrowsAt e cl s).getD k [] = mrow e cl t ∧ cl.getD t 0 = (k : Int)
  | 0, _, k, hk => by simp at hk
  | s + 1, hs, k, hk => by
    have hc := mrows_cnt (e := e) h s (by omega)
    obtain ⟨h1, h2, h3⟩ := RG_at h (show s < cl.length by omega)
    rw [mrowsAt_succ] at hk ⊢
    unfold mstep at hk ⊢
    split at hk
    · rename_i h4
      rw [if_pos h4]
      obtain ⟨t, k1, k2, k3⟩ := mrows_at h s (by omega) k hk
      exact ⟨t, by omega, k2, k3⟩
    · rename_i h4
      rw [if_neg h4]
      rw [List.length_append, List.length_singleton] at hk
      by_cases h5 : k < (mrowsAt e cl s).length
      · obtain ⟨t, k1, k2, k3⟩ := mrows_at h s (by omega) k h5
        refine ⟨t, by omega, ?_, k3⟩
        rw [← k2, getD_app, if_pos h5]
      · obtain rfl : k = (mrowsAt e cl s).length := by omega
        refine ⟨s, Nat.lt_succ_self _, ?_, by omega⟩
        rw [getD_app, if_neg h5, Nat.sub_self]
        rfl
theorem merged_row (hv : checkE e = 0) {k : Nat} (hk : (k : Int) < cnt (classesE e)) : ∃ t, t < e.rows.length ∧ (mergeE e).rows.getD k [] = mrow e (classesE e) t ∧ (classesE e).getD t 0 = (k : Int) := by
  obtain ⟨h1, h2⟩ := classesE_ok hv
  have hm := merge_rows hv
  rw [mergeE_rows] at hm ⊢
  rw [← h1] at hm ⊢
  obtain ⟨t, k1, k2, k3⟩ := mrows_at (e := e) h2 _ (Nat.le_refl _) k (by omega)
  exact ⟨t, k1, k2, k3⟩
/-- a cell of the merged encoder. -/
theorem merged_cell (hv : checkE e = 0) {s i : Nat} (hs : s < e.rows.length) (hi : (i : Int) < e.inputs) :
    (cellAt (mergeE e) ((classesE e).getD s 0).toNat i).word = (cellAt e s i).word ∧ (cellAt (mergeE e) ((classesE e).getD s 0).toNat i).to = (classesE e).getD (cellAt e s i).to.toNat 0 := by
  have hc := cls_lt hv hs
  obtain ⟨t, ht, h1, h2⟩ := merged_row hv (k := ((classesE e).getD s 0).toNat) (by omega)
  have hst := classes_stable (checkE_valid hv).2.1
  have hsame := stable_same hst (s := t) (t := s) (i := i) ht hs (by omega) (by omega)
  have hrow := row_i hv ht hi
  unfold cellAt at hsame ⊢
  rw [h1, mrow_at hrow]
  exact hsame
/-- what is written from a class. -/
theorem merged_run (hv : checkE e = 0) : ∀ {l : List Int} {s : Int}, 0 ≤ s → s < (e.rows.length : Int) → (∀ i ∈ l, badI e i = false) →
    runE (mergeE e) ((classesE e).getD s.toNat 0) l = ((runE e s l).1, (classesE e).getD (runE e s l).2.toNat 0)
  | [], s, _, _, _ => rfl
  | i :: l, s, h0, h1, h2 => by
    have hi := bad_no.1 (h2 i (by simp))
    have hr := row_eq hv (k := s.toNat) (by omega)
    have hc := cell_to hv (s := s.toNat) (i := i.toNat) (by omega) (by omega)
    obtain ⟨k1, k2⟩ := merged_cell hv (s := s.toNat) (i := i.toNat) (by omega) (by omega)
    have ih := merged_run hv (l := l) hc.1 hc.2 (fun x hx => h2 x (by simp [hx]))
    simp only [runE]
    rw [k1, k2, ih]

/-- states of the merged encoder that cannot be told apart come from states that cannot. -/
theorem merged_fine (hv : checkE e = 0) : ∀ k {s t : Nat}, s < e.rows.length → t < e.rows.length → (classesAt (mergeE e) k).getD ((classesE e).getD s 0).toNat 0 = (classesAt (mergeE e) k).getD ((classesE e).getD t 0).toNat 0 →
    (classesAt e k).getD s 0 = (classesAt e k).getD t 0
  | 0, s, t, hs, ht, _ => by rw [zeros_at, zeros_at]
  | k + 1, s, t, hs, ht, h => by
    have hm := merge_rows hv
    have cs := cls_lt hv hs
    have ct := cls_lt hv ht
    rw [classesAt_eq (e := mergeE e) (by omega) (by omega)] at h
    rw [classesAt_eq hs ht]
    refine ⟨merged_fine hv k hs ht h.1, fun j hj => ?_⟩
    have hin : (mergeE e).inputs.toNat = e.inputs.toNat := by rw [mergeE_inputs]
    obtain ⟨h1, h2⟩ := h.2 j (by omega)
    obtain ⟨a1, a2⟩ := merged_cell hv hs (i := j) (by omega)
    obtain ⟨b1, b2⟩ := merged_cell hv ht (i := j) (by omega)
    rw [a1, b1] at h1
    rw [a2, b2] at h2
    have hrs := row_eq hv hs
    have hrt := row_eq hv ht
    have c1 := cell_to hv hs (i := j) (by omega)
    have c2 := cell_to hv ht (i := j) (by omega)
    exact ⟨h1, merged_fine hv k (by omega) (by omega) h2⟩
/-- a list numbered by first occurrence, all different: 0, 1, 2, .. -/
theorem RG_inj {l : List Int} (h : RG 0 l) (hi : ∀ s t, s < l.length → t < l.length → l.getD s 0 = l.getD t 0 → s = t) : ∀ k, k ≤ l.length → cntGo 0 (l.take k) = (k : Int) ∧ ∀ j, j < k → l.getD j 0 = (j : Int)
  | 0, _ => ⟨by simp [cntGo], fun j hj => absurd hj (Nat.not_lt_zero _)⟩
  | k + 1, hk => by
    obtain ⟨ih1, ih2⟩ := RG_inj h hi k (by omega)
    obtain ⟨h1, h2, h3⟩ := RG_at h (show k < l.length by omega)
    have h4 : l.getD k 0 = (k : Int) := by
      rcases Int.lt_or_eq_of_le h2 with h5 | h5
      · exfalso
        have h6 := ih2 (l.getD k 0).toNat (by omega)
        have h7 := hi (l.getD k 0).toNat k (by omega) (by omega) (by rw [h6]; omega)
        omega
      · omega
    refine ⟨by rw [h3, if_pos (by omega), ih1]; omega, fun j hj => ?_⟩
    rcases Nat.lt_succ_iff_lt_or_eq.1 hj with h5 | h5
    · exact ih2 j h5
    · rw [h5]; exact h4
theorem merged_classes (hv : checkE e = 0) : ∀ j, j < (mergeE e).rows.length → (classesE (mergeE e)).getD j 0 = (j : Int) := by
  have hvm := merge_valid hv
  obtain ⟨h1, h2⟩ := classesE_ok hvm
  have hm := merge_rows hv
  have hp := (checkE_valid hv).2.1
  have hpm := (checkE_valid hvm).2.1
  have hle := mrowsAt_len e (classesE e) e.rows.length
  rw [← mergeE_rows] at hle
  have hinj : ∀ a b, a < (classesE (mergeE e)).length → b < (classesE (mergeE e)).length → (classesE (mergeE e)).getD a 0 = (classesE (mergeE e)).getD b 0 → a = b := fun a b ha hb hab => by
    obtain ⟨s, hs, _, k1⟩ := merged_row hv (k := a) (by omega)
    obtain ⟨t, ht, _, k2⟩ := merged_row hv (k := b) (by omega)
    rw [← stable_fix hpm hle] at hab
    have := merged_fine hv e.rows.length hs ht (by rw [k1, k2]; simpa using hab)
    have hE : classesAt e e.rows.length = classesE e := rfl
    rw [hE, k1, k2] at this
    omega
  intro j hj
  exact (RG_inj h2 hinj _ (Nat.le_refl _)).2 j (by omega)
end
end Go.Proofs.Ytmjkbidnghcfnaa
