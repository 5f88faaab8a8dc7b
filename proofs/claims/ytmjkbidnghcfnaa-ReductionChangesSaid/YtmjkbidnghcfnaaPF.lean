/-
  Plain laws of this seat: which states are told apart, as the reference reckons it; classes by first states.
-/
import Derived.Test.YtmjkbidnghcfnaaPD
namespace Go.Proofs.Ytmjkbidnghcfnaa
set_option linter.unusedSimpArgs false
set_option linter.unusedVariables false
open Go Go.Lift

/-- whether some list of up to k inputs tells a state of a and one of b apart. -/
def apB (a b : Enc) : Nat → Nat → Nat → Bool
  | 0, _, _ => false
  | k + 1, s, t => (List.range a.inputs.toNat).any fun i => decide ((cellAt a s i).word ≠ (cellAt b t i).word) || apB a b k (cellAt a s i).to.toNat (cellAt b t i).to.toNat
theorem apB_mono {a b : Enc} : ∀ k s t, apB a b k s t = true → apB a b (k + 1) s t = true
  | 0, s, t, h => by cases h
  | k + 1, s, t, h => by
    unfold apB at h ⊢
    rw [List.any_eq_true] at h ⊢
    obtain ⟨i, hi, hc⟩ := h
    refine ⟨i, hi, ?_⟩
    rw [Bool.or_eq_true] at hc ⊢
    exact hc.imp id (apB_mono k _ _)
theorem apB_no {a b : Enc} {k s t : Nat} : apB a b (k + 1) s t = false ↔ ∀ i, i < a.inputs.toNat → (cellAt a s i).word = (cellAt b t i).word ∧ apB a b k (cellAt a s i).to.toNat (cellAt b t i).to.toNat = false := by
  show ((List.range a.inputs.toNat).any _) = false ↔ _
  rw [List.any_eq_false]
  constructor
  · intro h i hi
    have := h i (by simpa using hi)
    simpa using this
  · intro h i hi
    have := h i (by simpa using hi)
    simp [this]
/-- equal behind a part of a round: equal ahead of it, and for each input gone through. -/
theorem part_same {e : Enc} {cl : List Int} {s t : Nat} (hs : s < e.rows.length) (ht : t < e.rows.length) : ∀ i, (partE e cl i).getD s 0 = (partE e cl i).getD t 0 ↔ cl.getD s 0 = cl.getD t 0 ∧ ∀ j, j < i → (cellAt e s j).word = (cellAt e t j).word ∧ cl.getD (cellAt e s j).to.toNat 0 = cl.getD (cellAt e t j).to.toNat 0
  | 0 => by simp [partE]
  | i + 1 => by
    rw [partE_succ]
    unfold stepE
    rw [numL_inj (d := ⟨0, [], 0⟩) (by simpa using hs) (by simpa using ht), keysE_at hs, keysE_at ht]
    simp only [Finer.mk.injEq]
    rw [part_same hs ht i]
    constructor
    · rintro ⟨⟨h1, h2⟩, h3, h4⟩
      exact ⟨h1, fun j hj => by
        by_cases e : j = i
        · subst e; exact ⟨h3, h4⟩
        · exact h2 j (by omega)⟩
    · rintro ⟨h1, h2⟩
      exact ⟨⟨h1, fun j hj => h2 j (by omega)⟩, h2 i (by omega)⟩
theorem cell_lt {e : Enc} (hv : checkE e = 0) {s i : Nat} (hs : s < e.rows.length) (hi : i < e.inputs.toNat) : (cellAt e s i).to.toNat < e.rows.length := by
  have h1 := row_i hv hs (i := i) (by omega)
  have := cell_to hv hs h1
  omega
/-- the classes after k rounds part what k inputs tell apart. -/
theorem classes_apart {e : Enc} (hv : checkE e = 0) : ∀ k s t, s < e.rows.length → t < e.rows.length → ((classesAt e k).getD s 0 = (classesAt e k).getD t 0 ↔ apB e e k s t = false)
  | 0, s, t, hs, ht => by rw [zeros_at, zeros_at]; simp [apB]
  | k + 1, s, t, hs, ht => by
    have e1 : classesAt e (k + 1) = partE e (classesAt e k) e.inputs.toNat := (partE_all rfl).symm
    rw [e1, part_same hs ht, classes_apart hv k s t hs ht, apB_no]
    constructor
    · rintro ⟨_, h⟩ i hi
      exact ⟨(h i hi).1, (classes_apart hv k _ _ (cell_lt hv hs hi) (cell_lt hv ht hi)).1 (h i hi).2⟩
    · intro h
      refine ⟨?_, fun i hi => ⟨(h i hi).1, (classes_apart hv k _ _ (cell_lt hv hs hi) (cell_lt hv ht hi)).2 (h i hi).2⟩⟩
      cases hk : apB e e k s t with
      | false => rfl
      | true =>
        have := apB_mono k s t hk
        rw [apB_no.2 h] at this
        cases this
theorem classes_late {e : Enc} (hv : checkE e = 0) (j : Nat) : classesAt e (e.rows.length + j) = classesE e := by
  have h0 := (checkE_valid hv).2.1
  have hst := classes_stable h0
  refine iter_fix (k := e.rows.length) ?_ j
  show roundE e (classesE e) = classesE e
  have : ∀ i, i ≤ e.inputs.toNat → partE e (classesE e) i = classesE e := fun i => by
    induction i with
    | zero => intro _; rfl
    | succ i ih => intro h; rw [partE_succ, ih (by omega)]; exact hst.step i (by omega)
  exact this _ (Nat.le_refl _)
/-- the classes are those of the states that no list of inputs tells apart. -/
theorem classes_same {e : Enc} (hv : checkE e = 0) {s t : Nat} (hs : s < e.rows.length) (ht : t < e.rows.length) : (classesE e).getD s 0 = (classesE e).getD t 0 ↔ apB e e (e.rows.length + e.rows.length) s t = false := by
  rw [← classes_late hv e.rows.length]
  exact classes_apart hv _ s t hs ht
theorem getD_get {α : Type} {l : List α} {d : α} {k : Nat} (h : k < l.length) : l.getD k d = l[k] := by simp [List.getD, h]
theorem take_getD {l : List Int} {s t : Nat} (h : t < s) : (l.take s).getD t 0 = l.getD t 0 := by
  simp [List.getD, List.getElem?_take, h]
/-- a class that came before is found; another one is the next number. -/
theorem RG_old {l : List Int} (h : RG 0 l) {s t : Nat} (hs : s < l.length) (ht : t < s) (he : l.getD t 0 = l.getD s 0) : cntGo 0 (l.take (s + 1)) = cntGo 0 (l.take s) := by
  have h1 := (RG_at h hs)
  have h2 := RG_lt _ 0 (RG_take h s) ((l.take s).getD t 0) (getD_mem (by rw [List.length_take]; omega))
  rw [take_getD ht, he] at h2
  rw [h1.2.2, if_neg (by omega)]
theorem RG_new {l : List Int} (h : RG 0 l) {s : Nat} (hs : s < l.length) (hn : ∀ t, t < s → l.getD t 0 ≠ l.getD s 0) : l.getD s 0 = cntGo 0 (l.take s) ∧ cntGo 0 (l.take (s + 1)) = cntGo 0 (l.take s) + 1 := by
  have h1 := RG_at h hs
  have he : l.getD s 0 = cntGo 0 (l.take s) := by
    rcases Int.lt_or_eq_of_le h1.2.1 with h2 | h2
    · exfalso
      have hm := cntGo_occ _ 0 (RG_take h s) (l.getD s 0) h1.1 h2
      obtain ⟨t, ht, e⟩ := List.mem_iff_getElem.1 hm
      have ht' : t < s := by simp only [List.length_take] at ht; omega
      refine hn t ht' ?_
      rw [← take_getD ht', getD_get ht]; exact e
    · exact h2
  exact ⟨he, by rw [h1.2.2, if_pos he]⟩
end Go.Proofs.Ytmjkbidnghcfnaa
