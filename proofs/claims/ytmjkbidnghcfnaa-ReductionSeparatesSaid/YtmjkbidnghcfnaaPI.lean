/-
  Plain laws of this seat: digits as the reference looks for them.
-/
import Derived.Test.YtmjkbidnghcfnaaPH
namespace Go.Proofs.Ytmjkbidnghcfnaa
set_option linter.unusedSimpArgs false
set_option linter.unusedVariables false
open Go Go.Lift

theorem idxB_none (l : List UInt8) (n : UInt8) (h : ∀ j, j < l.length → l.getD j 0 ≠ n) : idxB l n = -1 := by
  unfold idxB
  have : l.idxOf? n = none := by
    rw [List.idxOf?_eq_none_iff]
    intro hm
    obtain ⟨j, hj, he⟩ := List.mem_iff_getElem.1 hm
    exact h j hj (by simp [List.getD, hj, he])
  rw [this]
theorem idxB_some (l : List UInt8) (n : UInt8) (k : Nat) (hk : k < l.length) (h : ∀ j, j < k → l.getD j 0 ≠ n) (he : l.getD k 0 = n) : idxB l n = k := by
  unfold idxB
  have : l.idxOf? n = some k := by
    rw [List.idxOf?, List.findIdx?_eq_some_iff_getElem]
    refine ⟨hk, by simpa [List.getD, hk] using he, fun j hj => ?_⟩
    have := h j hj
    have hj' : j < l.length := by omega
    simpa [List.getD, hj'] using this
  rw [this]
theorem first_at : ∀ (l : List UInt8) (n : UInt8), n ∈ l → ∃ k, k < l.length ∧ (∀ j, j < k → l.getD j 0 ≠ n) ∧ l.getD k 0 = n
  | x :: l, n, h => by
    by_cases e : x = n
    · exact ⟨0, by simp, fun j hj => absurd hj (Nat.not_lt_zero _), by simpa using e⟩
    · obtain ⟨k, h1, h2, h3⟩ := first_at l n ((List.mem_cons.1 h).resolve_left (Ne.symm e))
      refine ⟨k + 1, by simp; omega, fun j hj => ?_, by simpa using h3⟩
      cases j with
      | zero => simpa using e
      | succ j => simpa using h2 j (by omega)
theorem idxB_ge {l : List UInt8} {n : UInt8} : 0 ≤ idxB l n ↔ n ∈ l := by
  constructor
  · intro h
    by_cases hm : n ∈ l
    · exact hm
    · rw [idxB_none l n fun j hj e => hm (by rw [← e]; exact getD_mem hj)] at h; omega
  · intro hm
    obtain ⟨k, h1, h2, h3⟩ := first_at l n hm
    rw [idxB_some l n k h1 h2 h3]; omega
theorem take_getDB {l : List UInt8} {s t : Nat} (h : t < s) : (l.take s).getD t 0 = l.getD t 0 := by
  simp [List.getD, List.getElem?_take, h]
/-- a digit below q is one of the first q letters. -/
theorem idxB_take {l : List UInt8} {n : UInt8} {q : Nat} : 0 ≤ idxB (l.take q) n ↔ 0 ≤ idxB l n ∧ idxB l n < (q : Int) := by
  constructor
  · intro h
    obtain ⟨k, h1, h2, h3⟩ := first_at _ n (idxB_ge.1 h)
    rw [List.length_take] at h1
    have h4 := idxB_some l n k (by omega) (fun j hj => by rw [← take_getDB (s := q) (by omega)]; exact h2 j hj) (by rw [← take_getDB (s := q) (by omega)]; exact h3)
    rw [h4]; omega
  · rintro ⟨h, hq⟩
    obtain ⟨k, h1, h2, h3⟩ := first_at l n (idxB_ge.1 h)
    have h4 := idxB_some l n k h1 h2 h3
    rw [h4] at hq
    rw [idxB_ge]
    have : (l.take q).getD k 0 = n := by rw [take_getDB (by omega)]; exact h3
    rw [← this]
    exact getD_mem (by rw [List.length_take]; omega)
theorem digit_step {n : UInt8} {k : Nat} (h : ∀ j, j < k → letters.getD j 0 ≠ n) (hk : ¬ (letters.getD k 0).toNat = n.toNat) : ∀ j, j < k + 1 → letters.getD j 0 ≠ n := fun j hj => by
  rcases Nat.lt_succ_iff_lt_or_eq.1 hj with h1 | h1
  · exact h j h1
  · rw [h1]; exact fun e => hk (by rw [e])
theorem word_step {q : Int} {w : List UInt8} {k : Nat} (hn : ∀ j, j < k → 0 ≤ idxB (letters.take q.toNat) (w.getD j 0)) (h : 0 ≤ idxB letters (w.getD k 0)) (h2 : idxB letters (w.getD k 0) < q) : ∀ j, j < k + 1 → 0 ≤ idxB (letters.take q.toNat) (w.getD j 0) := fun j hj => by
  rcases Nat.lt_succ_iff_lt_or_eq.1 hj with h1 | h1
  · exact hn j h1
  · rw [h1]; exact idxB_take.2 ⟨h, by omega⟩
theorem word_bad {q : Int} {w : List UInt8} {k : Nat} (hq : 1 ≤ q ∧ q ≤ 16) (h : ¬ (0 ≤ idxB letters (w.getD k 0) ∧ idxB letters (w.getD k 0) < q)) : idxB (letters.take q.toNat) (w.getD k 0) < 0 := by
  apply Classical.byContradiction
  intro hc
  have := idxB_take.1 (Int.not_lt.1 hc)
  exact h ⟨this.1, by omega⟩
theorem wAt_le {e : Enc} (hv : checkE e = 0) {s i : Nat} (hs : s ≤ e.rows.length) (hi : i ≤ e.inputs.toNat) : (wAt e s i).length ≤ 20000 := by
  have hin := (checkE_valid hv).1.inputs
  have hl := rows_len hv
  have h := wAt_len (e := e) (n := e.inputs.toNat) (fun r hr => by
    have := (rowCheck_valid ((checkE_valid hv).2.2.2 r hr)).1
    omega) (s := s) (i := i) hs
  have h2 : s * e.inputs.toNat ≤ 64 * 256 := Nat.mul_le_mul (by omega) (by omega)
  omega
end Go.Proofs.Ytmjkbidnghcfnaa
