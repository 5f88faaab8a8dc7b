/-
  Plain: words, blocks and their numbers.
-/
import Derived.Test.YtfoeigajlkonpaaDoorPQ
namespace Go.Proofs.YtfoeigajlkonpaaDoor
set_option linter.unusedSimpArgs false
set_option linter.unusedVariables false
open Go Go.Lift

def letters : List UInt8 := [48, 49, 50, 51, 52, 53, 54, 55, 56, 57, 97, 98, 99, 100, 101, 102]
/-- why a word is none over q letters. -/
def wordCheck (q : Int) (w : List UInt8) : Int :=
  if q < 1 ∨ 16 < q then 12 else if 65536 < w.length then 4 else if ∀ c ∈ w, 0 ≤ idxB (letters.take q.toNat) c then 0 else 13
theorem wordCheck_bad {q : Int} {w : List UInt8} (h : ¬ (1 ≤ q ∧ q ≤ 16)) : wordCheck q w = 12 := by
  unfold wordCheck; rw [if_pos (by omega)]
theorem wordCheck_long {q : Int} {w : List UInt8} (h : 1 ≤ q ∧ q ≤ 16) (hl : 65536 < w.length) : wordCheck q w = 4 := by
  unfold wordCheck; rw [if_neg (by omega), if_pos hl]
theorem wordCheck_not {q : Int} {w : List UInt8} {k : Nat} (h : 1 ≤ q ∧ q ≤ 16) (hl : w.length ≤ 65536) (hk : k < w.length) (hb : idxB (letters.take q.toNat) (w.getD k 0) < 0) : wordCheck q w = 13 := by
  unfold wordCheck
  rw [if_neg (by omega), if_neg (by omega), if_neg]
  intro hh
  have := hh _ (getD_mem (d := 0) hk)
  omega
theorem wordCheck_ok {q : Int} {w : List UInt8} (h : 1 ≤ q ∧ q ≤ 16) (hl : w.length ≤ 65536) (hb : ∀ k, k < w.length → 0 ≤ idxB (letters.take q.toNat) (w.getD k 0)) : wordCheck q w = 0 := by
  unfold wordCheck
  rw [if_neg (by omega), if_neg (by omega), if_pos]
  intro c hc
  obtain ⟨j, hj, he⟩ := List.mem_iff_getElem.1 hc
  have := hb j hj
  simpa [List.getD, hj, he] using this

theorem idxB_none (l : List UInt8) (n : UInt8) (h : ∀ j, j < l.length → l.getD j 0 ≠ n) : idxB l n = -1 := by
  unfold idxB
  have : l.idxOf? n = none := by
    rw [List.idxOf?_eq_none_iff]
    intro hm
    obtain ⟨j, hj, he⟩ := List.mem_iff_getElem.1 hm
    exact h j hj (by simp [List.getD, hj, he])
  rw [this]
theorem idxB_some (l : List UInt8) (n : UInt8) (k : Nat) (hk : k < l.length) (h : ∀ j, j < k → l.getD j 0 ≠ n) (he : l.getD k 0 = n) : idxB l n = k := by
  unfold idxB
  have : l.idxOf? n = some k := by
    rw [List.idxOf?, List.findIdx?_eq_some_iff_getElem]
    refine ⟨hk, by simpa [List.getD, hk] using he, fun j hj => ?_⟩
    have := h j hj
    have hj' : j < l.length := by omega
    simpa [List.getD, hj'] using this
  rw [this]
theorem first_at : ∀ (l : List UInt8) (n : UInt8), n ∈ l → ∃ k, k < l.length ∧ (∀ j, j < k → l.getD j 0 ≠ n) ∧ l.getD k 0 = n
  | x :: l, n, h => by
    by_cases e : x = n
    · exact ⟨0, by simp, fun j hj => absurd hj (Nat.not_lt_zero _), by simpa using e⟩
    · obtain ⟨k, h1, h2, h3⟩ := first_at l n ((List.mem_cons.1 h).resolve_left (Ne.symm e))
      refine ⟨k + 1, by simp; omega, fun j hj => ?_, by simpa using h3⟩
      cases j with
      | zero => simpa using e
      | succ j => simpa using h2 j (by omega)
theorem idxB_ge {l : List UInt8} {n : UInt8} : 0 ≤ idxB l n ↔ n ∈ l := by
  constructor
  · intro h
    by_cases hm : n ∈ l
    · exact hm
    · rw [idxB_none l n fun j hj e => hm (by rw [← e]; exact getD_mem hj)] at h; omega
  · intro hm
    obtain ⟨k, h1, h2, h3⟩ := first_at l n hm
    rw [idxB_some l n k h1 h2 h3]; omega
theorem take_getDB {l : List UInt8} {s t : Nat} (h : t < s) : (l.take s).getD t 0 = l.getD t 0 := by
  simp [List.getD, List.getElem?_take, h]
/-- a digit below q is one of the first q letters. -/
theorem idxB_take {l : List UInt8} {n : UInt8} {q : Nat} : 0 ≤ idxB (l.take q) n ↔ 0 ≤ idxB l n ∧ idxB l n < (q : Int) := by
  constructor
  · intro h
    obtain ⟨k, h1, h2, h3⟩ := first_at _ n (idxB_ge.1 h)
    rw [List.length_take] at h1
    have h4 := idxB_some l n k (by omega) (fun j hj => by rw [← take_getDB (s := q) (by omega)]; exact h2 j hj) (by rw [← take_getDB (s := q) (by omega)]; exact h3)
    rw [h4]; omega
  · rintro ⟨h, hq⟩
    obtain ⟨k, h1, h2, h3⟩ := first_at l n (idxB_ge.1 h)
    have h4 := idxB_some l n k h1 h2 h3
    rw [h4] at hq
    rw [idxB_ge]
    have : (l.take q).getD k 0 = n := by rw [take_getDB (by omega)]; exact h3
    rw [← this]
    exact getD_mem (by rw [List.length_take]; omega)
theorem digit_step {n : UInt8} {k : Nat} (h : ∀ j, j < k → letters.getD j 0 ≠ n) (hk : ¬ (letters.getD k 0).toNat = n.toNat) : ∀ j, j < k + 1 → letters.getD j 0 ≠ n := fun j hj => by
  rcases Nat.lt_succ_iff_lt_or_eq.1 hj with h1 | h1
  · exact h j h1
  · rw [h1]; exact fun e => hk (by rw [e])
theorem word_step {q : Int} {w : List UInt8} {k : Nat} (hn : ∀ j, j < k → 0 ≤ idxB (letters.take q.toNat) (w.getD j 0)) (h : 0 ≤ idxB letters (w.getD k 0)) (h2 : idxB letters (w.getD k 0) < q) : ∀ j, j < k + 1 → 0 ≤ idxB (letters.take q.toNat) (w.getD j 0) := fun j hj => by
  rcases Nat.lt_succ_iff_lt_or_eq.1 hj with h1 | h1
  · exact hn j h1
  · rw [h1]; exact idxB_take.2 ⟨h, by omega⟩
theorem word_bad {q : Int} {w : List UInt8} {k : Nat} (hq : 1 ≤ q ∧ q ≤ 16) (h : ¬ (0 ≤ idxB letters (w.getD k 0) ∧ idxB letters (w.getD k 0) < q)) : idxB (letters.take q.toNat) (w.getD k 0) < 0 := by
  apply Classical.byContradiction
  intro hc
  have := idxB_take.1 (Int.not_lt.1 hc)
  exact h ⟨this.1, by omega⟩

theorem getD_get {α : Type} {l : List α} {k : Nat} {d : α} (h : k < l.length) : l.getD k d = l[k] := by simp [List.getD, h]
/-- the letter of a digit, the block of a number. -/
def ltr (d : Int) : UInt8 := letters.getD d.toNat 0
def blockL (q : Int) (n : Nat) (l : Int) : List UInt8 := (List.range n).map fun j => ltr (l / q ^ (n - 1 - j) % q)
@[simp] theorem blockL_len {q : Int} {n : Nat} {l : Int} : (blockL q n l).length = n := by simp [blockL]
theorem blockL_at {q : Int} {n j : Nat} {l : Int} (h : j < n) : (blockL q n l).getD j 0 = ltr (l / q ^ (n - 1 - j) % q) := by
  rw [getD_get (by simpa using h)]; simp [blockL]
theorem blockL_succ {q : Int} {n : Nat} {l : Int} : blockL q (n + 1) l = ltr (l / q ^ n % q) :: blockL q n l := by
  unfold blockL
  rw [List.range_succ_eq_map, List.map_cons, List.map_map]
  simp only [Nat.add_sub_cancel, Nat.sub_zero]
  congr 1
  apply List.map_congr_left
  intro j hj
  show ltr (l / q ^ (n - (j + 1)) % q) = _
  rw [show n - (j + 1) = n - 1 - j by omega]
/-- the model's bytes after i letters. -/
def bwAt (q : Int) (n : Nat) (l : Int) (i j : Nat) : Nat := if n - i ≤ j then (ltr (l / q ^ (n - 1 - j) % q)).toNat else 0
def blockN (q n l : Int) : Int := if q < 1 ∨ 16 < q then 12 else if n < 0 ∨ 16 < n ∨ l < 0 then 2 else if 0 < l / q ^ n.toNat then 2 else 0
def blockX (q n l : Int) : List UInt8 := if blockN q n l = 0 then blockL q n.toNat l else []
theorem div_step {q l : Int} {i : Nat} (hq : 1 ≤ q) (h0 : 0 ≤ l) : l / q ^ i / q = l / q ^ (i + 1) := by
  rw [Int.pow_succ, Int.ediv_ediv_of_nonneg (Int.le_of_lt (Int.pow_pos (by omega)))]
theorem div_box {q l : Int} {i : Nat} (hq : 1 ≤ q) (h0 : 0 ≤ l) : 0 ≤ l / q ^ i ∧ l / q ^ i ≤ l := by
  have hp : (0 : Int) < q ^ i := Int.pow_pos (by omega)
  exact ⟨Int.ediv_nonneg h0 (by omega), Int.ediv_le_self _ h0⟩
theorem block_ok {q n l : Int} (h : blockN q n l = 0) : blockX q n l = blockL q n.toNat l := if_pos h
theorem block_no {q n l m : Int} (h : blockN q n l = m) (hm : m ≠ 0) : blockX q n l = [] := if_neg (by rw [h]; exact hm)
theorem ltr_slice {d : Int} (h0 : 0 ≤ d) (h : d < 16) : (letters.take (d + 1).toNat).drop d.toNat = [ltr d] := by
  obtain ⟨k, rfl⟩ : ∃ k : Nat, d = k := ⟨d.toNat, by omega⟩
  have : k < letters.length := by show k < 16; omega
  unfold ltr
  rw [Int.toNat_natCast, show ((k : Int) + 1).toNat = k + 1 by omega, getD_get this, List.take_succ_eq_append_getElem this, List.drop_append_of_le_length (by rw [List.length_take]; omega)]
  simp

/-- the number of a word. -/
def valW (q : Int) (w : List UInt8) : Int := w.foldl (fun a c => a * q + idxB letters c) 0
theorem valW_step {q : Int} {w : List UInt8} {k : Nat} (h : k < w.length) : valW q (w.take (k + 1)) = valW q (w.take k) * q + idxB letters (w.getD k 0) := by
  unfold valW
  rw [List.take_succ_eq_append_getElem h, List.foldl_append, getD_get h]; rfl
@[simp] theorem valW_zero {q : Int} : valW q [] = 0 := rfl
def Dig (q : Int) (w : List UInt8) : Prop := ∀ k, k < w.length → 0 ≤ idxB letters (w.getD k 0) ∧ idxB letters (w.getD k 0) < q
theorem word_dig {q : Int} {w : List UInt8} (h : wordCheck q w = 0) : (1 ≤ q ∧ q ≤ 16) ∧ Dig q w := by
  unfold wordCheck at h
  split at h
  · cases h
  · split at h
    · cases h
    · split at h
      · rename_i h1 h2 h3
        refine ⟨by omega, fun k hk => ?_⟩
        have := idxB_take.1 (h3 _ (getD_mem (d := 0) hk))
        exact ⟨this.1, by omega⟩
      · cases h
theorem valW_lt {q : Int} {w : List UInt8} (hq : 1 ≤ q) (h : Dig q w) : ∀ {k : Nat}, k ≤ w.length → 0 ≤ valW q (w.take k) ∧ valW q (w.take k) < q ^ k
  | 0, _ => by simp
  | k + 1, hk => by
    obtain ⟨h1, h2⟩ := valW_lt hq h (k := k) (by omega)
    obtain ⟨h3, h4⟩ := h k (by omega)
    rw [valW_step (by omega), Int.pow_succ]
    have h5 : 0 ≤ valW q (w.take k) * q := Int.mul_nonneg h1 (by omega)
    have h6 : (valW q (w.take k) + 1) * q ≤ q ^ k * q := Int.mul_le_mul_of_nonneg_right (by omega) (by omega)
    rw [Int.add_mul, Int.one_mul] at h6
    omega
def labelN (q : Int) (w : List UInt8) : Int := if wordCheck q w ≠ 0 then wordCheck q w else if 16 < w.length then 2 else if 256 < upTo q w.length then 4 else 0
def labelX (q : Int) (w : List UInt8) : Int := if labelN q w = 0 then valW q w else 0
theorem label_ok {q : Int} {w : List UInt8} (h : labelN q w = 0) : labelX q w = valW q w := if_pos h
theorem label_no {q : Int} {w : List UInt8} {m : Int} (h : labelN q w = m) (hm : m ≠ 0) : labelX q w = 0 := if_neg (by rw [h]; exact hm)
end Go.Proofs.YtfoeigajlkonpaaDoor
