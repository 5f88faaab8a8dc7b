/-
  Plain laws of this seat: what makes an encoder valid.
-/
import Derived.Test.YtmjkbidnghcfnaaEN
import Derived.Test.YtmjkbidnghcfnaaLZ
import Derived.Test.YtmjkbidnghcfnaaPA
namespace Go.Proofs.Ytmjkbidnghcfnaa
set_option linter.unusedSimpArgs false
set_option linter.unusedVariables false
open Go Go.Lift

def letters : List UInt8 := [48, 49, 50, 51, 52, 53, 54, 55, 56, 57, 97, 98, 99, 100, 101, 102]
/-- why a word is none over q letters. -/
def wordCheck (q : Int) (w : List UInt8) : Int :=
  if q < 1 ∨ 16 < q then 12 else if 65536 < w.length then 4 else if ∀ c ∈ w, 0 ≤ idxB (letters.take q.toNat) c then 0 else 13
theorem wordCheck_bad {q : Int} {w : List UInt8} (h : ¬ (1 ≤ q ∧ q ≤ 16)) : wordCheck q w = 12 := by
  unfold wordCheck; rw [if_pos (by omega)]
theorem wordCheck_long {q : Int} {w : List UInt8} (h : 1 ≤ q ∧ q ≤ 16) (hl : 65536 < w.length) : wordCheck q w = 4 := by
  unfold wordCheck; rw [if_neg (by omega), if_pos hl]
theorem wordCheck_not {q : Int} {w : List UInt8} {k : Nat} (h : 1 ≤ q ∧ q ≤ 16) (hl : w.length ≤ 65536) (hk : k < w.length) (hb : idxB (letters.take q.toNat) (w.getD k 0) < 0) : wordCheck q w = 13 := by
  unfold wordCheck
  rw [if_neg (by omega), if_neg (by omega), if_neg]
  intro hh
  have := hh _ (getD_mem (d := 0) hk)
  omega
theorem wordCheck_ok {q : Int} {w : List UInt8} (h : 1 ≤ q ∧ q ≤ 16) (hl : w.length ≤ 65536) (hb : ∀ k, k < w.length → 0 ≤ idxB (letters.take q.toNat) (w.getD k 0)) : wordCheck q w = 0 := by
  unfold wordCheck
  rw [if_neg (by omega), if_neg (by omega), if_pos]
  intro c hc
  obtain ⟨j, hj, he⟩ := List.mem_iff_getElem.1 hc
  have := hb j hj
  simpa [List.getD, hj, he] using this

/-- the first number that is not 0. -/
def firstNZ {α : Type} (f : α → Int) : List α → Int
  | [] => 0
  | x :: r => if f x = 0 then firstNZ f r else f x
theorem firstNZ_hit {α : Type} {f : α → Int} {d : α} : ∀ {l : List α} {k : Nat}, (∀ j, j < k → f (l.getD j d) = 0) → k < l.length → f (l.getD k d) ≠ 0 → firstNZ f l = f (l.getD k d)
  | [], k, _, hk, _ => absurd hk (Nat.not_lt_zero _)
  | x :: r, 0, _, _, h => by simp only [List.getD_cons_zero] at h ⊢; simp [firstNZ, h]
  | x :: r, k + 1, h0, hk, h => by
    have hx := h0 0 (Nat.succ_pos _)
    simp only [List.getD_cons_zero] at hx
    simp only [List.getD_cons_succ] at h ⊢
    simp only [firstNZ, hx, if_true]
    exact firstNZ_hit (fun j hj => by simpa using h0 (j + 1) (by omega)) (by simpa using hk) h
theorem firstNZ_zero {α : Type} {f : α → Int} {d : α} : ∀ {l : List α}, (∀ j, j < l.length → f (l.getD j d) = 0) → firstNZ f l = 0
  | [], _ => rfl
  | x :: r, h => by
    have hx := h 0 (Nat.succ_pos _)
    simp only [List.getD_cons_zero] at hx
    simp only [firstNZ, hx, if_true]
    exact firstNZ_zero (fun j hj => by simpa using h (j + 1) (by simpa using hj))
theorem firstNZ_all {α : Type} {f : α → Int} : ∀ {l : List α}, firstNZ f l = 0 → ∀ x ∈ l, f x = 0
  | [], _, x, hx => by cases hx
  | y :: r, h, x, hx => by
    by_cases hy : f y = 0
    · simp only [firstNZ, hy, if_true] at h
      cases hx with
      | head => exact hy
      | tail _ hx => exact firstNZ_all h x hx
    · simp only [firstNZ, hy, if_false] at h

def cellCheck (e : Enc) (c : Cell) : Int := if c.to < 0 ∨ (e.rows.length : Int) ≤ c.to then 25 else if (c.word.length : Int) ≠ e.block ∨ wordCheck e.letters c.word ≠ 0 then 13 else 0
def rowCheck (e : Enc) (r : List Cell) : Int := if (r.length : Int) ≠ e.inputs then 11 else firstNZ (cellCheck e) r
/-- why an encoder is not valid. -/
def checkE (e : Enc) : Int :=
  if e.letters < 1 ∨ 16 < e.letters then 12 else if (e.block < 1 ∨ 16 < e.block) ∨ e.inputs < 1 ∨ 256 < e.inputs then 2 else if e.rows.length = 0 then 5 else if 64 < e.rows.length then 4 else firstNZ (rowCheck e) e.rows
section
variable {e : Enc}
theorem checkE_letters (h : ¬ (1 ≤ e.letters ∧ e.letters ≤ 16)) : checkE e = 12 := by unfold checkE; rw [if_pos (by omega)]
theorem checkE_range (h : 1 ≤ e.letters ∧ e.letters ≤ 16) (h2 : ¬ (1 ≤ e.block ∧ e.block ≤ 16 ∧ 1 ≤ e.inputs ∧ e.inputs ≤ 256)) : checkE e = 2 := by unfold checkE; rw [if_neg (by omega), if_pos (by omega)]
structure Dims (e : Enc) : Prop where
  letters : 1 ≤ e.letters ∧ e.letters ≤ 16
  block : 1 ≤ e.block ∧ e.block ≤ 16
  inputs : 1 ≤ e.inputs ∧ e.inputs ≤ 256
theorem checkE_empty (h : Dims e) (h2 : e.rows.length = 0) : checkE e = 5 := by
  obtain ⟨h1, h3, h4⟩ := h
  unfold checkE; rw [if_neg (by omega), if_neg (by omega), if_pos h2]
theorem checkE_limit (h : Dims e) (h2 : 64 < e.rows.length) : checkE e = 4 := by
  obtain ⟨h1, h3, h4⟩ := h
  unfold checkE; rw [if_neg (by omega), if_neg (by omega), if_neg (by omega), if_pos h2]
theorem checkE_rows (h : Dims e) (h2 : 0 < e.rows.length) (h5 : e.rows.length ≤ 64) : checkE e = firstNZ (rowCheck e) e.rows := by
  obtain ⟨h1, h3, h4⟩ := h
  unfold checkE; rw [if_neg (by omega), if_neg (by omega), if_neg (by omega), if_neg (by omega)]
theorem checkE_row (h : Dims e) (h2 : 0 < e.rows.length) (h5 : e.rows.length ≤ 64) {k : Nat} (hk : k < e.rows.length) (h0 : ∀ j, j < k → rowCheck e (e.rows.getD j []) = 0) {n : Int} (hn : rowCheck e (e.rows.getD k []) = n) (hne : n ≠ 0) : checkE e = n := by
  rw [checkE_rows h h2 h5, ← hn]
  exact firstNZ_hit h0 hk (by rw [hn]; exact hne)
theorem rowCheck_len {r : List Cell} (h : ¬ (r.length : Int) = e.inputs) : rowCheck e r = 11 := by unfold rowCheck; rw [if_pos h]
theorem rowCheck_cell {r : List Cell} (h : (r.length : Int) = e.inputs) {k : Nat} (hk : k < r.length) (h0 : ∀ j, j < k → cellCheck e (r.getD j dc) = 0) {n : Int} (hn : cellCheck e (r.getD k dc) = n) (hne : n ≠ 0) : rowCheck e r = n := by
  unfold rowCheck
  rw [if_neg (by omega), ← hn]
  exact firstNZ_hit h0 hk (by rw [hn]; exact hne)
theorem rowCheck_ok {r : List Cell} (h : (r.length : Int) = e.inputs) (h0 : ∀ j, j < r.length → cellCheck e (r.getD j dc) = 0) : rowCheck e r = 0 := by
  unfold rowCheck
  rw [if_neg (by omega)]
  exact firstNZ_zero h0
theorem cellCheck_to {c : Cell} (h : c.to < 0 ∨ (e.rows.length : Int) ≤ c.to) : cellCheck e c = 25 := by unfold cellCheck; rw [if_pos h]
theorem cellCheck_word {c : Cell} (h : 0 ≤ c.to ∧ c.to < (e.rows.length : Int)) (h2 : ¬ (c.word.length : Int) = e.block ∨ ¬ wordCheck e.letters c.word = 0) : cellCheck e c = 13 := by unfold cellCheck; rw [if_neg (by omega), if_pos h2]
theorem cellCheck_ok {c : Cell} (h : 0 ≤ c.to ∧ c.to < (e.rows.length : Int)) (h2 : (c.word.length : Int) = e.block ∧ wordCheck e.letters c.word = 0) : cellCheck e c = 0 := by
  unfold cellCheck; rw [if_neg (by omega), if_neg]
  rintro (h3 | h3)
  · exact h3 h2.1
  · exact h3 h2.2
end

def maxL : List Int → Int
  | [] => 0
  | x :: r => r.foldl max x
theorem maxL_succ {l : List Int} {k : Nat} (h0 : 0 < k) (hk : k < l.length) : max (maxL (l.take k)) (l.getD k 0) = maxL (l.take (k + 1)) := by
  cases l with
  | nil => simp at hk
  | cons x r =>
    obtain ⟨k, rfl⟩ : ∃ j, k = j + 1 := ⟨k - 1, by omega⟩
    simp only [List.take_succ_cons, maxL, List.getD_cons_succ]
    rw [foldl_take_succ (d := 0) max x r k (by simpa using hk)]
theorem maxL_one {l : List Int} (h : 0 < l.length) : maxL (l.take 1) = l.getD 0 0 := by
  cases l with
  | nil => simp at h
  | cons x r => simp [maxL]

/-- the words of cells, into a map. -/
def putWords (m : List (List UInt8 × Bool)) (l : List Cell) : List (List UInt8 × Bool) := l.foldl (fun m c => alPut m c.word true) m
def putRows (m : List (List UInt8 × Bool)) (l : List (List Cell)) : List (List UInt8 × Bool) := l.foldl putWords m
theorem putWords_succ {m : List (List UInt8 × Bool)} {l : List Cell} {i : Nat} (h : i < l.length) : putWords m (l.take (i + 1)) = alPut (putWords m (l.take i)) (l.getD i dc).word true := foldl_take_succ (d := dc) _ m l i h
theorem putRows_succ {m : List (List UInt8 × Bool)} {l : List (List Cell)} {i : Nat} (h : i < l.length) : putRows m (l.take (i + 1)) = putWords (putRows m (l.take i)) (l.getD i []) := foldl_take_succ (d := []) _ m l i h
def sizeR (e : Enc) : AVal := if checkE e = 0 then .tup 3 (fun j => match j with
    | 0 => .int .i64 e.rows.length
    | 1 => .int .i64 (putRows [] e.rows).length
    | _ => .int .i64 0) else .tup 3 (fun j => match j with
    | 0 => .int .i64 0
    | 1 => .int .i64 0
    | _ => .int .i64 1)
theorem checkE_valid {e : Enc} (h : checkE e = 0) : Dims e ∧ 0 < e.rows.length ∧ e.rows.length ≤ 64 ∧ ∀ r ∈ e.rows, rowCheck e r = 0 := by
  unfold checkE at h
  split at h
  · cases h
  · split at h
    · cases h
    · split at h
      · cases h
      · split at h
        · cases h
        · exact ⟨⟨by omega, by omega, by omega⟩, by omega, by omega, firstNZ_all h⟩
theorem rowCheck_valid {e : Enc} {r : List Cell} (h : rowCheck e r = 0) : (r.length : Int) = e.inputs ∧ ∀ c ∈ r, cellCheck e c = 0 := by
  unfold rowCheck at h
  split at h
  · cases h
  · exact ⟨by omega, firstNZ_all h⟩
theorem rows_len {e : Enc} (h : checkE e = 0) : e.rows.length ≤ 64 := (checkE_valid h).2.2.1
theorem row_eq {e : Enc} (h : checkE e = 0) {k : Nat} (hk : k < e.rows.length) : ((e.rows.getD k []).length : Int) = e.inputs := (rowCheck_valid ((checkE_valid h).2.2.2 _ (getD_mem hk))).1
theorem row_len {e : Enc} (h : checkE e = 0) {k : Nat} (hk : k < e.rows.length) : (e.rows.getD k []).length ≤ 256 := by
  have h1 := row_eq h hk
  have h2 := (checkE_valid h).1.inputs
  omega

/-- what is too great for the statements. -/
def greatTop (e : Enc) : Prop := (6 < (e.rows.length : Int) ∧ (e.rows.length : Int) ≤ 64) ∨ 67 < (e.rows.length : Int) ∨ 2000 < (e.rows.length : Int) * max 0 (min e.inputs 300)
def greatWord (c : Cell) : Prop := (12 < (c.word.length : Int) ∧ (c.word.length : Int) ≤ 16) ∨ 24 < (c.word.length : Int)
def greatLen (r : List Cell) : Prop := (6 < (r.length : Int) ∧ (r.length : Int) ≤ 256) ∨ 259 < (r.length : Int)
def greatE (e : Enc) : Prop := greatTop e ∨ ∃ r ∈ e.rows, greatLen r ∨ ∃ c ∈ r, greatWord c
open Classical in
noncomputable def great (e : Enc) : Bool := decide (greatE e)
theorem great_yes {e : Enc} (h : greatE e) : great e = true := by simp [great, h]
theorem great_no {e : Enc} (h : ¬ greatTop e) (h2 : ∀ k, k < e.rows.length → ¬ greatLen (e.rows.getD k []) ∧ ∀ i, i < (e.rows.getD k []).length → ¬ greatWord ((e.rows.getD k []).getD i dc)) : great e = false := by
  have : ¬ greatE e := by
    rintro (h3 | ⟨r, hr, h4⟩)
    · exact h h3
    · obtain ⟨k, hk, hke⟩ := List.mem_iff_getElem.1 hr
      have h5 := h2 k hk
      have hg : e.rows.getD k [] = r := by simp [List.getD, hk, hke]
      rw [hg] at h5
      rcases h4 with h4 | ⟨c, hc, h6⟩
      · exact h5.1 h4
      · obtain ⟨i, hi, hie⟩ := List.mem_iff_getElem.1 hc
        have h7 := h5.2 i hi
        have hg2 : r.getD i dc = c := by simp [List.getD, hi, hie]
        rw [hg2] at h7
        exact h7 h6
  simp [great, this]
theorem great_row {e : Enc} {k : Nat} (hk : k < e.rows.length) (h : greatLen (e.rows.getD k [])) : great e = true := great_yes (.inr ⟨_, getD_mem hk, .inl h⟩)
theorem great_word {e : Enc} {k i : Nat} (hk : k < e.rows.length) (hi : i < (e.rows.getD k []).length) (h : greatWord ((e.rows.getD k []).getD i dc)) : great e = true := great_yes (.inr ⟨_, getD_mem hk, .inr ⟨_, getD_mem hi, h⟩⟩)
theorem mul_small {a b : Int} (ha : 0 ≤ a) (ha2 : a ≤ 67) (hb : 0 ≤ b) (hb2 : b ≤ 300) : 0 ≤ a * b ∧ a * b ≤ 20100 := by
  refine ⟨Int.mul_nonneg ha hb, ?_⟩
  have h1 : a * b ≤ 67 * b := Int.mul_le_mul_of_nonneg_right ha2 hb
  omega
noncomputable def fineE (e : Enc) : Bool := !great e && decide (checkE e = 0) && decide (0 < e.rows.length)
end Go.Proofs.Ytmjkbidnghcfnaa
