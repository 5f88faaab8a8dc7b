/-
  Encoders: cells, rows, as Lean data and as abstract values.
-/
import Derived.Test.YtfoeigajlkonpaaDoorLZ
import Derived.Test.YtfoeigajlkonpaaDoorPR
import Derived.Test.YtfoeigajlkonpaaDoorPI
namespace Go.Proofs.YtfoeigajlkonpaaDoor
set_option linter.unusedSimpArgs false
set_option linter.unusedVariables false
open Go Go.Lift

structure Cell where
  to : Int
  word : List UInt8
deriving DecidableEq, Inhabited
structure Enc where
  letters : Int
  block : Int
  inputs : Int
  rows : List (List Cell)
deriving DecidableEq, Inhabited
def dc : Cell := ⟨0, []⟩
def cellF (c : Cell) (j : Nat) : AVal := match j with
  | 0 => .int .i64 c.to
  | _ => .str c.word
@[simp] theorem cellF0 {c : Cell} : cellF c 0 = .int .i64 c.to := rfl
@[simp] theorem cellF1 {c : Cell} : cellF c 1 = .str c.word := rfl
@[simp] theorem one_cellF {c : Cell} {j : Nat} : (cellF c j).one = true := by unfold cellF; split <;> rfl
@[simp] theorem Clo_cellF {c : Cell} {j : Nat} : Clo (cellF c j) := by unfold cellF; split <;> trivial
@[simp] theorem ren_cellF {ρ : Nat → Nat} {c : Cell} {j : Nat} : ren ρ (cellF c j) = cellF c j := by unfold cellF; split <;> rfl
@[simp] theorem flat_cellF {c : Cell} {j : Nat} : flat (cellF c j) := by unfold cellF; split <;> trivial

def cells (l : List Cell) : AVal := vec 2 cellF dc l
@[simp] theorem evLen_cells {h : Heap} {l : List Cell} : evLen h (cells l) = some (.int .i64 l.length) := rfl
@[simp] theorem strip_cells {l : List Cell} : strip (cells l) = (cells l, True) := rfl
@[simp] theorem mkOpt_cells {g : Bool} {l : List Cell} : mkOpt g (cells l) = .opt g (cells l) := rfl
@[simp] theorem one_cells {l : List Cell} : (cells l).one = true := rfl
@[simp] theorem acell_cells {l : List Cell} {j : Nat} : acell (cells l) j = cells l := rfl
@[simp] theorem Clo_cells {l : List Cell} : Clo (cells l) := Clo_vec fun x _ j hj => ⟨one_cellF, Clo_cellF⟩
@[simp] theorem lenT_cells {T : Tab} {t : TypeId} {l : List Cell} : lenT T t (cells l) = sliceT T t := lenT_vec
@[simp] theorem evIndexAddr_cells {T : Tab} {h : Heap} {t : TypeId} {k : IntKind} {m : Int} {l : List Cell} : evIndexAddr T h t (cells l) (.int k m) = match elemT T t with
    | some ei => if 2 = ei.size then some (.vptr 2 (fun j => cellF (l.getD m.toNat dc) j) 0, 0 ≤ m ∧ m < (l.length : Int)) else none
    | none => none := evIndexAddr_vec
@[simp] theorem evSrc_cells {h : Heap} {l : List Cell} : evSrc h 2 (cells l) = some (l.length, (fun i j => cellF (l.getD i dc) j), True) := by
  unfold cells
  rw [evSrc_vec rfl]
  rfl
@[simp] theorem evBin_cells {o : BinOp} {v : AVal} {l : List Cell} : evBin o (cells l) v = none := rfl
@[simp] theorem evEq_cells {T : Tab} {t : TypeId} {l : List Cell} : evEq T .eql t (cells l) .nils = if sliceT T t then some (.ub (l.length = 0)) else none := rfl
@[simp] theorem VLe_cells_nils {h : Heap} {σ : Lift.Id → Lift.Id} {fz : Nat → Bool} {vz : Lift.Id → Bool} {x : Nat} {l : List Cell} : VLe h σ fz vz x (cells l) .nils = (l.length = 0) := rfl
@[simp] theorem VLe_cells_sl {h : Heap} {σ : Lift.Id → Lift.Id} {fz : Nat → Bool} {vz : Lift.Id → Bool} {y lo x' : Nat} {id : Lift.Id} {l : List Cell} : VLe h σ fz vz y (cells l) (.sl id lo x') = (x' = l.length ∧ fz id.1 = true ∧ match lkH h id with
    | some (.arr N s' g') => s' = 2 ∧ lo + l.length ≤ N ∧ ∀ i, i < l.length → ∀ j, j < 2 → (cellF (l.getD i dc) j).one = true ∧ VLe h σ fz vz y (cellF (l.getD i dc) j) (g' (lo + i) j)
    | _ => False) := VLe_vsl_sl
@[simp] theorem VLe_cells_vsl {h : Heap} {σ : Lift.Id → Lift.Id} {fz : Nat → Bool} {vz : Lift.Id → Bool} {x' s' y : Nat} {g' : Nat → Nat → AVal} {l : List Cell} : VLe h σ fz vz y (cells l) (.vsl x' s' g') = (x' = l.length ∧ s' = 2 ∧ ∀ i, i < l.length → ∀ j, j < 2 → (cellF (l.getD i dc) j).one = true ∧ VLe h σ fz vz y (cellF (l.getD i dc) j) (g' i j)) := rfl

@[simp] theorem ren_cells {ρ : Nat → Nat} {l : List Cell} : ren ρ (cells l) = cells l := ren_vec fun _ _ => ren_cellF

def rowsC (l : List (List Cell)) : AVal := vec 1 (fun (x : List Cell) _ => cells x) [] l
@[simp] theorem evLen_rowsC {h : Heap} {l : List (List Cell)} : evLen h (rowsC l) = some (.int .i64 l.length) := rfl
@[simp] theorem strip_rowsC {l : List (List Cell)} : strip (rowsC l) = (rowsC l, True) := rfl
@[simp] theorem mkOpt_rowsC {g : Bool} {l : List (List Cell)} : mkOpt g (rowsC l) = .opt g (rowsC l) := rfl
@[simp] theorem one_rowsC {l : List (List Cell)} : (rowsC l).one = true := rfl
@[simp] theorem acell_rowsC {l : List (List Cell)} {j : Nat} : acell (rowsC l) j = rowsC l := rfl
@[simp] theorem Clo_rowsC {l : List (List Cell)} : Clo (rowsC l) := Clo_vec fun x _ j hj => ⟨rfl, Clo_cells⟩
@[simp] theorem lenT_rowsC {T : Tab} {t : TypeId} {l : List (List Cell)} : lenT T t (rowsC l) = sliceT T t := lenT_vec
@[simp] theorem evIndexAddr_rowsC {T : Tab} {h : Heap} {t : TypeId} {k : IntKind} {m : Int} {l : List (List Cell)} : evIndexAddr T h t (rowsC l) (.int k m) = match elemT T t with
    | some ei => if 1 = ei.size then some (.vptr 1 (fun j => (fun (x : List Cell) _ => cells x) (l.getD m.toNat []) j) 0, 0 ≤ m ∧ m < (l.length : Int)) else none
    | none => none := evIndexAddr_vec
@[simp] theorem evSrc_rowsC {h : Heap} {l : List (List Cell)} : evSrc h 1 (rowsC l) = some (l.length, (fun i j => (fun (x : List Cell) _ => cells x) (l.getD i []) j), True) := by
  unfold rowsC
  rw [evSrc_vec rfl]
  rfl
@[simp] theorem evBin_rowsC {o : BinOp} {v : AVal} {l : List (List Cell)} : evBin o (rowsC l) v = none := rfl
@[simp] theorem evEq_rowsC {T : Tab} {t : TypeId} {l : List (List Cell)} : evEq T .eql t (rowsC l) .nils = if sliceT T t then some (.ub (l.length = 0)) else none := rfl
@[simp] theorem VLe_rowsC_nils {h : Heap} {σ : Lift.Id → Lift.Id} {fz : Nat → Bool} {vz : Lift.Id → Bool} {x : Nat} {l : List (List Cell)} : VLe h σ fz vz x (rowsC l) .nils = (l.length = 0) := rfl
@[simp] theorem VLe_rowsC_sl {h : Heap} {σ : Lift.Id → Lift.Id} {fz : Nat → Bool} {vz : Lift.Id → Bool} {y lo x' : Nat} {id : Lift.Id} {l : List (List Cell)} : VLe h σ fz vz y (rowsC l) (.sl id lo x') = (x' = l.length ∧ fz id.1 = true ∧ match lkH h id with
    | some (.arr N s' g') => s' = 1 ∧ lo + l.length ≤ N ∧ ∀ i, i < l.length → ∀ j, j < 1 → ((fun (x : List Cell) _ => cells x) (l.getD i []) j).one = true ∧ VLe h σ fz vz y ((fun (x : List Cell) _ => cells x) (l.getD i []) j) (g' (lo + i) j)
    | _ => False) := VLe_vsl_sl
@[simp] theorem VLe_rowsC_vsl {h : Heap} {σ : Lift.Id → Lift.Id} {fz : Nat → Bool} {vz : Lift.Id → Bool} {x' s' y : Nat} {g' : Nat → Nat → AVal} {l : List (List Cell)} : VLe h σ fz vz y (rowsC l) (.vsl x' s' g') = (x' = l.length ∧ s' = 1 ∧ ∀ i, i < l.length → ∀ j, j < 1 → ((fun (x : List Cell) _ => cells x) (l.getD i []) j).one = true ∧ VLe h σ fz vz y ((fun (x : List Cell) _ => cells x) (l.getD i []) j) (g' i j)) := rfl

@[simp] theorem ren_rowsC {ρ : Nat → Nat} {l : List (List Cell)} : ren ρ (rowsC l) = rowsC l := ren_vec fun _ _ => ren_cells

def encF (e : Enc) (j : Nat) : AVal := match j with
  | 0 => .int .i64 e.letters
  | 1 => .int .i64 e.block
  | 2 => .int .i64 e.inputs
  | _ => rowsC e.rows
@[simp] theorem encF0 {e : Enc} : encF e 0 = .int .i64 e.letters := rfl
@[simp] theorem encF1 {e : Enc} : encF e 1 = .int .i64 e.block := rfl
@[simp] theorem encF2 {e : Enc} : encF e 2 = .int .i64 e.inputs := rfl
@[simp] theorem encF3 {e : Enc} : encF e 3 = rowsC e.rows := rfl
@[simp] theorem one_encF {e : Enc} {j : Nat} : (encF e j).one = true := by unfold encF; split <;> rfl
@[simp] theorem Clo_encF {e : Enc} {j : Nat} : Clo (encF e j) := by unfold encF; split <;> first | trivial | exact Clo_rowsC
@[simp] theorem ren_encF {ρ : Nat → Nat} {e : Enc} {j : Nat} : ren ρ (encF e j) = encF e j := by unfold encF; split <;> first | rfl | exact ren_rowsC
/-- a guarded value out of a list. -/
@[simp] theorem mkOpt_vecF {α : Type} {g : Bool} {f : α → Nat → AVal} {d : α} {l : List α} {i j : Nat} : mkOpt g (vecF f d l i j) = mkOpt g (f (l.getD i d) j) := rfl
end Go.Proofs.YtfoeigajlkonpaaDoor

namespace Go.Proofs.YtfoeigajlkonpaaDoor
set_option linter.unusedSimpArgs false
set_option linter.unusedVariables false
open Go Go.Lift

theorem firstNZ_hit {α : Type} {f : α → Int} {d : α} : ∀ {l : List α} {k : Nat}, (∀ j, j < k → f (l.getD j d) = 0) → k < l.length → f (l.getD k d) ≠ 0 → firstNZ f l = f (l.getD k d)
  | [], k, _, hk, _ => absurd hk (Nat.not_lt_zero _)
  | x :: r, 0, _, _, h => by simp only [List.getD_cons_zero] at h ⊢; simp [firstNZ, h]
  | x :: r, k + 1, h0, hk, h => by
    have hx := h0 0 (Nat.succ_pos _)
    simp only [List.getD_cons_zero] at hx
    simp only [List.getD_cons_succ] at h ⊢
    simp only [firstNZ, hx, if_true]
    exact firstNZ_hit (fun j hj => by simpa using h0 (j + 1) (by omega)) (by simpa using hk) h
theorem firstNZ_zeroL {α : Type} {f : α → Int} {d : α} : ∀ {l : List α}, (∀ j, j < l.length → f (l.getD j d) = 0) → firstNZ f l = 0
  | [], _ => rfl
  | x :: r, h => by
    have hx := h 0 (Nat.succ_pos _)
    simp only [List.getD_cons_zero] at hx
    simp only [firstNZ, hx, if_true]
    exact firstNZ_zeroL (fun j hj => by simpa using h (j + 1) (by simpa using hj))
theorem firstNZ_all {α : Type} {f : α → Int} : ∀ {l : List α}, firstNZ f l = 0 → ∀ x ∈ l, f x = 0
  | [], _, x, hx => by cases hx
  | y :: r, h, x, hx => by
    by_cases hy : f y = 0
    · simp only [firstNZ, hy, if_true] at h
      cases hx with
      | head => exact hy
      | tail _ hx => exact firstNZ_all h x hx
    · simp only [firstNZ, hy, if_false] at h

def cellCheck (e : Enc) (c : Cell) : Int := if c.to < 0 ∨ (e.rows.length : Int) ≤ c.to then 25 else if (c.word.length : Int) ≠ e.block ∨ wordCheck e.letters c.word ≠ 0 then 13 else 0
def rowCheck (e : Enc) (r : List Cell) : Int := if (r.length : Int) ≠ e.inputs then 11 else firstNZ (cellCheck e) r
/-- why an encoder is not valid. -/
def checkE (e : Enc) : Int :=
  if e.letters < 1 ∨ 16 < e.letters then 12 else if (e.block < 1 ∨ 16 < e.block) ∨ e.inputs < 1 ∨ 256 < e.inputs then 2 else if e.rows.length = 0 then 5 else if 64 < e.rows.length then 4 else firstNZ (rowCheck e) e.rows
section
variable {e : Enc}
theorem checkE_letters (h : ¬ (1 ≤ e.letters ∧ e.letters ≤ 16)) : checkE e = 12 := by unfold checkE; rw [if_pos (by omega)]
theorem checkE_range (h : 1 ≤ e.letters ∧ e.letters ≤ 16) (h2 : ¬ (1 ≤ e.block ∧ e.block ≤ 16 ∧ 1 ≤ e.inputs ∧ e.inputs ≤ 256)) : checkE e = 2 := by unfold checkE; rw [if_neg (by omega), if_pos (by omega)]
structure Dims (e : Enc) : Prop where
  letters : 1 ≤ e.letters ∧ e.letters ≤ 16
  block : 1 ≤ e.block ∧ e.block ≤ 16
  inputs : 1 ≤ e.inputs ∧ e.inputs ≤ 256
theorem checkE_empty (h : Dims e) (h2 : e.rows.length = 0) : checkE e = 5 := by
  obtain ⟨h1, h3, h4⟩ := h
  unfold checkE; rw [if_neg (by omega), if_neg (by omega), if_pos h2]
theorem checkE_limit (h : Dims e) (h2 : 64 < e.rows.length) : checkE e = 4 := by
  obtain ⟨h1, h3, h4⟩ := h
  unfold checkE; rw [if_neg (by omega), if_neg (by omega), if_neg (by omega), if_pos h2]
theorem checkE_rows (h : Dims e) (h2 : 0 < e.rows.length) (h5 : e.rows.length ≤ 64) : checkE e = firstNZ (rowCheck e) e.rows := by
  obtain ⟨h1, h3, h4⟩ := h
  unfold checkE; rw [if_neg (by omega), if_neg (by omega), if_neg (by omega), if_neg (by omega)]
theorem checkE_row (h : Dims e) (h2 : 0 < e.rows.length) (h5 : e.rows.length ≤ 64) {k : Nat} (hk : k < e.rows.length) (h0 : ∀ j, j < k → rowCheck e (e.rows.getD j []) = 0) {n : Int} (hn : rowCheck e (e.rows.getD k []) = n) (hne : n ≠ 0) : checkE e = n := by
  rw [checkE_rows h h2 h5, ← hn]
  exact firstNZ_hit h0 hk (by rw [hn]; exact hne)
theorem rowCheck_len {r : List Cell} (h : ¬ (r.length : Int) = e.inputs) : rowCheck e r = 11 := by unfold rowCheck; rw [if_pos h]
theorem rowCheck_cell {r : List Cell} (h : (r.length : Int) = e.inputs) {k : Nat} (hk : k < r.length) (h0 : ∀ j, j < k → cellCheck e (r.getD j dc) = 0) {n : Int} (hn : cellCheck e (r.getD k dc) = n) (hne : n ≠ 0) : rowCheck e r = n := by
  unfold rowCheck
  rw [if_neg (by omega), ← hn]
  exact firstNZ_hit h0 hk (by rw [hn]; exact hne)
theorem rowCheck_ok {r : List Cell} (h : (r.length : Int) = e.inputs) (h0 : ∀ j, j < r.length → cellCheck e (r.getD j dc) = 0) : rowCheck e r = 0 := by
  unfold rowCheck
  rw [if_neg (by omega)]
  exact firstNZ_zeroL h0
theorem cellCheck_to {c : Cell} (h : c.to < 0 ∨ (e.rows.length : Int) ≤ c.to) : cellCheck e c = 25 := by unfold cellCheck; rw [if_pos h]
theorem cellCheck_word {c : Cell} (h : 0 ≤ c.to ∧ c.to < (e.rows.length : Int)) (h2 : ¬ (c.word.length : Int) = e.block ∨ ¬ wordCheck e.letters c.word = 0) : cellCheck e c = 13 := by unfold cellCheck; rw [if_neg (by omega), if_pos h2]
theorem cellCheck_ok {c : Cell} (h : 0 ≤ c.to ∧ c.to < (e.rows.length : Int)) (h2 : (c.word.length : Int) = e.block ∧ wordCheck e.letters c.word = 0) : cellCheck e c = 0 := by
  unfold cellCheck; rw [if_neg (by omega), if_neg]
  rintro (h3 | h3)
  · exact h3 h2.1
  · exact h3 h2.2
end

theorem checkE_valid {e : Enc} (h : checkE e = 0) : Dims e ∧ 0 < e.rows.length ∧ e.rows.length ≤ 64 ∧ ∀ r ∈ e.rows, rowCheck e r = 0 := by
  unfold checkE at h
  split at h
  · cases h
  · split at h
    · cases h
    · split at h
      · cases h
      · split at h
        · cases h
        · exact ⟨⟨by omega, by omega, by omega⟩, by omega, by omega, firstNZ_all h⟩
theorem rowCheck_valid {e : Enc} {r : List Cell} (h : rowCheck e r = 0) : (r.length : Int) = e.inputs ∧ ∀ c ∈ r, cellCheck e c = 0 := by
  unfold rowCheck at h
  split at h
  · cases h
  · exact ⟨by omega, firstNZ_all h⟩
theorem rows_len {e : Enc} (h : checkE e = 0) : e.rows.length ≤ 64 := (checkE_valid h).2.2.1
theorem row_eq {e : Enc} (h : checkE e = 0) {k : Nat} (hk : k < e.rows.length) : ((e.rows.getD k []).length : Int) = e.inputs := (rowCheck_valid ((checkE_valid h).2.2.2 _ (getD_mem hk))).1
theorem row_len {e : Enc} (h : checkE e = 0) {k : Nat} (hk : k < e.rows.length) : (e.rows.getD k []).length ≤ 256 := by
  have h1 := row_eq h hk
  have h2 := (checkE_valid h).1.inputs
  omega

def cellAt (e : Enc) (s i : Nat) : Cell := (e.rows.getD s []).getD i dc
theorem cell_to {e : Enc} (h : checkE e = 0) {s i : Nat} (hs : s < e.rows.length) (hi : i < (e.rows.getD s []).length) : 0 ≤ (cellAt e s i).to ∧ (cellAt e s i).to < (e.rows.length : Int) := by
  have h1 := (rowCheck_valid ((checkE_valid h).2.2.2 _ (getD_mem (d := []) hs))).2 _ (getD_mem (d := dc) hi)
  unfold cellCheck at h1
  unfold cellAt
  split at h1
  · cases h1
  · omega
theorem row_i {e : Enc} (h : checkE e = 0) {s : Nat} (hs : s < e.rows.length) {i : Nat} (hi : (i : Int) < e.inputs) : i < (e.rows.getD s []).length := by
  have := row_eq h hs; omega
/-- the classes behind the first inputs of a round. -/
theorem cell_lt {e : Enc} (hv : checkE e = 0) {s i : Nat} (hs : s < e.rows.length) (hi : i < e.inputs.toNat) : (cellAt e s i).to.toNat < e.rows.length := by
  have h1 := row_i hv hs (i := i) (by omega)
  have := cell_to hv hs h1
  omega
theorem nodup_le : ∀ {n : Nat} {L : List Int}, L.Nodup → (∀ x ∈ L, 0 ≤ x ∧ x < (n : Int)) → L.length ≤ n
  | 0, [], _, _ => Nat.le_refl _
  | 0, x :: L, _, h => by have := h x List.mem_cons_self; omega
  | n + 1, L, hn, h => by
    by_cases hm : (n : Int) ∈ L
    · have h1 := nodup_le (n := n) (L := L.erase (n : Int)) (hn.erase _) fun x hx => by
        have h2 := h x (List.mem_of_mem_erase hx)
        have h3 : x ≠ (n : Int) := fun e => by rw [e] at hx; exact (hn.not_mem_erase) hx
        omega
      rw [List.length_erase_of_mem hm] at h1
      omega
    · have := nodup_le (n := n) hn fun x hx => by
        have h2 := h x hx
        have h3 : x ≠ (n : Int) := fun e => by rw [e] at hx; exact hm hx
        omega
      omega
/-- what is written from a state, and where it ends. -/
def runE (e : Enc) (s : Int) : List Int → List UInt8 × Int
  | [] => ([], s)
  | i :: r => ((cellAt e s.toNat i.toNat).word ++ (runE e (cellAt e s.toNat i.toNat).to r).1, (runE e (cellAt e s.toNat i.toNat).to r).2)
theorem runE_snoc {e : Enc} : ∀ {l : List Int} {s i : Int}, runE e s (l ++ [i]) = ((runE e s l).1 ++ (cellAt e (runE e s l).2.toNat i.toNat).word, (cellAt e (runE e s l).2.toNat i.toNat).to)
  | [], s, i => by simp [runE]
  | x :: l, s, i => by
    simp only [List.cons_append, runE]
    rw [runE_snoc (l := l)]
    simp
theorem runE_take {e : Enc} {l : List Int} {s : Int} {k : Nat} (hk : k < l.length) : runE e s (l.take (k + 1)) = ((runE e s (l.take k)).1 ++ (cellAt e (runE e s (l.take k)).2.toNat (l.getD k 0).toNat).word, (cellAt e (runE e s (l.take k)).2.toNat (l.getD k 0).toNat).to) := by
  have : l.take (k + 1) = l.take k ++ [l.getD k 0] := by
    rw [List.take_add_one, List.getElem?_eq_getElem hk]
    simp [List.getD, hk]
  rw [this, runE_snoc]

/-- inputs of an encoder. -/
def badI (e : Enc) (i : Int) : Bool := decide (i < 0) || decide (e.inputs ≤ i)
theorem cell_wlen {e : Enc} (h : checkE e = 0) {s i : Nat} (hs : s < e.rows.length) (hi : i < (e.rows.getD s []).length) : ((cellAt e s i).word.length : Int) = e.block := by
  have h1 := (rowCheck_valid ((checkE_valid h).2.2.2 _ (getD_mem (d := []) hs))).2 _ (getD_mem (d := dc) hi)
  unfold cellCheck at h1
  unfold cellAt
  split at h1
  · cases h1
  · split at h1
    · cases h1
    · rename_i h2
      exact Classical.byContradiction fun h3 => h2 (.inl h3)
theorem bad_no {e : Enc} {i : Int} : badI e i = false ↔ 0 ≤ i ∧ i < e.inputs := by
  simp [badI]
theorem runE_ok {e : Enc} (hv : checkE e = 0) : ∀ {l : List Int} {s : Int}, 0 ≤ s → s < (e.rows.length : Int) → (∀ i ∈ l, badI e i = false) →
    0 ≤ (runE e s l).2 ∧ (runE e s l).2 < (e.rows.length : Int) ∧ ((runE e s l).1.length : Int) = (l.length : Int) * e.block
  | [], s, h0, h1, _ => by simp [runE]; omega
  | i :: l, s, h0, h1, h2 => by
    have hi := bad_no.1 (h2 i (by simp))
    have hr := row_eq hv (k := s.toNat) (by omega)
    have hc := cell_to hv (s := s.toNat) (i := i.toNat) (by omega) (by omega)
    have hw := cell_wlen hv (s := s.toNat) (i := i.toNat) (by omega) (by omega)
    obtain ⟨k1, k2, k3⟩ := runE_ok hv (l := l) (s := (cellAt e s.toNat i.toNat).to) hc.1 hc.2 (fun x hx => h2 x (by simp [hx]))
    simp only [runE]
    refine ⟨k1, k2, ?_⟩
    rw [List.length_append, Int.natCast_add, k3, hw, List.length_cons, Int.natCast_add, Int.add_mul]
    omega

theorem mul_bd {a b c : Int} (ha : 0 ≤ a ∧ a ≤ c) (hb : 1 ≤ b ∧ b ≤ 16) : 0 ≤ a * b ∧ a * b ≤ c * 16 := ⟨Int.mul_nonneg ha.1 (by omega), Int.le_trans (Int.mul_le_mul_of_nonneg_right ha.2 (by omega)) (Int.mul_le_mul_of_nonneg_left hb.2 (by omega))⟩
theorem run_at {e : Enc} (hv : checkE e = 0) {s : Int} {l : List Int} (h0 : 0 ≤ s) (h1 : s < (e.rows.length : Int)) (hg : l.any (badI e) = false) (hm : (l.length : Int) * e.block ≤ 65536) {k : Nat} (hk : k ≤ l.length) :
    (0 ≤ (runE e s (l.take k)).2 ∧ (runE e s (l.take k)).2 < (e.rows.length : Int)) ∧ ((runE e s (l.take k)).1.length : Int) = (k : Int) * e.block ∧ (runE e s (l.take k)).1.length ≤ 65536 := by
  have hb := (checkE_valid hv).1.block
  have hg' : ∀ x ∈ l.take k, badI e x = false := fun x hx => by
    have := List.any_eq_false.1 hg x (List.mem_of_mem_take hx)
    simpa using this
  obtain ⟨k1, k2, k3⟩ := runE_ok hv h0 h1 hg'
  rw [List.length_take, Nat.min_eq_left hk] at k3
  refine ⟨⟨k1, k2⟩, k3, ?_⟩
  have : (k : Int) * e.block ≤ l.length * e.block := Int.mul_le_mul_of_nonneg_right (by omega) (by omega)
  omega
theorem good_at {e : Enc} {l : List Int} (hg : l.any (badI e) = false) {k : Nat} (hk : k < l.length) : badI e (l.getD k 0) = false := by
  have := List.any_eq_false.1 hg _ (getD_mem (d := 0) hk)
  simpa using this
theorem run_ne {e : Enc} {w : List UInt8} {k : Nat} (hb : 1 ≤ e.block) (hk : 0 < k) (h : (w.length : Int) = (k : Int) * e.block) : w ≠ [] := by
  rintro rfl
  have := Int.mul_le_mul_of_nonneg_left hb (show (0 : Int) ≤ k by omega)
  simp only [List.length_nil] at h
  omega

/-- what Encode answers. -/
def encodeN (e : Enc) (s : Int) (l : List Int) : Int :=
  if checkE e ≠ 0 then 1 else if s < 0 ∨ (e.rows.length : Int) ≤ s then 25 else if l.any (badI e) = true then 2 else if 65536 < (l.length : Int) * e.block then 4 else 0
def encodeW (e : Enc) (s : Int) (l : List Int) : List UInt8 := if encodeN e s l = 0 then (runE e s l).1 else []
def encodeT (e : Enc) (s : Int) (l : List Int) : Int := if encodeN e s l = 0 then (runE e s l).2 else 0
def encodeR (e : Enc) (s : Int) (l : List Int) : AVal := .tup 3 (fun j => [.str (encodeW e s l), .int .i64 (encodeT e s l), .int .i64 (encodeN e s l)].getD j .any)
theorem encodeR_err {e : Enc} {s : Int} {l : List Int} {n : Int} (h : encodeN e s l = n) (hn : n ≠ 0) : encodeR e s l = .tup 3 (fun j => [.str [], .int .i64 0, .int .i64 n].getD j .any) := by
  unfold encodeR encodeW encodeT
  rw [h, if_neg hn, if_neg hn]
theorem encodeR_ok {e : Enc} {s : Int} {l : List Int} (h : encodeN e s l = 0) : encodeR e s l = .tup 3 (fun j => [.str (runE e s l).1, .int .i64 (runE e s l).2, .int .i64 0].getD j .any) := by
  unfold encodeR encodeW encodeT
  rw [if_pos h, if_pos h, h]
end Go.Proofs.YtfoeigajlkonpaaDoor

namespace Go.Proofs.YtfoeigajlkonpaaDoor
set_option linter.unusedSimpArgs false
set_option linter.unusedVariables false
open Go Go.Lift

structure Pr where
  s : Int
  t : Int
deriving DecidableEq, Inhabited
def dp : Pr := ⟨0, 0⟩

/-- Q grows by pairs with P, each once. -/
structure Ext (P : Pr → Prop) (Q R : List Pr) : Prop where
  pre : Q <+: R
  nd : Q.Nodup → R.Nodup
  new : ∀ p ∈ R, p ∈ Q ∨ P p
theorem Ext.refl {P : Pr → Prop} {Q : List Pr} : Ext P Q Q := ⟨List.prefix_refl _, id, fun p h => .inl h⟩
theorem Ext.trans {P : Pr → Prop} {Q R S : List Pr} (h : Ext P Q R) (k : Ext P R S) : Ext P Q S :=
  ⟨h.pre.trans k.pre, fun x => k.nd (h.nd x), fun p hp => (k.new p hp).elim (fun h1 => h.new p h1) .inr⟩
theorem Ext.imp {P P' : Pr → Prop} {Q R : List Pr} (h : Ext P Q R) (k : ∀ p, P p → P' p) : Ext P' Q R := ⟨h.pre, h.nd, fun p hp => (h.new p hp).imp id (k p)⟩
theorem Ext.mem {P : Pr → Prop} {Q R : List Pr} (h : Ext P Q R) {p : Pr} (hp : p ∈ Q) : p ∈ R := h.pre.subset hp
theorem Ext.fold {P : Pr → Prop} {f : List Pr → Nat → List Pr} {n : Nat} (h : ∀ Q i, i < n → Ext P Q (f Q i)) : ∀ (k : Nat) (Q : List Pr), k ≤ n → Ext P Q ((List.range k).foldl f Q)
  | 0, Q, _ => .refl
  | k + 1, Q, hk => by
    rw [List.range_succ, List.foldl_append]
    exact (Ext.fold h k Q (by omega)).trans (h _ k (by omega))

def losPut (Q : List Pr) (p : Pr) : List Pr := if p ∈ Q then Q else Q ++ [p]
theorem losPut_ext {Q : List Pr} {p : Pr} {P : Pr → Prop} (h : P p) : Ext P Q (losPut Q p) := by
  unfold losPut
  split
  · exact .refl
  · rename_i hn
    refine ⟨List.prefix_append _ _, fun hd => ?_, fun q hq => ?_⟩
    · rw [List.nodup_append]
      refine ⟨hd, by simp, fun a ha b hb e => ?_⟩
      rw [List.mem_singleton] at hb
      subst hb; subst e; exact hn ha
    · rcases List.mem_append.1 hq with h1 | h1
      · exact .inl h1
      · rw [List.mem_singleton] at h1; subst h1; exact .inr h
theorem losPut_mem {Q : List Pr} {p : Pr} : p ∈ losPut Q p := by
  unfold losPut
  split
  · assumption
  · simp

/-- one pair of cells. -/
def losIf (a b : List Cell) (d : Bool) (i : Nat) (Q : List Pr) (k : Nat) : List Pr :=
  if (a.getD i dc).word = (b.getD k dc).word ∧ (d = true → i ≠ k) then losPut Q ⟨(a.getD i dc).to, (b.getD k dc).to⟩ else Q
def losRow (a b : List Cell) (d : Bool) (i : Nat) (Q : List Pr) (k : Nat) : List Pr := (List.range k).foldl (losIf a b d i) Q
def losAdd (a b : List Cell) (d : Bool) (Q : List Pr) (i : Nat) : List Pr := (List.range i).foldl (fun Q i => losRow a b d i Q b.length) Q
def los0 (e : Enc) (s : Nat) : List Pr := (List.range s).foldl (fun Q s => losAdd (e.rows.getD s []) (e.rows.getD s []) true Q (e.rows.getD s []).length) []
def losNext (e : Enc) (Q : List Pr) (p : Pr) : List Pr := losAdd (e.rows.getD p.s.toNat []) (e.rows.getD p.t.toNat []) false Q (e.rows.getD p.s.toNat []).length
def losQ (e : Enc) : Nat → List Pr
  | 0 => los0 e e.rows.length
  | i + 1 => if i < (losQ e i).length then losNext e (losQ e i) ((losQ e i).getD i dp) else losQ e i
def losL (e : Enc) : List Pr := losQ e (e.rows.length * e.rows.length)
def losB (e : Enc) : Bool := (losL e).all fun p => decide (p.s ≠ p.t)
theorem losRow_succ {a b : List Cell} {d : Bool} {i k : Nat} {Q : List Pr} : losRow a b d i Q (k + 1) = losIf a b d i (losRow a b d i Q k) k := by simp [losRow, List.range_succ]
theorem losAdd_succ {a b : List Cell} {d : Bool} {i : Nat} {Q : List Pr} : losAdd a b d Q (i + 1) = losRow a b d i (losAdd a b d Q i) b.length := by simp [losAdd, List.range_succ]
theorem los0_succ {e : Enc} {s : Nat} : los0 e (s + 1) = losAdd (e.rows.getD s []) (e.rows.getD s []) true (los0 e s) (e.rows.getD s []).length := by simp [los0, List.range_succ]
theorem losQ_succ {e : Enc} {i : Nat} (h : i < (losQ e i).length) : losQ e (i + 1) = losNext e (losQ e i) ((losQ e i).getD i dp) := if_pos h

/-- pairs of states of an encoder. -/
def InE (e : Enc) (p : Pr) : Prop := (0 ≤ p.s ∧ p.s < (e.rows.length : Int)) ∧ 0 ≤ p.t ∧ p.t < (e.rows.length : Int)
section
variable {e : Enc} (hv : checkE e = 0)
include hv
theorem losIf_ext {s t : Nat} (hs : s < e.rows.length) (ht : t < e.rows.length) {d : Bool} {i k : Nat} (hi : i < (e.rows.getD s []).length) (hk : k < (e.rows.getD t []).length) {Q : List Pr} : Ext (InE e) Q (losIf (e.rows.getD s []) (e.rows.getD t []) d i Q k) := by
  unfold losIf
  split
  · exact losPut_ext ⟨cell_to hv hs hi, cell_to hv ht hk⟩
  · exact .refl
theorem losRow_ext {s t : Nat} (hs : s < e.rows.length) (ht : t < e.rows.length) {d : Bool} {i k : Nat} (hi : i < (e.rows.getD s []).length) (hk : k ≤ (e.rows.getD t []).length) {Q : List Pr} : Ext (InE e) Q (losRow (e.rows.getD s []) (e.rows.getD t []) d i Q k) :=
  Ext.fold (fun Q k hk => losIf_ext hv hs ht hi hk) k Q hk
theorem losAdd_ext {s t : Nat} (hs : s < e.rows.length) (ht : t < e.rows.length) {d : Bool} {i : Nat} (hi : i ≤ (e.rows.getD s []).length) {Q : List Pr} : Ext (InE e) Q (losAdd (e.rows.getD s []) (e.rows.getD t []) d Q i) :=
  Ext.fold (fun Q i hi => losRow_ext hv hs ht hi (Nat.le_refl _)) i Q hi
theorem los0_ext {s : Nat} (hs : s ≤ e.rows.length) : Ext (InE e) [] (los0 e s) :=
  Ext.fold (fun Q s hs => losAdd_ext hv hs hs (Nat.le_refl _)) s [] hs
theorem losNext_ext {Q : List Pr} {p : Pr} (h : InE e p) : Ext (InE e) Q (losNext e Q p) :=
  losAdd_ext hv (by have := h.1; omega) (by have := h.2; omega) (Nat.le_refl _)
structure LosOK (e : Enc) (Q : List Pr) : Prop where
  nd : Q.Nodup
  inE : ∀ p ∈ Q, InE e p
omit hv in
theorem LosOK.grow {Q R : List Pr} (h : LosOK e Q) (k : Ext (InE e) Q R) : LosOK e R := ⟨k.nd h.nd, fun p hp => (k.new p hp).elim (h.inE p) id⟩
omit hv in
theorem losOK_nil : LosOK e [] := ⟨List.nodup_nil, fun p hp => by cases hp⟩
omit hv in
theorem LosOK.at {Q : List Pr} (h : LosOK e Q) {i : Nat} (hi : i < Q.length) : InE e (Q.getD i dp) := h.inE _ (getD_mem (d := dp) hi)
theorem losQ_ok : ∀ i, LosOK e (losQ e i)
  | 0 => losOK_nil.grow (los0_ext hv (Nat.le_refl _))
  | i + 1 => by
    show LosOK e (if _ then _ else _)
    split
    · rename_i h; exact (losQ_ok i).grow (losNext_ext hv ((losQ_ok i).at h))
    · exact losQ_ok i
theorem losQ_ext (i : Nat) : Ext (InE e) (losQ e i) (losQ e (i + 1)) := by
  show Ext _ _ (if _ then _ else _)
  split
  · rename_i h; exact losNext_ext hv ((losQ_ok hv i).at h)
  · exact .refl
theorem losQ_up (i : Nat) : ∀ j, Ext (InE e) (losQ e i) (losQ e (i + j))
  | 0 => .refl
  | j + 1 => (losQ_up i j).trans (losQ_ext hv _)
omit hv in
theorem LosOK.len {Q : List Pr} (h : LosOK e Q) : Q.length ≤ e.rows.length * e.rows.length := by
  have h1 := nodup_le (n := e.rows.length * e.rows.length) (L := Q.map fun p => p.s * e.rows.length + p.t) ?_ ?_
  · rwa [List.length_map] at h1
  · unfold List.Nodup
    rw [List.pairwise_map]
    refine (List.Pairwise.imp_of_mem (l := Q) (R := fun a b => a ≠ b) ?_ h.nd)
    intro a b ha hb hne he
    apply hne
    obtain ⟨⟨a1, a2⟩, a3, a4⟩ := h.inE a ha
    obtain ⟨⟨b1, b2⟩, b3, b4⟩ := h.inE b hb
    have e1 : (a.s * e.rows.length + a.t) / (e.rows.length : Int) = a.s := by
      rw [Int.add_comm, Int.add_mul_ediv_right _ _ (by omega), Int.ediv_eq_zero_of_lt a3 a4]; omega
    have e2 : (b.s * e.rows.length + b.t) / (e.rows.length : Int) = b.s := by
      rw [Int.add_comm, Int.add_mul_ediv_right _ _ (by omega), Int.ediv_eq_zero_of_lt b3 b4]; omega
    rw [he, e2] at e1
    obtain ⟨as, at'⟩ := a; obtain ⟨bs, bt⟩ := b
    simp only at *
    subst e1
    congr 1
    omega
  · intro x hx
    obtain ⟨p, hp, rfl⟩ := List.mem_map.1 hx
    obtain ⟨⟨p1, p2⟩, p3, p4⟩ := h.inE p hp
    have h1 : 0 ≤ p.s * (e.rows.length : Int) := Int.mul_nonneg p1 (by omega)
    have h2 : (p.s + 1) * (e.rows.length : Int) ≤ e.rows.length * e.rows.length := Int.mul_le_mul_of_nonneg_right (by omega) (by omega)
    rw [Int.add_mul] at h2
    push_cast
    omega
theorem losQ_len (i : Nat) : (losQ e i).length ≤ e.rows.length * e.rows.length := (losQ_ok hv i).len
omit hv in
theorem losQ_stay {i : Nat} (h : (losQ e i).length ≤ i) : ∀ j, losQ e (i + j) = losQ e i
  | 0 => rfl
  | j + 1 => by
    have := losQ_stay h j
    show (if i + j < (losQ e (i + j)).length then _ else losQ e (i + j)) = _
    rw [if_neg (by rw [this]; omega), this]
theorem losL_of {i : Nat} (h : (losQ e i).length ≤ i) (hi : i ≤ e.rows.length * e.rows.length) : losL e = losQ e i := by
  have _h := hv
  have := losQ_stay h (e.rows.length * e.rows.length - i)
  rwa [Nat.add_sub_cancel' hi] at this
/-- a pair of equal states ends it. -/
theorem los_hit {i : Nat} (hi : i < (losQ e i).length) (h : ((losQ e i).getD i dp).s = ((losQ e i).getD i dp).t) : losB e = false := by
  have hl := losQ_len hv i
  have h1 := losQ_up hv i (e.rows.length * e.rows.length - i)
  rw [Nat.add_sub_cancel' (by omega)] at h1
  have h2 := h1.mem (getD_mem (d := dp) hi)
  unfold losB
  rw [List.all_eq_false]
  exact ⟨_, h2, by rw [h]; simp⟩
theorem los_end {i : Nat} (hi : (losQ e i).length ≤ i) (hb : i ≤ e.rows.length * e.rows.length) (h : ∀ j, j < i → ((losQ e i).getD j dp).s ≠ ((losQ e i).getD j dp).t) : losB e = true := by
  unfold losB
  rw [losL_of hv hi hb, List.all_eq_true]
  intro p hp
  obtain ⟨j, hj, rfl⟩ := List.mem_iff_getElem.1 hp
  have := h j (by omega)
  rw [getD_get hj] at this
  exact decide_eq_true this
theorem losQ_at {i j : Nat} (h : j < (losQ e i).length) : (losQ e (i + 1)).getD j dp = (losQ e i).getD j dp := by
  obtain ⟨N, hN⟩ := (losQ_ext hv i).pre
  rw [← hN]
  simp only [List.getD_eq_getElem?_getD]; rw [List.getElem?_append_left h]
theorem losQ_nth : ∀ {i j : Nat}, j < i → j < (losQ e i).length → (losQ e i).getD j dp = (losQ e j).getD j dp ∧ (j < (losQ e j).length)
  | 0, j, h, _ => by omega
  | i + 1, j, h, hl => by
    rcases Nat.lt_succ_iff_lt_or_eq.1 h with h1 | rfl
    · by_cases hc : j < (losQ e i).length
      · rw [losQ_at hv hc]
        exact losQ_nth h1 hc
      · have : (losQ e i).length ≤ i := by omega
        have h2 := losQ_stay this 1
        rw [h2] at hl; exact absurd hl hc
    · by_cases hc : j < (losQ e j).length
      · exact ⟨losQ_at hv hc, hc⟩
      · have h2 := losQ_stay (e := e) (i := j) (by omega) 1
        rw [h2] at hl; exact absurd hl hc
end
end Go.Proofs.YtfoeigajlkonpaaDoor

namespace Go.Proofs.YtfoeigajlkonpaaDoor
set_option linter.unusedSimpArgs false
set_option linter.unusedVariables false
open Go Go.Lift

theorem fold_has {P : Pr → Prop} {f : List Pr → Nat → List Pr} {n : Nat} (h : ∀ Q i, i < n → Ext P Q (f Q i)) {p : Pr} {i : Nat} (hp : ∀ Q, p ∈ f Q i) : ∀ (k : Nat) (Q : List Pr), i < k → k ≤ n → p ∈ (List.range k).foldl f Q
  | k + 1, Q, hi, hk => by
    rw [List.range_succ, List.foldl_append]
    rcases Nat.lt_succ_iff_lt_or_eq.1 hi with h1 | rfl
    · exact (h _ k (by omega)).mem (fold_has h hp k Q h1 (by omega))
    · exact hp _
section
variable {e : Enc} (hv : checkE e = 0)
include hv
theorem losRow_mem {s t : Nat} (hs : s < e.rows.length) (ht : t < e.rows.length) {d : Bool} {i k : Nat} (hi : i < (e.rows.getD s []).length) (hk : k < (e.rows.getD t []).length) (hw : (cellAt e s i).word = (cellAt e t k).word) (hd : d = true → i ≠ k) {Q : List Pr} :
    ⟨(cellAt e s i).to, (cellAt e t k).to⟩ ∈ losRow (e.rows.getD s []) (e.rows.getD t []) d i Q (e.rows.getD t []).length := by
  refine fold_has (P := InE e) (n := (e.rows.getD t []).length) (i := k) (fun Q k hk => losIf_ext hv hs ht hi hk) (fun Q => ?_) _ Q hk (Nat.le_refl _)
  unfold losIf
  rw [if_pos ⟨hw, hd⟩]
  exact losPut_mem
theorem losAdd_mem {s t : Nat} (hs : s < e.rows.length) (ht : t < e.rows.length) {d : Bool} {i k : Nat} (hi : i < (e.rows.getD s []).length) (hk : k < (e.rows.getD t []).length) (hw : (cellAt e s i).word = (cellAt e t k).word) (hd : d = true → i ≠ k) {Q : List Pr} :
    ⟨(cellAt e s i).to, (cellAt e t k).to⟩ ∈ losAdd (e.rows.getD s []) (e.rows.getD t []) d Q (e.rows.getD s []).length :=
  fold_has (P := InE e) (n := (e.rows.getD s []).length) (i := i) (fun Q i hi => losRow_ext hv hs ht hi (Nat.le_refl _)) (fun Q => losRow_mem hv hs ht hi hk hw hd) _ Q hi (Nat.le_refl _)
theorem los0_mem {s : Nat} (hs : s < e.rows.length) {i k : Nat} (hi : i < (e.rows.getD s []).length) (hk : k < (e.rows.getD s []).length) (hw : (cellAt e s i).word = (cellAt e s k).word) (hd : i ≠ k) :
    ⟨(cellAt e s i).to, (cellAt e s k).to⟩ ∈ los0 e e.rows.length :=
  fold_has (P := InE e) (n := e.rows.length) (i := s) (fun Q s hs => losAdd_ext hv hs hs (Nat.le_refl _)) (fun Q => losAdd_mem hv hs hs hi hk hw (fun _ => hd)) _ [] hs (Nat.le_refl _)
theorem losL_first {s : Nat} (hs : s < e.rows.length) {i k : Nat} (hi : i < (e.rows.getD s []).length) (hk : k < (e.rows.getD s []).length) (hw : (cellAt e s i).word = (cellAt e s k).word) (hd : i ≠ k) :
    ⟨(cellAt e s i).to, (cellAt e s k).to⟩ ∈ losL e := by
  have h := losQ_up hv 0 (e.rows.length * e.rows.length)
  rw [Nat.zero_add] at h
  exact h.mem (los0_mem hv hs hi hk hw hd)
theorem losL_next {p : Pr} (hp : p ∈ losL e) {i k : Nat} (hi : i < (e.rows.getD p.s.toNat []).length) (hk : k < (e.rows.getD p.t.toNat []).length) (hw : (cellAt e p.s.toNat i).word = (cellAt e p.t.toNat k).word) :
    ⟨(cellAt e p.s.toNat i).to, (cellAt e p.t.toNat k).to⟩ ∈ losL e := by
  obtain ⟨j, hj, rfl⟩ := List.mem_iff_getElem.1 hp
  have hl := losQ_len hv (e.rows.length * e.rows.length)
  have hj' : j < (losQ e (e.rows.length * e.rows.length)).length := hj
  obtain ⟨h1, h2⟩ := losQ_nth hv (i := e.rows.length * e.rows.length) (j := j) (by omega) hj'
  have hin := (losQ_ok hv (e.rows.length * e.rows.length)).at hj'
  have hg : (losQ e (e.rows.length * e.rows.length))[j] = (losQ e j).getD j dp := by rw [← h1, getD_get hj']
  show _ ∈ losQ e _
  have hup := losQ_up hv (j + 1) (e.rows.length * e.rows.length - (j + 1))
  rw [Nat.add_sub_cancel' (by omega)] at hup
  refine hup.mem ?_
  rw [losQ_succ h2]
  rw [h1] at hin
  change i < (e.rows.getD (losQ e (e.rows.length * e.rows.length))[j].s.toNat []).length at hi
  change k < (e.rows.getD (losQ e (e.rows.length * e.rows.length))[j].t.toNat []).length at hk
  change (cellAt e (losQ e (e.rows.length * e.rows.length))[j].s.toNat i).word = (cellAt e (losQ e (e.rows.length * e.rows.length))[j].t.toNat k).word at hw
  show (⟨(cellAt e (losQ e (e.rows.length * e.rows.length))[j].s.toNat i).to, (cellAt e (losQ e (e.rows.length * e.rows.length))[j].t.toNat k).to⟩ : Pr) ∈ _
  rw [hg] at hi hk hw ⊢
  obtain ⟨q1, q2⟩ := hin
  exact losAdd_mem hv (by omega) (by omega) hi hk hw (fun h => by cases h)
theorem losB_ne (hb : losB e = true) {p : Pr} (hp : p ∈ losL e) : p.s ≠ p.t := by
  have _h := hv
  unfold losB at hb
  exact of_decide_eq_true (List.all_eq_true.1 hb p hp)

theorem app_len {α : Type} {a b c d : List α} (h : a ++ b = c ++ d) (hl : a.length = c.length) : a = c ∧ b = d := by
  have _h := hv
  exact List.append_inj h hl
/-- two lists that go on from a pair of the list, write the same: their ends are a pair of the list. -/
theorem los_run : ∀ {a b : List Int} {p : Pr}, p ∈ losL e → a.length = b.length → (∀ i ∈ a, badI e i = false) → (∀ i ∈ b, badI e i = false) → (runE e p.s a).1 = (runE e p.t b).1 → ⟨(runE e p.s a).2, (runE e p.t b).2⟩ ∈ losL e
  | [], [], p, hp, _, _, _, _ => hp
  | x :: a, y :: b, p, hp, hl, ha, hb, hw => by
    obtain ⟨⟨q1, q2⟩, q3, q4⟩ := (losQ_ok hv (e.rows.length * e.rows.length)).inE p hp
    have hx := bad_no.1 (ha x (by simp))
    have hy := bad_no.1 (hb y (by simp))
    have r1 := row_eq hv (k := p.s.toNat) (by omega)
    have r2 := row_eq hv (k := p.t.toNat) (by omega)
    have w1 := cell_wlen hv (s := p.s.toNat) (i := x.toNat) (by omega) (by omega)
    have w2 := cell_wlen hv (s := p.t.toNat) (i := y.toNat) (by omega) (by omega)
    simp only [runE] at hw ⊢
    obtain ⟨h1, h2⟩ := List.append_inj hw (by omega)
    exact los_run (p := ⟨(cellAt e p.s.toNat x.toNat).to, (cellAt e p.t.toNat y.toNat).to⟩) (losL_next hv hp (by omega) (by omega) h1) (by simpa using hl) (fun i hi => ha i (by simp [hi])) (fun i hi => hb i (by simp [hi])) h2
/-- LOSSLESS: what is written, and the end, decide the inputs. -/
theorem los_law (hb : losB e = true) : ∀ {a b : List Int} {s : Int}, 0 ≤ s → s < (e.rows.length : Int) → a.length = b.length → (∀ i ∈ a, badI e i = false) → (∀ i ∈ b, badI e i = false) → (runE e s a).1 = (runE e s b).1 → (runE e s a).2 = (runE e s b).2 → a = b
  | [], [], s, _, _, _, _, _, _, _ => rfl
  | x :: a, y :: b, s, h0, h1, hl, ha, hbb, hw, he => by
    have hx := bad_no.1 (ha x (by simp))
    have hy := bad_no.1 (hbb y (by simp))
    have r1 := row_eq hv (k := s.toNat) (by omega)
    have w1 := cell_wlen hv (s := s.toNat) (i := x.toNat) (by omega) (by omega)
    have w2 := cell_wlen hv (s := s.toNat) (i := y.toNat) (by omega) (by omega)
    simp only [runE] at hw he
    obtain ⟨k1, k2⟩ := List.append_inj hw (by omega)
    by_cases hxy : x = y
    · subst hxy
      obtain ⟨c1, c2⟩ := cell_to hv (s := s.toNat) (i := x.toNat) (by omega) (by omega)
      rw [los_law hb c1 c2 (by simpa using hl) (fun i hi => ha i (by simp [hi])) (fun i hi => hbb i (by simp [hi])) k2 he]
    · have hp := losL_first hv (s := s.toNat) (by omega) (i := x.toNat) (k := y.toNat) (by omega) (by omega) k1 (by omega)
      have hq := los_run hv (a := a) (b := b) hp (by simpa using hl) (fun i hi => ha i (by simp [hi])) (fun i hi => hbb i (by simp [hi])) k2
      exact absurd he (losB_ne hv hb hq)
/-- two equal cells in a row: not lossless. -/
theorem los_cells (hb : losB e = true) {s : Nat} (hs : s < e.rows.length) {i k : Nat} (hi : i < (e.rows.getD s []).length) (hk : k < (e.rows.getD s []).length) (hne : i ≠ k) : cellAt e s i ≠ cellAt e s k := by
  intro h
  have hp := losL_first hv hs hi hk (by rw [h]) hne
  exact losB_ne hv hb hp (by rw [h])
end
end Go.Proofs.YtfoeigajlkonpaaDoor
