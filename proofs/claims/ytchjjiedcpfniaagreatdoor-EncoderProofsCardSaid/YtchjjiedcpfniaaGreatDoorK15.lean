/- Parts of the proof: QM. -/
import Derived.Test.YtchjjiedcpfniaaGreatDoorK09
import Derived.Test.YtchjjiedcpfniaaGreatDoorK10
namespace Go.Proofs.YtchjjiedcpfniaaGreatDoor
set_option linter.unusedSimpArgs false
set_option linter.unusedVariables false
open Go Go.Lift
structure Cell where
  to : Int
  word : List UInt8
deriving DecidableEq, Inhabited
structure Enc where
  letters : Int
  block : Int
  inputs : Int
  rows : List (List Cell)
deriving DecidableEq, Inhabited
def dc : Cell := ⟨0, []⟩
def cellF (c : Cell) (j : Nat) : AVal := match j with
  | 0 => .int .i64 c.to
  | _ => .str c.word
@[simp] theorem cellF0 {c : Cell} : cellF c 0 = .int .i64 c.to := rfl
@[simp] theorem cellF1 {c : Cell} : cellF c 1 = .str c.word := rfl
@[simp] theorem one_cellF {c : Cell} {j : Nat} : (cellF c j).one = true := by unfold cellF; split <;> rfl
@[simp] theorem Clo_cellF {c : Cell} {j : Nat} : Clo (cellF c j) := by unfold cellF; split <;> trivial
@[simp] theorem ren_cellF {ρ : Nat → Nat} {c : Cell} {j : Nat} : ren ρ (cellF c j) = cellF c j := by unfold cellF; split <;> rfl
@[simp] theorem flat_cellF {c : Cell} {j : Nat} : flat (cellF c j) := by unfold cellF; split <;> trivial
def cells (l : List Cell) : AVal := vec 2 cellF dc l
@[simp] theorem evLen_cells {h : Heap} {l : List Cell} : evLen h (cells l) = some (.int .i64 l.length) := rfl
@[simp] theorem strip_cells {l : List Cell} : strip (cells l) = (cells l, True) := rfl
@[simp] theorem mkOpt_cells {g : Bool} {l : List Cell} : mkOpt g (cells l) = .opt g (cells l) := rfl
@[simp] theorem one_cells {l : List Cell} : (cells l).one = true := rfl
@[simp] theorem acell_cells {l : List Cell} {j : Nat} : acell (cells l) j = cells l := rfl
@[simp] theorem Clo_cells {l : List Cell} : Clo (cells l) := Clo_vec fun x _ j hj => ⟨one_cellF, Clo_cellF⟩
@[simp] theorem lenT_cells {T : Tab} {t : TypeId} {l : List Cell} : lenT T t (cells l) = sliceT T t := lenT_vec
@[simp] theorem evIndexAddr_cells {T : Tab} {h : Heap} {t : TypeId} {k : IntKind} {m : Int} {l : List Cell} : evIndexAddr T h t (cells l) (.int k m) = match elemT T t with
    | some ei => if 2 = ei.size then some (.vptr 2 (fun j => cellF (l.getD m.toNat dc) j) 0, 0 ≤ m ∧ m < (l.length : Int)) else none
    | none => none := evIndexAddr_vec
@[simp] theorem evSrc_cells {h : Heap} {l : List Cell} : evSrc h 2 (cells l) = some (l.length, (fun i j => cellF (l.getD i dc) j), True) := by
  unfold cells
  rw [evSrc_vec rfl]
  rfl
@[simp] theorem evBin_cells {o : BinOp} {v : AVal} {l : List Cell} : evBin o (cells l) v = none := rfl
@[simp] theorem evEq_cells {T : Tab} {t : TypeId} {l : List Cell} : evEq T .eql t (cells l) .nils = if sliceT T t then some (.ub (l.length = 0)) else none := rfl
@[simp] theorem VLe_cells_nils {h : Heap} {σ : Lift.Id → Lift.Id} {fz : Nat → Bool} {vz : Lift.Id → Bool} {x : Nat} {l : List Cell} : VLe h σ fz vz x (cells l) .nils = (l.length = 0) := rfl
@[simp] theorem VLe_cells_sl {h : Heap} {σ : Lift.Id → Lift.Id} {fz : Nat → Bool} {vz : Lift.Id → Bool} {y lo x' : Nat} {id : Lift.Id} {l : List Cell} : VLe h σ fz vz y (cells l) (.sl id lo x') = (x' = l.length ∧ fz id.1 = true ∧ match lkH h id with
    | some (.arr N s' g') => s' = 2 ∧ lo + l.length ≤ N ∧ ∀ i, i < l.length → ∀ j, j < 2 → (cellF (l.getD i dc) j).one = true ∧ VLe h σ fz vz y (cellF (l.getD i dc) j) (g' (lo + i) j)
    | _ => False) := VLe_vsl_sl
@[simp] theorem VLe_cells_vsl {h : Heap} {σ : Lift.Id → Lift.Id} {fz : Nat → Bool} {vz : Lift.Id → Bool} {x' s' y : Nat} {g' : Nat → Nat → AVal} {l : List Cell} : VLe h σ fz vz y (cells l) (.vsl x' s' g') = (x' = l.length ∧ s' = 2 ∧ ∀ i, i < l.length → ∀ j, j < 2 → (cellF (l.getD i dc) j).one = true ∧ VLe h σ fz vz y (cellF (l.getD i dc) j) (g' i j)) := rfl
@[simp] theorem ren_cells {ρ : Nat → Nat} {l : List Cell} : ren ρ (cells l) = cells l := ren_vec fun _ _ => ren_cellF
def rowsC (l : List (List Cell)) : AVal := vec 1 (fun (x : List Cell) _ => cells x) [] l
@[simp] theorem evLen_rowsC {h : Heap} {l : List (List Cell)} : evLen h (rowsC l) = some (.int .i64 l.length) := rfl
@[simp] theorem strip_rowsC {l : List (List Cell)} : strip (rowsC l) = (rowsC l, True) := rfl
@[simp] theorem mkOpt_rowsC {g : Bool} {l : List (List Cell)} : mkOpt g (rowsC l) = .opt g (rowsC l) := rfl
@[simp] theorem one_rowsC {l : List (List Cell)} : (rowsC l).one = true := rfl
@[simp] theorem acell_rowsC {l : List (List Cell)} {j : Nat} : acell (rowsC l) j = rowsC l := rfl
@[simp] theorem Clo_rowsC {l : List (List Cell)} : Clo (rowsC l) := Clo_vec fun x _ j hj => ⟨rfl, Clo_cells⟩
@[simp] theorem lenT_rowsC {T : Tab} {t : TypeId} {l : List (List Cell)} : lenT T t (rowsC l) = sliceT T t := lenT_vec
@[simp] theorem evIndexAddr_rowsC {T : Tab} {h : Heap} {t : TypeId} {k : IntKind} {m : Int} {l : List (List Cell)} : evIndexAddr T h t (rowsC l) (.int k m) = match elemT T t with
    | some ei => if 1 = ei.size then some (.vptr 1 (fun j => (fun (x : List Cell) _ => cells x) (l.getD m.toNat []) j) 0, 0 ≤ m ∧ m < (l.length : Int)) else none
    | none => none := evIndexAddr_vec
@[simp] theorem evSrc_rowsC {h : Heap} {l : List (List Cell)} : evSrc h 1 (rowsC l) = some (l.length, (fun i j => (fun (x : List Cell) _ => cells x) (l.getD i []) j), True) := by
  unfold rowsC
  rw [evSrc_vec rfl]
  rfl
@[simp] theorem evBin_rowsC {o : BinOp} {v : AVal} {l : List (List Cell)} : evBin o (rowsC l) v = none := rfl
@[simp] theorem evEq_rowsC {T : Tab} {t : TypeId} {l : List (List Cell)} : evEq T .eql t (rowsC l) .nils = if sliceT T t then some (.ub (l.length = 0)) else none := rfl
@[simp] theorem VLe_rowsC_nils {h : Heap} {σ : Lift.Id → Lift.Id} {fz : Nat → Bool} {vz : Lift.Id → Bool} {x : Nat} {l : List (List Cell)} : VLe h σ fz vz x (rowsC l) .nils = (l.length = 0) := rfl
@[simp] theorem VLe_rowsC_sl {h : Heap} {σ : Lift.Id → Lift.Id} {fz : Nat → Bool} {vz : Lift.Id → Bool} {y lo x' : Nat} {id : Lift.Id} {l : List (List Cell)} : VLe h σ fz vz y (rowsC l) (.sl id lo x') = (x' = l.length ∧ fz id.1 = true ∧ match lkH h id with
    | some (.arr N s' g') => s' = 1 ∧ lo + l.length ≤ N ∧ ∀ i, i < l.length → ∀ j, j < 1 → ((fun (x : List Cell) _ => cells x) (l.getD i []) j).one = true ∧ VLe h σ fz vz y ((fun (x : List Cell) _ => cells x) (l.getD i []) j) (g' (lo + i) j)
    | _ => False) := VLe_vsl_sl
@[simp] theorem VLe_rowsC_vsl {h : Heap} {σ : Lift.Id → Lift.Id} {fz : Nat → Bool} {vz : Lift.Id → Bool} {x' s' y : Nat} {g' : Nat → Nat → AVal} {l : List (List Cell)} : VLe h σ fz vz y (rowsC l) (.vsl x' s' g') = (x' = l.length ∧ s' = 1 ∧ ∀ i, i < l.length → ∀ j, j < 1 → ((fun (x : List Cell) _ => cells x) (l.getD i []) j).one = true ∧ VLe h σ fz vz y ((fun (x : List Cell) _ => cells x) (l.getD i []) j) (g' i j)) := rfl
@[simp] theorem ren_rowsC {ρ : Nat → Nat} {l : List (List Cell)} : ren ρ (rowsC l) = rowsC l := ren_vec fun _ _ => ren_cells
def encF (e : Enc) (j : Nat) : AVal := match j with
  | 0 => .int .i64 e.letters
  | 1 => .int .i64 e.block
  | 2 => .int .i64 e.inputs
  | _ => rowsC e.rows
@[simp] theorem encF0 {e : Enc} : encF e 0 = .int .i64 e.letters := rfl
@[simp] theorem encF1 {e : Enc} : encF e 1 = .int .i64 e.block := rfl
@[simp] theorem encF2 {e : Enc} : encF e 2 = .int .i64 e.inputs := rfl
@[simp] theorem encF3 {e : Enc} : encF e 3 = rowsC e.rows := rfl
@[simp] theorem one_encF {e : Enc} {j : Nat} : (encF e j).one = true := by unfold encF; split <;> rfl
@[simp] theorem Clo_encF {e : Enc} {j : Nat} : Clo (encF e j) := by unfold encF; split <;> first | trivial | exact Clo_rowsC
@[simp] theorem ren_encF {ρ : Nat → Nat} {e : Enc} {j : Nat} : ren ρ (encF e j) = encF e j := by unfold encF; split <;> first | rfl | exact ren_rowsC
@[simp] theorem mkOpt_vecF {α : Type} {g : Bool} {f : α → Nat → AVal} {d : α} {l : List α} {i j : Nat} : mkOpt g (vecF f d l i j) = mkOpt g (f (l.getD i d) j) := rfl
end Go.Proofs.YtchjjiedcpfniaaGreatDoor
namespace Go.Proofs.YtchjjiedcpfniaaGreatDoor
set_option linter.unusedSimpArgs false
set_option linter.unusedVariables false
open Go Go.Lift
theorem firstNZ_hit {α : Type} {f : α → Int} {d : α} : ∀ {l : List α} {k : Nat}, (∀ j, j < k → f (l.getD j d) = 0) → k < l.length → f (l.getD k d) ≠ 0 → firstNZ f l = f (l.getD k d)
  | [], k, _, hk, _ => absurd hk (Nat.not_lt_zero _)
  | x :: r, 0, _, _, h => by simp only [List.getD_cons_zero] at h ⊢; simp [firstNZ, h]
  | x :: r, k + 1, h0, hk, h => by
    have hx := h0 0 (Nat.succ_pos _)
    simp only [List.getD_cons_zero] at hx
    simp only [List.getD_cons_succ] at h ⊢
    simp only [firstNZ, hx, if_true]
    exact firstNZ_hit (fun j hj => by simpa using h0 (j + 1) (by omega)) (by simpa using hk) h
theorem firstNZ_zeroL {α : Type} {f : α → Int} {d : α} : ∀ {l : List α}, (∀ j, j < l.length → f (l.getD j d) = 0) → firstNZ f l = 0
  | [], _ => rfl
  | x :: r, h => by
    have hx := h 0 (Nat.succ_pos _)
    simp only [List.getD_cons_zero] at hx
    simp only [firstNZ, hx, if_true]
    exact firstNZ_zeroL (fun j hj => by simpa using h (j + 1) (by simpa using hj))
theorem firstNZ_all {α : Type} {f : α → Int} : ∀ {l : List α}, firstNZ f l = 0 → ∀ x ∈ l, f x = 0
  | [], _, x, hx => by cases hx
  | y :: r, h, x, hx => by
    by_cases hy : f y = 0
    · simp only [firstNZ, hy, if_true] at h
      cases hx with
      | head => exact hy
      | tail _ hx => exact firstNZ_all h x hx
    · simp only [firstNZ, hy, if_false] at h
def cellCheck (e : Enc) (c : Cell) : Int := if c.to < 0 ∨ (e.rows.length : Int) ≤ c.to then 25 else if (c.word.length : Int) ≠ e.block ∨ wordCheck e.letters c.word ≠ 0 then 13 else 0
def rowCheck (e : Enc) (r : List Cell) : Int := if (r.length : Int) ≠ e.inputs then 11 else firstNZ (cellCheck e) r
def checkE (e : Enc) : Int :=
  if e.letters < 1 ∨ 16 < e.letters then 12 else if (e.block < 1 ∨ 16 < e.block) ∨ e.inputs < 1 ∨ 256 < e.inputs then 2 else if e.rows.length = 0 then 5 else if 64 < e.rows.length then 4 else firstNZ (rowCheck e) e.rows
section
variable {e : Enc}
theorem checkE_letters (h : ¬ (1 ≤ e.letters ∧ e.letters ≤ 16)) : checkE e = 12 := by unfold checkE; rw [if_pos (by omega)]
theorem checkE_range (h : 1 ≤ e.letters ∧ e.letters ≤ 16) (h2 : ¬ (1 ≤ e.block ∧ e.block ≤ 16 ∧ 1 ≤ e.inputs ∧ e.inputs ≤ 256)) : checkE e = 2 := by unfold checkE; rw [if_neg (by omega), if_pos (by omega)]
structure Dims (e : Enc) : Prop where
  letters : 1 ≤ e.letters ∧ e.letters ≤ 16
  block : 1 ≤ e.block ∧ e.block ≤ 16
  inputs : 1 ≤ e.inputs ∧ e.inputs ≤ 256
theorem checkE_empty (h : Dims e) (h2 : e.rows.length = 0) : checkE e = 5 := by
  obtain ⟨h1, h3, h4⟩ := h
  unfold checkE; rw [if_neg (by omega), if_neg (by omega), if_pos h2]
theorem checkE_limit (h : Dims e) (h2 : 64 < e.rows.length) : checkE e = 4 := by
  obtain ⟨h1, h3, h4⟩ := h
  unfold checkE; rw [if_neg (by omega), if_neg (by omega), if_neg (by omega), if_pos h2]
theorem checkE_rows (h : Dims e) (h2 : 0 < e.rows.length) (h5 : e.rows.length ≤ 64) : checkE e = firstNZ (rowCheck e) e.rows := by
  obtain ⟨h1, h3, h4⟩ := h
  unfold checkE; rw [if_neg (by omega), if_neg (by omega), if_neg (by omega), if_neg (by omega)]
theorem checkE_row (h : Dims e) (h2 : 0 < e.rows.length) (h5 : e.rows.length ≤ 64) {k : Nat} (hk : k < e.rows.length) (h0 : ∀ j, j < k → rowCheck e (e.rows.getD j []) = 0) {n : Int} (hn : rowCheck e (e.rows.getD k []) = n) (hne : n ≠ 0) : checkE e = n := by
  rw [checkE_rows h h2 h5, ← hn]
  exact firstNZ_hit h0 hk (by rw [hn]; exact hne)
theorem rowCheck_len {r : List Cell} (h : ¬ (r.length : Int) = e.inputs) : rowCheck e r = 11 := by unfold rowCheck; rw [if_pos h]
theorem rowCheck_cell {r : List Cell} (h : (r.length : Int) = e.inputs) {k : Nat} (hk : k < r.length) (h0 : ∀ j, j < k → cellCheck e (r.getD j dc) = 0) {n : Int} (hn : cellCheck e (r.getD k dc) = n) (hne : n ≠ 0) : rowCheck e r = n := by
  unfold rowCheck
  rw [if_neg (by omega), ← hn]
  exact firstNZ_hit h0 hk (by rw [hn]; exact hne)
theorem rowCheck_ok {r : List Cell} (h : (r.length : Int) = e.inputs) (h0 : ∀ j, j < r.length → cellCheck e (r.getD j dc) = 0) : rowCheck e r = 0 := by
  unfold rowCheck
  rw [if_neg (by omega)]
  exact firstNZ_zeroL h0
theorem cellCheck_to {c : Cell} (h : c.to < 0 ∨ (e.rows.length : Int) ≤ c.to) : cellCheck e c = 25 := by unfold cellCheck; rw [if_pos h]
theorem cellCheck_word {c : Cell} (h : 0 ≤ c.to ∧ c.to < (e.rows.length : Int)) (h2 : ¬ (c.word.length : Int) = e.block ∨ ¬ wordCheck e.letters c.word = 0) : cellCheck e c = 13 := by unfold cellCheck; rw [if_neg (by omega), if_pos h2]
theorem cellCheck_ok {c : Cell} (h : 0 ≤ c.to ∧ c.to < (e.rows.length : Int)) (h2 : (c.word.length : Int) = e.block ∧ wordCheck e.letters c.word = 0) : cellCheck e c = 0 := by
  unfold cellCheck; rw [if_neg (by omega), if_neg]
  rintro (h3 | h3)
  · exact h3 h2.1
  · exact h3 h2.2
end
theorem checkE_valid {e : Enc} (h : checkE e = 0) : Dims e ∧ 0 < e.rows.length ∧ e.rows.length ≤ 64 ∧ ∀ r ∈ e.rows, rowCheck e r = 0 := by
  unfold checkE at h
  split at h
  · cases h
  · split at h
    · cases h
    · split at h
      · cases h
      · split at h
        · cases h
        · exact ⟨⟨by omega, by omega, by omega⟩, by omega, by omega, firstNZ_all h⟩
theorem rowCheck_valid {e : Enc} {r : List Cell} (h : rowCheck e r = 0) : (r.length : Int) = e.inputs ∧ ∀ c ∈ r, cellCheck e c = 0 := by
  unfold rowCheck at h
  split at h
  · cases h
  · exact ⟨by omega, firstNZ_all h⟩
theorem rows_len {e : Enc} (h : checkE e = 0) : e.rows.length ≤ 64 := (checkE_valid h).2.2.1
theorem row_eq {e : Enc} (h : checkE e = 0) {k : Nat} (hk : k < e.rows.length) : ((e.rows.getD k []).length : Int) = e.inputs := (rowCheck_valid ((checkE_valid h).2.2.2 _ (getD_mem hk))).1
theorem row_len {e : Enc} (h : checkE e = 0) {k : Nat} (hk : k < e.rows.length) : (e.rows.getD k []).length ≤ 256 := by
  have h1 := row_eq h hk
  have h2 := (checkE_valid h).1.inputs
  omega
def cellAt (e : Enc) (s i : Nat) : Cell := (e.rows.getD s []).getD i dc
theorem cell_to {e : Enc} (h : checkE e = 0) {s i : Nat} (hs : s < e.rows.length) (hi : i < (e.rows.getD s []).length) : 0 ≤ (cellAt e s i).to ∧ (cellAt e s i).to < (e.rows.length : Int) := by
  have h1 := (rowCheck_valid ((checkE_valid h).2.2.2 _ (getD_mem (d := []) hs))).2 _ (getD_mem (d := dc) hi)
  unfold cellCheck at h1
  unfold cellAt
  split at h1
  · cases h1
  · omega
theorem nodup_le : ∀ {n : Nat} {L : List Int}, L.Nodup → (∀ x ∈ L, 0 ≤ x ∧ x < (n : Int)) → L.length ≤ n
  | 0, [], _, _ => Nat.le_refl _
  | 0, x :: L, _, h => by have := h x List.mem_cons_self; omega
  | n + 1, L, hn, h => by
    by_cases hm : (n : Int) ∈ L
    · have h1 := nodup_le (n := n) (L := L.erase (n : Int)) (hn.erase _) fun x hx => by
        have h2 := h x (List.mem_of_mem_erase hx)
        have h3 : x ≠ (n : Int) := fun e => by rw [e] at hx; exact (hn.not_mem_erase) hx
        omega
      rw [List.length_erase_of_mem hm] at h1
      omega
    · have := nodup_le (n := n) hn fun x hx => by
        have h2 := h x hx
        have h3 : x ≠ (n : Int) := fun e => by rw [e] at hx; exact hm hx
        omega
      omega
def runE (e : Enc) (s : Int) : List Int → List UInt8 × Int
  | [] => ([], s)
  | i :: r => ((cellAt e s.toNat i.toNat).word ++ (runE e (cellAt e s.toNat i.toNat).to r).1, (runE e (cellAt e s.toNat i.toNat).to r).2)
theorem runE_snoc {e : Enc} : ∀ {l : List Int} {s i : Int}, runE e s (l ++ [i]) = ((runE e s l).1 ++ (cellAt e (runE e s l).2.toNat i.toNat).word, (cellAt e (runE e s l).2.toNat i.toNat).to)
  | [], s, i => by simp [runE]
  | x :: l, s, i => by
    simp only [List.cons_append, runE]
    rw [runE_snoc (l := l)]
    simp
theorem runE_take {e : Enc} {l : List Int} {s : Int} {k : Nat} (hk : k < l.length) : runE e s (l.take (k + 1)) = ((runE e s (l.take k)).1 ++ (cellAt e (runE e s (l.take k)).2.toNat (l.getD k 0).toNat).word, (cellAt e (runE e s (l.take k)).2.toNat (l.getD k 0).toNat).to) := by
  have : l.take (k + 1) = l.take k ++ [l.getD k 0] := by
    rw [List.take_add_one, List.getElem?_eq_getElem hk]
    simp [List.getD, hk]
  rw [this, runE_snoc]
def badI (e : Enc) (i : Int) : Bool := decide (i < 0) || decide (e.inputs ≤ i)
theorem cell_wlen {e : Enc} (h : checkE e = 0) {s i : Nat} (hs : s < e.rows.length) (hi : i < (e.rows.getD s []).length) : ((cellAt e s i).word.length : Int) = e.block := by
  have h1 := (rowCheck_valid ((checkE_valid h).2.2.2 _ (getD_mem (d := []) hs))).2 _ (getD_mem (d := dc) hi)
  unfold cellCheck at h1
  unfold cellAt
  split at h1
  · cases h1
  · split at h1
    · cases h1
    · rename_i h2
      exact Classical.byContradiction fun h3 => h2 (.inl h3)
theorem bad_no {e : Enc} {i : Int} : badI e i = false ↔ 0 ≤ i ∧ i < e.inputs := by
  simp [badI]
theorem runE_ok {e : Enc} (hv : checkE e = 0) : ∀ {l : List Int} {s : Int}, 0 ≤ s → s < (e.rows.length : Int) → (∀ i ∈ l, badI e i = false) →
    0 ≤ (runE e s l).2 ∧ (runE e s l).2 < (e.rows.length : Int) ∧ ((runE e s l).1.length : Int) = (l.length : Int) * e.block
  | [], s, h0, h1, _ => by simp [runE]; omega
  | i :: l, s, h0, h1, h2 => by
    have hi := bad_no.1 (h2 i (by simp))
    have hr := row_eq hv (k := s.toNat) (by omega)
    have hc := cell_to hv (s := s.toNat) (i := i.toNat) (by omega) (by omega)
    have hw := cell_wlen hv (s := s.toNat) (i := i.toNat) (by omega) (by omega)
    obtain ⟨k1, k2, k3⟩ := runE_ok hv (l := l) (s := (cellAt e s.toNat i.toNat).to) hc.1 hc.2 (fun x hx => h2 x (by simp [hx]))
    simp only [runE]
    refine ⟨k1, k2, ?_⟩
    rw [List.length_append, Int.natCast_add, k3, hw, List.length_cons, Int.natCast_add, Int.add_mul]
    omega
theorem mul_bd {a b c : Int} (ha : 0 ≤ a ∧ a ≤ c) (hb : 1 ≤ b ∧ b ≤ 16) : 0 ≤ a * b ∧ a * b ≤ c * 16 := ⟨Int.mul_nonneg ha.1 (by omega), Int.le_trans (Int.mul_le_mul_of_nonneg_right ha.2 (by omega)) (Int.mul_le_mul_of_nonneg_left hb.2 (by omega))⟩
theorem run_at {e : Enc} (hv : checkE e = 0) {s : Int} {l : List Int} (h0 : 0 ≤ s) (h1 : s < (e.rows.length : Int)) (hg : l.any (badI e) = false) (hm : (l.length : Int) * e.block ≤ 65536) {k : Nat} (hk : k ≤ l.length) :
    (0 ≤ (runE e s (l.take k)).2 ∧ (runE e s (l.take k)).2 < (e.rows.length : Int)) ∧ ((runE e s (l.take k)).1.length : Int) = (k : Int) * e.block ∧ (runE e s (l.take k)).1.length ≤ 65536 := by
  have hb := (checkE_valid hv).1.block
  have hg' : ∀ x ∈ l.take k, badI e x = false := fun x hx => by
    have := List.any_eq_false.1 hg x (List.mem_of_mem_take hx)
    simpa using this
  obtain ⟨k1, k2, k3⟩ := runE_ok hv h0 h1 hg'
  rw [List.length_take, Nat.min_eq_left hk] at k3
  refine ⟨⟨k1, k2⟩, k3, ?_⟩
  have : (k : Int) * e.block ≤ l.length * e.block := Int.mul_le_mul_of_nonneg_right (by omega) (by omega)
  omega
theorem good_at {e : Enc} {l : List Int} (hg : l.any (badI e) = false) {k : Nat} (hk : k < l.length) : badI e (l.getD k 0) = false := by
  have := List.any_eq_false.1 hg _ (getD_mem (d := 0) hk)
  simpa using this
theorem run_ne {e : Enc} {w : List UInt8} {k : Nat} (hb : 1 ≤ e.block) (hk : 0 < k) (h : (w.length : Int) = (k : Int) * e.block) : w ≠ [] := by
  rintro rfl
  have := Int.mul_le_mul_of_nonneg_left hb (show (0 : Int) ≤ k by omega)
  simp only [List.length_nil] at h
  omega
def encodeN (e : Enc) (s : Int) (l : List Int) : Int :=
  if checkE e ≠ 0 then 1 else if s < 0 ∨ (e.rows.length : Int) ≤ s then 25 else if l.any (badI e) = true then 2 else if 65536 < (l.length : Int) * e.block then 4 else 0
def encodeW (e : Enc) (s : Int) (l : List Int) : List UInt8 := if encodeN e s l = 0 then (runE e s l).1 else []
def encodeT (e : Enc) (s : Int) (l : List Int) : Int := if encodeN e s l = 0 then (runE e s l).2 else 0
def encodeR (e : Enc) (s : Int) (l : List Int) : AVal := .tup 3 (fun j => [.str (encodeW e s l), .int .i64 (encodeT e s l), .int .i64 (encodeN e s l)].getD j .any)
theorem encodeR_err {e : Enc} {s : Int} {l : List Int} {n : Int} (h : encodeN e s l = n) (hn : n ≠ 0) : encodeR e s l = .tup 3 (fun j => [.str [], .int .i64 0, .int .i64 n].getD j .any) := by
  unfold encodeR encodeW encodeT
  rw [h, if_neg hn, if_neg hn]
theorem encodeR_ok {e : Enc} {s : Int} {l : List Int} (h : encodeN e s l = 0) : encodeR e s l = .tup 3 (fun j => [.str (runE e s l).1, .int .i64 (runE e s l).2, .int .i64 0].getD j .any) := by
  unfold encodeR encodeW encodeT
  rw [if_pos h, if_pos h, h]
end Go.Proofs.YtchjjiedcpfniaaGreatDoor
namespace Go.Proofs.YtchjjiedcpfniaaGreatDoor
set_option linter.unusedSimpArgs false
set_option linter.unusedVariables false
open Go Go.Lift
structure Pr where
  s : Int
  t : Int
deriving DecidableEq, Inhabited
def dp : Pr := ⟨0, 0⟩
structure Ext (P : Pr → Prop) (Q R : List Pr) : Prop where
  pre : Q <+: R
  nd : Q.Nodup → R.Nodup
  new : ∀ p ∈ R, p ∈ Q ∨ P p
theorem Ext.refl {P : Pr → Prop} {Q : List Pr} : Ext P Q Q := ⟨List.prefix_refl _, id, fun p h => .inl h⟩
theorem Ext.trans {P : Pr → Prop} {Q R S : List Pr} (h : Ext P Q R) (k : Ext P R S) : Ext P Q S :=
  ⟨h.pre.trans k.pre, fun x => k.nd (h.nd x), fun p hp => (k.new p hp).elim (fun h1 => h.new p h1) .inr⟩
theorem Ext.imp {P P' : Pr → Prop} {Q R : List Pr} (h : Ext P Q R) (k : ∀ p, P p → P' p) : Ext P' Q R := ⟨h.pre, h.nd, fun p hp => (h.new p hp).imp id (k p)⟩
theorem Ext.mem {P : Pr → Prop} {Q R : List Pr} (h : Ext P Q R) {p : Pr} (hp : p ∈ Q) : p ∈ R := h.pre.subset hp
theorem Ext.fold {P : Pr → Prop} {f : List Pr → Nat → List Pr} {n : Nat} (h : ∀ Q i, i < n → Ext P Q (f Q i)) : ∀ (k : Nat) (Q : List Pr), k ≤ n → Ext P Q ((List.range k).foldl f Q)
  | 0, Q, _ => .refl
  | k + 1, Q, hk => by
    rw [List.range_succ, List.foldl_append]
    exact (Ext.fold h k Q (by omega)).trans (h _ k (by omega))
def losPut (Q : List Pr) (p : Pr) : List Pr := if p ∈ Q then Q else Q ++ [p]
theorem losPut_ext {Q : List Pr} {p : Pr} {P : Pr → Prop} (h : P p) : Ext P Q (losPut Q p) := by
  unfold losPut
  split
  · exact .refl
  · rename_i hn
    refine ⟨List.prefix_append _ _, fun hd => ?_, fun q hq => ?_⟩
    · rw [List.nodup_append]
      refine ⟨hd, by simp, fun a ha b hb e => ?_⟩
      rw [List.mem_singleton] at hb
      subst hb; subst e; exact hn ha
    · rcases List.mem_append.1 hq with h1 | h1
      · exact .inl h1
      · rw [List.mem_singleton] at h1; subst h1; exact .inr h
def losIf (a b : List Cell) (d : Bool) (i : Nat) (Q : List Pr) (k : Nat) : List Pr :=
  if (a.getD i dc).word = (b.getD k dc).word ∧ (d = true → i ≠ k) then losPut Q ⟨(a.getD i dc).to, (b.getD k dc).to⟩ else Q
def losRow (a b : List Cell) (d : Bool) (i : Nat) (Q : List Pr) (k : Nat) : List Pr := (List.range k).foldl (losIf a b d i) Q
def losAdd (a b : List Cell) (d : Bool) (Q : List Pr) (i : Nat) : List Pr := (List.range i).foldl (fun Q i => losRow a b d i Q b.length) Q
def los0 (e : Enc) (s : Nat) : List Pr := (List.range s).foldl (fun Q s => losAdd (e.rows.getD s []) (e.rows.getD s []) true Q (e.rows.getD s []).length) []
def losNext (e : Enc) (Q : List Pr) (p : Pr) : List Pr := losAdd (e.rows.getD p.s.toNat []) (e.rows.getD p.t.toNat []) false Q (e.rows.getD p.s.toNat []).length
def losQ (e : Enc) : Nat → List Pr
  | 0 => los0 e e.rows.length
  | i + 1 => if i < (losQ e i).length then losNext e (losQ e i) ((losQ e i).getD i dp) else losQ e i
def losL (e : Enc) : List Pr := losQ e (e.rows.length * e.rows.length)
def losB (e : Enc) : Bool := (losL e).all fun p => decide (p.s ≠ p.t)
theorem losRow_succ {a b : List Cell} {d : Bool} {i k : Nat} {Q : List Pr} : losRow a b d i Q (k + 1) = losIf a b d i (losRow a b d i Q k) k := by simp [losRow, List.range_succ]
theorem losAdd_succ {a b : List Cell} {d : Bool} {i : Nat} {Q : List Pr} : losAdd a b d Q (i + 1) = losRow a b d i (losAdd a b d Q i) b.length := by simp [losAdd, List.range_succ]
theorem los0_succ {e : Enc} {s : Nat} : los0 e (s + 1) = losAdd (e.rows.getD s []) (e.rows.getD s []) true (los0 e s) (e.rows.getD s []).length := by simp [los0, List.range_succ]
theorem losQ_succ {e : Enc} {i : Nat} (h : i < (losQ e i).length) : losQ e (i + 1) = losNext e (losQ e i) ((losQ e i).getD i dp) := if_pos h
def InE (e : Enc) (p : Pr) : Prop := (0 ≤ p.s ∧ p.s < (e.rows.length : Int)) ∧ 0 ≤ p.t ∧ p.t < (e.rows.length : Int)
section
variable {e : Enc} (hv : checkE e = 0)
include hv
theorem losIf_ext {s t : Nat} (hs : s < e.rows.length) (ht : t < e.rows.length) {d : Bool} {i k : Nat} (hi : i < (e.rows.getD s []).length) (hk : k < (e.rows.getD t []).length) {Q : List Pr} : Ext (InE e) Q (losIf (e.rows.getD s []) (e.rows.getD t []) d i Q k) := by
  unfold losIf
  split
  · exact losPut_ext ⟨cell_to hv hs hi, cell_to hv ht hk⟩
  · exact .refl
theorem losRow_ext {s t : Nat} (hs : s < e.rows.length) (ht : t < e.rows.length) {d : Bool} {i k : Nat} (hi : i < (e.rows.getD s []).length) (hk : k ≤ (e.rows.getD t []).length) {Q : List Pr} : Ext (InE e) Q (losRow (e.rows.getD s []) (e.rows.getD t []) d i Q k) :=
  Ext.fold (fun Q k hk => losIf_ext hv hs ht hi hk) k Q hk
theorem losAdd_ext {s t : Nat} (hs : s < e.rows.length) (ht : t < e.rows.length) {d : Bool} {i : Nat} (hi : i ≤ (e.rows.getD s []).length) {Q : List Pr} : Ext (InE e) Q (losAdd (e.rows.getD s []) (e.rows.getD t []) d Q i) :=
  Ext.fold (fun Q i hi => losRow_ext hv hs ht hi (Nat.le_refl _)) i Q hi
theorem los0_ext {s : Nat} (hs : s ≤ e.rows.length) : Ext (InE e) [] (los0 e s) :=
  Ext.fold (fun Q s hs => losAdd_ext hv hs hs (Nat.le_refl _)) s [] hs
theorem losNext_ext {Q : List Pr} {p : Pr} (h : InE e p) : Ext (InE e) Q (losNext e Q p) :=
  losAdd_ext hv (by have := h.1; omega) (by have := h.2; omega) (Nat.le_refl _)
structure LosOK (e : Enc) (Q : List Pr) : Prop where
  nd : Q.Nodup
  inE : ∀ p ∈ Q, InE e p
omit hv in
theorem LosOK.grow {Q R : List Pr} (h : LosOK e Q) (k : Ext (InE e) Q R) : LosOK e R := ⟨k.nd h.nd, fun p hp => (k.new p hp).elim (h.inE p) id⟩
omit hv in
theorem losOK_nil : LosOK e [] := ⟨List.nodup_nil, fun p hp => by cases hp⟩
omit hv in
theorem LosOK.at {Q : List Pr} (h : LosOK e Q) {i : Nat} (hi : i < Q.length) : InE e (Q.getD i dp) := h.inE _ (getD_mem (d := dp) hi)
theorem losQ_ok : ∀ i, LosOK e (losQ e i)
  | 0 => losOK_nil.grow (los0_ext hv (Nat.le_refl _))
  | i + 1 => by
    show LosOK e (if _ then _ else _)
    split
    · rename_i h; exact (losQ_ok i).grow (losNext_ext hv ((losQ_ok i).at h))
    · exact losQ_ok i
theorem losQ_ext (i : Nat) : Ext (InE e) (losQ e i) (losQ e (i + 1)) := by
  show Ext _ _ (if _ then _ else _)
  split
  · rename_i h; exact losNext_ext hv ((losQ_ok hv i).at h)
  · exact .refl
theorem losQ_up (i : Nat) : ∀ j, Ext (InE e) (losQ e i) (losQ e (i + j))
  | 0 => .refl
  | j + 1 => (losQ_up i j).trans (losQ_ext hv _)
omit hv in
theorem LosOK.len {Q : List Pr} (h : LosOK e Q) : Q.length ≤ e.rows.length * e.rows.length := by
  have h1 := nodup_le (n := e.rows.length * e.rows.length) (L := Q.map fun p => p.s * e.rows.length + p.t) ?_ ?_
  · rwa [List.length_map] at h1
  · unfold List.Nodup
    rw [List.pairwise_map]
    refine (List.Pairwise.imp_of_mem (l := Q) (R := fun a b => a ≠ b) ?_ h.nd)
    intro a b ha hb hne he
    apply hne
    obtain ⟨⟨a1, a2⟩, a3, a4⟩ := h.inE a ha
    obtain ⟨⟨b1, b2⟩, b3, b4⟩ := h.inE b hb
    have e1 : (a.s * e.rows.length + a.t) / (e.rows.length : Int) = a.s := by
      rw [Int.add_comm, Int.add_mul_ediv_right _ _ (by omega), Int.ediv_eq_zero_of_lt a3 a4]; omega
    have e2 : (b.s * e.rows.length + b.t) / (e.rows.length : Int) = b.s := by
      rw [Int.add_comm, Int.add_mul_ediv_right _ _ (by omega), Int.ediv_eq_zero_of_lt b3 b4]; omega
    rw [he, e2] at e1
    obtain ⟨as, at'⟩ := a; obtain ⟨bs, bt⟩ := b
    simp only at *
    subst e1
    congr 1
    omega
  · intro x hx
    obtain ⟨p, hp, rfl⟩ := List.mem_map.1 hx
    obtain ⟨⟨p1, p2⟩, p3, p4⟩ := h.inE p hp
    have h1 : 0 ≤ p.s * (e.rows.length : Int) := Int.mul_nonneg p1 (by omega)
    have h2 : (p.s + 1) * (e.rows.length : Int) ≤ e.rows.length * e.rows.length := Int.mul_le_mul_of_nonneg_right (by omega) (by omega)
    rw [Int.add_mul] at h2
    push_cast
    omega
theorem losQ_len (i : Nat) : (losQ e i).length ≤ e.rows.length * e.rows.length := (losQ_ok hv i).len
omit hv in
theorem losQ_stay {i : Nat} (h : (losQ e i).length ≤ i) : ∀ j, losQ e (i + j) = losQ e i
  | 0 => rfl
  | j + 1 => by
    have := losQ_stay h j
    show (if i + j < (losQ e (i + j)).length then _ else losQ e (i + j)) = _
    rw [if_neg (by rw [this]; omega), this]
theorem losL_of {i : Nat} (h : (losQ e i).length ≤ i) (hi : i ≤ e.rows.length * e.rows.length) : losL e = losQ e i := by
  have _h := hv
  have := losQ_stay h (e.rows.length * e.rows.length - i)
  rwa [Nat.add_sub_cancel' hi] at this
theorem los_hit {i : Nat} (hi : i < (losQ e i).length) (h : ((losQ e i).getD i dp).s = ((losQ e i).getD i dp).t) : losB e = false := by
  have hl := losQ_len hv i
  have h1 := losQ_up hv i (e.rows.length * e.rows.length - i)
  rw [Nat.add_sub_cancel' (by omega)] at h1
  have h2 := h1.mem (getD_mem (d := dp) hi)
  unfold losB
  rw [List.all_eq_false]
  exact ⟨_, h2, by rw [h]; simp⟩
theorem los_end {i : Nat} (hi : (losQ e i).length ≤ i) (hb : i ≤ e.rows.length * e.rows.length) (h : ∀ j, j < i → ((losQ e i).getD j dp).s ≠ ((losQ e i).getD j dp).t) : losB e = true := by
  unfold losB
  rw [losL_of hv hi hb, List.all_eq_true]
  intro p hp
  obtain ⟨j, hj, rfl⟩ := List.mem_iff_getElem.1 hp
  have := h j (by omega)
  rw [getD_get hj] at this
  exact decide_eq_true this
theorem losQ_at {i j : Nat} (h : j < (losQ e i).length) : (losQ e (i + 1)).getD j dp = (losQ e i).getD j dp := by
  obtain ⟨N, hN⟩ := (losQ_ext hv i).pre
  rw [← hN]
  simp only [List.getD_eq_getElem?_getD]; rw [List.getElem?_append_left h]
end
end Go.Proofs.YtchjjiedcpfniaaGreatDoor
namespace Go.Proofs.YtchjjiedcpfniaaGreatDoor
set_option linter.unusedSimpArgs false
set_option linter.unusedVariables false
open Go Go.Lift
section
variable {e : Enc} (hv : checkE e = 0)
include hv
end
end Go.Proofs.YtchjjiedcpfniaaGreatDoor
namespace Go.Proofs.YtchjjiedcpfniaaGreatDoor
set_option linter.unusedSimpArgs false
set_option linter.unusedVariables false
open Go Go.Lift
structure Sb where
  all : List (List Int)
  es : List Edge
def sbPut (g : Gr) (i : Nat) (st : Sb) (k : Nat) : Sb :=
  if stepL g k (st.all.getD i []) = [] then st else
    ⟨if stepL g k (st.all.getD i []) ∈ st.all then st.all else st.all ++ [stepL g k (st.all.getD i [])], st.es ++ [⟨i, k, st.all.idxOf (stepL g k (st.all.getD i []))⟩]⟩
def sbRow (g : Gr) (i : Nat) (st : Sb) (k : Nat) : Sb := (List.range k).foldl (sbPut g i) st
def sbAt (g : Gr) : Nat → Sb
  | 0 => ⟨[iotaL g.states.toNat], []⟩
  | i + 1 => if i < (sbAt g i).all.length then sbRow g i (sbAt g i) g.labels.toNat else sbAt g i
theorem sbRow_zero {g : Gr} {i : Nat} {st : Sb} : sbRow g i st 0 = st := rfl
theorem sbRow_succ {g : Gr} {i k : Nat} {st : Sb} : sbRow g i st (k + 1) = sbPut g i (sbRow g i st k) k := by simp [sbRow, List.range_succ]
theorem sbAt_succ {g : Gr} {i : Nat} (h : i < (sbAt g i).all.length) : sbAt g (i + 1) = sbRow g i (sbAt g i) g.labels.toNat := if_pos h
def sbOver (st : Sb) : Prop := 64 < st.all.length ∨ 1024 < st.es.length
instance {st : Sb} : Decidable (sbOver st) := by unfold sbOver; infer_instance
theorem pre_at {α : Type} {L M : List α} {d : α} (h : L <+: M) {k : Nat} (hk : k < L.length) : M.getD k d = L.getD k d := by
  obtain ⟨N, rfl⟩ := h
  simp only [List.getD_eq_getElem?_getD]; rw [List.getElem?_append_left hk]
structure SbPre (a b : Sb) : Prop where
  all : a.all <+: b.all
  es : a.es <+: b.es
theorem SbPre.refl {a : Sb} : SbPre a a := ⟨List.prefix_refl _, List.prefix_refl _⟩
theorem SbPre.trans {a b c : Sb} (h : SbPre a b) (k : SbPre b c) : SbPre a c := ⟨h.all.trans k.all, h.es.trans k.es⟩
theorem SbPre.over {a b : Sb} (h : SbPre a b) (k : sbOver a) : sbOver b := by
  have := h.all.length_le; have := h.es.length_le
  unfold sbOver at *; omega
theorem sbPut_pre {g : Gr} {i k : Nat} {st : Sb} : SbPre st (sbPut g i st k) := by
  unfold sbPut
  split
  · exact .refl
  · refine ⟨?_, List.prefix_append _ _⟩
    show _ <+: if _ then _ else _
    split
    · exact List.prefix_refl _
    · exact List.prefix_append _ _
theorem sbRow_pre {g : Gr} {i : Nat} {st : Sb} : ∀ k, SbPre st (sbRow g i st k)
  | 0 => .refl
  | k + 1 => by rw [sbRow_succ]; exact (sbRow_pre k).trans sbPut_pre
theorem sbRow_up {g : Gr} {i k : Nat} {st : Sb} : ∀ j, SbPre (sbRow g i st k) (sbRow g i st (k + j))
  | 0 => .refl
  | j + 1 => by
    show SbPre _ (sbRow g i st ((k + j) + 1))
    rw [sbRow_succ]; exact (sbRow_up j).trans sbPut_pre
theorem sbAt_pre {g : Gr} {i : Nat} : SbPre (sbAt g i) (sbAt g (i + 1)) := by
  show SbPre _ (if _ then _ else _)
  split
  · exact sbRow_pre _
  · exact .refl
theorem sbAt_up {g : Gr} {i : Nat} : ∀ j, SbPre (sbAt g i) (sbAt g (i + j))
  | 0 => .refl
  | j + 1 => (sbAt_up j).trans sbAt_pre
theorem sbAt_stay {g : Gr} {i : Nat} (h : (sbAt g i).all.length ≤ i) : ∀ j, sbAt g (i + j) = sbAt g i
  | 0 => rfl
  | j + 1 => by
    have := sbAt_stay h j
    show (if i + j < (sbAt g (i + j)).all.length then _ else sbAt g (i + j)) = _
    rw [if_neg (by rw [this]; omega), this]
def Done (i k t l : Nat) : Prop := t < i ∨ t = i ∧ l < k
structure SbOK (g : Gr) (i k : Nat) (st : Sb) : Prop where
  nd : st.all.Nodup
  ne : 0 < st.all.length
  set : ∀ x ∈ st.all, x ≠ [] ∧ x.Pairwise (· < ·) ∧ ∀ y ∈ x, 0 ≤ y ∧ y < g.states
  edg : ∀ x ∈ st.es, ∃ t l q : Nat, x = ⟨t, l, q⟩ ∧ Done i k t l ∧ t < st.all.length ∧ l < g.labels.toNat ∧ q < st.all.length ∧ st.all.getD q [] = stepL g l (st.all.getD t [])
  cov : ∀ t l : Nat, Done i k t l → t < st.all.length → l < g.labels.toNat → stepL g l (st.all.getD t []) ≠ [] → ∃ x ∈ st.es, x.frm = t ∧ x.lab = l
  srt : st.es.Pairwise fun a b => a.frm < b.frm ∨ a.frm = b.frm ∧ a.lab < b.lab
theorem put_all {all : List (List Int)} {x : List Int} : (if x ∈ all then all else all ++ [x]).getD (all.idxOf x) [] = x ∧ all.idxOf x < (if x ∈ all then all else all ++ [x]).length := by
  by_cases h : x ∈ all
  · rw [if_pos h]
    have := List.idxOf_lt_length_of_mem h
    exact ⟨by rw [getD_get this]; exact List.getElem_idxOf this, this⟩
  · rw [if_neg h, List.idxOf_eq_length h]
    simp
theorem SbOK.put {g : Gr} (hv : gcheck g = 0) {i k : Nat} {st : Sb} (h : SbOK g i k st) (hi : i < st.all.length) (hk : k < g.labels.toNat) : SbOK g i (k + 1) (sbPut g i st k) := by
  obtain ⟨x, hx⟩ : ∃ x, stepL g k (st.all.getD i []) = x := ⟨_, rfl⟩
  have hp : SbPre st (sbPut g i st k) := sbPut_pre
  unfold sbPut at hp ⊢
  rw [hx] at hp ⊢
  by_cases he : x = []
  · rw [if_pos he]
    refine ⟨h.nd, h.ne, h.set, fun y hy => ?_, fun t l hd ht hl hne => ?_, h.srt⟩
    · obtain ⟨t, l, q, h1, h2, h3⟩ := h.edg y hy
      exact ⟨t, l, q, h1, by unfold Done at *; omega, h3⟩
    · refine h.cov t l ?_ ht hl hne
      unfold Done at *
      rcases hd with hd | ⟨rfl, hd⟩
      · exact .inl hd
      · refine .inr ⟨rfl, ?_⟩
        rcases Nat.lt_succ_iff_lt_or_eq.1 hd with h1 | rfl
        · exact h1
        · rw [hx] at hne; exact absurd he hne
  · rw [if_neg he] at hp ⊢
    obtain ⟨p1, p2⟩ := put_all (all := st.all) (x := x)
    have pa := hp.all
    refine ⟨?_, Nat.lt_of_lt_of_le h.ne pa.length_le, ?_, ?_, ?_, ?_⟩
    · show (if _ then _ else _ : List (List Int)).Nodup
      split
      · exact h.nd
      · rename_i hn
        rw [List.nodup_append]
        refine ⟨h.nd, by simp, fun a ha b hb e => ?_⟩
        rw [List.mem_singleton] at hb
        subst hb; subst e; exact hn ha
    · intro y hy
      have hy' : y ∈ st.all ∨ y = x := by
        change y ∈ (if _ then _ else _ : List (List Int)) at hy
        split at hy
        · exact .inl hy
        · rcases List.mem_append.1 hy with h1 | h1
          · exact .inl h1
          · exact .inr (List.mem_singleton.1 h1)
      rcases hy' with h1 | rfl
      · exact h.set y h1
      · rw [← hx] at he ⊢
        exact ⟨he, step_asc, step_box hv⟩
    · intro y hy
      rcases List.mem_append.1 hy with h1 | h1
      · obtain ⟨t, l, q, h2, h3, h4, h5, h6, h7⟩ := h.edg y h1
        refine ⟨t, l, q, h2, by unfold Done at *; omega, Nat.lt_of_lt_of_le h4 pa.length_le, h5, Nat.lt_of_lt_of_le h6 pa.length_le, ?_⟩
        rw [pre_at pa h6, pre_at pa h4]; exact h7
      · rw [List.mem_singleton] at h1
        subst h1
        refine ⟨i, k, _, rfl, .inr ⟨rfl, Nat.lt_succ_self _⟩, Nat.lt_of_lt_of_le hi pa.length_le, hk, p2, ?_⟩
        rw [pre_at pa hi, hx]; exact p1
    · intro t l hd ht hl hne
      by_cases hq : t = i ∧ l = k
      · obtain ⟨rfl, rfl⟩ := hq
        exact ⟨_, List.mem_append_right _ (List.mem_singleton.2 rfl), rfl, rfl⟩
      · have hd' : Done i k t l := by unfold Done at *; omega
        have ht' : t < st.all.length := by unfold Done at hd'; omega
        rw [pre_at pa ht'] at hne
        obtain ⟨y, h1, h2⟩ := h.cov t l hd' ht' hl hne
        exact ⟨y, List.mem_append_left _ h1, h2⟩
    · show (st.es ++ [_]).Pairwise _
      rw [List.pairwise_append]
      refine ⟨h.srt, List.pairwise_singleton _ _, fun a ha b hb => ?_⟩
      rw [List.mem_singleton] at hb
      subst hb
      obtain ⟨t, l, q, rfl, h3, _⟩ := h.edg a ha
      show ((t : Int) < i ∨ (t : Int) = i ∧ (l : Int) < k)
      unfold Done at h3; omega
theorem SbOK.row {g : Gr} (hv : gcheck g = 0) {i : Nat} {st : Sb} (h : SbOK g i 0 st) (hi : i < st.all.length) : ∀ {k : Nat}, k ≤ g.labels.toNat → SbOK g i k (sbRow g i st k)
  | 0, _ => h
  | k + 1, hk => by
    rw [sbRow_succ]
    exact (SbOK.row hv h hi (k := k) (by omega)).put hv (Nat.lt_of_lt_of_le hi (sbRow_pre k).all.length_le) (by omega)
theorem SbOK.next {g : Gr} {i : Nat} {st : Sb} (h : SbOK g i g.labels.toNat st) : SbOK g (i + 1) 0 st := by
  refine ⟨h.nd, h.ne, h.set, fun x hx => ?_, fun t l hd ht hl hne => ?_, h.srt⟩
  · obtain ⟨t, l, q, h1, h2, h3⟩ := h.edg x hx
    exact ⟨t, l, q, h1, (by unfold Done at *; omega), h3⟩
  · exact h.cov t l (by unfold Done at *; omega) ht hl hne
theorem SbOK.stay {g : Gr} {i : Nat} {st : Sb} (h : SbOK g i 0 st) (hi : st.all.length ≤ i) : SbOK g (i + 1) 0 st := by
  refine ⟨h.nd, h.ne, h.set, fun x hx => ?_, fun t l hd ht hl hne => ?_, h.srt⟩
  · obtain ⟨t, l, q, h1, h2, h3⟩ := h.edg x hx
    exact ⟨t, l, q, h1, (by unfold Done at *; omega), h3⟩
  · exact h.cov t l (by unfold Done at *; omega) ht hl hne
theorem sbAt_ok {g : Gr} (hv : gcheck g = 0) (hs : 0 < g.states) : ∀ i, SbOK g i 0 (sbAt g i)
  | 0 => by
    refine ⟨(by simp [sbAt]), (by simp [sbAt]), fun x hx => ?_, fun x hx => (by cases hx), fun t l hd => (by unfold Done at hd; omega), List.Pairwise.nil⟩
    have hx' : x ∈ [iotaL g.states.toNat] := hx
    rw [List.mem_singleton] at hx'
    subst hx'
    refine ⟨fun h => ?_, iota_asc, fun y hy => by have := iota_mem hy; omega⟩
    have := iota_len (m := g.states.toNat)
    rw [h] at this; simp at this; omega
  | i + 1 => by
    show SbOK g (i + 1) 0 (if _ then _ else _)
    split
    · rename_i h
      exact ((sbAt_ok hv hs i).row hv h (Nat.le_refl _)).next
    · rename_i h
      exact (sbAt_ok hv hs i).stay (by omega)
def buildN (g : Gr) : Int := if gcheck g ≠ 0 then 1 else if 0 < g.states ∧ sbOver (sbAt g 65) then 4 else 0
def buildG (g : Gr) : Gr := if buildN g ≠ 0 then ⟨0, 0, []⟩ else if g.states = 0 then ⟨g.labels, 0, []⟩ else ⟨g.labels, (sbAt g 65).all.length, (sbAt g 65).es⟩
def buildS (g : Gr) : List (List Int) := if buildN g ≠ 0 ∨ g.states = 0 then [] else (sbAt g 65).all
theorem sb_done {g : Gr} (h : ¬ sbOver (sbAt g 65)) : (sbAt g 65).all.length ≤ 64 ∧ (sbAt g 65).es.length ≤ 1024 := by unfold sbOver at h; omega
theorem sb_over {g : Gr} {i : Nat} (hi : i ≤ 65) (h : sbOver (sbAt g i)) : sbOver (sbAt g 65) := by
  have := sbAt_up (g := g) (i := i) (65 - i)
  rw [Nat.add_sub_cancel' hi] at this
  exact this.over h
theorem sb_final {g : Gr} {i : Nat} (hi : i ≤ 65) (h : (sbAt g i).all.length ≤ i) : sbAt g 65 = sbAt g i := by
  have := sbAt_stay h (65 - i)
  rwa [Nat.add_sub_cancel' hi] at this
theorem sb_next {g : Gr} {i k : Nat} (hi : i ≤ 64) (hl : i < (sbAt g i).all.length) (hk : k ≤ g.labels.toNat) (h : sbOver (sbRow g i (sbAt g i) k)) : sbOver (sbAt g 65) := by
  refine sb_over (i := i + 1) (by omega) ?_
  rw [sbAt_succ hl]
  have := sbRow_up (g := g) (i := i) (k := k) (st := sbAt g i) (g.labels.toNat - k)
  rw [Nat.add_sub_cancel' hk] at this
  exact this.over h
end Go.Proofs.YtchjjiedcpfniaaGreatDoor
namespace Go.Proofs.YtchjjiedcpfniaaGreatDoor
set_option linter.unusedSimpArgs false
set_option linter.unusedVariables false
open Go Go.Lift
def qAt (Q0 : List Pr) (nx : List Pr → Pr → List Pr) : Nat → List Pr
  | 0 => Q0
  | i + 1 => if i < (qAt Q0 nx i).length then nx (qAt Q0 nx i) ((qAt Q0 nx i).getD i dp) else qAt Q0 nx i
structure QOK (P : Pr → Prop) (N : Nat) (Q0 : List Pr) (nx : List Pr → Pr → List Pr) : Prop where
  ext0 : Ext P [] Q0
  ext : ∀ Q p, P p → Ext P Q (nx Q p)
  len : ∀ Q : List Pr, Q.Nodup → (∀ p ∈ Q, P p) → Q.length ≤ N
theorem qAt_succ {Q0 : List Pr} {nx : List Pr → Pr → List Pr} {i : Nat} (h : i < (qAt Q0 nx i).length) : qAt Q0 nx (i + 1) = nx (qAt Q0 nx i) ((qAt Q0 nx i).getD i dp) := if_pos h
theorem qAt_stay {Q0 : List Pr} {nx : List Pr → Pr → List Pr} {i : Nat} (h : (qAt Q0 nx i).length ≤ i) : ∀ j, qAt Q0 nx (i + j) = qAt Q0 nx i
  | 0 => rfl
  | j + 1 => by
    have := qAt_stay h j
    show (if i + j < (qAt Q0 nx (i + j)).length then _ else qAt Q0 nx (i + j)) = _
    rw [if_neg (by rw [this]; omega), this]
section
variable {P : Pr → Prop} {N : Nat} {Q0 : List Pr} {nx : List Pr → Pr → List Pr} (h : QOK P N Q0 nx)
include h
theorem QOK.ok : ∀ i, (qAt Q0 nx i).Nodup ∧ ∀ p ∈ qAt Q0 nx i, P p
  | 0 => ⟨h.ext0.nd List.nodup_nil, fun p hp => (h.ext0.new p hp).elim (fun hx => by cases hx) id⟩
  | i + 1 => by
    obtain ⟨h1, h2⟩ := QOK.ok i
    by_cases hi : i < (qAt Q0 nx i).length
    · rw [qAt_succ hi]
      have he := h.ext (qAt Q0 nx i) _ (h2 _ (getD_mem (d := dp) hi))
      exact ⟨he.nd h1, fun p hp => (he.new p hp).elim (h2 p) id⟩
    · rw [qAt_stay (by omega) 1]
      exact ⟨h1, h2⟩
theorem QOK.at {i j : Nat} (hj : j < (qAt Q0 nx i).length) : P ((qAt Q0 nx i).getD j dp) := (h.ok i).2 _ (getD_mem (d := dp) hj)
theorem QOK.bd (i : Nat) : (qAt Q0 nx i).length ≤ N := h.len _ (h.ok i).1 (h.ok i).2
theorem QOK.step (i : Nat) : Ext P (qAt Q0 nx i) (qAt Q0 nx (i + 1)) := by
  show Ext _ _ (if _ then _ else _)
  split
  · rename_i hi; exact h.ext _ _ (h.at hi)
  · exact .refl
theorem QOK.up (i : Nat) : ∀ j, Ext P (qAt Q0 nx i) (qAt Q0 nx (i + j))
  | 0 => .refl
  | j + 1 => (QOK.up i j).trans (h.step _)
theorem QOK.all (i : Nat) (hi : i ≤ N) : Ext P (qAt Q0 nx i) (qAt Q0 nx N) := by
  have := h.up i (N - i)
  rwa [Nat.add_sub_cancel' hi] at this
omit h in
theorem q_final {i : Nat} (hl : (qAt Q0 nx i).length ≤ i) (hi : i ≤ N) : qAt Q0 nx N = qAt Q0 nx i := by
  have := qAt_stay hl (N - i)
  rwa [Nat.add_sub_cancel' hi] at this
theorem QOK.nth : ∀ {i j : Nat}, j < i → j < (qAt Q0 nx i).length → (qAt Q0 nx i).getD j dp = (qAt Q0 nx j).getD j dp ∧ j < (qAt Q0 nx j).length
  | 0, j, hj, _ => by omega
  | i + 1, j, hj, hl => by
    have key : j < (qAt Q0 nx i).length → (qAt Q0 nx (i + 1)).getD j dp = (qAt Q0 nx i).getD j dp := fun hc => pre_at (h.step i).pre hc
    by_cases hc : j < (qAt Q0 nx i).length
    · rw [key hc]
      rcases Nat.lt_succ_iff_lt_or_eq.1 hj with h1 | rfl
      · exact QOK.nth h1 hc
      · exact ⟨rfl, hc⟩
    · have h2 := qAt_stay (Q0 := Q0) (nx := nx) (i := i) (by omega) 1
      rw [h2] at hl; exact absurd hl hc
theorem QOK.next {p x : Pr} (hp : p ∈ qAt Q0 nx N) (hx : ∀ Q, x ∈ nx Q p) : x ∈ qAt Q0 nx N := by
  obtain ⟨j, hj, rfl⟩ := List.mem_iff_getElem.1 hp
  have hb := h.bd N
  obtain ⟨h1, h2⟩ := h.nth (i := N) (j := j) (by omega) hj
  rw [getD_get hj] at h1
  refine (h.all (j + 1) (by omega)).mem ?_
  rw [qAt_succ h2, ← h1]
  exact hx _
theorem QOK.hit {bad : Pr → Bool} {i : Nat} (hi : i < (qAt Q0 nx i).length) (hb : bad ((qAt Q0 nx i).getD i dp) = true) : (qAt Q0 nx N).any bad = true := by
  have := h.bd i
  rw [List.any_eq_true]
  exact ⟨_, (h.all i (by omega)).mem (getD_mem (d := dp) hi), hb⟩
omit h in
theorem q_end {bad : Pr → Bool} {i : Nat} (hl : (qAt Q0 nx i).length ≤ i) (hi : i ≤ N) (hb : ∀ j, j < i → bad ((qAt Q0 nx i).getD j dp) = false) : (qAt Q0 nx N).any bad = false := by
  rw [q_final hl hi, List.any_eq_false]
  intro p hp
  obtain ⟨j, hj, rfl⟩ := List.mem_iff_getElem.1 hp
  have := hb j (by omega)
  rw [getD_get hj] at this
  rw [this]; simp
end
structure SbFin (g : Gr) (st : Sb) : Prop where
  nd : st.all.Nodup
  ne : 0 < st.all.length
  set : ∀ x ∈ st.all, x ≠ [] ∧ x.Pairwise (· < ·) ∧ ∀ y ∈ x, 0 ≤ y ∧ y < g.states
  edg : ∀ x ∈ st.es, ∃ t l q : Nat, x = ⟨t, l, q⟩ ∧ t < st.all.length ∧ l < g.labels.toNat ∧ q < st.all.length ∧ st.all.getD q [] = stepL g l (st.all.getD t [])
  cov : ∀ t l : Nat, t < st.all.length → l < g.labels.toNat → stepL g l (st.all.getD t []) ≠ [] → ∃ x ∈ st.es, x.frm = t ∧ x.lab = l
  srt : st.es.Pairwise fun a b => a.frm < b.frm ∨ a.frm = b.frm ∧ a.lab < b.lab
theorem sb_fin {g : Gr} (hv : gcheck g = 0) (hs : 0 < g.states) {i : Nat} (hl : (sbAt g i).all.length ≤ i) : SbFin g (sbAt g i) := by
  have h := sbAt_ok hv hs i
  refine ⟨h.nd, h.ne, h.set, fun x hx => ?_, fun t l ht hl2 hne => h.cov t l (.inl (by omega)) ht hl2 hne, h.srt⟩
  obtain ⟨t, l, q, h1, h2, h3⟩ := h.edg x hx
  exact ⟨t, l, q, h1, h3⟩
def sbTo (st : Sb) (t l : Int) : Int := match st.es.find? fun x => decide (x.frm = t ∧ x.lab = l) with
  | some x => x.to
  | none => -1
section
variable {g : Gr} {st : Sb} (h : SbFin g st)
include h
theorem SbFin.to_some {t l : Nat} (ht : t < st.all.length) (hl : l < g.labels.toNat) (hne : stepL g l (st.all.getD t []) ≠ []) : ∃ q : Nat, sbTo st t l = q ∧ q < st.all.length ∧ st.all.getD q [] = stepL g l (st.all.getD t []) := by
  obtain ⟨x, hx, h1, h2⟩ := h.cov t l ht hl hne
  unfold sbTo
  cases hf : st.es.find? (fun x : Edge => decide (x.frm = (t : Int) ∧ x.lab = (l : Int))) with
  | none =>
    have := List.find?_eq_none.1 hf x hx
    simp [h1, h2] at this
  | some y =>
    have h3 := List.mem_of_find?_eq_some hf
    have h4 := of_decide_eq_true (List.find?_some (p := fun x : Edge => decide (x.frm = (t : Int) ∧ x.lab = (l : Int))) hf)
    obtain ⟨t', l', q, rfl, h5, h6, h7, h8⟩ := h.edg y h3
    obtain ⟨h9, h10⟩ := h4
    have h9' : (t' : Int) = t := h9
    have h10' : (l' : Int) = l := h10
    obtain rfl : t' = t := by omega
    obtain rfl : l' = l := by omega
    exact ⟨q, rfl, h7, h8⟩
theorem SbFin.to_none {t l : Nat} (ht : t < st.all.length) (hl : l < g.labels.toNat) (he : stepL g l (st.all.getD t []) = []) : sbTo st t l = -1 := by
  unfold sbTo
  cases hf : st.es.find? (fun x : Edge => decide (x.frm = (t : Int) ∧ x.lab = (l : Int))) with
  | none => rfl
  | some y =>
    have h3 := List.mem_of_find?_eq_some hf
    have h4 := of_decide_eq_true (List.find?_some (p := fun x : Edge => decide (x.frm = (t : Int) ∧ x.lab = (l : Int))) hf)
    obtain ⟨t', l', q, rfl, h5, h6, h7, h8⟩ := h.edg y h3
    obtain ⟨h9, h10⟩ := h4
    have h9' : (t' : Int) = t := h9
    have h10' : (l' : Int) = l := h10
    obtain rfl : t' = t := by omega
    obtain rfl : l' = l := by omega
    rw [he] at h8
    exact absurd h8 (h.set _ (getD_mem (d := []) h7)).1
end
def folA (st : Sb) (t : Int) (w : List UInt8) : Int := w.foldl (fun t c => if t < 0 then -1 else sbTo st t (idxB letters c)) t
def setA (g : Gr) (L : List Int) (w : List UInt8) : List Int := w.foldl (fun L c => stepL g (idxB letters c) L) L
theorem step_nil {g : Gr} {k : Int} : stepL g k [] = [] := by
  have := @step_mem g k []
  cases hs : stepL g k [] with
  | nil => rfl
  | cons x r => exact absurd ((this (t := x)).1 (by rw [hs]; exact List.mem_cons_self)) (by simp)
theorem setA_nil {g : Gr} : ∀ {w : List UInt8}, setA g [] w = []
  | [] => rfl
  | c :: w => by
    show setA g (stepL g _ []) w = []
    rw [step_nil]; exact setA_nil
theorem folA_neg {st : Sb} : ∀ {w : List UInt8} {t : Int}, t < 0 → folA st t w < 0
  | [], t, h => h
  | c :: w, t, h => by
    show folA st (if t < 0 then -1 else _) w < 0
    rw [if_pos h]; exact folA_neg (by omega)
theorem SbFin.fol {g : Gr} {st : Sb} (h : SbFin g st) : ∀ {w : List UInt8} {t : Nat}, t < st.all.length → (∀ c ∈ w, 0 ≤ idxB letters c ∧ idxB letters c < g.labels) →
    (setA g (st.all.getD t []) w = [] ∧ folA st t w < 0) ∨ ∃ q : Nat, folA st t w = q ∧ q < st.all.length ∧ st.all.getD q [] = setA g (st.all.getD t []) w
  | [], t, ht, _ => .inr ⟨t, rfl, ht, rfl⟩
  | c :: w, t, ht, hw => by
    obtain ⟨h1, h2⟩ := hw c List.mem_cons_self
    obtain ⟨l, hl⟩ : ∃ l : Nat, idxB letters c = l := ⟨(idxB letters c).toNat, by omega⟩
    show (setA g (stepL g (idxB letters c) _) w = [] ∧ folA st (if (t : Int) < 0 then -1 else sbTo st t (idxB letters c)) w < 0) ∨ ∃ q : Nat, folA st (if (t : Int) < 0 then -1 else sbTo st t (idxB letters c)) w = q ∧ q < st.all.length ∧ st.all.getD q [] = setA g (stepL g (idxB letters c) _) w
    rw [if_neg (by omega), hl]
    by_cases he : stepL g l (st.all.getD t []) = []
    · rw [h.to_none ht (by omega) he, he, setA_nil]
      exact .inl ⟨rfl, folA_neg (by omega)⟩
    · obtain ⟨q, h3, h4, h5⟩ := h.to_some ht (by omega) he
      rw [h3, ← h5]
      exact SbFin.fol h h4 (fun c hc => hw c (List.mem_cons_of_mem _ hc))
end Go.Proofs.YtchjjiedcpfniaaGreatDoor
namespace Go.Proofs.YtchjjiedcpfniaaGreatDoor
set_option linter.unusedSimpArgs false
set_option linter.unusedVariables false
open Go Go.Lift
theorem pairs_len {a b : Nat} {Q : List Pr} (hn : Q.Nodup) (h : ∀ p ∈ Q, (0 ≤ p.s ∧ p.s < (a : Int)) ∧ 0 ≤ p.t ∧ p.t < (b : Int)) : Q.length ≤ a * b := by
  have h1 := nodup_le (n := a * b) (L := Q.map fun p => p.s * b + p.t) ?_ ?_
  · rwa [List.length_map] at h1
  · unfold List.Nodup
    rw [List.pairwise_map]
    refine (List.Pairwise.imp_of_mem (l := Q) (R := fun a b => a ≠ b) ?_ hn)
    intro x y hx hy hne he
    apply hne
    obtain ⟨⟨a1, a2⟩, a3, a4⟩ := h x hx
    obtain ⟨⟨b1, b2⟩, b3, b4⟩ := h y hy
    have e1 : (x.s * b + x.t) / (b : Int) = x.s := by
      rw [Int.add_comm, Int.add_mul_ediv_right _ _ (by omega), Int.ediv_eq_zero_of_lt a3 a4]; omega
    have e2 : (y.s * b + y.t) / (b : Int) = y.s := by
      rw [Int.add_comm, Int.add_mul_ediv_right _ _ (by omega), Int.ediv_eq_zero_of_lt b3 b4]; omega
    rw [he, e2] at e1
    obtain ⟨xs, xt⟩ := x; obtain ⟨ys, yt⟩ := y
    simp only at *
    subst e1
    congr 1
    omega
  · intro x hx
    obtain ⟨p, hp, rfl⟩ := List.mem_map.1 hx
    obtain ⟨⟨p1, p2⟩, p3, p4⟩ := h p hp
    have h1 : 0 ≤ p.s * (b : Int) := Int.mul_nonneg p1 (by omega)
    have h2 : (p.s + 1) * (b : Int) ≤ a * b := Int.mul_le_mul_of_nonneg_right (by omega) (by omega)
    rw [Int.add_mul] at h2
    push_cast
    omega
def wiIf (e : Enc) (st : Sb) (p : Pr) (Q : List Pr) (k : Nat) : List Pr :=
  if folA st p.t (cellAt e p.s.toNat k).word < 0 then Q else losPut Q ⟨(cellAt e p.s.toNat k).to, folA st p.t (cellAt e p.s.toNat k).word⟩
def wiRow (e : Enc) (st : Sb) (p : Pr) (Q : List Pr) (k : Nat) : List Pr := (List.range k).foldl (wiIf e st p) Q
def wi0 (s : Nat) : List Pr := (List.range s).foldl (fun Q (s : Nat) => losPut Q ⟨(s : Int), 0⟩) []
def wiNx (e : Enc) (st : Sb) (Q : List Pr) (p : Pr) : List Pr := wiRow e st p Q (e.rows.getD p.s.toNat []).length
def wiQ (e : Enc) (st : Sb) : Nat → List Pr := qAt (wi0 e.rows.length) (wiNx e st)
def wiBad (e : Enc) (st : Sb) (p : Pr) : Bool := (List.range (e.rows.getD p.s.toNat []).length).any fun k => decide (folA st p.t (cellAt e p.s.toNat k).word < 0)
def wiB (e : Enc) (st : Sb) : Bool := !(wiQ e st (e.rows.length * st.all.length)).any (wiBad e st)
theorem wiRow_succ {e : Enc} {st : Sb} {p : Pr} {Q : List Pr} {k : Nat} : wiRow e st p Q (k + 1) = wiIf e st p (wiRow e st p Q k) k := by simp [wiRow, List.range_succ]
theorem wi0_succ {s : Nat} : wi0 (s + 1) = losPut (wi0 s) ⟨(s : Int), 0⟩ := by simp [wi0, List.range_succ]
def InW (e : Enc) (st : Sb) (p : Pr) : Prop := (0 ≤ p.s ∧ p.s < (e.rows.length : Int)) ∧ 0 ≤ p.t ∧ p.t < (st.all.length : Int)
theorem cell_dig {e : Enc} (hv : checkE e = 0) {s i : Nat} (hs : s < e.rows.length) (hi : i < (e.rows.getD s []).length) : ∀ c ∈ (cellAt e s i).word, 0 ≤ idxB letters c ∧ idxB letters c < e.letters := by
  have h1 := (rowCheck_valid ((checkE_valid hv).2.2.2 _ (getD_mem (d := []) hs))).2 _ (getD_mem (d := dc) hi)
  have h2 : wordCheck e.letters (cellAt e s i).word = 0 := by
    unfold cellCheck at h1
    unfold cellAt
    split at h1
    · cases h1
    · split at h1
      · cases h1
      · rename_i h2
        exact Classical.byContradiction fun h3 => h2 (.inr h3)
  obtain ⟨_, h3⟩ := word_dig h2
  intro c hc
  obtain ⟨j, hj, rfl⟩ := List.mem_iff_getElem.1 hc
  have := h3 j hj
  rwa [getD_get hj] at this
section
variable {e : Enc} {g : Gr} {st : Sb} (hv : checkE e = 0) (hf : SbFin g st) (hl : g.labels = e.letters)
include hv hf hl
theorem wi_fol {p : Pr} (h : InW e st p) {k : Nat} (hk : k < (e.rows.getD p.s.toNat []).length) : (setA g (st.all.getD p.t.toNat []) (cellAt e p.s.toNat k).word = [] ∧ folA st p.t (cellAt e p.s.toNat k).word < 0) ∨
    ∃ q : Nat, folA st p.t (cellAt e p.s.toNat k).word = q ∧ q < st.all.length ∧ st.all.getD q [] = setA g (st.all.getD p.t.toNat []) (cellAt e p.s.toNat k).word := by
  obtain ⟨⟨h1, h2⟩, h3, h4⟩ := h
  have := hf.fol (w := (cellAt e p.s.toNat k).word) (t := p.t.toNat) (by omega) (by rw [hl]; exact cell_dig hv (by omega) hk)
  rwa [Int.toNat_of_nonneg h3] at this
theorem wiIf_ext {p : Pr} (h : InW e st p) {k : Nat} (hk : k < (e.rows.getD p.s.toNat []).length) {Q : List Pr} : Ext (InW e st) Q (wiIf e st p Q k) := by
  unfold wiIf
  split
  · exact .refl
  · rename_i hn
    have hto := cell_to hv (s := p.s.toNat) (by have := h.1; omega) hk
    rcases wi_fol hv hf hl h hk with ⟨_, h1⟩ | ⟨q, h1, h2, _⟩
    · exact absurd h1 hn
    · refine losPut_ext ⟨hto, ?_⟩
      rw [h1]
      show (0 : Int) ≤ q ∧ (q : Int) < _
      omega
theorem wiRow_ext {p : Pr} (h : InW e st p) {k : Nat} (hk : k ≤ (e.rows.getD p.s.toNat []).length) {Q : List Pr} : Ext (InW e st) Q (wiRow e st p Q k) :=
  Ext.fold (fun Q k hk => wiIf_ext hv hf hl h hk) k Q hk
omit hv hl in
theorem InW_start {s : Nat} (hs : s < e.rows.length) : InW e st ⟨(s : Int), 0⟩ := by
  have := hf.ne
  show (0 ≤ (s : Int) ∧ (s : Int) < _) ∧ (0 : Int) ≤ 0 ∧ (0 : Int) < _
  omega
omit hv hl in
theorem wi0_ext {s : Nat} (hs : s ≤ e.rows.length) : Ext (InW e st) [] (wi0 s) :=
  Ext.fold (n := e.rows.length) (f := fun Q (s : Nat) => losPut Q ⟨(s : Int), 0⟩) (fun Q s hs => losPut_ext (InW_start hf hs)) s [] hs
theorem wi_ok : QOK (InW e st) (e.rows.length * st.all.length) (wi0 e.rows.length) (wiNx e st) :=
  ⟨wi0_ext hf (Nat.le_refl _), fun Q p hp => wiRow_ext hv hf hl hp (Nat.le_refl _), fun Q hn h => pairs_len hn h⟩
end
end Go.Proofs.YtchjjiedcpfniaaGreatDoor
namespace Go.Proofs.YtchjjiedcpfniaaGreatDoor
set_option linter.unusedSimpArgs false
set_option linter.unusedVariables false
open Go Go.Lift
theorem sep_inj {c : UInt8} : ∀ {u v x y : List UInt8}, c ∉ u → c ∉ v → u ++ c :: x = v ++ c :: y → u = v ∧ x = y
  | [], [], x, y, _, _, h => ⟨rfl, by simpa using h⟩
  | [], b :: v, x, y, _, hv, h => by
    simp only [List.nil_append, List.cons_append, List.cons.injEq] at h
    exact absurd (h.1 ▸ List.mem_cons_self) hv
  | a :: u, [], x, y, hu, _, h => by
    simp only [List.nil_append, List.cons_append, List.cons.injEq] at h
    exact absurd (h.1 ▸ List.mem_cons_self) hu
  | a :: u, b :: v, x, y, hu, hv, h => by
    simp only [List.cons_append, List.cons.injEq] at h
    obtain ⟨h1, h2⟩ := sep_inj (fun hc => hu (List.mem_cons_of_mem _ hc)) (fun hc => hv (List.mem_cons_of_mem _ hc)) h.2
    exact ⟨by rw [h.1, h1], h2⟩
def itoa2 (n : Int) : List UInt8 := if n < 10 then [ltr n] else [ltr (n / 10), ltr (n % 10)]
theorem itoa2_val : ∀ n : Nat, n < 100 → valW 10 (itoa2 n) = n := by decide
theorem itoa2_inj {a b : Int} (ha : 0 ≤ a ∧ a < 100) (hb : 0 ≤ b ∧ b < 100) (h : itoa2 a = itoa2 b) : a = b := by
  obtain ⟨m, rfl⟩ : ∃ m : Nat, a = m := ⟨a.toNat, by omega⟩
  obtain ⟨n, rfl⟩ : ∃ n : Nat, b = n := ⟨b.toNat, by omega⟩
  have h1 := itoa2_val m (by omega)
  have h2 := itoa2_val n (by omega)
  rw [h, h2] at h1
  exact h1.symm
theorem itoa2_dig : ∀ n : Nat, n < 100 → ∀ c ∈ itoa2 n, c ∈ letters := by decide
theorem itoa2_let {a : Int} (ha : 0 ≤ a ∧ a < 100) {c : UInt8} (h : c ∈ itoa2 a) : c ∈ letters := by
  obtain ⟨m, rfl⟩ : ∃ m : Nat, a = m := ⟨a.toNat, by omega⟩
  exact itoa2_dig m (by omega) c h
theorem itoa2_no {a : Int} (ha : 0 ≤ a ∧ a < 100) {c : UInt8} (hc : c ∉ letters) : c ∉ itoa2 a := fun h => hc (itoa2_let ha h)
theorem itoa2_len {a : Int} : (itoa2 a).length ≤ 2 ∧ 1 ≤ (itoa2 a).length := by unfold itoa2; split <;> simp
def keyS (x : List Int) : List UInt8 := x.flatMap fun n => itoa2 n ++ [32]
theorem keyS_nil : keyS [] = [] := rfl
theorem keyS_cons {n : Int} {x : List Int} : keyS (n :: x) = itoa2 n ++ 32 :: keyS x := by simp [keyS]
theorem keyS_succ {x : List Int} {k : Nat} (h : k < x.length) : keyS (x.take (k + 1)) = keyS (x.take k) ++ (itoa2 (x.getD k 0) ++ [32]) := by
  unfold keyS
  rw [List.take_succ_eq_append_getElem h, List.flatMap_append, getD_get h]; simp
theorem keyS_len (x : List Int) : (keyS x).length ≤ 3 * x.length := by
  induction x with
  | nil => simp [keyS]
  | cons n x ih =>
    rw [keyS_cons]
    have := (itoa2_len (a := n)).1
    simp only [List.length_append, List.length_cons]
    omega
theorem keyS_inj : ∀ {x y : List Int}, (∀ n ∈ x, 0 ≤ n ∧ n < 100) → (∀ n ∈ y, 0 ≤ n ∧ n < 100) → keyS x = keyS y → x = y
  | [], [], _, _, _ => rfl
  | [], b :: y, _, _, h => by rw [keyS_cons, keyS_nil] at h; simp at h
  | a :: x, [], _, _, h => by rw [keyS_cons, keyS_nil] at h; simp at h
  | a :: x, b :: y, hx, hy, h => by
    rw [keyS_cons, keyS_cons] at h
    have ha := hx a List.mem_cons_self
    have hb := hy b List.mem_cons_self
    obtain ⟨h1, h2⟩ := sep_inj (itoa2_no ha (by decide)) (itoa2_no hb (by decide)) h
    rw [itoa2_inj ha hb h1, keyS_inj (fun n hn => hx n (List.mem_cons_of_mem _ hn)) (fun n hn => hy n (List.mem_cons_of_mem _ hn)) h2]
end Go.Proofs.YtchjjiedcpfniaaGreatDoor
namespace Go.Proofs.YtchjjiedcpfniaaGreatDoor
set_option linter.unusedSimpArgs false
set_option linter.unusedVariables false
open Go Go.Lift
def numK (m : Nat) : List (List Int) → List (List UInt8 × Int)
  | [] => []
  | x :: r => (keyS x, (m : Int)) :: numK (m + 1) r
theorem numK_app : ∀ {l : List (List Int)} {m : Nat} {x : List Int}, numK m (l ++ [x]) = numK m l ++ [(keyS x, ((m + l.length : Nat) : Int))]
  | [], m, x => rfl
  | y :: l, m, x => by
    simp only [List.cons_append, numK, numK_app (l := l), List.length_cons]
    rw [show m + 1 + l.length = m + (l.length + 1) by omega]
def Small (x : List Int) : Prop := ∀ n ∈ x, 0 ≤ n ∧ n < 100
theorem numK_get : ∀ {l : List (List Int)} {m : Nat} {x : List Int}, (∀ y ∈ l, Small y) → Small x → alGet (numK m l) (keyS x) = if x ∈ l then some ((m + l.idxOf x : Nat) : Int) else none
  | [], m, x, _, _ => rfl
  | y :: l, m, x, hl, hx => by
    simp only [numK, alGet]
    by_cases he : keyS x = keyS y
    · rw [if_pos he]
      obtain rfl := keyS_inj hx (hl y List.mem_cons_self) he
      rw [if_pos List.mem_cons_self, List.idxOf_cons_self]; rfl
    · rw [if_neg he, numK_get (fun y hy => hl y (List.mem_cons_of_mem _ hy)) hx]
      have hne : x ≠ y := fun h => he (by rw [h])
      by_cases hm : x ∈ l
      · rw [if_pos hm, if_pos (List.mem_cons_of_mem _ hm), List.idxOf_cons, show (y == x) = false from beq_false_of_ne (fun h => hne h.symm), cond_false]
        rw [show m + 1 + l.idxOf x = m + (l.idxOf x + 1) by omega]
      · rw [if_neg hm, if_neg]
        intro h
        rcases List.mem_cons.1 h with h | h
        · exact hne h
        · exact hm h
theorem alPut_end {α β : Type} [DecidableEq α] : ∀ {m : List (α × β)} {k : α} {v : β}, alGet m k = none → alPut m k v = m ++ [(k, v)]
  | [], k, v, _ => rfl
  | (a, b) :: m, k, v, h => by
    simp only [alGet] at h
    split at h
    · cases h
    · rename_i hne
      simp only [alPut, if_neg hne, alPut_end h, List.cons_append]
def keyE (x : Edge) : Edge := ⟨x.frm, x.lab, 0⟩
def nextM (l : List Edge) : List (Edge × Int) := l.map fun x => (keyE x, x.to)
theorem nextM_get : ∀ {l : List Edge} {t k : Int}, alGet (nextM l) ⟨t, k, 0⟩ = (l.find? fun x => decide (x.frm = t ∧ x.lab = k)).map Edge.to
  | [], t, k => rfl
  | x :: l, t, k => by
    show (if _ then _ else _) = _
    by_cases h : x.frm = t ∧ x.lab = k
    · rw [if_pos (by unfold keyE; rw [h.1, h.2]), List.find?_cons_of_pos (by exact decide_eq_true h)]; rfl
    · rw [if_neg (fun he => h ⟨(congrArg Edge.frm he).symm, (congrArg Edge.lab he).symm⟩), List.find?_cons_of_neg (by simpa using h)]
      exact nextM_get
theorem nextM_put {l : List Edge} (hs : l.Pairwise fun a b => a.frm < b.frm ∨ a.frm = b.frm ∧ a.lab < b.lab) {k : Nat} (hk : k < l.length) : alPut (nextM (l.take k)) (keyE (l.getD k de)) (l.getD k de).to = nextM (l.take (k + 1)) := by
  rw [alPut_end, List.take_succ_eq_append_getElem hk, getD_get hk]
  · unfold nextM; rw [List.map_append]; rfl
  · show alGet (nextM (l.take k)) ⟨(l.getD k de).frm, (l.getD k de).lab, 0⟩ = none
    rw [nextM_get, List.find?_eq_none.2]
    · rfl
    · intro x hx he
      obtain ⟨j, hj, rfl⟩ := List.mem_iff_getElem.1 hx
      rw [List.length_take] at hj
      rw [List.getElem_take] at he
      have h1 := of_decide_eq_true he
      have := List.pairwise_iff_getElem.1 hs j k (by omega) hk (by omega)
      rw [getD_get hk] at h1
      omega
theorem sbTo_get {st : Sb} {t k : Int} (h : ∀ x ∈ st.es, 0 ≤ x.to) : (alGet (nextM st.es) ⟨t, k, 0⟩).isSome = decide (0 ≤ sbTo st t k) ∧ (0 ≤ sbTo st t k → alGet (nextM st.es) ⟨t, k, 0⟩ = some (sbTo st t k)) := by
  rw [nextM_get]
  unfold sbTo
  cases hf : st.es.find? (fun x : Edge => decide (x.frm = t ∧ x.lab = k)) with
  | none => exact ⟨rfl, fun h => absurd (show (0 : Int) ≤ -1 from h) (by decide)⟩
  | some x => exact ⟨(decide_eq_true (h x (List.mem_of_find?_eq_some hf))).symm, fun _ => rfl⟩
def joinB (c : UInt8) : List (List UInt8) → List UInt8
  | [] => []
  | [w] => w
  | w :: v :: r => w ++ c :: joinB c (v :: r)
theorem joinB_succ {c : UInt8} : ∀ {l : List (List UInt8)} {w : List UInt8}, l ≠ [] → joinB c (l ++ [w]) = joinB c l ++ c :: w
  | [], w, h => absurd rfl h
  | [v], w, _ => rfl
  | v :: x :: l, w, _ => by
    show v ++ c :: joinB c ((x :: l) ++ [w]) = _
    rw [joinB_succ (by simp)]
    simp [joinB]
theorem joinB_len {c : UInt8} {n : Nat} : ∀ {l : List (List UInt8)}, (∀ w ∈ l, w.length ≤ n) → (joinB c l).length ≤ l.length * (n + 1)
  | [], _ => by simp [joinB]
  | [w], h => by have := h w List.mem_cons_self; simp [joinB]; omega
  | w :: v :: r, h => by
    have h1 := h w List.mem_cons_self
    have h2 := joinB_len (c := c) (l := v :: r) (fun w hw => h w (List.mem_cons_of_mem _ hw))
    show (w ++ c :: joinB c (v :: r)).length ≤ _
    rw [List.length_append, List.length_cons, show (w :: v :: r).length = (v :: r).length + 1 from rfl, Nat.add_mul]
    omega
def lineT (ws : List (List UInt8)) : List UInt8 := joinB 32 ws ++ [10]
def cellT (c : Cell) : List UInt8 := c.word ++ 62 :: itoa2 c.to
def encW : List UInt8 := [101, 110, 99, 111, 100, 101, 114]
def headW (e : Enc) : List (List UInt8) := [encW, itoa2 e.letters, itoa2 e.block, itoa2 e.inputs, itoa2 e.rows.length]
def rowT (r : List Cell) : List UInt8 := lineT (r.map cellT)
def textE (e : Enc) : List UInt8 := lineT (headW e) ++ e.rows.flatMap rowT
end Go.Proofs.YtchjjiedcpfniaaGreatDoor
namespace Go.Proofs.YtchjjiedcpfniaaGreatDoor
set_option linter.unusedSimpArgs false
set_option linter.unusedVariables false
open Go Go.Lift
theorem textE_succ {e : Enc} {k : Nat} (h : k < e.rows.length) : (e.rows.take (k + 1)).flatMap rowT = (e.rows.take k).flatMap rowT ++ rowT (e.rows.getD k []) := by
  rw [List.take_succ_eq_append_getElem h, List.flatMap_append, getD_get h]; simp
end Go.Proofs.YtchjjiedcpfniaaGreatDoor
namespace Go.Proofs.YtchjjiedcpfniaaGreatDoor
set_option linter.unusedSimpArgs false
set_option linter.unusedVariables false
open Go Go.Lift
structure Sml (e : Enc) : Prop where
  top : e.rows.length ≤ 65
  rows : e.rows.length ≤ 6 ∨ e.rows.length = 65
  row : ∀ r ∈ e.rows, r.length ≤ 6
  word : ∀ r ∈ e.rows, ∀ c ∈ r, c.word.length ≤ 20
theorem sml_rows {e : Enc} (h : Sml e) (hv : checkE e = 0) : e.rows.length ≤ 6 := by
  have := rows_len hv; have := h.rows; omega
theorem sml_inputs {e : Enc} (h : Sml e) (hv : checkE e = 0) : 1 ≤ e.inputs ∧ e.inputs ≤ 6 := by
  obtain ⟨h1, h2, _⟩ := checkE_valid hv
  have h3 := row_eq hv (k := 0) h2
  have h4 := h.row _ (getD_mem (d := []) h2)
  have := h1.inputs
  omega
theorem cellT_len {e : Enc} (hv : checkE e = 0) {r : List Cell} (hr : r ∈ e.rows) {c : Cell} (hc : c ∈ r) : (cellT c).length ≤ 19 := by
  have hb := (checkE_valid hv).1.block
  obtain ⟨s, hs, rfl⟩ := List.mem_iff_getElem.1 hr
  obtain ⟨i, hi, rfl⟩ := List.mem_iff_getElem.1 hc
  have hi' : i < (e.rows.getD s []).length := by rw [getD_get hs]; exact hi
  have h1 := cell_wlen hv hs hi'
  have he : cellAt e s i = (e.rows[s])[i] := by unfold cellAt; rw [getD_get hi']; congr 1; exact getD_get hs
  rw [he] at h1
  have := (itoa2_len (a := ((e.rows[s])[i]).to)).1
  unfold cellT
  rw [List.length_append, List.length_cons]
  omega
theorem rowT_len {e : Enc} (hv : checkE e = 0) {r : List Cell} (hr : r ∈ e.rows) : (rowT r).length ≤ r.length * 20 + 1 := by
  have h1 := joinB_len (c := 32) (n := 19) (l := r.map cellT) (fun w hw => by
    obtain ⟨c, hc, rfl⟩ := List.mem_map.1 hw
    exact cellT_len hv hr hc)
  rw [List.length_map] at h1
  unfold rowT lineT
  rw [List.length_append]
  simpa using h1
theorem headT_len {e : Enc} : (lineT (headW e)).length ≤ 41 := by
  have h1 := joinB_len (c := 32) (n := 7) (l := headW e) (fun w hw => by
    unfold headW at hw
    simp only [List.mem_cons, List.not_mem_nil, or_false] at hw
    rcases hw with rfl | rfl | rfl | rfl | rfl
    · exact Nat.le_refl _
    all_goals exact Nat.le_trans itoa2_len.1 (by decide))
  unfold lineT
  rw [List.length_append]
  have : (headW e).length = 5 := rfl
  rw [this] at h1
  simpa using h1
theorem rows_text_len {e : Enc} (h : Sml e) (hv : checkE e = 0) : ∀ l : List (List Cell), (∀ r ∈ l, r ∈ e.rows) → (l.flatMap rowT).length ≤ l.length * 121
  | [], _ => by simp
  | r :: l, hl => by
    have h1 := rowT_len hv (hl r List.mem_cons_self)
    have h2 := h.row r (hl r List.mem_cons_self)
    have h3 := rows_text_len h hv l (fun q hq => hl q (List.mem_cons_of_mem _ hq))
    rw [List.flatMap_cons, List.length_append, List.length_cons, Nat.add_mul]
    omega
def textA (e : Enc) (k : Nat) : List UInt8 := lineT (headW e) ++ (e.rows.take k).flatMap rowT
theorem textA_zero {e : Enc} : textA e 0 = lineT (headW e) := by simp [textA]
theorem textA_succ {e : Enc} {k : Nat} (h : k < e.rows.length) : textA e (k + 1) = textA e k ++ rowT (e.rows.getD k []) := by
  unfold textA; rw [textE_succ h, List.append_assoc]
theorem textA_all {e : Enc} {k : Nat} (h : e.rows.length ≤ k) : textA e k = textE e := by
  unfold textA; rw [List.take_of_length_le h]; rfl
theorem textA_len {e : Enc} (h : Sml e) (hv : checkE e = 0) {k : Nat} : (textA e k).length ≤ 1000 := by
  have h1 := headT_len (e := e)
  have h2 := rows_text_len h hv (e.rows.take k) (fun r hr => List.mem_of_mem_take hr)
  have h3 := sml_rows h hv
  rw [List.length_take] at h2
  have h4 : min k e.rows.length * 121 ≤ 6 * 121 := Nat.mul_le_mul_right _ (by omega)
  unfold textA
  rw [List.length_append]
  omega
def printN (e : Enc) : Int := if checkE e ≠ 0 then 1 else 0
def printX (e : Enc) : List UInt8 := if checkE e ≠ 0 then [] else textE e
end Go.Proofs.YtchjjiedcpfniaaGreatDoor
namespace Go.Proofs.YtchjjiedcpfniaaGreatDoor
set_option linter.unusedSimpArgs false
set_option linter.unusedVariables false
open Go Go.Lift
end Go.Proofs.YtchjjiedcpfniaaGreatDoor
namespace Go.Proofs.YtchjjiedcpfniaaGreatDoor
set_option linter.unusedSimpArgs false
set_option linter.unusedVariables false
open Go Go.Lift
def withinN (e : Enc) (g : Gr) : Int := if checkE e ≠ 0 ∨ gcheck g ≠ 0 then 1 else if g.labels ≠ e.letters then 11 else buildN g
def withinB (e : Enc) (g : Gr) : Bool := decide (withinN e g = 0) && decide (0 < g.states) && wiB e (sbAt g 65)
theorem withinN_arg {e : Enc} {g : Gr} (h : checkE e ≠ 0 ∨ gcheck g ≠ 0) : withinN e g = 1 := if_pos h
theorem withinN_mis {e : Enc} {g : Gr} (h : checkE e = 0) (h2 : gcheck g = 0) (h3 : g.labels ≠ e.letters) : withinN e g = 11 := by
  unfold withinN; rw [if_neg (by rintro (k | k) <;> contradiction), if_pos h3]
theorem withinN_ok {e : Enc} {g : Gr} (h : checkE e = 0) (h2 : gcheck g = 0) (h3 : g.labels = e.letters) : withinN e g = buildN g := by
  unfold withinN; rw [if_neg (by rintro (k | k) <;> contradiction), if_neg (fun k => k h3)]
theorem withinB_err {e : Enc} {g : Gr} (h : withinN e g ≠ 0) : withinB e g = false := by unfold withinB; rw [decide_eq_false h]; rfl
theorem withinB_none {e : Enc} {g : Gr} (h : ¬ 0 < g.states) : withinB e g = false := by unfold withinB; rw [decide_eq_false h]; simp
theorem withinB_ok {e : Enc} {g : Gr} (h : withinN e g = 0) (h2 : 0 < g.states) : withinB e g = wiB e (sbAt g 65) := by unfold withinB; rw [decide_eq_true h, decide_eq_true h2]; simp
theorem buildN_ok {g : Gr} (h : gcheck g = 0) (h2 : ¬ (0 < g.states ∧ sbOver (sbAt g 65))) : buildN g = 0 := by unfold buildN; rw [if_neg (fun k => k h), if_neg h2]
theorem buildN_over {g : Gr} (h : gcheck g = 0) (h2 : 0 < g.states) (h3 : sbOver (sbAt g 65)) : buildN g = 4 := by unfold buildN; rw [if_neg (fun k => k h), if_pos ⟨h2, h3⟩]
theorem build_fin {g : Gr} (hv : gcheck g = 0) (hs : 0 < g.states) (hb : buildN g = 0) : SbFin g (sbAt g 65) := by
  have ho : ¬ sbOver (sbAt g 65) := by
    intro ho
    rw [buildN_over hv hs ho] at hb; omega
  exact sb_fin hv hs (by have := (sb_done ho).1; omega)
end Go.Proofs.YtchjjiedcpfniaaGreatDoor
namespace Go.Proofs.YtchjjiedcpfniaaGreatDoor
set_option linter.unusedSimpArgs false
set_option linter.unusedVariables false
open Go Go.Lift
def nxE (k : Int) (L : List Int) (t : Int) (x : Edge) : Bool := decide (x.to = t) && decide (x.lab = k) && decide (x.frm ∈ L)
def nxF (g : Gr) (k : Int) (L : List Int) (t : Int) (m : Nat) : Bool := (g.edges.take m).any (nxE k L t)
def nxT (g : Gr) (k : Int) (L : List Int) (T : Nat) : List Int := (iotaL T).filter fun t => nxF g k L t g.edges.length
theorem nxF_zero {g : Gr} {k : Int} {L : List Int} {t : Int} : nxF g k L t 0 = false := by simp [nxF]
theorem nxT_all {g : Gr} (hv : gcheck g = 0) {k : Int} {L : List Int} : nxT g k L g.states.toNat = stepL g k L := by
  refine ascI_ext (iota_asc.filter _) step_asc fun t => ?_
  unfold nxT
  rw [List.mem_filter, step_mem]
  unfold nxF
  rw [List.take_length, List.any_eq_true]
  constructor
  · rintro ⟨_, x, hx, h⟩
    unfold nxE at h
    simp at h
    exact ⟨x.frm, h.2, x, hx, rfl, h.1.2, h.1.1⟩
  · rintro ⟨s, hs, x, hx, h1, h2, h3⟩
    have hb := (edge_in hv hx).2.2
    refine ⟨?_, x, hx, by unfold nxE; simp [h1, h2, h3, hs]⟩
    rw [h3] at hb
    exact List.mem_map.2 ⟨t.toNat, List.mem_range.2 (by omega), by omega⟩
theorem sbPut_none {g : Gr} {i k : Nat} {st : Sb} (h : stepL g k (st.all.getD i []) = []) : sbPut g i st k = st := if_pos h
theorem sbPut_new {g : Gr} {i k : Nat} {st : Sb} (h : stepL g k (st.all.getD i []) ≠ []) (hm : stepL g k (st.all.getD i []) ∉ st.all) : sbPut g i st k = ⟨st.all ++ [stepL g k (st.all.getD i [])], st.es ++ [⟨i, k, st.all.length⟩]⟩ := by
  unfold sbPut
  rw [if_neg h, if_neg hm, List.idxOf_eq_length hm]
theorem sbPut_old {g : Gr} {i k : Nat} {st : Sb} (h : stepL g k (st.all.getD i []) ≠ []) (hm : stepL g k (st.all.getD i []) ∈ st.all) : sbPut g i st k = ⟨st.all, st.es ++ [⟨i, k, st.all.idxOf (stepL g k (st.all.getD i []))⟩]⟩ := by
  unfold sbPut
  rw [if_neg h, if_pos hm]
end Go.Proofs.YtchjjiedcpfniaaGreatDoor
namespace Go.Proofs.YtchjjiedcpfniaaGreatDoor
set_option linter.unusedSimpArgs false
set_option linter.unusedVariables false
open Go Go.Lift
def smp : Enc := ⟨2, 2, 2, [[⟨0, [48, 49]⟩, ⟨1, [48, 48]⟩], [⟨0, [49, 48]⟩, ⟨1, [48, 48]⟩]]⟩
def gold : Gr := ⟨2, 2, [⟨0, 0, 0⟩, ⟨0, 1, 1⟩, ⟨1, 0, 0⟩]⟩
theorem smp_ok : checkE smp = 0 := by decide
theorem smp_los : losB smp = true := by decide +kernel
theorem smp_enc : encodeN smp 0 [1, 0, 0] = 0 ∧ runE smp 0 [1, 0, 0] = ([48, 48, 49, 48, 48, 49], 0) := by decide +kernel
theorem smp_text : textE smp = [101, 110, 99, 111, 100, 101, 114, 32, 50, 32, 50, 32, 50, 32, 50, 10, 48, 49, 62, 48, 32, 48, 48, 62, 49, 10, 49, 48, 62, 48, 32, 48, 48, 62, 49, 10] := by decide +kernel
theorem gold_ok : gcheck gold = 0 := by decide
def goldS : Sb := ⟨[[0, 1], [0], [1]], [⟨0, 0, 1⟩, ⟨0, 1, 2⟩, ⟨1, 0, 1⟩, ⟨1, 1, 2⟩, ⟨2, 0, 1⟩]⟩
def stepN (g : Gr) (k : Int) (L : List Int) : List Int := nxT g k L g.states.toNat
def sbPutN (g : Gr) (i : Nat) (st : Sb) (k : Nat) : Sb :=
  if stepN g k (st.all.getD i []) = [] then st else
    ⟨if stepN g k (st.all.getD i []) ∈ st.all then st.all else st.all ++ [stepN g k (st.all.getD i [])], st.es ++ [⟨i, k, st.all.idxOf (stepN g k (st.all.getD i []))⟩]⟩
def sbRowN (g : Gr) (i : Nat) (st : Sb) (k : Nat) : Sb := (List.range k).foldl (sbPutN g i) st
def sbAtN (g : Gr) : Nat → Sb
  | 0 => ⟨[iotaL g.states.toNat], []⟩
  | i + 1 => if i < (sbAtN g i).all.length then sbRowN g i (sbAtN g i) g.labels.toNat else sbAtN g i
theorem sbPutN_eq {g : Gr} (hv : gcheck g = 0) {i : Nat} : sbPutN g i = sbPut g i := by
  funext st k
  unfold sbPutN sbPut stepN
  rw [nxT_all hv]
theorem sbAtN_eq {g : Gr} (hv : gcheck g = 0) : ∀ i, sbAtN g i = sbAt g i
  | 0 => rfl
  | i + 1 => by
    show (if _ then _ else _) = if _ then _ else _
    unfold sbRowN
    rw [sbAtN_eq hv i, sbPutN_eq hv]; rfl
deriving instance DecidableEq for Sb
theorem gold_3 : sbAtN gold 3 = goldS := by decide +kernel
theorem gold_sb : sbAt gold 65 = goldS := by
  have h3 : sbAt gold 3 = goldS := by rw [← sbAtN_eq gold_ok]; exact gold_3
  rw [sb_final (i := 3) (by omega) (by rw [h3]; decide), h3]
theorem gold_build : buildN gold = 0 := buildN_ok gold_ok (by rw [gold_sb]; decide)
theorem smp_in : withinB smp gold = true ∧ withinN smp gold = 0 := by
  have hN : withinN smp gold = 0 := by rw [withinN_ok smp_ok gold_ok rfl, gold_build]
  refine ⟨?_, hN⟩
  rw [withinB_ok hN (by decide), gold_sb]
  decide +kernel
end Go.Proofs.YtchjjiedcpfniaaGreatDoor
namespace Go.Proofs.YtchjjiedcpfniaaGreatDoor
set_option linter.unusedSimpArgs false
set_option linter.unusedVariables false
open Go Go.Lift
theorem runE_app {e : Enc} : ∀ {a b : List Int} {s : Int}, runE e s (a ++ b) = ((runE e s a).1 ++ (runE e (runE e s a).2 b).1, (runE e (runE e s a).2 b).2)
  | [], b, s => rfl
  | i :: a, b, s => by
    simp only [List.cons_append, runE]
    rw [runE_app (a := a)]
    simp
def cellE (e : Enc) (s i : Nat) : Edge := ⟨s, valW e.letters (cellAt e s i).word, (cellAt e s i).to⟩
theorem cell_word {e : Enc} (h : checkE e = 0) {s i : Nat} (hs : s < e.rows.length) (hi : i < (e.rows.getD s []).length) : wordCheck e.letters (cellAt e s i).word = 0 := by
  have h1 := (rowCheck_valid ((checkE_valid h).2.2.2 _ (getD_mem (d := []) hs))).2 _ (getD_mem (d := dc) hi)
  unfold cellCheck at h1
  unfold cellAt
  split at h1
  · cases h1
  · split at h1
    · cases h1
    · rename_i h2
      exact Classical.byContradiction fun h3 => h2 (.inr h3)
section
variable {e : Enc} (hv : checkE e = 0)
include hv
theorem cell_label {s i : Nat} (hs : s < e.rows.length) (hi : i < (e.rows.getD s []).length) (hu : upTo e.letters e.block.toNat ≤ 256) : labelN e.letters (cellAt e s i).word = 0 ∧ labelX e.letters (cellAt e s i).word = valW e.letters (cellAt e s i).word := by
  have h4 := cell_wlen hv hs hi
  have hb := (checkE_valid hv).1.block
  have h0 : labelN e.letters (cellAt e s i).word = 0 := by
    unfold labelN
    rw [if_neg (by rw [cell_word hv hs hi]; exact fun h => h rfl), if_neg (by omega), if_neg]
    rw [show (cellAt e s i).word.length = e.block.toNat by omega]; omega
  exact ⟨h0, label_ok h0⟩
theorem run_block {s : Int} {l : List Int} (h0 : 0 ≤ s) (h1 : s < (e.rows.length : Int)) (hg : ∀ i ∈ l, badI e i = false) {j : Nat} (hj : j < l.length) :
    ((runE e s l).1.drop (j * e.block.toNat)).take e.block.toNat = (cellAt e (runE e s (l.take j)).2.toNat (l.getD j 0).toNat).word := by
  have hb := (checkE_valid hv).1.block
  have hsp : l = l.take j ++ (l.getD j 0 :: l.drop (j + 1)) := by
    rw [getD_get hj, ← List.drop_eq_getElem_cons hj, List.take_append_drop]
  have hgt : ∀ i ∈ l.take j, badI e i = false := fun i hi => hg i (List.mem_of_mem_take hi)
  obtain ⟨k1, k2, k3⟩ := runE_ok hv h0 h1 hgt
  have hi := bad_no.1 (hg _ (getD_mem (d := 0) hj))
  have hr := row_eq hv (k := (runE e s (l.take j)).2.toNat) (by omega)
  have hw := cell_wlen hv (s := (runE e s (l.take j)).2.toNat) (i := (l.getD j 0).toNat) (by omega) (by omega)
  have hlen : (runE e s (l.take j)).1.length = j * e.block.toNat := by
    rw [List.length_take, Nat.min_eq_left (by omega)] at k3
    obtain ⟨B, hB⟩ : ∃ B : Nat, e.block = B := ⟨e.block.toNat, by omega⟩
    rw [hB] at k3 ⊢
    rw [Int.toNat_natCast]
    exact_mod_cast k3
  have hwl : (cellAt e (runE e s (l.take j)).2.toNat (l.getD j 0).toNat).word.length = e.block.toNat := by omega
  have key : (runE e s l).1 = (runE e s (l.take j)).1 ++ ((cellAt e (runE e s (l.take j)).2.toNat (l.getD j 0).toNat).word ++ (runE e (cellAt e (runE e s (l.take j)).2.toNat (l.getD j 0).toNat).to (l.drop (j + 1))).1) := by
    have h2 := congrArg (fun l => (runE e s l).1) hsp
    refine h2.trans ?_
    show (runE e s (l.take j ++ _)).1 = _
    rw [runE_app]
    rfl
  rw [key, ← hlen, List.drop_left, ← hwl, List.take_left]
end
section
variable {e : Enc} {g : Gr} (hv : checkE e = 0) (hg : gcheck g = 0) (hge : g.states = e.rows.length) (he : ∀ s i, s < e.rows.length → i < (e.rows.getD s []).length → cellE e s i ∈ g.edges)
end
end Go.Proofs.YtchjjiedcpfniaaGreatDoor
