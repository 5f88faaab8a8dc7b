/- Parts of the proof: DL. -/
import Derived.Test.YtoafgeobhhlplaaZF21
namespace Go.Proofs.Ytoafgeobhhlplaa
set_option linter.unusedSimpArgs false
set_option linter.unusedVariables false
open Go Go.Lift
def dRc : Rc := ([], [])
def rcF (x : Rc) (j : Nat) : AVal := match j with
  | 0 => .str x.1
  | _ => .str x.2
@[simp] theorem rcF0 {x : Rc} : rcF x 0 = .str x.1 := rfl
@[simp] theorem rcF1 {x : Rc} : rcF x 1 = .str x.2 := rfl
@[simp] theorem one_rcF {c : Rc} {j : Nat} : (rcF c j).one = true := by unfold rcF; split <;> rfl
@[simp] theorem Clo_rcF {c : Rc} {j : Nat} : Clo (rcF c j) := by unfold rcF; split <;> trivial
@[simp] theorem ren_rcF {ρ : Nat → Nat} {c : Rc} {j : Nat} : ren ρ (rcF c j) = rcF c j := by unfold rcF; split <;> rfl
@[simp] theorem flat_rcF {c : Rc} {j : Nat} : flat (rcF c j) := by unfold rcF; split <;> trivial
def rcs (l : List Rc) : AVal := vec 2 rcF dRc l
@[simp] theorem evLen_rcs {h : Heap} {l : List Rc} : evLen h (rcs l) = some (.int .i64 l.length) := rfl
@[simp] theorem strip_rcs {l : List Rc} : strip (rcs l) = (rcs l, True) := rfl
@[simp] theorem mkOpt_rcs {g : Bool} {l : List Rc} : mkOpt g (rcs l) = .opt g (rcs l) := rfl
@[simp] theorem one_rcs {l : List Rc} : (rcs l).one = true := rfl
@[simp] theorem acell_rcs {l : List Rc} {j : Nat} : acell (rcs l) j = rcs l := rfl
@[simp] theorem Clo_rcs {l : List Rc} : Clo (rcs l) := Clo_vec fun x _ j hj => ⟨one_rcF, Clo_rcF⟩
@[simp] theorem lenT_rcs {T : Tab} {t : TypeId} {l : List Rc} : lenT T t (rcs l) = sliceT T t := lenT_vec
@[simp] theorem evIndexAddr_rcs {T : Tab} {h : Heap} {t : TypeId} {k : IntKind} {m : Int} {l : List Rc} : evIndexAddr T h t (rcs l) (.int k m) = match elemT T t with
    | some ei => if 2 = ei.size then some (.vptr 2 (fun j => rcF (l.getD m.toNat dRc) j) 0, 0 ≤ m ∧ m < (l.length : Int)) else none
    | none => none := evIndexAddr_vec
@[simp] theorem evSrc_rcs {h : Heap} {l : List Rc} : evSrc h 2 (rcs l) = some (l.length, (fun i j => rcF (l.getD i dRc) j), True) := by
  unfold rcs
  rw [evSrc_vec rfl]
  rfl
@[simp] theorem evBin_rcs {o : BinOp} {v : AVal} {l : List Rc} : evBin o (rcs l) v = none := rfl
@[simp] theorem evEq_rcs {T : Tab} {t : TypeId} {l : List Rc} : evEq T .eql t (rcs l) .nils = if sliceT T t then some (.ub (l.length = 0)) else none := rfl
@[simp] theorem VLe_rcs_nils {h : Heap} {σ : Lift.Id → Lift.Id} {fz : Nat → Bool} {vz : Lift.Id → Bool} {x : Nat} {l : List Rc} : VLe h σ fz vz x (rcs l) .nils = (l.length = 0) := rfl
@[simp] theorem VLe_rcs_sl {h : Heap} {σ : Lift.Id → Lift.Id} {fz : Nat → Bool} {vz : Lift.Id → Bool} {y lo x' : Nat} {id : Lift.Id} {l : List Rc} : VLe h σ fz vz y (rcs l) (.sl id lo x') = (x' = l.length ∧ fz id.1 = true ∧ match lkH h id with
    | some (.arr N s' g') => s' = 2 ∧ lo + l.length ≤ N ∧ ∀ i, i < l.length → ∀ j, j < 2 → (rcF (l.getD i dRc) j).one = true ∧ VLe h σ fz vz y (rcF (l.getD i dRc) j) (g' (lo + i) j)
    | _ => False) := VLe_vsl_sl
@[simp] theorem VLe_rcs_vsl {h : Heap} {σ : Lift.Id → Lift.Id} {fz : Nat → Bool} {vz : Lift.Id → Bool} {x' s' y : Nat} {g' : Nat → Nat → AVal} {l : List Rc} : VLe h σ fz vz y (rcs l) (.vsl x' s' g') = (x' = l.length ∧ s' = 2 ∧ ∀ i, i < l.length → ∀ j, j < 2 → (rcF (l.getD i dRc) j).one = true ∧ VLe h σ fz vz y (rcF (l.getD i dRc) j) (g' i j)) := rfl
@[simp] theorem ren_rcs {ρ : Nat → Nat} {l : List Rc} : ren ρ (rcs l) = rcs l := ren_vec fun _ _ => ren_rcF
def rstA (W : List Wd) (l : UInt8) (k : Nat) : List Wd := ((W.take k).filter fun x => decide (x.head? = some l)).map List.tail
section
variable {W : List Wd}
@[simp] theorem rstA_zero {l : UInt8} : rstA W l 0 = [] := rfl
theorem rstA_yes {l : UInt8} {k : Nat} (hk : k < W.length) (h : (W.getD k []).head? = some l) : rstA W l (k + 1) = rstA W l k ++ [(W.getD k []).tail] := by
  unfold rstA
  rw [List.take_succ_eq_append_getElem hk, List.filter_append, List.map_append]
  rw [List.getD_eq_getElem?_getD, List.getElem?_eq_getElem hk] at h ⊢
  simp only [Option.getD_some] at h ⊢
  simp [h]
theorem rstA_not {l : UInt8} {k : Nat} (hk : k < W.length) (h : ¬ (W.getD k []).head? = some l) : rstA W l (k + 1) = rstA W l k := by
  unfold rstA
  rw [List.take_succ_eq_append_getElem hk, List.filter_append, List.map_append]
  rw [List.getD_eq_getElem?_getD, List.getElem?_eq_getElem hk] at h
  simp only [Option.getD_some] at h
  simp [h]
theorem rstA_full {l : UInt8} : rstA W l W.length = rst W [] l := by unfold rstA; rw [List.take_length]; rfl
theorem rstA_len {l : UInt8} (k : Nat) : (rstA W l k).length ≤ k := by
  unfold rstA
  rw [List.length_map]
  refine Nat.le_trans (List.length_filter_le _ _) ?_
  rw [List.length_take]; omega
theorem rst_len {s : Wd} {l : UInt8} (h : 1 ≤ W.length) : (rst W s l).length ≤ W.length := by
  cases s with
  | nil => rw [← rstA_full]; exact rstA_len _
  | cons a t => show (if a = l then [t] else []).length ≤ _; split <;> simp; omega
theorem head_at {x : Wd} {l : UInt8} (h : x ≠ []) : x.head? = some l ↔ ((x.getD 0 0).toNat : Int) = l.toNat := by
  cases x with
  | nil => exact absurd rfl h
  | cons a t =>
    show some a = some l ↔ ((a.toNat : Nat) : Int) = (l.toNat : Nat)
    constructor
    · intro e; cases e; rfl
    · intro e
      have : a.toNat = l.toNat := by omega
      rw [UInt8.toNat_inj.1 this]
def aftJ (A B : List Wd) (i j : Nat) : List Rc := ((A.take i).flatMap fun a => B.map fun b => (a, b)) ++ (B.take j).map fun b => (A.getD i [], b)
def aftI (A B : List Wd) (i : Nat) : List Rc := (A.take i).flatMap fun a => B.map fun b => (a, b)
@[simp] theorem aftI_zero {A B : List Wd} : aftI A B 0 = [] := rfl
@[simp] theorem aftJ_zero {A B : List Wd} {i : Nat} : aftJ A B i 0 = aftI A B i := by unfold aftJ aftI; simp
theorem aftJ_succ {A B : List Wd} {i j : Nat} (hj : j < B.length) : aftJ A B i (j + 1) = aftJ A B i j ++ [(A.getD i [], B.getD j [])] := by
  unfold aftJ
  rw [List.take_succ_eq_append_getElem hj, List.map_append, ← List.append_assoc]
  congr 1
  simp [List.getD, hj]
theorem aftJ_full {A B : List Wd} {i : Nat} (hi : i < A.length) : aftJ A B i B.length = aftI A B (i + 1) := by
  unfold aftJ aftI
  rw [List.take_length, List.take_succ_eq_append_getElem hi, List.flatMap_append]
  congr 1
  simp [List.getD, hi]
theorem aftI_full {p : Rc} {l : UInt8} : aftI (rst W p.1 l) (rst W p.2 l) (rst W p.1 l).length = aft W p l := by unfold aftI aft; rw [List.take_length]
theorem aftI_len {A B : List Wd} : ∀ i, (aftI A B i).length ≤ i * B.length
  | 0 => by simp
  | i + 1 => by
    have ih := aftI_len (A := A) (B := B) i
    rw [Nat.add_mul, Nat.one_mul]
    by_cases h : i < A.length
    · unfold aftI at ih ⊢
      rw [List.take_succ_eq_append_getElem h, List.flatMap_append, List.length_append]
      simp only [List.flatMap_cons, List.flatMap_nil, List.append_nil, List.length_map]
      omega
    · have : aftI A B (i + 1) = aftI A B i := by
        unfold aftI
        rw [List.take_of_length_le (by omega), List.take_of_length_le (by omega)]
      rw [this]; omega
theorem aftJ_len {A B : List Wd} {i j : Nat} : (aftJ A B i j).length ≤ i * B.length + j := by
  have := aftI_len (A := A) (B := B) i
  unfold aftJ
  rw [List.length_append, List.length_map, List.length_take]
  unfold aftI at this
  omega
end
end Go.Proofs.Ytoafgeobhhlplaa
