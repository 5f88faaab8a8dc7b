/-
  Encoders: cells, rows, as Lean data and as abstract values.
-/
import Derived.Test.YtmjkbidnghcfnaaLZ
namespace Go.Proofs.Ytmjkbidnghcfnaa
set_option linter.unusedSimpArgs false
set_option linter.unusedVariables false
open Go Go.Lift

structure Cell where
  to : Int
  word : List UInt8
deriving DecidableEq, Inhabited
structure Enc where
  letters : Int
  block : Int
  inputs : Int
  rows : List (List Cell)
deriving DecidableEq, Inhabited
def dc : Cell := ⟨0, []⟩
def cellF (c : Cell) (j : Nat) : AVal := match j with
  | 0 => .int .i64 c.to
  | _ => .str c.word
@[simp] theorem cellF0 {c : Cell} : cellF c 0 = .int .i64 c.to := rfl
@[simp] theorem cellF1 {c : Cell} : cellF c 1 = .str c.word := rfl
@[simp] theorem one_cellF {c : Cell} {j : Nat} : (cellF c j).one = true := by unfold cellF; split <;> rfl
@[simp] theorem Clo_cellF {c : Cell} {j : Nat} : Clo (cellF c j) := by unfold cellF; split <;> trivial
@[simp] theorem ren_cellF {ρ : Nat → Nat} {c : Cell} {j : Nat} : ren ρ (cellF c j) = cellF c j := by unfold cellF; split <;> rfl
@[simp] theorem flat_cellF {c : Cell} {j : Nat} : flat (cellF c j) := by unfold cellF; split <;> trivial

def cells (l : List Cell) : AVal := vec 2 cellF dc l
@[simp] theorem evLen_cells {h : Heap} {l : List Cell} : evLen h (cells l) = some (.int .i64 l.length) := rfl
@[simp] theorem strip_cells {l : List Cell} : strip (cells l) = (cells l, True) := rfl
@[simp] theorem mkOpt_cells {g : Bool} {l : List Cell} : mkOpt g (cells l) = .opt g (cells l) := rfl
@[simp] theorem one_cells {l : List Cell} : (cells l).one = true := rfl
@[simp] theorem acell_cells {l : List Cell} {j : Nat} : acell (cells l) j = cells l := rfl
@[simp] theorem Clo_cells {l : List Cell} : Clo (cells l) := Clo_vec fun x _ j hj => ⟨one_cellF, Clo_cellF⟩
@[simp] theorem lenT_cells {T : Tab} {t : TypeId} {l : List Cell} : lenT T t (cells l) = sliceT T t := lenT_vec
@[simp] theorem evIndexAddr_cells {T : Tab} {h : Heap} {t : TypeId} {k : IntKind} {m : Int} {l : List Cell} : evIndexAddr T h t (cells l) (.int k m) = match elemT T t with
    | some ei => if 2 = ei.size then some (.vptr 2 (fun j => cellF (l.getD m.toNat dc) j) 0, 0 ≤ m ∧ m < (l.length : Int)) else none
    | none => none := evIndexAddr_vec
@[simp] theorem evSrc_cells {h : Heap} {l : List Cell} : evSrc h 2 (cells l) = some (l.length, (fun i j => cellF (l.getD i dc) j), True) := by
  unfold cells
  rw [evSrc_vec rfl]
  rfl
@[simp] theorem evBin_cells {o : BinOp} {v : AVal} {l : List Cell} : evBin o (cells l) v = none := rfl
@[simp] theorem evEq_cells {T : Tab} {t : TypeId} {l : List Cell} : evEq T .eql t (cells l) .nils = if sliceT T t then some (.ub (l.length = 0)) else none := rfl
@[simp] theorem VLe_cells_nils {h : Heap} {σ : Lift.Id → Lift.Id} {fz : Nat → Bool} {vz : Lift.Id → Bool} {x : Nat} {l : List Cell} : VLe h σ fz vz x (cells l) .nils = (l.length = 0) := rfl
@[simp] theorem VLe_cells_sl {h : Heap} {σ : Lift.Id → Lift.Id} {fz : Nat → Bool} {vz : Lift.Id → Bool} {y lo x' : Nat} {id : Lift.Id} {l : List Cell} : VLe h σ fz vz y (cells l) (.sl id lo x') = (x' = l.length ∧ fz id.1 = true ∧ match lkH h id with
    | some (.arr N s' g') => s' = 2 ∧ lo + l.length ≤ N ∧ ∀ i, i < l.length → ∀ j, j < 2 → (cellF (l.getD i dc) j).one = true ∧ VLe h σ fz vz y (cellF (l.getD i dc) j) (g' (lo + i) j)
    | _ => False) := VLe_vsl_sl
@[simp] theorem VLe_cells_vsl {h : Heap} {σ : Lift.Id → Lift.Id} {fz : Nat → Bool} {vz : Lift.Id → Bool} {x' s' y : Nat} {g' : Nat → Nat → AVal} {l : List Cell} : VLe h σ fz vz y (cells l) (.vsl x' s' g') = (x' = l.length ∧ s' = 2 ∧ ∀ i, i < l.length → ∀ j, j < 2 → (cellF (l.getD i dc) j).one = true ∧ VLe h σ fz vz y (cellF (l.getD i dc) j) (g' i j)) := rfl

@[simp] theorem ren_cells {ρ : Nat → Nat} {l : List Cell} : ren ρ (cells l) = cells l := ren_vec fun _ _ => ren_cellF

def rowsC (l : List (List Cell)) : AVal := vec 1 (fun (x : List Cell) _ => cells x) [] l
@[simp] theorem evLen_rowsC {h : Heap} {l : List (List Cell)} : evLen h (rowsC l) = some (.int .i64 l.length) := rfl
@[simp] theorem strip_rowsC {l : List (List Cell)} : strip (rowsC l) = (rowsC l, True) := rfl
@[simp] theorem mkOpt_rowsC {g : Bool} {l : List (List Cell)} : mkOpt g (rowsC l) = .opt g (rowsC l) := rfl
@[simp] theorem one_rowsC {l : List (List Cell)} : (rowsC l).one = true := rfl
@[simp] theorem acell_rowsC {l : List (List Cell)} {j : Nat} : acell (rowsC l) j = rowsC l := rfl
@[simp] theorem Clo_rowsC {l : List (List Cell)} : Clo (rowsC l) := Clo_vec fun x _ j hj => ⟨rfl, Clo_cells⟩
@[simp] theorem lenT_rowsC {T : Tab} {t : TypeId} {l : List (List Cell)} : lenT T t (rowsC l) = sliceT T t := lenT_vec
@[simp] theorem evIndexAddr_rowsC {T : Tab} {h : Heap} {t : TypeId} {k : IntKind} {m : Int} {l : List (List Cell)} : evIndexAddr T h t (rowsC l) (.int k m) = match elemT T t with
    | some ei => if 1 = ei.size then some (.vptr 1 (fun j => (fun (x : List Cell) _ => cells x) (l.getD m.toNat []) j) 0, 0 ≤ m ∧ m < (l.length : Int)) else none
    | none => none := evIndexAddr_vec
@[simp] theorem evSrc_rowsC {h : Heap} {l : List (List Cell)} : evSrc h 1 (rowsC l) = some (l.length, (fun i j => (fun (x : List Cell) _ => cells x) (l.getD i []) j), True) := by
  unfold rowsC
  rw [evSrc_vec rfl]
  rfl
@[simp] theorem evBin_rowsC {o : BinOp} {v : AVal} {l : List (List Cell)} : evBin o (rowsC l) v = none := rfl
@[simp] theorem evEq_rowsC {T : Tab} {t : TypeId} {l : List (List Cell)} : evEq T .eql t (rowsC l) .nils = if sliceT T t then some (.ub (l.length = 0)) else none := rfl
@[simp] theorem VLe_rowsC_nils {h : Heap} {σ : Lift.Id → Lift.Id} {fz : Nat → Bool} {vz : Lift.Id → Bool} {x : Nat} {l : List (List Cell)} : VLe h σ fz vz x (rowsC l) .nils = (l.length = 0) := rfl
@[simp] theorem VLe_rowsC_sl {h : Heap} {σ : Lift.Id → Lift.Id} {fz : Nat → Bool} {vz : Lift.Id → Bool} {y lo x' : Nat} {id : Lift.Id} {l : List (List Cell)} : VLe h σ fz vz y (rowsC l) (.sl id lo x') = (x' = l.length ∧ fz id.1 = true ∧ match lkH h id with
    | some (.arr N s' g') => s' = 1 ∧ lo + l.length ≤ N ∧ ∀ i, i < l.length → ∀ j, j < 1 → ((fun (x : List Cell) _ => cells x) (l.getD i []) j).one = true ∧ VLe h σ fz vz y ((fun (x : List Cell) _ => cells x) (l.getD i []) j) (g' (lo + i) j)
    | _ => False) := VLe_vsl_sl
@[simp] theorem VLe_rowsC_vsl {h : Heap} {σ : Lift.Id → Lift.Id} {fz : Nat → Bool} {vz : Lift.Id → Bool} {x' s' y : Nat} {g' : Nat → Nat → AVal} {l : List (List Cell)} : VLe h σ fz vz y (rowsC l) (.vsl x' s' g') = (x' = l.length ∧ s' = 1 ∧ ∀ i, i < l.length → ∀ j, j < 1 → ((fun (x : List Cell) _ => cells x) (l.getD i []) j).one = true ∧ VLe h σ fz vz y ((fun (x : List Cell) _ => cells x) (l.getD i []) j) (g' i j)) := rfl

@[simp] theorem ren_rowsC {ρ : Nat → Nat} {l : List (List Cell)} : ren ρ (rowsC l) = rowsC l := ren_vec fun _ _ => ren_cells

def encF (e : Enc) (j : Nat) : AVal := match j with
  | 0 => .int .i64 e.letters
  | 1 => .int .i64 e.block
  | 2 => .int .i64 e.inputs
  | _ => rowsC e.rows
@[simp] theorem encF0 {e : Enc} : encF e 0 = .int .i64 e.letters := rfl
@[simp] theorem encF1 {e : Enc} : encF e 1 = .int .i64 e.block := rfl
@[simp] theorem encF2 {e : Enc} : encF e 2 = .int .i64 e.inputs := rfl
@[simp] theorem encF3 {e : Enc} : encF e 3 = rowsC e.rows := rfl
@[simp] theorem one_encF {e : Enc} {j : Nat} : (encF e j).one = true := by unfold encF; split <;> rfl
@[simp] theorem Clo_encF {e : Enc} {j : Nat} : Clo (encF e j) := by unfold encF; split <;> first | trivial | exact Clo_rowsC
@[simp] theorem ren_encF {ρ : Nat → Nat} {e : Enc} {j : Nat} : ren ρ (encF e j) = encF e j := by unfold encF; split <;> first | rfl | exact ren_rowsC
/-- a guarded value out of a list. -/
@[simp] theorem mkOpt_vecF {α : Type} {g : Bool} {f : α → Nat → AVal} {d : α} {l : List α} {i j : Nat} : mkOpt g (vecF f d l i j) = mkOpt g (f (l.getD i d) j) := rfl
end Go.Proofs.Ytmjkbidnghcfnaa
