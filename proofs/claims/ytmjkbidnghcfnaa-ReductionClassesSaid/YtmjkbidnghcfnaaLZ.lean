/-
  The abstract layer, part Z: encoders of slices of plain values.
-/
import Derived.Test.YtmjkbidnghcfnaaLY
namespace Go.Lift
set_option linter.unusedSimpArgs false
set_option linter.unusedVariables false

@[simp] theorem evBin_ints {o : BinOp} {v : AVal} {l : List Int} : evBin o (ints l) v = none := rfl
@[simp] theorem evEq_ints {T : Tab} {t : TypeId} {l : List Int} : evEq T .eql t (ints l) .nils = if sliceT T t then some (.ub (l.length = 0)) else none := rfl
@[simp] theorem VLe_ints_nils {h : Heap} {σ : Lift.Id → Lift.Id} {fz : Nat → Bool} {vz : Lift.Id → Bool} {x : Nat} {l : List Int} : VLe h σ fz vz x (ints l) .nils = (l.length = 0) := rfl
@[simp] theorem VLe_ints_sl {h : Heap} {σ : Lift.Id → Lift.Id} {fz : Nat → Bool} {vz : Lift.Id → Bool} {y lo x' : Nat} {id : Lift.Id} {l : List Int} : VLe h σ fz vz y (ints l) (.sl id lo x') = (x' = l.length ∧ fz id.1 = true ∧ match lkH h id with
    | some (.arr N s' g') => s' = 1 ∧ lo + l.length ≤ N ∧ ∀ i, i < l.length → ∀ j, j < 1 → ((fun (x : Int) _ => AVal.int .i64 x) (l.getD i 0) j).one = true ∧ VLe h σ fz vz y ((fun (x : Int) _ => AVal.int .i64 x) (l.getD i 0) j) (g' (lo + i) j)
    | _ => False) := VLe_vsl_sl
@[simp] theorem VLe_ints_vsl {h : Heap} {σ : Lift.Id → Lift.Id} {fz : Nat → Bool} {vz : Lift.Id → Bool} {x' s' y : Nat} {g' : Nat → Nat → AVal} {l : List Int} : VLe h σ fz vz y (ints l) (.vsl x' s' g') = (x' = l.length ∧ s' = 1 ∧ ∀ i, i < l.length → ∀ j, j < 1 → ((fun (x : Int) _ => AVal.int .i64 x) (l.getD i 0) j).one = true ∧ VLe h σ fz vz y ((fun (x : Int) _ => AVal.int .i64 x) (l.getD i 0) j) (g' i j)) := rfl


def strs (l : List (List UInt8)) : AVal := vec 1 (fun (x : List UInt8) _ => AVal.str x) [] l
@[simp] theorem evLen_strs {h : Heap} {l : List (List UInt8)} : evLen h (strs l) = some (.int .i64 l.length) := rfl
@[simp] theorem strip_strs {l : List (List UInt8)} : strip (strs l) = (strs l, True) := rfl
@[simp] theorem mkOpt_strs {g : Bool} {l : List (List UInt8)} : mkOpt g (strs l) = .opt g (strs l) := rfl
@[simp] theorem one_strs {l : List (List UInt8)} : (strs l).one = true := rfl
@[simp] theorem acell_strs {l : List (List UInt8)} {j : Nat} : acell (strs l) j = strs l := rfl
@[simp] theorem Clo_strs {l : List (List UInt8)} : Clo (strs l) := Clo_vec fun x _ j hj => ⟨rfl, trivial⟩
@[simp] theorem lenT_strs {T : Tab} {t : TypeId} {l : List (List UInt8)} : lenT T t (strs l) = sliceT T t := lenT_vec
@[simp] theorem evIndexAddr_strs {T : Tab} {h : Heap} {t : TypeId} {k : IntKind} {m : Int} {l : List (List UInt8)} : evIndexAddr T h t (strs l) (.int k m) = match elemT T t with
    | some ei => if 1 = ei.size then some (.vptr 1 (fun j => (fun (x : List UInt8) _ => AVal.str x) (l.getD m.toNat []) j) 0, 0 ≤ m ∧ m < (l.length : Int)) else none
    | none => none := evIndexAddr_vec
@[simp] theorem evSrc_strs {h : Heap} {l : List (List UInt8)} : evSrc h 1 (strs l) = some (l.length, (fun i j => (fun (x : List UInt8) _ => AVal.str x) (l.getD i []) j), True) := by
  unfold strs
  rw [evSrc_vec rfl]
  rfl
@[simp] theorem evBin_strs {o : BinOp} {v : AVal} {l : List (List UInt8)} : evBin o (strs l) v = none := rfl
@[simp] theorem evEq_strs {T : Tab} {t : TypeId} {l : List (List UInt8)} : evEq T .eql t (strs l) .nils = if sliceT T t then some (.ub (l.length = 0)) else none := rfl
@[simp] theorem VLe_strs_nils {h : Heap} {σ : Lift.Id → Lift.Id} {fz : Nat → Bool} {vz : Lift.Id → Bool} {x : Nat} {l : List (List UInt8)} : VLe h σ fz vz x (strs l) .nils = (l.length = 0) := rfl
@[simp] theorem VLe_strs_sl {h : Heap} {σ : Lift.Id → Lift.Id} {fz : Nat → Bool} {vz : Lift.Id → Bool} {y lo x' : Nat} {id : Lift.Id} {l : List (List UInt8)} : VLe h σ fz vz y (strs l) (.sl id lo x') = (x' = l.length ∧ fz id.1 = true ∧ match lkH h id with
    | some (.arr N s' g') => s' = 1 ∧ lo + l.length ≤ N ∧ ∀ i, i < l.length → ∀ j, j < 1 → ((fun (x : List UInt8) _ => AVal.str x) (l.getD i []) j).one = true ∧ VLe h σ fz vz y ((fun (x : List UInt8) _ => AVal.str x) (l.getD i []) j) (g' (lo + i) j)
    | _ => False) := VLe_vsl_sl
@[simp] theorem VLe_strs_vsl {h : Heap} {σ : Lift.Id → Lift.Id} {fz : Nat → Bool} {vz : Lift.Id → Bool} {x' s' y : Nat} {g' : Nat → Nat → AVal} {l : List (List UInt8)} : VLe h σ fz vz y (strs l) (.vsl x' s' g') = (x' = l.length ∧ s' = 1 ∧ ∀ i, i < l.length → ∀ j, j < 1 → ((fun (x : List UInt8) _ => AVal.str x) (l.getD i []) j).one = true ∧ VLe h σ fz vz y ((fun (x : List UInt8) _ => AVal.str x) (l.getD i []) j) (g' i j)) := rfl

@[simp] theorem ren_strs {ρ : Nat → Nat} {l : List (List UInt8)} : ren ρ (strs l) = strs l := ren_vec fun _ _ => rfl

def bools (l : List Bool) : AVal := vec 1 (fun (x : Bool) _ => AVal.bool x) false l
@[simp] theorem evLen_bools {h : Heap} {l : List Bool} : evLen h (bools l) = some (.int .i64 l.length) := rfl
@[simp] theorem strip_bools {l : List Bool} : strip (bools l) = (bools l, True) := rfl
@[simp] theorem mkOpt_bools {g : Bool} {l : List Bool} : mkOpt g (bools l) = .opt g (bools l) := rfl
@[simp] theorem one_bools {l : List Bool} : (bools l).one = true := rfl
@[simp] theorem acell_bools {l : List Bool} {j : Nat} : acell (bools l) j = bools l := rfl
@[simp] theorem Clo_bools {l : List Bool} : Clo (bools l) := Clo_vec fun x _ j hj => ⟨rfl, trivial⟩
@[simp] theorem lenT_bools {T : Tab} {t : TypeId} {l : List Bool} : lenT T t (bools l) = sliceT T t := lenT_vec
@[simp] theorem evIndexAddr_bools {T : Tab} {h : Heap} {t : TypeId} {k : IntKind} {m : Int} {l : List Bool} : evIndexAddr T h t (bools l) (.int k m) = match elemT T t with
    | some ei => if 1 = ei.size then some (.vptr 1 (fun j => (fun (x : Bool) _ => AVal.bool x) (l.getD m.toNat false) j) 0, 0 ≤ m ∧ m < (l.length : Int)) else none
    | none => none := evIndexAddr_vec
@[simp] theorem evSrc_bools {h : Heap} {l : List Bool} : evSrc h 1 (bools l) = some (l.length, (fun i j => (fun (x : Bool) _ => AVal.bool x) (l.getD i false) j), True) := by
  unfold bools
  rw [evSrc_vec rfl]
  rfl
@[simp] theorem evBin_bools {o : BinOp} {v : AVal} {l : List Bool} : evBin o (bools l) v = none := rfl
@[simp] theorem evEq_bools {T : Tab} {t : TypeId} {l : List Bool} : evEq T .eql t (bools l) .nils = if sliceT T t then some (.ub (l.length = 0)) else none := rfl
@[simp] theorem VLe_bools_nils {h : Heap} {σ : Lift.Id → Lift.Id} {fz : Nat → Bool} {vz : Lift.Id → Bool} {x : Nat} {l : List Bool} : VLe h σ fz vz x (bools l) .nils = (l.length = 0) := rfl
@[simp] theorem VLe_bools_sl {h : Heap} {σ : Lift.Id → Lift.Id} {fz : Nat → Bool} {vz : Lift.Id → Bool} {y lo x' : Nat} {id : Lift.Id} {l : List Bool} : VLe h σ fz vz y (bools l) (.sl id lo x') = (x' = l.length ∧ fz id.1 = true ∧ match lkH h id with
    | some (.arr N s' g') => s' = 1 ∧ lo + l.length ≤ N ∧ ∀ i, i < l.length → ∀ j, j < 1 → ((fun (x : Bool) _ => AVal.bool x) (l.getD i false) j).one = true ∧ VLe h σ fz vz y ((fun (x : Bool) _ => AVal.bool x) (l.getD i false) j) (g' (lo + i) j)
    | _ => False) := VLe_vsl_sl
@[simp] theorem VLe_bools_vsl {h : Heap} {σ : Lift.Id → Lift.Id} {fz : Nat → Bool} {vz : Lift.Id → Bool} {x' s' y : Nat} {g' : Nat → Nat → AVal} {l : List Bool} : VLe h σ fz vz y (bools l) (.vsl x' s' g') = (x' = l.length ∧ s' = 1 ∧ ∀ i, i < l.length → ∀ j, j < 1 → ((fun (x : Bool) _ => AVal.bool x) (l.getD i false) j).one = true ∧ VLe h σ fz vz y ((fun (x : Bool) _ => AVal.bool x) (l.getD i false) j) (g' i j)) := rfl

@[simp] theorem ren_bools {ρ : Nat → Nat} {l : List Bool} : ren ρ (bools l) = bools l := ren_vec fun _ _ => rfl

def bytes (l : List UInt8) : AVal := vec 1 (fun (x : UInt8) _ => AVal.int .u8 x.toNat) 0 l
@[simp] theorem evLen_bytes {h : Heap} {l : List UInt8} : evLen h (bytes l) = some (.int .i64 l.length) := rfl
@[simp] theorem strip_bytes {l : List UInt8} : strip (bytes l) = (bytes l, True) := rfl
@[simp] theorem mkOpt_bytes {g : Bool} {l : List UInt8} : mkOpt g (bytes l) = .opt g (bytes l) := rfl
@[simp] theorem one_bytes {l : List UInt8} : (bytes l).one = true := rfl
@[simp] theorem acell_bytes {l : List UInt8} {j : Nat} : acell (bytes l) j = bytes l := rfl
@[simp] theorem Clo_bytes {l : List UInt8} : Clo (bytes l) := Clo_vec fun x _ j hj => ⟨rfl, trivial⟩
@[simp] theorem lenT_bytes {T : Tab} {t : TypeId} {l : List UInt8} : lenT T t (bytes l) = sliceT T t := lenT_vec
@[simp] theorem evIndexAddr_bytes {T : Tab} {h : Heap} {t : TypeId} {k : IntKind} {m : Int} {l : List UInt8} : evIndexAddr T h t (bytes l) (.int k m) = match elemT T t with
    | some ei => if 1 = ei.size then some (.vptr 1 (fun j => (fun (x : UInt8) _ => AVal.int .u8 x.toNat) (l.getD m.toNat 0) j) 0, 0 ≤ m ∧ m < (l.length : Int)) else none
    | none => none := evIndexAddr_vec
@[simp] theorem evSrc_bytes {h : Heap} {l : List UInt8} : evSrc h 1 (bytes l) = some (l.length, (fun i j => (fun (x : UInt8) _ => AVal.int .u8 x.toNat) (l.getD i 0) j), True) := by
  unfold bytes
  rw [evSrc_vec rfl]
  rfl
@[simp] theorem evBin_bytes {o : BinOp} {v : AVal} {l : List UInt8} : evBin o (bytes l) v = none := rfl
@[simp] theorem evEq_bytes {T : Tab} {t : TypeId} {l : List UInt8} : evEq T .eql t (bytes l) .nils = if sliceT T t then some (.ub (l.length = 0)) else none := rfl
@[simp] theorem VLe_bytes_nils {h : Heap} {σ : Lift.Id → Lift.Id} {fz : Nat → Bool} {vz : Lift.Id → Bool} {x : Nat} {l : List UInt8} : VLe h σ fz vz x (bytes l) .nils = (l.length = 0) := rfl
@[simp] theorem VLe_bytes_sl {h : Heap} {σ : Lift.Id → Lift.Id} {fz : Nat → Bool} {vz : Lift.Id → Bool} {y lo x' : Nat} {id : Lift.Id} {l : List UInt8} : VLe h σ fz vz y (bytes l) (.sl id lo x') = (x' = l.length ∧ fz id.1 = true ∧ match lkH h id with
    | some (.arr N s' g') => s' = 1 ∧ lo + l.length ≤ N ∧ ∀ i, i < l.length → ∀ j, j < 1 → ((fun (x : UInt8) _ => AVal.int .u8 x.toNat) (l.getD i 0) j).one = true ∧ VLe h σ fz vz y ((fun (x : UInt8) _ => AVal.int .u8 x.toNat) (l.getD i 0) j) (g' (lo + i) j)
    | _ => False) := VLe_vsl_sl
@[simp] theorem VLe_bytes_vsl {h : Heap} {σ : Lift.Id → Lift.Id} {fz : Nat → Bool} {vz : Lift.Id → Bool} {x' s' y : Nat} {g' : Nat → Nat → AVal} {l : List UInt8} : VLe h σ fz vz y (bytes l) (.vsl x' s' g') = (x' = l.length ∧ s' = 1 ∧ ∀ i, i < l.length → ∀ j, j < 1 → ((fun (x : UInt8) _ => AVal.int .u8 x.toNat) (l.getD i 0) j).one = true ∧ VLe h σ fz vz y ((fun (x : UInt8) _ => AVal.int .u8 x.toNat) (l.getD i 0) j) (g' i j)) := rfl

@[simp] theorem ren_bytes {ρ : Nat → Nat} {l : List UInt8} : ren ρ (bytes l) = bytes l := ren_vec fun _ _ => rfl

def rowsI (l : List (List Int)) : AVal := vec 1 (fun (x : List Int) _ => ints x) [] l
@[simp] theorem evLen_rowsI {h : Heap} {l : List (List Int)} : evLen h (rowsI l) = some (.int .i64 l.length) := rfl
@[simp] theorem strip_rowsI {l : List (List Int)} : strip (rowsI l) = (rowsI l, True) := rfl
@[simp] theorem mkOpt_rowsI {g : Bool} {l : List (List Int)} : mkOpt g (rowsI l) = .opt g (rowsI l) := rfl
@[simp] theorem one_rowsI {l : List (List Int)} : (rowsI l).one = true := rfl
@[simp] theorem acell_rowsI {l : List (List Int)} {j : Nat} : acell (rowsI l) j = rowsI l := rfl
@[simp] theorem Clo_rowsI {l : List (List Int)} : Clo (rowsI l) := Clo_vec fun x _ j hj => ⟨rfl, Clo_ints⟩
@[simp] theorem lenT_rowsI {T : Tab} {t : TypeId} {l : List (List Int)} : lenT T t (rowsI l) = sliceT T t := lenT_vec
@[simp] theorem evIndexAddr_rowsI {T : Tab} {h : Heap} {t : TypeId} {k : IntKind} {m : Int} {l : List (List Int)} : evIndexAddr T h t (rowsI l) (.int k m) = match elemT T t with
    | some ei => if 1 = ei.size then some (.vptr 1 (fun j => (fun (x : List Int) _ => ints x) (l.getD m.toNat []) j) 0, 0 ≤ m ∧ m < (l.length : Int)) else none
    | none => none := evIndexAddr_vec
@[simp] theorem evSrc_rowsI {h : Heap} {l : List (List Int)} : evSrc h 1 (rowsI l) = some (l.length, (fun i j => (fun (x : List Int) _ => ints x) (l.getD i []) j), True) := by
  unfold rowsI
  rw [evSrc_vec rfl]
  rfl
@[simp] theorem evBin_rowsI {o : BinOp} {v : AVal} {l : List (List Int)} : evBin o (rowsI l) v = none := rfl
@[simp] theorem evEq_rowsI {T : Tab} {t : TypeId} {l : List (List Int)} : evEq T .eql t (rowsI l) .nils = if sliceT T t then some (.ub (l.length = 0)) else none := rfl
@[simp] theorem VLe_rowsI_nils {h : Heap} {σ : Lift.Id → Lift.Id} {fz : Nat → Bool} {vz : Lift.Id → Bool} {x : Nat} {l : List (List Int)} : VLe h σ fz vz x (rowsI l) .nils = (l.length = 0) := rfl
@[simp] theorem VLe_rowsI_sl {h : Heap} {σ : Lift.Id → Lift.Id} {fz : Nat → Bool} {vz : Lift.Id → Bool} {y lo x' : Nat} {id : Lift.Id} {l : List (List Int)} : VLe h σ fz vz y (rowsI l) (.sl id lo x') = (x' = l.length ∧ fz id.1 = true ∧ match lkH h id with
    | some (.arr N s' g') => s' = 1 ∧ lo + l.length ≤ N ∧ ∀ i, i < l.length → ∀ j, j < 1 → ((fun (x : List Int) _ => ints x) (l.getD i []) j).one = true ∧ VLe h σ fz vz y ((fun (x : List Int) _ => ints x) (l.getD i []) j) (g' (lo + i) j)
    | _ => False) := VLe_vsl_sl
@[simp] theorem VLe_rowsI_vsl {h : Heap} {σ : Lift.Id → Lift.Id} {fz : Nat → Bool} {vz : Lift.Id → Bool} {x' s' y : Nat} {g' : Nat → Nat → AVal} {l : List (List Int)} : VLe h σ fz vz y (rowsI l) (.vsl x' s' g') = (x' = l.length ∧ s' = 1 ∧ ∀ i, i < l.length → ∀ j, j < 1 → ((fun (x : List Int) _ => ints x) (l.getD i []) j).one = true ∧ VLe h σ fz vz y ((fun (x : List Int) _ => ints x) (l.getD i []) j) (g' i j)) := rfl

@[simp] theorem ren_rowsI {ρ : Nat → Nat} {l : List (List Int)} : ren ρ (rowsI l) = rowsI l := ren_vec fun _ _ => ren_ints

def rowsB (l : List (List Bool)) : AVal := vec 1 (fun (x : List Bool) _ => bools x) [] l
@[simp] theorem evLen_rowsB {h : Heap} {l : List (List Bool)} : evLen h (rowsB l) = some (.int .i64 l.length) := rfl
@[simp] theorem strip_rowsB {l : List (List Bool)} : strip (rowsB l) = (rowsB l, True) := rfl
@[simp] theorem mkOpt_rowsB {g : Bool} {l : List (List Bool)} : mkOpt g (rowsB l) = .opt g (rowsB l) := rfl
@[simp] theorem one_rowsB {l : List (List Bool)} : (rowsB l).one = true := rfl
@[simp] theorem acell_rowsB {l : List (List Bool)} {j : Nat} : acell (rowsB l) j = rowsB l := rfl
@[simp] theorem Clo_rowsB {l : List (List Bool)} : Clo (rowsB l) := Clo_vec fun x _ j hj => ⟨rfl, Clo_bools⟩
@[simp] theorem lenT_rowsB {T : Tab} {t : TypeId} {l : List (List Bool)} : lenT T t (rowsB l) = sliceT T t := lenT_vec
@[simp] theorem evIndexAddr_rowsB {T : Tab} {h : Heap} {t : TypeId} {k : IntKind} {m : Int} {l : List (List Bool)} : evIndexAddr T h t (rowsB l) (.int k m) = match elemT T t with
    | some ei => if 1 = ei.size then some (.vptr 1 (fun j => (fun (x : List Bool) _ => bools x) (l.getD m.toNat []) j) 0, 0 ≤ m ∧ m < (l.length : Int)) else none
    | none => none := evIndexAddr_vec
@[simp] theorem evSrc_rowsB {h : Heap} {l : List (List Bool)} : evSrc h 1 (rowsB l) = some (l.length, (fun i j => (fun (x : List Bool) _ => bools x) (l.getD i []) j), True) := by
  unfold rowsB
  rw [evSrc_vec rfl]
  rfl
@[simp] theorem evBin_rowsB {o : BinOp} {v : AVal} {l : List (List Bool)} : evBin o (rowsB l) v = none := rfl
@[simp] theorem evEq_rowsB {T : Tab} {t : TypeId} {l : List (List Bool)} : evEq T .eql t (rowsB l) .nils = if sliceT T t then some (.ub (l.length = 0)) else none := rfl
@[simp] theorem VLe_rowsB_nils {h : Heap} {σ : Lift.Id → Lift.Id} {fz : Nat → Bool} {vz : Lift.Id → Bool} {x : Nat} {l : List (List Bool)} : VLe h σ fz vz x (rowsB l) .nils = (l.length = 0) := rfl
@[simp] theorem VLe_rowsB_sl {h : Heap} {σ : Lift.Id → Lift.Id} {fz : Nat → Bool} {vz : Lift.Id → Bool} {y lo x' : Nat} {id : Lift.Id} {l : List (List Bool)} : VLe h σ fz vz y (rowsB l) (.sl id lo x') = (x' = l.length ∧ fz id.1 = true ∧ match lkH h id with
    | some (.arr N s' g') => s' = 1 ∧ lo + l.length ≤ N ∧ ∀ i, i < l.length → ∀ j, j < 1 → ((fun (x : List Bool) _ => bools x) (l.getD i []) j).one = true ∧ VLe h σ fz vz y ((fun (x : List Bool) _ => bools x) (l.getD i []) j) (g' (lo + i) j)
    | _ => False) := VLe_vsl_sl
@[simp] theorem VLe_rowsB_vsl {h : Heap} {σ : Lift.Id → Lift.Id} {fz : Nat → Bool} {vz : Lift.Id → Bool} {x' s' y : Nat} {g' : Nat → Nat → AVal} {l : List (List Bool)} : VLe h σ fz vz y (rowsB l) (.vsl x' s' g') = (x' = l.length ∧ s' = 1 ∧ ∀ i, i < l.length → ∀ j, j < 1 → ((fun (x : List Bool) _ => bools x) (l.getD i []) j).one = true ∧ VLe h σ fz vz y ((fun (x : List Bool) _ => bools x) (l.getD i []) j) (g' i j)) := rfl

@[simp] theorem ren_rowsB {ρ : Nat → Nat} {l : List (List Bool)} : ren ρ (rowsB l) = rowsB l := ren_vec fun _ _ => ren_bools
end Go.Lift
