/-
  Encoders: edges, graphs, as Lean data and as abstract values.
-/
import Derived.Test.YtfoeigajlkonpaaDoorLZ
import Derived.Test.YtfoeigajlkonpaaDoorPG
namespace Go.Proofs.YtfoeigajlkonpaaDoor
set_option linter.unusedSimpArgs false
set_option linter.unusedVariables false
open Go Go.Lift

def de : Edge := ⟨0, 0, 0⟩
def edgeF (c : Edge) (j : Nat) : AVal := match j with
  | 0 => .int .i64 c.frm
  | 1 => .int .i64 c.lab
  | _ => .int .i64 c.to
@[simp] theorem edgeF0 {c : Edge} : edgeF c 0 = .int .i64 c.frm := rfl
@[simp] theorem edgeF1 {c : Edge} : edgeF c 1 = .int .i64 c.lab := rfl
@[simp] theorem edgeF2 {c : Edge} : edgeF c 2 = .int .i64 c.to := rfl
@[simp] theorem one_edgeF {c : Edge} {j : Nat} : (edgeF c j).one = true := by unfold edgeF; split <;> rfl
@[simp] theorem Clo_edgeF {c : Edge} {j : Nat} : Clo (edgeF c j) := by unfold edgeF; split <;> trivial
@[simp] theorem ren_edgeF {ρ : Nat → Nat} {c : Edge} {j : Nat} : ren ρ (edgeF c j) = edgeF c j := by unfold edgeF; split <;> rfl
@[simp] theorem flat_edgeF {c : Edge} {j : Nat} : flat (edgeF c j) := by unfold edgeF; split <;> trivial

def edgesC (l : List Edge) : AVal := vec 3 edgeF de l
@[simp] theorem evLen_edgesC {h : Heap} {l : List Edge} : evLen h (edgesC l) = some (.int .i64 l.length) := rfl
@[simp] theorem strip_edgesC {l : List Edge} : strip (edgesC l) = (edgesC l, True) := rfl
@[simp] theorem mkOpt_edgesC {g : Bool} {l : List Edge} : mkOpt g (edgesC l) = .opt g (edgesC l) := rfl
@[simp] theorem one_edgesC {l : List Edge} : (edgesC l).one = true := rfl
@[simp] theorem acell_edgesC {l : List Edge} {j : Nat} : acell (edgesC l) j = edgesC l := rfl
@[simp] theorem Clo_edgesC {l : List Edge} : Clo (edgesC l) := Clo_vec fun x _ j hj => ⟨one_edgeF, Clo_edgeF⟩
@[simp] theorem lenT_edgesC {T : Tab} {t : TypeId} {l : List Edge} : lenT T t (edgesC l) = sliceT T t := lenT_vec
@[simp] theorem evIndexAddr_edgesC {T : Tab} {h : Heap} {t : TypeId} {k : IntKind} {m : Int} {l : List Edge} : evIndexAddr T h t (edgesC l) (.int k m) = match elemT T t with
    | some ei => if 3 = ei.size then some (.vptr 3 (fun j => edgeF (l.getD m.toNat de) j) 0, 0 ≤ m ∧ m < (l.length : Int)) else none
    | none => none := evIndexAddr_vec
@[simp] theorem evSrc_edgesC {h : Heap} {l : List Edge} : evSrc h 3 (edgesC l) = some (l.length, (fun i j => edgeF (l.getD i de) j), True) := by
  unfold edgesC
  rw [evSrc_vec rfl]
  rfl
@[simp] theorem evBin_edgesC {o : BinOp} {v : AVal} {l : List Edge} : evBin o (edgesC l) v = none := rfl
@[simp] theorem evEq_edgesC {T : Tab} {t : TypeId} {l : List Edge} : evEq T .eql t (edgesC l) .nils = if sliceT T t then some (.ub (l.length = 0)) else none := rfl
@[simp] theorem VLe_edgesC_nils {h : Heap} {σ : Lift.Id → Lift.Id} {fz : Nat → Bool} {vz : Lift.Id → Bool} {x : Nat} {l : List Edge} : VLe h σ fz vz x (edgesC l) .nils = (l.length = 0) := rfl
@[simp] theorem VLe_edgesC_sl {h : Heap} {σ : Lift.Id → Lift.Id} {fz : Nat → Bool} {vz : Lift.Id → Bool} {y lo x' : Nat} {id : Lift.Id} {l : List Edge} : VLe h σ fz vz y (edgesC l) (.sl id lo x') = (x' = l.length ∧ fz id.1 = true ∧ match lkH h id with
    | some (.arr N s' g') => s' = 3 ∧ lo + l.length ≤ N ∧ ∀ i, i < l.length → ∀ j, j < 3 → (edgeF (l.getD i de) j).one = true ∧ VLe h σ fz vz y (edgeF (l.getD i de) j) (g' (lo + i) j)
    | _ => False) := VLe_vsl_sl
@[simp] theorem VLe_edgesC_vsl {h : Heap} {σ : Lift.Id → Lift.Id} {fz : Nat → Bool} {vz : Lift.Id → Bool} {x' s' y : Nat} {g' : Nat → Nat → AVal} {l : List Edge} : VLe h σ fz vz y (edgesC l) (.vsl x' s' g') = (x' = l.length ∧ s' = 3 ∧ ∀ i, i < l.length → ∀ j, j < 3 → (edgeF (l.getD i de) j).one = true ∧ VLe h σ fz vz y (edgeF (l.getD i de) j) (g' i j)) := rfl

@[simp] theorem ren_edgesC {ρ : Nat → Nat} {l : List Edge} : ren ρ (edgesC l) = edgesC l := ren_vec fun _ _ => ren_edgeF

def grF (g : Gr) (j : Nat) : AVal := match j with
  | 0 => .int .i64 g.labels
  | 1 => .int .i64 g.states
  | _ => edgesC g.edges
@[simp] theorem grF0 {g : Gr} : grF g 0 = .int .i64 g.labels := rfl
@[simp] theorem grF1 {g : Gr} : grF g 1 = .int .i64 g.states := rfl
@[simp] theorem grF2 {g : Gr} : grF g 2 = edgesC g.edges := rfl
@[simp] theorem one_grF {g : Gr} {j : Nat} : (grF g j).one = true := by unfold grF; split <;> rfl
@[simp] theorem Clo_grF {g : Gr} {j : Nat} : Clo (grF g j) := by unfold grF; split <;> first | trivial | exact Clo_edgesC
@[simp] theorem ren_grF {ρ : Nat → Nat} {g : Gr} {j : Nat} : ren ρ (grF g j) = grF g j := by unfold grF; split <;> first | rfl | exact ren_edgesC
end Go.Proofs.YtfoeigajlkonpaaDoor
