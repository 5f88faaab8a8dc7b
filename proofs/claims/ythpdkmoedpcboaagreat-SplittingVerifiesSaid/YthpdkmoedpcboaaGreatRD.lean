/-
  What comes in: integers, bytes, lists, graphs, splits.
-/
import Derived.Test.YthpdkmoedpcboaaGreatLZ
import Derived.Test.YthpdkmoedpcboaaGreatPG
import Derived.Test.YthpdkmoedpcboaaGreatNB
import Derived.Test.YthpdkmoedpcboaaGreatLC1
import Derived.Test.YthpdkmoedpcboaaGreatNK
import Derived.Test.YthpdkmoedpcboaaGreatRows
namespace Go.Proofs.YthpdkmoedpcboaaGreat
set_option linter.unusedSimpArgs false
set_option linter.unusedVariables false
open Go Go.Lift Go.RowKit Go.ChangeShapes Go.WideShapes Go.ChangeAt

theorem Tryz.own : ownKnob Tryz.prog.godebug = none := by kernel_rfl
theorem Tryz.laidOut : laidOutB Tryz.prog = true := by kernel_rfl
theorem rdI : Reads Tryz.prog 3 1 (fun (n : Int) _ => .int .i64 n) (fun n => (Lit.int .i64 n).wf = true) := reads_int Tryz.underlying3 (by kernel_rfl)
theorem rdE : Reads Tryz.prog 59 3 edgeF (fun _ => True) :=
  (reads_struct (f := _) (I := _) Tryz.underlying59 (by kernel_rfl) (readsF_cons rfl rdI (readsF_cons rfl rdI (readsF_cons rfl rdI readsF_nil)))).as (fun p => (⟨p.1, p.2.1, p.2.2.1⟩ : Edge)) (fun a j hj => by
    match j, hj with
    | 0, _ => rfl
    | 1, _ => rfl
    | 2, _ => rfl) (fun _ _ => trivial)
theorem rdEs : Reads Tryz.prog 22 1 (fun (l : List Edge) _ => edgesC l) (fun l => l.length ≤ maxLen) :=
  (reads_slice de Tryz.underlying22 (by kernel_rfl) (by decide) rdE).as id (fun _ _ _ => rfl) (fun _ h => h.1)
theorem rdG : Reads Tryz.prog 24 3 grF (fun g => g.edges.length ≤ maxLen) :=
  (reads_struct (f := _) (I := _) Tryz.underlying24 (by kernel_rfl) (readsF_cons rfl rdI (readsF_cons rfl rdI (readsF_cons rfl rdEs readsF_nil)))).as (fun p => (⟨p.1, p.2.1, p.2.2.1⟩ : Gr)) (fun a j hj => by
    match j, hj with
    | 0, _ => rfl
    | 1, _ => rfl
    | 2, _ => rfl) (fun _ h => h.2.2.1)
theorem rdIs : Reads Tryz.prog 25 1 (fun (l : List Int) _ => ints l) (fun l => l.length ≤ maxLen) :=
  (reads_slice (0 : Int) Tryz.underlying25 (by kernel_rfl) (by decide) rdI).as id (fun _ _ _ => rfl) (fun _ h => h.1)
theorem rdRs : Reads Tryz.prog 64 1 (fun (l : List (List Int)) _ => rowsI l) (fun l => l.length ≤ maxLen ∧ ∀ r ∈ l, r.length ≤ maxLen) :=
  (reads_slice [] Tryz.underlying64 (by kernel_rfl) (by decide) rdIs).as id (fun _ _ _ => rfl) (fun _ h => h)
theorem rdS : Reads Tryz.prog 66 2 splF (fun x => x.parts.length ≤ maxLen) :=
  (reads_struct (f := _) (I := _) Tryz.underlying66 (by kernel_rfl) (readsF_cons rfl rdI (readsF_cons rfl rdRs readsF_nil))).as (fun p => (⟨p.1, p.2.1⟩ : Spl)) (fun a j hj => by
    match j, hj with
    | 0, _ => rfl
    | 1, _ => rfl) (fun _ h => h.2.1.1)
theorem rdSs : Reads Tryz.prog 39 1 (fun (l : List Spl) _ => spls l) (fun l => l.length ≤ maxLen ∧ ∀ x ∈ l, x.parts.length ≤ maxLen) :=
  (reads_slice ds Tryz.underlying39 (by kernel_rfl) (by decide) rdS).as id (fun _ _ _ => rfl) (fun _ h => h)
end Go.Proofs.YthpdkmoedpcboaaGreat
namespace Go.Proofs.YthpdkmoedpcboaaGreat
set_option linter.unusedSimpArgs false
set_option linter.unusedVariables false
open Go Go.Lift Go.RowKit Go.ChangeShapes Go.WideShapes Go.ChangeAt

theorem rdRd : Reads Tryz.prog 26 1 (fun (l : List (List Spl)) _ => rds l) (fun l => l.length ≤ maxLen ∧ ∀ x ∈ l, x.length ≤ maxLen ∧ ∀ y ∈ x, y.parts.length ≤ maxLen) :=
  (reads_slice [] Tryz.underlying26 (by kernel_rfl) (by decide) rdSs).as id (fun _ _ _ => rfl) (fun _ h => h)
theorem rdP : Reads Tryz.prog 28 6 prfF (fun p => p.w.length ≤ maxLen ∧ p.rounds.length ≤ maxLen ∧ ∀ x ∈ p.rounds, x.length ≤ maxLen ∧ ∀ y ∈ x, y.parts.length ≤ maxLen) :=
  (reads_struct (f := _) (I := _) Tryz.underlying28 (by kernel_rfl) (readsF_cons rfl rdG (readsF_cons rfl rdIs (readsF_cons rfl rdI (readsF_cons rfl rdRd readsF_nil))))).as (fun p => (⟨p.1, p.2.1, p.2.2.1, p.2.2.2.1⟩ : Prf)) (fun a j hj => by
    match j, hj with
    | 0, _ => rfl
    | 1, _ => rfl
    | 2, _ => rfl
    | 3, _ => rfl
    | 4, _ => rfl
    | 5, _ => rfl) (fun _ h => ⟨h.2.1, h.2.2.2.1.1, h.2.2.2.1.2⟩)
end Go.Proofs.YthpdkmoedpcboaaGreat
