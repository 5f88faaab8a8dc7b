/-
  What comes in: integers, bytes, lists, graphs, splits.
-/
import Derived.Test.YthpdkmoedpcboaaLZ
import Derived.Test.YthpdkmoedpcboaaPG
import Derived.Test.YthpdkmoedpcboaaNB
import Derived.Test.YthpdkmoedpcboaaLC1
import Derived.Test.YthpdkmoedpcboaaRows
namespace Go.Proofs.Ythpdkmoedpcboaa
set_option linter.unusedSimpArgs false
set_option linter.unusedVariables false
open Go Go.Lift Go.RowKit Go.ChangeShapes Go.WideShapes Go.ChangeAt

theorem Try.own : ownKnob Try.prog.godebug = none := by kernel_rfl
theorem Try.laidOut : laidOutB Try.prog = true := by kernel_rfl
theorem rdI : Reads Try.prog 3 1 (fun (n : Int) _ => .int .i64 n) (fun n => (Lit.int .i64 n).wf = true) := reads_int Try.underlying3 (by kernel_rfl)
theorem rdE : Reads Try.prog 45 3 edgeF (fun _ => True) :=
  (reads_struct (f := _) (I := _) Try.underlying45 (by kernel_rfl) (readsF_cons rfl rdI (readsF_cons rfl rdI (readsF_cons rfl rdI readsF_nil)))).as (fun p => (⟨p.1, p.2.1, p.2.2.1⟩ : Edge)) (fun a j hj => by
    match j, hj with
    | 0, _ => rfl
    | 1, _ => rfl
    | 2, _ => rfl) (fun _ _ => trivial)
theorem rdEs : Reads Try.prog 22 1 (fun (l : List Edge) _ => edgesC l) (fun l => l.length ≤ maxLen) :=
  (reads_slice de Try.underlying22 (by kernel_rfl) (by decide) rdE).as id (fun _ _ _ => rfl) (fun _ h => h.1)
theorem rdG : Reads Try.prog 24 3 grF (fun g => g.edges.length ≤ maxLen) :=
  (reads_struct (f := _) (I := _) Try.underlying24 (by kernel_rfl) (readsF_cons rfl rdI (readsF_cons rfl rdI (readsF_cons rfl rdEs readsF_nil)))).as (fun p => (⟨p.1, p.2.1, p.2.2.1⟩ : Gr)) (fun a j hj => by
    match j, hj with
    | 0, _ => rfl
    | 1, _ => rfl
    | 2, _ => rfl) (fun _ h => h.2.2.1)
theorem rdIs : Reads Try.prog 25 1 (fun (l : List Int) _ => ints l) (fun l => l.length ≤ maxLen) :=
  (reads_slice (0 : Int) Try.underlying25 (by kernel_rfl) (by decide) rdI).as id (fun _ _ _ => rfl) (fun _ h => h.1)
end Go.Proofs.Ythpdkmoedpcboaa
