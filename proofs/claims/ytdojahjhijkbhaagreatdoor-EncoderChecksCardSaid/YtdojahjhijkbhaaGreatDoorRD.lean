/-
  What comes in: integers, strings, edges, graphs, cells, encoders, bytes.
-/
import Derived.Test.YtdojahjhijkbhaaGreatDoorLZ
import Derived.Test.YtdojahjhijkbhaaGreatDoorPG
import Derived.Test.YtdojahjhijkbhaaGreatDoorQM
import Derived.Test.YtdojahjhijkbhaaGreatDoorLC1
import Derived.Test.YtdojahjhijkbhaaGreatDoorRows
namespace Go.Proofs.YtdojahjhijkbhaaGreatDoor
set_option linter.unusedSimpArgs false
set_option linter.unusedVariables false
open Go Go.Lift Go.RowKit Go.ChangeShapes Go.WideShapes Go.ChangeAt

theorem Tryz.own : ownKnob Tryz.prog.godebug = none := by kernel_rfl
theorem Tryz.laidOut : laidOutB Tryz.prog = true := by kernel_rfl
theorem rdI : Reads Tryz.prog 3 1 (fun (n : Int) _ => .int .i64 n) (fun n => (Lit.int .i64 n).wf = true) := reads_int Tryz.underlying3 (by kernel_rfl)
theorem rdS : Reads Tryz.prog 9 1 (fun (s : List UInt8) _ => .str s) (fun s => s.length ≤ maxLen) := reads_string Tryz.underlying9 (by kernel_rfl)
theorem rdC : Reads Tryz.prog 58 2 cellF (fun _ => True) :=
  (reads_struct (f := _) (I := _) Tryz.underlying58 (by kernel_rfl) (readsF_cons rfl rdI (readsF_cons rfl rdS readsF_nil))).as (fun p => (⟨p.1, p.2.1⟩ : Cell)) (fun a j hj => by
    match j, hj with
    | 0, _ => rfl
    | 1, _ => rfl) (fun _ _ => trivial)
theorem rdCs : Reads Tryz.prog 56 1 (fun (l : List Cell) _ => cells l) (fun l => l.length ≤ maxLen) :=
  (reads_slice dc Tryz.underlying56 (by kernel_rfl) (by decide) rdC).as id (fun _ _ _ => rfl) (fun _ h => h.1)
theorem rdRs : Reads Tryz.prog 22 1 (fun (l : List (List Cell)) _ => rowsC l) (fun l => l.length ≤ maxLen) :=
  (reads_slice [] Tryz.underlying22 (by kernel_rfl) (by decide) rdCs).as id (fun _ _ _ => rfl) (fun _ h => h.1)
theorem rdN : Reads Tryz.prog 24 4 encF (fun _ => True) :=
  (reads_struct (f := _) (I := _) Tryz.underlying24 (by kernel_rfl) (readsF_cons rfl rdI (readsF_cons rfl rdI (readsF_cons rfl rdI (readsF_cons rfl rdRs readsF_nil))))).as (fun p => (⟨p.1, p.2.1, p.2.2.1, p.2.2.2.1⟩ : Enc)) (fun a j hj => by
    match j, hj with
    | 0, _ => rfl
    | 1, _ => rfl
    | 2, _ => rfl
    | 3, _ => rfl) (fun _ _ => trivial)
end Go.Proofs.YtdojahjhijkbhaaGreatDoor
