/-
  What comes in: integers, edges and graphs read as data.
-/
import Derived.Test.YtkmnnmclebdjlaaLBR
import Derived.Test.YtkmnnmclebdjlaaEN
import Derived.Test.YtkmnnmclebdjlaaLC1
import Derived.Test.YtkmnnmclebdjlaaRows
namespace Go.Proofs.Ytkmnnmclebdjlaa
set_option linter.unusedSimpArgs false
set_option linter.unusedVariables false
open Go Go.Lift Go.RowKit Go.ChangeShapes Go.WideShapes Go.ChangeAt

theorem Try.own : ownKnob Try.prog.godebug = none := by kernel_rfl
theorem Try.laidOut : laidOutB Try.prog = true := by kernel_rfl
theorem rd3 : Reads Try.prog 3 1 (fun (n : Int) _ => .int .i64 n) (fun n => (Lit.int .i64 n).wf = true) := reads_int Try.underlying3 (by kernel_rfl)
theorem rd42 : Reads Try.prog 42 3 edgeF (fun _ => True) :=
  (reads_struct (f := _) (I := _) Try.underlying42 (by kernel_rfl) (readsF_cons rfl rd3 (readsF_cons rfl rd3 (readsF_cons rfl rd3 readsF_nil)))).as (fun p => (⟨p.1, p.2.1, p.2.2.1⟩ : Edge)) (fun a j hj => by
    match j, hj with
    | 0, _ => rfl
    | 1, _ => rfl
    | 2, _ => rfl) (fun _ _ => trivial)
theorem rd22 : Reads Try.prog 22 1 (fun (l : List Edge) _ => edgesC l) (fun l => l.length ≤ maxLen) :=
  (reads_slice de Try.underlying22 (by kernel_rfl) (by decide) rd42).as id (fun _ _ _ => rfl) (fun _ h => h.1)
theorem rd24 : Reads Try.prog 24 3 grF (fun _ => True) :=
  (reads_struct (f := _) (I := _) Try.underlying24 (by kernel_rfl) (readsF_cons rfl rd3 (readsF_cons rfl rd3 (readsF_cons rfl rd22 readsF_nil)))).as (fun p => (⟨p.1, p.2.1, p.2.2.1⟩ : Gr)) (fun a j hj => by
    match j, hj with
    | 0, _ => rfl
    | 1, _ => rfl
    | 2, _ => rfl) (fun _ _ => trivial)
end Go.Proofs.Ytkmnnmclebdjlaa
