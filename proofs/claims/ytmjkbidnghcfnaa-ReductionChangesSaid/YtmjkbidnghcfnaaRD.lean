/-
  What comes in: integers, strings, cells, rows and encoders read as data.
-/
import Derived.Test.YtmjkbidnghcfnaaLZ
import Derived.Test.YtmjkbidnghcfnaaEN
import Derived.Test.YtmjkbidnghcfnaaLC1
import Derived.Test.YtmjkbidnghcfnaaRows
namespace Go.Proofs.Ytmjkbidnghcfnaa
set_option linter.unusedSimpArgs false
set_option linter.unusedVariables false
open Go Go.Lift Go.RowKit Go.ChangeShapes Go.WideShapes Go.ChangeAt

theorem Try.own : ownKnob Try.prog.godebug = none := by kernel_rfl
theorem Try.laidOut : laidOutB Try.prog = true := by kernel_rfl
theorem rd3 : Reads Try.prog 3 1 (fun (n : Int) _ => .int .i64 n) (fun n => (Lit.int .i64 n).wf = true) := reads_int Try.underlying3 (by kernel_rfl)
theorem rd9 : Reads Try.prog 9 1 (fun (s : List UInt8) _ => .str s) (fun s => s.length ≤ maxLen) := reads_string Try.underlying9 (by kernel_rfl)
theorem rd53 : Reads Try.prog 53 2 cellF (fun _ => True) :=
  (reads_struct (f := _) (I := _) Try.underlying53 (by kernel_rfl) (readsF_cons rfl rd3 (readsF_cons rfl rd9 readsF_nil))).as (fun p => (⟨p.1, p.2.1⟩ : Cell)) (fun a j hj => by
    match j, hj with
    | 0, _ => rfl
    | 1, _ => rfl) (fun _ _ => trivial)
theorem rd54 : Reads Try.prog 54 1 (fun (l : List Cell) _ => cells l) (fun l => l.length ≤ maxLen) :=
  (reads_slice dc Try.underlying54 (by kernel_rfl) (by decide) rd53).as id (fun _ _ _ => rfl) (fun _ h => h.1)
theorem rd22 : Reads Try.prog 22 1 (fun (l : List (List Cell)) _ => rowsC l) (fun l => l.length ≤ maxLen) :=
  (reads_slice [] Try.underlying22 (by kernel_rfl) (by decide) rd54).as id (fun _ _ _ => rfl) (fun _ h => h.1)
theorem rd24 : Reads Try.prog 24 4 encF (fun _ => True) :=
  (reads_struct (f := _) (I := _) Try.underlying24 (by kernel_rfl) (readsF_cons rfl rd3 (readsF_cons rfl rd3 (readsF_cons rfl rd3 (readsF_cons rfl rd22 readsF_nil))))).as (fun p => (⟨p.1, p.2.1, p.2.2.1, p.2.2.2.1⟩ : Enc)) (fun a j hj => by
    match j, hj with
    | 0, _ => rfl
    | 1, _ => rfl
    | 2, _ => rfl
    | 3, _ => rfl) (fun _ _ => trivial)
end Go.Proofs.Ytmjkbidnghcfnaa
