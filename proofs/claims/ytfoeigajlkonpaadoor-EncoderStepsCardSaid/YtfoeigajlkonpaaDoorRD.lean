/-
  What comes in: integers, strings, edges, graphs, cells, encoders, bytes.
-/
import Derived.Test.YtfoeigajlkonpaaDoorLZ
import Derived.Test.YtfoeigajlkonpaaDoorEN
import Derived.Test.YtfoeigajlkonpaaDoorQM
import Derived.Test.YtfoeigajlkonpaaDoorLC1
import Derived.Test.YtfoeigajlkonpaaDoorRows
namespace Go.Proofs.YtfoeigajlkonpaaDoor
set_option linter.unusedSimpArgs false
set_option linter.unusedVariables false
open Go Go.Lift Go.RowKit Go.ChangeShapes Go.WideShapes Go.ChangeAt

theorem Tryd.own : ownKnob Tryd.prog.godebug = none := by kernel_rfl
theorem Tryd.laidOut : laidOutB Tryd.prog = true := by kernel_rfl
theorem wf_u8 {n : Int} (h : (Lit.int .u8 n).wf = true) : 0 ≤ n ∧ n < 256 := by
  simp only [Lit.wf, Bool.and_eq_true, decide_eq_true_eq] at h
  have h1 : IntKind.u8.min = 0 := rfl
  have h2 : IntKind.u8.max = 255 := rfl
  omega
theorem rdI : Reads Tryd.prog 3 1 (fun (n : Int) _ => .int .i64 n) (fun n => (Lit.int .i64 n).wf = true) := reads_int Tryd.underlying3 (by kernel_rfl)
theorem rdB : Reads Tryd.prog 5 1 (fun (n : Int) _ => .int .u8 n) (fun n => (Lit.int .u8 n).wf = true) := reads_int Tryd.underlying5 (by kernel_rfl)
theorem rdS : Reads Tryd.prog 9 1 (fun (s : List UInt8) _ => .str s) (fun s => s.length ≤ maxLen) := reads_string Tryd.underlying9 (by kernel_rfl)
theorem rdE : Reads Tryd.prog 80 3 edgeF (fun _ => True) :=
  (reads_struct (f := _) (I := _) Tryd.underlying80 (by kernel_rfl) (readsF_cons rfl rdI (readsF_cons rfl rdI (readsF_cons rfl rdI readsF_nil)))).as (fun p => (⟨p.1, p.2.1, p.2.2.1⟩ : Edge)) (fun a j hj => by
    match j, hj with
    | 0, _ => rfl
    | 1, _ => rfl
    | 2, _ => rfl) (fun _ _ => trivial)
theorem rdEs : Reads Tryd.prog 42 1 (fun (l : List Edge) _ => edgesC l) (fun l => l.length ≤ maxLen) :=
  (reads_slice de Tryd.underlying42 (by kernel_rfl) (by decide) rdE).as id (fun _ _ _ => rfl) (fun _ h => h.1)
theorem rdG : Reads Tryd.prog 44 3 grF (fun _ => True) :=
  (reads_struct (f := _) (I := _) Tryd.underlying44 (by kernel_rfl) (readsF_cons rfl rdI (readsF_cons rfl rdI (readsF_cons rfl rdEs readsF_nil)))).as (fun p => (⟨p.1, p.2.1, p.2.2.1⟩ : Gr)) (fun a j hj => by
    match j, hj with
    | 0, _ => rfl
    | 1, _ => rfl
    | 2, _ => rfl) (fun _ _ => trivial)
theorem rdC : Reads Tryd.prog 33 2 cellF (fun _ => True) :=
  (reads_struct (f := _) (I := _) Tryd.underlying33 (by kernel_rfl) (readsF_cons rfl rdI (readsF_cons rfl rdS readsF_nil))).as (fun p => (⟨p.1, p.2.1⟩ : Cell)) (fun a j hj => by
    match j, hj with
    | 0, _ => rfl
    | 1, _ => rfl) (fun _ _ => trivial)
theorem rdCs : Reads Tryd.prog 31 1 (fun (l : List Cell) _ => cells l) (fun l => l.length ≤ maxLen) :=
  (reads_slice dc Tryd.underlying31 (by kernel_rfl) (by decide) rdC).as id (fun _ _ _ => rfl) (fun _ h => h.1)
theorem rdRs : Reads Tryd.prog 22 1 (fun (l : List (List Cell)) _ => rowsC l) (fun l => l.length ≤ maxLen) :=
  (reads_slice [] Tryd.underlying22 (by kernel_rfl) (by decide) rdCs).as id (fun _ _ _ => rfl) (fun _ h => h.1)
theorem rdN : Reads Tryd.prog 24 4 encF (fun _ => True) :=
  (reads_struct (f := _) (I := _) Tryd.underlying24 (by kernel_rfl) (readsF_cons rfl rdI (readsF_cons rfl rdI (readsF_cons rfl rdI (readsF_cons rfl rdRs readsF_nil))))).as (fun p => (⟨p.1, p.2.1, p.2.2.1, p.2.2.2.1⟩ : Enc)) (fun a j hj => by
    match j, hj with
    | 0, _ => rfl
    | 1, _ => rfl
    | 2, _ => rfl
    | 3, _ => rfl) (fun _ _ => trivial)
theorem reads_byte {P : Program} {t : TypeId} (ht : P.underlying t = some (.int .u8)) (hc : P.cellsOf t = 1) : Reads P t 1 (fun (x : UInt8) _ => .int .u8 x.toNat) (fun _ => True) :=
  ⟨hc, fun H enc w sp held n cs x h => by
    obtain ⟨m, rfl, _, hw⟩ := DataW.trod_int ht h
    have hm := wf_u8 hw
    refine ⟨UInt8.ofNat m.toNat, trivial, rfl, fun j hj => ⟨rfl, .int .u8 m, by rw [show j = 0 by omega]; rfl, ?_⟩⟩
    show Value.int .u8 m = Value.int .u8 ((UInt8.ofNat m.toNat).toNat : Int)
    rw [UInt8.toNat_ofNat', Nat.mod_eq_of_lt (by omega), Int.toNat_of_nonneg hm.1]⟩
theorem rdY : Reads Tryd.prog 25 1 (fun (l : List UInt8) _ => Lift.bytes l) (fun l => l.length ≤ maxLen) :=
  (reads_slice (0 : UInt8) Tryd.underlying25 (by kernel_rfl) (by decide) (reads_byte Tryd.underlying5 (by kernel_rfl))).as id (fun _ _ _ => rfl) (fun _ h => h.1)
end Go.Proofs.YtfoeigajlkonpaaDoor
