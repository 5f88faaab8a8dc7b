/-
  What comes in: integers, strings, edges, graphs, cells, encoders, bytes.
-/
import Derived.Test.YtdojahjhijkbhaaGreatDoorLZ
import Derived.Test.YtdojahjhijkbhaaGreatDoorPG
import Derived.Test.YtdojahjhijkbhaaGreatDoorQM
import Derived.Test.YtdojahjhijkbhaaGreatDoorLC1
import Derived.Test.YtdojahjhijkbhaaGreatDoorRows
namespace Go.Proofs.YtdojahjhijkbhaaGreatDoor
set_option linter.unusedSimpArgs false
set_option linter.unusedVariables false
open Go Go.Lift Go.RowKit Go.ChangeShapes Go.WideShapes Go.ChangeAt

theorem Tryz.own : ownKnob Tryz.prog.godebug = none := by kernel_rfl
theorem Tryz.laidOut : laidOutB Tryz.prog = true := by kernel_rfl
theorem wf_u8 {n : Int} (h : (Lit.int .u8 n).wf = true) : 0 ≤ n ∧ n < 256 := by
  simp only [Lit.wf, Bool.and_eq_true, decide_eq_true_eq] at h
  have h1 : IntKind.u8.min = 0 := rfl
  have h2 : IntKind.u8.max = 255 := rfl
  omega
theorem rdI : Reads Tryz.prog 3 1 (fun (n : Int) _ => .int .i64 n) (fun n => (Lit.int .i64 n).wf = true) := reads_int Tryz.underlying3 (by kernel_rfl)
theorem rdIs : Reads Tryz.prog 25 1 (fun (l : List Int) _ => ints l) (fun l => l.length ≤ maxLen) :=
  (reads_slice (0 : Int) Tryz.underlying25 (by kernel_rfl) (by decide) rdI).as id (fun _ _ _ => rfl) (fun _ h => h.1)
theorem rdB : Reads Tryz.prog 5 1 (fun (n : Int) _ => .int .u8 n) (fun n => (Lit.int .u8 n).wf = true) := reads_int Tryz.underlying5 (by kernel_rfl)
theorem rdS : Reads Tryz.prog 9 1 (fun (s : List UInt8) _ => .str s) (fun s => s.length ≤ maxLen) := reads_string Tryz.underlying9 (by kernel_rfl)
theorem rdE : Reads Tryz.prog 53 3 edgeF (fun _ => True) :=
  (reads_struct (f := _) (I := _) Tryz.underlying53 (by kernel_rfl) (readsF_cons rfl rdI (readsF_cons rfl rdI (readsF_cons rfl rdI readsF_nil)))).as (fun p => (⟨p.1, p.2.1, p.2.2.1⟩ : Edge)) (fun a j hj => by
    match j, hj with
    | 0, _ => rfl
    | 1, _ => rfl
    | 2, _ => rfl) (fun _ _ => trivial)
theorem rdEs : Reads Tryz.prog 26 1 (fun (l : List Edge) _ => edgesC l) (fun l => l.length ≤ maxLen) :=
  (reads_slice de Tryz.underlying26 (by kernel_rfl) (by decide) rdE).as id (fun _ _ _ => rfl) (fun _ h => h.1)
theorem rdG : Reads Tryz.prog 28 3 grF (fun _ => True) :=
  (reads_struct (f := _) (I := _) Tryz.underlying28 (by kernel_rfl) (readsF_cons rfl rdI (readsF_cons rfl rdI (readsF_cons rfl rdEs readsF_nil)))).as (fun p => (⟨p.1, p.2.1, p.2.2.1⟩ : Gr)) (fun a j hj => by
    match j, hj with
    | 0, _ => rfl
    | 1, _ => rfl
    | 2, _ => rfl) (fun _ _ => trivial)
theorem rdC : Reads Tryz.prog 58 2 cellF (fun _ => True) :=
  (reads_struct (f := _) (I := _) Tryz.underlying58 (by kernel_rfl) (readsF_cons rfl rdI (readsF_cons rfl rdS readsF_nil))).as (fun p => (⟨p.1, p.2.1⟩ : Cell)) (fun a j hj => by
    match j, hj with
    | 0, _ => rfl
    | 1, _ => rfl) (fun _ _ => trivial)
theorem rdCs : Reads Tryz.prog 56 1 (fun (l : List Cell) _ => cells l) (fun l => l.length ≤ maxLen) :=
  (reads_slice dc Tryz.underlying56 (by kernel_rfl) (by decide) rdC).as id (fun _ _ _ => rfl) (fun _ h => h.1)
theorem rdRs : Reads Tryz.prog 22 1 (fun (l : List (List Cell)) _ => rowsC l) (fun l => l.length ≤ maxLen) :=
  (reads_slice [] Tryz.underlying22 (by kernel_rfl) (by decide) rdCs).as id (fun _ _ _ => rfl) (fun _ h => h.1)
theorem rdN : Reads Tryz.prog 24 4 encF (fun _ => True) :=
  (reads_struct (f := _) (I := _) Tryz.underlying24 (by kernel_rfl) (readsF_cons rfl rdI (readsF_cons rfl rdI (readsF_cons rfl rdI (readsF_cons rfl rdRs readsF_nil))))).as (fun p => (⟨p.1, p.2.1, p.2.2.1, p.2.2.2.1⟩ : Enc)) (fun a j hj => by
    match j, hj with
    | 0, _ => rfl
    | 1, _ => rfl
    | 2, _ => rfl
    | 3, _ => rfl) (fun _ _ => trivial)
theorem reads_byte {P : Program} {t : TypeId} (ht : P.underlying t = some (.int .u8)) (hc : P.cellsOf t = 1) : Reads P t 1 (fun (x : UInt8) _ => .int .u8 x.toNat) (fun _ => True) :=
  ⟨hc, fun H enc w sp held n cs x h => by
    obtain ⟨m, rfl, _, hw⟩ := DataW.trod_int ht h
    have hm := wf_u8 hw
    refine ⟨UInt8.ofNat m.toNat, trivial, rfl, fun j hj => ⟨rfl, .int .u8 m, by rw [show j = 0 by omega]; rfl, ?_⟩⟩
    show Value.int .u8 m = Value.int .u8 ((UInt8.ofNat m.toNat).toNat : Int)
    rw [UInt8.toNat_ofNat', Nat.mod_eq_of_lt (by omega), Int.toNat_of_nonneg hm.1]⟩
theorem rdY : Reads Tryz.prog 45 1 (fun (l : List UInt8) _ => Lift.bytes l) (fun l => l.length ≤ maxLen) :=
  (reads_slice (0 : UInt8) Tryz.underlying45 (by kernel_rfl) (by decide) (reads_byte Tryz.underlying5 (by kernel_rfl))).as id (fun _ _ _ => rfl) (fun _ h => h.1)
end Go.Proofs.YtdojahjhijkbhaaGreatDoor
