/-
  What comes in: bytes, lists of bytes, lists of lists of integers.
-/
import Derived.Test.YtmjkbidnghcfnaaRD
namespace Go.Proofs.Ytmjkbidnghcfnaa
set_option linter.unusedSimpArgs false
set_option linter.unusedVariables false
open Go Go.Lift Go.RowKit Go.ChangeShapes Go.WideShapes Go.ChangeAt

theorem wf_u8 {n : Int} (h : (Lit.int .u8 n).wf = true) : 0 ≤ n ∧ n < 256 := by
  simp only [Lit.wf, Bool.and_eq_true, decide_eq_true_eq] at h
  have h1 : IntKind.u8.min = 0 := rfl
  have h2 : IntKind.u8.max = 255 := rfl
  omega
theorem reads_byte {P : Program} {t : TypeId} (ht : P.underlying t = some (.int .u8)) (hc : P.cellsOf t = 1) : Reads P t 1 (fun (x : UInt8) _ => .int .u8 x.toNat) (fun _ => True) :=
  ⟨hc, fun H enc w sp held n cs x h => by
    obtain ⟨m, rfl, _, hw⟩ := DataW.trod_int ht h
    have hm := wf_u8 hw
    refine ⟨UInt8.ofNat m.toNat, trivial, rfl, fun j hj => ⟨rfl, .int .u8 m, by rw [show j = 0 by omega]; rfl, ?_⟩⟩
    show Value.int .u8 m = Value.int .u8 ((UInt8.ofNat m.toNat).toNat : Int)
    rw [UInt8.toNat_ofNat', Nat.mod_eq_of_lt (by omega), Int.toNat_of_nonneg hm.1]⟩
theorem rd5 : Reads Try.prog 5 1 (fun (n : Int) _ => .int .u8 n) (fun n => (Lit.int .u8 n).wf = true) := reads_int Try.underlying5 (by kernel_rfl)
theorem rd39 : Reads Try.prog 39 1 (fun (l : List UInt8) _ => Lift.bytes l) (fun l => l.length ≤ maxLen) :=
  (reads_slice (0 : UInt8) Try.underlying39 (by kernel_rfl) (by decide) (reads_byte Try.underlying5 (by kernel_rfl))).as id (fun _ _ _ => rfl) (fun _ h => h.1)
theorem rd27 : Reads Try.prog 27 1 (fun (l : List Int) _ => ints l) (fun l => l.length ≤ maxLen) :=
  (reads_slice (0 : Int) Try.underlying27 (by kernel_rfl) (by decide) rd3).as id (fun _ _ _ => rfl) (fun _ h => h.1)
theorem rd48 : Reads Try.prog 48 1 (fun (l : List (List Int)) _ => rowsI l) (fun l => l.length ≤ maxLen) :=
  (reads_slice ([] : List Int) Try.underlying48 (by kernel_rfl) (by decide) rd27).as id (fun _ _ _ => rfl) (fun _ h => h.1)
end Go.Proofs.Ytmjkbidnghcfnaa
