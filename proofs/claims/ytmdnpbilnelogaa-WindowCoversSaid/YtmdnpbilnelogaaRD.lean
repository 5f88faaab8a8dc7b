/-
  What comes in: integers, strings, bytes, encoders, decoders.
-/
import Derived.Test.YtmdnpbilnelogaaLZ
import Derived.Test.YtmdnpbilnelogaaPG
import Derived.Test.YtmdnpbilnelogaaNA
import Derived.Test.YtmdnpbilnelogaaLC1
import Derived.Test.YtmdnpbilnelogaaRows
namespace Go.Proofs.Ytmdnpbilnelogaa
set_option linter.unusedSimpArgs false
set_option linter.unusedVariables false
open Go Go.Lift Go.RowKit Go.ChangeShapes Go.WideShapes Go.ChangeAt

theorem Try.own : ownKnob Try.prog.godebug = none := by kernel_rfl
theorem Try.laidOut : laidOutB Try.prog = true := by kernel_rfl
theorem wf_u8 {n : Int} (h : (Lit.int .u8 n).wf = true) : 0 ≤ n ∧ n < 256 := by
  simp only [Lit.wf, Bool.and_eq_true, decide_eq_true_eq] at h
  have h1 : IntKind.u8.min = 0 := rfl
  have h2 : IntKind.u8.max = 255 := rfl
  omega
theorem rd3 : Reads Try.prog 3 1 (fun (n : Int) _ => .int .i64 n) (fun n => (Lit.int .i64 n).wf = true) := reads_int Try.underlying3 (by kernel_rfl)
theorem rd5 : Reads Try.prog 5 1 (fun (n : Int) _ => .int .u8 n) (fun n => (Lit.int .u8 n).wf = true) := reads_int Try.underlying5 (by kernel_rfl)
theorem rd9 : Reads Try.prog 9 1 (fun (s : List UInt8) _ => .str s) (fun s => s.length ≤ maxLen) := reads_string Try.underlying9 (by kernel_rfl)
theorem rdC : Reads Try.prog 66 2 cellF (fun _ => True) :=
  (reads_struct (f := _) (I := _) Try.underlying66 (by kernel_rfl) (readsF_cons rfl rd3 (readsF_cons rfl rd9 readsF_nil))).as (fun p => (⟨p.1, p.2.1⟩ : Cell)) (fun a j hj => by
    match j, hj with
    | 0, _ => rfl
    | 1, _ => rfl) (fun _ _ => trivial)
theorem rdCs : Reads Try.prog 67 1 (fun (l : List Cell) _ => cells l) (fun l => l.length ≤ maxLen) :=
  (reads_slice dc Try.underlying67 (by kernel_rfl) (by decide) rdC).as id (fun _ _ _ => rfl) (fun _ h => h.1)
theorem rdRs : Reads Try.prog 22 1 (fun (l : List (List Cell)) _ => rowsC l) (fun l => l.length ≤ maxLen ∧ ∀ r ∈ l, r.length ≤ maxLen) :=
  (reads_slice [] Try.underlying22 (by kernel_rfl) (by decide) rdCs).as id (fun _ _ _ => rfl) (fun _ h => h)
theorem rd24 : Reads Try.prog 24 4 encF (fun e => e.rows.length ≤ maxLen ∧ ∀ r ∈ e.rows, r.length ≤ maxLen) :=
  (reads_struct (f := _) (I := _) Try.underlying24 (by kernel_rfl) (readsF_cons rfl rd3 (readsF_cons rfl rd3 (readsF_cons rfl rd3 (readsF_cons rfl rdRs readsF_nil))))).as (fun p => (⟨p.1, p.2.1, p.2.2.1, p.2.2.2.1⟩ : Enc)) (fun a j hj => by
    match j, hj with
    | 0, _ => rfl
    | 1, _ => rfl
    | 2, _ => rfl
    | 3, _ => rfl) (fun _ h => h.2.2.2.1)
theorem rdT : Reads Try.prog 55 2 entF (fun _ => True) :=
  (reads_struct (f := _) (I := _) Try.underlying55 (by kernel_rfl) (readsF_cons rfl rd9 (readsF_cons rfl rd3 readsF_nil))).as (fun p => (⟨p.1, p.2.1⟩ : Ent)) (fun a j hj => by
    match j, hj with
    | 0, _ => rfl
    | 1, _ => rfl) (fun _ _ => trivial)
theorem rdTs : Reads Try.prog 27 1 (fun (l : List Ent) _ => ents l) (fun l => l.length ≤ maxLen) :=
  (reads_slice den Try.underlying27 (by kernel_rfl) (by decide) rdT).as id (fun _ _ _ => rfl) (fun _ h => h.1)
theorem rd29 : Reads Try.prog 29 6 decF (fun d => d.ents.length ≤ maxLen) :=
  (reads_struct (f := _) (I := _) Try.underlying29 (by kernel_rfl) (readsF_cons rfl rd3 (readsF_cons rfl rd3 (readsF_cons rfl rd3 (readsF_cons rfl rd3 (readsF_cons rfl rd3 (readsF_cons rfl rdTs readsF_nil))))))).as (fun p => (⟨p.1, p.2.1, p.2.2.1, p.2.2.2.1, p.2.2.2.2.1, p.2.2.2.2.2.1⟩ : Dec)) (fun a j hj => by
    match j, hj with
    | 0, _ => rfl
    | 1, _ => rfl
    | 2, _ => rfl
    | 3, _ => rfl
    | 4, _ => rfl
    | 5, _ => rfl) (fun _ h => h.2.2.2.2.2.1)
theorem reads_byte {P : Program} {t : TypeId} (ht : P.underlying t = some (.int .u8)) (hc : P.cellsOf t = 1) : Reads P t 1 (fun (x : UInt8) _ => .int .u8 x.toNat) (fun _ => True) :=
  ⟨hc, fun H enc w sp held n cs x h => by
    obtain ⟨m, rfl, _, hw⟩ := DataW.trod_int ht h
    have hm := wf_u8 hw
    refine ⟨UInt8.ofNat m.toNat, trivial, rfl, fun j hj => ⟨rfl, .int .u8 m, by rw [show j = 0 by omega]; rfl, ?_⟩⟩
    show Value.int .u8 m = Value.int .u8 ((UInt8.ofNat m.toNat).toNat : Int)
    rw [UInt8.toNat_ofNat', Nat.mod_eq_of_lt (by omega), Int.toNat_of_nonneg hm.1]⟩
theorem rd58 : Reads Try.prog 58 1 (fun (l : List UInt8) _ => Lift.bytes l) (fun l => l.length ≤ maxLen) :=
  (reads_slice (0 : UInt8) Try.underlying58 (by kernel_rfl) (by decide) (reads_byte Try.underlying5 (by kernel_rfl))).as id (fun _ _ _ => rfl) (fun _ h => h.1)
end Go.Proofs.Ytmdnpbilnelogaa
