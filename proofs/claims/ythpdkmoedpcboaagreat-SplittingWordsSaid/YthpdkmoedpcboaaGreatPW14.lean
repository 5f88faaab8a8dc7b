/- Parts of the proof: LC1 RD. -/
import Derived.Test.YthpdkmoedpcboaaGreatRows
import Derived.Test.YthpdkmoedpcboaaGreatPW09
import Derived.Test.YthpdkmoedpcboaaGreatPW10
import Derived.Test.YthpdkmoedpcboaaGreatPW12
import Derived.Test.YthpdkmoedpcboaaGreatPW13
namespace Go.Proofs.YthpdkmoedpcboaaGreat
set_option linter.unusedSimpArgs false
set_option linter.unusedVariables false
open Go Go.Lift Go.Proofs
theorem mixed : Tryz.prog.follows .mixedOrders = true := by decide +kernel
theorem cal9 : Callable Tryz.prog 9 := ⟨_, Tryz.func9, by decide, rfl⟩
theorem cal14 : Callable Tryz.prog 14 := ⟨_, Tryz.func14, by decide, rfl⟩
theorem cal15 : Callable Tryz.prog 15 := ⟨_, Tryz.func15, by decide, rfl⟩
theorem cal16 : Callable Tryz.prog 16 := ⟨_, Tryz.func16, by decide, rfl⟩
theorem cal17 : Callable Tryz.prog 17 := ⟨_, Tryz.func17, by decide, rfl⟩
theorem cal18 : Callable Tryz.prog 18 := ⟨_, Tryz.func18, by decide, rfl⟩
theorem cal19 : Callable Tryz.prog 19 := ⟨_, Tryz.func19, by decide, rfl⟩
theorem cal20 : Callable Tryz.prog 20 := ⟨_, Tryz.func20, by decide, rfl⟩
theorem cal21 : Callable Tryz.prog 21 := ⟨_, Tryz.func21, by decide, rfl⟩
theorem cal25 : Callable Tryz.prog 25 := ⟨_, Tryz.func25, by decide, rfl⟩
theorem cal27 : Callable Tryz.prog 27 := ⟨_, Tryz.func27, by decide, rfl⟩
theorem cal28 : Callable Tryz.prog 28 := ⟨_, Tryz.func28, by decide, rfl⟩
theorem cal32 : Callable Tryz.prog 32 := ⟨_, Tryz.func32, by decide, rfl⟩
theorem cal33 : Callable Tryz.prog 33 := ⟨_, Tryz.func33, by decide, rfl⟩
theorem cal36 : Callable Tryz.prog 36 := ⟨_, Tryz.func36, by decide, rfl⟩
theorem cal39 : Callable Tryz.prog 39 := ⟨_, Tryz.func39, by decide, rfl⟩
theorem cal40 : Callable Tryz.prog 40 := ⟨_, Tryz.func40, by decide, rfl⟩
theorem cal41 : Callable Tryz.prog 41 := ⟨_, Tryz.func41, by decide, rfl⟩
theorem cal42 : Callable Tryz.prog 42 := ⟨_, Tryz.func42, by decide, rfl⟩
theorem cal43 : Callable Tryz.prog 43 := ⟨_, Tryz.func43, by decide, rfl⟩
theorem cal44 : Callable Tryz.prog 44 := ⟨_, Tryz.func44, by decide, rfl⟩
theorem cal45 : Callable Tryz.prog 45 := ⟨_, Tryz.func45, by decide, rfl⟩
theorem cal46 : Callable Tryz.prog 46 := ⟨_, Tryz.func46, by decide, rfl⟩
theorem cal47 : Callable Tryz.prog 47 := ⟨_, Tryz.func47, by decide, rfl⟩
theorem cal48 : Callable Tryz.prog 48 := ⟨_, Tryz.func48, by decide, rfl⟩
theorem cal49 : Callable Tryz.prog 49 := ⟨_, Tryz.func49, by decide, rfl⟩
theorem cal50 : Callable Tryz.prog 50 := ⟨_, Tryz.func50, by decide, rfl⟩
theorem cal53 : Callable Tryz.prog 53 := ⟨_, Tryz.func53, by decide, rfl⟩
theorem cal66 : Callable Tryz.prog 66 := ⟨_, Tryz.func66, by decide, rfl⟩
theorem cal67 : Callable Tryz.prog 67 := ⟨_, Tryz.func67, by decide, rfl⟩
theorem cal71 : Callable Tryz.prog 71 := ⟨_, Tryz.func71, by decide, rfl⟩
theorem cal72 : Callable Tryz.prog 72 := ⟨_, Tryz.func72, by decide, rfl⟩
theorem cal73 : Callable Tryz.prog 73 := ⟨_, Tryz.func73, by decide, rfl⟩
theorem cal74 : Callable Tryz.prog 74 := ⟨_, Tryz.func74, by decide, rfl⟩
theorem cal75 : Callable Tryz.prog 75 := ⟨_, Tryz.func75, by decide, rfl⟩
theorem cal76 : Callable Tryz.prog 76 := ⟨_, Tryz.func76, by decide, rfl⟩
theorem cal77 : Callable Tryz.prog 77 := ⟨_, Tryz.func77, by decide, rfl⟩
theorem cal78 : Callable Tryz.prog 78 := ⟨_, Tryz.func78, by decide, rfl⟩
theorem cal79 : Callable Tryz.prog 79 := ⟨_, Tryz.func79, by decide, rfl⟩
theorem cal80 : Callable Tryz.prog 80 := ⟨_, Tryz.func80, by decide, rfl⟩
theorem cal81 : Callable Tryz.prog 81 := ⟨_, Tryz.func81, by decide, rfl⟩
theorem cal82 : Callable Tryz.prog 82 := ⟨_, Tryz.func82, by decide, rfl⟩
theorem cal83 : Callable Tryz.prog 83 := ⟨_, Tryz.func83, by decide, rfl⟩
theorem cal84 : Callable Tryz.prog 84 := ⟨_, Tryz.func84, by decide, rfl⟩
theorem cal87 : Callable Tryz.prog 87 := ⟨_, Tryz.func87, by decide, rfl⟩
theorem cal88 : Callable Tryz.prog 88 := ⟨_, Tryz.func88, by decide, rfl⟩
theorem cal89 : Callable Tryz.prog 89 := ⟨_, Tryz.func89, by decide, rfl⟩
theorem cal90 : Callable Tryz.prog 90 := ⟨_, Tryz.func90, by decide, rfl⟩
theorem cal97 : Callable Tryz.prog 97 := ⟨_, Tryz.func97, by decide, rfl⟩
theorem cal110 : Callable Tryz.prog 110 := ⟨_, Tryz.func110, by decide, rfl⟩
theorem cal112 : Callable Tryz.prog 112 := ⟨_, Tryz.func112, by decide, rfl⟩
theorem cal113 : Callable Tryz.prog 113 := ⟨_, Tryz.func113, by decide, rfl⟩
theorem cal114 : Callable Tryz.prog 114 := ⟨_, Tryz.func114, by decide, rfl⟩
theorem cal115 : Callable Tryz.prog 115 := ⟨_, Tryz.func115, by decide, rfl⟩
theorem cal116 : Callable Tryz.prog 116 := ⟨_, Tryz.func116, by decide, rfl⟩
theorem cal117 : Callable Tryz.prog 117 := ⟨_, Tryz.func117, by decide, rfl⟩
theorem cal118 : Callable Tryz.prog 118 := ⟨_, Tryz.func118, by decide, rfl⟩
theorem cal119 : Callable Tryz.prog 119 := ⟨_, Tryz.func119, by decide, rfl⟩
theorem cal120 : Callable Tryz.prog 120 := ⟨_, Tryz.func120, by decide, rfl⟩
theorem cal121 : Callable Tryz.prog 121 := ⟨_, Tryz.func121, by decide, rfl⟩
theorem cal122 : Callable Tryz.prog 122 := ⟨_, Tryz.func122, by decide, rfl⟩
theorem cal123 : Callable Tryz.prog 123 := ⟨_, Tryz.func123, by decide, rfl⟩
theorem cal124 : Callable Tryz.prog 124 := ⟨_, Tryz.func124, by decide, rfl⟩
theorem cal125 : Callable Tryz.prog 125 := ⟨_, Tryz.func125, by decide, rfl⟩
theorem cal126 : Callable Tryz.prog 126 := ⟨_, Tryz.func126, by decide, rfl⟩
theorem cal129 : Callable Tryz.prog 129 := ⟨_, Tryz.func129, by decide, rfl⟩
theorem cal133 : Callable Tryz.prog 133 := ⟨_, Tryz.func133, by decide, rfl⟩
theorem cal139 : Callable Tryz.prog 139 := ⟨_, Tryz.func139, by decide, rfl⟩
theorem cal140 : Callable Tryz.prog 140 := ⟨_, Tryz.func140, by decide, rfl⟩
theorem cal141 : Callable Tryz.prog 141 := ⟨_, Tryz.func141, by decide, rfl⟩
theorem cal150 : Callable Tryz.prog 150 := ⟨_, Tryz.func150, by decide, rfl⟩
theorem cal151 : Callable Tryz.prog 151 := ⟨_, Tryz.func151, by decide, rfl⟩
theorem cal152 : Callable Tryz.prog 152 := ⟨_, Tryz.func152, by decide, rfl⟩
theorem cal153 : Callable Tryz.prog 153 := ⟨_, Tryz.func153, by decide, rfl⟩
theorem cal154 : Callable Tryz.prog 154 := ⟨_, Tryz.func154, by decide, rfl⟩
theorem cal166 : Callable Tryz.prog 166 := ⟨_, Tryz.func166, by decide, rfl⟩
theorem cal167 : Callable Tryz.prog 167 := ⟨_, Tryz.func167, by decide, rfl⟩
end Go.Proofs.YthpdkmoedpcboaaGreat
namespace Go.Proofs.YthpdkmoedpcboaaGreat
set_option linter.unusedSimpArgs false
set_option linter.unusedVariables false
open Go Go.Lift Go.RowKit Go.ChangeShapes Go.WideShapes Go.ChangeAt
theorem Tryz.own : ownKnob Tryz.prog.godebug = none := by kernel_rfl
theorem Tryz.laidOut : laidOutB Tryz.prog = true := by kernel_rfl
theorem wf_u8 {n : Int} (h : (Lit.int .u8 n).wf = true) : 0 ≤ n ∧ n < 256 := by
  simp only [Lit.wf, Bool.and_eq_true, decide_eq_true_eq] at h
  have h1 : IntKind.u8.min = 0 := rfl
  have h2 : IntKind.u8.max = 255 := rfl
  omega
theorem rdI : Reads Tryz.prog 3 1 (fun (n : Int) _ => .int .i64 n) (fun n => (Lit.int .i64 n).wf = true) := reads_int Tryz.underlying3 (by kernel_rfl)
theorem rdE : Reads Tryz.prog 59 3 edgeF (fun _ => True) :=
  (reads_struct (f := _) (I := _) Tryz.underlying59 (by kernel_rfl) (readsF_cons rfl rdI (readsF_cons rfl rdI (readsF_cons rfl rdI readsF_nil)))).as (fun p => (⟨p.1, p.2.1, p.2.2.1⟩ : Edge)) (fun a j hj => by
    match j, hj with
    | 0, _ => rfl
    | 1, _ => rfl
    | 2, _ => rfl) (fun _ _ => trivial)
theorem rdEs : Reads Tryz.prog 22 1 (fun (l : List Edge) _ => edgesC l) (fun l => l.length ≤ maxLen) :=
  (reads_slice de Tryz.underlying22 (by kernel_rfl) (by decide) rdE).as id (fun _ _ _ => rfl) (fun _ h => h.1)
theorem rdG : Reads Tryz.prog 24 3 grF (fun g => g.edges.length ≤ maxLen) :=
  (reads_struct (f := _) (I := _) Tryz.underlying24 (by kernel_rfl) (readsF_cons rfl rdI (readsF_cons rfl rdI (readsF_cons rfl rdEs readsF_nil)))).as (fun p => (⟨p.1, p.2.1, p.2.2.1⟩ : Gr)) (fun a j hj => by
    match j, hj with
    | 0, _ => rfl
    | 1, _ => rfl
    | 2, _ => rfl) (fun _ h => h.2.2.1)
theorem rdIs : Reads Tryz.prog 25 1 (fun (l : List Int) _ => ints l) (fun l => l.length ≤ maxLen) :=
  (reads_slice (0 : Int) Tryz.underlying25 (by kernel_rfl) (by decide) rdI).as id (fun _ _ _ => rfl) (fun _ h => h.1)
end Go.Proofs.YthpdkmoedpcboaaGreat
