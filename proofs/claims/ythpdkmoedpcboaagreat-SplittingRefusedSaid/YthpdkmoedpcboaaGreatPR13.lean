/- Parts of the proof: LC1 RD. -/
import Derived.Test.YthpdkmoedpcboaaGreatRows
import Derived.Test.YthpdkmoedpcboaaGreatPR09
import Derived.Test.YthpdkmoedpcboaaGreatPR10
import Derived.Test.YthpdkmoedpcboaaGreatPR11
import Derived.Test.YthpdkmoedpcboaaGreatPR12
namespace Go.Proofs.YthpdkmoedpcboaaGreat
set_option linter.unusedSimpArgs false
set_option linter.unusedVariables false
open Go Go.Lift Go.Proofs
theorem mixed : Tryz.prog.follows .mixedOrders = true := by decide +kernel
theorem cal9 : Callable Tryz.prog 9 := ⟨_, Tryz.func9, by decide, rfl⟩
theorem cal12 : Callable Tryz.prog 12 := ⟨_, Tryz.func12, by decide, rfl⟩
theorem cal14 : Callable Tryz.prog 14 := ⟨_, Tryz.func14, by decide, rfl⟩
theorem cal15 : Callable Tryz.prog 15 := ⟨_, Tryz.func15, by decide, rfl⟩
theorem cal16 : Callable Tryz.prog 16 := ⟨_, Tryz.func16, by decide, rfl⟩
theorem cal17 : Callable Tryz.prog 17 := ⟨_, Tryz.func17, by decide, rfl⟩
theorem cal18 : Callable Tryz.prog 18 := ⟨_, Tryz.func18, by decide, rfl⟩
theorem cal19 : Callable Tryz.prog 19 := ⟨_, Tryz.func19, by decide, rfl⟩
theorem cal23 : Callable Tryz.prog 23 := ⟨_, Tryz.func23, by decide, rfl⟩
theorem cal25 : Callable Tryz.prog 25 := ⟨_, Tryz.func25, by decide, rfl⟩
theorem cal27 : Callable Tryz.prog 27 := ⟨_, Tryz.func27, by decide, rfl⟩
theorem cal28 : Callable Tryz.prog 28 := ⟨_, Tryz.func28, by decide, rfl⟩
theorem cal32 : Callable Tryz.prog 32 := ⟨_, Tryz.func32, by decide, rfl⟩
theorem cal33 : Callable Tryz.prog 33 := ⟨_, Tryz.func33, by decide, rfl⟩
theorem cal34 : Callable Tryz.prog 34 := ⟨_, Tryz.func34, by decide, rfl⟩
theorem cal36 : Callable Tryz.prog 36 := ⟨_, Tryz.func36, by decide, rfl⟩
theorem cal38 : Callable Tryz.prog 38 := ⟨_, Tryz.func38, by decide, rfl⟩
theorem cal39 : Callable Tryz.prog 39 := ⟨_, Tryz.func39, by decide, rfl⟩
theorem cal40 : Callable Tryz.prog 40 := ⟨_, Tryz.func40, by decide, rfl⟩
theorem cal41 : Callable Tryz.prog 41 := ⟨_, Tryz.func41, by decide, rfl⟩
theorem cal42 : Callable Tryz.prog 42 := ⟨_, Tryz.func42, by decide, rfl⟩
theorem cal43 : Callable Tryz.prog 43 := ⟨_, Tryz.func43, by decide, rfl⟩
theorem cal44 : Callable Tryz.prog 44 := ⟨_, Tryz.func44, by decide, rfl⟩
theorem cal45 : Callable Tryz.prog 45 := ⟨_, Tryz.func45, by decide, rfl⟩
theorem cal53 : Callable Tryz.prog 53 := ⟨_, Tryz.func53, by decide, rfl⟩
theorem cal54 : Callable Tryz.prog 54 := ⟨_, Tryz.func54, by decide, rfl⟩
theorem cal55 : Callable Tryz.prog 55 := ⟨_, Tryz.func55, by decide, rfl⟩
theorem cal56 : Callable Tryz.prog 56 := ⟨_, Tryz.func56, by decide, rfl⟩
theorem cal57 : Callable Tryz.prog 57 := ⟨_, Tryz.func57, by decide, rfl⟩
theorem cal58 : Callable Tryz.prog 58 := ⟨_, Tryz.func58, by decide, rfl⟩
theorem cal66 : Callable Tryz.prog 66 := ⟨_, Tryz.func66, by decide, rfl⟩
theorem cal67 : Callable Tryz.prog 67 := ⟨_, Tryz.func67, by decide, rfl⟩
theorem cal71 : Callable Tryz.prog 71 := ⟨_, Tryz.func71, by decide, rfl⟩
theorem cal72 : Callable Tryz.prog 72 := ⟨_, Tryz.func72, by decide, rfl⟩
theorem cal73 : Callable Tryz.prog 73 := ⟨_, Tryz.func73, by decide, rfl⟩
theorem cal74 : Callable Tryz.prog 74 := ⟨_, Tryz.func74, by decide, rfl⟩
theorem cal75 : Callable Tryz.prog 75 := ⟨_, Tryz.func75, by decide, rfl⟩
theorem cal76 : Callable Tryz.prog 76 := ⟨_, Tryz.func76, by decide, rfl⟩
theorem cal77 : Callable Tryz.prog 77 := ⟨_, Tryz.func77, by decide, rfl⟩
theorem cal78 : Callable Tryz.prog 78 := ⟨_, Tryz.func78, by decide, rfl⟩
theorem cal79 : Callable Tryz.prog 79 := ⟨_, Tryz.func79, by decide, rfl⟩
theorem cal87 : Callable Tryz.prog 87 := ⟨_, Tryz.func87, by decide, rfl⟩
theorem cal88 : Callable Tryz.prog 88 := ⟨_, Tryz.func88, by decide, rfl⟩
theorem cal89 : Callable Tryz.prog 89 := ⟨_, Tryz.func89, by decide, rfl⟩
theorem cal90 : Callable Tryz.prog 90 := ⟨_, Tryz.func90, by decide, rfl⟩
theorem cal91 : Callable Tryz.prog 91 := ⟨_, Tryz.func91, by decide, rfl⟩
theorem cal92 : Callable Tryz.prog 92 := ⟨_, Tryz.func92, by decide, rfl⟩
theorem cal93 : Callable Tryz.prog 93 := ⟨_, Tryz.func93, by decide, rfl⟩
theorem cal94 : Callable Tryz.prog 94 := ⟨_, Tryz.func94, by decide, rfl⟩
theorem cal95 : Callable Tryz.prog 95 := ⟨_, Tryz.func95, by decide, rfl⟩
theorem cal96 : Callable Tryz.prog 96 := ⟨_, Tryz.func96, by decide, rfl⟩
theorem cal97 : Callable Tryz.prog 97 := ⟨_, Tryz.func97, by decide, rfl⟩
theorem cal98 : Callable Tryz.prog 98 := ⟨_, Tryz.func98, by decide, rfl⟩
theorem cal110 : Callable Tryz.prog 110 := ⟨_, Tryz.func110, by decide, rfl⟩
theorem cal112 : Callable Tryz.prog 112 := ⟨_, Tryz.func112, by decide, rfl⟩
theorem cal113 : Callable Tryz.prog 113 := ⟨_, Tryz.func113, by decide, rfl⟩
theorem cal114 : Callable Tryz.prog 114 := ⟨_, Tryz.func114, by decide, rfl⟩
theorem cal115 : Callable Tryz.prog 115 := ⟨_, Tryz.func115, by decide, rfl⟩
theorem cal116 : Callable Tryz.prog 116 := ⟨_, Tryz.func116, by decide, rfl⟩
theorem cal117 : Callable Tryz.prog 117 := ⟨_, Tryz.func117, by decide, rfl⟩
theorem cal118 : Callable Tryz.prog 118 := ⟨_, Tryz.func118, by decide, rfl⟩
theorem cal119 : Callable Tryz.prog 119 := ⟨_, Tryz.func119, by decide, rfl⟩
theorem cal120 : Callable Tryz.prog 120 := ⟨_, Tryz.func120, by decide, rfl⟩
theorem cal125 : Callable Tryz.prog 125 := ⟨_, Tryz.func125, by decide, rfl⟩
theorem cal126 : Callable Tryz.prog 126 := ⟨_, Tryz.func126, by decide, rfl⟩
theorem cal127 : Callable Tryz.prog 127 := ⟨_, Tryz.func127, by decide, rfl⟩
theorem cal128 : Callable Tryz.prog 128 := ⟨_, Tryz.func128, by decide, rfl⟩
theorem cal129 : Callable Tryz.prog 129 := ⟨_, Tryz.func129, by decide, rfl⟩
theorem cal130 : Callable Tryz.prog 130 := ⟨_, Tryz.func130, by decide, rfl⟩
theorem cal131 : Callable Tryz.prog 131 := ⟨_, Tryz.func131, by decide, rfl⟩
theorem cal132 : Callable Tryz.prog 132 := ⟨_, Tryz.func132, by decide, rfl⟩
theorem cal133 : Callable Tryz.prog 133 := ⟨_, Tryz.func133, by decide, rfl⟩
theorem cal139 : Callable Tryz.prog 139 := ⟨_, Tryz.func139, by decide, rfl⟩
theorem cal140 : Callable Tryz.prog 140 := ⟨_, Tryz.func140, by decide, rfl⟩
theorem cal141 : Callable Tryz.prog 141 := ⟨_, Tryz.func141, by decide, rfl⟩
theorem cal150 : Callable Tryz.prog 150 := ⟨_, Tryz.func150, by decide, rfl⟩
theorem cal151 : Callable Tryz.prog 151 := ⟨_, Tryz.func151, by decide, rfl⟩
theorem cal163 : Callable Tryz.prog 163 := ⟨_, Tryz.func163, by decide, rfl⟩
theorem cal164 : Callable Tryz.prog 164 := ⟨_, Tryz.func164, by decide, rfl⟩
theorem cal165 : Callable Tryz.prog 165 := ⟨_, Tryz.func165, by decide, rfl⟩
theorem cal166 : Callable Tryz.prog 166 := ⟨_, Tryz.func166, by decide, rfl⟩
theorem cal167 : Callable Tryz.prog 167 := ⟨_, Tryz.func167, by decide, rfl⟩
theorem cal185 : Callable Tryz.prog 185 := ⟨_, Tryz.func185, by decide, rfl⟩
theorem cal186 : Callable Tryz.prog 186 := ⟨_, Tryz.func186, by decide, rfl⟩
end Go.Proofs.YthpdkmoedpcboaaGreat
namespace Go.Proofs.YthpdkmoedpcboaaGreat
set_option linter.unusedSimpArgs false
set_option linter.unusedVariables false
open Go Go.Lift Go.RowKit Go.ChangeShapes Go.WideShapes Go.ChangeAt
theorem Tryz.own : ownKnob Tryz.prog.godebug = none := by kernel_rfl
theorem Tryz.laidOut : laidOutB Tryz.prog = true := by kernel_rfl
theorem wf_u8 {n : Int} (h : (Lit.int .u8 n).wf = true) : 0 ≤ n ∧ n < 256 := by
  simp only [Lit.wf, Bool.and_eq_true, decide_eq_true_eq] at h
  have h1 : IntKind.u8.min = 0 := rfl
  have h2 : IntKind.u8.max = 255 := rfl
  omega
theorem rdI : Reads Tryz.prog 3 1 (fun (n : Int) _ => .int .i64 n) (fun n => (Lit.int .i64 n).wf = true) := reads_int Tryz.underlying3 (by kernel_rfl)
theorem rdE : Reads Tryz.prog 59 3 edgeF (fun _ => True) :=
  (reads_struct (f := _) (I := _) Tryz.underlying59 (by kernel_rfl) (readsF_cons rfl rdI (readsF_cons rfl rdI (readsF_cons rfl rdI readsF_nil)))).as (fun p => (⟨p.1, p.2.1, p.2.2.1⟩ : Edge)) (fun a j hj => by
    match j, hj with
    | 0, _ => rfl
    | 1, _ => rfl
    | 2, _ => rfl) (fun _ _ => trivial)
theorem rdEs : Reads Tryz.prog 22 1 (fun (l : List Edge) _ => edgesC l) (fun l => l.length ≤ maxLen) :=
  (reads_slice de Tryz.underlying22 (by kernel_rfl) (by decide) rdE).as id (fun _ _ _ => rfl) (fun _ h => h.1)
theorem rdG : Reads Tryz.prog 24 3 grF (fun g => g.edges.length ≤ maxLen) :=
  (reads_struct (f := _) (I := _) Tryz.underlying24 (by kernel_rfl) (readsF_cons rfl rdI (readsF_cons rfl rdI (readsF_cons rfl rdEs readsF_nil)))).as (fun p => (⟨p.1, p.2.1, p.2.2.1⟩ : Gr)) (fun a j hj => by
    match j, hj with
    | 0, _ => rfl
    | 1, _ => rfl
    | 2, _ => rfl) (fun _ h => h.2.2.1)
theorem rdIs : Reads Tryz.prog 25 1 (fun (l : List Int) _ => ints l) (fun l => l.length ≤ maxLen) :=
  (reads_slice (0 : Int) Tryz.underlying25 (by kernel_rfl) (by decide) rdI).as id (fun _ _ _ => rfl) (fun _ h => h.1)
end Go.Proofs.YthpdkmoedpcboaaGreat
