/-
  The functions of this seat that are called.
-/
import Derived.Test.YthpdkmoedpcboaaGreatLT
namespace Go.Proofs.YthpdkmoedpcboaaGreat
set_option linter.unusedSimpArgs false
set_option linter.unusedVariables false
open Go Go.Lift Go.Proofs
theorem mixed : Tryz.prog.follows .mixedOrders = true := by decide +kernel
theorem cal8 : Callable Tryz.prog 8 := ⟨_, Tryz.func8, by decide, rfl⟩
theorem cal9 : Callable Tryz.prog 9 := ⟨_, Tryz.func9, by decide, rfl⟩
theorem cal10 : Callable Tryz.prog 10 := ⟨_, Tryz.func10, by decide, rfl⟩
theorem cal11 : Callable Tryz.prog 11 := ⟨_, Tryz.func11, by decide, rfl⟩
theorem cal12 : Callable Tryz.prog 12 := ⟨_, Tryz.func12, by decide, rfl⟩
theorem cal13 : Callable Tryz.prog 13 := ⟨_, Tryz.func13, by decide, rfl⟩
theorem cal14 : Callable Tryz.prog 14 := ⟨_, Tryz.func14, by decide, rfl⟩
theorem cal15 : Callable Tryz.prog 15 := ⟨_, Tryz.func15, by decide, rfl⟩
theorem cal16 : Callable Tryz.prog 16 := ⟨_, Tryz.func16, by decide, rfl⟩
theorem cal17 : Callable Tryz.prog 17 := ⟨_, Tryz.func17, by decide, rfl⟩
theorem cal18 : Callable Tryz.prog 18 := ⟨_, Tryz.func18, by decide, rfl⟩
theorem cal19 : Callable Tryz.prog 19 := ⟨_, Tryz.func19, by decide, rfl⟩
theorem cal25 : Callable Tryz.prog 25 := ⟨_, Tryz.func25, by decide, rfl⟩
theorem cal27 : Callable Tryz.prog 27 := ⟨_, Tryz.func27, by decide, rfl⟩
theorem cal28 : Callable Tryz.prog 28 := ⟨_, Tryz.func28, by decide, rfl⟩
theorem cal29 : Callable Tryz.prog 29 := ⟨_, Tryz.func29, by decide, rfl⟩
theorem cal31 : Callable Tryz.prog 31 := ⟨_, Tryz.func31, by decide, rfl⟩
theorem cal32 : Callable Tryz.prog 32 := ⟨_, Tryz.func32, by decide, rfl⟩
theorem cal33 : Callable Tryz.prog 33 := ⟨_, Tryz.func33, by decide, rfl⟩
theorem cal34 : Callable Tryz.prog 34 := ⟨_, Tryz.func34, by decide, rfl⟩
theorem cal35 : Callable Tryz.prog 35 := ⟨_, Tryz.func35, by decide, rfl⟩
theorem cal36 : Callable Tryz.prog 36 := ⟨_, Tryz.func36, by decide, rfl⟩
theorem cal37 : Callable Tryz.prog 37 := ⟨_, Tryz.func37, by decide, rfl⟩
theorem cal38 : Callable Tryz.prog 38 := ⟨_, Tryz.func38, by decide, rfl⟩
theorem cal39 : Callable Tryz.prog 39 := ⟨_, Tryz.func39, by decide, rfl⟩
theorem cal40 : Callable Tryz.prog 40 := ⟨_, Tryz.func40, by decide, rfl⟩
theorem cal41 : Callable Tryz.prog 41 := ⟨_, Tryz.func41, by decide, rfl⟩
theorem cal42 : Callable Tryz.prog 42 := ⟨_, Tryz.func42, by decide, rfl⟩
theorem cal43 : Callable Tryz.prog 43 := ⟨_, Tryz.func43, by decide, rfl⟩
theorem cal44 : Callable Tryz.prog 44 := ⟨_, Tryz.func44, by decide, rfl⟩
theorem cal45 : Callable Tryz.prog 45 := ⟨_, Tryz.func45, by decide, rfl⟩
theorem cal51 : Callable Tryz.prog 51 := ⟨_, Tryz.func51, by decide, rfl⟩
theorem cal53 : Callable Tryz.prog 53 := ⟨_, Tryz.func53, by decide, rfl⟩
theorem cal58 : Callable Tryz.prog 58 := ⟨_, Tryz.func58, by decide, rfl⟩
theorem cal59 : Callable Tryz.prog 59 := ⟨_, Tryz.func59, by decide, rfl⟩
theorem cal63 : Callable Tryz.prog 63 := ⟨_, Tryz.func63, by decide, rfl⟩
theorem cal64 : Callable Tryz.prog 64 := ⟨_, Tryz.func64, by decide, rfl⟩
theorem cal65 : Callable Tryz.prog 65 := ⟨_, Tryz.func65, by decide, rfl⟩
theorem cal66 : Callable Tryz.prog 66 := ⟨_, Tryz.func66, by decide, rfl⟩
theorem cal67 : Callable Tryz.prog 67 := ⟨_, Tryz.func67, by decide, rfl⟩
theorem cal68 : Callable Tryz.prog 68 := ⟨_, Tryz.func68, by decide, rfl⟩
theorem cal71 : Callable Tryz.prog 71 := ⟨_, Tryz.func71, by decide, rfl⟩
theorem cal72 : Callable Tryz.prog 72 := ⟨_, Tryz.func72, by decide, rfl⟩
theorem cal73 : Callable Tryz.prog 73 := ⟨_, Tryz.func73, by decide, rfl⟩
theorem cal74 : Callable Tryz.prog 74 := ⟨_, Tryz.func74, by decide, rfl⟩
theorem cal75 : Callable Tryz.prog 75 := ⟨_, Tryz.func75, by decide, rfl⟩
theorem cal76 : Callable Tryz.prog 76 := ⟨_, Tryz.func76, by decide, rfl⟩
theorem cal77 : Callable Tryz.prog 77 := ⟨_, Tryz.func77, by decide, rfl⟩
theorem cal78 : Callable Tryz.prog 78 := ⟨_, Tryz.func78, by decide, rfl⟩
theorem cal79 : Callable Tryz.prog 79 := ⟨_, Tryz.func79, by decide, rfl⟩
theorem cal85 : Callable Tryz.prog 85 := ⟨_, Tryz.func85, by decide, rfl⟩
theorem cal86 : Callable Tryz.prog 86 := ⟨_, Tryz.func86, by decide, rfl⟩
theorem cal87 : Callable Tryz.prog 87 := ⟨_, Tryz.func87, by decide, rfl⟩
theorem cal88 : Callable Tryz.prog 88 := ⟨_, Tryz.func88, by decide, rfl⟩
theorem cal89 : Callable Tryz.prog 89 := ⟨_, Tryz.func89, by decide, rfl⟩
theorem cal90 : Callable Tryz.prog 90 := ⟨_, Tryz.func90, by decide, rfl⟩
theorem cal97 : Callable Tryz.prog 97 := ⟨_, Tryz.func97, by decide, rfl⟩
theorem cal98 : Callable Tryz.prog 98 := ⟨_, Tryz.func98, by decide, rfl⟩
theorem cal99 : Callable Tryz.prog 99 := ⟨_, Tryz.func99, by decide, rfl⟩
theorem cal100 : Callable Tryz.prog 100 := ⟨_, Tryz.func100, by decide, rfl⟩
theorem cal101 : Callable Tryz.prog 101 := ⟨_, Tryz.func101, by decide, rfl⟩
theorem cal107 : Callable Tryz.prog 107 := ⟨_, Tryz.func107, by decide, rfl⟩
theorem cal108 : Callable Tryz.prog 108 := ⟨_, Tryz.func108, by decide, rfl⟩
theorem cal109 : Callable Tryz.prog 109 := ⟨_, Tryz.func109, by decide, rfl⟩
theorem cal110 : Callable Tryz.prog 110 := ⟨_, Tryz.func110, by decide, rfl⟩
theorem cal112 : Callable Tryz.prog 112 := ⟨_, Tryz.func112, by decide, rfl⟩
theorem cal113 : Callable Tryz.prog 113 := ⟨_, Tryz.func113, by decide, rfl⟩
theorem cal114 : Callable Tryz.prog 114 := ⟨_, Tryz.func114, by decide, rfl⟩
theorem cal115 : Callable Tryz.prog 115 := ⟨_, Tryz.func115, by decide, rfl⟩
theorem cal116 : Callable Tryz.prog 116 := ⟨_, Tryz.func116, by decide, rfl⟩
theorem cal117 : Callable Tryz.prog 117 := ⟨_, Tryz.func117, by decide, rfl⟩
theorem cal118 : Callable Tryz.prog 118 := ⟨_, Tryz.func118, by decide, rfl⟩
theorem cal119 : Callable Tryz.prog 119 := ⟨_, Tryz.func119, by decide, rfl⟩
theorem cal120 : Callable Tryz.prog 120 := ⟨_, Tryz.func120, by decide, rfl⟩
theorem cal125 : Callable Tryz.prog 125 := ⟨_, Tryz.func125, by decide, rfl⟩
theorem cal126 : Callable Tryz.prog 126 := ⟨_, Tryz.func126, by decide, rfl⟩
theorem cal133 : Callable Tryz.prog 133 := ⟨_, Tryz.func133, by decide, rfl⟩
theorem cal136 : Callable Tryz.prog 136 := ⟨_, Tryz.func136, by decide, rfl⟩
theorem cal137 : Callable Tryz.prog 137 := ⟨_, Tryz.func137, by decide, rfl⟩
theorem cal139 : Callable Tryz.prog 139 := ⟨_, Tryz.func139, by decide, rfl⟩
theorem cal140 : Callable Tryz.prog 140 := ⟨_, Tryz.func140, by decide, rfl⟩
theorem cal141 : Callable Tryz.prog 141 := ⟨_, Tryz.func141, by decide, rfl⟩
theorem cal150 : Callable Tryz.prog 150 := ⟨_, Tryz.func150, by decide, rfl⟩
theorem cal151 : Callable Tryz.prog 151 := ⟨_, Tryz.func151, by decide, rfl⟩
theorem cal166 : Callable Tryz.prog 166 := ⟨_, Tryz.func166, by decide, rfl⟩
theorem cal167 : Callable Tryz.prog 167 := ⟨_, Tryz.func167, by decide, rfl⟩
end Go.Proofs.YthpdkmoedpcboaaGreat
