/-
  The functions of this seat that are called.
-/
import Derived.Test.YtdojahjhijkbhaaGreatDoorLT
namespace Go.Proofs.YtdojahjhijkbhaaGreatDoor
set_option linter.unusedSimpArgs false
set_option linter.unusedVariables false
open Go Go.Lift Go.Proofs
theorem mixed : Tryz.prog.follows .mixedOrders = true := by decide +kernel
theorem cal6 : Callable Tryz.prog 6 := ⟨_, Tryz.func6, by decide, rfl⟩
theorem cal8 : Callable Tryz.prog 8 := ⟨_, Tryz.func8, by decide, rfl⟩
theorem cal9 : Callable Tryz.prog 9 := ⟨_, Tryz.func9, by decide, rfl⟩
theorem cal11 : Callable Tryz.prog 11 := ⟨_, Tryz.func11, by decide, rfl⟩
theorem cal13 : Callable Tryz.prog 13 := ⟨_, Tryz.func13, by decide, rfl⟩
theorem cal14 : Callable Tryz.prog 14 := ⟨_, Tryz.func14, by decide, rfl⟩
theorem cal15 : Callable Tryz.prog 15 := ⟨_, Tryz.func15, by decide, rfl⟩
theorem cal16 : Callable Tryz.prog 16 := ⟨_, Tryz.func16, by decide, rfl⟩
theorem cal17 : Callable Tryz.prog 17 := ⟨_, Tryz.func17, by decide, rfl⟩
theorem cal18 : Callable Tryz.prog 18 := ⟨_, Tryz.func18, by decide, rfl⟩
theorem cal19 : Callable Tryz.prog 19 := ⟨_, Tryz.func19, by decide, rfl⟩
theorem cal20 : Callable Tryz.prog 20 := ⟨_, Tryz.func20, by decide, rfl⟩
theorem cal21 : Callable Tryz.prog 21 := ⟨_, Tryz.func21, by decide, rfl⟩
theorem cal24 : Callable Tryz.prog 24 := ⟨_, Tryz.func24, by decide, rfl⟩
theorem cal25 : Callable Tryz.prog 25 := ⟨_, Tryz.func25, by decide, rfl⟩
theorem cal26 : Callable Tryz.prog 26 := ⟨_, Tryz.func26, by decide, rfl⟩
theorem cal31 : Callable Tryz.prog 31 := ⟨_, Tryz.func31, by decide, rfl⟩
theorem cal32 : Callable Tryz.prog 32 := ⟨_, Tryz.func32, by decide, rfl⟩
theorem cal33 : Callable Tryz.prog 33 := ⟨_, Tryz.func33, by decide, rfl⟩
theorem cal34 : Callable Tryz.prog 34 := ⟨_, Tryz.func34, by decide, rfl⟩
theorem cal35 : Callable Tryz.prog 35 := ⟨_, Tryz.func35, by decide, rfl⟩
theorem cal36 : Callable Tryz.prog 36 := ⟨_, Tryz.func36, by decide, rfl⟩
theorem cal37 : Callable Tryz.prog 37 := ⟨_, Tryz.func37, by decide, rfl⟩
theorem cal38 : Callable Tryz.prog 38 := ⟨_, Tryz.func38, by decide, rfl⟩
theorem cal39 : Callable Tryz.prog 39 := ⟨_, Tryz.func39, by decide, rfl⟩
theorem cal40 : Callable Tryz.prog 40 := ⟨_, Tryz.func40, by decide, rfl⟩
theorem cal44 : Callable Tryz.prog 44 := ⟨_, Tryz.func44, by decide, rfl⟩
theorem cal45 : Callable Tryz.prog 45 := ⟨_, Tryz.func45, by decide, rfl⟩
theorem cal46 : Callable Tryz.prog 46 := ⟨_, Tryz.func46, by decide, rfl⟩
theorem cal47 : Callable Tryz.prog 47 := ⟨_, Tryz.func47, by decide, rfl⟩
theorem cal48 : Callable Tryz.prog 48 := ⟨_, Tryz.func48, by decide, rfl⟩
theorem cal49 : Callable Tryz.prog 49 := ⟨_, Tryz.func49, by decide, rfl⟩
theorem cal50 : Callable Tryz.prog 50 := ⟨_, Tryz.func50, by decide, rfl⟩
theorem cal51 : Callable Tryz.prog 51 := ⟨_, Tryz.func51, by decide, rfl⟩
theorem cal52 : Callable Tryz.prog 52 := ⟨_, Tryz.func52, by decide, rfl⟩
theorem cal53 : Callable Tryz.prog 53 := ⟨_, Tryz.func53, by decide, rfl⟩
theorem cal54 : Callable Tryz.prog 54 := ⟨_, Tryz.func54, by decide, rfl⟩
theorem cal55 : Callable Tryz.prog 55 := ⟨_, Tryz.func55, by decide, rfl⟩
theorem cal56 : Callable Tryz.prog 56 := ⟨_, Tryz.func56, by decide, rfl⟩
theorem cal57 : Callable Tryz.prog 57 := ⟨_, Tryz.func57, by decide, rfl⟩
theorem cal58 : Callable Tryz.prog 58 := ⟨_, Tryz.func58, by decide, rfl⟩
theorem cal59 : Callable Tryz.prog 59 := ⟨_, Tryz.func59, by decide, rfl⟩
theorem cal60 : Callable Tryz.prog 60 := ⟨_, Tryz.func60, by decide, rfl⟩
theorem cal61 : Callable Tryz.prog 61 := ⟨_, Tryz.func61, by decide, rfl⟩
theorem cal62 : Callable Tryz.prog 62 := ⟨_, Tryz.func62, by decide, rfl⟩
theorem cal63 : Callable Tryz.prog 63 := ⟨_, Tryz.func63, by decide, rfl⟩
theorem cal66 : Callable Tryz.prog 66 := ⟨_, Tryz.func66, by decide, rfl⟩
theorem cal67 : Callable Tryz.prog 67 := ⟨_, Tryz.func67, by decide, rfl⟩
theorem cal68 : Callable Tryz.prog 68 := ⟨_, Tryz.func68, by decide, rfl⟩
theorem cal69 : Callable Tryz.prog 69 := ⟨_, Tryz.func69, by decide, rfl⟩
theorem cal73 : Callable Tryz.prog 73 := ⟨_, Tryz.func73, by decide, rfl⟩
theorem cal75 : Callable Tryz.prog 75 := ⟨_, Tryz.func75, by decide, rfl⟩
theorem cal76 : Callable Tryz.prog 76 := ⟨_, Tryz.func76, by decide, rfl⟩
theorem cal77 : Callable Tryz.prog 77 := ⟨_, Tryz.func77, by decide, rfl⟩
theorem cal78 : Callable Tryz.prog 78 := ⟨_, Tryz.func78, by decide, rfl⟩
theorem cal79 : Callable Tryz.prog 79 := ⟨_, Tryz.func79, by decide, rfl⟩
theorem cal80 : Callable Tryz.prog 80 := ⟨_, Tryz.func80, by decide, rfl⟩
theorem cal81 : Callable Tryz.prog 81 := ⟨_, Tryz.func81, by decide, rfl⟩
theorem cal82 : Callable Tryz.prog 82 := ⟨_, Tryz.func82, by decide, rfl⟩
theorem cal83 : Callable Tryz.prog 83 := ⟨_, Tryz.func83, by decide, rfl⟩
theorem cal84 : Callable Tryz.prog 84 := ⟨_, Tryz.func84, by decide, rfl⟩
theorem cal85 : Callable Tryz.prog 85 := ⟨_, Tryz.func85, by decide, rfl⟩
theorem cal86 : Callable Tryz.prog 86 := ⟨_, Tryz.func86, by decide, rfl⟩
theorem cal87 : Callable Tryz.prog 87 := ⟨_, Tryz.func87, by decide, rfl⟩
theorem cal88 : Callable Tryz.prog 88 := ⟨_, Tryz.func88, by decide, rfl⟩
theorem cal89 : Callable Tryz.prog 89 := ⟨_, Tryz.func89, by decide, rfl⟩
theorem cal90 : Callable Tryz.prog 90 := ⟨_, Tryz.func90, by decide, rfl⟩
theorem cal91 : Callable Tryz.prog 91 := ⟨_, Tryz.func91, by decide, rfl⟩
theorem cal92 : Callable Tryz.prog 92 := ⟨_, Tryz.func92, by decide, rfl⟩
theorem cal96 : Callable Tryz.prog 96 := ⟨_, Tryz.func96, by decide, rfl⟩
theorem cal98 : Callable Tryz.prog 98 := ⟨_, Tryz.func98, by decide, rfl⟩
theorem cal99 : Callable Tryz.prog 99 := ⟨_, Tryz.func99, by decide, rfl⟩
theorem cal100 : Callable Tryz.prog 100 := ⟨_, Tryz.func100, by decide, rfl⟩
theorem cal101 : Callable Tryz.prog 101 := ⟨_, Tryz.func101, by decide, rfl⟩
theorem cal111 : Callable Tryz.prog 111 := ⟨_, Tryz.func111, by decide, rfl⟩
theorem cal114 : Callable Tryz.prog 114 := ⟨_, Tryz.func114, by decide, rfl⟩
theorem cal123 : Callable Tryz.prog 123 := ⟨_, Tryz.func123, by decide, rfl⟩
theorem cal127 : Callable Tryz.prog 127 := ⟨_, Tryz.func127, by decide, rfl⟩
end Go.Proofs.YtdojahjhijkbhaaGreatDoor
