/-
  The functions of this seat that are called.
-/
import Derived.Test.YthpdkmoedpcboaaLT
namespace Go.Proofs.Ythpdkmoedpcboaa
set_option linter.unusedSimpArgs false
set_option linter.unusedVariables false
open Go Go.Lift Go.Proofs
theorem mixed : Try.prog.follows .mixedOrders = true := by decide +kernel
theorem cal6 : Callable Try.prog 6 := ⟨_, Try.func6, by decide, rfl⟩
theorem cal7 : Callable Try.prog 7 := ⟨_, Try.func7, by decide, rfl⟩
theorem cal9 : Callable Try.prog 9 := ⟨_, Try.func9, by decide, rfl⟩
theorem cal10 : Callable Try.prog 10 := ⟨_, Try.func10, by decide, rfl⟩
theorem cal12 : Callable Try.prog 12 := ⟨_, Try.func12, by decide, rfl⟩
theorem cal14 : Callable Try.prog 14 := ⟨_, Try.func14, by decide, rfl⟩
theorem cal15 : Callable Try.prog 15 := ⟨_, Try.func15, by decide, rfl⟩
theorem cal16 : Callable Try.prog 16 := ⟨_, Try.func16, by decide, rfl⟩
theorem cal17 : Callable Try.prog 17 := ⟨_, Try.func17, by decide, rfl⟩
theorem cal18 : Callable Try.prog 18 := ⟨_, Try.func18, by decide, rfl⟩
theorem cal19 : Callable Try.prog 19 := ⟨_, Try.func19, by decide, rfl⟩
theorem cal20 : Callable Try.prog 20 := ⟨_, Try.func20, by decide, rfl⟩
theorem cal21 : Callable Try.prog 21 := ⟨_, Try.func21, by decide, rfl⟩
theorem cal22 : Callable Try.prog 22 := ⟨_, Try.func22, by decide, rfl⟩
theorem cal23 : Callable Try.prog 23 := ⟨_, Try.func23, by decide, rfl⟩
theorem cal24 : Callable Try.prog 24 := ⟨_, Try.func24, by decide, rfl⟩
theorem cal25 : Callable Try.prog 25 := ⟨_, Try.func25, by decide, rfl⟩
theorem cal26 : Callable Try.prog 26 := ⟨_, Try.func26, by decide, rfl⟩
theorem cal30 : Callable Try.prog 30 := ⟨_, Try.func30, by decide, rfl⟩
theorem cal31 : Callable Try.prog 31 := ⟨_, Try.func31, by decide, rfl⟩
theorem cal34 : Callable Try.prog 34 := ⟨_, Try.func34, by decide, rfl⟩
theorem cal35 : Callable Try.prog 35 := ⟨_, Try.func35, by decide, rfl⟩
theorem cal36 : Callable Try.prog 36 := ⟨_, Try.func36, by decide, rfl⟩
theorem cal37 : Callable Try.prog 37 := ⟨_, Try.func37, by decide, rfl⟩
theorem cal38 : Callable Try.prog 38 := ⟨_, Try.func38, by decide, rfl⟩
theorem cal39 : Callable Try.prog 39 := ⟨_, Try.func39, by decide, rfl⟩
theorem cal40 : Callable Try.prog 40 := ⟨_, Try.func40, by decide, rfl⟩
theorem cal41 : Callable Try.prog 41 := ⟨_, Try.func41, by decide, rfl⟩
theorem cal42 : Callable Try.prog 42 := ⟨_, Try.func42, by decide, rfl⟩
theorem cal43 : Callable Try.prog 43 := ⟨_, Try.func43, by decide, rfl⟩
theorem cal44 : Callable Try.prog 44 := ⟨_, Try.func44, by decide, rfl⟩
theorem cal45 : Callable Try.prog 45 := ⟨_, Try.func45, by decide, rfl⟩
theorem cal46 : Callable Try.prog 46 := ⟨_, Try.func46, by decide, rfl⟩
theorem cal47 : Callable Try.prog 47 := ⟨_, Try.func47, by decide, rfl⟩
theorem cal50 : Callable Try.prog 50 := ⟨_, Try.func50, by decide, rfl⟩
theorem cal51 : Callable Try.prog 51 := ⟨_, Try.func51, by decide, rfl⟩
theorem cal52 : Callable Try.prog 52 := ⟨_, Try.func52, by decide, rfl⟩
theorem cal54 : Callable Try.prog 54 := ⟨_, Try.func54, by decide, rfl⟩
theorem cal55 : Callable Try.prog 55 := ⟨_, Try.func55, by decide, rfl⟩
theorem cal56 : Callable Try.prog 56 := ⟨_, Try.func56, by decide, rfl⟩
theorem cal57 : Callable Try.prog 57 := ⟨_, Try.func57, by decide, rfl⟩
theorem cal58 : Callable Try.prog 58 := ⟨_, Try.func58, by decide, rfl⟩
theorem cal59 : Callable Try.prog 59 := ⟨_, Try.func59, by decide, rfl⟩
theorem cal60 : Callable Try.prog 60 := ⟨_, Try.func60, by decide, rfl⟩
theorem cal61 : Callable Try.prog 61 := ⟨_, Try.func61, by decide, rfl⟩
theorem cal62 : Callable Try.prog 62 := ⟨_, Try.func62, by decide, rfl⟩
theorem cal63 : Callable Try.prog 63 := ⟨_, Try.func63, by decide, rfl⟩
theorem cal64 : Callable Try.prog 64 := ⟨_, Try.func64, by decide, rfl⟩
theorem cal65 : Callable Try.prog 65 := ⟨_, Try.func65, by decide, rfl⟩
theorem cal66 : Callable Try.prog 66 := ⟨_, Try.func66, by decide, rfl⟩
theorem cal67 : Callable Try.prog 67 := ⟨_, Try.func67, by decide, rfl⟩
theorem cal71 : Callable Try.prog 71 := ⟨_, Try.func71, by decide, rfl⟩
theorem cal72 : Callable Try.prog 72 := ⟨_, Try.func72, by decide, rfl⟩
theorem cal73 : Callable Try.prog 73 := ⟨_, Try.func73, by decide, rfl⟩
theorem cal74 : Callable Try.prog 74 := ⟨_, Try.func74, by decide, rfl⟩
theorem cal83 : Callable Try.prog 83 := ⟨_, Try.func83, by decide, rfl⟩
theorem cal84 : Callable Try.prog 84 := ⟨_, Try.func84, by decide, rfl⟩
theorem cal85 : Callable Try.prog 85 := ⟨_, Try.func85, by decide, rfl⟩
theorem cal86 : Callable Try.prog 86 := ⟨_, Try.func86, by decide, rfl⟩
end Go.Proofs.Ythpdkmoedpcboaa
