/- Parts of the proof: BL LC1. -/
import Derived.Test.YtoafgeobhhlplaaProg
import Derived.KernelRfl
import Derived.Test.YtoafgeobhhlplaaZF09
import Derived.Test.YtoafgeobhhlplaaZF10
namespace Go.Proofs.Ytoafgeobhhlplaa
set_option linter.unusedVariables false
open Go Go.Proofs Go.Lift
def bldRen : Go.Shelf.Ren := ⟨fun | 169 => 58 | 240 => 77 | 276 => 87 | n => n, fun | 0 => 0 | 3 => 3 | 4 => 4 | 5 => 5 | 9 => 9 | 20 => 20 | 37 => 48 | 70 => 85 | 72 => 87 | 127 => 110 | 164 => 118 | n => n, fun n => n⟩
theorem bld240 : Go.Proofs.Lays.n240 Try.prog bldRen := {
  mixed := by kernel_rfl,
  f240 := Try.func77.trans (congrArg some (by kernel_rfl)),
  f276 := Try.func87.trans (congrArg some (by kernel_rfl)),
  t0 := Try.underlying0,
  a0 := Try.isAgg0,
  z0 := Try.sizeOf0,
  v0 := Try.zeroValue0,
  t4 := Try.underlying4,
  a4 := Try.isAgg4,
  z4 := Try.sizeOf4,
  v4 := Try.zeroValue4,
  t9 := Try.underlying9,
  a9 := Try.isAgg9,
  z9 := Try.sizeOf9,
  v9 := Try.zeroValue9,
  t20 := Try.underlying20,
  a20 := Try.isAgg20,
  z20 := Try.sizeOf20,
  v20 := Try.zeroValue20,
  t70 := Try.underlying85,
  a70 := Try.isAgg85,
  z70 := Try.sizeOf85,
  v70 := Try.zeroValue85,
  t72 := Try.underlying87,
  a72 := Try.isAgg87,
  z72 := Try.sizeOf87,
  v72 := Try.zeroValue87,
  t164 := Try.underlying118,
  a164 := Try.isAgg118,
  z164 := Try.sizeOf118,
  v164 := Try.zeroValue118 }
theorem bld169 : Go.Proofs.Lays.n169 Try.prog bldRen := {
  mixed := by kernel_rfl,
  f169 := Try.func58.trans (congrArg some (by kernel_rfl)),
  t0 := Try.underlying0,
  a0 := Try.isAgg0,
  z0 := Try.sizeOf0,
  v0 := Try.zeroValue0,
  t3 := Try.underlying3,
  a3 := Try.isAgg3,
  z3 := Try.sizeOf3,
  v3 := Try.zeroValue3,
  t9 := Try.underlying9,
  a9 := Try.isAgg9,
  z9 := Try.sizeOf9,
  v9 := Try.zeroValue9,
  t37 := Try.underlying48,
  a37 := Try.isAgg48,
  z37 := Try.sizeOf48,
  v37 := Try.zeroValue48,
  t70 := Try.underlying85,
  a70 := Try.isAgg85,
  z70 := Try.sizeOf85,
  v70 := Try.zeroValue85,
  t72 := Try.underlying87,
  a72 := Try.isAgg87,
  z72 := Try.sizeOf87,
  v72 := Try.zeroValue87,
  t127 := Try.underlying110,
  a127 := Try.isAgg110,
  z127 := Try.sizeOf110,
  v127 := Try.zeroValue110 }
theorem bldX : Builder.Extra Try.prog bldRen := {
  sizeBuilder := by kernel_rfl,
  liesBuilder := by kernel_rfl,
  t5 := Try.underlying5,
  a5 := Try.isAgg5,
  z5 := Try.sizeOf5,
  v5 := Try.zeroValue5,
  infoByte := by kernel_rfl,
  cellsByte := by kernel_rfl,
  sizeByte := by kernel_rfl,
  neB5 := by decide }
theorem copyCheckB {hin : Heap} {nin : Nat} {T : TypeId} {S off : Nat} {f : Nat → Nat → AVal} (hl : lkH hin (0, 0) = some (.arr 1 S f)) (ht : tyH hin (0, 0) = some T)
    (hS : Try.prog.cellsOf T = S) (hoff : off < S) (hlies : liesAt Try.prog Try.prog.depth T 1 off 87 1 = true) (hf : f 0 off = .nilp ∨ f 0 off = .ptr (0, 0) 0 off) :
    FC Try.prog 77 [.ptr (0, 0) 0 off] hin nin (fun _ : Unit => True) (fun _ => .tup 0 (fun _ => .any)) (fun _ => setH hin (0, 0) (.arr 1 S (selfF f off))) (fun _ => nin) :=
  copyCheck_c bld240 bldX.toX72 hl ht hS hoff hlies hf
theorem stringB {hin : Heap} {nin : Nat} {S off N : Nat} {f g : Nat → Nat → AVal} {id : Lift.Id} {l : List UInt8} (hl : lkH hin (0, 0) = some (.arr 1 S f)) (hoff : off + 1 < S)
    (hf : f 0 (off + 1) = .sl id 0 l.length) (hl1 : lkH hin id = some (.arr N 1 g)) (ht1 : tyH hin id = some 5) (hN : l.length ≤ N) (h0 : l ≠ []) (hg : ∀ i, i < l.length → g i 0 = .int .u8 (l.getD i 0).toNat) (h63 : l.length ≤ 9223372036854775807) :
    FC Try.prog 58 [.ptr (0, 0) 0 off] hin nin (fun _ : Unit => True) (fun _ => .str l) (fun _ => delH hin id) (fun _ => nin) :=
  string_c bld169 bldX hl hoff hf hl1 ht1 hN h0 hg h63
theorem stringNilB {hin : Heap} {nin : Nat} {S off : Nat} {f : Nat → Nat → AVal} (hl : lkH hin (0, 0) = some (.arr 1 S f)) (hoff : off + 1 < S) (hf : f 0 (off + 1) = .nils) :
    FC Try.prog 58 [.ptr (0, 0) 0 off] hin nin (fun _ : Unit => True) (fun _ => .str []) (fun _ => hin) (fun _ => nin) :=
  string_nil_c bld169 bldX hl hoff hf
end Go.Proofs.Ytoafgeobhhlplaa
namespace Go.Proofs.Ytoafgeobhhlplaa
set_option linter.unusedSimpArgs false
set_option linter.unusedVariables false
open Go Go.Lift Go.Proofs
theorem mixed : Try.prog.follows .mixedOrders = true := by decide +kernel
theorem cal10 : Callable Try.prog 10 := ⟨_, Try.func10, by decide, rfl⟩
theorem cal11 : Callable Try.prog 11 := ⟨_, Try.func11, by decide, rfl⟩
theorem cal12 : Callable Try.prog 12 := ⟨_, Try.func12, by decide, rfl⟩
theorem cal16 : Callable Try.prog 16 := ⟨_, Try.func16, by decide, rfl⟩
theorem cal19 : Callable Try.prog 19 := ⟨_, Try.func19, by decide, rfl⟩
theorem cal21 : Callable Try.prog 21 := ⟨_, Try.func21, by decide, rfl⟩
theorem cal23 : Callable Try.prog 23 := ⟨_, Try.func23, by decide, rfl⟩
theorem cal24 : Callable Try.prog 24 := ⟨_, Try.func24, by decide, rfl⟩
theorem cal26 : Callable Try.prog 26 := ⟨_, Try.func26, by decide, rfl⟩
theorem cal27 : Callable Try.prog 27 := ⟨_, Try.func27, by decide, rfl⟩
theorem cal28 : Callable Try.prog 28 := ⟨_, Try.func28, by decide, rfl⟩
theorem cal29 : Callable Try.prog 29 := ⟨_, Try.func29, by decide, rfl⟩
theorem cal30 : Callable Try.prog 30 := ⟨_, Try.func30, by decide, rfl⟩
theorem cal31 : Callable Try.prog 31 := ⟨_, Try.func31, by decide, rfl⟩
theorem cal32 : Callable Try.prog 32 := ⟨_, Try.func32, by decide, rfl⟩
theorem cal35 : Callable Try.prog 35 := ⟨_, Try.func35, by decide, rfl⟩
theorem cal36 : Callable Try.prog 36 := ⟨_, Try.func36, by decide, rfl⟩
theorem cal37 : Callable Try.prog 37 := ⟨_, Try.func37, by decide, rfl⟩
theorem cal38 : Callable Try.prog 38 := ⟨_, Try.func38, by decide, rfl⟩
theorem cal39 : Callable Try.prog 39 := ⟨_, Try.func39, by decide, rfl⟩
theorem cal40 : Callable Try.prog 40 := ⟨_, Try.func40, by decide, rfl⟩
theorem cal46 : Callable Try.prog 46 := ⟨_, Try.func46, by decide, rfl⟩
theorem cal47 : Callable Try.prog 47 := ⟨_, Try.func47, by decide, rfl⟩
theorem cal48 : Callable Try.prog 48 := ⟨_, Try.func48, by decide, rfl⟩
theorem cal50 : Callable Try.prog 50 := ⟨_, Try.func50, by decide, rfl⟩
theorem cal52 : Callable Try.prog 52 := ⟨_, Try.func52, by decide, rfl⟩
theorem cal53 : Callable Try.prog 53 := ⟨_, Try.func53, by decide, rfl⟩
theorem cal55 : Callable Try.prog 55 := ⟨_, Try.func55, by decide, rfl⟩
theorem cal56 : Callable Try.prog 56 := ⟨_, Try.func56, by decide, rfl⟩
theorem cal57 : Callable Try.prog 57 := ⟨_, Try.func57, by decide, rfl⟩
theorem cal58 : Callable Try.prog 58 := ⟨_, Try.func58, by decide, rfl⟩
theorem cal59 : Callable Try.prog 59 := ⟨_, Try.func59, by decide, rfl⟩
theorem cal60 : Callable Try.prog 60 := ⟨_, Try.func60, by decide, rfl⟩
theorem cal63 : Callable Try.prog 63 := ⟨_, Try.func63, by decide, rfl⟩
theorem cal64 : Callable Try.prog 64 := ⟨_, Try.func64, by decide, rfl⟩
theorem cal65 : Callable Try.prog 65 := ⟨_, Try.func65, by decide, rfl⟩
theorem cal66 : Callable Try.prog 66 := ⟨_, Try.func66, by decide, rfl⟩
theorem cal67 : Callable Try.prog 67 := ⟨_, Try.func67, by decide, rfl⟩
theorem cal68 : Callable Try.prog 68 := ⟨_, Try.func68, by decide, rfl⟩
theorem cal72 : Callable Try.prog 72 := ⟨_, Try.func72, by decide, rfl⟩
theorem cal73 : Callable Try.prog 73 := ⟨_, Try.func73, by decide, rfl⟩
theorem cal75 : Callable Try.prog 75 := ⟨_, Try.func75, by decide, rfl⟩
theorem cal77 : Callable Try.prog 77 := ⟨_, Try.func77, by decide, rfl⟩
theorem cal78 : Callable Try.prog 78 := ⟨_, Try.func78, by decide, rfl⟩
theorem cal81 : Callable Try.prog 81 := ⟨_, Try.func81, by decide, rfl⟩
theorem cal82 : Callable Try.prog 82 := ⟨_, Try.func82, by decide, rfl⟩
theorem cal83 : Callable Try.prog 83 := ⟨_, Try.func83, by decide, rfl⟩
theorem cal84 : Callable Try.prog 84 := ⟨_, Try.func84, by decide, rfl⟩
theorem cal85 : Callable Try.prog 85 := ⟨_, Try.func85, by decide, rfl⟩
theorem cal86 : Callable Try.prog 86 := ⟨_, Try.func86, by decide, rfl⟩
theorem cal94 : Callable Try.prog 94 := ⟨_, Try.func94, by decide, rfl⟩
theorem cal95 : Callable Try.prog 95 := ⟨_, Try.func95, by decide, rfl⟩
end Go.Proofs.Ytoafgeobhhlplaa
