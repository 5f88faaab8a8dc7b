/-
  strings.Builder at this program: the shelf's contracts laid, then as contracts of the abstract layer. Printed by tools/mkbld.py.
-/
import Derived.Test.YtdojahjhijkbhaaGreatDoorProg
import Derived.Test.YtdojahjhijkbhaaGreatDoorLBD
import Derived.Test.YtdojahjhijkbhaaGreatDoorLT
import Derived.KernelRfl
namespace Go.Proofs.YtdojahjhijkbhaaGreatDoor
set_option linter.unusedVariables false
open Go Go.Proofs Go.Lift
def bldRen : Go.Shelf.Ren := ⟨fun | 169 => 36 | 240 => 80 | 276 => 97 | n => n, fun | 0 => 0 | 3 => 3 | 4 => 4 | 5 => 5 | 9 => 9 | 20 => 20 | 37 => 45 | 70 => 66 | 72 => 68 | 127 => 116 | 164 => 136 | n => n, fun n => n⟩
theorem bld240 : Go.Proofs.Lays.n240 Tryz.prog bldRen := {
  mixed := by kernel_rfl,
  f240 := Tryz.func80.trans (congrArg some (by kernel_rfl)),
  f276 := Tryz.func97.trans (congrArg some (by kernel_rfl)),
  t0 := Tryz.underlying0,
  a0 := Tryz.isAgg0,
  z0 := Tryz.sizeOf0,
  v0 := Tryz.zeroValue0,
  t4 := Tryz.underlying4,
  a4 := Tryz.isAgg4,
  z4 := Tryz.sizeOf4,
  v4 := Tryz.zeroValue4,
  t9 := Tryz.underlying9,
  a9 := Tryz.isAgg9,
  z9 := Tryz.sizeOf9,
  v9 := Tryz.zeroValue9,
  t20 := Tryz.underlying20,
  a20 := Tryz.isAgg20,
  z20 := Tryz.sizeOf20,
  v20 := Tryz.zeroValue20,
  t70 := Tryz.underlying66,
  a70 := Tryz.isAgg66,
  z70 := Tryz.sizeOf66,
  v70 := Tryz.zeroValue66,
  t72 := Tryz.underlying68,
  a72 := Tryz.isAgg68,
  z72 := Tryz.sizeOf68,
  v72 := Tryz.zeroValue68,
  t164 := Tryz.underlying136,
  a164 := Tryz.isAgg136,
  z164 := Tryz.sizeOf136,
  v164 := Tryz.zeroValue136 }
theorem bld169 : Go.Proofs.Lays.n169 Tryz.prog bldRen := {
  mixed := by kernel_rfl,
  f169 := Tryz.func36.trans (congrArg some (by kernel_rfl)),
  t0 := Tryz.underlying0,
  a0 := Tryz.isAgg0,
  z0 := Tryz.sizeOf0,
  v0 := Tryz.zeroValue0,
  t3 := Tryz.underlying3,
  a3 := Tryz.isAgg3,
  z3 := Tryz.sizeOf3,
  v3 := Tryz.zeroValue3,
  t9 := Tryz.underlying9,
  a9 := Tryz.isAgg9,
  z9 := Tryz.sizeOf9,
  v9 := Tryz.zeroValue9,
  t37 := Tryz.underlying45,
  a37 := Tryz.isAgg45,
  z37 := Tryz.sizeOf45,
  v37 := Tryz.zeroValue45,
  t70 := Tryz.underlying66,
  a70 := Tryz.isAgg66,
  z70 := Tryz.sizeOf66,
  v70 := Tryz.zeroValue66,
  t72 := Tryz.underlying68,
  a72 := Tryz.isAgg68,
  z72 := Tryz.sizeOf68,
  v72 := Tryz.zeroValue68,
  t127 := Tryz.underlying116,
  a127 := Tryz.isAgg116,
  z127 := Tryz.sizeOf116,
  v127 := Tryz.zeroValue116 }
theorem bldX : Builder.Extra Tryz.prog bldRen := {
  sizeBuilder := by kernel_rfl,
  liesBuilder := by kernel_rfl,
  t5 := Tryz.underlying5,
  a5 := Tryz.isAgg5,
  z5 := Tryz.sizeOf5,
  v5 := Tryz.zeroValue5,
  infoByte := by kernel_rfl,
  cellsByte := by kernel_rfl,
  sizeByte := by kernel_rfl,
  neB5 := by decide }

/-- copyCheck. -/
theorem copyCheckB {hin : Heap} {nin : Nat} {T : TypeId} {S off : Nat} {f : Nat → Nat → AVal} (hl : lkH hin (0, 0) = some (.arr 1 S f)) (ht : tyH hin (0, 0) = some T)
    (hS : Tryz.prog.cellsOf T = S) (hoff : off < S) (hlies : liesAt Tryz.prog Tryz.prog.depth T 1 off 68 1 = true) (hf : f 0 off = .nilp ∨ f 0 off = .ptr (0, 0) 0 off) :
    FC Tryz.prog 80 [.ptr (0, 0) 0 off] hin nin (fun _ : Unit => True) (fun _ => .tup 0 (fun _ => .any)) (fun _ => setH hin (0, 0) (.arr 1 S (selfF f off))) (fun _ => nin) :=
  copyCheck_c bld240 bldX.toX72 hl ht hS hoff hlies hf
/-- String. -/
theorem stringB {hin : Heap} {nin : Nat} {S off N : Nat} {f g : Nat → Nat → AVal} {id : Lift.Id} {l : List UInt8} (hl : lkH hin (0, 0) = some (.arr 1 S f)) (hoff : off + 1 < S)
    (hf : f 0 (off + 1) = .sl id 0 l.length) (hl1 : lkH hin id = some (.arr N 1 g)) (ht1 : tyH hin id = some 5) (hN : l.length ≤ N) (h0 : l ≠ []) (hg : ∀ i, i < l.length → g i 0 = .int .u8 (l.getD i 0).toNat) (h63 : l.length ≤ 9223372036854775807) :
    FC Tryz.prog 36 [.ptr (0, 0) 0 off] hin nin (fun _ : Unit => True) (fun _ => .str l) (fun _ => delH hin id) (fun _ => nin) :=
  string_c bld169 bldX hl hoff hf hl1 ht1 hN h0 hg h63
/-- String of a builder to which nothing was written. -/
theorem stringNilB {hin : Heap} {nin : Nat} {S off : Nat} {f : Nat → Nat → AVal} (hl : lkH hin (0, 0) = some (.arr 1 S f)) (hoff : off + 1 < S) (hf : f 0 (off + 1) = .nils) :
    FC Tryz.prog 36 [.ptr (0, 0) 0 off] hin nin (fun _ : Unit => True) (fun _ => .str []) (fun _ => hin) (fun _ => nin) :=
  string_nil_c bld169 bldX hl hoff hf
end Go.Proofs.YtdojahjhijkbhaaGreatDoor
