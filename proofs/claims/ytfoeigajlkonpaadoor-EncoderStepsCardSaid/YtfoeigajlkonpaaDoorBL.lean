/-
  strings.Builder at this program: the shelf's contracts laid, then as contracts of the abstract layer. Printed by tools/mkbld.py.
-/
import Derived.Test.YtfoeigajlkonpaaDoorProg
import Derived.Test.YtfoeigajlkonpaaDoorLBD
import Derived.Test.YtfoeigajlkonpaaDoorLT
import Derived.KernelRfl
namespace Go.Proofs.YtfoeigajlkonpaaDoor
set_option linter.unusedVariables false
open Go Go.Proofs Go.Lift
def bldRen : Go.Shelf.Ren := ⟨fun | 169 => 32 | 240 => 60 | 276 => 74 | n => n, fun | 0 => 0 | 3 => 3 | 4 => 4 | 5 => 5 | 9 => 9 | 20 => 20 | 37 => 25 | 70 => 66 | 72 => 68 | 127 => 99 | 164 => 114 | n => n, fun n => n⟩
theorem bld240 : Go.Proofs.Lays.n240 Tryd.prog bldRen := {
  mixed := by kernel_rfl,
  f240 := Tryd.func60.trans (congrArg some (by kernel_rfl)),
  f276 := Tryd.func74.trans (congrArg some (by kernel_rfl)),
  t0 := Tryd.underlying0,
  a0 := Tryd.isAgg0,
  z0 := Tryd.sizeOf0,
  v0 := Tryd.zeroValue0,
  t4 := Tryd.underlying4,
  a4 := Tryd.isAgg4,
  z4 := Tryd.sizeOf4,
  v4 := Tryd.zeroValue4,
  t9 := Tryd.underlying9,
  a9 := Tryd.isAgg9,
  z9 := Tryd.sizeOf9,
  v9 := Tryd.zeroValue9,
  t20 := Tryd.underlying20,
  a20 := Tryd.isAgg20,
  z20 := Tryd.sizeOf20,
  v20 := Tryd.zeroValue20,
  t70 := Tryd.underlying66,
  a70 := Tryd.isAgg66,
  z70 := Tryd.sizeOf66,
  v70 := Tryd.zeroValue66,
  t72 := Tryd.underlying68,
  a72 := Tryd.isAgg68,
  z72 := Tryd.sizeOf68,
  v72 := Tryd.zeroValue68,
  t164 := Tryd.underlying114,
  a164 := Tryd.isAgg114,
  z164 := Tryd.sizeOf114,
  v164 := Tryd.zeroValue114 }
theorem bld169 : Go.Proofs.Lays.n169 Tryd.prog bldRen := {
  mixed := by kernel_rfl,
  f169 := Tryd.func32.trans (congrArg some (by kernel_rfl)),
  t0 := Tryd.underlying0,
  a0 := Tryd.isAgg0,
  z0 := Tryd.sizeOf0,
  v0 := Tryd.zeroValue0,
  t3 := Tryd.underlying3,
  a3 := Tryd.isAgg3,
  z3 := Tryd.sizeOf3,
  v3 := Tryd.zeroValue3,
  t9 := Tryd.underlying9,
  a9 := Tryd.isAgg9,
  z9 := Tryd.sizeOf9,
  v9 := Tryd.zeroValue9,
  t37 := Tryd.underlying25,
  a37 := Tryd.isAgg25,
  z37 := Tryd.sizeOf25,
  v37 := Tryd.zeroValue25,
  t70 := Tryd.underlying66,
  a70 := Tryd.isAgg66,
  z70 := Tryd.sizeOf66,
  v70 := Tryd.zeroValue66,
  t72 := Tryd.underlying68,
  a72 := Tryd.isAgg68,
  z72 := Tryd.sizeOf68,
  v72 := Tryd.zeroValue68,
  t127 := Tryd.underlying99,
  a127 := Tryd.isAgg99,
  z127 := Tryd.sizeOf99,
  v127 := Tryd.zeroValue99 }
theorem bldX : Builder.Extra Tryd.prog bldRen := {
  sizeBuilder := by kernel_rfl,
  liesBuilder := by kernel_rfl,
  t5 := Tryd.underlying5,
  a5 := Tryd.isAgg5,
  z5 := Tryd.sizeOf5,
  v5 := Tryd.zeroValue5,
  infoByte := by kernel_rfl,
  cellsByte := by kernel_rfl,
  sizeByte := by kernel_rfl,
  neB5 := by decide }

/-- copyCheck. -/
theorem copyCheckB {hin : Heap} {nin : Nat} {T : TypeId} {S off : Nat} {f : Nat → Nat → AVal} (hl : lkH hin (0, 0) = some (.arr 1 S f)) (ht : tyH hin (0, 0) = some T)
    (hS : Tryd.prog.cellsOf T = S) (hoff : off < S) (hlies : liesAt Tryd.prog Tryd.prog.depth T 1 off 68 1 = true) (hf : f 0 off = .nilp ∨ f 0 off = .ptr (0, 0) 0 off) :
    FC Tryd.prog 60 [.ptr (0, 0) 0 off] hin nin (fun _ : Unit => True) (fun _ => .tup 0 (fun _ => .any)) (fun _ => setH hin (0, 0) (.arr 1 S (selfF f off))) (fun _ => nin) :=
  copyCheck_c bld240 bldX.toX72 hl ht hS hoff hlies hf
/-- String. -/
theorem stringB {hin : Heap} {nin : Nat} {S off N : Nat} {f g : Nat → Nat → AVal} {id : Lift.Id} {l : List UInt8} (hl : lkH hin (0, 0) = some (.arr 1 S f)) (hoff : off + 1 < S)
    (hf : f 0 (off + 1) = .sl id 0 l.length) (hl1 : lkH hin id = some (.arr N 1 g)) (ht1 : tyH hin id = some 5) (hN : l.length ≤ N) (h0 : l ≠ []) (hg : ∀ i, i < l.length → g i 0 = .int .u8 (l.getD i 0).toNat) (h63 : l.length ≤ 9223372036854775807) :
    FC Tryd.prog 32 [.ptr (0, 0) 0 off] hin nin (fun _ : Unit => True) (fun _ => .str l) (fun _ => delH hin id) (fun _ => nin) :=
  string_c bld169 bldX hl hoff hf hl1 ht1 hN h0 hg h63
/-- String of a builder to which nothing was written. -/
theorem stringNilB {hin : Heap} {nin : Nat} {S off : Nat} {f : Nat → Nat → AVal} (hl : lkH hin (0, 0) = some (.arr 1 S f)) (hoff : off + 1 < S) (hf : f 0 (off + 1) = .nils) :
    FC Tryd.prog 32 [.ptr (0, 0) 0 off] hin nin (fun _ : Unit => True) (fun _ => .str []) (fun _ => hin) (fun _ => nin) :=
  string_nil_c bld169 bldX hl hoff hf
end Go.Proofs.YtfoeigajlkonpaaDoor
