/-
  strings.Builder at this program: the shelf's contracts laid, then as contracts of the abstract layer. Printed by tools/mkbld.py.
-/
import Derived.Test.YtmdnpbilnelogaaProg
import Derived.Test.YtmdnpbilnelogaaLBD
import Derived.Test.YtmdnpbilnelogaaLT
import Derived.KernelRfl
namespace Go.Proofs.Ytmdnpbilnelogaa
set_option linter.unusedVariables false
open Go Go.Proofs Go.Lift
def bldRen : Go.Shelf.Ren := ⟨fun | 169 => 55 | 240 => 80 | 276 => 86 | n => n, fun | 0 => 0 | 3 => 3 | 4 => 4 | 5 => 5 | 9 => 9 | 20 => 20 | 37 => 58 | 70 => 87 | 72 => 89 | 127 => 107 | 164 => 125 | n => n, fun n => n⟩
theorem bld240 : Go.Proofs.Lays.n240 Try.prog bldRen := {
  mixed := by kernel_rfl,
  f240 := Try.func80.trans (congrArg some (by kernel_rfl)),
  f276 := Try.func86.trans (congrArg some (by kernel_rfl)),
  t0 := Try.underlying0,
  a0 := Try.isAgg0,
  z0 := Try.sizeOf0,
  v0 := Try.zeroValue0,
  t4 := Try.underlying4,
  a4 := Try.isAgg4,
  z4 := Try.sizeOf4,
  v4 := Try.zeroValue4,
  t9 := Try.underlying9,
  a9 := Try.isAgg9,
  z9 := Try.sizeOf9,
  v9 := Try.zeroValue9,
  t20 := Try.underlying20,
  a20 := Try.isAgg20,
  z20 := Try.sizeOf20,
  v20 := Try.zeroValue20,
  t70 := Try.underlying87,
  a70 := Try.isAgg87,
  z70 := Try.sizeOf87,
  v70 := Try.zeroValue87,
  t72 := Try.underlying89,
  a72 := Try.isAgg89,
  z72 := Try.sizeOf89,
  v72 := Try.zeroValue89,
  t164 := Try.underlying125,
  a164 := Try.isAgg125,
  z164 := Try.sizeOf125,
  v164 := Try.zeroValue125 }
theorem bld169 : Go.Proofs.Lays.n169 Try.prog bldRen := {
  mixed := by kernel_rfl,
  f169 := Try.func55.trans (congrArg some (by kernel_rfl)),
  t0 := Try.underlying0,
  a0 := Try.isAgg0,
  z0 := Try.sizeOf0,
  v0 := Try.zeroValue0,
  t3 := Try.underlying3,
  a3 := Try.isAgg3,
  z3 := Try.sizeOf3,
  v3 := Try.zeroValue3,
  t9 := Try.underlying9,
  a9 := Try.isAgg9,
  z9 := Try.sizeOf9,
  v9 := Try.zeroValue9,
  t37 := Try.underlying58,
  a37 := Try.isAgg58,
  z37 := Try.sizeOf58,
  v37 := Try.zeroValue58,
  t70 := Try.underlying87,
  a70 := Try.isAgg87,
  z70 := Try.sizeOf87,
  v70 := Try.zeroValue87,
  t72 := Try.underlying89,
  a72 := Try.isAgg89,
  z72 := Try.sizeOf89,
  v72 := Try.zeroValue89,
  t127 := Try.underlying107,
  a127 := Try.isAgg107,
  z127 := Try.sizeOf107,
  v127 := Try.zeroValue107 }
theorem bldX : Builder.Extra Try.prog bldRen := {
  sizeBuilder := by kernel_rfl,
  liesBuilder := by kernel_rfl,
  t5 := Try.underlying5,
  a5 := Try.isAgg5,
  z5 := Try.sizeOf5,
  v5 := Try.zeroValue5,
  infoByte := by kernel_rfl,
  cellsByte := by kernel_rfl,
  sizeByte := by kernel_rfl,
  neB5 := by decide }

/-- copyCheck. -/
theorem copyCheckB {hin : Heap} {nin : Nat} {T : TypeId} {S off : Nat} {f : Nat → Nat → AVal} (hl : lkH hin (0, 0) = some (.arr 1 S f)) (ht : tyH hin (0, 0) = some T)
    (hS : Try.prog.cellsOf T = S) (hoff : off < S) (hlies : liesAt Try.prog Try.prog.depth T 1 off 89 1 = true) (hf : f 0 off = .nilp ∨ f 0 off = .ptr (0, 0) 0 off) :
    FC Try.prog 80 [.ptr (0, 0) 0 off] hin nin (fun _ : Unit => True) (fun _ => .tup 0 (fun _ => .any)) (fun _ => setH hin (0, 0) (.arr 1 S (selfF f off))) (fun _ => nin) :=
  copyCheck_c bld240 bldX.toX72 hl ht hS hoff hlies hf
/-- String. -/
theorem stringB {hin : Heap} {nin : Nat} {S off N : Nat} {f g : Nat → Nat → AVal} {id : Lift.Id} {l : List UInt8} (hl : lkH hin (0, 0) = some (.arr 1 S f)) (hoff : off + 1 < S)
    (hf : f 0 (off + 1) = .sl id 0 l.length) (hl1 : lkH hin id = some (.arr N 1 g)) (ht1 : tyH hin id = some 5) (hN : l.length ≤ N) (h0 : l ≠ []) (hg : ∀ i, i < l.length → g i 0 = .int .u8 (l.getD i 0).toNat) (h63 : l.length ≤ 9223372036854775807) :
    FC Try.prog 55 [.ptr (0, 0) 0 off] hin nin (fun _ : Unit => True) (fun _ => .str l) (fun _ => delH hin id) (fun _ => nin) :=
  string_c bld169 bldX hl hoff hf hl1 ht1 hN h0 hg h63
/-- String of a builder to which nothing was written. -/
theorem stringNilB {hin : Heap} {nin : Nat} {S off : Nat} {f : Nat → Nat → AVal} (hl : lkH hin (0, 0) = some (.arr 1 S f)) (hoff : off + 1 < S) (hf : f 0 (off + 1) = .nils) :
    FC Try.prog 55 [.ptr (0, 0) 0 off] hin nin (fun _ : Unit => True) (fun _ => .str []) (fun _ => hin) (fun _ => nin) :=
  string_nil_c bld169 bldX hl hoff hf
end Go.Proofs.Ytmdnpbilnelogaa
