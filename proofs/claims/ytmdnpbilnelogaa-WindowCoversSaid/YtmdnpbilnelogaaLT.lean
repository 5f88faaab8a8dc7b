/-
  The table of the types of this seat, checked by the kernel.
-/
import Derived.Test.YtmdnpbilnelogaaLM
import Derived.Test.YtmdnpbilnelogaaProg
import Derived.KernelRfl
namespace Go.Proofs.Ytmdnpbilnelogaa
open Go.Lift Go.Proofs

def tbl : List TE := [
  ⟨1, .func, 1, 8, [.nilfn], false⟩,
  ⟨2, .int .i64, 1, 8, [.int .i64 0], false⟩,
  ⟨3, .int .i64, 1, 8, [.int .i64 0], false⟩,
  ⟨4, .bool, 1, 1, [.bool false], false⟩,
  ⟨5, .int .u8, 1, 1, [.int .u8 0], false⟩,
  ⟨6, .int .u8, 1, 1, [.int .u8 0], false⟩,
  ⟨7, .struct [(0, 2), (1, 3), (2, 4), (3, 6)], 4, 24, [.int .i64 0, .int .i64 0, .bool false, .int .u8 0], false⟩,
  ⟨8, .struct [(0, 2), (1, 3), (2, 4), (3, 6)], 4, 24, [.int .i64 0, .int .i64 0, .bool false, .int .u8 0], false⟩,
  ⟨9, .str, 1, 16, [.str []], false⟩,
  ⟨10, .str, 1, 16, [.str []], false⟩,
  ⟨11, .str, 1, 16, [.str []], false⟩,
  ⟨12, .int .u64, 1, 8, [.int .u64 0], false⟩,
  ⟨13, .struct [(0, 9), (1, 12)], 2, 24, [.str [], .int .u64 0], false⟩,
  ⟨14, .struct [(0, 9), (1, 12)], 2, 24, [.str [], .int .u64 0], false⟩,
  ⟨15, .ptr 131, 1, 8, [.nilp], false⟩,
  ⟨16, .ptr 134, 1, 8, [.nilp], false⟩,
  ⟨17, .ptr 142, 1, 8, [.nilp], false⟩,
  ⟨18, .struct [(0, 17)], 1, 8, [.nilp], false⟩,
  ⟨19, .struct [(0, 17)], 1, 8, [.nilp], false⟩,
  ⟨21, .int .i32, 1, 4, [.int .i32 0], false⟩,
  ⟨22, .slice 67, 1, 24, [.nils], false⟩,
  ⟨23, .struct [(0, 3), (1, 3), (2, 3), (3, 22)], 4, 48, [.int .i64 0, .int .i64 0, .int .i64 0, .nils], false⟩,
  ⟨24, .struct [(0, 3), (1, 3), (2, 3), (3, 22)], 4, 48, [.int .i64 0, .int .i64 0, .int .i64 0, .nils], false⟩,
  ⟨25, .func, 1, 8, [.nilfn], false⟩,
  ⟨26, .func, 1, 8, [.nilfn], false⟩,
  ⟨27, .slice 55, 1, 24, [.nils], false⟩,
  ⟨28, .struct [(0, 3), (1, 3), (2, 3), (3, 3), (4, 3), (5, 27)], 6, 64, [.int .i64 0, .int .i64 0, .int .i64 0, .int .i64 0, .int .i64 0, .nils], false⟩,
  ⟨29, .struct [(0, 3), (1, 3), (2, 3), (3, 3), (4, 3), (5, 27)], 6, 64, [.int .i64 0, .int .i64 0, .int .i64 0, .int .i64 0, .int .i64 0, .nils], false⟩,
  ⟨30, .int .i64, 1, 8, [.int .i64 0], false⟩,
  ⟨32, .func, 1, 8, [.nilfn], false⟩,
  ⟨33, .func, 1, 8, [.nilfn], false⟩,
  ⟨34, .func, 1, 8, [.nilfn], false⟩,
  ⟨35, .func, 1, 8, [.nilfn], false⟩,
  ⟨36, .func, 1, 8, [.nilfn], false⟩,
  ⟨37, .func, 1, 8, [.nilfn], false⟩,
  ⟨38, .func, 1, 8, [.nilfn], false⟩,
  ⟨39, .slice 3, 1, 24, [.nils], false⟩,
  ⟨41, .func, 1, 8, [.nilfn], false⟩,
  ⟨42, .func, 1, 8, [.nilfn], false⟩,
  ⟨44, .func, 1, 8, [.nilfn], false⟩,
  ⟨45, .func, 1, 8, [.nilfn], false⟩,
  ⟨46, .func, 1, 8, [.nilfn], false⟩,
  ⟨47, .func, 1, 8, [.nilfn], false⟩,
  ⟨48, .func, 1, 8, [.nilfn], false⟩,
  ⟨49, .func, 1, 8, [.nilfn], false⟩,
  ⟨51, .func, 1, 8, [.nilfn], false⟩,
  ⟨52, .func, 1, 8, [.nilfn], false⟩,
  ⟨53, .func, 1, 8, [.nilfn], false⟩,
  ⟨54, .struct [(0, 9), (1, 3)], 2, 24, [.str [], .int .i64 0], false⟩,
  ⟨55, .struct [(0, 9), (1, 3)], 2, 24, [.str [], .int .i64 0], true⟩,
  ⟨56, .func, 1, 8, [.nilfn], false⟩,
  ⟨57, .func, 1, 8, [.nilfn], false⟩,
  ⟨58, .slice 5, 1, 24, [.nils], false⟩,
  ⟨60, .func, 1, 8, [.nilfn], false⟩,
  ⟨62, .func, 1, 8, [.nilfn], false⟩,
  ⟨63, .func, 1, 8, [.nilfn], false⟩,
  ⟨64, .func, 1, 8, [.nilfn], false⟩,
  ⟨65, .struct [(0, 3), (1, 9)], 2, 24, [.int .i64 0, .str []], false⟩,
  ⟨66, .struct [(0, 3), (1, 9)], 2, 24, [.int .i64 0, .str []], true⟩,
  ⟨67, .slice 66, 1, 24, [.nils], false⟩,
  ⟨68, .func, 1, 8, [.nilfn], false⟩,
  ⟨69, .func, 1, 8, [.nilfn], false⟩,
  ⟨70, .map 9 3, 1, 8, [.nilmap], false⟩,
  ⟨71, .func, 1, 8, [.nilfn], false⟩,
  ⟨72, .func, 1, 8, [.nilfn], false⟩,
  ⟨73, .func, 1, 8, [.nilfn], false⟩,
  ⟨75, .func, 1, 8, [.nilfn], false⟩,
  ⟨76, .func, 1, 8, [.nilfn], false⟩,
  ⟨77, .func, 1, 8, [.nilfn], false⟩,
  ⟨78, .func, 1, 8, [.nilfn], false⟩,
  ⟨79, .func, 1, 8, [.nilfn], false⟩,
  ⟨80, .func, 1, 8, [.nilfn], false⟩,
  ⟨81, .func, 1, 8, [.nilfn], false⟩,
  ⟨82, .func, 1, 8, [.nilfn], false⟩,
  ⟨83, .func, 1, 8, [.nilfn], false⟩,
  ⟨84, .func, 1, 8, [.nilfn], false⟩,
  ⟨85, .func, 1, 8, [.nilfn], false⟩,
  ⟨86, .ptr 91, 1, 8, [.nilp], false⟩,
  ⟨87, .ptr 89, 1, 8, [.nilp], false⟩,
  ⟨88, .struct [(0, 87), (1, 58)], 2, 32, [.nilp, .nils], false⟩,
  ⟨89, .struct [(0, 87), (1, 58)], 2, 32, [.nilp, .nils], false⟩,
  ⟨90, .struct [(0, 24), (4, 3), (5, 89)], 7, 88, [.int .i64 0, .int .i64 0, .int .i64 0, .nils, .int .i64 0, .nilp, .nils], false⟩,
  ⟨91, .struct [(0, 24), (4, 3), (5, 89)], 7, 88, [.int .i64 0, .int .i64 0, .int .i64 0, .nils, .int .i64 0, .nilp, .nils], true⟩,
  ⟨92, .func, 1, 8, [.nilfn], false⟩,
  ⟨93, .func, 1, 8, [.nilfn], false⟩,
  ⟨94, .func, 1, 8, [.nilfn], false⟩,
  ⟨95, .func, 1, 8, [.nilfn], false⟩,
  ⟨96, .func, 1, 8, [.nilfn], false⟩,
  ⟨97, .func, 1, 8, [.nilfn], false⟩,
  ⟨98, .int .u64, 1, 8, [.int .u64 0], false⟩,
  ⟨99, .func, 1, 8, [.nilfn], false⟩,
  ⟨100, .func, 1, 8, [.nilfn], false⟩,
  ⟨101, .func, 1, 8, [.nilfn], false⟩,
  ⟨102, .func, 1, 8, [.nilfn], false⟩,
  ⟨106, .func, 1, 8, [.nilfn], false⟩,
  ⟨107, .ptr 5, 1, 8, [.nilp], false⟩,
  ⟨108, .func, 1, 8, [.nilfn], false⟩,
  ⟨109, .int .i64, 1, 8, [.int .i64 0], false⟩,
  ⟨111, .func, 1, 8, [.nilfn], false⟩,
  ⟨112, .func, 1, 8, [.nilfn], false⟩,
  ⟨113, .func, 1, 8, [.nilfn], false⟩,
  ⟨114, .func, 1, 8, [.nilfn], false⟩,
  ⟨115, .func, 1, 8, [.nilfn], false⟩,
  ⟨116, .int .u32, 1, 4, [.int .u32 0], false⟩,
  ⟨117, .func, 1, 8, [.nilfn], false⟩,
  ⟨118, .int .u64, 1, 8, [.int .u64 0], false⟩,
  ⟨119, .int .u64, 1, 8, [.int .u64 0], false⟩,
  ⟨120, .func, 1, 8, [.nilfn], false⟩,
  ⟨121, .func, 1, 8, [.nilfn], false⟩,
  ⟨122, .func, 1, 8, [.nilfn], false⟩,
  ⟨123, .ptr 3, 1, 8, [.nilp], false⟩,
  ⟨124, .func, 1, 8, [.nilfn], false⟩,
  ⟨126, .func, 1, 8, [.nilfn], false⟩,
  ⟨127, .ptr 119, 1, 8, [.nilp], false⟩,
  ⟨129, .func, 1, 8, [.nilfn], false⟩,
  ⟨130, .struct [(0, 17), (1, 17), (2, 17), (3, 9)], 4, 40, [.nilp, .nilp, .nilp, .str []], false⟩,
  ⟨131, .struct [(0, 17), (1, 17), (2, 17), (3, 9)], 4, 40, [.nilp, .nilp, .nilp, .str []], false⟩,
  ⟨132, .arr 0 16, 0, 0, [], false⟩,
  ⟨133, .struct [(0, 132)], 0, 0, [], false⟩,
  ⟨134, .struct [(0, 132)], 0, 0, [], false⟩,
  ⟨135, .func, 1, 8, [.nilfn], false⟩,
  ⟨136, .int .u8, 1, 1, [.int .u8 0], false⟩,
  ⟨137, .int .u8, 1, 1, [.int .u8 0], false⟩,
  ⟨138, .func, 1, 8, [.nilfn], false⟩,
  ⟨139, .int .i32, 1, 4, [.int .i32 0], false⟩,
  ⟨140, .int .i32, 1, 4, [.int .i32 0], false⟩,
  ⟨141, .struct [(0, 12), (1, 12), (2, 116), (3, 136), (4, 5), (5, 5), (6, 137), (7, 138), (8, 107), (9, 139), (10, 140)], 11, 48, [.int .u64 0, .int .u64 0, .int .u32 0, .int .u8 0, .int .u8 0, .int .u8 0, .int .u8 0, .nilfn, .nilp, .int .i32 0, .int .i32 0], false⟩,
  ⟨142, .struct [(0, 12), (1, 12), (2, 116), (3, 136), (4, 5), (5, 5), (6, 137), (7, 138), (8, 107), (9, 139), (10, 140)], 11, 48, [.int .u64 0, .int .u64 0, .int .u32 0, .int .u8 0, .int .u8 0, .int .u8 0, .int .u8 0, .nilfn, .nilp, .int .i32 0, .int .i32 0], false⟩]

def T : Tab := tabOf tbl
theorem tbl_ok : tbl.all (teOK Try.prog) = true := by kernel_rfl
theorem T_ok : TabOK Try.prog T := tabOf_ok tbl_ok
@[simp] theorem T1 : T 1 = some ⟨.func, 1, 8, fun m => [.nilfn].getD m .any, false⟩ := rfl
@[simp] theorem T2 : T 2 = some ⟨.int .i64, 1, 8, fun m => [.int .i64 0].getD m .any, false⟩ := rfl
@[simp] theorem T3 : T 3 = some ⟨.int .i64, 1, 8, fun m => [.int .i64 0].getD m .any, false⟩ := rfl
@[simp] theorem T4 : T 4 = some ⟨.bool, 1, 1, fun m => [.bool false].getD m .any, false⟩ := rfl
@[simp] theorem T5 : T 5 = some ⟨.int .u8, 1, 1, fun m => [.int .u8 0].getD m .any, false⟩ := rfl
@[simp] theorem T6 : T 6 = some ⟨.int .u8, 1, 1, fun m => [.int .u8 0].getD m .any, false⟩ := rfl
@[simp] theorem T7 : T 7 = some ⟨.struct [(0, 2), (1, 3), (2, 4), (3, 6)], 4, 24, fun m => [.int .i64 0, .int .i64 0, .bool false, .int .u8 0].getD m .any, false⟩ := rfl
@[simp] theorem T8 : T 8 = some ⟨.struct [(0, 2), (1, 3), (2, 4), (3, 6)], 4, 24, fun m => [.int .i64 0, .int .i64 0, .bool false, .int .u8 0].getD m .any, false⟩ := rfl
@[simp] theorem T9 : T 9 = some ⟨.str, 1, 16, fun m => [.str []].getD m .any, false⟩ := rfl
@[simp] theorem T10 : T 10 = some ⟨.str, 1, 16, fun m => [.str []].getD m .any, false⟩ := rfl
@[simp] theorem T11 : T 11 = some ⟨.str, 1, 16, fun m => [.str []].getD m .any, false⟩ := rfl
@[simp] theorem T12 : T 12 = some ⟨.int .u64, 1, 8, fun m => [.int .u64 0].getD m .any, false⟩ := rfl
@[simp] theorem T13 : T 13 = some ⟨.struct [(0, 9), (1, 12)], 2, 24, fun m => [.str [], .int .u64 0].getD m .any, false⟩ := rfl
@[simp] theorem T14 : T 14 = some ⟨.struct [(0, 9), (1, 12)], 2, 24, fun m => [.str [], .int .u64 0].getD m .any, false⟩ := rfl
@[simp] theorem T15 : T 15 = some ⟨.ptr 131, 1, 8, fun m => [.nilp].getD m .any, false⟩ := rfl
@[simp] theorem T16 : T 16 = some ⟨.ptr 134, 1, 8, fun m => [.nilp].getD m .any, false⟩ := rfl
@[simp] theorem T17 : T 17 = some ⟨.ptr 142, 1, 8, fun m => [.nilp].getD m .any, false⟩ := rfl
@[simp] theorem T18 : T 18 = some ⟨.struct [(0, 17)], 1, 8, fun m => [.nilp].getD m .any, false⟩ := rfl
@[simp] theorem T19 : T 19 = some ⟨.struct [(0, 17)], 1, 8, fun m => [.nilp].getD m .any, false⟩ := rfl
@[simp] theorem T21 : T 21 = some ⟨.int .i32, 1, 4, fun m => [.int .i32 0].getD m .any, false⟩ := rfl
@[simp] theorem T22 : T 22 = some ⟨.slice 67, 1, 24, fun m => [.nils].getD m .any, false⟩ := rfl
@[simp] theorem T23 : T 23 = some ⟨.struct [(0, 3), (1, 3), (2, 3), (3, 22)], 4, 48, fun m => [.int .i64 0, .int .i64 0, .int .i64 0, .nils].getD m .any, false⟩ := rfl
@[simp] theorem T24 : T 24 = some ⟨.struct [(0, 3), (1, 3), (2, 3), (3, 22)], 4, 48, fun m => [.int .i64 0, .int .i64 0, .int .i64 0, .nils].getD m .any, false⟩ := rfl
@[simp] theorem T25 : T 25 = some ⟨.func, 1, 8, fun m => [.nilfn].getD m .any, false⟩ := rfl
@[simp] theorem T26 : T 26 = some ⟨.func, 1, 8, fun m => [.nilfn].getD m .any, false⟩ := rfl
@[simp] theorem T27 : T 27 = some ⟨.slice 55, 1, 24, fun m => [.nils].getD m .any, false⟩ := rfl
@[simp] theorem T28 : T 28 = some ⟨.struct [(0, 3), (1, 3), (2, 3), (3, 3), (4, 3), (5, 27)], 6, 64, fun m => [.int .i64 0, .int .i64 0, .int .i64 0, .int .i64 0, .int .i64 0, .nils].getD m .any, false⟩ := rfl
@[simp] theorem T29 : T 29 = some ⟨.struct [(0, 3), (1, 3), (2, 3), (3, 3), (4, 3), (5, 27)], 6, 64, fun m => [.int .i64 0, .int .i64 0, .int .i64 0, .int .i64 0, .int .i64 0, .nils].getD m .any, false⟩ := rfl
@[simp] theorem T30 : T 30 = some ⟨.int .i64, 1, 8, fun m => [.int .i64 0].getD m .any, false⟩ := rfl
@[simp] theorem T32 : T 32 = some ⟨.func, 1, 8, fun m => [.nilfn].getD m .any, false⟩ := rfl
@[simp] theorem T33 : T 33 = some ⟨.func, 1, 8, fun m => [.nilfn].getD m .any, false⟩ := rfl
@[simp] theorem T34 : T 34 = some ⟨.func, 1, 8, fun m => [.nilfn].getD m .any, false⟩ := rfl
@[simp] theorem T35 : T 35 = some ⟨.func, 1, 8, fun m => [.nilfn].getD m .any, false⟩ := rfl
@[simp] theorem T36 : T 36 = some ⟨.func, 1, 8, fun m => [.nilfn].getD m .any, false⟩ := rfl
@[simp] theorem T37 : T 37 = some ⟨.func, 1, 8, fun m => [.nilfn].getD m .any, false⟩ := rfl
@[simp] theorem T38 : T 38 = some ⟨.func, 1, 8, fun m => [.nilfn].getD m .any, false⟩ := rfl
@[simp] theorem T39 : T 39 = some ⟨.slice 3, 1, 24, fun m => [.nils].getD m .any, false⟩ := rfl
@[simp] theorem T41 : T 41 = some ⟨.func, 1, 8, fun m => [.nilfn].getD m .any, false⟩ := rfl
@[simp] theorem T42 : T 42 = some ⟨.func, 1, 8, fun m => [.nilfn].getD m .any, false⟩ := rfl
@[simp] theorem T44 : T 44 = some ⟨.func, 1, 8, fun m => [.nilfn].getD m .any, false⟩ := rfl
@[simp] theorem T45 : T 45 = some ⟨.func, 1, 8, fun m => [.nilfn].getD m .any, false⟩ := rfl
@[simp] theorem T46 : T 46 = some ⟨.func, 1, 8, fun m => [.nilfn].getD m .any, false⟩ := rfl
@[simp] theorem T47 : T 47 = some ⟨.func, 1, 8, fun m => [.nilfn].getD m .any, false⟩ := rfl
@[simp] theorem T48 : T 48 = some ⟨.func, 1, 8, fun m => [.nilfn].getD m .any, false⟩ := rfl
@[simp] theorem T49 : T 49 = some ⟨.func, 1, 8, fun m => [.nilfn].getD m .any, false⟩ := rfl
@[simp] theorem T51 : T 51 = some ⟨.func, 1, 8, fun m => [.nilfn].getD m .any, false⟩ := rfl
@[simp] theorem T52 : T 52 = some ⟨.func, 1, 8, fun m => [.nilfn].getD m .any, false⟩ := rfl
@[simp] theorem T53 : T 53 = some ⟨.func, 1, 8, fun m => [.nilfn].getD m .any, false⟩ := rfl
@[simp] theorem T54 : T 54 = some ⟨.struct [(0, 9), (1, 3)], 2, 24, fun m => [.str [], .int .i64 0].getD m .any, false⟩ := rfl
@[simp] theorem T55 : T 55 = some ⟨.struct [(0, 9), (1, 3)], 2, 24, fun m => [.str [], .int .i64 0].getD m .any, true⟩ := rfl
@[simp] theorem T56 : T 56 = some ⟨.func, 1, 8, fun m => [.nilfn].getD m .any, false⟩ := rfl
@[simp] theorem T57 : T 57 = some ⟨.func, 1, 8, fun m => [.nilfn].getD m .any, false⟩ := rfl
@[simp] theorem T58 : T 58 = some ⟨.slice 5, 1, 24, fun m => [.nils].getD m .any, false⟩ := rfl
@[simp] theorem T60 : T 60 = some ⟨.func, 1, 8, fun m => [.nilfn].getD m .any, false⟩ := rfl
@[simp] theorem T62 : T 62 = some ⟨.func, 1, 8, fun m => [.nilfn].getD m .any, false⟩ := rfl
@[simp] theorem T63 : T 63 = some ⟨.func, 1, 8, fun m => [.nilfn].getD m .any, false⟩ := rfl
@[simp] theorem T64 : T 64 = some ⟨.func, 1, 8, fun m => [.nilfn].getD m .any, false⟩ := rfl
@[simp] theorem T65 : T 65 = some ⟨.struct [(0, 3), (1, 9)], 2, 24, fun m => [.int .i64 0, .str []].getD m .any, false⟩ := rfl
@[simp] theorem T66 : T 66 = some ⟨.struct [(0, 3), (1, 9)], 2, 24, fun m => [.int .i64 0, .str []].getD m .any, true⟩ := rfl
@[simp] theorem T67 : T 67 = some ⟨.slice 66, 1, 24, fun m => [.nils].getD m .any, false⟩ := rfl
@[simp] theorem T68 : T 68 = some ⟨.func, 1, 8, fun m => [.nilfn].getD m .any, false⟩ := rfl
@[simp] theorem T69 : T 69 = some ⟨.func, 1, 8, fun m => [.nilfn].getD m .any, false⟩ := rfl
@[simp] theorem T70 : T 70 = some ⟨.map 9 3, 1, 8, fun m => [.nilmap].getD m .any, false⟩ := rfl
@[simp] theorem T71 : T 71 = some ⟨.func, 1, 8, fun m => [.nilfn].getD m .any, false⟩ := rfl
@[simp] theorem T72 : T 72 = some ⟨.func, 1, 8, fun m => [.nilfn].getD m .any, false⟩ := rfl
@[simp] theorem T73 : T 73 = some ⟨.func, 1, 8, fun m => [.nilfn].getD m .any, false⟩ := rfl
@[simp] theorem T75 : T 75 = some ⟨.func, 1, 8, fun m => [.nilfn].getD m .any, false⟩ := rfl
@[simp] theorem T76 : T 76 = some ⟨.func, 1, 8, fun m => [.nilfn].getD m .any, false⟩ := rfl
@[simp] theorem T77 : T 77 = some ⟨.func, 1, 8, fun m => [.nilfn].getD m .any, false⟩ := rfl
@[simp] theorem T78 : T 78 = some ⟨.func, 1, 8, fun m => [.nilfn].getD m .any, false⟩ := rfl
@[simp] theorem T79 : T 79 = some ⟨.func, 1, 8, fun m => [.nilfn].getD m .any, false⟩ := rfl
@[simp] theorem T80 : T 80 = some ⟨.func, 1, 8, fun m => [.nilfn].getD m .any, false⟩ := rfl
@[simp] theorem T81 : T 81 = some ⟨.func, 1, 8, fun m => [.nilfn].getD m .any, false⟩ := rfl
@[simp] theorem T82 : T 82 = some ⟨.func, 1, 8, fun m => [.nilfn].getD m .any, false⟩ := rfl
@[simp] theorem T83 : T 83 = some ⟨.func, 1, 8, fun m => [.nilfn].getD m .any, false⟩ := rfl
@[simp] theorem T84 : T 84 = some ⟨.func, 1, 8, fun m => [.nilfn].getD m .any, false⟩ := rfl
@[simp] theorem T85 : T 85 = some ⟨.func, 1, 8, fun m => [.nilfn].getD m .any, false⟩ := rfl
@[simp] theorem T86 : T 86 = some ⟨.ptr 91, 1, 8, fun m => [.nilp].getD m .any, false⟩ := rfl
@[simp] theorem T87 : T 87 = some ⟨.ptr 89, 1, 8, fun m => [.nilp].getD m .any, false⟩ := rfl
@[simp] theorem T88 : T 88 = some ⟨.struct [(0, 87), (1, 58)], 2, 32, fun m => [.nilp, .nils].getD m .any, false⟩ := rfl
@[simp] theorem T89 : T 89 = some ⟨.struct [(0, 87), (1, 58)], 2, 32, fun m => [.nilp, .nils].getD m .any, false⟩ := rfl
@[simp] theorem T90 : T 90 = some ⟨.struct [(0, 24), (4, 3), (5, 89)], 7, 88, fun m => [.int .i64 0, .int .i64 0, .int .i64 0, .nils, .int .i64 0, .nilp, .nils].getD m .any, false⟩ := rfl
@[simp] theorem T91 : T 91 = some ⟨.struct [(0, 24), (4, 3), (5, 89)], 7, 88, fun m => [.int .i64 0, .int .i64 0, .int .i64 0, .nils, .int .i64 0, .nilp, .nils].getD m .any, true⟩ := rfl
@[simp] theorem T92 : T 92 = some ⟨.func, 1, 8, fun m => [.nilfn].getD m .any, false⟩ := rfl
@[simp] theorem T93 : T 93 = some ⟨.func, 1, 8, fun m => [.nilfn].getD m .any, false⟩ := rfl
@[simp] theorem T94 : T 94 = some ⟨.func, 1, 8, fun m => [.nilfn].getD m .any, false⟩ := rfl
@[simp] theorem T95 : T 95 = some ⟨.func, 1, 8, fun m => [.nilfn].getD m .any, false⟩ := rfl
@[simp] theorem T96 : T 96 = some ⟨.func, 1, 8, fun m => [.nilfn].getD m .any, false⟩ := rfl
@[simp] theorem T97 : T 97 = some ⟨.func, 1, 8, fun m => [.nilfn].getD m .any, false⟩ := rfl
@[simp] theorem T98 : T 98 = some ⟨.int .u64, 1, 8, fun m => [.int .u64 0].getD m .any, false⟩ := rfl
@[simp] theorem T99 : T 99 = some ⟨.func, 1, 8, fun m => [.nilfn].getD m .any, false⟩ := rfl
@[simp] theorem T100 : T 100 = some ⟨.func, 1, 8, fun m => [.nilfn].getD m .any, false⟩ := rfl
@[simp] theorem T101 : T 101 = some ⟨.func, 1, 8, fun m => [.nilfn].getD m .any, false⟩ := rfl
@[simp] theorem T102 : T 102 = some ⟨.func, 1, 8, fun m => [.nilfn].getD m .any, false⟩ := rfl
@[simp] theorem T106 : T 106 = some ⟨.func, 1, 8, fun m => [.nilfn].getD m .any, false⟩ := rfl
@[simp] theorem T107 : T 107 = some ⟨.ptr 5, 1, 8, fun m => [.nilp].getD m .any, false⟩ := rfl
@[simp] theorem T108 : T 108 = some ⟨.func, 1, 8, fun m => [.nilfn].getD m .any, false⟩ := rfl
@[simp] theorem T109 : T 109 = some ⟨.int .i64, 1, 8, fun m => [.int .i64 0].getD m .any, false⟩ := rfl
@[simp] theorem T111 : T 111 = some ⟨.func, 1, 8, fun m => [.nilfn].getD m .any, false⟩ := rfl
@[simp] theorem T112 : T 112 = some ⟨.func, 1, 8, fun m => [.nilfn].getD m .any, false⟩ := rfl
@[simp] theorem T113 : T 113 = some ⟨.func, 1, 8, fun m => [.nilfn].getD m .any, false⟩ := rfl
@[simp] theorem T114 : T 114 = some ⟨.func, 1, 8, fun m => [.nilfn].getD m .any, false⟩ := rfl
@[simp] theorem T115 : T 115 = some ⟨.func, 1, 8, fun m => [.nilfn].getD m .any, false⟩ := rfl
@[simp] theorem T116 : T 116 = some ⟨.int .u32, 1, 4, fun m => [.int .u32 0].getD m .any, false⟩ := rfl
@[simp] theorem T117 : T 117 = some ⟨.func, 1, 8, fun m => [.nilfn].getD m .any, false⟩ := rfl
@[simp] theorem T118 : T 118 = some ⟨.int .u64, 1, 8, fun m => [.int .u64 0].getD m .any, false⟩ := rfl
@[simp] theorem T119 : T 119 = some ⟨.int .u64, 1, 8, fun m => [.int .u64 0].getD m .any, false⟩ := rfl
@[simp] theorem T120 : T 120 = some ⟨.func, 1, 8, fun m => [.nilfn].getD m .any, false⟩ := rfl
@[simp] theorem T121 : T 121 = some ⟨.func, 1, 8, fun m => [.nilfn].getD m .any, false⟩ := rfl
@[simp] theorem T122 : T 122 = some ⟨.func, 1, 8, fun m => [.nilfn].getD m .any, false⟩ := rfl
@[simp] theorem T123 : T 123 = some ⟨.ptr 3, 1, 8, fun m => [.nilp].getD m .any, false⟩ := rfl
@[simp] theorem T124 : T 124 = some ⟨.func, 1, 8, fun m => [.nilfn].getD m .any, false⟩ := rfl
@[simp] theorem T126 : T 126 = some ⟨.func, 1, 8, fun m => [.nilfn].getD m .any, false⟩ := rfl
@[simp] theorem T127 : T 127 = some ⟨.ptr 119, 1, 8, fun m => [.nilp].getD m .any, false⟩ := rfl
@[simp] theorem T129 : T 129 = some ⟨.func, 1, 8, fun m => [.nilfn].getD m .any, false⟩ := rfl
@[simp] theorem T130 : T 130 = some ⟨.struct [(0, 17), (1, 17), (2, 17), (3, 9)], 4, 40, fun m => [.nilp, .nilp, .nilp, .str []].getD m .any, false⟩ := rfl
@[simp] theorem T131 : T 131 = some ⟨.struct [(0, 17), (1, 17), (2, 17), (3, 9)], 4, 40, fun m => [.nilp, .nilp, .nilp, .str []].getD m .any, false⟩ := rfl
@[simp] theorem T132 : T 132 = some ⟨.arr 0 16, 0, 0, fun m => [].getD m .any, false⟩ := rfl
@[simp] theorem T133 : T 133 = some ⟨.struct [(0, 132)], 0, 0, fun m => [].getD m .any, false⟩ := rfl
@[simp] theorem T134 : T 134 = some ⟨.struct [(0, 132)], 0, 0, fun m => [].getD m .any, false⟩ := rfl
@[simp] theorem T135 : T 135 = some ⟨.func, 1, 8, fun m => [.nilfn].getD m .any, false⟩ := rfl
@[simp] theorem T136 : T 136 = some ⟨.int .u8, 1, 1, fun m => [.int .u8 0].getD m .any, false⟩ := rfl
@[simp] theorem T137 : T 137 = some ⟨.int .u8, 1, 1, fun m => [.int .u8 0].getD m .any, false⟩ := rfl
@[simp] theorem T138 : T 138 = some ⟨.func, 1, 8, fun m => [.nilfn].getD m .any, false⟩ := rfl
@[simp] theorem T139 : T 139 = some ⟨.int .i32, 1, 4, fun m => [.int .i32 0].getD m .any, false⟩ := rfl
@[simp] theorem T140 : T 140 = some ⟨.int .i32, 1, 4, fun m => [.int .i32 0].getD m .any, false⟩ := rfl
@[simp] theorem T141 : T 141 = some ⟨.struct [(0, 12), (1, 12), (2, 116), (3, 136), (4, 5), (5, 5), (6, 137), (7, 138), (8, 107), (9, 139), (10, 140)], 11, 48, fun m => [.int .u64 0, .int .u64 0, .int .u32 0, .int .u8 0, .int .u8 0, .int .u8 0, .int .u8 0, .nilfn, .nilp, .int .i32 0, .int .i32 0].getD m .any, false⟩ := rfl
@[simp] theorem T142 : T 142 = some ⟨.struct [(0, 12), (1, 12), (2, 116), (3, 136), (4, 5), (5, 5), (6, 137), (7, 138), (8, 107), (9, 139), (10, 140)], 11, 48, fun m => [.int .u64 0, .int .u64 0, .int .u32 0, .int .u8 0, .int .u8 0, .int .u8 0, .int .u8 0, .nilfn, .nilp, .int .i32 0, .int .i32 0].getD m .any, false⟩ := rfl
end Go.Proofs.Ytmdnpbilnelogaa
