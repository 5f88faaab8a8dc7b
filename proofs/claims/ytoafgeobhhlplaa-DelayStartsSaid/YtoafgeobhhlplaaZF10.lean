/- Parts of the proof: LT. -/
import Derived.Test.YtoafgeobhhlplaaProg
import Derived.KernelRfl
import Derived.Test.YtoafgeobhhlplaaZF05
namespace Go.Proofs.Ytoafgeobhhlplaa
open Go.Lift Go.Proofs
def tbl : List TE := [
  ⟨1, .func, 1, 8, [.nilfn], false⟩,
  ⟨2, .int .i64, 1, 8, [.int .i64 0], false⟩,
  ⟨3, .int .i64, 1, 8, [.int .i64 0], false⟩,
  ⟨4, .bool, 1, 1, [.bool false], false⟩,
  ⟨5, .int .u8, 1, 1, [.int .u8 0], false⟩,
  ⟨6, .int .u8, 1, 1, [.int .u8 0], false⟩,
  ⟨7, .struct [(0, 2), (1, 3), (2, 4), (3, 6)], 4, 24, [.int .i64 0, .int .i64 0, .bool false, .int .u8 0], false⟩,
  ⟨8, .struct [(0, 2), (1, 3), (2, 4), (3, 6)], 4, 24, [.int .i64 0, .int .i64 0, .bool false, .int .u8 0], false⟩,
  ⟨9, .str, 1, 16, [.str []], false⟩,
  ⟨10, .str, 1, 16, [.str []], false⟩,
  ⟨11, .str, 1, 16, [.str []], false⟩,
  ⟨12, .int .u64, 1, 8, [.int .u64 0], false⟩,
  ⟨13, .struct [(0, 9), (1, 12)], 2, 24, [.str [], .int .u64 0], false⟩,
  ⟨14, .struct [(0, 9), (1, 12)], 2, 24, [.str [], .int .u64 0], false⟩,
  ⟨15, .ptr 153, 1, 8, [.nilp], false⟩,
  ⟨16, .ptr 156, 1, 8, [.nilp], false⟩,
  ⟨17, .ptr 164, 1, 8, [.nilp], false⟩,
  ⟨18, .struct [(0, 17)], 1, 8, [.nilp], false⟩,
  ⟨19, .struct [(0, 17)], 1, 8, [.nilp], false⟩,
  ⟨21, .int .i32, 1, 4, [.int .i32 0], false⟩,
  ⟨22, .slice 9, 1, 24, [.nils], false⟩,
  ⟨23, .struct [(0, 3), (1, 22)], 2, 32, [.int .i64 0, .nils], false⟩,
  ⟨24, .struct [(0, 3), (1, 22)], 2, 32, [.int .i64 0, .nils], false⟩,
  ⟨25, .func, 1, 8, [.nilfn], false⟩,
  ⟨26, .func, 1, 8, [.nilfn], false⟩,
  ⟨27, .int .i64, 1, 8, [.int .i64 0], false⟩,
  ⟨29, .func, 1, 8, [.nilfn], false⟩,
  ⟨31, .func, 1, 8, [.nilfn], false⟩,
  ⟨33, .func, 1, 8, [.nilfn], false⟩,
  ⟨34, .func, 1, 8, [.nilfn], false⟩,
  ⟨35, .func, 1, 8, [.nilfn], false⟩,
  ⟨36, .slice 3, 1, 24, [.nils], false⟩,
  ⟨38, .func, 1, 8, [.nilfn], false⟩,
  ⟨40, .func, 1, 8, [.nilfn], false⟩,
  ⟨41, .func, 1, 8, [.nilfn], false⟩,
  ⟨43, .func, 1, 8, [.nilfn], false⟩,
  ⟨44, .func, 1, 8, [.nilfn], false⟩,
  ⟨45, .func, 1, 8, [.nilfn], false⟩,
  ⟨46, .func, 1, 8, [.nilfn], false⟩,
  ⟨47, .func, 1, 8, [.nilfn], false⟩,
  ⟨48, .slice 5, 1, 24, [.nils], false⟩,
  ⟨49, .func, 1, 8, [.nilfn], false⟩,
  ⟨51, .func, 1, 8, [.nilfn], false⟩,
  ⟨52, .func, 1, 8, [.nilfn], false⟩,
  ⟨53, .func, 1, 8, [.nilfn], false⟩,
  ⟨54, .func, 1, 8, [.nilfn], false⟩,
  ⟨55, .func, 1, 8, [.nilfn], false⟩,
  ⟨56, .func, 1, 8, [.nilfn], false⟩,
  ⟨57, .func, 1, 8, [.nilfn], false⟩,
  ⟨58, .func, 1, 8, [.nilfn], false⟩,
  ⟨59, .func, 1, 8, [.nilfn], false⟩,
  ⟨60, .func, 1, 8, [.nilfn], false⟩,
  ⟨61, .map 68 3, 1, 8, [.nilmap], false⟩,
  ⟨62, .struct [(0, 24), (2, 61)], 3, 40, [.int .i64 0, .nils, .nilmap], false⟩,
  ⟨63, .struct [(0, 24), (2, 61)], 3, 40, [.int .i64 0, .nils, .nilmap], false⟩,
  ⟨64, .func, 1, 8, [.nilfn], false⟩,
  ⟨65, .slice 68, 1, 24, [.nils], false⟩,
  ⟨66, .func, 1, 8, [.nilfn], false⟩,
  ⟨67, .struct [(0, 9), (1, 9)], 2, 32, [.str [], .str []], false⟩,
  ⟨68, .struct [(0, 9), (1, 9)], 2, 32, [.str [], .str []], true⟩,
  ⟨69, .func, 1, 8, [.nilfn], false⟩,
  ⟨71, .func, 1, 8, [.nilfn], false⟩,
  ⟨72, .func, 1, 8, [.nilfn], false⟩,
  ⟨73, .func, 1, 8, [.nilfn], false⟩,
  ⟨74, .func, 1, 8, [.nilfn], false⟩,
  ⟨75, .func, 1, 8, [.nilfn], false⟩,
  ⟨76, .func, 1, 8, [.nilfn], false⟩,
  ⟨77, .func, 1, 8, [.nilfn], false⟩,
  ⟨78, .func, 1, 8, [.nilfn], false⟩,
  ⟨79, .func, 1, 8, [.nilfn], false⟩,
  ⟨80, .func, 1, 8, [.nilfn], false⟩,
  ⟨82, .func, 1, 8, [.nilfn], false⟩,
  ⟨83, .func, 1, 8, [.nilfn], false⟩,
  ⟨84, .func, 1, 8, [.nilfn], false⟩,
  ⟨85, .ptr 87, 1, 8, [.nilp], false⟩,
  ⟨86, .struct [(0, 85), (1, 48)], 2, 32, [.nilp, .nils], false⟩,
  ⟨87, .struct [(0, 85), (1, 48)], 2, 32, [.nilp, .nils], false⟩,
  ⟨91, .func, 1, 8, [.nilfn], false⟩,
  ⟨92, .func, 1, 8, [.nilfn], false⟩,
  ⟨93, .func, 1, 8, [.nilfn], false⟩,
  ⟨94, .func, 1, 8, [.nilfn], false⟩,
  ⟨95, .func, 1, 8, [.nilfn], false⟩,
  ⟨96, .func, 1, 8, [.nilfn], false⟩,
  ⟨97, .func, 1, 8, [.nilfn], false⟩,
  ⟨99, .func, 1, 8, [.nilfn], false⟩,
  ⟨100, .map 68 65, 1, 8, [.nilmap], false⟩,
  ⟨101, .func, 1, 8, [.nilfn], false⟩,
  ⟨102, .map 9 4, 1, 8, [.nilmap], false⟩,
  ⟨103, .func, 1, 8, [.nilfn], false⟩,
  ⟨104, .func, 1, 8, [.nilfn], false⟩,
  ⟨105, .func, 1, 8, [.nilfn], false⟩,
  ⟨106, .func, 1, 8, [.nilfn], false⟩,
  ⟨107, .func, 1, 8, [.nilfn], false⟩,
  ⟨108, .map 68 4, 1, 8, [.nilmap], false⟩,
  ⟨109, .func, 1, 8, [.nilfn], false⟩,
  ⟨110, .ptr 5, 1, 8, [.nilp], false⟩,
  ⟨111, .func, 1, 8, [.nilfn], false⟩,
  ⟨112, .func, 1, 8, [.nilfn], false⟩,
  ⟨113, .func, 1, 8, [.nilfn], false⟩,
  ⟨114, .func, 1, 8, [.nilfn], false⟩,
  ⟨115, .map 3 4, 1, 8, [.nilmap], false⟩,
  ⟨117, .slice 4, 1, 24, [.nils], false⟩,
  ⟨119, .func, 1, 8, [.nilfn], false⟩,
  ⟨120, .func, 1, 8, [.nilfn], false⟩,
  ⟨121, .func, 1, 8, [.nilfn], false⟩,
  ⟨122, .func, 1, 8, [.nilfn], false⟩,
  ⟨123, .func, 1, 8, [.nilfn], false⟩,
  ⟨124, .func, 1, 8, [.nilfn], false⟩,
  ⟨125, .func, 1, 8, [.nilfn], false⟩,
  ⟨126, .func, 1, 8, [.nilfn], false⟩,
  ⟨127, .func, 1, 8, [.nilfn], false⟩,
  ⟨128, .func, 1, 8, [.nilfn], false⟩,
  ⟨129, .func, 1, 8, [.nilfn], false⟩,
  ⟨130, .func, 1, 8, [.nilfn], false⟩,
  ⟨131, .int .u64, 1, 8, [.int .u64 0], false⟩,
  ⟨132, .func, 1, 8, [.nilfn], false⟩,
  ⟨133, .int .i64, 1, 8, [.int .i64 0], false⟩,
  ⟨135, .func, 1, 8, [.nilfn], false⟩,
  ⟨136, .func, 1, 8, [.nilfn], false⟩,
  ⟨137, .func, 1, 8, [.nilfn], false⟩,
  ⟨138, .func, 1, 8, [.nilfn], false⟩,
  ⟨139, .func, 1, 8, [.nilfn], false⟩,
  ⟨140, .int .u32, 1, 4, [.int .u32 0], false⟩,
  ⟨141, .func, 1, 8, [.nilfn], false⟩,
  ⟨142, .int .u64, 1, 8, [.int .u64 0], false⟩,
  ⟨143, .int .u64, 1, 8, [.int .u64 0], false⟩,
  ⟨144, .func, 1, 8, [.nilfn], false⟩,
  ⟨145, .func, 1, 8, [.nilfn], false⟩,
  ⟨146, .func, 1, 8, [.nilfn], false⟩,
  ⟨147, .ptr 3, 1, 8, [.nilp], false⟩,
  ⟨148, .func, 1, 8, [.nilfn], false⟩,
  ⟨149, .ptr 143, 1, 8, [.nilp], false⟩,
  ⟨151, .func, 1, 8, [.nilfn], false⟩,
  ⟨152, .struct [(0, 17), (1, 17), (2, 17), (3, 9)], 4, 40, [.nilp, .nilp, .nilp, .str []], false⟩,
  ⟨153, .struct [(0, 17), (1, 17), (2, 17), (3, 9)], 4, 40, [.nilp, .nilp, .nilp, .str []], false⟩,
  ⟨154, .arr 0 16, 0, 0, [], false⟩,
  ⟨155, .struct [(0, 154)], 0, 0, [], false⟩,
  ⟨156, .struct [(0, 154)], 0, 0, [], false⟩,
  ⟨157, .func, 1, 8, [.nilfn], false⟩,
  ⟨158, .int .u8, 1, 1, [.int .u8 0], false⟩,
  ⟨159, .int .u8, 1, 1, [.int .u8 0], false⟩,
  ⟨160, .func, 1, 8, [.nilfn], false⟩,
  ⟨161, .int .i32, 1, 4, [.int .i32 0], false⟩,
  ⟨162, .int .i32, 1, 4, [.int .i32 0], false⟩,
  ⟨163, .struct [(0, 12), (1, 12), (2, 140), (3, 158), (4, 5), (5, 5), (6, 159), (7, 160), (8, 110), (9, 161), (10, 162)], 11, 48, [.int .u64 0, .int .u64 0, .int .u32 0, .int .u8 0, .int .u8 0, .int .u8 0, .int .u8 0, .nilfn, .nilp, .int .i32 0, .int .i32 0], false⟩,
  ⟨164, .struct [(0, 12), (1, 12), (2, 140), (3, 158), (4, 5), (5, 5), (6, 159), (7, 160), (8, 110), (9, 161), (10, 162)], 11, 48, [.int .u64 0, .int .u64 0, .int .u32 0, .int .u8 0, .int .u8 0, .int .u8 0, .int .u8 0, .nilfn, .nilp, .int .i32 0, .int .i32 0], false⟩]
def T : Tab := tabOf tbl
theorem tbl_ok : tbl.all (teOK Try.prog) = true := by kernel_rfl
theorem T_ok : TabOK Try.prog T := tabOf_ok tbl_ok
@[simp] theorem T1 : T 1 = some ⟨.func, 1, 8, fun m => [.nilfn].getD m .any, false⟩ := rfl
@[simp] theorem T2 : T 2 = some ⟨.int .i64, 1, 8, fun m => [.int .i64 0].getD m .any, false⟩ := rfl
@[simp] theorem T3 : T 3 = some ⟨.int .i64, 1, 8, fun m => [.int .i64 0].getD m .any, false⟩ := rfl
@[simp] theorem T4 : T 4 = some ⟨.bool, 1, 1, fun m => [.bool false].getD m .any, false⟩ := rfl
@[simp] theorem T5 : T 5 = some ⟨.int .u8, 1, 1, fun m => [.int .u8 0].getD m .any, false⟩ := rfl
@[simp] theorem T6 : T 6 = some ⟨.int .u8, 1, 1, fun m => [.int .u8 0].getD m .any, false⟩ := rfl
@[simp] theorem T7 : T 7 = some ⟨.struct [(0, 2), (1, 3), (2, 4), (3, 6)], 4, 24, fun m => [.int .i64 0, .int .i64 0, .bool false, .int .u8 0].getD m .any, false⟩ := rfl
@[simp] theorem T8 : T 8 = some ⟨.struct [(0, 2), (1, 3), (2, 4), (3, 6)], 4, 24, fun m => [.int .i64 0, .int .i64 0, .bool false, .int .u8 0].getD m .any, false⟩ := rfl
@[simp] theorem T9 : T 9 = some ⟨.str, 1, 16, fun m => [.str []].getD m .any, false⟩ := rfl
@[simp] theorem T10 : T 10 = some ⟨.str, 1, 16, fun m => [.str []].getD m .any, false⟩ := rfl
@[simp] theorem T11 : T 11 = some ⟨.str, 1, 16, fun m => [.str []].getD m .any, false⟩ := rfl
@[simp] theorem T12 : T 12 = some ⟨.int .u64, 1, 8, fun m => [.int .u64 0].getD m .any, false⟩ := rfl
@[simp] theorem T13 : T 13 = some ⟨.struct [(0, 9), (1, 12)], 2, 24, fun m => [.str [], .int .u64 0].getD m .any, false⟩ := rfl
@[simp] theorem T14 : T 14 = some ⟨.struct [(0, 9), (1, 12)], 2, 24, fun m => [.str [], .int .u64 0].getD m .any, false⟩ := rfl
@[simp] theorem T15 : T 15 = some ⟨.ptr 153, 1, 8, fun m => [.nilp].getD m .any, false⟩ := rfl
@[simp] theorem T16 : T 16 = some ⟨.ptr 156, 1, 8, fun m => [.nilp].getD m .any, false⟩ := rfl
@[simp] theorem T17 : T 17 = some ⟨.ptr 164, 1, 8, fun m => [.nilp].getD m .any, false⟩ := rfl
@[simp] theorem T18 : T 18 = some ⟨.struct [(0, 17)], 1, 8, fun m => [.nilp].getD m .any, false⟩ := rfl
@[simp] theorem T19 : T 19 = some ⟨.struct [(0, 17)], 1, 8, fun m => [.nilp].getD m .any, false⟩ := rfl
@[simp] theorem T21 : T 21 = some ⟨.int .i32, 1, 4, fun m => [.int .i32 0].getD m .any, false⟩ := rfl
@[simp] theorem T22 : T 22 = some ⟨.slice 9, 1, 24, fun m => [.nils].getD m .any, false⟩ := rfl
@[simp] theorem T23 : T 23 = some ⟨.struct [(0, 3), (1, 22)], 2, 32, fun m => [.int .i64 0, .nils].getD m .any, false⟩ := rfl
@[simp] theorem T24 : T 24 = some ⟨.struct [(0, 3), (1, 22)], 2, 32, fun m => [.int .i64 0, .nils].getD m .any, false⟩ := rfl
@[simp] theorem T25 : T 25 = some ⟨.func, 1, 8, fun m => [.nilfn].getD m .any, false⟩ := rfl
@[simp] theorem T26 : T 26 = some ⟨.func, 1, 8, fun m => [.nilfn].getD m .any, false⟩ := rfl
@[simp] theorem T27 : T 27 = some ⟨.int .i64, 1, 8, fun m => [.int .i64 0].getD m .any, false⟩ := rfl
@[simp] theorem T29 : T 29 = some ⟨.func, 1, 8, fun m => [.nilfn].getD m .any, false⟩ := rfl
@[simp] theorem T31 : T 31 = some ⟨.func, 1, 8, fun m => [.nilfn].getD m .any, false⟩ := rfl
@[simp] theorem T33 : T 33 = some ⟨.func, 1, 8, fun m => [.nilfn].getD m .any, false⟩ := rfl
@[simp] theorem T34 : T 34 = some ⟨.func, 1, 8, fun m => [.nilfn].getD m .any, false⟩ := rfl
@[simp] theorem T35 : T 35 = some ⟨.func, 1, 8, fun m => [.nilfn].getD m .any, false⟩ := rfl
@[simp] theorem T36 : T 36 = some ⟨.slice 3, 1, 24, fun m => [.nils].getD m .any, false⟩ := rfl
@[simp] theorem T38 : T 38 = some ⟨.func, 1, 8, fun m => [.nilfn].getD m .any, false⟩ := rfl
@[simp] theorem T40 : T 40 = some ⟨.func, 1, 8, fun m => [.nilfn].getD m .any, false⟩ := rfl
@[simp] theorem T41 : T 41 = some ⟨.func, 1, 8, fun m => [.nilfn].getD m .any, false⟩ := rfl
@[simp] theorem T43 : T 43 = some ⟨.func, 1, 8, fun m => [.nilfn].getD m .any, false⟩ := rfl
@[simp] theorem T44 : T 44 = some ⟨.func, 1, 8, fun m => [.nilfn].getD m .any, false⟩ := rfl
@[simp] theorem T45 : T 45 = some ⟨.func, 1, 8, fun m => [.nilfn].getD m .any, false⟩ := rfl
@[simp] theorem T46 : T 46 = some ⟨.func, 1, 8, fun m => [.nilfn].getD m .any, false⟩ := rfl
@[simp] theorem T47 : T 47 = some ⟨.func, 1, 8, fun m => [.nilfn].getD m .any, false⟩ := rfl
@[simp] theorem T48 : T 48 = some ⟨.slice 5, 1, 24, fun m => [.nils].getD m .any, false⟩ := rfl
@[simp] theorem T49 : T 49 = some ⟨.func, 1, 8, fun m => [.nilfn].getD m .any, false⟩ := rfl
@[simp] theorem T51 : T 51 = some ⟨.func, 1, 8, fun m => [.nilfn].getD m .any, false⟩ := rfl
@[simp] theorem T52 : T 52 = some ⟨.func, 1, 8, fun m => [.nilfn].getD m .any, false⟩ := rfl
@[simp] theorem T53 : T 53 = some ⟨.func, 1, 8, fun m => [.nilfn].getD m .any, false⟩ := rfl
@[simp] theorem T54 : T 54 = some ⟨.func, 1, 8, fun m => [.nilfn].getD m .any, false⟩ := rfl
@[simp] theorem T55 : T 55 = some ⟨.func, 1, 8, fun m => [.nilfn].getD m .any, false⟩ := rfl
@[simp] theorem T56 : T 56 = some ⟨.func, 1, 8, fun m => [.nilfn].getD m .any, false⟩ := rfl
@[simp] theorem T57 : T 57 = some ⟨.func, 1, 8, fun m => [.nilfn].getD m .any, false⟩ := rfl
@[simp] theorem T58 : T 58 = some ⟨.func, 1, 8, fun m => [.nilfn].getD m .any, false⟩ := rfl
@[simp] theorem T59 : T 59 = some ⟨.func, 1, 8, fun m => [.nilfn].getD m .any, false⟩ := rfl
@[simp] theorem T60 : T 60 = some ⟨.func, 1, 8, fun m => [.nilfn].getD m .any, false⟩ := rfl
@[simp] theorem T61 : T 61 = some ⟨.map 68 3, 1, 8, fun m => [.nilmap].getD m .any, false⟩ := rfl
@[simp] theorem T62 : T 62 = some ⟨.struct [(0, 24), (2, 61)], 3, 40, fun m => [.int .i64 0, .nils, .nilmap].getD m .any, false⟩ := rfl
@[simp] theorem T63 : T 63 = some ⟨.struct [(0, 24), (2, 61)], 3, 40, fun m => [.int .i64 0, .nils, .nilmap].getD m .any, false⟩ := rfl
@[simp] theorem T64 : T 64 = some ⟨.func, 1, 8, fun m => [.nilfn].getD m .any, false⟩ := rfl
@[simp] theorem T65 : T 65 = some ⟨.slice 68, 1, 24, fun m => [.nils].getD m .any, false⟩ := rfl
@[simp] theorem T66 : T 66 = some ⟨.func, 1, 8, fun m => [.nilfn].getD m .any, false⟩ := rfl
@[simp] theorem T67 : T 67 = some ⟨.struct [(0, 9), (1, 9)], 2, 32, fun m => [.str [], .str []].getD m .any, false⟩ := rfl
@[simp] theorem T68 : T 68 = some ⟨.struct [(0, 9), (1, 9)], 2, 32, fun m => [.str [], .str []].getD m .any, true⟩ := rfl
@[simp] theorem T69 : T 69 = some ⟨.func, 1, 8, fun m => [.nilfn].getD m .any, false⟩ := rfl
@[simp] theorem T71 : T 71 = some ⟨.func, 1, 8, fun m => [.nilfn].getD m .any, false⟩ := rfl
@[simp] theorem T72 : T 72 = some ⟨.func, 1, 8, fun m => [.nilfn].getD m .any, false⟩ := rfl
@[simp] theorem T73 : T 73 = some ⟨.func, 1, 8, fun m => [.nilfn].getD m .any, false⟩ := rfl
@[simp] theorem T74 : T 74 = some ⟨.func, 1, 8, fun m => [.nilfn].getD m .any, false⟩ := rfl
@[simp] theorem T75 : T 75 = some ⟨.func, 1, 8, fun m => [.nilfn].getD m .any, false⟩ := rfl
@[simp] theorem T76 : T 76 = some ⟨.func, 1, 8, fun m => [.nilfn].getD m .any, false⟩ := rfl
@[simp] theorem T77 : T 77 = some ⟨.func, 1, 8, fun m => [.nilfn].getD m .any, false⟩ := rfl
@[simp] theorem T78 : T 78 = some ⟨.func, 1, 8, fun m => [.nilfn].getD m .any, false⟩ := rfl
@[simp] theorem T79 : T 79 = some ⟨.func, 1, 8, fun m => [.nilfn].getD m .any, false⟩ := rfl
@[simp] theorem T80 : T 80 = some ⟨.func, 1, 8, fun m => [.nilfn].getD m .any, false⟩ := rfl
@[simp] theorem T82 : T 82 = some ⟨.func, 1, 8, fun m => [.nilfn].getD m .any, false⟩ := rfl
@[simp] theorem T83 : T 83 = some ⟨.func, 1, 8, fun m => [.nilfn].getD m .any, false⟩ := rfl
@[simp] theorem T84 : T 84 = some ⟨.func, 1, 8, fun m => [.nilfn].getD m .any, false⟩ := rfl
@[simp] theorem T85 : T 85 = some ⟨.ptr 87, 1, 8, fun m => [.nilp].getD m .any, false⟩ := rfl
@[simp] theorem T86 : T 86 = some ⟨.struct [(0, 85), (1, 48)], 2, 32, fun m => [.nilp, .nils].getD m .any, false⟩ := rfl
@[simp] theorem T87 : T 87 = some ⟨.struct [(0, 85), (1, 48)], 2, 32, fun m => [.nilp, .nils].getD m .any, false⟩ := rfl
@[simp] theorem T91 : T 91 = some ⟨.func, 1, 8, fun m => [.nilfn].getD m .any, false⟩ := rfl
@[simp] theorem T92 : T 92 = some ⟨.func, 1, 8, fun m => [.nilfn].getD m .any, false⟩ := rfl
@[simp] theorem T93 : T 93 = some ⟨.func, 1, 8, fun m => [.nilfn].getD m .any, false⟩ := rfl
@[simp] theorem T94 : T 94 = some ⟨.func, 1, 8, fun m => [.nilfn].getD m .any, false⟩ := rfl
@[simp] theorem T95 : T 95 = some ⟨.func, 1, 8, fun m => [.nilfn].getD m .any, false⟩ := rfl
@[simp] theorem T96 : T 96 = some ⟨.func, 1, 8, fun m => [.nilfn].getD m .any, false⟩ := rfl
@[simp] theorem T97 : T 97 = some ⟨.func, 1, 8, fun m => [.nilfn].getD m .any, false⟩ := rfl
@[simp] theorem T99 : T 99 = some ⟨.func, 1, 8, fun m => [.nilfn].getD m .any, false⟩ := rfl
@[simp] theorem T100 : T 100 = some ⟨.map 68 65, 1, 8, fun m => [.nilmap].getD m .any, false⟩ := rfl
@[simp] theorem T101 : T 101 = some ⟨.func, 1, 8, fun m => [.nilfn].getD m .any, false⟩ := rfl
@[simp] theorem T102 : T 102 = some ⟨.map 9 4, 1, 8, fun m => [.nilmap].getD m .any, false⟩ := rfl
@[simp] theorem T103 : T 103 = some ⟨.func, 1, 8, fun m => [.nilfn].getD m .any, false⟩ := rfl
@[simp] theorem T104 : T 104 = some ⟨.func, 1, 8, fun m => [.nilfn].getD m .any, false⟩ := rfl
@[simp] theorem T105 : T 105 = some ⟨.func, 1, 8, fun m => [.nilfn].getD m .any, false⟩ := rfl
@[simp] theorem T106 : T 106 = some ⟨.func, 1, 8, fun m => [.nilfn].getD m .any, false⟩ := rfl
@[simp] theorem T107 : T 107 = some ⟨.func, 1, 8, fun m => [.nilfn].getD m .any, false⟩ := rfl
@[simp] theorem T108 : T 108 = some ⟨.map 68 4, 1, 8, fun m => [.nilmap].getD m .any, false⟩ := rfl
@[simp] theorem T109 : T 109 = some ⟨.func, 1, 8, fun m => [.nilfn].getD m .any, false⟩ := rfl
@[simp] theorem T110 : T 110 = some ⟨.ptr 5, 1, 8, fun m => [.nilp].getD m .any, false⟩ := rfl
@[simp] theorem T111 : T 111 = some ⟨.func, 1, 8, fun m => [.nilfn].getD m .any, false⟩ := rfl
@[simp] theorem T112 : T 112 = some ⟨.func, 1, 8, fun m => [.nilfn].getD m .any, false⟩ := rfl
@[simp] theorem T113 : T 113 = some ⟨.func, 1, 8, fun m => [.nilfn].getD m .any, false⟩ := rfl
@[simp] theorem T114 : T 114 = some ⟨.func, 1, 8, fun m => [.nilfn].getD m .any, false⟩ := rfl
@[simp] theorem T115 : T 115 = some ⟨.map 3 4, 1, 8, fun m => [.nilmap].getD m .any, false⟩ := rfl
@[simp] theorem T117 : T 117 = some ⟨.slice 4, 1, 24, fun m => [.nils].getD m .any, false⟩ := rfl
@[simp] theorem T119 : T 119 = some ⟨.func, 1, 8, fun m => [.nilfn].getD m .any, false⟩ := rfl
@[simp] theorem T120 : T 120 = some ⟨.func, 1, 8, fun m => [.nilfn].getD m .any, false⟩ := rfl
@[simp] theorem T121 : T 121 = some ⟨.func, 1, 8, fun m => [.nilfn].getD m .any, false⟩ := rfl
@[simp] theorem T122 : T 122 = some ⟨.func, 1, 8, fun m => [.nilfn].getD m .any, false⟩ := rfl
@[simp] theorem T123 : T 123 = some ⟨.func, 1, 8, fun m => [.nilfn].getD m .any, false⟩ := rfl
@[simp] theorem T124 : T 124 = some ⟨.func, 1, 8, fun m => [.nilfn].getD m .any, false⟩ := rfl
@[simp] theorem T125 : T 125 = some ⟨.func, 1, 8, fun m => [.nilfn].getD m .any, false⟩ := rfl
@[simp] theorem T126 : T 126 = some ⟨.func, 1, 8, fun m => [.nilfn].getD m .any, false⟩ := rfl
@[simp] theorem T127 : T 127 = some ⟨.func, 1, 8, fun m => [.nilfn].getD m .any, false⟩ := rfl
@[simp] theorem T128 : T 128 = some ⟨.func, 1, 8, fun m => [.nilfn].getD m .any, false⟩ := rfl
@[simp] theorem T129 : T 129 = some ⟨.func, 1, 8, fun m => [.nilfn].getD m .any, false⟩ := rfl
@[simp] theorem T130 : T 130 = some ⟨.func, 1, 8, fun m => [.nilfn].getD m .any, false⟩ := rfl
@[simp] theorem T131 : T 131 = some ⟨.int .u64, 1, 8, fun m => [.int .u64 0].getD m .any, false⟩ := rfl
@[simp] theorem T132 : T 132 = some ⟨.func, 1, 8, fun m => [.nilfn].getD m .any, false⟩ := rfl
@[simp] theorem T133 : T 133 = some ⟨.int .i64, 1, 8, fun m => [.int .i64 0].getD m .any, false⟩ := rfl
@[simp] theorem T135 : T 135 = some ⟨.func, 1, 8, fun m => [.nilfn].getD m .any, false⟩ := rfl
@[simp] theorem T136 : T 136 = some ⟨.func, 1, 8, fun m => [.nilfn].getD m .any, false⟩ := rfl
@[simp] theorem T137 : T 137 = some ⟨.func, 1, 8, fun m => [.nilfn].getD m .any, false⟩ := rfl
@[simp] theorem T138 : T 138 = some ⟨.func, 1, 8, fun m => [.nilfn].getD m .any, false⟩ := rfl
@[simp] theorem T139 : T 139 = some ⟨.func, 1, 8, fun m => [.nilfn].getD m .any, false⟩ := rfl
@[simp] theorem T140 : T 140 = some ⟨.int .u32, 1, 4, fun m => [.int .u32 0].getD m .any, false⟩ := rfl
@[simp] theorem T141 : T 141 = some ⟨.func, 1, 8, fun m => [.nilfn].getD m .any, false⟩ := rfl
@[simp] theorem T142 : T 142 = some ⟨.int .u64, 1, 8, fun m => [.int .u64 0].getD m .any, false⟩ := rfl
@[simp] theorem T143 : T 143 = some ⟨.int .u64, 1, 8, fun m => [.int .u64 0].getD m .any, false⟩ := rfl
@[simp] theorem T144 : T 144 = some ⟨.func, 1, 8, fun m => [.nilfn].getD m .any, false⟩ := rfl
@[simp] theorem T145 : T 145 = some ⟨.func, 1, 8, fun m => [.nilfn].getD m .any, false⟩ := rfl
@[simp] theorem T146 : T 146 = some ⟨.func, 1, 8, fun m => [.nilfn].getD m .any, false⟩ := rfl
@[simp] theorem T147 : T 147 = some ⟨.ptr 3, 1, 8, fun m => [.nilp].getD m .any, false⟩ := rfl
@[simp] theorem T148 : T 148 = some ⟨.func, 1, 8, fun m => [.nilfn].getD m .any, false⟩ := rfl
@[simp] theorem T149 : T 149 = some ⟨.ptr 143, 1, 8, fun m => [.nilp].getD m .any, false⟩ := rfl
@[simp] theorem T151 : T 151 = some ⟨.func, 1, 8, fun m => [.nilfn].getD m .any, false⟩ := rfl
@[simp] theorem T152 : T 152 = some ⟨.struct [(0, 17), (1, 17), (2, 17), (3, 9)], 4, 40, fun m => [.nilp, .nilp, .nilp, .str []].getD m .any, false⟩ := rfl
@[simp] theorem T153 : T 153 = some ⟨.struct [(0, 17), (1, 17), (2, 17), (3, 9)], 4, 40, fun m => [.nilp, .nilp, .nilp, .str []].getD m .any, false⟩ := rfl
@[simp] theorem T154 : T 154 = some ⟨.arr 0 16, 0, 0, fun m => [].getD m .any, false⟩ := rfl
@[simp] theorem T155 : T 155 = some ⟨.struct [(0, 154)], 0, 0, fun m => [].getD m .any, false⟩ := rfl
@[simp] theorem T156 : T 156 = some ⟨.struct [(0, 154)], 0, 0, fun m => [].getD m .any, false⟩ := rfl
@[simp] theorem T157 : T 157 = some ⟨.func, 1, 8, fun m => [.nilfn].getD m .any, false⟩ := rfl
@[simp] theorem T158 : T 158 = some ⟨.int .u8, 1, 1, fun m => [.int .u8 0].getD m .any, false⟩ := rfl
@[simp] theorem T159 : T 159 = some ⟨.int .u8, 1, 1, fun m => [.int .u8 0].getD m .any, false⟩ := rfl
@[simp] theorem T160 : T 160 = some ⟨.func, 1, 8, fun m => [.nilfn].getD m .any, false⟩ := rfl
@[simp] theorem T161 : T 161 = some ⟨.int .i32, 1, 4, fun m => [.int .i32 0].getD m .any, false⟩ := rfl
@[simp] theorem T162 : T 162 = some ⟨.int .i32, 1, 4, fun m => [.int .i32 0].getD m .any, false⟩ := rfl
@[simp] theorem T163 : T 163 = some ⟨.struct [(0, 12), (1, 12), (2, 140), (3, 158), (4, 5), (5, 5), (6, 159), (7, 160), (8, 110), (9, 161), (10, 162)], 11, 48, fun m => [.int .u64 0, .int .u64 0, .int .u32 0, .int .u8 0, .int .u8 0, .int .u8 0, .int .u8 0, .nilfn, .nilp, .int .i32 0, .int .i32 0].getD m .any, false⟩ := rfl
@[simp] theorem T164 : T 164 = some ⟨.struct [(0, 12), (1, 12), (2, 140), (3, 158), (4, 5), (5, 5), (6, 159), (7, 160), (8, 110), (9, 161), (10, 162)], 11, 48, fun m => [.int .u64 0, .int .u64 0, .int .u32 0, .int .u8 0, .int .u8 0, .int .u8 0, .int .u8 0, .nilfn, .nilp, .int .i32 0, .int .i32 0].getD m .any, false⟩ := rfl
end Go.Proofs.Ytoafgeobhhlplaa
