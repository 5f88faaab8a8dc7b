/- Parts of the proof: LT. -/
import Derived.Test.YtchjjiedcpfniaaGreatDoorProg
import Derived.KernelRfl
import Derived.Test.YtchjjiedcpfniaaGreatDoorK05
namespace Go.Proofs.YtchjjiedcpfniaaGreatDoor
open Go.Lift Go.Proofs
def zs171 : List AVal := List.replicate 24 (.int .u8 0)
def zs185 : List AVal := List.replicate 20 (.int .u64 0)
def zs195 : List AVal := List.replicate 32 (.int .u8 0)
def zs196 : List AVal := List.replicate 64 (.int .u8 0)
def tbl : List TE := [
  ⟨1, .func, 1, 8, [.nilfn], false⟩,
  ⟨2, .int .i64, 1, 8, [.int .i64 0], false⟩,
  ⟨3, .int .i64, 1, 8, [.int .i64 0], false⟩,
  ⟨4, .bool, 1, 1, [.bool false], false⟩,
  ⟨5, .int .u8, 1, 1, [.int .u8 0], false⟩,
  ⟨6, .int .u8, 1, 1, [.int .u8 0], false⟩,
  ⟨7, .struct [(0, 2), (1, 3), (2, 4), (3, 6)], 4, 24, [.int .i64 0, .int .i64 0, .bool false, .int .u8 0], false⟩,
  ⟨8, .struct [(0, 2), (1, 3), (2, 4), (3, 6)], 4, 24, [.int .i64 0, .int .i64 0, .bool false, .int .u8 0], false⟩,
  ⟨9, .str, 1, 16, [.str []], false⟩,
  ⟨10, .str, 1, 16, [.str []], false⟩,
  ⟨11, .str, 1, 16, [.str []], false⟩,
  ⟨12, .int .u64, 1, 8, [.int .u64 0], false⟩,
  ⟨13, .struct [(0, 9), (1, 12)], 2, 24, [.str [], .int .u64 0], false⟩,
  ⟨14, .struct [(0, 9), (1, 12)], 2, 24, [.str [], .int .u64 0], false⟩,
  ⟨15, .ptr 199, 1, 8, [.nilp], false⟩,
  ⟨16, .ptr 202, 1, 8, [.nilp], false⟩,
  ⟨17, .ptr 209, 1, 8, [.nilp], false⟩,
  ⟨18, .struct [(0, 17)], 1, 8, [.nilp], false⟩,
  ⟨19, .struct [(0, 17)], 1, 8, [.nilp], false⟩,
  ⟨21, .int .i32, 1, 4, [.int .i32 0], false⟩,
  ⟨22, .slice 69, 1, 24, [.nils], false⟩,
  ⟨23, .struct [(0, 3), (1, 3), (2, 22)], 3, 40, [.int .i64 0, .int .i64 0, .nils], false⟩,
  ⟨24, .struct [(0, 3), (1, 3), (2, 22)], 3, 40, [.int .i64 0, .int .i64 0, .nils], false⟩,
  ⟨25, .slice 3, 1, 24, [.nils], false⟩,
  ⟨26, .slice 54, 1, 24, [.nils], false⟩,
  ⟨27, .struct [(0, 24), (3, 25), (4, 3), (5, 26)], 6, 96, [.int .i64 0, .int .i64 0, .nils, .nils, .int .i64 0, .nils], false⟩,
  ⟨28, .struct [(0, 24), (3, 25), (4, 3), (5, 26)], 6, 96, [.int .i64 0, .int .i64 0, .nils, .nils, .int .i64 0, .nils], false⟩,
  ⟨29, .func, 1, 8, [.nilfn], false⟩,
  ⟨30, .func, 1, 8, [.nilfn], false⟩,
  ⟨31, .slice 67, 1, 24, [.nils], false⟩,
  ⟨32, .struct [(0, 3), (1, 3), (2, 3), (3, 31)], 4, 48, [.int .i64 0, .int .i64 0, .int .i64 0, .nils], false⟩,
  ⟨33, .struct [(0, 3), (1, 3), (2, 3), (3, 31)], 4, 48, [.int .i64 0, .int .i64 0, .int .i64 0, .nils], false⟩,
  ⟨34, .int .i64, 1, 8, [.int .i64 0], false⟩,
  ⟨36, .func, 1, 8, [.nilfn], false⟩,
  ⟨37, .func, 1, 8, [.nilfn], false⟩,
  ⟨38, .func, 1, 8, [.nilfn], false⟩,
  ⟨39, .slice 5, 1, 24, [.nils], false⟩,
  ⟨40, .func, 1, 8, [.nilfn], false⟩,
  ⟨41, .func, 1, 8, [.nilfn], false⟩,
  ⟨43, .func, 1, 8, [.nilfn], false⟩,
  ⟨44, .func, 1, 8, [.nilfn], false⟩,
  ⟨46, .func, 1, 8, [.nilfn], false⟩,
  ⟨48, .func, 1, 8, [.nilfn], false⟩,
  ⟨49, .func, 1, 8, [.nilfn], false⟩,
  ⟨50, .func, 1, 8, [.nilfn], false⟩,
  ⟨51, .func, 1, 8, [.nilfn], false⟩,
  ⟨52, .func, 1, 8, [.nilfn], false⟩,
  ⟨53, .func, 1, 8, [.nilfn], false⟩,
  ⟨54, .slice 98, 1, 24, [.nils], false⟩,
  ⟨55, .func, 1, 8, [.nilfn], false⟩,
  ⟨56, .func, 1, 8, [.nilfn], false⟩,
  ⟨58, .func, 1, 8, [.nilfn], false⟩,
  ⟨59, .func, 1, 8, [.nilfn], false⟩,
  ⟨60, .func, 1, 8, [.nilfn], false⟩,
  ⟨62, .func, 1, 8, [.nilfn], false⟩,
  ⟨63, .func, 1, 8, [.nilfn], false⟩,
  ⟨65, .func, 1, 8, [.nilfn], false⟩,
  ⟨66, .func, 1, 8, [.nilfn], false⟩,
  ⟨67, .slice 73, 1, 24, [.nils], false⟩,
  ⟨68, .struct [(0, 3), (1, 3), (2, 3)], 3, 24, [.int .i64 0, .int .i64 0, .int .i64 0], false⟩,
  ⟨69, .struct [(0, 3), (1, 3), (2, 3)], 3, 24, [.int .i64 0, .int .i64 0, .int .i64 0], true⟩,
  ⟨70, .func, 1, 8, [.nilfn], false⟩,
  ⟨71, .func, 1, 8, [.nilfn], false⟩,
  ⟨72, .struct [(0, 3), (1, 9)], 2, 24, [.int .i64 0, .str []], false⟩,
  ⟨73, .struct [(0, 3), (1, 9)], 2, 24, [.int .i64 0, .str []], true⟩,
  ⟨75, .func, 1, 8, [.nilfn], false⟩,
  ⟨76, .func, 1, 8, [.nilfn], false⟩,
  ⟨77, .func, 1, 8, [.nilfn], false⟩,
  ⟨78, .ptr 83, 1, 8, [.nilp], false⟩,
  ⟨79, .ptr 81, 1, 8, [.nilp], false⟩,
  ⟨80, .struct [(0, 79), (1, 39)], 2, 32, [.nilp, .nils], false⟩,
  ⟨81, .struct [(0, 79), (1, 39)], 2, 32, [.nilp, .nils], false⟩,
  ⟨82, .struct [(0, 33), (4, 3), (5, 81)], 7, 88, [.int .i64 0, .int .i64 0, .int .i64 0, .nils, .int .i64 0, .nilp, .nils], false⟩,
  ⟨83, .struct [(0, 33), (4, 3), (5, 81)], 7, 88, [.int .i64 0, .int .i64 0, .int .i64 0, .nils, .int .i64 0, .nilp, .nils], true⟩,
  ⟨84, .func, 1, 8, [.nilfn], false⟩,
  ⟨85, .func, 1, 8, [.nilfn], false⟩,
  ⟨86, .func, 1, 8, [.nilfn], false⟩,
  ⟨87, .func, 1, 8, [.nilfn], false⟩,
  ⟨88, .func, 1, 8, [.nilfn], false⟩,
  ⟨89, .func, 1, 8, [.nilfn], false⟩,
  ⟨90, .func, 1, 8, [.nilfn], false⟩,
  ⟨91, .func, 1, 8, [.nilfn], false⟩,
  ⟨92, .func, 1, 8, [.nilfn], false⟩,
  ⟨93, .func, 1, 8, [.nilfn], false⟩,
  ⟨94, .func, 1, 8, [.nilfn], false⟩,
  ⟨95, .func, 1, 8, [.nilfn], false⟩,
  ⟨96, .slice 25, 1, 24, [.nils], false⟩,
  ⟨97, .struct [(0, 3), (1, 96)], 2, 32, [.int .i64 0, .nils], false⟩,
  ⟨98, .struct [(0, 3), (1, 96)], 2, 32, [.int .i64 0, .nils], false⟩,
  ⟨99, .map 102 4, 1, 8, [.nilmap], false⟩,
  ⟨100, .slice 102, 1, 24, [.nils], false⟩,
  ⟨101, .struct [(0, 3), (1, 3)], 2, 16, [.int .i64 0, .int .i64 0], false⟩,
  ⟨102, .struct [(0, 3), (1, 3)], 2, 16, [.int .i64 0, .int .i64 0], true⟩,
  ⟨103, .func, 1, 8, [.nilfn], false⟩,
  ⟨105, .func, 1, 8, [.nilfn], false⟩,
  ⟨106, .map 69 3, 1, 8, [.nilmap], false⟩,
  ⟨107, .func, 1, 8, [.nilfn], false⟩,
  ⟨109, .slice 9, 1, 24, [.nils], false⟩,
  ⟨113, .func, 1, 8, [.nilfn], false⟩,
  ⟨114, .func, 1, 8, [.nilfn], false⟩,
  ⟨115, .func, 1, 8, [.nilfn], false⟩,
  ⟨116, .func, 1, 8, [.nilfn], false⟩,
  ⟨117, .func, 1, 8, [.nilfn], false⟩,
  ⟨118, .func, 1, 8, [.nilfn], false⟩,
  ⟨119, .func, 1, 8, [.nilfn], false⟩,
  ⟨121, .func, 1, 8, [.nilfn], false⟩,
  ⟨122, .func, 1, 8, [.nilfn], false⟩,
  ⟨123, .ptr 5, 1, 8, [.nilp], false⟩,
  ⟨124, .func, 1, 8, [.nilfn], false⟩,
  ⟨125, .func, 1, 8, [.nilfn], false⟩,
  ⟨126, .func, 1, 8, [.nilfn], false⟩,
  ⟨127, .func, 1, 8, [.nilfn], false⟩,
  ⟨128, .func, 1, 8, [.nilfn], false⟩,
  ⟨129, .func, 1, 8, [.nilfn], false⟩,
  ⟨130, .int .u64, 1, 8, [.int .u64 0], false⟩,
  ⟨131, .func, 1, 8, [.nilfn], false⟩,
  ⟨132, .func, 1, 8, [.nilfn], false⟩,
  ⟨133, .func, 1, 8, [.nilfn], false⟩,
  ⟨134, .func, 1, 8, [.nilfn], false⟩,
  ⟨135, .func, 1, 8, [.nilfn], false⟩,
  ⟨136, .func, 1, 8, [.nilfn], false⟩,
  ⟨138, .func, 1, 8, [.nilfn], false⟩,
  ⟨139, .func, 1, 8, [.nilfn], false⟩,
  ⟨140, .func, 1, 8, [.nilfn], false⟩,
  ⟨141, .func, 1, 8, [.nilfn], false⟩,
  ⟨142, .int .i64, 1, 8, [.int .i64 0], false⟩,
  ⟨144, .func, 1, 8, [.nilfn], false⟩,
  ⟨145, .func, 1, 8, [.nilfn], false⟩,
  ⟨146, .func, 1, 8, [.nilfn], false⟩,
  ⟨147, .func, 1, 8, [.nilfn], false⟩,
  ⟨148, .func, 1, 8, [.nilfn], false⟩,
  ⟨149, .func, 1, 8, [.nilfn], false⟩,
  ⟨150, .int .u32, 1, 4, [.int .u32 0], false⟩,
  ⟨151, .func, 1, 8, [.nilfn], false⟩,
  ⟨152, .int .u64, 1, 8, [.int .u64 0], false⟩,
  ⟨153, .func, 1, 8, [.nilfn], false⟩,
  ⟨154, .map 9 3, 1, 8, [.nilmap], false⟩,
  ⟨155, .func, 1, 8, [.nilfn], false⟩,
  ⟨156, .func, 1, 8, [.nilfn], false⟩,
  ⟨158, .func, 1, 8, [.nilfn], false⟩,
  ⟨159, .func, 1, 8, [.nilfn], false⟩,
  ⟨160, .func, 1, 8, [.nilfn], false⟩,
  ⟨161, .func, 1, 8, [.nilfn], false⟩,
  ⟨162, .func, 1, 8, [.nilfn], false⟩,
  ⟨163, .func, 1, 8, [.nilfn], false⟩,
  ⟨164, .int .u64, 1, 8, [.int .u64 0], false⟩,
  ⟨165, .func, 1, 8, [.nilfn], false⟩,
  ⟨166, .func, 1, 8, [.nilfn], false⟩,
  ⟨167, .func, 1, 8, [.nilfn], false⟩,
  ⟨168, .ptr 3, 1, 8, [.nilp], false⟩,
  ⟨169, .func, 1, 8, [.nilfn], false⟩,
  ⟨170, .func, 1, 8, [.nilfn], false⟩,
  ⟨171, .arr 24 5, 24, 24, zs171, false⟩,
  ⟨172, .func, 1, 8, [.nilfn], false⟩,
  ⟨174, .func, 1, 8, [.nilfn], false⟩,
  ⟨175, .func, 1, 8, [.nilfn], false⟩,
  ⟨176, .func, 1, 8, [.nilfn], false⟩,
  ⟨177, .func, 1, 8, [.nilfn], false⟩,
  ⟨178, .func, 1, 8, [.nilfn], false⟩,
  ⟨179, .func, 1, 8, [.nilfn], false⟩,
  ⟨180, .ptr 164, 1, 8, [.nilp], false⟩,
  ⟨182, .func, 1, 8, [.nilfn], false⟩,
  ⟨183, .func, 1, 8, [.nilfn], false⟩,
  ⟨184, .func, 1, 8, [.nilfn], false⟩,
  ⟨185, .arr 20 152, 20, 160, zs185, false⟩,
  ⟨187, .map 3 4, 1, 8, [.nilmap], false⟩,
  ⟨188, .func, 1, 8, [.nilfn], false⟩,
  ⟨189, .func, 1, 8, [.nilfn], false⟩,
  ⟨190, .func, 1, 8, [.nilfn], false⟩,
  ⟨191, .func, 1, 8, [.nilfn], false⟩,
  ⟨192, .func, 1, 8, [.nilfn], false⟩,
  ⟨193, .func, 1, 8, [.nilfn], false⟩,
  ⟨194, .func, 1, 8, [.nilfn], false⟩,
  ⟨195, .arr 32 5, 32, 32, zs195, false⟩,
  ⟨196, .arr 64 5, 64, 64, zs196, false⟩,
  ⟨197, .func, 1, 8, [.nilfn], false⟩,
  ⟨198, .struct [(0, 17), (1, 17), (2, 17), (3, 9)], 4, 40, [.nilp, .nilp, .nilp, .str []], false⟩,
  ⟨199, .struct [(0, 17), (1, 17), (2, 17), (3, 9)], 4, 40, [.nilp, .nilp, .nilp, .str []], false⟩,
  ⟨200, .arr 0 16, 0, 0, [], false⟩,
  ⟨201, .struct [(0, 200)], 0, 0, [], false⟩,
  ⟨202, .struct [(0, 200)], 0, 0, [], false⟩,
  ⟨203, .int .u8, 1, 1, [.int .u8 0], false⟩,
  ⟨204, .int .u8, 1, 1, [.int .u8 0], false⟩,
  ⟨205, .func, 1, 8, [.nilfn], false⟩,
  ⟨206, .int .i32, 1, 4, [.int .i32 0], false⟩,
  ⟨207, .int .i32, 1, 4, [.int .i32 0], false⟩,
  ⟨208, .struct [(0, 12), (1, 12), (2, 150), (3, 203), (4, 5), (5, 5), (6, 204), (7, 205), (8, 123), (9, 206), (10, 207)], 11, 48, [.int .u64 0, .int .u64 0, .int .u32 0, .int .u8 0, .int .u8 0, .int .u8 0, .int .u8 0, .nilfn, .nilp, .int .i32 0, .int .i32 0], false⟩,
  ⟨209, .struct [(0, 12), (1, 12), (2, 150), (3, 203), (4, 5), (5, 5), (6, 204), (7, 205), (8, 123), (9, 206), (10, 207)], 11, 48, [.int .u64 0, .int .u64 0, .int .u32 0, .int .u8 0, .int .u8 0, .int .u8 0, .int .u8 0, .nilfn, .nilp, .int .i32 0, .int .i32 0], false⟩]
def T : Tab := tabOf tbl
theorem tbl_ok : tbl.all (teOK Tryz.prog) = true := by kernel_rfl
theorem T_ok : TabOK Tryz.prog T := tabOf_ok tbl_ok
@[simp] theorem T1 : T 1 = some ⟨.func, 1, 8, fun m => [.nilfn].getD m .any, false⟩ := rfl
@[simp] theorem T2 : T 2 = some ⟨.int .i64, 1, 8, fun m => [.int .i64 0].getD m .any, false⟩ := rfl
@[simp] theorem T3 : T 3 = some ⟨.int .i64, 1, 8, fun m => [.int .i64 0].getD m .any, false⟩ := rfl
@[simp] theorem T4 : T 4 = some ⟨.bool, 1, 1, fun m => [.bool false].getD m .any, false⟩ := rfl
@[simp] theorem T5 : T 5 = some ⟨.int .u8, 1, 1, fun m => [.int .u8 0].getD m .any, false⟩ := rfl
@[simp] theorem T6 : T 6 = some ⟨.int .u8, 1, 1, fun m => [.int .u8 0].getD m .any, false⟩ := rfl
@[simp] theorem T7 : T 7 = some ⟨.struct [(0, 2), (1, 3), (2, 4), (3, 6)], 4, 24, fun m => [.int .i64 0, .int .i64 0, .bool false, .int .u8 0].getD m .any, false⟩ := rfl
@[simp] theorem T8 : T 8 = some ⟨.struct [(0, 2), (1, 3), (2, 4), (3, 6)], 4, 24, fun m => [.int .i64 0, .int .i64 0, .bool false, .int .u8 0].getD m .any, false⟩ := rfl
@[simp] theorem T9 : T 9 = some ⟨.str, 1, 16, fun m => [.str []].getD m .any, false⟩ := rfl
@[simp] theorem T10 : T 10 = some ⟨.str, 1, 16, fun m => [.str []].getD m .any, false⟩ := rfl
@[simp] theorem T11 : T 11 = some ⟨.str, 1, 16, fun m => [.str []].getD m .any, false⟩ := rfl
@[simp] theorem T12 : T 12 = some ⟨.int .u64, 1, 8, fun m => [.int .u64 0].getD m .any, false⟩ := rfl
@[simp] theorem T13 : T 13 = some ⟨.struct [(0, 9), (1, 12)], 2, 24, fun m => [.str [], .int .u64 0].getD m .any, false⟩ := rfl
@[simp] theorem T14 : T 14 = some ⟨.struct [(0, 9), (1, 12)], 2, 24, fun m => [.str [], .int .u64 0].getD m .any, false⟩ := rfl
@[simp] theorem T15 : T 15 = some ⟨.ptr 199, 1, 8, fun m => [.nilp].getD m .any, false⟩ := rfl
@[simp] theorem T16 : T 16 = some ⟨.ptr 202, 1, 8, fun m => [.nilp].getD m .any, false⟩ := rfl
@[simp] theorem T17 : T 17 = some ⟨.ptr 209, 1, 8, fun m => [.nilp].getD m .any, false⟩ := rfl
@[simp] theorem T18 : T 18 = some ⟨.struct [(0, 17)], 1, 8, fun m => [.nilp].getD m .any, false⟩ := rfl
@[simp] theorem T19 : T 19 = some ⟨.struct [(0, 17)], 1, 8, fun m => [.nilp].getD m .any, false⟩ := rfl
@[simp] theorem T21 : T 21 = some ⟨.int .i32, 1, 4, fun m => [.int .i32 0].getD m .any, false⟩ := rfl
@[simp] theorem T22 : T 22 = some ⟨.slice 69, 1, 24, fun m => [.nils].getD m .any, false⟩ := rfl
@[simp] theorem T23 : T 23 = some ⟨.struct [(0, 3), (1, 3), (2, 22)], 3, 40, fun m => [.int .i64 0, .int .i64 0, .nils].getD m .any, false⟩ := rfl
@[simp] theorem T24 : T 24 = some ⟨.struct [(0, 3), (1, 3), (2, 22)], 3, 40, fun m => [.int .i64 0, .int .i64 0, .nils].getD m .any, false⟩ := rfl
@[simp] theorem T25 : T 25 = some ⟨.slice 3, 1, 24, fun m => [.nils].getD m .any, false⟩ := rfl
@[simp] theorem T26 : T 26 = some ⟨.slice 54, 1, 24, fun m => [.nils].getD m .any, false⟩ := rfl
@[simp] theorem T27 : T 27 = some ⟨.struct [(0, 24), (3, 25), (4, 3), (5, 26)], 6, 96, fun m => [.int .i64 0, .int .i64 0, .nils, .nils, .int .i64 0, .nils].getD m .any, false⟩ := rfl
@[simp] theorem T28 : T 28 = some ⟨.struct [(0, 24), (3, 25), (4, 3), (5, 26)], 6, 96, fun m => [.int .i64 0, .int .i64 0, .nils, .nils, .int .i64 0, .nils].getD m .any, false⟩ := rfl
@[simp] theorem T29 : T 29 = some ⟨.func, 1, 8, fun m => [.nilfn].getD m .any, false⟩ := rfl
@[simp] theorem T30 : T 30 = some ⟨.func, 1, 8, fun m => [.nilfn].getD m .any, false⟩ := rfl
@[simp] theorem T31 : T 31 = some ⟨.slice 67, 1, 24, fun m => [.nils].getD m .any, false⟩ := rfl
@[simp] theorem T32 : T 32 = some ⟨.struct [(0, 3), (1, 3), (2, 3), (3, 31)], 4, 48, fun m => [.int .i64 0, .int .i64 0, .int .i64 0, .nils].getD m .any, false⟩ := rfl
@[simp] theorem T33 : T 33 = some ⟨.struct [(0, 3), (1, 3), (2, 3), (3, 31)], 4, 48, fun m => [.int .i64 0, .int .i64 0, .int .i64 0, .nils].getD m .any, false⟩ := rfl
@[simp] theorem T34 : T 34 = some ⟨.int .i64, 1, 8, fun m => [.int .i64 0].getD m .any, false⟩ := rfl
@[simp] theorem T36 : T 36 = some ⟨.func, 1, 8, fun m => [.nilfn].getD m .any, false⟩ := rfl
@[simp] theorem T37 : T 37 = some ⟨.func, 1, 8, fun m => [.nilfn].getD m .any, false⟩ := rfl
@[simp] theorem T38 : T 38 = some ⟨.func, 1, 8, fun m => [.nilfn].getD m .any, false⟩ := rfl
@[simp] theorem T39 : T 39 = some ⟨.slice 5, 1, 24, fun m => [.nils].getD m .any, false⟩ := rfl
@[simp] theorem T40 : T 40 = some ⟨.func, 1, 8, fun m => [.nilfn].getD m .any, false⟩ := rfl
@[simp] theorem T41 : T 41 = some ⟨.func, 1, 8, fun m => [.nilfn].getD m .any, false⟩ := rfl
@[simp] theorem T43 : T 43 = some ⟨.func, 1, 8, fun m => [.nilfn].getD m .any, false⟩ := rfl
@[simp] theorem T44 : T 44 = some ⟨.func, 1, 8, fun m => [.nilfn].getD m .any, false⟩ := rfl
@[simp] theorem T46 : T 46 = some ⟨.func, 1, 8, fun m => [.nilfn].getD m .any, false⟩ := rfl
@[simp] theorem T48 : T 48 = some ⟨.func, 1, 8, fun m => [.nilfn].getD m .any, false⟩ := rfl
@[simp] theorem T49 : T 49 = some ⟨.func, 1, 8, fun m => [.nilfn].getD m .any, false⟩ := rfl
@[simp] theorem T50 : T 50 = some ⟨.func, 1, 8, fun m => [.nilfn].getD m .any, false⟩ := rfl
@[simp] theorem T51 : T 51 = some ⟨.func, 1, 8, fun m => [.nilfn].getD m .any, false⟩ := rfl
@[simp] theorem T52 : T 52 = some ⟨.func, 1, 8, fun m => [.nilfn].getD m .any, false⟩ := rfl
@[simp] theorem T53 : T 53 = some ⟨.func, 1, 8, fun m => [.nilfn].getD m .any, false⟩ := rfl
@[simp] theorem T54 : T 54 = some ⟨.slice 98, 1, 24, fun m => [.nils].getD m .any, false⟩ := rfl
@[simp] theorem T55 : T 55 = some ⟨.func, 1, 8, fun m => [.nilfn].getD m .any, false⟩ := rfl
@[simp] theorem T56 : T 56 = some ⟨.func, 1, 8, fun m => [.nilfn].getD m .any, false⟩ := rfl
@[simp] theorem T58 : T 58 = some ⟨.func, 1, 8, fun m => [.nilfn].getD m .any, false⟩ := rfl
@[simp] theorem T59 : T 59 = some ⟨.func, 1, 8, fun m => [.nilfn].getD m .any, false⟩ := rfl
@[simp] theorem T60 : T 60 = some ⟨.func, 1, 8, fun m => [.nilfn].getD m .any, false⟩ := rfl
@[simp] theorem T62 : T 62 = some ⟨.func, 1, 8, fun m => [.nilfn].getD m .any, false⟩ := rfl
@[simp] theorem T63 : T 63 = some ⟨.func, 1, 8, fun m => [.nilfn].getD m .any, false⟩ := rfl
@[simp] theorem T65 : T 65 = some ⟨.func, 1, 8, fun m => [.nilfn].getD m .any, false⟩ := rfl
@[simp] theorem T66 : T 66 = some ⟨.func, 1, 8, fun m => [.nilfn].getD m .any, false⟩ := rfl
@[simp] theorem T67 : T 67 = some ⟨.slice 73, 1, 24, fun m => [.nils].getD m .any, false⟩ := rfl
@[simp] theorem T68 : T 68 = some ⟨.struct [(0, 3), (1, 3), (2, 3)], 3, 24, fun m => [.int .i64 0, .int .i64 0, .int .i64 0].getD m .any, false⟩ := rfl
@[simp] theorem T69 : T 69 = some ⟨.struct [(0, 3), (1, 3), (2, 3)], 3, 24, fun m => [.int .i64 0, .int .i64 0, .int .i64 0].getD m .any, true⟩ := rfl
@[simp] theorem T70 : T 70 = some ⟨.func, 1, 8, fun m => [.nilfn].getD m .any, false⟩ := rfl
@[simp] theorem T71 : T 71 = some ⟨.func, 1, 8, fun m => [.nilfn].getD m .any, false⟩ := rfl
@[simp] theorem T72 : T 72 = some ⟨.struct [(0, 3), (1, 9)], 2, 24, fun m => [.int .i64 0, .str []].getD m .any, false⟩ := rfl
@[simp] theorem T73 : T 73 = some ⟨.struct [(0, 3), (1, 9)], 2, 24, fun m => [.int .i64 0, .str []].getD m .any, true⟩ := rfl
@[simp] theorem T75 : T 75 = some ⟨.func, 1, 8, fun m => [.nilfn].getD m .any, false⟩ := rfl
@[simp] theorem T76 : T 76 = some ⟨.func, 1, 8, fun m => [.nilfn].getD m .any, false⟩ := rfl
@[simp] theorem T77 : T 77 = some ⟨.func, 1, 8, fun m => [.nilfn].getD m .any, false⟩ := rfl
@[simp] theorem T78 : T 78 = some ⟨.ptr 83, 1, 8, fun m => [.nilp].getD m .any, false⟩ := rfl
@[simp] theorem T79 : T 79 = some ⟨.ptr 81, 1, 8, fun m => [.nilp].getD m .any, false⟩ := rfl
@[simp] theorem T80 : T 80 = some ⟨.struct [(0, 79), (1, 39)], 2, 32, fun m => [.nilp, .nils].getD m .any, false⟩ := rfl
@[simp] theorem T81 : T 81 = some ⟨.struct [(0, 79), (1, 39)], 2, 32, fun m => [.nilp, .nils].getD m .any, false⟩ := rfl
@[simp] theorem T82 : T 82 = some ⟨.struct [(0, 33), (4, 3), (5, 81)], 7, 88, fun m => [.int .i64 0, .int .i64 0, .int .i64 0, .nils, .int .i64 0, .nilp, .nils].getD m .any, false⟩ := rfl
@[simp] theorem T83 : T 83 = some ⟨.struct [(0, 33), (4, 3), (5, 81)], 7, 88, fun m => [.int .i64 0, .int .i64 0, .int .i64 0, .nils, .int .i64 0, .nilp, .nils].getD m .any, true⟩ := rfl
@[simp] theorem T84 : T 84 = some ⟨.func, 1, 8, fun m => [.nilfn].getD m .any, false⟩ := rfl
@[simp] theorem T85 : T 85 = some ⟨.func, 1, 8, fun m => [.nilfn].getD m .any, false⟩ := rfl
@[simp] theorem T86 : T 86 = some ⟨.func, 1, 8, fun m => [.nilfn].getD m .any, false⟩ := rfl
@[simp] theorem T87 : T 87 = some ⟨.func, 1, 8, fun m => [.nilfn].getD m .any, false⟩ := rfl
@[simp] theorem T88 : T 88 = some ⟨.func, 1, 8, fun m => [.nilfn].getD m .any, false⟩ := rfl
@[simp] theorem T89 : T 89 = some ⟨.func, 1, 8, fun m => [.nilfn].getD m .any, false⟩ := rfl
@[simp] theorem T90 : T 90 = some ⟨.func, 1, 8, fun m => [.nilfn].getD m .any, false⟩ := rfl
@[simp] theorem T91 : T 91 = some ⟨.func, 1, 8, fun m => [.nilfn].getD m .any, false⟩ := rfl
@[simp] theorem T92 : T 92 = some ⟨.func, 1, 8, fun m => [.nilfn].getD m .any, false⟩ := rfl
@[simp] theorem T93 : T 93 = some ⟨.func, 1, 8, fun m => [.nilfn].getD m .any, false⟩ := rfl
@[simp] theorem T94 : T 94 = some ⟨.func, 1, 8, fun m => [.nilfn].getD m .any, false⟩ := rfl
@[simp] theorem T95 : T 95 = some ⟨.func, 1, 8, fun m => [.nilfn].getD m .any, false⟩ := rfl
@[simp] theorem T96 : T 96 = some ⟨.slice 25, 1, 24, fun m => [.nils].getD m .any, false⟩ := rfl
@[simp] theorem T97 : T 97 = some ⟨.struct [(0, 3), (1, 96)], 2, 32, fun m => [.int .i64 0, .nils].getD m .any, false⟩ := rfl
@[simp] theorem T98 : T 98 = some ⟨.struct [(0, 3), (1, 96)], 2, 32, fun m => [.int .i64 0, .nils].getD m .any, false⟩ := rfl
@[simp] theorem T99 : T 99 = some ⟨.map 102 4, 1, 8, fun m => [.nilmap].getD m .any, false⟩ := rfl
@[simp] theorem T100 : T 100 = some ⟨.slice 102, 1, 24, fun m => [.nils].getD m .any, false⟩ := rfl
@[simp] theorem T101 : T 101 = some ⟨.struct [(0, 3), (1, 3)], 2, 16, fun m => [.int .i64 0, .int .i64 0].getD m .any, false⟩ := rfl
@[simp] theorem T102 : T 102 = some ⟨.struct [(0, 3), (1, 3)], 2, 16, fun m => [.int .i64 0, .int .i64 0].getD m .any, true⟩ := rfl
@[simp] theorem T103 : T 103 = some ⟨.func, 1, 8, fun m => [.nilfn].getD m .any, false⟩ := rfl
@[simp] theorem T105 : T 105 = some ⟨.func, 1, 8, fun m => [.nilfn].getD m .any, false⟩ := rfl
@[simp] theorem T106 : T 106 = some ⟨.map 69 3, 1, 8, fun m => [.nilmap].getD m .any, false⟩ := rfl
@[simp] theorem T107 : T 107 = some ⟨.func, 1, 8, fun m => [.nilfn].getD m .any, false⟩ := rfl
@[simp] theorem T109 : T 109 = some ⟨.slice 9, 1, 24, fun m => [.nils].getD m .any, false⟩ := rfl
@[simp] theorem T113 : T 113 = some ⟨.func, 1, 8, fun m => [.nilfn].getD m .any, false⟩ := rfl
@[simp] theorem T114 : T 114 = some ⟨.func, 1, 8, fun m => [.nilfn].getD m .any, false⟩ := rfl
@[simp] theorem T115 : T 115 = some ⟨.func, 1, 8, fun m => [.nilfn].getD m .any, false⟩ := rfl
@[simp] theorem T116 : T 116 = some ⟨.func, 1, 8, fun m => [.nilfn].getD m .any, false⟩ := rfl
@[simp] theorem T117 : T 117 = some ⟨.func, 1, 8, fun m => [.nilfn].getD m .any, false⟩ := rfl
@[simp] theorem T118 : T 118 = some ⟨.func, 1, 8, fun m => [.nilfn].getD m .any, false⟩ := rfl
@[simp] theorem T119 : T 119 = some ⟨.func, 1, 8, fun m => [.nilfn].getD m .any, false⟩ := rfl
@[simp] theorem T121 : T 121 = some ⟨.func, 1, 8, fun m => [.nilfn].getD m .any, false⟩ := rfl
@[simp] theorem T122 : T 122 = some ⟨.func, 1, 8, fun m => [.nilfn].getD m .any, false⟩ := rfl
@[simp] theorem T123 : T 123 = some ⟨.ptr 5, 1, 8, fun m => [.nilp].getD m .any, false⟩ := rfl
@[simp] theorem T124 : T 124 = some ⟨.func, 1, 8, fun m => [.nilfn].getD m .any, false⟩ := rfl
@[simp] theorem T125 : T 125 = some ⟨.func, 1, 8, fun m => [.nilfn].getD m .any, false⟩ := rfl
@[simp] theorem T126 : T 126 = some ⟨.func, 1, 8, fun m => [.nilfn].getD m .any, false⟩ := rfl
@[simp] theorem T127 : T 127 = some ⟨.func, 1, 8, fun m => [.nilfn].getD m .any, false⟩ := rfl
@[simp] theorem T128 : T 128 = some ⟨.func, 1, 8, fun m => [.nilfn].getD m .any, false⟩ := rfl
@[simp] theorem T129 : T 129 = some ⟨.func, 1, 8, fun m => [.nilfn].getD m .any, false⟩ := rfl
@[simp] theorem T130 : T 130 = some ⟨.int .u64, 1, 8, fun m => [.int .u64 0].getD m .any, false⟩ := rfl
@[simp] theorem T131 : T 131 = some ⟨.func, 1, 8, fun m => [.nilfn].getD m .any, false⟩ := rfl
@[simp] theorem T132 : T 132 = some ⟨.func, 1, 8, fun m => [.nilfn].getD m .any, false⟩ := rfl
@[simp] theorem T133 : T 133 = some ⟨.func, 1, 8, fun m => [.nilfn].getD m .any, false⟩ := rfl
@[simp] theorem T134 : T 134 = some ⟨.func, 1, 8, fun m => [.nilfn].getD m .any, false⟩ := rfl
@[simp] theorem T135 : T 135 = some ⟨.func, 1, 8, fun m => [.nilfn].getD m .any, false⟩ := rfl
@[simp] theorem T136 : T 136 = some ⟨.func, 1, 8, fun m => [.nilfn].getD m .any, false⟩ := rfl
@[simp] theorem T138 : T 138 = some ⟨.func, 1, 8, fun m => [.nilfn].getD m .any, false⟩ := rfl
@[simp] theorem T139 : T 139 = some ⟨.func, 1, 8, fun m => [.nilfn].getD m .any, false⟩ := rfl
@[simp] theorem T140 : T 140 = some ⟨.func, 1, 8, fun m => [.nilfn].getD m .any, false⟩ := rfl
@[simp] theorem T141 : T 141 = some ⟨.func, 1, 8, fun m => [.nilfn].getD m .any, false⟩ := rfl
@[simp] theorem T142 : T 142 = some ⟨.int .i64, 1, 8, fun m => [.int .i64 0].getD m .any, false⟩ := rfl
@[simp] theorem T144 : T 144 = some ⟨.func, 1, 8, fun m => [.nilfn].getD m .any, false⟩ := rfl
@[simp] theorem T145 : T 145 = some ⟨.func, 1, 8, fun m => [.nilfn].getD m .any, false⟩ := rfl
@[simp] theorem T146 : T 146 = some ⟨.func, 1, 8, fun m => [.nilfn].getD m .any, false⟩ := rfl
@[simp] theorem T147 : T 147 = some ⟨.func, 1, 8, fun m => [.nilfn].getD m .any, false⟩ := rfl
@[simp] theorem T148 : T 148 = some ⟨.func, 1, 8, fun m => [.nilfn].getD m .any, false⟩ := rfl
@[simp] theorem T149 : T 149 = some ⟨.func, 1, 8, fun m => [.nilfn].getD m .any, false⟩ := rfl
@[simp] theorem T150 : T 150 = some ⟨.int .u32, 1, 4, fun m => [.int .u32 0].getD m .any, false⟩ := rfl
@[simp] theorem T151 : T 151 = some ⟨.func, 1, 8, fun m => [.nilfn].getD m .any, false⟩ := rfl
@[simp] theorem T152 : T 152 = some ⟨.int .u64, 1, 8, fun m => [.int .u64 0].getD m .any, false⟩ := rfl
@[simp] theorem T153 : T 153 = some ⟨.func, 1, 8, fun m => [.nilfn].getD m .any, false⟩ := rfl
@[simp] theorem T154 : T 154 = some ⟨.map 9 3, 1, 8, fun m => [.nilmap].getD m .any, false⟩ := rfl
@[simp] theorem T155 : T 155 = some ⟨.func, 1, 8, fun m => [.nilfn].getD m .any, false⟩ := rfl
@[simp] theorem T156 : T 156 = some ⟨.func, 1, 8, fun m => [.nilfn].getD m .any, false⟩ := rfl
@[simp] theorem T158 : T 158 = some ⟨.func, 1, 8, fun m => [.nilfn].getD m .any, false⟩ := rfl
@[simp] theorem T159 : T 159 = some ⟨.func, 1, 8, fun m => [.nilfn].getD m .any, false⟩ := rfl
@[simp] theorem T160 : T 160 = some ⟨.func, 1, 8, fun m => [.nilfn].getD m .any, false⟩ := rfl
@[simp] theorem T161 : T 161 = some ⟨.func, 1, 8, fun m => [.nilfn].getD m .any, false⟩ := rfl
@[simp] theorem T162 : T 162 = some ⟨.func, 1, 8, fun m => [.nilfn].getD m .any, false⟩ := rfl
@[simp] theorem T163 : T 163 = some ⟨.func, 1, 8, fun m => [.nilfn].getD m .any, false⟩ := rfl
@[simp] theorem T164 : T 164 = some ⟨.int .u64, 1, 8, fun m => [.int .u64 0].getD m .any, false⟩ := rfl
@[simp] theorem T165 : T 165 = some ⟨.func, 1, 8, fun m => [.nilfn].getD m .any, false⟩ := rfl
@[simp] theorem T166 : T 166 = some ⟨.func, 1, 8, fun m => [.nilfn].getD m .any, false⟩ := rfl
@[simp] theorem T167 : T 167 = some ⟨.func, 1, 8, fun m => [.nilfn].getD m .any, false⟩ := rfl
@[simp] theorem T168 : T 168 = some ⟨.ptr 3, 1, 8, fun m => [.nilp].getD m .any, false⟩ := rfl
@[simp] theorem T169 : T 169 = some ⟨.func, 1, 8, fun m => [.nilfn].getD m .any, false⟩ := rfl
@[simp] theorem T170 : T 170 = some ⟨.func, 1, 8, fun m => [.nilfn].getD m .any, false⟩ := rfl
@[simp] theorem T171 : T 171 = some ⟨.arr 24 5, 24, 24, fun m => zs171.getD m .any, false⟩ := rfl
@[simp] theorem T172 : T 172 = some ⟨.func, 1, 8, fun m => [.nilfn].getD m .any, false⟩ := rfl
@[simp] theorem T174 : T 174 = some ⟨.func, 1, 8, fun m => [.nilfn].getD m .any, false⟩ := rfl
@[simp] theorem T175 : T 175 = some ⟨.func, 1, 8, fun m => [.nilfn].getD m .any, false⟩ := rfl
@[simp] theorem T176 : T 176 = some ⟨.func, 1, 8, fun m => [.nilfn].getD m .any, false⟩ := rfl
@[simp] theorem T177 : T 177 = some ⟨.func, 1, 8, fun m => [.nilfn].getD m .any, false⟩ := rfl
@[simp] theorem T178 : T 178 = some ⟨.func, 1, 8, fun m => [.nilfn].getD m .any, false⟩ := rfl
@[simp] theorem T179 : T 179 = some ⟨.func, 1, 8, fun m => [.nilfn].getD m .any, false⟩ := rfl
@[simp] theorem T180 : T 180 = some ⟨.ptr 164, 1, 8, fun m => [.nilp].getD m .any, false⟩ := rfl
@[simp] theorem T182 : T 182 = some ⟨.func, 1, 8, fun m => [.nilfn].getD m .any, false⟩ := rfl
@[simp] theorem T183 : T 183 = some ⟨.func, 1, 8, fun m => [.nilfn].getD m .any, false⟩ := rfl
@[simp] theorem T184 : T 184 = some ⟨.func, 1, 8, fun m => [.nilfn].getD m .any, false⟩ := rfl
@[simp] theorem T185 : T 185 = some ⟨.arr 20 152, 20, 160, fun m => zs185.getD m .any, false⟩ := rfl
@[simp] theorem T187 : T 187 = some ⟨.map 3 4, 1, 8, fun m => [.nilmap].getD m .any, false⟩ := rfl
@[simp] theorem T188 : T 188 = some ⟨.func, 1, 8, fun m => [.nilfn].getD m .any, false⟩ := rfl
@[simp] theorem T189 : T 189 = some ⟨.func, 1, 8, fun m => [.nilfn].getD m .any, false⟩ := rfl
@[simp] theorem T190 : T 190 = some ⟨.func, 1, 8, fun m => [.nilfn].getD m .any, false⟩ := rfl
@[simp] theorem T191 : T 191 = some ⟨.func, 1, 8, fun m => [.nilfn].getD m .any, false⟩ := rfl
@[simp] theorem T192 : T 192 = some ⟨.func, 1, 8, fun m => [.nilfn].getD m .any, false⟩ := rfl
@[simp] theorem T193 : T 193 = some ⟨.func, 1, 8, fun m => [.nilfn].getD m .any, false⟩ := rfl
@[simp] theorem T194 : T 194 = some ⟨.func, 1, 8, fun m => [.nilfn].getD m .any, false⟩ := rfl
@[simp] theorem T195 : T 195 = some ⟨.arr 32 5, 32, 32, fun m => zs195.getD m .any, false⟩ := rfl
@[simp] theorem T196 : T 196 = some ⟨.arr 64 5, 64, 64, fun m => zs196.getD m .any, false⟩ := rfl
@[simp] theorem T197 : T 197 = some ⟨.func, 1, 8, fun m => [.nilfn].getD m .any, false⟩ := rfl
@[simp] theorem T198 : T 198 = some ⟨.struct [(0, 17), (1, 17), (2, 17), (3, 9)], 4, 40, fun m => [.nilp, .nilp, .nilp, .str []].getD m .any, false⟩ := rfl
@[simp] theorem T199 : T 199 = some ⟨.struct [(0, 17), (1, 17), (2, 17), (3, 9)], 4, 40, fun m => [.nilp, .nilp, .nilp, .str []].getD m .any, false⟩ := rfl
@[simp] theorem T200 : T 200 = some ⟨.arr 0 16, 0, 0, fun m => [].getD m .any, false⟩ := rfl
@[simp] theorem T201 : T 201 = some ⟨.struct [(0, 200)], 0, 0, fun m => [].getD m .any, false⟩ := rfl
@[simp] theorem T202 : T 202 = some ⟨.struct [(0, 200)], 0, 0, fun m => [].getD m .any, false⟩ := rfl
@[simp] theorem T203 : T 203 = some ⟨.int .u8, 1, 1, fun m => [.int .u8 0].getD m .any, false⟩ := rfl
@[simp] theorem T204 : T 204 = some ⟨.int .u8, 1, 1, fun m => [.int .u8 0].getD m .any, false⟩ := rfl
@[simp] theorem T205 : T 205 = some ⟨.func, 1, 8, fun m => [.nilfn].getD m .any, false⟩ := rfl
@[simp] theorem T206 : T 206 = some ⟨.int .i32, 1, 4, fun m => [.int .i32 0].getD m .any, false⟩ := rfl
@[simp] theorem T207 : T 207 = some ⟨.int .i32, 1, 4, fun m => [.int .i32 0].getD m .any, false⟩ := rfl
@[simp] theorem T208 : T 208 = some ⟨.struct [(0, 12), (1, 12), (2, 150), (3, 203), (4, 5), (5, 5), (6, 204), (7, 205), (8, 123), (9, 206), (10, 207)], 11, 48, fun m => [.int .u64 0, .int .u64 0, .int .u32 0, .int .u8 0, .int .u8 0, .int .u8 0, .int .u8 0, .nilfn, .nilp, .int .i32 0, .int .i32 0].getD m .any, false⟩ := rfl
@[simp] theorem T209 : T 209 = some ⟨.struct [(0, 12), (1, 12), (2, 150), (3, 203), (4, 5), (5, 5), (6, 204), (7, 205), (8, 123), (9, 206), (10, 207)], 11, 48, fun m => [.int .u64 0, .int .u64 0, .int .u32 0, .int .u8 0, .int .u8 0, .int .u8 0, .int .u8 0, .nilfn, .nilp, .int .i32 0, .int .i32 0].getD m .any, false⟩ := rfl
end Go.Proofs.YtchjjiedcpfniaaGreatDoor
