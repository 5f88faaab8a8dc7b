/- Parts of the proof: WB WC SI. -/
import Derived.Test.YtchjjiedcpfniaaGreatDoorProg
import Derived.Shelf.SortG.Plain
import Derived.KernelRfl
import Derived.Test.YtchjjiedcpfniaaGreatDoorK10
import Derived.Test.YtchjjiedcpfniaaGreatDoorK12
import Derived.Test.YtchjjiedcpfniaaGreatDoorK16
import Derived.Test.YtchjjiedcpfniaaGreatDoorK17
import Derived.Test.YtchjjiedcpfniaaGreatDoorK18
namespace Go.Proofs.YtchjjiedcpfniaaGreatDoor
set_option linter.unusedSimpArgs false
set_option linter.unusedVariables false
open Go Go.Lift Go.Proofs
theorem app_oneI {K : List Int} {x : Int} {w : Nat → Nat → AVal} {i : Nat} (hw : w 0 0 = .int .i64 x) (hi : i < K.length + 1) : app (fun p _ => .int .i64 (K.getD p 0)) K.length w i 0 = .int .i64 ((K ++ [x]).getD i 0) := by
  unfold app
  by_cases h : i < K.length
  · rw [if_pos h]; simp [List.getD, List.getElem?_append_left h]
  · obtain rfl : i = K.length := by omega
    rw [if_neg h, Nat.sub_self, hw]; simp [List.getD]
end Go.Proofs.YtchjjiedcpfniaaGreatDoor
namespace Go.Proofs.YtchjjiedcpfniaaGreatDoor
set_option linter.unusedSimpArgs false
set_option linter.unusedVariables false
open Go Go.Lift Go.Proofs
theorem mul_le16 {m x : Int} (hm : 1 ≤ m ∧ m ≤ 256) (hx : -5000000000 ≤ x ∧ x ≤ 5000000) : -1280000000000 ≤ m * x ∧ m * x ≤ 1280000000 := by
  have h1 := Int.mul_le_mul_of_nonneg_left hx.2 (show 0 ≤ m by omega)
  have h2 := Int.mul_le_mul_of_nonneg_left hx.1 (show 0 ≤ m by omega)
  omega
theorem wt_box {g : Gr} {v : List Int} {m : Int} {x : Spl} (hb : BoxV v) (hm : 1 ≤ m) (hx : SplOK g x) {i : Nat} (hi : i < x.parts.length) : -5000000000 ≤ wtI g v m x i ∧ wtI g v m x i ≤ 5000000 := by
  have h1 := lfA_box hb hm hx i hi
  have hn := hx.num
  have hl := hx.len _ (getD_mem (d := []) hi)
  have h2 := psA_box (g := g) (p := x.parts.getD i []) hb (x.parts.getD i []).length
  have h3 : 0 ≤ psV g v (x.parts.getD i []) / m := Int.ediv_nonneg h2.1 (by omega)
  have h4 : psV g v (x.parts.getD i []) / m ≤ psV g v (x.parts.getD i []) := Int.ediv_le_self _ h2.1
  have h5 : psV g v (x.parts.getD i []) ≤ ((x.parts.getD i []).length : Int) * 4096 := h2.2
  unfold wtI
  split <;> omega
set_option maxRecDepth 100000 in
theorem minC_c (l : List Int) (h0 : 0 < l.length) (hl : l.length ≤ 1000000) : PC Tryz.prog 118 [ints l] (.int .i64 (mnV l)) := by
 refine zp Tryz.func118 fun G hG hR => ?_
 refine zs (zr ?_)
 refine zs (zs (zr ?_))
 refine awpS_cond rfl (fun hb7 => ?_) (fun hb7 => ?_)
 · simp at hb7; omega
 try simp [-List.getD_eq_getElem?_getD] at hb7
 refine zk (zs (zr ?_))
 refine zs (zs (zr ?_))
 refine zb ?_
 refine awpS_loop (α := Nat) (fun i => ⟨[(0, ints l), (3, .int .i64 (mnA l i)), (4, .int .i64 ((i : Int) + 1))], [], 0⟩) (fun i => i + 1 ≤ l.length) (fun i => l.length - i) (0) (h0) ?_ ?_
 · exact zi (e := by simp [hG, List.getD_cons_zero, List.getD_cons_succ, -List.getD_eq_getElem?_getD]; rfl)
 rintro i hi
 refine zs (zs (zr ?_))
 refine zy (fun hb15 => ?_) fun hb15 => ?_
 · refine zk (zs (zb (zr ?_)))
   refine zn (zbn (zr ?_))
   refine zn ?_
   refine round_end (i + 1) (by omega) (by omega) ?_
   exact zi (e := by simp [hG, List.getD_cons_zero, List.getD_cons_succ, -List.getD_eq_getElem?_getD]; rfl)
 obtain hil : i = l.length - 1 := (by omega)
 refine zx (ztx (zbx (zs (zr ?_))))
 refine zt ?_
 refine RetOK_of ?_
 simp [hG, List.getD_cons_zero, List.getD_cons_succ, -List.getD_eq_getElem?_getD]
 unfold mnV; rw [hil]
set_option maxRecDepth 100000 in
set_option maxHeartbeats 1000000 in
theorem weights_c (g : Gr) (v : List Int) (m : Int) (x : Spl) (hv : gcheck g = 0) (hl : (v.length : Int) = g.states) (hbx : BoxV v) (hm : 1 ≤ m ∧ m ≤ 256) (hx : SplOK g x) (hn : 0 < x.parts.length) : PC Tryz.prog 85 [.agg 3 (grF g), ints v, .int .i64 m, .agg 2 (splF x)] (.tup 2 (fun j => [ints (wtL g v m x), .bool (wtB g v m x)].getD j .any)) := by
 have hxs := hx.st
 have hxn := hx.num
 refine zp Tryz.func85 fun G hG hR => ?_
 refine zs (zrP ?_)
 refine zs (zrP ?_)
 refine zs (zrP ?_)
 refine zs (zs (zrP ?_))
 refine zb ?_
 refine awpS_loop (α := Nat) (fun i => ⟨[(1, ints v), (2, .int .i64 m), (4, .ptr (0, 0) 0 0), (7, .ptr (1, 0) 0 0), (10, .int .i64 (lfA g v m x i)), (11, .int .i64 (psP g v x i)), (12, .sl (2, 0) 0 i), (24, rowsI x.parts), (25, .int .i64 x.parts.length), (26, .int .i64 i)], [(0, .one (.arr 1 3 (fun _ => grF g))), (1, .one (.arr 1 2 (fun _ => splF x))), (2, .one (.arr i 1 (fun q _ => .int .i64 (wtI g v m x q))))], 3⟩) (fun i => i ≤ x.parts.length) (fun i => x.parts.length - i) (0) (Nat.zero_le _) ?_ ?_
 · exact zwP (id) (fun _ => false) (fun k => k == 2) (e := by simp [hG, List.getD_cons_zero, List.getD_cons_succ, -List.getD_eq_getElem?_getD]; exact ⟨rfl, rfl⟩)
 rintro i hi
 refine zs (zrP ?_)
 refine zs (zy (fun hb27 => ?_) fun hb27 => ?_)
 · have hil : i < x.parts.length := (by omega)
   have hpm := getD_mem (d := ([] : List Int)) hil
   have hpl := hx.len _ hpm
   have hpb := hx.box _ hpm
   have hlb := lfA_box hbx hm.1 hx i hil
   have hwb := wt_box hbx hm.1 hx hil
   refine zk (zs (zb (zs (zrP ?_))))
   refine zs (zrP ?_)
   refine zs (zs (zrP ?_))
   refine zb ?_
   refine awpS_loop (α := Nat) (fun q => ⟨[(1, ints v), (2, .int .i64 m), (4, .ptr (0, 0) 0 0), (7, .ptr (1, 0) 0 0), (10, .int .i64 (lfA g v m x i)), (11, .int .i64 (psA g v (x.parts.getD i []) q)), (12, .sl (2, 0) 0 i), (13, .int .i64 i), (24, rowsI x.parts), (25, .int .i64 x.parts.length), (26, .int .i64 i), (31, ints (x.parts.getD i [])), (32, .int .i64 (x.parts.getD i []).length), (33, .int .i64 q)], [(0, .one (.arr 1 3 (fun _ => grF g))), (1, .one (.arr 1 2 (fun _ => splF x))), (2, .one (.arr i 1 (fun q _ => .int .i64 (wtI g v m x q))))], 3⟩) (fun q => q ≤ (x.parts.getD i []).length) (fun q => (x.parts.getD i []).length - q) (0) (Nat.zero_le _) ?_ ?_
   · exact ziP (e := by simp [hG, List.getD_cons_zero, List.getD_cons_succ, -List.getD_eq_getElem?_getD]; rfl)
   rintro q hq
   refine zs (zrP ?_)
   refine zs (zy (fun hb34 => ?_) fun hb34 => ?_)
   · have hki := hpb _ (getD_mem (d := (0 : Int)) (show q < (x.parts.getD i []).length by omega))
     have heb := edge_in hv (getD_mem (d := de) (show ((x.parts.getD i []).getD q 0).toNat < g.edges.length by omega))
     have hps := psA_box (g := g) (p := (x.parts.getD i [])) hbx q
     have hvb := box_at hbx (g.edges.getD ((x.parts.getD i []).getD q 0).toNat de).to.toNat
     refine zk (zs (zb (zs (zrP ?_))))
     refine zrP ?_
     refine zn (zbn (zrP ?_))
     refine zn ?_
     refine round_end (q + 1) (by omega) (by omega) ?_
     exact ziP (e := by simp [hG, List.getD_cons_zero, List.getD_cons_succ, -List.getD_eq_getElem?_getD]; rfl)
   obtain rfl : q = (x.parts.getD i []).length := (by omega)
   have hps := psA_box (g := g) (p := (x.parts.getD i [])) hbx (x.parts.getD i []).length
   have hq1 : 0 ≤ psA g v (x.parts.getD i []) (x.parts.getD i []).length / m := Int.ediv_nonneg hps.1 (by omega)
   have hq2 : psA g v (x.parts.getD i []) (x.parts.getD i []).length / m ≤ psA g v (x.parts.getD i []) (x.parts.getD i []).length := Int.ediv_le_self _ hps.1
   refine zx (ztx (zbx (zs (zrP ?_))))
   refine zs (zs (zrP ?_))
   refine zy (fun hb57 => ?_) fun hb57 => ?_
   · have hw : wtI g v m x i = lfA g v m x i := if_pos (by omega)
     refine zrP ?_
     refine zs (zrP ?_)
     refine zrP ?_
     refine zn (zbn (zrP ?_))
     refine zn ?_
     refine round_end (i + 1) (by omega) (by omega) ?_
     exact zw (fun k => if k = 2 then 4 else k) (fun _ => false) (fun _ => false) (e := by rw [lfA_succ, hw, psP_succ]; simp [hG, List.getD_cons_zero, List.getD_cons_succ, -List.getD_eq_getElem?_getD]; rfl) (h := by simp [hG, List.getD_cons_zero, List.getD_cons_succ, -List.getD_eq_getElem?_getD]; exact fun q hq => app_last hq hw)
   have hw : wtI g v m x i = psA g v (x.parts.getD i []) (x.parts.getD i []).length / m := if_neg (by omega)
   refine zk (zs (zrP ?_))
   refine zrP ?_
   refine zn (zbn (zrP ?_))
   refine zn ?_
   refine round_end (i + 1) (by omega) (by omega) ?_
   exact zw (fun k => if k = 2 then 4 else k) (fun _ => false) (fun _ => false) (e := by rw [lfA_succ, hw, psP_succ]; simp [hG, List.getD_cons_zero, List.getD_cons_succ, -List.getD_eq_getElem?_getD]; rfl) (h := by simp [hG, List.getD_cons_zero, List.getD_cons_succ, -List.getD_eq_getElem?_getD]; exact fun q hq => app_last hq hw)
 obtain rfl : i = x.parts.length := (by omega)
 have hwb := wt_box hbx hm.1 hx (show x.parts.length - 1 < x.parts.length by omega)
 have hmw := mul_le16 hm hwb
 have hpp := psP_last (g := g) (v := v) hn
 refine zx (ztx (zbx (zs ?_)))
 refine awpS_draw hR mixed [] ⟨[], [], []⟩ fun mu0 => ?_
 refine zaP [0, 1] [] 16 [1, 0] ?_
 refine awpA_only (fuel := 15) (i := 2) (by decide +kernel) ?_
 refine awpO_callB (mem [2]) cal118 (by simp [flat]) rfl rfl rfl (fun _ => rfl) (fun hg => minC_c (wtL g v m x) (by rw [wtL_len]; exact hn) (by rw [wtL_len]; omega)) (fun hg => ?_) (fun hg => ?_) fun K hK => ?_
 · simp [hG, List.getD_cons_zero, List.getD_cons_succ, -List.getD_eq_getElem?_getD, pureOp]
 · simp [hG, List.getD_cons_zero, List.getD_cons_succ, -List.getD_eq_getElem?_getD]; exact ⟨wtL_len.symm, Nat.le_of_eq wtL_len, fun q hq => (wtA_at (by rw [wtL_len] at hq; exact hq)).symm⟩
 simp [hG, List.getD_cons_zero, List.getD_cons_succ, -List.getD_eq_getElem?_getD, pureOp]
 refine hK _ ?_
 clear K hK
 refine zaP [3, 4, 5, 6, 7, 8, 9, 10, 11, 12, 13, 14, 15, 16, 17] [] 0 [17, 16, 15, 14, 13, 12, 11, 10, 9, 8, 7, 6, 5, 4, 3, 2, 1, 0] ?_
 refine awpA_done (by decide +kernel) ?_
 refine zt ?_
 refine RetOK_of ?_
 simp [hG, List.getD_cons_zero, List.getD_cons_succ, -List.getD_eq_getElem?_getD, pureOp]
 refine ⟨⟨wtL_len.symm, Nat.le_of_eq wtL_len, fun q hq => (wtA_at (by rw [wtL_len] at hq; exact hq)).symm⟩, ?_⟩; unfold wtB; rw [hpp]; congr 1; rw [Bool.eq_iff_iff, decide_eq_true_eq]; exact mnV_ge (by rw [wtL_len]; exact hn)
end Go.Proofs.YtchjjiedcpfniaaGreatDoor
namespace Go.Proofs.YtchjjiedcpfniaaGreatDoor
open Go Go.Proofs
def sortI_ren : Go.Shelf.Ren := ⟨fun | 53 => 45 | 64 => 70 | 63 => 69 | 78 => 100 | 79 => 101 | 70 => 91 | 71 => 92 | 72 => 93 | 73 => 94 | 74 => 95 | 75 => 96 | 59 => 97 | 76 => 98 | 77 => 99 | 88 => 122 | 89 => 123 | 90 => 124 | 91 => 125 | 92 => 126 | 68 => 127 | 96 => 144 | n => n, fun | 22 => 25 | 23 => 3 | 3 => 3 | 51 => 130 | 0 => 0 | 67 => 150 | 69 => 152 | 4 => 4 | 61 => 143 | 60 => 142 | 44 => 108 | 5 => 5 | 9 => 9 | 75 => 164 | 79 => 168 | 83 => 180 | 84 => 181 | n => n, fun | n => n⟩
theorem sortI : Go.Proofs.SlLaysN.n53 Tryz.prog sortI_ren := {
  mixed := by kernel_rfl,
  f53 := ⟨"slices.Sort[[]int,int]", by decide, Tryz.func45.trans (congrArg some (by kernel_rfl))⟩,
  f59 := ⟨"cmp.Less[int]", by decide, Tryz.func97.trans (congrArg some (by kernel_rfl))⟩,
  f63 := ⟨"slices.pdqsortOrdered[int]", by decide, Tryz.func69.trans (congrArg some (by kernel_rfl))⟩,
  f64 := Tryz.func70.trans (congrArg some (by kernel_rfl)),
  f68 := ⟨"cmp.isNaN[int]", by decide, Tryz.func127.trans (congrArg some (by kernel_rfl))⟩,
  f70 := ⟨"slices.insertionSortOrdered[int]", by decide, Tryz.func91.trans (congrArg some (by kernel_rfl))⟩,
  f71 := ⟨"slices.heapSortOrdered[int]", by decide, Tryz.func92.trans (congrArg some (by kernel_rfl))⟩,
  f72 := ⟨"slices.breakPatternsOrdered[int]", by decide, Tryz.func93.trans (congrArg some (by kernel_rfl))⟩,
  f73 := ⟨"slices.choosePivotOrdered[int]", by decide, Tryz.func94.trans (congrArg some (by kernel_rfl))⟩,
  f74 := ⟨"slices.reverseRangeOrdered[int]", by decide, Tryz.func95.trans (congrArg some (by kernel_rfl))⟩,
  f75 := ⟨"slices.partialInsertionSortOrdered[int]", by decide, Tryz.func96.trans (congrArg some (by kernel_rfl))⟩,
  f76 := ⟨"slices.partitionEqualOrdered[int]", by decide, Tryz.func98.trans (congrArg some (by kernel_rfl))⟩,
  f77 := ⟨"slices.partitionOrdered[int]", by decide, Tryz.func99.trans (congrArg some (by kernel_rfl))⟩,
  f78 := Tryz.func100.trans (congrArg some (by kernel_rfl)),
  f79 := Tryz.func101.trans (congrArg some (by kernel_rfl)),
  f88 := ⟨"slices.siftDownOrdered[int]", by decide, Tryz.func122.trans (congrArg some (by kernel_rfl))⟩,
  f89 := Tryz.func123.trans (congrArg some (by kernel_rfl)),
  f90 := Tryz.func124.trans (congrArg some (by kernel_rfl)),
  f91 := ⟨"slices.medianAdjacentOrdered[int]", by decide, Tryz.func125.trans (congrArg some (by kernel_rfl))⟩,
  f92 := ⟨"slices.medianOrdered[int]", by decide, Tryz.func126.trans (congrArg some (by kernel_rfl))⟩,
  f96 := ⟨"slices.order2Ordered[int]", by decide, Tryz.func144.trans (congrArg some (by kernel_rfl))⟩,
  t0 := Tryz.underlying0,
  a0 := Tryz.isAgg0,
  z0 := Tryz.sizeOf0,
  v0 := Tryz.zeroValue0,
  t3 := Tryz.underlying3,
  a3 := Tryz.isAgg3,
  z3 := Tryz.sizeOf3,
  v3 := Tryz.zeroValue3,
  t4 := Tryz.underlying4,
  a4 := Tryz.isAgg4,
  z4 := Tryz.sizeOf4,
  v4 := Tryz.zeroValue4,
  t5 := Tryz.underlying5,
  a5 := Tryz.isAgg5,
  z5 := Tryz.sizeOf5,
  v5 := Tryz.zeroValue5,
  t9 := Tryz.underlying9,
  a9 := Tryz.isAgg9,
  z9 := Tryz.sizeOf9,
  v9 := Tryz.zeroValue9,
  t22 := Tryz.underlying25,
  a22 := Tryz.isAgg25,
  z22 := Tryz.sizeOf25,
  v22 := Tryz.zeroValue25,
  t23 := Tryz.underlying3,
  a23 := Tryz.isAgg3,
  z23 := Tryz.sizeOf3,
  v23 := Tryz.zeroValue3,
  t44 := Tryz.underlying108,
  a44 := Tryz.isAgg108,
  z44 := Tryz.sizeOf108,
  v44 := Tryz.zeroValue108,
  t51 := Tryz.underlying130,
  a51 := Tryz.isAgg130,
  z51 := Tryz.sizeOf130,
  v51 := Tryz.zeroValue130,
  t60 := Tryz.underlying142,
  a60 := Tryz.isAgg142,
  z60 := Tryz.sizeOf142,
  v60 := Tryz.zeroValue142,
  t61 := Tryz.underlying143,
  a61 := Tryz.isAgg143,
  z61 := Tryz.sizeOf143,
  v61 := Tryz.zeroValue143,
  t67 := Tryz.underlying150,
  a67 := Tryz.isAgg150,
  z67 := Tryz.sizeOf150,
  v67 := Tryz.zeroValue150,
  t69 := Tryz.underlying152,
  a69 := Tryz.isAgg152,
  z69 := Tryz.sizeOf152,
  v69 := Tryz.zeroValue152,
  t75 := Tryz.underlying164,
  a75 := Tryz.isAgg164,
  z75 := Tryz.sizeOf164,
  v75 := Tryz.zeroValue164,
  t79 := Tryz.underlying168,
  a79 := Tryz.isAgg168,
  z79 := Tryz.sizeOf168,
  v79 := Tryz.zeroValue168,
  t83 := Tryz.underlying180,
  a83 := Tryz.isAgg180,
  z83 := Tryz.sizeOf180,
  v83 := Tryz.zeroValue180,
  t84 := Tryz.underlying181,
  a84 := Tryz.isAgg181,
  z84 := Tryz.sizeOf181,
  v84 := Tryz.zeroValue181 }
end Go.Proofs.YtchjjiedcpfniaaGreatDoor
namespace Go.Proofs.YtchjjiedcpfniaaGreatDoor
set_option linter.unusedSimpArgs false
set_option linter.unusedVariables false
open Go Go.Lift Go.Proofs Go.Sort Go.Shelf
theorem ty_one {o : HObj} {id : Lift.Id} : tyH [(0, .one o)] id = none := by
  obtain ⟨a, b⟩ := id
  simp only [tyH]
  split
  · cases b <;> rfl
  · rfl
def hinI (l : List Int) : Heap := [(0, .one (.arr l.length 1 (fun i _ => .int .i64 (l.getD i 0))))]
theorem lk_hinI {n : Nat} {x : List Int} {id : Lift.Id} {o : HObj} (h : lkH [(0, .one (.arr n 1 (fun i _ => .int .i64 (x.getD i 0))))] id = some o) : id = (0, 0) ∧ o = .arr n 1 (fun i _ => .int .i64 (x.getD i 0)) := by
  obtain ⟨a, b⟩ := id
  simp only [lkH] at h
  by_cases ha : 0 = a
  · subst ha
    rw [if_pos rfl] at h
    cases b with
    | zero => simp only [HEnt.get] at h; injection h with h; exact ⟨rfl, h.symm⟩
    | succ b => simp [HEnt.get] at h
  · rw [if_neg ha] at h; cases h
set_option maxHeartbeats 1000000 in
theorem sortI_pos (l : List Int) (h0 : 0 < l.length) (hl : l.length ≤ 1000000) :
    FC1 Tryz.prog 45 [.sl (0, 0) 0 l.length] (hinI l) 1 .any [(0, .one (.arr l.length 1 (fun i _ => .int .i64 ((srtI l).getD i 0))))] 1 := by
  intro O w mu vals hk hargs
  match vals, hargs with
  | [v0], ⟨r0, _⟩ =>
  obtain ⟨_, A, cap, rfl, hcap, hA⟩ := r0
  obtain ⟨B, hB0, rfl, hsz⟩ := hA.resolve_left (by omega)
  have hB : mu (0, 0) = some B := hB0
  have hlk : lkH (hinI l) (0, 0) = some (.arr l.length 1 (fun i _ => .int .i64 (l.getD i 0))) := rfl
  have hobj := (hk.obj (0, 0) _ hlk).2
  rw [hB] at hobj
  obtain ⟨hs, cells, T, hheap0, hcsz, hbd, hcell⟩ := hobj
  have hheap : w.heap[B.b]? = some (.cells cells T (0, 0)) := hheap0
  have hown := hk.own (0, 0) _ B hlk hB
  have hat : ∀ t, t < l.length → cells[B.o + t]? = some (.int .i64 (l.getD t 0)) := fun t ht => by
    obtain ⟨_, v, hv, hr⟩ := hcell t ht 0 (by decide)
    have hr' : v = .int .i64 (l.getD t 0) := hr
    rw [hr', Nat.mul_one, Nat.add_zero] at hv
    exact hv
  have hget : ∀ i, i < l.length → (l.toArray)[i]! = l.getD i 0 := fun i hi => by simp [List.getD, hi]
  have hH : Holds (Value.int .i64) w B.b B.o l.toArray := by
    intro t ht
    have ht' : t < l.length := by simpa using ht
    rw [hget _ ht']
    refine ⟨?_, ?_⟩
    · show w.cell? _ = _
      unfold World.cell?
      simp only [hheap, Option.isSome_none]
      exact hat t ht'
    · unfold World.frozen?
      simp only [hheap]
      simp
  have hblk : B.b < w.heap.size := hown.1
  have hrow : ∀ (m : Nat) (dk : Array Int) (os : Array Obj), (Go.Sort.grow (putRow (Value.int .i64) (Go.Sort.ahead w m) B.b B.o dk) os).heap[B.b]? = some (.cells (putCells (Value.int .i64) B.o dk cells) T (0, 0)) := fun m dk os => by
    rw [heap_grow_old _ _ (by rw [show (putRow (Value.int .i64) (Go.Sort.ahead w m) B.b B.o dk).heap.size = w.heap.size by simp [putRow, mapBlock, Go.Sort.ahead]]; exact hblk)]
    show (w.heap.modify B.b _)[B.b]? = _
    rw [Array.getElem?_modify, if_pos rfl, hheap]
    rfl
  have hoth : ∀ (m : Nat) (dk : Array Int) (os : Array Obj) (b : Nat), b < w.heap.size → b ≠ B.b → (Go.Sort.grow (putRow (Value.int .i64) (Go.Sort.ahead w m) B.b B.o dk) os).heap[b]? = w.heap[b]? := fun m dk os b hb hne => by
    rw [heap_grow_old _ _ (by rw [show (putRow (Value.int .i64) (Go.Sort.ahead w m) B.b B.o dk).heap.size = w.heap.size by simp [putRow, mapBlock, Go.Sort.ahead]]; exact hb)]
    show (w.heap.modify B.b _)[b]? = _
    rw [Array.getElem?_modify, if_neg (Ne.symm hne)]
  have hsize : ∀ (m : Nat) (dk : Array Int) (os : Array Obj), w.heap.size ≤ (Go.Sort.grow (putRow (Value.int .i64) (Go.Sort.ahead w m) B.b B.o dk) os).heap.size := fun m dk os => by
    simp [Go.Sort.grow, putRow, mapBlock, Go.Sort.ahead]
  have key := AnyG.slices_Sort_int sortI B.b B.o cap l w hH hblk (by omega)
  change Calls Tryz.prog 45 _ _ _ at key
  show Calls Tryz.prog 45 #[.slice (some ⟨B.b, B.o + 0 * B.s, none⟩) l.length cap] w _
  rw [Nat.zero_mul, Nat.add_zero]
  refine key.mono ?_
  rintro e w' ⟨rfl, m, os, rfl⟩
  have hgd : ∀ i, i < l.length → ((srtI l).toArray)[i]! = (srtI l).getD i 0 := fun i hi => by
    have : i < (srtI l).length := by rw [srtI_len]; exact hi
    simp [List.getD, this]
  refine ⟨.tuple #[], (), mu, rfl, trivial, Nat.le_refl _, fun _ _ => rfl, ?_, trivial⟩
  refine ⟨fun id o h => ?_, fun id id' o o' B1 B2 h1 h2 _ _ _ => ?_, fun id o B1 h1 h2 => ?_, ?_, hk.out, fun id t B1 ht => by rw [ty_one] at ht; cases ht⟩
  · obtain ⟨rfl, rfl⟩ := lk_hinI h
    refine ⟨Nat.lt_succ_self _, ?_⟩
    show HRel _ (mu (0, 0)) _
    rw [hB]
    refine ⟨hs, _, T, hrow m (srtI l).toArray os, ?_, hbd, fun i hi j hj => ⟨rfl, .int .i64 ((srtI l).getD i 0), ?_, rfl⟩⟩
    · simp [putCells]; exact hcsz
    · have hbd' : B.o + l.length * 1 ≤ cells.size := by rw [hcsz]; exact hbd
      have hj0 : j = 0 := by omega
      subst hj0
      have hsz2 : (srtI l).toArray.size = l.length := by simp [srtI_len]
      unfold putCells
      rw [Array.getElem?_mapIdx, Array.getElem?_eq_getElem (show B.o + i * 1 + 0 < cells.size by omega)]
      simp only [Option.map_some]
      rw [if_pos (by rw [hsz2]; omega), show B.o + i * 1 + 0 - B.o = i by omega, hgd i hi]
  · rw [(lk_hinI h1).1, (lk_hinI h2).1]
  · obtain ⟨rfl, rfl⟩ := lk_hinI h1
    have e : B1 = B := by rw [hB] at h2; injection h2 with h2; exact h2.symm
    subst e
    exact ⟨Nat.lt_of_lt_of_le hblk (hsize m (srtI l).toArray os), hown.2⟩
  · refine ⟨rfl, rfl, rfl, by simp [Go.Sort.grow, putRow, mapBlock, Go.Sort.ahead], hsize m (srtI l).toArray os, fun b hb hmt => hoth m (srtI l).toArray os b hb fun e => hmt ⟨(0, 0), _, B, hlk, hB, e.symm⟩⟩
end Go.Proofs.YtchjjiedcpfniaaGreatDoor
