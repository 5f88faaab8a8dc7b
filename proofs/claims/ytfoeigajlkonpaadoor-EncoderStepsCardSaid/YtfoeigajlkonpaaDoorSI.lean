/-
  The contract of the shelf on slices.Sort, laid at this program's numbers. The laying is printed by tools/mklay.py.
-/
import Derived.Test.YtfoeigajlkonpaaDoorProg
import Derived.Shelf.SortG.Plain
import Derived.KernelRfl
import Derived.Test.YtfoeigajlkonpaaDoorVA
import Derived.Test.YtfoeigajlkonpaaDoorSJ
namespace Go.Proofs.YtfoeigajlkonpaaDoor
open Go Go.Proofs
def sortI_ren : Go.Shelf.Ren := ⟨fun | 53 => 83 | 64 => 94 | 63 => 93 | 78 => 109 | 79 => 96 | 70 => 100 | 71 => 101 | 72 => 102 | 73 => 103 | 74 => 104 | 75 => 105 | 59 => 106 | 76 => 107 | 77 => 108 | 88 => 112 | 89 => 113 | 90 => 114 | 91 => 115 | 92 => 116 | 68 => 91 | 96 => 117 | n => n, fun | 22 => 35 | 23 => 3 | 3 => 3 | 51 => 118 | 0 => 0 | 67 => 132 | 69 => 127 | 4 => 4 | 61 => 143 | 60 => 142 | 44 => 82 | 5 => 5 | 9 => 9 | 75 => 150 | 79 => 154 | 83 => 158 | 84 => 159 | n => n, fun | n => n⟩
theorem sortI : Go.Proofs.SlLaysN.n53 Tryd.prog sortI_ren := {
  mixed := by kernel_rfl,
  f53 := ⟨"slices.Sort[[]int,int]", by decide, Tryd.func83.trans (congrArg some (by kernel_rfl))⟩,
  f59 := ⟨"cmp.Less[int]", by decide, Tryd.func106.trans (congrArg some (by kernel_rfl))⟩,
  f63 := ⟨"slices.pdqsortOrdered[int]", by decide, Tryd.func93.trans (congrArg some (by kernel_rfl))⟩,
  f64 := Tryd.func94.trans (congrArg some (by kernel_rfl)),
  f68 := ⟨"cmp.isNaN[int]", by decide, Tryd.func91.trans (congrArg some (by kernel_rfl))⟩,
  f70 := ⟨"slices.insertionSortOrdered[int]", by decide, Tryd.func100.trans (congrArg some (by kernel_rfl))⟩,
  f71 := ⟨"slices.heapSortOrdered[int]", by decide, Tryd.func101.trans (congrArg some (by kernel_rfl))⟩,
  f72 := ⟨"slices.breakPatternsOrdered[int]", by decide, Tryd.func102.trans (congrArg some (by kernel_rfl))⟩,
  f73 := ⟨"slices.choosePivotOrdered[int]", by decide, Tryd.func103.trans (congrArg some (by kernel_rfl))⟩,
  f74 := ⟨"slices.reverseRangeOrdered[int]", by decide, Tryd.func104.trans (congrArg some (by kernel_rfl))⟩,
  f75 := ⟨"slices.partialInsertionSortOrdered[int]", by decide, Tryd.func105.trans (congrArg some (by kernel_rfl))⟩,
  f76 := ⟨"slices.partitionEqualOrdered[int]", by decide, Tryd.func107.trans (congrArg some (by kernel_rfl))⟩,
  f77 := ⟨"slices.partitionOrdered[int]", by decide, Tryd.func108.trans (congrArg some (by kernel_rfl))⟩,
  f78 := Tryd.func109.trans (congrArg some (by kernel_rfl)),
  f79 := Tryd.func96.trans (congrArg some (by kernel_rfl)),
  f88 := ⟨"slices.siftDownOrdered[int]", by decide, Tryd.func112.trans (congrArg some (by kernel_rfl))⟩,
  f89 := Tryd.func113.trans (congrArg some (by kernel_rfl)),
  f90 := Tryd.func114.trans (congrArg some (by kernel_rfl)),
  f91 := ⟨"slices.medianAdjacentOrdered[int]", by decide, Tryd.func115.trans (congrArg some (by kernel_rfl))⟩,
  f92 := ⟨"slices.medianOrdered[int]", by decide, Tryd.func116.trans (congrArg some (by kernel_rfl))⟩,
  f96 := ⟨"slices.order2Ordered[int]", by decide, Tryd.func117.trans (congrArg some (by kernel_rfl))⟩,
  t0 := Tryd.underlying0,
  a0 := Tryd.isAgg0,
  z0 := Tryd.sizeOf0,
  v0 := Tryd.zeroValue0,
  t3 := Tryd.underlying3,
  a3 := Tryd.isAgg3,
  z3 := Tryd.sizeOf3,
  v3 := Tryd.zeroValue3,
  t4 := Tryd.underlying4,
  a4 := Tryd.isAgg4,
  z4 := Tryd.sizeOf4,
  v4 := Tryd.zeroValue4,
  t5 := Tryd.underlying5,
  a5 := Tryd.isAgg5,
  z5 := Tryd.sizeOf5,
  v5 := Tryd.zeroValue5,
  t9 := Tryd.underlying9,
  a9 := Tryd.isAgg9,
  z9 := Tryd.sizeOf9,
  v9 := Tryd.zeroValue9,
  t22 := Tryd.underlying35,
  a22 := Tryd.isAgg35,
  z22 := Tryd.sizeOf35,
  v22 := Tryd.zeroValue35,
  t23 := Tryd.underlying3,
  a23 := Tryd.isAgg3,
  z23 := Tryd.sizeOf3,
  v23 := Tryd.zeroValue3,
  t44 := Tryd.underlying82,
  a44 := Tryd.isAgg82,
  z44 := Tryd.sizeOf82,
  v44 := Tryd.zeroValue82,
  t51 := Tryd.underlying118,
  a51 := Tryd.isAgg118,
  z51 := Tryd.sizeOf118,
  v51 := Tryd.zeroValue118,
  t60 := Tryd.underlying142,
  a60 := Tryd.isAgg142,
  z60 := Tryd.sizeOf142,
  v60 := Tryd.zeroValue142,
  t61 := Tryd.underlying143,
  a61 := Tryd.isAgg143,
  z61 := Tryd.sizeOf143,
  v61 := Tryd.zeroValue143,
  t67 := Tryd.underlying132,
  a67 := Tryd.isAgg132,
  z67 := Tryd.sizeOf132,
  v67 := Tryd.zeroValue132,
  t69 := Tryd.underlying127,
  a69 := Tryd.isAgg127,
  z69 := Tryd.sizeOf127,
  v69 := Tryd.zeroValue127,
  t75 := Tryd.underlying150,
  a75 := Tryd.isAgg150,
  z75 := Tryd.sizeOf150,
  v75 := Tryd.zeroValue150,
  t79 := Tryd.underlying154,
  a79 := Tryd.isAgg154,
  z79 := Tryd.sizeOf154,
  v79 := Tryd.zeroValue154,
  t83 := Tryd.underlying158,
  a83 := Tryd.isAgg158,
  z83 := Tryd.sizeOf158,
  v83 := Tryd.zeroValue158,
  t84 := Tryd.underlying159,
  a84 := Tryd.isAgg159,
  z84 := Tryd.sizeOf159,
  v84 := Tryd.zeroValue159 }


end Go.Proofs.YtfoeigajlkonpaaDoor

namespace Go.Proofs.YtfoeigajlkonpaaDoor
set_option linter.unusedSimpArgs false
set_option linter.unusedVariables false
open Go Go.Lift Go.Proofs Go.Sort Go.Shelf

theorem ty_one {o : HObj} {id : Lift.Id} : tyH [(0, .one o)] id = none := by
  obtain ⟨a, b⟩ := id
  simp only [tyH]
  split
  · cases b <;> rfl
  · rfl
def hinI (l : List Int) : Heap := [(0, .one (.arr l.length 1 (fun i _ => .int .i64 (l.getD i 0))))]
theorem lk_hinI {n : Nat} {x : List Int} {id : Lift.Id} {o : HObj} (h : lkH [(0, .one (.arr n 1 (fun i _ => .int .i64 (x.getD i 0))))] id = some o) : id = (0, 0) ∧ o = .arr n 1 (fun i _ => .int .i64 (x.getD i 0)) := by
  obtain ⟨a, b⟩ := id
  simp only [lkH] at h
  by_cases ha : 0 = a
  · subst ha
    rw [if_pos rfl] at h
    cases b with
    | zero => simp only [HEnt.get] at h; injection h with h; exact ⟨rfl, h.symm⟩
    | succ b => simp [HEnt.get] at h
  · rw [if_neg ha] at h; cases h
set_option maxHeartbeats 1000000 in
theorem sortI_pos (l : List Int) (h0 : 0 < l.length) (hl : l.length ≤ 1000000) :
    FC1 Tryd.prog 83 [.sl (0, 0) 0 l.length] (hinI l) 1 .any [(0, .one (.arr l.length 1 (fun i _ => .int .i64 ((srtI l).getD i 0))))] 1 := by
  intro O w mu vals hk hargs
  match vals, hargs with
  | [v0], ⟨r0, _⟩ =>
  obtain ⟨_, A, cap, rfl, hcap, hA⟩ := r0
  obtain ⟨B, hB0, rfl, hsz⟩ := hA.resolve_left (by omega)
  have hB : mu (0, 0) = some B := hB0
  have hlk : lkH (hinI l) (0, 0) = some (.arr l.length 1 (fun i _ => .int .i64 (l.getD i 0))) := rfl
  have hobj := (hk.obj (0, 0) _ hlk).2
  rw [hB] at hobj
  obtain ⟨hs, cells, T, hheap0, hcsz, hbd, hcell⟩ := hobj
  have hheap : w.heap[B.b]? = some (.cells cells T (0, 0)) := hheap0
  have hown := hk.own (0, 0) _ B hlk hB
  have hat : ∀ t, t < l.length → cells[B.o + t]? = some (.int .i64 (l.getD t 0)) := fun t ht => by
    obtain ⟨_, v, hv, hr⟩ := hcell t ht 0 (by decide)
    have hr' : v = .int .i64 (l.getD t 0) := hr
    rw [hr', Nat.mul_one, Nat.add_zero] at hv
    exact hv
  have hget : ∀ i, i < l.length → (l.toArray)[i]! = l.getD i 0 := fun i hi => by simp [List.getD, hi]
  have hH : Holds (Value.int .i64) w B.b B.o l.toArray := by
    intro t ht
    have ht' : t < l.length := by simpa using ht
    rw [hget _ ht']
    refine ⟨?_, ?_⟩
    · show w.cell? _ = _
      unfold World.cell?
      simp only [hheap, Option.isSome_none]
      exact hat t ht'
    · unfold World.frozen?
      simp only [hheap]
      simp
  have hblk : B.b < w.heap.size := hown.1
  have hrow : ∀ (m : Nat) (dk : Array Int) (os : Array Obj), (Go.Sort.grow (putRow (Value.int .i64) (Go.Sort.ahead w m) B.b B.o dk) os).heap[B.b]? = some (.cells (putCells (Value.int .i64) B.o dk cells) T (0, 0)) := fun m dk os => by
    rw [heap_grow_old _ _ (by rw [show (putRow (Value.int .i64) (Go.Sort.ahead w m) B.b B.o dk).heap.size = w.heap.size by simp [putRow, mapBlock, Go.Sort.ahead]]; exact hblk)]
    show (w.heap.modify B.b _)[B.b]? = _
    rw [Array.getElem?_modify, if_pos rfl, hheap]
    rfl
  have hoth : ∀ (m : Nat) (dk : Array Int) (os : Array Obj) (b : Nat), b < w.heap.size → b ≠ B.b → (Go.Sort.grow (putRow (Value.int .i64) (Go.Sort.ahead w m) B.b B.o dk) os).heap[b]? = w.heap[b]? := fun m dk os b hb hne => by
    rw [heap_grow_old _ _ (by rw [show (putRow (Value.int .i64) (Go.Sort.ahead w m) B.b B.o dk).heap.size = w.heap.size by simp [putRow, mapBlock, Go.Sort.ahead]]; exact hb)]
    show (w.heap.modify B.b _)[b]? = _
    rw [Array.getElem?_modify, if_neg (Ne.symm hne)]
  have hsize : ∀ (m : Nat) (dk : Array Int) (os : Array Obj), w.heap.size ≤ (Go.Sort.grow (putRow (Value.int .i64) (Go.Sort.ahead w m) B.b B.o dk) os).heap.size := fun m dk os => by
    simp [Go.Sort.grow, putRow, mapBlock, Go.Sort.ahead]
  have key := AnyG.slices_Sort_int sortI B.b B.o cap l w hH hblk (by omega)
  change Calls Tryd.prog 83 _ _ _ at key
  show Calls Tryd.prog 83 #[.slice (some ⟨B.b, B.o + 0 * B.s, none⟩) l.length cap] w _
  rw [Nat.zero_mul, Nat.add_zero]
  refine key.mono ?_
  rintro e w' ⟨rfl, m, os, rfl⟩
  have hgd : ∀ i, i < l.length → ((srtI l).toArray)[i]! = (srtI l).getD i 0 := fun i hi => by
    have : i < (srtI l).length := by rw [srtI_len]; exact hi
    simp [List.getD, this]
  refine ⟨.tuple #[], (), mu, rfl, trivial, Nat.le_refl _, fun _ _ => rfl, ?_, trivial⟩
  refine ⟨fun id o h => ?_, fun id id' o o' B1 B2 h1 h2 _ _ _ => ?_, fun id o B1 h1 h2 => ?_, ?_, hk.out, fun id t B1 ht => by rw [ty_one] at ht; cases ht⟩
  · obtain ⟨rfl, rfl⟩ := lk_hinI h
    refine ⟨Nat.lt_succ_self _, ?_⟩
    show HRel _ (mu (0, 0)) _
    rw [hB]
    refine ⟨hs, _, T, hrow m (srtI l).toArray os, ?_, hbd, fun i hi j hj => ⟨rfl, .int .i64 ((srtI l).getD i 0), ?_, rfl⟩⟩
    · simp [putCells]; exact hcsz
    · have hbd' : B.o + l.length * 1 ≤ cells.size := by rw [hcsz]; exact hbd
      have hj0 : j = 0 := by omega
      subst hj0
      have hsz2 : (srtI l).toArray.size = l.length := by simp [srtI_len]
      unfold putCells
      rw [Array.getElem?_mapIdx, Array.getElem?_eq_getElem (show B.o + i * 1 + 0 < cells.size by omega)]
      simp only [Option.map_some]
      rw [if_pos (by rw [hsz2]; omega), show B.o + i * 1 + 0 - B.o = i by omega, hgd i hi]
  · rw [(lk_hinI h1).1, (lk_hinI h2).1]
  · obtain ⟨rfl, rfl⟩ := lk_hinI h1
    have e : B1 = B := by rw [hB] at h2; injection h2 with h2; exact h2.symm
    subst e
    exact ⟨Nat.lt_of_lt_of_le hblk (hsize m (srtI l).toArray os), hown.2⟩
  · refine ⟨rfl, rfl, rfl, by simp [Go.Sort.grow, putRow, mapBlock, Go.Sort.ahead], hsize m (srtI l).toArray os, fun b hb hmt => hoth m (srtI l).toArray os b hb fun e => hmt ⟨(0, 0), _, B, hlk, hB, e.symm⟩⟩
end Go.Proofs.YtfoeigajlkonpaaDoor
