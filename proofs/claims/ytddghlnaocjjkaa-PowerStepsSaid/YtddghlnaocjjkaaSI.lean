/-
  The contract of the shelf on slices.Sort, laid at this program's numbers. The laying is printed by tools/mksortlay.py.
-/
import Derived.Test.YtddghlnaocjjkaaProg
import Derived.Shelf.SortG.Plain
import Derived.KernelRfl
import Derived.Test.YtddghlnaocjjkaaWA
import Derived.Test.YtddghlnaocjjkaaSB
namespace Go.Proofs.Ytddghlnaocjjkaa
open Go Go.Proofs
def sortI_ren : Go.Shelf.Ren := ⟨fun | 53 => 63 | 64 => 82 | 63 => 81 | 78 => 98 | 79 => 99 | 70 => 90 | 71 => 91 | 72 => 92 | 73 => 93 | 74 => 94 | 75 => 95 | 59 => 87 | 76 => 96 | 77 => 97 | 88 => 108 | 89 => 109 | 90 => 110 | 91 => 111 | 92 => 112 | 68 => 84 | 96 => 116 | n => n, fun | 22 => 42 | 23 => 3 | 3 => 3 | 51 => 95 | 0 => 0 | 67 => 118 | 69 => 61 | 4 => 4 | 61 => 112 | 60 => 111 | 44 => 70 | 5 => 5 | 9 => 9 | 75 => 125 | 79 => 129 | 83 => 133 | 84 => 134 | n => n, fun | n => n⟩
theorem sortI : Go.Proofs.SlLaysN.n53 Try.prog sortI_ren := {
  mixed := by kernel_rfl,
  f53 := ⟨Try.f63.name, by decide, Try.func63.trans (congrArg some (by kernel_rfl))⟩,
  f59 := ⟨Try.f87.name, by decide, Try.func87.trans (congrArg some (by kernel_rfl))⟩,
  f63 := ⟨Try.f81.name, by decide, Try.func81.trans (congrArg some (by kernel_rfl))⟩,
  f64 := Try.func82.trans (congrArg some (by kernel_rfl)),
  f68 := ⟨Try.f84.name, by decide, Try.func84.trans (congrArg some (by kernel_rfl))⟩,
  f70 := ⟨Try.f90.name, by decide, Try.func90.trans (congrArg some (by kernel_rfl))⟩,
  f71 := ⟨Try.f91.name, by decide, Try.func91.trans (congrArg some (by kernel_rfl))⟩,
  f72 := ⟨Try.f92.name, by decide, Try.func92.trans (congrArg some (by kernel_rfl))⟩,
  f73 := ⟨Try.f93.name, by decide, Try.func93.trans (congrArg some (by kernel_rfl))⟩,
  f74 := ⟨Try.f94.name, by decide, Try.func94.trans (congrArg some (by kernel_rfl))⟩,
  f75 := ⟨Try.f95.name, by decide, Try.func95.trans (congrArg some (by kernel_rfl))⟩,
  f76 := ⟨Try.f96.name, by decide, Try.func96.trans (congrArg some (by kernel_rfl))⟩,
  f77 := ⟨Try.f97.name, by decide, Try.func97.trans (congrArg some (by kernel_rfl))⟩,
  f78 := Try.func98.trans (congrArg some (by kernel_rfl)),
  f79 := Try.func99.trans (congrArg some (by kernel_rfl)),
  f88 := ⟨Try.f108.name, by decide, Try.func108.trans (congrArg some (by kernel_rfl))⟩,
  f89 := Try.func109.trans (congrArg some (by kernel_rfl)),
  f90 := Try.func110.trans (congrArg some (by kernel_rfl)),
  f91 := ⟨Try.f111.name, by decide, Try.func111.trans (congrArg some (by kernel_rfl))⟩,
  f92 := ⟨Try.f112.name, by decide, Try.func112.trans (congrArg some (by kernel_rfl))⟩,
  f96 := ⟨Try.f116.name, by decide, Try.func116.trans (congrArg some (by kernel_rfl))⟩,
  t0 := Try.underlying0,
  a0 := Try.isAgg0,
  z0 := Try.sizeOf0,
  v0 := Try.zeroValue0,
  t3 := Try.underlying3,
  a3 := Try.isAgg3,
  z3 := Try.sizeOf3,
  v3 := Try.zeroValue3,
  t4 := Try.underlying4,
  a4 := Try.isAgg4,
  z4 := Try.sizeOf4,
  v4 := Try.zeroValue4,
  t5 := Try.underlying5,
  a5 := Try.isAgg5,
  z5 := Try.sizeOf5,
  v5 := Try.zeroValue5,
  t9 := Try.underlying9,
  a9 := Try.isAgg9,
  z9 := Try.sizeOf9,
  v9 := Try.zeroValue9,
  t22 := Try.underlying42,
  a22 := Try.isAgg42,
  z22 := Try.sizeOf42,
  v22 := Try.zeroValue42,
  t23 := Try.underlying3,
  a23 := Try.isAgg3,
  z23 := Try.sizeOf3,
  v23 := Try.zeroValue3,
  t44 := Try.underlying70,
  a44 := Try.isAgg70,
  z44 := Try.sizeOf70,
  v44 := Try.zeroValue70,
  t51 := Try.underlying95,
  a51 := Try.isAgg95,
  z51 := Try.sizeOf95,
  v51 := Try.zeroValue95,
  t60 := Try.underlying111,
  a60 := Try.isAgg111,
  z60 := Try.sizeOf111,
  v60 := Try.zeroValue111,
  t61 := Try.underlying112,
  a61 := Try.isAgg112,
  z61 := Try.sizeOf112,
  v61 := Try.zeroValue112,
  t67 := Try.underlying118,
  a67 := Try.isAgg118,
  z67 := Try.sizeOf118,
  v67 := Try.zeroValue118,
  t69 := Try.underlying61,
  a69 := Try.isAgg61,
  z69 := Try.sizeOf61,
  v69 := Try.zeroValue61,
  t75 := Try.underlying125,
  a75 := Try.isAgg125,
  z75 := Try.sizeOf125,
  v75 := Try.zeroValue125,
  t79 := Try.underlying129,
  a79 := Try.isAgg129,
  z79 := Try.sizeOf129,
  v79 := Try.zeroValue129,
  t83 := Try.underlying133,
  a83 := Try.isAgg133,
  z83 := Try.sizeOf133,
  v83 := Try.zeroValue133,
  t84 := Try.underlying134,
  a84 := Try.isAgg134,
  z84 := Try.sizeOf134,
  v84 := Try.zeroValue134 }

end Go.Proofs.Ytddghlnaocjjkaa

namespace Go.Proofs.Ytddghlnaocjjkaa
set_option linter.unusedSimpArgs false
set_option linter.unusedVariables false
open Go Go.Lift Go.Proofs Go.Sort Go.Shelf

/-- numbers in order. -/
def srtI (l : List Int) : List Int := l.mergeSort fun x y => decide (x ≤ y)
theorem srtI_perm {l : List Int} : (srtI l).Perm l := List.mergeSort_perm l _
theorem srtI_len {l : List Int} : (srtI l).length = l.length := srtI_perm.length_eq
theorem srtI_mem {l : List Int} {x : Int} : x ∈ srtI l ↔ x ∈ l := srtI_perm.mem_iff
theorem srtI_asc {l : List Int} : (srtI l).Pairwise (· ≤ ·) := by
  have h := List.pairwise_mergeSort (le := fun x y : Int => decide (x ≤ y)) (fun a b c h1 h2 => by simp at *; omega) (fun a b => by simp; omega) l
  exact h.imp fun h => by simpa using h
def hinI (l : List Int) : Heap := [(0, .one (.arr l.length 1 (fun i _ => .int .i64 (l.getD i 0))))]
theorem lk_hinI {n : Nat} {x : List Int} {id : Lift.Id} {o : HObj} (h : lkH [(0, .one (.arr n 1 (fun i _ => .int .i64 (x.getD i 0))))] id = some o) : id = (0, 0) ∧ o = .arr n 1 (fun i _ => .int .i64 (x.getD i 0)) := by
  obtain ⟨a, b⟩ := id
  simp only [lkH] at h
  by_cases ha : 0 = a
  · subst ha
    rw [if_pos rfl] at h
    cases b with
    | zero => simp only [HEnt.get] at h; injection h with h; exact ⟨rfl, h.symm⟩
    | succ b => simp [HEnt.get] at h
  · rw [if_neg ha] at h; cases h
set_option maxHeartbeats 1000000 in
theorem sortI_pos (l : List Int) (h0 : 0 < l.length) (hl : l.length ≤ 1000000) :
    FC1 Try.prog 63 [.sl (0, 0) 0 l.length] (hinI l) 1 .any [(0, .one (.arr l.length 1 (fun i _ => .int .i64 ((srtI l).getD i 0))))] 1 := by
  intro O w mu vals hk hargs
  match vals, hargs with
  | [v0], ⟨r0, _⟩ =>
  obtain ⟨_, A, cap, rfl, hcap, hA⟩ := r0
  obtain ⟨B, hB0, rfl, hsz⟩ := hA.resolve_left (by omega)
  have hB : mu (0, 0) = some B := hB0
  have hlk : lkH (hinI l) (0, 0) = some (.arr l.length 1 (fun i _ => .int .i64 (l.getD i 0))) := rfl
  have hobj := (hk.obj (0, 0) _ hlk).2
  rw [hB] at hobj
  obtain ⟨hs, cells, T, hheap0, hcsz, hbd, hcell⟩ := hobj
  have hheap : w.heap[B.b]? = some (.cells cells T (0, 0)) := hheap0
  have hown := hk.own (0, 0) _ B hlk hB
  have hat : ∀ t, t < l.length → cells[B.o + t]? = some (.int .i64 (l.getD t 0)) := fun t ht => by
    obtain ⟨_, v, hv, hr⟩ := hcell t ht 0 (by decide)
    have hr' : v = .int .i64 (l.getD t 0) := hr
    rw [hr', Nat.mul_one, Nat.add_zero] at hv
    exact hv
  have hget : ∀ i, i < l.length → (l.toArray)[i]! = l.getD i 0 := fun i hi => by simp [List.getD, hi]
  have hH : Holds (Value.int .i64) w B.b B.o l.toArray := by
    intro t ht
    have ht' : t < l.length := by simpa using ht
    rw [hget _ ht']
    refine ⟨?_, ?_⟩
    · show w.cell? _ = _
      unfold World.cell?
      simp only [hheap, Option.isSome_none]
      exact hat t ht'
    · unfold World.frozen?
      simp only [hheap]
      simp
  have hblk : B.b < w.heap.size := hown.1
  have hrow : ∀ (m : Nat) (dk : Array Int) (os : Array Obj), (Go.Sort.grow (putRow (Value.int .i64) (Go.Sort.ahead w m) B.b B.o dk) os).heap[B.b]? = some (.cells (putCells (Value.int .i64) B.o dk cells) T (0, 0)) := fun m dk os => by
    rw [heap_grow_old _ _ (by rw [show (putRow (Value.int .i64) (Go.Sort.ahead w m) B.b B.o dk).heap.size = w.heap.size by simp [putRow, mapBlock, Go.Sort.ahead]]; exact hblk)]
    show (w.heap.modify B.b _)[B.b]? = _
    rw [Array.getElem?_modify, if_pos rfl, hheap]
    rfl
  have hoth : ∀ (m : Nat) (dk : Array Int) (os : Array Obj) (b : Nat), b < w.heap.size → b ≠ B.b → (Go.Sort.grow (putRow (Value.int .i64) (Go.Sort.ahead w m) B.b B.o dk) os).heap[b]? = w.heap[b]? := fun m dk os b hb hne => by
    rw [heap_grow_old _ _ (by rw [show (putRow (Value.int .i64) (Go.Sort.ahead w m) B.b B.o dk).heap.size = w.heap.size by simp [putRow, mapBlock, Go.Sort.ahead]]; exact hb)]
    show (w.heap.modify B.b _)[b]? = _
    rw [Array.getElem?_modify, if_neg (Ne.symm hne)]
  have hsize : ∀ (m : Nat) (dk : Array Int) (os : Array Obj), w.heap.size ≤ (Go.Sort.grow (putRow (Value.int .i64) (Go.Sort.ahead w m) B.b B.o dk) os).heap.size := fun m dk os => by
    simp [Go.Sort.grow, putRow, mapBlock, Go.Sort.ahead]
  have key := AnyG.slices_Sort_int sortI B.b B.o cap l w hH hblk (by omega)
  change Calls Try.prog 63 _ _ _ at key
  show Calls Try.prog 63 #[.slice (some ⟨B.b, B.o + 0 * B.s, none⟩) l.length cap] w _
  rw [Nat.zero_mul, Nat.add_zero]
  refine key.mono ?_
  rintro e w' ⟨rfl, m, os, rfl⟩
  have hgd : ∀ i, i < l.length → ((srtI l).toArray)[i]! = (srtI l).getD i 0 := fun i hi => by
    have : i < (srtI l).length := by rw [srtI_len]; exact hi
    simp [List.getD, this]
  refine ⟨.tuple #[], (), mu, rfl, trivial, Nat.le_refl _, fun _ _ => rfl, ?_, trivial⟩
  refine ⟨fun id o h => ?_, fun id id' o o' B1 B2 h1 h2 _ _ _ => ?_, fun id o B1 h1 h2 => ?_, ?_, hk.out, fun id t B1 ht => by rw [ty_one] at ht; cases ht⟩
  · obtain ⟨rfl, rfl⟩ := lk_hinI h
    refine ⟨Nat.lt_succ_self _, ?_⟩
    show HRel _ (mu (0, 0)) _
    rw [hB]
    refine ⟨hs, _, T, hrow m (srtI l).toArray os, ?_, hbd, fun i hi j hj => ⟨rfl, .int .i64 ((srtI l).getD i 0), ?_, rfl⟩⟩
    · simp [putCells]; exact hcsz
    · have hbd' : B.o + l.length * 1 ≤ cells.size := by rw [hcsz]; exact hbd
      have hj0 : j = 0 := by omega
      subst hj0
      have hsz2 : (srtI l).toArray.size = l.length := by simp [srtI_len]
      unfold putCells
      rw [Array.getElem?_mapIdx, Array.getElem?_eq_getElem (show B.o + i * 1 + 0 < cells.size by omega)]
      simp only [Option.map_some]
      rw [if_pos (by rw [hsz2]; omega), show B.o + i * 1 + 0 - B.o = i by omega, hgd i hi]
  · rw [(lk_hinI h1).1, (lk_hinI h2).1]
  · obtain ⟨rfl, rfl⟩ := lk_hinI h1
    have e : B1 = B := by rw [hB] at h2; injection h2 with h2; exact h2.symm
    subst e
    exact ⟨Nat.lt_of_lt_of_le hblk (hsize m (srtI l).toArray os), hown.2⟩
  · refine ⟨rfl, rfl, rfl, by simp [Go.Sort.grow, putRow, mapBlock, Go.Sort.ahead], hsize m (srtI l).toArray os, fun b hb hmt => hoth m (srtI l).toArray os b hb fun e => hmt ⟨(0, 0), _, B, hlk, hB, e.symm⟩⟩
end Go.Proofs.Ytddghlnaocjjkaa
