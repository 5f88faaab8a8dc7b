/-
  The contract of the shelf on slices.Sort, laid at this program's numbers. The laying is printed by tools/mklay.py.
-/
import Derived.Test.YthpdkmoedpcboaaProg
import Derived.Shelf.SortG.Plain
import Derived.KernelRfl
import Derived.Test.YthpdkmoedpcboaaVA
import Derived.Test.YthpdkmoedpcboaaPG
namespace Go.Proofs.Ythpdkmoedpcboaa
open Go Go.Proofs
def sortI_ren : Go.Shelf.Ren := ⟨fun | 53 => 52 | 64 => 62 | 63 => 67 | 78 => 82 | 79 => 83 | 70 => 86 | 71 => 87 | 72 => 88 | 73 => 89 | 74 => 90 | 75 => 91 | 59 => 66 | 76 => 92 | 77 => 93 | 88 => 99 | 89 => 95 | 90 => 96 | 91 => 100 | 92 => 101 | 68 => 85 | 96 => 103 | n => n, fun | 22 => 25 | 23 => 3 | 3 => 3 | 51 => 90 | 0 => 0 | 67 => 106 | 69 => 108 | 4 => 4 | 61 => 100 | 60 => 99 | 44 => 46 | 5 => 5 | 9 => 9 | 75 => 114 | 79 => 118 | 83 => 122 | 84 => 123 | n => n, fun | n => n⟩
theorem sortI : Go.Proofs.SlLaysN.n53 Try.prog sortI_ren := {
  mixed := by kernel_rfl,
  f53 := ⟨Try.f52.name, by decide, Try.func52.trans (congrArg some (by kernel_rfl))⟩,
  f59 := ⟨Try.f66.name, by decide, Try.func66.trans (congrArg some (by kernel_rfl))⟩,
  f63 := ⟨Try.f67.name, by decide, Try.func67.trans (congrArg some (by kernel_rfl))⟩,
  f64 := Try.func62.trans (congrArg some (by kernel_rfl)),
  f68 := ⟨Try.f85.name, by decide, Try.func85.trans (congrArg some (by kernel_rfl))⟩,
  f70 := ⟨Try.f86.name, by decide, Try.func86.trans (congrArg some (by kernel_rfl))⟩,
  f71 := ⟨Try.f87.name, by decide, Try.func87.trans (congrArg some (by kernel_rfl))⟩,
  f72 := ⟨Try.f88.name, by decide, Try.func88.trans (congrArg some (by kernel_rfl))⟩,
  f73 := ⟨Try.f89.name, by decide, Try.func89.trans (congrArg some (by kernel_rfl))⟩,
  f74 := ⟨Try.f90.name, by decide, Try.func90.trans (congrArg some (by kernel_rfl))⟩,
  f75 := ⟨Try.f91.name, by decide, Try.func91.trans (congrArg some (by kernel_rfl))⟩,
  f76 := ⟨Try.f92.name, by decide, Try.func92.trans (congrArg some (by kernel_rfl))⟩,
  f77 := ⟨Try.f93.name, by decide, Try.func93.trans (congrArg some (by kernel_rfl))⟩,
  f78 := Try.func82.trans (congrArg some (by kernel_rfl)),
  f79 := Try.func83.trans (congrArg some (by kernel_rfl)),
  f88 := ⟨Try.f99.name, by decide, Try.func99.trans (congrArg some (by kernel_rfl))⟩,
  f89 := Try.func95.trans (congrArg some (by kernel_rfl)),
  f90 := Try.func96.trans (congrArg some (by kernel_rfl)),
  f91 := ⟨Try.f100.name, by decide, Try.func100.trans (congrArg some (by kernel_rfl))⟩,
  f92 := ⟨Try.f101.name, by decide, Try.func101.trans (congrArg some (by kernel_rfl))⟩,
  f96 := ⟨Try.f103.name, by decide, Try.func103.trans (congrArg some (by kernel_rfl))⟩,
  t0 := Try.underlying0,
  a0 := Try.isAgg0,
  z0 := Try.sizeOf0,
  v0 := Try.zeroValue0,
  t3 := Try.underlying3,
  a3 := Try.isAgg3,
  z3 := Try.sizeOf3,
  v3 := Try.zeroValue3,
  t4 := Try.underlying4,
  a4 := Try.isAgg4,
  z4 := Try.sizeOf4,
  v4 := Try.zeroValue4,
  t5 := Try.underlying5,
  a5 := Try.isAgg5,
  z5 := Try.sizeOf5,
  v5 := Try.zeroValue5,
  t9 := Try.underlying9,
  a9 := Try.isAgg9,
  z9 := Try.sizeOf9,
  v9 := Try.zeroValue9,
  t22 := Try.underlying25,
  a22 := Try.isAgg25,
  z22 := Try.sizeOf25,
  v22 := Try.zeroValue25,
  t23 := Try.underlying3,
  a23 := Try.isAgg3,
  z23 := Try.sizeOf3,
  v23 := Try.zeroValue3,
  t44 := Try.underlying46,
  a44 := Try.isAgg46,
  z44 := Try.sizeOf46,
  v44 := Try.zeroValue46,
  t51 := Try.underlying90,
  a51 := Try.isAgg90,
  z51 := Try.sizeOf90,
  v51 := Try.zeroValue90,
  t60 := Try.underlying99,
  a60 := Try.isAgg99,
  z60 := Try.sizeOf99,
  v60 := Try.zeroValue99,
  t61 := Try.underlying100,
  a61 := Try.isAgg100,
  z61 := Try.sizeOf100,
  v61 := Try.zeroValue100,
  t67 := Try.underlying106,
  a67 := Try.isAgg106,
  z67 := Try.sizeOf106,
  v67 := Try.zeroValue106,
  t69 := Try.underlying108,
  a69 := Try.isAgg108,
  z69 := Try.sizeOf108,
  v69 := Try.zeroValue108,
  t75 := Try.underlying114,
  a75 := Try.isAgg114,
  z75 := Try.sizeOf114,
  v75 := Try.zeroValue114,
  t79 := Try.underlying118,
  a79 := Try.isAgg118,
  z79 := Try.sizeOf118,
  v79 := Try.zeroValue118,
  t83 := Try.underlying122,
  a83 := Try.isAgg122,
  z83 := Try.sizeOf122,
  v83 := Try.zeroValue122,
  t84 := Try.underlying123,
  a84 := Try.isAgg123,
  z84 := Try.sizeOf123,
  v84 := Try.zeroValue123 }


end Go.Proofs.Ythpdkmoedpcboaa

namespace Go.Proofs.Ythpdkmoedpcboaa
set_option linter.unusedSimpArgs false
set_option linter.unusedVariables false
open Go Go.Lift Go.Proofs Go.Sort Go.Shelf

theorem ty_one {o : HObj} {id : Lift.Id} : tyH [(0, .one o)] id = none := by
  obtain ⟨a, b⟩ := id
  simp only [tyH]
  split
  · cases b <;> rfl
  · rfl
def hinI (l : List Int) : Heap := [(0, .one (.arr l.length 1 (fun i _ => .int .i64 (l.getD i 0))))]
theorem lk_hinI {n : Nat} {x : List Int} {id : Lift.Id} {o : HObj} (h : lkH [(0, .one (.arr n 1 (fun i _ => .int .i64 (x.getD i 0))))] id = some o) : id = (0, 0) ∧ o = .arr n 1 (fun i _ => .int .i64 (x.getD i 0)) := by
  obtain ⟨a, b⟩ := id
  simp only [lkH] at h
  by_cases ha : 0 = a
  · subst ha
    rw [if_pos rfl] at h
    cases b with
    | zero => simp only [HEnt.get] at h; injection h with h; exact ⟨rfl, h.symm⟩
    | succ b => simp [HEnt.get] at h
  · rw [if_neg ha] at h; cases h
set_option maxHeartbeats 1000000 in
theorem sortI_pos (l : List Int) (h0 : 0 < l.length) (hl : l.length ≤ 1000000) :
    FC1 Try.prog 52 [.sl (0, 0) 0 l.length] (hinI l) 1 .any [(0, .one (.arr l.length 1 (fun i _ => .int .i64 ((srtI l).getD i 0))))] 1 := by
  intro O w mu vals hk hargs
  match vals, hargs with
  | [v0], ⟨r0, _⟩ =>
  obtain ⟨_, A, cap, rfl, hcap, hA⟩ := r0
  obtain ⟨B, hB0, rfl, hsz⟩ := hA.resolve_left (by omega)
  have hB : mu (0, 0) = some B := hB0
  have hlk : lkH (hinI l) (0, 0) = some (.arr l.length 1 (fun i _ => .int .i64 (l.getD i 0))) := rfl
  have hobj := (hk.obj (0, 0) _ hlk).2
  rw [hB] at hobj
  obtain ⟨hs, cells, T, hheap0, hcsz, hbd, hcell⟩ := hobj
  have hheap : w.heap[B.b]? = some (.cells cells T (0, 0)) := hheap0
  have hown := hk.own (0, 0) _ B hlk hB
  have hat : ∀ t, t < l.length → cells[B.o + t]? = some (.int .i64 (l.getD t 0)) := fun t ht => by
    obtain ⟨_, v, hv, hr⟩ := hcell t ht 0 (by decide)
    have hr' : v = .int .i64 (l.getD t 0) := hr
    rw [hr', Nat.mul_one, Nat.add_zero] at hv
    exact hv
  have hget : ∀ i, i < l.length → (l.toArray)[i]! = l.getD i 0 := fun i hi => by simp [List.getD, hi]
  have hH : Holds (Value.int .i64) w B.b B.o l.toArray := by
    intro t ht
    have ht' : t < l.length := by simpa using ht
    rw [hget _ ht']
    refine ⟨?_, ?_⟩
    · show w.cell? _ = _
      unfold World.cell?
      simp only [hheap, Option.isSome_none]
      exact hat t ht'
    · unfold World.frozen?
      simp only [hheap]
      simp
  have hblk : B.b < w.heap.size := hown.1
  have hrow : ∀ (m : Nat) (dk : Array Int) (os : Array Obj), (Go.Sort.grow (putRow (Value.int .i64) (Go.Sort.ahead w m) B.b B.o dk) os).heap[B.b]? = some (.cells (putCells (Value.int .i64) B.o dk cells) T (0, 0)) := fun m dk os => by
    rw [heap_grow_old _ _ (by rw [show (putRow (Value.int .i64) (Go.Sort.ahead w m) B.b B.o dk).heap.size = w.heap.size by simp [putRow, mapBlock, Go.Sort.ahead]]; exact hblk)]
    show (w.heap.modify B.b _)[B.b]? = _
    rw [Array.getElem?_modify, if_pos rfl, hheap]
    rfl
  have hoth : ∀ (m : Nat) (dk : Array Int) (os : Array Obj) (b : Nat), b < w.heap.size → b ≠ B.b → (Go.Sort.grow (putRow (Value.int .i64) (Go.Sort.ahead w m) B.b B.o dk) os).heap[b]? = w.heap[b]? := fun m dk os b hb hne => by
    rw [heap_grow_old _ _ (by rw [show (putRow (Value.int .i64) (Go.Sort.ahead w m) B.b B.o dk).heap.size = w.heap.size by simp [putRow, mapBlock, Go.Sort.ahead]]; exact hb)]
    show (w.heap.modify B.b _)[b]? = _
    rw [Array.getElem?_modify, if_neg (Ne.symm hne)]
  have hsize : ∀ (m : Nat) (dk : Array Int) (os : Array Obj), w.heap.size ≤ (Go.Sort.grow (putRow (Value.int .i64) (Go.Sort.ahead w m) B.b B.o dk) os).heap.size := fun m dk os => by
    simp [Go.Sort.grow, putRow, mapBlock, Go.Sort.ahead]
  have key := AnyG.slices_Sort_int sortI B.b B.o cap l w hH hblk (by omega)
  change Calls Try.prog 52 _ _ _ at key
  show Calls Try.prog 52 #[.slice (some ⟨B.b, B.o + 0 * B.s, none⟩) l.length cap] w _
  rw [Nat.zero_mul, Nat.add_zero]
  refine key.mono ?_
  rintro e w' ⟨rfl, m, os, rfl⟩
  have hgd : ∀ i, i < l.length → ((srtI l).toArray)[i]! = (srtI l).getD i 0 := fun i hi => by
    have : i < (srtI l).length := by rw [srtI_len]; exact hi
    simp [List.getD, this]
  refine ⟨.tuple #[], (), mu, rfl, trivial, Nat.le_refl _, fun _ _ => rfl, ?_, trivial⟩
  refine ⟨fun id o h => ?_, fun id id' o o' B1 B2 h1 h2 _ _ _ => ?_, fun id o B1 h1 h2 => ?_, ?_, hk.out, fun id t B1 ht => by rw [ty_one] at ht; cases ht⟩
  · obtain ⟨rfl, rfl⟩ := lk_hinI h
    refine ⟨Nat.lt_succ_self _, ?_⟩
    show HRel _ (mu (0, 0)) _
    rw [hB]
    refine ⟨hs, _, T, hrow m (srtI l).toArray os, ?_, hbd, fun i hi j hj => ⟨rfl, .int .i64 ((srtI l).getD i 0), ?_, rfl⟩⟩
    · simp [putCells]; exact hcsz
    · have hbd' : B.o + l.length * 1 ≤ cells.size := by rw [hcsz]; exact hbd
      have hj0 : j = 0 := by omega
      subst hj0
      have hsz2 : (srtI l).toArray.size = l.length := by simp [srtI_len]
      unfold putCells
      rw [Array.getElem?_mapIdx, Array.getElem?_eq_getElem (show B.o + i * 1 + 0 < cells.size by omega)]
      simp only [Option.map_some]
      rw [if_pos (by rw [hsz2]; omega), show B.o + i * 1 + 0 - B.o = i by omega, hgd i hi]
  · rw [(lk_hinI h1).1, (lk_hinI h2).1]
  · obtain ⟨rfl, rfl⟩ := lk_hinI h1
    have e : B1 = B := by rw [hB] at h2; injection h2 with h2; exact h2.symm
    subst e
    exact ⟨Nat.lt_of_lt_of_le hblk (hsize m (srtI l).toArray os), hown.2⟩
  · refine ⟨rfl, rfl, rfl, by simp [Go.Sort.grow, putRow, mapBlock, Go.Sort.ahead], hsize m (srtI l).toArray os, fun b hb hmt => hoth m (srtI l).toArray os b hb fun e => hmt ⟨(0, 0), _, B, hlk, hB, e.symm⟩⟩
end Go.Proofs.Ythpdkmoedpcboaa
