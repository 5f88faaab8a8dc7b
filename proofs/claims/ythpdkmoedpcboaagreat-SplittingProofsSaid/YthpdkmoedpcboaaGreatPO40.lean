/- Parts of the proof: YS YT. -/
import Derived.Test.YthpdkmoedpcboaaGreatProg
import Derived.Shelf.SortG.Plain
import Derived.KernelRfl
import Derived.Test.YthpdkmoedpcboaaGreatPO15
import Derived.Test.YthpdkmoedpcboaaGreatPO18
import Derived.Test.YthpdkmoedpcboaaGreatPO36
import Derived.Test.YthpdkmoedpcboaaGreatPO39
namespace Go.Proofs.YthpdkmoedpcboaaGreat
open Go Go.Proofs
def sortS_ren : Go.Shelf.Ren := ⟨fun | 54 => 83 | 64 => 118 | 65 => 124 | 78 => 149 | 79 => 150 | 80 => 154 | 81 => 155 | 82 => 156 | 83 => 157 | 84 => 158 | 85 => 159 | 61 => 160 | 86 => 161 | 87 => 162 | 93 => 181 | 89 => 176 | 90 => 177 | 94 => 182 | 95 => 183 | 69 => 184 | 97 => 191 | n => n, fun | 25 => 44 | 26 => 9 | 3 => 3 | 51 => 138 | 0 => 0 | 67 => 160 | 69 => 162 | 4 => 4 | 61 => 153 | 60 => 152 | 44 => 157 | 5 => 5 | 9 => 9 | 75 => 176 | 79 => 180 | 83 => 187 | 84 => 188 | n => n, fun | n => n⟩
theorem sortS : Go.Proofs.SlLaysN.n54 Tryz.prog sortS_ren := {
  mixed := by kernel_rfl,
  f54 := ⟨"slices.Sort[[]string,string]", by decide, Tryz.func83.trans (congrArg some (by kernel_rfl))⟩,
  f61 := ⟨"cmp.Less[string]", by decide, Tryz.func160.trans (congrArg some (by kernel_rfl))⟩,
  f64 := Tryz.func118.trans (congrArg some (by kernel_rfl)),
  f65 := ⟨"slices.pdqsortOrdered[string]", by decide, Tryz.func124.trans (congrArg some (by kernel_rfl))⟩,
  f69 := ⟨"cmp.isNaN[string]", by decide, Tryz.func184.trans (congrArg some (by kernel_rfl))⟩,
  f78 := Tryz.func149.trans (congrArg some (by kernel_rfl)),
  f79 := Tryz.func150.trans (congrArg some (by kernel_rfl)),
  f80 := ⟨"slices.insertionSortOrdered[string]", by decide, Tryz.func154.trans (congrArg some (by kernel_rfl))⟩,
  f81 := ⟨"slices.heapSortOrdered[string]", by decide, Tryz.func155.trans (congrArg some (by kernel_rfl))⟩,
  f82 := ⟨"slices.breakPatternsOrdered[string]", by decide, Tryz.func156.trans (congrArg some (by kernel_rfl))⟩,
  f83 := ⟨"slices.choosePivotOrdered[string]", by decide, Tryz.func157.trans (congrArg some (by kernel_rfl))⟩,
  f84 := ⟨"slices.reverseRangeOrdered[string]", by decide, Tryz.func158.trans (congrArg some (by kernel_rfl))⟩,
  f85 := ⟨"slices.partialInsertionSortOrdered[string]", by decide, Tryz.func159.trans (congrArg some (by kernel_rfl))⟩,
  f86 := ⟨"slices.partitionEqualOrdered[string]", by decide, Tryz.func161.trans (congrArg some (by kernel_rfl))⟩,
  f87 := ⟨"slices.partitionOrdered[string]", by decide, Tryz.func162.trans (congrArg some (by kernel_rfl))⟩,
  f89 := Tryz.func176.trans (congrArg some (by kernel_rfl)),
  f90 := Tryz.func177.trans (congrArg some (by kernel_rfl)),
  f93 := ⟨"slices.siftDownOrdered[string]", by decide, Tryz.func181.trans (congrArg some (by kernel_rfl))⟩,
  f94 := ⟨"slices.medianAdjacentOrdered[string]", by decide, Tryz.func182.trans (congrArg some (by kernel_rfl))⟩,
  f95 := ⟨"slices.medianOrdered[string]", by decide, Tryz.func183.trans (congrArg some (by kernel_rfl))⟩,
  f97 := ⟨"slices.order2Ordered[string]", by decide, Tryz.func191.trans (congrArg some (by kernel_rfl))⟩,
  t0 := Tryz.underlying0,
  a0 := Tryz.isAgg0,
  z0 := Tryz.sizeOf0,
  v0 := Tryz.zeroValue0,
  t3 := Tryz.underlying3,
  a3 := Tryz.isAgg3,
  z3 := Tryz.sizeOf3,
  v3 := Tryz.zeroValue3,
  t4 := Tryz.underlying4,
  a4 := Tryz.isAgg4,
  z4 := Tryz.sizeOf4,
  v4 := Tryz.zeroValue4,
  t5 := Tryz.underlying5,
  a5 := Tryz.isAgg5,
  z5 := Tryz.sizeOf5,
  v5 := Tryz.zeroValue5,
  t9 := Tryz.underlying9,
  a9 := Tryz.isAgg9,
  z9 := Tryz.sizeOf9,
  v9 := Tryz.zeroValue9,
  t25 := Tryz.underlying44,
  a25 := Tryz.isAgg44,
  z25 := Tryz.sizeOf44,
  v25 := Tryz.zeroValue44,
  t26 := Tryz.underlying9,
  a26 := Tryz.isAgg9,
  z26 := Tryz.sizeOf9,
  v26 := Tryz.zeroValue9,
  t44 := Tryz.underlying157,
  a44 := Tryz.isAgg157,
  z44 := Tryz.sizeOf157,
  v44 := Tryz.zeroValue157,
  t51 := Tryz.underlying138,
  a51 := Tryz.isAgg138,
  z51 := Tryz.sizeOf138,
  v51 := Tryz.zeroValue138,
  t60 := Tryz.underlying152,
  a60 := Tryz.isAgg152,
  z60 := Tryz.sizeOf152,
  v60 := Tryz.zeroValue152,
  t61 := Tryz.underlying153,
  a61 := Tryz.isAgg153,
  z61 := Tryz.sizeOf153,
  v61 := Tryz.zeroValue153,
  t67 := Tryz.underlying160,
  a67 := Tryz.isAgg160,
  z67 := Tryz.sizeOf160,
  v67 := Tryz.zeroValue160,
  t69 := Tryz.underlying162,
  a69 := Tryz.isAgg162,
  z69 := Tryz.sizeOf162,
  v69 := Tryz.zeroValue162,
  t75 := Tryz.underlying176,
  a75 := Tryz.isAgg176,
  z75 := Tryz.sizeOf176,
  v75 := Tryz.zeroValue176,
  t79 := Tryz.underlying180,
  a79 := Tryz.isAgg180,
  z79 := Tryz.sizeOf180,
  v79 := Tryz.zeroValue180,
  t83 := Tryz.underlying187,
  a83 := Tryz.isAgg187,
  z83 := Tryz.sizeOf187,
  v83 := Tryz.zeroValue187,
  t84 := Tryz.underlying188,
  a84 := Tryz.isAgg188,
  z84 := Tryz.sizeOf188,
  v84 := Tryz.zeroValue188 }
end Go.Proofs.YthpdkmoedpcboaaGreat
namespace Go.Proofs.YthpdkmoedpcboaaGreat
set_option linter.unusedSimpArgs false
set_option linter.unusedVariables false
open Go Go.Lift Go.Proofs Go.Sort Go.Shelf
def hinS (l : List (List UInt8)) : Heap := [(0, .one (.arr l.length 1 (fun i _ => .str (l.getD i []))))]
theorem lk_hinS {n : Nat} {x : List (List UInt8)} {id : Lift.Id} {o : HObj} (h : lkH [(0, .one (.arr n 1 (fun i _ => .str (x.getD i []))))] id = some o) : id = (0, 0) ∧ o = .arr n 1 (fun i _ => .str (x.getD i [])) := by
  obtain ⟨a, b⟩ := id
  simp only [lkH] at h
  by_cases ha : 0 = a
  · subst ha
    rw [if_pos rfl] at h
    cases b with
    | zero => simp only [HEnt.get] at h; injection h with h; exact ⟨rfl, h.symm⟩
    | succ b => simp [HEnt.get] at h
  · rw [if_neg ha] at h; cases h
set_option maxHeartbeats 1000000 in
theorem sortS_pos (l : List (List UInt8)) (h0 : 0 < l.length) (hl : l.length ≤ 1000000) :
    FC1 Tryz.prog 83 [.sl (0, 0) 0 l.length] (hinS l) 1 .any [(0, .one (.arr l.length 1 (fun i _ => .str ((srtS l).getD i []))))] 1 := by
  intro O w mu vals hk hargs
  match vals, hargs with
  | [v0], ⟨r0, _⟩ =>
  obtain ⟨_, A, cap, rfl, hcap, hA⟩ := r0
  obtain ⟨B, hB0, rfl, hsz⟩ := hA.resolve_left (by omega)
  have hB : mu (0, 0) = some B := hB0
  have hlk : lkH (hinS l) (0, 0) = some (.arr l.length 1 (fun i _ => .str (l.getD i []))) := rfl
  have hobj := (hk.obj (0, 0) _ hlk).2
  rw [hB] at hobj
  obtain ⟨hs, cells, T, hheap0, hcsz, hbd, hcell⟩ := hobj
  have hheap : w.heap[B.b]? = some (.cells cells T (0, 0)) := hheap0
  have hown := hk.own (0, 0) _ B hlk hB
  have hat : ∀ t, t < l.length → cells[B.o + t]? = some (encStr (l.getD t [])) := fun t ht => by
    obtain ⟨_, v, hv, hr⟩ := hcell t ht 0 (by decide)
    have hr' : v = encStr (l.getD t []) := hr
    rw [hr', Nat.mul_one, Nat.add_zero] at hv
    exact hv
  have hget : ∀ i, i < l.length → (l.toArray)[i]! = l.getD i [] := fun i hi => by simp [List.getD, hi]
  have hH : Holds encStr w B.b B.o l.toArray := by
    intro t ht
    have ht' : t < l.length := by simpa using ht
    rw [hget _ ht']
    refine ⟨?_, ?_⟩
    · show w.cell? _ = _
      unfold World.cell?
      simp only [hheap, Option.isSome_none]
      exact hat t ht'
    · unfold World.frozen?
      simp only [hheap]
      simp
  have hblk : B.b < w.heap.size := hown.1
  have hrow : ∀ (m : Nat) (dk : Array (List UInt8)) (os : Array Obj), (Go.Sort.grow (putRow encStr (Go.Sort.ahead w m) B.b B.o dk) os).heap[B.b]? = some (.cells (putCells encStr B.o dk cells) T (0, 0)) := fun m dk os => by
    rw [heap_grow_old _ _ (by rw [show (putRow encStr (Go.Sort.ahead w m) B.b B.o dk).heap.size = w.heap.size by simp [putRow, mapBlock, Go.Sort.ahead]]; exact hblk)]
    show (w.heap.modify B.b _)[B.b]? = _
    rw [Array.getElem?_modify, if_pos rfl, hheap]
    rfl
  have hoth : ∀ (m : Nat) (dk : Array (List UInt8)) (os : Array Obj) (b : Nat), b < w.heap.size → b ≠ B.b → (Go.Sort.grow (putRow encStr (Go.Sort.ahead w m) B.b B.o dk) os).heap[b]? = w.heap[b]? := fun m dk os b hb hne => by
    rw [heap_grow_old _ _ (by rw [show (putRow encStr (Go.Sort.ahead w m) B.b B.o dk).heap.size = w.heap.size by simp [putRow, mapBlock, Go.Sort.ahead]]; exact hb)]
    show (w.heap.modify B.b _)[b]? = _
    rw [Array.getElem?_modify, if_neg (Ne.symm hne)]
  have hsize : ∀ (m : Nat) (dk : Array (List UInt8)) (os : Array Obj), w.heap.size ≤ (Go.Sort.grow (putRow encStr (Go.Sort.ahead w m) B.b B.o dk) os).heap.size := fun m dk os => by
    simp [Go.Sort.grow, putRow, mapBlock, Go.Sort.ahead]
  have key := AnyG.slices_Sort_string sortS B.b B.o cap l w hH hblk (by omega)
  change Calls Tryz.prog 83 _ _ _ at key
  show Calls Tryz.prog 83 #[.slice (some ⟨B.b, B.o + 0 * B.s, none⟩) l.length cap] w _
  rw [Nat.zero_mul, Nat.add_zero]
  refine key.mono ?_
  rintro e w' ⟨rfl, m, os, rfl⟩
  have hgd : ∀ i, i < l.length → ((srtS l).toArray)[i]! = (srtS l).getD i [] := fun i hi => by
    have : i < (srtS l).length := by rw [srtS_len]; exact hi
    simp [List.getD, this]
  refine ⟨.tuple #[], (), mu, rfl, trivial, Nat.le_refl _, fun _ _ => rfl, ?_, trivial⟩
  refine ⟨fun id o h => ?_, fun id id' o o' B1 B2 h1 h2 _ _ _ => ?_, fun id o B1 h1 h2 => ?_, ?_, hk.out, fun id t B1 ht => by rw [ty_one] at ht; cases ht⟩
  · obtain ⟨rfl, rfl⟩ := lk_hinS h
    refine ⟨Nat.lt_succ_self _, ?_⟩
    show HRel _ (mu (0, 0)) _
    rw [hB]
    refine ⟨hs, _, T, hrow m (srtS l).toArray os, ?_, hbd, fun i hi j hj => ⟨rfl, encStr ((srtS l).getD i []), ?_, rfl⟩⟩
    · simp [putCells]; exact hcsz
    · have hbd' : B.o + l.length * 1 ≤ cells.size := by rw [hcsz]; exact hbd
      have hj0 : j = 0 := by omega
      subst hj0
      have hsz2 : (srtS l).toArray.size = l.length := by simp [srtS_len]
      unfold putCells
      rw [Array.getElem?_mapIdx, Array.getElem?_eq_getElem (show B.o + i * 1 + 0 < cells.size by omega)]
      simp only [Option.map_some]
      rw [if_pos (by rw [hsz2]; omega), show B.o + i * 1 + 0 - B.o = i by omega, hgd i hi]
  · rw [(lk_hinS h1).1, (lk_hinS h2).1]
  · obtain ⟨rfl, rfl⟩ := lk_hinS h1
    have e : B1 = B := by rw [hB] at h2; injection h2 with h2; exact h2.symm
    subst e
    exact ⟨Nat.lt_of_lt_of_le hblk (hsize m (srtS l).toArray os), hown.2⟩
  · refine ⟨rfl, rfl, rfl, by simp [Go.Sort.grow, putRow, mapBlock, Go.Sort.ahead], hsize m (srtS l).toArray os, fun b hb hmt => hoth m (srtS l).toArray os b hb fun e => hmt ⟨(0, 0), _, B, hlk, hB, e.symm⟩⟩
end Go.Proofs.YthpdkmoedpcboaaGreat
namespace Go.Proofs.YthpdkmoedpcboaaGreat
set_option linter.unusedSimpArgs false
set_option linter.unusedVariables false
open Go Go.Lift Go.Proofs
set_option maxRecDepth 100000 in
theorem insS0_c  : FC1 Tryz.prog 154 [.sl (0, 0) 0 0, .int .i64 0, .int .i64 0] [(0, .one (.arr 0 1 (fun i _ => .str (([] : List (List UInt8)).getD i []))))] 1 (.any) [(0, .one (.arr 0 1 (fun i _ => .str (([] : List (List UInt8)).getD i []))))] 1 := by
 refine FC_introS T_ok Tryz.func154 rfl (by simp [Tryz.ntmps154]) fun G hG hR => ?_
 simp only [Tryz.ntmps154, Tryz.results154] at hG ⊢
 simp only [argEnv, Nat.zero_add, Nat.reduceAdd]
 refine zs (zr ?_)
 refine zb ?_
 refine awpS_loop (α := Unit) (fun u => ⟨[(0, .sl (0, 0) 0 0), (1, .int .i64 0), (2, .int .i64 0), (6, .int .i64 1)], [(0, .one (.arr 0 1 (fun i _ => .str (([] : List (List UInt8)).getD i []))))], 1⟩) (fun u => True) (fun u => 0) (()) (trivial) ?_ ?_
 · refine wk_of (id) (fun _ => false) (fun _ => false) ?_ ?_ rfl (by simp) (fun k hk => by first | exact ⟨rfl, rfl⟩ | (revert k; decide) | (obtain rfl : k = 0 := (by omega); exact ⟨rfl, rfl⟩) | (have hk2 : k = 0 ∨ k = 1 := (by omega); rcases hk2 with rfl | rfl <;> exact ⟨rfl, rfl⟩))
   · simp [hG, List.getD_cons_zero, List.getD_cons_succ, -List.getD_eq_getElem?_getD]
   simp [hG, List.getD_cons_zero, List.getD_cons_succ, -List.getD_eq_getElem?_getD]
 rintro u hu
 refine zs (zs (zr ?_))
 refine awpS_cond rfl (fun hb12 => ?_) (fun hb12 => ?_)
 · simp at hb12
 try simp [-List.getD_eq_getElem?_getD] at hb12
 refine zx (ztx (zbx (zn ?_)))
 refine RetF_of (()) (id) (fun _ => false) (fun _ => false) trivial ?_ ?_ (by rfl) (by simp) (fun k _ => ⟨rfl, rfl⟩)
 · simp [hG, List.getD_cons_zero, List.getD_cons_succ, -List.getD_eq_getElem?_getD]
 simp [hG, List.getD_cons_zero, List.getD_cons_succ, -List.getD_eq_getElem?_getD]
set_option maxRecDepth 100000 in
theorem pdqS0_c (m : Int) : FC1 Tryz.prog 124 [.sl (0, 0) 0 0, .int .i64 0, .int .i64 0, .int .i64 m] [(0, .one (.arr 0 1 (fun i _ => .str (([] : List (List UInt8)).getD i []))))] 1 (.any) [(0, .one (.arr 0 1 (fun i _ => .str (([] : List (List UInt8)).getD i []))))] 1 := by
 refine FC_introS T_ok Tryz.func124 rfl (by simp [Tryz.ntmps124]) fun G hG hR => ?_
 simp only [Tryz.ntmps124, Tryz.results124] at hG ⊢
 simp only [argEnv, Nat.zero_add, Nat.reduceAdd]
 refine zs (zr ?_)
 refine zs (zr ?_)
 refine zb ?_
 refine awpS_loop (α := Unit) (fun u => ⟨[(0, .sl (0, 0) 0 0), (1, .int .i64 0), (2, .int .i64 0), (3, .int .i64 m), (8, .bool true), (9, .bool true)], [(0, .one (.arr 0 1 (fun i _ => .str (([] : List (List UInt8)).getD i []))))], 1⟩) (fun u => True) (fun u => 0) (()) (trivial) ?_ ?_
 · refine wk_of (id) (fun _ => false) (fun _ => false) ?_ ?_ rfl (by simp) (fun k hk => by first | exact ⟨rfl, rfl⟩ | (revert k; decide) | (obtain rfl : k = 0 := (by omega); exact ⟨rfl, rfl⟩) | (have hk2 : k = 0 ∨ k = 1 := (by omega); rcases hk2 with rfl | rfl <;> exact ⟨rfl, rfl⟩))
   · simp [hG, List.getD_cons_zero, List.getD_cons_succ, -List.getD_eq_getElem?_getD]
   simp [hG, List.getD_cons_zero, List.getD_cons_succ, -List.getD_eq_getElem?_getD]
 rintro u hu
 refine zb (zs (zr ?_))
 refine zs (zs (zr ?_))
 refine awpS_cond rfl (fun hb23 => ?_) (fun hb23 => ?_)
 · try simp [-List.getD_eq_getElem?_getD] at hb23
   refine zs (zL (zl 3 ?_))
   refine zf cal154 [0] insS0_c (fun x hI hno => ?_)
   refine zN (zt (zbt (ztt (zbt ?_))))
   refine RetF_of (()) (id) (fun _ => false) (fun _ => false) trivial ?_ ?_ (by rfl) (by simp) (fun k _ => ⟨rfl, rfl⟩)
   · simp [hG, List.getD_cons_zero, List.getD_cons_succ, -List.getD_eq_getElem?_getD]
   simp [hG, List.getD_cons_zero, List.getD_cons_succ, -List.getD_eq_getElem?_getD]
 simp at hb23
set_option maxRecDepth 100000 in
theorem sortS0_c  : FC1 Tryz.prog 83 [.sl (0, 0) 0 0] [(0, .one (.arr 0 1 (fun i _ => .str (([] : List (List UInt8)).getD i []))))] 1 (.any) [(0, .one (.arr 0 1 (fun i _ => .str (([] : List (List UInt8)).getD i []))))] 1 := by
 refine FC_introS T_ok Tryz.func83 rfl (by simp [Tryz.ntmps83]) fun G hG hR => ?_
 simp only [Tryz.ntmps83, Tryz.results83] at hG ⊢
 simp only [argEnv, Nat.zero_add, Nat.reduceAdd]
 refine zs (zr ?_)
 refine zL (zl 4 ?_)
 refine zc cal118 (bitLen_c 0 (by decide)) ?_
 refine zf cal124 [0] (pdqS0_c (len8 0)) (fun x hI hno => ?_)
 refine zN (zn ?_)
 refine RetF_of (()) (id) (fun _ => false) (fun _ => false) trivial ?_ ?_ (by rfl) (by simp) (fun k _ => ⟨rfl, rfl⟩)
 · simp [hG, List.getD_cons_zero, List.getD_cons_succ, -List.getD_eq_getElem?_getD]
 simp [hG, List.getD_cons_zero, List.getD_cons_succ, -List.getD_eq_getElem?_getD]
end Go.Proofs.YthpdkmoedpcboaaGreat
