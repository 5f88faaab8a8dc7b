/-
  The contract of the shelf on slices.SortFunc, laid at this program's cells. The laying is printed by tools/mksortlay.py.
-/
import Derived.Test.YtmjkbidnghcfnaaProg
import Derived.Shelf.SlSortCmp.WholeK
import Derived.KernelRfl
import Derived.Test.YtmjkbidnghcfnaaWS
namespace Go.Proofs.Ytmjkbidnghcfnaa
open Go Go.Proofs
def sortC_ren : Go.Shelf.Ren := ⟨fun | 6 => 56 | 15 => 71 | 14 => 70 | 28 => 85 | 29 => 86 | 20 => 77 | 21 => 78 | 22 => 79 | 23 => 80 | 24 => 81 | 25 => 82 | 26 => 83 | 27 => 84 | 46 => 89 | 47 => 90 | 48 => 91 | 49 => 92 | 50 => 93 | 57 => 94 | n => n, fun | 22 => 54 | 24 => 53 | 25 => 101 | 3 => 3 | 39 => 117 | 0 => 0 | 53 => 128 | 55 => 130 | 4 => 4 | 46 => 122 | 45 => 121 | 50 => 106 | 5 => 5 | 9 => 9 | 66 => 133 | 70 => 137 | 76 => 139 | 77 => 140 | n => n, fun | n => n⟩
theorem sortC : Go.Proofs.SlLaysF0.n6 Try.prog sortC_ren := {
  mixed := by kernel_rfl,
  f6 := ⟨Try.f56.name, by decide, Try.func56.trans (congrArg some (by kernel_rfl))⟩,
  f14 := ⟨Try.f70.name, by decide, Try.func70.trans (congrArg some (by kernel_rfl))⟩,
  f15 := Try.func71.trans (congrArg some (by kernel_rfl)),
  f20 := ⟨Try.f77.name, by decide, Try.func77.trans (congrArg some (by kernel_rfl))⟩,
  f21 := ⟨Try.f78.name, by decide, Try.func78.trans (congrArg some (by kernel_rfl))⟩,
  f22 := ⟨Try.f79.name, by decide, Try.func79.trans (congrArg some (by kernel_rfl))⟩,
  f23 := ⟨Try.f80.name, by decide, Try.func80.trans (congrArg some (by kernel_rfl))⟩,
  f24 := ⟨Try.f81.name, by decide, Try.func81.trans (congrArg some (by kernel_rfl))⟩,
  f25 := ⟨Try.f82.name, by decide, Try.func82.trans (congrArg some (by kernel_rfl))⟩,
  f26 := ⟨Try.f83.name, by decide, Try.func83.trans (congrArg some (by kernel_rfl))⟩,
  f27 := ⟨Try.f84.name, by decide, Try.func84.trans (congrArg some (by kernel_rfl))⟩,
  f28 := Try.func85.trans (congrArg some (by kernel_rfl)),
  f29 := Try.func86.trans (congrArg some (by kernel_rfl)),
  f46 := ⟨Try.f89.name, by decide, Try.func89.trans (congrArg some (by kernel_rfl))⟩,
  f47 := Try.func90.trans (congrArg some (by kernel_rfl)),
  f48 := Try.func91.trans (congrArg some (by kernel_rfl)),
  f49 := ⟨Try.f92.name, by decide, Try.func92.trans (congrArg some (by kernel_rfl))⟩,
  f50 := ⟨Try.f93.name, by decide, Try.func93.trans (congrArg some (by kernel_rfl))⟩,
  f57 := ⟨Try.f94.name, by decide, Try.func94.trans (congrArg some (by kernel_rfl))⟩,
  t0 := Try.underlying0,
  a0 := Try.isAgg0,
  z0 := Try.sizeOf0,
  v0 := Try.zeroValue0,
  t3 := Try.underlying3,
  a3 := Try.isAgg3,
  z3 := Try.sizeOf3,
  v3 := Try.zeroValue3,
  t4 := Try.underlying4,
  a4 := Try.isAgg4,
  z4 := Try.sizeOf4,
  v4 := Try.zeroValue4,
  t5 := Try.underlying5,
  a5 := Try.isAgg5,
  z5 := Try.sizeOf5,
  v5 := Try.zeroValue5,
  t9 := Try.underlying9,
  a9 := Try.isAgg9,
  z9 := Try.sizeOf9,
  v9 := Try.zeroValue9,
  t22 := Try.underlying54,
  a22 := Try.isAgg54,
  z22 := Try.sizeOf54,
  v22 := Try.zeroValue54,
  t25 := Try.underlying101,
  a25 := Try.isAgg101,
  z25 := Try.sizeOf101,
  v25 := Try.zeroValue101,
  t39 := Try.underlying117,
  a39 := Try.isAgg117,
  z39 := Try.sizeOf117,
  v39 := Try.zeroValue117,
  t45 := Try.underlying121,
  a45 := Try.isAgg121,
  z45 := Try.sizeOf121,
  v45 := Try.zeroValue121,
  t46 := Try.underlying122,
  a46 := Try.isAgg122,
  z46 := Try.sizeOf122,
  v46 := Try.zeroValue122,
  t50 := Try.underlying106,
  a50 := Try.isAgg106,
  z50 := Try.sizeOf106,
  v50 := Try.zeroValue106,
  t53 := Try.underlying128,
  a53 := Try.isAgg128,
  z53 := Try.sizeOf128,
  v53 := Try.zeroValue128,
  t55 := Try.underlying130,
  a55 := Try.isAgg130,
  z55 := Try.sizeOf130,
  v55 := Try.zeroValue130,
  t66 := Try.underlying133,
  a66 := Try.isAgg133,
  z66 := Try.sizeOf133,
  v66 := Try.zeroValue133,
  t70 := Try.underlying137,
  a70 := Try.isAgg137,
  z70 := Try.sizeOf137,
  v70 := Try.zeroValue137,
  t76 := Try.underlying139,
  a76 := Try.isAgg139,
  z76 := Try.sizeOf139,
  v76 := Try.zeroValue139,
  t77 := Try.underlying140,
  a77 := Try.isAgg140,
  z77 := Try.sizeOf140,
  v77 := Try.zeroValue140 }
end Go.Proofs.Ytmjkbidnghcfnaa

namespace Go.Proofs.Ytmjkbidnghcfnaa
set_option linter.unusedSimpArgs false
set_option linter.unusedVariables false
open Go Go.Lift Go.Proofs Go.Sort Go.Shelf

/-- what only lays blocks and draws, has laid blocks and drawn. -/
theorem kept_grow {w w' : World} (h : Kept w (fun _ => False) w') : ∃ q os', w' = Go.Sort.grow (w.drewN q) os' := by
  refine ⟨w'.drawn - w.drawn, w'.heap.extract w.heap.size w'.heap.size, ?_⟩
  have hd := h.drawn
  have hh : w'.heap = w.heap ++ w'.heap.extract w.heap.size w'.heap.size := by
    apply Array.ext_getElem?
    intro i
    rw [Array.getElem?_append]
    split
    · rename_i hi
      exact h.block i hi (fun h => h)
    · rename_i hi
      rw [Array.getElem?_extract]
      have hs := h.size
      split
      · rename_i h2
        congr 1; omega
      · rename_i h2
        rw [Array.getElem?_eq_none (by omega)]
  obtain ⟨h1, h2, h3, h4, h5⟩ := w'
  have e1 := h.os
  have e2 := h.tape
  have e3 := h.output
  simp only at e1 e2 e3 hd hh
  unfold Go.Sort.grow World.drewN
  simp only
  rw [← hh]
  congr 1
  all_goals first | (omega) | assumption | skip
def encC (x : Cell) : List Value := [.int .i64 x.to, .string ⟨⟨x.word⟩⟩]
theorem encC_at (x : Cell) {j : Nat} (hj : j < 2) : ∀ {c : Cx} {v : Value}, Rel c (cellF x j) v → v = (encC x)[j]! := by
  intro c v h
  rcases (show j = 0 ∨ j = 1 by omega) with rfl | rfl <;> exact h
theorem encC_rel (x : Cell) {j : Nat} (hj : j < 2) (c : Cx) : Rel c (cellF x j) (encC x)[j]! := by
  rcases (show j = 0 ∨ j = 1 by omega) with rfl | rfl <;> rfl
theorem cmp_swo : SWO (ltOf cmpC) where
  irrefl x := by unfold ltOf; rw [decide_eq_false_iff_not, cmp_ltC]; exact ltC_irrefl x
  trans x y z h1 h2 := by
    unfold ltOf at *
    rw [decide_eq_true_eq, cmp_ltC] at *
    exact ltC_trans h1 h2
  ntrans x y z h1 h2 := by
    unfold ltOf at *
    rw [decide_eq_false_iff_not, cmp_ltC] at *
    exact leC_trans h2 h1
def hinC (l : List Cell) : Heap := [(0, .one (.arr l.length 2 (fun i j => cellF (l.getD i dc) j)))]
theorem lk_hinC {n : Nat} {x : List Cell} {id : Lift.Id} {o : HObj} (h : lkH [(0, .one (.arr n 2 (fun i j => cellF (x.getD i dc) j)))] id = some o) : id = (0, 0) ∧ o = .arr n 2 (fun i j => cellF (x.getD i dc) j) := by
  obtain ⟨a, b⟩ := id
  simp only [lkH] at h
  by_cases ha : 0 = a
  · subst ha
    rw [if_pos rfl] at h
    cases b with
    | zero => simp only [HEnt.get] at h; injection h with h; exact ⟨rfl, h.symm⟩
    | succ b => simp [HEnt.get] at h
  · rw [if_neg ha] at h; cases h
theorem ty_one {o : HObj} {id : Lift.Id} : tyH [(0, .one o)] id = none := by
  obtain ⟨a, b⟩ := id
  simp only [tyH]
  split
  · cases b <;> rfl
  · rfl
set_option maxHeartbeats 1000000 in
theorem sortC_pos (l : List Cell) (h0 : 0 < l.length) (hl : l.length ≤ 1000000) :
    FC Try.prog 56 [.sl (0, 0) 0 l.length, .fn 57 0 (fun _ => .any)] (hinC l) 1 (fun x : List Cell => x.Perm l ∧ ∀ i j, i < j → j < x.length → ¬ cmpC (x.getD j dc) (x.getD i dc) < 0) (fun _ => .any)
      (fun x => [(0, .one (.arr l.length 2 (fun i j => cellF (x.getD i dc) j)))]) (fun _ => 1) := by
  intro O w mu vals hk hargs
  match vals, hargs with
  | [v0, v1], ⟨r0, r1, _⟩ =>
  obtain ⟨_, A, cap, rfl, hcap, hA⟩ := r0
  obtain ⟨B, hB0, rfl, hsz⟩ := hA.resolve_left (by omega)
  have hB : mu (0, 0) = some B := hB0
  obtain ⟨cs, rfl, hcs, hcr⟩ := r1
  obtain rfl : cs = #[] := Array.size_eq_zero_iff.1 hcs
  have hlk : lkH (hinC l) (0, 0) = some (.arr l.length 2 (fun i j => cellF (l.getD i dc) j)) := rfl
  have hobj := (hk.obj (0, 0) _ hlk).2
  rw [hB] at hobj
  obtain ⟨hs, cells, T, hheap0, hcsz, hbd, hcell⟩ := hobj
  have hheap : w.heap[B.b]? = some (.cells cells T (0, 0)) := hheap0
  have hown := hk.own (0, 0) _ B hlk hB
  have hat : ∀ t, t < l.length * 2 → cells[B.o + t]? = some ((encC (l.getD (t / 2) dc))[t % 2]!) := fun t ht => by
    obtain ⟨_, v, hv, hr⟩ := hcell (t / 2) (by omega) (t % 2) (Nat.mod_lt _ (by omega))
    have := encC_at _ (Nat.mod_lt _ (by omega)) hr
    rw [this, Nat.add_assoc, show t / 2 * 2 + t % 2 = t by omega] at hv
    exact hv
  have hget : ∀ i, i < l.length → (l.toArray)[i]! = l.getD i dc := fun i hi => by simp [List.getD, hi]
  have hH : HoldsK encC 2 w B.b B.o l.toArray := by
    intro t ht
    rw [size_flatK] at ht
    have ht' : t < l.length * 2 := by simpa using ht
    rw [get_flatK encC 2 l.toArray t (by simpa using ht'), hget _ (by omega)]
    refine ⟨?_, ?_⟩
    · show w.cell? _ = _
      unfold World.cell?
      simp only [hheap, Option.isSome_none]
      exact hat t ht'
    · unfold World.frozen?
      simp only [hheap]
      simp
  have hblk : B.b < w.heap.size := hown.1
  -- what the worlds of the sort look like
  have hrow : ∀ (m : Nat) (dk : Array Cell) (os : Array Obj), (sortWorldK encC 2 w B.b B.o m dk os).heap[B.b]? = some (.cells (putCells id B.o (flatK encC 2 dk) cells) T (0, 0)) := fun m dk os => by
    unfold sortWorldK
    rw [heap_grow_old _ _ (by rw [show (putRowK encC 2 (Go.Sort.ahead w m) B.b B.o dk).heap.size = w.heap.size by simp [putRowK, putRow, mapBlock, Go.Sort.ahead]]; exact hblk)]
    show (w.heap.modify B.b _)[B.b]? = _
    rw [Array.getElem?_modify, if_pos rfl, hheap]
    rfl
  have hoth : ∀ (m : Nat) (dk : Array Cell) (os : Array Obj) (b : Nat), b < w.heap.size → b ≠ B.b → (sortWorldK encC 2 w B.b B.o m dk os).heap[b]? = w.heap[b]? := fun m dk os b hb hne => by
    unfold sortWorldK
    rw [heap_grow_old _ _ (by rw [show (putRowK encC 2 (Go.Sort.ahead w m) B.b B.o dk).heap.size = w.heap.size by simp [putRowK, putRow, mapBlock, Go.Sort.ahead]]; exact hb)]
    show (w.heap.modify B.b _)[b]? = _
    rw [Array.getElem?_modify, if_neg (Ne.symm hne)]
  have hsize : ∀ (m : Nat) (dk : Array Cell) (os : Array Obj), w.heap.size ≤ (sortWorldK encC 2 w B.b B.o m dk os).heap.size := fun m dk os => by
    simp [sortWorldK, Go.Sort.grow, putRowK, putRow, mapBlock, Go.Sort.ahead]
  have hcmp : CmpLays Try.prog 57 #[] encC 2 cmpC B.b B.o l.toArray.size w := by
    intro m os dk hdk x y
    have hB2 : ∀ b, ¬ lendO ⟨w, inB (hinC l) mu, O, 0, none⟩ (hinC l) mu (fun _ => false) b → b ≠ B.b := fun b hb e => hb ⟨.inr ⟨(0, 0), _, B, hlk, hB, e.symm⟩, fun ⟨id, o, B', hf, _⟩ => by cases hf⟩
    have hLe : (c0 (lendO ⟨w, inB (hinC l) mu, O, 0, none⟩ (hinC l) mu (fun _ => false)) w).Lc (c0 (lendO ⟨w, inB (hinC l) mu, O, 0, none⟩ (hinC l) mu (fun _ => false)) (sortWorldK encC 2 w B.b B.o m dk os)) :=
      ⟨hsize m dk os, fun _ _ h => h, fun b o hb hF => World.cell?_of_block (hoth m dk os b hb (hB2 b hF)), Nat.le_refl _, fun _ h => absurd h (Nat.not_lt_zero _)⟩
    have hag : ∀ (z : Cell) (c : Cx), Rel c (.agg 2 (cellF z)) (.agg (encC z).toArray) := fun z c => ⟨_, rfl, rfl, fun j hj => by
      rcases (show j = 0 ∨ j = 1 by omega) with rfl | rfl <;> rfl⟩
    have hpc := cmpC_c x y (lendO ⟨w, inB (hinC l) mu, O, 0, none⟩ (hinC l) mu (fun _ => false)) (sortWorldK encC 2 w B.b B.o m dk os) [.agg (encC x).toArray, .agg (encC y).toArray]
      (fun b hb => Nat.lt_of_lt_of_le (hk.bound b hb.1) (hsize m dk os)) ⟨hag x _, hag y _, trivial⟩
    refine hpc.mono ?_
    rintro e w' ⟨v, rfl, hkept, hrel⟩
    have hv : v = .int .i64 (cmpC x y) := hrel
    subst hv
    obtain ⟨q, os', hw⟩ := kept_grow hkept
    exact ⟨rfl, q, os', hw⟩
  have key := AnyQ.slices_SortFunc sortC 2 Try.isAgg53 Try.sizeOf53 encC (fun _ => rfl) (fun x v hv => by simp [encC] at hv; rcases hv with rfl | rfl <;> rfl) cmpC cmp_swo 57 #[] B.b B.o cap l.toArray w
    (enters_of Try.func57 (by kernel_rfl) rfl) hcmp hH hblk (by simp; omega)
  change Calls Try.prog 56 _ _ _ at key
  simp only [List.size_toArray] at key
  show Calls Try.prog 56 #[.slice (some ⟨B.b, B.o + 0 * B.s, none⟩) l.length cap, .func (.func 57) #[] #[]] w _
  rw [Nat.zero_mul, Nat.add_zero]
  refine key.mono ?_
  rintro e w' ⟨rfl, d', m, os, hp, hs2, rfl⟩
  obtain ⟨hp1, _, hp2⟩ := hp
  have hdl : d'.size = l.length := by simpa using hp1
  have e1 : d'.extract 0 l.length = d' := by rw [← hdl]; simp
  have e2 : l.toArray.extract 0 l.length = l.toArray := by simp
  have hperm : d'.toList.Perm l := by rw [e1, e2] at hp2; exact hp2
  have hgd : ∀ i, i < l.length → d'[i]! = d'.toList.getD i dc := fun i hi => by
    rw [getElem!_pos d' i (by omega)]
    simp [List.getD, show i < d'.size by omega]
  refine ⟨.tuple #[], d'.toList, mu, rfl, ⟨hperm, fun i j hij hj => ?_⟩, Nat.le_refl _, fun _ _ => rfl, ?_, trivial⟩
  · have hj' : j < l.length := by simpa [hdl] using hj
    have := hs2 i j (Nat.zero_le _) hij hj'
    unfold ltOf at this
    rw [decide_eq_false_iff_not, hgd j hj', hgd i (by omega)] at this
    exact this
  refine ⟨fun id o h => ?_, fun id id' o o' B1 B2 h1 h2 _ _ _ => ?_, fun id o B1 h1 h2 => ?_, ?_, hk.out, fun id t B1 ht => by rw [ty_one] at ht; cases ht⟩
  · obtain ⟨rfl, rfl⟩ := lk_hinC h
    refine ⟨Nat.lt_succ_self _, ?_⟩
    show HRel _ (mu (0, 0)) _
    rw [hB]
    refine ⟨hs, _, T, hrow m d' os, ?_, hbd, fun i hi j hj => ⟨one_cellF, _, ?_, encC_rel _ hj _⟩⟩
    · simp [putCells]; exact hcsz
    · have hbd' : B.o + l.length * 2 ≤ cells.size := by rw [hcsz]; exact hbd
      unfold putCells
      rw [Array.getElem?_mapIdx, Array.getElem?_eq_getElem (show B.o + i * 2 + j < cells.size by omega)]
      simp only [Option.map_some]
      rw [if_pos (by rw [size_flatK, hdl]; omega)]
      rw [show B.o + i * 2 + j - B.o = i * 2 + j by omega, get_flatK encC 2 d' (i * 2 + j) (by rw [hdl]; omega), show (i * 2 + j) / 2 = i by omega, show (i * 2 + j) % 2 = j by omega, hgd i hi]
      rfl
  · rw [(lk_hinC h1).1, (lk_hinC h2).1]
  · obtain ⟨rfl, rfl⟩ := lk_hinC h1
    have e : B1 = B := by rw [hB] at h2; injection h2 with h2; exact h2.symm
    subst e
    exact ⟨Nat.lt_of_lt_of_le hblk (hsize m d' os), hown.2⟩
  · refine ⟨rfl, rfl, rfl, by simp [sortWorldK, Go.Sort.grow, putRowK, putRow, mapBlock, Go.Sort.ahead], hsize m d' os, fun b hb hmt => hoth m d' os b hb fun e => hmt ⟨(0, 0), _, B, hlk, hB, e.symm⟩⟩
end Go.Proofs.Ytmjkbidnghcfnaa
