/- Parts of the proof: ZB. -/
import Derived.Test.YtchjjiedcpfniaaGreatDoorProg
import Derived.Shelf.SlSortCmp.WholeK
import Derived.KernelRfl
import Derived.Test.YtchjjiedcpfniaaGreatDoorK10
import Derived.Test.YtchjjiedcpfniaaGreatDoorK17
namespace Go.Proofs.YtchjjiedcpfniaaGreatDoor
open Go Go.Proofs
def sortE_ren : Go.Shelf.Ren := ⟨fun | 6 => 119 | 15 => 70 | 14 => 143 | 28 => 100 | 29 => 101 | 20 => 149 | 21 => 150 | 22 => 151 | 23 => 152 | 24 => 153 | 25 => 154 | 26 => 155 | 27 => 156 | 46 => 159 | 47 => 123 | 48 => 124 | 49 => 160 | 50 => 161 | 57 => 162 | n => n, fun | 22 => 22 | 24 => 69 | 25 => 124 | 3 => 3 | 39 => 130 | 0 => 0 | 53 => 150 | 55 => 152 | 4 => 4 | 46 => 143 | 45 => 142 | 50 => 108 | 5 => 5 | 9 => 9 | 66 => 164 | 70 => 168 | 76 => 180 | 77 => 181 | n => n, fun | n => n⟩
theorem sortE : Go.Proofs.SlLaysF0.n6 Tryz.prog sortE_ren := {
  mixed := by kernel_rfl,
  f6 := ⟨"slices.SortFunc[[]groove/api.Edge,groove/api.Edge]", by decide, Tryz.func119.trans (congrArg some (by kernel_rfl))⟩,
  f14 := ⟨"slices.pdqsortCmpFunc[groove/api.Edge]", by decide, Tryz.func143.trans (congrArg some (by kernel_rfl))⟩,
  f15 := Tryz.func70.trans (congrArg some (by kernel_rfl)),
  f20 := ⟨"slices.insertionSortCmpFunc[groove/api.Edge]", by decide, Tryz.func149.trans (congrArg some (by kernel_rfl))⟩,
  f21 := ⟨"slices.heapSortCmpFunc[groove/api.Edge]", by decide, Tryz.func150.trans (congrArg some (by kernel_rfl))⟩,
  f22 := ⟨"slices.breakPatternsCmpFunc[groove/api.Edge]", by decide, Tryz.func151.trans (congrArg some (by kernel_rfl))⟩,
  f23 := ⟨"slices.choosePivotCmpFunc[groove/api.Edge]", by decide, Tryz.func152.trans (congrArg some (by kernel_rfl))⟩,
  f24 := ⟨"slices.reverseRangeCmpFunc[groove/api.Edge]", by decide, Tryz.func153.trans (congrArg some (by kernel_rfl))⟩,
  f25 := ⟨"slices.partialInsertionSortCmpFunc[groove/api.Edge]", by decide, Tryz.func154.trans (congrArg some (by kernel_rfl))⟩,
  f26 := ⟨"slices.partitionEqualCmpFunc[groove/api.Edge]", by decide, Tryz.func155.trans (congrArg some (by kernel_rfl))⟩,
  f27 := ⟨"slices.partitionCmpFunc[groove/api.Edge]", by decide, Tryz.func156.trans (congrArg some (by kernel_rfl))⟩,
  f28 := Tryz.func100.trans (congrArg some (by kernel_rfl)),
  f29 := Tryz.func101.trans (congrArg some (by kernel_rfl)),
  f46 := ⟨"slices.siftDownCmpFunc[groove/api.Edge]", by decide, Tryz.func159.trans (congrArg some (by kernel_rfl))⟩,
  f47 := Tryz.func123.trans (congrArg some (by kernel_rfl)),
  f48 := Tryz.func124.trans (congrArg some (by kernel_rfl)),
  f49 := ⟨"slices.medianAdjacentCmpFunc[groove/api.Edge]", by decide, Tryz.func160.trans (congrArg some (by kernel_rfl))⟩,
  f50 := ⟨"slices.medianCmpFunc[groove/api.Edge]", by decide, Tryz.func161.trans (congrArg some (by kernel_rfl))⟩,
  f57 := ⟨"slices.order2CmpFunc[groove/api.Edge]", by decide, Tryz.func162.trans (congrArg some (by kernel_rfl))⟩,
  t0 := Tryz.underlying0,
  a0 := Tryz.isAgg0,
  z0 := Tryz.sizeOf0,
  v0 := Tryz.zeroValue0,
  t3 := Tryz.underlying3,
  a3 := Tryz.isAgg3,
  z3 := Tryz.sizeOf3,
  v3 := Tryz.zeroValue3,
  t4 := Tryz.underlying4,
  a4 := Tryz.isAgg4,
  z4 := Tryz.sizeOf4,
  v4 := Tryz.zeroValue4,
  t5 := Tryz.underlying5,
  a5 := Tryz.isAgg5,
  z5 := Tryz.sizeOf5,
  v5 := Tryz.zeroValue5,
  t9 := Tryz.underlying9,
  a9 := Tryz.isAgg9,
  z9 := Tryz.sizeOf9,
  v9 := Tryz.zeroValue9,
  t22 := Tryz.underlying22,
  a22 := Tryz.isAgg22,
  z22 := Tryz.sizeOf22,
  v22 := Tryz.zeroValue22,
  t25 := Tryz.underlying124,
  a25 := Tryz.isAgg124,
  z25 := Tryz.sizeOf124,
  v25 := Tryz.zeroValue124,
  t39 := Tryz.underlying130,
  a39 := Tryz.isAgg130,
  z39 := Tryz.sizeOf130,
  v39 := Tryz.zeroValue130,
  t45 := Tryz.underlying142,
  a45 := Tryz.isAgg142,
  z45 := Tryz.sizeOf142,
  v45 := Tryz.zeroValue142,
  t46 := Tryz.underlying143,
  a46 := Tryz.isAgg143,
  z46 := Tryz.sizeOf143,
  v46 := Tryz.zeroValue143,
  t50 := Tryz.underlying108,
  a50 := Tryz.isAgg108,
  z50 := Tryz.sizeOf108,
  v50 := Tryz.zeroValue108,
  t53 := Tryz.underlying150,
  a53 := Tryz.isAgg150,
  z53 := Tryz.sizeOf150,
  v53 := Tryz.zeroValue150,
  t55 := Tryz.underlying152,
  a55 := Tryz.isAgg152,
  z55 := Tryz.sizeOf152,
  v55 := Tryz.zeroValue152,
  t66 := Tryz.underlying164,
  a66 := Tryz.isAgg164,
  z66 := Tryz.sizeOf164,
  v66 := Tryz.zeroValue164,
  t70 := Tryz.underlying168,
  a70 := Tryz.isAgg168,
  z70 := Tryz.sizeOf168,
  v70 := Tryz.zeroValue168,
  t76 := Tryz.underlying180,
  a76 := Tryz.isAgg180,
  z76 := Tryz.sizeOf180,
  v76 := Tryz.zeroValue180,
  t77 := Tryz.underlying181,
  a77 := Tryz.isAgg181,
  z77 := Tryz.sizeOf181,
  v77 := Tryz.zeroValue181 }
end Go.Proofs.YtchjjiedcpfniaaGreatDoor
namespace Go.Proofs.YtchjjiedcpfniaaGreatDoor
set_option linter.unusedSimpArgs false
set_option linter.unusedVariables false
open Go Go.Lift Go.Proofs Go.Sort Go.Shelf
instance : Inhabited Edge := ⟨de⟩
theorem kept_grow {w w' : World} (h : Kept w (fun _ => False) w') : ∃ q os', w' = Go.Sort.grow (w.drewN q) os' := by
  refine ⟨w'.drawn - w.drawn, w'.heap.extract w.heap.size w'.heap.size, ?_⟩
  have hd := h.drawn
  have hh : w'.heap = w.heap ++ w'.heap.extract w.heap.size w'.heap.size := by
    apply Array.ext_getElem?
    intro i
    rw [Array.getElem?_append]
    split
    · rename_i hi
      exact h.block i hi (fun h => h)
    · rename_i hi
      rw [Array.getElem?_extract]
      have hs := h.size
      split
      · rename_i h2
        congr 1; omega
      · rename_i h2
        rw [Array.getElem?_eq_none (by omega)]
  obtain ⟨h1, h2, h3, h4, h5⟩ := w'
  have e1 := h.os
  have e2 := h.tape
  have e3 := h.output
  simp only at e1 e2 e3 hd hh
  unfold Go.Sort.grow World.drewN
  simp only
  rw [← hh]
  congr 1
  all_goals first | (omega) | assumption | skip
def encE (x : Edge) : List Value := [.int .i64 x.frm, .int .i64 x.lab, .int .i64 x.to]
theorem encE_at (x : Edge) {j : Nat} (hj : j < 3) : ∀ {c : Cx} {v : Value}, Rel c (edgeF x j) v → v = (encE x)[j]! := by
  intro c v h
  rcases (show j = 0 ∨ j = 1 ∨ j = 2 by omega) with rfl | rfl | rfl <;> exact h
theorem encE_rel (x : Edge) {j : Nat} (hj : j < 3) (c : Cx) : Rel c (edgeF x j) (encE x)[j]! := by
  rcases (show j = 0 ∨ j = 1 ∨ j = 2 by omega) with rfl | rfl | rfl <;> rfl
theorem cmp_swo : SWO (ltOf cmpE) where
  irrefl x := by unfold ltOf; rw [decide_eq_false_iff_not, cmp_lt]; unfold ltE; omega
  trans x y z h1 h2 := by
    unfold ltOf at *
    rw [decide_eq_true_eq, cmp_lt] at *
    exact ltE_trans h1 h2
  ntrans x y z h1 h2 := by
    unfold ltOf at *
    rw [decide_eq_false_iff_not, cmp_lt] at *
    unfold ltE at *; omega
def hinE (l : List Edge) : Heap := [(0, .one (.arr l.length 3 (fun i j => edgeF (l.getD i de) j)))]
theorem lk_hinE {n : Nat} {x : List Edge} {id : Lift.Id} {o : HObj} (h : lkH [(0, .one (.arr n 3 (fun i j => edgeF (x.getD i de) j)))] id = some o) : id = (0, 0) ∧ o = .arr n 3 (fun i j => edgeF (x.getD i de) j) := by
  obtain ⟨a, b⟩ := id
  simp only [lkH] at h
  by_cases ha : 0 = a
  · subst ha
    rw [if_pos rfl] at h
    cases b with
    | zero => simp only [HEnt.get] at h; injection h with h; exact ⟨rfl, h.symm⟩
    | succ b => simp [HEnt.get] at h
  · rw [if_neg ha] at h; cases h
theorem ty_oneE {o : HObj} {id : Lift.Id} : tyH [(0, .one o)] id = none := by
  obtain ⟨a, b⟩ := id
  simp only [tyH]
  split
  · cases b <;> rfl
  · rfl
set_option maxHeartbeats 1000000 in
theorem sortE_pos (l : List Edge) (h0 : 0 < l.length) (hl : l.length ≤ 1000000) :
    FC Tryz.prog 119 [.sl (0, 0) 0 l.length, .fn 89 1 (fun _ => .vptr 1 (fun _ => .fn 67 0 (fun _ => .any)) 0)] (hinE l) 1 (fun x : List Edge => x.Perm l ∧ ∀ i j, i < j → j < x.length → ¬ cmpE (x.getD j de) (x.getD i de) < 0) (fun _ => .any)
      (fun x => [(0, .one (.arr l.length 3 (fun i j => edgeF (x.getD i de) j)))]) (fun _ => 1) := by
  intro O w mu vals hk hargs
  match vals, hargs with
  | [v0, v1], ⟨r0, r1, _⟩ =>
  obtain ⟨_, A, cap, rfl, hcap, hA⟩ := r0
  obtain ⟨B, hB0, rfl, hsz⟩ := hA.resolve_left (by omega)
  have hB : mu (0, 0) = some B := hB0
  obtain ⟨cs, rfl, hcs, hcr⟩ := r1
  obtain ⟨c0', rfl⟩ : ∃ c, cs = #[c] := Array.size_eq_one_iff.1 hcs
  have hlk : lkH (hinE l) (0, 0) = some (.arr l.length 3 (fun i j => edgeF (l.getD i de) j)) := rfl
  have hobj := (hk.obj (0, 0) _ hlk).2
  rw [hB] at hobj
  obtain ⟨hs, cells, T, hheap0, hcsz, hbd, hcell⟩ := hobj
  have hheap : w.heap[B.b]? = some (.cells cells T (0, 0)) := hheap0
  have hown := hk.own (0, 0) _ B hlk hB
  have hat : ∀ t, t < l.length * 3 → cells[B.o + t]? = some ((encE (l.getD (t / 3) de))[t % 3]!) := fun t ht => by
    obtain ⟨_, v, hv, hr⟩ := hcell (t / 3) (by omega) (t % 3) (Nat.mod_lt _ (by omega))
    have := encE_at _ (Nat.mod_lt _ (by omega)) hr
    rw [this, Nat.add_assoc, show t / 3 * 3 + t % 3 = t by omega] at hv
    exact hv
  have hget : ∀ i, i < l.length → (l.toArray)[i]! = l.getD i de := fun i hi => by simp [List.getD, hi]
  have hH : HoldsK encE 3 w B.b B.o l.toArray := by
    intro t ht
    rw [size_flatK] at ht
    have ht' : t < l.length * 3 := by simpa using ht
    rw [get_flatK encE 3 l.toArray t (by simpa using ht'), hget _ (by omega)]
    refine ⟨?_, ?_⟩
    · show w.cell? _ = _
      unfold World.cell?
      simp only [hheap, Option.isSome_none]
      exact hat t ht'
    · unfold World.frozen?
      simp only [hheap]
      simp
  have hblk : B.b < w.heap.size := hown.1
  -- what the worlds of the sort look like
  have hrow : ∀ (m : Nat) (dk : Array Edge) (os : Array Obj), (sortWorldK encE 3 w B.b B.o m dk os).heap[B.b]? = some (.cells (putCells id B.o (flatK encE 3 dk) cells) T (0, 0)) := fun m dk os => by
    unfold sortWorldK
    rw [heap_grow_old _ _ (by rw [show (putRowK encE 3 (Go.Sort.ahead w m) B.b B.o dk).heap.size = w.heap.size by simp [putRowK, putRow, mapBlock, Go.Sort.ahead]]; exact hblk)]
    show (w.heap.modify B.b _)[B.b]? = _
    rw [Array.getElem?_modify, if_pos rfl, hheap]
    rfl
  have hoth : ∀ (m : Nat) (dk : Array Edge) (os : Array Obj) (b : Nat), b < w.heap.size → b ≠ B.b → (sortWorldK encE 3 w B.b B.o m dk os).heap[b]? = w.heap[b]? := fun m dk os b hb hne => by
    unfold sortWorldK
    rw [heap_grow_old _ _ (by rw [show (putRowK encE 3 (Go.Sort.ahead w m) B.b B.o dk).heap.size = w.heap.size by simp [putRowK, putRow, mapBlock, Go.Sort.ahead]]; exact hb)]
    show (w.heap.modify B.b _)[b]? = _
    rw [Array.getElem?_modify, if_neg (Ne.symm hne)]
  have hsize : ∀ (m : Nat) (dk : Array Edge) (os : Array Obj), w.heap.size ≤ (sortWorldK encE 3 w B.b B.o m dk os).heap.size := fun m dk os => by
    simp [sortWorldK, Go.Sort.grow, putRowK, putRow, mapBlock, Go.Sort.ahead]
  have hcmp : CmpLays Tryz.prog 89 #[c0'] encE 3 cmpE B.b B.o l.toArray.size w := by
    intro m os dk hdk x y
    have hr0 : Rel (c0 (lendO ⟨w, inB (hinE l) mu, O, 0, none⟩ (hinE l) mu (fun _ => false)) w) (.vptr 1 (fun _ => .fn 67 0 (fun _ => .any)) 0) c0' :=
      (argsLe_rel hk [.vptr 1 (fun _ => .fn 67 0 (fun _ => .any)) 0] [.vptr 1 (fun _ => .fn 67 0 (fun _ => .any)) 0] [c0'] ⟨Clo.le _ (by simp [Clo]), trivial⟩ ⟨hcr 0 (by omega), trivial⟩).1
    have hB2 : ∀ b, ¬ lendO ⟨w, inB (hinE l) mu, O, 0, none⟩ (hinE l) mu (fun _ => false) b → b ≠ B.b := fun b hb e => hb ⟨.inr ⟨(0, 0), _, B, hlk, hB, e.symm⟩, fun ⟨id, o, B', hf, _⟩ => by cases hf⟩
    have hLe : (c0 (lendO ⟨w, inB (hinE l) mu, O, 0, none⟩ (hinE l) mu (fun _ => false)) w).Lc (c0 (lendO ⟨w, inB (hinE l) mu, O, 0, none⟩ (hinE l) mu (fun _ => false)) (sortWorldK encE 3 w B.b B.o m dk os)) :=
      ⟨hsize m dk os, fun _ _ h => h, fun b o hb hF => World.cell?_of_block (hoth m dk os b hb (hB2 b hF)), Nat.le_refl _, fun _ h => absurd h (Nat.not_lt_zero _)⟩
    have hag : ∀ (z : Edge) (c : Cx), Rel c (.agg 3 (edgeF z)) (.agg (encE z).toArray) := fun z c => ⟨_, rfl, rfl, fun j hj => by
      rcases (show j = 0 ∨ j = 1 ∨ j = 2 by omega) with rfl | rfl | rfl <;> rfl⟩
    have hpc := by1_c x y (lendO ⟨w, inB (hinE l) mu, O, 0, none⟩ (hinE l) mu (fun _ => false)) (sortWorldK encE 3 w B.b B.o m dk os) [.agg (encE x).toArray, .agg (encE y).toArray, c0']
      (fun b hb => Nat.lt_of_lt_of_le (hk.bound b hb.1) (hsize m dk os)) ⟨hag x _, hag y _, Rel.monoC hLe _ _ hr0, trivial⟩
    refine hpc.mono ?_
    rintro e w' ⟨v, rfl, hkept, hrel⟩
    have hv : v = .int .i64 (cmpE x y) := hrel
    subst hv
    obtain ⟨q, os', hw⟩ := kept_grow hkept
    exact ⟨rfl, q, os', hw⟩
  have key := AnyQ.slices_SortFunc sortE 3 Tryz.isAgg69 Tryz.sizeOf69 encE (fun _ => rfl) (fun x v hv => by simp [encE] at hv; rcases hv with rfl | rfl | rfl <;> rfl) cmpE cmp_swo 89 #[c0'] B.b B.o cap l.toArray w
    (enters_of Tryz.func89 (by kernel_rfl) rfl) hcmp hH hblk (by simp; omega)
  change Calls Tryz.prog 119 _ _ _ at key
  simp only [List.size_toArray] at key
  show Calls Tryz.prog 119 #[.slice (some ⟨B.b, B.o + 0 * B.s, none⟩) l.length cap, .func (.func 89) #[] #[c0']] w _
  rw [Nat.zero_mul, Nat.add_zero]
  refine key.mono ?_
  rintro e w' ⟨rfl, d', m, os, hp, hs2, rfl⟩
  obtain ⟨hp1, _, hp2⟩ := hp
  have hdl : d'.size = l.length := by simpa using hp1
  have e1 : d'.extract 0 l.length = d' := by rw [← hdl]; simp
  have e2 : l.toArray.extract 0 l.length = l.toArray := by simp
  have hperm : d'.toList.Perm l := by rw [e1, e2] at hp2; exact hp2
  have hgd : ∀ i, i < l.length → d'[i]! = d'.toList.getD i de := fun i hi => by
    rw [getElem!_pos d' i (by omega)]
    simp [List.getD, show i < d'.size by omega]
  refine ⟨.tuple #[], d'.toList, mu, rfl, ⟨hperm, fun i j hij hj => ?_⟩, Nat.le_refl _, fun _ _ => rfl, ?_, trivial⟩
  · have hj' : j < l.length := by simpa [hdl] using hj
    have := hs2 i j (Nat.zero_le _) hij hj'
    unfold ltOf at this
    rw [decide_eq_false_iff_not, hgd j hj', hgd i (by omega)] at this
    exact this
  refine ⟨fun id o h => ?_, fun id id' o o' B1 B2 h1 h2 _ _ _ => ?_, fun id o B1 h1 h2 => ?_, ?_, hk.out, fun id t B1 ht => by rw [ty_oneE] at ht; cases ht⟩
  · obtain ⟨rfl, rfl⟩ := lk_hinE h
    refine ⟨Nat.lt_succ_self _, ?_⟩
    show HRel _ (mu (0, 0)) _
    rw [hB]
    refine ⟨hs, _, T, hrow m d' os, ?_, hbd, fun i hi j hj => ⟨one_edgeF, _, ?_, encE_rel _ hj _⟩⟩
    · simp [putCells]; exact hcsz
    · have hbd' : B.o + l.length * 3 ≤ cells.size := by rw [hcsz]; exact hbd
      unfold putCells
      rw [Array.getElem?_mapIdx, Array.getElem?_eq_getElem (show B.o + i * 3 + j < cells.size by omega)]
      simp only [Option.map_some]
      rw [if_pos (by rw [size_flatK, hdl]; omega)]
      rw [show B.o + i * 3 + j - B.o = i * 3 + j by omega, get_flatK encE 3 d' (i * 3 + j) (by rw [hdl]; omega), show (i * 3 + j) / 3 = i by omega, show (i * 3 + j) % 3 = j by omega, hgd i hi]
      rfl
  · rw [(lk_hinE h1).1, (lk_hinE h2).1]
  · obtain ⟨rfl, rfl⟩ := lk_hinE h1
    have e : B1 = B := by rw [hB] at h2; injection h2 with h2; exact h2.symm
    subst e
    exact ⟨Nat.lt_of_lt_of_le hblk (hsize m d' os), hown.2⟩
  · refine ⟨rfl, rfl, rfl, by simp [sortWorldK, Go.Sort.grow, putRowK, putRow, mapBlock, Go.Sort.ahead], hsize m d' os, fun b hb hmt => hoth m d' os b hb fun e => hmt ⟨(0, 0), _, B, hlk, hB, e.symm⟩⟩
end Go.Proofs.YtchjjiedcpfniaaGreatDoor
