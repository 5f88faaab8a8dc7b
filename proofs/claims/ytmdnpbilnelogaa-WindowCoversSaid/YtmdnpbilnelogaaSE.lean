/-
  The contract of the shelf on slices.SortFunc, laid at this program's edges. The laying is printed by tools/mklay.py.
-/
import Derived.Test.YtmdnpbilnelogaaProg
import Derived.Shelf.SlSortCmp.WholeK
import Derived.KernelRfl
import Derived.Test.YtmdnpbilnelogaaWA
namespace Go.Proofs.Ytmdnpbilnelogaa
open Go Go.Proofs
def sortE_ren : Go.Shelf.Ren := ⟨fun | 6 => 41 | 15 => 60 | 14 => 59 | 28 => 76 | 29 => 77 | 20 => 68 | 21 => 69 | 22 => 70 | 23 => 71 | 24 => 72 | 25 => 73 | 26 => 74 | 27 => 75 | 46 => 81 | 47 => 82 | 48 => 83 | 49 => 84 | 50 => 85 | 57 => 87 | n => n, fun | 22 => 27 | 24 => 55 | 25 => 78 | 3 => 3 | 39 => 98 | 0 => 0 | 53 => 116 | 55 => 118 | 4 => 4 | 46 => 110 | 45 => 109 | 50 => 74 | 5 => 5 | 9 => 9 | 66 => 119 | 70 => 123 | 76 => 127 | 77 => 128 | n => n, fun | n => n⟩
theorem sortE : Go.Proofs.SlLaysF0.n6 Try.prog sortE_ren := {
  mixed := by kernel_rfl,
  f6 := ⟨Try.f41.name, by decide, Try.func41.trans (congrArg some (by kernel_rfl))⟩,
  f14 := ⟨Try.f59.name, by decide, Try.func59.trans (congrArg some (by kernel_rfl))⟩,
  f15 := Try.func60.trans (congrArg some (by kernel_rfl)),
  f20 := ⟨Try.f68.name, by decide, Try.func68.trans (congrArg some (by kernel_rfl))⟩,
  f21 := ⟨Try.f69.name, by decide, Try.func69.trans (congrArg some (by kernel_rfl))⟩,
  f22 := ⟨Try.f70.name, by decide, Try.func70.trans (congrArg some (by kernel_rfl))⟩,
  f23 := ⟨Try.f71.name, by decide, Try.func71.trans (congrArg some (by kernel_rfl))⟩,
  f24 := ⟨Try.f72.name, by decide, Try.func72.trans (congrArg some (by kernel_rfl))⟩,
  f25 := ⟨Try.f73.name, by decide, Try.func73.trans (congrArg some (by kernel_rfl))⟩,
  f26 := ⟨Try.f74.name, by decide, Try.func74.trans (congrArg some (by kernel_rfl))⟩,
  f27 := ⟨Try.f75.name, by decide, Try.func75.trans (congrArg some (by kernel_rfl))⟩,
  f28 := Try.func76.trans (congrArg some (by kernel_rfl)),
  f29 := Try.func77.trans (congrArg some (by kernel_rfl)),
  f46 := ⟨Try.f81.name, by decide, Try.func81.trans (congrArg some (by kernel_rfl))⟩,
  f47 := Try.func82.trans (congrArg some (by kernel_rfl)),
  f48 := Try.func83.trans (congrArg some (by kernel_rfl)),
  f49 := ⟨Try.f84.name, by decide, Try.func84.trans (congrArg some (by kernel_rfl))⟩,
  f50 := ⟨Try.f85.name, by decide, Try.func85.trans (congrArg some (by kernel_rfl))⟩,
  f57 := ⟨Try.f87.name, by decide, Try.func87.trans (congrArg some (by kernel_rfl))⟩,
  t0 := Try.underlying0,
  a0 := Try.isAgg0,
  z0 := Try.sizeOf0,
  v0 := Try.zeroValue0,
  t3 := Try.underlying3,
  a3 := Try.isAgg3,
  z3 := Try.sizeOf3,
  v3 := Try.zeroValue3,
  t4 := Try.underlying4,
  a4 := Try.isAgg4,
  z4 := Try.sizeOf4,
  v4 := Try.zeroValue4,
  t5 := Try.underlying5,
  a5 := Try.isAgg5,
  z5 := Try.sizeOf5,
  v5 := Try.zeroValue5,
  t9 := Try.underlying9,
  a9 := Try.isAgg9,
  z9 := Try.sizeOf9,
  v9 := Try.zeroValue9,
  t22 := Try.underlying27,
  a22 := Try.isAgg27,
  z22 := Try.sizeOf27,
  v22 := Try.zeroValue27,
  t25 := Try.underlying78,
  a25 := Try.isAgg78,
  z25 := Try.sizeOf78,
  v25 := Try.zeroValue78,
  t39 := Try.underlying98,
  a39 := Try.isAgg98,
  z39 := Try.sizeOf98,
  v39 := Try.zeroValue98,
  t45 := Try.underlying109,
  a45 := Try.isAgg109,
  z45 := Try.sizeOf109,
  v45 := Try.zeroValue109,
  t46 := Try.underlying110,
  a46 := Try.isAgg110,
  z46 := Try.sizeOf110,
  v46 := Try.zeroValue110,
  t50 := Try.underlying74,
  a50 := Try.isAgg74,
  z50 := Try.sizeOf74,
  v50 := Try.zeroValue74,
  t53 := Try.underlying116,
  a53 := Try.isAgg116,
  z53 := Try.sizeOf116,
  v53 := Try.zeroValue116,
  t55 := Try.underlying118,
  a55 := Try.isAgg118,
  z55 := Try.sizeOf118,
  v55 := Try.zeroValue118,
  t66 := Try.underlying119,
  a66 := Try.isAgg119,
  z66 := Try.sizeOf119,
  v66 := Try.zeroValue119,
  t70 := Try.underlying123,
  a70 := Try.isAgg123,
  z70 := Try.sizeOf123,
  v70 := Try.zeroValue123,
  t76 := Try.underlying127,
  a76 := Try.isAgg127,
  z76 := Try.sizeOf127,
  v76 := Try.zeroValue127,
  t77 := Try.underlying128,
  a77 := Try.isAgg128,
  z77 := Try.sizeOf128,
  v77 := Try.zeroValue128 }


end Go.Proofs.Ytmdnpbilnelogaa

namespace Go.Proofs.Ytmdnpbilnelogaa
set_option linter.unusedSimpArgs false
set_option linter.unusedVariables false
open Go Go.Lift Go.Proofs Go.Sort Go.Shelf

instance : Inhabited Ent := ⟨den⟩
/-- what only lays blocks and draws, has laid blocks and drawn. -/
theorem kept_grow {w w' : World} (h : Kept w (fun _ => False) w') : ∃ q os', w' = Go.Sort.grow (w.drewN q) os' := by
  refine ⟨w'.drawn - w.drawn, w'.heap.extract w.heap.size w'.heap.size, ?_⟩
  have hd := h.drawn
  have hh : w'.heap = w.heap ++ w'.heap.extract w.heap.size w'.heap.size := by
    apply Array.ext_getElem?
    intro i
    rw [Array.getElem?_append]
    split
    · rename_i hi
      exact h.block i hi (fun h => h)
    · rename_i hi
      rw [Array.getElem?_extract]
      have hs := h.size
      split
      · rename_i h2
        congr 1; omega
      · rename_i h2
        rw [Array.getElem?_eq_none (by omega)]
  obtain ⟨h1, h2, h3, h4, h5⟩ := w'
  have e1 := h.os
  have e2 := h.tape
  have e3 := h.output
  simp only at e1 e2 e3 hd hh
  unfold Go.Sort.grow World.drewN
  simp only
  rw [← hh]
  congr 1
  all_goals first | (omega) | assumption | skip
def encE (x : Ent) : List Value := [.string ⟨⟨x.win⟩⟩, .int .i64 x.inp]
theorem encE_at (x : Ent) {j : Nat} (hj : j < 2) : ∀ {c : Cx} {v : Value}, Rel c (entF x j) v → v = (encE x)[j]! := by
  intro c v h
  rcases (show j = 0 ∨ j = 1 by omega) with rfl | rfl <;> exact h
theorem encE_rel (x : Ent) {j : Nat} (hj : j < 2) (c : Cx) : Rel c (entF x j) (encE x)[j]! := by
  rcases (show j = 0 ∨ j = 1 by omega) with rfl | rfl <;> rfl
def cmpN (a b : Ent) : Int := cmpS a.win b.win
theorem cmpN_lt {x y : Ent} : ltOf cmpN x y = Op.bytesLess x.win y.win := by
  unfold ltOf
  rw [Bool.eq_iff_iff, decide_eq_true_eq]
  exact cmpS_neg
theorem cmp_swo : SWO (ltOf cmpN) where
  irrefl x := by rw [cmpN_lt]; exact less_irrefl _
  trans x y z h1 h2 := by
    rw [cmpN_lt] at *
    exact less_trans h1 h2
  ntrans x y z h1 h2 := by
    rw [cmpN_lt] at *
    cases h3 : Op.bytesLess x.win z.win with
    | false => rfl
    | true =>
      cases h4 : Op.bytesLess y.win x.win with
      | true => rw [less_trans h4 h3] at h2; cases h2
      | false => rw [less_total h1 h4] at h3; rw [h3] at h2; cases h2
def hinE (l : List Ent) : Heap := [(0, .one (.arr l.length 2 (fun i j => entF (l.getD i den) j)))]
theorem lk_hinE {n : Nat} {x : List Ent} {id : Lift.Id} {o : HObj} (h : lkH [(0, .one (.arr n 2 (fun i j => entF (x.getD i den) j)))] id = some o) : id = (0, 0) ∧ o = .arr n 2 (fun i j => entF (x.getD i den) j) := by
  obtain ⟨a, b⟩ := id
  simp only [lkH] at h
  by_cases ha : 0 = a
  · subst ha
    rw [if_pos rfl] at h
    cases b with
    | zero => simp only [HEnt.get] at h; injection h with h; exact ⟨rfl, h.symm⟩
    | succ b => simp [HEnt.get] at h
  · rw [if_neg ha] at h; cases h
theorem ty_oneE {o : HObj} {id : Lift.Id} : tyH [(0, .one o)] id = none := by
  obtain ⟨a, b⟩ := id
  simp only [tyH]
  split
  · cases b <;> rfl
  · rfl
set_option maxHeartbeats 1000000 in
theorem sortE_pos (l : List Ent) (h0 : 0 < l.length) (hl : l.length ≤ 1000000) :
    FC Try.prog 41 [.sl (0, 0) 0 l.length, .fn 42 0 (fun _ => .any)] (hinE l) 1 (fun x : List Ent => x.Perm l ∧ ∀ i j, i < j → j < x.length → ¬ cmpN (x.getD j den) (x.getD i den) < 0) (fun _ => .any)
      (fun x => [(0, .one (.arr l.length 2 (fun i j => entF (x.getD i den) j)))]) (fun _ => 1) := by
  intro O w mu vals hk hargs
  match vals, hargs with
  | [v0, v1], ⟨r0, r1, _⟩ =>
  obtain ⟨_, A, cap, rfl, hcap, hA⟩ := r0
  obtain ⟨B, hB0, rfl, hsz⟩ := hA.resolve_left (by omega)
  have hB : mu (0, 0) = some B := hB0
  obtain ⟨cs, rfl, hcs, hcr⟩ := r1
  obtain rfl : cs = #[] := Array.eq_empty_of_size_eq_zero hcs
  have hlk : lkH (hinE l) (0, 0) = some (.arr l.length 2 (fun i j => entF (l.getD i den) j)) := rfl
  have hobj := (hk.obj (0, 0) _ hlk).2
  rw [hB] at hobj
  obtain ⟨hs, cells, T, hheap0, hcsz, hbd, hcell⟩ := hobj
  have hheap : w.heap[B.b]? = some (.cells cells T (0, 0)) := hheap0
  have hown := hk.own (0, 0) _ B hlk hB
  have hat : ∀ t, t < l.length * 2 → cells[B.o + t]? = some ((encE (l.getD (t / 2) den))[t % 2]!) := fun t ht => by
    obtain ⟨_, v, hv, hr⟩ := hcell (t / 2) (by omega) (t % 2) (Nat.mod_lt _ (by omega))
    have := encE_at _ (Nat.mod_lt _ (by omega)) hr
    rw [this, Nat.add_assoc, show t / 2 * 2 + t % 2 = t by omega] at hv
    exact hv
  have hget : ∀ i, i < l.length → (l.toArray)[i]! = l.getD i den := fun i hi => by simp [List.getD, hi]
  have hH : HoldsK encE 2 w B.b B.o l.toArray := by
    intro t ht
    rw [size_flatK] at ht
    have ht' : t < l.length * 2 := by simpa using ht
    rw [get_flatK encE 2 l.toArray t (by simpa using ht'), hget _ (by omega)]
    refine ⟨?_, ?_⟩
    · show w.cell? _ = _
      unfold World.cell?
      simp only [hheap, Option.isSome_none]
      exact hat t ht'
    · unfold World.frozen?
      simp only [hheap]
      simp
  have hblk : B.b < w.heap.size := hown.1
  -- what the worlds of the sort look like
  have hrow : ∀ (m : Nat) (dk : Array Ent) (os : Array Obj), (sortWorldK encE 2 w B.b B.o m dk os).heap[B.b]? = some (.cells (putCells id B.o (flatK encE 2 dk) cells) T (0, 0)) := fun m dk os => by
    unfold sortWorldK
    rw [heap_grow_old _ _ (by rw [show (putRowK encE 2 (Go.Sort.ahead w m) B.b B.o dk).heap.size = w.heap.size by simp [putRowK, putRow, mapBlock, Go.Sort.ahead]]; exact hblk)]
    show (w.heap.modify B.b _)[B.b]? = _
    rw [Array.getElem?_modify, if_pos rfl, hheap]
    rfl
  have hoth : ∀ (m : Nat) (dk : Array Ent) (os : Array Obj) (b : Nat), b < w.heap.size → b ≠ B.b → (sortWorldK encE 2 w B.b B.o m dk os).heap[b]? = w.heap[b]? := fun m dk os b hb hne => by
    unfold sortWorldK
    rw [heap_grow_old _ _ (by rw [show (putRowK encE 2 (Go.Sort.ahead w m) B.b B.o dk).heap.size = w.heap.size by simp [putRowK, putRow, mapBlock, Go.Sort.ahead]]; exact hb)]
    show (w.heap.modify B.b _)[b]? = _
    rw [Array.getElem?_modify, if_neg (Ne.symm hne)]
  have hsize : ∀ (m : Nat) (dk : Array Ent) (os : Array Obj), w.heap.size ≤ (sortWorldK encE 2 w B.b B.o m dk os).heap.size := fun m dk os => by
    simp [sortWorldK, Go.Sort.grow, putRowK, putRow, mapBlock, Go.Sort.ahead]
  have hcmp : CmpLays Try.prog 42 #[] encE 2 cmpN B.b B.o l.toArray.size w := by
    intro m os dk hdk x y
    have hB2 : ∀ b, ¬ lendO ⟨w, inB (hinE l) mu, O, 0, none⟩ (hinE l) mu (fun _ => false) b → b ≠ B.b := fun b hb e => hb ⟨.inr ⟨(0, 0), _, B, hlk, hB, e.symm⟩, fun ⟨id, o, B', hf, _⟩ => by cases hf⟩
    have hLe : (c0 (lendO ⟨w, inB (hinE l) mu, O, 0, none⟩ (hinE l) mu (fun _ => false)) w).Lc (c0 (lendO ⟨w, inB (hinE l) mu, O, 0, none⟩ (hinE l) mu (fun _ => false)) (sortWorldK encE 2 w B.b B.o m dk os)) :=
      ⟨hsize m dk os, fun _ _ h => h, fun b o hb hF => World.cell?_of_block (hoth m dk os b hb (hB2 b hF)), Nat.le_refl _, fun _ h => absurd h (Nat.not_lt_zero _)⟩
    have hag : ∀ (z : Ent) (c : Cx), Rel c (.agg 2 (entF z)) (.agg (encE z).toArray) := fun z c => ⟨_, rfl, rfl, fun j hj => by
      rcases (show j = 0 ∨ j = 1 by omega) with rfl | rfl <;> rfl⟩
    have hpc := cmpE0_c x y (lendO ⟨w, inB (hinE l) mu, O, 0, none⟩ (hinE l) mu (fun _ => false)) (sortWorldK encE 2 w B.b B.o m dk os) [.agg (encE x).toArray, .agg (encE y).toArray]
      (fun b hb => Nat.lt_of_lt_of_le (hk.bound b hb.1) (hsize m dk os)) ⟨hag x _, hag y _, trivial⟩
    refine hpc.mono ?_
    rintro e w' ⟨v, rfl, hkept, hrel⟩
    have hv : v = .int .i64 (cmpN x y) := hrel
    subst hv
    obtain ⟨q, os', hw⟩ := kept_grow hkept
    exact ⟨rfl, q, os', hw⟩
  have key := AnyQ.slices_SortFunc sortE 2 Try.isAgg55 Try.sizeOf55 encE (fun _ => rfl) (fun x v hv => by simp [encE] at hv; rcases hv with rfl | rfl <;> rfl) cmpN cmp_swo 42 #[] B.b B.o cap l.toArray w
    (enters_of Try.func42 (by kernel_rfl) rfl) hcmp hH hblk (by simp; omega)
  change Calls Try.prog 41 _ _ _ at key
  simp only [List.size_toArray] at key
  show Calls Try.prog 41 #[.slice (some ⟨B.b, B.o + 0 * B.s, none⟩) l.length cap, .func (.func 42) #[] #[]] w _
  rw [Nat.zero_mul, Nat.add_zero]
  refine key.mono ?_
  rintro e w' ⟨rfl, d', m, os, hp, hs2, rfl⟩
  obtain ⟨hp1, _, hp2⟩ := hp
  have hdl : d'.size = l.length := by simpa using hp1
  have e1 : d'.extract 0 l.length = d' := by rw [← hdl]; simp
  have e2 : l.toArray.extract 0 l.length = l.toArray := by simp
  have hperm : d'.toList.Perm l := by rw [e1, e2] at hp2; exact hp2
  have hgd : ∀ i, i < l.length → d'[i]! = d'.toList.getD i den := fun i hi => by
    rw [getElem!_pos d' i (by omega)]
    simp [List.getD, show i < d'.size by omega]
  refine ⟨.tuple #[], d'.toList, mu, rfl, ⟨hperm, fun i j hij hj => ?_⟩, Nat.le_refl _, fun _ _ => rfl, ?_, trivial⟩
  · have hj' : j < l.length := by simpa [hdl] using hj
    have := hs2 i j (Nat.zero_le _) hij hj'
    unfold ltOf at this
    rw [decide_eq_false_iff_not, hgd j hj', hgd i (by omega)] at this
    exact this
  refine ⟨fun id o h => ?_, fun id id' o o' B1 B2 h1 h2 _ _ _ => ?_, fun id o B1 h1 h2 => ?_, ?_, hk.out, fun id t B1 ht => by rw [ty_oneE] at ht; cases ht⟩
  · obtain ⟨rfl, rfl⟩ := lk_hinE h
    refine ⟨Nat.lt_succ_self _, ?_⟩
    show HRel _ (mu (0, 0)) _
    rw [hB]
    refine ⟨hs, _, T, hrow m d' os, ?_, hbd, fun i hi j hj => ⟨one_entF, _, ?_, encE_rel _ hj _⟩⟩
    · simp [putCells]; exact hcsz
    · have hbd' : B.o + l.length * 2 ≤ cells.size := by rw [hcsz]; exact hbd
      unfold putCells
      rw [Array.getElem?_mapIdx, Array.getElem?_eq_getElem (show B.o + i * 2 + j < cells.size by omega)]
      simp only [Option.map_some]
      rw [if_pos (by rw [size_flatK, hdl]; omega)]
      rw [show B.o + i * 2 + j - B.o = i * 2 + j by omega, get_flatK encE 2 d' (i * 2 + j) (by rw [hdl]; omega), show (i * 2 + j) / 2 = i by omega, show (i * 2 + j) % 2 = j by omega, hgd i hi]
      rfl
  · rw [(lk_hinE h1).1, (lk_hinE h2).1]
  · obtain ⟨rfl, rfl⟩ := lk_hinE h1
    have e : B1 = B := by rw [hB] at h2; injection h2 with h2; exact h2.symm
    subst e
    exact ⟨Nat.lt_of_lt_of_le hblk (hsize m d' os), hown.2⟩
  · refine ⟨rfl, rfl, rfl, by simp [sortWorldK, Go.Sort.grow, putRowK, putRow, mapBlock, Go.Sort.ahead], hsize m d' os, fun b hb hmt => hoth m d' os b hb fun e => hmt ⟨(0, 0), _, B, hlk, hB, e.symm⟩⟩
end Go.Proofs.Ytmdnpbilnelogaa
