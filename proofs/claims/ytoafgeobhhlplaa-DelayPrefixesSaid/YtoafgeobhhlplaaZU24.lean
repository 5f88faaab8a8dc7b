/- Parts of the proof: YF YG YH YJ. -/
import Derived.Test.YtoafgeobhhlplaaProg
import Derived.Shelf.SlSortCmp.Whole1
import Derived.KernelRfl
import Derived.Sort.EncStr
import Derived.Test.YtoafgeobhhlplaaZU14
import Derived.Test.YtoafgeobhhlplaaZU23
namespace Go.Proofs.Ytoafgeobhhlplaa
open Go Go.Proofs
def sortF_ren : Go.Shelf.Ren := ⟨fun | 6 => 92 | 15 => 100 | 14 => 99 | 28 => 112 | 29 => 113 | 20 => 104 | 21 => 105 | 22 => 106 | 23 => 107 | 24 => 108 | 25 => 109 | 26 => 110 | 27 => 111 | 46 => 114 | 47 => 115 | 48 => 116 | 49 => 117 | 50 => 118 | 57 => 119 | n => n, fun | 22 => 22 | 24 => 9 | 25 => 97 | 3 => 3 | 39 => 131 | 0 => 0 | 53 => 140 | 55 => 142 | 4 => 4 | 46 => 134 | 45 => 133 | 50 => 98 | 5 => 5 | 9 => 9 | 66 => 143 | 70 => 147 | 76 => 149 | 77 => 150 | n => n, fun | n => n⟩
theorem sortF : Go.Proofs.SlLaysF.n6 Try.prog sortF_ren := {
  mixed := by kernel_rfl,
  f6 := ⟨Try.f92.name, by decide, Try.func92.trans (congrArg some (by kernel_rfl))⟩,
  f14 := ⟨Try.f99.name, by decide, Try.func99.trans (congrArg some (by kernel_rfl))⟩,
  f15 := Try.func100.trans (congrArg some (by kernel_rfl)),
  f20 := ⟨Try.f104.name, by decide, Try.func104.trans (congrArg some (by kernel_rfl))⟩,
  f21 := ⟨Try.f105.name, by decide, Try.func105.trans (congrArg some (by kernel_rfl))⟩,
  f22 := ⟨Try.f106.name, by decide, Try.func106.trans (congrArg some (by kernel_rfl))⟩,
  f23 := ⟨Try.f107.name, by decide, Try.func107.trans (congrArg some (by kernel_rfl))⟩,
  f24 := ⟨Try.f108.name, by decide, Try.func108.trans (congrArg some (by kernel_rfl))⟩,
  f25 := ⟨Try.f109.name, by decide, Try.func109.trans (congrArg some (by kernel_rfl))⟩,
  f26 := ⟨Try.f110.name, by decide, Try.func110.trans (congrArg some (by kernel_rfl))⟩,
  f27 := ⟨Try.f111.name, by decide, Try.func111.trans (congrArg some (by kernel_rfl))⟩,
  f28 := Try.func112.trans (congrArg some (by kernel_rfl)),
  f29 := Try.func113.trans (congrArg some (by kernel_rfl)),
  f46 := ⟨Try.f114.name, by decide, Try.func114.trans (congrArg some (by kernel_rfl))⟩,
  f47 := Try.func115.trans (congrArg some (by kernel_rfl)),
  f48 := Try.func116.trans (congrArg some (by kernel_rfl)),
  f49 := ⟨Try.f117.name, by decide, Try.func117.trans (congrArg some (by kernel_rfl))⟩,
  f50 := ⟨Try.f118.name, by decide, Try.func118.trans (congrArg some (by kernel_rfl))⟩,
  f57 := ⟨Try.f119.name, by decide, Try.func119.trans (congrArg some (by kernel_rfl))⟩,
  t0 := Try.underlying0,
  a0 := Try.isAgg0,
  z0 := Try.sizeOf0,
  v0 := Try.zeroValue0,
  t3 := Try.underlying3,
  a3 := Try.isAgg3,
  z3 := Try.sizeOf3,
  v3 := Try.zeroValue3,
  t4 := Try.underlying4,
  a4 := Try.isAgg4,
  z4 := Try.sizeOf4,
  v4 := Try.zeroValue4,
  t5 := Try.underlying5,
  a5 := Try.isAgg5,
  z5 := Try.sizeOf5,
  v5 := Try.zeroValue5,
  t9 := Try.underlying9,
  a9 := Try.isAgg9,
  z9 := Try.sizeOf9,
  v9 := Try.zeroValue9,
  t22 := Try.underlying22,
  a22 := Try.isAgg22,
  z22 := Try.sizeOf22,
  v22 := Try.zeroValue22,
  a24 := Try.isAgg9,
  z24 := Try.sizeOf9,
  t25 := Try.underlying97,
  a25 := Try.isAgg97,
  z25 := Try.sizeOf97,
  v25 := Try.zeroValue97,
  t39 := Try.underlying131,
  a39 := Try.isAgg131,
  z39 := Try.sizeOf131,
  v39 := Try.zeroValue131,
  t45 := Try.underlying133,
  a45 := Try.isAgg133,
  z45 := Try.sizeOf133,
  v45 := Try.zeroValue133,
  t46 := Try.underlying134,
  a46 := Try.isAgg134,
  z46 := Try.sizeOf134,
  v46 := Try.zeroValue134,
  t50 := Try.underlying98,
  a50 := Try.isAgg98,
  z50 := Try.sizeOf98,
  v50 := Try.zeroValue98,
  t53 := Try.underlying140,
  a53 := Try.isAgg140,
  z53 := Try.sizeOf140,
  v53 := Try.zeroValue140,
  t55 := Try.underlying142,
  a55 := Try.isAgg142,
  z55 := Try.sizeOf142,
  v55 := Try.zeroValue142,
  t66 := Try.underlying143,
  a66 := Try.isAgg143,
  z66 := Try.sizeOf143,
  v66 := Try.zeroValue143,
  t70 := Try.underlying147,
  a70 := Try.isAgg147,
  z70 := Try.sizeOf147,
  v70 := Try.zeroValue147,
  t76 := Try.underlying149,
  a76 := Try.isAgg149,
  z76 := Try.sizeOf149,
  v76 := Try.zeroValue149,
  t77 := Try.underlying150,
  a77 := Try.isAgg150,
  z77 := Try.sizeOf150,
  v77 := Try.zeroValue150 }
end Go.Proofs.Ytoafgeobhhlplaa
namespace Go.Proofs.Ytoafgeobhhlplaa
set_option linter.unusedSimpArgs false
set_option linter.unusedVariables false
open Go Go.Lift Go.Proofs Go.Sort Go.Shelf
theorem kept_grow {w w' : World} (h : Kept w (fun _ => False) w') : ∃ q os', w' = Go.Sort.grow (w.drewN q) os' := by
  refine ⟨w'.drawn - w.drawn, w'.heap.extract w.heap.size w'.heap.size, ?_⟩
  have hd := h.drawn
  have hh : w'.heap = w.heap ++ w'.heap.extract w.heap.size w'.heap.size := by
    apply Array.ext_getElem?
    intro i
    rw [Array.getElem?_append]
    split
    · rename_i hi
      exact h.block i hi (fun h => h)
    · rename_i hi
      rw [Array.getElem?_extract]
      have hs := h.size
      split
      · rename_i h2
        congr 1; omega
      · rename_i h2
        rw [Array.getElem?_eq_none (by omega)]
  obtain ⟨h1, h2, h3, h4, h5⟩ := w'
  have e1 := h.os
  have e2 := h.tape
  have e3 := h.output
  simp only at e1 e2 e3 hd hh
  unfold Go.Sort.grow World.drewN
  simp only
  rw [← hh]
  congr 1
  all_goals first | (omega) | assumption | skip
def ordW (a b : List UInt8) : Int := orL [if a.length < b.length then -1 else if b.length < a.length then 1 else 0, cmpS a b]
theorem ordW_neg {a b : List UInt8} : ordW a b < 0 ↔ lessW a b := by
  unfold ordW lessW orL
  rcases Nat.lt_trichotomy a.length b.length with h | h | h
  · rw [if_pos (by omega)]
    simp [h]
  · rw [if_neg (by omega), if_neg (by omega)]
    have hc : cmpS a b < 0 ↔ a < b := by rw [cmpS_neg, less_dec, decide_eq_true_eq]
    by_cases h0 : cmpS a b = 0
    · simp [h0, h]
      rw [cmpS_zero.1 h0]
      exact List.lt_irrefl b
    · simp [h0, h, hc]
  · rw [if_neg (by omega), if_pos (by omega)]
    simp
    omega
theorem ordW_swo : SWO (ltOf ordW) where
  irrefl x := by unfold ltOf; rw [decide_eq_false_iff_not, ordW_neg]; exact lessW_irr
  trans x y z h1 h2 := by
    unfold ltOf at *
    rw [decide_eq_true_eq, ordW_neg] at *
    exact lessW_trans h1 h2
  ntrans x y z h1 h2 := by
    unfold ltOf at *
    rw [decide_eq_false_iff_not, ordW_neg] at *
    exact lessW_ntr h1 h2
set_option maxRecDepth 100000 in
theorem order_c (a b : List UInt8) : PC Try.prog 93 [.str a, .str b] (.int .i64 (ordW a b)) := by
 refine zp Try.func93 fun G hG hR => ?_
 refine zs (zr ?_)
 refine zs (zL (zl 4 ?_))
 refine zc cal84 (cmpI_c (a.length : Int) (b.length : Int)) ?_
 refine zl 2 ?_
 refine zc cal85 (cmpW_c a b) ?_
 refine zl 1 ?_
 refine awpL_callB (mem [0]) cal83 (by simp [flat]) rfl rfl (fun _ => rfl) (fun hg => orI_c [if a.length < b.length then -1 else if b.length < a.length then 1 else 0, cmpS a b] (by simp)) (fun hg => ?_) (fun hg => ?_) fun K hK => ?_
 · simp [hG, List.getD_cons_zero, List.getD_cons_succ, -List.getD_eq_getElem?_getD]
 · simp [hG, List.getD_cons_zero, List.getD_cons_succ, -List.getD_eq_getElem?_getD]
 simp [hG, List.getD_cons_zero, List.getD_cons_succ, -List.getD_eq_getElem?_getD]
 refine hK _ ?_
 clear K hK
 refine zl 1 ?_
 refine zN (zt ?_)
 refine RetOK_of ?_
 simp [hG, List.getD_cons_zero, List.getD_cons_succ, -List.getD_eq_getElem?_getD]
 rfl
theorem ty_one {o : HObj} {id : Lift.Id} : tyH [(0, .one o)] id = none := by
  obtain ⟨a, b⟩ := id
  simp only [tyH]
  split
  · cases b <;> rfl
  · rfl
def hinS (l : List (List UInt8)) : Heap := [(0, .one (.arr l.length 1 (fun i _ => .str (l.getD i []))))]
theorem lk_hinS {n : Nat} {x : List (List UInt8)} {id : Lift.Id} {o : HObj} (h : lkH [(0, .one (.arr n 1 (fun i _ => .str (x.getD i []))))] id = some o) : id = (0, 0) ∧ o = .arr n 1 (fun i _ => .str (x.getD i [])) := by
  obtain ⟨a, b⟩ := id
  simp only [lkH] at h
  by_cases ha : 0 = a
  · subst ha
    rw [if_pos rfl] at h
    cases b with
    | zero => simp only [HEnt.get] at h; injection h with h; exact ⟨rfl, h.symm⟩
    | succ b => simp [HEnt.get] at h
  · rw [if_neg ha] at h; cases h
set_option maxHeartbeats 1000000 in
theorem sortF_pos (l : List (List UInt8)) (h0 : 0 < l.length) (hl : l.length ≤ 1000000) :
    FC Try.prog 92 [.sl (0, 0) 0 l.length, .fn 93 0 (fun _ => .any)] (hinS l) 1 (fun x : List Wd => x.Perm l) (fun _ => .any) (fun x => [(0, .one (.arr l.length 1 (fun i _ => .str (x.getD i []))))]) (fun _ => 1) := by
  intro O w mu vals hk hargs
  match vals, hargs with
  | [v0, v1], ⟨r0, r1, _⟩ =>
  obtain ⟨_, A, cap, rfl, hcap, hA⟩ := r0
  obtain ⟨B, hB0, rfl, hsz⟩ := hA.resolve_left (by omega)
  obtain ⟨cs, rfl, hcs, hcr⟩ := r1
  obtain rfl : cs = #[] := Array.eq_empty_of_size_eq_zero hcs
  have hB : mu (0, 0) = some B := hB0
  have hlk : lkH (hinS l) (0, 0) = some (.arr l.length 1 (fun i _ => .str (l.getD i []))) := rfl
  have hobj := (hk.obj (0, 0) _ hlk).2
  rw [hB] at hobj
  obtain ⟨hs, cells, T, hheap0, hcsz, hbd, hcell⟩ := hobj
  have hheap : w.heap[B.b]? = some (.cells cells T (0, 0)) := hheap0
  have hown := hk.own (0, 0) _ B hlk hB
  have hat : ∀ t, t < l.length → cells[B.o + t]? = some (encStr (l.getD t [])) := fun t ht => by
    obtain ⟨_, v, hv, hr⟩ := hcell t ht 0 (by decide)
    have hr' : v = encStr (l.getD t []) := hr
    rw [hr', Nat.mul_one, Nat.add_zero] at hv
    exact hv
  have hget : ∀ i, i < l.length → (l.toArray)[i]! = l.getD i [] := fun i hi => by simp [List.getD, hi]
  have hH : Holds encStr w B.b B.o l.toArray := by
    intro t ht
    have ht' : t < l.length := by simpa using ht
    rw [hget _ ht']
    refine ⟨?_, ?_⟩
    · show w.cell? _ = _
      unfold World.cell?
      simp only [hheap, Option.isSome_none]
      exact hat t ht'
    · unfold World.frozen?
      simp only [hheap]
      simp
  have hblk : B.b < w.heap.size := hown.1
  have hrow : ∀ (m : Nat) (dk : Array (List UInt8)) (os : Array Obj), (Go.Sort.grow (putRow encStr (Go.Sort.ahead w m) B.b B.o dk) os).heap[B.b]? = some (.cells (putCells encStr B.o dk cells) T (0, 0)) := fun m dk os => by
    rw [heap_grow_old _ _ (by rw [show (putRow encStr (Go.Sort.ahead w m) B.b B.o dk).heap.size = w.heap.size by simp [putRow, mapBlock, Go.Sort.ahead]]; exact hblk)]
    show (w.heap.modify B.b _)[B.b]? = _
    rw [Array.getElem?_modify, if_pos rfl, hheap]
    rfl
  have hoth : ∀ (m : Nat) (dk : Array (List UInt8)) (os : Array Obj) (b : Nat), b < w.heap.size → b ≠ B.b → (Go.Sort.grow (putRow encStr (Go.Sort.ahead w m) B.b B.o dk) os).heap[b]? = w.heap[b]? := fun m dk os b hb hne => by
    rw [heap_grow_old _ _ (by rw [show (putRow encStr (Go.Sort.ahead w m) B.b B.o dk).heap.size = w.heap.size by simp [putRow, mapBlock, Go.Sort.ahead]]; exact hb)]
    show (w.heap.modify B.b _)[b]? = _
    rw [Array.getElem?_modify, if_neg (Ne.symm hne)]
  have hsize : ∀ (m : Nat) (dk : Array (List UInt8)) (os : Array Obj), w.heap.size ≤ (Go.Sort.grow (putRow encStr (Go.Sort.ahead w m) B.b B.o dk) os).heap.size := fun m dk os => by
    simp [Go.Sort.grow, putRow, mapBlock, Go.Sort.ahead]
  have hcmp : CmpLays1 Try.prog 93 #[] encStr ordW B.b B.o l.toArray.size w := by
    intro m os dk hdk x y
    have hpc := order_c x y (lendO ⟨w, inB (hinS l) mu, O, 0, none⟩ (hinS l) mu (fun _ => false)) (Go.Sort.grow (putRow encStr (Go.Sort.ahead w m) B.b B.o dk) os) [encStr x, encStr y]
      (fun b hb => Nat.lt_of_lt_of_le (hk.bound b hb.1) (hsize m dk os)) ⟨rfl, rfl, trivial⟩
    refine hpc.mono ?_
    rintro e w' ⟨v, rfl, hkept, hrel⟩
    have hv : v = .int .i64 (ordW x y) := hrel
    subst hv
    obtain ⟨q, os', hw⟩ := kept_grow hkept
    exact ⟨rfl, q, os', hw⟩
  have key := Any.slices_SortFunc sortF encStr (fun _ => rfl) ordW ordW_swo 93 #[] B.b B.o cap l.toArray w
    (enters_of Try.func93 (by kernel_rfl) rfl) hcmp hH hblk (by simp; omega)
  change Calls Try.prog 92 _ _ _ at key
  simp only [List.size_toArray] at key
  show Calls Try.prog 92 #[.slice (some ⟨B.b, B.o + 0 * B.s, none⟩) l.length cap, .func (.func 93) #[] #[]] w _
  rw [Nat.zero_mul, Nat.add_zero]
  refine key.mono ?_
  rintro e w' ⟨rfl, d', m, os, hp, _, rfl⟩
  obtain ⟨hp1, _, hp2⟩ := hp
  have hdl : d'.size = l.length := by simpa using hp1
  have e1 : d'.extract 0 l.length = d' := by rw [← hdl]; simp
  have e2 : l.toArray.extract 0 l.length = l.toArray := by simp
  have hperm : d'.toList.Perm l := by rw [e1, e2] at hp2; exact hp2
  have hgd : ∀ i, i < l.length → d'[i]! = d'.toList.getD i [] := fun i hi => by
    rw [getElem!_pos d' i (by omega)]
    simp [List.getD, show i < d'.size by omega]
  refine ⟨.tuple #[], d'.toList, mu, rfl, hperm, Nat.le_refl _, fun _ _ => rfl, ?_, trivial⟩
  refine ⟨fun id o h => ?_, fun id id' o o' B1 B2 h1 h2 _ _ _ => ?_, fun id o B1 h1 h2 => ?_, ?_, hk.out, fun id t B1 ht => by rw [ty_one] at ht; cases ht⟩
  · obtain ⟨rfl, rfl⟩ := lk_hinS h
    refine ⟨Nat.lt_succ_self _, ?_⟩
    show HRel _ (mu (0, 0)) _
    rw [hB]
    refine ⟨hs, _, T, hrow m d' os, ?_, hbd, fun i hi j hj => ⟨rfl, encStr (d'.toList.getD i []), ?_, rfl⟩⟩
    · simp [putCells]; exact hcsz
    · have hbd' : B.o + l.length * 1 ≤ cells.size := by rw [hcsz]; exact hbd
      have hj0 : j = 0 := by omega
      subst hj0
      have hsz2 : d'.size = l.length := hdl
      unfold putCells
      rw [Array.getElem?_mapIdx, Array.getElem?_eq_getElem (show B.o + i * 1 + 0 < cells.size by omega)]
      simp only [Option.map_some]
      rw [if_pos (by rw [hsz2]; omega), show B.o + i * 1 + 0 - B.o = i by omega, hgd i hi]
  · rw [(lk_hinS h1).1, (lk_hinS h2).1]
  · obtain ⟨rfl, rfl⟩ := lk_hinS h1
    have e : B1 = B := by rw [hB] at h2; injection h2 with h2; exact h2.symm
    subst e
    exact ⟨Nat.lt_of_lt_of_le hblk (hsize m d' os), hown.2⟩
  · refine ⟨rfl, rfl, rfl, by simp [sortWorld, Go.Sort.grow, putRow, mapBlock, Go.Sort.ahead], hsize m d' os, fun b hb hmt => hoth m d' os b hb fun e => hmt ⟨(0, 0), _, B, hlk, hB, e.symm⟩⟩
end Go.Proofs.Ytoafgeobhhlplaa
namespace Go.Lift
set_option linter.unusedSimpArgs false
set_option linter.unusedVariables false
variable {P : Program} {G : Gh} {n0 : Nat}
theorem awpS_condC {b : Bool} {x y : Code} {cs : List Code} {Q : Exit → St → Prop} {st : St} (h : AwpS P G n0 ((if b = true then x else y) :: cs) Q st) : AwpS P G n0 (.cond (.const (.bool b)) x y :: cs) Q st := by
  intro mu a w hs hn Q' hQ
  refine wpIn_cond_split (a := a) (c := .const (.bool b)) (t := b) rfl (fun hb => ?_) (fun hb => ?_)
  · subst hb; exact h mu a w hs hn Q' hQ
  · subst hb; exact h mu a w hs hn Q' hQ
end Go.Lift
namespace Go.Proofs.Ytoafgeobhhlplaa
set_option linter.unusedSimpArgs false
set_option linter.unusedVariables false
open Go Go.Lift Go.Proofs
def len8 (n : Nat) : Int := if n = 0 then 0 else if n < 2 then 1 else if n < 4 then 2 else if n < 8 then 3 else 4
theorem lt13 {n : Nat} (h : n < 13) : n = 0 ∨ n = 1 ∨ n = 2 ∨ n = 3 ∨ n = 4 ∨ n = 5 ∨ n = 6 ∨ n = 7 ∨ n = 8 ∨ n = 9 ∨ n = 10 ∨ n = 11 ∨ n = 12 := by omega
set_option maxRecDepth 100000 in
theorem bitLen64_c (n : Nat) (hn : n < 13) : PC Try.prog 113 [.int .u64 n] (.int .i64 (len8 n)) := by
 refine zp Try.func113 fun G hG hR => ?_
 refine zs (zr ?_)
 refine zs (zs (zr ?_))
 refine awpS_cond rfl (fun hb4 => ?_) (fun hb4 => ?_)
 · exact absurd hb4 (by simp; omega)
 try simp [-List.getD_eq_getElem?_getD] at hb4
 refine zk (zs (zs (zr ?_)))
 refine awpS_cond rfl (fun hb8 => ?_) (fun hb8 => ?_)
 · exact absurd hb8 (by simp; omega)
 try simp [-List.getD_eq_getElem?_getD] at hb8
 refine zk (zs (zs (zr ?_)))
 refine awpS_cond rfl (fun hb14 => ?_) (fun hb14 => ?_)
 · exact absurd hb14 (by simp; omega)
 try simp [-List.getD_eq_getElem?_getD] at hb14
 refine zk (zs (zr ?_ (c := by have hu : ∀ b : UInt8, ((b.toNat : Nat) : Int) ≤ 9223372036854775807 := fun b => (by have := b.toNat_lt; omega); exact ⟨by omega, by omega, hu _⟩)))
 refine zt ?_
 refine RetOK_of ?_
 simp [hG, List.getD_cons_zero, List.getD_cons_succ, -List.getD_eq_getElem?_getD]
 rcases lt13 hn with rfl | rfl | rfl | rfl | rfl | rfl | rfl | rfl | rfl | rfl | rfl | rfl | rfl <;> rfl
set_option maxRecDepth 100000 in
theorem bitLen_c (n : Nat) (hn : n < 13) : PC Try.prog 100 [.int .u64 n] (.int .i64 (len8 n)) := by
 refine zp Try.func100 fun G hG hR => ?_
 refine zs (zr ?_)
 refine zs ?_
 refine awpS_condC (b := false) ?_
 simp only [if_true, if_false, Bool.false_eq_true]
 refine zk (zs (zL (zl 1 ?_)))
 refine zc cal113 (bitLen64_c n hn) ?_
 refine zl 1 ?_
 refine zN (zt ?_)
 exact zR
set_option maxRecDepth 100000 in
theorem insS0_c  : FC Try.prog 104 [.sl (0, 0) 0 0, .int .i64 0, .int .i64 0, .fn 93 0 (fun _ => .any)] [(0, .one (.arr 0 1 (fun p _ => .str (([] : List Wd).getD p []))))] 1 (fun x : List Wd => x = ([] : List Wd)) (fun x : List Wd => .any) (fun x : List Wd => [(0, .one (.arr 0 1 (fun p _ => .str (x.getD p []))))]) (fun x : List Wd => 1) := by
 refine FC_introS T_ok Try.func104 rfl (by simp [Try.ntmps104]) fun G hG hR => ?_
 simp only [Try.ntmps104, Try.results104] at hG ⊢
 simp only [argEnv, Nat.zero_add, Nat.reduceAdd]
 refine zs (zr ?_)
 refine zb ?_
 refine awpS_loop (α := Unit) (fun u => ⟨[(0, .sl (0, 0) 0 0), (1, .int .i64 0), (2, .int .i64 0), (3, .fn 93 0 (fun _ => .any)), (8, .int .i64 1)], [(0, .one (.arr 0 1 (fun p _ => .str (([] : List Wd).getD p []))))], 1⟩) (fun u => True) (fun u => 0) (()) (trivial) ?_ ?_
 · refine wk_of (id) (fun _ => false) (fun _ => false) ?_ ?_ rfl (by simp) (fun k hk => by first | exact ⟨rfl, rfl⟩ | (revert k; decide) | (obtain rfl : k = 0 := (by omega); exact ⟨rfl, rfl⟩) | (have hk2 : k = 0 ∨ k = 1 := (by omega); rcases hk2 with rfl | rfl <;> exact ⟨rfl, rfl⟩))
   · simp [hG, List.getD_cons_zero, List.getD_cons_succ, -List.getD_eq_getElem?_getD]
   simp [hG, List.getD_cons_zero, List.getD_cons_succ, -List.getD_eq_getElem?_getD]
 rintro u hu
 refine zs (zs (zr ?_))
 refine awpS_cond rfl (fun hb14 => ?_) (fun hb14 => ?_)
 · simp at hb14
 try simp [-List.getD_eq_getElem?_getD] at hb14
 refine zx (ztx (zbx (zn ?_)))
 refine RetF_of ([]) (id) (fun _ => false) (fun _ => false) rfl ?_ ?_ (by rfl) (by simp) (fun k _ => ⟨rfl, rfl⟩)
 · simp [hG, List.getD_cons_zero, List.getD_cons_succ, -List.getD_eq_getElem?_getD]
 simp [hG, List.getD_cons_zero, List.getD_cons_succ, -List.getD_eq_getElem?_getD]
set_option maxRecDepth 100000 in
theorem pdqS0_c (m : Int) : FC Try.prog 99 [.sl (0, 0) 0 0, .int .i64 0, .int .i64 0, .int .i64 m, .fn 93 0 (fun _ => .any)] [(0, .one (.arr 0 1 (fun p _ => .str (([] : List Wd).getD p []))))] 1 (fun x : List Wd => x = ([] : List Wd)) (fun x : List Wd => .any) (fun x : List Wd => [(0, .one (.arr 0 1 (fun p _ => .str (x.getD p []))))]) (fun x : List Wd => 1) := by
 refine FC_introS T_ok Try.func99 rfl (by simp [Try.ntmps99]) fun G hG hR => ?_
 simp only [Try.ntmps99, Try.results99] at hG ⊢
 simp only [argEnv, Nat.zero_add, Nat.reduceAdd]
 refine zs (zr ?_)
 refine zs (zr ?_)
 refine zb ?_
 refine awpS_loop (α := Unit) (fun u => ⟨[(0, .sl (0, 0) 0 0), (1, .int .i64 0), (2, .int .i64 0), (3, .int .i64 m), (4, .fn 93 0 (fun _ => .any)), (10, .bool true), (11, .bool true)], [(0, .one (.arr 0 1 (fun p _ => .str (([] : List Wd).getD p []))))], 1⟩) (fun u => True) (fun u => 0) (()) (trivial) ?_ ?_
 · refine wk_of (id) (fun _ => false) (fun _ => false) ?_ ?_ rfl (by simp) (fun k hk => by first | exact ⟨rfl, rfl⟩ | (revert k; decide) | (obtain rfl : k = 0 := (by omega); exact ⟨rfl, rfl⟩) | (have hk2 : k = 0 ∨ k = 1 := (by omega); rcases hk2 with rfl | rfl <;> exact ⟨rfl, rfl⟩))
   · simp [hG, List.getD_cons_zero, List.getD_cons_succ, -List.getD_eq_getElem?_getD]
   simp [hG, List.getD_cons_zero, List.getD_cons_succ, -List.getD_eq_getElem?_getD]
 rintro u hu
 refine zb (zs (zr ?_))
 refine zs (zs (zr ?_))
 refine awpS_cond rfl (fun hb25 => ?_) (fun hb25 => ?_)
 · try simp [-List.getD_eq_getElem?_getD] at hb25
   refine zs (zL (zl 4 ?_))
   refine zf cal104 [0] insS0_c (fun x hI hno => ?_)
   refine zN (zt (zbt (ztt (zbt ?_))))
   refine RetF_of ([]) (id) (fun _ => false) (fun _ => false) rfl ?_ ?_ (by rfl) (by simp) (fun k _ => ⟨rfl, rfl⟩)
   · simp [hG, List.getD_cons_zero, List.getD_cons_succ, -List.getD_eq_getElem?_getD]
   simp [hG, List.getD_cons_zero, List.getD_cons_succ, -List.getD_eq_getElem?_getD]
 simp at hb25
set_option maxRecDepth 100000 in
theorem sortS0_c  : FC Try.prog 92 [.sl (0, 0) 0 0, .fn 93 0 (fun _ => .any)] [(0, .one (.arr 0 1 (fun p _ => .str (([] : List Wd).getD p []))))] 1 (fun x : List Wd => x = ([] : List Wd)) (fun x : List Wd => .any) (fun x : List Wd => [(0, .one (.arr 0 1 (fun p _ => .str (x.getD p []))))]) (fun x : List Wd => 1) := by
 refine FC_introS T_ok Try.func92 rfl (by simp [Try.ntmps92]) fun G hG hR => ?_
 simp only [Try.ntmps92, Try.results92] at hG ⊢
 simp only [argEnv, Nat.zero_add, Nat.reduceAdd]
 refine zs (zr ?_)
 refine zL (zl 4 ?_)
 refine zc cal100 (bitLen_c 0 (by decide)) ?_
 refine zl 1 ?_
 refine zf cal99 [0] (pdqS0_c (len8 0)) (fun x hI hno => ?_)
 refine zN (zn ?_)
 refine RetF_of ([]) (id) (fun _ => false) (fun _ => false) rfl ?_ ?_ (by rfl) (by simp) (fun k _ => ⟨rfl, rfl⟩)
 · simp [hG, List.getD_cons_zero, List.getD_cons_succ, -List.getD_eq_getElem?_getD]
 simp [hG, List.getD_cons_zero, List.getD_cons_succ, -List.getD_eq_getElem?_getD]
theorem sortF_c (l : List Wd) (hl : l.length ≤ 1000000) : FC Try.prog 92 [.sl (0, 0) 0 l.length, .fn 93 0 (fun _ => .any)] [(0, .one (.arr l.length 1 (fun p _ => .str (l.getD p []))))] 1 (fun x : List Wd => x.Perm l) (fun _ => .any) (fun x => [(0, .one (.arr l.length 1 (fun p _ => .str (x.getD p []))))]) (fun _ => 1) := by
 rcases Nat.eq_zero_or_pos l.length with h | h
 · obtain rfl := List.length_eq_zero_iff.1 h
   intro O w mu vals hk ha
   refine (sortS0_c O w mu vals hk ha).mono ?_
   rintro e w' ⟨v, x, mu', he, hx, rest⟩
   have hx' : x = [] := hx
   subst hx'
   exact ⟨v, [], mu', he, List.Perm.refl _, rest⟩
 exact sortF_pos l h hl
set_option maxRecDepth 100000 in
theorem indexS0_c (l : List Wd) (v : List UInt8) (hl : l.length ≤ 1000000) : PC Try.prog 88 [strs l, .str v] (.int .i64 (plS l v)) := by
 have hML : maxLen = 9223372036854775807 := by decide
 refine zp Try.func88 fun G hG hR => ?_
 refine zs (zrP ?_)
 refine zs (zs (zrP ?_))
 refine zb ?_
 refine awpS_loop (α := Nat) (fun i => ⟨[(0, strs l), (1, .str v), (7, .int .i64 l.length), (8, .int .i64 (i : Nat))], [], 0⟩) (fun i => i ≤ l.length ∧ ∀ j, j < i → l.getD j [] ≠ v) (fun i => l.length - i) (0) (⟨Nat.zero_le _, fun j hj => absurd hj (Nat.not_lt_zero _)⟩) ?_ ?_
 · exact ziP
 rintro i ⟨hi, hn⟩
 refine zs (zrP ?_)
 refine zs (zy (fun hb9 => ?_) fun hb9 => ?_)
 · refine zk (zs (zb (zs (zrP ?_))))
   refine zs (zrP ?_)
   refine zy (fun hb16 => ?_) fun hb16 => ?_
   · refine zs (zrP ?_)
     refine zt (zbt (ztt (zbt ?_)))
     refine RetOK_of ?_
     simp [hG, List.getD_cons_zero, List.getD_cons_succ, -List.getD_eq_getElem?_getD, pureOp]
     exact (plS_at (by omega) hn hb16.symm).symm
   refine zk (zn (zbn (zrP ?_)))
   refine zn ?_
   refine round_end (i + 1) (⟨by omega, step_all hn (fun h => hb16 h.symm)⟩) (by omega) ?_
   exact ziP
 refine zx (ztx (zbx (zs (zrP ?_))))
 refine zt ?_
 refine RetOK_of ?_
 simp [hG, List.getD_cons_zero, List.getD_cons_succ, -List.getD_eq_getElem?_getD, pureOp]
 exact (plS_no fun j hj => hn j (by omega)).symm
set_option maxRecDepth 100000 in
theorem containsS0_c (l : List Wd) (v : List UInt8) (hl : l.length ≤ 1000000) : PC Try.prog 79 [strs l, .str v] (.bool (decide (v ∈ l))) := by
 refine zp Try.func79 fun G hG hR => ?_
 refine zs (zrP ?_)
 refine zs (zL (zlP 2 ?_))
 refine zcP cal88 (indexS0_c l v hl) ?_
 refine zlP 2 ?_
 refine zN (zt ?_)
 refine RetOK_of ?_
 simp [hG, List.getD_cons_zero, List.getD_cons_succ, -List.getD_eq_getElem?_getD, pureOp]
 exact plS_pos
set_option maxRecDepth 100000 in
theorem alone_c (c : Cd) (hl : c.ws.length ≤ maxLen) (ho : cdN c = 0) (B : Bool) (hB : B = true ↔ ∀ i k, i < c.ws.length → k < c.ws.length → i ≠ k → ¬ c.ws.getD k [] <+: c.ws.getD i []) : PC Try.prog 61 [.agg 2 (cdF c), .fn 27 0 (fun _ => .any)] (.tup 2 (fun j => [.bool B, .int .i64 0].getD j .any)) := by
 have hML : maxLen = 9223372036854775807 := by decide
 have hv := cd_ok ho
 have hWn := hv.n
 refine zp Try.func61 fun G hG hR => ?_
 refine zs (zrP ?_)
 refine zs (zs (zL (zlP 1 ?_)))
 refine zcP cal38 (check_c c hl) ?_
 refine zlP 1 ?_
 refine zN ?_
 refine awpS_cond rfl (fun hb12 => ?_) (fun hb12 => ?_)
 · simp [ho] at hb12
 try simp [-List.getD_eq_getElem?_getD] at hb12
 refine zk (zs (zs (zrP ?_)))
 refine zb ?_
 refine awpS_loop (α := Nat) (fun i => ⟨[(1, .fn 27 0 (fun _ => .any)), (2, .vptr 2 (cdF c) 0), (14, strs c.ws), (15, .int .i64 c.ws.length), (16, .int .i64 (i : Nat))], [], 0⟩) (fun i => i ≤ c.ws.length ∧ ∀ j, j < i → ∀ k, k < c.ws.length → j ≠ k → ¬ c.ws.getD k [] <+: c.ws.getD j []) (fun i => c.ws.length - i) (0) (⟨Nat.zero_le _, fun j hj => absurd hj (Nat.not_lt_zero _)⟩) ?_ ?_
 · exact zwP (id) (fun k => k == 0) (fun _ => false)
 rintro i ⟨hi, hn⟩
 refine zs (zrP ?_)
 refine zs (zy (fun hb17 => ?_) fun hb17 => ?_)
 · refine zk (zs (zb (zs (zrP ?_))))
   refine zs (zrP ?_)
   refine zb ?_
   refine awpS_loop (α := Nat) (fun k => ⟨[(1, .fn 27 0 (fun _ => .any)), (2, .vptr 2 (cdF c) 0), (6, .int .i64 (i : Nat)), (7, .str (c.ws.getD i [])), (14, strs c.ws), (15, .int .i64 c.ws.length), (16, .int .i64 (i : Nat)), (22, strs c.ws), (23, .int .i64 c.ws.length), (24, .int .i64 (k : Nat))], [], 0⟩) (fun k => k ≤ c.ws.length ∧ ∀ j, j < k → i ≠ j → ¬ c.ws.getD j [] <+: (c.ws.getD i [])) (fun k => c.ws.length - k) (0) (⟨Nat.zero_le _, fun j hj => absurd hj (Nat.not_lt_zero _)⟩) ?_ ?_
   · exact ziP
   rintro k ⟨hk, hm⟩
   refine zs (zrP ?_)
   refine zs (zy (fun hb25 => ?_) fun hb25 => ?_)
   · refine zk (zs (zb (zs (zrP ?_))))
     refine zs (zL (zlP 7 ?_))
     refine zcP cal27 (preW_c (c.ws.getD i []) (c.ws.getD k [])) ?_
     refine zlP 1 ?_
     refine zN (zy (fun hb37 => ?_) fun hb37 => ?_)
     · refine zs (zrP ?_)
       refine zt (zbt (ztt (zbt (zbt (ztt (zbt ?_))))))
       refine RetOK_of ?_
       simp [hG, List.getD_cons_zero, List.getD_cons_succ, -List.getD_eq_getElem?_getD, pureOp]
       have h9 : B = false := (by cases hb : B with | false => rfl | true => exact absurd hb37.2 (hB.1 hb i k (by omega) (by omega) (by have := hb37.1; omega))); first | exact h9 | exact h9.symm | simp [h9]
     refine zk (zn (zbn (zrP ?_)))
     refine zn ?_
     refine round_end (k + 1) (⟨by omega, step_all hm (fun hne hp => hb37 (by omega) hp)⟩) (by omega) ?_
     exact ziP
   obtain rfl : k = c.ws.length := (by omega)
   refine zx (ztx (zbx (zn (zbn (zrP ?_)))))
   refine zn ?_
   refine round_end (i + 1) (⟨by omega, step_all hn hm⟩) (by omega) ?_
   exact ziP
 obtain rfl : i = c.ws.length := (by omega)
 refine zx (ztx (zbx (zs (zrP ?_))))
 refine zt ?_
 refine RetOK_of ?_
 simp [hG, List.getD_cons_zero, List.getD_cons_succ, -List.getD_eq_getElem?_getD, pureOp]
 have h9 := hB.2 (fun i k hi hk => hn i hi k hk); first | exact h9 | exact h9.symm | simp [h9]
set_option maxRecDepth 100000 in
theorem prefixC_c (c : Cd) (hl : c.ws.length ≤ maxLen) (ho : cdN c = 0) (B : Bool) (hB : B = true ↔ ∀ i k, i < c.ws.length → k < c.ws.length → i ≠ k → ¬ c.ws.getD k [] <+: c.ws.getD i []) : PC Try.prog 33 [.agg 2 (cdF c)] (.tup 2 (fun j => [.bool B, .int .i64 0].getD j .any)) := by
 refine zp Try.func33 fun G hG hR => ?_
 refine zs (zrP ?_)
 refine zs (zL (zlP 1 ?_))
 refine zcP cal61 (alone_c c hl ho B hB) ?_
 refine zlP 4 ?_
 refine zN (zt ?_)
 exact zRP
set_option maxRecDepth 100000 in
set_option maxHeartbeats 1000000 in
theorem residuals_c (c : Cd) (hl : c.ws.length ≤ maxLen) (hv : CdOK c) : FC Try.prog 80 [.agg 2 (cdF c)] [] 0 (fun L : List Wd => RSt c.ws L) (fun L : List Wd => strs L) (fun L : List Wd => []) (fun L : List Wd => 0) := by
 have hML : maxLen = 9223372036854775807 := by decide
 have hWn := hv.n
 refine FC_introS T_ok Try.func80 rfl (by simp [Try.ntmps80]) fun G hG hR => ?_
 simp only [Try.ntmps80, Try.results80] at hG ⊢
 simp only [argEnv, Nat.zero_add, Nat.reduceAdd]
 refine zs (zr ?_ (h := by intro c K h; simp [hG, List.getD_cons_zero, List.getD_cons_succ, -List.getD_eq_getElem?_getD, pureOp, seenG_nil]; first | exact z1 c h | exact ⟨.mk c, h⟩))
 refine zs (zr ?_ (h := by intro c K h; simp [hG, List.getD_cons_zero, List.getD_cons_succ, -List.getD_eq_getElem?_getD, pureOp, seenG_nil]; first | exact z1 c h | exact ⟨.mk c, h⟩))
 refine zs (zr ?_ (h := by intro c K h; simp [hG, List.getD_cons_zero, List.getD_cons_succ, -List.getD_eq_getElem?_getD, pureOp, seenG_nil]; first | exact z1 c h | exact ⟨.mk c, h⟩))
 refine zs (zr ?_ (h := by intro c K h; simp [hG, List.getD_cons_zero, List.getD_cons_succ, -List.getD_eq_getElem?_getD, pureOp, seenG_nil]; first | exact z1 c h | exact ⟨.mk c, h⟩))
 refine zs (zs (zL (zl 1 ?_ (h := by intro c K h; simp [hG, List.getD_cons_zero, List.getD_cons_succ, -List.getD_eq_getElem?_getD, pureOp, seenG_nil]; first | exact z1 c h | exact ⟨.mk c, h⟩))))
 refine zc cal90 (firstsC_c c) ?_ (a := fun hg => by simp [hG, List.getD_cons_zero, List.getD_cons_succ, -List.getD_eq_getElem?_getD, pureOp, seenG_nil]) (b := fun hg => by simp [hG, List.getD_cons_zero, List.getD_cons_succ, -List.getD_eq_getElem?_getD, pureOp, seenG_nil]) (h := by intro K h; simp [hG, List.getD_cons_zero, List.getD_cons_succ, -List.getD_eq_getElem?_getD, pureOp, seenG_nil]; exact h)
 refine zN (zb ?_)
 refine awpS_wk (st2 := ⟨[(1, .vptr 2 (cdF c) 0), (3, .ptr (0, 0) 0 0), (4, .ptr (1, 0) 0 0), (5, .ptr (3, 0) 0 0), (13, .fn 96 1 (fun j => [.vptr 2 (cdF c) 0].getD j .any))], [(0, .one (.arr 1 1 (fun _ _ => .map (2, 0)))), (1, .one (.arr 1 1 (fun _ _ => .sl (4, 0) 0 ([] : List Wd).length))), (2, .one (.mp (mpE strK boolV (seenG ([] : List Wd))))), (3, .one (.arr 1 1 (fun _ _ => .fn 89 2 (fun j => [.ptr (0, 0) 0 0, .ptr (1, 0) 0 0].getD j .any)))), (4, .one (.arr ([] : List Wd).length 1 (fun p _ => .str (([] : List Wd).getD p []))))], 5⟩) ?_ ?_
 · exact zw (fun k => if k = 0 then 2 else if k = 1 then 3 else if k = 2 then 1 else if k = 3 then 4 else k + 1) (fun k => k == 0) (fun k => k == 4) (e := by simp [hG, List.getD_cons_zero, List.getD_cons_succ, -List.getD_eq_getElem?_getD, pureOp, seenG_nil]) (h := by simp [hG, List.getD_cons_zero, List.getD_cons_succ, -List.getD_eq_getElem?_getD, pureOp, seenG_nil])
 refine awpS_range hR [5] [0, 1, 2, 3, 4] (fun _ => false) cal96 rfl trivial (fun l rec vs hok => by rw [hG] at hok; exact firstsI_c l rec vs hok c hl hv [] RSt.nil) (by simp) (.inl fun _ => rfl) (fun l vs => ?_) ?_ fun K hK L hI hno => ?_
 · simp [hG, List.range'_succ, List.range'_zero, List.getD_cons_zero, List.getD_cons_succ, -List.getD_eq_getElem?_getD]
 · simp [hG, List.getD_cons_zero, List.getD_cons_succ, -List.getD_eq_getElem?_getD, pureOp, seenG_nil]
 simp [hG, List.getD_cons_zero, List.getD_cons_succ, -List.getD_eq_getElem?_getD, pureOp, seenG_nil]
 refine hK _ ?_
 clear K hK
 refine zn (zbn (zs (zs (zr ?_ (h := by intro c K h; simp [hG, List.getD_cons_zero, List.getD_cons_succ, -List.getD_eq_getElem?_getD, pureOp, seenG_nil]; first | exact z1 c h | exact ⟨.mk c, h⟩)))))
 refine zb ?_
 refine awpS_loop (α := Nat × List Wd) (fun z => ⟨[(1, .vptr 2 (cdF c) 0), (3, .ptr (0, 0) 0 0), (4, .ptr (1, 0) 0 0), (5, .ptr (3, 0) 0 0), (8, .int .i64 (z.1 : Nat))], [(0, .one (.arr 1 1 (fun _ _ => .map (2, 0)))), (1, .one (.arr 1 1 (fun _ _ => .sl (4, 0) 0 z.2.length))), (2, .one (.mp (mpE strK boolV (seenG z.2)))), (3, .one (.arr 1 1 (fun _ _ => .fn 89 2 (fun j => [.ptr (0, 0) 0 0, .ptr (1, 0) 0 0].getD j .any)))), (4, .one (.arr z.2.length 1 (fun p _ => .str (z.2.getD p []))))], 5⟩) (fun z => z.1 ≤ z.2.length ∧ RSt c.ws z.2) (fun z => 2113 - z.1) ((0, L)) (⟨Nat.zero_le _, hI.1⟩) ?_ ?_
 · exact zw (fun k => if k = 4 then 5 else k) (fun _ => false) (fun _ => false) (e := by simp [hG, List.getD_cons_zero, List.getD_cons_succ, -List.getD_eq_getElem?_getD, pureOp, seenG_nil]) (h := by simp [hG, List.getD_cons_zero, List.getD_cons_succ, -List.getD_eq_getElem?_getD, pureOp, seenG_nil])
 rintro ⟨i, L1⟩ ⟨hi, hL1⟩
 simp only at hi hL1
 refine zs (zs (zr ?_ (h := by intro c K h; simp [hG, List.getD_cons_zero, List.getD_cons_succ, -List.getD_eq_getElem?_getD, pureOp, seenG_nil]; first | exact z1 c h | exact ⟨.mk c, h⟩)))
 refine zy (fun hb22 => ?_) fun hb22 => ?_
 · have hLb := rst_box hWn.2 hv.len hL1
   refine zk (zs (zb (zs (zs (zr ?_ (h := by intro c K h; simp [hG, List.getD_cons_zero, List.getD_cons_succ, -List.getD_eq_getElem?_getD, pureOp, seenG_nil]; first | exact z1 c h | exact ⟨.mk c, h⟩))))))
   refine zy (fun hb29 => ?_) fun hb29 => ?_
   · refine zx (zbx (zr ?_ (h := by intro c K h; simp [hG, List.getD_cons_zero, List.getD_cons_succ, -List.getD_eq_getElem?_getD, pureOp, seenG_nil]; first | exact z1 c h | exact ⟨.mk c, h⟩)))
     refine zn ?_
     refine round_end ((i + 1, L1)) (⟨by simp only; omega, hL1⟩) (by simp only; omega) ?_
     exact zi (e := by simp [hG, List.getD_cons_zero, List.getD_cons_succ, -List.getD_eq_getElem?_getD, pureOp, seenG_nil]) (h := by simp [hG, List.getD_cons_zero, List.getD_cons_succ, -List.getD_eq_getElem?_getD, pureOp, seenG_nil])
   have hr0 : L1.getD i [] ≠ [] := (by simpa using hb29)
   refine zk (zs ?_)
   refine awpS_draw hR mixed [] ⟨[], [], []⟩ fun mu0 => ?_
   refine za [0, 1, 2, 3, 4] [] 1 [4, 3, 2, 1, 0] ?_ (h := by intro c K h; simp [hG, List.getD_cons_zero, List.getD_cons_succ, -List.getD_eq_getElem?_getD, pureOp, seenG_nil]; first | exact z1 c h | exact ⟨.mk c, h⟩)
   refine awpA_only (fuel := 0) (i := 5) (by decide +kernel) ?_
   refine ze cal91 (nextsC_c c (L1.getD i [])) ?_ (a := fun hg => by simp [hG, List.getD_cons_zero, List.getD_cons_succ, -List.getD_eq_getElem?_getD, pureOp, seenG_nil]) (b := fun hg => by simp [hG, List.getD_cons_zero, List.getD_cons_succ, -List.getD_eq_getElem?_getD, pureOp, seenG_nil]) (h := by intro K h; simp [hG, List.getD_cons_zero, List.getD_cons_succ, -List.getD_eq_getElem?_getD, pureOp, seenG_nil]; exact h)
   refine awpA_done (by decide +kernel) ?_
   refine zb ?_
   refine awpS_range hR [5] [0, 1, 2, 3, 4] (fun _ => false) cal98 rfl trivial (fun l rec vs hok => by rw [hG] at hok; exact nextsI_c l rec vs hok c hl hv L1 hL1 (L1.getD i []) (hL1.2 _ (q_mem hb22)) hr0) (by simp) (.inl fun _ => rfl) (fun l vs => ?_) ?_ fun K hK L2 hI hno => ?_
   · simp [hG, List.range'_succ, List.range'_zero, List.getD_cons_zero, List.getD_cons_succ, -List.getD_eq_getElem?_getD]
   · simp [hG, List.getD_cons_zero, List.getD_cons_succ, -List.getD_eq_getElem?_getD, pureOp, seenG_nil]
   simp [hG, List.getD_cons_zero, List.getD_cons_succ, -List.getD_eq_getElem?_getD, pureOp, seenG_nil]
   refine hK _ ?_
   clear K hK
   refine zn (zbn (zn (zbn (zr ?_ (h := by intro c K h; simp [hG, List.getD_cons_zero, List.getD_cons_succ, -List.getD_eq_getElem?_getD, pureOp, seenG_nil]; first | exact z1 c h | exact ⟨.mk c, h⟩)))))
   refine zn ?_
   refine round_end ((i + 1, L2)) (⟨by simp only; have := hI.2; omega, hI.1⟩) (by simp only; omega) ?_
   exact zw (fun k => if k = 4 then 5 else k) (fun _ => false) (fun _ => false) (e := by simp [hG, List.getD_cons_zero, List.getD_cons_succ, -List.getD_eq_getElem?_getD, pureOp, seenG_nil]) (h := by simp [hG, List.getD_cons_zero, List.getD_cons_succ, -List.getD_eq_getElem?_getD, pureOp, seenG_nil])
 have hLb := rst_box hWn.2 hv.len hL1
 refine zx (ztx (zbx (zs (zL (zl 1 ?_ (h := by intro c K h; simp [hG, List.getD_cons_zero, List.getD_cons_succ, -List.getD_eq_getElem?_getD, pureOp, seenG_nil]; first | exact z1 c h | exact ⟨.mk c, h⟩))))))
 refine zf cal92 [4] (sortF_c L1 (by omega)) (fun L3 hI hno => ?_) (a := by simp [hG, List.getD_cons_zero, List.getD_cons_succ, -List.getD_eq_getElem?_getD, pureOp, seenG_nil]) (b := by simp [hG, List.range'_succ, List.range'_zero, List.getD_cons_zero, List.getD_cons_succ, -List.getD_eq_getElem?_getD]) (c := by simp [hG, List.getD_cons_zero, List.getD_cons_succ, -List.getD_eq_getElem?_getD, pureOp, seenG_nil]) (h := by intro K h L3 hI hno; simp [hG, List.getD_cons_zero, List.getD_cons_succ, -List.getD_eq_getElem?_getD, pureOp, seenG_nil]; exact h L3 hI hno)
 refine zN (zs (zr ?_ (h := by intro c K h; simp [hG, List.getD_cons_zero, List.getD_cons_succ, -List.getD_eq_getElem?_getD, pureOp, seenG_nil]; first | exact z1 c h | exact ⟨.mk c, h⟩)))
 refine zt ?_
 refine RetF_of (L3) (id) (fun k => k == 4) (fun _ => false) (rst_perm hL1 hI) ?_ ?_ (by rfl) (by simp) (fun k hk => absurd hk (Nat.not_lt_zero _))
 · simp [hG, pureOp, List.getD_cons_zero, List.getD_cons_succ, -List.getD_eq_getElem?_getD]; exact ⟨hI.length_eq.symm, Nat.le_of_eq hI.length_eq⟩
 simp [hG, List.getD_cons_zero, List.getD_cons_succ, -List.getD_eq_getElem?_getD, pureOp, seenG_nil]
set_option maxRecDepth 100000 in
theorem dec0_c (c : Cd) (hl : c.ws.length ≤ maxLen) (hv : CdOK c) : FC Try.prog 62 [.agg 2 (cdF c)] [] 0 (fun b : Bool => b = false → DerR c.ws []) (fun b : Bool => .bool b) (fun b : Bool => []) (fun b : Bool => 0) := by
 refine FC_introS T_ok Try.func62 rfl (by simp [Try.ntmps62]) fun G hG hR => ?_
 simp only [Try.ntmps62, Try.results62] at hG ⊢
 simp only [argEnv, Nat.zero_add, Nat.reduceAdd]
 refine zs (zrP ?_)
 refine zs (zL (zlP 1 ?_))
 refine zfP cal80 [] (residuals_c c hl hv) (fun L hI hno => ?_) (b := by simp [hG, List.range'_succ, List.range'_zero, List.getD_cons_zero, List.getD_cons_succ, -List.getD_eq_getElem?_getD])
 refine zcP cal79 (containsS0_c L [] (by have := rst_box hv.n.2 hv.len hI; omega)) ?_
 refine zlP 2 ?_
 refine zN (zt ?_)
 refine RetF_of ((!decide (([] : Wd) ∈ L))) (id) (fun _ => false) (fun _ => false) (fun h => hI.2 _ (by simpa using h)) ?_ ?_ (by rfl) (by simp) (fun k hk => absurd hk (Nat.not_lt_zero _))
 · simp [hG, List.getD_cons_zero, List.getD_cons_succ, -List.getD_eq_getElem?_getD, pureOp]
 simp [hG, List.getD_cons_zero, List.getD_cons_succ, -List.getD_eq_getElem?_getD, pureOp]
set_option maxRecDepth 100000 in
theorem dec1_c (c : Cd) (hl : c.ws.length ≤ maxLen) (ho : cdN c = 0) (hv : CdOK c) : FC Try.prog 34 [.agg 2 (cdF c)] [] 0 (fun b : Bool => b = false → DerR c.ws []) (fun b : Bool => .tup 2 (fun j => [.bool b, .int .i64 0].getD j .any)) (fun b : Bool => []) (fun b : Bool => 0) := by
 refine FC_introS T_ok Try.func34 rfl (by simp [Try.ntmps34]) fun G hG hR => ?_
 simp only [Try.ntmps34, Try.results34] at hG ⊢
 simp only [argEnv, Nat.zero_add, Nat.reduceAdd]
 refine zs (zrP ?_)
 refine zs (zs (zL (zlP 1 ?_)))
 refine zcP cal38 (check_c c hl) ?_
 refine zlP 1 ?_
 refine zN ?_
 refine awpS_cond rfl (fun hb6 => ?_) (fun hb6 => ?_)
 · simp [ho] at hb6
 try simp [-List.getD_eq_getElem?_getD] at hb6
 refine zk (zs (zL (zlP 1 ?_)))
 refine zfP cal62 [] (dec0_c c hl hv) (fun b hI hno => ?_) (b := by simp [hG, List.range'_succ, List.range'_zero, List.getD_cons_zero, List.getD_cons_succ, -List.getD_eq_getElem?_getD])
 refine zlP 2 ?_
 refine zN (zt ?_)
 refine RetF_of (b) (id) (fun _ => false) (fun _ => false) hI ?_ ?_ (by rfl) (by simp) (fun k hk => absurd hk (Nat.not_lt_zero _))
 · simp [hG, List.getD_cons_zero, List.getD_cons_succ, -List.getD_eq_getElem?_getD, pureOp]
 simp [hG, List.getD_cons_zero, List.getD_cons_succ, -List.getD_eq_getElem?_getD, pureOp]
set_option maxRecDepth 100000 in
set_option maxHeartbeats 1000000 in
theorem prefixesLaw_c (c : Cd) (hl : c.ws.length ≤ maxLen) : PC Try.prog 9 [.agg 2 (cdF c)] (.bool true) := by
 have hML : maxLen = 9223372036854775807 := by decide
 refine zp Try.func9 fun G hG hR => ?_
 refine zs (zrP ?_)
 refine zs (zs (zL (zlP 1 ?_)))
 refine zcP cal26 (fine_c c hl) ?_
 refine zlP 1 ?_
 refine zN (zy (fun hb12 => ?_) fun hb12 => ?_)
 · refine zs (zL ?_)
   refine zcP cal11 awake_c ?_
   refine zlP 1 ?_
   refine zN (zt ?_)
   exact zRP
 obtain ⟨ho, hv, h6, hw6⟩ := fine_ok hb12
 have hWn := hv.n
 have har := ar_ok ho
 refine zk (zs (zL (zlP 1 ?_)))
 refine zcP cal12 (delay_c c hl) ?_
 refine zlP 7 ?_
 refine zN (zs (zL (zlP 1 ?_)))
 refine zcP cal33 (prefixC_c c hl ho (dlB c && decide (dlD c = 0)) (pfx_iff ho)) ?_
 refine zlP 5 ?_
 refine zN (zs (zL (zlP 1 ?_)))
 refine zfP cal34 [] (dec1_c c hl ho hv) (fun b hI hno => ?_) (b := by simp [hG, List.range'_succ, List.range'_zero, List.getD_cons_zero, List.getD_cons_succ, -List.getD_eq_getElem?_getD])
 refine zlP 5 ?_
 refine zN (zs (zL (zlP 22 ?_)))
 refine zcP cal11 awake_c ?_
 refine zlP 2 ?_
 refine zN (zt ?_)
 refine RetOK_of ?_
 simp [hG, List.getD_cons_zero, List.getD_cons_succ, -List.getD_eq_getElem?_getD, pureOp]
 exact ⟨by rw [har]; rfl, by cases hb : b with | true => exact .inr rfl | false => exact .inl (der_no ho (hI hb))⟩
end Go.Proofs.Ytoafgeobhhlplaa
