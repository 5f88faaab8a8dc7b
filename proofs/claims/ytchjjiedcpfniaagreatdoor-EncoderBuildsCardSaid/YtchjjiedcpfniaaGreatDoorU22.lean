/- Parts of the proof: WE WF. -/
import Derived.Test.YtchjjiedcpfniaaGreatDoorU16
import Derived.Test.YtchjjiedcpfniaaGreatDoorU21
namespace Go.Proofs.YtchjjiedcpfniaaGreatDoor
set_option linter.unusedSimpArgs false
set_option linter.unusedVariables false
open Go Go.Lift Go.Proofs
def SortedI (l : List Int) : Prop := ∀ i, i + 1 < l.length → l.getD i 0 ≤ l.getD (i + 1) 0
open Classical in
noncomputable def sortedB (l : List Int) : Bool := decide (SortedI l)
theorem sorted_next {l : List Int} {v : Nat} (hv : 2 ≤ v) (hn : ∀ j, v ≤ j + 1 → j + 1 < l.length → l.getD j 0 ≤ l.getD (j + 1) 0) (h : l.getD (v - 2) 0 ≤ l.getD (v - 1) 0) : ∀ j, v - 1 ≤ j + 1 → j + 1 < l.length → l.getD j 0 ≤ l.getD (j + 1) 0 := fun j h1 h2 => by
  by_cases e : v ≤ j + 1
  · exact hn j e h2
  · obtain rfl : j = v - 2 := by omega
    rw [show v - 2 + 1 = v - 1 by omega]; exact h
open Classical in
theorem sorted_no {l : List Int} {v : Nat} (hv : 2 ≤ v) (hl : v ≤ l.length) (h : l.getD (v - 1) 0 < l.getD (v - 2) 0) : sortedB l = false := decide_eq_false fun hs => by
  have := hs (v - 2) (by omega)
  rw [show v - 2 + 1 = v - 1 by omega] at this
  omega
open Classical in
theorem sorted_yes {l : List Int} {v : Nat} (hv : v ≤ 1) (hn : ∀ j, v ≤ j + 1 → j + 1 < l.length → l.getD j 0 ≤ l.getD (j + 1) 0) : sortedB l = true := decide_eq_true fun i hi => hn i (by omega) hi
theorem sortAny_c (l : List Int) (hl : l.length ≤ 1000000) :
    FC1 Tryz.prog 45 [.sl (0, 0) 0 l.length] [(0, .one (.arr l.length 1 (fun i _ => .int .i64 (l.getD i 0))))] 1 .any [(0, .one (.arr l.length 1 (fun i _ => .int .i64 ((srtI l).getD i 0))))] 1 := by
  rcases Nat.eq_zero_or_pos l.length with h | h
  · obtain rfl := List.length_eq_zero_iff.1 h
    have e : srtI [] = [] := List.length_eq_zero_iff.1 (by rw [srtI_len]; rfl)
    rw [e]
    exact sortI0_c
  · exact sortI_pos l h hl
def flA (L : List (List Int)) (i : Nat) : List Int := (L.take i).flatten
theorem flA_zero {L : List (List Int)} : flA L 0 = [] := rfl
theorem flA_succ {L : List (List Int)} {i : Nat} (h : i < L.length) : flA L (i + 1) = flA L i ++ L.getD i [] := by
  unfold flA
  rw [List.take_add_one, List.getElem?_eq_getElem h, List.flatten_append]
  simp [List.getD, h]
theorem flA_all {L : List (List Int)} : flA L L.length = L.flatten := by unfold flA; rw [List.take_length]
theorem flA_len {L : List (List Int)} (h : ∀ p ∈ L, p.length ≤ 1024) : ∀ i, i ≤ L.length → (flA L i).length ≤ i * 1024
  | 0, _ => Nat.le_refl _
  | i + 1, hi => by
    have h1 := flA_len h i (by omega)
    have h2 := h _ (getD_mem (d := []) (show i < L.length by omega))
    rw [flA_succ (by omega), List.length_append]
    omega
theorem app_list {K P : List Int} {q : Nat} (hq : q < K.length + P.length) : app (fun p _ => AVal.int .i64 (K.getD p 0)) K.length (fun i _ => AVal.int .i64 (P.getD i 0)) q 0 = .int .i64 ((K ++ P).getD q 0) := by
  unfold app
  by_cases h : q < K.length
  · rw [if_pos h]; simp [List.getD, List.getElem?_append_left h]
  · rw [if_neg h]; simp [List.getD, List.getElem?_append_right (Nat.le_of_not_lt h)]
noncomputable def divB (L : List (List Int)) (l : List Int) : Bool := (L.all fun p => !decide (p = []) && sortedB p) && (decide (1 < L.length) && decide (srtI L.flatten = l))
theorem div_no {L : List (List Int)} {l : List Int} {i : Nat} (hi : i < L.length) (h : L.getD i [] = [] ∨ sortedB (L.getD i []) = false) : divB L l = false := by
  unfold divB
  rw [Bool.and_eq_false_iff]
  refine .inl (List.all_eq_false.2 ⟨L.getD i [], getD_mem hi, ?_⟩)
  rcases h with h | h
  · rw [h]; simp
  · rw [h]; simp
theorem div_at {L : List (List Int)} {l : List Int} (h : ∀ j, j < L.length → L.getD j [] ≠ [] ∧ sortedB (L.getD j []) = true) : divB L l = (decide (1 < L.length) && decide (srtI L.flatten = l)) := by
  unfold divB
  rw [List.all_eq_true.2, Bool.true_and]
  intro p hp
  obtain ⟨j, hj, rfl⟩ := List.mem_iff_getElem.1 hp
  have := h j hj
  simp only [List.getD, List.getElem?_eq_getElem hj, Option.getD_some] at this
  simp [this]
set_option maxRecDepth 100000 in
theorem less_c (x y : Int) : PC Tryz.prog 97 [.int .i64 x, .int .i64 y] (.bool (decide (x < y))) := by
 refine zp Tryz.func97 fun G hG hR => ?_
 refine zs (zr ?_)
 refine zs (zL (zl 1 ?_))
 refine zc cal127 (nanI_c x) ?_
 refine zl 2 ?_
 refine zc cal127 (nanI_c y) ?_
 refine zl 8 ?_
 refine zN (zt ?_)
 exact zR
set_option maxRecDepth 100000 in
theorem isSorted_c (l : List Int) (hl : l.length ≤ 1000000) : PC Tryz.prog 141 [ints l] (.bool (sortedB l)) := by
 refine zp Tryz.func141 fun G hG hR => ?_
 refine zs (zr ?_)
 refine zs (zs (zr ?_))
 refine zb ?_
 refine awpS_loop (α := Nat) (fun v => ⟨[(0, ints l), (3, .int .i64 ((v : Int) - 1))], [], 0⟩) (fun v => v ≤ l.length ∧ ∀ j, v ≤ j + 1 → j + 1 < l.length → l.getD j 0 ≤ l.getD (j + 1) 0) (fun v => v) (l.length) (⟨Nat.le_refl _, fun j h1 h2 => absurd h2 (by omega)⟩) ?_ ?_
 · exact zi
 rintro v ⟨hv, hn⟩
 refine zs (zs (zr ?_))
 refine zy (fun hb8 => ?_) fun hb8 => ?_
 · refine zk (zs (zb (zs ?_)))
   refine awpS_draw hR mixed [] ⟨[], [], []⟩ fun mu0 => ?_
   refine za [0, 1, 2, 3, 4, 5, 6, 7, 8] [] 1 [8, 7, 6, 5, 4, 3, 2, 1, 0] ?_
   refine awpA_only (fuel := 0) (i := 9) (by decide +kernel) ?_
   refine ze cal97 (less_c (l.getD (v - 1) 0) (l.getD (v - 2) 0)) ?_ (b := fun hg => by simp [hG, List.getD_cons_zero, List.getD_cons_succ, -List.getD_eq_getElem?_getD]; rw [Nat.sub_sub])
   refine awpA_done (by decide +kernel) ?_
   refine zy (fun hb20 => ?_) fun hb20 => ?_
   · refine zs (zr ?_)
     refine zt (zbt (ztt (zbt ?_)))
     refine RetOK_of ?_
     simp [hG, List.getD_cons_zero, List.getD_cons_succ, -List.getD_eq_getElem?_getD]
     exact sorted_no (by omega) hv hb20
   refine zk (zn (zbn (zr ?_)))
   refine zn ?_
   refine round_end ((v - 1)) (⟨by omega, sorted_next (by omega) hn hb20⟩) (by omega) ?_
   exact zi (e := by simp [hG, List.getD_cons_zero, List.getD_cons_succ, -List.getD_eq_getElem?_getD]; omega)
 refine zx (ztx (zbx (zs (zr ?_))))
 refine zt ?_
 refine RetOK_of ?_
 simp [hG, List.getD_cons_zero, List.getD_cons_succ, -List.getD_eq_getElem?_getD]
 exact sorted_yes (by omega) hn
set_option maxRecDepth 100000 in
theorem divC_c (L : List (List Int)) (l : List Int) (hn : L.length ≤ 900) (hp : ∀ p ∈ L, p.length ≤ 1024) : PC Tryz.prog 117 [rowsI L, ints l] (.bool (divB L l)) := by
 refine zp Tryz.func117 fun G hG hR => ?_
 refine zs (zrP ?_)
 refine zs (zrP ?_)
 refine zs (zs (zrP ?_))
 refine zb ?_
 refine awpS_loop (α := Nat) (fun i => ⟨[(0, rowsI L), (1, ints l), (5, .sl (0, 0) 0 (flA L i).length), (8, rowsI L), (9, .int .i64 L.length), (10, .int .i64 i)], [(0, .one (.arr (flA L i).length 1 (fun p _ => .int .i64 ((flA L i).getD p 0))))], 1⟩) (fun i => i ≤ L.length ∧ ∀ j, j < i → L.getD j [] ≠ [] ∧ sortedB (L.getD j []) = true) (fun i => L.length - i) (0) (⟨Nat.zero_le _, fun j hj => absurd hj (Nat.not_lt_zero _)⟩) ?_ ?_
 · exact zw (id) (fun _ => false) (fun k => k == 0) (e := by rw [flA_zero]; simp [hG, List.getD_cons_zero, List.getD_cons_succ, -List.getD_eq_getElem?_getD]) (h := by rw [flA_zero]; simp [hG, List.getD_cons_zero, List.getD_cons_succ, -List.getD_eq_getElem?_getD])
 rintro i ⟨hi, hn2⟩
 refine zs (zrP ?_)
 refine zs (zy (fun hb11 => ?_) fun hb11 => ?_)
 · have hil : i < L.length := (by omega)
   have hpl := hp _ (getD_mem (d := ([] : List Int)) hil)
   have hfs := flA_succ hil
   have hfl := flA_len hp i (by omega)
   refine zk (zs (zb (zs (zrP ?_))))
   refine zs (zs (zL (zlP 5 ?_)))
   refine zcP cal141 (isSorted_c (L.getD i []) (by omega)) ?_
   refine zlP 2 ?_
   refine zN (zy (fun hb21 => ?_) fun hb21 => ?_)
   · refine zs (zrP ?_)
     refine zt (zbt (ztt (zbt ?_)))
     refine RetOK_of ?_
     simp [hG, List.getD_cons_zero, List.getD_cons_succ, -List.getD_eq_getElem?_getD, pureOp]
     exact div_no (by omega) hb21
   refine zk (zrP ?_)
   refine zn (zbn (zrP ?_))
   refine zn ?_
   refine round_end (i + 1) (⟨by omega, step_all hn2 hb21⟩) (by omega) ?_
   exact zw (fun k => if k = 0 then 1 else k) (fun _ => false) (fun _ => false) (e := by rw [hfs]; simp [hG, List.getD_cons_zero, List.getD_cons_succ, -List.getD_eq_getElem?_getD]) (h := by rw [hfs]; simp [hG, List.getD_cons_zero, List.getD_cons_succ, -List.getD_eq_getElem?_getD]; exact fun q hq => app_list hq)
 obtain rfl : i = L.length := (by omega)
 have hfl := flA_len hp L.length (Nat.le_refl _)
 have hfa := flA_all (L := L)
 refine zx (ztx (zbx (zs (zL (zlP 1 ?_)))))
 refine zfP cal45 [0] (sortAny_c (flA L L.length) (by omega)) (fun x hI hno => ?_)
 refine zN (zs (zL (zlP 6 ?_)))
 refine awpL_callB (mem [0]) cal142 (by simp [flat]) rfl rfl (fun _ => rfl) (fun hg => equalI_c (srtI L.flatten) l (by rw [srtI_len, ← flA_all]; omega)) (fun hg => ?_) (fun hg => ?_) fun K hK => ?_
 · first | (simp [hG, List.getD_cons_zero, List.getD_cons_succ, -List.getD_eq_getElem?_getD, pureOp]; done) | (simp [-List.getD_eq_getElem?_getD] at hg; done) | (simp [-List.getD_eq_getElem?_getD] at hg; simp [hG, List.getD_cons_zero, List.getD_cons_succ, -List.getD_eq_getElem?_getD, pureOp]; first | omega | exact hg | (simp_all [-List.getD_eq_getElem?_getD]; done) | (simp_all [-List.getD_eq_getElem?_getD]; first | exact ⟨rfl, rfl⟩ | exact rfl))
 · simp [hG, List.getD_cons_zero, List.getD_cons_succ, -List.getD_eq_getElem?_getD]; exact ⟨by rw [srtI_len, ← flA_all], by rw [srtI_len, ← flA_all]; exact Nat.le_refl _, fun q hq => by rw [flA_all]⟩
 simp [hG, List.getD_cons_zero, List.getD_cons_succ, -List.getD_eq_getElem?_getD, pureOp]
 refine hK _ ?_
 clear K hK
 refine zlP 2 ?_
 refine zN (zt ?_)
 refine RetOK_of ?_
 simp [hG, List.getD_cons_zero, List.getD_cons_succ, -List.getD_eq_getElem?_getD, pureOp]
 rw [div_at (fun j hj => hn2 j (by omega))]; congr 1; simp only [decide_eq_decide]; omega
theorem div_ok {L : List (List Int)} {l : List Int} (h : divB L l = true) : 1 < L.length ∧ (∀ p ∈ L, p ≠ [] ∧ sortedB p = true) ∧ L.flatten.Perm l := by
  unfold divB at h
  rw [Bool.and_eq_true, Bool.and_eq_true, decide_eq_true_eq, decide_eq_true_eq] at h
  obtain ⟨h1, h2, h3⟩ := h
  refine ⟨h2, fun p hp => ?_, ?_⟩
  · have := List.all_eq_true.1 h1 p hp
    simpa using this
  · rw [← h3]; exact srtI_perm.symm
noncomputable def splN (g : Gr) (v : List Int) (m : Int) (l : List Spl) (i : Nat) : Int :=
  if (l.getD i ds).st < 0 ∨ g.states ≤ (l.getD i ds).st then 25 else if 0 < i ∧ (l.getD i ds).st ≤ (l.getD (i - 1) ds).st then 10
  else if divB (l.getD i ds).parts (outR g (l.getD i ds).st) = false then 11 else if wtB g v m (l.getD i ds) = false then 16 else 0
noncomputable def rndN (g : Gr) (v : List Int) (m : Int) (l : List Spl) : Int := if baseN g v m ≠ 0 then baseN g v m else if l = [] then 5 else firstNZ (splN g v m l) (List.range l.length)
structure RndOK (l : List Spl) : Prop where
  len : l.length ≤ 1000000
  num : ∀ x ∈ l, x.parts.length ≤ 900
  part : ∀ x ∈ l, ∀ p ∈ x.parts, p.length ≤ 1024
section
variable {g : Gr} {v : List Int} {m : Int} {l : List Spl}
theorem spl_ok {x : Spl} (hv : gcheck g = 0) (hl : RndOK l) (hx : x ∈ l) (hs : 0 ≤ x.st ∧ x.st < g.states) (hd : divB x.parts (outR g x.st) = true) : SplOK g x ∧ 0 < x.parts.length := by
  obtain ⟨h1, h2, h3⟩ := div_ok hd
  rw [(out_3 hv hs).1] at h3
  refine ⟨⟨hs, by have := hl.num x hx; omega, hl.part x hx, fun p hp k hk => ?_⟩, by omega⟩
  have hm : k ∈ outL g x.st := h3.mem_iff.1 (List.mem_flatten.2 ⟨p, hp, hk⟩)
  obtain ⟨j, hj, rfl, _⟩ := outA_mem.1 hm
  omega
theorem rnd_1 (h : baseN g v m ≠ 0) : rndN g v m l = baseN g v m := if_pos h
theorem rnd_2 (h : baseN g v m = 0) (h2 : l = []) : rndN g v m l = 5 := by unfold rndN; rw [if_neg (fun h3 => h3 h), if_pos h2]
theorem rnd_at (h : baseN g v m = 0) (h2 : l ≠ []) : rndN g v m l = firstNZ (splN g v m l) (List.range l.length) := by unfold rndN; rw [if_neg (fun h3 => h3 h), if_neg h2]
theorem rnd_hit {i : Nat} (h : baseN g v m = 0) (h2 : l ≠ []) (hn : ∀ j, j < i → splN g v m l j = 0) (hi : i < l.length) {n : Int} (hs : splN g v m l i = n) (h0 : n ≠ 0) : rndN g v m l = n := by
  rw [rnd_at h h2, ← hs]
  exact firstNZ_range hn hi (by rw [hs]; exact h0)
theorem rnd_ok (h : baseN g v m = 0) (h2 : l ≠ []) (hn : ∀ j, j < l.length → splN g v m l j = 0) : rndN g v m l = 0 := by rw [rnd_at h h2]; exact firstNZ_none hn
theorem spl_1 {i : Nat} (h : (l.getD i ds).st < 0 ∨ g.states ≤ (l.getD i ds).st) : splN g v m l i = 25 := if_pos h
theorem spl_2 {i : Nat} (h : 0 ≤ (l.getD i ds).st ∧ (l.getD i ds).st < g.states) (h2 : 0 < i ∧ (l.getD i ds).st ≤ (l.getD (i - 1) ds).st) : splN g v m l i = 10 := by unfold splN; rw [if_neg (by omega), if_pos h2]
theorem spl_3 {i : Nat} (h : 0 ≤ (l.getD i ds).st ∧ (l.getD i ds).st < g.states) (h2 : ¬ (0 < i ∧ (l.getD i ds).st ≤ (l.getD (i - 1) ds).st)) (h3 : divB (l.getD i ds).parts (outR g (l.getD i ds).st) = false) : splN g v m l i = 11 := by unfold splN; rw [if_neg (by omega), if_neg h2, if_pos h3]
theorem spl_4 {i : Nat} (h : 0 ≤ (l.getD i ds).st ∧ (l.getD i ds).st < g.states) (h2 : ¬ (0 < i ∧ (l.getD i ds).st ≤ (l.getD (i - 1) ds).st)) (h3 : divB (l.getD i ds).parts (outR g (l.getD i ds).st) = true) : splN g v m l i = if wtB g v m (l.getD i ds) = false then 16 else 0 := by unfold splN; rw [if_neg (by omega), if_neg h2, if_neg (by rw [h3]; simp)]
end
set_option maxRecDepth 100000 in
set_option maxHeartbeats 1000000 in
theorem rndC_c (g : Gr) (v : List Int) (m : Int) (l : List Spl) (hr : RndOK l) : PC Tryz.prog 82 [.agg 3 (grF g), ints v, .int .i64 m, spls l] (.int .i64 (rndN g v m l)) := by
 have hrl := hr.len
 refine zp Tryz.func82 fun G hG hR => ?_
 refine zs (zrP ?_)
 refine zs (zs (zL (zlP 3 ?_)))
 refine zcP cal61 (baseC_c g v m) ?_
 refine zlP 1 ?_
 refine zN (zs (zrP ?_))
 refine zy (fun hb21 => ?_) fun hb21 => ?_
 · refine zs (zrP ?_)
   refine zt ?_
   refine RetOK_of ?_
   simp [hG, List.getD_cons_zero, List.getD_cons_succ, -List.getD_eq_getElem?_getD, pureOp]
   exact (rnd_1 hb21).symm
 obtain ⟨hv, hm, hl, hbx⟩ := vecN_zero (eigN_zero (baseN_zero hb21).1).1
 refine zk (zs (zs (zrP ?_)))
 refine zy (fun hb25 => ?_) fun hb25 => ?_
 · refine zs (zrP ?_)
   refine zt ?_
   refine RetOK_of ?_
   simp [hG, List.getD_cons_zero, List.getD_cons_succ, -List.getD_eq_getElem?_getD, pureOp]
   exact (rnd_2 hb21 hb25).symm
 have hne : l ≠ [] := (by intro h; rw [h] at hb25; simp at hb25)
 refine zk (zs (zs (zrP ?_)))
 refine zb ?_
 refine awpS_loop (α := Nat) (fun i => ⟨[(1, ints v), (2, .int .i64 m), (3, spls l), (4, .ptr (0, 0) 0 0), (26, spls l), (27, .int .i64 l.length), (28, .int .i64 i)], [(0, .one (.arr 1 3 (fun _ => grF g)))], 1⟩) (fun i => i ≤ l.length ∧ ∀ j, j < i → splN g v m l j = 0) (fun i => l.length - i) (0) (⟨Nat.zero_le _, fun j hj => absurd hj (Nat.not_lt_zero _)⟩) ?_ ?_
 · exact ziP
 rintro i ⟨hi, hn⟩
 refine zs (zrP ?_)
 refine zs (zy (fun hb29 => ?_) fun hb29 => ?_)
 · have hil : i < l.length := (by omega)
   have hxm := getD_mem (d := ds) hil
   refine zk (zs (zb (zs (zrP ?_))))
   refine zs (zs (zrP ?_))
   refine zy (fun hb42 => ?_) fun hb42 => ?_
   · refine zs (zrP ?_)
     refine zt (zbt (ztt (zbt ?_)))
     refine RetOK_of ?_
     simp [hG, List.getD_cons_zero, List.getD_cons_succ, -List.getD_eq_getElem?_getD, pureOp]
     exact (rnd_hit hb21 hne hn hil (spl_1 hb42) (by decide)).symm
   refine zk (zs (zs ?_))
   refine awpS_draw hR mixed [] ⟨[], [], []⟩ fun mu0 => ?_
   refine zaP [0, 1, 2, 3, 4, 5, 6, 7, 8, 9, 10, 11, 12] [] 0 [12, 11, 10, 9, 8, 7, 6, 5, 4, 3, 2, 1, 0] ?_
   refine awpA_done (by decide +kernel) ?_
   refine zy (fun hb55 => ?_) fun hb55 => ?_
   · refine zs (zrP ?_)
     refine zt (zbt (ztt (zbt ?_)))
     refine RetOK_of ?_
     simp [hG, List.getD_cons_zero, List.getD_cons_succ, -List.getD_eq_getElem?_getD, pureOp]
     exact (rnd_hit hb21 hne hn hil (spl_2 hb42 hb55) (by decide)).symm
   have hnx : ¬ (0 < i ∧ (l.getD i ds).st ≤ (l.getD (i - 1) ds).st) := fun h => by have := hb55 h.1; omega
   refine zk (zs (zs (zL (zlP 3 ?_))))
   refine zcP cal28 (outC_c g (l.getD i ds).st) ?_
   refine zlP 5 ?_
   refine zN (zs (zL (zlP 3 ?_)))
   refine zcP cal117 (divC_c (l.getD i ds).parts (outR g (l.getD i ds).st) (hr.num _ hxm) (hr.part _ hxm)) ?_
   refine zlP 1 ?_
   refine zN (zy (fun hb67 => ?_) fun hb67 => ?_)
   · refine zs (zrP ?_)
     refine zt (zbt (ztt (zbt ?_)))
     refine RetOK_of ?_
     simp [hG, List.getD_cons_zero, List.getD_cons_succ, -List.getD_eq_getElem?_getD, pureOp]
     exact (rnd_hit hb21 hne hn hil (spl_3 hb42 hnx hb67) (by decide)).symm
   have hso := spl_ok hv hr hxm hb42 hb67
   refine zk (zs (zL (zlP 4 ?_)))
   refine zcP cal85 (weights_c g v m (l.getD i ds) hv hl hbx hm hso.1 hso.2) ?_
   refine zlP 5 ?_
   refine zN (zs (zrP ?_))
   refine zy (fun hb77 => ?_) fun hb77 => ?_
   · refine zs (zrP ?_)
     refine zt (zbt (ztt (zbt ?_)))
     refine RetOK_of ?_
     simp [hG, List.getD_cons_zero, List.getD_cons_succ, -List.getD_eq_getElem?_getD, pureOp]
     exact (rnd_hit hb21 hne hn hil (by rw [spl_4 hb42 hnx hb67, if_pos hb77]) (by decide)).symm
   refine zk (zn (zbn (zrP ?_)))
   refine zn ?_
   refine round_end (i + 1) (⟨by omega, step_all hn (by rw [spl_4 hb42 hnx hb67, if_neg (by rw [hb77]; simp)])⟩) (by omega) ?_
   exact ziP
 refine zx (ztx (zbx (zs (zrP ?_))))
 refine zt ?_
 refine RetOK_of ?_
 simp [hG, List.getD_cons_zero, List.getD_cons_succ, -List.getD_eq_getElem?_getD, pureOp]
 exact (rnd_ok hb21 hne (fun j hj => hn j (by omega))).symm
end Go.Proofs.YtchjjiedcpfniaaGreatDoor
