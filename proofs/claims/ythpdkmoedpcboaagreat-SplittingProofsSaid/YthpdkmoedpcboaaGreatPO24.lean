/- Parts of the proof: WJ WK NG. -/
import Derived.Test.YthpdkmoedpcboaaGreatPO13
import Derived.Test.YthpdkmoedpcboaaGreatPO15
import Derived.Test.YthpdkmoedpcboaaGreatPO21
import Derived.Test.YthpdkmoedpcboaaGreatPO23
namespace Go.Proofs.YthpdkmoedpcboaaGreat
set_option linter.unusedSimpArgs false
set_option linter.unusedVariables false
open Go Go.Lift Go.Proofs
section
variable {g : Gr} {v : List Int} {m : Int} {l : List Spl}
theorem spl_zero {i : Nat} (h : splN g v m l i = 0) : (0 ≤ (l.getD i ds).st ∧ (l.getD i ds).st < g.states) ∧ (0 < i → (l.getD (i - 1) ds).st < (l.getD i ds).st) ∧ divB (l.getD i ds).parts (outR g (l.getD i ds).st) = true ∧ wtB g v m (l.getD i ds) = true := by
  unfold splN at h
  split at h
  · cases h
  · rename_i h1
    split at h
    · cases h
    · rename_i h2
      split at h
      · cases h
      · rename_i h3
        split at h
        · cases h
        · rename_i h4
          exact ⟨by omega, fun hi => by omega, by simpa using h3, by simpa using h4⟩
theorem rnd_zero (h : rndN g v m l = 0) : baseN g v m = 0 ∧ l ≠ [] ∧ ∀ i, i < l.length → splN g v m l i = 0 := by
  unfold rndN at h
  split at h
  · rename_i h1; exact absurd h h1
  · rename_i h1
    split at h
    · cases h
    · rename_i h2
      exact ⟨Classical.byContradiction h1, h2, firstNZ_zero h⟩
theorem rnd_spl (hr : RndOK l) (h : rndN g v m l = 0) {x : Spl} (hx : x ∈ l) : SplOK g x ∧ 0 < x.parts.length := by
  have hv := (vecN_zero (eigN_zero (baseN_zero (rnd_zero h).1).1).1).1
  obtain ⟨j, hj, rfl⟩ := List.mem_iff_getElem.1 hx
  have h1 := spl_zero ((rnd_zero h).2.2 j hj)
  have e : l.getD j ds = l[j] := by simp [List.getD, hj]
  rw [e] at h1
  exact spl_ok hv hr hx h1.1 h1.2.2.1
noncomputable def aplL (g : Gr) (l : List Spl) : List Edge := edA g l g.edges.length
noncomputable def aplN (g : Gr) (v : List Int) (m : Int) (l : List Spl) : Int := if rndN g v m l ≠ 0 then rndN g v m l else if 64 < offA g l g.states.toNat ∨ 1024 < (aplL g l).length then 4 else 0
end
def smG : Gr := ⟨2, 2, [⟨0, 0, 0⟩, ⟨0, 1, 1⟩, ⟨1, 0, 0⟩]⟩
set_option maxRecDepth 100000 in
theorem small24_c  : PC Tryz.prog 32 [] (.agg 3 (grF smG)) := by
 refine zp Tryz.func32 fun G hG hR => ?_
 refine zs (zr ?_)
 refine zs (zr ?_)
 refine zt ?_
 refine RetOK_of ?_
 simp [hG, List.getD_cons_zero, List.getD_cons_succ, -List.getD_eq_getElem?_getD]
 exact ⟨rfl, rfl, rfl, Nat.le_refl _, fun i hi => by rcases (show i = 0 ∨ i = 1 ∨ i = 2 by have h3 : i < 3 := hi; omega) with rfl | rfl | rfl <;> exact ⟨rfl, rfl, rfl⟩⟩
end Go.Proofs.YthpdkmoedpcboaaGreat
namespace Go.Proofs.YthpdkmoedpcboaaGreat
set_option linter.unusedSimpArgs false
set_option linter.unusedVariables false
open Go Go.Lift Go.Proofs
theorem place_split {l : List Spl} {s : Nat} : (∃ k, k < l.length ∧ placeG l (fun x => decide (x.st = (s : Int))) = k ∧ splO l s = some (l.getD k ds)) ∨ (placeG l (fun x => decide (x.st = (s : Int))) = -1 ∧ splO l s = none) := by
  unfold placeG
  by_cases h : (l.any fun x => decide (x.st = (s : Int))) = true
  · left
    rw [if_pos h]
    have hlt : l.findIdx (fun x => decide (x.st = (s : Int))) < l.length := List.findIdx_lt_length.2 (by
      obtain ⟨x, hx, hq⟩ := List.any_eq_true.1 h
      exact ⟨x, hx, hq⟩)
    refine ⟨_, hlt, rfl, splO_hit hlt ?_ fun j hj => ?_⟩
    · rw [getD_get hlt]
      simpa using List.findIdx_getElem (xs := l) (p := fun x => decide (x.st = (s : Int))) (w := hlt)
    · rw [getD_get (by omega)]
      have := List.not_of_lt_findIdx hj
      simpa using this
  · right
    rw [if_neg h]
    refine ⟨rfl, splO_none fun j hj e => h (List.any_eq_true.2 ⟨_, getD_mem (d := ds) hj, by simpa using e⟩)⟩
def chAt (g : Gr) (l : List Spl) (s j : Nat) : List Int := if j < s then chL g l j else []
def chAtP (g : Gr) (l : List Spl) (s i j : Nat) : List Int := if j < s then chL g l j else if j = s then chP g l s i else []
section
variable {g : Gr} {l : List Spl} {s i j : Nat}
theorem chAt_zero : chAt g l 0 j = [] := if_neg (Nat.not_lt_zero _)
theorem chAtP_zero : chAtP g l s 0 j = chAt g l s j := by
  unfold chAtP chAt
  rw [chP_zero]
  split <;> first | rfl | (split <;> rfl)
theorem chAtP_succ : chAtP g l s (i + 1) j = if j = s then chAtP g l s i s ++ [((offA g l s + i : Nat) : Int)] else chAtP g l s i j := by
  unfold chAtP
  by_cases h : j = s
  · subst h
    rw [if_neg (Nat.lt_irrefl _), if_pos rfl, if_pos rfl, if_neg (Nat.lt_irrefl _), if_pos rfl, chP_succ]
  · simp only [if_neg h]
theorem chAtP_all : chAtP g l s (prS g l s).length j = chAt g l (s + 1) j := by
  unfold chAtP chAt
  by_cases h : j < s
  · rw [if_pos h, if_pos (by omega)]
  · rw [if_neg h]
    by_cases h2 : j = s
    · subst h2; rw [if_pos rfl, if_pos (by omega), chP_all]
    · rw [if_neg h2, if_neg (by omega)]
theorem chAt_all (h : j < s) : chAt g l s j = chL g l j := if_pos h
end
theorem parA_zero {g : Gr} {l : List Spl} : parA g l 0 = [] := rfl
theorem hvA_zero {g : Gr} {v : List Int} {m : Int} {l : List Spl} : hvA g v m l 0 = [] := rfl
theorem asgA_zero {g : Gr} {l : List Spl} : asgA g l 0 = [] := rfl
theorem asgS_zero {g : Gr} {l : List Spl} {s : Nat} : asgS g l s 0 = [] := rfl
theorem prS_box {g : Gr} {v : List Int} {m : Int} {l : List Spl} (hr : RndOK l) (h : rndN g v m l = 0) {s : Nat} (hs : (s : Int) < g.states) : ∀ p ∈ prS g l s, ∀ e ∈ p, 0 ≤ e ∧ e < (g.edges.length : Int) := by
  intro p hp e he
  unfold prS at hp
  cases hsp : splO l s with
  | some x =>
    rw [hsp] at hp
    exact (rnd_spl hr h (splO_some hsp).1).1.box p hp e he
  | none =>
    rw [hsp] at hp
    have := List.mem_singleton.1 hp
    subst this
    have hv := (vecN_zero (eigN_zero (baseN_zero (rnd_zero h).1).1).1).1
    rw [(out_3 hv (by omega)).1] at he
    obtain ⟨j, hj, rfl, _⟩ := outA_mem.1 he
    omega
theorem prS_len {g : Gr} {l : List Spl} (hr : RndOK l) (hv : gcheck g = 0) {s : Nat} (hs : (s : Int) < g.states) : (prS g l s).length ≤ 900 ∧ ∀ p ∈ prS g l s, p.length ≤ 1024 := by
  unfold prS
  cases hsp : splO l s with
  | some x => exact ⟨hr.num x (splO_some hsp).1, hr.part x (splO_some hsp).1⟩
  | none =>
    refine ⟨by simp, fun p hp => ?_⟩
    have := List.mem_singleton.1 hp
    subst this
    rw [(out_3 hv (by omega)).1]
    have h1 := outA_len (g := g) (s := (s : Int)) g.edges.length
    have h2 := (gcheck_valid hv).1.ed
    unfold outL
    omega
end Go.Proofs.YthpdkmoedpcboaaGreat
namespace Go.Proofs.YthpdkmoedpcboaaGreat
set_option linter.unusedSimpArgs false
set_option linter.unusedVariables false
open Go Go.Lift Go.Proofs
theorem sorted_sub {a b : List Int} (h : a.Sublist b) (hb : b.Pairwise (· < ·)) : sortedB a = true := sorted_if fun i hi => by
  have h1 := List.pairwise_iff_getElem.1 (hb.sublist h) i (i + 1) (by omega) hi (by omega)
  simp only [List.getD, List.getElem?_eq_getElem hi, List.getElem?_eq_getElem (show i < a.length by omega), Option.getD_some]
  omega
theorem sub_mid {α : Type} {o : List α} {i n : Nat} : ((o.drop i).take n).Sublist o := (List.take_sublist _ _).trans (List.drop_sublist _ _)
theorem sub_rest {α : Type} {o : List α} {i j : Nat} (h : i ≤ j) : (o.take i ++ o.drop j).Sublist o := by
  have h1 : (o.drop j).Sublist (o.drop i) := by
    have e : o.drop j = (o.drop i).drop (j - i) := by rw [List.drop_drop]; congr 1; omega
    rw [e]; exact List.drop_sublist _ _
  have h2 := (List.Sublist.refl (o.take i)).append h1
  rwa [List.take_append_drop] at h2
theorem prts_perm {o : List Int} {i j : Nat} (h : i ≤ j) : (prts o i j).flatten.Perm o := by
  unfold prts
  simp only [List.flatten_cons, List.flatten_nil, List.append_nil]
  have h1 : (o.drop i).take (j - i) ++ o.drop j = o.drop i := by
    have e : o.drop j = (o.drop i).drop (j - i) := by rw [List.drop_drop]; congr 1; omega
    rw [e, List.take_append_drop]
  have h2 : ((o.drop i).take (j - i) ++ (o.take i ++ o.drop j)).Perm (o.take i ++ ((o.drop i).take (j - i) ++ o.drop j)) := by
    rw [← List.append_assoc, ← List.append_assoc]
    exact List.perm_append_comm.append_right _
  rw [h1, List.take_append_drop] at h2
  exact h2
section
variable {g : Gr} {v : List Int} {m : Int} {s : Nat}
theorem base_low (h : baseN g v m = 0) (hs : s < g.states.toNat) : m * v.getD s 0 ≤ psV g v (outR g s) := by
  have h1 := eigN_zero (baseN_zero h).1
  have hv := (vecN_zero h1.1).1
  rw [(out_3 hv (by omega)).1, psV_out]
  have h2 := List.any_eq_false.1 h1.2.2 s (List.mem_range.2 hs)
  have h2 : ¬ sumV g v s < m * v.getD s 0 := fun h3 => h2 (decide_eq_true h3)
  omega
theorem chS_some {x : Spl} (h : chS g v m s = some x) : ∃ i j, i < j ∧ j ≤ (outR g s).length ∧ okC g v m (v.getD s 0) (outR g s) i j = true ∧ x = ⟨s, prts (outR g s) i j⟩ := by
  unfold chS at h
  cases h1 : chJ g v m (v.getD s 0) (outR g s) (outR g s).length with
  | none => rw [h1] at h; cases h
  | some p =>
    rw [h1] at h
    obtain rfl := Option.some.inj h
    obtain ⟨h2, h3, h4⟩ := chJ_ok h1
    exact ⟨p.1, p.2, h2, h3, h4, rfl⟩
theorem chS_fine {x : Spl} (hb : baseN g v m = 0) (hs : s < g.states.toNat) (h : chS g v m s = some x) : x.st = (s : Int) ∧ x.parts.length = 2 ∧ divB x.parts (outR g s) = true ∧ wtB g v m x = true := by
  obtain ⟨i, j, hij, hj, hok, rfl⟩ := chS_some h
  obtain ⟨hv, hm, hl, hbx⟩ := vecN_zero (eigN_zero (baseN_zero hb).1).1
  have hlow := base_low hb hs
  have hoa : (outR g s).Pairwise (· < ·) := by rw [(out_3 hv (by omega)).1]; exact outA_asc _
  simp only [okC, decide_eq_true_eq] at hok
  obtain ⟨h1, h2, h3⟩ := hok
  have hseg := segS_seg (g := g) (v := v) (o := outR g s) (show i ≤ j by omega) hj
  have hrest := segS_rest (g := g) (v := v) (o := outR g s) (show i ≤ j by omega) hj
  generalize hS : segS g v (outR g s) i j = S at *
  have hdiv : S = m * (S / m) := by have := Int.mul_ediv_add_emod S m; omega
  have hlt : m * (S / m) + m ≤ m * v.getD s 0 := by
    have := Int.mul_le_mul_of_nonneg_left (show S / m + 1 ≤ v.getD s 0 by omega) (show 0 ≤ m by omega)
    rw [Int.mul_add, Int.mul_one] at this
    exact this
  have hne1 : (((outR g s).drop i).take (j - i)) ≠ [] := by
    intro e
    have := congrArg List.length e
    rw [List.length_take, List.length_drop] at this
    simp at this
    omega
  have hne2 : ((outR g s).take i ++ (outR g s).drop j) ≠ [] := by
    intro e
    rw [e] at hrest
    have : psV g v ([] : List Int) = 0 := rfl
    omega
  refine ⟨rfl, rfl, ?_, ?_⟩
  · show divB (prts (outR g s) i j) (outR g s) = true
    unfold divB
    have hsrt : srtI (prts (outR g s) i j).flatten = outR g s := srt_of hoa (prts_perm (by omega))
    rw [hsrt]
    simp only [prts, List.all_cons, List.all_nil, sorted_sub sub_mid hoa, sorted_sub (sub_rest (show i ≤ j by omega)) hoa, decide_eq_false hne1, decide_eq_false hne2]
    simp
  · have hw0 : wtI g v m ⟨s, prts (outR g s) i j⟩ 0 = S / m := by
      unfold wtI
      rw [if_neg (by simp [prts])]
      show psV g v (((outR g s).drop i).take (j - i)) / m = _
      rw [hseg]
    have hl1 : lfA g v m ⟨s, prts (outR g s) i j⟩ 1 = v.getD s 0 - S / m := by
      rw [lfA_succ, hw0]
      show v.getD ((s : Int)).toNat 0 - _ = _
      rw [Int.toNat_natCast]
    have hw1 : wtI g v m ⟨s, prts (outR g s) i j⟩ 1 = v.getD s 0 - S / m := by
      unfold wtI
      rw [if_pos (by simp [prts]), hl1]
    refine wtB_yes (fun k hk => ?_) ?_
    · have hk2 : k < 2 := hk
      rcases (show k = 0 ∨ k = 1 by omega) with rfl | rfl
      · rw [hw0]; exact h2
      · rw [hw1]; omega
    · show m * wtI g v m ⟨s, prts (outR g s) i j⟩ 1 ≤ psV g v ((outR g s).take i ++ (outR g s).drop j)
      rw [hw1, hrest, Int.mul_sub]
      omega
theorem cRd_mem {x : Spl} : ∀ {n : Nat}, x ∈ cRd g v m n → ∃ s, s < n ∧ 2 ≤ v.getD s 0 ∧ chS g v m s = some x
  | 0, h => by cases h
  | n + 1, h => by
    unfold cRd at h
    rcases List.mem_append.1 h with h | h
    · obtain ⟨s, h1, h2⟩ := cRd_mem h; exact ⟨s, by omega, h2⟩
    · split at h
      · cases h
      · refine ⟨n, by omega, by omega, ?_⟩
        cases h2 : chS g v m n with
        | none => rw [h2] at h; cases h
        | some y => rw [h2] at h; rw [List.mem_singleton.1 h]
theorem cRd_asc (hb : baseN g v m = 0) : ∀ {n : Nat}, n ≤ g.states.toNat → (cRd g v m n).Pairwise fun x y => x.st < y.st
  | 0, _ => List.Pairwise.nil
  | n + 1, hn => by
    unfold cRd
    rw [List.pairwise_append]
    refine ⟨cRd_asc hb (by omega), ?_, fun a ha b hb2 => ?_⟩
    · split
      · exact List.Pairwise.nil
      · cases chS g v m n <;> simp
    · obtain ⟨s, h1, h2, h3⟩ := cRd_mem ha
      have h4 := (chS_fine hb (by omega) h3).1
      split at hb2
      · cases hb2
      · cases h5 : chS g v m n with
        | none => rw [h5] at hb2; cases hb2
        | some y =>
          rw [h5] at hb2
          have := List.mem_singleton.1 hb2
          subst this
          have h6 := (chS_fine hb (by omega) h5).1
          omega
theorem cRd_round (hb : baseN g v m = 0) (hne : cRd g v m g.states.toNat ≠ []) : rndN g v m (cRd g v m g.states.toNat) = 0 := by
  refine rnd_ok hb hne fun i hi => ?_
  have hx := getD_mem (d := ds) hi
  obtain ⟨s, h1, h2, h3⟩ := cRd_mem hx
  obtain ⟨h4, h5, h6, h7⟩ := chS_fine hb h1 h3
  have hord : ¬ (0 < i ∧ ((cRd g v m g.states.toNat).getD i ds).st ≤ ((cRd g v m g.states.toNat).getD (i - 1) ds).st) := by
    rintro ⟨h8, h9⟩
    have := List.pairwise_iff_getElem.1 (cRd_asc hb (Nat.le_refl _)) (i - 1) i (by omega) hi (by omega)
    rw [getD_get hi, getD_get (show i - 1 < (cRd g v m g.states.toNat).length by omega)] at h9
    omega
  rw [spl_4 (by omega) hord (by rw [h4]; exact h6), h7, if_neg (by simp)]
theorem cRd_ok (hv : gcheck g = 0) {n : Nat} (hn : n ≤ g.states.toNat) : RndOK (cRd g v m n) := by
  have hst := (gcheck_valid hv).1.st
  have hed := (gcheck_valid hv).1.ed
  refine ⟨by have := cRd_len (g := g) (v := v) (m := m) (s := n); omega, fun x hx => ?_, fun x hx p hp => ?_⟩
  · obtain ⟨s, h1, h2, h3⟩ := cRd_mem hx
    obtain ⟨i, j, _, _, _, rfl⟩ := chS_some h3
    show 2 ≤ 900
    omega
  · obtain ⟨s, h1, h2, h3⟩ := cRd_mem hx
    obtain ⟨i, j, hij, hj, _, rfl⟩ := chS_some h3
    have hlen : (outR g s).length ≤ 1024 := by
      rw [(out_3 hv (by omega)).1]
      have := outA_len (g := g) (s := (s : Int)) g.edges.length
      unfold outL
      omega
    have hp2 : p ∈ prts (outR g s) i j := hp
    unfold prts at hp2
    simp only [List.mem_cons, List.not_mem_nil, or_false] at hp2
    rcases hp2 with rfl | rfl
    · have := (sub_mid (o := outR g s) (i := i) (n := j - i)).length_le; omega
    · have := (sub_rest (o := outR g s) (show i ≤ j by omega)).length_le; omega
end
end Go.Proofs.YthpdkmoedpcboaaGreat
