/- Parts of the proof: WA WB. -/
import Derived.Test.YtchjjiedcpfniaaGreatDoorU11
import Derived.Test.YtchjjiedcpfniaaGreatDoorU12
import Derived.Test.YtchjjiedcpfniaaGreatDoorU16
import Derived.Test.YtchjjiedcpfniaaGreatDoorU17
namespace Go.Proofs.YtchjjiedcpfniaaGreatDoor
set_option linter.unusedSimpArgs false
set_option linter.unusedVariables false
open Go Go.Lift Go.Proofs
theorem any_hit {α : Type} {f : α → Bool} {L : List α} {i : Nat} {d : α} (hi : i < L.length) (h : f (L.getD i d) = true) : L.any f = true := List.any_eq_true.2 ⟨_, getD_mem hi, h⟩
theorem any_miss {α : Type} {f : α → Bool} {L : List α} {d : α} (h : ∀ j, j < L.length → f (L.getD j d) = false) : L.any f = false := by
  rw [List.any_eq_false]
  intro x hx
  obtain ⟨j, hj, rfl⟩ := List.mem_iff_getElem.1 hx
  have := h j hj
  simp only [List.getD, List.getElem?_eq_getElem hj, Option.getD_some] at this
  rw [this]; simp
theorem all_any {v : List Int} : (!v.any fun n => !decide (n = 0)) = v.all fun n => decide (n = 0) := by
  rw [List.any_eq_not_all_not, Bool.not_not]
  congr 1; funext n; rw [Bool.not_not]
theorem all_yes0 {v : List Int} (h : ∀ x, x ∈ v → x = 0) : (v.all fun n => decide (n = 0)) = true := List.all_eq_true.2 fun x hx => decide_eq_true (h x hx)
theorem all_no0 {v : List Int} (h : ∃ x, x ∈ v ∧ ¬ x = 0) : (v.all fun n => decide (n = 0)) = false := by
  obtain ⟨x, h1, h2⟩ := h
  exact List.all_eq_false.2 ⟨x, h1, by simpa using h2⟩
set_option maxRecDepth 100000 in
theorem indexI_c (l : List Int) (v : Int) (hl : l.length ≤ 1000000) : PC Tryz.prog 30 [ints l, .int .i64 v] (.int .i64 (placeI l v)) := by
 refine zp Tryz.func30 fun G hG hR => ?_
 refine zs (zr ?_)
 refine zs (zs (zr ?_))
 refine zb ?_
 refine awpS_loop (α := Nat) (fun i => ⟨[(0, ints l), (1, .int .i64 v), (7, .int .i64 l.length), (8, .int .i64 i)], [], 0⟩) (fun i => i ≤ l.length ∧ ∀ j, j < i → l.getD j 0 ≠ v) (fun i => l.length - i) (0) (⟨Nat.zero_le _, fun j hj => absurd hj (Nat.not_lt_zero _)⟩) ?_ ?_
 · exact zi
 rintro i ⟨hi, hn⟩
 refine zs (zr ?_)
 refine zs (zy (fun hb9 => ?_) fun hb9 => ?_)
 · refine zk (zs (zb (zs (zr ?_))))
   refine zs (zr ?_)
   refine zy (fun hb16 => ?_) fun hb16 => ?_
   · refine zs (zr ?_)
     refine zt (zbt (ztt (zbt ?_)))
     refine RetOK_of ?_
     simp [hG, List.getD_cons_zero, List.getD_cons_succ, -List.getD_eq_getElem?_getD]
     exact (placeI_some l v i (by omega) hn hb16.symm).symm
   refine zk (zn (zbn (zr ?_)))
   refine zn ?_
   refine round_end (i + 1) (⟨by omega, step_all hn (fun h => hb16 h.symm)⟩) (by omega) ?_
   exact zi
 refine zx (ztx (zbx (zs (zr ?_))))
 refine zt ?_
 refine RetOK_of ?_
 simp [hG, List.getD_cons_zero, List.getD_cons_succ, -List.getD_eq_getElem?_getD]
 exact (placeI_none l v fun j hj => hn j (by omega)).symm
set_option maxRecDepth 100000 in
theorem containsI_c (l : List Int) (v : Int) (hl : l.length ≤ 1000000) : PC Tryz.prog 81 [ints l, .int .i64 v] (.bool (hasI l v)) := by
 refine zp Tryz.func81 fun G hG hR => ?_
 refine zs (zr ?_)
 refine zs (zL (zl 2 ?_))
 refine zc cal30 (indexI_c l v hl) ?_
 refine zl 2 ?_
 refine zN (zt ?_)
 refine RetOK_of ?_
 simp [hG, List.getD_cons_zero, List.getD_cons_succ, -List.getD_eq_getElem?_getD]
 rw [← hasI_place]
set_option maxRecDepth 100000 in
theorem badVc_c (n : Int) : PC Tryz.prog 139 [.int .i64 n] (.bool (badV n)) := by
 refine zp Tryz.func139 fun G hG hR => ?_
 refine zs (zr ?_)
 refine zs (zr ?_)
 refine zt ?_
 refine RetOK_of ?_
 simp [hG, List.getD_cons_zero, List.getD_cons_succ, -List.getD_eq_getElem?_getD]
 rw [← Bool.decide_or]; rfl
set_option maxRecDepth 100000 in
theorem nonz_c (n : Int) : PC Tryz.prog 140 [.int .i64 n] (.bool (!decide (n = 0))) := by
 refine zp Tryz.func140 fun G hG hR => ?_
 refine zs (zr ?_)
 refine zs (zr ?_)
 refine zt ?_
 exact zR
set_option maxRecDepth 100000 in
theorem vecC_c (g : Gr) (v : List Int) (m : Int) : PC Tryz.prog 113 [.agg 3 (grF g), ints v, .int .i64 m] (.int .i64 (vecN g v m)) := by
 refine zp Tryz.func113 fun G hG hR => ?_
 refine zs (zrP ?_)
 refine zs (zb (zs (zL (zlP 1 ?_))))
 refine zcP cal42 (checkC_c g) ?_
 refine zlP 2 ?_
 refine zN (zy (fun hb7 => ?_) fun hb7 => ?_)
 · refine zs (zrP ?_)
   refine zt (zbt ?_)
   refine RetOK_of ?_
   simp [hG, List.getD_cons_zero, List.getD_cons_succ, -List.getD_eq_getElem?_getD, pureOp]
   exact (vecN_1 hb7).symm
 have hv : gcheck g = 0 := (by omega)
 have hst := (gcheck_valid hv).1.st
 refine zs (zrP ?_)
 refine zy (fun hb11 => ?_) fun hb11 => ?_
 · refine zs (zrP ?_)
   refine zt (zbt ?_)
   refine RetOK_of ?_
   simp [hG, List.getD_cons_zero, List.getD_cons_succ, -List.getD_eq_getElem?_getD, pureOp]
   exact (vecN_2 hv hb11).symm
 refine zs (zrP ?_)
 refine zy (fun hb18 => ?_) fun hb18 => ?_
 · refine zs (zrP ?_)
   refine zt (zbt ?_)
   refine RetOK_of ?_
   simp [hG, List.getD_cons_zero, List.getD_cons_succ, -List.getD_eq_getElem?_getD, pureOp]
   exact (vecN_3 hv (by omega) hb18).symm
 refine zs (zL (zlP 1 ?_))
 refine zcP cal17 (containsG_c v badV 139 0 (fun _ => .any) (by omega) cal139 (fun _ => trivial) fun x _ => badVc_c x) ?_
 refine zlP 1 ?_
 refine zN (zy (fun hb24 => ?_) fun hb24 => ?_)
 · refine zs (zrP ?_)
   refine zt (zbt ?_)
   refine RetOK_of ?_
   simp [hG, List.getD_cons_zero, List.getD_cons_succ, -List.getD_eq_getElem?_getD, pureOp]
   rw [vecN_4 hv (by omega) hb18, if_pos (List.any_eq_true.2 hb24)]
 refine zk (zn (zbn (zs (zrP ?_))))
 refine zt ?_
 refine RetOK_of ?_
 simp [hG, List.getD_cons_zero, List.getD_cons_succ, -List.getD_eq_getElem?_getD, pureOp]
 rw [vecN_4 hv (by omega) hb18, if_neg (fun h => by obtain ⟨x, h1, h2⟩ := List.any_eq_true.1 h; rw [hb24 x h1] at h2; cases h2)]
set_option maxRecDepth 100000 in
theorem zeroC_c (v : List Int) (hl : v.length ≤ 1000000) : PC Tryz.prog 114 [ints v] (.bool (v.all fun n => decide (n = 0))) := by
 refine zp Tryz.func114 fun G hG hR => ?_
 refine zs (zr ?_)
 refine zs (zL (zl 1 ?_))
 refine zc cal17 (containsG_c v (fun n => !decide (n = 0)) 140 0 (fun _ => .any) (by omega) cal140 (fun _ => trivial) fun x _ => nonz_c x) ?_
 refine zl 2 ?_
 refine zN (zt ?_)
 refine RetOK_of ?_
 simp [hG, List.getD_cons_zero, List.getD_cons_succ, -List.getD_eq_getElem?_getD]
 rw [← all_any, Bool.not_not]
set_option maxRecDepth 100000 in
theorem plusC_c (a b : Int) (ha : 0 ≤ a ∧ a ≤ 100000000) (hb : 0 ≤ b ∧ b ≤ 100000000) : PC Tryz.prog 116 [.int .i64 a, .int .i64 b] (.int .i64 (a + b)) := by
 refine zp Tryz.func116 fun G hG hR => ?_
 refine zs (zr ?_)
 refine zs (zr ?_)
 refine zt ?_
 exact zR
set_option maxRecDepth 100000 in
theorem sumsC_c (g : Gr) (v : List Int) (hv : gcheck g = 0) (hl : (v.length : Int) = g.states) (hbx : BoxV v) : PC Tryz.prog 115 [.agg 3 (grF g), ints v, .fn 116 0 (fun _ => .any)] (ints (sumsL g v)) := by
 have hst := (gcheck_valid hv).1.st
 have hed := (gcheck_valid hv).1.ed
 refine zp Tryz.func115 fun G hG hR => ?_
 refine zs (zr ?_)
 refine zs (zr ?_)
 refine zs (zs (zr ?_))
 refine zb ?_
 refine awpS_loop (α := Nat) (fun i => ⟨[(1, ints v), (2, .fn 116 0 (fun _ => .any)), (3, .ptr (0, 0) 0 0), (7, .sl (1, 0) 0 g.states.toNat), (14, edgesC g.edges), (15, .int .i64 g.edges.length), (16, .int .i64 i)], [(0, .one (.arr 1 3 (fun _ => grF g))), (1, .one (.arr g.states.toNat 1 (fun s _ => .int .i64 (sumA g v i s))))], 2⟩) (fun i => i ≤ g.edges.length) (fun i => g.edges.length - i) (0) (Nat.zero_le _) ?_ ?_
 · exact zi (h := by simp [hG, List.getD_cons_zero, List.getD_cons_succ, -List.getD_eq_getElem?_getD]; exact fun i _ => rfl)
 rintro i hi
 refine zs (zr ?_)
 refine zs (zy (fun hb17 => ?_) fun hb17 => ?_)
 · have heb := edge_in hv (getD_mem (d := de) (show i < g.edges.length by omega))
   have hsb := sumA_box hbx (g := g) (s := (g.edges.getD i de).frm.toNat) i
   have hvb := box_at hbx (g.edges.getD i de).to.toNat
   refine zk (zs (zb (zs (zr ?_))))
   refine awpS_draw hR mixed [] ⟨[16], [], []⟩ fun mu0 => ?_
   refine za [0, 1, 2, 3, 4, 5, 6, 7, 8, 9, 10, 11, 12, 13] [] 3 [13, 12, 11, 10, 9, 8, 7, 6, 5, 4, 3, 2, 1, 0] ?_
   refine awpA_only (fuel := 2) (i := 14) (by decide +kernel) ?_
   refine ze cal116 (plusC_c (sumA g v i (g.edges.getD i de).frm.toNat) (v.getD (g.edges.getD i de).to.toNat 0) (by omega) (by omega)) ?_
   refine za [15] [] 1 [15, 14, 13, 12, 11, 10, 9, 8, 7, 6, 5, 4, 3, 2, 1, 0] ?_
   refine awpA_only (fuel := 0) (i := 16) (by decide +kernel) ?_
   refine zo ?_
   refine awpA_done (by decide +kernel) ?_
   refine zn (zbn (zr ?_))
   refine zn ?_
   refine round_end (i + 1) (by omega) (by omega) ?_
   exact zi (h := by simp [hG, List.getD_cons_zero, List.getD_cons_succ, -List.getD_eq_getElem?_getD]; exact fun s hs => by rw [sumA_succ]; by_cases h : s = (g.edges.getD i de).frm.toNat; (rw [if_pos h, if_pos (by omega), h]); (rw [if_neg h, if_neg (by omega), Int.add_zero]))
 obtain rfl : i = g.edges.length := (by omega)
 refine zx (ztx (zbx (zs (zr ?_))))
 refine zt ?_
 refine RetOK_of ?_
 simp [hG, List.getD_cons_zero, List.getD_cons_succ, -List.getD_eq_getElem?_getD]
 rw [sumsL_len]; exact ⟨rfl, Nat.le_refl _, fun s hs => (sumsL_at (by omega)).symm⟩
set_option maxRecDepth 100000 in
theorem eigC_c (g : Gr) (v : List Int) (m : Int) : PC Tryz.prog 80 [.agg 3 (grF g), ints v, .int .i64 m] (.int .i64 (eigN g v m)) := by
 refine zp Tryz.func80 fun G hG hR => ?_
 refine zs (zrP ?_)
 refine zs (zs (zL (zlP 3 ?_)))
 refine zcP cal113 (vecC_c g v m) ?_
 refine zlP 1 ?_
 refine zN (zs (zrP ?_))
 refine zy (fun hb15 => ?_) fun hb15 => ?_
 · refine zs (zrP ?_)
   refine zt ?_
   refine RetOK_of ?_
   simp [hG, List.getD_cons_zero, List.getD_cons_succ, -List.getD_eq_getElem?_getD, pureOp]
   exact (eigN_1 hb15).symm
 obtain ⟨hv, hm, hl, hbx⟩ := vecN_zero hb15
 have hst := (gcheck_valid hv).1.st
 refine zk (zs (zs (zL (zlP 1 ?_))))
 refine zcP cal114 (zeroC_c v (by omega)) ?_
 refine zN (zy (fun hb18 => ?_) fun hb18 => ?_)
 · refine zs (zrP ?_)
   refine zt ?_
   refine RetOK_of ?_
   simp [hG, List.getD_cons_zero, List.getD_cons_succ, -List.getD_eq_getElem?_getD, pureOp]
   exact (eigN_2 hb15 (all_yes0 hb18)).symm
 have hsl := sumsL_len (g := g) (v := v)
 refine zk (zs (zs (zL (zlP 2 ?_))))
 refine zcP cal115 (sumsC_c g v hv hl hbx) ?_
 refine zlP 2 ?_
 refine zN (zb ?_)
 refine awpS_loop (α := Nat) (fun s => ⟨[(1, ints v), (2, .int .i64 m), (3, .ptr (0, 0) 0 0), (21, ints (sumsL g v)), (22, .int .i64 (sumsL g v).length), (23, .int .i64 s)], [(0, .one (.arr 1 3 (fun _ => grF g)))], 1⟩) (fun s => s ≤ g.states.toNat ∧ ∀ j : Nat, j < s → ¬ sumV g v j < m * v.getD j 0) (fun s => g.states.toNat - s) (0) (⟨Nat.zero_le _, fun j hj => absurd hj (Nat.not_lt_zero _)⟩) ?_ ?_
 · exact ziP
 rintro s ⟨hs, hn⟩
 refine zs (zrP ?_)
 refine zs (zy (fun hb24 => ?_) fun hb24 => ?_)
 · have hsx := sumsL_at (g := g) (v := v) (s := s) (by omega)
   have hmv := mulV_box hm (box_at hbx s)
   refine zk (zs (zb (zs (zrP ?_))))
   refine zs (zrP ?_)
   refine zy (fun hb35 => ?_) fun hb35 => ?_
   · refine zs (zrP ?_)
     refine zt (zbt (ztt (zbt ?_)))
     refine RetOK_of ?_
     simp [hG, List.getD_cons_zero, List.getD_cons_succ, -List.getD_eq_getElem?_getD, pureOp]
     rw [eigN_3 hb15 (all_no0 hb18), if_pos (low_yes (s := s) (by omega) (by omega))]
   refine zk (zn (zbn (zrP ?_)))
   refine zn ?_
   refine round_end (s + 1) (⟨by omega, step_all hn (by omega)⟩) (by omega) ?_
   exact ziP
 refine zx (ztx (zbx (zs (zrP ?_))))
 refine zt ?_
 refine RetOK_of ?_
 simp [hG, List.getD_cons_zero, List.getD_cons_succ, -List.getD_eq_getElem?_getD, pureOp]
 rw [eigN_3 hb15 (all_no0 hb18), if_neg (by rw [low_no (fun j hj => hn j (by omega))]; simp)]
set_option maxRecDepth 100000 in
theorem baseC_c (g : Gr) (v : List Int) (m : Int) : PC Tryz.prog 61 [.agg 3 (grF g), ints v, .int .i64 m] (.int .i64 (baseN g v m)) := by
 refine zp Tryz.func61 fun G hG hR => ?_
 refine zs (zr ?_)
 refine zs (zs (zL (zl 3 ?_)))
 refine zc cal80 (eigC_c g v m) ?_
 refine zl 1 ?_
 refine zN (zs (zr ?_))
 refine zy (fun hb13 => ?_) fun hb13 => ?_
 · refine zs (zr ?_)
   refine zt ?_
   refine RetOK_of ?_
   simp [hG, List.getD_cons_zero, List.getD_cons_succ, -List.getD_eq_getElem?_getD]
   exact (baseN_1 hb13).symm
 obtain ⟨hv, hm, hl, hbx⟩ := vecN_zero (eigN_zero hb13).1
 have hst := (gcheck_valid hv).1.st
 refine zk (zs (zs (zL (zl 1 ?_))))
 refine zc cal81 (containsI_c v 0 (by omega)) ?_
 refine zN (zy (fun hb16 => ?_) fun hb16 => ?_)
 · refine zs (zr ?_)
   refine zt ?_
   refine RetOK_of ?_
   simp [hG, List.getD_cons_zero, List.getD_cons_succ, -List.getD_eq_getElem?_getD]
   rw [baseN_2 hb13, if_pos hb16]
 refine zk (zs (zr ?_))
 refine zt ?_
 refine RetOK_of ?_
 simp [hG, List.getD_cons_zero, List.getD_cons_succ, -List.getD_eq_getElem?_getD]
 rw [baseN_2 hb13, if_neg (by rw [hb16]; simp)]
theorem app_oneI {K : List Int} {x : Int} {w : Nat → Nat → AVal} {i : Nat} (hw : w 0 0 = .int .i64 x) (hi : i < K.length + 1) : app (fun p _ => .int .i64 (K.getD p 0)) K.length w i 0 = .int .i64 ((K ++ [x]).getD i 0) := by
  unfold app
  by_cases h : i < K.length
  · rw [if_pos h]; simp [List.getD, List.getElem?_append_left h]
  · obtain rfl : i = K.length := by omega
    rw [if_neg h, Nat.sub_self, hw]; simp [List.getD]
set_option maxRecDepth 100000 in
theorem vecRf_c (g : Gr) (v : List Int) (m : Int) : PC Tryz.prog 133 [.agg 3 (grF g), ints v, .int .i64 m] (.int .i64 (vecN g v m)) := by
 refine zp Tryz.func133 fun G hG hR => ?_
 refine zs (zrP ?_)
 refine zs (zs (zL (zlP 1 ?_)))
 refine zcP cal60 (check9_c g) ?_
 refine zlP 1 ?_
 refine zN (zy (fun hb10 => ?_) fun hb10 => ?_)
 · refine zs (zrP ?_)
   refine zt ?_
   refine RetOK_of ?_
   simp [hG, List.getD_cons_zero, List.getD_cons_succ, -List.getD_eq_getElem?_getD, pureOp]
   exact (vecN_1 hb10).symm
 have hv : gcheck g = 0 := (by omega)
 have hst := (gcheck_valid hv).1.st
 refine zk (zs (zs (zrP ?_)))
 refine zy (fun hb16 => ?_) fun hb16 => ?_
 · refine zs (zrP ?_)
   refine zt ?_
   refine RetOK_of ?_
   simp [hG, List.getD_cons_zero, List.getD_cons_succ, -List.getD_eq_getElem?_getD, pureOp]
   exact (vecN_2 hv hb16).symm
 refine zk (zs (zs (zrP ?_)))
 refine zy (fun hb21 => ?_) fun hb21 => ?_
 · refine zs (zrP ?_)
   refine zt ?_
   refine RetOK_of ?_
   simp [hG, List.getD_cons_zero, List.getD_cons_succ, -List.getD_eq_getElem?_getD, pureOp]
   exact (vecN_3 hv (by omega) hb21).symm
 refine zk (zs (zs (zrP ?_)))
 refine zb ?_
 refine awpS_loop (α := Nat) (fun i => ⟨[(1, ints v), (7, .int .i64 i)], [], 0⟩) (fun i => i ≤ v.length ∧ ∀ j, j < i → badV (v.getD j 0) = false) (fun i => v.length - i) (0) (⟨Nat.zero_le _, fun j hj => absurd hj (Nat.not_lt_zero _)⟩) ?_ ?_
 · exact ziP
 rintro i ⟨hi, hn⟩
 refine zs (zs (zrP ?_))
 refine zy (fun hb25 => ?_) fun hb25 => ?_
 · refine zk (zs (zb (zs (zrP ?_))))
   refine zy (fun hb39 => ?_) fun hb39 => ?_
   · refine zs (zrP ?_)
     refine zt (zbt (ztt (zbt ?_)))
     refine RetOK_of ?_
     simp [hG, List.getD_cons_zero, List.getD_cons_succ, -List.getD_eq_getElem?_getD, pureOp]
     rw [vecN_4 hv (by omega) hb21, if_pos (any_hit (f := badV) (d := (0 : Int)) (i := i) (by omega) (decide_eq_true (by omega)))]
   refine zk (zn (zbn (zrP ?_)))
   refine zn ?_
   refine round_end (i + 1) (⟨by omega, step_all hn (decide_eq_false (by omega))⟩) (by omega) ?_
   exact ziP
 refine zx (ztx (zbx (zs (zrP ?_))))
 refine zt ?_
 refine RetOK_of ?_
 simp [hG, List.getD_cons_zero, List.getD_cons_succ, -List.getD_eq_getElem?_getD, pureOp]
 rw [vecN_4 hv (by omega) hb21, if_neg (by rw [any_miss (f := badV) (d := (0 : Int)) (fun j hj => hn j (by omega))]; simp)]
set_option maxRecDepth 100000 in
theorem zeroRf_c (v : List Int) (hl : v.length ≤ 1000000) : PC Tryz.prog 134 [ints v] (.bool (v.all fun n => decide (n = 0))) := by
 refine zp Tryz.func134 fun G hG hR => ?_
 refine zs (zr ?_)
 refine zs (zs (zr ?_))
 refine zb ?_
 refine awpS_loop (α := Nat) (fun i => ⟨[(0, ints v), (3, .int .i64 i)], [], 0⟩) (fun i => i ≤ v.length ∧ ∀ j, j < i → v.getD j 0 = 0) (fun i => v.length - i) (0) (⟨Nat.zero_le _, fun j hj => absurd hj (Nat.not_lt_zero _)⟩) ?_ ?_
 · exact zi
 rintro i ⟨hi, hn⟩
 refine zs (zs (zr ?_))
 refine zy (fun hb7 => ?_) fun hb7 => ?_
 · refine zk (zs (zb (zs (zr ?_))))
   refine zy (fun hb14 => ?_) fun hb14 => ?_
   · refine zs (zr ?_)
     refine zt (zbt (ztt (zbt ?_)))
     refine RetOK_of ?_
     simp [hG, List.getD_cons_zero, List.getD_cons_succ, -List.getD_eq_getElem?_getD]
     exact ⟨_, getD_mem (d := 0) (show i < v.length by omega), by omega⟩
   refine zk (zn (zbn (zr ?_)))
   refine zn ?_
   refine round_end (i + 1) (⟨by omega, step_all hn (by omega)⟩) (by omega) ?_
   exact zi
 refine zx (ztx (zbx (zs (zr ?_))))
 refine zt ?_
 refine RetOK_of ?_
 simp [hG, List.getD_cons_zero, List.getD_cons_succ, -List.getD_eq_getElem?_getD]
 exact fun x hx => by obtain ⟨j, hj, rfl⟩ := List.mem_iff_getElem.1 hx; have := hn j (by omega); rwa [getD_get hj] at this
set_option maxRecDepth 100000 in
theorem sumsRf_c (g : Gr) (v : List Int) (hv : gcheck g = 0) (hl : (v.length : Int) = g.states) (hbx : BoxV v) : PC Tryz.prog 135 [.agg 3 (grF g), ints v] (ints (sumsL g v)) := by
 have hst := (gcheck_valid hv).1.st
 have hed := (gcheck_valid hv).1.ed
 refine zp Tryz.func135 fun G hG hR => ?_
 refine zs (zr ?_)
 refine zs (zr ?_)
 refine zs (zs (zr ?_))
 refine zb ?_
 refine awpS_loop (α := Nat) (fun i => ⟨[(1, ints v), (2, .ptr (0, 0) 0 0), (5, .sl (1, 0) 0 g.states.toNat), (6, .int .i64 i)], [(0, .one (.arr 1 3 (fun _ => grF g))), (1, .one (.arr g.states.toNat 1 (fun s _ => .int .i64 (sumA g v i s))))], 2⟩) (fun i => i ≤ g.edges.length) (fun i => g.edges.length - i) (0) (Nat.zero_le _) ?_ ?_
 · exact zi (h := by simp [hG, List.getD_cons_zero, List.getD_cons_succ, -List.getD_eq_getElem?_getD]; exact fun i _ => rfl)
 rintro i hi
 refine zs (zs (zr ?_))
 refine zy (fun hb14 => ?_) fun hb14 => ?_
 · have heb := edge_in hv (getD_mem (d := de) (show i < g.edges.length by omega))
   have hsb := sumA_box hbx (g := g) (s := (g.edges.getD i de).frm.toNat) i
   have hvb := box_at hbx (g.edges.getD i de).to.toNat
   refine zk (zs (zb ?_))
   refine awpS_draw hR mixed [] ⟨[27], [], []⟩ fun mu0 => ?_
   refine za [0, 1, 2, 3, 4, 5, 6, 7, 8, 9, 10, 11, 12, 13, 14, 15, 16, 17, 18, 19, 20, 21, 22, 23, 24, 25, 26] [] 1 [26, 25, 24, 23, 22, 21, 20, 19, 18, 17, 16, 15, 14, 13, 12, 11, 10, 9, 8, 7, 6, 5, 4, 3, 2, 1, 0] ?_
   refine awpA_only (fuel := 0) (i := 27) (by decide +kernel) ?_
   refine zo ?_
   refine awpA_done (by decide +kernel) ?_
   refine zn (zbn (zr ?_))
   refine zn ?_
   refine round_end (i + 1) (by omega) (by omega) ?_
   exact zi (h := by simp [hG, List.getD_cons_zero, List.getD_cons_succ, -List.getD_eq_getElem?_getD]; exact fun s hs => by rw [sumA_succ]; by_cases h : s = (g.edges.getD i de).frm.toNat; (rw [if_pos h, if_pos (by omega), h]); (rw [if_neg h, if_neg (by omega), Int.add_zero]))
 obtain rfl : i = g.edges.length := (by omega)
 refine zx (ztx (zbx (zs (zr ?_))))
 refine zt ?_
 refine RetOK_of ?_
 simp [hG, List.getD_cons_zero, List.getD_cons_succ, -List.getD_eq_getElem?_getD]
 rw [sumsL_len]; exact ⟨rfl, Nat.le_refl _, fun s hs => (sumsL_at (by omega)).symm⟩
set_option maxRecDepth 100000 in
theorem eigRf_c (g : Gr) (v : List Int) (m : Int) : PC Tryz.prog 109 [.agg 3 (grF g), ints v, .int .i64 m] (.int .i64 (eigN g v m)) := by
 refine zp Tryz.func109 fun G hG hR => ?_
 refine zs (zrP ?_)
 refine zs (zs (zL (zlP 3 ?_)))
 refine zcP cal133 (vecRf_c g v m) ?_
 refine zlP 1 ?_
 refine zN (zs (zrP ?_))
 refine zy (fun hb15 => ?_) fun hb15 => ?_
 · refine zs (zrP ?_)
   refine zt ?_
   refine RetOK_of ?_
   simp [hG, List.getD_cons_zero, List.getD_cons_succ, -List.getD_eq_getElem?_getD, pureOp]
   exact (eigN_1 hb15).symm
 obtain ⟨hv, hm, hl, hbx⟩ := vecN_zero hb15
 have hst := (gcheck_valid hv).1.st
 refine zk (zs (zs (zL (zlP 1 ?_))))
 refine zcP cal134 (zeroRf_c v (by omega)) ?_
 refine zN (zy (fun hb18 => ?_) fun hb18 => ?_)
 · refine zs (zrP ?_)
   refine zt ?_
   refine RetOK_of ?_
   simp [hG, List.getD_cons_zero, List.getD_cons_succ, -List.getD_eq_getElem?_getD, pureOp]
   exact (eigN_2 hb15 (all_yes0 hb18)).symm
 have hsl := sumsL_len (g := g) (v := v)
 refine zk (zs (zL (zlP 2 ?_)))
 refine zcP cal135 (sumsRf_c g v hv hl hbx) ?_
 refine zlP 1 ?_
 refine zN (zs (zs (zrP ?_)))
 refine zb ?_
 refine awpS_loop (α := Nat) (fun s => ⟨[(1, ints v), (2, .int .i64 m), (3, .ptr (0, 0) 0 0), (8, ints (sumsL g v)), (9, .int .i64 s)], [(0, .one (.arr 1 3 (fun _ => grF g)))], 1⟩) (fun s => s ≤ g.states.toNat ∧ ∀ j : Nat, j < s → ¬ sumV g v j < m * v.getD j 0) (fun s => g.states.toNat - s) (0) (⟨Nat.zero_le _, fun j hj => absurd hj (Nat.not_lt_zero _)⟩) ?_ ?_
 · exact ziP
 rintro s ⟨hs, hn⟩
 refine zs (zs (zrP ?_))
 refine zy (fun hb25 => ?_) fun hb25 => ?_
 · have hsx := sumsL_at (g := g) (v := v) (s := s) (by omega)
   have hmv := mulV_box hm (box_at hbx s)
   refine zk (zs (zb (zs ?_)))
   refine awpS_draw hR mixed [] ⟨[], [], []⟩ fun mu0 => ?_
   refine zaP [0, 1, 2, 3, 4, 5, 6, 7, 8, 9, 10] [] 0 [10, 9, 8, 7, 6, 5, 4, 3, 2, 1, 0] ?_
   refine awpA_done (by decide +kernel) ?_
   refine zy (fun hb38 => ?_) fun hb38 => ?_
   · refine zs (zrP ?_)
     refine zt (zbt (ztt (zbt ?_)))
     refine RetOK_of ?_
     simp [hG, List.getD_cons_zero, List.getD_cons_succ, -List.getD_eq_getElem?_getD, pureOp]
     rw [eigN_3 hb15 (all_no0 hb18), if_pos (low_yes (s := s) (by omega) (by omega))]
   refine zk (zn (zbn (zrP ?_)))
   refine zn ?_
   refine round_end (s + 1) (⟨by omega, step_all hn (by omega)⟩) (by omega) ?_
   exact ziP
 refine zx (ztx (zbx (zs (zrP ?_))))
 refine zt ?_
 refine RetOK_of ?_
 simp [hG, List.getD_cons_zero, List.getD_cons_succ, -List.getD_eq_getElem?_getD, pureOp]
 rw [eigN_3 hb15 (all_no0 hb18), if_neg (by rw [low_no (fun j hj => hn j (by omega))]; simp)]
set_option maxRecDepth 100000 in
theorem weighted_c (g : Gr) (v : List Int) (m : Int) : PC Tryz.prog 75 [.agg 3 (grF g), ints v, .int .i64 m] (.int .i64 (baseN g v m)) := by
 refine zp Tryz.func75 fun G hG hR => ?_
 refine zs (zr ?_)
 refine zs (zs (zL (zl 3 ?_)))
 refine zc cal109 (eigRf_c g v m) ?_
 refine zl 1 ?_
 refine zN (zs (zr ?_))
 refine zy (fun hb14 => ?_) fun hb14 => ?_
 · refine zs (zr ?_)
   refine zt ?_
   refine RetOK_of ?_
   simp [hG, List.getD_cons_zero, List.getD_cons_succ, -List.getD_eq_getElem?_getD]
   exact (baseN_1 hb14).symm
 obtain ⟨hv, hm, hl, hbx⟩ := vecN_zero (eigN_zero hb14).1
 have hst := (gcheck_valid hv).1.st
 refine zk (zs (zs (zr ?_)))
 refine zb ?_
 refine awpS_loop (α := Nat) (fun i => ⟨[(1, ints v), (8, .int .i64 i)], [], 0⟩) (fun i => i ≤ v.length ∧ ∀ j, j < i → v.getD j 0 ≠ 0) (fun i => v.length - i) (0) (⟨Nat.zero_le _, fun j hj => absurd hj (Nat.not_lt_zero _)⟩) ?_ ?_
 · exact zi
 rintro i ⟨hi, hn⟩
 refine zs (zs (zr ?_))
 refine zy (fun hb19 => ?_) fun hb19 => ?_
 · refine zk (zs (zb (zs (zr ?_))))
   refine zy (fun hb26 => ?_) fun hb26 => ?_
   · refine zs (zr ?_)
     refine zt (zbt (ztt (zbt ?_)))
     refine RetOK_of ?_
     simp [hG, List.getD_cons_zero, List.getD_cons_succ, -List.getD_eq_getElem?_getD]
     rw [baseN_2 hb14, if_pos (show hasI v 0 = true from decide_eq_true (by have := getD_mem (d := (0 : Int)) (show i < v.length by omega); rwa [hb26] at this))]
   refine zk (zn (zbn (zr ?_)))
   refine zn ?_
   refine round_end (i + 1) (⟨by omega, step_all hn (by omega)⟩) (by omega) ?_
   exact zi
 refine zx (ztx (zbx (zs (zr ?_))))
 refine zt ?_
 refine RetOK_of ?_
 simp [hG, List.getD_cons_zero, List.getD_cons_succ, -List.getD_eq_getElem?_getD]
 rw [baseN_2 hb14, if_neg (fun h => by have h2 := of_decide_eq_true h; obtain ⟨j, hj, he⟩ := List.mem_iff_getElem.1 h2; have := hn j (by omega); rw [getD_get hj] at this; exact this he)]
set_option maxRecDepth 100000 in
theorem outRf_c (g : Gr) (s : Int) : PC Tryz.prog 32 [.agg 3 (grF g), .int .i64 s] (.tup 2 (fun j => [ints (outR g s), .int .i64 (outN g s)].getD j .any)) := by
 refine zp Tryz.func32 fun G hG hR => ?_
 refine zs (zrP ?_)
 refine zs (zs (zL (zlP 1 ?_)))
 refine zcP cal60 (check9_c g) ?_
 refine zlP 1 ?_
 refine zN (zy (fun hb10 => ?_) fun hb10 => ?_)
 · refine zs (zrP ?_)
   refine zt ?_
   refine RetOK_of ?_
   simp [hG, List.getD_cons_zero, List.getD_cons_succ, -List.getD_eq_getElem?_getD, pureOp]
   obtain ⟨e1, e2⟩ := out_1 (s := s) hb10; exact ⟨e1, e2.symm⟩
 have hv : gcheck g = 0 := (by omega)
 have hed := (gcheck_valid hv).1.ed
 refine zk (zs (zs (zrP ?_)))
 refine zy (fun hb18 => ?_) fun hb18 => ?_
 · refine zs (zrP ?_)
   refine zt ?_
   refine RetOK_of ?_
   simp [hG, List.getD_cons_zero, List.getD_cons_succ, -List.getD_eq_getElem?_getD, pureOp]
   obtain ⟨e1, e2⟩ := out_2 hv hb18; exact ⟨e1, e2.symm⟩
 refine zk (zs (zrP ?_))
 refine zs (zs (zrP ?_))
 refine zb ?_
 refine awpS_loop (α := Nat) (fun i => ⟨[(1, .int .i64 s), (2, .ptr (0, 0) 0 0), (6, .sl (1, 0) 0 (outA g s i).length), (7, .int .i64 i)], [(0, .one (.arr 1 3 (fun _ => grF g))), (1, .one (.arr ((outA g s i)).length 1 (fun p _ => .int .i64 (((outA g s i)).getD p 0))))], 2⟩) (fun i => i ≤ g.edges.length) (fun i => g.edges.length - i) (0) (Nat.zero_le _) ?_ ?_
 · exact zw (id) (fun _ => false) (fun k => k == 1) (e := by rw [outA_zero]; simp [hG, List.getD_cons_zero, List.getD_cons_succ, -List.getD_eq_getElem?_getD]) (h := by rw [outA_zero]; simp [hG, List.getD_cons_zero, List.getD_cons_succ, -List.getD_eq_getElem?_getD])
 rintro i hi
 refine zs (zs (zrP ?_))
 refine zy (fun hb23 => ?_) fun hb23 => ?_
 · have hos := outA_succ (g := g) (s := s) (i := i)
   have hol := outA_len (g := g) (s := s) i
   refine zk (zs (zb (zs (zrP ?_))))
   refine zy (fun hb33 => ?_) fun hb33 => ?_
   · refine zrP ?_
     refine zn (zbn (zrP ?_))
     refine zn ?_
     refine round_end (i + 1) (by omega) (by omega) ?_
     exact zw (fun k => if k = 1 then 3 else k) (fun _ => false) (fun _ => false) (e := by rw [hos, if_pos hb33]; simp [hG, List.getD_cons_zero, List.getD_cons_succ, -List.getD_eq_getElem?_getD]) (h := by rw [hos, if_pos hb33]; simp [hG, List.getD_cons_zero, List.getD_cons_succ, -List.getD_eq_getElem?_getD]; exact fun i hi => app_oneI rfl hi)
   refine zk (zn (zbn (zrP ?_)))
   refine zn ?_
   refine round_end (i + 1) (by omega) (by omega) ?_
   exact zi (e := by rw [hos, if_neg hb33]; simp [hG, List.getD_cons_zero, List.getD_cons_succ, -List.getD_eq_getElem?_getD]) (h := by rw [hos, if_neg hb33]; simp [hG, List.getD_cons_zero, List.getD_cons_succ, -List.getD_eq_getElem?_getD])
 obtain rfl : i = g.edges.length := (by omega)
 have hol := outA_len (g := g) (s := s) g.edges.length
 refine zx (ztx (zbx (zs (zrP ?_))))
 refine zt ?_
 refine RetOK_of ?_
 simp [hG, List.getD_cons_zero, List.getD_cons_succ, -List.getD_eq_getElem?_getD, pureOp]
 obtain ⟨e1, e2⟩ := out_3 hv hb18; rw [e1, e2]; exact ⟨⟨rfl, Nat.le_refl _, fun _ _ => rfl⟩, rfl⟩
end Go.Proofs.YtchjjiedcpfniaaGreatDoor
