/- Parts of the proof: WB. -/
import Derived.Test.YthpdkmoedpcboaaGreatPB10
import Derived.Test.YthpdkmoedpcboaaGreatPB15
import Derived.Test.YthpdkmoedpcboaaGreatPB17
namespace Go.Proofs.YthpdkmoedpcboaaGreat
set_option linter.unusedSimpArgs false
set_option linter.unusedVariables false
open Go Go.Lift Go.Proofs
theorem app_oneI {K : List Int} {x : Int} {w : Nat → Nat → AVal} {i : Nat} (hw : w 0 0 = .int .i64 x) (hi : i < K.length + 1) : app (fun p _ => .int .i64 (K.getD p 0)) K.length w i 0 = .int .i64 ((K ++ [x]).getD i 0) := by
  unfold app
  by_cases h : i < K.length
  · rw [if_pos h]; simp [List.getD, List.getElem?_append_left h]
  · obtain rfl : i = K.length := by omega
    rw [if_neg h, Nat.sub_self, hw]; simp [List.getD]
set_option maxRecDepth 100000 in
theorem vecRf_c (g : Gr) (v : List Int) (m : Int) : PC Tryz.prog 99 [.agg 3 (grF g), ints v, .int .i64 m] (.int .i64 (vecN g v m)) := by
 refine zp Tryz.func99 fun G hG hR => ?_
 refine zs (zrP ?_)
 refine zs (zs (zL (zlP 1 ?_)))
 refine zcP cal29 (check9_c g) ?_
 refine zlP 1 ?_
 refine zN (zy (fun hb10 => ?_) fun hb10 => ?_)
 · refine zs (zrP ?_)
   refine zt ?_
   refine RetOK_of ?_
   simp [hG, List.getD_cons_zero, List.getD_cons_succ, -List.getD_eq_getElem?_getD, pureOp]
   exact (vecN_1 hb10).symm
 have hv : gcheck g = 0 := (by omega)
 have hst := (gcheck_valid hv).1.st
 refine zk (zs (zs (zrP ?_)))
 refine zy (fun hb16 => ?_) fun hb16 => ?_
 · refine zs (zrP ?_)
   refine zt ?_
   refine RetOK_of ?_
   simp [hG, List.getD_cons_zero, List.getD_cons_succ, -List.getD_eq_getElem?_getD, pureOp]
   exact (vecN_2 hv hb16).symm
 refine zk (zs (zs (zrP ?_)))
 refine zy (fun hb21 => ?_) fun hb21 => ?_
 · refine zs (zrP ?_)
   refine zt ?_
   refine RetOK_of ?_
   simp [hG, List.getD_cons_zero, List.getD_cons_succ, -List.getD_eq_getElem?_getD, pureOp]
   exact (vecN_3 hv (by omega) hb21).symm
 refine zk (zs (zs (zrP ?_)))
 refine zb ?_
 refine awpS_loop (α := Nat) (fun i => ⟨[(1, ints v), (7, .int .i64 i)], [], 0⟩) (fun i => i ≤ v.length ∧ ∀ j, j < i → badV (v.getD j 0) = false) (fun i => v.length - i) (0) (⟨Nat.zero_le _, fun j hj => absurd hj (Nat.not_lt_zero _)⟩) ?_ ?_
 · exact ziP
 rintro i ⟨hi, hn⟩
 refine zs (zs (zrP ?_))
 refine zy (fun hb25 => ?_) fun hb25 => ?_
 · refine zk (zs (zb (zs (zrP ?_))))
   refine zy (fun hb39 => ?_) fun hb39 => ?_
   · refine zs (zrP ?_)
     refine zt (zbt (ztt (zbt ?_)))
     refine RetOK_of ?_
     simp [hG, List.getD_cons_zero, List.getD_cons_succ, -List.getD_eq_getElem?_getD, pureOp]
     rw [vecN_4 hv (by omega) hb21, if_pos (any_hit (f := badV) (d := (0 : Int)) (i := i) (by omega) (decide_eq_true (by omega)))]
   refine zk (zn (zbn (zrP ?_)))
   refine zn ?_
   refine round_end (i + 1) (⟨by omega, step_all hn (decide_eq_false (by omega))⟩) (by omega) ?_
   exact ziP
 refine zx (ztx (zbx (zs (zrP ?_))))
 refine zt ?_
 refine RetOK_of ?_
 simp [hG, List.getD_cons_zero, List.getD_cons_succ, -List.getD_eq_getElem?_getD, pureOp]
 rw [vecN_4 hv (by omega) hb21, if_neg (by rw [any_miss (f := badV) (d := (0 : Int)) (fun j hj => hn j (by omega))]; simp)]
set_option maxRecDepth 100000 in
theorem zeroRf_c (v : List Int) (hl : v.length ≤ 1000000) : PC Tryz.prog 100 [ints v] (.bool (v.all fun n => decide (n = 0))) := by
 refine zp Tryz.func100 fun G hG hR => ?_
 refine zs (zr ?_)
 refine zs (zs (zr ?_))
 refine zb ?_
 refine awpS_loop (α := Nat) (fun i => ⟨[(0, ints v), (3, .int .i64 i)], [], 0⟩) (fun i => i ≤ v.length ∧ ∀ j, j < i → v.getD j 0 = 0) (fun i => v.length - i) (0) (⟨Nat.zero_le _, fun j hj => absurd hj (Nat.not_lt_zero _)⟩) ?_ ?_
 · exact zi
 rintro i ⟨hi, hn⟩
 refine zs (zs (zr ?_))
 refine zy (fun hb7 => ?_) fun hb7 => ?_
 · refine zk (zs (zb (zs (zr ?_))))
   refine zy (fun hb14 => ?_) fun hb14 => ?_
   · refine zs (zr ?_)
     refine zt (zbt (ztt (zbt ?_)))
     refine RetOK_of ?_
     simp [hG, List.getD_cons_zero, List.getD_cons_succ, -List.getD_eq_getElem?_getD]
     exact ⟨_, getD_mem (d := 0) (show i < v.length by omega), by omega⟩
   refine zk (zn (zbn (zr ?_)))
   refine zn ?_
   refine round_end (i + 1) (⟨by omega, step_all hn (by omega)⟩) (by omega) ?_
   exact zi
 refine zx (ztx (zbx (zs (zr ?_))))
 refine zt ?_
 refine RetOK_of ?_
 simp [hG, List.getD_cons_zero, List.getD_cons_succ, -List.getD_eq_getElem?_getD]
 exact fun x hx => by obtain ⟨j, hj, rfl⟩ := List.mem_iff_getElem.1 hx; have := hn j (by omega); rwa [getD_get hj] at this
set_option maxRecDepth 100000 in
theorem sumsRf_c (g : Gr) (v : List Int) (hv : gcheck g = 0) (hl : (v.length : Int) = g.states) (hbx : BoxV v) : PC Tryz.prog 101 [.agg 3 (grF g), ints v] (ints (sumsL g v)) := by
 have hst := (gcheck_valid hv).1.st
 have hed := (gcheck_valid hv).1.ed
 refine zp Tryz.func101 fun G hG hR => ?_
 refine zs (zr ?_)
 refine zs (zr ?_)
 refine zs (zs (zr ?_))
 refine zb ?_
 refine awpS_loop (α := Nat) (fun i => ⟨[(1, ints v), (2, .ptr (0, 0) 0 0), (5, .sl (1, 0) 0 g.states.toNat), (6, .int .i64 i)], [(0, .one (.arr 1 3 (fun _ => grF g))), (1, .one (.arr g.states.toNat 1 (fun s _ => .int .i64 (sumA g v i s))))], 2⟩) (fun i => i ≤ g.edges.length) (fun i => g.edges.length - i) (0) (Nat.zero_le _) ?_ ?_
 · exact zi (h := by simp [hG, List.getD_cons_zero, List.getD_cons_succ, -List.getD_eq_getElem?_getD]; exact fun i _ => rfl)
 rintro i hi
 refine zs (zs (zr ?_))
 refine zy (fun hb14 => ?_) fun hb14 => ?_
 · have heb := edge_in hv (getD_mem (d := de) (show i < g.edges.length by omega))
   have hsb := sumA_box hbx (g := g) (s := (g.edges.getD i de).frm.toNat) i
   have hvb := box_at hbx (g.edges.getD i de).to.toNat
   refine zk (zs (zb ?_))
   refine awpS_draw hR mixed [] ⟨[27], [], []⟩ fun mu0 => ?_
   refine za [0, 1, 2, 3, 4, 5, 6, 7, 8, 9, 10, 11, 12, 13, 14, 15, 16, 17, 18, 19, 20, 21, 22, 23, 24, 25, 26] [] 1 [26, 25, 24, 23, 22, 21, 20, 19, 18, 17, 16, 15, 14, 13, 12, 11, 10, 9, 8, 7, 6, 5, 4, 3, 2, 1, 0] ?_
   refine awpA_only (fuel := 0) (i := 27) (by decide +kernel) ?_
   refine zo ?_
   refine awpA_done (by decide +kernel) ?_
   refine zn (zbn (zr ?_))
   refine zn ?_
   refine round_end (i + 1) (by omega) (by omega) ?_
   exact zi (h := by simp [hG, List.getD_cons_zero, List.getD_cons_succ, -List.getD_eq_getElem?_getD]; exact fun s hs => by rw [sumA_succ]; by_cases h : s = (g.edges.getD i de).frm.toNat; (rw [if_pos h, if_pos (by omega), h]); (rw [if_neg h, if_neg (by omega), Int.add_zero]))
 obtain rfl : i = g.edges.length := (by omega)
 refine zx (ztx (zbx (zs (zr ?_))))
 refine zt ?_
 refine RetOK_of ?_
 simp [hG, List.getD_cons_zero, List.getD_cons_succ, -List.getD_eq_getElem?_getD]
 rw [sumsL_len]; exact ⟨rfl, Nat.le_refl _, fun s hs => (sumsL_at (by omega)).symm⟩
set_option maxRecDepth 100000 in
theorem eigRf_c (g : Gr) (v : List Int) (m : Int) : PC Tryz.prog 59 [.agg 3 (grF g), ints v, .int .i64 m] (.int .i64 (eigN g v m)) := by
 refine zp Tryz.func59 fun G hG hR => ?_
 refine zs (zrP ?_)
 refine zs (zs (zL (zlP 3 ?_)))
 refine zcP cal99 (vecRf_c g v m) ?_
 refine zlP 1 ?_
 refine zN (zs (zrP ?_))
 refine zy (fun hb15 => ?_) fun hb15 => ?_
 · refine zs (zrP ?_)
   refine zt ?_
   refine RetOK_of ?_
   simp [hG, List.getD_cons_zero, List.getD_cons_succ, -List.getD_eq_getElem?_getD, pureOp]
   exact (eigN_1 hb15).symm
 obtain ⟨hv, hm, hl, hbx⟩ := vecN_zero hb15
 have hst := (gcheck_valid hv).1.st
 refine zk (zs (zs (zL (zlP 1 ?_))))
 refine zcP cal100 (zeroRf_c v (by omega)) ?_
 refine zN (zy (fun hb18 => ?_) fun hb18 => ?_)
 · refine zs (zrP ?_)
   refine zt ?_
   refine RetOK_of ?_
   simp [hG, List.getD_cons_zero, List.getD_cons_succ, -List.getD_eq_getElem?_getD, pureOp]
   exact (eigN_2 hb15 (all_yes0 hb18)).symm
 have hsl := sumsL_len (g := g) (v := v)
 refine zk (zs (zL (zlP 2 ?_)))
 refine zcP cal101 (sumsRf_c g v hv hl hbx) ?_
 refine zlP 1 ?_
 refine zN (zs (zs (zrP ?_)))
 refine zb ?_
 refine awpS_loop (α := Nat) (fun s => ⟨[(1, ints v), (2, .int .i64 m), (3, .ptr (0, 0) 0 0), (8, ints (sumsL g v)), (9, .int .i64 s)], [(0, .one (.arr 1 3 (fun _ => grF g)))], 1⟩) (fun s => s ≤ g.states.toNat ∧ ∀ j : Nat, j < s → ¬ sumV g v j < m * v.getD j 0) (fun s => g.states.toNat - s) (0) (⟨Nat.zero_le _, fun j hj => absurd hj (Nat.not_lt_zero _)⟩) ?_ ?_
 · exact ziP
 rintro s ⟨hs, hn⟩
 refine zs (zs (zrP ?_))
 refine zy (fun hb25 => ?_) fun hb25 => ?_
 · have hsx := sumsL_at (g := g) (v := v) (s := s) (by omega)
   have hmv := mulV_box hm (box_at hbx s)
   refine zk (zs (zb (zs ?_)))
   refine awpS_draw hR mixed [] ⟨[], [], []⟩ fun mu0 => ?_
   refine zaP [0, 1, 2, 3, 4, 5, 6, 7, 8, 9, 10] [] 0 [10, 9, 8, 7, 6, 5, 4, 3, 2, 1, 0] ?_
   refine awpA_done (by decide +kernel) ?_
   refine zy (fun hb38 => ?_) fun hb38 => ?_
   · refine zs (zrP ?_)
     refine zt (zbt (ztt (zbt ?_)))
     refine RetOK_of ?_
     simp [hG, List.getD_cons_zero, List.getD_cons_succ, -List.getD_eq_getElem?_getD, pureOp]
     rw [eigN_3 hb15 (all_no0 hb18), if_pos (low_yes (s := s) (by omega) (by omega))]
   refine zk (zn (zbn (zrP ?_)))
   refine zn ?_
   refine round_end (s + 1) (⟨by omega, step_all hn (by omega)⟩) (by omega) ?_
   exact ziP
 refine zx (ztx (zbx (zs (zrP ?_))))
 refine zt ?_
 refine RetOK_of ?_
 simp [hG, List.getD_cons_zero, List.getD_cons_succ, -List.getD_eq_getElem?_getD, pureOp]
 rw [eigN_3 hb15 (all_no0 hb18), if_neg (by rw [low_no (fun j hj => hn j (by omega))]; simp)]
set_option maxRecDepth 100000 in
theorem weighted_c (g : Gr) (v : List Int) (m : Int) : PC Tryz.prog 51 [.agg 3 (grF g), ints v, .int .i64 m] (.int .i64 (baseN g v m)) := by
 refine zp Tryz.func51 fun G hG hR => ?_
 refine zs (zr ?_)
 refine zs (zs (zL (zl 3 ?_)))
 refine zc cal59 (eigRf_c g v m) ?_
 refine zl 1 ?_
 refine zN (zs (zr ?_))
 refine zy (fun hb14 => ?_) fun hb14 => ?_
 · refine zs (zr ?_)
   refine zt ?_
   refine RetOK_of ?_
   simp [hG, List.getD_cons_zero, List.getD_cons_succ, -List.getD_eq_getElem?_getD]
   exact (baseN_1 hb14).symm
 obtain ⟨hv, hm, hl, hbx⟩ := vecN_zero (eigN_zero hb14).1
 have hst := (gcheck_valid hv).1.st
 refine zk (zs (zs (zr ?_)))
 refine zb ?_
 refine awpS_loop (α := Nat) (fun i => ⟨[(1, ints v), (8, .int .i64 i)], [], 0⟩) (fun i => i ≤ v.length ∧ ∀ j, j < i → v.getD j 0 ≠ 0) (fun i => v.length - i) (0) (⟨Nat.zero_le _, fun j hj => absurd hj (Nat.not_lt_zero _)⟩) ?_ ?_
 · exact zi
 rintro i ⟨hi, hn⟩
 refine zs (zs (zr ?_))
 refine zy (fun hb19 => ?_) fun hb19 => ?_
 · refine zk (zs (zb (zs (zr ?_))))
   refine zy (fun hb26 => ?_) fun hb26 => ?_
   · refine zs (zr ?_)
     refine zt (zbt (ztt (zbt ?_)))
     refine RetOK_of ?_
     simp [hG, List.getD_cons_zero, List.getD_cons_succ, -List.getD_eq_getElem?_getD]
     rw [baseN_2 hb14, if_pos (show hasI v 0 = true from decide_eq_true (by have := getD_mem (d := (0 : Int)) (show i < v.length by omega); rwa [hb26] at this))]
   refine zk (zn (zbn (zr ?_)))
   refine zn ?_
   refine round_end (i + 1) (⟨by omega, step_all hn (by omega)⟩) (by omega) ?_
   exact zi
 refine zx (ztx (zbx (zs (zr ?_))))
 refine zt ?_
 refine RetOK_of ?_
 simp [hG, List.getD_cons_zero, List.getD_cons_succ, -List.getD_eq_getElem?_getD]
 rw [baseN_2 hb14, if_neg (fun h => by have h2 := of_decide_eq_true h; obtain ⟨j, hj, he⟩ := List.mem_iff_getElem.1 h2; have := hn j (by omega); rw [getD_get hj] at this; exact this he)]
set_option maxRecDepth 100000 in
theorem outRf_c (g : Gr) (s : Int) : PC Tryz.prog 85 [.agg 3 (grF g), .int .i64 s] (.tup 2 (fun j => [ints (outR g s), .int .i64 (outN g s)].getD j .any)) := by
 refine zp Tryz.func85 fun G hG hR => ?_
 refine zs (zrP ?_)
 refine zs (zs (zL (zlP 1 ?_)))
 refine zcP cal29 (check9_c g) ?_
 refine zlP 1 ?_
 refine zN (zy (fun hb10 => ?_) fun hb10 => ?_)
 · refine zs (zrP ?_)
   refine zt ?_
   refine RetOK_of ?_
   simp [hG, List.getD_cons_zero, List.getD_cons_succ, -List.getD_eq_getElem?_getD, pureOp]
   obtain ⟨e1, e2⟩ := out_1 (s := s) hb10; exact ⟨e1, e2.symm⟩
 have hv : gcheck g = 0 := (by omega)
 have hed := (gcheck_valid hv).1.ed
 refine zk (zs (zs (zrP ?_)))
 refine zy (fun hb18 => ?_) fun hb18 => ?_
 · refine zs (zrP ?_)
   refine zt ?_
   refine RetOK_of ?_
   simp [hG, List.getD_cons_zero, List.getD_cons_succ, -List.getD_eq_getElem?_getD, pureOp]
   obtain ⟨e1, e2⟩ := out_2 hv hb18; exact ⟨e1, e2.symm⟩
 refine zk (zs (zrP ?_))
 refine zs (zs (zrP ?_))
 refine zb ?_
 refine awpS_loop (α := Nat) (fun i => ⟨[(1, .int .i64 s), (2, .ptr (0, 0) 0 0), (6, .sl (1, 0) 0 (outA g s i).length), (7, .int .i64 i)], [(0, .one (.arr 1 3 (fun _ => grF g))), (1, .one (.arr ((outA g s i)).length 1 (fun p _ => .int .i64 (((outA g s i)).getD p 0))))], 2⟩) (fun i => i ≤ g.edges.length) (fun i => g.edges.length - i) (0) (Nat.zero_le _) ?_ ?_
 · exact zw (id) (fun _ => false) (fun k => k == 1) (e := by rw [outA_zero]; simp [hG, List.getD_cons_zero, List.getD_cons_succ, -List.getD_eq_getElem?_getD]) (h := by rw [outA_zero]; simp [hG, List.getD_cons_zero, List.getD_cons_succ, -List.getD_eq_getElem?_getD])
 rintro i hi
 refine zs (zs (zrP ?_))
 refine zy (fun hb23 => ?_) fun hb23 => ?_
 · have hos := outA_succ (g := g) (s := s) (i := i)
   have hol := outA_len (g := g) (s := s) i
   refine zk (zs (zb (zs (zrP ?_))))
   refine zy (fun hb33 => ?_) fun hb33 => ?_
   · refine zrP ?_
     refine zn (zbn (zrP ?_))
     refine zn ?_
     refine round_end (i + 1) (by omega) (by omega) ?_
     exact zw (fun k => if k = 1 then 3 else k) (fun _ => false) (fun _ => false) (e := by rw [hos, if_pos hb33]; simp [hG, List.getD_cons_zero, List.getD_cons_succ, -List.getD_eq_getElem?_getD]) (h := by rw [hos, if_pos hb33]; simp [hG, List.getD_cons_zero, List.getD_cons_succ, -List.getD_eq_getElem?_getD]; exact fun i hi => app_oneI rfl hi)
   refine zk (zn (zbn (zrP ?_)))
   refine zn ?_
   refine round_end (i + 1) (by omega) (by omega) ?_
   exact zi (e := by rw [hos, if_neg hb33]; simp [hG, List.getD_cons_zero, List.getD_cons_succ, -List.getD_eq_getElem?_getD]) (h := by rw [hos, if_neg hb33]; simp [hG, List.getD_cons_zero, List.getD_cons_succ, -List.getD_eq_getElem?_getD])
 obtain rfl : i = g.edges.length := (by omega)
 have hol := outA_len (g := g) (s := s) g.edges.length
 refine zx (ztx (zbx (zs (zrP ?_))))
 refine zt ?_
 refine RetOK_of ?_
 simp [hG, List.getD_cons_zero, List.getD_cons_succ, -List.getD_eq_getElem?_getD, pureOp]
 obtain ⟨e1, e2⟩ := out_3 hv hb18; rw [e1, e2]; exact ⟨⟨rfl, Nat.le_refl _, fun _ _ => rfl⟩, rfl⟩
end Go.Proofs.YthpdkmoedpcboaaGreat
