/- Parts of the proof: XB NO. -/
import Derived.Test.YthpdkmoedpcboaaGreatPB15
import Derived.Test.YthpdkmoedpcboaaGreatPB38
namespace Go.Proofs.YthpdkmoedpcboaaGreat
set_option linter.unusedSimpArgs false
set_option linter.unusedVariables false
open Go Go.Lift Go.Proofs
set_option maxRecDepth 100000 in
theorem sumsF_c (g : Gr) (v : List Int) (hv : gcheck g = 0) (hl : (v.length : Int) = g.states) (hbx : BoxV v) : FC1 Tryz.prog 89 [.agg 3 (grF g), ints v, .fn 90 0 (fun _ => .any)] [] 0 (.sl (0, 0) 0 g.states.toNat) [(0, .one (.arr g.states.toNat 1 (fun s _ => .int .i64 (sumV g v s))))] 1 := by
 have hst := (gcheck_valid hv).1.st
 have hed := (gcheck_valid hv).1.ed
 refine FC_introS T_ok Tryz.func89 rfl (by simp [Tryz.ntmps89]) fun G hG hR => ?_
 simp only [Tryz.ntmps89, Tryz.results89] at hG ⊢
 simp only [argEnv, Nat.zero_add, Nat.reduceAdd]
 refine zs (zr ?_)
 refine zs (zr ?_)
 refine zs (zs (zr ?_))
 refine zb ?_
 refine awpS_loop (α := Nat) (fun i => ⟨[(1, ints v), (2, .fn 90 0 (fun _ => .any)), (3, .ptr (0, 0) 0 0), (7, .sl (1, 0) 0 g.states.toNat), (14, edgesC g.edges), (15, .int .i64 g.edges.length), (16, .int .i64 i)], [(0, .one (.arr 1 3 (fun _ => grF g))), (1, .one (.arr g.states.toNat 1 (fun s _ => .int .i64 (sumA g v i s))))], 2⟩) (fun i => i ≤ g.edges.length) (fun i => g.edges.length - i) (0) (Nat.zero_le _) ?_ ?_
 · exact zi (h := by simp [hG, List.getD_cons_zero, List.getD_cons_succ, -List.getD_eq_getElem?_getD]; exact fun i _ => rfl)
 rintro i hi
 refine zs (zr ?_)
 refine zs (zy (fun hb17 => ?_) fun hb17 => ?_)
 · have heb := edge_in hv (getD_mem (d := de) (show i < g.edges.length by omega))
   have hsb := sumA_box hbx (g := g) (s := (g.edges.getD i de).frm.toNat) i
   have hvb := box_at hbx (g.edges.getD i de).to.toNat
   refine zk (zs (zb (zs (zr ?_))))
   refine awpS_draw hR mixed [] ⟨[16], [], []⟩ fun mu0 => ?_
   refine za [0, 1, 2, 3, 4, 5, 6, 7, 8, 9, 10, 11, 12, 13] [] 3 [13, 12, 11, 10, 9, 8, 7, 6, 5, 4, 3, 2, 1, 0] ?_
   refine awpA_only (fuel := 2) (i := 14) (by decide +kernel) ?_
   refine ze cal90 (plusC_c (sumA g v i (g.edges.getD i de).frm.toNat) (v.getD (g.edges.getD i de).to.toNat 0) (by omega) (by omega)) ?_
   refine za [15] [] 1 [15, 14, 13, 12, 11, 10, 9, 8, 7, 6, 5, 4, 3, 2, 1, 0] ?_
   refine awpA_only (fuel := 0) (i := 16) (by decide +kernel) ?_
   refine zo ?_
   refine awpA_done (by decide +kernel) ?_
   refine zn (zbn (zr ?_))
   refine zn ?_
   refine round_end (i + 1) (by omega) (by omega) ?_
   exact zi (h := by simp [hG, List.getD_cons_zero, List.getD_cons_succ, -List.getD_eq_getElem?_getD]; exact fun s hs => by rw [sumA_succ]; by_cases h : s = (g.edges.getD i de).frm.toNat; (rw [if_pos h, if_pos (by omega), h]); (rw [if_neg h, if_neg (by omega), Int.add_zero]))
 obtain rfl : i = g.edges.length := (by omega)
 refine zx (ztx (zbx (zs (zr ?_))))
 refine zt ?_
 refine RetF_of (()) (fun k => if k = 0 then 1 else 0) (fun _ => false) (fun _ => false) trivial ?_ ?_ (by rfl) (by simp) (fun k hk => absurd hk (Nat.not_lt_zero _))
 · simp [hG, List.getD_cons_zero, List.getD_cons_succ, -List.getD_eq_getElem?_getD]
 simp [hG, List.getD_cons_zero, List.getD_cons_succ, -List.getD_eq_getElem?_getD]; exact fun _ _ => rfl
set_option maxRecDepth 100000 in
theorem sumsRfF_c (g : Gr) (v : List Int) (hv : gcheck g = 0) (hl : (v.length : Int) = g.states) (hbx : BoxV v) : FC1 Tryz.prog 101 [.agg 3 (grF g), .sl (0, 0) 0 g.states.toNat] [(0, .one (.arr g.states.toNat 1 (fun q _ => .int .i64 (v.getD q 0))))] 1 (.sl (1, 0) 0 g.states.toNat) [(0, .one (.arr g.states.toNat 1 (fun q _ => .int .i64 (v.getD q 0)))), (1, .one (.arr g.states.toNat 1 (fun s _ => .int .i64 (sumV g v s))))] 2 := by
 have hst := (gcheck_valid hv).1.st
 have hed := (gcheck_valid hv).1.ed
 refine FC_introS T_ok Tryz.func101 rfl (by simp [Tryz.ntmps101]) fun G hG hR => ?_
 simp only [Tryz.ntmps101, Tryz.results101] at hG ⊢
 simp only [argEnv, Nat.zero_add, Nat.reduceAdd]
 refine zs (zr ?_)
 refine zs (zr ?_)
 refine zs (zs (zr ?_))
 refine zb ?_
 refine awpS_loop (α := Nat) (fun i => ⟨[(1, .sl (0, 0) 0 g.states.toNat), (2, .ptr (1, 0) 0 0), (5, .sl (2, 0) 0 g.states.toNat), (6, .int .i64 i)], [(0, .one (.arr g.states.toNat 1 (fun q _ => .int .i64 (v.getD q 0)))), (1, .one (.arr 1 3 (fun _ => grF g))), (2, .one (.arr g.states.toNat 1 (fun s _ => .int .i64 (sumA g v i s))))], 3⟩) (fun i => i ≤ g.edges.length) (fun i => g.edges.length - i) (0) (Nat.zero_le _) ?_ ?_
 · refine wk_of (id) (fun _ => false) (fun _ => false) ?_ ?_ rfl (by simp) (fun k hk => by first | exact ⟨rfl, rfl⟩ | (revert k; decide) | (obtain rfl : k = 0 := (by omega); exact ⟨rfl, rfl⟩) | (have hk2 : k = 0 ∨ k = 1 := (by omega); rcases hk2 with rfl | rfl <;> exact ⟨rfl, rfl⟩))
   · simp [hG, List.getD_cons_zero, List.getD_cons_succ, -List.getD_eq_getElem?_getD]
   simp [hG, List.getD_cons_zero, List.getD_cons_succ, -List.getD_eq_getElem?_getD]; exact fun i _ => rfl
 rintro i hi
 refine zs (zs (zr ?_))
 refine zy (fun hb14 => ?_) fun hb14 => ?_
 · have heb := edge_in hv (getD_mem (d := de) (show i < g.edges.length by omega))
   have hsb := sumA_box hbx (g := g) (s := (g.edges.getD i de).frm.toNat) i
   have hvb := box_at hbx (g.edges.getD i de).to.toNat
   refine zk (zs (zb ?_))
   refine awpS_draw hR mixed [] ⟨[27], [], []⟩ fun mu0 => ?_
   refine za [0, 1, 2, 3, 4, 5, 6, 7, 8, 9, 10, 11, 12, 13, 14, 15, 16, 17, 18, 19, 20, 21, 22, 23, 24, 25, 26] [] 1 [26, 25, 24, 23, 22, 21, 20, 19, 18, 17, 16, 15, 14, 13, 12, 11, 10, 9, 8, 7, 6, 5, 4, 3, 2, 1, 0] ?_
   refine awpA_only (fuel := 0) (i := 27) (by decide +kernel) ?_
   refine zo ?_
   refine awpA_done (by decide +kernel) ?_
   refine zn (zbn (zr ?_))
   refine zn ?_
   refine round_end (i + 1) (by omega) (by omega) ?_
   refine wk_of (id) (fun _ => false) (fun _ => false) ?_ ?_ rfl (by simp) (fun k hk => by first | exact ⟨rfl, rfl⟩ | (revert k; decide) | (obtain rfl : k = 0 := (by omega); exact ⟨rfl, rfl⟩) | (have hk2 : k = 0 ∨ k = 1 := (by omega); rcases hk2 with rfl | rfl <;> exact ⟨rfl, rfl⟩))
   · simp [hG, List.getD_cons_zero, List.getD_cons_succ, -List.getD_eq_getElem?_getD]
   simp [hG, List.getD_cons_zero, List.getD_cons_succ, -List.getD_eq_getElem?_getD]; exact fun s hs => by rw [sumA_succ]; by_cases h : s = (g.edges.getD i de).frm.toNat; (rw [if_pos h, if_pos (by omega), h]); (rw [if_neg h, if_neg (by omega), Int.add_zero])
 obtain rfl : i = g.edges.length := (by omega)
 refine zx (ztx (zbx (zs (zr ?_))))
 refine zt ?_
 refine RetF_of (()) (fun k => if k = 1 then 2 else k) (fun _ => false) (fun _ => false) trivial ?_ ?_ (by rfl) (by simp) (fun k hk => ⟨if_neg (by omega), rfl⟩)
 · simp [hG, List.getD_cons_zero, List.getD_cons_succ, -List.getD_eq_getElem?_getD]
 simp [hG, List.getD_cons_zero, List.getD_cons_succ, -List.getD_eq_getElem?_getD]; exact fun _ _ => rfl
set_option maxRecDepth 100000 in
set_option maxHeartbeats 1000000 in
theorem greatM_c (g : Gr) (v : List Int) (m : Int) (hv : gcheck g = 0) (hl : (v.length : Int) = g.states) (hbx : BoxV v) (hm : 1 ≤ m ∧ m ≤ 256) : PC Tryz.prog 128 [.agg 3 (grF g), ints v, .int .i64 m] (ints (greV g v m)) := by
 have hst := (gcheck_valid hv).1.st
 have hed := (gcheck_valid hv).1.ed
 refine zp Tryz.func128 fun G hG hR => ?_
 refine zs (zr ?_)
 refine zs (zL (zl 1 ?_))
 refine zf cal27 [] (cloneI_c v (by omega)) (fun x hI hno => ?_)
 refine zl 1 ?_
 refine zN (zb ?_)
 refine awpS_loop (α := Nat) (fun k => ⟨[(1, ints (gIt g m v k)), (2, .int .i64 m), (3, .ptr (0, 0) 0 0)], [(0, .one (.arr 1 3 (fun _ => grF g)))], 1⟩) (fun k => BoxV (gIt g m v k) ∧ ((gIt g m v k).length : Int) = g.states ∧ ∀ j, j < k → gIt g m v (j + 1) ≠ gIt g m v j) (fun k => (gIt g m v k).sum.toNat) (0) (⟨hbx, hl, fun j hj => absurd hj (Nat.not_lt_zero _)⟩) ?_ ?_
 · exact zw (id) (fun k => k == 1) (fun _ => false) (e := by simp [hG, List.getD_cons_zero, List.getD_cons_succ, -List.getD_eq_getElem?_getD]; exact ⟨rfl, Nat.le_refl _, fun q hq => rfl⟩)
 rintro k ⟨hbk, hlk, hn⟩
 refine zb (zs (zL (zl 2 ?_)))
 refine zf cal89 [] (sumsF_c g (gIt g m v k) hv hlk hbk) (fun x hI hno => ?_)
 refine zl 1 ?_
 refine zN (zs (zs (zr ?_)))
 refine zb ?_
 refine awpS_loop (α := Nat) (fun s => ⟨[(1, ints (gIt g m v k)), (2, .int .i64 m), (3, .ptr (0, 0) 0 0), (7, .sl (1, 0) 0 g.states.toNat), (15, .int .i64 (g.states.toNat : Nat)), (16, .int .i64 (s : Nat))], [(0, .one (.arr 1 3 (fun _ => grF g))), (1, .one (.arr g.states.toNat 1 (fun q _ => .int .i64 (if q < s then nxC g (gIt g m v k) m q else sumV g (gIt g m v k) q))))], 2⟩) (fun s => s ≤ g.states.toNat) (fun s => g.states.toNat - s) (0) (Nat.zero_le _) ?_ ?_
 · exact zi
 rintro s hs
 refine zs (zr ?_)
 refine zs (zy (fun hb17 => ?_) fun hb17 => ?_)
 · have hsn : (s : Int) < g.states := (by omega)
   have hsv := sumA_box hbk (g := g) (s := s) g.edges.length
   have hvs := box_at hbk s
   have hnc := nxC_box (g := g) (s := s) hm.1 hbk
   have hse : sumV g (gIt g m v k) s = sumA g (gIt g m v k) g.edges.length s := rfl
   refine zk (zs (zb (zs (zr ?_))))
   refine awpS_draw hR mixed [(14, (1, 0))] ⟨[], [], []⟩ fun mu0 => ?_
   refine za [0, 1, 2, 3, 4, 5, 6, 7, 8, 9, 10, 11, 12, 13] [] 1 [13, 12, 11, 10, 9, 8, 7, 6, 5, 4, 3, 2, 1, 0] ?_
   refine awpA_only (fuel := 0) (i := 14) (by decide +kernel) ?_
   refine zo ?_
   refine awpA_done (by decide +kernel) ?_
   refine zn (zbn (zr ?_))
   refine zn ?_
   refine round_end (s + 1) (by omega) (by omega) ?_
   exact zi (h := by simp [hG, List.getD_cons_zero, List.getD_cons_succ, -List.getD_eq_getElem?_getD]; exact fun q hq => by by_cases h : q = s; (subst h; rw [if_pos rfl, if_pos (by omega)]; unfold nxC; first | rfl | (congr 1; omega) | simp); (rw [if_neg h]; by_cases h2 : q < s; (rw [if_pos h2, if_pos (by omega)]); (rw [if_neg h2, if_neg (by omega)])))
 obtain rfl : s = g.states.toNat := (by omega)
 refine zx (ztx (zbx (zs (zs (zL (zl 2 ?_))))))
 refine awpL_callB (mem [1]) cal33 (by simp [flat]) rfl rfl (fun _ => rfl) (fun hg => equalI_c (nxtV g (gIt g m v k) m) (gIt g m v k) (by rw [nxtV_len]; omega)) (fun hg => ?_) (fun hg => ?_) fun K hK => ?_
 · simp [hG, List.getD_cons_zero, List.getD_cons_succ, -List.getD_eq_getElem?_getD]
 · simp [hG, List.getD_cons_zero, List.getD_cons_succ, -List.getD_eq_getElem?_getD]; refine ⟨by rw [nxtV_len]; omega, by rw [nxtV_len]; omega, fun q hq => ?_⟩; rw [nxtV_len] at hq; rw [if_pos (by omega), nxtV_at hq]
 simp [hG, List.getD_cons_zero, List.getD_cons_succ, -List.getD_eq_getElem?_getD]
 refine hK _ ?_
 clear K hK
 refine zN (zy (fun hb36 => ?_) fun hb36 => ?_)
 · refine zs (zr ?_)
   refine zt (zbt (ztt (zbt ?_)))
   refine RetOK_of ?_
   simp [hG, List.getD_cons_zero, List.getD_cons_succ, -List.getD_eq_getElem?_getD]
   rw [gre_stop hm.1 hbx hn hb36]; exact Clo.le _ Clo_ints
 have hne : gIt g m v (k + 1) ≠ gIt g m v k := hb36
 have hms := gIt_meas hm.1 hbx hne
 have hbx2 := gIt_box (g := g) hm.1 hbx (k + 1)
 refine zk (zr ?_)
 refine zn (zbn (zn ?_))
 refine round_end (k + 1) (⟨hbx2.1, by rw [hbx2.2]; exact hl, step_all hn hne⟩) (by omega) ?_
 exact zw (id) (fun k => k == 1) (fun _ => false) (e := by simp [hG, List.getD_cons_zero, List.getD_cons_succ, -List.getD_eq_getElem?_getD]; refine ⟨by rw [hbx2.2]; omega, by rw [hbx2.2]; omega, fun q hq => ?_⟩; rw [hbx2.2] at hq; rw [if_pos (by omega), gIt_succ, nxtV_at (by omega)])
set_option maxRecDepth 100000 in
set_option maxHeartbeats 1000000 in
theorem greatRf_c (g : Gr) (v : List Int) (m : Int) (hv : gcheck g = 0) (hl : (v.length : Int) = g.states) (hbx : BoxV v) (hm : 1 ≤ m ∧ m ≤ 256) : PC Tryz.prog 102 [.agg 3 (grF g), ints v, .int .i64 m] (ints (greV g v m)) := by
 have hst := (gcheck_valid hv).1.st
 have hed := (gcheck_valid hv).1.ed
 refine zp Tryz.func102 fun G hG hR => ?_
 refine zs (zr ?_)
 refine zs (zr ?_)
 refine zb ?_
 refine awpS_loop (α := Nat) (fun k => ⟨[(1, .sl (1, 0) 0 g.states.toNat), (2, .int .i64 m), (3, .ptr (0, 0) 0 0)], [(0, .one (.arr 1 3 (fun _ => grF g))), (1, .one (.arr g.states.toNat 1 (fun q _ => .int .i64 ((gIt g m v k).getD q 0))))], 2⟩) (fun k => BoxV (gIt g m v k) ∧ ((gIt g m v k).length : Int) = g.states ∧ ∀ j, j < k → gIt g m v (j + 1) ≠ gIt g m v j) (fun k => (gIt g m v k).sum.toNat) (0) (⟨hbx, hl, fun j hj => absurd hj (Nat.not_lt_zero _)⟩) ?_ ?_
 · exact zw (fun k => if k = 1 then 2 else k) (fun _ => false) (fun _ => false) (e := by simp [hG, List.getD_cons_zero, List.getD_cons_succ, -List.getD_eq_getElem?_getD]; omega) (h := by simp [hG, List.getD_cons_zero, List.getD_cons_succ, -List.getD_eq_getElem?_getD]; refine ⟨by omega, fun q hq => ?_⟩; rw [gIt_zero])
 rintro k ⟨hbk, hlk, hn⟩
 refine zb (zs (zL (zl 2 ?_)))
 refine zf cal101 [1] (sumsRfF_c g (gIt g m v k) hv hlk hbk) (fun x hI hno => ?_)
 refine zl 1 ?_
 refine zN (zs (zr ?_))
 refine zs (zs (zr ?_))
 refine zb ?_
 refine awpS_loop (α := Nat) (fun s => ⟨[(1, .sl (1, 0) 0 g.states.toNat), (2, .int .i64 m), (3, .ptr (0, 0) 0 0), (7, ints (sumsL g (gIt g m v k))), (8, .bool (chG g (gIt g m v k) m s)), (9, .int .i64 (s : Nat))], [(0, .one (.arr 1 3 (fun _ => grF g))), (1, .one (.arr g.states.toNat 1 (fun q _ => .int .i64 (if q < s then nxC g (gIt g m v k) m q else (gIt g m v k).getD q 0))))], 2⟩) (fun s => s ≤ g.states.toNat) (fun s => g.states.toNat - s) (0) (Nat.zero_le _) ?_ ?_
 · exact zw (id) (fun k => k == 2) (fun _ => false) (e := by simp [hG, List.getD_cons_zero, List.getD_cons_succ, -List.getD_eq_getElem?_getD]; refine ⟨⟨by rw [sumsL_len], Nat.le_of_eq sumsL_len, fun q hq => by rw [sumsL_len] at hq; exact (sumsL_at (by omega)).symm⟩, chG_zero⟩)
 rintro s hs
 refine zs (zs (zr ?_))
 refine zy (fun hb19 => ?_) fun hb19 => ?_
 · have hsn : (s : Int) < g.states := (by omega)
   have hsv := sumA_box hbk (g := g) (s := s) g.edges.length
   have hvs := box_at hbk s
   have hnc := nxC_box (g := g) (s := s) hm.1 hbk
   have hse : sumV g (gIt g m v k) s = sumA g (gIt g m v k) g.edges.length s := rfl
   have hsa := sumsL_at (g := g) (v := (gIt g m v k)) hsn
   have hsl := sumsL_len (g := g) (v := (gIt g m v k))
   refine zk (zs (zb (zs ?_)))
   refine awpS_draw hR mixed [] ⟨[], [], []⟩ fun mu0 => ?_
   refine za [0, 1, 2, 3, 4, 5, 6, 7, 8, 9, 10] [] 0 [10, 9, 8, 7, 6, 5, 4, 3, 2, 1, 0] ?_
   refine awpA_done (by decide +kernel) ?_
   refine zy (fun hb32 => ?_) fun hb32 => ?_
   · have hcy := chG_yes (g := g) (v := (gIt g m v k)) (m := m) (s := s) (by rw [← hsa]; omega)
     refine zs (zr ?_)
     refine zr ?_
     refine zn (zbn (zr ?_))
     refine zn ?_
     refine round_end (s + 1) (by omega) (by omega) ?_
     exact zi (e := by rw [hcy.2]; simp [hG, List.getD_cons_zero, List.getD_cons_succ, -List.getD_eq_getElem?_getD]) (h := by simp [hG, List.getD_cons_zero, List.getD_cons_succ, -List.getD_eq_getElem?_getD]; exact fun q hq => by by_cases h : q = s; (subst h; first | (rw [if_pos rfl, if_pos (by omega), hcy.1, hsa]) | (rw [if_neg (by omega), if_pos (by omega), hcy.1])); ((try rw [if_neg h]); by_cases h2 : q < s; (rw [if_pos h2, if_pos (by omega)]); (rw [if_neg h2, if_neg (by omega)])))
   have hcy := chG_no (g := g) (v := (gIt g m v k)) (m := m) (s := s) (by rw [← hsa]; omega)
   refine zk (zn (zbn (zr ?_)))
   refine zn ?_
   refine round_end (s + 1) (by omega) (by omega) ?_
   exact zi (e := by rw [hcy.2]; simp [hG, List.getD_cons_zero, List.getD_cons_succ, -List.getD_eq_getElem?_getD]) (h := by simp [hG, List.getD_cons_zero, List.getD_cons_succ, -List.getD_eq_getElem?_getD]; exact fun q hq => by by_cases h : q = s; (subst h; first | (rw [if_pos rfl, if_pos (by omega), hcy.1, hsa]) | (rw [if_neg (by omega), if_pos (by omega), hcy.1])); ((try rw [if_neg h]); by_cases h2 : q < s; (rw [if_pos h2, if_pos (by omega)]); (rw [if_neg h2, if_neg (by omega)])))
 obtain rfl : s = g.states.toNat := (by omega)
 have hgl : g.states.toNat = (gIt g m v k).length := (by omega)
 refine zx (ztx (zbx (zs (zr ?_))))
 refine zy (fun hb43 => ?_) fun hb43 => ?_
 · have hsm := chG_same (by rw [← hgl]; simpa using hb43)
   refine zs (zr ?_)
   refine zt (zbt (ztt (zbt ?_)))
   refine RetOK_of ?_
   simp [hG, List.getD_cons_zero, List.getD_cons_succ, -List.getD_eq_getElem?_getD]
   rw [gre_stop hm.1 hbx hn hsm]; exact ⟨by omega, by omega, fun q hq => by rw [if_pos (by omega), ← nxtV_at (g := g) (v := gIt g m v k) (m := m) (by omega), hsm]⟩
 have hne : gIt g m v (k + 1) ≠ gIt g m v k := chG_diff (by rw [← hgl]; simpa using hb43)
 have hms := gIt_meas hm.1 hbx hne
 have hbx2 := gIt_box (g := g) hm.1 hbx (k + 1)
 refine zk (zn (zbn (zn ?_)))
 refine round_end (k + 1) (⟨hbx2.1, by rw [hbx2.2]; exact hl, step_all hn hne⟩) (by omega) ?_
 exact zi (h := by simp [hG, List.getD_cons_zero, List.getD_cons_succ, -List.getD_eq_getElem?_getD]; exact fun q hq => by rw [if_pos hq, gIt_succ, nxtV_at (by omega)])
end Go.Proofs.YthpdkmoedpcboaaGreat
namespace Go.Proofs.YthpdkmoedpcboaaGreat
set_option linter.unusedSimpArgs false
set_option linter.unusedVariables false
open Go Go.Lift Go.Proofs
def nzB (w : List Int) : Bool := !(w.all fun n => decide (n = 0))
def exC (b : Bool) : Option Code := if b then some (.exit 2) else none
@[simp] theorem exC_true : exC true = some (.exit 2) := rfl
@[simp] theorem exC_false : exC false = none := rfl
@[simp] theorem exC_isNone {b : Bool} : (exC b).isNone = !b := by cases b <;> rfl
def lstN (g : Gr) (m : Int) (v : List Int) : List Int := match lowI g m v with
  | some s => greV g (decV v s) m
  | none => v
theorem lstN_some {g : Gr} {m : Int} {v : List Int} {s : Nat} (h : lowI g m v = some s) : lstN g m v = greV g (decV v s) m := by unfold lstN; rw [h]
theorem lstN_none {g : Gr} {m : Int} {v : List Int} (h : lowI g m v = none) : lstN g m v = v := by unfold lstN; rw [h]
theorem lstI_next {g : Gr} {m : Int} {v : List Int} {k : Nat} : lstI g m v (k + 1) = lstN g m (lstI g m v k) := rfl
def bF (g : Gr) (m : Int) (v : List Int) : Nat → Bool
  | 0 => true
  | k + 1 => (lowI g m (lstI g m v k)).isSome
theorem bF_succ {g : Gr} {m : Int} {v : List Int} {k : Nat} : bF g m v (k + 1) = (lowI g m (lstI g m v k)).isSome := rfl
def bN (b : Bool) : Nat := if b then 1 else 0
theorem lst_exit {g : Gr} {m : Int} {v : List Int} (hm : 1 ≤ m) (hb : BoxV v) : ∀ {k : Nat}, (∀ j, j < k → bF g m v j = true) → bF g m v k = false → lstV g m v = lstI g m v k
  | 0, _, h => by cases h
  | k + 1, hn, h => by
    have h1 : lowI g m (lstI g m v k) = none := by
      rw [bF_succ] at h
      cases hl : lowI g m (lstI g m v k) with
      | none => rfl
      | some s => rw [hl] at h; cases h
    rw [lstI_next, lstN_none h1]
    refine lst_stop hm hb (fun j hj e => ?_) h1
    have := hn (j + 1) (by omega)
    rw [bF_succ, e] at this
    cases this
theorem lst_meas {g : Gr} {m : Int} {v : List Int} {k : Nat} (hm : 1 ≤ m) (hb : BoxV v) (h : bF g m v k = true) : (lstI g m v (k + 1)).sum.toNat + bN (bF g m v (k + 1)) < (lstI g m v k).sum.toNat + bN (bF g m v k) := by
  rw [h, bF_succ, lstI_next]
  cases hl : lowI g m (lstI g m v k) with
  | none => rw [lstN_none hl]; simp [bN]
  | some s =>
    have h3 := (low_sum hm (lst_box (g := g) hm hb k).1 hl).2.2
    rw [lstN_some hl]; simp [bN]; omega
def leaL (g : Gr) (v : List Int) (m : Int) : List Int := if eigN g v m = 0 then lstV g m v else []
theorem leaL_1 {g : Gr} {v : List Int} {m : Int} (h : eigN g v m ≠ 0) : leaL g v m = [] := if_neg h
theorem leaL_2 {g : Gr} {v : List Int} {m : Int} (h : eigN g v m = 0) : leaL g v m = lstV g m v := if_pos h
def anL (g : Gr) (m : Int) (v : List Int) (s : Nat) : Bool := (List.range s).any (lwP g m v)
def vF (g : Gr) (m : Int) (v : List Int) (s : Nat) : List Int := if anL g m v s = true then greV g (decV v (s - 1)) m else v
theorem vF_no {g : Gr} {m : Int} {v : List Int} {s : Nat} (h : anL g m v s = false) : vF g m v s = v := by unfold vF; rw [h]; rfl
theorem anL_succ {g : Gr} {m : Int} {v : List Int} {s : Nat} : anL g m v (s + 1) = (anL g m v s || lwP g m v s) := by simp [anL, List.range_succ, List.any_append]
theorem anL_no {g : Gr} {m : Int} {v : List Int} {s : Nat} (h : anL g m v s = false) (h2 : lwP g m v s = false) : anL g m v (s + 1) = false ∧ vF g m v (s + 1) = v := by
  have e : anL g m v (s + 1) = false := by rw [anL_succ, h, h2]; rfl
  exact ⟨e, vF_no e⟩
theorem anL_yes {g : Gr} {m : Int} {v : List Int} {s : Nat} (h2 : lwP g m v s = true) : anL g m v (s + 1) = true ∧ vF g m v (s + 1) = greV g (decV v s) m := by
  have e : anL g m v (s + 1) = true := by rw [anL_succ, h2]; exact Bool.or_true _
  exact ⟨e, by unfold vF; rw [e, if_pos rfl]; rfl⟩
theorem anL_false {g : Gr} {m : Int} {v : List Int} {s : Nat} : anL g m v s = false ↔ ∀ q, q < s → lwP g m v q = false := by
  unfold anL
  rw [List.any_eq_false]
  exact ⟨fun h q hq => by simpa using h q (List.mem_range.2 hq), fun h q hq => by rw [h q (List.mem_range.1 hq)]; simp⟩
theorem lowI_no {g : Gr} {m : Int} {v : List Int} (h : anL g m v v.length = false) : lowI g m v = none := by
  unfold lowI
  rw [List.find?_eq_none]
  intro k hk
  rw [anL_false.1 h k (List.mem_range.1 hk)]; simp
theorem lowI_yes {g : Gr} {m : Int} {v : List Int} {s : Nat} (hs : s ≤ v.length) (h : anL g m v s = true) (hn : ∀ q, q + 1 < s → lwP g m v q = false) : lowI g m v = some (s - 1) ∧ lstN g m v = vF g m v s := by
  obtain ⟨q, hq, h2⟩ := List.any_eq_true.1 h
  have hqs := List.mem_range.1 hq
  have hqe : q + 1 = s := by
    refine Classical.byContradiction fun hc => ?_
    rw [hn q (by omega)] at h2
    cases h2
  subst hqe
  have e : lowI g m v = some q := by
    unfold lowI
    rw [List.find?_eq_some_iff_getElem]
    refine ⟨h2, q, by simp; omega, by simp, fun k hk => ?_⟩
    rw [List.getElem_range, hn k (by omega)]; rfl
  exact ⟨e, by rw [lstN_some e, (anL_yes h2).2]⟩
end Go.Proofs.YthpdkmoedpcboaaGreat
