/- Choose and Build answer as the reference. No condition. -/
import Derived.Test.YthpdkmoedpcboaaGreatPB13
import Derived.Test.YthpdkmoedpcboaaGreatPB15
import Derived.Test.YthpdkmoedpcboaaGreatPB49
namespace Go.Proofs.YthpdkmoedpcboaaGreat
set_option linter.unusedSimpArgs false
set_option linter.unusedVariables false
open Go Go.Lift Go.Proofs
noncomputable def pBR (g : Gr) (v : List Int) (m : Int) (k j : Nat) : AVal := [.int .i64 (bg g v m).labels, .int .i64 (bg g v m).states, edgesC (bg g v m).edges, ints (bw g v m), .int .i64 m, .sl (4, 0) 0 k].getD j .any
set_option maxRecDepth 100000 in
set_option maxHeartbeats 1000000 in
theorem buildRf_c (g : Gr) (v : List Int) (m : Int) : PC Tryz.prog 24 [.agg 3 (grF g), ints v, .int .i64 m] (.tup 2 (fun j => [.agg 6 (prfF (bP g v m)), .int .i64 (bErr g v m)].getD j .any)) := by
 refine zp Tryz.func24 fun G hG hR => ?_
 refine zs (zrP ?_)
 refine zs (zs (zL (zlP 3 ?_)))
 refine zcP cal59 (eigRf_c g v m) ?_
 refine zlP 1 ?_
 refine zN (zs (zrP ?_))
 refine zy (fun hb24 => ?_) fun hb24 => ?_
 · refine zs (zrP ?_)
   refine zt ?_
   refine RetOK_of ?_
   simp [hG, List.getD_cons_zero, List.getD_cons_succ, -List.getD_eq_getElem?_getD, pureOp]
   obtain ⟨e1, e2⟩ := bErr_1 hb24; rw [e1, e2]; exact ⟨⟨rfl, rfl, rfl, rfl, rfl, rfl⟩, rfl⟩
 have h0 : eigN g v m = 0 := (by simpa using hb24)
 obtain ⟨hv, hm, hl, hbx⟩ := vecN_zero (eigN_zero h0).1
 have hst := (gcheck_valid hv).1.st
 obtain ⟨hlb, hll, hsp⟩ := lea_ok h0
 have hlv : ((leaL g v m).length : Int) = g.states := (by rw [hll]; exact hl)
 have hsl : (supL (leaL g v m)).length ≤ 64 := Nat.le_trans (supA_len _) (by omega)
 obtain ⟨hg0, hn0, hw0⟩ := bg0_ok h0
 obtain ⟨hsk, hc1, hc2, hc3, hc4⟩ := bc_ok h0
 have hwl := bw_len h0
 have hed0 := (gcheck_valid hg0).1.ed
 refine zk (zs (zL (zlP 3 ?_)))
 refine zcP cal60 (leastRf_c g v m) ?_
 refine zlP 4 ?_
 refine zN (zs (zrP ?_))
 refine zs (zs (zrP ?_))
 refine zb ?_
 refine awpS_loop (α := Nat) (fun i => ⟨[(1, ints (leaL g v m)), (2, .int .i64 m), (3, .ptr (0, 0) 0 0), (6, .ptr (1, 0) 0 0), (9, .sl (2, 0) 0 (supA (leaL g v m) i).length), (10, .int .i64 (i : Nat))], [(0, .one (.arr 1 3 (fun _ => grF g))), (1, .one (.arr 1 6 (fun _ j => [.int .i64 0, .int .i64 0, .nils, .nils, .int .i64 0, .nils].getD j .any))), (2, .one (.arr (supA (leaL g v m) i).length 1 (fun q _ => .int .i64 ((supA (leaL g v m) i).getD q 0))))], 3⟩) (fun i => i ≤ (leaL g v m).length) (fun i => (leaL g v m).length - i) (0) (Nat.zero_le _) ?_ ?_
 · exact zi (e := by rw [supA_zero]; simp [hG, List.getD_cons_zero, List.getD_cons_succ, -List.getD_eq_getElem?_getD]) (h := by rw [supA_zero]; simp [hG, List.getD_cons_zero, List.getD_cons_succ, -List.getD_eq_getElem?_getD])
 rintro i hi
 refine zs (zs (zrP ?_))
 refine zy (fun hb38 => ?_) fun hb38 => ?_
 · have hsn := supA_len (v := (leaL g v m)) i
   refine zk (zs (zb (zs (zrP ?_))))
   refine zy (fun hb45 => ?_) fun hb45 => ?_
   · have hsu := supA_yes hb45
     refine zrP ?_
     refine zn (zbn (zrP ?_))
     refine zn ?_
     refine round_end (i + 1) (by omega) (by omega) ?_
     exact zw (fun k => if k = 2 then 4 else k) (fun _ => false) (fun _ => false) (e := by rw [hsu]; simp [hG, List.getD_cons_zero, List.getD_cons_succ, -List.getD_eq_getElem?_getD]) (h := by rw [hsu]; simp [hG, List.getD_cons_zero, List.getD_cons_succ, -List.getD_eq_getElem?_getD]; exact fun q hq => app_oneI rfl hq)
   have hsu := supA_no (v := (leaL g v m)) (i := i) (by omega)
   refine zk (zn (zbn (zrP ?_)))
   refine zn ?_
   refine round_end (i + 1) (by omega) (by omega) ?_
   exact zi (e := by rw [hsu]; simp [hG, List.getD_cons_zero, List.getD_cons_succ, -List.getD_eq_getElem?_getD]) (h := by rw [hsu]; simp [hG, List.getD_cons_zero, List.getD_cons_succ, -List.getD_eq_getElem?_getD])
 obtain rfl : i = (leaL g v m).length := (by omega)
 refine zx (ztx (zbx (zs ?_)))
 refine awpS_wk (st2 := ⟨[(1, ints (leaL g v m)), (2, .int .i64 m), (3, .ptr (0, 0) 0 0), (6, .ptr (1, 0) 0 0), (9, ints (supL (leaL g v m)))], [(0, .one (.arr 1 3 (fun _ => grF g))), (1, .one (.arr 1 6 (fun _ j => [.int .i64 0, .int .i64 0, .nils, .nils, .int .i64 0, .nils].getD j .any)))], 2⟩) ?_ ?_
 · exact zwP (id) (fun k => k == 2) (fun _ => false) (e := by simp [hG, List.getD_cons_zero, List.getD_cons_succ, -List.getD_eq_getElem?_getD]; exact ⟨rfl, Nat.le_refl _, fun q hq => rfl⟩)
 refine zL (zlP 2 ?_)
 refine zcP cal61 (keepR_c g (supL (leaL g v m)) hv supL_asc (supL_in hlv) hsl) ?_
 refine zlP 6 ?_
 refine zN (zs (zL (zlP 1 ?_)))
 refine zcP cal62 (refSinksK_c (bg0 g v m)) ?_ (b := fun hg => by simp [hG, List.getD_cons_zero, List.getD_cons_succ, -List.getD_eq_getElem?_getD]; exact ⟨rfl, rfl, Clo.le _ Clo_edgesC⟩)
 refine zlP 5 ?_
 refine zN (zs ?_)
 refine awpS_draw hR mixed [] ⟨[], [], []⟩ fun mu0 => ?_
 refine zaP [0, 1, 3, 4, 5] [] 3 [5, 4, 3, 1, 0] ?_
 refine awpA_only (fuel := 2) (i := 2) (by decide +kernel) ?_
 refine zeP cal63 (pickR_c (leaL g v m) (supL (leaL g v m)) (by omega) (supL_in rfl)) ?_
 refine awpA_only (fuel := 1) (i := 6) (by decide +kernel) ?_
 refine zeP cal63 (pickR_c (bw0 g v m) (bc g v m) (by omega) (fun x hx => by have := hc2 x hx; omega)) ?_ (b := fun hg => by simp [hG, List.getD_cons_zero, List.getD_cons_succ, -List.getD_eq_getElem?_getD]; exact ⟨Clo.le _ Clo_ints, Clo.le _ Clo_ints⟩)
 refine zaP [7] [] 0 [7, 6, 2, 5, 4, 3, 1, 0] ?_
 refine awpA_done (by decide +kernel) ?_
 refine zs ?_
 refine awpS_draw hR mixed [] ⟨[8], [], []⟩ fun mu0 => ?_
 refine zaP [0, 1, 2, 3] [] 5 [3, 2, 1, 0] ?_
 refine awpA_only (fuel := 4) (i := 4) (by decide +kernel) ?_
 refine zeP cal61 (keepR_c (bg0 g v m) (bc g v m) hg0 hc1 hc2 hc3) ?_ (b := fun hg => by simp [hG, List.getD_cons_zero, List.getD_cons_succ, -List.getD_eq_getElem?_getD]; exact ⟨⟨rfl, rfl, Clo.le _ Clo_edgesC⟩, Clo.le _ Clo_ints⟩)
 refine zaP [5, 6] [] 2 [6, 5, 4, 3, 2, 1, 0] ?_
 refine awpA_two (fuel := 1) (i := 7) (k := 8) (by decide +kernel) ?_ ?_
 · refine zoP ?_
   refine awpA_only (fuel := 0) (i := 8) (by decide +kernel) ?_
   refine zoP ?_
   refine awpA_done (by decide +kernel) ?_
   refine zs (zrP ?_)
   refine zs (zb ?_)
   refine awpS_loop (α := Nat) (fun k => ⟨[(2, .int .i64 m), (6, .ptr (1, 0) 0 0), (11, .ptr (2, 0) 0 0), (15, ints (bS g v m k).2), (16, .ptr (3, 0) 0 0)], [(0, .one (.arr 1 3 (fun _ => grF g))), (1, .one (.arr 1 6 (fun _ j => [.int .i64 0, .int .i64 0, .nils, .nils, .int .i64 0, .nils].getD j .any))), (2, .one (.arr 1 3 (fun _ => grF (bS g v m k).1))), (3, .one (.arr 1 6 (fun _ c => pBR g v m k c))), (4, .one (.arr k 1 (fun j _ => spls ((bRs g v m k).getD j []))))], 5⟩) (fun k => k ≤ 64 ∧ (bS g v m k).2.length ≤ 64 ∧ ∀ j, j < k → bStop g v m j = false) (fun k => 64 - k) (0) (⟨Nat.zero_le _, hwl, fun j hj => absurd hj (Nat.not_lt_zero _)⟩) ?_ ?_
   · exact zw (id) (fun _ => false) (fun k => k == 4) (e := by simp [hG, List.getD_cons_zero, List.getD_cons_succ, -List.getD_eq_getElem?_getD]; exact Clo.le _ Clo_ints) (h := by simp [hG, pBR, bRs_zero, bRs_succ, bS_succ, List.getD_cons_zero, List.getD_cons_succ, -List.getD_eq_getElem?_getD]; refine ⟨⟨rfl, rfl, Clo.le _ Clo_edgesC⟩, ?_⟩; repeat' (first | exact Clo.le _ Clo_edgesC | exact Clo.le _ Clo_ints | rfl | apply And.intro))
   rintro k ⟨hk, hwk, hn⟩
   refine zs (zs (zL (zlP 1 ?_)))
   refine zcP cal64 (onesR_c (bS g v m k).2 (by omega)) ?_
   refine zlP 1 ?_
   refine zN (zy (fun hb82 => ?_) fun hb82 => ?_)
   · have hno : onesB (bS g v m k).2 = false := (by simpa using hb82)
     refine zk (zb (zs (zs (zrP ?_))))
     refine zy (fun hb86 => ?_) fun hb86 => ?_
     · obtain rfl : k = 64 := (by omega)
       refine zs (zrP ?_)
       refine zt (zbt (ztt (zbt ?_)))
       refine RetOK_of ?_
       simp [hG, List.getD_cons_zero, List.getD_cons_succ, -List.getD_eq_getElem?_getD, pureOp]
       obtain ⟨e1, e2⟩ := bErr_3 h0 hn hno; rw [e1, e2]; exact ⟨⟨rfl, rfl, rfl, rfl, rfl, rfl⟩, rfl⟩
     have hk64 : k ≠ 64 := (by omega)
     refine zk (zs (zL (zlP 3 ?_)))
     refine zcP cal22 (chooseRf_c (bS g v m k).1 (bS g v m k).2 m) ?_
     refine zlP 5 ?_
     refine zN (zs (zs (zrP ?_)))
     refine zy (fun hb96 => ?_) fun hb96 => ?_
     · have hbe := bE_1 hb96
       refine zs (zrP ?_)
       refine zt (zbt (ztt (zbt ?_)))
       refine RetOK_of ?_
       simp [hG, List.getD_cons_zero, List.getD_cons_succ, -List.getD_eq_getElem?_getD, pureOp]
       obtain ⟨e1, e2⟩ := bErr_4 h0 (by omega) hn hno (by rw [hbe]; exact hb96); rw [e1, e2]; exact ⟨⟨rfl, rfl, rfl, rfl, rfl, rfl⟩, hbe.symm⟩
     have hc0 : cNo (bS g v m k).1 (bS g v m k).2 m = 0 := (by simpa using hb96)
     have hr := (cls_ok hc0).2.ok
     have hbe := bE_2 hc0
     have hal := aplG_len (g := (bS g v m k).1) (v := (bS g v m k).2) (m := m) hr
     refine zk (zs (zL (zlP 4 ?_)))
     refine zcP cal65 (applyRf_c (bS g v m k).1 (bS g v m k).2 m (bR g v m k) hr) ?_ (b := fun hg => by simp [hG, List.getD_cons_zero, List.getD_cons_succ, -List.getD_eq_getElem?_getD]; exact Clo.le _ Clo_spls)
     refine zlP 8 ?_
     refine zN (zs (zs (zrP ?_)))
     refine zy (fun hb110 => ?_) fun hb110 => ?_
     · refine zs (zrP ?_)
       refine zt (zbt (ztt (zbt ?_)))
       refine RetOK_of ?_
       simp [hG, List.getD_cons_zero, List.getD_cons_succ, -List.getD_eq_getElem?_getD, pureOp]
       obtain ⟨e1, e2⟩ := bErr_4 h0 (by omega) hn hno (by rw [hbe]; exact hb110); rw [e1, e2]; exact ⟨⟨rfl, rfl, rfl, rfl, rfl, rfl⟩, hbe.symm⟩
     have hz := bStop_no hno hk64 (by rw [hbe]; simpa using hb110)
     refine zk (zrP ?_)
     refine zn (zbn (zn ?_))
     refine round_end (k + 1) (⟨by omega, hal.2.1, step_all hn hz⟩) (by omega) ?_
     exact zw (fun k => if k = 4 then 6 else k) (fun _ => false) (fun _ => false) (e := by simp [hG, pBR, bRs_zero, bRs_succ, bS_succ, List.getD_cons_zero, List.getD_cons_succ, -List.getD_eq_getElem?_getD]) (h := by simp [hG, pBR, bRs_zero, bRs_succ, bS_succ, List.getD_cons_zero, List.getD_cons_succ, -List.getD_eq_getElem?_getD]; intro q hq; exact bRs_app hq)
   have hon : onesB (bS g v m k).2 = true := (by simpa using hb82)
   refine zx (ztx (zbx (zs (zrP ?_))))
   refine zt ?_
   refine RetOK_of ?_
   simp [hG, List.getD_cons_zero, List.getD_cons_succ, -List.getD_eq_getElem?_getD, pureOp]
   obtain ⟨e1, e2⟩ := bErr_2 h0 hk hn hon; rw [e1, e2]; refine ⟨⟨rfl, rfl, Clo.le _ Clo_edgesC, Clo.le _ Clo_ints, rfl, ?_⟩, rfl⟩; simp [pBR, bRs_len, List.getD_cons_zero, List.getD_cons_succ, -List.getD_eq_getElem?_getD]; first | done | exact fun q hq => Clo.le _ Clo_spls
 refine zoP ?_
 refine zaP [7] [] 0 [7, 8, 6, 5, 4, 3, 2, 1, 0] ?_
 refine awpA_done (by decide +kernel) ?_
 refine zs (zrP ?_)
 refine zs (zb ?_)
 refine awpS_loop (α := Nat) (fun k => ⟨[(2, .int .i64 m), (6, .ptr (1, 0) 0 0), (11, .ptr (2, 0) 0 0), (15, ints (bS g v m k).2), (16, .ptr (3, 0) 0 0)], [(0, .one (.arr 1 3 (fun _ => grF g))), (1, .one (.arr 1 6 (fun _ j => [.int .i64 0, .int .i64 0, .nils, .nils, .int .i64 0, .nils].getD j .any))), (2, .one (.arr 1 3 (fun _ => grF (bS g v m k).1))), (3, .one (.arr 1 6 (fun _ c => pBR g v m k c))), (4, .one (.arr k 1 (fun j _ => spls ((bRs g v m k).getD j []))))], 5⟩) (fun k => k ≤ 64 ∧ (bS g v m k).2.length ≤ 64 ∧ ∀ j, j < k → bStop g v m j = false) (fun k => 64 - k) (0) (⟨Nat.zero_le _, hwl, fun j hj => absurd hj (Nat.not_lt_zero _)⟩) ?_ ?_
 · exact zw (id) (fun _ => false) (fun k => k == 4) (e := by simp [hG, List.getD_cons_zero, List.getD_cons_succ, -List.getD_eq_getElem?_getD]; exact Clo.le _ Clo_ints) (h := by simp [hG, pBR, bRs_zero, bRs_succ, bS_succ, List.getD_cons_zero, List.getD_cons_succ, -List.getD_eq_getElem?_getD]; refine ⟨⟨rfl, rfl, Clo.le _ Clo_edgesC⟩, ?_⟩; repeat' (first | exact Clo.le _ Clo_edgesC | exact Clo.le _ Clo_ints | rfl | apply And.intro))
 rintro k ⟨hk, hwk, hn⟩
 refine zs (zs (zL (zlP 1 ?_)))
 refine zcP cal64 (onesR_c (bS g v m k).2 (by omega)) ?_
 refine zlP 1 ?_
 refine zN (zy (fun hb82 => ?_) fun hb82 => ?_)
 · have hno : onesB (bS g v m k).2 = false := (by simpa using hb82)
   refine zk (zb (zs (zs (zrP ?_))))
   refine zy (fun hb86 => ?_) fun hb86 => ?_
   · obtain rfl : k = 64 := (by omega)
     refine zs (zrP ?_)
     refine zt (zbt (ztt (zbt ?_)))
     refine RetOK_of ?_
     simp [hG, List.getD_cons_zero, List.getD_cons_succ, -List.getD_eq_getElem?_getD, pureOp]
     obtain ⟨e1, e2⟩ := bErr_3 h0 hn hno; rw [e1, e2]; exact ⟨⟨rfl, rfl, rfl, rfl, rfl, rfl⟩, rfl⟩
   have hk64 : k ≠ 64 := (by omega)
   refine zk (zs (zL (zlP 3 ?_)))
   refine zcP cal22 (chooseRf_c (bS g v m k).1 (bS g v m k).2 m) ?_
   refine zlP 5 ?_
   refine zN (zs (zs (zrP ?_)))
   refine zy (fun hb96 => ?_) fun hb96 => ?_
   · have hbe := bE_1 hb96
     refine zs (zrP ?_)
     refine zt (zbt (ztt (zbt ?_)))
     refine RetOK_of ?_
     simp [hG, List.getD_cons_zero, List.getD_cons_succ, -List.getD_eq_getElem?_getD, pureOp]
     obtain ⟨e1, e2⟩ := bErr_4 h0 (by omega) hn hno (by rw [hbe]; exact hb96); rw [e1, e2]; exact ⟨⟨rfl, rfl, rfl, rfl, rfl, rfl⟩, hbe.symm⟩
   have hc0 : cNo (bS g v m k).1 (bS g v m k).2 m = 0 := (by simpa using hb96)
   have hr := (cls_ok hc0).2.ok
   have hbe := bE_2 hc0
   have hal := aplG_len (g := (bS g v m k).1) (v := (bS g v m k).2) (m := m) hr
   refine zk (zs (zL (zlP 4 ?_)))
   refine zcP cal65 (applyRf_c (bS g v m k).1 (bS g v m k).2 m (bR g v m k) hr) ?_ (b := fun hg => by simp [hG, List.getD_cons_zero, List.getD_cons_succ, -List.getD_eq_getElem?_getD]; exact Clo.le _ Clo_spls)
   refine zlP 8 ?_
   refine zN (zs (zs (zrP ?_)))
   refine zy (fun hb110 => ?_) fun hb110 => ?_
   · refine zs (zrP ?_)
     refine zt (zbt (ztt (zbt ?_)))
     refine RetOK_of ?_
     simp [hG, List.getD_cons_zero, List.getD_cons_succ, -List.getD_eq_getElem?_getD, pureOp]
     obtain ⟨e1, e2⟩ := bErr_4 h0 (by omega) hn hno (by rw [hbe]; exact hb110); rw [e1, e2]; exact ⟨⟨rfl, rfl, rfl, rfl, rfl, rfl⟩, hbe.symm⟩
   have hz := bStop_no hno hk64 (by rw [hbe]; simpa using hb110)
   refine zk (zrP ?_)
   refine zn (zbn (zn ?_))
   refine round_end (k + 1) (⟨by omega, hal.2.1, step_all hn hz⟩) (by omega) ?_
   exact zw (fun k => if k = 4 then 6 else k) (fun _ => false) (fun _ => false) (e := by simp [hG, pBR, bRs_zero, bRs_succ, bS_succ, List.getD_cons_zero, List.getD_cons_succ, -List.getD_eq_getElem?_getD]) (h := by simp [hG, pBR, bRs_zero, bRs_succ, bS_succ, List.getD_cons_zero, List.getD_cons_succ, -List.getD_eq_getElem?_getD]; intro q hq; exact bRs_app hq)
 have hon : onesB (bS g v m k).2 = true := (by simpa using hb82)
 refine zx (ztx (zbx (zs (zrP ?_))))
 refine zt ?_
 refine RetOK_of ?_
 simp [hG, List.getD_cons_zero, List.getD_cons_succ, -List.getD_eq_getElem?_getD, pureOp]
 obtain ⟨e1, e2⟩ := bErr_2 h0 hk hn hon; rw [e1, e2]; refine ⟨⟨rfl, rfl, Clo.le _ Clo_edgesC, Clo.le _ Clo_ints, rfl, ?_⟩, rfl⟩; simp [pBR, bRs_len, List.getD_cons_zero, List.getD_cons_succ, -List.getD_eq_getElem?_getD]; first | done | exact fun q hq => Clo.le _ Clo_spls
end Go.Proofs.YthpdkmoedpcboaaGreat
namespace Go.Proofs.YthpdkmoedpcboaaGreat
set_option linter.unusedSimpArgs false
set_option linter.unusedVariables false
open Go Go.Lift Go.Proofs
set_option maxRecDepth 100000 in
set_option maxHeartbeats 1000000 in
theorem sameP_c (p : Prf) (he : p.g.edges.length ≤ 1000000) (hw : p.w.length ≤ maxLen) (hrl : p.rounds.length ≤ 1000000) (hr : ∀ i, i < p.rounds.length → RndOK (p.rounds.getD i [])) : PC Tryz.prog 26 [.agg 6 (prfF p), .agg 6 (prfF p)] (.bool true) := by
 refine zp Tryz.func26 fun G hG hR => ?_
 refine zs (zrP ?_)
 refine zs (zs (zL (zlP 4 ?_)))
 refine zcP cal14 (same9_c p.g p.g he) ?_
 refine zlP 6 ?_
 refine zcP cal15 (sameL_c p.w p.w hw) ?_
 refine zlP 18 ?_
 refine zN ?_
 refine awpS_cond rfl (fun hb35 => ?_) (fun hb35 => ?_)
 · exfalso; simp [sameG_self] at hb35
 try simp [-List.getD_eq_getElem?_getD] at hb35
 refine zk (zs (zs (zrP ?_)))
 refine zb ?_
 refine awpS_loop (α := Nat) (fun i => ⟨[(2, .ptr (0, 0) 0 0), (3, .ptr (1, 0) 0 0), (5, .int .i64 (i : Nat))], [(0, .one (.arr 1 6 (fun _ j => prfF p j))), (1, .one (.arr 1 6 (fun _ j => prfF p j)))], 2⟩) (fun i => i ≤ p.rounds.length) (fun i => p.rounds.length - i) (0) (Nat.zero_le _) ?_ ?_
 · exact ziP
 rintro i hi
 refine zs (zs (zrP ?_))
 refine zy (fun hb40 => ?_) fun hb40 => ?_
 · have hil : i < p.rounds.length := (by omega)
   refine zk (zs (zb (zs ?_)))
   refine awpS_draw hR mixed [] ⟨[], [], []⟩ fun mu0 => ?_
   refine zaP [0, 1, 2, 3, 4, 5, 6, 7, 8, 9] [] 2 [9, 8, 7, 6, 5, 4, 3, 2, 1, 0] ?_
   refine awpA_only (fuel := 1) (i := 10) (by decide +kernel) ?_
   refine zeP cal25 (sameRd_c (p.rounds.getD i []) (p.rounds.getD i []) (hr i (by omega))) ?_
   refine zaP [11] [] 0 [11, 10, 9, 8, 7, 6, 5, 4, 3, 2, 1, 0] ?_
   refine awpA_done (by decide +kernel) ?_
   refine awpS_cond rfl (fun hb54 => ?_) (fun hb54 => ?_)
   · exfalso; simp at hb54
   try simp [-List.getD_eq_getElem?_getD] at hb54
   refine zk (zn (zbn (zrP ?_)))
   refine zn ?_
   refine round_end (i + 1) (by omega) (by omega) ?_
   exact ziP
 refine zx (ztx (zbx (zs (zrP ?_))))
 refine zt ?_
 exact zRP
end Go.Proofs.YthpdkmoedpcboaaGreat
namespace Go.Proofs.YthpdkmoedpcboaaGreat
set_option linter.unusedSimpArgs false
set_option linter.unusedVariables false
open Go Go.Lift Go.Proofs
theorem bK_low {g : Gr} {v : List Int} {m : Int} {j : Nat} (hj : j < bK g v m) : bStop g v m j = false := by
  unfold bK at hj
  cases hf : (List.range 65).find? (bStop g v m) with
  | none =>
    rw [hf] at hj
    have hj2 : j < 64 := hj
    have := List.find?_eq_none.1 hf j (List.mem_range.2 (by omega))
    simpa using this
  | some k =>
    rw [hf] at hj
    have hj2 : j < k := hj
    obtain ⟨_, i, hi, e, hn⟩ := List.find?_eq_some_iff_getElem.1 hf
    rw [List.getElem_range] at e
    subst e
    have := hn j hj2
    rw [List.getElem_range] at this
    simpa using this
theorem bK_le {g : Gr} {v : List Int} {m : Int} : bK g v m ≤ 64 := by
  unfold bK
  cases hf : (List.range 65).find? (bStop g v m) with
  | none => exact Nat.le_refl _
  | some k =>
    have := List.mem_range.1 (List.mem_of_find?_eq_some hf)
    show k ≤ 64
    omega
theorem bRs_at {g : Gr} {v : List Int} {m : Int} {k i : Nat} (h : i < k) : (bRs g v m k).getD i [] = bR g v m i := by simp [bRs, List.getD, h]
theorem bP_ok {g : Gr} {v : List Int} {m : Int} : (bP g v m).g.edges.length ≤ 1000000 ∧ (bP g v m).w.length ≤ maxLen ∧ (bP g v m).rounds.length ≤ 1000000 ∧ ∀ i, i < (bP g v m).rounds.length → RndOK ((bP g v m).rounds.getD i []) := by
  by_cases hE : bErr g v m = 0
  · have h0 : eigN g v m = 0 := Classical.byContradiction fun hc => by rw [(bErr_1 hc).1] at hE; exact hc hE
    have e : bP g v m = ⟨bg g v m, bw g v m, m, bRs g v m (bK g v m)⟩ := if_pos hE
    rw [e]
    refine ⟨?_, ?_, ?_, fun i hi => ?_⟩
    · have h1 := keepE_len (g := bg0 g v m) (c := bc g v m) (i := (bg0 g v m).edges.length)
      have h2 := (gcheck_valid (bg0_ok h0).1).1.ed
      show (keepE (bg0 g v m) (bc g v m) (bg0 g v m).edges.length).length ≤ _
      omega
    · have h1 := bw_len h0
      have h2 : maxLen = 9223372036854775807 := by decide
      show (bw g v m).length ≤ maxLen
      omega
    · have := bK_le (g := g) (v := v) (m := m)
      show (bRs g v m (bK g v m)).length ≤ _
      rw [bRs_len]; omega
    · have hi1 : i < (bRs g v m (bK g v m)).length := hi
      rw [bRs_len] at hi1
      have hs := bK_low hi1
      unfold bStop at hs
      rw [Bool.or_eq_false_iff] at hs
      have hz : bE g v m i = 0 := by simpa using hs.2
      have hc0 : cNo (bS g v m i).1 (bS g v m i).2 m = 0 := Classical.byContradiction fun hc => by rw [bE_1 hc] at hz; exact hc hz
      show RndOK ((bRs g v m (bK g v m)).getD i [])
      rw [bRs_at hi1]
      exact (cls_ok hc0).2.ok
  · have e : bP g v m = ⟨⟨0, 0, []⟩, [], 0, []⟩ := if_neg hE
    rw [e]
    exact ⟨Nat.zero_le _, Nat.zero_le _, Nat.zero_le _, fun i hi => absurd hi (Nat.not_lt_zero _)⟩
theorem cls_rnd {g : Gr} {v : List Int} {m : Int} : RndOK (cLs g v m) := by
  by_cases h : cNo g v m = 0
  · exact (cls_ok h).2.ok
  · rw [cls_no h]; exact greatR_no (by decide)
set_option maxRecDepth 100000 in
set_option maxHeartbeats 1000000 in
theorem buildsLaw_c (g : Gr) (hge : g.edges.length ≤ maxLen) (v : List Int) (hvl : v.length ≤ maxLen) (m : Int) : PC Tryz.prog 5 [.agg 3 (grF g), ints v, .int .i64 m] (.bool true) := by
 have hML : maxLen = 9223372036854775807 := by decide
 have hbp := bP_ok (g := g) (v := v) (m := m)
 refine zp Tryz.func5 fun G hG hR => ?_
 refine zs (zrP ?_)
 refine zs (zs (zL (zlP 1 ?_)))
 refine zcP cal16 (great9_c g) ?_
 refine zlP 2 ?_
 refine zcP cal17 (greatV_c v hvl) ?_
 refine zlP 1 ?_
 refine zN (zy (fun hb20 => ?_) fun hb20 => ?_)
 · refine zs (zL ?_)
   refine zcP cal9 awake_c ?_
   refine zlP 1 ?_
   refine zN (zt ?_)
   exact zRP
 refine zk (zs (zL (zlP 3 ?_)))
 refine zcP cal18 (chooseR_c g v m) ?_
 refine zlP 5 ?_
 refine zN (zs (zL (zlP 3 ?_)))
 refine zcP cal22 (chooseRf_c g v m) ?_
 refine zlP 5 ?_
 refine zN (zs (zL (zlP 3 ?_)))
 refine zcP cal23 (buildM_c g v m) ?_
 refine zlP 6 ?_
 refine zN (zs (zL (zlP 3 ?_)))
 refine zcP cal24 (buildRf_c g v m) ?_
 refine zlP 6 ?_
 refine zN (zs (zL (zlP 2 ?_)))
 refine zcP cal25 (sameRd_c (cLs g v m) (cLs g v m) cls_rnd) ?_
 refine zlP 8 ?_
 refine zcP cal26 (sameP_c (bP g v m) hbp.1 hbp.2.1 hbp.2.2.1 hbp.2.2.2) ?_
 refine zlP 7 ?_
 refine zcP cal9 awake_c ?_
 refine zlP 2 ?_
 refine zN (zt ?_)
 exact zRP
end Go.Proofs.YthpdkmoedpcboaaGreat
namespace Go.Proofs.YthpdkmoedpcboaaGreat
set_option linter.unusedSimpArgs false
set_option linter.unusedVariables false
open Go Go.Lift Go.RowKit Go.ChangeShapes Go.WideShapes Go.ChangeAt
set_option maxRecDepth 100000 in
theorem buildsLaw_lifted (os : Os) (started : os.Started) (H : Type) (enc : TypeId × Value → H) :
    ReturnsInHanded {} Tryz.checked os 5 .any (Rows.splittingBuildsSpec.pre6 enc Tryz.prog Tryz.f5 Rows.splittingBuildsRow.domain false) (Rows.splittingBuildsSpec.post enc Tryz.prog Tryz.f5 false true false false) := by
  refine returnsInHanded_of_change (C := Tryz.checked) Tryz.own started (by kernel_rfl) Tryz.func5
    (ChangeSpec.witness6 (enc := enc) (C := Tryz.checked) false ⟨#[], #[.agg #[.int .i64 0, .int .i64 0, .slice none 0 0], .slice none 0 0, .int .i64 0], []⟩ 8 (by kernel_rfl) (by kernel_rfl) (by kernel_rfl) (by kernel_rfl)) ?_
  intro W base args ds gs before hval0 hW _ _
  have hval : ∀ (j : Nat) t v, Tryz.f5.params[j]? = some t → args[j]? = some v → Value.okWide Tryz.prog W .any base t v := hval0
  have hW' := hW
  obtain ⟨p, q, hA0, hV, rfl, _, _⟩ := hW
  have hA : DataW.TrodAll enc Tryz.prog W 0 (fun _ => true) true Tryz.f5.params.toList args.toList ds p := hA0
  rw [Tryz.params5] at hA hval
  obtain ⟨al, rfl⟩ : ∃ al : List Value, args = al.toArray := ⟨args.toList, by simp⟩
  simp only at hA
  obtain ⟨v0, al0, d0, ds0, p0, q0, rfl, rfl, rfl, h0, hA⟩ := trodAll_cons hA
  obtain ⟨v1, al1, d1, ds1, p1, q1, rfl, rfl, rfl, h1, hA⟩ := trodAll_cons hA
  obtain ⟨v2, al2, d2, ds2, p2, q2, rfl, rfl, rfl, h2, hA⟩ := trodAll_cons hA
  obtain ⟨rfl, rfl, rfl⟩ := trodAll_nil hA
  obtain ⟨rfl, rfl⟩ := trodVars_none hV
  obtain ⟨x0, w0, r0⟩ := arg_struct Tryz.underlying24 rdG (hval 0 24 v0 rfl rfl) h0
  obtain ⟨x1, w1, r1⟩ := arg_slice Tryz.underlying25 rdIs (hval 1 25 v1 rfl rfl) h1
  obtain ⟨x2, w2, r2⟩ := arg_int Tryz.underlying3 rdI (hval 2 3 v2 rfl rfl) h2
  refine (buildsLaw_c x0 w0 x1 w1 x2 (fun _ => False) W [v0, v1, v2] (fun _ h => h.elim) ⟨r0, r1, r2, trivial⟩).mono fun r W' ⟨v, hr, hk, hv⟩ => ?_
  subst hr
  have hv' : v = .bool true := hv
  subst hv'
  exact ⟨_, rfl, law_post Tryz.laidOut (by kernel_rfl) rfl rfl rfl Tryz.underlying4 hW' hk⟩
theorem buildsLaw_holds : Rows.SplittingBuildsSaid :=
  OpenClaim.holds_of_wide 5 Tryz.f5 rfl rfl rfl rfl rfl rfl rfl ⟨rfl, rfl, rfl, rfl, rfl⟩ rfl rfl rfl rfl rfl (by kernel_rfl) Tryz.func5 (by kernel_rfl)
    (of_decide_eq_true (by kernel_rfl)) (by unfold Func.isWrapper; first | (rw [if_pos (by decide +kernel)]; kernel_rfl) | (rw [if_neg (by decide +kernel)]; exact ⟨rfl, rfl⟩))
    (fun os started H enc _ => buildsLaw_lifted os started H enc)
#print axioms buildsLaw_holds
end Go.Proofs.YthpdkmoedpcboaaGreat
