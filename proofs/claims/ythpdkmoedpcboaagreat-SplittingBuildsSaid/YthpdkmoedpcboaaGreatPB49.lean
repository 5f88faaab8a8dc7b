/- Parts of the proof: XL. -/
import Derived.Test.YthpdkmoedpcboaaGreatPB15
import Derived.Test.YthpdkmoedpcboaaGreatPB48
namespace Go.Proofs.YthpdkmoedpcboaaGreat
set_option linter.unusedSimpArgs false
set_option linter.unusedVariables false
open Go Go.Lift Go.Proofs
theorem bRs_app {g : Gr} {v : List Int} {m : Int} {k q : Nat} {w : Nat → Nat → AVal} {h : Heap} {σ : Lift.Id → Lift.Id} {fz : Nat → Bool} {vz : Lift.Id → Bool} {nx : Nat} (hq : q < k + 1) : VLe h σ fz vz nx (spls ((bRs g v m k ++ [bR g v m k]).getD q [])) (app (fun i _ => spls ((bRs g v m k).getD i [])) k (fun i j => if i = 0 ∧ j = 0 then spls (cLs (bS g v m k).1 (bS g v m k).2 m) else w i j) q 0) := by
  have e := app_gen (f := spls) (l := bRs g v m k) (v := bR g v m k) (d := []) (g := w) (i := q) (by rw [bRs_len]; exact hq)
  rw [bRs_len] at e
  show VLe h σ fz vz nx _ (app (fun i _ => spls ((bRs g v m k).getD i [])) k (fun i j => if i = 0 ∧ j = 0 then spls (bR g v m k) else w i j) q 0)
  rw [e]
  exact Clo.le _ Clo_spls
set_option maxRecDepth 100000 in
set_option maxHeartbeats 1000000 in
theorem buildM_c (g : Gr) (v : List Int) (m : Int) : PC Tryz.prog 23 [.agg 3 (grF g), ints v, .int .i64 m] (.tup 2 (fun j => [.agg 6 (prfF (bP g v m)), .int .i64 (bErr g v m)].getD j .any)) := by
 refine zp Tryz.func23 fun G hG hR => ?_
 refine zs (zrP ?_)
 refine zs (zs (zL (zlP 3 ?_)))
 refine zcP cal53 (eigC_c g v m) ?_
 refine zlP 1 ?_
 refine zN (zs (zrP ?_))
 refine zy (fun hb21 => ?_) fun hb21 => ?_
 · refine zs (zrP ?_)
   refine zt ?_
   refine RetOK_of ?_
   simp [hG, List.getD_cons_zero, List.getD_cons_succ, -List.getD_eq_getElem?_getD, pureOp]
   obtain ⟨e1, e2⟩ := bErr_1 hb21; rw [e1, e2]; exact ⟨⟨rfl, rfl, rfl, rfl, rfl, rfl⟩, rfl⟩
 have h0 : eigN g v m = 0 := (by simpa using hb21)
 obtain ⟨hv, hm, hl, hbx⟩ := vecN_zero (eigN_zero h0).1
 have hst := (gcheck_valid hv).1.st
 obtain ⟨hlb, hll, hsp⟩ := lea_ok h0
 have hlv : ((leaL g v m).length : Int) = g.states := (by rw [hll]; exact hl)
 have hsl : (supL (leaL g v m)).length ≤ 64 := Nat.le_trans (supA_len _) (by omega)
 obtain ⟨hg0, hn0, hw0⟩ := bg0_ok h0
 obtain ⟨hsk, hc1, hc2, hc3, hc4⟩ := bc_ok h0
 have hwl := bw_len h0
 have hed0 := (gcheck_valid hg0).1.ed
 refine zk (zs (zL (zlP 3 ?_)))
 refine zcP cal54 (leastM_c g v m) ?_
 refine zlP 5 ?_
 refine zN (zs (zs (zrP ?_)))
 refine awpS_cond rfl (fun hb32 => ?_) (fun hb32 => ?_)
 · exact absurd h0 (by simpa using hb32)
 try simp [-List.getD_eq_getElem?_getD] at hb32
 refine zk (zs ?_)
 refine awpS_cut (α := Unit) (fun _u => ⟨[(1, ints (bw0 g v m)), (2, .int .i64 m), (3, .ptr (0, 0) 0 0), (6, .ptr (1, 0) 0 0)], [(0, .one (.arr 1 3 (fun _ => grF (bg0 g v m)))), (1, .one (.arr 1 6 (fun _ j => [.int .i64 0, .int .i64 0, .nils, .nils, .int .i64 0, .nils].getD j .any)))], 2⟩) (fun _u => True) ?_ ?_ (by simp)
 · refine awpS_draw hR mixed [] ⟨[8], [], []⟩ fun mu0 => ?_
   refine zaP [0, 1, 2] [] 7 [2, 1, 0] ?_
   refine awpA_only (fuel := 6) (i := 3) (by decide +kernel) ?_
   refine zeP cal56 (supM_c (leaL g v m) (by omega)) ?_
   refine awpA_only (fuel := 5) (i := 4) (by decide +kernel) ?_
   refine zeP cal55 (keepW_c g (leaL g v m) (supL (leaL g v m)) hv hlv supL_asc (supL_in hlv) hsl) ?_
   refine zaP [5, 6] [] 3 [6, 5, 4, 3, 2, 1, 0] ?_
   refine awpA_two (fuel := 2) (i := 7) (k := 8) (by decide +kernel) ?_ ?_
   · refine zoP ?_
     refine awpA_only (fuel := 1) (i := 8) (by decide +kernel) ?_
     refine zoP ?_
     refine zaP [9] [] 0 [9, 8, 7, 6, 5, 4, 3, 2, 1, 0] ?_
     refine awpA_done (by decide +kernel) ?_
     refine zn ?_
     refine cut_end (()) (trivial) ?_
     exact zi (e := by simp [hG, List.getD_cons_zero, List.getD_cons_succ, -List.getD_eq_getElem?_getD]; first | done | exact Clo.le _ Clo_ints) (h := by simp [hG, List.getD_cons_zero, List.getD_cons_succ, -List.getD_eq_getElem?_getD]; first | done | exact ⟨rfl, rfl, Clo.le _ Clo_edgesC⟩)
   refine zoP ?_
   refine zaP [7, 9] [] 0 [9, 7, 8, 6, 5, 4, 3, 2, 1, 0] ?_
   refine awpA_done (by decide +kernel) ?_
   refine zn ?_
   refine cut_end (()) (trivial) ?_
   exact zi (e := by simp [hG, List.getD_cons_zero, List.getD_cons_succ, -List.getD_eq_getElem?_getD]; first | done | exact Clo.le _ Clo_ints) (h := by simp [hG, List.getD_cons_zero, List.getD_cons_succ, -List.getD_eq_getElem?_getD]; first | done | exact ⟨rfl, rfl, Clo.le _ Clo_edgesC⟩)
 rintro _ _
 refine zs (zL (zlP 1 ?_))
 refine zcP cal57 (sinksK_c (bg0 g v m)) ?_
 refine zlP 5 ?_
 refine zN (zs ?_)
 refine awpS_cut (α := Unit) (fun _u => ⟨[(1, ints (bw g v m)), (2, .int .i64 m), (3, .ptr (0, 0) 0 0), (6, .ptr (1, 0) 0 0)], [(0, .one (.arr 1 3 (fun _ => grF (bg g v m)))), (1, .one (.arr 1 6 (fun _ j => [.int .i64 0, .int .i64 0, .nils, .nils, .int .i64 0, .nils].getD j .any)))], 2⟩) (fun _u => True) ?_ ?_ (by simp)
 · refine awpS_draw hR mixed [] ⟨[9], [], []⟩ fun mu0 => ?_
   refine zaP [0, 1, 2, 3, 4] [] 6 [4, 3, 2, 1, 0] ?_
   refine awpA_only (fuel := 5) (i := 5) (by decide +kernel) ?_
   refine zeP cal55 (keepW_c (bg0 g v m) (bw0 g v m) (bc g v m) hg0 hw0 hc1 hc2 hc3) ?_ (b := fun hg => by simp [hG, List.getD_cons_zero, List.getD_cons_succ, -List.getD_eq_getElem?_getD]; first | done | exact Clo.le _ Clo_ints | exact ⟨Clo.le _ Clo_ints, Clo.le _ Clo_ints⟩)
   refine zaP [6, 7] [] 3 [7, 6, 5, 4, 3, 2, 1, 0] ?_
   refine awpA_two (fuel := 2) (i := 8) (k := 9) (by decide +kernel) ?_ ?_
   · refine zoP ?_
     refine awpA_only (fuel := 1) (i := 9) (by decide +kernel) ?_
     refine zoP ?_
     refine zaP [10] [] 0 [10, 9, 8, 7, 6, 5, 4, 3, 2, 1, 0] ?_
     refine awpA_done (by decide +kernel) ?_
     refine zn ?_
     refine cut_end (()) (trivial) ?_
     exact zi (e := by simp [hG, List.getD_cons_zero, List.getD_cons_succ, -List.getD_eq_getElem?_getD]; first | done | exact Clo.le _ Clo_ints) (h := by simp [hG, List.getD_cons_zero, List.getD_cons_succ, -List.getD_eq_getElem?_getD]; first | done | exact ⟨rfl, rfl, Clo.le _ Clo_edgesC⟩)
   refine zoP ?_
   refine zaP [8, 10] [] 0 [10, 8, 9, 7, 6, 5, 4, 3, 2, 1, 0] ?_
   refine awpA_done (by decide +kernel) ?_
   refine zn ?_
   refine cut_end (()) (trivial) ?_
   exact zi (e := by simp [hG, List.getD_cons_zero, List.getD_cons_succ, -List.getD_eq_getElem?_getD]; first | done | exact Clo.le _ Clo_ints) (h := by simp [hG, List.getD_cons_zero, List.getD_cons_succ, -List.getD_eq_getElem?_getD]; first | done | exact ⟨rfl, rfl, Clo.le _ Clo_edgesC⟩)
 rintro _ _
 refine zs (zrP ?_)
 refine zs (zb ?_)
 refine awpS_loop (α := Nat) (fun k => ⟨[(1, ints (bS g v m k).2), (2, .int .i64 m), (3, .ptr (0, 0) 0 0), (6, .ptr (1, 0) 0 0), (13, .ptr (2, 0) 0 0)], [(0, .one (.arr 1 3 (fun _ => grF (bS g v m k).1))), (1, .one (.arr 1 6 (fun _ j => [.int .i64 0, .int .i64 0, .nils, .nils, .int .i64 0, .nils].getD j .any))), (2, .one (.arr 1 6 (fun _ c => pBF g v m k c))), (3, .one (.arr k 1 (fun j _ => spls ((bRs g v m k).getD j []))))], 4⟩) (fun k => k ≤ 64 ∧ (bS g v m k).2.length ≤ 64 ∧ ∀ j, j < k → bStop g v m j = false) (fun k => 64 - k) (0) (⟨Nat.zero_le _, hwl, fun j hj => absurd hj (Nat.not_lt_zero _)⟩) ?_ ?_
 · exact zw (id) (fun _ => false) (fun k => k == 3) (e := by simp [hG, List.getD_cons_zero, List.getD_cons_succ, -List.getD_eq_getElem?_getD]; exact Clo.le _ Clo_ints) (h := by simp [hG, pBF, bRs_zero, bRs_succ, bS_succ, List.getD_cons_zero, List.getD_cons_succ, -List.getD_eq_getElem?_getD]; (try refine ⟨⟨rfl, rfl, Clo.le _ Clo_edgesC⟩, ?_⟩); repeat' (first | exact Clo.le _ Clo_edgesC | exact Clo.le _ Clo_ints | rfl | apply And.intro))
 rintro k ⟨hk, hwk, hn⟩
 refine zs (zs (zL (zlP 1 ?_)))
 refine zcP cal58 (light_c (bS g v m k).2 (by omega)) ?_
 refine zlP 1 ?_
 refine zN (zy (fun hb63 => ?_) fun hb63 => ?_)
 · have hno : onesB (bS g v m k).2 = false := (by simpa using hb63)
   refine zk (zb (zs (zs (zrP ?_))))
   refine zy (fun hb67 => ?_) fun hb67 => ?_
   · obtain rfl : k = 64 := (by omega)
     refine zs (zrP ?_)
     refine zt (zbt (ztt (zbt ?_)))
     refine RetOK_of ?_
     simp [hG, List.getD_cons_zero, List.getD_cons_succ, -List.getD_eq_getElem?_getD, pureOp]
     obtain ⟨e1, e2⟩ := bErr_3 h0 hn hno; rw [e1, e2]; exact ⟨⟨rfl, rfl, rfl, rfl, rfl, rfl⟩, rfl⟩
   have hk64 : k ≠ 64 := (by omega)
   refine zk (zs (zL (zlP 3 ?_)))
   refine zcP cal18 (chooseR_c (bS g v m k).1 (bS g v m k).2 m) ?_
   refine zlP 5 ?_
   refine zN (zs (zs (zrP ?_)))
   refine zy (fun hb77 => ?_) fun hb77 => ?_
   · have hbe := bE_1 hb77
     refine zs (zrP ?_)
     refine zt (zbt (ztt (zbt ?_)))
     refine RetOK_of ?_
     simp [hG, List.getD_cons_zero, List.getD_cons_succ, -List.getD_eq_getElem?_getD, pureOp]
     obtain ⟨e1, e2⟩ := bErr_4 h0 (by omega) hn hno (by rw [hbe]; exact hb77); rw [e1, e2]; exact ⟨⟨rfl, rfl, rfl, rfl, rfl, rfl⟩, hbe.symm⟩
   have hc0 : cNo (bS g v m k).1 (bS g v m k).2 m = 0 := (by simpa using hb77)
   have hr := (cls_ok hc0).2.ok
   have hbe := bE_2 hc0
   have hal := aplG_len (g := (bS g v m k).1) (v := (bS g v m k).2) (m := m) hr
   refine zk (zs (zs (zL (zlP 4 ?_))))
   refine zcP cal19 (applyC_c (bS g v m k).1 (bS g v m k).2 m (bR g v m k) hr) ?_ (b := fun hg => by simp [hG, List.getD_cons_zero, List.getD_cons_succ, -List.getD_eq_getElem?_getD]; exact Clo.le _ Clo_spls)
   refine zlP 8 ?_
   refine zN (zs (zrP ?_))
   refine zy (fun hb91 => ?_) fun hb91 => ?_
   · refine zs (zrP ?_)
     refine zt (zbt (ztt (zbt ?_)))
     refine RetOK_of ?_
     simp [hG, List.getD_cons_zero, List.getD_cons_succ, -List.getD_eq_getElem?_getD, pureOp]
     obtain ⟨e1, e2⟩ := bErr_4 h0 (by omega) hn hno (by rw [hbe]; exact hb91); rw [e1, e2]; exact ⟨⟨rfl, rfl, rfl, rfl, rfl, rfl⟩, hbe.symm⟩
   have hz := bStop_no hno hk64 (by rw [hbe]; simpa using hb91)
   refine zk (zrP ?_)
   refine zn (zbn (zn ?_))
   refine round_end (k + 1) (⟨by omega, hal.2.1, step_all hn hz⟩) (by omega) ?_
   exact zw (fun k => if k = 3 then 5 else k) (fun _ => false) (fun _ => false) (e := by simp [hG, pBF, bRs_zero, bRs_succ, bS_succ, List.getD_cons_zero, List.getD_cons_succ, -List.getD_eq_getElem?_getD]) (h := by simp [hG, pBF, bRs_zero, bRs_succ, bS_succ, List.getD_cons_zero, List.getD_cons_succ, -List.getD_eq_getElem?_getD]; intro q hq; exact bRs_app hq)
 have hon : onesB (bS g v m k).2 = true := (by simpa using hb63)
 refine zx (ztx (zbx (zs (zrP ?_))))
 refine zt ?_
 refine RetOK_of ?_
 simp [hG, List.getD_cons_zero, List.getD_cons_succ, -List.getD_eq_getElem?_getD, pureOp]
 obtain ⟨e1, e2⟩ := bErr_2 h0 hk hn hon; rw [e1, e2]; refine ⟨⟨rfl, rfl, Clo.le _ Clo_edgesC, Clo.le _ Clo_ints, rfl, ?_⟩, rfl⟩; simp [pBF, bRs_len, List.getD_cons_zero, List.getD_cons_succ, -List.getD_eq_getElem?_getD]; first | done | exact fun q hq => Clo.le _ Clo_spls
end Go.Proofs.YthpdkmoedpcboaaGreat
