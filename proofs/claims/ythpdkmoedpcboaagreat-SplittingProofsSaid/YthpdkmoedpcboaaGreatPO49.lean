/- Parts of the proof: XL XO XP. -/
import Derived.Test.YthpdkmoedpcboaaGreatPO15
import Derived.Test.YthpdkmoedpcboaaGreatPO48
namespace Go.Proofs.YthpdkmoedpcboaaGreat
set_option linter.unusedSimpArgs false
set_option linter.unusedVariables false
open Go Go.Lift Go.Proofs
theorem bRs_app {g : Gr} {v : List Int} {m : Int} {k q : Nat} {w : Nat → Nat → AVal} {h : Heap} {σ : Lift.Id → Lift.Id} {fz : Nat → Bool} {vz : Lift.Id → Bool} {nx : Nat} (hq : q < k + 1) : VLe h σ fz vz nx (spls ((bRs g v m k ++ [bR g v m k]).getD q [])) (app (fun i _ => spls ((bRs g v m k).getD i [])) k (fun i j => if i = 0 ∧ j = 0 then spls (cLs (bS g v m k).1 (bS g v m k).2 m) else w i j) q 0) := by
  have e := app_gen (f := spls) (l := bRs g v m k) (v := bR g v m k) (d := []) (g := w) (i := q) (by rw [bRs_len]; exact hq)
  rw [bRs_len] at e
  show VLe h σ fz vz nx _ (app (fun i _ => spls ((bRs g v m k).getD i [])) k (fun i j => if i = 0 ∧ j = 0 then spls (bR g v m k) else w i j) q 0)
  rw [e]
  exact Clo.le _ Clo_spls
set_option maxRecDepth 100000 in
set_option maxHeartbeats 1000000 in
theorem buildM_c (g : Gr) (v : List Int) (m : Int) : PC Tryz.prog 23 [.agg 3 (grF g), ints v, .int .i64 m] (.tup 2 (fun j => [.agg 6 (prfF (bP g v m)), .int .i64 (bErr g v m)].getD j .any)) := by
 refine zp Tryz.func23 fun G hG hR => ?_
 refine zs (zrP ?_)
 refine zs (zs (zL (zlP 3 ?_)))
 refine zcP cal53 (eigC_c g v m) ?_
 refine zlP 1 ?_
 refine zN (zs (zrP ?_))
 refine zy (fun hb21 => ?_) fun hb21 => ?_
 · refine zs (zrP ?_)
   refine zt ?_
   refine RetOK_of ?_
   simp [hG, List.getD_cons_zero, List.getD_cons_succ, -List.getD_eq_getElem?_getD, pureOp]
   obtain ⟨e1, e2⟩ := bErr_1 hb21; rw [e1, e2]; exact ⟨⟨rfl, rfl, rfl, rfl, rfl, rfl⟩, rfl⟩
 have h0 : eigN g v m = 0 := (by simpa using hb21)
 obtain ⟨hv, hm, hl, hbx⟩ := vecN_zero (eigN_zero h0).1
 have hst := (gcheck_valid hv).1.st
 obtain ⟨hlb, hll, hsp⟩ := lea_ok h0
 have hlv : ((leaL g v m).length : Int) = g.states := (by rw [hll]; exact hl)
 have hsl : (supL (leaL g v m)).length ≤ 64 := Nat.le_trans (supA_len _) (by omega)
 obtain ⟨hg0, hn0, hw0⟩ := bg0_ok h0
 obtain ⟨hsk, hc1, hc2, hc3, hc4⟩ := bc_ok h0
 have hwl := bw_len h0
 have hed0 := (gcheck_valid hg0).1.ed
 refine zk (zs (zL (zlP 3 ?_)))
 refine zcP cal54 (leastM_c g v m) ?_
 refine zlP 5 ?_
 refine zN (zs (zs (zrP ?_)))
 refine awpS_cond rfl (fun hb32 => ?_) (fun hb32 => ?_)
 · exact absurd h0 (by simpa using hb32)
 try simp [-List.getD_eq_getElem?_getD] at hb32
 refine zk (zs ?_)
 refine awpS_cut (α := Unit) (fun _u => ⟨[(1, ints (bw0 g v m)), (2, .int .i64 m), (3, .ptr (0, 0) 0 0), (6, .ptr (1, 0) 0 0)], [(0, .one (.arr 1 3 (fun _ => grF (bg0 g v m)))), (1, .one (.arr 1 6 (fun _ j => [.int .i64 0, .int .i64 0, .nils, .nils, .int .i64 0, .nils].getD j .any)))], 2⟩) (fun _u => True) ?_ ?_ (by simp)
 · refine awpS_draw hR mixed [] ⟨[8], [], []⟩ fun mu0 => ?_
   refine zaP [0, 1, 2] [] 7 [2, 1, 0] ?_
   refine awpA_only (fuel := 6) (i := 3) (by decide +kernel) ?_
   refine zeP cal56 (supM_c (leaL g v m) (by omega)) ?_
   refine awpA_only (fuel := 5) (i := 4) (by decide +kernel) ?_
   refine zeP cal55 (keepW_c g (leaL g v m) (supL (leaL g v m)) hv hlv supL_asc (supL_in hlv) hsl) ?_
   refine zaP [5, 6] [] 3 [6, 5, 4, 3, 2, 1, 0] ?_
   refine awpA_two (fuel := 2) (i := 7) (k := 8) (by decide +kernel) ?_ ?_
   · refine zoP ?_
     refine awpA_only (fuel := 1) (i := 8) (by decide +kernel) ?_
     refine zoP ?_
     refine zaP [9] [] 0 [9, 8, 7, 6, 5, 4, 3, 2, 1, 0] ?_
     refine awpA_done (by decide +kernel) ?_
     refine zn ?_
     refine cut_end (()) (trivial) ?_
     exact zi (e := by simp [hG, List.getD_cons_zero, List.getD_cons_succ, -List.getD_eq_getElem?_getD]; first | done | exact Clo.le _ Clo_ints) (h := by simp [hG, List.getD_cons_zero, List.getD_cons_succ, -List.getD_eq_getElem?_getD]; first | done | exact ⟨rfl, rfl, Clo.le _ Clo_edgesC⟩)
   refine zoP ?_
   refine zaP [7, 9] [] 0 [9, 7, 8, 6, 5, 4, 3, 2, 1, 0] ?_
   refine awpA_done (by decide +kernel) ?_
   refine zn ?_
   refine cut_end (()) (trivial) ?_
   exact zi (e := by simp [hG, List.getD_cons_zero, List.getD_cons_succ, -List.getD_eq_getElem?_getD]; first | done | exact Clo.le _ Clo_ints) (h := by simp [hG, List.getD_cons_zero, List.getD_cons_succ, -List.getD_eq_getElem?_getD]; first | done | exact ⟨rfl, rfl, Clo.le _ Clo_edgesC⟩)
 rintro _ _
 refine zs (zL (zlP 1 ?_))
 refine zcP cal57 (sinksK_c (bg0 g v m)) ?_
 refine zlP 5 ?_
 refine zN (zs ?_)
 refine awpS_cut (α := Unit) (fun _u => ⟨[(1, ints (bw g v m)), (2, .int .i64 m), (3, .ptr (0, 0) 0 0), (6, .ptr (1, 0) 0 0)], [(0, .one (.arr 1 3 (fun _ => grF (bg g v m)))), (1, .one (.arr 1 6 (fun _ j => [.int .i64 0, .int .i64 0, .nils, .nils, .int .i64 0, .nils].getD j .any)))], 2⟩) (fun _u => True) ?_ ?_ (by simp)
 · refine awpS_draw hR mixed [] ⟨[9], [], []⟩ fun mu0 => ?_
   refine zaP [0, 1, 2, 3, 4] [] 6 [4, 3, 2, 1, 0] ?_
   refine awpA_only (fuel := 5) (i := 5) (by decide +kernel) ?_
   refine zeP cal55 (keepW_c (bg0 g v m) (bw0 g v m) (bc g v m) hg0 hw0 hc1 hc2 hc3) ?_ (b := fun hg => by simp [hG, List.getD_cons_zero, List.getD_cons_succ, -List.getD_eq_getElem?_getD]; first | done | exact Clo.le _ Clo_ints | exact ⟨Clo.le _ Clo_ints, Clo.le _ Clo_ints⟩)
   refine zaP [6, 7] [] 3 [7, 6, 5, 4, 3, 2, 1, 0] ?_
   refine awpA_two (fuel := 2) (i := 8) (k := 9) (by decide +kernel) ?_ ?_
   · refine zoP ?_
     refine awpA_only (fuel := 1) (i := 9) (by decide +kernel) ?_
     refine zoP ?_
     refine zaP [10] [] 0 [10, 9, 8, 7, 6, 5, 4, 3, 2, 1, 0] ?_
     refine awpA_done (by decide +kernel) ?_
     refine zn ?_
     refine cut_end (()) (trivial) ?_
     exact zi (e := by simp [hG, List.getD_cons_zero, List.getD_cons_succ, -List.getD_eq_getElem?_getD]; first | done | exact Clo.le _ Clo_ints) (h := by simp [hG, List.getD_cons_zero, List.getD_cons_succ, -List.getD_eq_getElem?_getD]; first | done | exact ⟨rfl, rfl, Clo.le _ Clo_edgesC⟩)
   refine zoP ?_
   refine zaP [8, 10] [] 0 [10, 8, 9, 7, 6, 5, 4, 3, 2, 1, 0] ?_
   refine awpA_done (by decide +kernel) ?_
   refine zn ?_
   refine cut_end (()) (trivial) ?_
   exact zi (e := by simp [hG, List.getD_cons_zero, List.getD_cons_succ, -List.getD_eq_getElem?_getD]; first | done | exact Clo.le _ Clo_ints) (h := by simp [hG, List.getD_cons_zero, List.getD_cons_succ, -List.getD_eq_getElem?_getD]; first | done | exact ⟨rfl, rfl, Clo.le _ Clo_edgesC⟩)
 rintro _ _
 refine zs (zrP ?_)
 refine zs (zb ?_)
 refine awpS_loop (α := Nat) (fun k => ⟨[(1, ints (bS g v m k).2), (2, .int .i64 m), (3, .ptr (0, 0) 0 0), (6, .ptr (1, 0) 0 0), (13, .ptr (2, 0) 0 0)], [(0, .one (.arr 1 3 (fun _ => grF (bS g v m k).1))), (1, .one (.arr 1 6 (fun _ j => [.int .i64 0, .int .i64 0, .nils, .nils, .int .i64 0, .nils].getD j .any))), (2, .one (.arr 1 6 (fun _ c => pBF g v m k c))), (3, .one (.arr k 1 (fun j _ => spls ((bRs g v m k).getD j []))))], 4⟩) (fun k => k ≤ 64 ∧ (bS g v m k).2.length ≤ 64 ∧ ∀ j, j < k → bStop g v m j = false) (fun k => 64 - k) (0) (⟨Nat.zero_le _, hwl, fun j hj => absurd hj (Nat.not_lt_zero _)⟩) ?_ ?_
 · exact zw (id) (fun _ => false) (fun k => k == 3) (e := by simp [hG, List.getD_cons_zero, List.getD_cons_succ, -List.getD_eq_getElem?_getD]; exact Clo.le _ Clo_ints) (h := by simp [hG, pBF, bRs_zero, bRs_succ, bS_succ, List.getD_cons_zero, List.getD_cons_succ, -List.getD_eq_getElem?_getD]; (try refine ⟨⟨rfl, rfl, Clo.le _ Clo_edgesC⟩, ?_⟩); repeat' (first | exact Clo.le _ Clo_edgesC | exact Clo.le _ Clo_ints | rfl | apply And.intro))
 rintro k ⟨hk, hwk, hn⟩
 refine zs (zs (zL (zlP 1 ?_)))
 refine zcP cal58 (light_c (bS g v m k).2 (by omega)) ?_
 refine zlP 1 ?_
 refine zN (zy (fun hb63 => ?_) fun hb63 => ?_)
 · have hno : onesB (bS g v m k).2 = false := (by simpa using hb63)
   refine zk (zb (zs (zs (zrP ?_))))
   refine zy (fun hb67 => ?_) fun hb67 => ?_
   · obtain rfl : k = 64 := (by omega)
     refine zs (zrP ?_)
     refine zt (zbt (ztt (zbt ?_)))
     refine RetOK_of ?_
     simp [hG, List.getD_cons_zero, List.getD_cons_succ, -List.getD_eq_getElem?_getD, pureOp]
     obtain ⟨e1, e2⟩ := bErr_3 h0 hn hno; rw [e1, e2]; exact ⟨⟨rfl, rfl, rfl, rfl, rfl, rfl⟩, rfl⟩
   have hk64 : k ≠ 64 := (by omega)
   refine zk (zs (zL (zlP 3 ?_)))
   refine zcP cal18 (chooseR_c (bS g v m k).1 (bS g v m k).2 m) ?_
   refine zlP 5 ?_
   refine zN (zs (zs (zrP ?_)))
   refine zy (fun hb77 => ?_) fun hb77 => ?_
   · have hbe := bE_1 hb77
     refine zs (zrP ?_)
     refine zt (zbt (ztt (zbt ?_)))
     refine RetOK_of ?_
     simp [hG, List.getD_cons_zero, List.getD_cons_succ, -List.getD_eq_getElem?_getD, pureOp]
     obtain ⟨e1, e2⟩ := bErr_4 h0 (by omega) hn hno (by rw [hbe]; exact hb77); rw [e1, e2]; exact ⟨⟨rfl, rfl, rfl, rfl, rfl, rfl⟩, hbe.symm⟩
   have hc0 : cNo (bS g v m k).1 (bS g v m k).2 m = 0 := (by simpa using hb77)
   have hr := (cls_ok hc0).2.ok
   have hbe := bE_2 hc0
   have hal := aplG_len (g := (bS g v m k).1) (v := (bS g v m k).2) (m := m) hr
   refine zk (zs (zs (zL (zlP 4 ?_))))
   refine zcP cal19 (applyC_c (bS g v m k).1 (bS g v m k).2 m (bR g v m k) hr) ?_ (b := fun hg => by simp [hG, List.getD_cons_zero, List.getD_cons_succ, -List.getD_eq_getElem?_getD]; exact Clo.le _ Clo_spls)
   refine zlP 8 ?_
   refine zN (zs (zrP ?_))
   refine zy (fun hb91 => ?_) fun hb91 => ?_
   · refine zs (zrP ?_)
     refine zt (zbt (ztt (zbt ?_)))
     refine RetOK_of ?_
     simp [hG, List.getD_cons_zero, List.getD_cons_succ, -List.getD_eq_getElem?_getD, pureOp]
     obtain ⟨e1, e2⟩ := bErr_4 h0 (by omega) hn hno (by rw [hbe]; exact hb91); rw [e1, e2]; exact ⟨⟨rfl, rfl, rfl, rfl, rfl, rfl⟩, hbe.symm⟩
   have hz := bStop_no hno hk64 (by rw [hbe]; simpa using hb91)
   refine zk (zrP ?_)
   refine zn (zbn (zn ?_))
   refine round_end (k + 1) (⟨by omega, hal.2.1, step_all hn hz⟩) (by omega) ?_
   exact zw (fun k => if k = 3 then 5 else k) (fun _ => false) (fun _ => false) (e := by simp [hG, pBF, bRs_zero, bRs_succ, bS_succ, List.getD_cons_zero, List.getD_cons_succ, -List.getD_eq_getElem?_getD]) (h := by simp [hG, pBF, bRs_zero, bRs_succ, bS_succ, List.getD_cons_zero, List.getD_cons_succ, -List.getD_eq_getElem?_getD]; intro q hq; exact bRs_app hq)
 have hon : onesB (bS g v m k).2 = true := (by simpa using hb63)
 refine zx (ztx (zbx (zs (zrP ?_))))
 refine zt ?_
 refine RetOK_of ?_
 simp [hG, List.getD_cons_zero, List.getD_cons_succ, -List.getD_eq_getElem?_getD, pureOp]
 obtain ⟨e1, e2⟩ := bErr_2 h0 hk hn hon; rw [e1, e2]; refine ⟨⟨rfl, rfl, Clo.le _ Clo_edgesC, Clo.le _ Clo_ints, rfl, ?_⟩, rfl⟩; simp [pBF, bRs_len, List.getD_cons_zero, List.getD_cons_succ, -List.getD_eq_getElem?_getD]; first | done | exact fun q hq => Clo.le _ Clo_spls
end Go.Proofs.YthpdkmoedpcboaaGreat
namespace Go.Proofs.YthpdkmoedpcboaaGreat
set_option linter.unusedSimpArgs false
set_option linter.unusedVariables false
open Go Go.Lift Go.Proofs
theorem bK_low {g : Gr} {v : List Int} {m : Int} {j : Nat} (hj : j < bK g v m) : bStop g v m j = false := by
  unfold bK at hj
  cases hf : (List.range 65).find? (bStop g v m) with
  | none =>
    rw [hf] at hj
    have hj2 : j < 64 := hj
    have := List.find?_eq_none.1 hf j (List.mem_range.2 (by omega))
    simpa using this
  | some k =>
    rw [hf] at hj
    have hj2 : j < k := hj
    obtain ⟨_, i, hi, e, hn⟩ := List.find?_eq_some_iff_getElem.1 hf
    rw [List.getElem_range] at e
    subst e
    have := hn j hj2
    rw [List.getElem_range] at this
    simpa using this
theorem bK_le {g : Gr} {v : List Int} {m : Int} : bK g v m ≤ 64 := by
  unfold bK
  cases hf : (List.range 65).find? (bStop g v m) with
  | none => exact Nat.le_refl _
  | some k =>
    have := List.mem_range.1 (List.mem_of_find?_eq_some hf)
    show k ≤ 64
    omega
theorem bRs_at {g : Gr} {v : List Int} {m : Int} {k i : Nat} (h : i < k) : (bRs g v m k).getD i [] = bR g v m i := by simp [bRs, List.getD, h]
end Go.Proofs.YthpdkmoedpcboaaGreat
namespace Go.Proofs.YthpdkmoedpcboaaGreat
set_option linter.unusedSimpArgs false
set_option linter.unusedVariables false
open Go Go.Lift Go.Proofs
theorem sumV_keep {g : Gr} {c : List Int} (hc : c.Pairwise (· < ·)) (hp : ∀ x ∈ c, 0 ≤ x) {w : List Int} {i : Nat} (hi : i < c.length) (h0 : ∀ x ∈ g.edges, x.frm = c.getD i 0 → x.to ∉ c → w.getD x.to.toNat 0 = 0) :
    sumV (keptG g c) (pickL w c) i = sumV g w (c.getD i 0).toNat := by
  have hci : (((c.getD i 0).toNat : Nat) : Int) = c.getD i 0 := by
    have := hp _ (getD_mem (d := (0 : Int)) hi); omega
  rw [sumV_map, sumV_map, hci]
  show (((g.edges.take g.edges.length).filter (inBoth c)).map (mapE c) |>.map _).sum = _
  rw [List.take_length, List.map_map, ← sum_filter]
  congr 1
  refine List.map_congr_left fun x hx => ?_
  by_cases hb : inBoth c x = true
  · rw [if_pos hb]
    obtain ⟨h1, h2⟩ := inBoth_mem hb
    show (if (rankI c x.frm : Int) = (i : Int) then (pickL w c).getD ((rankI c x.to : Int)).toNat 0 else 0) = _
    have e1 : ((rankI c x.to : Int)).toNat = rankI c x.to := by omega
    rw [e1, pickL_at (rank_lt hc h2), at_rank hc h2]
    have e2 : ((rankI c x.frm : Int) = (i : Int)) ↔ x.frm = c.getD i 0 := by
      constructor
      · intro h
        have h3 : rankI c x.frm = i := by omega
        rw [← at_rank hc h1, h3]
      · intro h
        rw [h, rank_at hc i hi]
    by_cases h : x.frm = c.getD i 0
    · rw [if_pos (e2.2 h), if_pos h]
    · rw [if_neg (fun h3 => h (e2.1 h3)), if_neg h]
  · rw [if_neg hb]
    by_cases h : x.frm = c.getD i 0
    · rw [if_pos h]
      have h1 : x.frm ∈ c := h ▸ getD_mem hi
      refine (h0 x hx h fun h2 => hb ?_).symm
      unfold inBoth hasI
      rw [decide_eq_true h1, decide_eq_true h2]; rfl
    · rw [if_neg h]
theorem base_keep {g : Gr} {m : Int} (hg : gcheck g = 0) (hm : 1 ≤ m ∧ m ≤ 256) {c : List Int} (hc : c.Pairwise (· < ·)) (hp : ∀ x ∈ c, 0 ≤ x) (hl : c.length ≤ 64) (hl0 : 0 < c.length) {w : List Int}
    (hw : ∀ x ∈ c, 1 ≤ w.getD x.toNat 0 ∧ w.getD x.toNat 0 ≤ 4096) (he : ∀ x ∈ c, m * w.getD x.toNat 0 ≤ sumV g w x.toNat)
    (h0 : ∀ x ∈ g.edges, x.frm ∈ c → x.to ∉ c → w.getD x.to.toNat 0 = 0) : baseN (keptG g c) (pickL w c) m = 0 := by
  have hlen : (pickL w c).length = c.length := pickL_len
  have hbx : ∀ n ∈ pickL w c, 1 ≤ n ∧ n ≤ 4096 := fun n hn => by
    obtain ⟨x, hx, rfl⟩ := List.mem_map.1 (show n ∈ c.map fun s => w.getD s.toNat 0 from hn)
    exact hw x hx
  have hvec : vecN (keptG g c) (pickL w c) m = 0 := by
    rw [vecN_4 (keep_valid hg hc hl) hm (by rw [hlen]; rfl), if_neg]
    rw [List.any_eq_true]
    rintro ⟨n, hn, hb⟩
    have := hbx n hn
    simp only [badV, decide_eq_true_eq] at hb
    omega
  have hal : ((pickL w c).all fun n => decide (n = 0)) = false := by
    rw [List.all_eq_false]
    have h1 : (pickL w c).getD 0 0 ∈ pickL w c := getD_mem (by omega)
    refine ⟨_, h1, ?_⟩
    have := hbx _ h1
    simp only [decide_eq_true_eq]
    omega
  have hlow : lowS (keptG g c) (pickL w c) m = false := low_no fun s hs => by
    have hs' : s < c.length := by
      have : (s : Int) < (c.length : Int) := hs
      omega
    have hx := getD_mem (d := (0 : Int)) hs'
    rw [sumV_keep hc hp hs' fun x hx h1 h2 => h0 x hx (h1 ▸ getD_mem hs') h2, pickL_at hs']
    have := he _ hx
    omega
  rw [baseN_2 (by rw [eigN_3 hvec hal, if_neg (by rw [hlow]; simp)]), if_neg]
  intro h
  have := hbx 0 (by unfold hasI at h; simpa using h)
  omega
section
variable {g : Gr} {v : List Int} {m : Int}
theorem eig_low (h : eigN g v m = 0) {s : Nat} (hs : (s : Int) < g.states) : m * v.getD s 0 ≤ sumV g v s := by
  refine Int.not_lt.1 fun hc => ?_
  have := low_yes hs hc
  rw [(eigN_zero h).2.2] at this
  cases this
theorem lst_low (h : eigN g v m = 0) : ∀ k (s : Nat), (s : Int) < g.states → m * (lstI g m v k).getD s 0 ≤ sumV g (lstI g m v k) s
  | 0, s, hs => by rw [lstI_zero]; exact eig_low h hs
  | k + 1, s, hs => by
    obtain ⟨hg, hm, hl, hb⟩ := vecN_zero (eigN_zero h).1
    obtain ⟨b1, b2⟩ := lst_box (g := g) hm.1 hb k
    cases hlo : lowI g m (lstI g m v k) with
    | none => rw [lstI_none hlo]; exact lst_low h k s hs
    | some q =>
      rw [lstI_some hlo]
      obtain ⟨hq, hq0, _⟩ := lowI_in hlo
      have hd := decV_box b1 hq0
      obtain ⟨c1, c2⟩ := gre_box (g := g) (m := m) hm.1 hd
      have hfix := gre_fix (g := g) (m := m) hm.1 hd
      generalize greV g (decV (lstI g m v k) q) m = w at hfix c1 c2
      have hsl : s < w.length := by rw [c2, decV_len, b2]; omega
      have h1 := nxtV_at (g := g) (v := w) (m := m) hsl
      rw [hfix] at h1
      have h2 : w.getD s 0 ≤ sumV g w s / m := by
        unfold nxC at h1; omega
      rw [Int.mul_comm]
      exact (Int.le_ediv_iff_mul_le (by omega)).1 h2
theorem lea_low (h : eigN g v m = 0) {s : Nat} (hs : (s : Int) < g.states) : m * (leaL g v m).getD s 0 ≤ sumV g (leaL g v m) s := by
  rw [leaL_2 h]; exact lst_low h _ s hs
theorem sup_in (h : eigN g v m = 0) {x : Int} : x ∈ supL (leaL g v m) ↔ (0 ≤ x ∧ x < g.states) ∧ 0 < (leaL g v m).getD x.toNat 0 := by
  obtain ⟨hg, hm, hl, hb⟩ := vecN_zero (eigN_zero h).1
  obtain ⟨_, h2, _⟩ := lea_ok h
  unfold supL
  rw [supA_mem]
  constructor
  · rintro ⟨j, hj, rfl, h3⟩
    exact ⟨by omega, by simpa using h3⟩
  · rintro ⟨h3, h4⟩
    exact ⟨x.toNat, by omega, by omega, h4⟩
theorem bg0_base (h : eigN g v m = 0) : baseN (bg0 g v m) (bw0 g v m) m = 0 := by
  obtain ⟨hg, hm, hl, hb⟩ := vecN_zero (eigN_zero h).1
  obtain ⟨h1, h2, h3⟩ := lea_ok h
  have hst := (gcheck_valid hg).1.st
  refine base_keep hg hm supL_asc (fun x hx => ((sup_in h).1 hx).1.1) (Nat.le_trans (supA_len _) (by omega)) h3 (fun x hx => ?_) (fun x hx => ?_) (fun x hx _ hn => ?_)
  · have h4 := ((sup_in h).1 hx).2
    have h5 := box_at h1 x.toNat
    omega
  · have h4 := ((sup_in h).1 hx).1
    exact lea_low h (by omega)
  · have h5 := box_at h1 x.to.toNat
    have h6 := edge_in hg hx
    have h7 : ¬ 0 < (leaL g v m).getD x.to.toNat 0 := fun hc => hn ((sup_in h).2 ⟨h6.2.2, hc⟩)
    omega
theorem bg_base (h : eigN g v m = 0) : baseN (bg g v m) (bw g v m) m = 0 := by
  have hb0 := bg0_base h
  obtain ⟨hg, hm, hl, hb⟩ := vecN_zero (eigN_zero (baseN_zero hb0).1).1
  obtain ⟨h1, h2, h3, h4, h5⟩ := bc_ok h
  have hsk : bc g v m ∈ sks (bg0 g v m) := getD_mem h1
  have hlv : leaves (bg0 g v m) (bc g v m) = false := by
    have := (List.mem_filter.1 hsk).2
    simpa using this
  refine base_keep hg hm h2 (fun x hx => (h3 x hx).1) h4 h5 (fun x hx => ?_) (fun x hx => ?_) (fun x hx hf hn => ?_)
  · exact (baseN_zero hb0).2 _ (getD_mem (by have := h3 x hx; omega))
  · exact eig_low (baseN_zero hb0).1 (by have := h3 x hx; omega)
  · exfalso
    unfold leaves at hlv
    have h6 := List.any_eq_false.1 hlv x hx
    apply h6
    unfold hasI
    rw [decide_eq_true hf, decide_eq_false hn]; rfl
noncomputable def bQ (g : Gr) (v : List Int) (m : Int) (k : Nat) : Prf := ⟨bg g v m, bw g v m, m, bRs g v m k⟩
theorem bErr_eig (h : bErr g v m = 0) : eigN g v m = 0 := Classical.byContradiction fun hc => by rw [(bErr_1 hc).1] at h; exact hc h
theorem bP_Q (h : bErr g v m = 0) : bP g v m = bQ g v m (bK g v m) := if_pos h
theorem bStop_low {j : Nat} (hj : j < bK g v m) : onesB (bS g v m j).2 = false ∧ bE g v m j = 0 ∧ cNo (bS g v m j).1 (bS g v m j).2 m = 0 ∧ aplN (bS g v m j).1 (bS g v m j).2 m (bR g v m j) = 0 ∧ RndOK (bR g v m j) := by
  have hs := bK_low hj
  unfold bStop at hs
  rw [Bool.or_eq_false_iff, Bool.or_eq_false_iff] at hs
  have hz : bE g v m j = 0 := by simpa using hs.2
  have hc0 : cNo (bS g v m j).1 (bS g v m j).2 m = 0 := Classical.byContradiction fun hc => by rw [bE_1 hc] at hz; exact hc hz
  exact ⟨hs.1.1, hz, hc0, by rw [bE_2 hc0] at hz; exact hz, (cls_ok hc0).2.ok⟩
theorem bQ_S {k : Nat} : ∀ i, i ≤ k → (flS (bQ g v m k) i).1 = (bS g v m i).1 ∧ (flS (bQ g v m k) i).2.1 = (bS g v m i).2
  | 0, _ => ⟨rfl, rfl⟩
  | i + 1, hi => by
    obtain ⟨h1, h2⟩ := bQ_S (k := k) i (by omega)
    have e : (bQ g v m k).rounds.getD i [] = bR g v m i := bRs_at (by omega)
    rw [flS_succ, bS_succ, h1, h2, e]
    exact ⟨rfl, rfl⟩
theorem bQ_E {k i : Nat} (hi : i < k) (hk : k ≤ bK g v m) : flE (bQ g v m k) i = 0 := by
  obtain ⟨h1, h2⟩ := bQ_S (g := g) (v := v) (m := m) (k := k) i (by omega)
  have e : (bQ g v m k).rounds.getD i [] = bR g v m i := bRs_at hi
  rw [flE_eq, h1, h2, e]
  exact (bStop_low (by omega)).2.2.2.1
theorem bQ_len {k : Nat} : (bQ g v m k).rounds.length = k := bRs_len
theorem bQ_no (h : bErr g v m = 0) {k : Nat} (hk : k ≤ bK g v m) : flN (bQ g v m k) = if onesB (bS g v m k).2 = false then 23 else 0 := by
  have hK := bK_le (g := g) (v := v) (m := m)
  rw [fl_4 (p := bQ g v m k) (bg_base (bErr_eig h)) (by rw [bQ_len]; omega) (fun j hj => bQ_E (by rw [bQ_len] at hj; exact hj) hk), bQ_len, (bQ_S k (Nat.le_refl _)).2]
theorem bS_ones (h : bErr g v m = 0) : onesB (bS g v m (bK g v m)).2 = true := by
  have h0 := bErr_eig h
  unfold bErr at h
  rw [if_neg (fun hc => hc h0)] at h
  split at h
  · assumption
  · split at h
    · cases h
    · rename_i h1 h2
      exfalso
      have hK := bK_le (g := g) (v := v) (m := m)
      have : bStop g v m (bK g v m) = true := by
        unfold bK
        cases hf : (List.range 65).find? (bStop g v m) with
        | none => exact absurd (by unfold bK; rw [hf]; rfl) h2
        | some k => exact List.find?_some hf
      unfold bStop at this
      rw [Bool.or_eq_true, Bool.or_eq_true] at this
      rcases this with (h3 | h3) | h3
      · exact h1 h3
      · exact h2 (of_decide_eq_true h3)
      · exact of_decide_eq_true h3 h
theorem bP_yes (h : bErr g v m = 0) : flN (bP g v m) = 0 := by
  rw [bP_Q h, bQ_no h (Nat.le_refl _), bS_ones h]; rfl
theorem bQ_ok {k : Nat} (hk : k ≤ bK g v m) : PrfOK (bQ g v m k) := fun l hl => by
  obtain ⟨j, hj, rfl⟩ := List.mem_map.1 (show l ∈ (List.range k).map (bR g v m) from hl)
  exact (bStop_low (by have := List.mem_range.1 hj; omega)).2.2.2.2
theorem bQ_short (h : bErr g v m = 0) {k : Nat} (hk : k < bK g v m) : flN (bQ g v m k) = 23 := by
  rw [bQ_no h (by omega), (bStop_low hk).1]; rfl
end
end Go.Proofs.YthpdkmoedpcboaaGreat
