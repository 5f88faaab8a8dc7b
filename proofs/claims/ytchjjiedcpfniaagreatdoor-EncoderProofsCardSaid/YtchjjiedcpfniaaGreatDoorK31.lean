/- Parts of the proof: WS. -/
import Derived.Test.YtchjjiedcpfniaaGreatDoorK16
import Derived.Test.YtchjjiedcpfniaaGreatDoorK29
namespace Go.Proofs.YtchjjiedcpfniaaGreatDoor
set_option linter.unusedSimpArgs false
set_option linter.unusedVariables false
open Go Go.Lift Go.Proofs
theorem flw_len {p : Prf} (hp : PrfOK p) (hb : baseN p.g p.w p.m = 0) {i : Nat} (hn : ∀ j, j < i → flE p j = 0) (hi : i ≤ p.rounds.length) : (flS p i).2.1.length ≤ 1000000 := by
  obtain ⟨h1, _, _⟩ := fl_inv hp hb i hi hn
  obtain ⟨hv, _, hl, _⟩ := vecN_zero (eigN_zero (baseN_zero h1).1).1
  have := (gcheck_valid hv).1.st
  omega
theorem flo_len {p : Prf} (hp : PrfOK p) (hb : baseN p.g p.w p.m = 0) {i : Nat} (hn : ∀ j, j < i → flE p j = 0) (hi : i ≤ p.rounds.length) : ((flS p i).2.2.length : Int) = (flS p i).1.states ∧ (flS p i).2.2.length ≤ 64 := by
  obtain ⟨h1, h2, _⟩ := fl_inv hp hb i hi hn
  obtain ⟨hv, _, hl, _⟩ := vecN_zero (eigN_zero (baseN_zero h1).1).1
  have := (gcheck_valid hv).1.st
  omega
theorem fl_par {p : Prf} (hp : PrfOK p) {i : Nat} (h : flE p i = 0) : (aplP (flS p i).1 (flS p i).2.1 p.m (p.rounds.getD i [])).length ≤ 64 ∧ ∀ s ∈ aplP (flS p i).1 (flS p i).2.1 p.m (p.rounds.getD i []), 0 ≤ s ∧ s < (flS p i).1.states := by
  obtain ⟨hRd, _, _, e3, ho, _⟩ := apl_step (hp.at (i := i)) h
  rw [e3]
  have hst := (gcheck_valid hRd.gv).1.st
  refine ⟨by rw [parA_len]; exact ho, fun s hs => ?_⟩
  have := parA_mem hs
  omega
theorem flG_len {p : Prf} (hp : PrfOK p) (h : flN p = 0) : (flG p).edges.length ≤ 1024 := by
  obtain ⟨h1, h2, h3, _⟩ := flN_zero h
  rw [(flG_ok h).1]
  obtain ⟨h4, _, _⟩ := fl_inv hp h1 p.rounds.length (Nat.le_refl _) h3
  exact (gcheck_valid (vecN_zero (eigN_zero (baseN_zero h4).1).1).1).1.ed
theorem any_ones {v : List Int} : (v.any fun n => !decide (n = 1)) = !onesB v := by
  unfold onesB
  rw [List.all_eq_not_any_not, Bool.not_not]
theorem flS_zero {p : Prf} : flS p 0 = (p.g, p.w, iotaI p.g.states.toNat) := rfl
set_option maxRecDepth 100000 in
theorem light1_c (n : Int) : PC Tryz.prog 87 [.int .i64 n] (.bool (!decide (n = 1))) := by
 refine zp Tryz.func87 fun G hG hR => ?_
 refine zs (zr ?_)
 refine zs (zr ?_)
 refine zt ?_
 exact zR
set_option maxRecDepth 100000 in
theorem light_c (v : List Int) (hl : v.length ≤ 1000000) : PC Tryz.prog 63 [ints v] (.bool (onesB v)) := by
 refine zp Tryz.func63 fun G hG hR => ?_
 refine zs (zr ?_)
 refine zs (zL (zl 1 ?_))
 refine zc cal17 (containsG_c v (fun n => !decide (n = 1)) 87 0 (fun _ => .any) (by omega) cal87 (fun _ => trivial) fun x _ => light1_c x) ?_
 refine zl 2 ?_
 refine zN (zt ?_)
 refine RetOK_of ?_
 simp [hG, List.getD_cons_zero, List.getD_cons_succ, -List.getD_eq_getElem?_getD]
 exact any_ones
set_option maxRecDepth 100000 in
theorem verify1_c (par : List Int) : PC Tryz.prog 35 [ints par] (.tup 0 (fun _ => .any)) := by
 refine zp Tryz.func35 fun G hG hR => ?_
 refine zk (zn ?_)
 exact zR
set_option maxRecDepth 100000 in
set_option maxHeartbeats 1000000 in
theorem followV_c (p : Prf) (hp : PrfOK p) (hpr : p.rounds.length ≤ 66) : PC Tryz.prog 34 [.agg 6 (prfF p), .fn 35 0 (fun _ => .any)] (.tup 2 (fun j => [.agg 3 (grF (flG p)), .int .i64 (flN p)].getD j .any)) := by
 refine zp Tryz.func34 fun G hG hR => ?_
 refine zs (zrP ?_)
 refine zs (zs (zL (zlP 6 ?_)))
 refine zcP cal61 (baseC_c p.g p.w p.m) ?_
 refine zlP 1 ?_
 refine zN (zs (zrP ?_))
 refine zy (fun hb23 => ?_) fun hb23 => ?_
 · refine zs (zrP ?_)
   refine zt ?_
   refine RetOK_of ?_
   simp [hG, List.getD_cons_zero, List.getD_cons_succ, -List.getD_eq_getElem?_getD, pureOp]
   obtain ⟨e1, e2⟩ := fl_err (fl_1 hb23) hb23; rw [e1, fl_1 hb23]; exact ⟨⟨rfl, rfl, rfl⟩, rfl⟩
 have hb0 : baseN p.g p.w p.m = 0 := hb23
 refine zk (zs (zs (zrP ?_)))
 refine zy (fun hb29 => ?_) fun hb29 => ?_
 · refine zs (zrP ?_)
   refine zt ?_
   refine RetOK_of ?_
   simp [hG, List.getD_cons_zero, List.getD_cons_succ, -List.getD_eq_getElem?_getD, pureOp]
   have e0 := fl_2 hb0 (by omega); obtain ⟨e1, e2⟩ := fl_err e0 (by decide); rw [e1, e0]; exact ⟨⟨rfl, rfl, rfl⟩, rfl⟩
 have h64 : p.rounds.length ≤ 64 := (by omega)
 refine zk (zs ?_)
 refine awpS_draw hR mixed [] ⟨[], [5], [(0, 0)]⟩ fun mu0 => ?_
 refine zaP [0, 1, 2, 3] [] 3 [3, 2, 1, 0] ?_
 refine awpA_only (fuel := 2) (i := 4) (by decide +kernel) ?_
 refine zoP ?_
 refine awpA_only (fuel := 1) (i := 5) (by decide +kernel) ?_
 refine zoP ?_
 refine zaP [6] [] 0 [6, 5, 4, 3, 2, 1, 0] ?_
 refine awpA_done (by decide +kernel) ?_
 refine zs (zs (zrP ?_))
 refine zb ?_
 refine awpS_loop (α := Nat) (fun i => ⟨[(1, .fn 35 0 (fun _ => .any)), (2, .ptr (0, 0) 0 0), (4, .ptr (1, 0) 0 0), (7, .ptr (2, 0) 0 0), (8, ints (flS p i).2.1), (36, rds p.rounds), (37, .int .i64 p.rounds.length), (38, .int .i64 (i : Nat))], [(0, .one (.arr 1 6 (fun _ j => prfF p j))), (1, .one (.arr 1 3 (fun _ j => [.int .i64 0, .int .i64 0, .nils].getD j .any))), (2, .one (.arr 1 3 (fun _ => grF (flS p i).1)))], 3⟩) (fun i => i ≤ p.rounds.length ∧ ∀ j, j < i → flE p j = 0) (fun i => p.rounds.length - i) (0) (⟨Nat.zero_le _, fun j hj => absurd hj (Nat.not_lt_zero _)⟩) ?_ ?_
 · exact zi (e := by rw [flS_zero]; simp [hG, List.getD_cons_zero, List.getD_cons_succ, -List.getD_eq_getElem?_getD]) (h := by rw [flS_zero]; simp [hG, List.getD_cons_zero, List.getD_cons_succ, -List.getD_eq_getElem?_getD])
 rintro i ⟨hi, hn⟩
 refine zs (zrP ?_)
 refine zs (zy (fun hb39 => ?_) fun hb39 => ?_)
 · have hil : i < p.rounds.length := (by omega)
   refine zk (zs (zb (zs (zrP ?_))))
   refine zs (zL (zlP 5 ?_))
   refine zcP cal62 (applyC_c (flS p i).1 (flS p i).2.1 p.m (p.rounds.getD i []) hp.at) ?_
   refine zlP 10 ?_
   refine zN (zs (zs (zrP ?_)))
   refine zy (fun hb54 => ?_) fun hb54 => ?_
   · have hne : flE p i ≠ 0 := hb54
     refine zs (zrP ?_)
     refine zt (zbt (ztt (zbt ?_)))
     refine RetOK_of ?_
     simp [hG, List.getD_cons_zero, List.getD_cons_succ, -List.getD_eq_getElem?_getD, pureOp]
     have e0 := fl_3 hb0 h64 hil hn hne; obtain ⟨e1, e2⟩ := fl_err e0 hne; rw [e1, e0]; exact ⟨⟨rfl, rfl, rfl⟩, rfl⟩
   have hez : flE p i = 0 := hb54
   have hfs := flS_succ (p := p) (i := i)
   refine zk (zs (zrP ?_))
   refine zL (zlP 2 ?_)
   refine zcP cal35 (verify1_c (aplP (flS p i).1 (flS p i).2.1 p.m (p.rounds.getD i []))) ?_
   refine zN (zn (zbn (zrP ?_)))
   refine zn ?_
   refine round_end (i + 1) (⟨by omega, step_all hn hez⟩) (by omega) ?_
   exact zi (e := by rw [hfs]; simp [hG, List.getD_cons_zero, List.getD_cons_succ, -List.getD_eq_getElem?_getD]) (h := by rw [hfs]; simp [hG, List.getD_cons_zero, List.getD_cons_succ, -List.getD_eq_getElem?_getD])
 obtain rfl : i = p.rounds.length := (by omega)
 have hlen := flw_len hp hb0 hn (Nat.le_refl _)
 refine zx (ztx (zbx (zs (zs (zL (zlP 1 ?_))))))
 refine zcP cal63 (light_c (flS p p.rounds.length).2.1 (by omega)) ?_
 refine zlP 1 ?_
 refine zN (zy (fun hb65 => ?_) fun hb65 => ?_)
 · refine zs (zrP ?_)
   refine zt ?_
   refine RetOK_of ?_
   simp [hG, List.getD_cons_zero, List.getD_cons_succ, -List.getD_eq_getElem?_getD, pureOp]
   have e0 := fl_4 hb0 h64 hn; rw [if_pos hb65] at e0; obtain ⟨e1, e2⟩ := fl_err e0 (by decide); rw [e1, e0]; exact ⟨⟨rfl, rfl, rfl⟩, rfl⟩
 refine zk (zs (zrP ?_))
 refine zt ?_
 refine RetOK_of ?_
 simp [hG, List.getD_cons_zero, List.getD_cons_succ, -List.getD_eq_getElem?_getD, pureOp]
 have e0 := fl_4 hb0 h64 hn; rw [if_neg (by rw [hb65]; simp)] at e0; rw [(flG_ok e0).1, e0]; exact ⟨⟨rfl, rfl, Clo.le _ Clo_edgesC⟩, rfl⟩
set_option maxRecDepth 100000 in
theorem final1_c (par o : List Int) (hpl : par.length ≤ 100000) (hb : ∀ s ∈ par, 0 ≤ s ∧ s < (o.length : Int)) : FC1 Tryz.prog 57 [ints par, .ptr (0, 0) 0 0] [(0, .one (.arr 1 1 (fun _ _ => .sl (1, 0) 0 (o).length))), (1, .one (.arr (o).length 1 (fun k _ => .int .i64 ((o).getD k 0))))] 2 (.tup 0 (fun _ => .any)) [(0, .one (.arr 1 1 (fun _ _ => .sl (2, 0) 0 ((pickL o par)).length))), (2, .one (.arr ((pickL o par)).length 1 (fun k _ => .int .i64 (((pickL o par)).getD k 0))))] 3 := by
 refine FC_introS T_ok Tryz.func57 rfl (by simp [Tryz.ntmps57]) fun G hG hR => ?_
 simp only [Tryz.ntmps57, Tryz.results57] at hG ⊢
 simp only [argEnv, Nat.zero_add, Nat.reduceAdd]
 refine zs (zr ?_)
 refine zs (zs (zr ?_))
 refine zb ?_
 refine awpS_loop (α := Nat) (fun i => ⟨[(0, ints par), (1, .ptr (0, 0) 0 0), (3, .sl (2, 0) 0 par.length), (9, ints par), (10, .int .i64 par.length), (11, .int .i64 (i : Nat))], [(0, .one (.arr 1 1 (fun _ _ => .sl (1, 0) 0 (o).length))), (1, .one (.arr (o).length 1 (fun k _ => .int .i64 ((o).getD k 0)))), (2, .one (.arr par.length 1 (fun k _ => .int .i64 (if k < i then o.getD (par.getD k 0).toNat 0 else 0))))], 3⟩) (fun i => i ≤ par.length) (fun i => par.length - i) (0) (Nat.zero_le _) ?_ ?_
 · refine wk_of (id) (fun _ => false) (fun _ => false) ?_ ?_ rfl (by simp) (fun k hk => by first | exact ⟨rfl, rfl⟩ | (revert k; decide) | (obtain rfl : k = 0 := (by omega); exact ⟨rfl, rfl⟩) | (have hk2 : k = 0 ∨ k = 1 := (by omega); rcases hk2 with rfl | rfl <;> exact ⟨rfl, rfl⟩))
   · simp [hG, List.getD_cons_zero, List.getD_cons_succ, -List.getD_eq_getElem?_getD]
   simp [hG, List.getD_cons_zero, List.getD_cons_succ, -List.getD_eq_getElem?_getD]
 rintro i hi
 refine zs (zr ?_)
 refine zs (zy (fun hb12 => ?_) fun hb12 => ?_)
 · have hil : i < par.length := (by omega)
   have hbi := hb _ (getD_mem (d := (0 : Int)) hil)
   refine zk (zs (zb (zs (zr ?_))))
   refine zr ?_
   refine zn (zbn (zr ?_))
   refine zn ?_
   refine round_end (i + 1) (by omega) (by omega) ?_
   refine wk_of (id) (fun _ => false) (fun _ => false) ?_ ?_ rfl (by simp) (fun k hk => by first | exact ⟨rfl, rfl⟩ | (revert k; decide) | (obtain rfl : k = 0 := (by omega); exact ⟨rfl, rfl⟩) | (have hk2 : k = 0 ∨ k = 1 := (by omega); rcases hk2 with rfl | rfl <;> exact ⟨rfl, rfl⟩))
   · simp [hG, List.getD_cons_zero, List.getD_cons_succ, -List.getD_eq_getElem?_getD]
   simp [hG, List.getD_cons_zero, List.getD_cons_succ, -List.getD_eq_getElem?_getD]; exact fun k hk => by by_cases h : k = i; (subst h; simp); (rw [if_neg h]; by_cases h2 : k < i; (rw [if_pos h2, if_pos (by omega)]); (rw [if_neg h2, if_neg (by omega)]))
 obtain rfl : i = par.length := (by omega)
 refine zx (ztx (zbx (zr ?_)))
 refine zn ?_
 refine RetF_of (()) (id) (fun _ => false) (fun _ => false) trivial ?_ ?_ (by rfl) (by simp) (fun k _ => ⟨rfl, rfl⟩)
 · simp [hG, List.getD_cons_zero, List.getD_cons_succ, -List.getD_eq_getElem?_getD]
 rw [pickL_len]; simp [hG, List.getD_cons_zero, List.getD_cons_succ, -List.getD_eq_getElem?_getD]; exact fun k hk => by rw [pickL_at hk, if_pos hk]
set_option maxRecDepth 100000 in
set_option maxHeartbeats 1000000 in
theorem followF_c (p : Prf) (hp : PrfOK p) (hpr : p.rounds.length ≤ 66) (o : List Int) (hol : o.length ≤ 64) (ho : baseN p.g p.w p.m = 0 → o = iotaI p.g.states.toNat) : FC Tryz.prog 34 [.agg 6 (prfF p), .fn 57 1 (fun _ => .ptr (0, 0) 0 0)] [(0, .one (.arr 1 1 (fun _ _ => .sl (1, 0) 0 (o).length))), (1, .one (.arr (o).length 1 (fun k _ => .int .i64 ((o).getD k 0))))] 2 (fun x : List Int => flN p = 0 → x = flO p) (fun x : List Int => .tup 2 (fun j => [.agg 3 (grF (flG p)), .int .i64 (flN p)].getD j .any)) (fun x : List Int => [(0, .one (.arr 1 1 (fun _ _ => .sl (2, 0) 0 (x).length))), (2, .one (.arr (x).length 1 (fun k _ => .int .i64 ((x).getD k 0))))]) (fun x : List Int => 3) := by
 refine FC_introS T_ok Tryz.func34 rfl (by simp [Tryz.ntmps34]) fun G hG hR => ?_
 simp only [Tryz.ntmps34, Tryz.results34] at hG ⊢
 simp only [argEnv, Nat.zero_add, Nat.reduceAdd]
 refine zs (zrP ?_)
 refine zs (zs (zL (zlP 6 ?_)))
 refine zcP cal61 (baseC_c p.g p.w p.m) ?_
 refine zlP 1 ?_
 refine zN (zs (zrP ?_))
 refine zy (fun hb23 => ?_) fun hb23 => ?_
 · refine zs (zrP ?_)
   refine zt ?_
   refine RetF_of (o) (fun k => if k = 2 then 1 else k) (fun _ => false) (fun _ => false) (fun h0 => absurd h0 (by rw [fl_1 hb23]; exact hb23)) ?_ ?_ (by rfl) (by simp) (fun k hk => ⟨if_neg (by omega), rfl⟩)
   · simp [hG, List.getD_cons_zero, List.getD_cons_succ, -List.getD_eq_getElem?_getD]; obtain ⟨e1, e2⟩ := fl_err (fl_1 hb23) hb23; rw [e1, fl_1 hb23]; exact ⟨⟨rfl, rfl, rfl⟩, rfl⟩
   simp [hG, List.getD_cons_zero, List.getD_cons_succ, -List.getD_eq_getElem?_getD]
 have hb0 : baseN p.g p.w p.m = 0 := hb23
 have hoi := ho hb0
 refine zk (zs (zs (zrP ?_)))
 refine zy (fun hb29 => ?_) fun hb29 => ?_
 · refine zs (zrP ?_)
   refine zt ?_
   refine RetF_of (o) (fun k => if k = 2 then 1 else k) (fun _ => false) (fun _ => false) (fun h0 => absurd h0 (by rw [fl_2 hb0 (by omega)]; decide)) ?_ ?_ (by rfl) (by simp) (fun k hk => ⟨if_neg (by omega), rfl⟩)
   · simp [hG, List.getD_cons_zero, List.getD_cons_succ, -List.getD_eq_getElem?_getD]; have e0 := fl_2 hb0 (by omega); obtain ⟨e1, e2⟩ := fl_err e0 (by decide); rw [e1, e0]; exact ⟨⟨rfl, rfl, rfl⟩, rfl⟩
   simp [hG, List.getD_cons_zero, List.getD_cons_succ, -List.getD_eq_getElem?_getD]
 have h64 : p.rounds.length ≤ 64 := (by omega)
 refine zk (zs ?_)
 refine awpS_draw hR mixed [] ⟨[], [5], [(2, 0)]⟩ fun mu0 => ?_
 refine zaP [0, 1, 2, 3] [] 3 [3, 2, 1, 0] ?_
 refine awpA_only (fuel := 2) (i := 4) (by decide +kernel) ?_
 refine zoP ?_
 refine awpA_only (fuel := 1) (i := 5) (by decide +kernel) ?_
 refine zoP ?_
 refine zaP [6] [] 0 [6, 5, 4, 3, 2, 1, 0] ?_
 refine awpA_done (by decide +kernel) ?_
 refine zs (zs (zrP ?_))
 refine zb ?_
 refine awpS_loop (α := Nat) (fun i => ⟨[(1, .fn 57 1 (fun _ => .ptr (0, 0) 0 0)), (2, .ptr (2, 0) 0 0), (4, .ptr (3, 0) 0 0), (7, .ptr (4, 0) 0 0), (8, ints (flS p i).2.1), (36, rds p.rounds), (37, .int .i64 p.rounds.length), (38, .int .i64 (i : Nat))], [(0, .one (.arr 1 1 (fun _ _ => .sl (5, 0) 0 ((flS p i).2.2).length))), (2, .one (.arr 1 6 (fun _ j => prfF p j))), (3, .one (.arr 1 3 (fun _ j => [.int .i64 0, .int .i64 0, .nils].getD j .any))), (4, .one (.arr 1 3 (fun _ => grF (flS p i).1))), (5, .one (.arr ((flS p i).2.2).length 1 (fun k _ => .int .i64 (((flS p i).2.2).getD k 0))))], 6⟩) (fun i => i ≤ p.rounds.length ∧ ∀ j, j < i → flE p j = 0) (fun i => p.rounds.length - i) (0) (⟨Nat.zero_le _, fun j hj => absurd hj (Nat.not_lt_zero _)⟩) ?_ ?_
 · refine wk_of (fun k => if k = 5 then 1 else k) (fun _ => false) (fun _ => false) ?_ ?_ rfl (by simp) (fun k hk => by first | exact ⟨rfl, rfl⟩ | (revert k; decide) | (obtain rfl : k = 0 := (by omega); exact ⟨rfl, rfl⟩) | (have hk2 : k = 0 ∨ k = 1 := (by omega); rcases hk2 with rfl | rfl <;> exact ⟨rfl, rfl⟩))
   · rw [flS_zero]; simp [hG, List.getD_cons_zero, List.getD_cons_succ, -List.getD_eq_getElem?_getD]
   rw [hoi, flS_zero]; simp [hG, List.getD_cons_zero, List.getD_cons_succ, -List.getD_eq_getElem?_getD]
 rintro i ⟨hi, hn⟩
 refine zs (zrP ?_)
 refine zs (zy (fun hb39 => ?_) fun hb39 => ?_)
 · have hil : i < p.rounds.length := (by omega)
   refine zk (zs (zb (zs (zrP ?_))))
   refine zs (zL (zlP 5 ?_))
   refine zcP cal62 (applyC_c (flS p i).1 (flS p i).2.1 p.m (p.rounds.getD i []) hp.at) ?_
   refine zlP 10 ?_
   refine zN (zs (zs (zrP ?_)))
   refine zy (fun hb54 => ?_) fun hb54 => ?_
   · have hne : flE p i ≠ 0 := hb54
     refine zs (zrP ?_)
     refine zt (zbt (ztt (zbt ?_)))
     refine RetF_of ((flS p i).2.2) (fun k => if k = 2 then 5 else k) (fun _ => false) (fun _ => false) (fun h0 => absurd h0 (by rw [fl_3 hb0 h64 hil hn hne]; exact hne)) ?_ ?_ (by rfl) (by simp) (fun k hk => ⟨if_neg (by omega), rfl⟩)
     · simp [hG, List.getD_cons_zero, List.getD_cons_succ, -List.getD_eq_getElem?_getD]; have e0 := fl_3 hb0 h64 hil hn hne; obtain ⟨e1, e2⟩ := fl_err e0 hne; rw [e1, e0]; exact ⟨⟨rfl, rfl, rfl⟩, rfl⟩
     simp [hG, List.getD_cons_zero, List.getD_cons_succ, -List.getD_eq_getElem?_getD]
   have hez : flE p i = 0 := hb54
   have hfs := flS_succ (p := p) (i := i)
   have hol2 := flo_len hp hb0 hn hi
   have hpp := fl_par hp hez
   have hpar : ∀ s ∈ aplP (flS p i).1 (flS p i).2.1 p.m (p.rounds.getD i []), 0 ≤ s ∧ s < ((flS p i).2.2.length : Int) := fun s hs => by have := hpp.2 s hs; omega
   refine zk (zs (zrP ?_))
   refine zL (zlP 2 ?_)
   refine zfP cal57 [0, 5] (final1_c (aplP (flS p i).1 (flS p i).2.1 p.m (p.rounds.getD i [])) (flS p i).2.2 (by omega) hpar) (fun x hI hno => ?_)
   refine zN (zn (zbn (zrP ?_)))
   refine zn ?_
   refine round_end (i + 1) (⟨by omega, step_all hn hez⟩) (by omega) ?_
   refine wk_of (fun k => if k = 5 then 7 else k) (fun _ => false) (fun _ => false) ?_ ?_ rfl (by simp) (fun k hk => by first | exact ⟨rfl, rfl⟩ | (revert k; decide) | (obtain rfl : k = 0 := (by omega); exact ⟨rfl, rfl⟩) | (have hk2 : k = 0 ∨ k = 1 := (by omega); rcases hk2 with rfl | rfl <;> exact ⟨rfl, rfl⟩))
   · rw [hfs]; simp [hG, List.getD_cons_zero, List.getD_cons_succ, -List.getD_eq_getElem?_getD]
   rw [hfs]; simp [hG, List.getD_cons_zero, List.getD_cons_succ, -List.getD_eq_getElem?_getD]
 obtain rfl : i = p.rounds.length := (by omega)
 have hlen := flw_len hp hb0 hn (Nat.le_refl _)
 refine zx (ztx (zbx (zs (zs (zL (zlP 1 ?_))))))
 refine zcP cal63 (light_c (flS p p.rounds.length).2.1 (by omega)) ?_
 refine zlP 1 ?_
 refine zN (zy (fun hb65 => ?_) fun hb65 => ?_)
 · refine zs (zrP ?_)
   refine zt ?_
   refine RetF_of ((flS p p.rounds.length).2.2) (fun k => if k = 2 then 5 else k) (fun _ => false) (fun _ => false) (fun h0 => absurd h0 (by rw [fl_4 hb0 h64 hn, if_pos hb65]; decide)) ?_ ?_ (by rfl) (by simp) (fun k hk => ⟨if_neg (by omega), rfl⟩)
   · simp [hG, List.getD_cons_zero, List.getD_cons_succ, -List.getD_eq_getElem?_getD]; have e0 := fl_4 hb0 h64 hn; rw [if_pos hb65] at e0; obtain ⟨e1, e2⟩ := fl_err e0 (by decide); rw [e1, e0]; exact ⟨⟨rfl, rfl, rfl⟩, rfl⟩
   simp [hG, List.getD_cons_zero, List.getD_cons_succ, -List.getD_eq_getElem?_getD]
 refine zk (zs (zrP ?_))
 refine zt ?_
 refine RetF_of ((flS p p.rounds.length).2.2) (fun k => if k = 2 then 5 else k) (fun _ => false) (fun _ => false) (fun h0 => (flG_ok h0).2.symm) ?_ ?_ (by rfl) (by simp) (fun k hk => ⟨if_neg (by omega), rfl⟩)
 · simp [hG, List.getD_cons_zero, List.getD_cons_succ, -List.getD_eq_getElem?_getD]; have e0 := fl_4 hb0 h64 hn; rw [if_neg (by rw [hb65]; simp)] at e0; rw [(flG_ok e0).1, e0]; exact ⟨⟨rfl, rfl, Clo.le _ Clo_edgesC⟩, rfl⟩
 simp [hG, List.getD_cons_zero, List.getD_cons_succ, -List.getD_eq_getElem?_getD]
set_option maxRecDepth 100000 in
set_option maxHeartbeats 1000000 in
theorem finalM_c (p : Prf) (hp : PrfOK p) (hpr : p.rounds.length ≤ 66) : PC Tryz.prog 27 [.agg 6 (prfF p)] (.tup 3 (fun j => [.agg 3 (grF (flG p)), ints (flO p), .int .i64 (flN p)].getD j .any)) := by
 refine zp Tryz.func27 fun G hG hR => ?_
 refine zs (zrP ?_)
 refine zs (zrP ?_)
 refine zs (zs (zrP ?_))
 refine zb ?_
 refine awpS_loop (α := Nat) (fun s => ⟨[(1, .ptr (0, 0) 0 0), (2, .ptr (1, 0) 0 0), (5, .ptr (2, 0) 0 0), (13, .int .i64 (min (max p.g.states 0) 64)), (14, .int .i64 (s : Nat))], [(0, .one (.arr 1 6 (fun _ j => prfF p j))), (1, .one (.arr 1 3 (fun _ j => [.int .i64 0, .int .i64 0, .nils].getD j .any))), (2, .one (.arr 1 1 (fun _ _ => .sl (3, 0) 0 (iotaI s).length))), (3, .one (.arr (iotaI s).length 1 (fun k _ => .int .i64 ((iotaI s).getD k 0))))], 4⟩) (fun s => s ≤ ((min (max p.g.states 0) 64).toNat)) (fun s => ((min (max p.g.states 0) 64).toNat) - s) (0) (Nat.zero_le _) ?_ ?_
 · exact zwP (id) (fun _ => false) (fun k => k == 3) (h := by simp [hG, List.getD_cons_zero, List.getD_cons_succ, -List.getD_eq_getElem?_getD]; rfl)
 rintro s hs
 refine zs (zrP ?_)
 refine zs (zy (fun hb15 => ?_) fun hb15 => ?_)
 · have hsk : s < ((min (max p.g.states 0) 64).toNat) := (by omega)
   have hil := iotaI_len (n := s)
   have his := iotaI_succ (n := s)
   refine zk (zs (zb (zs (zrP ?_))))
   refine zrP ?_
   refine zn (zbn (zrP ?_))
   refine zn ?_
   refine round_end (s + 1) (by omega) (by omega) ?_
   exact zwP (fun k => if k = 3 then 5 else k) (fun _ => false) (fun _ => false) (h := by rw [his]; simp [hG, List.getD_cons_zero, List.getD_cons_succ, -List.getD_eq_getElem?_getD]; exact fun k hk => app_oneI rfl hk)
 obtain rfl : s = ((min (max p.g.states 0) 64).toNat) := (by omega)
 refine zx (ztx (zbx (zs (zL (zlP 2 ?_)))))
 refine zfP cal34 [2, 3] (followF_c p hp hpr (iotaI ((min (max p.g.states 0) 64).toNat)) (by rw [iotaI_len]; omega) (fun h0 => by have hst := (gcheck_valid (vecN_zero (eigN_zero (baseN_zero h0).1).1).1).1.st; rw [show ((min (max p.g.states 0) 64).toNat) = p.g.states.toNat by omega])) (fun x hI hno => ?_)
 refine zlP 6 ?_
 refine zN (zs (zs (zrP ?_)))
 refine zy (fun hb29 => ?_) fun hb29 => ?_
 · refine zs (zrP ?_)
   refine zt ?_
   refine RetOK_of ?_
   simp [hG, List.getD_cons_zero, List.getD_cons_succ, -List.getD_eq_getElem?_getD, pureOp]
   obtain ⟨e1, e2⟩ := fl_err rfl hb29; rw [e1, e2]; first | done | rfl | exact ⟨⟨rfl, rfl, rfl⟩, rfl⟩ | exact ⟨⟨rfl, rfl, rfl⟩, rfl, rfl⟩
 have h0 : flN p = 0 := hb29
 have hx := hI h0
 subst hx
 have hge := flG_len hp h0
 refine zk (zs (zL (zlP 2 ?_)))
 refine zfP cal58 [] (cloneE_c (flG p).edges (by omega)) (fun x hI hno => ?_)
 refine zlP 2 ?_
 refine zN (zs ?_)
 refine awpS_draw hR mixed [] ⟨[2], [], []⟩ fun mu0 => ?_
 refine zaP [0] [] 4 [0] ?_
 refine awpA_two (fuel := 3) (i := 1) (k := 2) (by decide +kernel) ?_ ?_
 · refine zoP ?_
   refine awpA_only (fuel := 2) (i := 2) (by decide +kernel) ?_
   refine zoP ?_
   refine zaP [3, 4] [] 0 [4, 3, 2, 1, 0] ?_
   refine awpA_done (by decide +kernel) ?_
   refine zt ?_
   refine RetOK_of ?_
   simp [hG, List.getD_cons_zero, List.getD_cons_succ, -List.getD_eq_getElem?_getD, pureOp]
   exact h0.symm
 refine zoP ?_
 refine zaP [1, 3, 4] [] 0 [4, 3, 1, 2, 0] ?_
 refine awpA_done (by decide +kernel) ?_
 refine zt ?_
 refine RetOK_of ?_
 simp [hG, List.getD_cons_zero, List.getD_cons_succ, -List.getD_eq_getElem?_getD, pureOp]
 exact h0.symm
set_option maxRecDepth 100000 in
theorem verifyM_c (p : Prf) (hp : PrfOK p) (hpr : p.rounds.length ≤ 66) : PC Tryz.prog 10 [.agg 6 (prfF p)] (.int .i64 (flN p)) := by
 refine zp Tryz.func10 fun G hG hR => ?_
 refine zs (zr ?_)
 refine zs (zL (zl 1 ?_))
 refine zc cal34 (followV_c p hp hpr) ?_
 refine zl 6 ?_
 refine zN (zs (zr ?_))
 refine zt ?_
 exact zR
end Go.Proofs.YtchjjiedcpfniaaGreatDoor
