/- Parts of the proof: WO. -/
import Derived.Test.YthpdkmoedpcboaaGreatPO15
import Derived.Test.YthpdkmoedpcboaaGreatPO31
namespace Go.Proofs.YthpdkmoedpcboaaGreat
set_option linter.unusedSimpArgs false
set_option linter.unusedVariables false
open Go Go.Lift Go.Proofs
set_option maxRecDepth 100000 in
theorem running_c (g : Gr) (v o : List Int) : PC Tryz.prog 72 [.agg 3 (grF g), ints v, ints o] (.fn 113 3 (fun j => [.vptr 1 (fun _ => ints o) 0, .vptr 1 (fun _ => ints v) 0, .vptr 3 (grF g) 0].getD j .any)) := by
 refine zp Tryz.func72 fun G hG hR => ?_
 refine zs (zr ?_)
 refine zs (zr ?_)
 refine zt ?_
 exact zR
set_option maxRecDepth 100000 in
set_option maxHeartbeats 1000000 in
theorem runIt_c (g : Gr) (v : List Int) (m : Int) (s : Nat) (h24 : St24 g v m s) (l : Nat) (rec : Loop) (vs : Array Value) (hok : RecOK rec [5, 6, 7, 8, 9, 10, 12, 13] vs #[33, 34] (rngA Tryz.f40.body 0) (rngB Tryz.f40.body 0) 100) : FC1 Tryz.prog 113 [.yld l vs 8 (fun j => [.vptr 1 (fun _ => ints v) 0, .vptr 1 (fun _ => .int .i64 m) 0, .vptr 1 (fun _ => .int .i64 (s : Nat)) 0, .ptr (1, 0) 0 0, .ptr (2, 0) 0 0, .vptr 1 (fun _ => ints (outR g (s : Nat))) 0, .ptr (3, 0) 0 0, .ptr (4, 0) 0 0].getD j .any), .vptr 1 (fun _ => ints (outR g (s : Nat))) 0, .vptr 1 (fun _ => ints v) 0, .vptr 3 (grF g) 0] [(0, .one (.ob (lpP l rec (none)))), (1, .one (.arr 1 2 (fun _ c => zsF (none) c))), (2, .one (.arr 1 1 (fun _ _ => .bool false))), (3, .one (.arr 1 1 (fun _ _ => .sl (5, 0) 0 (0 + 1)))), (4, .one (.arr 1 1 (fun _ _ => .map (6, 0)))), (5, .one (.arr (0 + 1) 1 (fun i _ => .int .i64 ((psL g v (outR g (s : Nat)) (0)).getD i 0)))), (6, .fam (.mp (mpE intK (evR 6) (plMS g v m (outR g (s : Nat)) (0)))) (fun r => some (.arr (plcS g v m (outR g (s : Nat)) (0) r).length 1 (fun i _ => .int .i64 ((plcS g v m (outR g (s : Nat)) (0) r).getD i 0)))))] 7 (.tup 0 (fun _ => .any)) [(0, .one (.ob (lpP l rec (stopC (chS g v m s).isSome)))), (1, .one (.arr 1 2 (fun _ c => zsF (chS g v m s) c))), (2, .one (.arr 1 1 (fun _ _ => .bool (chS g v m s).isSome)))] 7 := by
 have hol := h24.out
 have hbx := h24.box
 refine FC_introS T_ok Tryz.func113 rfl (by simp [Tryz.ntmps113]) fun G hG hR => ?_
 simp only [Tryz.ntmps113, Tryz.results113] at hG ⊢
 simp only [argEnv, Nat.zero_add, Nat.reduceAdd]
 refine zs (zr ?_)
 refine zs (zr ?_)
 refine zb ?_
 refine awpS_loop (α := Nat) (fun q => ⟨[(0, .yld l vs 8 (fun j => [.vptr 1 (fun _ => ints v) 0, .vptr 1 (fun _ => .int .i64 m) 0, .vptr 1 (fun _ => .int .i64 (s : Nat)) 0, .ptr (1, 0) 0 0, .ptr (2, 0) 0 0, .vptr 1 (fun _ => ints (outR g (s : Nat))) 0, .ptr (3, 0) 0 0, .ptr (4, 0) 0 0].getD j .any)), (1, .vptr 1 (fun _ => ints (outR g (s : Nat))) 0), (2, .vptr 1 (fun _ => ints v) 0), (3, .vptr 3 (grF g) 0), (5, .int .i64 (psA g v (outR g (s : Nat)) q)), (8, ints (outR g (s : Nat))), (9, .int .i64 (outR g (s : Nat)).length), (10, .int .i64 (q : Nat))], [(0, .one (.ob (lpP l rec (none)))), (1, .one (.arr 1 2 (fun _ c => zsF (none) c))), (2, .one (.arr 1 1 (fun _ _ => .bool false))), (3, .one (.arr 1 1 (fun _ _ => .sl (7, 0) 0 (q + 1)))), (4, .one (.arr 1 1 (fun _ _ => .map (8, 0)))), (7, .one (.arr (q + 1) 1 (fun i _ => .int .i64 ((psL g v (outR g (s : Nat)) (q)).getD i 0)))), (8, .fam (.mp (mpE intK (evR 8) (plMS g v m (outR g (s : Nat)) (q)))) (fun r => some (.arr (plcS g v m (outR g (s : Nat)) (q) r).length 1 (fun i _ => .int .i64 ((plcS g v m (outR g (s : Nat)) (q) r).getD i 0)))))], 9⟩) (fun q => q ≤ (outR g (s : Nat)).length ∧ chJ g v m (v.getD s 0) (outR g (s : Nat)) q = none) (fun q => (outR g (s : Nat)).length - q) (0) (⟨Nat.zero_le _, rfl⟩) ?_ ?_
 · refine wk_of (fun k => if k = 7 then 5 else if k = 8 then 6 else k) (fun _ => false) (fun _ => false) ?_ ?_ rfl (by simp) (fun k hk => by first | exact ⟨rfl, rfl⟩ | (revert k; decide) | (obtain rfl : k = 0 := (by omega); exact ⟨rfl, rfl⟩) | (have hk2 : k = 0 ∨ k = 1 := (by omega); rcases hk2 with rfl | rfl <;> exact ⟨rfl, rfl⟩))
   · simp [hG, List.getD_cons_zero, List.getD_cons_succ, -List.getD_eq_getElem?_getD]; rfl
   simp [hG, List.getD_cons_zero, List.getD_cons_succ, -List.getD_eq_getElem?_getD]; exact fam_le fun p _ => evR_le rfl (by decide) rfl
 rintro q ⟨hq, hch⟩
 refine zs (zr ?_)
 refine zs (zy (fun hb11 => ?_) fun hb11 => ?_)
 · have hql : q < (outR g (s : Nat)).length := (by omega)
   have hkb := hol.2 _ (getD_mem (d := (0 : Int)) hql)
   have hed := edge_at h24.gv (show ((outR g (s : Nat)).getD q 0).toNat < g.edges.length by omega)
   have hvl := h24.vl
   have hpx := psA_box (g := g) (p := (outR g (s : Nat))) hbx q
   have hvb := box_at hbx (g.edges.getD ((outR g (s : Nat)).getD q 0).toNat de).to.toNat
   have hsucc := psA_succ (g := g) (v := v) (p := (outR g (s : Nat))) (q := q)
   refine zk (zs (zb (zs (zr ?_))))
   refine zs ?_
   refine awpS_draw hR mixed [] ⟨[], [], []⟩ fun mu0 => ?_
   refine za [0, 1, 2, 3, 4, 5, 6, 7, 8, 9, 10, 11] [] 0 [11, 10, 9, 8, 7, 6, 5, 4, 3, 2, 1, 0] ?_
   refine awpA_done (by decide +kernel) ?_
   refine zs (zL (zl 3 ?_))
   refine awpL_yieldP 0 hR [0, 1, 2, 3, 4, 7, 8] (fun _ => false) (bodyCh_y g v m s h24 q hql hok) rfl rfl (by rw [hok.params]; rfl) rfl rfl rfl (by simp) (.inl fun _ => rfl) ?_ ?_ ?_ fun K hK x hI hno => ?_
   · simp [hG, List.getD_cons_zero, List.getD_cons_succ, -List.getD_eq_getElem?_getD]
   · simp [hG, List.range'_succ, List.range'_zero, List.getD_cons_zero, List.getD_cons_succ, -List.getD_eq_getElem?_getD]; exact hsucc.symm
   · simp [hG, List.getD_cons_zero, List.getD_cons_succ, -List.getD_eq_getElem?_getD]; exact fam_le fun p _ => evR_le rfl (by decide) rfl
   simp [hG, List.getD_cons_zero, List.getD_cons_succ, -List.getD_eq_getElem?_getD]
   refine hK _ ?_
   clear K hK
   refine zl 1 ?_
   refine zN (zy (fun hb30 => ?_) fun hb30 => ?_)
   · obtain ⟨x, hx⟩ := Option.isSome_iff_exists.1 hb30
     have hfs := fnd_hit hch hql hx
     refine zt (zbt (ztt (zbt ?_)))
     refine RetF_of (()) (id) (fun _ => false) (fun _ => false) trivial ?_ ?_ (by rfl) (by simp) (fun k _ => ⟨rfl, rfl⟩)
     · simp [hG, List.getD_cons_zero, List.getD_cons_succ, -List.getD_eq_getElem?_getD]
     rw [hfs]; simp [hG, hx, List.getD_cons_zero, List.getD_cons_succ, -List.getD_eq_getElem?_getD]
   have hx : fndS g v m s q = none := (by simpa using hb30)
   have hjx := jnx_none hx
   have hch2 := fnd_next hch hx
   refine zk (zn (zbn (zr ?_)))
   refine zn ?_
   refine round_end (q + 1) (⟨by omega, hch2⟩) (by omega) ?_
   refine wk_of (fun k => if k = 7 then 9 else if k = 8 then 10 else k) (fun _ => false) (fun _ => false) ?_ ?_ rfl (by simp) (fun k hk => by first | exact ⟨rfl, rfl⟩ | (revert k; decide) | (obtain rfl : k = 0 := (by omega); exact ⟨rfl, rfl⟩) | (have hk2 : k = 0 ∨ k = 1 := (by omega); rcases hk2 with rfl | rfl <;> exact ⟨rfl, rfl⟩))
   · rw [hsucc]; simp [hG, hjx, List.getD_cons_zero, List.getD_cons_succ, -List.getD_eq_getElem?_getD]
   simp [hG, hjx, hx, List.getD_cons_zero, List.getD_cons_succ, -List.getD_eq_getElem?_getD]; exact fam_le fun p _ => evR_le rfl (by decide) rfl
 obtain rfl : q = (outR g (s : Nat)).length := (by omega)
 have hce := fnd_end hch
 refine zx (ztx (zbx (zn ?_)))
 refine RetF_of (()) (id) (fun _ => false) (fun _ => false) trivial ?_ ?_ (by rfl) (by simp) (fun k _ => ⟨rfl, rfl⟩)
 · simp [hG, List.getD_cons_zero, List.getD_cons_succ, -List.getD_eq_getElem?_getD]
 rw [hce]; simp [hG, List.getD_cons_zero, List.getD_cons_succ, -List.getD_eq_getElem?_getD]
set_option maxRecDepth 100000 in
theorem choose0_c (g : Gr) (v : List Int) (m : Int) (s : Nat) (h24 : St24 g v m s) : PC Tryz.prog 40 [.agg 3 (grF g), ints v, .int .i64 m, .int .i64 (s : Nat)] (.tup 2 (fun j => [.agg 2 (splF ((chS g v m s).getD ds)), .bool (chS g v m s).isSome].getD j .any)) := by
 have hst := h24.st
 refine zp Tryz.func40 fun G hG hR => ?_
 refine zs (zr ?_)
 refine zs (zL (zl 2 ?_))
 refine zc cal28 (outC_c g (s : Nat)) ?_
 refine zl 6 ?_
 refine zN (zs (zr ?_))
 refine zs (zr ?_)
 refine zs (zs (zL (zl 3 ?_)))
 refine zc cal72 (running_c g v (outR g (s : Nat))) ?_
 refine zN (zb ?_)
 refine awpS_wk (st2 := ⟨[(5, .vptr 1 (fun _ => ints v) 0), (6, .vptr 1 (fun _ => .int .i64 m) 0), (7, .vptr 1 (fun _ => .int .i64 (s : Nat)) 0), (8, .ptr (1, 0) 0 0), (9, .ptr (2, 0) 0 0), (10, .vptr 1 (fun _ => ints (outR g (s : Nat))) 0), (12, .ptr (3, 0) 0 0), (13, .ptr (4, 0) 0 0), (32, .fn 113 3 (fun j => [.vptr 1 (fun _ => ints (outR g (s : Nat))) 0, .vptr 1 (fun _ => ints v) 0, .vptr 3 (grF g) 0].getD j .any))], [(1, .one (.arr 1 2 (fun _ c => zsF (none) c))), (2, .one (.arr 1 1 (fun _ _ => .bool false))), (3, .one (.arr 1 1 (fun _ _ => .sl (5, 0) 0 (0 + 1)))), (4, .one (.arr 1 1 (fun _ _ => .map (6, 0)))), (5, .one (.arr (0 + 1) 1 (fun i _ => .int .i64 ((psL g v (outR g (s : Nat)) (0)).getD i 0)))), (6, .fam (.mp (mpE intK (evR 6) (plMS g v m (outR g (s : Nat)) (0)))) (fun r => some (.arr (plcS g v m (outR g (s : Nat)) (0) r).length 1 (fun i _ => .int .i64 ((plcS g v m (outR g (s : Nat)) (0) r).getD i 0)))))], 7⟩) ?_ ?_
 · refine wk_ofI (fun d => if d.1 = 6 then (if d.2 = 1 then (10, 0) else (9, d.2)) else (if d.1 = 1 then 4 else if d.1 = 2 then 5 else if d.1 = 3 then 8 else if d.1 = 4 then 11 else if d.1 = 5 then 7 else d.1, d.2)) (fun k => decide (k ≤ 3) || k == 6) (fun d => decide (d.1 = 6 ∧ 1 < d.2)) ?_ ?_ ?_ (Nat.zero_le _) (fun d hd => absurd hd (Nat.not_lt_zero _))
   · simp [hG, List.getD_cons_zero, List.getD_cons_succ, -List.getD_eq_getElem?_getD]
   · simp [hG, List.getD_cons_zero, List.getD_cons_succ, -List.getD_eq_getElem?_getD]; refine ⟨rfl, HLe_cons rfl ?_ HLe_nil, fun i => ?_⟩; (exact evR_new rfl (show 6 < 7 by decide) rfl); (rcases Nat.eq_zero_or_pos i with h | h; (subst h; rw [if_neg (Nat.lt_irrefl 0)]; simp [HLe, plcS_zero]); (rw [if_pos h, plcS_zero, if_neg (by omega)]))
   intro d d' h1 h2 _ _ h; have k1 := lkH_keys h1; have k2 := lkH_keys h2; simp at k1 k2; obtain ⟨a, b⟩ := d; obtain ⟨a2, b2⟩ := d'; simp only at k1 k2 h; (repeat' split at h) <;> simp only [Prod.mk.injEq] at h ⊢ <;> omega
 refine awpS_rangeJ hR [5, 6, 7, 8, 9, 10, 12, 13] [1, 2, 3, 4, 5, 6] (fun _ => false) cal113 rfl trivial (fun l rec vs hok => by rw [hG] at hok; exact FCY_of (runIt_c g v m s h24 l rec vs hok)) (by simp) (by simp) (.inl fun _ => rfl) (fun l rec vs => ?_) (fun l rec => ?_) fun K hK hKr hKe x hI hno => ?_
 · simp [hG, List.range'_succ, List.range'_zero, List.getD_cons_zero, List.getD_cons_succ, -List.getD_eq_getElem?_getD]
 · simp [hG, List.getD_cons_zero, List.getD_cons_succ, -List.getD_eq_getElem?_getD]; exact fam_le fun p _ => evR_le rfl (by decide) rfl
 by_cases hJ : (chS g v m s).isSome = true
 · simp [hG, List.getD_cons_zero, List.getD_cons_succ, -List.getD_eq_getElem?_getD, hJ]
   refine hKr _ ?_
   clear K hK hKr hKe
   refine zbt ?_
   refine RetOK_of ?_
   simp [hG, List.getD_cons_zero, List.getD_cons_succ, -List.getD_eq_getElem?_getD, hJ]
   obtain ⟨x, hx⟩ := Option.isSome_iff_exists.1 hJ; rw [hx]; exact ⟨rfl, Clo.le _ Clo_rowsI⟩
 simp [hG, List.getD_cons_zero, List.getD_cons_succ, -List.getD_eq_getElem?_getD, hJ]
 refine hK _ ?_
 clear K hK hKr hKe
 refine zn (zbn (zs (zr ?_)))
 refine zt ?_
 refine RetOK_of ?_
 simp [hG, List.getD_cons_zero, List.getD_cons_succ, -List.getD_eq_getElem?_getD]
 have hx : chS g v m s = none := (by simpa using hJ); rw [hx]; exact ⟨⟨rfl, rfl⟩, rfl⟩
end Go.Proofs.YthpdkmoedpcboaaGreat
