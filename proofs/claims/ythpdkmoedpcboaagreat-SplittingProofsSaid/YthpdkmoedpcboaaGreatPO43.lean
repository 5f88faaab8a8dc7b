/- Parts of the proof: XC NP. -/
import Derived.Test.YthpdkmoedpcboaaGreatPO15
import Derived.Test.YthpdkmoedpcboaaGreatPO42
namespace Go.Proofs.YthpdkmoedpcboaaGreat
set_option linter.unusedSimpArgs false
set_option linter.unusedVariables false
open Go Go.Lift Go.Proofs
set_option maxRecDepth 100000 in
theorem bodyL_y (v w : List Int) (hw : w.length ≤ 1000000) {l : Nat} {rec : Loop} {vs : Array Value} (hok : RecOK rec [4, 9] vs #[25] (rngA Tryz.f54.body 0) (rngB Tryz.f54.body 0) 32) : YC Tryz.prog l rec vs ([ints w] ++ [.ptr (1, 0) 0 0, .ptr (2, 0) 0 0]) ((0, .one (.ob (lpP l rec none))) :: [(1, .one (.arr 1 1 (fun _ _ => ints v))), (2, .one (.arr 1 1 (fun _ _ => .bool false)))]) 3 (fun _ : Unit => True) (fun _ : Unit => .bool (exC (nzB w)).isNone) (fun _ : Unit => (0, .one (.ob (lpP l rec (exC (nzB w))))) :: [(1, .one (.arr 1 1 (fun _ _ => ints (if nzB w = true then w else v)))), (2, .one (.arr 1 1 (fun _ _ => .bool (nzB w))))]) (fun _ : Unit => 3) := by
 refine YC_introJ hok rfl rfl rfl (by simp) rfl (by simp) (by simp) (by decide) fun G hG hR => ?_
 show AwpS _ _ _ _ _ ⟨[(25, ints w), (4, .ptr (1, 0) 0 0), (9, .ptr (2, 0) 0 0)], [(1, .one (.arr 1 1 (fun _ _ => ints v))), (2, .one (.arr 1 1 (fun _ _ => .bool false)))], 3⟩
 refine zr ?_
 refine zn ?_
 refine ⟨rfl, fun G hG hR => ?_⟩
 refine zb (zs (zL (zl 1 ?_)))
 refine zc cal88 (zeroC_c w hw) ?_
 refine zl 1 ?_
 refine zN (zy (fun hb28 => ?_) fun hb28 => ?_)
 · have hz : nzB w = true := (by simpa [nzB] using hb28)
   refine zs (zr ?_)
   refine zx ?_
   refine blockQ_exit_ne (by decide) (thenQ_exit ?_)
   refine RetYJ_of (()) (id) (fun _ => false) (fun _ => false) trivial (by rw [hz]; rfl) ?_ (by rfl) (by simp) (fun k _ => ⟨rfl, rfl⟩)
   rw [hz]; simp [hG, List.getD_cons_zero, List.getD_cons_succ, -List.getD_eq_getElem?_getD]
 have hz : nzB w = false := (by simpa [nzB] using hb28)
 refine zk (zn (zbn (zn ?_)))
 refine RetYJ_of (()) (id) (fun _ => false) (fun _ => false) trivial (by rw [hz]; rfl) ?_ (by rfl) (by simp) (fun k _ => ⟨rfl, rfl⟩)
 rw [hz]; simp [hG, List.getD_cons_zero, List.getD_cons_succ, -List.getD_eq_getElem?_getD]
set_option maxRecDepth 100000 in
theorem lessC_c (g : Gr) (v : List Int) (m : Int) : PC Tryz.prog 91 [.agg 3 (grF g), ints v, .int .i64 m] (.fn 127 3 (fun j => [.vptr 1 (fun _ => ints v) 0, .vptr 3 (grF g) 0, .vptr 1 (fun _ => .int .i64 m) 0].getD j .any)) := by
 refine zp Tryz.func91 fun G hG hR => ?_
 refine zs (zr ?_)
 refine zs (zr ?_)
 refine zt ?_
 exact zR
set_option maxRecDepth 100000 in
set_option maxHeartbeats 1000000 in
theorem lessIt_c (g : Gr) (v : List Int) (m : Int) (hv : gcheck g = 0) (hl : (v.length : Int) = g.states) (hbx : BoxV v) (hm : 1 ≤ m ∧ m ≤ 256) (l : Nat) (rec : Loop) (vs : Array Value) (hok : RecOK rec [4, 9] vs #[25] (rngA Tryz.f54.body 0) (rngB Tryz.f54.body 0) 32) : FC1 Tryz.prog 127 [.yld l vs 2 (fun j => [.ptr (1, 0) 0 0, .ptr (2, 0) 0 0].getD j .any), .vptr 1 (fun _ => ints v) 0, .vptr 3 (grF g) 0, .vptr 1 (fun _ => .int .i64 m) 0] [(0, .one (.ob (lpP l rec (none)))), (1, .one (.arr 1 1 (fun _ _ => ints v))), (2, .one (.arr 1 1 (fun _ _ => .bool false)))] 3 (.tup 0 (fun _ => .any)) [(0, .one (.ob (lpP l rec (exC (lowI g m v).isSome)))), (1, .one (.arr 1 1 (fun _ _ => ints (lstN g m v)))), (2, .one (.arr 1 1 (fun _ _ => .bool (lowI g m v).isSome)))] 3 := by
 have hst := (gcheck_valid hv).1.st
 refine FC_introS T_ok Tryz.func127 rfl (by simp [Tryz.ntmps127]) fun G hG hR => ?_
 simp only [Tryz.ntmps127, Tryz.results127] at hG ⊢
 simp only [argEnv, Nat.zero_add, Nat.reduceAdd]
 refine zs (zr ?_)
 refine zb ?_
 refine awpS_loop (α := Nat) (fun s => ⟨[(0, .yld l vs 2 (fun j => [.ptr (1, 0) 0 0, .ptr (2, 0) 0 0].getD j .any)), (1, .vptr 1 (fun _ => ints v) 0), (2, .vptr 3 (grF g) 0), (3, .vptr 1 (fun _ => .int .i64 m) 0), (8, ints v), (9, .int .i64 v.length), (10, .int .i64 (s : Nat))], [(0, .one (.ob (lpP l rec (none)))), (1, .one (.arr 1 1 (fun _ _ => ints v))), (2, .one (.arr 1 1 (fun _ _ => .bool false)))], 3⟩) (fun s => s ≤ v.length ∧ ∀ q, q < s → v.getD q 0 = 0 ∨ ((greV g (decV v q) m).all fun n => decide (n = 0)) = true) (fun s => v.length - s) (0) (⟨Nat.zero_le _, fun q hq => absurd hq (Nat.not_lt_zero _)⟩) ?_ ?_
 · refine wk_of (id) (fun _ => false) (fun _ => false) ?_ ?_ rfl (by simp) (fun k hk => by first | exact ⟨rfl, rfl⟩ | (revert k; decide) | (obtain rfl : k = 0 := (by omega); exact ⟨rfl, rfl⟩) | (have hk2 : k = 0 ∨ k = 1 := (by omega); rcases hk2 with rfl | rfl <;> exact ⟨rfl, rfl⟩))
   · simp [hG, List.getD_cons_zero, List.getD_cons_succ, -List.getD_eq_getElem?_getD]
   simp [hG, List.getD_cons_zero, List.getD_cons_succ, -List.getD_eq_getElem?_getD]
 rintro s ⟨hs, hn⟩
 refine zs (zr ?_)
 refine zs (zy (fun hb11 => ?_) fun hb11 => ?_)
 · have hsl : s < v.length := (by omega)
   have hvs := box_at hbx s
   refine zk (zs (zb (zs (zr ?_))))
   refine zs (zs (zr ?_))
   refine zy (fun hb16 => ?_) fun hb16 => ?_
   · have hz0 : v.getD s 0 = 0 := hb16
     refine zx (zbx (zr ?_))
     refine zn ?_
     refine round_end (s + 1) (⟨by omega, step_all hn (.inl hz0)⟩) (by omega) ?_
     refine wk_of (id) (fun _ => false) (fun _ => false) ?_ ?_ rfl (by simp) (fun k hk => by first | exact ⟨rfl, rfl⟩ | (revert k; decide) | (obtain rfl : k = 0 := (by omega); exact ⟨rfl, rfl⟩) | (have hk2 : k = 0 ∨ k = 1 := (by omega); rcases hk2 with rfl | rfl <;> exact ⟨rfl, rfl⟩))
     · simp [hG, List.getD_cons_zero, List.getD_cons_succ, -List.getD_eq_getElem?_getD]
     simp [hG, List.getD_cons_zero, List.getD_cons_succ, -List.getD_eq_getElem?_getD]
   have hnz : v.getD s 0 ≠ 0 := hb16
   have hgb := gre_box (g := g) hm.1 (decV_box hbx hnz)
   have hgl : (greV g (decV v s) m).length = v.length := hgb.2.trans decV_len
   refine zk (zs (zL (zl 1 ?_)))
   refine zf cal27 [] (cloneI_c v (by omega)) (fun x hI hno => ?_)
   refine zl 1 ?_
   refine zN (zs (zr ?_))
   refine zs (zL (zl 4 ?_))
   refine awpL_wk (st2 := ⟨[(0, .yld l vs 2 (fun j => [.ptr (1, 0) 0 0, .ptr (2, 0) 0 0].getD j .any)), (1, .vptr 1 (fun _ => ints v) 0), (2, .vptr 3 (grF g) 0), (3, .vptr 1 (fun _ => .int .i64 m) 0), (8, ints v), (9, .int .i64 v.length), (10, .int .i64 (s : Nat)), (25, .yld l vs 2 (fun j => [.ptr (1, 0) 0 0, .ptr (2, 0) 0 0].getD j .any)), (26, .agg 3 (grF g)), (27, ints (decV v s)), (28, .int .i64 m)], [(0, .one (.ob (lpP l rec (none)))), (1, .one (.arr 1 1 (fun _ _ => ints v))), (2, .one (.arr 1 1 (fun _ _ => .bool false)))], 3⟩) ?_ ?_
   · refine wk_of (id) (fun k => k == 3) (fun _ => false) ?_ ?_ rfl (by simp) (fun k hk => by first | exact ⟨rfl, rfl⟩ | (revert k; decide) | (obtain rfl : k = 0 := (by omega); exact ⟨rfl, rfl⟩) | (have hk2 : k = 0 ∨ k = 1 := (by omega); rcases hk2 with rfl | rfl <;> exact ⟨rfl, rfl⟩))
     · simp [hG, List.getD_cons_zero, List.getD_cons_succ, -List.getD_eq_getElem?_getD]; exact ⟨decV_len.symm, Nat.le_of_eq decV_len, fun q hq => by rw [decV_at (by rw [decV_len] at hq; exact hq)]; by_cases h : q = s; (subst h; rw [if_pos rfl, if_pos rfl]); (rw [if_neg h, if_neg h])⟩
     simp [hG, List.getD_cons_zero, List.getD_cons_succ, -List.getD_eq_getElem?_getD]
   refine zc cal128 (greatM_c g (decV v s) m hv (by rw [decV_len]; exact hl) (decV_box hbx hnz) hm) ?_
   refine awpL_yieldP 0 hR [0, 1, 2] (fun _ => false) (bodyL_y v (greV g (decV v s) m) (by omega) hok) rfl rfl (by rw [hok.params]; rfl) rfl rfl rfl (by simp) (.inl fun _ => rfl) ?_ ?_ ?_ fun K hK x hI hno => ?_
   · simp [hG, List.getD_cons_zero, List.getD_cons_succ, -List.getD_eq_getElem?_getD]
   · simp [hG, List.range'_succ, List.range'_zero, List.getD_cons_zero, List.getD_cons_succ, -List.getD_eq_getElem?_getD]
   · simp [hG, List.range'_succ, List.range'_zero, List.getD_cons_zero, List.getD_cons_succ, -List.getD_eq_getElem?_getD]
   simp [hG, List.getD_cons_zero, List.getD_cons_succ, -List.getD_eq_getElem?_getD]
   refine hK _ ?_
   clear K hK
   refine zl 1 ?_
   refine zN (zy (fun hb31 => ?_) fun hb31 => ?_)
   · have hz : nzB (greV g (decV v s) m) = true := (by simpa using hb31)
     have hls := lowI_some hsl hnz (by simpa [nzB] using hz) hn
     have hlN := lstN_some hls
     refine zt (zbt (ztt (zbt ?_)))
     refine RetF_of (()) (id) (fun _ => false) (fun _ => false) trivial ?_ ?_ (by rfl) (by simp) (fun k _ => ⟨rfl, rfl⟩)
     · simp [hG, List.getD_cons_zero, List.getD_cons_succ, -List.getD_eq_getElem?_getD]
     simp [hG, hls, hlN, hz, List.getD_cons_zero, List.getD_cons_succ, -List.getD_eq_getElem?_getD]
   have hz : nzB (greV g (decV v s) m) = false := (by simpa using hb31)
   refine zk (zn (zbn (zr ?_)))
   refine zn ?_
   refine round_end (s + 1) (⟨by omega, step_all hn (.inr (by simpa [nzB] using hz))⟩) (by omega) ?_
   refine wk_of (id) (fun _ => false) (fun _ => false) ?_ ?_ rfl (by simp) (fun k hk => by first | exact ⟨rfl, rfl⟩ | (revert k; decide) | (obtain rfl : k = 0 := (by omega); exact ⟨rfl, rfl⟩) | (have hk2 : k = 0 ∨ k = 1 := (by omega); rcases hk2 with rfl | rfl <;> exact ⟨rfl, rfl⟩))
   · simp [hG, List.getD_cons_zero, List.getD_cons_succ, -List.getD_eq_getElem?_getD]
   simp [hG, hz, List.getD_cons_zero, List.getD_cons_succ, -List.getD_eq_getElem?_getD]
 obtain rfl : s = v.length := (by omega)
 have hln := lowI_none hn
 refine zx (ztx (zbx (zn ?_)))
 refine RetF_of (()) (id) (fun _ => false) (fun _ => false) trivial ?_ ?_ (by rfl) (by simp) (fun k _ => ⟨rfl, rfl⟩)
 · simp [hG, List.getD_cons_zero, List.getD_cons_succ, -List.getD_eq_getElem?_getD]
 simp [hG, hln, lstN_none hln, List.getD_cons_zero, List.getD_cons_succ, -List.getD_eq_getElem?_getD]
set_option maxRecDepth 100000 in
set_option maxHeartbeats 1000000 in
theorem leastM_c (g : Gr) (v : List Int) (m : Int) : PC Tryz.prog 54 [.agg 3 (grF g), ints v, .int .i64 m] (.tup 2 (fun j => [ints (leaL g v m), .int .i64 (eigN g v m)].getD j .any)) := by
 refine zp Tryz.func54 fun G hG hR => ?_
 refine zs (zr ?_)
 refine zs (zs (zL (zl 3 ?_)))
 refine zc cal53 (eigC_c g v m) ?_
 refine zl 1 ?_
 refine zN (zs (zr ?_))
 refine zy (fun hb16 => ?_) fun hb16 => ?_
 · refine zs (zr ?_)
   refine zt ?_
   refine RetOK_of ?_
   simp [hG, List.getD_cons_zero, List.getD_cons_succ, -List.getD_eq_getElem?_getD]
   rw [leaL_1 hb16]
 obtain ⟨hv, hm, hl, hbx⟩ := vecN_zero (eigN_zero hb16).1
 have hst := (gcheck_valid hv).1.st
 refine zk (zs (zL (zl 1 ?_)))
 refine zf cal27 [] (cloneI_c v (by omega)) (fun x hI hno => ?_)
 refine zl 1 ?_
 refine zN (zs (zs ?_))
 refine awpS_wk (st2 := ⟨[(2, .int .i64 m), (3, .ptr (0, 0) 0 0), (4, .ptr (1, 0) 0 0)], [(0, .one (.arr 1 3 (fun _ => grF g))), (1, .one (.arr 1 1 (fun _ _ => ints v)))], 2⟩) ?_ ?_
 · exact zw (id) (fun k => k == 2) (fun _ => false)
 refine zr ?_
 refine zb ?_
 refine awpS_loop (α := Nat) (fun k => ⟨[(2, .int .i64 m), (3, .ptr (0, 0) 0 0), (4, .ptr (1, 0) 0 0), (9, .ptr (2, 0) 0 0)], [(0, .one (.arr 1 3 (fun _ => grF g))), (1, .one (.arr 1 1 (fun _ _ => ints (lstI g m v k)))), (2, .one (.arr 1 1 (fun _ _ => .bool (bF g m v k))))], 3⟩) (fun k => ∀ j, j < k → bF g m v j = true) (fun k => (lstI g m v k).sum.toNat + bN (bF g m v k)) (0) (fun j hj => absurd hj (Nat.not_lt_zero _)) ?_ ?_
 · exact zi (h := by simp [hG, List.getD_cons_zero, List.getD_cons_succ, -List.getD_eq_getElem?_getD]; exact ⟨Clo.le _ Clo_ints, rfl⟩)
 rintro k hn
 refine zs (zs (zr ?_))
 refine zy (fun hb20 => ?_) fun hb20 => ?_
 · have hbf : bF g m v k = true := hb20
   have hms := lst_meas (g := g) hm.1 hbx hbf
   obtain ⟨hbk, hlk⟩ := lst_box (g := g) hm.1 hbx k
   have hlk2 : ((lstI g m v k).length : Int) = g.states := (by rw [hlk]; exact hl)
   refine zk (zs (zb (zs (zr ?_))))
   refine zs (zL (zl 3 ?_))
   refine zc cal91 (lessC_c g (lstI g m v k) m) ?_
   refine zN (zb ?_)
   refine awpS_rangeJ hR [4, 9] [1, 2] (fun _ => false) cal127 rfl trivial (fun l rec vs hok => by rw [hG] at hok; exact FCY_of (lessIt_c g (lstI g m v k) m hv hlk2 hbk hm l rec vs hok)) (by simp) (by simp) (.inl fun _ => rfl) (fun l rec vs => ?_) (fun l rec => ?_) fun K hK hKr hKe x hI hno => ?_
   · simp [hG, List.range'_succ, List.range'_zero, List.getD_cons_zero, List.getD_cons_succ, -List.getD_eq_getElem?_getD]
   · simp [hG, List.range'_succ, List.range'_zero, List.getD_cons_zero, List.getD_cons_succ, -List.getD_eq_getElem?_getD]
   by_cases hJ : (lowI g m (lstI g m v k)).isSome = true
   · simp [hG, List.getD_cons_zero, List.getD_cons_succ, -List.getD_eq_getElem?_getD, hJ]
     refine hKe 2 _ ?_
     clear K hK hKr hKe
     refine zbx (zn (zbn (zs (zr ?_ (h := by intro c K h; simp [hG, List.getD_cons_zero, List.getD_cons_succ, -List.getD_eq_getElem?_getD, hJ]; first | exact z1 c h | exact ⟨.mk c, h⟩)))))
     refine zr ?_ (h := by intro c K h; simp [hG, List.getD_cons_zero, List.getD_cons_succ, -List.getD_eq_getElem?_getD, hJ]; first | exact z1 c h | exact ⟨.mk c, h⟩)
     refine zn ?_
     refine round_end (k + 1) (step_all hn hbf) (by omega) ?_
     exact zw (fun k => if k = 2 then 4 else k) (fun _ => false) (fun _ => false) (e := by simp [hG, List.getD_cons_zero, List.getD_cons_succ, -List.getD_eq_getElem?_getD, hJ]) (h := by simp [hG, hJ, lstI_next, bF_succ, List.getD_cons_zero, List.getD_cons_succ, -List.getD_eq_getElem?_getD])
   simp [hG, List.getD_cons_zero, List.getD_cons_succ, -List.getD_eq_getElem?_getD, hJ]
   refine hK _ ?_
   clear K hK hKr hKe
   refine zn (zbn (zn (zbn (zs (zr ?_)))))
   refine zr ?_
   refine zn ?_
   refine round_end (k + 1) (step_all hn hbf) (by omega) ?_
   exact zw (fun k => if k = 2 then 4 else k) (fun _ => false) (fun _ => false) (h := by simp [hG, hJ, lstI_next, bF_succ, List.getD_cons_zero, List.getD_cons_succ, -List.getD_eq_getElem?_getD])
 have hbf : bF g m v k = false := (by simpa using hb20)
 have hlv := lst_exit hm.1 hbx hn hbf
 refine zx (ztx (zbx (zs (zr ?_))))
 refine zt ?_
 refine RetOK_of ?_
 simp [hG, List.getD_cons_zero, List.getD_cons_succ, -List.getD_eq_getElem?_getD]
 have h0 : eigN g v m = 0 := (by simpa using hb16); rw [leaL_2 h0, hlv, h0]; exact ⟨Clo.le _ Clo_ints, rfl⟩
end Go.Proofs.YthpdkmoedpcboaaGreat
namespace Go.Proofs.YthpdkmoedpcboaaGreat
set_option linter.unusedSimpArgs false
set_option linter.unusedVariables false
open Go Go.Lift Go.Proofs
def supA (v : List Int) : Nat → List Int
  | 0 => []
  | i + 1 => supA v i ++ if v.getD i 0 > 0 then [(i : Int)] else []
def supL (v : List Int) : List Int := supA v v.length
theorem supA_zero {v : List Int} : supA v 0 = [] := rfl
theorem supA_yes {v : List Int} {i : Nat} (h : v.getD i 0 > 0) : supA v (i + 1) = supA v i ++ [(i : Int)] := by show supA v i ++ _ = _; rw [if_pos h]
theorem supA_no {v : List Int} {i : Nat} (h : ¬ v.getD i 0 > 0) : supA v (i + 1) = supA v i := by show supA v i ++ _ = _; rw [if_neg h, List.append_nil]
theorem supA_len {v : List Int} : ∀ i, (supA v i).length ≤ i
  | 0 => Nat.le_refl _
  | i + 1 => by
    have := supA_len (v := v) i
    show (supA v i ++ _).length ≤ _
    rw [List.length_append]; split <;> simp <;> omega
theorem supA_mem {v : List Int} {x : Int} : ∀ {i : Nat}, x ∈ supA v i ↔ ∃ j : Nat, j < i ∧ x = j ∧ v.getD j 0 > 0
  | 0 => by simp [supA]
  | i + 1 => by
    show x ∈ supA v i ++ _ ↔ _
    rw [List.mem_append, supA_mem (i := i)]
    constructor
    · rintro (⟨j, h1, h2, h3⟩ | h)
      · exact ⟨j, by omega, h2, h3⟩
      · split at h
        · rename_i h2
          rw [List.mem_singleton] at h
          exact ⟨i, by omega, h, h2⟩
        · cases h
    · rintro ⟨j, h1, h2, h3⟩
      by_cases e : j = i
      · subst e; exact .inr (by rw [if_pos h3]; simp [h2])
      · exact .inl ⟨j, by omega, h2, h3⟩
theorem supA_asc {v : List Int} : ∀ i, (supA v i).Pairwise (· < ·)
  | 0 => List.Pairwise.nil
  | i + 1 => by
    show (supA v i ++ _).Pairwise _
    rw [List.pairwise_append]
    refine ⟨supA_asc i, by split <;> simp, fun a ha b hb => ?_⟩
    obtain ⟨j, h1, h2, _⟩ := supA_mem.1 ha
    split at hb
    · rw [List.mem_singleton] at hb; omega
    · cases hb
theorem supL_in {v : List Int} {n : Int} (hl : (v.length : Int) = n) : ∀ x ∈ supL v, 0 ≤ x ∧ x < n := fun x hx => by
  obtain ⟨j, h1, h2, _⟩ := supA_mem.1 hx
  omega
end Go.Proofs.YthpdkmoedpcboaaGreat
