/- Parts of the proof: WP. -/
import Derived.Test.YthpdkmoedpcboaaGreatPO15
import Derived.Test.YthpdkmoedpcboaaGreatPO32
namespace Go.Proofs.YthpdkmoedpcboaaGreat
set_option linter.unusedSimpArgs false
set_option linter.unusedVariables false
open Go Go.Lift Go.Proofs
def exR : List Spl := [⟨0, [[1], [0]]⟩]
def wantG : Gr := ⟨2, 3, [⟨0, 1, 2⟩, ⟨1, 0, 0⟩, ⟨1, 0, 1⟩, ⟨2, 0, 0⟩, ⟨2, 0, 1⟩]⟩
theorem aw0 : baseN smG [2, 1] 1 = 0 := by decide +kernel
theorem aw1 : cLs smG [2, 1] 1 = exR := by decide +kernel
theorem aw2 : cNo smG [2, 1] 1 = 0 := by decide +kernel
theorem aw3 : splG smG exR = wantG := by
  have h : normE (edA smG exR smG.edges.length) = wantG.edges := by decide +kernel
  have h2 : offA smG exR smG.states.toNat = 3 := by decide +kernel
  unfold splG
  rw [h, h2]; rfl
theorem exR_rd : Rd smG [2, 1] 1 exR := by
  have e : cRd smG [2, 1] 1 smG.states.toNat = exR := by decide +kernel
  have h := cRd_round aw0 (by rw [e]; exact List.cons_ne_nil _ _)
  have h2 := cRd_ok (g := smG) (v := [2, 1]) (m := 1) (vecN_zero (eigN_zero (baseN_zero aw0).1).1).1 (Nat.le_refl _)
  rw [e] at h h2
  exact ⟨h2, h⟩
theorem awA : aplG smG [2, 1] 1 exR = wantG ∧ aplW smG [2, 1] 1 exR = [1, 1, 1] ∧ aplP smG [2, 1] 1 exR = [0, 0, 1] ∧ aplN smG [2, 1] 1 exR = 0 := by
  obtain ⟨e1, e2, e3, e4⟩ := apl_3 exR_rd.rd (show ¬ (64 < offA smG exR smG.states.toNat ∨ 1024 < (edA smG exR smG.edges.length).length) by decide +kernel)
  rw [e1, e2, e3, e4]
  exact ⟨aw3, by decide +kernel, by decide +kernel, rfl⟩
theorem aw4 : aplG smG [2, 1] 1 exR = wantG := awA.1
theorem aw5 : aplW smG [2, 1] 1 exR = [1, 1, 1] := awA.2.1
theorem aw6 : aplP smG [2, 1] 1 exR = [0, 0, 1] := awA.2.2.1
theorem aw7 : aplN smG [2, 1] 1 exR = 0 := awA.2.2.2
theorem aw8 : sameG wantG wantG = true := sameG_self
theorem app_spl {X : List Spl} {r : Spl} {i j : Nat} {w : Nat → Nat → AVal} (hi : i < X.length + 1) (hw : w 0 j = splF r j) : app (fun q j => splF (X.getD q ds) j) X.length w i j = splF ((X ++ [r]).getD i ds) j := by
  unfold app
  by_cases h : i < X.length
  · rw [if_pos h]
    show splF (X.getD i ds) j = _
    rw [List.getD_eq_getElem?_getD, List.getD_eq_getElem?_getD, List.getElem?_append_left h]
  · obtain rfl : i = X.length := by omega
    rw [if_neg h, Nat.sub_self, hw, List.getD_eq_getElem?_getD, List.getElem?_append_right (Nat.le_refl _)]
    simp
set_option maxRecDepth 100000 in
set_option maxHeartbeats 1000000 in
theorem chooseR_c (g : Gr) (v : List Int) (m : Int) : PC Tryz.prog 18 [.agg 3 (grF g), ints v, .int .i64 m] (.tup 2 (fun j => [spls (cLs g v m), .int .i64 (cNo g v m)].getD j .any)) := by
 refine zp Tryz.func18 fun G hG hR => ?_
 refine zs (zrP ?_)
 refine zs (zs (zL (zlP 3 ?_)))
 refine zcP cal39 (baseC_c g v m) ?_
 refine zlP 1 ?_
 refine zN (zs (zrP ?_))
 refine zy (fun hb18 => ?_) fun hb18 => ?_
 · refine zs (zrP ?_)
   refine zt ?_
   refine RetOK_of ?_
   simp [hG, List.getD_cons_zero, List.getD_cons_succ, -List.getD_eq_getElem?_getD, pureOp]
   obtain ⟨e1, e2⟩ := cNo_1 hb18; rw [e1, e2]; exact ⟨rfl, rfl⟩
 obtain ⟨hv, hm, hl, hbx⟩ := vecN_zero (eigN_zero (baseN_zero hb18).1).1
 have hst := (gcheck_valid hv).1.st
 refine zk (zs (zrP ?_))
 refine zs (zs (zrP ?_))
 refine zb ?_
 refine awpS_loop (α := Nat) (fun s => ⟨[(1, ints v), (2, .int .i64 m), (3, .ptr (0, 0) 0 0), (9, .sl (1, 0) 0 (cRd g v m s).length), (21, .int .i64 g.states), (22, .int .i64 (s : Nat))], [(0, .one (.arr 1 3 (fun _ => grF g))), (1, .one (.arr (cRd g v m s).length 2 (fun i j => splF ((cRd g v m s).getD i ds) j)))], 2⟩) (fun s => s ≤ g.states.toNat) (fun s => g.states.toNat - s) (0) (Nat.zero_le _) ?_ ?_
 · exact zw (id) (fun _ => false) (fun k => k == 1) (e := by rw [cRd_zero]; simp [hG, List.getD_cons_zero, List.getD_cons_succ, -List.getD_eq_getElem?_getD]) (h := by rw [cRd_zero]; simp [hG, List.getD_cons_zero, List.getD_cons_succ, -List.getD_eq_getElem?_getD])
 rintro s hs
 refine zs (zrP ?_)
 refine zs (zy (fun hb23 => ?_) fun hb23 => ?_)
 · have hcl := cRd_len (g := g) (v := v) (m := m) (s := s)
   refine zk (zs (zb (zs (zrP ?_))))
   refine zs (zs (zrP ?_))
   refine zy (fun hb29 => ?_) fun hb29 => ?_
   · have hcx := cRd_light (g := g) (m := m) hb29
     refine zx (zbx (zrP ?_))
     refine zn ?_
     refine round_end (s + 1) (by omega) (by omega) ?_
     exact zi (e := by rw [hcx]; simp [hG, List.getD_cons_zero, List.getD_cons_succ, -List.getD_eq_getElem?_getD]) (h := by rw [hcx]; simp [hG, List.getD_cons_zero, List.getD_cons_succ, -List.getD_eq_getElem?_getD])
   refine zk (zs (zL (zlP 4 ?_)))
   refine zcP cal40 (choose0_c g v m s ⟨hv, hl, hbx, hm, by omega⟩) ?_
   refine zlP 6 ?_
   refine zN (zs (zrP ?_))
   refine zy (fun hb38 => ?_) fun hb38 => ?_
   · obtain ⟨x, hx⟩ := Option.isSome_iff_exists.1 hb38
     have hcx := cRd_yes (by omega) hx
     rw [hx]
     simp only [Option.getD_some]
     refine zrP ?_
     refine zn (zbn (zrP ?_))
     refine zn ?_
     refine round_end (s + 1) (by omega) (by omega) ?_
     exact zw (fun k => if k = 1 then 4 else k) (fun _ => false) (fun _ => false) (e := by rw [hcx]; simp [hG, List.getD_cons_zero, List.getD_cons_succ, -List.getD_eq_getElem?_getD]) (h := by rw [hcx]; simp [hG, List.getD_cons_zero, List.getD_cons_succ, -List.getD_eq_getElem?_getD]; exact fun i hi => ⟨app_spl (j := 0) hi rfl, by rw [app_spl (j := 1) hi rfl]; exact Clo.le _ Clo_rowsI⟩)
   have hx : chS g v m s = none := (by simpa using hb38)
   have hcx := cRd_no (by omega) hx
   refine zk (zn (zbn (zrP ?_)))
   refine zn ?_
   refine round_end (s + 1) (by omega) (by omega) ?_
   exact zi (e := by rw [hcx]; simp [hG, List.getD_cons_zero, List.getD_cons_succ, -List.getD_eq_getElem?_getD]) (h := by rw [hcx]; simp [hG, List.getD_cons_zero, List.getD_cons_succ, -List.getD_eq_getElem?_getD])
 obtain rfl : s = g.states.toNat := (by omega)
 refine zx (ztx (zbx (zs (zs (zrP ?_)))))
 refine zy (fun hb46 => ?_) fun hb46 => ?_
 · refine zs (zrP ?_)
   refine zt ?_
   refine RetOK_of ?_
   simp [hG, List.getD_cons_zero, List.getD_cons_succ, -List.getD_eq_getElem?_getD, pureOp]
   obtain ⟨e1, e2⟩ := cNo_2 hb18 hb46; exact ⟨e2, e1.symm⟩
 refine zk (zs (zrP ?_))
 refine zt ?_
 refine RetOK_of ?_
 simp [hG, List.getD_cons_zero, List.getD_cons_succ, -List.getD_eq_getElem?_getD, pureOp]
 obtain ⟨e1, e2⟩ := cNo_3 hb18 hb46; rw [e1, e2]; exact ⟨⟨rfl, Nat.le_refl _, fun i hi => ⟨rfl, Clo.le _ Clo_rowsI⟩⟩, rfl⟩
set_option maxRecDepth 100000 in
set_option maxHeartbeats 1000000 in
theorem awake_c  : PC Tryz.prog 9 [] (.bool true) := by
 refine zp Tryz.func9 fun G hG hR => ?_
 refine zs (zr ?_ (h := by intro c K h; simp [hG, List.getD_cons_zero, List.getD_cons_succ, -List.getD_eq_getElem?_getD, pureOp, aw1, aw2, aw4, aw5, aw6, aw7, aw8]; first | exact z1 c h | exact ⟨.mk c, h⟩))
 refine zs (zL ?_)
 refine zc cal32 small24_c ?_ (a := fun hg => by simp [hG, List.getD_cons_zero, List.getD_cons_succ, -List.getD_eq_getElem?_getD, pureOp, aw1, aw2, aw4, aw5, aw6, aw7, aw8]) (b := fun hg => by simp [hG, List.getD_cons_zero, List.getD_cons_succ, -List.getD_eq_getElem?_getD, pureOp, aw1, aw2, aw4, aw5, aw6, aw7, aw8]) (h := by intro K h; simp [hG, List.getD_cons_zero, List.getD_cons_succ, -List.getD_eq_getElem?_getD, pureOp, aw1, aw2, aw4, aw5, aw6, aw7, aw8]; exact h)
 refine zl 1 ?_ (h := by intro c K h; simp [hG, List.getD_cons_zero, List.getD_cons_succ, -List.getD_eq_getElem?_getD, pureOp, aw1, aw2, aw4, aw5, aw6, aw7, aw8]; first | exact z1 c h | exact ⟨.mk c, h⟩)
 refine awpL_wk (st2 := ⟨[(9, .agg 3 (grF smG)), (10, ints [2, 1])], [], 0⟩) ?_ ?_
 · exact zw (id) (fun _ => true) (fun _ => false) (e := by simp [hG, List.getD_cons_zero, List.getD_cons_succ, -List.getD_eq_getElem?_getD, pureOp, aw1, aw2, aw4, aw5, aw6, aw7, aw8]) (h := by simp [hG, List.getD_cons_zero, List.getD_cons_succ, -List.getD_eq_getElem?_getD, pureOp, aw1, aw2, aw4, aw5, aw6, aw7, aw8])
 refine zc cal18 (chooseR_c smG [2, 1] 1) ?_ (a := fun hg => by simp [hG, List.getD_cons_zero, List.getD_cons_succ, -List.getD_eq_getElem?_getD, pureOp, aw1, aw2, aw4, aw5, aw6, aw7, aw8]) (b := fun hg => by simp [hG, List.getD_cons_zero, List.getD_cons_succ, -List.getD_eq_getElem?_getD, pureOp, aw1, aw2, aw4, aw5, aw6, aw7, aw8]) (h := by intro K h; simp [hG, List.getD_cons_zero, List.getD_cons_succ, -List.getD_eq_getElem?_getD, pureOp, aw1, aw2, aw4, aw5, aw6, aw7, aw8]; exact h)
 refine zl 5 ?_ (h := by intro c K h; simp [hG, List.getD_cons_zero, List.getD_cons_succ, -List.getD_eq_getElem?_getD, pureOp, aw1, aw2, aw4, aw5, aw6, aw7, aw8]; first | exact z1 c h | exact ⟨.mk c, h⟩)
 refine zN (zs (zL ?_))
 refine zc cal32 small24_c ?_ (a := fun hg => by simp [hG, List.getD_cons_zero, List.getD_cons_succ, -List.getD_eq_getElem?_getD, pureOp, aw1, aw2, aw4, aw5, aw6, aw7, aw8]) (b := fun hg => by simp [hG, List.getD_cons_zero, List.getD_cons_succ, -List.getD_eq_getElem?_getD, pureOp, aw1, aw2, aw4, aw5, aw6, aw7, aw8]) (h := by intro K h; simp [hG, List.getD_cons_zero, List.getD_cons_succ, -List.getD_eq_getElem?_getD, pureOp, aw1, aw2, aw4, aw5, aw6, aw7, aw8]; exact h)
 refine zl 2 ?_ (h := by intro c K h; simp [hG, List.getD_cons_zero, List.getD_cons_succ, -List.getD_eq_getElem?_getD, pureOp, aw1, aw2, aw4, aw5, aw6, aw7, aw8]; first | exact z1 c h | exact ⟨.mk c, h⟩)
 refine awpL_wk (st2 := ⟨[(1, spls exR), (2, .int .i64 0), (15, .agg 3 (grF smG)), (16, ints [2, 1]), (17, spls exR)], [], 0⟩) ?_ ?_
 · exact zw (id) (fun _ => true) (fun _ => false) (e := by simp [hG, List.getD_cons_zero, List.getD_cons_succ, -List.getD_eq_getElem?_getD, pureOp, aw1, aw2, aw4, aw5, aw6, aw7, aw8]) (h := by simp [hG, List.getD_cons_zero, List.getD_cons_succ, -List.getD_eq_getElem?_getD, pureOp, aw1, aw2, aw4, aw5, aw6, aw7, aw8])
 refine zc cal19 (applyC_c smG [2, 1] 1 exR exR_rd.ok) ?_ (a := fun hg => by simp [hG, List.getD_cons_zero, List.getD_cons_succ, -List.getD_eq_getElem?_getD, pureOp, aw1, aw2, aw4, aw5, aw6, aw7, aw8]) (b := fun hg => by simp [hG, List.getD_cons_zero, List.getD_cons_succ, -List.getD_eq_getElem?_getD, pureOp, aw1, aw2, aw4, aw5, aw6, aw7, aw8]) (h := by intro K h; simp [hG, List.getD_cons_zero, List.getD_cons_succ, -List.getD_eq_getElem?_getD, pureOp, aw1, aw2, aw4, aw5, aw6, aw7, aw8]; exact h)
 refine zl 10 ?_ (h := by intro c K h; simp [hG, List.getD_cons_zero, List.getD_cons_succ, -List.getD_eq_getElem?_getD, pureOp, aw1, aw2, aw4, aw5, aw6, aw7, aw8]; first | exact z1 c h | exact ⟨.mk c, h⟩)
 refine zN (zs (zs (zL (zl 13 ?_ (h := by intro c K h; simp [hG, List.getD_cons_zero, List.getD_cons_succ, -List.getD_eq_getElem?_getD, pureOp, aw1, aw2, aw4, aw5, aw6, aw7, aw8]; first | exact z1 c h | exact ⟨.mk c, h⟩)))))
 refine awpL_callB (mem [1, 2, 3, 4]) cal25 (by simp [flat]) rfl rfl (fun _ => rfl) (fun hg => sameRd_c exR exR exR_rd.ok) (fun hg => ?_) (fun hg => ?_) fun K hK => ?_
 · first | (simp [hG, List.getD_cons_zero, List.getD_cons_succ, -List.getD_eq_getElem?_getD, pureOp, aw1, aw2, aw4, aw5, aw6, aw7, aw8]; done) | (simp [-List.getD_eq_getElem?_getD] at hg; done) | (simp [-List.getD_eq_getElem?_getD] at hg; simp [hG, List.getD_cons_zero, List.getD_cons_succ, -List.getD_eq_getElem?_getD, pureOp, aw1, aw2, aw4, aw5, aw6, aw7, aw8]; first | omega | exact hg | (simp_all [-List.getD_eq_getElem?_getD]; done) | (simp_all [-List.getD_eq_getElem?_getD]; first | exact ⟨rfl, rfl⟩ | exact rfl))
 · simp [hG, List.getD_cons_zero, List.getD_cons_succ, -List.getD_eq_getElem?_getD]; exact ⟨rfl, Nat.le_refl _, fun i hi => by have h1 : i = 0 := (by have h2 : i < 1 := hi; omega); subst h1; simp [exR, List.getD_cons_zero, List.getD_cons_succ, -List.getD_eq_getElem?_getD]⟩
 simp [hG, List.getD_cons_zero, List.getD_cons_succ, -List.getD_eq_getElem?_getD, pureOp, aw1, aw2, aw4, aw5, aw6, aw7, aw8]
 refine hK _ ?_
 clear K hK
 refine zl 2 ?_ (h := by intro c K h; simp [hG, List.getD_cons_zero, List.getD_cons_succ, -List.getD_eq_getElem?_getD, pureOp, aw1, aw2, aw4, aw5, aw6, aw7, aw8]; first | exact z1 c h | exact ⟨.mk c, h⟩)
 refine zN ?_
 refine awpS_cond rfl (fun hb38 => ?_) (fun hb38 => ?_)
 · simp at hb38
 try simp [-List.getD_eq_getElem?_getD] at hb38
 refine zk (zs (zr ?_ (h := by intro c K h; simp [hG, List.getD_cons_zero, List.getD_cons_succ, -List.getD_eq_getElem?_getD, pureOp, aw1, aw2, aw4, aw5, aw6, aw7, aw8]; first | exact z1 c h | exact ⟨.mk c, h⟩)))
 refine zs (zL (zl 2 ?_ (h := by intro c K h; simp [hG, List.getD_cons_zero, List.getD_cons_succ, -List.getD_eq_getElem?_getD, pureOp, aw1, aw2, aw4, aw5, aw6, aw7, aw8]; first | exact z1 c h | exact ⟨.mk c, h⟩)))
 refine awpL_callB (mem [5]) cal14 (by simp [flat]) rfl rfl (fun _ => rfl) (fun hg => same9_c wantG wantG (by decide)) (fun hg => ?_) (fun hg => ?_) fun K hK => ?_
 · simp [hG, List.getD_cons_zero, List.getD_cons_succ, -List.getD_eq_getElem?_getD, pureOp, aw1, aw2, aw4, aw5, aw6, aw7, aw8]
 · simp [hG, List.getD_cons_zero, List.getD_cons_succ, -List.getD_eq_getElem?_getD]; exact ⟨rfl, rfl, rfl, Nat.le_refl _, fun i hi => by rcases (show i = 0 ∨ i = 1 ∨ i = 2 ∨ i = 3 ∨ i = 4 by have h3 : i < 5 := hi; omega) with rfl | rfl | rfl | rfl | rfl <;> exact ⟨rfl, rfl, rfl⟩⟩
 simp [hG, List.getD_cons_zero, List.getD_cons_succ, -List.getD_eq_getElem?_getD, pureOp, aw1, aw2, aw4, aw5, aw6, aw7, aw8]
 refine hK _ ?_
 clear K hK
 refine zl 3 ?_ (h := by intro c K h; simp [hG, List.getD_cons_zero, List.getD_cons_succ, -List.getD_eq_getElem?_getD, pureOp, aw1, aw2, aw4, aw5, aw6, aw7, aw8]; first | exact z1 c h | exact ⟨.mk c, h⟩)
 refine awpL_callB (mem [7]) cal33 (by simp [flat]) rfl rfl (fun _ => rfl) (fun hg => equalI_c [1, 1, 1] [1, 1, 1] (by decide)) (fun hg => ?_) (fun hg => ?_) fun K hK => ?_
 · first | (simp [hG, List.getD_cons_zero, List.getD_cons_succ, -List.getD_eq_getElem?_getD, pureOp, aw1, aw2, aw4, aw5, aw6, aw7, aw8]; done) | (simp [-List.getD_eq_getElem?_getD] at hg; done) | (simp [-List.getD_eq_getElem?_getD] at hg; simp [hG, List.getD_cons_zero, List.getD_cons_succ, -List.getD_eq_getElem?_getD, pureOp, aw1, aw2, aw4, aw5, aw6, aw7, aw8]; first | omega | exact hg | (simp_all [-List.getD_eq_getElem?_getD]; done) | (simp_all [-List.getD_eq_getElem?_getD]; first | exact ⟨rfl, rfl⟩ | exact rfl))
 · first | (simp [hG, List.getD_cons_zero, List.getD_cons_succ, -List.getD_eq_getElem?_getD, pureOp, aw1, aw2, aw4, aw5, aw6, aw7, aw8]; done) | (simp [-List.getD_eq_getElem?_getD] at hg; done) | (simp [-List.getD_eq_getElem?_getD] at hg; simp [hG, List.getD_cons_zero, List.getD_cons_succ, -List.getD_eq_getElem?_getD, pureOp, aw1, aw2, aw4, aw5, aw6, aw7, aw8]; first | omega | exact hg | (simp_all [-List.getD_eq_getElem?_getD]; done) | (simp_all [-List.getD_eq_getElem?_getD]; first | exact ⟨rfl, rfl⟩ | exact rfl))
 simp [hG, List.getD_cons_zero, List.getD_cons_succ, -List.getD_eq_getElem?_getD, pureOp, aw1, aw2, aw4, aw5, aw6, aw7, aw8]
 refine hK _ ?_
 clear K hK
 refine zl 4 ?_ (h := by intro c K h; simp [hG, List.getD_cons_zero, List.getD_cons_succ, -List.getD_eq_getElem?_getD, pureOp, aw1, aw2, aw4, aw5, aw6, aw7, aw8]; first | exact z1 c h | exact ⟨.mk c, h⟩)
 refine awpL_callB (mem [8]) cal33 (by simp [flat]) rfl rfl (fun _ => rfl) (fun hg => equalI_c [0, 0, 1] [0, 0, 1] (by decide)) (fun hg => ?_) (fun hg => ?_) fun K hK => ?_
 · first | (simp [hG, List.getD_cons_zero, List.getD_cons_succ, -List.getD_eq_getElem?_getD, pureOp, aw1, aw2, aw4, aw5, aw6, aw7, aw8]; done) | (simp [-List.getD_eq_getElem?_getD] at hg; done) | (simp [-List.getD_eq_getElem?_getD] at hg; simp [hG, List.getD_cons_zero, List.getD_cons_succ, -List.getD_eq_getElem?_getD, pureOp, aw1, aw2, aw4, aw5, aw6, aw7, aw8]; first | omega | exact hg | (simp_all [-List.getD_eq_getElem?_getD]; done) | (simp_all [-List.getD_eq_getElem?_getD]; first | exact ⟨rfl, rfl⟩ | exact rfl))
 · first | (simp [hG, List.getD_cons_zero, List.getD_cons_succ, -List.getD_eq_getElem?_getD, pureOp, aw1, aw2, aw4, aw5, aw6, aw7, aw8]; done) | (simp [-List.getD_eq_getElem?_getD] at hg; done) | (simp [-List.getD_eq_getElem?_getD] at hg; simp [hG, List.getD_cons_zero, List.getD_cons_succ, -List.getD_eq_getElem?_getD, pureOp, aw1, aw2, aw4, aw5, aw6, aw7, aw8]; first | omega | exact hg | (simp_all [-List.getD_eq_getElem?_getD]; done) | (simp_all [-List.getD_eq_getElem?_getD]; first | exact ⟨rfl, rfl⟩ | exact rfl))
 simp [hG, List.getD_cons_zero, List.getD_cons_succ, -List.getD_eq_getElem?_getD, pureOp, aw1, aw2, aw4, aw5, aw6, aw7, aw8]
 refine hK _ ?_
 clear K hK
 refine zl 2 ?_ (h := by intro c K h; simp [hG, List.getD_cons_zero, List.getD_cons_succ, -List.getD_eq_getElem?_getD, pureOp, aw1, aw2, aw4, aw5, aw6, aw7, aw8]; first | exact z1 c h | exact ⟨.mk c, h⟩)
 refine zN (zt ?_)
 refine RetOK_of ?_
 simp [hG, List.getD_cons_zero, List.getD_cons_succ, -List.getD_eq_getElem?_getD, pureOp, aw1, aw2, aw4, aw5, aw6, aw7, aw8]
end Go.Proofs.YthpdkmoedpcboaaGreat
