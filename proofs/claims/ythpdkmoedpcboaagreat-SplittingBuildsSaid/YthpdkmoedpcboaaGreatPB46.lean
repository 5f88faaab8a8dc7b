/- Parts of the proof: XI. -/
import Derived.Test.YthpdkmoedpcboaaGreatPB15
import Derived.Test.YthpdkmoedpcboaaGreatPB45
namespace Go.Proofs.YthpdkmoedpcboaaGreat
set_option linter.unusedSimpArgs false
set_option linter.unusedVariables false
open Go Go.Lift Go.Proofs
set_option maxRecDepth 100000 in
theorem reachedR_c (g : Gr) (s : Nat) (hf : Fit g) (hed : g.edges.length ≤ 1024) (hs : s < g.n) : PC Tryz.prog 135 [.agg 3 (grF g), .int .i64 s] (bools (reachL g s)) := by
 have hst := hf.st
 have hnn : (g.n : Int) = g.states := (by unfold Gr.n; omega)
 refine zp Tryz.func135 fun G hG hR => ?_
 refine zs (zr ?_)
 refine zs (zr ?_)
 refine zs (zr ?_)
 refine zs (zs (zr ?_))
 refine zb ?_
 refine awpS_loop (α := Nat) (fun k => ⟨[(2, .ptr (0, 0) 0 0), (5, .sl (1, 0) 0 g.n), (6, .int .i64 k)], [(0, .one (.arr 1 3 (fun _ => grF g))), (1, .one (.arr g.n 1 (fun j _ => .bool ((rounds g s k).getD j false))))], 2⟩) (fun k => k ≤ g.n) (fun k => g.n - k) (0) (Nat.zero_le _) ?_ ?_
 · exact zi (e := by simp [hG, List.getD_cons_zero, List.getD_cons_succ, -List.getD_eq_getElem?_getD]; rfl) (h := by simp [hG, List.getD_cons_zero, List.getD_cons_succ, -List.getD_eq_getElem?_getD]; exact ⟨Nat.le_of_eq rfl, fun j _ => rstart_at hs⟩)
 rintro k hk
 refine zs (zs (zr ?_))
 refine zy (fun hb17 => ?_) fun hb17 => ?_
 · refine zk (zs (zb (zs (zr ?_))))
   refine zb ?_
   refine awpS_loop (α := Nat) (fun i => ⟨[(2, .ptr (0, 0) 0 0), (5, .sl (1, 0) 0 g.n), (6, .int .i64 k), (7, .int .i64 i)], [(0, .one (.arr 1 3 (fun _ => grF g))), (1, .one (.arr g.n 1 (fun j _ => .bool ((roundsAt g s k i).getD j false))))], 2⟩) (fun i => i ≤ g.edges.length) (fun i => g.edges.length - i) (0) (Nat.zero_le _) ?_ ?_
   · exact zi (h := by simp [hG, List.getD_cons_zero, List.getD_cons_succ, -List.getD_eq_getElem?_getD]; exact fun j _ => by rw [roundsAt_zero])
   rintro i hi
   refine zs (zs (zr ?_))
   refine zy (fun hb24 => ?_) fun hb24 => ?_
   · have hfr := hf.frm _ (getD_mem (d := de) (by simpa using hb24))
     have hto := hf.to _ (getD_mem (d := de) (by simpa using hb24))
     refine zk (zs (zb (zs (zr ?_))))
     refine zy (fun hb35 => ?_) fun hb35 => ?_
     · refine zr ?_
       refine zn (zbn (zr ?_))
       refine zn ?_
       refine round_end (i + 1) (by omega) (by omega) ?_
       exact zi (h := by simp [hG, List.getD_cons_zero, List.getD_cons_succ, -List.getD_eq_getElem?_getD]; exact fun j hj => by rw [roundsAt_succ hb24, relax_yes hb35 j (by rw [roundsAt_len]; omega)]; split <;> rfl)
     refine zk (zn (zbn (zr ?_)))
     refine zn ?_
     refine round_end (i + 1) (by omega) (by omega) ?_
     exact zi (h := by simp [hG, List.getD_cons_zero, List.getD_cons_succ, -List.getD_eq_getElem?_getD]; exact fun j hj => by rw [roundsAt_succ hb24, relax_no hb35])
   refine zx (ztx (zbx (zn (zbn (zr ?_)))))
   refine zn ?_
   refine round_end (k + 1) (by omega) (by omega) ?_
   exact zi (h := by simp [hG, List.getD_cons_zero, List.getD_cons_succ, -List.getD_eq_getElem?_getD]; exact fun j _ => by rw [roundsAt_all hb24])
 refine zx (ztx (zbx (zs (zr ?_))))
 refine zt ?_
 refine RetOK_of ?_
 simp [hG, List.getD_cons_zero, List.getD_cons_succ, -List.getD_eq_getElem?_getD]
 obtain rfl : k = g.n := (by omega); rw [rounds_all hf hs]; exact fun _ _ => rfl
set_option maxRecDepth 100000 in
theorem has_c (l : List Int) (v : Int) (hl : l.length ≤ 1000000) : PC Tryz.prog 106 [ints l, .int .i64 v] (.bool (hasI l v)) := by
 refine zp Tryz.func106 fun G hG hR => ?_
 refine zs (zr ?_)
 refine zs (zs (zr ?_))
 refine zb ?_
 refine awpS_loop (α := Nat) (fun k => ⟨[(0, ints l), (1, .int .i64 v), (5, .int .i64 k)], [], 0⟩) (fun k => k ≤ l.length ∧ ∀ j, j < k → l.getD j 0 ≠ v) (fun k => l.length - k) (0) (⟨Nat.zero_le _, fun j hj => absurd hj (Nat.not_lt_zero _)⟩) ?_ ?_
 · exact zi
 rintro k ⟨hk, hn⟩
 refine zs (zs (zr ?_))
 refine zy (fun hb9 => ?_) fun hb9 => ?_
 · refine zk (zs (zb (zs (zr ?_))))
   refine zy (fun hb17 => ?_) fun hb17 => ?_
   · refine zs (zr ?_)
     refine zt (zbt (ztt (zbt ?_)))
     refine RetOK_of ?_
     simp [hG, List.getD_cons_zero, List.getD_cons_succ, -List.getD_eq_getElem?_getD]
     exact hasI_yes hb9 hb17
   refine zk (zn (zbn (zr ?_)))
   refine zn ?_
   refine round_end (k + 1) (⟨by omega, step_all hn hb17⟩) (by omega) ?_
   exact zi
 refine zx (ztx (zbx (zs (zr ?_))))
 refine zt ?_
 refine RetOK_of ?_
 simp [hG, List.getD_cons_zero, List.getD_cons_succ, -List.getD_eq_getElem?_getD]
 exact hasI_no fun j hj => hn j (by omega)
set_option maxRecDepth 100000 in
theorem refOf_c (g : Gr) : PC Tryz.prog 105 [.agg 3 (grF g)] (.tup 2 (fun j => [rowsI (if gcheck g = 0 then compsL g else []), .int .i64 (if gcheck g = 0 then 0 else 1)].getD j .any)) := by
 refine zp Tryz.func105 fun G hG hR => ?_
 refine zs (zr ?_ (h := by intro c K h; simp [hG, List.getD_cons_zero, List.getD_cons_succ, -List.getD_eq_getElem?_getD, reachL_len]; first | exact z1 c h | exact ⟨.mk c, h⟩))
 refine zs (zs (zL (zl 1 ?_ (h := by intro c K h; simp [hG, List.getD_cons_zero, List.getD_cons_succ, -List.getD_eq_getElem?_getD, reachL_len]; first | exact z1 c h | exact ⟨.mk c, h⟩))))
 refine zc cal29 (check9_c g) ?_ (a := fun hg => by simp [hG, List.getD_cons_zero, List.getD_cons_succ, -List.getD_eq_getElem?_getD, reachL_len]) (b := fun hg => by simp [hG, List.getD_cons_zero, List.getD_cons_succ, -List.getD_eq_getElem?_getD, reachL_len]) (h := by intro K h; simp [hG, List.getD_cons_zero, List.getD_cons_succ, -List.getD_eq_getElem?_getD, reachL_len]; exact h)
 refine zl 1 ?_ (h := by intro c K h; simp [hG, List.getD_cons_zero, List.getD_cons_succ, -List.getD_eq_getElem?_getD, reachL_len]; first | exact z1 c h | exact ⟨.mk c, h⟩)
 refine zN (zy (fun hb13 => ?_) fun hb13 => ?_)
 · refine zs (zr ?_ (h := by intro c K h; simp [hG, List.getD_cons_zero, List.getD_cons_succ, -List.getD_eq_getElem?_getD, reachL_len]; first | exact z1 c h | exact ⟨.mk c, h⟩))
   refine zt ?_
   refine RetOK_of ?_
   simp [hG, List.getD_cons_zero, List.getD_cons_succ, -List.getD_eq_getElem?_getD, reachL_len]
   rw [if_neg hb13]; exact ⟨⟨rfl, fun h => absurd h hb13, fun i hi => absurd hi (Nat.not_lt_zero _)⟩, hb13⟩
 have hgc : gcheck g = 0 := (by simpa using hb13)
 have hf := gcheck_fit hgc
 have hed := (gcheck_valid hgc).1.ed
 have hst := hf.st
 have hnn : (g.n : Int) = g.states := (by unfold Gr.n; omega)
 refine zk (zs (zr ?_ (h := by intro c K h; simp [hG, List.getD_cons_zero, List.getD_cons_succ, -List.getD_eq_getElem?_getD, reachL_len]; first | exact z1 c h | exact ⟨.mk c, h⟩)))
 refine zs (zs (zr ?_ (h := by intro c K h; simp [hG, List.getD_cons_zero, List.getD_cons_succ, -List.getD_eq_getElem?_getD, reachL_len]; first | exact z1 c h | exact ⟨.mk c, h⟩)))
 refine zb ?_
 refine awpS_loop (α := Nat) (fun k => ⟨[(1, .ptr (0, 0) 0 0), (4, .sl (1, 0) 0 k), (5, .int .i64 k)], [(0, .one (.arr 1 3 (fun _ => grF g))), (1, .one (.arr k 1 (fun j _ => bools (reachL g j))))], 2⟩) (fun k => k ≤ g.n) (fun k => g.n - k) (0) (Nat.zero_le _) ?_ ?_
 · exact zi (e := by simp [hG, List.getD_cons_zero, List.getD_cons_succ, -List.getD_eq_getElem?_getD, reachL_len]) (h := by simp [hG, List.getD_cons_zero, List.getD_cons_succ, -List.getD_eq_getElem?_getD, reachL_len])
 rintro k hk
 refine zs (zs (zr ?_ (h := by intro c K h; simp [hG, List.getD_cons_zero, List.getD_cons_succ, -List.getD_eq_getElem?_getD, reachL_len]; first | exact z1 c h | exact ⟨.mk c, h⟩)))
 refine zy (fun hb19 => ?_) fun hb19 => ?_
 · refine zk (zs (zb (zL (zl 3 ?_ (h := by intro c K h; simp [hG, List.getD_cons_zero, List.getD_cons_succ, -List.getD_eq_getElem?_getD, reachL_len]; first | exact z1 c h | exact ⟨.mk c, h⟩)))))
   refine zc cal135 (reachedR_c g k hf hed (by omega)) ?_ (a := fun hg => by simp [hG, List.getD_cons_zero, List.getD_cons_succ, -List.getD_eq_getElem?_getD, reachL_len]) (b := fun hg => by simp [hG, List.getD_cons_zero, List.getD_cons_succ, -List.getD_eq_getElem?_getD, reachL_len]) (h := by intro K h; simp [hG, List.getD_cons_zero, List.getD_cons_succ, -List.getD_eq_getElem?_getD, reachL_len]; exact h)
   refine zl 3 ?_ (h := by intro c K h; simp [hG, List.getD_cons_zero, List.getD_cons_succ, -List.getD_eq_getElem?_getD, reachL_len]; first | exact z1 c h | exact ⟨.mk c, h⟩)
   refine zN (zn (zbn (zr ?_ (h := by intro c K h; simp [hG, List.getD_cons_zero, List.getD_cons_succ, -List.getD_eq_getElem?_getD, reachL_len]; first | exact z1 c h | exact ⟨.mk c, h⟩))))
   refine zn ?_
   refine round_end (k + 1) (by omega) (by omega) ?_
   exact zw (fun k => if k = 1 then 3 else k) (fun _ => false) (fun _ => false) (e := by simp [hG, List.getD_cons_zero, List.getD_cons_succ, -List.getD_eq_getElem?_getD, reachL_len]) (h := by simp [hG, reachL_len, List.getD_cons_zero, List.getD_cons_succ, -List.getD_eq_getElem?_getD]; intro i hi; rw [app_fn hi]; exact Clo.le _ Clo_bools)
 obtain rfl : k = g.n := (by omega)
 refine zx (ztx (zbx (zs (zr ?_ (h := by intro c K h; simp [hG, List.getD_cons_zero, List.getD_cons_succ, -List.getD_eq_getElem?_getD, reachL_len]; first | exact z1 c h | exact ⟨.mk c, h⟩)))))
 refine zs (zs (zr ?_ (h := by intro c K h; simp [hG, List.getD_cons_zero, List.getD_cons_succ, -List.getD_eq_getElem?_getD, reachL_len]; first | exact z1 c h | exact ⟨.mk c, h⟩)))
 refine zb ?_
 refine awpS_loop (α := Nat) (fun i => ⟨[(1, .ptr (0, 0) 0 0), (4, .sl (1, 0) 0 g.n), (6, .sl (2, 0) 0 (compsAt g i).length), (7, .int .i64 i)], [(0, .one (.arr 1 3 (fun _ => grF g))), (1, .one (.arr g.n 1 (fun j _ => bools (reachL g j)))), (2, .one (.arr ((compsAt g i)).length 1 (fun j _ => ints (((compsAt g i)).getD j []))))], 3⟩) (fun i => i ≤ g.n) (fun i => g.n - i) (0) (Nat.zero_le _) ?_ ?_
 · exact zi (e := by simp [hG, List.getD_cons_zero, List.getD_cons_succ, -List.getD_eq_getElem?_getD, reachL_len]) (h := by simp [hG, List.getD_cons_zero, List.getD_cons_succ, -List.getD_eq_getElem?_getD, reachL_len])
 rintro i hi
 refine zs (zs (zr ?_ (h := by intro c K h; simp [hG, List.getD_cons_zero, List.getD_cons_succ, -List.getD_eq_getElem?_getD, reachL_len]; first | exact z1 c h | exact ⟨.mk c, h⟩)))
 refine zy (fun hb32 => ?_) fun hb32 => ?_
 · refine zk (zs (zb (zs (zr ?_ (h := by intro c K h; simp [hG, List.getD_cons_zero, List.getD_cons_succ, -List.getD_eq_getElem?_getD, reachL_len]; first | exact z1 c h | exact ⟨.mk c, h⟩)))))
   refine zs (zs (zr ?_ (h := by intro c K h; simp [hG, List.getD_cons_zero, List.getD_cons_succ, -List.getD_eq_getElem?_getD, reachL_len]; first | exact z1 c h | exact ⟨.mk c, h⟩)))
   refine zb ?_
   refine awpS_loop (α := Nat) (fun k => ⟨[(1, .ptr (0, 0) 0 0), (4, .sl (1, 0) 0 g.n), (6, .sl (2, 0) 0 (compsAt g i).length), (7, .int .i64 i), (8, .sl (3, 0) 0 (compAt g i k).length), (9, .bool (firstAt g i k)), (10, .int .i64 k)], [(0, .one (.arr 1 3 (fun _ => grF g))), (1, .one (.arr g.n 1 (fun j _ => bools (reachL g j)))), (2, .one (.arr ((compsAt g i)).length 1 (fun j _ => ints (((compsAt g i)).getD j [])))), (3, .one (.arr (compAt g i k).length 1 (fun j _ => .int .i64 ((compAt g i k).getD j 0))))], 4⟩) (fun k => k ≤ g.n) (fun k => g.n - k) (0) (Nat.zero_le _) ?_ ?_
   · exact zi (e := by simp [hG, List.getD_cons_zero, List.getD_cons_succ, -List.getD_eq_getElem?_getD, reachL_len]) (h := by simp [hG, List.getD_cons_zero, List.getD_cons_succ, -List.getD_eq_getElem?_getD, reachL_len])
   rintro k hk
   refine zs (zs (zr ?_ (h := by intro c K h; simp [hG, List.getD_cons_zero, List.getD_cons_succ, -List.getD_eq_getElem?_getD, reachL_len]; first | exact z1 c h | exact ⟨.mk c, h⟩)))
   refine zy (fun hb39 => ?_) fun hb39 => ?_
   · refine zk (zs (zb (zs (zr ?_ (h := by intro c K h; simp [hG, List.getD_cons_zero, List.getD_cons_succ, -List.getD_eq_getElem?_getD, reachL_len]; first | exact z1 c h | exact ⟨.mk c, h⟩) (c := by simp [-List.getD_eq_getElem?_getD, reachL_len]; refine ⟨by omega, by omega, fun h => ⟨h, by omega⟩, fun h => ⟨h, by omega⟩⟩)))))
     refine zy (fun hb57 => ?_) fun hb57 => ?_
     · have hm : mutB g i k = true := (by simp only [mutB, hb57, Bool.and_self])
       have hcl := compAt_len (g := g) (s := i) (k := k)
       refine zs (zr ?_ (h := by intro c K h; simp [hG, List.getD_cons_zero, List.getD_cons_succ, -List.getD_eq_getElem?_getD, reachL_len]; first | exact z1 c h | exact ⟨.mk c, h⟩))
       refine zr ?_ (h := by intro c K h; simp [hG, List.getD_cons_zero, List.getD_cons_succ, -List.getD_eq_getElem?_getD, reachL_len]; first | exact z1 c h | exact ⟨.mk c, h⟩)
       refine zn (zbn (zr ?_ (h := by intro c K h; simp [hG, List.getD_cons_zero, List.getD_cons_succ, -List.getD_eq_getElem?_getD, reachL_len]; first | exact z1 c h | exact ⟨.mk c, h⟩)))
       refine zn ?_
       refine round_end (k + 1) (by omega) (by omega) ?_
       exact zw (fun k => if k = 3 then 5 else k) (fun _ => false) (fun _ => false) (e := by simp [hG, List.getD_cons_zero, List.getD_cons_succ, -List.getD_eq_getElem?_getD]; rw [compAt_succ, if_pos hm, firstAt_succ, hm]; simp) (h := by simp [hG, List.getD_cons_zero, List.getD_cons_succ, -List.getD_eq_getElem?_getD]; rw [compAt_succ, if_pos hm]; exact ⟨by simp, fun q hq => app_one (by simpa using hq)⟩)
     have hm : ¬ mutB g i k = true := (by unfold mutB; simpa [-List.getD_eq_getElem?_getD] using hb57)
     refine zk (zn (zbn (zr ?_ (h := by intro c K h; simp [hG, List.getD_cons_zero, List.getD_cons_succ, -List.getD_eq_getElem?_getD, reachL_len]; first | exact z1 c h | exact ⟨.mk c, h⟩))))
     refine zn ?_
     refine round_end (k + 1) (by omega) (by omega) ?_
     exact zi (e := by simp [hG, List.getD_cons_zero, List.getD_cons_succ, -List.getD_eq_getElem?_getD]; rw [compAt_succ, if_neg hm, firstAt_succ]; simp [hm]) (h := by simp [hG, List.getD_cons_zero, List.getD_cons_succ, -List.getD_eq_getElem?_getD]; rw [compAt_succ, if_neg hm]; exact ⟨Nat.le_refl _, fun _ _ => rfl⟩)
   obtain rfl : k = g.n := (by omega)
   have hcp := compL_pos (g := g) (s := i) (by omega)
   have hfa := firstAt_all (g := g) (i := i) (by omega)
   refine zx (ztx (zbx (zs ?_)))
   refine awpS_wk (st2 := ⟨[(1, .ptr (0, 0) 0 0), (4, .sl (1, 0) 0 g.n), (6, .sl (2, 0) 0 (compsAt g i).length), (7, .int .i64 i), (8, ints (compL g i)), (9, .bool (firstAt g i g.n))], [(0, .one (.arr 1 3 (fun _ => grF g))), (1, .one (.arr g.n 1 (fun j _ => bools (reachL g j)))), (2, .one (.arr ((compsAt g i)).length 1 (fun j _ => ints (((compsAt g i)).getD j []))))], 3⟩) ?_ ?_
   · exact zw (id) (fun k => k == 3) (fun _ => false) (e := by simp [hG, List.getD_cons_zero, List.getD_cons_succ, -List.getD_eq_getElem?_getD]; first | done | exact ⟨rfl, Nat.le_refl _, fun _ _ => rfl⟩) (h := by simp [hG, List.getD_cons_zero, List.getD_cons_succ, -List.getD_eq_getElem?_getD, reachL_len])
   refine zr ?_ (h := by intro c K h; simp [hG, List.getD_cons_zero, List.getD_cons_succ, -List.getD_eq_getElem?_getD, reachL_len]; first | exact z1 c h | exact ⟨.mk c, h⟩)
   refine zy (fun hb68 => ?_) fun hb68 => ?_
   · have hls : least g i = true := (by rw [← hfa]; exact hb68)
     have hcl2 := compsAt_len (g := g) (k := i)
     refine zr ?_ (h := by intro c K h; simp [hG, List.getD_cons_zero, List.getD_cons_succ, -List.getD_eq_getElem?_getD, reachL_len]; first | exact z1 c h | exact ⟨.mk c, h⟩)
     refine zn (zbn (zr ?_ (h := by intro c K h; simp [hG, List.getD_cons_zero, List.getD_cons_succ, -List.getD_eq_getElem?_getD, reachL_len]; first | exact z1 c h | exact ⟨.mk c, h⟩)))
     refine zn ?_
     refine round_end (i + 1) (by omega) (by omega) ?_
     exact zw (fun k => if k = 2 then 4 else k) (fun _ => false) (fun _ => false) (e := by simp [hG, List.getD_cons_zero, List.getD_cons_succ, -List.getD_eq_getElem?_getD]; rw [compsAt_succ, if_pos hls]; simp) (h := by simp [hG, List.getD_cons_zero, List.getD_cons_succ, -List.getD_eq_getElem?_getD]; rw [compsAt_succ, if_pos hls]; exact ⟨by simp, fun q hq => by rw [app_gen (f := ints) (by simpa using hq)]; exact Clo.le _ Clo_ints⟩)
   have hls : ¬ least g i = true := (by rw [← hfa, hb68]; exact Bool.false_ne_true)
   refine zk (zn (zbn (zr ?_ (h := by intro c K h; simp [hG, List.getD_cons_zero, List.getD_cons_succ, -List.getD_eq_getElem?_getD, reachL_len]; first | exact z1 c h | exact ⟨.mk c, h⟩))))
   refine zn ?_
   refine round_end (i + 1) (by omega) (by omega) ?_
   exact zi (e := by simp [hG, List.getD_cons_zero, List.getD_cons_succ, -List.getD_eq_getElem?_getD]; rw [compsAt_succ, if_neg hls]) (h := by simp [hG, List.getD_cons_zero, List.getD_cons_succ, -List.getD_eq_getElem?_getD]; rw [compsAt_succ, if_neg hls]; exact ⟨Nat.le_refl _, fun _ _ => Clo.le _ Clo_ints⟩)
 obtain rfl : i = g.n := (by omega)
 refine zx (ztx (zbx (zs (zr ?_ (h := by intro c K h; simp [hG, List.getD_cons_zero, List.getD_cons_succ, -List.getD_eq_getElem?_getD, reachL_len]; first | exact z1 c h | exact ⟨.mk c, h⟩)))))
 refine zt ?_
 refine RetOK_of ?_
 simp [hG, List.getD_cons_zero, List.getD_cons_succ, -List.getD_eq_getElem?_getD, reachL_len]
 refine ⟨?_, hgc⟩; rw [if_pos hgc]; exact ⟨rfl, Nat.le_refl _, fun q _ => Clo.le _ Clo_ints⟩
end Go.Proofs.YthpdkmoedpcboaaGreat
