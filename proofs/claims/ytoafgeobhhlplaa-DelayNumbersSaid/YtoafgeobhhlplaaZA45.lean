/- Parts of the proof: VP. -/
import Derived.Test.YtoafgeobhhlplaaZA21
import Derived.Test.YtoafgeobhhlplaaZA34
import Derived.Test.YtoafgeobhhlplaaZA36
import Derived.Test.YtoafgeobhhlplaaZA41
namespace Go.Proofs.Ytoafgeobhhlplaa
set_option linter.unusedSimpArgs false
set_option linter.unusedVariables false
open Go Go.Lift Go.Proofs
set_option maxRecDepth 100000 in
theorem commonR_c (a b : List UInt8) (ha : a.length ≤ 1000000) : PC Try.prog 71 [.str a, .str b] (.int .i64 (cmn a b : Nat)) := by
 have hML : maxLen = 9223372036854775807 := by decide
 refine zp Try.func71 fun G hG hR => ?_
 refine zs (zrP ?_)
 refine zs (zrP ?_)
 refine zs (zb ?_)
 refine awpS_loop (α := Nat) (fun n => ⟨[(0, .str a), (1, .str b), (5, .int .i64 (n : Nat))], [], 0⟩) (fun n => n ≤ a.length ∧ n ≤ b.length ∧ a.take n = b.take n) (fun n => a.length - n) (0) (⟨Nat.zero_le _, Nat.zero_le _, rfl⟩) ?_ ?_
 · exact ziP
 rintro n ⟨hna, hnb, hnt⟩
 refine zs (zs ?_)
 refine awpS_draw hR mixed [] ⟨[], [], []⟩ fun mu0 => ?_
 refine zaP [0, 1, 2, 3, 4, 5, 6, 7, 8, 9, 10, 11, 12, 13, 14, 15, 16, 17, 18] [] 0 [18, 17, 16, 15, 14, 13, 12, 11, 10, 9, 8, 7, 6, 5, 4, 3, 2, 1, 0] ?_
 refine awpA_done (by decide +kernel) ?_
 refine zy (fun hb24 => ?_) fun hb24 => ?_
 · refine zk (zb (zrP ?_))
   refine zn (zbn (zn ?_))
   refine round_end (n + 1) (⟨by omega, by omega, cmn_step hb24.1.1 hb24.1.2 hnt (UInt8.toNat_inj.1 (by have := hb24.2; omega))⟩) (by omega) ?_
   exact ziP
 refine zx (ztx (zbx (zs (zrP ?_))))
 refine zt ?_
 refine RetOK_of ?_
 simp [hG, List.getD_cons_zero, List.getD_cons_succ, -List.getD_eq_getElem?_getD, pureOp]
 rw [cmn_at hna hnb hnt (fun h1 h2 h3 => hb24 h1 h2 (by rw [h3]))]
set_option maxRecDepth 100000 in
theorem placeR_c (l : List Wd) (s : Wd) (hl : l.length ≤ 1000000) : PC Try.prog 45 [strs l, .str s] (.int .i64 (plS l s)) := by
 have hML : maxLen = 9223372036854775807 := by decide
 refine zp Try.func45 fun G hG hR => ?_
 refine zs (zrP ?_)
 refine zs (zs (zrP ?_))
 refine zb ?_
 refine awpS_loop (α := Nat) (fun i => ⟨[(0, strs l), (1, .str s), (5, .int .i64 (i : Nat))], [], 0⟩) (fun i => i ≤ l.length ∧ ∀ j, j < i → l.getD j [] ≠ s) (fun i => l.length - i) (0) (⟨Nat.zero_le _, fun j hj => absurd hj (Nat.not_lt_zero _)⟩) ?_ ?_
 · exact ziP
 rintro i ⟨hi, hn⟩
 refine zs (zs (zrP ?_))
 refine zy (fun hb9 => ?_) fun hb9 => ?_
 · refine zk (zs (zb (zs (zrP ?_))))
   refine zy (fun hb17 => ?_) fun hb17 => ?_
   · refine zs (zrP ?_)
     refine zt (zbt (ztt (zbt ?_)))
     refine RetOK_of ?_
     simp [hG, List.getD_cons_zero, List.getD_cons_succ, -List.getD_eq_getElem?_getD, pureOp]
     exact (plS_at hb9 hn hb17).symm
   refine zk (zn (zbn (zrP ?_)))
   refine zn ?_
   refine round_end (i + 1) (⟨by omega, step_all hn hb17⟩) (by omega) ?_
   exact ziP
 refine zx (ztx (zbx (zs (zrP ?_))))
 refine zt ?_
 refine RetOK_of ?_
 simp [hG, List.getD_cons_zero, List.getD_cons_succ, -List.getD_eq_getElem?_getD, pureOp]
 obtain rfl : i = l.length := (by omega); exact (plS_no hn).symm
set_option maxRecDepth 100000 in
theorem addR_c (l : List Wd) (s : Wd) (hl : l.length ≤ 1000000) : FC1 Try.prog 70 [.sl (0, 0) 0 l.length, .str s] [(0, .one (.arr l.length 1 (fun p _ => .str (l.getD p []))))] 1 (.sl (1, 0) 0 (addS l s).length) [(1, .one (.arr (addS l s).length 1 (fun p _ => .str ((addS l s).getD p []))))] 2 := by
 have hML : maxLen = 9223372036854775807 := by decide
 refine FC_introS T_ok Try.func70 rfl (by simp [Try.ntmps70]) fun G hG hR => ?_
 simp only [Try.ntmps70, Try.results70] at hG ⊢
 simp only [argEnv, Nat.zero_add, Nat.reduceAdd]
 refine zs (zrP ?_)
 refine zs (zs (zL (zlP 2 ?_)))
 refine awpL_callB (mem [0]) cal45 (by simp [flat]) rfl rfl (fun _ => rfl) (fun hg => placeR_c l s hl) (fun hg => ?_) (fun hg => ?_) fun K hK => ?_
 · simp [hG, List.getD_cons_zero, List.getD_cons_succ, -List.getD_eq_getElem?_getD, pureOp]
 · simp [hG, List.getD_cons_zero, List.getD_cons_succ, -List.getD_eq_getElem?_getD, pureOp]
 simp [hG, List.getD_cons_zero, List.getD_cons_succ, -List.getD_eq_getElem?_getD, pureOp]
 refine hK _ ?_
 clear K hK
 refine zlP 1 ?_
 refine zN (zy (fun hb8 => ?_) fun hb8 => ?_)
 · have had := addS_in hb8
   refine zs (zrP ?_)
   refine zt ?_
   refine RetF_of (()) (fun k => if k = 1 then 0 else k) (fun _ => false) (fun _ => false) trivial ?_ ?_ (by rfl) (by simp) (fun k hk => ⟨if_neg (by omega), rfl⟩)
   · rw [had]; simp [hG, pureOp, List.getD_cons_zero, List.getD_cons_succ, -List.getD_eq_getElem?_getD]
   rw [had]; simp [hG, pureOp, List.getD_cons_zero, List.getD_cons_succ, -List.getD_eq_getElem?_getD]
 have had := addS_out (l := l) (s := s) (by omega)
 refine zk (zs (zrP ?_))
 refine zt ?_
 refine RetF_of (()) (fun k => if k = 1 then 2 else k) (fun _ => false) (fun _ => false) trivial ?_ ?_ (by rfl) (by simp) (fun k hk => ⟨if_neg (by omega), rfl⟩)
 · rw [had]; simp [hG, pureOp, List.getD_cons_zero, List.getD_cons_succ, -List.getD_eq_getElem?_getD]
 rw [had]; simp [hG, pureOp, List.getD_cons_zero, List.getD_cons_succ, -List.getD_eq_getElem?_getD]; exact fun i hi => app_oneS rfl hi
set_option maxRecDepth 100000 in
theorem restsR_c (c : Cd) (hv : CdOK c) : PC Try.prog 42 [.agg 2 (cdF c)] (strs (restL c.ws)) := by
 have hML : maxLen = 9223372036854775807 := by decide
 have hWn := hv.n
 refine zp Try.func42 fun G hG hR => ?_
 refine zs (zr ?_ (h := by intro c K h; simp [hG, List.getD_cons_zero, List.getD_cons_succ, -List.getD_eq_getElem?_getD, pureOp, ixA_zero, iyA_zero, ixA_full, ixA_all, ckA_zero]; first | exact z1 c h | exact ⟨.mk c, h⟩))
 refine zs (zr ?_ (h := by intro c K h; simp [hG, List.getD_cons_zero, List.getD_cons_succ, -List.getD_eq_getElem?_getD, pureOp, ixA_zero, iyA_zero, ixA_full, ixA_all, ckA_zero]; first | exact z1 c h | exact ⟨.mk c, h⟩))
 refine zs (zs (zr ?_ (h := by intro c K h; simp [hG, List.getD_cons_zero, List.getD_cons_succ, -List.getD_eq_getElem?_getD, pureOp, ixA_zero, iyA_zero, ixA_full, ixA_all, ckA_zero]; first | exact z1 c h | exact ⟨.mk c, h⟩)))
 refine zb ?_
 refine awpS_loop (α := Nat) (fun x => ⟨[(1, .vptr 2 (cdF c) 0), (3, .sl (0, 0) 0 (ixA c.ws x).length), (4, .int .i64 (x : Nat))], [(0, .one (.arr (ixA c.ws x).length 1 (fun p _ => .str ((ixA c.ws x).getD p []))))], 1⟩) (fun x => x ≤ c.ws.length) (fun x => c.ws.length - x) (0) (Nat.zero_le _) ?_ ?_
 · exact zw (fun k => if k = 0 then 1 else k) (fun k => k == 0) (fun _ => false) (e := by simp [hG, List.getD_cons_zero, List.getD_cons_succ, -List.getD_eq_getElem?_getD, pureOp, ixA_zero, iyA_zero, ixA_full, ixA_all, ckA_zero]) (h := by simp [hG, List.getD_cons_zero, List.getD_cons_succ, -List.getD_eq_getElem?_getD, pureOp, ixA_zero, iyA_zero, ixA_full, ixA_all, ckA_zero])
 rintro x hx0
 refine zs (zs (zr ?_ (h := by intro c K h; simp [hG, List.getD_cons_zero, List.getD_cons_succ, -List.getD_eq_getElem?_getD, pureOp, ixA_zero, iyA_zero, ixA_full, ixA_all, ckA_zero]; first | exact z1 c h | exact ⟨.mk c, h⟩)))
 refine zy (fun hb14 => ?_) fun hb14 => ?_
 · refine zk (zs (zb (zs (zr ?_ (h := by intro c K h; simp [hG, List.getD_cons_zero, List.getD_cons_succ, -List.getD_eq_getElem?_getD, pureOp, ixA_zero, iyA_zero, ixA_full, ixA_all, ckA_zero]; first | exact z1 c h | exact ⟨.mk c, h⟩)))))
   refine zb ?_
   refine awpS_loop (α := Nat) (fun y => ⟨[(1, .vptr 2 (cdF c) 0), (3, .sl (0, 0) 0 (iyA c.ws x (ixA c.ws x) y).length), (4, .int .i64 (x : Nat)), (5, .int .i64 (y : Nat))], [(0, .one (.arr (iyA c.ws x (ixA c.ws x) y).length 1 (fun p _ => .str ((iyA c.ws x (ixA c.ws x) y).getD p []))))], 1⟩) (fun y => y ≤ c.ws.length) (fun y => c.ws.length - y) (0) (Nat.zero_le _) ?_ ?_
   · exact zi (e := by simp [hG, List.getD_cons_zero, List.getD_cons_succ, -List.getD_eq_getElem?_getD, pureOp, ixA_zero, iyA_zero, ixA_full, ixA_all, ckA_zero]) (h := by simp [hG, List.getD_cons_zero, List.getD_cons_succ, -List.getD_eq_getElem?_getD, pureOp, ixA_zero, iyA_zero, ixA_full, ixA_all, ckA_zero])
   rintro y hy
   refine zs (zs (zr ?_ (h := by intro c K h; simp [hG, List.getD_cons_zero, List.getD_cons_succ, -List.getD_eq_getElem?_getD, pureOp, ixA_zero, iyA_zero, ixA_full, ixA_all, ckA_zero]; first | exact z1 c h | exact ⟨.mk c, h⟩)))
   refine zy (fun hb21 => ?_) fun hb21 => ?_
   · have hbx := rst_box hWn.2 hv.len (iy_st hb14 (ix_st x (by omega)) y (by omega))
     refine zk (zs (zb (zs ?_)))
     refine awpS_draw hR mixed [] ⟨[], [], []⟩ fun mu0 => ?_
     refine za [0, 1, 2, 3, 4, 5, 6, 7, 8, 9, 10, 11, 12, 13] [] 2 [13, 12, 11, 10, 9, 8, 7, 6, 5, 4, 3, 2, 1, 0] ?_ (h := by intro c K h; simp [hG, List.getD_cons_zero, List.getD_cons_succ, -List.getD_eq_getElem?_getD, pureOp, ixA_zero, iyA_zero, ixA_full, ixA_all, ckA_zero]; first | exact z1 c h | exact ⟨.mk c, h⟩)
     refine awpA_only (fuel := 1) (i := 14) (by decide +kernel) ?_
     refine ze cal44 (pfxR_c (c.ws.getD x []) (c.ws.getD y [])) ?_ (a := fun hg => by first | (simp [hG, List.getD_cons_zero, List.getD_cons_succ, -List.getD_eq_getElem?_getD, pureOp, ixA_zero, iyA_zero, ixA_full, ixA_all, ckA_zero]; done) | (simp [-List.getD_eq_getElem?_getD] at hg; done) | (simp [-List.getD_eq_getElem?_getD] at hg; simp [hG, List.getD_cons_zero, List.getD_cons_succ, -List.getD_eq_getElem?_getD, pureOp, ixA_zero, iyA_zero, ixA_full, ixA_all, ckA_zero]; first | omega | exact hg | (simp_all [-List.getD_eq_getElem?_getD]; done) | (simp_all [-List.getD_eq_getElem?_getD]; first | exact ⟨rfl, rfl⟩ | exact rfl))) (b := fun hg => by first | (simp [hG, List.getD_cons_zero, List.getD_cons_succ, -List.getD_eq_getElem?_getD, pureOp, ixA_zero, iyA_zero, ixA_full, ixA_all, ckA_zero]; done) | (simp [-List.getD_eq_getElem?_getD] at hg; done) | (simp [-List.getD_eq_getElem?_getD] at hg; simp [hG, List.getD_cons_zero, List.getD_cons_succ, -List.getD_eq_getElem?_getD, pureOp, ixA_zero, iyA_zero, ixA_full, ixA_all, ckA_zero]; first | omega | exact hg | (simp_all [-List.getD_eq_getElem?_getD]; done) | (simp_all [-List.getD_eq_getElem?_getD]; first | exact ⟨rfl, rfl⟩ | exact rfl))) (h := by intro K h; simp [hG, List.getD_cons_zero, List.getD_cons_succ, -List.getD_eq_getElem?_getD, pureOp, ixA_zero, iyA_zero, ixA_full, ixA_all, ckA_zero]; exact h)
     refine za [15] [] 0 [15, 14, 13, 12, 11, 10, 9, 8, 7, 6, 5, 4, 3, 2, 1, 0] ?_ (h := by intro c K h; simp [hG, List.getD_cons_zero, List.getD_cons_succ, -List.getD_eq_getElem?_getD, pureOp, ixA_zero, iyA_zero, ixA_full, ixA_all, ckA_zero]; first | exact z1 c h | exact ⟨.mk c, h⟩)
     refine awpA_done (by decide +kernel) ?_
     refine zy (fun hb39 => ?_) fun hb39 => ?_
     · have hpl := hb39.2.length_le
       have hps := iyA_yes (W := c.ws) (l := (ixA c.ws x)) (x := x) (y := y) (by have := hb39.1; omega) hb39.2
       refine awpS_draw hR mixed [] ⟨[], [13], []⟩ fun mu0 => ?_
       refine za [0, 1, 2, 3, 4, 5, 6, 7, 8, 9, 10, 11, 12] [] 2 [12, 11, 10, 9, 8, 7, 6, 5, 4, 3, 2, 1, 0] ?_ (h := by intro c K h; simp [hG, List.getD_cons_zero, List.getD_cons_succ, -List.getD_eq_getElem?_getD, pureOp, ixA_zero, iyA_zero, ixA_full, ixA_all, ckA_zero]; first | exact z1 c h | exact ⟨.mk c, h⟩)
       refine awpA_only (fuel := 1) (i := 13) (by decide +kernel) ?_
       refine awpO_fcr cal70 [0] (fun _ => false) (addR_c (iyA c.ws x (ixA c.ws x) y) ((c.ws.getD x []).drop (c.ws.getD y []).length) (by omega)) rfl ⟨by decide, by decide, by simp⟩ rfl rfl rfl (by simp) (.inl fun _ => rfl) ?_ ?_ ?_ fun K hK x hI hno => ?_
       · simp [hG, List.getD_cons_zero, List.getD_cons_succ, -List.getD_eq_getElem?_getD, pureOp, ixA_zero, iyA_zero, ixA_full, ixA_all, ckA_zero]
       · simp [hG, List.range'_succ, List.range'_zero, List.getD_cons_zero, List.getD_cons_succ, -List.getD_eq_getElem?_getD]
       · simp [hG, List.getD_cons_zero, List.getD_cons_succ, -List.getD_eq_getElem?_getD, pureOp, ixA_zero, iyA_zero, ixA_full, ixA_all, ckA_zero]
       simp [hG, List.getD_cons_zero, List.getD_cons_succ, -List.getD_eq_getElem?_getD, pureOp, ixA_zero, iyA_zero, ixA_full, ixA_all, ckA_zero]
       refine hK _ ?_
       clear K hK
       refine za [14] [] 0 [14, 13, 12, 11, 10, 9, 8, 7, 6, 5, 4, 3, 2, 1, 0] ?_ (h := by intro c K h; simp [hG, List.getD_cons_zero, List.getD_cons_succ, -List.getD_eq_getElem?_getD, pureOp, ixA_zero, iyA_zero, ixA_full, ixA_all, ckA_zero]; first | exact z1 c h | exact ⟨.mk c, h⟩)
       refine awpA_done (by decide +kernel) ?_
       refine zn (zbn (zr ?_ (h := by intro c K h; simp [hG, List.getD_cons_zero, List.getD_cons_succ, -List.getD_eq_getElem?_getD, pureOp, ixA_zero, iyA_zero, ixA_full, ixA_all, ckA_zero]; first | exact z1 c h | exact ⟨.mk c, h⟩)))
       refine zn ?_
       refine round_end (y + 1) (by omega) (by omega) ?_
       exact zw (fun k => if k = 0 then 1 else k) (fun _ => false) (fun _ => false) (e := by rw [hps]; simp [hG, pureOp, List.getD_cons_zero, List.getD_cons_succ, -List.getD_eq_getElem?_getD]) (h := by rw [hps]; simp [hG, pureOp, List.getD_cons_zero, List.getD_cons_succ, -List.getD_eq_getElem?_getD])
     have hps := iyA_not (W := c.ws) (l := (ixA c.ws x)) (x := x) (y := y) (fun h => hb39 (by have := h.1; omega) h.2)
     refine zk (zn (zbn (zr ?_ (h := by intro c K h; simp [hG, List.getD_cons_zero, List.getD_cons_succ, -List.getD_eq_getElem?_getD, pureOp, ixA_zero, iyA_zero, ixA_full, ixA_all, ckA_zero]; first | exact z1 c h | exact ⟨.mk c, h⟩))))
     refine zn ?_
     refine round_end (y + 1) (by omega) (by omega) ?_
     exact zi (e := by rw [hps]; simp [hG, pureOp, List.getD_cons_zero, List.getD_cons_succ, -List.getD_eq_getElem?_getD]) (h := by rw [hps]; simp [hG, pureOp, List.getD_cons_zero, List.getD_cons_succ, -List.getD_eq_getElem?_getD])
   obtain rfl : y = c.ws.length := (by omega)
   refine zx (ztx (zbx (zn (zbn (zr ?_ (h := by intro c K h; simp [hG, List.getD_cons_zero, List.getD_cons_succ, -List.getD_eq_getElem?_getD, pureOp, ixA_zero, iyA_zero, ixA_full, ixA_all, ckA_zero]; first | exact z1 c h | exact ⟨.mk c, h⟩))))))
   refine zn ?_
   refine round_end (x + 1) (by omega) (by omega) ?_
   exact zi (e := by simp [hG, List.getD_cons_zero, List.getD_cons_succ, -List.getD_eq_getElem?_getD, pureOp, ixA_zero, iyA_zero, ixA_full, ixA_all, ckA_zero]) (h := by simp [hG, List.getD_cons_zero, List.getD_cons_succ, -List.getD_eq_getElem?_getD, pureOp, ixA_zero, iyA_zero, ixA_full, ixA_all, ckA_zero])
 obtain rfl : x = c.ws.length := (by omega)
 refine zx (ztx (zbx (zs (zs (zr ?_ (h := by intro c K h; simp [hG, List.getD_cons_zero, List.getD_cons_succ, -List.getD_eq_getElem?_getD, pureOp, ixA_zero, iyA_zero, ixA_full, ixA_all, ckA_zero]; first | exact z1 c h | exact ⟨.mk c, h⟩))))))
 refine zb ?_
 refine awpS_loop (α := Nat) (fun i => ⟨[(1, .vptr 2 (cdF c) 0), (3, .sl (0, 0) 0 (qsA c.ws i).length), (6, .int .i64 (i : Nat))], [(0, .one (.arr (qsA c.ws i).length 1 (fun p _ => .str ((qsA c.ws i).getD p []))))], 1⟩) (fun i => i ≤ (qsA c.ws i).length) (fun i => 2113 - i) (0) (Nat.zero_le _) ?_ ?_
 · exact zi (e := by simp [hG, List.getD_cons_zero, List.getD_cons_succ, -List.getD_eq_getElem?_getD, pureOp, ixA_zero, iyA_zero, ixA_full, ixA_all, ckA_zero]) (h := by simp [hG, List.getD_cons_zero, List.getD_cons_succ, -List.getD_eq_getElem?_getD, pureOp, ixA_zero, iyA_zero, ixA_full, ixA_all, ckA_zero])
 rintro i hi
 have hqb := rst_box hWn.2 hv.len (qs_st (W := c.ws) i)
 refine zs (zs (zr ?_ (h := by intro c K h; simp [hG, List.getD_cons_zero, List.getD_cons_succ, -List.getD_eq_getElem?_getD, pureOp, ixA_zero, iyA_zero, ixA_full, ixA_all, ckA_zero]; first | exact z1 c h | exact ⟨.mk c, h⟩)))
 refine zy (fun hb57 => ?_) fun hb57 => ?_
 · have hRS := (qs_st (W := c.ws) i).2 _ (q_mem hb57)
   refine zk (zs (zb (zs (zr ?_ (h := by intro c K h; simp [hG, List.getD_cons_zero, List.getD_cons_succ, -List.getD_eq_getElem?_getD, pureOp, ixA_zero, iyA_zero, ixA_full, ixA_all, ckA_zero]; first | exact z1 c h | exact ⟨.mk c, h⟩)))))
   refine zb ?_
   refine awpS_loop (α := Nat) (fun k => ⟨[(1, .vptr 2 (cdF c) 0), (3, .sl (0, 0) 0 (ckA c.ws ((qsA c.ws i).getD i []) (qsA c.ws i) k).length), (6, .int .i64 (i : Nat)), (7, .int .i64 (k : Nat))], [(0, .one (.arr (ckA c.ws ((qsA c.ws i).getD i []) (qsA c.ws i) k).length 1 (fun p _ => .str ((ckA c.ws ((qsA c.ws i).getD i []) (qsA c.ws i) k).getD p []))))], 1⟩) (fun k => k ≤ c.ws.length) (fun k => c.ws.length - k) (0) (Nat.zero_le _) ?_ ?_
   · exact zi (e := by simp [hG, List.getD_cons_zero, List.getD_cons_succ, -List.getD_eq_getElem?_getD, pureOp, ixA_zero, iyA_zero, ixA_full, ixA_all, ckA_zero]) (h := by simp [hG, List.getD_cons_zero, List.getD_cons_succ, -List.getD_eq_getElem?_getD, pureOp, ixA_zero, iyA_zero, ixA_full, ixA_all, ckA_zero])
   rintro k hk
   refine zs (zs (zr ?_ (h := by intro c K h; simp [hG, List.getD_cons_zero, List.getD_cons_succ, -List.getD_eq_getElem?_getD, pureOp, ixA_zero, iyA_zero, ixA_full, ixA_all, ckA_zero]; first | exact z1 c h | exact ⟨.mk c, h⟩)))
   refine zy (fun hb64 => ?_) fun hb64 => ?_
   · have hbx := rst_box hWn.2 hv.len (ck_st hRS (qs_st i) k (by omega))
     have hri : ((ckA c.ws ((qsA c.ws i).getD i []) (qsA c.ws i) k).getD i []) = ((qsA c.ws i).getD i []) := preS_at (ck_pre k) hb57
     have hli := (ck_pre (W := c.ws) (r := ((qsA c.ws i).getD i [])) (l := (qsA c.ws i)) k).length_le
     refine zk (zs (zb (zs (zr ?_ (h := by intro c K h; simp [hG, List.getD_cons_zero, List.getD_cons_succ, -List.getD_eq_getElem?_getD, pureOp, ixA_zero, iyA_zero, ixA_full, ixA_all, ckA_zero]; first | exact z1 c h | exact ⟨.mk c, h⟩)))))
     refine zs (zs (zr ?_ (h := by intro c K h; simp [hG, List.getD_cons_zero, List.getD_cons_succ, -List.getD_eq_getElem?_getD, pureOp, ixA_zero, iyA_zero, ixA_full, ixA_all, ckA_zero]; first | exact z1 c h | exact ⟨.mk c, h⟩)))
     refine zy (fun hb76 => ?_) fun hb76 => ?_
     · have hps := ckA_nil (W := c.ws) (l := (qsA c.ws i)) (k := k) (hri.symm.trans (by simpa using hb76))
       refine zx (zbx (zr ?_ (h := by intro c K h; simp [hG, List.getD_cons_zero, List.getD_cons_succ, -List.getD_eq_getElem?_getD, pureOp, ixA_zero, iyA_zero, ixA_full, ixA_all, ckA_zero]; first | exact z1 c h | exact ⟨.mk c, h⟩)))
       refine zn ?_
       refine round_end (k + 1) (by omega) (by omega) ?_
       exact zi (e := by rw [hps]; simp [hG, pureOp, List.getD_cons_zero, List.getD_cons_succ, -List.getD_eq_getElem?_getD]) (h := by rw [hps]; simp [hG, pureOp, List.getD_cons_zero, List.getD_cons_succ, -List.getD_eq_getElem?_getD])
     have hr0 : ((qsA c.ws i).getD i []) ≠ [] := (by rw [← hri]; simpa using hb76)
     refine zk (zs (zL (zl 5 ?_ (h := by intro c K h; simp [hG, List.getD_cons_zero, List.getD_cons_succ, -List.getD_eq_getElem?_getD, pureOp, ixA_zero, iyA_zero, ixA_full, ixA_all, ckA_zero]; first | exact z1 c h | exact ⟨.mk c, h⟩))))
     refine zc cal44 (pfxR_c ((ckA c.ws ((qsA c.ws i).getD i []) (qsA c.ws i) k).getD i []) (c.ws.getD k [])) ?_ (a := fun hg => by simp [hG, List.getD_cons_zero, List.getD_cons_succ, -List.getD_eq_getElem?_getD, pureOp, ixA_zero, iyA_zero, ixA_full, ixA_all, ckA_zero]) (b := fun hg => by simp [hG, List.getD_cons_zero, List.getD_cons_succ, -List.getD_eq_getElem?_getD, pureOp, ixA_zero, iyA_zero, ixA_full, ixA_all, ckA_zero]) (h := by intro K h; simp [hG, List.getD_cons_zero, List.getD_cons_succ, -List.getD_eq_getElem?_getD, pureOp, ixA_zero, iyA_zero, ixA_full, ixA_all, ckA_zero]; exact h)
     refine zN (zy (fun hb82 => ?_) fun hb82 => ?_)
     · have hpl := List.IsPrefix.length_le hb82
       have hps := ckA_in (W := c.ws) (l := (qsA c.ws i)) (k := k) hr0 (by rw [← hri]; simpa using hb82)
       refine zL (zl 8 ?_ (h := by intro c K h; simp [hG, List.getD_cons_zero, List.getD_cons_succ, -List.getD_eq_getElem?_getD, pureOp, ixA_zero, iyA_zero, ixA_full, ixA_all, ckA_zero]; first | exact z1 c h | exact ⟨.mk c, h⟩))
       refine zf cal70 [0] (addR_c (ckA c.ws ((qsA c.ws i).getD i []) (qsA c.ws i) k) (((ckA c.ws ((qsA c.ws i).getD i []) (qsA c.ws i) k).getD i []).drop (c.ws.getD k []).length) (by omega)) (fun x hI hno => ?_) (a := by simp [hG, List.getD_cons_zero, List.getD_cons_succ, -List.getD_eq_getElem?_getD, pureOp, ixA_zero, iyA_zero, ixA_full, ixA_all, ckA_zero]) (b := by simp [hG, List.range'_succ, List.range'_zero, List.getD_cons_zero, List.getD_cons_succ, -List.getD_eq_getElem?_getD]) (c := by simp [hG, List.getD_cons_zero, List.getD_cons_succ, -List.getD_eq_getElem?_getD, pureOp, ixA_zero, iyA_zero, ixA_full, ixA_all, ckA_zero]) (h := by intro K h x hI hno; simp [hG, List.getD_cons_zero, List.getD_cons_succ, -List.getD_eq_getElem?_getD, pureOp, ixA_zero, iyA_zero, ixA_full, ixA_all, ckA_zero]; exact h x hI hno)
       refine zl 1 ?_ (h := by intro c K h; simp [hG, List.getD_cons_zero, List.getD_cons_succ, -List.getD_eq_getElem?_getD, pureOp, ixA_zero, iyA_zero, ixA_full, ixA_all, ckA_zero]; first | exact z1 c h | exact ⟨.mk c, h⟩)
       refine zN (zn (zbn (zr ?_ (h := by intro c K h; simp [hG, List.getD_cons_zero, List.getD_cons_succ, -List.getD_eq_getElem?_getD, pureOp, ixA_zero, iyA_zero, ixA_full, ixA_all, ckA_zero]; first | exact z1 c h | exact ⟨.mk c, h⟩))))
       refine zn ?_
       refine round_end (k + 1) (by omega) (by omega) ?_
       exact zw (fun k => if k = 0 then 1 else k) (fun _ => false) (fun _ => false) (e := by rw [hps]; simp [hG, hri, pureOp, List.getD_cons_zero, List.getD_cons_succ, -List.getD_eq_getElem?_getD]) (h := by rw [hps]; simp [hG, hri, pureOp, List.getD_cons_zero, List.getD_cons_succ, -List.getD_eq_getElem?_getD])
     refine zs (zL (zl 5 ?_ (h := by intro c K h; simp [hG, List.getD_cons_zero, List.getD_cons_succ, -List.getD_eq_getElem?_getD, pureOp, ixA_zero, iyA_zero, ixA_full, ixA_all, ckA_zero]; first | exact z1 c h | exact ⟨.mk c, h⟩)))
     refine zc cal44 (pfxR_c (c.ws.getD k []) ((ckA c.ws ((qsA c.ws i).getD i []) (qsA c.ws i) k).getD i [])) ?_ (a := fun hg => by simp [hG, List.getD_cons_zero, List.getD_cons_succ, -List.getD_eq_getElem?_getD, pureOp, ixA_zero, iyA_zero, ixA_full, ixA_all, ckA_zero]) (b := fun hg => by simp [hG, List.getD_cons_zero, List.getD_cons_succ, -List.getD_eq_getElem?_getD, pureOp, ixA_zero, iyA_zero, ixA_full, ixA_all, ckA_zero]) (h := by intro K h; simp [hG, List.getD_cons_zero, List.getD_cons_succ, -List.getD_eq_getElem?_getD, pureOp, ixA_zero, iyA_zero, ixA_full, ixA_all, ckA_zero]; exact h)
     refine zN (zy (fun hb97 => ?_) fun hb97 => ?_)
     · have hpl := List.IsPrefix.length_le hb97
       have hps := ckA_ov (W := c.ws) (l := (qsA c.ws i)) (k := k) hr0 (by rw [← hri]; simpa using hb82) (by rw [← hri]; simpa using hb97)
       refine zL (zl 8 ?_ (h := by intro c K h; simp [hG, List.getD_cons_zero, List.getD_cons_succ, -List.getD_eq_getElem?_getD, pureOp, ixA_zero, iyA_zero, ixA_full, ixA_all, ckA_zero]; first | exact z1 c h | exact ⟨.mk c, h⟩))
       refine zf cal70 [0] (addR_c (ckA c.ws ((qsA c.ws i).getD i []) (qsA c.ws i) k) ((c.ws.getD k []).drop ((ckA c.ws ((qsA c.ws i).getD i []) (qsA c.ws i) k).getD i []).length) (by omega)) (fun x hI hno => ?_) (a := by simp [hG, List.getD_cons_zero, List.getD_cons_succ, -List.getD_eq_getElem?_getD, pureOp, ixA_zero, iyA_zero, ixA_full, ixA_all, ckA_zero]) (b := by simp [hG, List.range'_succ, List.range'_zero, List.getD_cons_zero, List.getD_cons_succ, -List.getD_eq_getElem?_getD]) (c := by simp [hG, List.getD_cons_zero, List.getD_cons_succ, -List.getD_eq_getElem?_getD, pureOp, ixA_zero, iyA_zero, ixA_full, ixA_all, ckA_zero]) (h := by intro K h x hI hno; simp [hG, List.getD_cons_zero, List.getD_cons_succ, -List.getD_eq_getElem?_getD, pureOp, ixA_zero, iyA_zero, ixA_full, ixA_all, ckA_zero]; exact h x hI hno)
       refine zl 1 ?_ (h := by intro c K h; simp [hG, List.getD_cons_zero, List.getD_cons_succ, -List.getD_eq_getElem?_getD, pureOp, ixA_zero, iyA_zero, ixA_full, ixA_all, ckA_zero]; first | exact z1 c h | exact ⟨.mk c, h⟩)
       refine zN (zn (zbn (zr ?_ (h := by intro c K h; simp [hG, List.getD_cons_zero, List.getD_cons_succ, -List.getD_eq_getElem?_getD, pureOp, ixA_zero, iyA_zero, ixA_full, ixA_all, ckA_zero]; first | exact z1 c h | exact ⟨.mk c, h⟩))))
       refine zn ?_
       refine round_end (k + 1) (by omega) (by omega) ?_
       exact zw (fun k => if k = 0 then 1 else k) (fun _ => false) (fun _ => false) (e := by rw [hps]; simp [hG, hri, pureOp, List.getD_cons_zero, List.getD_cons_succ, -List.getD_eq_getElem?_getD]) (h := by rw [hps]; simp [hG, hri, pureOp, List.getD_cons_zero, List.getD_cons_succ, -List.getD_eq_getElem?_getD])
     have hps := ckA_off (W := c.ws) (l := (qsA c.ws i)) (k := k) hr0 (by rw [← hri]; simpa using hb82) (by rw [← hri]; simpa using hb97)
     refine zk (zn (zbn (zr ?_ (h := by intro c K h; simp [hG, List.getD_cons_zero, List.getD_cons_succ, -List.getD_eq_getElem?_getD, pureOp, ixA_zero, iyA_zero, ixA_full, ixA_all, ckA_zero]; first | exact z1 c h | exact ⟨.mk c, h⟩))))
     refine zn ?_
     refine round_end (k + 1) (by omega) (by omega) ?_
     exact zi (e := by rw [hps]; simp [hG, pureOp, List.getD_cons_zero, List.getD_cons_succ, -List.getD_eq_getElem?_getD]) (h := by rw [hps]; simp [hG, pureOp, List.getD_cons_zero, List.getD_cons_succ, -List.getD_eq_getElem?_getD])
   obtain rfl : k = c.ws.length := (by omega)
   refine zx (ztx (zbx (zn (zbn (zr ?_ (h := by intro c K h; simp [hG, List.getD_cons_zero, List.getD_cons_succ, -List.getD_eq_getElem?_getD, pureOp, ixA_zero, iyA_zero, ixA_full, ixA_all, ckA_zero]; first | exact z1 c h | exact ⟨.mk c, h⟩))))))
   refine zn ?_
   refine round_end (i + 1) (by have h9 := qsA_next hb57; have h8 := (qs_pre (W := c.ws) (i := i)).length_le; omega) (by omega) ?_
   exact zi (e := by rw [← qsA_next hb57]; simp [hG, pureOp, List.getD_cons_zero, List.getD_cons_succ, -List.getD_eq_getElem?_getD]) (h := by rw [← qsA_next hb57]; simp [hG, pureOp, List.getD_cons_zero, List.getD_cons_succ, -List.getD_eq_getElem?_getD])
 refine zx (ztx (zbx (zs (zr ?_ (h := by intro c K h; simp [hG, List.getD_cons_zero, List.getD_cons_succ, -List.getD_eq_getElem?_getD, pureOp, ixA_zero, iyA_zero, ixA_full, ixA_all, ckA_zero]; first | exact z1 c h | exact ⟨.mk c, h⟩)))))
 refine zt ?_
 refine RetOK_of ?_
 simp [hG, List.getD_cons_zero, List.getD_cons_succ, -List.getD_eq_getElem?_getD, pureOp, ixA_zero, iyA_zero, ixA_full, ixA_all, ckA_zero]
 rw [restL_at hi (by omega)]; exact ⟨rfl, Nat.le_refl _, fun _ _ => rfl⟩
end Go.Proofs.Ytoafgeobhhlplaa
