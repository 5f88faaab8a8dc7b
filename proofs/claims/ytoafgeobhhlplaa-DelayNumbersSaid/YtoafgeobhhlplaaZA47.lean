/- Parts of the proof: VR. -/
import Derived.Test.YtoafgeobhhlplaaZA21
import Derived.Test.YtoafgeobhhlplaaZA46
namespace Go.Proofs.Ytoafgeobhhlplaa
set_option linter.unusedSimpArgs false
set_option linter.unusedVariables false
open Go Go.Lift Go.Proofs
theorem dyA_succ {W : List Wd} {most : List Nat} {x d y : Nat} : dyA W most x d (y + 1) = dUp W most x y (dyA W most x d y) := rfl
theorem dxA_zero {W : List Wd} {most : List Nat} : dxA W most 0 = 0 := rfl
theorem dyA_zero {W : List Wd} {most : List Nat} {x d : Nat} : dyA W most x d 0 = d := rfl
theorem dyA_full {W : List Wd} {most : List Nat} {x : Nat} : dyA W most x (dxA W most x) W.length = dxA W most (x + 1) := rfl
set_option maxRecDepth 100000 in
set_option maxHeartbeats 1000000 in
theorem refDelay_c (c : Cd) (hl : c.ws.length ≤ maxLen) : PC Try.prog 13 [.agg 2 (cdF c)] (.tup 3 (fun j => [.int .i64 (dlD c), .bool (dlB c), .int .i64 (arN c)].getD j .any)) := by
 have hML : maxLen = 9223372036854775807 := by decide
 refine zp Try.func13 fun G hG hR => ?_
 refine zs (zr ?_ (h := by intro c K h; simp [hG, List.getD_cons_zero, List.getD_cons_succ, -List.getD_eq_getElem?_getD, pureOp, dxA_zero, dyA_zero, dyA_full]; first | exact z1 c h | exact ⟨.mk c, h⟩))
 refine zs (zs (zL (zl 1 ?_ (h := by intro c K h; simp [hG, List.getD_cons_zero, List.getD_cons_succ, -List.getD_eq_getElem?_getD, pureOp, dxA_zero, dyA_zero, dyA_full]; first | exact z1 c h | exact ⟨.mk c, h⟩))))
 refine zc cal41 (checkR33_c c hl) ?_ (a := fun hg => by simp [hG, List.getD_cons_zero, List.getD_cons_succ, -List.getD_eq_getElem?_getD, pureOp, dxA_zero, dyA_zero, dyA_full]) (b := fun hg => by simp [hG, List.getD_cons_zero, List.getD_cons_succ, -List.getD_eq_getElem?_getD, pureOp, dxA_zero, dyA_zero, dyA_full]) (h := by intro K h; simp [hG, List.getD_cons_zero, List.getD_cons_succ, -List.getD_eq_getElem?_getD, pureOp, dxA_zero, dyA_zero, dyA_full]; exact h)
 refine zl 1 ?_ (h := by intro c K h; simp [hG, List.getD_cons_zero, List.getD_cons_succ, -List.getD_eq_getElem?_getD, pureOp, dxA_zero, dyA_zero, dyA_full]; first | exact z1 c h | exact ⟨.mk c, h⟩)
 refine zN (zy (fun hb16 => ?_) fun hb16 => ?_)
 · refine zs (zr ?_ (h := by intro c K h; simp [hG, List.getD_cons_zero, List.getD_cons_succ, -List.getD_eq_getElem?_getD, pureOp, dxA_zero, dyA_zero, dyA_full]; first | exact z1 c h | exact ⟨.mk c, h⟩))
   refine zt ?_
   refine RetOK_of ?_
   simp [hG, List.getD_cons_zero, List.getD_cons_succ, -List.getD_eq_getElem?_getD, pureOp, dxA_zero, dyA_zero, dyA_full]
   unfold dlD dlB arN; rw [if_neg hb16, if_neg hb16, decide_eq_false hb16]; exact ⟨rfl, rfl, rfl⟩
 have ho : cdN c = 0 := (by simpa using hb16)
 have hv := cd_ok ho
 have hWn := hv.n
 have hlb := rest_box (l := []) hWn.2 hv.len
 refine zk (zs (zL (zl 1 ?_ (h := by intro c K h; simp [hG, List.getD_cons_zero, List.getD_cons_succ, -List.getD_eq_getElem?_getD, pureOp, dxA_zero, dyA_zero, dyA_full]; first | exact z1 c h | exact ⟨.mk c, h⟩))))
 refine zc cal42 (restsR_c c hv) ?_ (a := fun hg => by simp [hG, List.getD_cons_zero, List.getD_cons_succ, -List.getD_eq_getElem?_getD, pureOp, dxA_zero, dyA_zero, dyA_full]) (b := fun hg => by simp [hG, List.getD_cons_zero, List.getD_cons_succ, -List.getD_eq_getElem?_getD, pureOp, dxA_zero, dyA_zero, dyA_full]) (h := by intro K h; simp [hG, List.getD_cons_zero, List.getD_cons_succ, -List.getD_eq_getElem?_getD, pureOp, dxA_zero, dyA_zero, dyA_full]; exact h)
 refine zl 1 ?_ (h := by intro c K h; simp [hG, List.getD_cons_zero, List.getD_cons_succ, -List.getD_eq_getElem?_getD, pureOp, dxA_zero, dyA_zero, dyA_full]; first | exact z1 c h | exact ⟨.mk c, h⟩)
 refine zN (zs (zL (zl 2 ?_ (h := by intro c K h; simp [hG, List.getD_cons_zero, List.getD_cons_succ, -List.getD_eq_getElem?_getD, pureOp, dxA_zero, dyA_zero, dyA_full]; first | exact z1 c h | exact ⟨.mk c, h⟩))))
 refine zc cal43 (lengthsR_c c hv (restL c.ws) (rest_box (l := []) hWn.2 hv.len) (fun r hr => suf_le hv.len (der_suf (rest_mem.1 hr))) (fun h0 => rest_clsd h0)) ?_ (a := fun hg => by simp [hG, List.getD_cons_zero, List.getD_cons_succ, -List.getD_eq_getElem?_getD, pureOp, dxA_zero, dyA_zero, dyA_full]) (b := fun hg => by simp [hG, List.getD_cons_zero, List.getD_cons_succ, -List.getD_eq_getElem?_getD, pureOp, dxA_zero, dyA_zero, dyA_full]) (h := by intro K h; simp [hG, List.getD_cons_zero, List.getD_cons_succ, -List.getD_eq_getElem?_getD, pureOp, dxA_zero, dyA_zero, dyA_full]; exact h)
 refine zl 5 ?_ (h := by intro c K h; simp [hG, List.getD_cons_zero, List.getD_cons_succ, -List.getD_eq_getElem?_getD, pureOp, dxA_zero, dyA_zero, dyA_full]; first | exact z1 c h | exact ⟨.mk c, h⟩)
 refine zN (zs (zs (zr ?_ (h := by intro c K h; simp [hG, List.getD_cons_zero, List.getD_cons_succ, -List.getD_eq_getElem?_getD, pureOp, dxA_zero, dyA_zero, dyA_full]; first | exact z1 c h | exact ⟨.mk c, h⟩))))
 refine zy (fun hb26 => ?_) fun hb26 => ?_
 · have hs : lenF c.ws (restL c.ws) = none := (by simpa using hb26)
   refine zs (zr ?_ (h := by intro c K h; simp [hG, List.getD_cons_zero, List.getD_cons_succ, -List.getD_eq_getElem?_getD, pureOp, dxA_zero, dyA_zero, dyA_full]; first | exact z1 c h | exact ⟨.mk c, h⟩))
   refine zt ?_
   refine RetOK_of ?_
   simp [hG, List.getD_cons_zero, List.getD_cons_succ, -List.getD_eq_getElem?_getD, pureOp, dxA_zero, dyA_zero, dyA_full]
   unfold dlD dlB arN; rw [if_pos ho, dlR_out hs, if_pos ho, decide_eq_true ho]; exact ⟨rfl, rfl, rfl⟩
 obtain ⟨n, hs⟩ : ∃ n, lenF c.ws (restL c.ws) = some n := Option.isSome_iff_exists.1 (by simpa [Option.isSome_iff_exists] using hb26)
 have hnl := lenF_le hs
 have hll := lnL_len hs
 have hbd := fun i => itN_le (W := c.ws) (n := 32) hv.len (l := (restL c.ws)) n i
 refine zk (zs (zr ?_ (h := by intro c K h; simp [hG, List.getD_cons_zero, List.getD_cons_succ, -List.getD_eq_getElem?_getD, pureOp, dxA_zero, dyA_zero, dyA_full]; first | exact z1 c h | exact ⟨.mk c, h⟩)))
 refine zs (zs (zr ?_ (h := by intro c K h; simp [hG, List.getD_cons_zero, List.getD_cons_succ, -List.getD_eq_getElem?_getD, pureOp, dxA_zero, dyA_zero, dyA_full]; first | exact z1 c h | exact ⟨.mk c, h⟩)))
 refine zb ?_
 refine awpS_loop (α := Nat) (fun x => ⟨[(1, .vptr 2 (cdF c) 0), (5, strs (restL c.ws)), (6, ints (lnL c.ws (restL c.ws))), (8, .int .i64 (dxA c.ws (itN c.ws (restL c.ws) n) x : Nat)), (9, .int .i64 (x : Nat))], [], 0⟩) (fun x => x ≤ c.ws.length) (fun x => c.ws.length - x) (0) (Nat.zero_le _) ?_ ?_
 · exact zw (id) (fun k => k == 0) (fun _ => false) (e := by simp [hG, List.getD_cons_zero, List.getD_cons_succ, -List.getD_eq_getElem?_getD, pureOp, dxA_zero, dyA_zero, dyA_full]) (h := by simp [hG, List.getD_cons_zero, List.getD_cons_succ, -List.getD_eq_getElem?_getD, pureOp, dxA_zero, dyA_zero, dyA_full])
 rintro x hx
 refine zs (zs (zr ?_ (h := by intro c K h; simp [hG, List.getD_cons_zero, List.getD_cons_succ, -List.getD_eq_getElem?_getD, pureOp, dxA_zero, dyA_zero, dyA_full]; first | exact z1 c h | exact ⟨.mk c, h⟩)))
 refine zy (fun hb31 => ?_) fun hb31 => ?_
 · have hxl := hv.len _ (W_mem hb31)
   have hxp := List.length_pos_iff.2 (hv.ne _ (W_mem hb31))
   refine zk (zs (zb (zs (zr ?_ (h := by intro c K h; simp [hG, List.getD_cons_zero, List.getD_cons_succ, -List.getD_eq_getElem?_getD, pureOp, dxA_zero, dyA_zero, dyA_full]; first | exact z1 c h | exact ⟨.mk c, h⟩)))))
   refine zb ?_
   refine awpS_loop (α := Nat) (fun y => ⟨[(1, .vptr 2 (cdF c) 0), (5, strs (restL c.ws)), (6, ints (lnL c.ws (restL c.ws))), (8, .int .i64 (dyA c.ws (itN c.ws (restL c.ws) n) x (dxA c.ws (itN c.ws (restL c.ws) n) x) y : Nat)), (9, .int .i64 (x : Nat)), (10, .int .i64 (y : Nat))], [], 0⟩) (fun y => y ≤ c.ws.length) (fun y => c.ws.length - y) (0) (Nat.zero_le _) ?_ ?_
   · exact zi (e := by simp [hG, List.getD_cons_zero, List.getD_cons_succ, -List.getD_eq_getElem?_getD, pureOp, dxA_zero, dyA_zero, dyA_full]) (h := by simp [hG, List.getD_cons_zero, List.getD_cons_succ, -List.getD_eq_getElem?_getD, pureOp, dxA_zero, dyA_zero, dyA_full])
   rintro y hy
   refine zs (zs (zr ?_ (h := by intro c K h; simp [hG, List.getD_cons_zero, List.getD_cons_succ, -List.getD_eq_getElem?_getD, pureOp, dxA_zero, dyA_zero, dyA_full]; first | exact z1 c h | exact ⟨.mk c, h⟩)))
   refine zy (fun hb38 => ?_) fun hb38 => ?_
   · have hyl := hv.len _ (W_mem hb38)
     refine zk (zs (zb (zs ?_)))
     refine awpS_draw hR mixed [] ⟨[], [], []⟩ fun mu0 => ?_
     refine za [0, 1, 2, 3, 4, 5, 6, 7, 8, 9, 10, 11] [] 0 [11, 10, 9, 8, 7, 6, 5, 4, 3, 2, 1, 0] ?_ (h := by intro c K h; simp [hG, List.getD_cons_zero, List.getD_cons_succ, -List.getD_eq_getElem?_getD, pureOp, dxA_zero, dyA_zero, dyA_full]; first | exact z1 c h | exact ⟨.mk c, h⟩)
     refine awpA_done (by decide +kernel) ?_
     refine zs (zr ?_ (h := by intro c K h; simp [hG, List.getD_cons_zero, List.getD_cons_succ, -List.getD_eq_getElem?_getD, pureOp, dxA_zero, dyA_zero, dyA_full]; first | exact z1 c h | exact ⟨.mk c, h⟩))
     refine zs (zs (zL (zl 6 ?_ (h := by intro c K h; simp [hG, List.getD_cons_zero, List.getD_cons_succ, -List.getD_eq_getElem?_getD, pureOp, dxA_zero, dyA_zero, dyA_full]; first | exact z1 c h | exact ⟨.mk c, h⟩))))
     refine zc cal44 (pfxR_c (c.ws.getD x []) (c.ws.getD y [])) ?_ (a := fun hg => by first | (simp [hG, List.getD_cons_zero, List.getD_cons_succ, -List.getD_eq_getElem?_getD, pureOp, dxA_zero, dyA_zero, dyA_full]; done) | (simp [-List.getD_eq_getElem?_getD] at hg; done) | (simp [-List.getD_eq_getElem?_getD] at hg; simp [hG, List.getD_cons_zero, List.getD_cons_succ, -List.getD_eq_getElem?_getD, pureOp, dxA_zero, dyA_zero, dyA_full]; first | omega | exact hg | (simp_all [-List.getD_eq_getElem?_getD]; done) | (simp_all [-List.getD_eq_getElem?_getD]; first | exact ⟨rfl, rfl⟩ | exact rfl))) (b := fun hg => by first | (simp [hG, List.getD_cons_zero, List.getD_cons_succ, -List.getD_eq_getElem?_getD, pureOp, dxA_zero, dyA_zero, dyA_full]; done) | (simp [-List.getD_eq_getElem?_getD] at hg; done) | (simp [-List.getD_eq_getElem?_getD] at hg; simp [hG, List.getD_cons_zero, List.getD_cons_succ, -List.getD_eq_getElem?_getD, pureOp, dxA_zero, dyA_zero, dyA_full]; first | omega | exact hg | (simp_all [-List.getD_eq_getElem?_getD]; done) | (simp_all [-List.getD_eq_getElem?_getD]; first | exact ⟨rfl, rfl⟩ | exact rfl))) (h := by intro K h; simp [hG, List.getD_cons_zero, List.getD_cons_succ, -List.getD_eq_getElem?_getD, pureOp, dxA_zero, dyA_zero, dyA_full]; exact h)
     refine zl 1 ?_ (h := by intro c K h; simp [hG, List.getD_cons_zero, List.getD_cons_succ, -List.getD_eq_getElem?_getD, pureOp, dxA_zero, dyA_zero, dyA_full]; first | exact z1 c h | exact ⟨.mk c, h⟩)
     refine zN (zy (fun hb58 => ?_) fun hb58 => ?_)
     · have hne : x ≠ y := (by have := hb58.1; omega)
       have hpp := hb58.2
       have hmem := rest_ini hb31 hb38 hne hpp
       have hpl := List.IsPrefix.length_le hpp
       have hix := (plS_mem hmem).2.1
       have hla := lnL_at hs hix
       have hb1 := hbd ((restL c.ws).idxOf ((c.ws.getD x []).drop (c.ws.getD y []).length))
       have htg := tgD_in (W := c.ws) (most := (itN c.ws (restL c.ws) n)) hne hpp
       refine zL (zl 8 ?_ (h := by intro c K h; simp [hG, List.getD_cons_zero, List.getD_cons_succ, -List.getD_eq_getElem?_getD, pureOp, dxA_zero, dyA_zero, dyA_full]; first | exact z1 c h | exact ⟨.mk c, h⟩))
       refine zc cal45 (placeR_in (restL c.ws) ((c.ws.getD x []).drop (c.ws.getD y []).length) (by omega) hmem) ?_ (a := fun hg => by simp [hG, List.getD_cons_zero, List.getD_cons_succ, -List.getD_eq_getElem?_getD, pureOp, dxA_zero, dyA_zero, dyA_full]) (b := fun hg => by simp [hG, List.getD_cons_zero, List.getD_cons_succ, -List.getD_eq_getElem?_getD, pureOp, dxA_zero, dyA_zero, dyA_full]) (h := by intro K h; simp [hG, List.getD_cons_zero, List.getD_cons_succ, -List.getD_eq_getElem?_getD, pureOp, dxA_zero, dyA_zero, dyA_full]; exact h)
       refine zl 4 ?_ (h := by intro c K h; simp [hG, List.getD_cons_zero, List.getD_cons_succ, -List.getD_eq_getElem?_getD, pureOp, dxA_zero, dyA_zero, dyA_full]; first | exact z1 c h | exact ⟨.mk c, h⟩)
       refine zN (zs (zr ?_ (h := by intro c K h; simp [hG, List.getD_cons_zero, List.getD_cons_succ, -List.getD_eq_getElem?_getD, pureOp, dxA_zero, dyA_zero, dyA_full]; first | exact z1 c h | exact ⟨.mk c, h⟩)))
       refine zy (fun hb103 => ?_) fun hb103 => ?_
       · have hps := dUp_yes (W := c.ws) (most := (itN c.ws (restL c.ws) n)) (x := x) (y := y) (d := dyA c.ws (itN c.ws (restL c.ws) n) x (dxA c.ws (itN c.ws (restL c.ws) n) x) y) (by omega) (by omega)
         refine zr ?_ (h := by intro c K h; simp [hG, List.getD_cons_zero, List.getD_cons_succ, -List.getD_eq_getElem?_getD, pureOp, dxA_zero, dyA_zero, dyA_full]; first | exact z1 c h | exact ⟨.mk c, h⟩)
         refine zn (zbn (zr ?_ (h := by intro c K h; simp [hG, List.getD_cons_zero, List.getD_cons_succ, -List.getD_eq_getElem?_getD, pureOp, dxA_zero, dyA_zero, dyA_full]; first | exact z1 c h | exact ⟨.mk c, h⟩)))
         refine zn ?_
         refine round_end (y + 1) (by omega) (by omega) ?_
         exact zi (e := by rw [dyA_succ, hps]; simp [hG, pureOp, List.getD_cons_zero, List.getD_cons_succ, -List.getD_eq_getElem?_getD]; (try omega)) (h := by simp [hG, List.getD_cons_zero, List.getD_cons_succ, -List.getD_eq_getElem?_getD, pureOp, dxA_zero, dyA_zero, dyA_full])
       have hps := dUp_not (W := c.ws) (most := (itN c.ws (restL c.ws) n)) (x := x) (y := y) (d := dyA c.ws (itN c.ws (restL c.ws) n) x (dxA c.ws (itN c.ws (restL c.ws) n) x) y) (fun h => by first | omega | exact hb103 (by omega) (by omega))
       refine zk (zn (zbn (zr ?_ (h := by intro c K h; simp [hG, List.getD_cons_zero, List.getD_cons_succ, -List.getD_eq_getElem?_getD, pureOp, dxA_zero, dyA_zero, dyA_full]; first | exact z1 c h | exact ⟨.mk c, h⟩))))
       refine zn ?_
       refine round_end (y + 1) (by omega) (by omega) ?_
       exact zi (e := by rw [dyA_succ, hps]; simp [hG, pureOp, List.getD_cons_zero, List.getD_cons_succ, -List.getD_eq_getElem?_getD]; (try omega)) (h := by simp [hG, List.getD_cons_zero, List.getD_cons_succ, -List.getD_eq_getElem?_getD, pureOp, dxA_zero, dyA_zero, dyA_full])
     have hno : ¬ (x ≠ y ∧ (c.ws.getD y []) <+: (c.ws.getD x [])) := (fun h => hb58 (by have := h.1; omega) h.2)
     refine zs (zL (zl 6 ?_ (h := by intro c K h; simp [hG, List.getD_cons_zero, List.getD_cons_succ, -List.getD_eq_getElem?_getD, pureOp, dxA_zero, dyA_zero, dyA_full]; first | exact z1 c h | exact ⟨.mk c, h⟩)))
     refine zc cal44 (pfxR_c (c.ws.getD y []) (c.ws.getD x [])) ?_ (a := fun hg => by first | (simp [hG, List.getD_cons_zero, List.getD_cons_succ, -List.getD_eq_getElem?_getD, pureOp, dxA_zero, dyA_zero, dyA_full]; done) | (simp [-List.getD_eq_getElem?_getD] at hg; done) | (simp [-List.getD_eq_getElem?_getD] at hg; simp [hG, List.getD_cons_zero, List.getD_cons_succ, -List.getD_eq_getElem?_getD, pureOp, dxA_zero, dyA_zero, dyA_full]; first | omega | exact hg | (simp_all [-List.getD_eq_getElem?_getD]; done) | (simp_all [-List.getD_eq_getElem?_getD]; first | exact ⟨rfl, rfl⟩ | exact rfl))) (b := fun hg => by first | (simp [hG, List.getD_cons_zero, List.getD_cons_succ, -List.getD_eq_getElem?_getD, pureOp, dxA_zero, dyA_zero, dyA_full]; done) | (simp [-List.getD_eq_getElem?_getD] at hg; done) | (simp [-List.getD_eq_getElem?_getD] at hg; simp [hG, List.getD_cons_zero, List.getD_cons_succ, -List.getD_eq_getElem?_getD, pureOp, dxA_zero, dyA_zero, dyA_full]; first | omega | exact hg | (simp_all [-List.getD_eq_getElem?_getD]; done) | (simp_all [-List.getD_eq_getElem?_getD]; first | exact ⟨rfl, rfl⟩ | exact rfl))) (h := by intro K h; simp [hG, List.getD_cons_zero, List.getD_cons_succ, -List.getD_eq_getElem?_getD, pureOp, dxA_zero, dyA_zero, dyA_full]; exact h)
     refine zl 1 ?_ (h := by intro c K h; simp [hG, List.getD_cons_zero, List.getD_cons_succ, -List.getD_eq_getElem?_getD, pureOp, dxA_zero, dyA_zero, dyA_full]; first | exact z1 c h | exact ⟨.mk c, h⟩)
     refine zN (zy (fun hb78 => ?_) fun hb78 => ?_)
     · have hne : x ≠ y := (by have := hb78.1; omega)
       have hpp := hb78.2
       have hmem := rest_ini hb38 hb31 (Ne.symm hne) hpp
       have hpl := List.IsPrefix.length_le hpp
       have hix := (plS_mem hmem).2.1
       have hla := lnL_at hs hix
       have hb1 := hbd ((restL c.ws).idxOf ((c.ws.getD y []).drop (c.ws.getD x []).length))
       have htg := tgD_ov (W := c.ws) (most := (itN c.ws (restL c.ws) n)) hno ⟨hne, hpp⟩
       refine zL (zl 8 ?_ (h := by intro c K h; simp [hG, List.getD_cons_zero, List.getD_cons_succ, -List.getD_eq_getElem?_getD, pureOp, dxA_zero, dyA_zero, dyA_full]; first | exact z1 c h | exact ⟨.mk c, h⟩))
       refine zc cal45 (placeR_in (restL c.ws) ((c.ws.getD y []).drop (c.ws.getD x []).length) (by omega) hmem) ?_ (a := fun hg => by simp [hG, List.getD_cons_zero, List.getD_cons_succ, -List.getD_eq_getElem?_getD, pureOp, dxA_zero, dyA_zero, dyA_full]) (b := fun hg => by simp [hG, List.getD_cons_zero, List.getD_cons_succ, -List.getD_eq_getElem?_getD, pureOp, dxA_zero, dyA_zero, dyA_full]) (h := by intro K h; simp [hG, List.getD_cons_zero, List.getD_cons_succ, -List.getD_eq_getElem?_getD, pureOp, dxA_zero, dyA_zero, dyA_full]; exact h)
       refine zl 4 ?_ (h := by intro c K h; simp [hG, List.getD_cons_zero, List.getD_cons_succ, -List.getD_eq_getElem?_getD, pureOp, dxA_zero, dyA_zero, dyA_full]; first | exact z1 c h | exact ⟨.mk c, h⟩)
       refine zN (zs (zr ?_ (h := by intro c K h; simp [hG, List.getD_cons_zero, List.getD_cons_succ, -List.getD_eq_getElem?_getD, pureOp, dxA_zero, dyA_zero, dyA_full]; first | exact z1 c h | exact ⟨.mk c, h⟩)))
       refine zy (fun hb103 => ?_) fun hb103 => ?_
       · have hps := dUp_yes (W := c.ws) (most := (itN c.ws (restL c.ws) n)) (x := x) (y := y) (d := dyA c.ws (itN c.ws (restL c.ws) n) x (dxA c.ws (itN c.ws (restL c.ws) n) x) y) (by omega) (by omega)
         refine zr ?_ (h := by intro c K h; simp [hG, List.getD_cons_zero, List.getD_cons_succ, -List.getD_eq_getElem?_getD, pureOp, dxA_zero, dyA_zero, dyA_full]; first | exact z1 c h | exact ⟨.mk c, h⟩)
         refine zn (zbn (zr ?_ (h := by intro c K h; simp [hG, List.getD_cons_zero, List.getD_cons_succ, -List.getD_eq_getElem?_getD, pureOp, dxA_zero, dyA_zero, dyA_full]; first | exact z1 c h | exact ⟨.mk c, h⟩)))
         refine zn ?_
         refine round_end (y + 1) (by omega) (by omega) ?_
         exact zi (e := by rw [dyA_succ, hps]; simp [hG, pureOp, List.getD_cons_zero, List.getD_cons_succ, -List.getD_eq_getElem?_getD]; (try omega)) (h := by simp [hG, List.getD_cons_zero, List.getD_cons_succ, -List.getD_eq_getElem?_getD, pureOp, dxA_zero, dyA_zero, dyA_full])
       have hps := dUp_not (W := c.ws) (most := (itN c.ws (restL c.ws) n)) (x := x) (y := y) (d := dyA c.ws (itN c.ws (restL c.ws) n) x (dxA c.ws (itN c.ws (restL c.ws) n) x) y) (fun h => by first | omega | exact hb103 (by omega) (by omega))
       refine zk (zn (zbn (zr ?_ (h := by intro c K h; simp [hG, List.getD_cons_zero, List.getD_cons_succ, -List.getD_eq_getElem?_getD, pureOp, dxA_zero, dyA_zero, dyA_full]; first | exact z1 c h | exact ⟨.mk c, h⟩))))
       refine zn ?_
       refine round_end (y + 1) (by omega) (by omega) ?_
       exact zi (e := by rw [dyA_succ, hps]; simp [hG, pureOp, List.getD_cons_zero, List.getD_cons_succ, -List.getD_eq_getElem?_getD]; (try omega)) (h := by simp [hG, List.getD_cons_zero, List.getD_cons_succ, -List.getD_eq_getElem?_getD, pureOp, dxA_zero, dyA_zero, dyA_full])
     have htg := tgD_off (W := c.ws) (most := (itN c.ws (restL c.ws) n)) hno (fun h => hb78 (by have := h.1; omega) h.2)
     refine zk (zs (zr ?_ (h := by intro c K h; simp [hG, List.getD_cons_zero, List.getD_cons_succ, -List.getD_eq_getElem?_getD, pureOp, dxA_zero, dyA_zero, dyA_full]; first | exact z1 c h | exact ⟨.mk c, h⟩)))
     refine zy (fun hb103 => ?_) fun hb103 => ?_
     · have hps := dUp_yes (W := c.ws) (most := (itN c.ws (restL c.ws) n)) (x := x) (y := y) (d := dyA c.ws (itN c.ws (restL c.ws) n) x (dxA c.ws (itN c.ws (restL c.ws) n) x) y) (by omega) (by omega)
       refine zr ?_ (h := by intro c K h; simp [hG, List.getD_cons_zero, List.getD_cons_succ, -List.getD_eq_getElem?_getD, pureOp, dxA_zero, dyA_zero, dyA_full]; first | exact z1 c h | exact ⟨.mk c, h⟩)
       refine zn (zbn (zr ?_ (h := by intro c K h; simp [hG, List.getD_cons_zero, List.getD_cons_succ, -List.getD_eq_getElem?_getD, pureOp, dxA_zero, dyA_zero, dyA_full]; first | exact z1 c h | exact ⟨.mk c, h⟩)))
       refine zn ?_
       refine round_end (y + 1) (by omega) (by omega) ?_
       exact zi (e := by rw [dyA_succ, hps]; simp [hG, pureOp, List.getD_cons_zero, List.getD_cons_succ, -List.getD_eq_getElem?_getD]; (try omega)) (h := by simp [hG, List.getD_cons_zero, List.getD_cons_succ, -List.getD_eq_getElem?_getD, pureOp, dxA_zero, dyA_zero, dyA_full])
     have hps := dUp_not (W := c.ws) (most := (itN c.ws (restL c.ws) n)) (x := x) (y := y) (d := dyA c.ws (itN c.ws (restL c.ws) n) x (dxA c.ws (itN c.ws (restL c.ws) n) x) y) (fun h => by first | omega | exact hb103 (by omega) (by omega))
     refine zk (zn (zbn (zr ?_ (h := by intro c K h; simp [hG, List.getD_cons_zero, List.getD_cons_succ, -List.getD_eq_getElem?_getD, pureOp, dxA_zero, dyA_zero, dyA_full]; first | exact z1 c h | exact ⟨.mk c, h⟩))))
     refine zn ?_
     refine round_end (y + 1) (by omega) (by omega) ?_
     exact zi (e := by rw [dyA_succ, hps]; simp [hG, pureOp, List.getD_cons_zero, List.getD_cons_succ, -List.getD_eq_getElem?_getD]; (try omega)) (h := by simp [hG, List.getD_cons_zero, List.getD_cons_succ, -List.getD_eq_getElem?_getD, pureOp, dxA_zero, dyA_zero, dyA_full])
   obtain rfl : y = c.ws.length := (by omega)
   refine zx (ztx (zbx (zn (zbn (zr ?_ (h := by intro c K h; simp [hG, List.getD_cons_zero, List.getD_cons_succ, -List.getD_eq_getElem?_getD, pureOp, dxA_zero, dyA_zero, dyA_full]; first | exact z1 c h | exact ⟨.mk c, h⟩))))))
   refine zn ?_
   refine round_end (x + 1) (by omega) (by omega) ?_
   exact zi (e := by simp [hG, List.getD_cons_zero, List.getD_cons_succ, -List.getD_eq_getElem?_getD, pureOp, dxA_zero, dyA_zero, dyA_full]) (h := by simp [hG, List.getD_cons_zero, List.getD_cons_succ, -List.getD_eq_getElem?_getD, pureOp, dxA_zero, dyA_zero, dyA_full])
 obtain rfl : x = c.ws.length := (by omega)
 refine zx (ztx (zbx (zs (zr ?_ (h := by intro c K h; simp [hG, List.getD_cons_zero, List.getD_cons_succ, -List.getD_eq_getElem?_getD, pureOp, dxA_zero, dyA_zero, dyA_full]; first | exact z1 c h | exact ⟨.mk c, h⟩)))))
 refine zt ?_
 refine RetOK_of ?_
 simp [hG, List.getD_cons_zero, List.getD_cons_succ, -List.getD_eq_getElem?_getD, pureOp, dxA_zero, dyA_zero, dyA_full]
 unfold dlD dlB arN; rw [if_pos ho, dlR_some hs, if_pos ho, decide_eq_true ho]; exact ⟨rfl, rfl, rfl⟩
set_option maxRecDepth 100000 in
theorem refBounded_c (c : Cd) (hl : c.ws.length ≤ maxLen) (n : Int) : PC Try.prog 15 [.agg 2 (cdF c), .int .i64 n] (.tup 2 (fun j => [.bool (bdB c n), .int .i64 (bdN c n)].getD j .any)) := by
 have hML : maxLen = 9223372036854775807 := by decide
 refine zp Try.func15 fun G hG hR => ?_
 refine zs (zrP ?_)
 refine zs (zs (zL (zlP 1 ?_)))
 refine zcP cal41 (checkR33_c c hl) ?_
 refine zlP 1 ?_
 refine zN (zy (fun hb11 => ?_) fun hb11 => ?_)
 · refine zs (zrP ?_)
   refine zt ?_
   refine RetOK_of ?_
   simp [hG, List.getD_cons_zero, List.getD_cons_succ, -List.getD_eq_getElem?_getD, pureOp]
   have h1 : bdN c n = 1 := if_pos hb11; unfold bdB; rw [h1]; exact ⟨rfl, rfl⟩
 refine zk (zs (zs (zrP ?_)))
 refine zy (fun hb17 => ?_) fun hb17 => ?_
 · refine zs (zrP ?_)
   refine zt ?_
   refine RetOK_of ?_
   simp [hG, List.getD_cons_zero, List.getD_cons_succ, -List.getD_eq_getElem?_getD, pureOp]
   have h1 : bdN c n = 2 := (if_neg (fun k => k (by simpa using hb11))).trans (if_pos (by omega)); unfold bdB; rw [h1]; exact ⟨rfl, rfl⟩
 refine zk (zs (zL (zlP 1 ?_)))
 refine zcP cal13 (refDelay_c c hl) ?_
 refine zlP 7 ?_
 refine zN (zs (zrP ?_))
 refine zt ?_
 refine RetOK_of ?_
 simp [hG, List.getD_cons_zero, List.getD_cons_succ, -List.getD_eq_getElem?_getD, pureOp]
 have h1 : bdN c n = 0 := (if_neg (fun k => k (by simpa using hb11))).trans (if_neg (by omega)); unfold bdB; rw [h1]; exact ⟨by simp, rfl⟩
end Go.Proofs.Ytoafgeobhhlplaa
