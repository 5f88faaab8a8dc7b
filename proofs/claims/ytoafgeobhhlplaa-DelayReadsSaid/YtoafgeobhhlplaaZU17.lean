/- Parts of the proof: VI VJ DL VK DM. -/
import Derived.Test.YtoafgeobhhlplaaZU13
import Derived.Test.YtoafgeobhhlplaaZU14
import Derived.Test.YtoafgeobhhlplaaZU16
namespace Go.Proofs.Ytoafgeobhhlplaa
set_option linter.unusedSimpArgs false
set_option linter.unusedVariables false
open Go Go.Lift Go.Proofs
theorem opB_eq {W : List Wd} {x : Nat} {v : Wd} : opB W x v = ((decide (W.getD x [] <+: v) && stB W x v) && decide (0 ≤ othN W v x)) := by unfold opB; rw [othN_pos]
set_option maxRecDepth 100000 in
theorem startsR_c (c : Cd) (hl : c.ws.length ≤ maxLen) (hv : CdOK c) (w : List UInt8) (hw : w.length ≤ 1000000) (x : Nat) (hx : x < c.ws.length) : PC Try.prog 49 [.agg 2 (cdF c), .str w, .int .i64 (x : Nat)] (.bool (stB c.ws x w)) := by
 have hML : maxLen = 9223372036854775807 := by decide
 have hWn := hv.n
 have hxl := hv.len _ (W_mem hx)
 refine zp Try.func49 fun G hG hR => ?_
 refine zs (zrP ?_)
 refine zs (zrP ?_)
 refine zs ?_
 by_cases hA : w <+: (c.ws.getD x [])
 · refine awpS_draw hR mixed [] ⟨[], [], []⟩ fun mu0 => ?_
   refine za [0, 1] [] 15 [1, 0] ?_ (h := by intro c K h; simp [hG, List.getD_cons_zero, List.getD_cons_succ, -List.getD_eq_getElem?_getD, pureOp, hA]; first | exact z1 c h | exact ⟨.mk c, h⟩)
   refine awpA_only (fuel := 14) (i := 2) (by decide +kernel) ?_
   refine ze cal44 (pfxR_c (c.ws.getD x []) w) ?_ (a := fun hg => by simp [hG, List.getD_cons_zero, List.getD_cons_succ, -List.getD_eq_getElem?_getD, pureOp, hA]) (b := fun hg => by simp [hG, List.getD_cons_zero, List.getD_cons_succ, -List.getD_eq_getElem?_getD, pureOp, hA]) (h := by intro K h; simp [hG, List.getD_cons_zero, List.getD_cons_succ, -List.getD_eq_getElem?_getD, pureOp, hA]; exact h)
   refine za [3, 4, 5] [] 11 [5, 4, 3, 2, 1, 0] ?_ (h := by intro c K h; simp [hG, List.getD_cons_zero, List.getD_cons_succ, -List.getD_eq_getElem?_getD, pureOp, hA]; first | exact z1 c h | exact ⟨.mk c, h⟩)
   refine awpA_only (fuel := 10) (i := 6) (by decide +kernel) ?_
   refine ze cal44 (pfxR_c w (c.ws.getD x [])) ?_ (a := fun hg => by first | (simp [hG, List.getD_cons_zero, List.getD_cons_succ, -List.getD_eq_getElem?_getD, pureOp, hA]; done) | (simp [-List.getD_eq_getElem?_getD] at hg; done) | (simp [-List.getD_eq_getElem?_getD] at hg; simp [hG, List.getD_cons_zero, List.getD_cons_succ, -List.getD_eq_getElem?_getD, pureOp, hA]; first | omega | exact hg | (simp_all [-List.getD_eq_getElem?_getD]; done) | (simp_all [-List.getD_eq_getElem?_getD]; first | exact ⟨rfl, rfl⟩ | exact rfl))) (b := fun hg => by first | (simp [hG, List.getD_cons_zero, List.getD_cons_succ, -List.getD_eq_getElem?_getD, pureOp, hA]; done) | (simp [-List.getD_eq_getElem?_getD] at hg; done) | (simp [-List.getD_eq_getElem?_getD] at hg; simp [hG, List.getD_cons_zero, List.getD_cons_succ, -List.getD_eq_getElem?_getD, pureOp, hA]; first | omega | exact hg | (simp_all [-List.getD_eq_getElem?_getD]; done) | (simp_all [-List.getD_eq_getElem?_getD]; first | exact ⟨rfl, rfl⟩ | exact rfl))) (h := by intro K h; simp [hG, List.getD_cons_zero, List.getD_cons_succ, -List.getD_eq_getElem?_getD, pureOp, hA]; exact h)
   refine za [7, 8, 9, 10, 11, 12] [] 4 [12, 11, 10, 9, 8, 7, 6, 5, 4, 3, 2, 1, 0] ?_ (h := by intro c K h; simp [hG, List.getD_cons_zero, List.getD_cons_succ, -List.getD_eq_getElem?_getD, pureOp, hA]; first | exact z1 c h | exact ⟨.mk c, h⟩)
   refine awpA_only (fuel := 3) (i := 13) (by decide +kernel) ?_
   refine ze cal74 (begR_c c hl hv (w.drop (c.ws.getD x []).length) (by rw [List.length_drop]; omega)) ?_ (a := fun hg => by first | (simp [hG, List.getD_cons_zero, List.getD_cons_succ, -List.getD_eq_getElem?_getD, pureOp, hA]; done) | (simp [-List.getD_eq_getElem?_getD] at hg; done) | (simp [-List.getD_eq_getElem?_getD] at hg; simp [hG, List.getD_cons_zero, List.getD_cons_succ, -List.getD_eq_getElem?_getD, pureOp, hA]; first | omega | exact hg | (simp_all [-List.getD_eq_getElem?_getD]; done) | (simp_all [-List.getD_eq_getElem?_getD]; first | exact ⟨rfl, rfl⟩ | exact rfl))) (b := fun hg => by first | (simp [hG, List.getD_cons_zero, List.getD_cons_succ, -List.getD_eq_getElem?_getD, pureOp, hA]; done) | (simp [-List.getD_eq_getElem?_getD] at hg; done) | (simp [-List.getD_eq_getElem?_getD] at hg; simp [hG, List.getD_cons_zero, List.getD_cons_succ, -List.getD_eq_getElem?_getD, pureOp, hA]; first | omega | exact hg | (simp_all [-List.getD_eq_getElem?_getD]; done) | (simp_all [-List.getD_eq_getElem?_getD]; first | exact ⟨rfl, rfl⟩ | exact rfl))) (h := by intro K h; simp [hG, List.getD_cons_zero, List.getD_cons_succ, -List.getD_eq_getElem?_getD, pureOp, hA]; exact h)
   refine za [14, 15, 16] [] 0 [16, 15, 14, 13, 12, 11, 10, 9, 8, 7, 6, 5, 4, 3, 2, 1, 0] ?_ (h := by intro c K h; simp [hG, List.getD_cons_zero, List.getD_cons_succ, -List.getD_eq_getElem?_getD, pureOp, hA]; first | exact z1 c h | exact ⟨.mk c, h⟩)
   refine awpA_done (by decide +kernel) ?_
   refine zt ?_
   refine RetOK_of ?_
   simp [hG, List.getD_cons_zero, List.getD_cons_succ, -List.getD_eq_getElem?_getD, pureOp, hA]
   exact rdA hA
 by_cases hB : (c.ws.getD x []) <+: w
 · have hbl := hB.length_le
   refine awpS_draw hR mixed [] ⟨[], [], []⟩ fun mu0 => ?_
   refine za [0, 1] [] 15 [1, 0] ?_ (h := by intro c K h; simp [hG, List.getD_cons_zero, List.getD_cons_succ, -List.getD_eq_getElem?_getD, pureOp, hA, hB]; first | exact z1 c h | exact ⟨.mk c, h⟩)
   refine awpA_only (fuel := 14) (i := 2) (by decide +kernel) ?_
   refine ze cal44 (pfxR_c (c.ws.getD x []) w) ?_ (a := fun hg => by simp [hG, List.getD_cons_zero, List.getD_cons_succ, -List.getD_eq_getElem?_getD, pureOp, hA, hB]) (b := fun hg => by simp [hG, List.getD_cons_zero, List.getD_cons_succ, -List.getD_eq_getElem?_getD, pureOp, hA, hB]) (h := by intro K h; simp [hG, List.getD_cons_zero, List.getD_cons_succ, -List.getD_eq_getElem?_getD, pureOp, hA, hB]; exact h)
   refine za [3, 4, 5] [] 11 [5, 4, 3, 2, 1, 0] ?_ (h := by intro c K h; simp [hG, List.getD_cons_zero, List.getD_cons_succ, -List.getD_eq_getElem?_getD, pureOp, hA, hB]; first | exact z1 c h | exact ⟨.mk c, h⟩)
   refine awpA_only (fuel := 10) (i := 6) (by decide +kernel) ?_
   refine ze cal44 (pfxR_c w (c.ws.getD x [])) ?_ (a := fun hg => by first | (simp [hG, List.getD_cons_zero, List.getD_cons_succ, -List.getD_eq_getElem?_getD, pureOp, hA, hB]; done) | (simp [-List.getD_eq_getElem?_getD] at hg; done) | (simp [-List.getD_eq_getElem?_getD] at hg; simp [hG, List.getD_cons_zero, List.getD_cons_succ, -List.getD_eq_getElem?_getD, pureOp, hA, hB]; first | omega | exact hg | (simp_all [-List.getD_eq_getElem?_getD]; done) | (simp_all [-List.getD_eq_getElem?_getD]; first | exact ⟨rfl, rfl⟩ | exact rfl))) (b := fun hg => by first | (simp [hG, List.getD_cons_zero, List.getD_cons_succ, -List.getD_eq_getElem?_getD, pureOp, hA, hB]; done) | (simp [-List.getD_eq_getElem?_getD] at hg; done) | (simp [-List.getD_eq_getElem?_getD] at hg; simp [hG, List.getD_cons_zero, List.getD_cons_succ, -List.getD_eq_getElem?_getD, pureOp, hA, hB]; first | omega | exact hg | (simp_all [-List.getD_eq_getElem?_getD]; done) | (simp_all [-List.getD_eq_getElem?_getD]; first | exact ⟨rfl, rfl⟩ | exact rfl))) (h := by intro K h; simp [hG, List.getD_cons_zero, List.getD_cons_succ, -List.getD_eq_getElem?_getD, pureOp, hA, hB]; exact h)
   refine za [7, 8, 9, 10, 11, 12] [] 4 [12, 11, 10, 9, 8, 7, 6, 5, 4, 3, 2, 1, 0] ?_ (h := by intro c K h; simp [hG, List.getD_cons_zero, List.getD_cons_succ, -List.getD_eq_getElem?_getD, pureOp, hA, hB]; first | exact z1 c h | exact ⟨.mk c, h⟩)
   refine awpA_only (fuel := 3) (i := 13) (by decide +kernel) ?_
   refine ze cal74 (begR_c c hl hv (w.drop (c.ws.getD x []).length) (by rw [List.length_drop]; omega)) ?_ (a := fun hg => by first | (simp [hG, List.getD_cons_zero, List.getD_cons_succ, -List.getD_eq_getElem?_getD, pureOp, hA, hB]; done) | (simp [-List.getD_eq_getElem?_getD] at hg; done) | (simp [-List.getD_eq_getElem?_getD] at hg; simp [hG, List.getD_cons_zero, List.getD_cons_succ, -List.getD_eq_getElem?_getD, pureOp, hA, hB]; first | omega | exact hg | (simp_all [-List.getD_eq_getElem?_getD]; done) | (simp_all [-List.getD_eq_getElem?_getD]; first | exact ⟨rfl, rfl⟩ | exact rfl))) (b := fun hg => by first | (simp [hG, List.getD_cons_zero, List.getD_cons_succ, -List.getD_eq_getElem?_getD, pureOp, hA, hB]; done) | (simp [-List.getD_eq_getElem?_getD] at hg; done) | (simp [-List.getD_eq_getElem?_getD] at hg; simp [hG, List.getD_cons_zero, List.getD_cons_succ, -List.getD_eq_getElem?_getD, pureOp, hA, hB]; first | omega | exact hg | (simp_all [-List.getD_eq_getElem?_getD]; done) | (simp_all [-List.getD_eq_getElem?_getD]; first | exact ⟨rfl, rfl⟩ | exact rfl))) (h := by intro K h; simp [hG, List.getD_cons_zero, List.getD_cons_succ, -List.getD_eq_getElem?_getD, pureOp, hA, hB]; exact h)
   refine za [14, 15, 16] [] 0 [16, 15, 14, 13, 12, 11, 10, 9, 8, 7, 6, 5, 4, 3, 2, 1, 0] ?_ (h := by intro c K h; simp [hG, List.getD_cons_zero, List.getD_cons_succ, -List.getD_eq_getElem?_getD, pureOp, hA, hB]; first | exact z1 c h | exact ⟨.mk c, h⟩)
   refine awpA_done (by decide +kernel) ?_
   refine zt ?_
   refine RetOK_of ?_
   simp [hG, List.getD_cons_zero, List.getD_cons_succ, -List.getD_eq_getElem?_getD, pureOp, hA, hB]
   exact (rdB0 hA hB).symm
 refine awpS_draw hR mixed [] ⟨[], [], []⟩ fun mu0 => ?_
 refine za [0, 1] [] 15 [1, 0] ?_ (h := by intro c K h; simp [hG, List.getD_cons_zero, List.getD_cons_succ, -List.getD_eq_getElem?_getD, pureOp, hA, hB]; first | exact z1 c h | exact ⟨.mk c, h⟩)
 refine awpA_only (fuel := 14) (i := 2) (by decide +kernel) ?_
 refine ze cal44 (pfxR_c (c.ws.getD x []) w) ?_ (a := fun hg => by simp [hG, List.getD_cons_zero, List.getD_cons_succ, -List.getD_eq_getElem?_getD, pureOp, hA, hB]) (b := fun hg => by simp [hG, List.getD_cons_zero, List.getD_cons_succ, -List.getD_eq_getElem?_getD, pureOp, hA, hB]) (h := by intro K h; simp [hG, List.getD_cons_zero, List.getD_cons_succ, -List.getD_eq_getElem?_getD, pureOp, hA, hB]; exact h)
 refine za [3, 4, 5] [] 11 [5, 4, 3, 2, 1, 0] ?_ (h := by intro c K h; simp [hG, List.getD_cons_zero, List.getD_cons_succ, -List.getD_eq_getElem?_getD, pureOp, hA, hB]; first | exact z1 c h | exact ⟨.mk c, h⟩)
 refine awpA_only (fuel := 10) (i := 6) (by decide +kernel) ?_
 refine ze cal44 (pfxR_c w (c.ws.getD x [])) ?_ (a := fun hg => by first | (simp [hG, List.getD_cons_zero, List.getD_cons_succ, -List.getD_eq_getElem?_getD, pureOp, hA, hB]; done) | (simp [-List.getD_eq_getElem?_getD] at hg; done) | (simp [-List.getD_eq_getElem?_getD] at hg; simp [hG, List.getD_cons_zero, List.getD_cons_succ, -List.getD_eq_getElem?_getD, pureOp, hA, hB]; first | omega | exact hg | (simp_all [-List.getD_eq_getElem?_getD]; done) | (simp_all [-List.getD_eq_getElem?_getD]; first | exact ⟨rfl, rfl⟩ | exact rfl))) (b := fun hg => by first | (simp [hG, List.getD_cons_zero, List.getD_cons_succ, -List.getD_eq_getElem?_getD, pureOp, hA, hB]; done) | (simp [-List.getD_eq_getElem?_getD] at hg; done) | (simp [-List.getD_eq_getElem?_getD] at hg; simp [hG, List.getD_cons_zero, List.getD_cons_succ, -List.getD_eq_getElem?_getD, pureOp, hA, hB]; first | omega | exact hg | (simp_all [-List.getD_eq_getElem?_getD]; done) | (simp_all [-List.getD_eq_getElem?_getD]; first | exact ⟨rfl, rfl⟩ | exact rfl))) (h := by intro K h; simp [hG, List.getD_cons_zero, List.getD_cons_succ, -List.getD_eq_getElem?_getD, pureOp, hA, hB]; exact h)
 refine za [7, 8, 9, 10, 11, 12] [] 4 [12, 11, 10, 9, 8, 7, 6, 5, 4, 3, 2, 1, 0] ?_ (h := by intro c K h; simp [hG, List.getD_cons_zero, List.getD_cons_succ, -List.getD_eq_getElem?_getD, pureOp, hA, hB]; first | exact z1 c h | exact ⟨.mk c, h⟩)
 refine awpA_only (fuel := 3) (i := 13) (by decide +kernel) ?_
 refine ze cal74 (begR_c c hl hv (w.drop (c.ws.getD x []).length) (by rw [List.length_drop]; omega)) ?_ (a := fun hg => by first | (simp [hG, List.getD_cons_zero, List.getD_cons_succ, -List.getD_eq_getElem?_getD, pureOp, hA, hB]; done) | (simp [-List.getD_eq_getElem?_getD] at hg; done) | (simp [-List.getD_eq_getElem?_getD] at hg; simp [hG, List.getD_cons_zero, List.getD_cons_succ, -List.getD_eq_getElem?_getD, pureOp, hA, hB]; first | omega | exact hg | (simp_all [-List.getD_eq_getElem?_getD]; done) | (simp_all [-List.getD_eq_getElem?_getD]; first | exact ⟨rfl, rfl⟩ | exact rfl))) (b := fun hg => by first | (simp [hG, List.getD_cons_zero, List.getD_cons_succ, -List.getD_eq_getElem?_getD, pureOp, hA, hB]; done) | (simp [-List.getD_eq_getElem?_getD] at hg; done) | (simp [-List.getD_eq_getElem?_getD] at hg; simp [hG, List.getD_cons_zero, List.getD_cons_succ, -List.getD_eq_getElem?_getD, pureOp, hA, hB]; first | omega | exact hg | (simp_all [-List.getD_eq_getElem?_getD]; done) | (simp_all [-List.getD_eq_getElem?_getD]; first | exact ⟨rfl, rfl⟩ | exact rfl))) (h := by intro K h; simp [hG, List.getD_cons_zero, List.getD_cons_succ, -List.getD_eq_getElem?_getD, pureOp, hA, hB]; exact h)
 refine za [14, 15, 16] [] 0 [16, 15, 14, 13, 12, 11, 10, 9, 8, 7, 6, 5, 4, 3, 2, 1, 0] ?_ (h := by intro c K h; simp [hG, List.getD_cons_zero, List.getD_cons_succ, -List.getD_eq_getElem?_getD, pureOp, hA, hB]; first | exact z1 c h | exact ⟨.mk c, h⟩)
 refine awpA_done (by decide +kernel) ?_
 refine zt ?_
 refine RetOK_of ?_
 simp [hG, List.getD_cons_zero, List.getD_cons_succ, -List.getD_eq_getElem?_getD, pureOp, hA, hB]
 exact rdN hA hB
set_option maxRecDepth 100000 in
theorem otherR_c (c : Cd) (hl : c.ws.length ≤ maxLen) (hv : CdOK c) (w : List UInt8) (hw : w.length ≤ 1000000) (x : Nat) : PC Try.prog 51 [.agg 2 (cdF c), .str w, .int .i64 (x : Nat)] (.int .i64 (othN c.ws w x)) := by
 have hML : maxLen = 9223372036854775807 := by decide
 have hWn := hv.n
 refine zp Try.func51 fun G hG hR => ?_
 refine zs (zrP ?_)
 refine zs (zs (zrP ?_))
 refine zb ?_
 refine awpS_loop (α := Nat) (fun y => ⟨[(1, .str w), (2, .int .i64 (x : Nat)), (3, .vptr 2 (cdF c) 0), (7, .int .i64 (y : Nat))], [], 0⟩) (fun y => y ≤ c.ws.length ∧ ∀ j, j < y → j ≠ x → stB c.ws j w = false) (fun y => c.ws.length - y) (0) (⟨Nat.zero_le _, fun j hj => absurd hj (Nat.not_lt_zero _)⟩) ?_ ?_
 · exact zwP (id) (fun k => k == 0) (fun _ => false)
 rintro y ⟨hy, hn⟩
 refine zs (zs (zrP ?_))
 refine zy (fun hb12 => ?_) fun hb12 => ?_
 · refine zk (zs (zb (zs (zL (zlP 7 ?_)))))
   refine zcP cal49 (startsR_c c hl hv w hw y hb12) ?_
   refine zlP 1 ?_
   refine zN (zy (fun hb23 => ?_) fun hb23 => ?_)
   · refine zs (zrP ?_)
     refine zt (zbt (ztt (zbt ?_)))
     refine RetOK_of ?_
     simp [hG, List.getD_cons_zero, List.getD_cons_succ, -List.getD_eq_getElem?_getD, pureOp]
     exact (othN_at hb12 (by omega) (by simpa using hb23.2) hn).symm
   refine zk (zn (zbn (zrP ?_)))
   refine zn ?_
   refine round_end (y + 1) (⟨by omega, step_all hn (fun hne => by simpa [show ¬ (y : Int) = (x : Int) by omega] using hb23)⟩) (by omega) ?_
   exact ziP
 obtain rfl : y = c.ws.length := (by omega)
 refine zx (ztx (zbx (zs (zrP ?_))))
 refine zt ?_
 refine RetOK_of ?_
 simp [hG, List.getD_cons_zero, List.getD_cons_succ, -List.getD_eq_getElem?_getD, pureOp]
 exact (othN_no hn).symm
set_option maxRecDepth 100000 in
theorem openR_c (c : Cd) (hl : c.ws.length ≤ maxLen) (hv : CdOK c) (w : List UInt8) (hw : w.length ≤ 1000000) (x : Nat) (hx : x < c.ws.length) : PC Try.prog 76 [.agg 2 (cdF c), .str w, .int .i64 (x : Nat)] (.bool (opB c.ws x w)) := by
 have hML : maxLen = 9223372036854775807 := by decide
 have hWn := hv.n
 refine zp Try.func76 fun G hG hR => ?_
 refine zs (zrP ?_)
 refine zs (zL (zlP 6 ?_))
 refine zcP cal44 (pfxR_c w (c.ws.getD x [])) ?_
 refine zlP 4 ?_
 refine zcP cal49 (startsR_c c hl hv w hw x hx) ?_
 refine zlP 5 ?_
 refine zcP cal51 (otherR_c c hl hv w hw x) ?_
 refine zlP 3 ?_
 refine zN (zt ?_)
 refine RetOK_of ?_
 simp [hG, List.getD_cons_zero, List.getD_cons_succ, -List.getD_eq_getElem?_getD, pureOp]
 exact opB_eq.symm
set_option maxRecDepth 100000 in
theorem prefixesR_c (c : Cd) (hl : c.ws.length ≤ maxLen) (w : List UInt8) : PC Try.prog 20 [.agg 2 (cdF c), .str w] (.tup 2 (fun j => [ints (pfL c w), .int .i64 (ckN c w)].getD j .any)) := by
 have hML : maxLen = 9223372036854775807 := by decide
 refine zp Try.func20 fun G hG hR => ?_
 refine zs (zr ?_ (h := by intro c K h; simp [hG, List.getD_cons_zero, List.getD_cons_succ, -List.getD_eq_getElem?_getD, pureOp, preA_zero]; first | exact z1 c h | exact ⟨.mk c, h⟩))
 refine zs (zs (zL (zl 1 ?_ (h := by intro c K h; simp [hG, List.getD_cons_zero, List.getD_cons_succ, -List.getD_eq_getElem?_getD, pureOp, preA_zero]; first | exact z1 c h | exact ⟨.mk c, h⟩))))
 refine zc cal41 (checkR33_c c hl) ?_ (a := fun hg => by simp [hG, List.getD_cons_zero, List.getD_cons_succ, -List.getD_eq_getElem?_getD, pureOp, preA_zero]) (b := fun hg => by simp [hG, List.getD_cons_zero, List.getD_cons_succ, -List.getD_eq_getElem?_getD, pureOp, preA_zero]) (h := by intro K h; simp [hG, List.getD_cons_zero, List.getD_cons_succ, -List.getD_eq_getElem?_getD, pureOp, preA_zero]; exact h)
 refine zl 1 ?_ (h := by intro c K h; simp [hG, List.getD_cons_zero, List.getD_cons_succ, -List.getD_eq_getElem?_getD, pureOp, preA_zero]; first | exact z1 c h | exact ⟨.mk c, h⟩)
 refine zN (zy (fun hb11 => ?_) fun hb11 => ?_)
 · refine zs (zr ?_ (h := by intro c K h; simp [hG, List.getD_cons_zero, List.getD_cons_succ, -List.getD_eq_getElem?_getD, pureOp, preA_zero]; first | exact z1 c h | exact ⟨.mk c, h⟩))
   refine zt ?_
   refine RetOK_of ?_
   simp [hG, List.getD_cons_zero, List.getD_cons_succ, -List.getD_eq_getElem?_getD, pureOp, preA_zero]
   unfold pfL ckN; rw [if_pos hb11, if_neg (by decide)]; exact ⟨rfl, rfl⟩
 have hc0 : cdN c = 0 := (by simpa using hb11)
 have hv := cd_ok hc0
 have hWn := hv.n
 refine zk (zs (zs (zL (zl 3 ?_ (h := by intro c K h; simp [hG, List.getD_cons_zero, List.getD_cons_succ, -List.getD_eq_getElem?_getD, pureOp, preA_zero]; first | exact z1 c h | exact ⟨.mk c, h⟩)))))
 refine zc cal31 (wcheckR_c c.q w) ?_ (a := fun hg => by simp [hG, List.getD_cons_zero, List.getD_cons_succ, -List.getD_eq_getElem?_getD, pureOp, preA_zero]) (b := fun hg => by simp [hG, List.getD_cons_zero, List.getD_cons_succ, -List.getD_eq_getElem?_getD, pureOp, preA_zero]) (h := by intro K h; simp [hG, List.getD_cons_zero, List.getD_cons_succ, -List.getD_eq_getElem?_getD, pureOp, preA_zero]; exact h)
 refine zl 1 ?_ (h := by intro c K h; simp [hG, List.getD_cons_zero, List.getD_cons_succ, -List.getD_eq_getElem?_getD, pureOp, preA_zero]; first | exact z1 c h | exact ⟨.mk c, h⟩)
 refine zN (zs (zr ?_ (h := by intro c K h; simp [hG, List.getD_cons_zero, List.getD_cons_succ, -List.getD_eq_getElem?_getD, pureOp, preA_zero]; first | exact z1 c h | exact ⟨.mk c, h⟩)))
 refine zy (fun hb17 => ?_) fun hb17 => ?_
 · refine zs (zr ?_ (h := by intro c K h; simp [hG, List.getD_cons_zero, List.getD_cons_succ, -List.getD_eq_getElem?_getD, pureOp, preA_zero]; first | exact z1 c h | exact ⟨.mk c, h⟩))
   refine zt ?_
   refine RetOK_of ?_
   simp [hG, List.getD_cons_zero, List.getD_cons_succ, -List.getD_eq_getElem?_getD, pureOp, preA_zero]
   have hck : ckN c w = wordCheck c.q w := if_neg (fun k => k hc0); unfold pfL; rw [hck, if_neg hb17]; exact ⟨rfl, rfl⟩
 have hck : ckN c w = 0 := ck_ok hc0 (by simpa using hb17)
 have hw : w.length ≤ 1000000 := ck_len hck
 refine zk (zs (zr ?_ (h := by intro c K h; simp [hG, List.getD_cons_zero, List.getD_cons_succ, -List.getD_eq_getElem?_getD, pureOp, preA_zero]; first | exact z1 c h | exact ⟨.mk c, h⟩)))
 refine zs (zs (zr ?_ (h := by intro c K h; simp [hG, List.getD_cons_zero, List.getD_cons_succ, -List.getD_eq_getElem?_getD, pureOp, preA_zero]; first | exact z1 c h | exact ⟨.mk c, h⟩)))
 refine zb ?_
 refine awpS_loop (α := Nat) (fun i => ⟨[(1, .str w), (2, .vptr 2 (cdF c) 0), (7, .sl (0, 0) 0 (preA c.ws w i).length), (8, .int .i64 (i : Nat))], [(0, .one (.arr (preA c.ws w i).length 1 (fun p _ => .int .i64 ((preA c.ws w i).getD p 0))))], 1⟩) (fun i => i ≤ c.ws.length) (fun i => c.ws.length - i) (0) (Nat.zero_le _) ?_ ?_
 · exact zw (fun k => if k = 0 then 1 else k) (fun k => k == 0) (fun _ => false) (e := by simp [hG, List.getD_cons_zero, List.getD_cons_succ, -List.getD_eq_getElem?_getD, pureOp, preA_zero]) (h := by simp [hG, List.getD_cons_zero, List.getD_cons_succ, -List.getD_eq_getElem?_getD, pureOp, preA_zero])
 rintro i hi
 refine zs (zs (zr ?_ (h := by intro c K h; simp [hG, List.getD_cons_zero, List.getD_cons_succ, -List.getD_eq_getElem?_getD, pureOp, preA_zero]; first | exact z1 c h | exact ⟨.mk c, h⟩)))
 refine zy (fun hb24 => ?_) fun hb24 => ?_
 · have hpl := preA_len (W := c.ws) (v := w) (n := i)
   refine zk (zs (zb (zs (zL (zl 3 ?_ (h := by intro c K h; simp [hG, List.getD_cons_zero, List.getD_cons_succ, -List.getD_eq_getElem?_getD, pureOp, preA_zero]; first | exact z1 c h | exact ⟨.mk c, h⟩))))))
   refine zc cal49 (startsR_c c hl hv w hw i hb24) ?_ (a := fun hg => by simp [hG, List.getD_cons_zero, List.getD_cons_succ, -List.getD_eq_getElem?_getD, pureOp, preA_zero]) (b := fun hg => by simp [hG, List.getD_cons_zero, List.getD_cons_succ, -List.getD_eq_getElem?_getD, pureOp, preA_zero]) (h := by intro K h; simp [hG, List.getD_cons_zero, List.getD_cons_succ, -List.getD_eq_getElem?_getD, pureOp, preA_zero]; exact h)
   refine zN (zy (fun hb30 => ?_) fun hb30 => ?_)
   · have hps := pre_yes hb30
     refine zr ?_ (h := by intro c K h; simp [hG, List.getD_cons_zero, List.getD_cons_succ, -List.getD_eq_getElem?_getD, pureOp, preA_zero]; first | exact z1 c h | exact ⟨.mk c, h⟩)
     refine zn (zbn (zr ?_ (h := by intro c K h; simp [hG, List.getD_cons_zero, List.getD_cons_succ, -List.getD_eq_getElem?_getD, pureOp, preA_zero]; first | exact z1 c h | exact ⟨.mk c, h⟩)))
     refine zn ?_
     refine round_end (i + 1) (by omega) (by omega) ?_
     exact zw (fun k => if k = 0 then 2 else k) (fun _ => false) (fun _ => false) (e := by rw [hps]; simp [hG, List.getD_cons_zero, List.getD_cons_succ, -List.getD_eq_getElem?_getD]) (h := by rw [hps]; simp [hG, List.getD_cons_zero, List.getD_cons_succ, -List.getD_eq_getElem?_getD]; exact fun i hi => app_oneI rfl hi)
   have hps := pre_not hb30
   refine zk (zn (zbn (zr ?_ (h := by intro c K h; simp [hG, List.getD_cons_zero, List.getD_cons_succ, -List.getD_eq_getElem?_getD, pureOp, preA_zero]; first | exact z1 c h | exact ⟨.mk c, h⟩))))
   refine zn ?_
   refine round_end (i + 1) (by omega) (by omega) ?_
   exact zi (e := by rw [hps]; simp [hG, List.getD_cons_zero, List.getD_cons_succ, -List.getD_eq_getElem?_getD]) (h := by rw [hps]; simp [hG, List.getD_cons_zero, List.getD_cons_succ, -List.getD_eq_getElem?_getD])
 obtain rfl : i = c.ws.length := (by omega)
 refine zx (ztx (zbx (zs (zr ?_ (h := by intro c K h; simp [hG, List.getD_cons_zero, List.getD_cons_succ, -List.getD_eq_getElem?_getD, pureOp, preA_zero]; first | exact z1 c h | exact ⟨.mk c, h⟩)))))
 refine zt ?_
 refine RetOK_of ?_
 simp [hG, List.getD_cons_zero, List.getD_cons_succ, -List.getD_eq_getElem?_getD, pureOp, preA_zero]
 unfold pfL; rw [if_pos hck, hck]; exact ⟨⟨rfl, Nat.le_refl _, fun _ _ => rfl⟩, rfl⟩
theorem cerB_ref {W : List Wd} {d : Nat} {w : Wd} {i : Nat} (h1 : (W.getD i []).length + d ≤ w.length) : cerB W d w i = ((decide (W.getD i [] <+: w.take ((W.getD i []).length + d)) && stB W i (w.take ((W.getD i []).length + d))) && decide (othN W (w.take ((W.getD i []).length + d)) i < 0)) := by
  unfold cerB
  rw [decide_eq_true h1, othN_neg, Bool.true_and]
  congr 2
  refine decide_eq_decide.2 ?_
  rw [List.prefix_take_iff]
  exact ⟨fun h => ⟨h, by omega⟩, fun h => h.1⟩
set_option maxRecDepth 100000 in
theorem readR_c (c : Cd) (hl : c.ws.length ≤ maxLen) (d : Int) (w : List UInt8) : PC Try.prog 22 [.agg 2 (cdF c), .int .i64 d, .str w] (.tup 3 (fun j => [ints (reL c d w), .int .i64 (reM c d w), .int .i64 (reN c d w)].getD j .any)) := by
 have hML : maxLen = 9223372036854775807 := by decide
 refine zp Try.func22 fun G hG hR => ?_
 refine zs (zr ?_ (h := by intro c K h; simp [hG, List.getD_cons_zero, List.getD_cons_succ, -List.getD_eq_getElem?_getD, pureOp, rdS_zero, Bool.toNat_false, Bool.toNat_true, Nat.add_zero]; first | exact z1 c h | exact ⟨.mk c, h⟩))
 refine zs (zs (zL (zl 1 ?_ (h := by intro c K h; simp [hG, List.getD_cons_zero, List.getD_cons_succ, -List.getD_eq_getElem?_getD, pureOp, rdS_zero, Bool.toNat_false, Bool.toNat_true, Nat.add_zero]; first | exact z1 c h | exact ⟨.mk c, h⟩))))
 refine zc cal41 (checkR33_c c hl) ?_ (a := fun hg => by simp [hG, List.getD_cons_zero, List.getD_cons_succ, -List.getD_eq_getElem?_getD, pureOp, rdS_zero, Bool.toNat_false, Bool.toNat_true, Nat.add_zero]) (b := fun hg => by simp [hG, List.getD_cons_zero, List.getD_cons_succ, -List.getD_eq_getElem?_getD, pureOp, rdS_zero, Bool.toNat_false, Bool.toNat_true, Nat.add_zero]) (h := by intro K h; simp [hG, List.getD_cons_zero, List.getD_cons_succ, -List.getD_eq_getElem?_getD, pureOp, rdS_zero, Bool.toNat_false, Bool.toNat_true, Nat.add_zero]; exact h)
 refine zl 1 ?_ (h := by intro c K h; simp [hG, List.getD_cons_zero, List.getD_cons_succ, -List.getD_eq_getElem?_getD, pureOp, rdS_zero, Bool.toNat_false, Bool.toNat_true, Nat.add_zero]; first | exact z1 c h | exact ⟨.mk c, h⟩)
 refine zN (zy (fun hb18 => ?_) fun hb18 => ?_)
 · refine zs (zr ?_ (h := by intro c K h; simp [hG, List.getD_cons_zero, List.getD_cons_succ, -List.getD_eq_getElem?_getD, pureOp, rdS_zero, Bool.toNat_false, Bool.toNat_true, Nat.add_zero]; first | exact z1 c h | exact ⟨.mk c, h⟩))
   refine zt ?_
   refine RetOK_of ?_
   simp [hG, List.getD_cons_zero, List.getD_cons_succ, -List.getD_eq_getElem?_getD, pureOp, rdS_zero, Bool.toNat_false, Bool.toNat_true, Nat.add_zero]
   have hck : ckN c w = 1 := if_pos hb18; obtain ⟨h1, h2, h3⟩ := re_1 (d := d) (show ckN c w ≠ 0 by rw [hck]; decide); rw [h1, h2, h3, hck]; exact ⟨rfl, rfl, rfl⟩
 have hc0 : cdN c = 0 := (by simpa using hb18)
 have hv := cd_ok hc0
 have hWn := hv.n
 refine zk (zs (zs (zL (zl 3 ?_ (h := by intro c K h; simp [hG, List.getD_cons_zero, List.getD_cons_succ, -List.getD_eq_getElem?_getD, pureOp, rdS_zero, Bool.toNat_false, Bool.toNat_true, Nat.add_zero]; first | exact z1 c h | exact ⟨.mk c, h⟩)))))
 refine zc cal31 (wcheckR_c c.q w) ?_ (a := fun hg => by simp [hG, List.getD_cons_zero, List.getD_cons_succ, -List.getD_eq_getElem?_getD, pureOp, rdS_zero, Bool.toNat_false, Bool.toNat_true, Nat.add_zero]) (b := fun hg => by simp [hG, List.getD_cons_zero, List.getD_cons_succ, -List.getD_eq_getElem?_getD, pureOp, rdS_zero, Bool.toNat_false, Bool.toNat_true, Nat.add_zero]) (h := by intro K h; simp [hG, List.getD_cons_zero, List.getD_cons_succ, -List.getD_eq_getElem?_getD, pureOp, rdS_zero, Bool.toNat_false, Bool.toNat_true, Nat.add_zero]; exact h)
 refine zl 1 ?_ (h := by intro c K h; simp [hG, List.getD_cons_zero, List.getD_cons_succ, -List.getD_eq_getElem?_getD, pureOp, rdS_zero, Bool.toNat_false, Bool.toNat_true, Nat.add_zero]; first | exact z1 c h | exact ⟨.mk c, h⟩)
 refine zN (zs (zr ?_ (h := by intro c K h; simp [hG, List.getD_cons_zero, List.getD_cons_succ, -List.getD_eq_getElem?_getD, pureOp, rdS_zero, Bool.toNat_false, Bool.toNat_true, Nat.add_zero]; first | exact z1 c h | exact ⟨.mk c, h⟩)))
 refine zy (fun hb24 => ?_) fun hb24 => ?_
 · refine zs (zr ?_ (h := by intro c K h; simp [hG, List.getD_cons_zero, List.getD_cons_succ, -List.getD_eq_getElem?_getD, pureOp, rdS_zero, Bool.toNat_false, Bool.toNat_true, Nat.add_zero]; first | exact z1 c h | exact ⟨.mk c, h⟩))
   refine zt ?_
   refine RetOK_of ?_
   simp [hG, List.getD_cons_zero, List.getD_cons_succ, -List.getD_eq_getElem?_getD, pureOp, rdS_zero, Bool.toNat_false, Bool.toNat_true, Nat.add_zero]
   have hck : ckN c w = wordCheck c.q w := if_neg (fun k => k hc0); obtain ⟨h1, h2, h3⟩ := re_1 (d := d) (show ckN c w ≠ 0 by rw [hck]; exact hb24); rw [h1, h2, h3, hck]; exact ⟨rfl, rfl, rfl⟩
 have hck : ckN c w = 0 := ck_ok hc0 (by simpa using hb24)
 have hw : w.length ≤ 1000000 := ck_len hck
 refine zk (zs (zs (zr ?_ (h := by intro c K h; simp [hG, List.getD_cons_zero, List.getD_cons_succ, -List.getD_eq_getElem?_getD, pureOp, rdS_zero, Bool.toNat_false, Bool.toNat_true, Nat.add_zero]; first | exact z1 c h | exact ⟨.mk c, h⟩))))
 refine zy (fun hb31 => ?_) fun hb31 => ?_
 · refine zs (zr ?_ (h := by intro c K h; simp [hG, List.getD_cons_zero, List.getD_cons_succ, -List.getD_eq_getElem?_getD, pureOp, rdS_zero, Bool.toNat_false, Bool.toNat_true, Nat.add_zero]; first | exact z1 c h | exact ⟨.mk c, h⟩))
   refine zt ?_
   refine RetOK_of ?_
   simp [hG, List.getD_cons_zero, List.getD_cons_succ, -List.getD_eq_getElem?_getD, pureOp, rdS_zero, Bool.toNat_false, Bool.toNat_true, Nat.add_zero]
   obtain ⟨h1, h2, h3⟩ := re_2 (d := d) hck (by omega); rw [h1, h2, h3]; exact ⟨rfl, rfl, rfl⟩
 obtain ⟨e, rfl⟩ : ∃ e : Nat, d = (e : Int) := ⟨d.toNat, by omega⟩
 refine zk (zs (zr ?_ (h := by intro c K h; simp [hG, List.getD_cons_zero, List.getD_cons_succ, -List.getD_eq_getElem?_getD, pureOp, rdS_zero, Bool.toNat_false, Bool.toNat_true, Nat.add_zero]; first | exact z1 c h | exact ⟨.mk c, h⟩)))
 refine zs (zr ?_ (h := by intro c K h; simp [hG, List.getD_cons_zero, List.getD_cons_succ, -List.getD_eq_getElem?_getD, pureOp, rdS_zero, Bool.toNat_false, Bool.toNat_true, Nat.add_zero]; first | exact z1 c h | exact ⟨.mk c, h⟩))
 refine zb ?_
 refine awpS_loop (α := Nat) (fun k => ⟨[(1, .int .i64 (e : Nat)), (2, .str w), (3, .vptr 2 (cdF c) 0), (10, .sl (0, 0) 0 (rdS c.ws e w k).1.length), (11, .int .i64 ((rdS c.ws e w k).2 : Nat))], [(0, .one (.arr (rdS c.ws e w k).1.length 1 (fun p _ => .int .i64 ((rdS c.ws e w k).1.getD p 0))))], 1⟩) (fun k => ∀ j, j < k → cerF c.ws e (w.drop (rdS c.ws e w j).2) ≠ none) (fun k => w.length + 1 - k) (0) (fun j hj => absurd hj (Nat.not_lt_zero _)) ?_ ?_
 · exact zw (fun k => if k = 0 then 1 else k) (fun k => k == 0) (fun _ => false) (e := by simp [hG, List.getD_cons_zero, List.getD_cons_succ, -List.getD_eq_getElem?_getD, pureOp, rdS_zero, Bool.toNat_false, Bool.toNat_true, Nat.add_zero]) (h := by simp [hG, List.getD_cons_zero, List.getD_cons_succ, -List.getD_eq_getElem?_getD, pureOp, rdS_zero, Bool.toNat_false, Bool.toNat_true, Nat.add_zero])
 rintro k hn
 have hcnt := rdS_count hv.ne k hn
 have hbx := rdS_box (W := c.ws) (d := e) (w := w) k
 refine zb (zs (zr ?_ (h := by intro c K h; simp [hG, List.getD_cons_zero, List.getD_cons_succ, -List.getD_eq_getElem?_getD, pureOp, rdS_zero, Bool.toNat_false, Bool.toNat_true, Nat.add_zero]; first | exact z1 c h | exact ⟨.mk c, h⟩)))
 refine zs (zs (zr ?_ (h := by intro c K h; simp [hG, List.getD_cons_zero, List.getD_cons_succ, -List.getD_eq_getElem?_getD, pureOp, rdS_zero, Bool.toNat_false, Bool.toNat_true, Nat.add_zero]; first | exact z1 c h | exact ⟨.mk c, h⟩)))
 refine zb ?_
 refine awpS_loop (α := Nat × Bool) (fun x => ⟨[(1, .int .i64 (e : Nat)), (2, .str w), (3, .vptr 2 (cdF c) 0), (10, .sl (0, 0) 0 (rdS c.ws e w (k + x.2.toNat)).1.length), (11, .int .i64 ((rdS c.ws e w (k + x.2.toNat)).2 : Nat)), (12, .bool x.2), (13, .int .i64 (x.1 : Nat))], [(0, .one (.arr (rdS c.ws e w (k + x.2.toNat)).1.length 1 (fun p _ => .int .i64 ((rdS c.ws e w (k + x.2.toNat)).1.getD p 0))))], 1⟩) (fun x => x.1 ≤ c.ws.length ∧ (x.2 = false → ∀ j, j < x.1 → cerB c.ws e (w.drop (rdS c.ws e w k).2) j = false) ∧ (x.2 = true → cerF c.ws e (w.drop (rdS c.ws e w k).2) ≠ none)) (fun x => c.ws.length - x.1) ((0, false)) (⟨Nat.zero_le _, fun _ j hj => absurd hj (Nat.not_lt_zero _), fun h => (by cases h)⟩) ?_ ?_
 · exact zi (e := by simp [hG, List.getD_cons_zero, List.getD_cons_succ, -List.getD_eq_getElem?_getD, pureOp, rdS_zero, Bool.toNat_false, Bool.toNat_true, Nat.add_zero]) (h := by simp [hG, List.getD_cons_zero, List.getD_cons_succ, -List.getD_eq_getElem?_getD, pureOp, rdS_zero, Bool.toNat_false, Bool.toNat_true, Nat.add_zero])
 rintro ⟨j, f⟩ ⟨hj, hf, ht⟩
 refine zs (zs (zr ?_ (h := by intro c K h; simp [hG, List.getD_cons_zero, List.getD_cons_succ, -List.getD_eq_getElem?_getD, pureOp, rdS_zero, Bool.toNat_false, Bool.toNat_true, Nat.add_zero]; first | exact z1 c h | exact ⟨.mk c, h⟩)))
 refine zy (fun hb41 => ?_) fun hb41 => ?_
 · obtain ⟨hjl, rfl⟩ := hb41
   have hxl := hv.len _ (W_mem hjl)
   have hlen := rdS_len (W := c.ws) (d := e) (w := w) k
   have hdl : (w.drop (rdS c.ws e w k).2).length = w.length - (rdS c.ws e w k).2 := List.length_drop
   refine zk (zs (zb (zs (zr ?_ (h := by intro c K h; simp [hG, List.getD_cons_zero, List.getD_cons_succ, -List.getD_eq_getElem?_getD, pureOp, rdS_zero, Bool.toNat_false, Bool.toNat_true, Nat.add_zero]; first | exact z1 c h | exact ⟨.mk c, h⟩)))))
   refine zs (zs (zr ?_ (h := by intro c K h; simp [hG, List.getD_cons_zero, List.getD_cons_succ, -List.getD_eq_getElem?_getD, pureOp, rdS_zero, Bool.toNat_false, Bool.toNat_true, Nat.add_zero]; first | exact z1 c h | exact ⟨.mk c, h⟩)))
   refine zy (fun hb57 => ?_) fun hb57 => ?_
   · have hcb : cerB c.ws e (w.drop (rdS c.ws e w k).2) j = false := cerB_short (fun hh => by have := hh.1; omega)
     refine zx (zbx (zr ?_ (h := by intro c K h; simp [hG, List.getD_cons_zero, List.getD_cons_succ, -List.getD_eq_getElem?_getD, pureOp, rdS_zero, Bool.toNat_false, Bool.toNat_true, Nat.add_zero]; first | exact z1 c h | exact ⟨.mk c, h⟩)))
     refine zn ?_
     refine round_end ((j + 1, false)) (⟨by omega, fun _ => step_all (hf rfl) hcb, fun h => (by cases h)⟩) (by omega) ?_
     exact zi (e := by simp [hG, List.getD_cons_zero, List.getD_cons_succ, -List.getD_eq_getElem?_getD, pureOp, rdS_zero, Bool.toNat_false, Bool.toNat_true, Nat.add_zero]) (h := by simp [hG, List.getD_cons_zero, List.getD_cons_succ, -List.getD_eq_getElem?_getD, pureOp, rdS_zero, Bool.toNat_false, Bool.toNat_true, Nat.add_zero])
   have hut : ((w.drop (rdS c.ws e w k).2).take ((c.ws.getD j []).length + e)) = ((w.take (((rdS c.ws e w k).2 : Int) + (((c.ws.getD j []).length : Int) + (e : Int))).toNat).drop (rdS c.ws e w k).2) := (by rw [List.take_drop]; congr 2)
   have hcb := cerB_ref (W := c.ws) (d := e) (w := (w.drop (rdS c.ws e w k).2)) (i := j) (by omega)
   rw [hut] at hcb
   refine zk (zs (zr ?_ (h := by intro c K h; simp [hG, List.getD_cons_zero, List.getD_cons_succ, -List.getD_eq_getElem?_getD, pureOp, rdS_zero, Bool.toNat_false, Bool.toNat_true, Nat.add_zero]; first | exact z1 c h | exact ⟨.mk c, h⟩)))
   refine zs (zL (zl 6 ?_ (h := by intro c K h; simp [hG, List.getD_cons_zero, List.getD_cons_succ, -List.getD_eq_getElem?_getD, pureOp, rdS_zero, Bool.toNat_false, Bool.toNat_true, Nat.add_zero]; first | exact z1 c h | exact ⟨.mk c, h⟩)))
   refine zc cal44 (pfxR_c ((w.take (((rdS c.ws e w k).2 : Int) + (((c.ws.getD j []).length : Int) + (e : Int))).toNat).drop (rdS c.ws e w k).2) (c.ws.getD j [])) ?_ (a := fun hg => by simp [hG, List.getD_cons_zero, List.getD_cons_succ, -List.getD_eq_getElem?_getD, pureOp, rdS_zero, Bool.toNat_false, Bool.toNat_true, Nat.add_zero]) (b := fun hg => by simp [hG, List.getD_cons_zero, List.getD_cons_succ, -List.getD_eq_getElem?_getD, pureOp, rdS_zero, Bool.toNat_false, Bool.toNat_true, Nat.add_zero]) (h := by intro K h; simp [hG, List.getD_cons_zero, List.getD_cons_succ, -List.getD_eq_getElem?_getD, pureOp, rdS_zero, Bool.toNat_false, Bool.toNat_true, Nat.add_zero]; exact h)
   refine zl 4 ?_ (h := by intro c K h; simp [hG, List.getD_cons_zero, List.getD_cons_succ, -List.getD_eq_getElem?_getD, pureOp, rdS_zero, Bool.toNat_false, Bool.toNat_true, Nat.add_zero]; first | exact z1 c h | exact ⟨.mk c, h⟩)
   refine zc cal49 (startsR_c c hl hv ((w.take (((rdS c.ws e w k).2 : Int) + (((c.ws.getD j []).length : Int) + (e : Int))).toNat).drop (rdS c.ws e w k).2) (by rw [List.length_drop, List.length_take]; omega) j hjl) ?_ (a := fun hg => by first | (simp [hG, List.getD_cons_zero, List.getD_cons_succ, -List.getD_eq_getElem?_getD, pureOp, rdS_zero, Bool.toNat_false, Bool.toNat_true, Nat.add_zero]; done) | (simp [-List.getD_eq_getElem?_getD] at hg; done) | (simp [-List.getD_eq_getElem?_getD] at hg; simp [hG, List.getD_cons_zero, List.getD_cons_succ, -List.getD_eq_getElem?_getD, pureOp, rdS_zero, Bool.toNat_false, Bool.toNat_true, Nat.add_zero]; first | omega | exact hg | (simp_all [-List.getD_eq_getElem?_getD]; done) | (simp_all [-List.getD_eq_getElem?_getD]; first | exact ⟨rfl, rfl⟩ | exact rfl))) (b := fun hg => by first | (simp [hG, List.getD_cons_zero, List.getD_cons_succ, -List.getD_eq_getElem?_getD, pureOp, rdS_zero, Bool.toNat_false, Bool.toNat_true, Nat.add_zero]; done) | (simp [-List.getD_eq_getElem?_getD] at hg; done) | (simp [-List.getD_eq_getElem?_getD] at hg; simp [hG, List.getD_cons_zero, List.getD_cons_succ, -List.getD_eq_getElem?_getD, pureOp, rdS_zero, Bool.toNat_false, Bool.toNat_true, Nat.add_zero]; first | omega | exact hg | (simp_all [-List.getD_eq_getElem?_getD]; done) | (simp_all [-List.getD_eq_getElem?_getD]; first | exact ⟨rfl, rfl⟩ | exact rfl))) (h := by intro K h; simp [hG, List.getD_cons_zero, List.getD_cons_succ, -List.getD_eq_getElem?_getD, pureOp, rdS_zero, Bool.toNat_false, Bool.toNat_true, Nat.add_zero]; exact h)
   refine zl 5 ?_ (h := by intro c K h; simp [hG, List.getD_cons_zero, List.getD_cons_succ, -List.getD_eq_getElem?_getD, pureOp, rdS_zero, Bool.toNat_false, Bool.toNat_true, Nat.add_zero]; first | exact z1 c h | exact ⟨.mk c, h⟩)
   refine zc cal51 (otherR_c c hl hv ((w.take (((rdS c.ws e w k).2 : Int) + (((c.ws.getD j []).length : Int) + (e : Int))).toNat).drop (rdS c.ws e w k).2) (by rw [List.length_drop, List.length_take]; omega) j) ?_ (a := fun hg => by first | (simp [hG, List.getD_cons_zero, List.getD_cons_succ, -List.getD_eq_getElem?_getD, pureOp, rdS_zero, Bool.toNat_false, Bool.toNat_true, Nat.add_zero]; done) | (simp [-List.getD_eq_getElem?_getD] at hg; done) | (simp [-List.getD_eq_getElem?_getD] at hg; simp [hG, List.getD_cons_zero, List.getD_cons_succ, -List.getD_eq_getElem?_getD, pureOp, rdS_zero, Bool.toNat_false, Bool.toNat_true, Nat.add_zero]; first | omega | exact hg | (simp_all [-List.getD_eq_getElem?_getD]; done) | (simp_all [-List.getD_eq_getElem?_getD]; first | exact ⟨rfl, rfl⟩ | exact rfl))) (b := fun hg => by first | (simp [hG, List.getD_cons_zero, List.getD_cons_succ, -List.getD_eq_getElem?_getD, pureOp, rdS_zero, Bool.toNat_false, Bool.toNat_true, Nat.add_zero]; done) | (simp [-List.getD_eq_getElem?_getD] at hg; done) | (simp [-List.getD_eq_getElem?_getD] at hg; simp [hG, List.getD_cons_zero, List.getD_cons_succ, -List.getD_eq_getElem?_getD, pureOp, rdS_zero, Bool.toNat_false, Bool.toNat_true, Nat.add_zero]; first | omega | exact hg | (simp_all [-List.getD_eq_getElem?_getD]; done) | (simp_all [-List.getD_eq_getElem?_getD]; first | exact ⟨rfl, rfl⟩ | exact rfl))) (h := by intro K h; simp [hG, List.getD_cons_zero, List.getD_cons_succ, -List.getD_eq_getElem?_getD, pureOp, rdS_zero, Bool.toNat_false, Bool.toNat_true, Nat.add_zero]; exact h)
   refine zl 2 ?_ (h := by intro c K h; simp [hG, List.getD_cons_zero, List.getD_cons_succ, -List.getD_eq_getElem?_getD, pureOp, rdS_zero, Bool.toNat_false, Bool.toNat_true, Nat.add_zero]; first | exact z1 c h | exact ⟨.mk c, h⟩)
   refine zN (zy (fun hb83 => ?_) fun hb83 => ?_)
   · have hcf := cer_at hjl (hcb.trans (by simpa using hb83)) (hf rfl)
     have hrs := rdS_some hcf
     refine zs (zr ?_ (h := by intro c K h; simp [hG, List.getD_cons_zero, List.getD_cons_succ, -List.getD_eq_getElem?_getD, pureOp, rdS_zero, Bool.toNat_false, Bool.toNat_true, Nat.add_zero]; first | exact z1 c h | exact ⟨.mk c, h⟩))
     refine zs (zr ?_ (h := by intro c K h; simp [hG, List.getD_cons_zero, List.getD_cons_succ, -List.getD_eq_getElem?_getD, pureOp, rdS_zero, Bool.toNat_false, Bool.toNat_true, Nat.add_zero]; first | exact z1 c h | exact ⟨.mk c, h⟩))
     refine zr ?_ (h := by intro c K h; simp [hG, List.getD_cons_zero, List.getD_cons_succ, -List.getD_eq_getElem?_getD, pureOp, rdS_zero, Bool.toNat_false, Bool.toNat_true, Nat.add_zero]; first | exact z1 c h | exact ⟨.mk c, h⟩)
     refine zn (zbn (zr ?_ (h := by intro c K h; simp [hG, List.getD_cons_zero, List.getD_cons_succ, -List.getD_eq_getElem?_getD, pureOp, rdS_zero, Bool.toNat_false, Bool.toNat_true, Nat.add_zero]; first | exact z1 c h | exact ⟨.mk c, h⟩)))
     refine zn ?_
     refine round_end ((j + 1, true)) (⟨by omega, fun h => (by cases h), fun _ => by rw [hcf]; simp⟩) (by omega) ?_
     exact zw (fun k => if k = 0 then 2 else k) (fun _ => false) (fun _ => false) (e := by simp [hG, rdS_zero, Bool.toNat_false, Bool.toNat_true, Nat.add_zero, List.getD_cons_zero, List.getD_cons_succ, -List.getD_eq_getElem?_getD]; rw [hrs]; simp) (h := by simp [hG, rdS_zero, Bool.toNat_false, Bool.toNat_true, Nat.add_zero, List.getD_cons_zero, List.getD_cons_succ, -List.getD_eq_getElem?_getD]; rw [hrs]; simp [-List.getD_eq_getElem?_getD]; exact fun i hi => app_oneI rfl hi)
   have hcb0 : cerB c.ws e (w.drop (rdS c.ws e w k).2) j = false := (by rw [hcb]; simpa [-List.getD_eq_getElem?_getD] using hb83)
   refine zk (zn (zbn (zr ?_ (h := by intro c K h; simp [hG, List.getD_cons_zero, List.getD_cons_succ, -List.getD_eq_getElem?_getD, pureOp, rdS_zero, Bool.toNat_false, Bool.toNat_true, Nat.add_zero]; first | exact z1 c h | exact ⟨.mk c, h⟩))))
   refine zn ?_
   refine round_end ((j + 1, false)) (⟨by omega, fun _ => step_all (hf rfl) hcb0, fun h => (by cases h)⟩) (by omega) ?_
   exact zi (e := by simp [hG, List.getD_cons_zero, List.getD_cons_succ, -List.getD_eq_getElem?_getD, pureOp, rdS_zero, Bool.toNat_false, Bool.toNat_true, Nat.add_zero]) (h := by simp [hG, List.getD_cons_zero, List.getD_cons_succ, -List.getD_eq_getElem?_getD, pureOp, rdS_zero, Bool.toNat_false, Bool.toNat_true, Nat.add_zero])
 refine zx (ztx (zbx (zs (zr ?_ (h := by intro c K h; simp [hG, List.getD_cons_zero, List.getD_cons_succ, -List.getD_eq_getElem?_getD, pureOp, rdS_zero, Bool.toNat_false, Bool.toNat_true, Nat.add_zero]; first | exact z1 c h | exact ⟨.mk c, h⟩)))))
 refine zy (fun hb97 => ?_) fun hb97 => ?_
 · obtain rfl := hb97
   obtain rfl : j = c.ws.length := (by simp at hb41; omega)
   have hcf := cer_no (hf rfl)
   refine zs (zr ?_ (h := by intro c K h; simp [hG, List.getD_cons_zero, List.getD_cons_succ, -List.getD_eq_getElem?_getD, pureOp, rdS_zero, Bool.toNat_false, Bool.toNat_true, Nat.add_zero]; first | exact z1 c h | exact ⟨.mk c, h⟩))
   refine zt (zbt (ztt (zbt ?_)))
   refine RetOK_of ?_
   simp [hG, List.getD_cons_zero, List.getD_cons_succ, -List.getD_eq_getElem?_getD, pureOp, rdS_zero, Bool.toNat_false, Bool.toNat_true, Nat.add_zero]
   obtain ⟨h1, h2, h3⟩ := re_3 hck (by omega) hv hn hcf; rw [h1, h2, h3]; exact ⟨⟨rfl, Nat.le_refl _, fun _ _ => rfl⟩, rfl, rfl⟩
 obtain rfl := hb97
 refine zk (zn (zbn (zn ?_)))
 refine round_end (k + 1) (step_all hn (ht rfl)) (by omega) ?_
 exact zi (e := by simp [hG, List.getD_cons_zero, List.getD_cons_succ, -List.getD_eq_getElem?_getD, pureOp, rdS_zero, Bool.toNat_false, Bool.toNat_true, Nat.add_zero]) (h := by simp [hG, List.getD_cons_zero, List.getD_cons_succ, -List.getD_eq_getElem?_getD, pureOp, rdS_zero, Bool.toNat_false, Bool.toNat_true, Nat.add_zero])
end Go.Proofs.Ytoafgeobhhlplaa
namespace Go.Proofs.Ytoafgeobhhlplaa
set_option linter.unusedSimpArgs false
set_option linter.unusedVariables false
open Go Go.Lift
def dRc : Rc := ([], [])
def rcF (x : Rc) (j : Nat) : AVal := match j with
  | 0 => .str x.1
  | _ => .str x.2
@[simp] theorem rcF0 {x : Rc} : rcF x 0 = .str x.1 := rfl
@[simp] theorem rcF1 {x : Rc} : rcF x 1 = .str x.2 := rfl
@[simp] theorem one_rcF {c : Rc} {j : Nat} : (rcF c j).one = true := by unfold rcF; split <;> rfl
@[simp] theorem Clo_rcF {c : Rc} {j : Nat} : Clo (rcF c j) := by unfold rcF; split <;> trivial
@[simp] theorem ren_rcF {ρ : Nat → Nat} {c : Rc} {j : Nat} : ren ρ (rcF c j) = rcF c j := by unfold rcF; split <;> rfl
@[simp] theorem flat_rcF {c : Rc} {j : Nat} : flat (rcF c j) := by unfold rcF; split <;> trivial
def rcs (l : List Rc) : AVal := vec 2 rcF dRc l
@[simp] theorem evLen_rcs {h : Heap} {l : List Rc} : evLen h (rcs l) = some (.int .i64 l.length) := rfl
@[simp] theorem strip_rcs {l : List Rc} : strip (rcs l) = (rcs l, True) := rfl
@[simp] theorem mkOpt_rcs {g : Bool} {l : List Rc} : mkOpt g (rcs l) = .opt g (rcs l) := rfl
@[simp] theorem one_rcs {l : List Rc} : (rcs l).one = true := rfl
@[simp] theorem acell_rcs {l : List Rc} {j : Nat} : acell (rcs l) j = rcs l := rfl
@[simp] theorem Clo_rcs {l : List Rc} : Clo (rcs l) := Clo_vec fun x _ j hj => ⟨one_rcF, Clo_rcF⟩
@[simp] theorem lenT_rcs {T : Tab} {t : TypeId} {l : List Rc} : lenT T t (rcs l) = sliceT T t := lenT_vec
@[simp] theorem evIndexAddr_rcs {T : Tab} {h : Heap} {t : TypeId} {k : IntKind} {m : Int} {l : List Rc} : evIndexAddr T h t (rcs l) (.int k m) = match elemT T t with
    | some ei => if 2 = ei.size then some (.vptr 2 (fun j => rcF (l.getD m.toNat dRc) j) 0, 0 ≤ m ∧ m < (l.length : Int)) else none
    | none => none := evIndexAddr_vec
@[simp] theorem evSrc_rcs {h : Heap} {l : List Rc} : evSrc h 2 (rcs l) = some (l.length, (fun i j => rcF (l.getD i dRc) j), True) := by
  unfold rcs
  rw [evSrc_vec rfl]
  rfl
@[simp] theorem evBin_rcs {o : BinOp} {v : AVal} {l : List Rc} : evBin o (rcs l) v = none := rfl
@[simp] theorem evEq_rcs {T : Tab} {t : TypeId} {l : List Rc} : evEq T .eql t (rcs l) .nils = if sliceT T t then some (.ub (l.length = 0)) else none := rfl
@[simp] theorem VLe_rcs_nils {h : Heap} {σ : Lift.Id → Lift.Id} {fz : Nat → Bool} {vz : Lift.Id → Bool} {x : Nat} {l : List Rc} : VLe h σ fz vz x (rcs l) .nils = (l.length = 0) := rfl
@[simp] theorem VLe_rcs_sl {h : Heap} {σ : Lift.Id → Lift.Id} {fz : Nat → Bool} {vz : Lift.Id → Bool} {y lo x' : Nat} {id : Lift.Id} {l : List Rc} : VLe h σ fz vz y (rcs l) (.sl id lo x') = (x' = l.length ∧ fz id.1 = true ∧ match lkH h id with
    | some (.arr N s' g') => s' = 2 ∧ lo + l.length ≤ N ∧ ∀ i, i < l.length → ∀ j, j < 2 → (rcF (l.getD i dRc) j).one = true ∧ VLe h σ fz vz y (rcF (l.getD i dRc) j) (g' (lo + i) j)
    | _ => False) := VLe_vsl_sl
@[simp] theorem VLe_rcs_vsl {h : Heap} {σ : Lift.Id → Lift.Id} {fz : Nat → Bool} {vz : Lift.Id → Bool} {x' s' y : Nat} {g' : Nat → Nat → AVal} {l : List Rc} : VLe h σ fz vz y (rcs l) (.vsl x' s' g') = (x' = l.length ∧ s' = 2 ∧ ∀ i, i < l.length → ∀ j, j < 2 → (rcF (l.getD i dRc) j).one = true ∧ VLe h σ fz vz y (rcF (l.getD i dRc) j) (g' i j)) := rfl
@[simp] theorem ren_rcs {ρ : Nat → Nat} {l : List Rc} : ren ρ (rcs l) = rcs l := ren_vec fun _ _ => ren_rcF
def rstA (W : List Wd) (l : UInt8) (k : Nat) : List Wd := ((W.take k).filter fun x => decide (x.head? = some l)).map List.tail
section
variable {W : List Wd}
@[simp] theorem rstA_zero {l : UInt8} : rstA W l 0 = [] := rfl
theorem rstA_yes {l : UInt8} {k : Nat} (hk : k < W.length) (h : (W.getD k []).head? = some l) : rstA W l (k + 1) = rstA W l k ++ [(W.getD k []).tail] := by
  unfold rstA
  rw [List.take_succ_eq_append_getElem hk, List.filter_append, List.map_append]
  rw [List.getD_eq_getElem?_getD, List.getElem?_eq_getElem hk] at h ⊢
  simp only [Option.getD_some] at h ⊢
  simp [h]
theorem rstA_not {l : UInt8} {k : Nat} (hk : k < W.length) (h : ¬ (W.getD k []).head? = some l) : rstA W l (k + 1) = rstA W l k := by
  unfold rstA
  rw [List.take_succ_eq_append_getElem hk, List.filter_append, List.map_append]
  rw [List.getD_eq_getElem?_getD, List.getElem?_eq_getElem hk] at h
  simp only [Option.getD_some] at h
  simp [h]
theorem rstA_full {l : UInt8} : rstA W l W.length = rst W [] l := by unfold rstA; rw [List.take_length]; rfl
theorem rstA_len {l : UInt8} (k : Nat) : (rstA W l k).length ≤ k := by
  unfold rstA
  rw [List.length_map]
  refine Nat.le_trans (List.length_filter_le _ _) ?_
  rw [List.length_take]; omega
theorem rst_len {s : Wd} {l : UInt8} (h : 1 ≤ W.length) : (rst W s l).length ≤ W.length := by
  cases s with
  | nil => rw [← rstA_full]; exact rstA_len _
  | cons a t => show (if a = l then [t] else []).length ≤ _; split <;> simp; omega
theorem head_at {x : Wd} {l : UInt8} (h : x ≠ []) : x.head? = some l ↔ ((x.getD 0 0).toNat : Int) = l.toNat := by
  cases x with
  | nil => exact absurd rfl h
  | cons a t =>
    show some a = some l ↔ ((a.toNat : Nat) : Int) = (l.toNat : Nat)
    constructor
    · intro e; cases e; rfl
    · intro e
      have : a.toNat = l.toNat := by omega
      rw [UInt8.toNat_inj.1 this]
def aftJ (A B : List Wd) (i j : Nat) : List Rc := ((A.take i).flatMap fun a => B.map fun b => (a, b)) ++ (B.take j).map fun b => (A.getD i [], b)
def aftI (A B : List Wd) (i : Nat) : List Rc := (A.take i).flatMap fun a => B.map fun b => (a, b)
@[simp] theorem aftI_zero {A B : List Wd} : aftI A B 0 = [] := rfl
@[simp] theorem aftJ_zero {A B : List Wd} {i : Nat} : aftJ A B i 0 = aftI A B i := by unfold aftJ aftI; simp
theorem aftJ_succ {A B : List Wd} {i j : Nat} (hj : j < B.length) : aftJ A B i (j + 1) = aftJ A B i j ++ [(A.getD i [], B.getD j [])] := by
  unfold aftJ
  rw [List.take_succ_eq_append_getElem hj, List.map_append, ← List.append_assoc]
  congr 1
  simp [List.getD, hj]
theorem aftJ_full {A B : List Wd} {i : Nat} (hi : i < A.length) : aftJ A B i B.length = aftI A B (i + 1) := by
  unfold aftJ aftI
  rw [List.take_length, List.take_succ_eq_append_getElem hi, List.flatMap_append]
  congr 1
  simp [List.getD, hi]
theorem aftI_full {p : Rc} {l : UInt8} : aftI (rst W p.1 l) (rst W p.2 l) (rst W p.1 l).length = aft W p l := by unfold aftI aft; rw [List.take_length]
theorem aftI_len {A B : List Wd} : ∀ i, (aftI A B i).length ≤ i * B.length
  | 0 => by simp
  | i + 1 => by
    have ih := aftI_len (A := A) (B := B) i
    rw [Nat.add_mul, Nat.one_mul]
    by_cases h : i < A.length
    · unfold aftI at ih ⊢
      rw [List.take_succ_eq_append_getElem h, List.flatMap_append, List.length_append]
      simp only [List.flatMap_cons, List.flatMap_nil, List.append_nil, List.length_map]
      omega
    · have : aftI A B (i + 1) = aftI A B i := by
        unfold aftI
        rw [List.take_of_length_le (by omega), List.take_of_length_le (by omega)]
      rw [this]; omega
theorem aftJ_len {A B : List Wd} {i j : Nat} : (aftJ A B i j).length ≤ i * B.length + j := by
  have := aftI_len (A := A) (B := B) i
  unfold aftJ
  rw [List.length_append, List.length_map, List.length_take]
  unfold aftI at this
  omega
end
end Go.Proofs.Ytoafgeobhhlplaa
namespace Go.Proofs.Ytoafgeobhhlplaa
set_option linter.unusedSimpArgs false
set_option linter.unusedVariables false
open Go Go.Lift Go.Proofs
theorem app_oneS {K : List Wd} {x : Wd} {w : Nat → Nat → AVal} {i : Nat} (hw : w 0 0 = .str x) (hi : i < K.length + 1) : app (fun p _ => .str (K.getD p [])) K.length w i 0 = .str ((K ++ [x]).getD i []) := by
  unfold app
  by_cases h : i < K.length
  · rw [if_pos h]; simp [List.getD, List.getElem?_append_left h]
  · obtain rfl : i = K.length := by omega
    rw [if_neg h, Nat.sub_self, hw]; simp [List.getD]
theorem app_oneR {K : List Rc} {x : Rc} {w : Nat → Nat → AVal} {i j : Nat} (hw : w 0 j = rcF x j) (hi : i < K.length + 1) : app (fun p => rcF (K.getD p dRc)) K.length w i j = rcF ((K ++ [x]).getD i dRc) j := by
  unfold app
  by_cases h : i < K.length
  · rw [if_pos h]; simp [List.getD, List.getElem?_append_left h]
  · obtain rfl : i = K.length := by omega
    rw [if_neg h, Nat.sub_self, hw]; simp [List.getD]
def rvF (c : Cd) (m : AVal) (j : Nat) : AVal := match j with
  | 0 => .int .i64 c.q
  | 1 => strs c.ws
  | _ => m
@[simp] theorem rvF0 {c : Cd} {m : AVal} : rvF c m 0 = .int .i64 c.q := rfl
@[simp] theorem rvF1 {c : Cd} {m : AVal} : rvF c m 1 = strs c.ws := rfl
@[simp] theorem rvF2 {c : Cd} {m : AVal} : rvF c m 2 = m := rfl
def rcK (x : Rc) : AVal := aggL [.str x.1, .str x.2]
@[simp] theorem aggL_rc {a b : Wd} : aggL [.str a, .str b] = rcK (a, b) := rfl
theorem kEq_rc (a b : Rc) : kEq T 68 (rcK a) (rcK b) = some (decide (a = b)) := by
  have : kEq T 68 (rcK a) (rcK b) = some (decide (a.1 = b.1) && (decide (a.2 = b.2) && true)) := by
    simp [rcK, aggL]
  rw [this]
  congr 1
  rw [Bool.eq_iff_iff]
  simp only [Bool.and_eq_true, decide_eq_true_eq, Bool.and_true]
  obtain ⟨a1, a2⟩ := a
  obtain ⟨b1, b2⟩ := b
  simp
theorem luK_congr2 {l : List (AVal × AVal)} {f g : Nat → AVal} (h : f 0 = g 0 ∧ f 1 = g 1) : ∀ i, luK T 68 l i (.agg 2 f) = luK T 68 l i (.agg 2 g) := by
  obtain ⟨h0, h1⟩ := h
  induction l with
  | nil => intro i; rfl
  | cons p l ih =>
    intro i
    obtain ⟨a, v⟩ := p
    have hk : kEq T 68 (.agg 2 f) a = kEq T 68 (.agg 2 g) a := by
      cases a <;> simp [h0, h1]
    simp only [luK, hk, ih (i + 1)]
def luKx := luK
theorem luK_rc {β : Type} {ev : β → AVal} {l : List (Rc × β)} {f : Nat → AVal} {e : Rc} (h0 : f 0 = .str e.1) (h1 : f 1 = .str e.2) : luK T 68 (mpE rcK ev l) 0 (.agg 2 f) = some ((alFind l 0 e).map fun p => (p.1, ev p.2)) := by
  rw [← luK_mpE (ek := rcK) (ev := ev) kEq_rc l 0 e]
  exact luK_congr2 ⟨h0, h1⟩ 0
@[simp] theorem luKrc {β : Type} {ev : β → AVal} {l : List (Rc × β)} {f : Nat → AVal} : luK T 68 (mpE rcK ev l) 0 (.agg 2 f) = (match f 0, f 1 with
    | .str a, .str b => some ((alFind l 0 ((a, b) : Rc)).map fun p => (p.1, ev p.2))
    | _, _ => luKx T 68 (mpE rcK ev l) 0 (.agg 2 f)) := by
  split
  · rename_i a b h0 h1
    exact luK_rc (e := (a, b)) h0 h1
  · rfl
@[simp] theorem putK_rcI {l : List (Rc × Int)} {k : Rc} {v : Int} : putK (mpE rcK intV l) ((alFind l 0 k).map fun p => (p.1, intV p.2)) (rcK k) (.int .i64 v) = mpE rcK intV (alPut l k v) := putK_mpE (ek := rcK) (ev := intV) l k v
@[simp high] theorem HLe_rcI {h : Heap} {σ : Lift.Id → Lift.Id} {fz : Nat → Bool} {vz : Lift.Id → Bool} {nx : Nat} {l2 l : List (Rc × Int)} (e : l2 = l) : HLe h σ fz vz nx (.mp (mpE rcK intV l2)) (some (.mp (mpE rcK intV l))) = True := eq_true (HLe_mpE (ek := rcK) (ev := intV) (fun a => by
  intro j hj
  match j, hj with
  | 0, _ => exact trivial
  | 1, _ => exact trivial) (fun _ => trivial) e)
set_option maxRecDepth 100000 in
theorem rests_c (c : Cd) (hv : CdOK c) (s : List UInt8) (l : UInt8) : PC Try.prog 68 [.agg 2 (cdF c), .str s, .int .u8 l.toNat] (strs (rst c.ws s l)) := by
 have hWn := hv.n
 refine zp Try.func68 fun G hG hR => ?_
 refine zs (zr ?_ (h := by intro c K h; simp [hG, List.getD_cons_zero, List.getD_cons_succ, -List.getD_eq_getElem?_getD, pureOp, rstA_zero]; first | exact z1 c h | exact ⟨.mk c, h⟩))
 refine zs (zs (zr ?_ (h := by intro c K h; simp [hG, List.getD_cons_zero, List.getD_cons_succ, -List.getD_eq_getElem?_getD, pureOp, rstA_zero]; first | exact z1 c h | exact ⟨.mk c, h⟩)))
 refine zy (fun hb11 => ?_) fun hb11 => ?_
 · obtain ⟨h, t, rfl⟩ : ∃ h t, s = h :: t := (by cases s with | nil => exact absurd rfl hb11 | cons h t => exact ⟨h, t, rfl⟩)
   refine zs (zs (zr ?_ (h := by intro c K h; simp [hG, List.getD_cons_zero, List.getD_cons_succ, -List.getD_eq_getElem?_getD, pureOp, rstA_zero]; first | exact z1 c h | exact ⟨.mk c, h⟩)))
   refine zy (fun hb15 => ?_) fun hb15 => ?_
   · refine zs (zr ?_ (h := by intro c K h; simp [hG, List.getD_cons_zero, List.getD_cons_succ, -List.getD_eq_getElem?_getD, pureOp, rstA_zero]; first | exact z1 c h | exact ⟨.mk c, h⟩))
     refine zt ?_
     refine RetOK_of ?_
     simp [hG, List.getD_cons_zero, List.getD_cons_succ, -List.getD_eq_getElem?_getD, pureOp, rstA_zero]
     exact if_neg (fun e => hb15 (by rw [e]))
   refine zk (zs (zr ?_ (h := by intro c K h; simp [hG, List.getD_cons_zero, List.getD_cons_succ, -List.getD_eq_getElem?_getD, pureOp, rstA_zero]; first | exact z1 c h | exact ⟨.mk c, h⟩)))
   refine zt ?_
   refine RetOK_of ?_
   simp [hG, List.getD_cons_zero, List.getD_cons_succ, -List.getD_eq_getElem?_getD, pureOp, rstA_zero]
   rw [show rst c.ws (h :: t) l = [t] from if_pos (UInt8.toNat_inj.1 (by omega))]; refine ⟨rfl, Nat.le_refl _, fun i hi => ?_⟩; obtain rfl : i = 0 := (by simpa using hi); rfl
 obtain rfl : s = [] := (by simpa using hb11)
 refine zk (zs (zr ?_ (h := by intro c K h; simp [hG, List.getD_cons_zero, List.getD_cons_succ, -List.getD_eq_getElem?_getD, pureOp, rstA_zero]; first | exact z1 c h | exact ⟨.mk c, h⟩)))
 refine zs (zs (zr ?_ (h := by intro c K h; simp [hG, List.getD_cons_zero, List.getD_cons_succ, -List.getD_eq_getElem?_getD, pureOp, rstA_zero]; first | exact z1 c h | exact ⟨.mk c, h⟩)))
 refine zb ?_
 refine awpS_loop (α := Nat) (fun i => ⟨[(2, .int .u8 l.toNat), (3, .vptr 2 (cdF c) 0), (7, .sl (0, 0) 0 (rstA c.ws l i).length), (20, strs c.ws), (21, .int .i64 c.ws.length), (22, .int .i64 (i : Nat))], [(0, .one (.arr (rstA c.ws l i).length 1 (fun p _ => .str ((rstA c.ws l i).getD p []))))], 1⟩) (fun i => i ≤ c.ws.length) (fun i => c.ws.length - i) (0) (Nat.zero_le _) ?_ ?_
 · exact zw (fun k => if k = 0 then 1 else k) (fun k => k == 0) (fun k => k == 0) (e := by simp [hG, List.getD_cons_zero, List.getD_cons_succ, -List.getD_eq_getElem?_getD, pureOp, rstA_zero]) (h := by simp [hG, List.getD_cons_zero, List.getD_cons_succ, -List.getD_eq_getElem?_getD, pureOp, rstA_zero])
 rintro i hi
 refine zs (zr ?_ (h := by intro c K h; simp [hG, List.getD_cons_zero, List.getD_cons_succ, -List.getD_eq_getElem?_getD, pureOp, rstA_zero]; first | exact z1 c h | exact ⟨.mk c, h⟩))
 refine zs (zy (fun hb23 => ?_) fun hb23 => ?_)
 · have hne := hv.ne _ (W_mem hb23)
   have hnl := List.length_pos_iff.2 hne
   have hrl := rstA_len (W := c.ws) (l := l) i
   refine zk (zs (zb (zs (zr ?_ (h := by intro c K h; simp [hG, List.getD_cons_zero, List.getD_cons_succ, -List.getD_eq_getElem?_getD, pureOp, rstA_zero]; first | exact z1 c h | exact ⟨.mk c, h⟩)))))
   refine zs (zr ?_ (h := by intro c K h; simp [hG, List.getD_cons_zero, List.getD_cons_succ, -List.getD_eq_getElem?_getD, pureOp, rstA_zero]; first | exact z1 c h | exact ⟨.mk c, h⟩))
   refine zy (fun hb29 => ?_) fun hb29 => ?_
   · have hps := rstA_yes hb23 ((head_at (l := l) hne).2 (by omega))
     refine zr ?_ (h := by intro c K h; simp [hG, List.getD_cons_zero, List.getD_cons_succ, -List.getD_eq_getElem?_getD, pureOp, rstA_zero]; first | exact z1 c h | exact ⟨.mk c, h⟩)
     refine zn (zbn (zr ?_ (h := by intro c K h; simp [hG, List.getD_cons_zero, List.getD_cons_succ, -List.getD_eq_getElem?_getD, pureOp, rstA_zero]; first | exact z1 c h | exact ⟨.mk c, h⟩)))
     refine zn ?_
     refine round_end (i + 1) (by omega) (by omega) ?_
     exact zw (fun k => if k = 0 then 2 else k) (fun _ => false) (fun _ => false) (e := by rw [hps]; simp [hG, List.getD_cons_zero, List.getD_cons_succ, -List.getD_eq_getElem?_getD]) (h := by rw [hps]; simp [hG, List.getD_cons_zero, List.getD_cons_succ, -List.getD_eq_getElem?_getD]; exact fun i hi => app_oneS rfl hi)
   have hps := rstA_not hb23 (fun h => by have := (head_at (l := l) hne).1 h; omega)
   refine zk (zn (zbn (zr ?_ (h := by intro c K h; simp [hG, List.getD_cons_zero, List.getD_cons_succ, -List.getD_eq_getElem?_getD, pureOp, rstA_zero]; first | exact z1 c h | exact ⟨.mk c, h⟩))))
   refine zn ?_
   refine round_end (i + 1) (by omega) (by omega) ?_
   exact zi (e := by rw [hps]; simp [hG, List.getD_cons_zero, List.getD_cons_succ, -List.getD_eq_getElem?_getD]) (h := by rw [hps]; simp [hG, List.getD_cons_zero, List.getD_cons_succ, -List.getD_eq_getElem?_getD])
 obtain rfl : i = c.ws.length := (by omega)
 refine zx (ztx (zbx (zs (zr ?_ (h := by intro c K h; simp [hG, List.getD_cons_zero, List.getD_cons_succ, -List.getD_eq_getElem?_getD, pureOp, rstA_zero]; first | exact z1 c h | exact ⟨.mk c, h⟩)))))
 refine zt ?_
 refine RetOK_of ?_
 simp [hG, List.getD_cons_zero, List.getD_cons_succ, -List.getD_eq_getElem?_getD, pureOp, rstA_zero]
 rw [← rstA_full]; exact ⟨rfl, Nat.le_refl _, fun _ _ => rfl⟩
set_option maxRecDepth 100000 in
theorem after_c (c : Cd) (hv : CdOK c) (p : Rc) (l : UInt8) (m : List (Rc × Int)) : FC1 Try.prog 67 [.agg 3 (rvF c (.map (0, 0))), .agg 2 (rcF p), .int .u8 l.toNat] [(0, .one (.mp (mpE rcK intV m)))] 1 (rcs (aft c.ws p l)) [(0, .one (.mp (mpE rcK intV m)))] 1 := by
 have hWn := hv.n
 have hal := rst_len (W := c.ws) (s := p.1) (l := l) hWn.1
 have hbl := rst_len (W := c.ws) (s := p.2) (l := l) hWn.1
 refine FC_introS T_ok Try.func67 rfl (by simp [Try.ntmps67]) fun G hG hR => ?_
 simp only [Try.ntmps67, Try.results67] at hG ⊢
 simp only [argEnv, Nat.zero_add, Nat.reduceAdd]
 refine zs (zr ?_ (h := by intro c K h; simp [hG, List.getD_cons_zero, List.getD_cons_succ, -List.getD_eq_getElem?_getD, pureOp, aftI_zero, aftJ_zero]; first | exact z1 c h | exact ⟨.mk c, h⟩))
 refine zs (zr ?_ (h := by intro c K h; simp [hG, List.getD_cons_zero, List.getD_cons_succ, -List.getD_eq_getElem?_getD, pureOp, aftI_zero, aftJ_zero]; first | exact z1 c h | exact ⟨.mk c, h⟩))
 refine zs (zs (zL (zl 5 ?_ (h := by intro c K h; simp [hG, List.getD_cons_zero, List.getD_cons_succ, -List.getD_eq_getElem?_getD, pureOp, aftI_zero, aftJ_zero]; first | exact z1 c h | exact ⟨.mk c, h⟩))))
 refine zc cal68 (rests_c c hv p.1 l) ?_ (a := fun hg => by simp [hG, List.getD_cons_zero, List.getD_cons_succ, -List.getD_eq_getElem?_getD, pureOp, aftI_zero, aftJ_zero]) (b := fun hg => by simp [hG, List.getD_cons_zero, List.getD_cons_succ, -List.getD_eq_getElem?_getD, pureOp, aftI_zero, aftJ_zero]) (h := by intro K h; simp [hG, List.getD_cons_zero, List.getD_cons_succ, -List.getD_eq_getElem?_getD, pureOp, aftI_zero, aftJ_zero]; exact h)
 refine zl 2 ?_ (h := by intro c K h; simp [hG, List.getD_cons_zero, List.getD_cons_succ, -List.getD_eq_getElem?_getD, pureOp, aftI_zero, aftJ_zero]; first | exact z1 c h | exact ⟨.mk c, h⟩)
 refine zN (zb ?_)
 refine awpS_loop (α := Nat) (fun i => ⟨[(2, .int .u8 l.toNat), (3, .vptr 3 (rvF c (.map (0, 0))) 0), (4, .vptr 2 (rcF p) 0), (7, .sl (1, 0) 0 (aftI (rst c.ws p.1 l) (rst c.ws p.2 l) i).length), (17, strs (rst c.ws p.1 l)), (18, .int .i64 (rst c.ws p.1 l).length), (19, .int .i64 (i : Nat))], [(0, .one (.mp (mpE rcK intV m))), (1, .one (.arr (aftI (rst c.ws p.1 l) (rst c.ws p.2 l) i).length 2 (fun y => rcF ((aftI (rst c.ws p.1 l) (rst c.ws p.2 l) i).getD y dRc))))], 2⟩) (fun i => i ≤ (rst c.ws p.1 l).length) (fun i => (rst c.ws p.1 l).length - i) (0) (Nat.zero_le _) ?_ ?_
 · refine wk_of (fun k => if k = 1 then 3 else k) (fun k => k == 1 || k == 2) (fun k => k == 1) ?_ ?_ rfl (by simp) (fun k hk => by first | exact ⟨rfl, rfl⟩ | (revert k; decide) | (obtain rfl : k = 0 := (by omega); exact ⟨rfl, rfl⟩) | (have hk2 : k = 0 ∨ k = 1 := (by omega); rcases hk2 with rfl | rfl <;> exact ⟨rfl, rfl⟩))
   · simp [hG, List.getD_cons_zero, List.getD_cons_succ, -List.getD_eq_getElem?_getD, pureOp, aftI_zero, aftJ_zero]
   simp [hG, List.getD_cons_zero, List.getD_cons_succ, -List.getD_eq_getElem?_getD, pureOp, aftI_zero, aftJ_zero]
 rintro i hi
 refine zs (zr ?_ (h := by intro c K h; simp [hG, List.getD_cons_zero, List.getD_cons_succ, -List.getD_eq_getElem?_getD, pureOp, aftI_zero, aftJ_zero]; first | exact z1 c h | exact ⟨.mk c, h⟩))
 refine zs (zy (fun hb20 => ?_) fun hb20 => ?_)
 · refine zk (zs (zb (zs (zr ?_ (h := by intro c K h; simp [hG, List.getD_cons_zero, List.getD_cons_succ, -List.getD_eq_getElem?_getD, pureOp, aftI_zero, aftJ_zero]; first | exact z1 c h | exact ⟨.mk c, h⟩)))))
   refine zs (zL (zl 5 ?_ (h := by intro c K h; simp [hG, List.getD_cons_zero, List.getD_cons_succ, -List.getD_eq_getElem?_getD, pureOp, aftI_zero, aftJ_zero]; first | exact z1 c h | exact ⟨.mk c, h⟩)))
   refine zc cal68 (rests_c c hv p.2 l) ?_ (a := fun hg => by simp [hG, List.getD_cons_zero, List.getD_cons_succ, -List.getD_eq_getElem?_getD, pureOp, aftI_zero, aftJ_zero]) (b := fun hg => by simp [hG, List.getD_cons_zero, List.getD_cons_succ, -List.getD_eq_getElem?_getD, pureOp, aftI_zero, aftJ_zero]) (h := by intro K h; simp [hG, List.getD_cons_zero, List.getD_cons_succ, -List.getD_eq_getElem?_getD, pureOp, aftI_zero, aftJ_zero]; exact h)
   refine zl 2 ?_ (h := by intro c K h; simp [hG, List.getD_cons_zero, List.getD_cons_succ, -List.getD_eq_getElem?_getD, pureOp, aftI_zero, aftJ_zero]; first | exact z1 c h | exact ⟨.mk c, h⟩)
   refine zN (zb ?_)
   refine awpS_loop (α := Nat) (fun j => ⟨[(2, .int .u8 l.toNat), (3, .vptr 3 (rvF c (.map (0, 0))) 0), (4, .vptr 2 (rcF p) 0), (7, .sl (1, 0) 0 (aftJ (rst c.ws p.1 l) (rst c.ws p.2 l) i j).length), (9, .str ((rst c.ws p.1 l).getD i [])), (17, strs (rst c.ws p.1 l)), (18, .int .i64 (rst c.ws p.1 l).length), (19, .int .i64 (i : Nat)), (28, strs (rst c.ws p.2 l)), (29, .int .i64 (rst c.ws p.2 l).length), (30, .int .i64 (j : Nat))], [(0, .one (.mp (mpE rcK intV m))), (1, .one (.arr (aftJ (rst c.ws p.1 l) (rst c.ws p.2 l) i j).length 2 (fun y => rcF ((aftJ (rst c.ws p.1 l) (rst c.ws p.2 l) i j).getD y dRc))))], 2⟩) (fun j => j ≤ (rst c.ws p.2 l).length) (fun j => (rst c.ws p.2 l).length - j) (0) (Nat.zero_le _) ?_ ?_
   · refine wk_of (id) (fun _ => false) (fun _ => false) ?_ ?_ rfl (by simp) (fun k hk => by first | exact ⟨rfl, rfl⟩ | (revert k; decide) | (obtain rfl : k = 0 := (by omega); exact ⟨rfl, rfl⟩) | (have hk2 : k = 0 ∨ k = 1 := (by omega); rcases hk2 with rfl | rfl <;> exact ⟨rfl, rfl⟩))
     · simp [hG, List.getD_cons_zero, List.getD_cons_succ, -List.getD_eq_getElem?_getD, pureOp, aftI_zero, aftJ_zero]
     simp [hG, List.getD_cons_zero, List.getD_cons_succ, -List.getD_eq_getElem?_getD, pureOp, aftI_zero, aftJ_zero]
   rintro j hj
   refine zs (zr ?_ (h := by intro c K h; simp [hG, List.getD_cons_zero, List.getD_cons_succ, -List.getD_eq_getElem?_getD, pureOp, aftI_zero, aftJ_zero]; first | exact z1 c h | exact ⟨.mk c, h⟩))
   refine zs (zy (fun hb31 => ?_) fun hb31 => ?_)
   · have hjs := aftJ_succ (A := (rst c.ws p.1 l)) (i := i) hb31
     have hjl := aftJ_len (A := (rst c.ws p.1 l)) (B := (rst c.ws p.2 l)) (i := i) (j := j)
     have hjm := Nat.mul_le_mul (show i ≤ 64 by omega) (show (rst c.ws p.2 l).length ≤ 64 by omega)
     refine zk (zs (zb (zs (zr ?_ (h := by intro c K h; simp [hG, List.getD_cons_zero, List.getD_cons_succ, -List.getD_eq_getElem?_getD, pureOp, aftI_zero, aftJ_zero]; first | exact z1 c h | exact ⟨.mk c, h⟩)))))
     refine zr ?_ (h := by intro c K h; simp [hG, List.getD_cons_zero, List.getD_cons_succ, -List.getD_eq_getElem?_getD, pureOp, aftI_zero, aftJ_zero]; first | exact z1 c h | exact ⟨.mk c, h⟩)
     refine zn (zbn (zr ?_ (h := by intro c K h; simp [hG, List.getD_cons_zero, List.getD_cons_succ, -List.getD_eq_getElem?_getD, pureOp, aftI_zero, aftJ_zero]; first | exact z1 c h | exact ⟨.mk c, h⟩)))
     refine zn ?_
     refine round_end (j + 1) (by omega) (by omega) ?_
     refine wk_of (fun k => if k = 1 then 3 else k) (fun _ => false) (fun _ => false) ?_ ?_ rfl (by simp) (fun k hk => by first | exact ⟨rfl, rfl⟩ | (revert k; decide) | (obtain rfl : k = 0 := (by omega); exact ⟨rfl, rfl⟩) | (have hk2 : k = 0 ∨ k = 1 := (by omega); rcases hk2 with rfl | rfl <;> exact ⟨rfl, rfl⟩))
     · rw [hjs]; simp [hG, List.getD_cons_zero, List.getD_cons_succ, -List.getD_eq_getElem?_getD]
     rw [hjs]; simp [hG, List.getD_cons_zero, List.getD_cons_succ, -List.getD_eq_getElem?_getD]; exact fun i hi => ⟨app_oneR (j := 0) rfl hi, app_oneR (j := 1) rfl hi⟩
   obtain rfl : j = (rst c.ws p.2 l).length := (by omega)
   have hjf := aftJ_full (B := (rst c.ws p.2 l)) hb20
   refine zx (ztx (zbx (zn (zbn (zr ?_ (h := by intro c K h; simp [hG, List.getD_cons_zero, List.getD_cons_succ, -List.getD_eq_getElem?_getD, pureOp, aftI_zero, aftJ_zero]; first | exact z1 c h | exact ⟨.mk c, h⟩))))))
   refine zn ?_
   refine round_end (i + 1) (by omega) (by omega) ?_
   refine wk_of (id) (fun _ => false) (fun _ => false) ?_ ?_ rfl (by simp) (fun k hk => by first | exact ⟨rfl, rfl⟩ | (revert k; decide) | (obtain rfl : k = 0 := (by omega); exact ⟨rfl, rfl⟩) | (have hk2 : k = 0 ∨ k = 1 := (by omega); rcases hk2 with rfl | rfl <;> exact ⟨rfl, rfl⟩))
   · rw [← hjf]; simp [hG, List.getD_cons_zero, List.getD_cons_succ, -List.getD_eq_getElem?_getD]
   rw [← hjf]; simp [hG, List.getD_cons_zero, List.getD_cons_succ, -List.getD_eq_getElem?_getD]
 obtain rfl : i = (rst c.ws p.1 l).length := (by omega)
 refine zx (ztx (zbx (zs (zr ?_ (h := by intro c K h; simp [hG, List.getD_cons_zero, List.getD_cons_succ, -List.getD_eq_getElem?_getD, pureOp, aftI_zero, aftJ_zero]; first | exact z1 c h | exact ⟨.mk c, h⟩)))))
 refine zt ?_
 refine RetF_of (()) (id) (fun k => k == 1) (fun _ => false) trivial ?_ ?_ (by rfl) (by simp) (fun k hk => ⟨rfl, rfl⟩)
 · simp [hG, List.getD_cons_zero, List.getD_cons_succ, -List.getD_eq_getElem?_getD]; rw [← aftI_full]; exact ⟨rfl, Nat.le_refl _, fun _ _ => ⟨rfl, rfl⟩⟩
 simp [hG, List.getD_cons_zero, List.getD_cons_succ, -List.getD_eq_getElem?_getD, pureOp, aftI_zero, aftJ_zero]
end Go.Proofs.Ytoafgeobhhlplaa
namespace Go.Proofs.Ytoafgeobhhlplaa
set_option linter.unusedSimpArgs false
set_option linter.unusedVariables false
open Go Go.Lift
section
variable {α : Type} [DecidableEq α]
def seenG (F : List α) : List (α × Bool) := F.map fun x => (x, true)
def addG (F : List α) (x : α) : List α := if x ∈ F then F else F ++ [x]
def addL (F L : List α) : List α := L.foldl addG F
theorem seenG_put {x : α} : ∀ {F : List α}, alPut (seenG F) x true = seenG (addG F x)
  | [] => rfl
  | a :: F => by
    show alPut ((a, true) :: seenG F) x true = _
    by_cases h : x = a
    · subst h
      simp only [alPut, if_true]
      unfold addG
      rw [if_pos List.mem_cons_self]; rfl
    · simp only [alPut, if_neg h]
      rw [seenG_put]
      unfold addG
      by_cases h2 : x ∈ F
      · rw [if_pos h2, if_pos (List.mem_cons_of_mem _ h2)]; rfl
      · rw [if_neg h2, if_neg (fun e => (List.mem_cons.1 e).elim h h2)]; rfl
omit [DecidableEq α] in
@[simp] theorem seenG_nil : seenG ([] : List α) = [] := rfl
omit [DecidableEq α] in
@[simp] theorem seenG_len {F : List α} : (seenG F).length = F.length := by simp [seenG]
theorem addG_mem {F : List α} {x y : α} : y ∈ addG F x ↔ y ∈ F ∨ y = x := by
  unfold addG
  split
  · rename_i h; exact ⟨.inl, fun k => k.elim id fun e => e ▸ h⟩
  · rw [List.mem_append, List.mem_singleton]
theorem addG_nd {F : List α} {x : α} (h : F.Nodup) : (addG F x).Nodup := by
  unfold addG
  split
  · exact h
  · rename_i h2
    rw [List.nodup_append]
    exact ⟨h, by simp, fun a ha b hb e => by rw [List.mem_singleton.1 hb] at e; exact h2 (e ▸ ha)⟩
theorem addL_mem {y : α} : ∀ {L F : List α}, y ∈ addL F L ↔ y ∈ F ∨ y ∈ L
  | [], F => by simp [addL]
  | a :: L, F => by
    show y ∈ addL (addG F a) L ↔ _
    rw [addL_mem, addG_mem, List.mem_cons, or_assoc]
theorem addL_nd : ∀ {L F : List α}, F.Nodup → (addL F L).Nodup
  | [], F, h => h
  | a :: L, F, h => addL_nd (L := L) (addG_nd h)
@[simp] theorem addL_nil {F : List α} : addL F [] = F := rfl
theorem addL_snoc {F L : List α} {x : α} : addL F (L ++ [x]) = addG (addL F L) x := by unfold addL; rw [List.foldl_append]; rfl
theorem addL_app {F A B : List α} : addL F (A ++ B) = addL (addL F A) B := by unfold addL; rw [List.foldl_append]
theorem addL_take {d : α} {F L : List α} {j : Nat} (hj : j < L.length) : addL F (L.take (j + 1)) = addG (addL F (L.take j)) (L.getD j d) := by
  rw [List.take_succ_eq_append_getElem hj, addL_snoc]
  congr 1
  simp [List.getD, hj]
end
theorem perm_all {α : Type} {d : α} {F : List α} {o : List Nat} (h : o.Perm (List.range F.length)) {x : α} : x ∈ (o.map fun i => F.getD i d) ↔ x ∈ F := by
  rw [List.mem_map]
  constructor
  · rintro ⟨i, hi, rfl⟩
    have := List.mem_range.1 (h.mem_iff.1 hi)
    rw [List.getD_eq_getElem?_getD, List.getElem?_eq_getElem this]
    exact List.getElem_mem _
  · intro hx
    obtain ⟨i, hi, rfl⟩ := List.mem_iff_getElem.1 hx
    exact ⟨i, h.mem_iff.2 (List.mem_range.2 hi), by simp [List.getD, hi]⟩
theorem perm_nd {α : Type} {d : α} {F : List α} (hF : F.Nodup) {o : List Nat} (h : o.Perm (List.range F.length)) : (o.map fun i => F.getD i d).Nodup := by
  have hn : o.Nodup := h.nodup_iff.2 List.nodup_range
  rw [List.nodup_iff_pairwise_ne, List.pairwise_map]
  rw [List.nodup_iff_pairwise_ne] at hn
  refine List.Pairwise.imp_of_mem ?_ hn
  intro i j hi hj hne e
  have h1 := List.mem_range.1 (h.mem_iff.1 hi)
  have h2 := List.mem_range.1 (h.mem_iff.1 hj)
  simp only [List.getD, List.getElem?_eq_getElem h1, List.getElem?_eq_getElem h2, Option.getD_some] at e
  have hpw := List.pairwise_iff_getElem.1 (List.nodup_iff_pairwise_ne.1 hF)
  rcases Nat.lt_trichotomy i j with h3 | h3 | h3
  · exact hpw i j h1 h2 h3 e
  · exact hne h3
  · exact hpw j i h2 h1 h3 e.symm
section
variable {W : List Wd}
def sufL (W : List Wd) : List Wd := [] :: W.flatMap fun w => (List.range (w.length + 1)).map fun k => w.drop k
theorem sfx_mem {s : Wd} : s ∈ sufL W ↔ s = [] ∨ ∃ w ∈ W, s <:+ w := by
  unfold sufL
  rw [List.mem_cons, List.mem_flatMap]
  refine or_congr Iff.rfl ⟨?_, ?_⟩
  · rintro ⟨w, hw, h⟩
    obtain ⟨k, _, rfl⟩ := List.mem_map.1 h
    exact ⟨w, hw, List.drop_suffix _ _⟩
  · rintro ⟨w, hw, h⟩
    exact ⟨w, hw, List.mem_map.2 ⟨w.length - s.length, List.mem_range.2 (by omega), (List.suffix_iff_eq_drop.1 h).symm⟩⟩
theorem suf_rst {s t : Wd} {l : UInt8} (hs : s ∈ sufL W) (h : t ∈ rst W s l) : t ∈ sufL W := by
  cases s with
  | nil => exact sfx_mem.2 (.inr ⟨_, rst_nil.1 h, List.suffix_cons _ _⟩)
  | cons a r =>
    obtain ⟨rfl, rfl⟩ := rst_cons.1 h
    rcases sfx_mem.1 hs with h | ⟨w, hw, h⟩
    · cases h
    · exact sfx_mem.2 (.inr ⟨w, hw, (List.suffix_cons _ _).trans h⟩)
theorem suf_run {t : Wd} : ∀ {u : Wd} {S : List Wd}, (∀ s ∈ S, s ∈ sufL W) → t ∈ runS W S u → t ∈ sufL W
  | [], S, h, ht => h t ht
  | l :: u, S, h, ht => suf_run (u := u) (S := S.flatMap fun s => rst W s l) (fun s hs => by
      obtain ⟨p, hp, h2⟩ := List.mem_flatMap.1 hs
      exact suf_rst (h p hp) h2) ht
theorem sfx_len (hv : ∀ w ∈ W, w.length ≤ 32) (hn : W.length ≤ 64) : (sufL W).length ≤ 2113 := by
  have h : ∀ {L : List Wd}, (∀ w ∈ L, w.length ≤ 32) → (L.flatMap fun w => (List.range (w.length + 1)).map fun k => w.drop k).length ≤ L.length * 33 := by
    intro L hL
    induction L with
    | nil => simp
    | cons a L ih =>
      rw [List.flatMap_cons, List.length_append, List.length_map, List.length_range, List.length_cons]
      have h1 := hL a List.mem_cons_self
      have h2 := ih fun w hw => hL w (List.mem_cons_of_mem _ hw)
      omega
  have h2 := h hv
  unfold sufL
  rw [List.length_cons]
  omega
def AtA (W : List Wd) (i k : Nat) (s : Wd) : Prop := ∃ y, y < k ∧ y ≠ i ∧ s ∈ runS W [W.getD y []] (W.getD i [])
theorem at_zero {i : Nat} {s : Wd} : ¬ AtA W i 0 s := fun ⟨y, hy, _⟩ => absurd hy (Nat.not_lt_zero _)
theorem at_succ {i k : Nat} {s : Wd} : AtA W i (k + 1) s ↔ AtA W i k s ∨ (k ≠ i ∧ s ∈ runS W [W.getD k []] (W.getD i [])) := by
  constructor
  · rintro ⟨y, hy, hne, h⟩
    rcases Nat.lt_or_ge y k with h2 | h2
    · exact .inl ⟨y, h2, hne, h⟩
    · obtain rfl : y = k := by omega
      exact .inr ⟨hne, h⟩
  · rintro (⟨y, hy, hne, h⟩ | ⟨hne, h⟩)
    · exact ⟨y, by omega, hne, h⟩
    · exact ⟨k, by omega, hne, h⟩
structure FndOK (W : List Wd) (i k : Nat) (F : List Wd) : Prop where
  nd : F.Nodup
  mem : ∀ s, s ∈ F ↔ AtA W i k s
theorem fnd_zero {i : Nat} : FndOK W i 0 [] := ⟨List.nodup_nil, fun s => ⟨fun h => (by cases h), fun h => absurd h at_zero⟩⟩
theorem fnd_same {i : Nat} {F : List Wd} (h : FndOK W i i F) : FndOK W i (i + 1) F := ⟨h.nd, fun s => by rw [h.mem s, at_succ]; exact ⟨.inl, fun k => k.elim id fun k => absurd rfl k.1⟩⟩
theorem fnd_off {i k : Nat} {F : List Wd} (h : FndOK W i k F) (h1 : ¬ W.getD i [] <+: W.getD k []) (h2 : ¬ W.getD k [] <+: W.getD i []) : FndOK W i (k + 1) F :=
  ⟨h.nd, fun s => by
    rw [h.mem s, at_succ]
    refine ⟨.inl, fun k => k.elim id fun k => ?_⟩
    rw [run_off h1 h2] at k
    exact absurd k.2 (by simp)⟩
theorem fnd_in {i k : Nat} {F : List Wd} (h : FndOK W i k F) (hne : k ≠ i) (h1 : W.getD i [] <+: W.getD k []) : FndOK W i (k + 1) (addG F ((W.getD k []).drop (W.getD i []).length)) :=
  ⟨addG_nd h.nd, fun s => by
    rw [addG_mem, h.mem s, at_succ]
    obtain ⟨t, e⟩ := h1
    have e2 : (W.getD k []).drop (W.getD i []).length = t := by rw [← e, List.drop_left]
    rw [e2, ← e, run_app]
    simp [hne]⟩
structure NowS (W : List Wd) (u : Wd) (N : List Wd) : Prop where
  nd : N.Nodup
  mem : ∀ s, s ∈ N ↔ s ∈ runS W [[]] u
theorem nowS_zero : NowS W [] [[]] := ⟨by simp, fun s => Iff.rfl⟩
theorem nowS_len (hv : ∀ w ∈ W, w.length ≤ 32) (hn : W.length ≤ 64) {u : Wd} {N : List Wd} (h : NowS W u N) : N.length ≤ 2113 :=
  Nat.le_trans (List.Nodup.length_le_of_subset h.nd fun s hs => suf_run (fun t ht => by rw [List.mem_singleton.1 ht]; exact sfx_mem.2 (.inl rfl)) ((h.mem s).1 hs)) (sfx_len hv hn)
theorem nowS_step {u : Wd} {l : UInt8} {N : List Wd} (h : NowS W u N) {o : List Nat} (ho : o.Perm (List.range N.length)) : NowS W (u ++ [l]) (addL [] (o.flatMap fun d => rst W (N.getD d []) l)) :=
  ⟨addL_nd List.nodup_nil, fun s => by
    rw [addL_mem, run_snoc]
    constructor
    · rintro (h1 | h1)
      · exact absurd h1 (by simp)
      · obtain ⟨d, hd, h2⟩ := List.mem_flatMap.1 h1
        refine List.mem_flatMap.2 ⟨N.getD d [], (h.mem _).1 ?_, h2⟩
        exact (perm_all ho).1 (List.mem_map.2 ⟨d, hd, rfl⟩)
    · intro h1
      obtain ⟨p, hp, h2⟩ := List.mem_flatMap.1 h1
      obtain ⟨d, hd, rfl⟩ := List.mem_map.1 ((perm_all (d := ([] : Wd)) ho).2 ((h.mem p).2 hp))
      exact .inr (List.mem_flatMap.2 ⟨d, hd, h2⟩)⟩
theorem fnd_over {i k : Nat} {F N : List Wd} (h : FndOK W i k F) (hne : k ≠ i) (h1 : W.getD k [] <+: W.getD i []) (hN : NowS W ((W.getD i []).drop (W.getD k []).length) N) {o : List Nat} (ho : o.Perm (List.range N.length)) : FndOK W i (k + 1) (addL F (o.map fun d => N.getD d [])) :=
  ⟨addL_nd h.nd, fun s => by
    rw [addL_mem, h.mem s, at_succ, perm_all ho, hN.mem s]
    obtain ⟨t, e⟩ := h1
    have e2 : (W.getD i []).drop (W.getD k []).length = t := by rw [← e, List.drop_left]
    rw [e2]
    conv => rhs; rw [← e, run_word]
    simp [hne]⟩
theorem fnd_len (hv : ∀ w ∈ W, w.length ≤ 32) (hn : W.length ≤ 64) {i k : Nat} (hk : k ≤ W.length) {F : List Wd} (h : FndOK W i k F) : F.length ≤ 2113 :=
  Nat.le_trans (List.Nodup.length_le_of_subset h.nd fun s hs => by
    obtain ⟨y, hy, _, h2⟩ := (h.mem s).1 hs
    exact suf_run (fun t ht => by rw [List.mem_singleton.1 ht]; exact sfx_mem.2 (.inr ⟨_, W_mem (show y < W.length by omega), List.suffix_refl _⟩)) h2) (sfx_len hv hn)
structure AtL (W : List Wd) (i : Nat) (L : List Rc) : Prop where
  nd : L.Nodup
  mem : ∀ p, p ∈ L ↔ p.1 = [] ∧ AtM W i p.2
theorem at_list {i : Nat} {F : List Wd} (h : FndOK W i W.length F) {o : List Nat} (ho : o.Perm (List.range F.length)) : AtL W i (o.map fun d => (([], F.getD d []) : Rc)) := by
  have e : (o.map fun d => (([], F.getD d []) : Rc)) = (o.map fun d => F.getD d []).map fun s => (([], s) : Rc) := by rw [List.map_map]; rfl
  rw [e]
  constructor
  · rw [List.nodup_iff_pairwise_ne, List.pairwise_map]
    exact (List.nodup_iff_pairwise_ne.1 (perm_nd h.nd ho)).imp fun hne e => hne (by injection e)
  · intro p
    rw [List.mem_map]
    constructor
    · rintro ⟨s, hs, rfl⟩
      exact ⟨rfl, (h.mem s).1 ((perm_all ho).1 hs)⟩
    · rintro ⟨h1, h2⟩
      exact ⟨p.2, (perm_all ho).2 ((h.mem _).2 h2), by rw [← h1]⟩
theorem at_len (hv : ∀ w ∈ W, w.length ≤ 32) (hn : W.length ≤ 64) {i : Nat} {L : List Rc} (h : AtL W i L) : L.length ≤ 2113 := by
  have := List.Nodup.length_le_of_subset (l₁ := L) (l₂ := (sufL W).map fun s => (([], s) : Rc)) h.nd fun p hp => by
    obtain ⟨h1, y, hy, _, h2⟩ := (h.mem p).1 hp
    exact List.mem_map.2 ⟨p.2, suf_run (fun t ht => by rw [List.mem_singleton.1 ht]; exact sfx_mem.2 (.inr ⟨_, W_mem hy, List.suffix_refl _⟩)) h2, by rw [← h1]⟩
  rw [List.length_map] at this
  exact Nat.le_trans this (sfx_len hv hn)
end
end Go.Proofs.Ytoafgeobhhlplaa
