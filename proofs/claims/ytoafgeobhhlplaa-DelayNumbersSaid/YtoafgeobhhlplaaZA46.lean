/- Parts of the proof: VQ. -/
import Derived.Test.YtoafgeobhhlplaaZA21
import Derived.Test.YtoafgeobhhlplaaZA45
namespace Go.Proofs.Ytoafgeobhhlplaa
set_option linter.unusedSimpArgs false
set_option linter.unusedVariables false
open Go Go.Lift Go.Proofs
theorem placeR_in (l : List Wd) (s : Wd) (hl : l.length ≤ 1000000) (h : s ∈ l) : PC Try.prog 45 [strs l, .str s] (.int .i64 (l.idxOf s : Nat)) := by
  have h1 := placeR_c l s hl
  rw [(plS_mem h).1] at h1
  exact h1
theorem eqU_zero {A B : List Nat} : eqU A B 0 = true := rfl
theorem eqU_next {A B : List Nat} {i : Nat} : eqU A B (i + 1) = (eqU A B i && decide (((A.getD i 0 : Nat) : Int) = (B.getD i 0 : Nat))) := by
  show (_ && decide (A.getD i 0 = B.getD i 0)) = _
  congr 1; rw [Bool.eq_iff_iff, decide_eq_true_eq, decide_eq_true_eq]; omega
theorem nxA_put {W l : List Wd} {now : List Nat} {r k p : Nat} {m : Int} (hk : k < W.length) (hm : m = ((mK l now (l.getD r []) (W.getD k []) : Nat) : Int)) : (if p = r then AVal.int .i64 (max ((nxA W l now r k r : Nat) : Int) m) else .int .i64 ((nxA W l now r k p : Nat) : Int)) = .int .i64 ((nxA W l now r (k + 1) p : Nat) : Int) := by
  rw [← nxA_st (p := p) hk rfl]
  by_cases h : p = r
  · rw [if_pos h, if_pos h, hm, nxA_self]
    congr 1; omega
  · rw [if_neg h, if_neg h]
set_option maxRecDepth 100000 in
set_option maxHeartbeats 1000000 in
theorem lengthsR_c (c : Cd) (hv : CdOK c) (l : List Wd) (hl : l.length ≤ 2112) (hlw : ∀ r ∈ l, r.length ≤ 32) (hcl : [] ∉ l → Clsd c.ws l) : PC Try.prog 43 [.agg 2 (cdF c), strs l] (.tup 2 (fun j => [ints (lnL c.ws l), .bool (lenF c.ws l).isSome].getD j .any)) := by
 have hML : maxLen = 9223372036854775807 := by decide
 have hWn := hv.n
 refine zp Try.func43 fun G hG hR => ?_
 refine zs (zr ?_ (h := by intro c K h; simp [hG, List.getD_cons_zero, List.getD_cons_succ, -List.getD_eq_getElem?_getD, pureOp, eqU_zero]; first | exact z1 c h | exact ⟨.mk c, h⟩))
 refine zs (zs (zL (zl 1 ?_ (h := by intro c K h; simp [hG, List.getD_cons_zero, List.getD_cons_succ, -List.getD_eq_getElem?_getD, pureOp, eqU_zero]; first | exact z1 c h | exact ⟨.mk c, h⟩))))
 refine zc cal45 (placeR_c l [] (by omega)) ?_ (a := fun hg => by simp [hG, List.getD_cons_zero, List.getD_cons_succ, -List.getD_eq_getElem?_getD, pureOp, eqU_zero]) (b := fun hg => by simp [hG, List.getD_cons_zero, List.getD_cons_succ, -List.getD_eq_getElem?_getD, pureOp, eqU_zero]) (h := by intro K h; simp [hG, List.getD_cons_zero, List.getD_cons_succ, -List.getD_eq_getElem?_getD, pureOp, eqU_zero]; exact h)
 refine zl 1 ?_ (h := by intro c K h; simp [hG, List.getD_cons_zero, List.getD_cons_succ, -List.getD_eq_getElem?_getD, pureOp, eqU_zero]; first | exact z1 c h | exact ⟨.mk c, h⟩)
 refine zN (zy (fun hb17 => ?_) fun hb17 => ?_)
 · refine zs (zr ?_ (h := by intro c K h; simp [hG, List.getD_cons_zero, List.getD_cons_succ, -List.getD_eq_getElem?_getD, pureOp, eqU_zero]; first | exact z1 c h | exact ⟨.mk c, h⟩))
   refine zt ?_
   refine RetOK_of ?_
   simp [hG, List.getD_cons_zero, List.getD_cons_succ, -List.getD_eq_getElem?_getD, pureOp, eqU_zero]
   have h := plS_pos.1 hb17; rw [lnL_none (lenF_in h), lenF_in h]; exact ⟨rfl, rfl⟩
 have h0 : [] ∉ l := fun h => by have := plS_pos.2 h; omega
 have hC := hcl h0
 refine zk (zs (zr ?_ (h := by intro c K h; simp [hG, List.getD_cons_zero, List.getD_cons_succ, -List.getD_eq_getElem?_getD, pureOp, eqU_zero]; first | exact z1 c h | exact ⟨.mk c, h⟩)))
 refine zs (zs (zr ?_ (h := by intro c K h; simp [hG, List.getD_cons_zero, List.getD_cons_succ, -List.getD_eq_getElem?_getD, pureOp, eqU_zero]; first | exact z1 c h | exact ⟨.mk c, h⟩)))
 refine zb ?_
 refine awpS_loop (α := Nat) (fun t => ⟨[(1, strs l), (2, .vptr 2 (cdF c) 0), (6, .sl (0, 0) 0 l.length), (7, .int .i64 (t : Nat))], [(0, .one (.arr l.length 1 (fun p _ => .int .i64 (((itN c.ws l t).getD p 0 : Nat) : Int))))], 1⟩) (fun t => t ≤ l.length + 2 ∧ ∀ j, j < t → itN c.ws l j ≠ itN c.ws l (j + 1)) (fun t => l.length + 2 - t) (0) (⟨Nat.zero_le _, fun j hj => absurd hj (Nat.not_lt_zero _)⟩) ?_ ?_
 · exact zw (fun k => if k = 0 then 1 else k) (fun k => k == 0) (fun _ => false) (e := by simp [hG, List.getD_cons_zero, List.getD_cons_succ, -List.getD_eq_getElem?_getD, pureOp, eqU_zero]) (h := by simp [hG, pureOp, List.getD_cons_zero, List.getD_cons_succ, -List.getD_eq_getElem?_getD]; exact fun p hp => by rw [itN_zero]; rfl)
 rintro t ⟨ht, hn⟩
 refine zs (zs (zr ?_ (h := by intro c K h; simp [hG, List.getD_cons_zero, List.getD_cons_succ, -List.getD_eq_getElem?_getD, pureOp, eqU_zero]; first | exact z1 c h | exact ⟨.mk c, h⟩)))
 refine zy (fun hb25 => ?_) fun hb25 => ?_
 · have hbd := fun i => itN_le (W := c.ws) (n := 32) hv.len (l := l) t i
   refine zk (zs (zb (zs (zr ?_ (h := by intro c K h; simp [hG, List.getD_cons_zero, List.getD_cons_succ, -List.getD_eq_getElem?_getD, pureOp, eqU_zero]; first | exact z1 c h | exact ⟨.mk c, h⟩)))))
   refine zs (zs (zr ?_ (h := by intro c K h; simp [hG, List.getD_cons_zero, List.getD_cons_succ, -List.getD_eq_getElem?_getD, pureOp, eqU_zero]; first | exact z1 c h | exact ⟨.mk c, h⟩)))
   refine zb ?_
   refine awpS_loop (α := Nat) (fun r => ⟨[(1, strs l), (2, .vptr 2 (cdF c) 0), (6, .sl (0, 0) 0 l.length), (7, .int .i64 (t : Nat)), (8, .sl (1, 0) 0 l.length), (9, .int .i64 (r : Nat))], [(0, .one (.arr l.length 1 (fun p _ => .int .i64 (((itN c.ws l t).getD p 0 : Nat) : Int)))), (1, .one (.arr l.length 1 (fun p _ => .int .i64 ((nxA c.ws l (itN c.ws l t) r 0 p : Nat) : Int))))], 2⟩) (fun r => r ≤ l.length) (fun r => l.length - r) (0) (Nat.zero_le _) ?_ ?_
   · exact zi (e := by simp [hG, List.getD_cons_zero, List.getD_cons_succ, -List.getD_eq_getElem?_getD, pureOp, eqU_zero]) (h := by simp [hG, pureOp, List.getD_cons_zero, List.getD_cons_succ, -List.getD_eq_getElem?_getD]; exact fun p hp => by rw [nxA_zero]; rfl)
   rintro r hr
   refine zs (zs (zr ?_ (h := by intro c K h; simp [hG, List.getD_cons_zero, List.getD_cons_succ, -List.getD_eq_getElem?_getD, pureOp, eqU_zero]; first | exact z1 c h | exact ⟨.mk c, h⟩)))
   refine zy (fun hb34 => ?_) fun hb34 => ?_
   · have hrm := q_mem hb34
     have hrl := hlw _ hrm
     refine zk (zs (zb (zs (zr ?_ (h := by intro c K h; simp [hG, List.getD_cons_zero, List.getD_cons_succ, -List.getD_eq_getElem?_getD, pureOp, eqU_zero]; first | exact z1 c h | exact ⟨.mk c, h⟩)))))
     refine zb ?_
     refine awpS_loop (α := Nat) (fun k => ⟨[(1, strs l), (2, .vptr 2 (cdF c) 0), (6, .sl (0, 0) 0 l.length), (7, .int .i64 (t : Nat)), (8, .sl (1, 0) 0 l.length), (9, .int .i64 (r : Nat)), (10, .int .i64 (k : Nat))], [(0, .one (.arr l.length 1 (fun p _ => .int .i64 (((itN c.ws l t).getD p 0 : Nat) : Int)))), (1, .one (.arr l.length 1 (fun p _ => .int .i64 ((nxA c.ws l (itN c.ws l t) r k p : Nat) : Int))))], 2⟩) (fun k => k ≤ c.ws.length) (fun k => c.ws.length - k) (0) (Nat.zero_le _) ?_ ?_
     · exact zi (e := by simp [hG, List.getD_cons_zero, List.getD_cons_succ, -List.getD_eq_getElem?_getD, pureOp, eqU_zero]) (h := by simp [hG, List.getD_cons_zero, List.getD_cons_succ, -List.getD_eq_getElem?_getD, pureOp, eqU_zero])
     rintro k hk
     refine zs (zs (zr ?_ (h := by intro c K h; simp [hG, List.getD_cons_zero, List.getD_cons_succ, -List.getD_eq_getElem?_getD, pureOp, eqU_zero]; first | exact z1 c h | exact ⟨.mk c, h⟩)))
     refine zy (fun hb41 => ?_) fun hb41 => ?_
     · have hwm := W_mem hb41
       have hxl := hv.len _ hwm
       have hcm := (cmn_le (x := (l.getD r [])) (y := (c.ws.getD k []))).2
       refine zk (zs (zb (zs (zr ?_ (h := by intro c K h; simp [hG, List.getD_cons_zero, List.getD_cons_succ, -List.getD_eq_getElem?_getD, pureOp, eqU_zero]; first | exact z1 c h | exact ⟨.mk c, h⟩)))))
       refine zs (zL (zl 5 ?_ (h := by intro c K h; simp [hG, List.getD_cons_zero, List.getD_cons_succ, -List.getD_eq_getElem?_getD, pureOp, eqU_zero]; first | exact z1 c h | exact ⟨.mk c, h⟩)))
       refine zc cal71 (commonR_c (l.getD r []) (c.ws.getD k []) (by omega)) ?_ (a := fun hg => by simp [hG, List.getD_cons_zero, List.getD_cons_succ, -List.getD_eq_getElem?_getD, pureOp, eqU_zero]) (b := fun hg => by simp [hG, List.getD_cons_zero, List.getD_cons_succ, -List.getD_eq_getElem?_getD, pureOp, eqU_zero]) (h := by intro K h; simp [hG, List.getD_cons_zero, List.getD_cons_succ, -List.getD_eq_getElem?_getD, pureOp, eqU_zero]; exact h)
       refine zl 1 ?_ (h := by intro c K h; simp [hG, List.getD_cons_zero, List.getD_cons_succ, -List.getD_eq_getElem?_getD, pureOp, eqU_zero]; first | exact z1 c h | exact ⟨.mk c, h⟩)
       refine zN (zs (zs (zL (zl 5 ?_ (h := by intro c K h; simp [hG, List.getD_cons_zero, List.getD_cons_succ, -List.getD_eq_getElem?_getD, pureOp, eqU_zero]; first | exact z1 c h | exact ⟨.mk c, h⟩)))))
       refine zc cal44 (pfxR_c (l.getD r []) (c.ws.getD k [])) ?_ (a := fun hg => by simp [hG, List.getD_cons_zero, List.getD_cons_succ, -List.getD_eq_getElem?_getD, pureOp, eqU_zero]) (b := fun hg => by simp [hG, List.getD_cons_zero, List.getD_cons_succ, -List.getD_eq_getElem?_getD, pureOp, eqU_zero]) (h := by intro K h; simp [hG, List.getD_cons_zero, List.getD_cons_succ, -List.getD_eq_getElem?_getD, pureOp, eqU_zero]; exact h)
       refine zN (zy (fun hb60 => ?_) fun hb60 => ?_)
       · have hpl := List.IsPrefix.length_le hb60
         have hmem := (hC.step _ hrm _ hwm).1 hb60
         have hix := (plS_mem hmem).2.1
         have hb1 := hbd (l.idxOf ((l.getD r []).drop (c.ws.getD k []).length))
         have hmk := mK_in (l := l) (now := (itN c.ws l t)) hb60
         refine zL (zl 10 ?_ (h := by intro c K h; simp [hG, List.getD_cons_zero, List.getD_cons_succ, -List.getD_eq_getElem?_getD, pureOp, eqU_zero]; first | exact z1 c h | exact ⟨.mk c, h⟩))
         refine zc cal45 (placeR_in l ((l.getD r []).drop (c.ws.getD k []).length) (by omega) hmem) ?_ (a := fun hg => by simp [hG, List.getD_cons_zero, List.getD_cons_succ, -List.getD_eq_getElem?_getD, pureOp, eqU_zero]) (b := fun hg => by simp [hG, List.getD_cons_zero, List.getD_cons_succ, -List.getD_eq_getElem?_getD, pureOp, eqU_zero]) (h := by intro K h; simp [hG, List.getD_cons_zero, List.getD_cons_succ, -List.getD_eq_getElem?_getD, pureOp, eqU_zero]; exact h)
         refine zl 4 ?_ (h := by intro c K h; simp [hG, List.getD_cons_zero, List.getD_cons_succ, -List.getD_eq_getElem?_getD, pureOp, eqU_zero]; first | exact z1 c h | exact ⟨.mk c, h⟩)
         refine zN (zr ?_ (h := by intro c K h; simp [hG, List.getD_cons_zero, List.getD_cons_succ, -List.getD_eq_getElem?_getD, pureOp, eqU_zero]; first | exact z1 c h | exact ⟨.mk c, h⟩))
         refine zn (zbn (zr ?_ (h := by intro c K h; simp [hG, List.getD_cons_zero, List.getD_cons_succ, -List.getD_eq_getElem?_getD, pureOp, eqU_zero]; first | exact z1 c h | exact ⟨.mk c, h⟩)))
         refine zn ?_
         refine round_end (k + 1) (by omega) (by omega) ?_
         exact zi (e := by simp [hG, List.getD_cons_zero, List.getD_cons_succ, -List.getD_eq_getElem?_getD, pureOp, eqU_zero]) (h := by simp [hG, pureOp, List.getD_cons_zero, List.getD_cons_succ, -List.getD_eq_getElem?_getD]; exact fun p _ => nxA_put hb41 (by omega))
       refine zs (zL (zl 5 ?_ (h := by intro c K h; simp [hG, List.getD_cons_zero, List.getD_cons_succ, -List.getD_eq_getElem?_getD, pureOp, eqU_zero]; first | exact z1 c h | exact ⟨.mk c, h⟩)))
       refine zc cal44 (pfxR_c (c.ws.getD k []) (l.getD r [])) ?_ (a := fun hg => by simp [hG, List.getD_cons_zero, List.getD_cons_succ, -List.getD_eq_getElem?_getD, pureOp, eqU_zero]) (b := fun hg => by simp [hG, List.getD_cons_zero, List.getD_cons_succ, -List.getD_eq_getElem?_getD, pureOp, eqU_zero]) (h := by intro K h; simp [hG, List.getD_cons_zero, List.getD_cons_succ, -List.getD_eq_getElem?_getD, pureOp, eqU_zero]; exact h)
       refine zN (zy (fun hb80 => ?_) fun hb80 => ?_)
       · have hpl := List.IsPrefix.length_le hb80
         have hmem := (hC.step _ hrm _ hwm).2 hb60 hb80
         have hix := (plS_mem hmem).2.1
         have hb1 := hbd (l.idxOf ((c.ws.getD k []).drop (l.getD r []).length))
         have hmk := mK_ov (l := l) (now := (itN c.ws l t)) hb60 hb80
         refine zL (zl 10 ?_ (h := by intro c K h; simp [hG, List.getD_cons_zero, List.getD_cons_succ, -List.getD_eq_getElem?_getD, pureOp, eqU_zero]; first | exact z1 c h | exact ⟨.mk c, h⟩))
         refine zc cal45 (placeR_in l ((c.ws.getD k []).drop (l.getD r []).length) (by omega) hmem) ?_ (a := fun hg => by simp [hG, List.getD_cons_zero, List.getD_cons_succ, -List.getD_eq_getElem?_getD, pureOp, eqU_zero]) (b := fun hg => by simp [hG, List.getD_cons_zero, List.getD_cons_succ, -List.getD_eq_getElem?_getD, pureOp, eqU_zero]) (h := by intro K h; simp [hG, List.getD_cons_zero, List.getD_cons_succ, -List.getD_eq_getElem?_getD, pureOp, eqU_zero]; exact h)
         refine zl 4 ?_ (h := by intro c K h; simp [hG, List.getD_cons_zero, List.getD_cons_succ, -List.getD_eq_getElem?_getD, pureOp, eqU_zero]; first | exact z1 c h | exact ⟨.mk c, h⟩)
         refine zN (zr ?_ (h := by intro c K h; simp [hG, List.getD_cons_zero, List.getD_cons_succ, -List.getD_eq_getElem?_getD, pureOp, eqU_zero]; first | exact z1 c h | exact ⟨.mk c, h⟩))
         refine zn (zbn (zr ?_ (h := by intro c K h; simp [hG, List.getD_cons_zero, List.getD_cons_succ, -List.getD_eq_getElem?_getD, pureOp, eqU_zero]; first | exact z1 c h | exact ⟨.mk c, h⟩)))
         refine zn ?_
         refine round_end (k + 1) (by omega) (by omega) ?_
         exact zi (e := by simp [hG, List.getD_cons_zero, List.getD_cons_succ, -List.getD_eq_getElem?_getD, pureOp, eqU_zero]) (h := by simp [hG, pureOp, List.getD_cons_zero, List.getD_cons_succ, -List.getD_eq_getElem?_getD]; exact fun p _ => nxA_put hb41 (by omega))
       have hmk := mK_off (l := l) (now := (itN c.ws l t)) hb60 hb80
       refine zk (zr ?_ (h := by intro c K h; simp [hG, List.getD_cons_zero, List.getD_cons_succ, -List.getD_eq_getElem?_getD, pureOp, eqU_zero]; first | exact z1 c h | exact ⟨.mk c, h⟩))
       refine zn (zbn (zr ?_ (h := by intro c K h; simp [hG, List.getD_cons_zero, List.getD_cons_succ, -List.getD_eq_getElem?_getD, pureOp, eqU_zero]; first | exact z1 c h | exact ⟨.mk c, h⟩)))
       refine zn ?_
       refine round_end (k + 1) (by omega) (by omega) ?_
       exact zi (e := by simp [hG, List.getD_cons_zero, List.getD_cons_succ, -List.getD_eq_getElem?_getD, pureOp, eqU_zero]) (h := by simp [hG, pureOp, List.getD_cons_zero, List.getD_cons_succ, -List.getD_eq_getElem?_getD]; exact fun p _ => nxA_put hb41 (by omega))
     obtain rfl : k = c.ws.length := (by omega)
     refine zx (ztx (zbx (zn (zbn (zr ?_ (h := by intro c K h; simp [hG, List.getD_cons_zero, List.getD_cons_succ, -List.getD_eq_getElem?_getD, pureOp, eqU_zero]; first | exact z1 c h | exact ⟨.mk c, h⟩))))))
     refine zn ?_
     refine round_end (r + 1) (by omega) (by omega) ?_
     exact zi (e := by simp [hG, List.getD_cons_zero, List.getD_cons_succ, -List.getD_eq_getElem?_getD, pureOp, eqU_zero]) (h := by simp [hG, pureOp, List.getD_cons_zero, List.getD_cons_succ, -List.getD_eq_getElem?_getD]; exact fun p hp => by rw [nxA_row hp])
   obtain rfl : r = l.length := (by omega)
   refine zx (ztx (zbx (zs (zr ?_ (h := by intro c K h; simp [hG, List.getD_cons_zero, List.getD_cons_succ, -List.getD_eq_getElem?_getD, pureOp, eqU_zero]; first | exact z1 c h | exact ⟨.mk c, h⟩)))))
   refine zs (zs (zr ?_ (h := by intro c K h; simp [hG, List.getD_cons_zero, List.getD_cons_succ, -List.getD_eq_getElem?_getD, pureOp, eqU_zero]; first | exact z1 c h | exact ⟨.mk c, h⟩)))
   refine zb ?_
   refine awpS_loop (α := Nat) (fun i => ⟨[(1, strs l), (2, .vptr 2 (cdF c) 0), (6, .sl (0, 0) 0 l.length), (7, .int .i64 (t : Nat)), (8, .sl (1, 0) 0 l.length), (13, .bool (eqU (itN c.ws l t) (itN c.ws l (t + 1)) i)), (14, .int .i64 (i : Nat))], [(0, .one (.arr l.length 1 (fun p _ => .int .i64 (((itN c.ws l t).getD p 0 : Nat) : Int)))), (1, .one (.arr l.length 1 (fun p _ => .int .i64 (((itN c.ws l (t + 1)).getD p 0 : Nat) : Int))))], 2⟩) (fun i => i ≤ l.length) (fun i => l.length - i) (0) (Nat.zero_le _) ?_ ?_
   · exact zi (e := by simp [hG, List.getD_cons_zero, List.getD_cons_succ, -List.getD_eq_getElem?_getD, pureOp, eqU_zero]) (h := by simp [hG, pureOp, List.getD_cons_zero, List.getD_cons_succ, -List.getD_eq_getElem?_getD]; exact fun p hp => by rw [nxA_full hp])
   rintro i hi
   refine zs (zs (zr ?_ (h := by intro c K h; simp [hG, List.getD_cons_zero, List.getD_cons_succ, -List.getD_eq_getElem?_getD, pureOp, eqU_zero]; first | exact z1 c h | exact ⟨.mk c, h⟩)))
   refine zy (fun hb107 => ?_) fun hb107 => ?_
   · refine zk (zs (zb ?_))
     refine awpS_draw hR mixed [] ⟨[], [], []⟩ fun mu0 => ?_
     refine za [0, 1, 2, 3, 4, 5, 6, 7, 8, 9, 10, 11, 12] [] 0 [12, 11, 10, 9, 8, 7, 6, 5, 4, 3, 2, 1, 0] ?_ (h := by intro c K h; simp [hG, List.getD_cons_zero, List.getD_cons_succ, -List.getD_eq_getElem?_getD, pureOp, eqU_zero]; first | exact z1 c h | exact ⟨.mk c, h⟩)
     refine awpA_done (by decide +kernel) ?_
     refine zn (zbn (zr ?_ (h := by intro c K h; simp [hG, List.getD_cons_zero, List.getD_cons_succ, -List.getD_eq_getElem?_getD, pureOp, eqU_zero]; first | exact z1 c h | exact ⟨.mk c, h⟩)))
     refine zn ?_
     refine round_end (i + 1) (by omega) (by omega) ?_
     exact zi (e := by rw [eqU_next]; simp [hG, pureOp, List.getD_cons_zero, List.getD_cons_succ, -List.getD_eq_getElem?_getD]) (h := by simp [hG, List.getD_cons_zero, List.getD_cons_succ, -List.getD_eq_getElem?_getD, pureOp, eqU_zero])
   obtain rfl : i = l.length := (by omega)
   refine zx (ztx (zbx (zs (zs (zr ?_ (h := by intro c K h; simp [hG, List.getD_cons_zero, List.getD_cons_succ, -List.getD_eq_getElem?_getD, pureOp, eqU_zero]; first | exact z1 c h | exact ⟨.mk c, h⟩))))))
   refine zy (fun hb122 => ?_) fun hb122 => ?_
   · have hfix := (eqU_full (itN_len _) (itN_len _)).1 hb122
     refine zs (zr ?_ (h := by intro c K h; simp [hG, List.getD_cons_zero, List.getD_cons_succ, -List.getD_eq_getElem?_getD, pureOp, eqU_zero]; first | exact z1 c h | exact ⟨.mk c, h⟩))
     refine zt (zbt (ztt (zbt ?_)))
     refine RetOK_of ?_
     simp [hG, List.getD_cons_zero, List.getD_cons_succ, -List.getD_eq_getElem?_getD, pureOp, eqU_zero]
     have hs := lenF_at h0 (by omega) hn hfix; rw [hs]; exact ⟨⟨(lnL_len hs).symm, by rw [lnL_len hs]; exact Nat.le_refl _, fun p hp => by rw [lnL_at hs (by rw [lnL_len hs] at hp; exact hp)]⟩, rfl⟩
   have hfix : itN c.ws l t ≠ itN c.ws l (t + 1) := (fun e => by have h := (eqU_full (itN_len _) (itN_len _)).2 e; rw [h] at hb122; cases hb122)
   refine zk (zr ?_ (h := by intro c K h; simp [hG, List.getD_cons_zero, List.getD_cons_succ, -List.getD_eq_getElem?_getD, pureOp, eqU_zero]; first | exact z1 c h | exact ⟨.mk c, h⟩))
   refine zn (zbn (zr ?_ (h := by intro c K h; simp [hG, List.getD_cons_zero, List.getD_cons_succ, -List.getD_eq_getElem?_getD, pureOp, eqU_zero]; first | exact z1 c h | exact ⟨.mk c, h⟩)))
   refine zn ?_
   refine round_end (t + 1) (⟨by omega, step_all hn hfix⟩) (by omega) ?_
   exact zw (fun k => if k = 0 then 1 else k) (fun _ => false) (fun _ => false) (e := by simp [hG, List.getD_cons_zero, List.getD_cons_succ, -List.getD_eq_getElem?_getD, pureOp, eqU_zero]) (h := by simp [hG, List.getD_cons_zero, List.getD_cons_succ, -List.getD_eq_getElem?_getD, pureOp, eqU_zero])
 refine zx (ztx (zbx (zs (zr ?_ (h := by intro c K h; simp [hG, List.getD_cons_zero, List.getD_cons_succ, -List.getD_eq_getElem?_getD, pureOp, eqU_zero]; first | exact z1 c h | exact ⟨.mk c, h⟩)))))
 refine zt ?_
 refine RetOK_of ?_
 simp [hG, List.getD_cons_zero, List.getD_cons_succ, -List.getD_eq_getElem?_getD, pureOp, eqU_zero]
 have hs := lenF_over h0 (fun j hj => hn j (by omega)); rw [lnL_none hs, hs]; exact ⟨rfl, rfl⟩
end Go.Proofs.Ytoafgeobhhlplaa
