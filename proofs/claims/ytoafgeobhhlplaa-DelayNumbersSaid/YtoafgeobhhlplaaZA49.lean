/- Parts of the proof: VV. -/
import Derived.Test.YtoafgeobhhlplaaZA21
import Derived.Test.YtoafgeobhhlplaaZA44
import Derived.Test.YtoafgeobhhlplaaZA47
import Derived.Test.YtoafgeobhhlplaaZA48
namespace Go.Proofs.Ytoafgeobhhlplaa
set_option linter.unusedSimpArgs false
set_option linter.unusedVariables false
open Go Go.Lift Go.Proofs
@[simp] theorem rxO_none : rxO none = 0 := rfl
@[simp] theorem ryO_none : ryO none = [] := rfl
@[simp] theorem rxO_some {b : Nat} {w : Wd} : rxO (some (b, w)) = b := rfl
@[simp] theorem ryO_some {b : Nat} {w : Wd} : ryO (some (b, w)) = w := rfl
theorem rwA_zero {W : List Wd} {q d n : Nat} : rwA W q d n 0 = none := rfl
theorem one_lt {i : Nat} (hi : i < 16) : ([48, 49, 50, 51, 52, 53, 54, 55, 56, 57, 97, 98, 99, 100, 101, 102].take (i + 1)).drop i = [letters.getD i 0] := by
  rcases i with _ | _ | _ | _ | _ | _ | _ | _ | _ | _ | _ | _ | _ | _ | _ | _ | i <;> first | rfl | omega
theorem dlD_pos {c : Cd} : 0 ≤ dlD c := by
  unfold dlD; split <;> omega
theorem dlB_ar {c : Cd} (h : dlB c = true) : arN c = 0 ∧ cdN c = 0 := by
  unfold dlB at h
  rw [Bool.and_eq_true, decide_eq_true_eq] at h
  exact ⟨if_pos h.1, h.1⟩
theorem wo_zero {c : Cd} (h : dlB c = true ∧ dlD c ≠ 0) (hd : dlD c ≤ 100) : bdN c (dlD c - 1) = arN c ∧ arN c = 0 := by
  obtain ⟨h1, h2⟩ := dlB_ar h.1
  have := dlD_pos (c := c)
  refine ⟨?_, h1⟩
  rw [h1]
  unfold bdN
  rw [if_neg (fun k => k h2), if_neg (by omega)]
theorem wo_no {c : Cd} (h : ¬ (dlB c = true ∧ dlD c ≠ 0)) : woW c = [] ∧ woB c = false := by
  unfold woW woB; rw [if_neg h, if_neg h]; exact ⟨rfl, rfl⟩
theorem wo_yes {c : Cd} (h : dlB c = true ∧ dlD c ≠ 0) : woW c = wsW c (dlD c - 1) ∧ woB c = wsB c (dlD c - 1) := by
  unfold woW woB; rw [if_pos h, if_pos h]; exact ⟨rfl, rfl⟩
def LngC (c : Cd) (x n k : Nat) : Prop := ∀ w : Wd, w.length + k = n → PC Try.prog 54 [.agg 2 (cdF c), .str w, .int .i64 (x : Nat), .int .i64 (n : Nat)] (.tup 2 (fun j => [.str ((lngW c.ws c.q.toNat x k w).getD []), .bool (lngW c.ws c.q.toNat x k w).isSome].getD j .any))
set_option maxRecDepth 100000 in
theorem longerR_c (c : Cd) (hl : c.ws.length ≤ maxLen) (hv : CdOK c) (x : Nat) (hx : x < c.ws.length) (n : Nat) (hn : n ≤ 100000) (k0 : Nat) (ih : ∀ k, k < k0 → LngC c x n k) (w : List UInt8) (hwk : w.length + k0 = n) : PC Try.prog 54 [.agg 2 (cdF c), .str w, .int .i64 (x : Nat), .int .i64 (n : Nat)] (.tup 2 (fun j => [.str ((lngW c.ws c.q.toNat x k0 w).getD []), .bool (lngW c.ws c.q.toNat x k0 w).isSome].getD j .any)) := by
 have hML : maxLen = 9223372036854775807 := by decide
 have hWn := hv.n
 have hq16 := hv.q
 refine zp Try.func54 fun G hG hR => ?_
 refine zs (zrP ?_)
 refine zs (zs (zL (zlP 3 ?_)))
 refine zcP cal76 (openR_c c hl hv w (by omega) x hx) ?_
 refine zlP 1 ?_
 refine zN (zy (fun hb17 => ?_) fun hb17 => ?_)
 · have hop : opB c.ws x w = false := (by simpa using hb17)
   refine zs (zrP ?_)
   refine zt ?_
   refine RetOK_of ?_
   simp [hG, List.getD_cons_zero, List.getD_cons_succ, -List.getD_eq_getElem?_getD, pureOp]
   rw [lng_shut hop]; exact ⟨rfl, rfl⟩
 have hop : opB c.ws x w = true := (by simpa using hb17)
 refine zk (zs (zs (zrP ?_)))
 refine zy (fun hb21 => ?_) fun hb21 => ?_
 · obtain rfl : k0 = 0 := (by omega)
   refine zs (zrP ?_)
   refine zt ?_
   refine RetOK_of ?_
   simp [hG, List.getD_cons_zero, List.getD_cons_succ, -List.getD_eq_getElem?_getD, pureOp]
   rw [lng_end hop]; exact ⟨rfl, rfl⟩
 obtain ⟨k1, rfl⟩ : ∃ k, k0 = k + 1 := ⟨k0 - 1, by omega⟩
 refine zk (zs (zs (zrP ?_)))
 refine zb ?_
 refine awpS_loop (α := Nat) (fun i => ⟨[(1, .str w), (2, .int .i64 (x : Nat)), (3, .int .i64 (n : Nat)), (4, .vptr 2 (cdF c) 0), (10, .int .i64 (i : Nat))], [], 0⟩) (fun i => i ≤ c.q.toNat ∧ ∀ j, j < i → lngW c.ws c.q.toNat x k1 (w ++ [letters.getD j 0]) = none) (fun i => c.q.toNat - i) (0) (⟨Nat.zero_le _, fun j hj => absurd hj (Nat.not_lt_zero _)⟩) ?_ ?_
 · exact zwP (id) (fun k => k == 0) (fun _ => false)
 rintro i ⟨hi, hnn⟩
 refine zs (zs (zrP ?_))
 refine zy (fun hb26 => ?_) fun hb26 => ?_
 · have hi16 : i < 16 := (by omega)
   have hlt := one_lt hi16
   refine zk (zs (zb (zs ?_)))
   refine awpS_draw hR mixed [] ⟨[], [], []⟩ fun mu0 => ?_
   refine zaP [0, 1, 2, 3, 4, 5, 6, 7, 8] [] 6 [8, 7, 6, 5, 4, 3, 2, 1, 0] ?_
   refine awpA_only (fuel := 5) (i := 9) (by decide +kernel) ?_
   refine zeP cal54 (ih k1 (by omega) (w ++ [letters.getD i 0]) (by rw [List.length_append, List.length_singleton]; omega)) ?_ (b := fun hg => by simp [hG, List.getD_cons_zero, List.getD_cons_succ, -List.getD_eq_getElem?_getD]; first | exact hlt | (rw [hlt]) | simp [hlt])
   refine zaP [10, 11, 12, 13, 14] [] 0 [14, 13, 12, 11, 10, 9, 8, 7, 6, 5, 4, 3, 2, 1, 0] ?_
   refine awpA_done (by decide +kernel) ?_
   refine zs (zrP ?_)
   refine zy (fun hb42 => ?_) fun hb42 => ?_
   · obtain ⟨s, hs⟩ := Option.isSome_iff_exists.1 hb42
     have hh := lng_hit hop (show i < c.q.toNat by omega) hnn hs
     refine zs (zrP ?_)
     refine zt (zbt (ztt (zbt ?_)))
     refine RetOK_of ?_
     simp [hG, List.getD_cons_zero, List.getD_cons_succ, -List.getD_eq_getElem?_getD, pureOp]
     rw [hh, hs]; exact ⟨rfl, rfl⟩
   have hh : (lngW c.ws c.q.toNat x k1 (w ++ [letters.getD i 0])) = none := (by simpa using hb42)
   refine zk (zn (zbn (zrP ?_)))
   refine zn ?_
   refine round_end (i + 1) (⟨by omega, step_all hnn hh⟩) (by omega) ?_
   exact ziP
 obtain rfl : i = c.q.toNat := (by omega)
 refine zx (ztx (zbx (zs (zrP ?_))))
 refine zt ?_
 refine RetOK_of ?_
 simp [hG, List.getD_cons_zero, List.getD_cons_succ, -List.getD_eq_getElem?_getD, pureOp]
 rw [lng_miss hnn]; exact ⟨rfl, rfl⟩
theorem longer_all {c : Cd} (hl : c.ws.length ≤ maxLen) (hv : CdOK c) {x : Nat} (hx : x < c.ws.length) {n : Nat} (hn : n ≤ 100000) (k : Nat) : LngC c x n k := Nat.strongRecOn k fun k ih w hw => longerR_c c hl hv x hx n hn k ih w hw
set_option maxRecDepth 100000 in
theorem refWitness_c (c : Cd) (hl : c.ws.length ≤ maxLen) (n : Int) : PC Try.prog 25 [.agg 2 (cdF c), .int .i64 n] (.tup 5 (fun j => [.str (wsW c n), .int .i64 (wsX c n), .int .i64 (wsY c n), .bool (wsB c n), .int .i64 (bdN c n)].getD j .any)) := by
 have hML : maxLen = 9223372036854775807 := by decide
 refine zp Try.func25 fun G hG hR => ?_
 refine zs (zr ?_ (h := by intro c K h; simp [hG, List.getD_cons_zero, List.getD_cons_succ, -List.getD_eq_getElem?_getD, pureOp, rwA_zero, rxO_none, ryO_none, rxO_some, ryO_some]; first | exact z1 c h | exact ⟨.mk c, h⟩))
 refine zs (zs (zL (zl 1 ?_ (h := by intro c K h; simp [hG, List.getD_cons_zero, List.getD_cons_succ, -List.getD_eq_getElem?_getD, pureOp, rwA_zero, rxO_none, ryO_none, rxO_some, ryO_some]; first | exact z1 c h | exact ⟨.mk c, h⟩))))
 refine zc cal41 (checkR33_c c hl) ?_ (a := fun hg => by simp [hG, List.getD_cons_zero, List.getD_cons_succ, -List.getD_eq_getElem?_getD, pureOp, rwA_zero, rxO_none, ryO_none, rxO_some, ryO_some]) (b := fun hg => by simp [hG, List.getD_cons_zero, List.getD_cons_succ, -List.getD_eq_getElem?_getD, pureOp, rwA_zero, rxO_none, ryO_none, rxO_some, ryO_some]) (h := by intro K h; simp [hG, List.getD_cons_zero, List.getD_cons_succ, -List.getD_eq_getElem?_getD, pureOp, rwA_zero, rxO_none, ryO_none, rxO_some, ryO_some]; exact h)
 refine zl 1 ?_ (h := by intro c K h; simp [hG, List.getD_cons_zero, List.getD_cons_succ, -List.getD_eq_getElem?_getD, pureOp, rwA_zero, rxO_none, ryO_none, rxO_some, ryO_some]; first | exact z1 c h | exact ⟨.mk c, h⟩)
 refine zN (zy (fun hb18 => ?_) fun hb18 => ?_)
 · have hb1 : bdN c n = 1 := if_pos hb18
   refine zs (zr ?_ (h := by intro c K h; simp [hG, List.getD_cons_zero, List.getD_cons_succ, -List.getD_eq_getElem?_getD, pureOp, rwA_zero, rxO_none, ryO_none, rxO_some, ryO_some]; first | exact z1 c h | exact ⟨.mk c, h⟩))
   refine zt ?_
   refine RetOK_of ?_
   simp [hG, List.getD_cons_zero, List.getD_cons_succ, -List.getD_eq_getElem?_getD, pureOp, rwA_zero, rxO_none, ryO_none, rxO_some, ryO_some]
   obtain ⟨h1, h2, h3, h4⟩ := ws_err (n := n) (show bdN c n ≠ 0 by rw [hb1]; decide); rw [h1, h2, h3, h4, hb1]; simp
 have ho : cdN c = 0 := (by simpa using hb18)
 have hv := cd_ok ho
 refine zk (zs (zs (zr ?_ (h := by intro c K h; simp [hG, List.getD_cons_zero, List.getD_cons_succ, -List.getD_eq_getElem?_getD, pureOp, rwA_zero, rxO_none, ryO_none, rxO_some, ryO_some]; first | exact z1 c h | exact ⟨.mk c, h⟩))))
 refine zy (fun hb24 => ?_) fun hb24 => ?_
 · have hb1 : bdN c n = 2 := (if_neg (fun k => k ho)).trans (if_pos (by omega))
   refine zs (zr ?_ (h := by intro c K h; simp [hG, List.getD_cons_zero, List.getD_cons_succ, -List.getD_eq_getElem?_getD, pureOp, rwA_zero, rxO_none, ryO_none, rxO_some, ryO_some]; first | exact z1 c h | exact ⟨.mk c, h⟩))
   refine zt ?_
   refine RetOK_of ?_
   simp [hG, List.getD_cons_zero, List.getD_cons_succ, -List.getD_eq_getElem?_getD, pureOp, rwA_zero, rxO_none, ryO_none, rxO_some, ryO_some]
   obtain ⟨h1, h2, h3, h4⟩ := ws_err (n := n) (show bdN c n ≠ 0 by rw [hb1]; decide); rw [h1, h2, h3, h4, hb1]; simp
 have hb0 : bdN c n = 0 := (if_neg (fun k => k ho)).trans (if_neg (by omega))
 obtain ⟨e, rfl⟩ : ∃ e : Nat, n = (e : Int) := ⟨n.toNat, by omega⟩
 have he : e ≤ 4096 := (by omega)
 have hWn := hv.n
 refine zk (zs (zs (zr ?_ (h := by intro c K h; simp [hG, List.getD_cons_zero, List.getD_cons_succ, -List.getD_eq_getElem?_getD, pureOp, rwA_zero, rxO_none, ryO_none, rxO_some, ryO_some]; first | exact z1 c h | exact ⟨.mk c, h⟩))))
 refine zb ?_
 refine awpS_loop (α := Nat) (fun t => ⟨[(1, .int .i64 (e : Nat)), (2, .vptr 2 (cdF c) 0), (9, .int .i64 (t : Nat))], [], 0⟩) (fun t => 1 ≤ t ∧ t ≤ 33 ∧ ∀ k, 1 ≤ k → k < t → rwA c.ws c.q.toNat e k c.ws.length = none) (fun t => 33 - t) (1) (⟨Nat.le_refl _, by omega, fun k h1 h2 => absurd h1 (by omega)⟩) ?_ ?_
 · exact zw (id) (fun k => k == 0) (fun _ => false) (e := by simp [hG, List.getD_cons_zero, List.getD_cons_succ, -List.getD_eq_getElem?_getD, pureOp, rwA_zero, rxO_none, ryO_none, rxO_some, ryO_some]) (h := by simp [hG, List.getD_cons_zero, List.getD_cons_succ, -List.getD_eq_getElem?_getD, pureOp, rwA_zero, rxO_none, ryO_none, rxO_some, ryO_some])
 rintro t ⟨ht1, ht2, hno1⟩
 refine zs (zs (zr ?_ (h := by intro c K h; simp [hG, List.getD_cons_zero, List.getD_cons_succ, -List.getD_eq_getElem?_getD, pureOp, rwA_zero, rxO_none, ryO_none, rxO_some, ryO_some]; first | exact z1 c h | exact ⟨.mk c, h⟩)))
 refine zy (fun hb26 => ?_) fun hb26 => ?_
 · refine zk (zs (zb (zs (zr ?_ (h := by intro c K h; simp [hG, List.getD_cons_zero, List.getD_cons_succ, -List.getD_eq_getElem?_getD, pureOp, rwA_zero, rxO_none, ryO_none, rxO_some, ryO_some]; first | exact z1 c h | exact ⟨.mk c, h⟩)))))
   refine zs (zs (zr ?_ (h := by intro c K h; simp [hG, List.getD_cons_zero, List.getD_cons_succ, -List.getD_eq_getElem?_getD, pureOp, rwA_zero, rxO_none, ryO_none, rxO_some, ryO_some]; first | exact z1 c h | exact ⟨.mk c, h⟩)))
   refine zb ?_
   refine awpS_loop (α := Nat) (fun i => ⟨[(1, .int .i64 (e : Nat)), (2, .vptr 2 (cdF c) 0), (9, .int .i64 (t : Nat)), (10, .str (ryO (rwA c.ws c.q.toNat e t i))), (11, .int .i64 (rxO (rwA c.ws c.q.toNat e t i))), (12, .bool (rwA c.ws c.q.toNat e t i).isSome), (13, .int .i64 (i : Nat))], [], 0⟩) (fun i => i ≤ c.ws.length) (fun i => c.ws.length - i) (0) (Nat.zero_le _) ?_ ?_
   · exact zi (e := by simp [hG, List.getD_cons_zero, List.getD_cons_succ, -List.getD_eq_getElem?_getD, pureOp, rwA_zero, rxO_none, ryO_none, rxO_some, ryO_some]) (h := by simp [hG, List.getD_cons_zero, List.getD_cons_succ, -List.getD_eq_getElem?_getD, pureOp, rwA_zero, rxO_none, ryO_none, rxO_some, ryO_some])
   rintro i hi
   refine zs (zs (zr ?_ (h := by intro c K h; simp [hG, List.getD_cons_zero, List.getD_cons_succ, -List.getD_eq_getElem?_getD, pureOp, rwA_zero, rxO_none, ryO_none, rxO_some, ryO_some]; first | exact z1 c h | exact ⟨.mk c, h⟩)))
   refine zy (fun hb33 => ?_) fun hb33 => ?_
   · refine zk (zs (zb (zs (zs (zr ?_ (h := by intro c K h; simp [hG, List.getD_cons_zero, List.getD_cons_succ, -List.getD_eq_getElem?_getD, pureOp, rwA_zero, rxO_none, ryO_none, rxO_some, ryO_some]; first | exact z1 c h | exact ⟨.mk c, h⟩))))))
     refine zy (fun hb43 => ?_) fun hb43 => ?_
     · have hps := rwU_other (W := c.ws) (q := c.q.toNat) (d := e) (n := t) (k := i) (best := (rwA c.ws c.q.toNat e t i)) (fun h => by omega)
       refine zx (zbx (zr ?_ (h := by intro c K h; simp [hG, List.getD_cons_zero, List.getD_cons_succ, -List.getD_eq_getElem?_getD, pureOp, rwA_zero, rxO_none, ryO_none, rxO_some, ryO_some]; first | exact z1 c h | exact ⟨.mk c, h⟩)))
       refine zn ?_
       refine round_end (i + 1) (by omega) (by omega) ?_
       exact zi (e := by rw [rwA_succ, hps]; simp [hG, pureOp, List.getD_cons_zero, List.getD_cons_succ, -List.getD_eq_getElem?_getD]) (h := by simp [hG, List.getD_cons_zero, List.getD_cons_succ, -List.getD_eq_getElem?_getD, pureOp, rwA_zero, rxO_none, ryO_none, rxO_some, ryO_some])
     have htl : (c.ws.getD i []).length = t := (by omega)
     refine zk (zs ?_)
     refine awpS_draw hR mixed [] ⟨[], [], []⟩ fun mu0 => ?_
     refine za [0, 1, 2, 3, 4, 5, 6, 7, 8, 9] [] 6 [9, 8, 7, 6, 5, 4, 3, 2, 1, 0] ?_ (h := by intro c K h; simp [hG, List.getD_cons_zero, List.getD_cons_succ, -List.getD_eq_getElem?_getD, pureOp, rwA_zero, rxO_none, ryO_none, rxO_some, ryO_some]; first | exact z1 c h | exact ⟨.mk c, h⟩)
     refine awpA_only (fuel := 5) (i := 10) (by decide +kernel) ?_
     refine ze cal54 (longer_all hl hv hb33 (n := t + e) (by omega) e (c.ws.getD i []) (by omega)) ?_ (a := fun hg => by simp [hG, List.getD_cons_zero, List.getD_cons_succ, -List.getD_eq_getElem?_getD, pureOp, rwA_zero, rxO_none, ryO_none, rxO_some, ryO_some]) (b := fun hg => by simp [hG, List.getD_cons_zero, List.getD_cons_succ, -List.getD_eq_getElem?_getD, pureOp, rwA_zero, rxO_none, ryO_none, rxO_some, ryO_some]) (h := by intro K h; simp [hG, List.getD_cons_zero, List.getD_cons_succ, -List.getD_eq_getElem?_getD, pureOp, rwA_zero, rxO_none, ryO_none, rxO_some, ryO_some]; exact h)
     refine za [11, 12, 13, 14, 15] [] 0 [15, 14, 13, 12, 11, 10, 9, 8, 7, 6, 5, 4, 3, 2, 1, 0] ?_ (h := by intro c K h; simp [hG, List.getD_cons_zero, List.getD_cons_succ, -List.getD_eq_getElem?_getD, pureOp, rwA_zero, rxO_none, ryO_none, rxO_some, ryO_some]; first | exact z1 c h | exact ⟨.mk c, h⟩)
     refine awpA_done (by decide +kernel) ?_
     refine zs (zr ?_ (h := by intro c K h; simp [hG, List.getD_cons_zero, List.getD_cons_succ, -List.getD_eq_getElem?_getD, pureOp, rwA_zero, rxO_none, ryO_none, rxO_some, ryO_some]; first | exact z1 c h | exact ⟨.mk c, h⟩))
     refine zy (fun hb67 => ?_) fun hb67 => ?_
     · have hps := rwU_yes (o := (rwA c.ws c.q.toNat e t i)) hv.lt htl hb67.1 (hb67.2.imp (fun h => by rw [h]; rfl) (fun h => by rw [less_dec] at h; exact of_decide_eq_true h))
       refine zr ?_ (h := by intro c K h; simp [hG, List.getD_cons_zero, List.getD_cons_succ, -List.getD_eq_getElem?_getD, pureOp, rwA_zero, rxO_none, ryO_none, rxO_some, ryO_some]; first | exact z1 c h | exact ⟨.mk c, h⟩)
       refine zn (zbn (zr ?_ (h := by intro c K h; simp [hG, List.getD_cons_zero, List.getD_cons_succ, -List.getD_eq_getElem?_getD, pureOp, rwA_zero, rxO_none, ryO_none, rxO_some, ryO_some]; first | exact z1 c h | exact ⟨.mk c, h⟩)))
       refine zn ?_
       refine round_end (i + 1) (by omega) (by omega) ?_
       exact zi (e := by rw [rwA_succ, hps]; simp [hG, pureOp, List.getD_cons_zero, List.getD_cons_succ, -List.getD_eq_getElem?_getD]) (h := by simp [hG, List.getD_cons_zero, List.getD_cons_succ, -List.getD_eq_getElem?_getD, pureOp, rwA_zero, rxO_none, ryO_none, rxO_some, ryO_some])
     have hps := rwU_not (o := (rwA c.ws c.q.toNat e t i)) hv.lt htl (fun h => by obtain ⟨h2, h4⟩ := hb67 h.1; rcases h.2 with h3 | h3; (exact h2 (by simpa using h3)); (rw [less_dec] at h4; exact absurd h3 (of_decide_eq_false h4)))
     refine zk (zn (zbn (zr ?_ (h := by intro c K h; simp [hG, List.getD_cons_zero, List.getD_cons_succ, -List.getD_eq_getElem?_getD, pureOp, rwA_zero, rxO_none, ryO_none, rxO_some, ryO_some]; first | exact z1 c h | exact ⟨.mk c, h⟩))))
     refine zn ?_
     refine round_end (i + 1) (by omega) (by omega) ?_
     exact zi (e := by rw [rwA_succ, hps]; simp [hG, pureOp, List.getD_cons_zero, List.getD_cons_succ, -List.getD_eq_getElem?_getD]) (h := by simp [hG, List.getD_cons_zero, List.getD_cons_succ, -List.getD_eq_getElem?_getD, pureOp, rwA_zero, rxO_none, ryO_none, rxO_some, ryO_some])
   obtain rfl : i = c.ws.length := (by omega)
   refine zx (ztx (zbx (zs (zr ?_ (h := by intro c K h; simp [hG, List.getD_cons_zero, List.getD_cons_succ, -List.getD_eq_getElem?_getD, pureOp, rwA_zero, rxO_none, ryO_none, rxO_some, ryO_some]; first | exact z1 c h | exact ⟨.mk c, h⟩)))))
   refine zy (fun hb70 => ?_) fun hb70 => ?_
   · obtain ⟨p, hp⟩ := Option.isSome_iff_exists.1 hb70
     obtain ⟨bx, w⟩ := p
     have hw := rw_fin hv.lt (asc_len hv) hv.ne hno1 hp
     obtain ⟨hoth, hwl, hbl⟩ := wt_oth hv hw
     rw [hp]
     refine zs (zL (zl 5 ?_ (h := by intro c K h; simp [hG, List.getD_cons_zero, List.getD_cons_succ, -List.getD_eq_getElem?_getD, pureOp, rwA_zero, rxO_none, ryO_none, rxO_some, ryO_some]; first | exact z1 c h | exact ⟨.mk c, h⟩)))
     refine zc cal51 (otherR_c c hl hv w (by omega) bx) ?_ (a := fun hg => by simp [hG, List.getD_cons_zero, List.getD_cons_succ, -List.getD_eq_getElem?_getD, pureOp, rwA_zero, rxO_none, ryO_none, rxO_some, ryO_some]) (b := fun hg => by simp [hG, List.getD_cons_zero, List.getD_cons_succ, -List.getD_eq_getElem?_getD, pureOp, rwA_zero, rxO_none, ryO_none, rxO_some, ryO_some]) (h := by intro K h; simp [hG, List.getD_cons_zero, List.getD_cons_succ, -List.getD_eq_getElem?_getD, pureOp, rwA_zero, rxO_none, ryO_none, rxO_some, ryO_some]; exact h)
     refine zl 5 ?_ (h := by intro c K h; simp [hG, List.getD_cons_zero, List.getD_cons_succ, -List.getD_eq_getElem?_getD, pureOp, rwA_zero, rxO_none, ryO_none, rxO_some, ryO_some]; first | exact z1 c h | exact ⟨.mk c, h⟩)
     refine zN (zt (zbt (ztt (zbt ?_))))
     refine RetOK_of ?_
     simp [hG, List.getD_cons_zero, List.getD_cons_succ, -List.getD_eq_getElem?_getD, pureOp, rwA_zero, rxO_none, ryO_none, rxO_some, ryO_some]
     obtain ⟨h1, h2, h3, h4⟩ := ws_at hb0 hw; rw [h1, h2, h3, h4, hb0]; simp
   have hwt : rwA c.ws c.q.toNat e t c.ws.length = none := (by simpa using hb70)
   refine zk (zn (zbn (zr ?_ (h := by intro c K h; simp [hG, List.getD_cons_zero, List.getD_cons_succ, -List.getD_eq_getElem?_getD, pureOp, rwA_zero, rxO_none, ryO_none, rxO_some, ryO_some]; first | exact z1 c h | exact ⟨.mk c, h⟩))))
   refine zn ?_
   refine round_end (t + 1) (⟨by omega, by omega, fun k h1 h2 => by rcases Nat.lt_or_ge k t with h3 | h3; (exact hno1 k h1 h3); (obtain rfl : k = t := (by omega); exact hwt)⟩) (by omega) ?_
   exact zi (e := by simp [hG, List.getD_cons_zero, List.getD_cons_succ, -List.getD_eq_getElem?_getD, pureOp, rwA_zero, rxO_none, ryO_none, rxO_some, ryO_some]) (h := by simp [hG, List.getD_cons_zero, List.getD_cons_succ, -List.getD_eq_getElem?_getD, pureOp, rwA_zero, rxO_none, ryO_none, rxO_some, ryO_some])
 obtain rfl : t = 33 := (by omega)
 have hwn := rw_out hv.lt (asc_len hv) hv.ne hv.len hno1
 refine zx (ztx (zbx (zs (zr ?_ (h := by intro c K h; simp [hG, List.getD_cons_zero, List.getD_cons_succ, -List.getD_eq_getElem?_getD, pureOp, rwA_zero, rxO_none, ryO_none, rxO_some, ryO_some]; first | exact z1 c h | exact ⟨.mk c, h⟩)))))
 refine zt ?_
 refine RetOK_of ?_
 simp [hG, List.getD_cons_zero, List.getD_cons_succ, -List.getD_eq_getElem?_getD, pureOp, rwA_zero, rxO_none, ryO_none, rxO_some, ryO_some]
 obtain ⟨h1, h2, h3, h4⟩ := ws_out hb0 hwn; rw [h1, h2, h3, h4, hb0]; simp
set_option maxRecDepth 100000 in
theorem worst_c (c : Cd) (hl : c.ws.length ≤ maxLen) (hd : dlD c ≤ 100) : PC Try.prog 16 [.agg 2 (cdF c)] (.tup 3 (fun j => [.str (woW c), .bool (woB c), .int .i64 (arN c)].getD j .any)) := by
 have hML : maxLen = 9223372036854775807 := by decide
 have hdr := dlD_pos (c := c)
 refine zp Try.func16 fun G hG hR => ?_
 refine zs (zrP ?_)
 refine zs (zL (zlP 1 ?_))
 refine zcP cal12 (delay_c c hl) ?_
 refine zlP 7 ?_
 refine zN (zs (zs (zrP ?_)))
 refine zy (fun hb26 => ?_) fun hb26 => ?_
 · refine zs (zrP ?_)
   refine zt ?_
   refine RetOK_of ?_
   simp [hG, List.getD_cons_zero, List.getD_cons_succ, -List.getD_eq_getElem?_getD, pureOp]
   obtain ⟨h1, h2⟩ := wo_no (c := c) (fun k => by have := dlB_ar k.1; simp_all); rw [h1, h2]; simp
 refine zk (zs (zL (zlP 3 ?_)))
 refine zcP cal24 (witness_c c hl (dlD c - 1)) ?_
 refine zlP 11 ?_
 refine zN (zs (zrP ?_))
 refine zt ?_
 refine RetOK_of ?_
 simp [hG, List.getD_cons_zero, List.getD_cons_succ, -List.getD_eq_getElem?_getD, pureOp]
 have hy : dlB c = true ∧ dlD c ≠ 0 := (by simp_all); obtain ⟨h1, h2⟩ := wo_yes hy; obtain ⟨h3, h4⟩ := wo_zero hy hd; rw [h1, h2, h3]; first | exact ⟨rfl, rfl, rfl⟩ | exact ⟨rfl, rfl, h4⟩ | simp [h4]
set_option maxRecDepth 100000 in
theorem refWorst_c (c : Cd) (hl : c.ws.length ≤ maxLen) (hd : dlD c ≤ 100) : PC Try.prog 17 [.agg 2 (cdF c)] (.tup 3 (fun j => [.str (woW c), .bool (woB c), .int .i64 (arN c)].getD j .any)) := by
 have hML : maxLen = 9223372036854775807 := by decide
 have hdr := dlD_pos (c := c)
 refine zp Try.func17 fun G hG hR => ?_
 refine zs (zrP ?_)
 refine zs (zL (zlP 1 ?_))
 refine zcP cal13 (refDelay_c c hl) ?_
 refine zlP 7 ?_
 refine zN (zs (zs (zrP ?_)))
 refine zy (fun hb28 => ?_) fun hb28 => ?_
 · refine zs (zrP ?_)
   refine zt ?_
   refine RetOK_of ?_
   simp [hG, List.getD_cons_zero, List.getD_cons_succ, -List.getD_eq_getElem?_getD, pureOp]
   obtain ⟨h1, h2⟩ := wo_no (c := c) (fun k => by have := dlB_ar k.1; simp_all); rw [h1, h2]; simp
 refine zk (zs (zL (zlP 3 ?_)))
 refine zcP cal25 (refWitness_c c hl (dlD c - 1)) ?_
 refine zlP 11 ?_
 refine zN (zs (zrP ?_))
 refine zt ?_
 refine RetOK_of ?_
 simp [hG, List.getD_cons_zero, List.getD_cons_succ, -List.getD_eq_getElem?_getD, pureOp]
 have hy : dlB c = true ∧ dlD c ≠ 0 := (by simp_all); obtain ⟨h1, h2⟩ := wo_yes hy; obtain ⟨h3, h4⟩ := wo_zero hy hd; rw [h1, h2]; first | exact ⟨rfl, rfl, h4.symm⟩ | exact ⟨rfl, rfl, rfl⟩ | exact ⟨rfl, rfl, h4⟩ | simp [h4]
end Go.Proofs.Ytoafgeobhhlplaa
