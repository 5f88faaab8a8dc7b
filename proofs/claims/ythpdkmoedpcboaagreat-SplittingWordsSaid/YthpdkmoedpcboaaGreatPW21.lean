/- Parts of the proof: WB WC. -/
import Derived.Test.YthpdkmoedpcboaaGreatPW10
import Derived.Test.YthpdkmoedpcboaaGreatPW12
import Derived.Test.YthpdkmoedpcboaaGreatPW17
import Derived.Test.YthpdkmoedpcboaaGreatPW20
namespace Go.Proofs.YthpdkmoedpcboaaGreat
set_option linter.unusedSimpArgs false
set_option linter.unusedVariables false
open Go Go.Lift Go.Proofs
theorem app_oneI {K : List Int} {x : Int} {w : Nat → Nat → AVal} {i : Nat} (hw : w 0 0 = .int .i64 x) (hi : i < K.length + 1) : app (fun p _ => .int .i64 (K.getD p 0)) K.length w i 0 = .int .i64 ((K ++ [x]).getD i 0) := by
  unfold app
  by_cases h : i < K.length
  · rw [if_pos h]; simp [List.getD, List.getElem?_append_left h]
  · obtain rfl : i = K.length := by omega
    rw [if_neg h, Nat.sub_self, hw]; simp [List.getD]
end Go.Proofs.YthpdkmoedpcboaaGreat
namespace Go.Proofs.YthpdkmoedpcboaaGreat
set_option linter.unusedSimpArgs false
set_option linter.unusedVariables false
open Go Go.Lift Go.Proofs
theorem mul_le16 {m x : Int} (hm : 1 ≤ m ∧ m ≤ 256) (hx : -5000000000 ≤ x ∧ x ≤ 5000000) : -1280000000000 ≤ m * x ∧ m * x ≤ 1280000000 := by
  have h1 := Int.mul_le_mul_of_nonneg_left hx.2 (show 0 ≤ m by omega)
  have h2 := Int.mul_le_mul_of_nonneg_left hx.1 (show 0 ≤ m by omega)
  omega
theorem wt_box {g : Gr} {v : List Int} {m : Int} {x : Spl} (hb : BoxV v) (hm : 1 ≤ m) (hx : SplOK g x) {i : Nat} (hi : i < x.parts.length) : -5000000000 ≤ wtI g v m x i ∧ wtI g v m x i ≤ 5000000 := by
  have h1 := lfA_box hb hm hx i hi
  have hn := hx.num
  have hl := hx.len _ (getD_mem (d := []) hi)
  have h2 := psA_box (g := g) (p := x.parts.getD i []) hb (x.parts.getD i []).length
  have h3 : 0 ≤ psV g v (x.parts.getD i []) / m := Int.ediv_nonneg h2.1 (by omega)
  have h4 : psV g v (x.parts.getD i []) / m ≤ psV g v (x.parts.getD i []) := Int.ediv_le_self _ h2.1
  have h5 : psV g v (x.parts.getD i []) ≤ ((x.parts.getD i []).length : Int) * 4096 := h2.2
  unfold wtI
  split <;> omega
set_option maxRecDepth 100000 in
theorem minC_c (l : List Int) (h0 : 0 < l.length) (hl : l.length ≤ 1000000) : PC Tryz.prog 75 [ints l] (.int .i64 (mnV l)) := by
 refine zp Tryz.func75 fun G hG hR => ?_
 refine zs (zr ?_)
 refine zs (zs (zr ?_))
 refine awpS_cond rfl (fun hb7 => ?_) (fun hb7 => ?_)
 · simp at hb7; omega
 try simp [-List.getD_eq_getElem?_getD] at hb7
 refine zk (zs (zr ?_))
 refine zs (zs (zr ?_))
 refine zb ?_
 refine awpS_loop (α := Nat) (fun i => ⟨[(0, ints l), (3, .int .i64 (mnA l i)), (4, .int .i64 ((i : Int) + 1))], [], 0⟩) (fun i => i + 1 ≤ l.length) (fun i => l.length - i) (0) (h0) ?_ ?_
 · exact zi (e := by simp [hG, List.getD_cons_zero, List.getD_cons_succ, -List.getD_eq_getElem?_getD]; rfl)
 rintro i hi
 refine zs (zs (zr ?_))
 refine zy (fun hb15 => ?_) fun hb15 => ?_
 · refine zk (zs (zb (zr ?_)))
   refine zn (zbn (zr ?_))
   refine zn ?_
   refine round_end (i + 1) (by omega) (by omega) ?_
   exact zi (e := by simp [hG, List.getD_cons_zero, List.getD_cons_succ, -List.getD_eq_getElem?_getD]; rfl)
 obtain hil : i = l.length - 1 := (by omega)
 refine zx (ztx (zbx (zs (zr ?_))))
 refine zt ?_
 refine RetOK_of ?_
 simp [hG, List.getD_cons_zero, List.getD_cons_succ, -List.getD_eq_getElem?_getD]
 unfold mnV; rw [hil]
set_option maxRecDepth 100000 in
set_option maxHeartbeats 1000000 in
theorem weights_c (g : Gr) (v : List Int) (m : Int) (x : Spl) (hv : gcheck g = 0) (hl : (v.length : Int) = g.states) (hbx : BoxV v) (hm : 1 ≤ m ∧ m ≤ 256) (hx : SplOK g x) (hn : 0 < x.parts.length) : PC Tryz.prog 44 [.agg 3 (grF g), ints v, .int .i64 m, .agg 2 (splF x)] (.tup 2 (fun j => [ints (wtL g v m x), .bool (wtB g v m x)].getD j .any)) := by
 have hxs := hx.st
 have hxn := hx.num
 refine zp Tryz.func44 fun G hG hR => ?_
 refine zs (zrP ?_)
 refine zs (zrP ?_)
 refine zs (zrP ?_)
 refine zs (zs (zrP ?_))
 refine zb ?_
 refine awpS_loop (α := Nat) (fun i => ⟨[(1, ints v), (2, .int .i64 m), (4, .ptr (0, 0) 0 0), (7, .ptr (1, 0) 0 0), (10, .int .i64 (lfA g v m x i)), (11, .int .i64 (psP g v x i)), (12, .sl (2, 0) 0 i), (24, rowsI x.parts), (25, .int .i64 x.parts.length), (26, .int .i64 i)], [(0, .one (.arr 1 3 (fun _ => grF g))), (1, .one (.arr 1 2 (fun _ => splF x))), (2, .one (.arr i 1 (fun q _ => .int .i64 (wtI g v m x q))))], 3⟩) (fun i => i ≤ x.parts.length) (fun i => x.parts.length - i) (0) (Nat.zero_le _) ?_ ?_
 · exact zwP (id) (fun _ => false) (fun k => k == 2) (e := by simp [hG, List.getD_cons_zero, List.getD_cons_succ, -List.getD_eq_getElem?_getD]; exact ⟨rfl, rfl⟩)
 rintro i hi
 refine zs (zrP ?_)
 refine zs (zy (fun hb27 => ?_) fun hb27 => ?_)
 · have hil : i < x.parts.length := (by omega)
   have hpm := getD_mem (d := ([] : List Int)) hil
   have hpl := hx.len _ hpm
   have hpb := hx.box _ hpm
   have hlb := lfA_box hbx hm.1 hx i hil
   have hwb := wt_box hbx hm.1 hx hil
   refine zk (zs (zb (zs (zrP ?_))))
   refine zs (zrP ?_)
   refine zs (zs (zrP ?_))
   refine zb ?_
   refine awpS_loop (α := Nat) (fun q => ⟨[(1, ints v), (2, .int .i64 m), (4, .ptr (0, 0) 0 0), (7, .ptr (1, 0) 0 0), (10, .int .i64 (lfA g v m x i)), (11, .int .i64 (psA g v (x.parts.getD i []) q)), (12, .sl (2, 0) 0 i), (13, .int .i64 i), (24, rowsI x.parts), (25, .int .i64 x.parts.length), (26, .int .i64 i), (31, ints (x.parts.getD i [])), (32, .int .i64 (x.parts.getD i []).length), (33, .int .i64 q)], [(0, .one (.arr 1 3 (fun _ => grF g))), (1, .one (.arr 1 2 (fun _ => splF x))), (2, .one (.arr i 1 (fun q _ => .int .i64 (wtI g v m x q))))], 3⟩) (fun q => q ≤ (x.parts.getD i []).length) (fun q => (x.parts.getD i []).length - q) (0) (Nat.zero_le _) ?_ ?_
   · exact ziP (e := by simp [hG, List.getD_cons_zero, List.getD_cons_succ, -List.getD_eq_getElem?_getD]; rfl)
   rintro q hq
   refine zs (zrP ?_)
   refine zs (zy (fun hb34 => ?_) fun hb34 => ?_)
   · have hki := hpb _ (getD_mem (d := (0 : Int)) (show q < (x.parts.getD i []).length by omega))
     have heb := edge_in hv (getD_mem (d := de) (show ((x.parts.getD i []).getD q 0).toNat < g.edges.length by omega))
     have hps := psA_box (g := g) (p := (x.parts.getD i [])) hbx q
     have hvb := box_at hbx (g.edges.getD ((x.parts.getD i []).getD q 0).toNat de).to.toNat
     refine zk (zs (zb (zs (zrP ?_))))
     refine zrP ?_
     refine zn (zbn (zrP ?_))
     refine zn ?_
     refine round_end (q + 1) (by omega) (by omega) ?_
     exact ziP (e := by simp [hG, List.getD_cons_zero, List.getD_cons_succ, -List.getD_eq_getElem?_getD]; rfl)
   obtain rfl : q = (x.parts.getD i []).length := (by omega)
   have hps := psA_box (g := g) (p := (x.parts.getD i [])) hbx (x.parts.getD i []).length
   have hq1 : 0 ≤ psA g v (x.parts.getD i []) (x.parts.getD i []).length / m := Int.ediv_nonneg hps.1 (by omega)
   have hq2 : psA g v (x.parts.getD i []) (x.parts.getD i []).length / m ≤ psA g v (x.parts.getD i []) (x.parts.getD i []).length := Int.ediv_le_self _ hps.1
   refine zx (ztx (zbx (zs (zrP ?_))))
   refine zs (zs (zrP ?_))
   refine zy (fun hb57 => ?_) fun hb57 => ?_
   · have hw : wtI g v m x i = lfA g v m x i := if_pos (by omega)
     refine zrP ?_
     refine zs (zrP ?_)
     refine zrP ?_
     refine zn (zbn (zrP ?_))
     refine zn ?_
     refine round_end (i + 1) (by omega) (by omega) ?_
     exact zw (fun k => if k = 2 then 4 else k) (fun _ => false) (fun _ => false) (e := by rw [lfA_succ, hw, psP_succ]; simp [hG, List.getD_cons_zero, List.getD_cons_succ, -List.getD_eq_getElem?_getD]; rfl) (h := by simp [hG, List.getD_cons_zero, List.getD_cons_succ, -List.getD_eq_getElem?_getD]; exact fun q hq => app_last hq hw)
   have hw : wtI g v m x i = psA g v (x.parts.getD i []) (x.parts.getD i []).length / m := if_neg (by omega)
   refine zk (zs (zrP ?_))
   refine zrP ?_
   refine zn (zbn (zrP ?_))
   refine zn ?_
   refine round_end (i + 1) (by omega) (by omega) ?_
   exact zw (fun k => if k = 2 then 4 else k) (fun _ => false) (fun _ => false) (e := by rw [lfA_succ, hw, psP_succ]; simp [hG, List.getD_cons_zero, List.getD_cons_succ, -List.getD_eq_getElem?_getD]; rfl) (h := by simp [hG, List.getD_cons_zero, List.getD_cons_succ, -List.getD_eq_getElem?_getD]; exact fun q hq => app_last hq hw)
 obtain rfl : i = x.parts.length := (by omega)
 have hwb := wt_box hbx hm.1 hx (show x.parts.length - 1 < x.parts.length by omega)
 have hmw := mul_le16 hm hwb
 have hpp := psP_last (g := g) (v := v) hn
 refine zx (ztx (zbx (zs ?_)))
 refine awpS_draw hR mixed [] ⟨[], [], []⟩ fun mu0 => ?_
 refine zaP [0, 1] [] 16 [1, 0] ?_
 refine awpA_only (fuel := 15) (i := 2) (by decide +kernel) ?_
 refine awpO_callB (mem [2]) cal75 (by simp [flat]) rfl rfl rfl (fun _ => rfl) (fun hg => minC_c (wtL g v m x) (by rw [wtL_len]; exact hn) (by rw [wtL_len]; omega)) (fun hg => ?_) (fun hg => ?_) fun K hK => ?_
 · simp [hG, List.getD_cons_zero, List.getD_cons_succ, -List.getD_eq_getElem?_getD, pureOp]
 · simp [hG, List.getD_cons_zero, List.getD_cons_succ, -List.getD_eq_getElem?_getD]; exact ⟨wtL_len.symm, Nat.le_of_eq wtL_len, fun q hq => (wtA_at (by rw [wtL_len] at hq; exact hq)).symm⟩
 simp [hG, List.getD_cons_zero, List.getD_cons_succ, -List.getD_eq_getElem?_getD, pureOp]
 refine hK _ ?_
 clear K hK
 refine zaP [3, 4, 5, 6, 7, 8, 9, 10, 11, 12, 13, 14, 15, 16, 17] [] 0 [17, 16, 15, 14, 13, 12, 11, 10, 9, 8, 7, 6, 5, 4, 3, 2, 1, 0] ?_
 refine awpA_done (by decide +kernel) ?_
 refine zt ?_
 refine RetOK_of ?_
 simp [hG, List.getD_cons_zero, List.getD_cons_succ, -List.getD_eq_getElem?_getD, pureOp]
 refine ⟨⟨wtL_len.symm, Nat.le_of_eq wtL_len, fun q hq => (wtA_at (by rw [wtL_len] at hq; exact hq)).symm⟩, ?_⟩; unfold wtB; rw [hpp]; congr 1; rw [Bool.eq_iff_iff, decide_eq_true_eq]; exact mnV_ge (by rw [wtL_len]; exact hn)
end Go.Proofs.YthpdkmoedpcboaaGreat
