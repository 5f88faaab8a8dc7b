/- Parts of the proof: WA. -/
import Derived.Test.YtchjjiedcpfniaaGreatDoorK11
import Derived.Test.YtchjjiedcpfniaaGreatDoorK16
import Derived.Test.YtchjjiedcpfniaaGreatDoorK17
namespace Go.Proofs.YtchjjiedcpfniaaGreatDoor
set_option linter.unusedSimpArgs false
set_option linter.unusedVariables false
open Go Go.Lift Go.Proofs
theorem any_hit {α : Type} {f : α → Bool} {L : List α} {i : Nat} {d : α} (hi : i < L.length) (h : f (L.getD i d) = true) : L.any f = true := List.any_eq_true.2 ⟨_, getD_mem hi, h⟩
theorem any_miss {α : Type} {f : α → Bool} {L : List α} {d : α} (h : ∀ j, j < L.length → f (L.getD j d) = false) : L.any f = false := by
  rw [List.any_eq_false]
  intro x hx
  obtain ⟨j, hj, rfl⟩ := List.mem_iff_getElem.1 hx
  have := h j hj
  simp only [List.getD, List.getElem?_eq_getElem hj, Option.getD_some] at this
  rw [this]; simp
theorem all_any {v : List Int} : (!v.any fun n => !decide (n = 0)) = v.all fun n => decide (n = 0) := by
  rw [List.any_eq_not_all_not, Bool.not_not]
  congr 1; funext n; rw [Bool.not_not]
theorem all_yes0 {v : List Int} (h : ∀ x, x ∈ v → x = 0) : (v.all fun n => decide (n = 0)) = true := List.all_eq_true.2 fun x hx => decide_eq_true (h x hx)
theorem all_no0 {v : List Int} (h : ∃ x, x ∈ v ∧ ¬ x = 0) : (v.all fun n => decide (n = 0)) = false := by
  obtain ⟨x, h1, h2⟩ := h
  exact List.all_eq_false.2 ⟨x, h1, by simpa using h2⟩
set_option maxRecDepth 100000 in
theorem indexI_c (l : List Int) (v : Int) (hl : l.length ≤ 1000000) : PC Tryz.prog 30 [ints l, .int .i64 v] (.int .i64 (placeI l v)) := by
 refine zp Tryz.func30 fun G hG hR => ?_
 refine zs (zr ?_)
 refine zs (zs (zr ?_))
 refine zb ?_
 refine awpS_loop (α := Nat) (fun i => ⟨[(0, ints l), (1, .int .i64 v), (7, .int .i64 l.length), (8, .int .i64 i)], [], 0⟩) (fun i => i ≤ l.length ∧ ∀ j, j < i → l.getD j 0 ≠ v) (fun i => l.length - i) (0) (⟨Nat.zero_le _, fun j hj => absurd hj (Nat.not_lt_zero _)⟩) ?_ ?_
 · exact zi
 rintro i ⟨hi, hn⟩
 refine zs (zr ?_)
 refine zs (zy (fun hb9 => ?_) fun hb9 => ?_)
 · refine zk (zs (zb (zs (zr ?_))))
   refine zs (zr ?_)
   refine zy (fun hb16 => ?_) fun hb16 => ?_
   · refine zs (zr ?_)
     refine zt (zbt (ztt (zbt ?_)))
     refine RetOK_of ?_
     simp [hG, List.getD_cons_zero, List.getD_cons_succ, -List.getD_eq_getElem?_getD]
     exact (placeI_some l v i (by omega) hn hb16.symm).symm
   refine zk (zn (zbn (zr ?_)))
   refine zn ?_
   refine round_end (i + 1) (⟨by omega, step_all hn (fun h => hb16 h.symm)⟩) (by omega) ?_
   exact zi
 refine zx (ztx (zbx (zs (zr ?_))))
 refine zt ?_
 refine RetOK_of ?_
 simp [hG, List.getD_cons_zero, List.getD_cons_succ, -List.getD_eq_getElem?_getD]
 exact (placeI_none l v fun j hj => hn j (by omega)).symm
set_option maxRecDepth 100000 in
theorem containsI_c (l : List Int) (v : Int) (hl : l.length ≤ 1000000) : PC Tryz.prog 81 [ints l, .int .i64 v] (.bool (hasI l v)) := by
 refine zp Tryz.func81 fun G hG hR => ?_
 refine zs (zr ?_)
 refine zs (zL (zl 2 ?_))
 refine zc cal30 (indexI_c l v hl) ?_
 refine zl 2 ?_
 refine zN (zt ?_)
 refine RetOK_of ?_
 simp [hG, List.getD_cons_zero, List.getD_cons_succ, -List.getD_eq_getElem?_getD]
 rw [← hasI_place]
set_option maxRecDepth 100000 in
theorem badVc_c (n : Int) : PC Tryz.prog 139 [.int .i64 n] (.bool (badV n)) := by
 refine zp Tryz.func139 fun G hG hR => ?_
 refine zs (zr ?_)
 refine zs (zr ?_)
 refine zt ?_
 refine RetOK_of ?_
 simp [hG, List.getD_cons_zero, List.getD_cons_succ, -List.getD_eq_getElem?_getD]
 rw [← Bool.decide_or]; rfl
set_option maxRecDepth 100000 in
theorem nonz_c (n : Int) : PC Tryz.prog 140 [.int .i64 n] (.bool (!decide (n = 0))) := by
 refine zp Tryz.func140 fun G hG hR => ?_
 refine zs (zr ?_)
 refine zs (zr ?_)
 refine zt ?_
 exact zR
set_option maxRecDepth 100000 in
theorem vecC_c (g : Gr) (v : List Int) (m : Int) : PC Tryz.prog 113 [.agg 3 (grF g), ints v, .int .i64 m] (.int .i64 (vecN g v m)) := by
 refine zp Tryz.func113 fun G hG hR => ?_
 refine zs (zrP ?_)
 refine zs (zb (zs (zL (zlP 1 ?_))))
 refine zcP cal42 (checkC_c g) ?_
 refine zlP 2 ?_
 refine zN (zy (fun hb7 => ?_) fun hb7 => ?_)
 · refine zs (zrP ?_)
   refine zt (zbt ?_)
   refine RetOK_of ?_
   simp [hG, List.getD_cons_zero, List.getD_cons_succ, -List.getD_eq_getElem?_getD, pureOp]
   exact (vecN_1 hb7).symm
 have hv : gcheck g = 0 := (by omega)
 have hst := (gcheck_valid hv).1.st
 refine zs (zrP ?_)
 refine zy (fun hb11 => ?_) fun hb11 => ?_
 · refine zs (zrP ?_)
   refine zt (zbt ?_)
   refine RetOK_of ?_
   simp [hG, List.getD_cons_zero, List.getD_cons_succ, -List.getD_eq_getElem?_getD, pureOp]
   exact (vecN_2 hv hb11).symm
 refine zs (zrP ?_)
 refine zy (fun hb18 => ?_) fun hb18 => ?_
 · refine zs (zrP ?_)
   refine zt (zbt ?_)
   refine RetOK_of ?_
   simp [hG, List.getD_cons_zero, List.getD_cons_succ, -List.getD_eq_getElem?_getD, pureOp]
   exact (vecN_3 hv (by omega) hb18).symm
 refine zs (zL (zlP 1 ?_))
 refine zcP cal17 (containsG_c v badV 139 0 (fun _ => .any) (by omega) cal139 (fun _ => trivial) fun x _ => badVc_c x) ?_
 refine zlP 1 ?_
 refine zN (zy (fun hb24 => ?_) fun hb24 => ?_)
 · refine zs (zrP ?_)
   refine zt (zbt ?_)
   refine RetOK_of ?_
   simp [hG, List.getD_cons_zero, List.getD_cons_succ, -List.getD_eq_getElem?_getD, pureOp]
   rw [vecN_4 hv (by omega) hb18, if_pos (List.any_eq_true.2 hb24)]
 refine zk (zn (zbn (zs (zrP ?_))))
 refine zt ?_
 refine RetOK_of ?_
 simp [hG, List.getD_cons_zero, List.getD_cons_succ, -List.getD_eq_getElem?_getD, pureOp]
 rw [vecN_4 hv (by omega) hb18, if_neg (fun h => by obtain ⟨x, h1, h2⟩ := List.any_eq_true.1 h; rw [hb24 x h1] at h2; cases h2)]
set_option maxRecDepth 100000 in
theorem zeroC_c (v : List Int) (hl : v.length ≤ 1000000) : PC Tryz.prog 114 [ints v] (.bool (v.all fun n => decide (n = 0))) := by
 refine zp Tryz.func114 fun G hG hR => ?_
 refine zs (zr ?_)
 refine zs (zL (zl 1 ?_))
 refine zc cal17 (containsG_c v (fun n => !decide (n = 0)) 140 0 (fun _ => .any) (by omega) cal140 (fun _ => trivial) fun x _ => nonz_c x) ?_
 refine zl 2 ?_
 refine zN (zt ?_)
 refine RetOK_of ?_
 simp [hG, List.getD_cons_zero, List.getD_cons_succ, -List.getD_eq_getElem?_getD]
 rw [← all_any, Bool.not_not]
set_option maxRecDepth 100000 in
theorem plusC_c (a b : Int) (ha : 0 ≤ a ∧ a ≤ 100000000) (hb : 0 ≤ b ∧ b ≤ 100000000) : PC Tryz.prog 116 [.int .i64 a, .int .i64 b] (.int .i64 (a + b)) := by
 refine zp Tryz.func116 fun G hG hR => ?_
 refine zs (zr ?_)
 refine zs (zr ?_)
 refine zt ?_
 exact zR
set_option maxRecDepth 100000 in
theorem sumsC_c (g : Gr) (v : List Int) (hv : gcheck g = 0) (hl : (v.length : Int) = g.states) (hbx : BoxV v) : PC Tryz.prog 115 [.agg 3 (grF g), ints v, .fn 116 0 (fun _ => .any)] (ints (sumsL g v)) := by
 have hst := (gcheck_valid hv).1.st
 have hed := (gcheck_valid hv).1.ed
 refine zp Tryz.func115 fun G hG hR => ?_
 refine zs (zr ?_)
 refine zs (zr ?_)
 refine zs (zs (zr ?_))
 refine zb ?_
 refine awpS_loop (α := Nat) (fun i => ⟨[(1, ints v), (2, .fn 116 0 (fun _ => .any)), (3, .ptr (0, 0) 0 0), (7, .sl (1, 0) 0 g.states.toNat), (14, edgesC g.edges), (15, .int .i64 g.edges.length), (16, .int .i64 i)], [(0, .one (.arr 1 3 (fun _ => grF g))), (1, .one (.arr g.states.toNat 1 (fun s _ => .int .i64 (sumA g v i s))))], 2⟩) (fun i => i ≤ g.edges.length) (fun i => g.edges.length - i) (0) (Nat.zero_le _) ?_ ?_
 · exact zi (h := by simp [hG, List.getD_cons_zero, List.getD_cons_succ, -List.getD_eq_getElem?_getD]; exact fun i _ => rfl)
 rintro i hi
 refine zs (zr ?_)
 refine zs (zy (fun hb17 => ?_) fun hb17 => ?_)
 · have heb := edge_in hv (getD_mem (d := de) (show i < g.edges.length by omega))
   have hsb := sumA_box hbx (g := g) (s := (g.edges.getD i de).frm.toNat) i
   have hvb := box_at hbx (g.edges.getD i de).to.toNat
   refine zk (zs (zb (zs (zr ?_))))
   refine awpS_draw hR mixed [] ⟨[16], [], []⟩ fun mu0 => ?_
   refine za [0, 1, 2, 3, 4, 5, 6, 7, 8, 9, 10, 11, 12, 13] [] 3 [13, 12, 11, 10, 9, 8, 7, 6, 5, 4, 3, 2, 1, 0] ?_
   refine awpA_only (fuel := 2) (i := 14) (by decide +kernel) ?_
   refine ze cal116 (plusC_c (sumA g v i (g.edges.getD i de).frm.toNat) (v.getD (g.edges.getD i de).to.toNat 0) (by omega) (by omega)) ?_
   refine za [15] [] 1 [15, 14, 13, 12, 11, 10, 9, 8, 7, 6, 5, 4, 3, 2, 1, 0] ?_
   refine awpA_only (fuel := 0) (i := 16) (by decide +kernel) ?_
   refine zo ?_
   refine awpA_done (by decide +kernel) ?_
   refine zn (zbn (zr ?_))
   refine zn ?_
   refine round_end (i + 1) (by omega) (by omega) ?_
   exact zi (h := by simp [hG, List.getD_cons_zero, List.getD_cons_succ, -List.getD_eq_getElem?_getD]; exact fun s hs => by rw [sumA_succ]; by_cases h : s = (g.edges.getD i de).frm.toNat; (rw [if_pos h, if_pos (by omega), h]); (rw [if_neg h, if_neg (by omega), Int.add_zero]))
 obtain rfl : i = g.edges.length := (by omega)
 refine zx (ztx (zbx (zs (zr ?_))))
 refine zt ?_
 refine RetOK_of ?_
 simp [hG, List.getD_cons_zero, List.getD_cons_succ, -List.getD_eq_getElem?_getD]
 rw [sumsL_len]; exact ⟨rfl, Nat.le_refl _, fun s hs => (sumsL_at (by omega)).symm⟩
set_option maxRecDepth 100000 in
theorem eigC_c (g : Gr) (v : List Int) (m : Int) : PC Tryz.prog 80 [.agg 3 (grF g), ints v, .int .i64 m] (.int .i64 (eigN g v m)) := by
 refine zp Tryz.func80 fun G hG hR => ?_
 refine zs (zrP ?_)
 refine zs (zs (zL (zlP 3 ?_)))
 refine zcP cal113 (vecC_c g v m) ?_
 refine zlP 1 ?_
 refine zN (zs (zrP ?_))
 refine zy (fun hb15 => ?_) fun hb15 => ?_
 · refine zs (zrP ?_)
   refine zt ?_
   refine RetOK_of ?_
   simp [hG, List.getD_cons_zero, List.getD_cons_succ, -List.getD_eq_getElem?_getD, pureOp]
   exact (eigN_1 hb15).symm
 obtain ⟨hv, hm, hl, hbx⟩ := vecN_zero hb15
 have hst := (gcheck_valid hv).1.st
 refine zk (zs (zs (zL (zlP 1 ?_))))
 refine zcP cal114 (zeroC_c v (by omega)) ?_
 refine zN (zy (fun hb18 => ?_) fun hb18 => ?_)
 · refine zs (zrP ?_)
   refine zt ?_
   refine RetOK_of ?_
   simp [hG, List.getD_cons_zero, List.getD_cons_succ, -List.getD_eq_getElem?_getD, pureOp]
   exact (eigN_2 hb15 (all_yes0 hb18)).symm
 have hsl := sumsL_len (g := g) (v := v)
 refine zk (zs (zs (zL (zlP 2 ?_))))
 refine zcP cal115 (sumsC_c g v hv hl hbx) ?_
 refine zlP 2 ?_
 refine zN (zb ?_)
 refine awpS_loop (α := Nat) (fun s => ⟨[(1, ints v), (2, .int .i64 m), (3, .ptr (0, 0) 0 0), (21, ints (sumsL g v)), (22, .int .i64 (sumsL g v).length), (23, .int .i64 s)], [(0, .one (.arr 1 3 (fun _ => grF g)))], 1⟩) (fun s => s ≤ g.states.toNat ∧ ∀ j : Nat, j < s → ¬ sumV g v j < m * v.getD j 0) (fun s => g.states.toNat - s) (0) (⟨Nat.zero_le _, fun j hj => absurd hj (Nat.not_lt_zero _)⟩) ?_ ?_
 · exact ziP
 rintro s ⟨hs, hn⟩
 refine zs (zrP ?_)
 refine zs (zy (fun hb24 => ?_) fun hb24 => ?_)
 · have hsx := sumsL_at (g := g) (v := v) (s := s) (by omega)
   have hmv := mulV_box hm (box_at hbx s)
   refine zk (zs (zb (zs (zrP ?_))))
   refine zs (zrP ?_)
   refine zy (fun hb35 => ?_) fun hb35 => ?_
   · refine zs (zrP ?_)
     refine zt (zbt (ztt (zbt ?_)))
     refine RetOK_of ?_
     simp [hG, List.getD_cons_zero, List.getD_cons_succ, -List.getD_eq_getElem?_getD, pureOp]
     rw [eigN_3 hb15 (all_no0 hb18), if_pos (low_yes (s := s) (by omega) (by omega))]
   refine zk (zn (zbn (zrP ?_)))
   refine zn ?_
   refine round_end (s + 1) (⟨by omega, step_all hn (by omega)⟩) (by omega) ?_
   exact ziP
 refine zx (ztx (zbx (zs (zrP ?_))))
 refine zt ?_
 refine RetOK_of ?_
 simp [hG, List.getD_cons_zero, List.getD_cons_succ, -List.getD_eq_getElem?_getD, pureOp]
 rw [eigN_3 hb15 (all_no0 hb18), if_neg (by rw [low_no (fun j hj => hn j (by omega))]; simp)]
set_option maxRecDepth 100000 in
theorem baseC_c (g : Gr) (v : List Int) (m : Int) : PC Tryz.prog 61 [.agg 3 (grF g), ints v, .int .i64 m] (.int .i64 (baseN g v m)) := by
 refine zp Tryz.func61 fun G hG hR => ?_
 refine zs (zr ?_)
 refine zs (zs (zL (zl 3 ?_)))
 refine zc cal80 (eigC_c g v m) ?_
 refine zl 1 ?_
 refine zN (zs (zr ?_))
 refine zy (fun hb13 => ?_) fun hb13 => ?_
 · refine zs (zr ?_)
   refine zt ?_
   refine RetOK_of ?_
   simp [hG, List.getD_cons_zero, List.getD_cons_succ, -List.getD_eq_getElem?_getD]
   exact (baseN_1 hb13).symm
 obtain ⟨hv, hm, hl, hbx⟩ := vecN_zero (eigN_zero hb13).1
 have hst := (gcheck_valid hv).1.st
 refine zk (zs (zs (zL (zl 1 ?_))))
 refine zc cal81 (containsI_c v 0 (by omega)) ?_
 refine zN (zy (fun hb16 => ?_) fun hb16 => ?_)
 · refine zs (zr ?_)
   refine zt ?_
   refine RetOK_of ?_
   simp [hG, List.getD_cons_zero, List.getD_cons_succ, -List.getD_eq_getElem?_getD]
   rw [baseN_2 hb13, if_pos hb16]
 refine zk (zs (zr ?_))
 refine zt ?_
 refine RetOK_of ?_
 simp [hG, List.getD_cons_zero, List.getD_cons_succ, -List.getD_eq_getElem?_getD]
 rw [baseN_2 hb13, if_neg (by rw [hb16]; simp)]
end Go.Proofs.YtchjjiedcpfniaaGreatDoor
