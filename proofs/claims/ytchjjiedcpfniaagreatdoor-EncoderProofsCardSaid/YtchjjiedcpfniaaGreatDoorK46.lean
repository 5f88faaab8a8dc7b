/- Parts of the proof: UR. -/
import Derived.Test.YtchjjiedcpfniaaGreatDoorK16
import Derived.Test.YtchjjiedcpfniaaGreatDoorK45
namespace Go.Proofs.YtchjjiedcpfniaaGreatDoor
set_option linter.unusedSimpArgs false
set_option linter.unusedVariables false
open Go Go.Lift Go.Proofs
theorem outC_in {g : Gr} {s : Int} (hg : gcheck g = 0) (hs : 0 ≤ s ∧ s < g.states) : PC Tryz.prog 28 [.agg 3 (grF g), .int .i64 s] (.tup 2 (fun j => [ints (outL g s), .int .i64 0].getD j .any)) := by
  have h := outC_c g s
  obtain ⟨h1, h2⟩ := out_3 hg hs
  rw [h1, h2] at h
  exact h
theorem block_in {q n l : Int} (h : blockN q n l = 0) (hlx : l ≤ 9223372036854775807) : PC Tryz.prog 29 [.int .i64 q, .int .i64 n, .int .i64 l] (.tup 2 (fun j => [.str (blockX q n l), .int .i64 0].getD j .any)) := by
  have h1 := block_c q n l hlx
  rw [h] at h1
  exact h1
theorem ints_take {l : List Int} {i q : Nat} (h : q < i) : (l.take i).getD q 0 = l.getD q 0 := by
  simp [List.getD, List.getElem?_take, h]
theorem bdS_zero {g : Gr} {m : Nat} : bdS g m 0 = [0] := rfl
theorem bdS_succ {g : Gr} {m i : Nat} : bdS g m (i + 1) = rwS g (outL g ((bdS g m i).getD i 0)) (bdS g m i) m := rfl
section
variable {p : Prf} {q n : Int}
theorem ebX_no (h : ebN p q n ≠ 0) : ebX p q n = ⟨0, 0, 0, []⟩ := if_neg h
theorem eb_e (h : ebN p q n ≠ 0) {v : Int} (hv : v = ebN p q n) : (0 = (ebX p q n).letters ∧ 0 = (ebX p q n).block ∧ 0 = (ebX p q n).inputs ∧ (ebX p q n).rows = []) ∧ v = ebN p q n := by
  rw [ebX_no h]; exact ⟨⟨rfl, rfl, rfl, rfl⟩, hv⟩
theorem eb_1 (h : flN p ≠ 0) : ebN p q n = flN p := if_pos h
theorem eb_2 (h : flN p = 0) (hq : q < 1 ∨ 16 < q) : ebN p q n = 12 := by unfold ebN; rw [if_neg (fun k => k h), if_pos hq]
theorem eb_3 (h : flN p = 0) (hq : 1 ≤ q ∧ q ≤ 16) (hn : n < 1 ∨ 16 < n) : ebN p q n = 2 := by unfold ebN; rw [if_neg (fun k => k h), if_neg (by omega), if_pos hn]
theorem eb_4 (h : flN p = 0) (hq : 1 ≤ q ∧ q ≤ 16) (hn : 1 ≤ n ∧ n ≤ 16) (hu : upTo q n.toNat ≠ p.g.labels) : ebN p q n = 11 := by unfold ebN; rw [if_neg (fun k => k h), if_neg (by omega), if_neg (by omega), if_pos hu]
theorem eb_5 (h : flN p = 0) (hq : 1 ≤ q ∧ q ≤ 16) (hn : 1 ≤ n ∧ n ≤ 16) (hu : upTo q n.toNat = p.g.labels) : ebN p q n = 0 := by unfold ebN; rw [if_neg (fun k => k h), if_neg (by omega), if_neg (by omega), if_neg (fun k => k hu)]
theorem ebX_ok (h : ebN p q n = 0) {i : Nat} (hi : bdK (flG p) p.m.toNat = i) : ebX p q n = ⟨q, n, p.m, (List.range i).map (bdR (flG p) q n p.m.toNat)⟩ := by
  unfold ebX; rw [if_pos h]; unfold bdE; rw [hi]
theorem rows_at {F : Nat → List Cell} {i j : Nat} (h : j < i) : ((List.range i).map F).getD j [] = F j := by simp [List.getD, h]
end
theorem app_rowC {H : Heap} {σ : Lift.Id → Lift.Id} {fz : Nat → Bool} {vz : Lift.Id → Bool} {nx : Nat} {F : Nat → List Cell} {m j : Nat} {v : AVal} {w : Nat → Nat → AVal} (hj : j < m + 1) (hv : VLe H σ fz vz nx (cells (F m)) v) :
    VLe H σ fz vz nx (cells (F j)) (app (fun q _ => cells (F q)) m (fun i j => if i = 0 ∧ j = 0 then v else w i j) j 0) := by
  unfold app
  by_cases e : j < m
  · rw [if_pos e]; exact Clo.le _ Clo_cells
  · obtain rfl : j = m := by omega
    rw [if_neg e, Nat.sub_self]; exact hv
theorem app_oneE {l : List Int} {v : Int} {g : Nat → Nat → AVal} {i : Nat} (h : i < l.length + 1) : app (fun i _ => .int .i64 (l.getD i 0)) l.length (fun i j => if i = 0 ∧ j = 0 then .int .i64 v else g i j) i 0 = .int .i64 ((l ++ [v]).getD i 0) := by
  unfold app
  by_cases h1 : i < l.length
  · rw [if_pos h1]; simp [List.getD, List.getElem?_append_left h1]
  · obtain rfl : i = l.length := by omega
    rw [if_neg h1, Nat.sub_self]; simp [List.getD]
theorem app_cellE {F : Nat → Cell} {k i : Nat} {w : Nat → Nat → AVal} (hi : i < k + 1) (h0 : w 0 0 = .int .i64 (F k).to) (h1 : w 0 1 = .str (F k).word) : app (fun i j => cellF (F i) j) k w i 0 = .int .i64 (F i).to ∧ app (fun i j => cellF (F i) j) k w i 1 = .str (F i).word := by
  unfold app
  by_cases e : i < k
  · rw [if_pos e, if_pos e]; exact ⟨rfl, rfl⟩
  · obtain rfl : i = k := by omega
    rw [if_neg e, if_neg e, Nat.sub_self]; exact ⟨h0, h1⟩
set_option maxRecDepth 100000 in
set_option maxHeartbeats 1000000 in
theorem buildE_c (p : Prf) (hp : PrfOK p) (hpr : p.rounds.length ≤ 66) (q n : Int) : PC Tryz.prog 7 [.agg 6 (prfF p), .int .i64 q, .int .i64 n] (.tup 2 (fun j => [.agg 4 (encF (ebX p q n)), .int .i64 (ebN p q n)].getD j .any)) := by
 have hML : maxLen = 9223372036854775807 := by decide
 refine zp Tryz.func7 fun G hG hR => ?_
 refine zs (zr ?_ (h := by intro c K h; simp [hG, List.getD_cons_zero, List.getD_cons_succ, -List.getD_eq_getElem?_getD, pureOp, rwS_zero, bdS_zero]; first | exact z1 c h | exact ⟨.mk c, h⟩))
 refine zs (zs (zL (zl 1 ?_ (h := by intro c K h; simp [hG, List.getD_cons_zero, List.getD_cons_succ, -List.getD_eq_getElem?_getD, pureOp, rwS_zero, bdS_zero]; first | exact z1 c h | exact ⟨.mk c, h⟩))))
 refine zc cal10 (verifyM_c p hp hpr) ?_ (a := fun hg => by simp [hG, List.getD_cons_zero, List.getD_cons_succ, -List.getD_eq_getElem?_getD, pureOp, rwS_zero, bdS_zero]) (b := fun hg => by simp [hG, List.getD_cons_zero, List.getD_cons_succ, -List.getD_eq_getElem?_getD, pureOp, rwS_zero, bdS_zero]) (h := by intro K h; simp [hG, List.getD_cons_zero, List.getD_cons_succ, -List.getD_eq_getElem?_getD, pureOp, rwS_zero, bdS_zero]; exact h)
 refine zl 1 ?_ (h := by intro c K h; simp [hG, List.getD_cons_zero, List.getD_cons_succ, -List.getD_eq_getElem?_getD, pureOp, rwS_zero, bdS_zero]; first | exact z1 c h | exact ⟨.mk c, h⟩)
 refine zN (zs (zr ?_ (h := by intro c K h; simp [hG, List.getD_cons_zero, List.getD_cons_succ, -List.getD_eq_getElem?_getD, pureOp, rwS_zero, bdS_zero]; first | exact z1 c h | exact ⟨.mk c, h⟩)))
 refine zy (fun hb27 => ?_) fun hb27 => ?_
 · refine zs (zr ?_ (h := by intro c K h; simp [hG, List.getD_cons_zero, List.getD_cons_succ, -List.getD_eq_getElem?_getD, pureOp, rwS_zero, bdS_zero]; first | exact z1 c h | exact ⟨.mk c, h⟩))
   refine zt ?_
   refine RetOK_of ?_
   simp [hG, List.getD_cons_zero, List.getD_cons_succ, -List.getD_eq_getElem?_getD, pureOp, rwS_zero, bdS_zero]
   rw [eb_1 hb27]; exact ⟨by rw [ebX_no (by rw [eb_1 hb27]; exact hb27)]; exact ⟨rfl, rfl, rfl, rfl⟩, rfl⟩
 have hf0 : flN p = 0 := (by simpa using hb27)
 have hFG := fl_graph hp hf0
 have hlb := fl_lab hp hf0
 have hst := hFG.fit.st
 have hpm := hFG.m
 refine zk (zs (zb (zs (zr ?_ (h := by intro c K h; simp [hG, List.getD_cons_zero, List.getD_cons_succ, -List.getD_eq_getElem?_getD, pureOp, rwS_zero, bdS_zero]; first | exact z1 c h | exact ⟨.mk c, h⟩)))))
 refine zy (fun hb30 => ?_) fun hb30 => ?_
 · refine zs (zr ?_ (h := by intro c K h; simp [hG, List.getD_cons_zero, List.getD_cons_succ, -List.getD_eq_getElem?_getD, pureOp, rwS_zero, bdS_zero]; first | exact z1 c h | exact ⟨.mk c, h⟩))
   refine zt (zbt ?_)
   refine RetOK_of ?_
   simp [hG, List.getD_cons_zero, List.getD_cons_succ, -List.getD_eq_getElem?_getD, pureOp, rwS_zero, bdS_zero]
   exact eb_e (by rw [eb_2 hf0 hb30]; decide) (eb_2 hf0 hb30).symm
 refine zs (zr ?_ (h := by intro c K h; simp [hG, List.getD_cons_zero, List.getD_cons_succ, -List.getD_eq_getElem?_getD, pureOp, rwS_zero, bdS_zero]; first | exact z1 c h | exact ⟨.mk c, h⟩))
 refine zy (fun hb38 => ?_) fun hb38 => ?_
 · refine zs (zr ?_ (h := by intro c K h; simp [hG, List.getD_cons_zero, List.getD_cons_succ, -List.getD_eq_getElem?_getD, pureOp, rwS_zero, bdS_zero]; first | exact z1 c h | exact ⟨.mk c, h⟩))
   refine zt (zbt ?_)
   refine RetOK_of ?_
   simp [hG, List.getD_cons_zero, List.getD_cons_succ, -List.getD_eq_getElem?_getD, pureOp, rwS_zero, bdS_zero]
   exact eb_e (by rw [eb_3 hf0 hb30 hb38]; decide) (eb_3 hf0 hb30 hb38).symm
 refine zs ?_
 refine awpS_draw hR mixed [] ⟨[], [], []⟩ fun mu0 => ?_
 refine za [0, 1, 3, 4, 5] [] 3 [5, 4, 3, 1, 0] ?_ (h := by intro c K h; simp [hG, List.getD_cons_zero, List.getD_cons_succ, -List.getD_eq_getElem?_getD, pureOp, rwS_zero, bdS_zero]; first | exact z1 c h | exact ⟨.mk c, h⟩)
 refine awpA_only (fuel := 2) (i := 2) (by decide +kernel) ?_
 refine ze cal26 (raiseE_c q n (by omega) (by omega)) ?_ (a := fun hg => by simp [hG, List.getD_cons_zero, List.getD_cons_succ, -List.getD_eq_getElem?_getD, pureOp, rwS_zero, bdS_zero]) (b := fun hg => by simp [hG, List.getD_cons_zero, List.getD_cons_succ, -List.getD_eq_getElem?_getD, pureOp, rwS_zero, bdS_zero]) (h := by intro K h; simp [hG, List.getD_cons_zero, List.getD_cons_succ, -List.getD_eq_getElem?_getD, pureOp, rwS_zero, bdS_zero]; exact h)
 refine za [6, 7] [] 0 [7, 6, 2, 5, 4, 3, 1, 0] ?_ (h := by intro c K h; simp [hG, List.getD_cons_zero, List.getD_cons_succ, -List.getD_eq_getElem?_getD, pureOp, rwS_zero, bdS_zero]; first | exact z1 c h | exact ⟨.mk c, h⟩)
 refine awpA_done (by decide +kernel) ?_
 refine zy (fun hb46 => ?_) fun hb46 => ?_
 · refine zs (zr ?_ (h := by intro c K h; simp [hG, List.getD_cons_zero, List.getD_cons_succ, -List.getD_eq_getElem?_getD, pureOp, rwS_zero, bdS_zero]; first | exact z1 c h | exact ⟨.mk c, h⟩))
   refine zt (zbt ?_)
   refine RetOK_of ?_
   simp [hG, List.getD_cons_zero, List.getD_cons_succ, -List.getD_eq_getElem?_getD, pureOp, rwS_zero, bdS_zero]
   exact eb_e (by rw [eb_4 hf0 hb30 hb38 hb46]; decide) (eb_4 hf0 hb30 hb38 hb46).symm
 refine zk (zn (zbn (zs (zL (zl 1 ?_ (h := by intro c K h; simp [hG, List.getD_cons_zero, List.getD_cons_succ, -List.getD_eq_getElem?_getD, pureOp, rwS_zero, bdS_zero]; first | exact z1 c h | exact ⟨.mk c, h⟩))))))
 refine zc cal27 (finalM_c p hp hpr) ?_ (a := fun hg => by simp [hG, List.getD_cons_zero, List.getD_cons_succ, -List.getD_eq_getElem?_getD, pureOp, rwS_zero, bdS_zero]) (b := fun hg => by simp [hG, List.getD_cons_zero, List.getD_cons_succ, -List.getD_eq_getElem?_getD, pureOp, rwS_zero, bdS_zero]) (h := by intro K h; simp [hG, List.getD_cons_zero, List.getD_cons_succ, -List.getD_eq_getElem?_getD, pureOp, rwS_zero, bdS_zero]; exact h)
 refine zl 8 ?_ (h := by intro c K h; simp [hG, List.getD_cons_zero, List.getD_cons_succ, -List.getD_eq_getElem?_getD, pureOp, rwS_zero, bdS_zero]; first | exact z1 c h | exact ⟨.mk c, h⟩)
 refine zN (zs (zs (zr ?_ (h := by intro c K h; simp [hG, List.getD_cons_zero, List.getD_cons_succ, -List.getD_eq_getElem?_getD, pureOp, rwS_zero, bdS_zero]; first | exact z1 c h | exact ⟨.mk c, h⟩))))
 refine awpS_cond rfl (fun hb62 => ?_) (fun hb62 => ?_)
 · simp [hf0] at hb62
 try simp [-List.getD_eq_getElem?_getD] at hb62
 refine zk (zs (zr ?_ (h := by intro c K h; simp [hG, List.getD_cons_zero, List.getD_cons_succ, -List.getD_eq_getElem?_getD, pureOp, rwS_zero, bdS_zero]; first | exact z1 c h | exact ⟨.mk c, h⟩)))
 refine zs (zr ?_ (h := by intro c K h; simp [hG, List.getD_cons_zero, List.getD_cons_succ, -List.getD_eq_getElem?_getD, pureOp, rwS_zero, bdS_zero]; first | exact z1 c h | exact ⟨.mk c, h⟩))
 refine zs (zs (zr ?_ (h := by intro c K h; simp [hG, List.getD_cons_zero, List.getD_cons_succ, -List.getD_eq_getElem?_getD, pureOp, rwS_zero, bdS_zero]; first | exact z1 c h | exact ⟨.mk c, h⟩)))
 refine zb ?_
 refine awpS_loop (α := Nat) (fun i => ⟨[(1, .int .i64 q), (2, .int .i64 n), (3, .vptr 6 (prfF p) 0), (6, .ptr (0, 0) 0 0), (9, .ptr (1, 0) 0 0), (12, .ptr (2, 0) 0 0), (13, .sl (3, 0) 0 (bdS (flG p) p.m.toNat i).length), (14, .int .i64 (i : Nat))], [(0, .one (.arr 1 4 (fun _ j => [.int .i64 0, .int .i64 0, .int .i64 0, .nils].getD j .any))), (1, .one (.arr 1 3 (fun _ => grF (flG p)))), (2, .one (.arr 1 4 (fun _ j => [.int .i64 q, .int .i64 n, .int .i64 p.m, .sl (4, 0) 0 i].getD j .any))), (3, .one (.arr (bdS (flG p) p.m.toNat i).length 1 (fun x9 _ => .int .i64 ((bdS (flG p) p.m.toNat i).getD x9 0)))), (4, .one (.arr i 1 (fun k _ => cells (bdR (flG p) q n p.m.toNat k))))], 5⟩) (fun i => i ≤ (bdS (flG p) p.m.toNat i).length ∧ i ≤ 64 ∧ ∀ j, j < i → j < (bdS (flG p) p.m.toNat j).length) (fun i => 65 - i) (0) (⟨Nat.zero_le _, by omega, fun j hj => absurd hj (Nat.not_lt_zero _)⟩) ?_ ?_
 · exact zw (fun k => k + 1) (fun k => k == 0) (fun k => k == 4) (e := by simp [hG, List.getD_cons_zero, List.getD_cons_succ, -List.getD_eq_getElem?_getD, pureOp, rwS_zero, bdS_zero]) (h := by simp [hG, bdS_zero, pureOp, List.getD_cons_zero, List.getD_cons_succ, -List.getD_eq_getElem?_getD]; (try exact fun i hi => by obtain rfl : i = 0 := (by omega); rfl))
 rintro i ⟨hi, hi64, hnn⟩
 refine zs (zs (zr ?_ (h := by intro c K h; simp [hG, List.getD_cons_zero, List.getD_cons_succ, -List.getD_eq_getElem?_getD, pureOp, rwS_zero, bdS_zero]; first | exact z1 c h | exact ⟨.mk c, h⟩)))
 refine zy (fun hb74 => ?_) fun hb74 => ?_
 · have hmet := bdS_met hFG.fit hFG.st hFG.out i
   have hsb := hmet.box _ (getD_mem (d := (0 : Int)) hb74)
   have hml := hmet.len
   have hol := hFG.out _ hsb.1 hsb.2
   have hmn : min ((outL (flG p) ((bdS (flG p) p.m.toNat i).getD i 0)).length : Int) p.m = p.m := (by omega)
   refine zk (zs (zb (zs ?_)))
   refine awpS_draw hR mixed [] ⟨[], [], []⟩ fun mu0 => ?_
   refine za [0, 1, 2, 3, 4] [] 6 [4, 3, 2, 1, 0] ?_ (h := by intro c K h; simp [hG, List.getD_cons_zero, List.getD_cons_succ, -List.getD_eq_getElem?_getD, pureOp, rwS_zero, bdS_zero]; first | exact z1 c h | exact ⟨.mk c, h⟩)
   refine awpA_only (fuel := 5) (i := 5) (by decide +kernel) ?_
   refine ze cal28 (outC_in hFG.gv hsb) ?_ (a := fun hg => by simp [hG, List.getD_cons_zero, List.getD_cons_succ, -List.getD_eq_getElem?_getD, pureOp, rwS_zero, bdS_zero]) (b := fun hg => by simp [hG, List.getD_cons_zero, List.getD_cons_succ, -List.getD_eq_getElem?_getD, pureOp, rwS_zero, bdS_zero]) (h := by intro K h; simp [hG, List.getD_cons_zero, List.getD_cons_succ, -List.getD_eq_getElem?_getD, pureOp, rwS_zero, bdS_zero]; exact h)
   refine za [6, 7, 8, 9, 10] [] 0 [10, 9, 8, 7, 6, 5, 4, 3, 2, 1, 0] ?_ (h := by intro c K h; simp [hG, List.getD_cons_zero, List.getD_cons_succ, -List.getD_eq_getElem?_getD, pureOp, rwS_zero, bdS_zero]; first | exact z1 c h | exact ⟨.mk c, h⟩)
   refine awpA_done (by decide +kernel) ?_
   refine zs (zs (zr ?_ (h := by intro c K h; simp [hG, List.getD_cons_zero, List.getD_cons_succ, -List.getD_eq_getElem?_getD, pureOp, rwS_zero, bdS_zero]; first | exact z1 c h | exact ⟨.mk c, h⟩)))
   refine awpS_cond rfl (fun hb87 => ?_) (fun hb87 => ?_)
   · simp at hb87
   try simp [-List.getD_eq_getElem?_getD] at hb87
   refine zk (zs (zr ?_ (h := by intro c K h; simp [hG, List.getD_cons_zero, List.getD_cons_succ, -List.getD_eq_getElem?_getD, pureOp, rwS_zero, bdS_zero]; first | exact z1 c h | exact ⟨.mk c, h⟩)))
   refine zs (zs (zr ?_ (h := by intro c K h; simp [hG, List.getD_cons_zero, List.getD_cons_succ, -List.getD_eq_getElem?_getD, pureOp, rwS_zero, bdS_zero]; first | exact z1 c h | exact ⟨.mk c, h⟩)))
   refine zb ?_
   refine awpS_loop (α := Nat) (fun k => ⟨[(1, .int .i64 q), (2, .int .i64 n), (3, .vptr 6 (prfF p) 0), (6, .ptr (0, 0) 0 0), (9, .ptr (1, 0) 0 0), (12, .ptr (2, 0) 0 0), (13, .sl (3, 0) 0 (rwS (flG p) (outL (flG p) ((bdS (flG p) p.m.toNat i).getD i 0)) (bdS (flG p) p.m.toNat i) k).length), (14, .int .i64 (i : Nat)), (15, ints (outL (flG p) ((bdS (flG p) p.m.toNat i).getD i 0))), (17, .sl (5, 0) 0 k), (96, ints ((outL (flG p) ((bdS (flG p) p.m.toNat i).getD i 0)).take p.m.toNat)), (97, .int .i64 p.m), (98, .int .i64 (k : Nat))], [(0, .one (.arr 1 4 (fun _ j => [.int .i64 0, .int .i64 0, .int .i64 0, .nils].getD j .any))), (1, .one (.arr 1 3 (fun _ => grF (flG p)))), (2, .one (.arr 1 4 (fun _ j => [.int .i64 q, .int .i64 n, .int .i64 p.m, .sl (4, 0) 0 i].getD j .any))), (3, .one (.arr (rwS (flG p) (outL (flG p) ((bdS (flG p) p.m.toNat i).getD i 0)) (bdS (flG p) p.m.toNat i) k).length 1 (fun x9 _ => .int .i64 ((rwS (flG p) (outL (flG p) ((bdS (flG p) p.m.toNat i).getD i 0)) (bdS (flG p) p.m.toNat i) k).getD x9 0)))), (4, .one (.arr i 1 (fun k _ => cells (bdR (flG p) q n p.m.toNat k)))), (5, .one (.arr k 2 (fun j => cellF (rwC (flG p) q n (outL (flG p) ((bdS (flG p) p.m.toNat i).getD i 0)) (bdS (flG p) p.m.toNat i) j))))], 6⟩) (fun k => k ≤ p.m.toNat) (fun k => p.m.toNat - k) (0) (Nat.zero_le _) ?_ ?_
   · exact zw (id) (fun _ => false) (fun k => k == 5) (e := by simp [hG, rwS_zero, pureOp, List.getD_cons_zero, List.getD_cons_succ, -List.getD_eq_getElem?_getD]; exact ⟨⟨by omega, fun i hi => by rw [ints_take (by omega)]⟩, by omega⟩) (h := by simp [hG, List.getD_cons_zero, List.getD_cons_succ, -List.getD_eq_getElem?_getD, pureOp, rwS_zero, bdS_zero])
   rintro k hk
   refine zs (zr ?_ (h := by intro c K h; simp [hG, List.getD_cons_zero, List.getD_cons_succ, -List.getD_eq_getElem?_getD, pureOp, rwS_zero, bdS_zero]; first | exact z1 c h | exact ⟨.mk c, h⟩))
   refine zs (zy (fun hb99 => ?_) fun hb99 => ?_)
   · have hmk := rwS_met hFG.fit (outL_box (g := (flG p)) (s := (bdS (flG p) p.m.toNat i).getD i 0)) hmet k (by omega)
     have hkl := hmk.len
     have hem := edg_mem (k := k) (outL_box (g := (flG p)) (s := (bdS (flG p) p.m.toNat i).getD i 0)) (by omega)
     have hto := hFG.fit.to _ hem
     have hla := edg_lab hFG.gv hem
     have hl256 := (gcheck_valid hFG.gv).1.lab
     have hbn := lab_block (q := q) (n := n) (by omega) (by omega) (l := (edgK (flG p) (outL (flG p) ((bdS (flG p) p.m.toNat i).getD i 0)) k).lab) hla.1 (by omega) (by omega)
     have hti : ((outL (flG p) ((bdS (flG p) p.m.toNat i).getD i 0)).take p.m.toNat).getD k 0 = (outL (flG p) ((bdS (flG p) p.m.toNat i).getD i 0)).getD k 0 := ints_take (by omega)
     have hob := outL_box (g := (flG p)) (s := (bdS (flG p) p.m.toNat i).getD i 0) _ (getD_mem (d := (0 : Int)) (show k < (outL (flG p) ((bdS (flG p) p.m.toNat i).getD i 0)).length by omega))
     refine zk (zs (zb (zs (zr ?_ (h := by intro c K h; simp [hG, List.getD_cons_zero, List.getD_cons_succ, -List.getD_eq_getElem?_getD, pureOp, rwS_zero, bdS_zero]; first | exact z1 c h | exact ⟨.mk c, h⟩)))))
     refine zs (zr ?_ (h := by intro c K h; simp [hG, List.getD_cons_zero, List.getD_cons_succ, -List.getD_eq_getElem?_getD, pureOp, rwS_zero, bdS_zero]; first | exact z1 c h | exact ⟨.mk c, h⟩))
     refine zs (zL (zl 4 ?_ (h := by intro c K h; simp [hG, List.getD_cons_zero, List.getD_cons_succ, -List.getD_eq_getElem?_getD, pureOp, rwS_zero, bdS_zero]; first | exact z1 c h | exact ⟨.mk c, h⟩)))
     refine zc cal29 (block_in hbn (by omega)) ?_ (a := fun hg => by simp [hG, List.getD_cons_zero, List.getD_cons_succ, -List.getD_eq_getElem?_getD, pureOp, rwS_zero, bdS_zero]) (b := fun hg => by simp [hG, hti, pureOp, List.getD_cons_zero, List.getD_cons_succ, -List.getD_eq_getElem?_getD]; rfl) (h := by intro K h; simp [hG, List.getD_cons_zero, List.getD_cons_succ, -List.getD_eq_getElem?_getD, pureOp, rwS_zero, bdS_zero]; exact h)
     refine zl 5 ?_ (h := by intro c K h; simp [hG, List.getD_cons_zero, List.getD_cons_succ, -List.getD_eq_getElem?_getD, pureOp, rwS_zero, bdS_zero]; first | exact z1 c h | exact ⟨.mk c, h⟩)
     refine zN (zs (zs (zr ?_ (h := by intro c K h; simp [hG, List.getD_cons_zero, List.getD_cons_succ, -List.getD_eq_getElem?_getD, pureOp, rwS_zero, bdS_zero]; first | exact z1 c h | exact ⟨.mk c, h⟩))))
     refine awpS_cond rfl (fun hb116 => ?_) (fun hb116 => ?_)
     · simp at hb116
     try simp [-List.getD_eq_getElem?_getD] at hb116
     refine zk (zs (zL (zl 3 ?_ (h := by intro c K h; simp [hG, List.getD_cons_zero, List.getD_cons_succ, -List.getD_eq_getElem?_getD, pureOp, rwS_zero, bdS_zero]; first | exact z1 c h | exact ⟨.mk c, h⟩))))
     refine awpL_callB (mem [3]) cal30 (by simp [flat]) rfl rfl (fun _ => rfl) (fun hg => indexI_c (rwS (flG p) (outL (flG p) ((bdS (flG p) p.m.toNat i).getD i 0)) (bdS (flG p) p.m.toNat i) k) (edgK (flG p) (outL (flG p) ((bdS (flG p) p.m.toNat i).getD i 0)) k).to (by omega)) (fun hg => ?_) (fun hg => ?_) fun K hK => ?_
     · simp [hG, List.getD_cons_zero, List.getD_cons_succ, -List.getD_eq_getElem?_getD, pureOp, rwS_zero, bdS_zero]
     · simp [hG, hti, pureOp, List.getD_cons_zero, List.getD_cons_succ, -List.getD_eq_getElem?_getD]; rfl
     simp [hG, List.getD_cons_zero, List.getD_cons_succ, -List.getD_eq_getElem?_getD, pureOp, rwS_zero, bdS_zero]
     refine hK _ ?_
     clear K hK
     refine zl 1 ?_ (h := by intro c K h; simp [hG, List.getD_cons_zero, List.getD_cons_succ, -List.getD_eq_getElem?_getD, pureOp, rwS_zero, bdS_zero]; first | exact z1 c h | exact ⟨.mk c, h⟩)
     refine zN (zs (zs (zr ?_ (h := by intro c K h; simp [hG, List.getD_cons_zero, List.getD_cons_succ, -List.getD_eq_getElem?_getD, pureOp, rwS_zero, bdS_zero]; first | exact z1 c h | exact ⟨.mk c, h⟩))))
     refine zy (fun hb124 => ?_) fun hb124 => ?_
     · have hrs := rwS_new (g := (flG p)) (l := (outL (flG p) ((bdS (flG p) p.m.toNat i).getD i 0))) (S := (bdS (flG p) p.m.toNat i)) (k := k) hb124
       have hrc := rwC_new (q := q) (n := n) hb124
       refine zs (zr ?_ (h := by intro c K h; simp [hG, List.getD_cons_zero, List.getD_cons_succ, -List.getD_eq_getElem?_getD, pureOp, rwS_zero, bdS_zero]; first | exact z1 c h | exact ⟨.mk c, h⟩))
       refine zr ?_ (h := by intro c K h; simp [hG, List.getD_cons_zero, List.getD_cons_succ, -List.getD_eq_getElem?_getD, pureOp, rwS_zero, bdS_zero]; first | exact z1 c h | exact ⟨.mk c, h⟩)
       refine zr ?_ (h := by intro c K h; simp [hG, List.getD_cons_zero, List.getD_cons_succ, -List.getD_eq_getElem?_getD, pureOp, rwS_zero, bdS_zero]; first | exact z1 c h | exact ⟨.mk c, h⟩)
       refine zn (zbn (zr ?_ (h := by intro c K h; simp [hG, List.getD_cons_zero, List.getD_cons_succ, -List.getD_eq_getElem?_getD, pureOp, rwS_zero, bdS_zero]; first | exact z1 c h | exact ⟨.mk c, h⟩)))
       refine zn ?_
       refine round_end (k + 1) (by omega) (by omega) ?_
       exact zw (fun k => if k = 3 then 8 else if k = 5 then 10 else k) (fun _ => false) (fun _ => false) (e := by rw [hrs]; simp [hG, pureOp, List.getD_cons_zero, List.getD_cons_succ, -List.getD_eq_getElem?_getD]) (h := by rw [hrs]; simp [hG, pureOp, List.getD_cons_zero, List.getD_cons_succ, -List.getD_eq_getElem?_getD]; rw [hti]; exact ⟨fun i hi => app_oneE (by omega), fun i hi => app_cellE (by omega) (by rw [hrc]; rfl) (by rw [hrc]; rfl)⟩)
     have hrs := rwS_old (g := (flG p)) (l := (outL (flG p) ((bdS (flG p) p.m.toNat i).getD i 0))) (S := (bdS (flG p) p.m.toNat i)) (k := k) (by omega)
     have hrc := rwC_old (q := q) (n := n) (g := (flG p)) (l := (outL (flG p) ((bdS (flG p) p.m.toNat i).getD i 0))) (S := (bdS (flG p) p.m.toNat i)) (k := k) (by omega)
     refine zk (zr ?_ (h := by intro c K h; simp [hG, List.getD_cons_zero, List.getD_cons_succ, -List.getD_eq_getElem?_getD, pureOp, rwS_zero, bdS_zero]; first | exact z1 c h | exact ⟨.mk c, h⟩))
     refine zn (zbn (zr ?_ (h := by intro c K h; simp [hG, List.getD_cons_zero, List.getD_cons_succ, -List.getD_eq_getElem?_getD, pureOp, rwS_zero, bdS_zero]; first | exact z1 c h | exact ⟨.mk c, h⟩)))
     refine zn ?_
     refine round_end (k + 1) (by omega) (by omega) ?_
     exact zw (fun k => if k = 5 then 8 else k) (fun _ => false) (fun _ => false) (e := by rw [hrs]; simp [hG, pureOp, List.getD_cons_zero, List.getD_cons_succ, -List.getD_eq_getElem?_getD]) (h := by rw [hrs]; simp [hG, pureOp, List.getD_cons_zero, List.getD_cons_succ, -List.getD_eq_getElem?_getD]; exact fun i hi => app_cellE (by omega) (by rw [hrc]; rfl) (by rw [hrc]; rfl))
   obtain rfl : k = p.m.toNat := (by omega)
   refine zx (ztx (zbx ?_))
   refine awpS_wk (st2 := ⟨[(1, .int .i64 q), (2, .int .i64 n), (3, .vptr 6 (prfF p) 0), (6, .ptr (0, 0) 0 0), (9, .ptr (1, 0) 0 0), (12, .ptr (2, 0) 0 0), (13, .sl (3, 0) 0 (bdS (flG p) p.m.toNat (i + 1)).length), (14, .int .i64 (i : Nat)), (17, cells (bdR (flG p) q n p.m.toNat i))], [(0, .one (.arr 1 4 (fun _ j => [.int .i64 0, .int .i64 0, .int .i64 0, .nils].getD j .any))), (1, .one (.arr 1 3 (fun _ => grF (flG p)))), (2, .one (.arr 1 4 (fun _ j => [.int .i64 q, .int .i64 n, .int .i64 p.m, .sl (4, 0) 0 i].getD j .any))), (3, .one (.arr (bdS (flG p) p.m.toNat (i + 1)).length 1 (fun x9 _ => .int .i64 ((bdS (flG p) p.m.toNat (i + 1)).getD x9 0)))), (4, .one (.arr i 1 (fun k _ => cells (bdR (flG p) q n p.m.toNat k))))], 5⟩) ?_ ?_
   · exact zw (id) (fun k => k == 5) (fun _ => false) (e := by simp [hG, bdR_len, bdS_succ, pureOp, List.getD_cons_zero, List.getD_cons_succ, -List.getD_eq_getElem?_getD]; (try exact fun i hi => by rw [bdR_at (by omega)]; exact ⟨rfl, rfl⟩)) (h := by simp [hG, bdS_succ, pureOp, List.getD_cons_zero, List.getD_cons_succ, -List.getD_eq_getElem?_getD])
   refine zr ?_ (h := by intro c K h; simp [hG, List.getD_cons_zero, List.getD_cons_succ, -List.getD_eq_getElem?_getD, pureOp, rwS_zero, bdS_zero]; first | exact z1 c h | exact ⟨.mk c, h⟩)
   refine zn (zbn (zr ?_ (h := by intro c K h; simp [hG, List.getD_cons_zero, List.getD_cons_succ, -List.getD_eq_getElem?_getD, pureOp, rwS_zero, bdS_zero]; first | exact z1 c h | exact ⟨.mk c, h⟩)))
   refine zn ?_
   refine round_end (i + 1) (⟨by have := (bdS_pre (g := flG p) (m := p.m.toNat) (i := i)).length_le; omega, by omega, step_all hnn hb74⟩) (by omega) ?_
   exact zw (fun k => if k = 4 then 6 else k) (fun _ => false) (fun _ => false) (e := by simp [hG, List.getD_cons_zero, List.getD_cons_succ, -List.getD_eq_getElem?_getD, pureOp, rwS_zero, bdS_zero]) (h := by simp [hG, pureOp, List.getD_cons_zero, List.getD_cons_succ, -List.getD_eq_getElem?_getD]; exact fun j hj => app_rowC (F := bdR (flG p) q n p.m.toNat) (by omega) (Clo.le _ Clo_cells))
 refine zx (ztx (zbx (zs (zr ?_ (h := by intro c K h; simp [hG, List.getD_cons_zero, List.getD_cons_succ, -List.getD_eq_getElem?_getD, pureOp, rwS_zero, bdS_zero]; first | exact z1 c h | exact ⟨.mk c, h⟩)))))
 refine zt ?_
 refine RetOK_of ?_
 simp [hG, List.getD_cons_zero, List.getD_cons_succ, -List.getD_eq_getElem?_getD, pureOp, rwS_zero, bdS_zero]
 have h0 := eb_5 (n := n) hf0 hb30 hb38 hb46; have hk := bdK_at hFG.fit hFG.st hFG.out hnn hb74 hi64; rw [ebX_ok h0 hk, h0]; simp only [List.length_map, List.length_range, true_and, and_true]; exact ⟨Nat.le_refl _, fun j hj => by rw [rows_at hj]; exact Clo.le _ Clo_cells⟩
end Go.Proofs.YtchjjiedcpfniaaGreatDoor
