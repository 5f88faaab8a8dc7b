/- Parts of the proof: US. -/
import Derived.Test.YtchjjiedcpfniaaGreatDoorU16
import Derived.Test.YtchjjiedcpfniaaGreatDoorU44
namespace Go.Proofs.YtchjjiedcpfniaaGreatDoor
set_option linter.unusedSimpArgs false
set_option linter.unusedVariables false
open Go Go.Lift Go.Proofs
theorem outRf_in {g : Gr} {s : Int} (hg : gcheck g = 0) (hs : 0 ≤ s ∧ s < g.states) : PC Tryz.prog 32 [.agg 3 (grF g), .int .i64 s] (.tup 2 (fun j => [ints (outL g s), .int .i64 0].getD j .any)) := by
  have h := outRf_c g s
  obtain ⟨h1, h2⟩ := out_3 hg hs
  rw [h1, h2] at h
  exact h
theorem blockR_in {q n l : Int} (h : blockN q n l = 0) (hlx : l ≤ 9223372036854775807) : PC Tryz.prog 33 [.int .i64 q, .int .i64 n, .int .i64 l] (.tup 2 (fun j => [.str (blockX q n l), .int .i64 0].getD j .any)) := by
  have h1 := blockR_c q n l hlx
  rw [h] at h1
  exact h1
theorem getElem_inj_nd {S : List Int} (nd : S.Nodup) {i j : Nat} (hi : i < S.length) (hj : j < S.length) : S[i] = S[j] ↔ i = j := by
  constructor
  · intro h
    rcases Nat.lt_trichotomy i j with k | k | k
    · exact absurd h (List.pairwise_iff_getElem.1 nd i j hi hj k)
    · exact k
    · exact absurd h.symm (List.pairwise_iff_getElem.1 nd j i hj hi k)
  · rintro rfl; rfl
def lastP (S : List Int) (t : Int) : Nat → Int
  | 0 => -1
  | j + 1 => if S.getD j 0 = t then j else lastP S t j
section
variable {S : List Int} {t : Int}
theorem lastP_zero : lastP S t 0 = -1 := rfl
theorem lastP_yes {j : Nat} (h : S.getD j 0 = t) : lastP S t (j + 1) = j := if_pos h
theorem lastP_no {j : Nat} (h : ¬ S.getD j 0 = t) : lastP S t (j + 1) = lastP S t j := if_neg h
theorem lastP_none : ∀ j, (∀ i, i < j → S.getD i 0 ≠ t) → lastP S t j = -1
  | 0, _ => rfl
  | j + 1, h => by rw [lastP_no (h j (by omega))]; exact lastP_none j fun i hi => h i (by omega)
theorem lastP_at {i : Nat} (nd : S.Nodup) (hi : i < S.length) (h : S.getD i 0 = t) : ∀ j, i < j → j ≤ S.length → lastP S t j = i
  | 0, h1, _ => absurd h1 (Nat.not_lt_zero _)
  | j + 1, h1, h2 => by
    by_cases e : j = i
    · subst e; exact lastP_yes h
    · rw [lastP_no ?_]
      · exact lastP_at nd hi h j (by omega) (by omega)
      · rw [← h]
        intro k
        have h3 : j < S.length := by omega
        simp only [List.getD, List.getElem?_eq_getElem h3, List.getElem?_eq_getElem hi, Option.getD_some] at k
        exact e ((getElem_inj_nd nd h3 hi).1 k)
theorem lastP_end (nd : S.Nodup) : lastP S t S.length = placeI S t := by
  by_cases h : t ∈ S
  · obtain ⟨i, hi, he⟩ := List.mem_iff_getElem.1 h
    have he2 : S.getD i 0 = t := by simp [List.getD, hi, he]
    rw [lastP_at nd hi he2 _ hi (Nat.le_refl _), placeI_some _ _ i hi (fun j hj k => ?_) he2]
    rw [← he2] at k
    have h3 : j < S.length := by omega
    simp only [List.getD, List.getElem?_eq_getElem h3, List.getElem?_eq_getElem hi, Option.getD_some] at k
    exact absurd ((getElem_inj_nd nd h3 hi).1 k) (by omega)
  · have h2 : ∀ j, j < S.length → S.getD j 0 ≠ t := fun j hj k => h (k ▸ getD_mem hj)
    rw [placeI_none _ _ h2, lastP_none _ h2]
end
set_option maxRecDepth 100000 in
set_option maxHeartbeats 1000000 in
theorem buildRfE_c (p : Prf) (hp : PrfOK p) (hpr : p.rounds.length ≤ 66) (q n : Int) : PC Tryz.prog 8 [.agg 6 (prfF p), .int .i64 q, .int .i64 n] (.tup 2 (fun j => [.agg 4 (encF (ebX p q n)), .int .i64 (ebN p q n)].getD j .any)) := by
 have hML : maxLen = 9223372036854775807 := by decide
 refine zp Tryz.func8 fun G hG hR => ?_
 refine zs (zr ?_ (h := by intro c K h; simp [hG, List.getD_cons_zero, List.getD_cons_succ, -List.getD_eq_getElem?_getD, pureOp, rwS_zero, bdS_zero]; first | exact z1 c h | exact ⟨.mk c, h⟩))
 refine zs (zL (zl 1 ?_ (h := by intro c K h; simp [hG, List.getD_cons_zero, List.getD_cons_succ, -List.getD_eq_getElem?_getD, pureOp, rwS_zero, bdS_zero]; first | exact z1 c h | exact ⟨.mk c, h⟩)))
 refine zc cal31 (finalR_c p hp hpr) ?_ (a := fun hg => by simp [hG, List.getD_cons_zero, List.getD_cons_succ, -List.getD_eq_getElem?_getD, pureOp, rwS_zero, bdS_zero]) (b := fun hg => by simp [hG, List.getD_cons_zero, List.getD_cons_succ, -List.getD_eq_getElem?_getD, pureOp, rwS_zero, bdS_zero]) (h := by intro K h; simp [hG, List.getD_cons_zero, List.getD_cons_succ, -List.getD_eq_getElem?_getD, pureOp, rwS_zero, bdS_zero]; exact h)
 refine zl 8 ?_ (h := by intro c K h; simp [hG, List.getD_cons_zero, List.getD_cons_succ, -List.getD_eq_getElem?_getD, pureOp, rwS_zero, bdS_zero]; first | exact z1 c h | exact ⟨.mk c, h⟩)
 refine zN (zs (zs (zr ?_ (h := by intro c K h; simp [hG, List.getD_cons_zero, List.getD_cons_succ, -List.getD_eq_getElem?_getD, pureOp, rwS_zero, bdS_zero]; first | exact z1 c h | exact ⟨.mk c, h⟩))))
 refine zy (fun hb32 => ?_) fun hb32 => ?_
 · refine zs (zr ?_ (h := by intro c K h; simp [hG, List.getD_cons_zero, List.getD_cons_succ, -List.getD_eq_getElem?_getD, pureOp, rwS_zero, bdS_zero]; first | exact z1 c h | exact ⟨.mk c, h⟩))
   refine zt ?_
   refine RetOK_of ?_
   simp [hG, List.getD_cons_zero, List.getD_cons_succ, -List.getD_eq_getElem?_getD, pureOp, rwS_zero, bdS_zero]
   rw [eb_1 hb32]; exact ⟨by rw [ebX_no (by rw [eb_1 hb32]; exact hb32)]; exact ⟨rfl, rfl, rfl, rfl⟩, rfl⟩
 have hf0 : flN p = 0 := (by simpa using hb32)
 have hFG := fl_graph hp hf0
 have hlb := fl_lab hp hf0
 have hst := hFG.fit.st
 have hpm := hFG.m
 refine zk (zs (zs (zr ?_ (h := by intro c K h; simp [hG, List.getD_cons_zero, List.getD_cons_succ, -List.getD_eq_getElem?_getD, pureOp, rwS_zero, bdS_zero]; first | exact z1 c h | exact ⟨.mk c, h⟩))))
 refine zy (fun hb40 => ?_) fun hb40 => ?_
 · refine zs (zr ?_ (h := by intro c K h; simp [hG, List.getD_cons_zero, List.getD_cons_succ, -List.getD_eq_getElem?_getD, pureOp, rwS_zero, bdS_zero]; first | exact z1 c h | exact ⟨.mk c, h⟩))
   refine zt ?_
   refine RetOK_of ?_
   simp [hG, List.getD_cons_zero, List.getD_cons_succ, -List.getD_eq_getElem?_getD, pureOp, rwS_zero, bdS_zero]
   exact eb_e (by rw [eb_2 hf0 hb40]; decide) (eb_2 hf0 hb40).symm
 refine zk (zs (zs (zr ?_ (h := by intro c K h; simp [hG, List.getD_cons_zero, List.getD_cons_succ, -List.getD_eq_getElem?_getD, pureOp, rwS_zero, bdS_zero]; first | exact z1 c h | exact ⟨.mk c, h⟩))))
 refine zy (fun hb47 => ?_) fun hb47 => ?_
 · refine zs (zr ?_ (h := by intro c K h; simp [hG, List.getD_cons_zero, List.getD_cons_succ, -List.getD_eq_getElem?_getD, pureOp, rwS_zero, bdS_zero]; first | exact z1 c h | exact ⟨.mk c, h⟩))
   refine zt ?_
   refine RetOK_of ?_
   simp [hG, List.getD_cons_zero, List.getD_cons_succ, -List.getD_eq_getElem?_getD, pureOp, rwS_zero, bdS_zero]
   exact eb_e (by rw [eb_3 hf0 hb40 hb47]; decide) (eb_3 hf0 hb40 hb47).symm
 refine zk (zs (zr ?_ (h := by intro c K h; simp [hG, List.getD_cons_zero, List.getD_cons_succ, -List.getD_eq_getElem?_getD, pureOp, rwS_zero, bdS_zero]; first | exact z1 c h | exact ⟨.mk c, h⟩)))
 refine zs (zs (zr ?_ (h := by intro c K h; simp [hG, List.getD_cons_zero, List.getD_cons_succ, -List.getD_eq_getElem?_getD, pureOp, rwS_zero, bdS_zero]; first | exact z1 c h | exact ⟨.mk c, h⟩)))
 refine zb ?_
 refine awpS_loop (α := Nat) (fun k => ⟨[(1, .int .i64 q), (2, .int .i64 n), (3, .vptr 6 (prfF p) 0), (6, .ptr (0, 0) 0 0), (8, .ptr (1, 0) 0 0), (11, .int .i64 (upTo q k)), (12, .int .i64 (k : Nat))], [(0, .one (.arr 1 4 (fun _ j => [.int .i64 0, .int .i64 0, .int .i64 0, .nils].getD j .any))), (1, .one (.arr 1 3 (fun _ => grF (flG p))))], 2⟩) (fun k => k ≤ n.toNat) (fun k => n.toNat - k) (0) (Nat.zero_le _) ?_ ?_
 · exact zw (fun k => k + 1) (fun k => k == 0) (fun _ => false) (e := by simp [hG, pureOp, List.getD_cons_zero, List.getD_cons_succ, -List.getD_eq_getElem?_getD]; try rfl) (h := by simp [hG, List.getD_cons_zero, List.getD_cons_succ, -List.getD_eq_getElem?_getD, pureOp, rwS_zero, bdS_zero])
 rintro k hk
 refine zs (zs (zr ?_ (h := by intro c K h; simp [hG, List.getD_cons_zero, List.getD_cons_succ, -List.getD_eq_getElem?_getD, pureOp, rwS_zero, bdS_zero]; first | exact z1 c h | exact ⟨.mk c, h⟩)))
 refine zy (fun hb55 => ?_) fun hb55 => ?_
 · have hpos := upTo_pos (q := q) (by omega) k
   have hE := upTo_next (q := q) (k := k) (by omega)
   have hmul := mul_box hpos (show upTo q k ≤ 256 by omega) (show 1 ≤ q ∧ q ≤ 256 by omega)
   refine zk (zs (zb (zr ?_ (h := by intro c K h; simp [hG, List.getD_cons_zero, List.getD_cons_succ, -List.getD_eq_getElem?_getD, pureOp, rwS_zero, bdS_zero]; first | exact z1 c h | exact ⟨.mk c, h⟩))))
   refine zn (zbn (zr ?_ (h := by intro c K h; simp [hG, List.getD_cons_zero, List.getD_cons_succ, -List.getD_eq_getElem?_getD, pureOp, rwS_zero, bdS_zero]; first | exact z1 c h | exact ⟨.mk c, h⟩)))
   refine zn ?_
   refine round_end (k + 1) (by omega) (by omega) ?_
   exact zi (e := by rw [hE]; simp [hG, pureOp, List.getD_cons_zero, List.getD_cons_succ, -List.getD_eq_getElem?_getD]) (h := by simp [hG, List.getD_cons_zero, List.getD_cons_succ, -List.getD_eq_getElem?_getD, pureOp, rwS_zero, bdS_zero])
 have hup : upTo q k = upTo q n.toNat := up_end hk (by omega)
 refine zx (ztx (zbx (zs (zs (zr ?_ (h := by intro c K h; simp [hG, List.getD_cons_zero, List.getD_cons_succ, -List.getD_eq_getElem?_getD, pureOp, rwS_zero, bdS_zero]; first | exact z1 c h | exact ⟨.mk c, h⟩))))))
 refine zy (fun hb64 => ?_) fun hb64 => ?_
 · refine zs (zr ?_ (h := by intro c K h; simp [hG, List.getD_cons_zero, List.getD_cons_succ, -List.getD_eq_getElem?_getD, pureOp, rwS_zero, bdS_zero]; first | exact z1 c h | exact ⟨.mk c, h⟩))
   refine zt ?_
   refine RetOK_of ?_
   simp [hG, List.getD_cons_zero, List.getD_cons_succ, -List.getD_eq_getElem?_getD, pureOp, rwS_zero, bdS_zero]
   exact eb_e (by rw [eb_4 hf0 hb40 hb47 (by omega)]; decide) (eb_4 hf0 hb40 hb47 (by omega)).symm
 have hup2 : upTo q n.toNat = p.g.labels := (by omega)
 refine zk (zs (zr ?_ (h := by intro c K h; simp [hG, List.getD_cons_zero, List.getD_cons_succ, -List.getD_eq_getElem?_getD, pureOp, rwS_zero, bdS_zero]; first | exact z1 c h | exact ⟨.mk c, h⟩)))
 refine zs (zr ?_ (h := by intro c K h; simp [hG, List.getD_cons_zero, List.getD_cons_succ, -List.getD_eq_getElem?_getD, pureOp, rwS_zero, bdS_zero]; first | exact z1 c h | exact ⟨.mk c, h⟩))
 refine zs (zs (zr ?_ (h := by intro c K h; simp [hG, List.getD_cons_zero, List.getD_cons_succ, -List.getD_eq_getElem?_getD, pureOp, rwS_zero, bdS_zero]; first | exact z1 c h | exact ⟨.mk c, h⟩)))
 refine zb ?_
 refine awpS_loop (α := Nat) (fun i => ⟨[(1, .int .i64 q), (2, .int .i64 n), (3, .vptr 6 (prfF p) 0), (6, .ptr (0, 0) 0 0), (8, .ptr (1, 0) 0 0), (13, .ptr (2, 0) 0 0), (14, .sl (3, 0) 0 (bdS (flG p) p.m.toNat i).length), (15, .int .i64 (i : Nat))], [(0, .one (.arr 1 4 (fun _ j => [.int .i64 0, .int .i64 0, .int .i64 0, .nils].getD j .any))), (1, .one (.arr 1 3 (fun _ => grF (flG p)))), (2, .one (.arr 1 4 (fun _ j => [.int .i64 q, .int .i64 n, .int .i64 p.m, .sl (4, 0) 0 i].getD j .any))), (3, .one (.arr (bdS (flG p) p.m.toNat i).length 1 (fun x9 _ => .int .i64 ((bdS (flG p) p.m.toNat i).getD x9 0)))), (4, .one (.arr i 1 (fun k _ => cells (bdR (flG p) q n p.m.toNat k))))], 5⟩) (fun i => i ≤ (bdS (flG p) p.m.toNat i).length ∧ i ≤ 64 ∧ ∀ j, j < i → j < (bdS (flG p) p.m.toNat j).length) (fun i => 65 - i) (0) (⟨Nat.zero_le _, by omega, fun j hj => absurd hj (Nat.not_lt_zero _)⟩) ?_ ?_
 · exact zw (id) (fun _ => false) (fun k => k == 4) (e := by simp [hG, List.getD_cons_zero, List.getD_cons_succ, -List.getD_eq_getElem?_getD, pureOp, rwS_zero, bdS_zero]) (h := by simp [hG, bdS_zero, pureOp, List.getD_cons_zero, List.getD_cons_succ, -List.getD_eq_getElem?_getD]; (try exact fun i hi => by obtain rfl : i = 0 := (by omega); rfl))
 rintro i ⟨hi, hi64, hnn⟩
 refine zs (zs (zr ?_ (h := by intro c K h; simp [hG, List.getD_cons_zero, List.getD_cons_succ, -List.getD_eq_getElem?_getD, pureOp, rwS_zero, bdS_zero]; first | exact z1 c h | exact ⟨.mk c, h⟩)))
 refine zy (fun hb75 => ?_) fun hb75 => ?_
 · have hmet := bdS_met hFG.fit hFG.st hFG.out i
   have hsb := hmet.box _ (getD_mem (d := (0 : Int)) hb75)
   have hml := hmet.len
   have hol := hFG.out _ hsb.1 hsb.2
   have hmn : min ((outL (flG p) ((bdS (flG p) p.m.toNat i).getD i 0)).length : Int) p.m = p.m := (by omega)
   refine zk (zs (zb (zs ?_)))
   refine awpS_draw hR mixed [] ⟨[], [], []⟩ fun mu0 => ?_
   refine za [0, 1, 2, 3, 4] [] 6 [4, 3, 2, 1, 0] ?_ (h := by intro c K h; simp [hG, List.getD_cons_zero, List.getD_cons_succ, -List.getD_eq_getElem?_getD, pureOp, rwS_zero, bdS_zero]; first | exact z1 c h | exact ⟨.mk c, h⟩)
   refine awpA_only (fuel := 5) (i := 5) (by decide +kernel) ?_
   refine ze cal32 (outRf_in hFG.gv hsb) ?_ (a := fun hg => by simp [hG, List.getD_cons_zero, List.getD_cons_succ, -List.getD_eq_getElem?_getD, pureOp, rwS_zero, bdS_zero]) (b := fun hg => by simp [hG, List.getD_cons_zero, List.getD_cons_succ, -List.getD_eq_getElem?_getD, pureOp, rwS_zero, bdS_zero]) (h := by intro K h; simp [hG, List.getD_cons_zero, List.getD_cons_succ, -List.getD_eq_getElem?_getD, pureOp, rwS_zero, bdS_zero]; exact h)
   refine za [6, 7, 8, 9, 10] [] 0 [10, 9, 8, 7, 6, 5, 4, 3, 2, 1, 0] ?_ (h := by intro c K h; simp [hG, List.getD_cons_zero, List.getD_cons_succ, -List.getD_eq_getElem?_getD, pureOp, rwS_zero, bdS_zero]; first | exact z1 c h | exact ⟨.mk c, h⟩)
   refine awpA_done (by decide +kernel) ?_
   refine zs (zr ?_ (h := by intro c K h; simp [hG, List.getD_cons_zero, List.getD_cons_succ, -List.getD_eq_getElem?_getD, pureOp, rwS_zero, bdS_zero]; first | exact z1 c h | exact ⟨.mk c, h⟩))
   refine zs (zs (zr ?_ (h := by intro c K h; simp [hG, List.getD_cons_zero, List.getD_cons_succ, -List.getD_eq_getElem?_getD, pureOp, rwS_zero, bdS_zero]; first | exact z1 c h | exact ⟨.mk c, h⟩)))
   refine zb ?_
   refine awpS_loop (α := Nat) (fun k => ⟨[(1, .int .i64 q), (2, .int .i64 n), (3, .vptr 6 (prfF p) 0), (6, .ptr (0, 0) 0 0), (8, .ptr (1, 0) 0 0), (13, .ptr (2, 0) 0 0), (14, .sl (3, 0) 0 (rwS (flG p) (outL (flG p) ((bdS (flG p) p.m.toNat i).getD i 0)) (bdS (flG p) p.m.toNat i) k).length), (15, .int .i64 (i : Nat)), (16, ints (outL (flG p) ((bdS (flG p) p.m.toNat i).getD i 0))), (18, .sl (5, 0) 0 k), (19, .int .i64 (k : Nat))], [(0, .one (.arr 1 4 (fun _ j => [.int .i64 0, .int .i64 0, .int .i64 0, .nils].getD j .any))), (1, .one (.arr 1 3 (fun _ => grF (flG p)))), (2, .one (.arr 1 4 (fun _ j => [.int .i64 q, .int .i64 n, .int .i64 p.m, .sl (4, 0) 0 i].getD j .any))), (3, .one (.arr (rwS (flG p) (outL (flG p) ((bdS (flG p) p.m.toNat i).getD i 0)) (bdS (flG p) p.m.toNat i) k).length 1 (fun x9 _ => .int .i64 ((rwS (flG p) (outL (flG p) ((bdS (flG p) p.m.toNat i).getD i 0)) (bdS (flG p) p.m.toNat i) k).getD x9 0)))), (4, .one (.arr i 1 (fun k _ => cells (bdR (flG p) q n p.m.toNat k)))), (5, .one (.arr k 2 (fun j => cellF (rwC (flG p) q n (outL (flG p) ((bdS (flG p) p.m.toNat i).getD i 0)) (bdS (flG p) p.m.toNat i) j))))], 6⟩) (fun k => k ≤ p.m.toNat) (fun k => p.m.toNat - k) (0) (Nat.zero_le _) ?_ ?_
   · exact zw (id) (fun _ => false) (fun k => k == 5) (e := by simp [hG, rwS_zero, pureOp, List.getD_cons_zero, List.getD_cons_succ, -List.getD_eq_getElem?_getD]) (h := by simp [hG, List.getD_cons_zero, List.getD_cons_succ, -List.getD_eq_getElem?_getD, pureOp, rwS_zero, bdS_zero])
   rintro k hk
   refine zs (zs (zr ?_ (h := by intro c K h; simp [hG, List.getD_cons_zero, List.getD_cons_succ, -List.getD_eq_getElem?_getD, pureOp, rwS_zero, bdS_zero]; first | exact z1 c h | exact ⟨.mk c, h⟩)))
   refine zy (fun hb90 => ?_) fun hb90 => ?_
   · have hmk := rwS_met hFG.fit (outL_box (g := (flG p)) (s := (bdS (flG p) p.m.toNat i).getD i 0)) hmet k (by omega)
     have hkl := hmk.len
     have hem := edg_mem (k := k) (outL_box (g := (flG p)) (s := (bdS (flG p) p.m.toNat i).getD i 0)) (by omega)
     have hto := hFG.fit.to _ hem
     have hla := edg_lab hFG.gv hem
     have hl256 := (gcheck_valid hFG.gv).1.lab
     have hbn := lab_block (q := q) (n := n) (by omega) (by omega) (l := (edgK (flG p) (outL (flG p) ((bdS (flG p) p.m.toNat i).getD i 0)) k).lab) hla.1 (by omega) (by omega)
     have hob := outL_box (g := (flG p)) (s := (bdS (flG p) p.m.toNat i).getD i 0) _ (getD_mem (d := (0 : Int)) (show k < (outL (flG p) ((bdS (flG p) p.m.toNat i).getD i 0)).length by omega))
     refine zk (zs (zb (zs ?_)))
     refine awpS_draw hR mixed [] ⟨[9], [], []⟩ fun mu0 => ?_
     refine za [0, 1, 2, 3, 4, 5, 6, 7] [] 2 [7, 6, 5, 4, 3, 2, 1, 0] ?_ (h := by intro c K h; simp [hG, List.getD_cons_zero, List.getD_cons_succ, -List.getD_eq_getElem?_getD, pureOp, rwS_zero, bdS_zero]; first | exact z1 c h | exact ⟨.mk c, h⟩)
     refine awpA_only (fuel := 1) (i := 8) (by decide +kernel) ?_
     refine zo ?_ (hw := by simp [hG, List.getD_cons_zero, List.getD_cons_succ, -List.getD_eq_getElem?_getD, pureOp, rwS_zero, bdS_zero]; (try exact trivial)) (h := by intro c K h; simp [hG, List.getD_cons_zero, List.getD_cons_succ, -List.getD_eq_getElem?_getD, pureOp, rwS_zero, bdS_zero]; first | exact z1 c h | exact ⟨.mk c, h⟩)
     refine awpA_only (fuel := 0) (i := 9) (by decide +kernel) ?_
     refine zo ?_ (hw := by simp [hG, List.getD_cons_zero, List.getD_cons_succ, -List.getD_eq_getElem?_getD, pureOp, rwS_zero, bdS_zero]; (try exact trivial)) (h := by intro c K h; simp [hG, List.getD_cons_zero, List.getD_cons_succ, -List.getD_eq_getElem?_getD, pureOp, rwS_zero, bdS_zero]; first | exact z1 c h | exact ⟨.mk c, h⟩)
     refine awpA_done (by decide +kernel) ?_
     refine zs (zr ?_ (h := by intro c K h; simp [hG, List.getD_cons_zero, List.getD_cons_succ, -List.getD_eq_getElem?_getD, pureOp, rwS_zero, bdS_zero]; first | exact z1 c h | exact ⟨.mk c, h⟩))
     refine zs (zs (zr ?_ (h := by intro c K h; simp [hG, List.getD_cons_zero, List.getD_cons_succ, -List.getD_eq_getElem?_getD, pureOp, rwS_zero, bdS_zero]; first | exact z1 c h | exact ⟨.mk c, h⟩)))
     refine zb ?_
     refine awpS_loop (α := Nat) (fun j => ⟨[(1, .int .i64 q), (2, .int .i64 n), (3, .vptr 6 (prfF p) 0), (6, .ptr (0, 0) 0 0), (8, .ptr (1, 0) 0 0), (13, .ptr (2, 0) 0 0), (14, .sl (3, 0) 0 (rwS (flG p) (outL (flG p) ((bdS (flG p) p.m.toNat i).getD i 0)) (bdS (flG p) p.m.toNat i) k).length), (15, .int .i64 (i : Nat)), (16, ints (outL (flG p) ((bdS (flG p) p.m.toNat i).getD i 0))), (18, .sl (5, 0) 0 k), (19, .int .i64 (k : Nat)), (20, .ptr (6, 0) 0 0), (21, .int .i64 (lastP (rwS (flG p) (outL (flG p) ((bdS (flG p) p.m.toNat i).getD i 0)) (bdS (flG p) p.m.toNat i) k) (edgK (flG p) (outL (flG p) ((bdS (flG p) p.m.toNat i).getD i 0)) k).to j)), (22, .int .i64 (j : Nat))], [(0, .one (.arr 1 4 (fun _ j => [.int .i64 0, .int .i64 0, .int .i64 0, .nils].getD j .any))), (1, .one (.arr 1 3 (fun _ => grF (flG p)))), (2, .one (.arr 1 4 (fun _ j => [.int .i64 q, .int .i64 n, .int .i64 p.m, .sl (4, 0) 0 i].getD j .any))), (3, .one (.arr (rwS (flG p) (outL (flG p) ((bdS (flG p) p.m.toNat i).getD i 0)) (bdS (flG p) p.m.toNat i) k).length 1 (fun x9 _ => .int .i64 ((rwS (flG p) (outL (flG p) ((bdS (flG p) p.m.toNat i).getD i 0)) (bdS (flG p) p.m.toNat i) k).getD x9 0)))), (4, .one (.arr i 1 (fun k _ => cells (bdR (flG p) q n p.m.toNat k)))), (5, .one (.arr k 2 (fun j => cellF (rwC (flG p) q n (outL (flG p) ((bdS (flG p) p.m.toNat i).getD i 0)) (bdS (flG p) p.m.toNat i) j)))), (6, .one (.arr 1 3 (fun _ => edgeF (edgK (flG p) (outL (flG p) ((bdS (flG p) p.m.toNat i).getD i 0)) k))))], 7⟩) (fun j => j ≤ (rwS (flG p) (outL (flG p) ((bdS (flG p) p.m.toNat i).getD i 0)) (bdS (flG p) p.m.toNat i) k).length) (fun j => (rwS (flG p) (outL (flG p) ((bdS (flG p) p.m.toNat i).getD i 0)) (bdS (flG p) p.m.toNat i) k).length - j) (0) (Nat.zero_le _) ?_ ?_
     · exact zi (e := by simp [hG, lastP_zero, pureOp, List.getD_cons_zero, List.getD_cons_succ, -List.getD_eq_getElem?_getD]) (h := by simp [hG, pureOp, List.getD_cons_zero, List.getD_cons_succ, -List.getD_eq_getElem?_getD]; exact ⟨rfl, rfl, rfl⟩)
     rintro j hj
     refine zs (zs (zr ?_ (h := by intro c K h; simp [hG, List.getD_cons_zero, List.getD_cons_succ, -List.getD_eq_getElem?_getD, pureOp, rwS_zero, bdS_zero]; first | exact z1 c h | exact ⟨.mk c, h⟩)))
     refine zy (fun hb104 => ?_) fun hb104 => ?_
     · refine zk (zs (zb (zs ?_)))
       refine awpS_draw hR mixed [] ⟨[], [], []⟩ fun mu0 => ?_
       refine za [0, 1, 2, 3, 4, 5, 6] [] 0 [6, 5, 4, 3, 2, 1, 0] ?_ (h := by intro c K h; simp [hG, List.getD_cons_zero, List.getD_cons_succ, -List.getD_eq_getElem?_getD, pureOp, rwS_zero, bdS_zero]; first | exact z1 c h | exact ⟨.mk c, h⟩)
       refine awpA_done (by decide +kernel) ?_
       refine zy (fun hb113 => ?_) fun hb113 => ?_
       · have hls := lastP_yes hb113
         refine zr ?_ (h := by intro c K h; simp [hG, List.getD_cons_zero, List.getD_cons_succ, -List.getD_eq_getElem?_getD, pureOp, rwS_zero, bdS_zero]; first | exact z1 c h | exact ⟨.mk c, h⟩)
         refine zn (zbn (zr ?_ (h := by intro c K h; simp [hG, List.getD_cons_zero, List.getD_cons_succ, -List.getD_eq_getElem?_getD, pureOp, rwS_zero, bdS_zero]; first | exact z1 c h | exact ⟨.mk c, h⟩)))
         refine zn ?_
         refine round_end (j + 1) (by omega) (by omega) ?_
         exact zi (e := by rw [hls]; simp [hG, pureOp, List.getD_cons_zero, List.getD_cons_succ, -List.getD_eq_getElem?_getD]) (h := by simp [hG, List.getD_cons_zero, List.getD_cons_succ, -List.getD_eq_getElem?_getD, pureOp, rwS_zero, bdS_zero])
       have hls := lastP_no hb113
       refine zk (zn (zbn (zr ?_ (h := by intro c K h; simp [hG, List.getD_cons_zero, List.getD_cons_succ, -List.getD_eq_getElem?_getD, pureOp, rwS_zero, bdS_zero]; first | exact z1 c h | exact ⟨.mk c, h⟩))))
       refine zn ?_
       refine round_end (j + 1) (by omega) (by omega) ?_
       exact zi (e := by rw [hls]; simp [hG, pureOp, List.getD_cons_zero, List.getD_cons_succ, -List.getD_eq_getElem?_getD]) (h := by simp [hG, List.getD_cons_zero, List.getD_cons_succ, -List.getD_eq_getElem?_getD, pureOp, rwS_zero, bdS_zero])
     obtain rfl : j = (rwS (flG p) (outL (flG p) ((bdS (flG p) p.m.toNat i).getD i 0)) (bdS (flG p) p.m.toNat i) k).length := (by omega)
     have hlp := lastP_end (t := (edgK (flG p) (outL (flG p) ((bdS (flG p) p.m.toNat i).getD i 0)) k).to) hmk.nd
     rw [hlp]
     refine zx (ztx (zbx (zs (zs (zr ?_ (h := by intro c K h; simp [hG, List.getD_cons_zero, List.getD_cons_succ, -List.getD_eq_getElem?_getD, pureOp, rwS_zero, bdS_zero]; first | exact z1 c h | exact ⟨.mk c, h⟩))))))
     refine zy (fun hb116 => ?_) fun hb116 => ?_
     · have hrs := rwS_new (g := (flG p)) (l := (outL (flG p) ((bdS (flG p) p.m.toNat i).getD i 0))) (S := (bdS (flG p) p.m.toNat i)) (k := k) hb116
       have hrc := rwC_new (q := q) (n := n) hb116
       refine zs (zr ?_ (h := by intro c K h; simp [hG, List.getD_cons_zero, List.getD_cons_succ, -List.getD_eq_getElem?_getD, pureOp, rwS_zero, bdS_zero]; first | exact z1 c h | exact ⟨.mk c, h⟩))
       refine zr ?_ (h := by intro c K h; simp [hG, List.getD_cons_zero, List.getD_cons_succ, -List.getD_eq_getElem?_getD, pureOp, rwS_zero, bdS_zero]; first | exact z1 c h | exact ⟨.mk c, h⟩)
       refine zs (zL (zl 4 ?_ (h := by intro c K h; simp [hG, List.getD_cons_zero, List.getD_cons_succ, -List.getD_eq_getElem?_getD, pureOp, rwS_zero, bdS_zero]; first | exact z1 c h | exact ⟨.mk c, h⟩)))
       refine zc cal33 (blockR_in hbn (by omega)) ?_ (a := fun hg => by simp [hG, List.getD_cons_zero, List.getD_cons_succ, -List.getD_eq_getElem?_getD, pureOp, rwS_zero, bdS_zero]) (b := fun hg => by simp [hG, pureOp, List.getD_cons_zero, List.getD_cons_succ, -List.getD_eq_getElem?_getD]) (h := by intro K h; simp [hG, List.getD_cons_zero, List.getD_cons_succ, -List.getD_eq_getElem?_getD, pureOp, rwS_zero, bdS_zero]; exact h)
       refine zl 5 ?_ (h := by intro c K h; simp [hG, List.getD_cons_zero, List.getD_cons_succ, -List.getD_eq_getElem?_getD, pureOp, rwS_zero, bdS_zero]; first | exact z1 c h | exact ⟨.mk c, h⟩)
       refine zN (zr ?_ (h := by intro c K h; simp [hG, List.getD_cons_zero, List.getD_cons_succ, -List.getD_eq_getElem?_getD, pureOp, rwS_zero, bdS_zero]; first | exact z1 c h | exact ⟨.mk c, h⟩))
       refine zn (zbn (zr ?_ (h := by intro c K h; simp [hG, List.getD_cons_zero, List.getD_cons_succ, -List.getD_eq_getElem?_getD, pureOp, rwS_zero, bdS_zero]; first | exact z1 c h | exact ⟨.mk c, h⟩)))
       refine zn ?_
       refine round_end (k + 1) (by omega) (by omega) ?_
       exact zw (fun k => if k = 3 then 8 else if k = 5 then 10 else k) (fun _ => false) (fun _ => false) (e := by rw [hrs]; simp [hG, pureOp, List.getD_cons_zero, List.getD_cons_succ, -List.getD_eq_getElem?_getD]) (h := by rw [hrs]; simp [hG, pureOp, List.getD_cons_zero, List.getD_cons_succ, -List.getD_eq_getElem?_getD]; exact ⟨fun i hi => app_oneE (by omega), fun i hi => app_cellE (by omega) (by rw [hrc]; rfl) (by rw [hrc]; rfl)⟩)
     have hrs := rwS_old (g := (flG p)) (l := (outL (flG p) ((bdS (flG p) p.m.toNat i).getD i 0))) (S := (bdS (flG p) p.m.toNat i)) (k := k) (by omega)
     have hrc := rwC_old (q := q) (n := n) (g := (flG p)) (l := (outL (flG p) ((bdS (flG p) p.m.toNat i).getD i 0))) (S := (bdS (flG p) p.m.toNat i)) (k := k) (by omega)
     refine zk (zs (zL (zl 4 ?_ (h := by intro c K h; simp [hG, List.getD_cons_zero, List.getD_cons_succ, -List.getD_eq_getElem?_getD, pureOp, rwS_zero, bdS_zero]; first | exact z1 c h | exact ⟨.mk c, h⟩))))
     refine zc cal33 (blockR_in hbn (by omega)) ?_ (a := fun hg => by simp [hG, List.getD_cons_zero, List.getD_cons_succ, -List.getD_eq_getElem?_getD, pureOp, rwS_zero, bdS_zero]) (b := fun hg => by simp [hG, pureOp, List.getD_cons_zero, List.getD_cons_succ, -List.getD_eq_getElem?_getD]) (h := by intro K h; simp [hG, List.getD_cons_zero, List.getD_cons_succ, -List.getD_eq_getElem?_getD, pureOp, rwS_zero, bdS_zero]; exact h)
     refine zl 5 ?_ (h := by intro c K h; simp [hG, List.getD_cons_zero, List.getD_cons_succ, -List.getD_eq_getElem?_getD, pureOp, rwS_zero, bdS_zero]; first | exact z1 c h | exact ⟨.mk c, h⟩)
     refine zN (zr ?_ (h := by intro c K h; simp [hG, List.getD_cons_zero, List.getD_cons_succ, -List.getD_eq_getElem?_getD, pureOp, rwS_zero, bdS_zero]; first | exact z1 c h | exact ⟨.mk c, h⟩))
     refine zn (zbn (zr ?_ (h := by intro c K h; simp [hG, List.getD_cons_zero, List.getD_cons_succ, -List.getD_eq_getElem?_getD, pureOp, rwS_zero, bdS_zero]; first | exact z1 c h | exact ⟨.mk c, h⟩)))
     refine zn ?_
     refine round_end (k + 1) (by omega) (by omega) ?_
     exact zw (fun k => if k = 5 then 8 else k) (fun _ => false) (fun _ => false) (e := by rw [hrs]; simp [hG, pureOp, List.getD_cons_zero, List.getD_cons_succ, -List.getD_eq_getElem?_getD]) (h := by rw [hrs]; simp [hG, pureOp, List.getD_cons_zero, List.getD_cons_succ, -List.getD_eq_getElem?_getD]; exact fun i hi => app_cellE (by omega) (by rw [hrc]; rfl) (by rw [hrc]; rfl))
   obtain rfl : k = p.m.toNat := (by omega)
   refine zx (ztx (zbx ?_))
   refine awpS_wk (st2 := ⟨[(1, .int .i64 q), (2, .int .i64 n), (3, .vptr 6 (prfF p) 0), (6, .ptr (0, 0) 0 0), (8, .ptr (1, 0) 0 0), (13, .ptr (2, 0) 0 0), (14, .sl (3, 0) 0 (bdS (flG p) p.m.toNat (i + 1)).length), (15, .int .i64 (i : Nat)), (18, cells (bdR (flG p) q n p.m.toNat i))], [(0, .one (.arr 1 4 (fun _ j => [.int .i64 0, .int .i64 0, .int .i64 0, .nils].getD j .any))), (1, .one (.arr 1 3 (fun _ => grF (flG p)))), (2, .one (.arr 1 4 (fun _ j => [.int .i64 q, .int .i64 n, .int .i64 p.m, .sl (4, 0) 0 i].getD j .any))), (3, .one (.arr (bdS (flG p) p.m.toNat (i + 1)).length 1 (fun x9 _ => .int .i64 ((bdS (flG p) p.m.toNat (i + 1)).getD x9 0)))), (4, .one (.arr i 1 (fun k _ => cells (bdR (flG p) q n p.m.toNat k))))], 5⟩) ?_ ?_
   · exact zw (id) (fun k => k == 5) (fun _ => false) (e := by simp [hG, bdR_len, bdS_succ, pureOp, List.getD_cons_zero, List.getD_cons_succ, -List.getD_eq_getElem?_getD]; (try exact fun i hi => by rw [bdR_at (by omega)]; exact ⟨rfl, rfl⟩)) (h := by simp [hG, bdS_succ, pureOp, List.getD_cons_zero, List.getD_cons_succ, -List.getD_eq_getElem?_getD])
   refine zr ?_ (h := by intro c K h; simp [hG, List.getD_cons_zero, List.getD_cons_succ, -List.getD_eq_getElem?_getD, pureOp, rwS_zero, bdS_zero]; first | exact z1 c h | exact ⟨.mk c, h⟩)
   refine zn (zbn (zr ?_ (h := by intro c K h; simp [hG, List.getD_cons_zero, List.getD_cons_succ, -List.getD_eq_getElem?_getD, pureOp, rwS_zero, bdS_zero]; first | exact z1 c h | exact ⟨.mk c, h⟩)))
   refine zn ?_
   refine round_end (i + 1) (⟨by have := (bdS_pre (g := flG p) (m := p.m.toNat) (i := i)).length_le; omega, by omega, step_all hnn hb75⟩) (by omega) ?_
   exact zw (fun k => if k = 4 then 6 else k) (fun _ => false) (fun _ => false) (e := by simp [hG, List.getD_cons_zero, List.getD_cons_succ, -List.getD_eq_getElem?_getD, pureOp, rwS_zero, bdS_zero]) (h := by simp [hG, pureOp, List.getD_cons_zero, List.getD_cons_succ, -List.getD_eq_getElem?_getD]; exact fun j hj => app_rowC (F := bdR (flG p) q n p.m.toNat) (by omega) (Clo.le _ Clo_cells))
 refine zx (ztx (zbx (zs (zr ?_ (h := by intro c K h; simp [hG, List.getD_cons_zero, List.getD_cons_succ, -List.getD_eq_getElem?_getD, pureOp, rwS_zero, bdS_zero]; first | exact z1 c h | exact ⟨.mk c, h⟩)))))
 refine zt ?_
 refine RetOK_of ?_
 simp [hG, List.getD_cons_zero, List.getD_cons_succ, -List.getD_eq_getElem?_getD, pureOp, rwS_zero, bdS_zero]
 have h0 := eb_5 (n := n) hf0 hb40 hb47 hup2; have hk := bdK_at hFG.fit hFG.st hFG.out hnn hb75 hi64; rw [ebX_ok h0 hk, h0]; simp only [List.length_map, List.length_range, true_and, and_true]; exact ⟨Nat.le_refl _, fun j hj => by rw [rows_at hj]; exact Clo.le _ Clo_cells⟩
end Go.Proofs.YtchjjiedcpfniaaGreatDoor
