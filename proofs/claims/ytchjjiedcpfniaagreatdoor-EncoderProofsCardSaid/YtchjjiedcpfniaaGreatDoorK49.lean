/- Parts of the proof: UV. -/
import Derived.Test.YtchjjiedcpfniaaGreatDoorK16
import Derived.Test.YtchjjiedcpfniaaGreatDoorK48
namespace Go.Proofs.YtchjjiedcpfniaaGreatDoor
set_option linter.unusedSimpArgs false
set_option linter.unusedVariables false
open Go Go.Lift Go.Proofs
theorem enc_fine {e : Enc} (hv : checkE e = 0) {s : Int} (h0 : 0 ≤ s) (h1 : s < (e.rows.length : Int)) {l : List Int} (hg : l.any (badI e) = false) (hl : l.length ≤ 100) : encodeN e s l = 0 := by
  have hb := (checkE_valid hv).1.block
  have hm := mul_bd (a := (l.length : Int)) (b := e.block) (c := 100) (by omega) hb
  unfold encodeN
  rw [if_neg (fun h => h hv), if_neg (by omega), if_neg (by rw [hg]; exact Bool.false_ne_true), if_neg (by omega)]
theorem st_box {b : Int} {n : Nat} (hb : 0 ≤ b) (hn : 0 < n) : 0 ≤ b % n ∧ b % n < (n : Int) := ⟨Int.emod_nonneg _ (by omega), Int.emod_lt_of_pos _ (by omega)⟩
@[simp] theorem strip_encR {e : Enc} {s : Int} {l : List Int} : strip (encodeR e s l) = (encodeR e s l, True) := rfl
theorem blk_lt {j n B : Nat} (hB : 1 ≤ B) (h : j * B + B ≤ n * B) : j < n := by
  have : (j + 1) * B ≤ n * B := by rw [Nat.add_mul]; omega
  exact Nat.le_of_mul_le_mul_right this hB
theorem blk_end {j n B : Nat} (h : ¬ j * B + B ≤ n * B) (hj : j ≤ n) : j = n := by
  refine Classical.byContradiction fun hne => h ?_
  have : (j + 1) * B ≤ n * B := Nat.mul_le_mul_right _ (by omega)
  rw [Nat.add_mul] at this
  omega
theorem blk_le {j n B : Nat} (hj : j ≤ n) : j * B ≤ n * B := Nat.mul_le_mul_right _ hj
def blkI (B j : Nat) : Int := ((j * B : Nat) : Int)
theorem blkI_zero (B : Nat) : blkI B 0 = 0 := by simp [blkI]
theorem blkI_succ (B j : Nat) : blkI B (j + 1) = blkI B j + B := by
  unfold blkI
  rw [Nat.add_mul, Nat.one_mul]
  rfl
theorem cut_eq {w : List UInt8} {i B : Nat} : (w.take (i + B)).drop i = (w.drop i).take B := by
  rw [List.drop_take, Nat.add_sub_cancel_left]
theorem setQ_zero {e : Enc} {g : Gr} {s : Int} {l : List Int} : setQ e g s l 0 = iotaI g.states.toNat := rfl
theorem fl_valid {p : Prf} (h : flN p = 0) : gcheck p.g = 0 := (vecN_zero (eigN_zero (baseN_zero (flN_zero h).1).1).1).1
theorem eb_dims {p : Prf} {q n : Int} (h : ebN p q n = 0) : (ebX p q n).letters = q ∧ (ebX p q n).block = n ∧ (ebX p q n).inputs = p.m := by rw [ebX_ok h rfl]; exact ⟨rfl, rfl, rfl⟩
theorem eb_cut {p : Prf} {q n : Int} (hp : PrfOK p) (h : ebN p q n = 0) {i k : Nat} (hi : i < (ebX p q n).rows.length) (hk : (k : Int) < p.m) : labelN (ebX p q n).letters (cellAt (ebX p q n) i k).word = 0 ∧ labelX (ebX p q n).letters (cellAt (ebX p q n) i k).word = valW (ebX p q n).letters (cellAt (ebX p q n) i k).word ∧ 0 ≤ valW (ebX p q n).letters (cellAt (ebX p q n) i k).word ∧ valW (ebX p q n).letters (cellAt (ebX p q n) i k).word < p.g.labels := by
  obtain ⟨hf, hq, hn, hu⟩ := eb_zero h
  have hv := eb_check hp h
  have e1 := eb_dims h
  have hl := (gcheck_valid (fl_valid hf)).1.lab
  have hr := row_eq hv hi
  rw [e1.2.2] at hr
  obtain ⟨h1, h2⟩ := cell_label hv hi (show k < _ by omega) (by rw [e1.1, e1.2.1]; omega)
  rw [eb_rows h] at hi
  obtain ⟨c, c1, c2, c3, c4, c5, c6, c7⟩ := eb_cell hp h hi (show k < p.m.toNat by omega)
  obtain ⟨w1, w2, w3⟩ := eb_word hp h c3
  obtain ⟨l1, l2, l3, l4⟩ := eb_lab hp h c3
  refine ⟨h1, h2, ?_⟩
  rw [c1, c2, e1.1, w3]
  exact ⟨l1, l3⟩
set_option maxRecDepth 100000 in
set_option maxHeartbeats 1000000 in
theorem proofsLaw_c (p : Prf) (a : Int) (ha : 0 ≤ a ∧ a < 256) (b : Int) (hb : 0 ≤ b ∧ b < 256) (c : Int) (hc : 0 ≤ c ∧ c < 256) (l : List UInt8) (hin : (p.w.length ≤ maxLen ∧ p.rounds.length ≤ maxLen ∧ ∀ x ∈ p.rounds, x.length ≤ maxLen ∧ ∀ y ∈ x, y.parts.length ≤ maxLen)) : PC Tryz.prog 4 [.agg 6 (prfF p), .int .u8 a, .int .u8 b, .int .u8 c, Lift.bytes l] (.bool true) := by
 have hML : maxLen = 9223372036854775807 := by decide
 refine zp Tryz.func4 fun G hG hR => ?_
 refine zs (zrP ?_)
 refine zs (zs (zL (zlP 1 ?_)))
 refine zcP cal5 (greatE_c p hin) ?_
 refine zlP 5 ?_
 refine zN (zy (fun hb29 => ?_) fun hb29 => ?_)
 · refine zs (zL ?_)
   refine zcP cal6 awake_c ?_
   refine zlP 1 ?_
   refine zN (zt ?_)
   exact zRP
 obtain ⟨hp, hpr, h8, h6, h20⟩ := bigP_no hb29.1
 have hl10 := hb29.2
 have hXl := ebX_len (q := (1 + a % 4)) (n := (1 + b % 4)) hp
 refine zk (zs (zL (zlP 9 ?_)))
 refine zcP cal7 (buildE_c p hp hpr (1 + a % 4) (1 + b % 4)) ?_
 refine zlP 6 ?_
 refine zN (zs (zs (zrP ?_)))
 refine zy (fun hb45 => ?_) fun hb45 => ?_
 · refine zs (zL (zlP 2 ?_))
   refine zcP cal9 (sameAB_c (ebX p (1 + a % 4) (1 + b % 4)) ⟨0, 0, 0, []⟩ hXl.1 hXl.2) ?_
   refine zlP 1 ?_
   refine zcP cal6 awake_c ?_
   refine zlP 2 ?_
   refine zN (zt ?_)
   refine RetOK_of ?_
   simp [hG, List.getD_cons_zero, List.getD_cons_succ, -List.getD_eq_getElem?_getD, pureOp]
   unfold ebX; rw [if_neg (by simpa using hb45)]
 have h0 : ebN p (1 + a % 4) (1 + b % 4) = 0 := (by simpa using hb45)
 have hv := eb_check hp h0
 have hf := (eb_zero h0).1
 have hF := fl_graph hp hf
 have hpm := hF.m
 have hE1 := eb_dims h0
 have hd := (checkE_valid hv).1
 have h00 := (checkE_valid hv).2.1
 have h64 := (checkE_valid hv).2.2.1
 have hbk := hd.block
 have hsb := st_box hc.1 h00
 have hgood := inpL_good hv (l := l)
 obtain ⟨k1, k2, k3⟩ := runE_ok hv hsb.1 hsb.2 hgood
 have n1 := enc_fine hv hsb.1 hsb.2 (inpL_any hv (l := l)) (by rw [inpL_len]; omega)
 have hWe : (encodeW (ebX p (1 + a % 4) (1 + b % 4)) (c % (ebX p (1 + a % 4) (1 + b % 4)).rows.length) (inpL (ebX p (1 + a % 4) (1 + b % 4)) l)) = (runE (ebX p (1 + a % 4) (1 + b % 4)) (c % (ebX p (1 + a % 4) (1 + b % 4)).rows.length) (inpL (ebX p (1 + a % 4) (1 + b % 4)) l)).1 := (by unfold encodeW; rw [if_pos n1])
 obtain ⟨B, hbB⟩ : ∃ B : Nat, (ebX p (1 + a % 4) (1 + b % 4)).block = B := ⟨(ebX p (1 + a % 4) (1 + b % 4)).block.toNat, by omega⟩
 have hbT : (ebX p (1 + a % 4) (1 + b % 4)).block.toNat = B := (by omega)
 have hWl : (encodeW (ebX p (1 + a % 4) (1 + b % 4)) (c % (ebX p (1 + a % 4) (1 + b % 4)).rows.length) (inpL (ebX p (1 + a % 4) (1 + b % 4)) l)).length = l.length * B := (by rw [hWe]; rw [inpL_len, hbB] at k3; exact_mod_cast k3)
 have hmx : l.length * B ≤ 10 * 16 := Nat.mul_le_mul (by omega) (by omega)
 have hgc := fl_valid hf
 have hst := (gcheck_valid hgc).1.st
 refine zk (zs (zs (zL (zlP 1 ?_))))
 refine zcP cal10 (verifyM_c p hp hpr) ?_
 refine zlP 3 ?_
 refine zcP cal11 (check_c (ebX p (1 + a % 4) (1 + b % 4))) ?_
 refine zlP 25 ?_
 refine zN ?_
 refine awpS_cond rfl (fun hb82 => ?_) (fun hb82 => ?_)
 · exfalso; simp only [hf, hv, hE1.2.2, decide_true, Bool.not_true, Bool.false_or, Bool.or_eq_true, decide_eq_true_eq] at hb82; rcases hb82 with (h | h) | h; (omega); (omega); (rw [h] at h00; simp at h00)
 try simp [-List.getD_eq_getElem?_getD] at hb82
 refine zk (zs ?_)
 refine awpS_draw hR mixed [] ⟨[], [], []⟩ fun mu0 => ?_
 refine zaP [0, 1, 2, 3, 4, 5, 6, 7, 8] [] 9 [8, 7, 6, 5, 4, 3, 2, 1, 0] ?_
 refine awpA_only (fuel := 8) (i := 9) (by decide +kernel) ?_
 refine zeP cal13 (inputs_c (ebX p (1 + a % 4) (1 + b % 4)) l hv (by omega)) ?_
 refine awpA_only (fuel := 7) (i := 10) (by decide +kernel) ?_
 refine zeP cal12 (encode_c (ebX p (1 + a % 4) (1 + b % 4)) (c % (ebX p (1 + a % 4) (1 + b % 4)).rows.length) (inpL (ebX p (1 + a % 4) (1 + b % 4)) l) (by rw [inpL_len]; omega)) ?_
 refine zaP [11, 12, 13, 14, 15, 16, 17] [] 0 [17, 16, 15, 14, 13, 12, 11, 10, 9, 8, 7, 6, 5, 4, 3, 2, 1, 0] ?_
 refine awpA_done (by decide +kernel) ?_
 refine zs (zs (zrP ?_))
 refine awpS_cond rfl (fun hb99 => ?_) (fun hb99 => ?_)
 · rw [n1] at hb99; simp at hb99
 try simp [-List.getD_eq_getElem?_getD] at hb99
 refine zk (zs (zrP ?_))
 refine zs (zs (zrP ?_))
 refine zb ?_
 refine awpS_loop (α := Nat) (fun k => ⟨[(5, .vptr 6 (prfF p) 0), (11, .ptr (0, 0) 0 0), (13, .str (encodeW (ebX p (1 + a % 4) (1 + b % 4)) (c % (ebX p (1 + a % 4) (1 + b % 4)).rows.length) (inpL (ebX p (1 + a % 4) (1 + b % 4)) l))), (16, .sl (1, 0) 0 k), (102, .int .i64 p.g.states), (103, .int .i64 (k : Nat))], [(0, .one (.arr 1 4 (fun _ => encF (ebX p (1 + a % 4) (1 + b % 4))))), (1, .one (.arr k 1 (fun i _ => .int .i64 (i : Nat))))], 2⟩) (fun k => k ≤ p.g.states.toNat) (fun k => p.g.states.toNat - k) (0) (Nat.zero_le _) ?_ ?_
 · exact zwP (fun k => k + 1) (fun k => k == 0) (fun k => k == 1)
 rintro k hk
 refine zs (zrP ?_)
 refine zs (zy (fun hb104 => ?_) fun hb104 => ?_)
 · refine zk (zs (zb (zs (zrP ?_))))
   refine zrP ?_
   refine zn (zbn (zrP ?_))
   refine zn ?_
   refine round_end (k + 1) (by omega) (by omega) ?_
   exact zwP (fun k => if k = 1 then 3 else k) (fun _ => false) (fun _ => false) (h := by simp [hG, pureOp, List.getD_cons_zero, List.getD_cons_succ, -List.getD_eq_getElem?_getD]; intro i hi; unfold app; by_cases h : i < k; (rw [if_pos h]); (rw [if_neg h]; have hik : i = k := (by omega); subst hik; simp))
 obtain rfl : k = p.g.states.toNat := (by omega)
 refine zx (ztx (zbx (zs (zs (zrP ?_)))))
 refine zb ?_
 refine awpS_loop (α := Nat) (fun j => ⟨[(5, .vptr 6 (prfF p) 0), (11, .ptr (0, 0) 0 0), (13, .str (encodeW (ebX p (1 + a % 4) (1 + b % 4)) (c % (ebX p (1 + a % 4) (1 + b % 4)).rows.length) (inpL (ebX p (1 + a % 4) (1 + b % 4)) l))), (16, ints (setQ (ebX p (1 + a % 4) (1 + b % 4)) p.g (c % (ebX p (1 + a % 4) (1 + b % 4)).rows.length) (inpL (ebX p (1 + a % 4) (1 + b % 4)) l) j)), (18, .int .i64 (blkI B j))], [(0, .one (.arr 1 4 (fun _ => encF (ebX p (1 + a % 4) (1 + b % 4)))))], 1⟩) (fun j => j ≤ l.length) (fun j => l.length - j) (0) (Nat.zero_le _) ?_ ?_
 · exact zwP (id) (fun k => k == 1) (fun _ => false) (e := by rw [setQ_zero, blkI_zero]; simp [hG, pureOp, List.getD_cons_zero, List.getD_cons_succ, -List.getD_eq_getElem?_getD]; exact ⟨iotaI_len.symm, Nat.le_of_eq iotaI_len, fun i hi => (iotaI_at (by rw [iotaI_len] at hi; exact hi)).symm⟩)
 rintro j hj
 have hbl := blk_le (B := B) hj
 have hbi : blkI B j = ((j * B : Nat) : Int) := rfl
 refine zs (zs (zrP ?_))
 refine zy (fun hb117 => ?_) fun hb117 => ?_
 · have hjl : j < l.length := blk_lt (B := B) (by omega) (by omega)
   have hjI : j < (inpL (ebX p (1 + a % 4) (1 + b % 4)) l).length := (by rw [inpL_len]; exact hjl)
   have hgt : ∀ i ∈ (inpL (ebX p (1 + a % 4) (1 + b % 4)) l).take j, badI (ebX p (1 + a % 4) (1 + b % 4)) i = false := (fun i hi => hgood i (List.mem_of_mem_take hi))
   obtain ⟨r1, r2, r3⟩ := runE_ok hv hsb.1 hsb.2 hgt
   have hgi := bad_no.1 (hgood _ (getD_mem (d := 0) hjI))
   rw [hE1.2.2] at hgi
   obtain ⟨lb1, lb2, lb3⟩ := eb_cut hp h0 (i := (runE (ebX p (1 + a % 4) (1 + b % 4)) (c % (ebX p (1 + a % 4) (1 + b % 4)).rows.length) ((inpL (ebX p (1 + a % 4) (1 + b % 4)) l).take j)).2.toNat) (k := ((inpL (ebX p (1 + a % 4) (1 + b % 4)) l).getD j 0).toNat) (by omega) (by omega)
   have hlb : 0 ≤ labelX (ebX p (1 + a % 4) (1 + b % 4)).letters (cellAt (ebX p (1 + a % 4) (1 + b % 4)) (runE (ebX p (1 + a % 4) (1 + b % 4)) (c % (ebX p (1 + a % 4) (1 + b % 4)).rows.length) ((inpL (ebX p (1 + a % 4) (1 + b % 4)) l).take j)).2.toNat ((inpL (ebX p (1 + a % 4) (1 + b % 4)) l).getD j 0).toNat).word ∧ labelX (ebX p (1 + a % 4) (1 + b % 4)).letters (cellAt (ebX p (1 + a % 4) (1 + b % 4)) (runE (ebX p (1 + a % 4) (1 + b % 4)) (c % (ebX p (1 + a % 4) (1 + b % 4)).rows.length) ((inpL (ebX p (1 + a % 4) (1 + b % 4)) l).take j)).2.toNat ((inpL (ebX p (1 + a % 4) (1 + b % 4)) l).getD j 0).toNat).word < p.g.labels := (by rw [lb2]; exact lb3)
   have hsj : SetOK p.g (setQ (ebX p (1 + a % 4) (1 + b % 4)) p.g (c % (ebX p (1 + a % 4) (1 + b % 4)).rows.length) (inpL (ebX p (1 + a % 4) (1 + b % 4)) l) j) := setQ_ok hgc j
   have hrb := run_block hv hsb.1 hsb.2 hgood hjI
   rw [hbT] at hrb
   have hcut : ((encodeW (ebX p (1 + a % 4) (1 + b % 4)) (c % (ebX p (1 + a % 4) (1 + b % 4)).rows.length) (inpL (ebX p (1 + a % 4) (1 + b % 4)) l)).take (blkI B j + (ebX p (1 + a % 4) (1 + b % 4)).block).toNat).drop (blkI B j).toNat = (cellAt (ebX p (1 + a % 4) (1 + b % 4)) (runE (ebX p (1 + a % 4) (1 + b % 4)) (c % (ebX p (1 + a % 4) (1 + b % 4)).rows.length) ((inpL (ebX p (1 + a % 4) (1 + b % 4)) l).take j)).2.toNat ((inpL (ebX p (1 + a % 4) (1 + b % 4)) l).getD j 0).toNat).word := (by rw [hWe, show (blkI B j + (ebX p (1 + a % 4) (1 + b % 4)).block).toNat = j * B + B by omega, show (blkI B j).toNat = j * B by omega, cut_eq]; exact hrb)
   have hS : (setQ (ebX p (1 + a % 4) (1 + b % 4)) p.g (c % (ebX p (1 + a % 4) (1 + b % 4)).rows.length) (inpL (ebX p (1 + a % 4) (1 + b % 4)) l) (j + 1)) = stepL p.g (labelX (ebX p (1 + a % 4) (1 + b % 4)).letters (cellAt (ebX p (1 + a % 4) (1 + b % 4)) (runE (ebX p (1 + a % 4) (1 + b % 4)) (c % (ebX p (1 + a % 4) (1 + b % 4)).rows.length) ((inpL (ebX p (1 + a % 4) (1 + b % 4)) l).take j)).2.toNat ((inpL (ebX p (1 + a % 4) (1 + b % 4)) l).getD j 0).toNat).word) (setQ (ebX p (1 + a % 4) (1 + b % 4)) p.g (c % (ebX p (1 + a % 4) (1 + b % 4)).rows.length) (inpL (ebX p (1 + a % 4) (1 + b % 4)) l) j) := (by rw [lb2]; rfl)
   have hj1 := blkI_succ B j
   refine zk (zs (zb (zs ?_)))
   refine awpS_draw hR mixed [] ⟨[], [], []⟩ fun mu0 => ?_
   refine zaP [0, 1, 2, 3, 4, 5, 6, 7, 8] [] 6 [8, 7, 6, 5, 4, 3, 2, 1, 0] ?_
   refine awpA_only (fuel := 5) (i := 9) (by decide +kernel) ?_
   refine zeP cal14 (label_c (ebX p (1 + a % 4) (1 + b % 4)).letters (cellAt (ebX p (1 + a % 4) (1 + b % 4)) (runE (ebX p (1 + a % 4) (1 + b % 4)) (c % (ebX p (1 + a % 4) (1 + b % 4)).rows.length) ((inpL (ebX p (1 + a % 4) (1 + b % 4)) l).take j)).2.toNat ((inpL (ebX p (1 + a % 4) (1 + b % 4)) l).getD j 0).toNat).word) ?_ (b := fun hg => by simp [hG, pureOp, List.getD_cons_zero, List.getD_cons_succ, -List.getD_eq_getElem?_getD]; exact hcut)
   refine zaP [10, 11, 12, 13, 14] [] 0 [14, 13, 12, 11, 10, 9, 8, 7, 6, 5, 4, 3, 2, 1, 0] ?_
   refine awpA_done (by decide +kernel) ?_
   refine zs (zL (zlP 4 ?_))
   refine zcP cal15 (step_c p.g (setQ (ebX p (1 + a % 4) (1 + b % 4)) p.g (c % (ebX p (1 + a % 4) (1 + b % 4)).rows.length) (inpL (ebX p (1 + a % 4) (1 + b % 4)) l) j) (labelX (ebX p (1 + a % 4) (1 + b % 4)).letters (cellAt (ebX p (1 + a % 4) (1 + b % 4)) (runE (ebX p (1 + a % 4) (1 + b % 4)) (c % (ebX p (1 + a % 4) (1 + b % 4)).rows.length) ((inpL (ebX p (1 + a % 4) (1 + b % 4)) l).take j)).2.toNat ((inpL (ebX p (1 + a % 4) (1 + b % 4)) l).getD j 0).toNat).word) hgc hsj.1 hsj.2 hlb (hsj.len hgc)) ?_
   refine zlP 5 ?_
   refine zN (zs (zs (zrP ?_)))
   refine awpS_cond rfl (fun hb148 => ?_) (fun hb148 => ?_)
   · rw [lb1] at hb148; simp at hb148
   try simp [-List.getD_eq_getElem?_getD] at hb148
   refine zk (zrP ?_)
   refine zn (zbn (zrP ?_))
   refine zn ?_
   refine round_end (j + 1) (by omega) (by omega) ?_
   exact ziP (e := by rw [hS]; simp [hG, pureOp, List.getD_cons_zero, List.getD_cons_succ, -List.getD_eq_getElem?_getD]; rw [hj1]; omega)
 obtain rfl : j = l.length := blk_end (B := B) (by omega) hj
 refine zx (ztx (zbx (zs (zL (zlP 4 ?_)))))
 refine zcP cal6 awake_c ?_
 refine zlP 2 ?_
 refine zN (zt ?_)
 refine RetOK_of ?_
 simp [hG, List.getD_cons_zero, List.getD_cons_succ, -List.getD_eq_getElem?_getD, pureOp]
 exact List.length_pos_of_mem (setQ_mem hp h0 hsb hgood (j := l.length) (by rw [inpL_len]; exact Nat.le_refl _))
end Go.Proofs.YtchjjiedcpfniaaGreatDoor
