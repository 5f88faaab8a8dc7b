/- Parts of the proof: UM UN UP. -/
import Derived.Test.YtchjjiedcpfniaaGreatDoorK15
import Derived.Test.YtchjjiedcpfniaaGreatDoorK16
import Derived.Test.YtchjjiedcpfniaaGreatDoorK20
import Derived.Test.YtchjjiedcpfniaaGreatDoorK41
import Derived.Test.YtchjjiedcpfniaaGreatDoorK43
namespace Go.Proofs.YtchjjiedcpfniaaGreatDoor
set_option linter.unusedSimpArgs false
set_option linter.unusedVariables false
open Go Go.Lift Go.Proofs
def inpL (e : Enc) (l : List UInt8) : List Int := l.map fun x => (x.toNat : Int) % e.inputs
theorem inpL_len {e : Enc} {l : List UInt8} : (inpL e l).length = l.length := by simp [inpL]
theorem inpL_at {e : Enc} {l : List UInt8} {k : Nat} (h : k < l.length) : (inpL e l).getD k 0 = ((l.getD k 0).toNat : Int) % e.inputs := by
  unfold inpL
  rw [getD_get (by rw [List.length_map]; exact h), List.getElem_map, getD_get h]
theorem inpL_good {e : Enc} (hv : checkE e = 0) {l : List UInt8} : ∀ i ∈ inpL e l, badI e i = false := fun i hi => by
  have hin := (checkE_valid hv).1.inputs
  obtain ⟨x, _, rfl⟩ := List.mem_map.1 hi
  exact bad_no.2 ⟨Int.emod_nonneg _ (by omega), Int.emod_lt_of_pos _ (by omega)⟩
theorem inpL_any {e : Enc} (hv : checkE e = 0) {l : List UInt8} : (inpL e l).any (badI e) = false := List.any_eq_false.2 fun i hi => by rw [inpL_good hv i hi]; simp
theorem smp_sml : Sml smp := by
  exact ⟨by decide, by decide, by decide, by decide⟩
@[simp] theorem smp_letters : smp.letters = 2 := rfl
@[simp] theorem smp_block : smp.block = 2 := rfl
@[simp] theorem smp_inputs : smp.inputs = 2 := rfl
@[simp] theorem smp_len : smp.rows.length = 2 := rfl
@[simp] theorem smp_r0 : smp.rows.getD 0 [] = [⟨0, [48, 49]⟩, ⟨1, [48, 48]⟩] := rfl
@[simp] theorem smp_r1 : smp.rows.getD 1 [] = [⟨0, [49, 48]⟩, ⟨1, [48, 48]⟩] := rfl
set_option maxRecDepth 100000 in
theorem inputs_c (e : Enc) (l : List UInt8) (hv : checkE e = 0) (hl : l.length ≤ 1000) : PC Tryz.prog 13 [.agg 4 (encF e), Lift.bytes l] (ints (inpL e l)) := by
 have hin := (checkE_valid hv).1.inputs
 refine zp Tryz.func13 fun G hG hR => ?_
 refine zs (zr ?_)
 refine zs (zr ?_)
 refine zs (zs (zr ?_))
 refine zb ?_
 refine awpS_loop (α := Nat) (fun k => ⟨[(2, .ptr (0, 0) 0 0), (5, .sl (1, 0) 0 k), (8, Lift.bytes l), (9, .int .i64 l.length), (10, .int .i64 k)], [(0, .one (.arr 1 4 (fun _ => encF e))), (1, .one (.arr k 1 (fun i _ => .int .i64 ((inpL e l).getD i 0))))], 2⟩) (fun k => k ≤ l.length) (fun k => l.length - k) (0) (Nat.zero_le _) ?_ ?_
 · exact zw (id) (fun _ => false) (fun k => k == 1)
 rintro k hk
 refine zs (zr ?_)
 refine zs (zy (fun hb11 => ?_) fun hb11 => ?_)
 · have hat := inpL_at (e := e) (l := l) (k := k) (by omega)
   refine zk (zs (zb (zs (zr ?_))))
   refine zr ?_ (c := by have hb8 := (l.getD k 0).toNat_lt; clear hat; (try simp [-List.getD_eq_getElem?_getD]); repeat (first | omega | apply And.intro))
   refine zn (zbn (zr ?_))
   refine zn ?_
   refine round_end (k + 1) (by omega) (by omega) ?_
   exact zw (fun k => if k = 1 then 3 else k) (fun _ => false) (fun _ => false) (h := by simp [hG, List.getD_cons_zero, List.getD_cons_succ, -List.getD_eq_getElem?_getD]; exact fun i hi => app_last hi hat)
 obtain rfl : k = l.length := (by omega)
 refine zx (ztx (zbx (zs (zr ?_))))
 refine zt ?_
 refine RetOK_of ?_
 simp [hG, List.getD_cons_zero, List.getD_cons_succ, -List.getD_eq_getElem?_getD]
 rw [inpL_len]; exact ⟨rfl, Nat.le_refl _⟩
set_option maxRecDepth 100000 in
theorem sample_c  : PC Tryz.prog 21 [] (.agg 4 (encF smp)) := by
 refine zp Tryz.func21 fun G hG hR => ?_
 refine zs (zr ?_)
 refine zs (zr ?_)
 refine zt ?_
 exact zR
set_option maxRecDepth 100000 in
theorem golden_c  : PC Tryz.prog 24 [] (.agg 3 (grF gold)) := by
 refine zp Tryz.func24 fun G hG hR => ?_
 refine zs (zr ?_)
 refine zs (zr ?_)
 refine zt ?_
 refine RetOK_of ?_
 simp [hG, List.getD_cons_zero, List.getD_cons_succ, -List.getD_eq_getElem?_getD]
 exact ⟨rfl, rfl, rfl, Nat.le_refl _, fun i hi => by rcases (show i = 0 ∨ i = 1 ∨ i = 2 by have h3 : i < 3 := hi; omega) with rfl | rfl | rfl <;> exact ⟨rfl, rfl, rfl⟩⟩
end Go.Proofs.YtchjjiedcpfniaaGreatDoor
namespace Go.Proofs.YtchjjiedcpfniaaGreatDoor
set_option linter.unusedSimpArgs false
set_option linter.unusedVariables false
open Go Go.Lift Go.Proofs
theorem smp_encode : PC Tryz.prog 12 [.agg 4 (encF smp), .int .i64 0, ints [1, 0, 0]] (.tup 3 (fun j => [.str [48, 48, 49, 48, 48, 49], .int .i64 0, .int .i64 0].getD j .any)) := by
  have h := encode_c smp 0 [1, 0, 0] (by decide)
  rw [encodeR_ok smp_enc.1, smp_enc.2] at h
  exact h
theorem smp_lossless : PC Tryz.prog 22 [.agg 4 (encF smp)] (.tup 2 (fun j => [.bool true, .int .i64 0].getD j .any)) := by
  have h := lossless_c smp
  have h1 : losR smp = true := by unfold losR; rw [if_pos smp_ok]; exact smp_los
  have h2 : losN smp = 0 := by unfold losN; rw [if_pos smp_ok]
  rw [h1, h2] at h
  exact h
theorem smp_within : PC Tryz.prog 23 [.agg 4 (encF smp), .agg 3 (grF gold)] (.tup 2 (fun j => [.bool true, .int .i64 0].getD j .any)) := by
  have h := within_c smp gold
  rw [smp_in.1, smp_in.2] at h
  exact h
theorem smp_print : PC Tryz.prog 25 [.agg 4 (encF smp)] (.tup 2 (fun j => [.str [101, 110, 99, 111, 100, 101, 114, 32, 50, 32, 50, 32, 50, 32, 50, 10, 48, 49, 62, 48, 32, 48, 48, 62, 49, 10, 49, 48, 62, 48, 32, 48, 48, 62, 49, 10], .int .i64 0].getD j .any)) := by
  have h := print_c smp smp_sml
  have h1 : printX smp = textE smp := by unfold printX; rw [if_neg (fun k => k smp_ok)]
  have h2 : printN smp = 0 := by unfold printN; rw [if_neg (fun k => k smp_ok)]
  rw [h1, h2, smp_text] at h
  exact h
set_option maxRecDepth 100000 in
theorem awake_c  : PC Tryz.prog 6 [] (.bool true) := by
 refine zp Tryz.func6 fun G hG hR => ?_
 refine zs (zrP ?_)
 refine zs (zL ?_)
 refine zcP cal21 sample_c ?_
 refine zlP 2 ?_
 refine zN (zs (zL (zlP 2 ?_)))
 refine awpL_callB (mem [1]) cal12 (by simp [flat]) rfl rfl (fun _ => rfl) (fun hg => smp_encode) (fun hg => ?_) (fun hg => ?_) fun K hK => ?_
 · simp [hG, List.getD_cons_zero, List.getD_cons_succ, -List.getD_eq_getElem?_getD, pureOp]
 · simp [hG, List.getD_cons_zero, List.getD_cons_succ, -List.getD_eq_getElem?_getD, pureOp]
 simp [hG, List.getD_cons_zero, List.getD_cons_succ, -List.getD_eq_getElem?_getD, pureOp]
 refine hK _ ?_
 clear K hK
 refine zlP 7 ?_
 refine zN (zs (zL (zlP 1 ?_)))
 refine zcP cal22 smp_lossless ?_
 refine zlP 5 ?_
 refine zN (zs ?_)
 refine awpS_draw hR mixed [] ⟨[], [], []⟩ fun mu0 => ?_
 refine zaP [0] [] 7 [0] ?_
 refine awpA_only (fuel := 6) (i := 1) (by decide +kernel) ?_
 refine zeP cal24 golden_c ?_
 refine awpA_only (fuel := 5) (i := 2) (by decide +kernel) ?_
 refine zeP cal23 smp_within ?_
 refine zaP [3, 4, 5, 6, 7] [] 0 [7, 6, 5, 4, 3, 2, 1, 0] ?_
 refine awpA_done (by decide +kernel) ?_
 refine zs (zL (zlP 1 ?_))
 refine zcP cal25 smp_print ?_
 refine zlP 5 ?_
 refine zN (zs (zrP ?_))
 refine zt ?_
 exact zRP
end Go.Proofs.YtchjjiedcpfniaaGreatDoor
namespace Go.Proofs.YtchjjiedcpfniaaGreatDoor
set_option linter.unusedSimpArgs false
set_option linter.unusedVariables false
open Go Go.Lift Go.Proofs
set_option maxRecDepth 100000 in
theorem raised_c (q n : Int) (hq : 1 ≤ q ∧ q ≤ 256) (hn : n ≤ 1000) : PC Tryz.prog 40 [.int .i64 q, .int .i64 n, .int .i64 256] (.int .i64 (upTo q n.toNat)) := by
 refine zp Tryz.func40 fun G hG hR => ?_
 refine zs (zr ?_)
 refine zs (zr ?_)
 refine zs (zs (zr ?_))
 refine zb ?_
 refine awpS_loop (α := Nat) (fun k => ⟨[(0, .int .i64 q), (2, .int .i64 256), (7, .int .i64 (q ^ k)), (8, .int .i64 n), (9, .int .i64 k)], [], 0⟩) (fun k => k ≤ n.toNat ∧ ∀ j, j ≤ k → q ^ j ≤ 256) (fun k => n.toNat - k) (0) (⟨Nat.zero_le _, fun j hj => by rw [show j = 0 by omega]; simp⟩) ?_ ?_
 · exact zi
 rintro k ⟨hk, hle⟩
 have hpos : 1 ≤ q ^ k := Int.pow_pos (by omega)
 have hmul := mul_box hpos (hle k (Nat.le_refl _)) hq
 refine zs (zr ?_)
 refine zs (zy (fun hb10 => ?_) fun hb10 => ?_)
 · refine zk (zs (zb (zs (zr ?_))))
   refine zs (zr ?_)
   refine zy (fun hb16 => ?_) fun hb16 => ?_
   · refine zx ?_
     refine blockQ_exit_ne (by decide) (thenQ_exit ?_)
     refine ztx (zbx (zs (zr ?_)))
     refine zt ?_
     refine RetOK_of ?_
     simp [hG, List.getD_cons_zero, List.getD_cons_succ, -List.getD_eq_getElem?_getD]
     exact upTo_over hle hb16 (by omega)
   refine zk (zn (zbn (zr ?_)))
   refine zn ?_
   refine round_end (k + 1) (⟨by omega, fun j hj => (Nat.lt_or_ge k j).elim (fun h => by rw [show j = k + 1 by omega, Int.pow_succ]; omega) fun h => hle j h⟩) (by omega) ?_
   exact zi (e := by simp [hG, List.getD_cons_zero, List.getD_cons_succ, -List.getD_eq_getElem?_getD]; rw [Int.pow_succ])
 refine zx (ztx (zbx (zs (zr ?_))))
 refine zt ?_
 refine RetOK_of ?_
 simp [hG, List.getD_cons_zero, List.getD_cons_succ, -List.getD_eq_getElem?_getD]
 rw [show n.toNat = k by omega, upTo_pow fun j hj => hle j (by omega)]
set_option maxRecDepth 100000 in
theorem label_c (q : Int) (w : List UInt8) : PC Tryz.prog 14 [.int .i64 q, .str w] (.tup 2 (fun j => [.int .i64 (labelX q w), .int .i64 (labelN q w)].getD j .any)) := by
 refine zp Tryz.func14 fun G hG hR => ?_
 refine zs (zr ?_)
 refine zs (zs (zL (zl 2 ?_)))
 refine zc cal36 (wcheck_c q w) ?_
 refine zl 1 ?_
 refine zN (zs (zr ?_))
 refine zy (fun hb13 => ?_) fun hb13 => ?_
 · refine zs (zr ?_)
   refine zt ?_
   refine RetOK_of ?_
   simp [hG, List.getD_cons_zero, List.getD_cons_succ, -List.getD_eq_getElem?_getD]
   have hN : labelN q w = wordCheck q w := (by unfold labelN; rw [if_pos (by omega)]); rw [label_no hN (by omega), hN]; simp
 have hwc : wordCheck q w = 0 := (by omega)
 obtain ⟨hq, hd⟩ := word_dig hwc
 refine zk (zs (zs (zr ?_)))
 refine zy (fun hb17 => ?_) fun hb17 => ?_
 · refine zs (zr ?_)
   refine zt ?_
   refine RetOK_of ?_
   simp [hG, List.getD_cons_zero, List.getD_cons_succ, -List.getD_eq_getElem?_getD]
   have hN : labelN q w = 2 := (by unfold labelN; rw [if_neg (by omega), if_pos (by omega)]); rw [label_no hN (by omega), hN]; simp
 refine zk (zs (zs (zL (zl 3 ?_))))
 refine zc cal40 (raised_c q w.length (by omega) (by omega)) ?_
 refine zl 1 ?_
 refine zN (zy (fun hb22 => ?_) fun hb22 => ?_)
 · refine zs (zr ?_)
   refine zt ?_
   refine RetOK_of ?_
   simp [hG, List.getD_cons_zero, List.getD_cons_succ, -List.getD_eq_getElem?_getD]
   have hN : labelN q w = 4 := (by unfold labelN; rw [if_neg (by omega), if_neg (by omega), if_pos (by omega)]); rw [label_no hN (by omega), hN]; simp
 have hup := (upTo_iff hq.1 (n := w.length)).1 (by simpa using hb22)
 refine zk (zs (zr ?_))
 refine zs (zs (zr ?_))
 refine zb ?_
 refine awpS_loop (α := Nat) (fun k => ⟨[(0, .int .i64 q), (1, .str w), (7, .int .i64 (valW q (w.take k))), (24, .int .i64 w.length), (25, .int .i64 k)], [], 0⟩) (fun k => k ≤ w.length) (fun k => w.length - k) (0) (Nat.zero_le _) ?_ ?_
 · exact zi
 rintro k hk
 have hv := valW_lt hq.1 hd (k := k) (by omega)
 have hvb := val_box hq hup hk hv
 refine zs (zr ?_)
 refine zs (zy (fun hb26 => ?_) fun hb26 => ?_)
 · have hdk := hd k (by omega)
   refine zk (zs (zb (zs (zr ?_))))
   refine zL (zl 6 ?_)
   refine zc cal41 (idx_c letters (w.getD k 0)) ?_ (b := fun hg => by simp [hG]; rfl)
   refine zl 2 ?_
   refine zN (zn (zbn (zr ?_)))
   refine zn ?_
   refine round_end (k + 1) (by omega) (by omega) ?_
   exact zi (e := by simp [hG, List.getD_cons_zero, List.getD_cons_succ, -List.getD_eq_getElem?_getD]; rw [valW_step (by omega)])
 refine zx (ztx (zbx (zs (zr ?_))))
 refine zt ?_
 refine RetOK_of ?_
 simp [hG, List.getD_cons_zero, List.getD_cons_succ, -List.getD_eq_getElem?_getD]
 obtain rfl : k = w.length := (by omega); have hN : labelN q w = 0 := (by unfold labelN; rw [if_neg (by omega), if_neg (by omega), if_neg (by omega)]); rw [label_ok hN, hN, List.take_length]; simp
set_option maxRecDepth 100000 in
theorem block_c (q n l : Int) (hlx : l ≤ 9223372036854775807) : PC Tryz.prog 29 [.int .i64 q, .int .i64 n, .int .i64 l] (.tup 2 (fun j => [.str (blockX q n l), .int .i64 (blockN q n l)].getD j .any)) := by
 refine zp Tryz.func29 fun G hG hR => ?_
 refine zs (zr ?_)
 refine zs (zs (zr ?_))
 refine zy (fun hb15 => ?_) fun hb15 => ?_
 · refine zs (zr ?_)
   refine zt ?_
   refine RetOK_of ?_
   simp [hG, List.getD_cons_zero, List.getD_cons_succ, -List.getD_eq_getElem?_getD]
   have hN : blockN q n l = 12 := (by unfold blockN; rw [if_pos (by omega)]); rw [block_no hN (by omega), hN]; simp
 refine zk (zs (zs (zr ?_)))
 refine zy (fun hb25 => ?_) fun hb25 => ?_
 · refine zs (zr ?_)
   refine zt ?_
   refine RetOK_of ?_
   simp [hG, List.getD_cons_zero, List.getD_cons_succ, -List.getD_eq_getElem?_getD]
   have hN : blockN q n l = 2 := (by unfold blockN; rw [if_neg (by omega), if_pos (by omega)]); rw [block_no hN (by omega), hN]; simp
 have hq : 1 ≤ q ∧ q ≤ 16 := (by omega)
 have hn : 0 ≤ n ∧ n ≤ 16 := (by omega)
 have hl : 0 ≤ l := (by omega)
 refine zk (zs (zr ?_))
 refine zs (zs (zr ?_))
 refine zb ?_
 refine awpS_loop (α := Nat) (fun i => ⟨[(0, .int .i64 q), (1, .int .i64 n), (2, .int .i64 (l / q ^ i)), (8, .sl (0, 0) 0 n.toNat), (29, .int .i64 n.toNat), (30, .int .i64 i)], [(0, .one (.arr n.toNat 1 (fun j _ => .int .u8 (bwAt q n.toNat l i j))))], 1⟩) (fun i => i ≤ n.toNat) (fun i => n.toNat - i) (0) (Nat.zero_le _) ?_ ?_
 · exact zi (h := by simp [hG, List.getD_cons_zero, List.getD_cons_succ, -List.getD_eq_getElem?_getD]; exact fun j hj => bw_zero (by omega))
 rintro i hi
 have hdb := div_box (i := i) hq.1 hl
 have hrm : 0 ≤ l / q ^ i % q ∧ l / q ^ i % q < q := ⟨Int.emod_nonneg _ (by omega), Int.emod_lt_of_pos _ (by omega)⟩
 refine zs (zr ?_)
 refine zs (zy (fun hb31 => ?_) fun hb31 => ?_)
 · refine zk (zs (zb (zs (zr ?_))))
   refine zs (zr ?_)
   refine zr ?_
   refine zn (zbn (zr ?_))
   refine zn ?_
   refine round_end (i + 1) (by omega) (by omega) ?_
   exact zi (e := by simp [hG, List.getD_cons_zero, List.getD_cons_succ, -List.getD_eq_getElem?_getD]; exact (div_step hq.1 hl)) (h := by simp [hG, List.getD_cons_zero, List.getD_cons_succ, -List.getD_eq_getElem?_getD]; exact fun j hj => bw_set (by omega) (by omega))
 refine zx (ztx (zbx (zs (zs (zr ?_)))))
 refine zy (fun hb48 => ?_) fun hb48 => ?_
 · refine zs (zr ?_)
   refine zt ?_
   refine RetOK_of ?_
   simp [hG, List.getD_cons_zero, List.getD_cons_succ, -List.getD_eq_getElem?_getD]
   obtain rfl : i = n.toNat := (by omega); have hN : blockN q n l = 2 := (by unfold blockN; rw [if_neg (by omega), if_neg (by omega), if_pos (by omega)]); rw [block_no hN (by omega), hN]; simp
 refine zk (zs ?_)
 refine awpS_wk (st2 := ⟨[(8, Lift.bytes (blockL q n.toNat l))], [], 0⟩) ?_ ?_
 · exact zw (id) (fun k => k == 0) (fun _ => false) (e := by simp [hG, List.getD_cons_zero, List.getD_cons_succ, -List.getD_eq_getElem?_getD]; exact fun j hj => bw_all (by omega) (by omega))
 refine zr ?_
 refine zt ?_
 refine RetOK_of ?_
 simp [hG, List.getD_cons_zero, List.getD_cons_succ, -List.getD_eq_getElem?_getD]
 obtain rfl : i = n.toNat := (by omega); have hN : blockN q n l = 0 := (by unfold blockN; rw [if_neg (by omega), if_neg (by omega), if_neg (by omega)]); rw [block_ok hN, hN]; simp
end Go.Proofs.YtchjjiedcpfniaaGreatDoor
