/- Parts of the proof: UL UM UN UP. -/
import Derived.Test.YtchjjiedcpfniaaGreatDoorU15
import Derived.Test.YtchjjiedcpfniaaGreatDoorU16
import Derived.Test.YtchjjiedcpfniaaGreatDoorU20
import Derived.Test.YtchjjiedcpfniaaGreatDoorU35
import Derived.Test.YtchjjiedcpfniaaGreatDoorU40
import Derived.Test.YtchjjiedcpfniaaGreatDoorU41
namespace Go.Proofs.YtchjjiedcpfniaaGreatDoor
set_option linter.unusedSimpArgs false
set_option linter.unusedVariables false
open Go Go.Lift Go.Proofs
theorem head_len {e : Enc} : (headW e).length = 5 := rfl
theorem head_word {e : Enc} : ∀ w ∈ headW e, w.length ≤ 100 := fun w hw => by
  simp only [headW, List.mem_cons, List.not_mem_nil, or_false] at hw
  rcases hw with rfl | rfl | rfl | rfl | rfl
  · decide
  all_goals exact Nat.le_trans itoa2_len.1 (by omega)
theorem cells_word {e : Enc} (hv : checkE e = 0) {s : Nat} (hs : s < e.rows.length) : ∀ w ∈ (e.rows.getD s []).map cellT, w.length ≤ 100 := fun w hw => by
  obtain ⟨c, hc, rfl⟩ := List.mem_map.1 hw
  have := cellT_len hv (getD_mem hs) hc
  omega
theorem map_cellT {r : List Cell} {i : Nat} (h : i < r.length) : (r.map cellT).getD i [] = cellT (r.getD i dc) := by
  rw [getD_get (by rw [List.length_map]; exact h), List.getElem_map, getD_get h]
theorem app_word {F : Nat → List UInt8} {m i : Nat} {v : List UInt8} {w : Nat → Nat → AVal} (hi : i < m + 1) (hv : w 0 0 = .str v) (h : F m = v) : app (fun q _ => .str (F q)) m w i 0 = .str (F i) := by
  unfold app
  by_cases e : i < m
  · rw [if_pos e]
  · obtain rfl : i = m := by omega
    rw [if_neg e, Nat.sub_self, hv, h]
theorem text_ne {e : Enc} {k : Nat} : textA e k ≠ [] := by
  unfold textA lineT
  simp
set_option maxRecDepth 100000 in
theorem lenB_c (b : Bool) (w : List UInt8) : FC1 Tryz.prog 56 [.ptr (0, 0) 0 0] [(0, .typ 81 (.arr 1 2 (fun _ j => bF (selfQ b) (.sl (1, 0) 0 (w).length) j))), (1, .typ 5 (.arr (w).length 1 (byF (w))))] 2 (.int .i64 w.length) [(0, .typ 81 (.arr 1 2 (fun _ j => bF (selfQ b) (.sl (1, 0) 0 (w).length) j))), (1, .typ 5 (.arr (w).length 1 (byF (w))))] 2 := by
 refine FC_introS T_ok Tryz.func56 rfl (by simp [Tryz.ntmps56]) fun G hG hR => ?_
 simp only [Tryz.ntmps56, Tryz.results56] at hG ⊢
 simp only [argEnv, Nat.zero_add, Nat.reduceAdd]
 refine zs (zr ?_)
 refine zs (zr ?_)
 refine zt ?_
 refine RetF_of (()) (id) (fun _ => false) (fun _ => false) trivial ?_ ?_ (by rfl) (by simp) (fun k _ => ⟨rfl, rfl⟩)
 · simp [hG, List.getD_cons_zero, List.getD_cons_succ, -List.getD_eq_getElem?_getD]
 simp [hG, List.getD_cons_zero, List.getD_cons_succ, -List.getD_eq_getElem?_getD]
set_option maxRecDepth 100000 in
theorem line_c (b : Bool) (w : List UInt8) (ws : List (List UInt8)) (hl : ws.length ≤ 1000) (hw : ∀ w ∈ ws, w.length ≤ 100) (hb : w.length ≤ 100000) : FC1 Tryz.prog 52 [strs ws, .ptr (0, 0) 0 0] [(0, .typ 81 (.arr 1 2 (fun _ j => bF (selfQ b) (.sl (1, 0) 0 (w).length) j))), (1, .typ 5 (.arr (w).length 1 (byF (w))))] 2 (.tup 0 (fun _ => .any)) [(0, .typ 81 (.arr 1 2 (fun _ j => bF (.ptr (0, 0) 0 0) (.sl (2, 0) 0 (w ++ lineT ws).length) j))), (2, .typ 5 (.arr (w ++ lineT ws).length 1 (byF (w ++ lineT ws))))] 3 := by
 have hjl := join_le hl hw
 refine FC_introS T_ok Tryz.func52 rfl (by simp [Tryz.ntmps52]) fun G hG hR => ?_
 simp only [Tryz.ntmps52, Tryz.results52] at hG ⊢
 simp only [argEnv, Nat.zero_add, Nat.reduceAdd]
 refine zL (zl 1 ?_)
 refine zc cal54 (join_c ws hl hw) ?_
 refine zl 1 ?_
 refine zf cal53 [0, 1] (writeK_c b w (joinB 32 ws ++ [10]) (by simp only [List.length_append, List.length_singleton]; omega)) (fun x hI hno => ?_)
 refine zN (zn ?_)
 refine RetF_of (()) (id) (fun _ => false) (fun _ => false) trivial ?_ ?_ (by rfl) (by simp) (fun k _ => ⟨rfl, rfl⟩)
 · simp [hG, List.getD_cons_zero, List.getD_cons_succ, -List.getD_eq_getElem?_getD]
 rw [show lineT ws = joinB 32 ws ++ [10] from rfl]; simp [hG, List.getD_cons_zero, List.getD_cons_succ, -List.getD_eq_getElem?_getD]
set_option maxRecDepth 100000 in
theorem print_c (e : Enc) (hm : Sml e) : PC Tryz.prog 25 [.agg 4 (encF e)] (.tup 2 (fun j => [.str (printX e), .int .i64 (printN e)].getD j .any)) := by
 refine zp Tryz.func25 fun G hG hR => ?_
 refine zs (zr ?_)
 refine zs (zs (zL (zl 1 ?_)))
 refine zc cal11 (check_c e) ?_
 refine zl 1 ?_
 refine zN (zy (fun hb13 => ?_) fun hb13 => ?_)
 · refine zs (zr ?_)
   refine zt ?_
   refine RetOK_of ?_
   simp [hG, List.getD_cons_zero, List.getD_cons_succ, -List.getD_eq_getElem?_getD]
   unfold printX printN; rw [if_pos hb13, if_pos hb13]; exact ⟨rfl, rfl⟩
 have hv : checkE e = 0 := (by simpa using hb13)
 have hd := (checkE_valid hv).1
 obtain ⟨hd1, hd2, hd3⟩ := hd
 have hr6 := sml_rows hm hv
 have hi6 := sml_inputs hm hv
 refine zk (zs (zr ?_))
 refine zs (zr ?_)
 refine zs ?_
 refine awpS_wk (st2 := ⟨[(1, .ptr (0, 0) 0 0), (4, .ptr (1, 0) 0 0), (5, .fn 52 1 (fun j => [.ptr (1, 0) 0 0].getD j .any))], [(0, .one (.arr 1 4 (fun _ => encF e))), (1, .typ 81 (.arr 1 2 (fun _ j => bF (selfQ false) (.sl (2, 0) 0 (([] : List UInt8)).length) j))), (2, .typ 5 (.arr (([] : List UInt8)).length 1 (byF (([] : List UInt8)))))], 3⟩) ?_ ?_
 · exact zw (id) (fun _ => false) (fun k => k == 2)
 refine awpS_draw hR mixed [] ⟨[], [15], [(0, 0)]⟩ fun mu0 => ?_
 refine za [0, 1, 2, 4, 5, 7, 8, 10, 11, 12] [] 6 [12, 11, 10, 8, 7, 5, 4, 2, 1, 0] ?_
 refine awpA_only (fuel := 5) (i := 3) (by decide +kernel) ?_
 refine ze cal55 (itoa_c e.letters (by omega)) ?_
 refine awpA_only (fuel := 4) (i := 6) (by decide +kernel) ?_
 refine ze cal55 (itoa_c e.block (by omega)) ?_
 refine awpA_only (fuel := 3) (i := 9) (by decide +kernel) ?_
 refine ze cal55 (itoa_c e.inputs (by omega)) ?_
 refine awpA_only (fuel := 2) (i := 13) (by decide +kernel) ?_
 refine ze cal55 (itoa_c (e.rows.length : Nat) (by omega)) ?_
 refine awpA_only (fuel := 1) (i := 14) (by decide +kernel) ?_
 refine zo ?_
 refine awpA_only (fuel := 0) (i := 15) (by decide +kernel) ?_
 refine awpO_fcr cal52 [1, 2] (mem [3]) (line_c false ([] : List UInt8) (headW e) (by rw [head_len]; omega) head_word (by simp)) rfl ⟨by decide, by decide, by simp⟩ rfl rfl rfl (by simp) (.inr fun x hI => by simp [flat]) ?_ ?_ ?_ fun K hK x hI hno => ?_
 · simp [hG, List.getD_cons_zero, List.getD_cons_succ, -List.getD_eq_getElem?_getD]
 · simp [hG, List.range'_succ, List.range'_zero, List.getD_cons_zero, List.getD_cons_succ, -List.getD_eq_getElem?_getD]; refine ⟨rfl, Nat.le_refl _, fun i hi => ?_⟩; have h5 : i < 5 := hi; rcases (show i = 0 ∨ i = 1 ∨ i = 2 ∨ i = 3 ∨ i = 4 by omega) with rfl | rfl | rfl | rfl | rfl <;> rfl
 · simp [hG, List.getD_cons_zero, List.getD_cons_succ, -List.getD_eq_getElem?_getD]
 simp [hG, List.getD_cons_zero, List.getD_cons_succ, -List.getD_eq_getElem?_getD]
 refine hK _ ?_
 clear K hK
 refine awpA_done (by decide +kernel) ?_
 refine zs (zs (zr ?_))
 refine zb ?_
 refine awpS_loop (α := Nat) (fun s => ⟨[(1, .ptr (0, 0) 0 0), (4, .ptr (1, 0) 0 0), (5, .fn 52 1 (fun j => [.ptr (1, 0) 0 0].getD j .any)), (32, rowsC e.rows), (33, .int .i64 e.rows.length), (34, .int .i64 s)], [(0, .one (.arr 1 4 (fun _ => encF e))), (1, .typ 81 (.arr 1 2 (fun _ j => bF (.ptr (1, 0) 0 0) (.sl (2, 0) 0 (textA e s).length) j))), (2, .typ 5 (.arr (textA e s).length 1 (byF (textA e s))))], 3⟩) (fun s => s ≤ e.rows.length) (fun s => e.rows.length - s) (0) (Nat.zero_le _) ?_ ?_
 · exact zw (fun k => if k = 2 then 4 else k) (fun _ => false) (fun _ => false) (h := by rw [textA_zero]; simp [hG, List.getD_cons_zero, List.getD_cons_succ, -List.getD_eq_getElem?_getD])
 rintro s hs
 refine zs (zr ?_)
 refine zs (zy (fun hb35 => ?_) fun hb35 => ?_)
 · have hsl : s < e.rows.length := (by omega)
   have hrw := row_eq hv hsl
   have htl := textA_len hm hv (k := s)
   have hE : textA e (s + 1) = textA e s ++ lineT ((e.rows.getD s []).map cellT) := textA_succ hsl
   refine zk (zs (zb (zs (zr ?_))))
   refine zs (zr ?_)
   refine zs (zs (zr ?_))
   refine zb ?_
   refine awpS_loop (α := Nat) (fun k => ⟨[(1, .ptr (0, 0) 0 0), (4, .ptr (1, 0) 0 0), (5, .fn 52 1 (fun j => [.ptr (1, 0) 0 0].getD j .any)), (8, .sl (3, 0) 0 k), (32, rowsC e.rows), (33, .int .i64 e.rows.length), (34, .int .i64 s), (38, cells (e.rows.getD s [])), (39, .int .i64 (e.rows.getD s []).length), (40, .int .i64 k)], [(0, .one (.arr 1 4 (fun _ => encF e))), (1, .typ 81 (.arr 1 2 (fun _ j => bF (.ptr (1, 0) 0 0) (.sl (2, 0) 0 (textA e s).length) j))), (2, .typ 5 (.arr (textA e s).length 1 (byF (textA e s)))), (3, .one (.arr k 1 (fun i _ => .str (cellT ((e.rows.getD s []).getD i dc)))))], 4⟩) (fun k => k ≤ (e.rows.getD s []).length) (fun k => (e.rows.getD s []).length - k) (0) (Nat.zero_le _) ?_ ?_
   · exact zw (id) (fun _ => false) (fun k => k == 3)
   rintro k hk
   refine zs (zr ?_)
   refine zs (zy (fun hb41 => ?_) fun hb41 => ?_)
   · have hkl : k < (e.rows.getD s []).length := (by omega)
     have hct := cell_to hv hsl hkl
     have hcw := cell_wlen hv hsl hkl
     unfold cellAt at hct hcw
     have hi2 := itoa2_len (a := ((e.rows.getD s []).getD k dc).to)
     refine zk (zs (zb (zs (zr ?_))))
     refine awpS_draw hR mixed [(9, (3, 0))] ⟨[], [], []⟩ fun mu0 => ?_
     refine za [0] [] 10 [0] ?_
     refine za [1, 2, 3, 4, 5] [(3, 0)] 5 [5, 4, 3, 2, 1, 0] ?_
     refine awpA_only (fuel := 4) (i := 6) (by decide +kernel) ?_
     refine ze cal55 (itoa_c ((e.rows.getD s []).getD k dc).to (by omega)) ?_
     refine za [7] [(3, 0)] 3 [7, 6, 5, 4, 3, 2, 1, 0] ?_
     refine awpA_only (fuel := 2) (i := 8) (by decide +kernel) ?_
     refine zo ?_
     refine awpA_only (fuel := 1) (i := 9) (by decide +kernel) ?_
     refine zo ?_
     refine za [10] [] 0 [10, 9, 8, 7, 6, 5, 4, 3, 2, 1, 0] ?_
     refine awpA_done (by decide +kernel) ?_
     refine zn (zbn (zr ?_))
     refine zn ?_
     refine round_end (k + 1) (by omega) (by omega) ?_
     exact zw (fun k => if k = 3 then 6 else k) (fun _ => false) (fun _ => false) (h := by simp [hG, List.getD_cons_zero, List.getD_cons_succ, -List.getD_eq_getElem?_getD]; exact fun i hi => app_word hi rfl (by simp [cellT]))
   obtain rfl : k = (e.rows.getD s []).length := (by omega)
   refine zx (ztx (zbx (zL (zl 2 ?_))))
   refine awpL_fc cal52 [1, 2] (mem [3]) (line_c true (textA e s) ((e.rows.getD s []).map cellT) (by rw [List.length_map]; omega) (cells_word hv (by omega)) (by omega)) rfl rfl rfl (by simp) (.inr fun x hI => by simp [flat]) ?_ ?_ ?_ fun K hK x hI hno => ?_
   · simp [hG, List.getD_cons_zero, List.getD_cons_succ, -List.getD_eq_getElem?_getD]
   · simp [hG, List.range'_succ, List.range'_zero, List.getD_cons_zero, List.getD_cons_succ, -List.getD_eq_getElem?_getD]; exact fun i hi => (map_cellT hi).symm
   · simp [hG, List.getD_cons_zero, List.getD_cons_succ, -List.getD_eq_getElem?_getD]
   simp [hG, List.getD_cons_zero, List.getD_cons_succ, -List.getD_eq_getElem?_getD]
   refine hK _ ?_
   clear K hK
   refine zN (zn (zbn (zr ?_)))
   refine zn ?_
   refine round_end (s + 1) (by omega) (by omega) ?_
   exact zw (fun k => if k = 2 then 4 else k) (fun _ => false) (fun _ => false) (h := by rw [hE]; simp [hG, List.getD_cons_zero, List.getD_cons_succ, -List.getD_eq_getElem?_getD])
 obtain rfl : s = e.rows.length := (by omega)
 have htl := textA_len hm hv (k := e.rows.length)
 refine zx (ztx (zbx (zs (zs (zL ?_)))))
 refine zf cal56 [1, 2] (lenB_c true (textA e e.rows.length)) (fun x hI hno => ?_)
 refine zl 1 ?_
 refine zN ?_
 refine awpS_cond rfl (fun hb60 => ?_) (fun hb60 => ?_)
 · exact absurd hb60 (by simp; omega)
 try simp [-List.getD_eq_getElem?_getD] at hb60
 refine zk (zs (zL ?_))
 refine zf cal39 [1, 2] (stringB (S := 2) (off := 0) (hin := [(0, .typ 81 (.arr 1 2 (fun _ j => bF (.ptr (0, 0) 0 0) (.sl (1, 0) 0 (textA e e.rows.length).length) j))), (1, .typ 5 (.arr (textA e e.rows.length).length 1 (byF (textA e e.rows.length))))]) (nin := 2) (l := textA e e.rows.length) (id := (1, 0)) rfl (by omega) rfl rfl rfl (Nat.le_refl _) text_ne (fun i hi => rfl) (by omega)) (fun x hI hno => ?_)
 refine zl 2 ?_
 refine zN (zt ?_)
 refine RetOK_of ?_
 simp [hG, List.getD_cons_zero, List.getD_cons_succ, -List.getD_eq_getElem?_getD]
 unfold printX printN; rw [if_neg (fun h => h hv), if_neg (fun h => h hv), textA_all (Nat.le_refl _)]; exact ⟨rfl, rfl⟩
theorem smp_sml : Sml smp := by
  exact ⟨by decide, by decide, by decide, by decide⟩
@[simp] theorem smp_letters : smp.letters = 2 := rfl
@[simp] theorem smp_block : smp.block = 2 := rfl
@[simp] theorem smp_inputs : smp.inputs = 2 := rfl
@[simp] theorem smp_len : smp.rows.length = 2 := rfl
@[simp] theorem smp_r0 : smp.rows.getD 0 [] = [⟨0, [48, 49]⟩, ⟨1, [48, 48]⟩] := rfl
@[simp] theorem smp_r1 : smp.rows.getD 1 [] = [⟨0, [49, 48]⟩, ⟨1, [48, 48]⟩] := rfl
set_option maxRecDepth 100000 in
theorem sample_c  : PC Tryz.prog 21 [] (.agg 4 (encF smp)) := by
 refine zp Tryz.func21 fun G hG hR => ?_
 refine zs (zr ?_)
 refine zs (zr ?_)
 refine zt ?_
 exact zR
set_option maxRecDepth 100000 in
theorem golden_c  : PC Tryz.prog 24 [] (.agg 3 (grF gold)) := by
 refine zp Tryz.func24 fun G hG hR => ?_
 refine zs (zr ?_)
 refine zs (zr ?_)
 refine zt ?_
 refine RetOK_of ?_
 simp [hG, List.getD_cons_zero, List.getD_cons_succ, -List.getD_eq_getElem?_getD]
 exact ⟨rfl, rfl, rfl, Nat.le_refl _, fun i hi => by rcases (show i = 0 ∨ i = 1 ∨ i = 2 by have h3 : i < 3 := hi; omega) with rfl | rfl | rfl <;> exact ⟨rfl, rfl, rfl⟩⟩
theorem smp_encode : PC Tryz.prog 12 [.agg 4 (encF smp), .int .i64 0, ints [1, 0, 0]] (.tup 3 (fun j => [.str [48, 48, 49, 48, 48, 49], .int .i64 0, .int .i64 0].getD j .any)) := by
  have h := encode_c smp 0 [1, 0, 0] (by decide)
  rw [encodeR_ok smp_enc.1, smp_enc.2] at h
  exact h
theorem smp_lossless : PC Tryz.prog 22 [.agg 4 (encF smp)] (.tup 2 (fun j => [.bool true, .int .i64 0].getD j .any)) := by
  have h := lossless_c smp
  have h1 : losR smp = true := by unfold losR; rw [if_pos smp_ok]; exact smp_los
  have h2 : losN smp = 0 := by unfold losN; rw [if_pos smp_ok]
  rw [h1, h2] at h
  exact h
theorem smp_within : PC Tryz.prog 23 [.agg 4 (encF smp), .agg 3 (grF gold)] (.tup 2 (fun j => [.bool true, .int .i64 0].getD j .any)) := by
  have h := within_c smp gold
  rw [smp_in.1, smp_in.2] at h
  exact h
theorem smp_print : PC Tryz.prog 25 [.agg 4 (encF smp)] (.tup 2 (fun j => [.str [101, 110, 99, 111, 100, 101, 114, 32, 50, 32, 50, 32, 50, 32, 50, 10, 48, 49, 62, 48, 32, 48, 48, 62, 49, 10, 49, 48, 62, 48, 32, 48, 48, 62, 49, 10], .int .i64 0].getD j .any)) := by
  have h := print_c smp smp_sml
  have h1 : printX smp = textE smp := by unfold printX; rw [if_neg (fun k => k smp_ok)]
  have h2 : printN smp = 0 := by unfold printN; rw [if_neg (fun k => k smp_ok)]
  rw [h1, h2, smp_text] at h
  exact h
set_option maxRecDepth 100000 in
theorem awake_c  : PC Tryz.prog 6 [] (.bool true) := by
 refine zp Tryz.func6 fun G hG hR => ?_
 refine zs (zrP ?_)
 refine zs (zL ?_)
 refine zcP cal21 sample_c ?_
 refine zlP 2 ?_
 refine zN (zs (zL (zlP 2 ?_)))
 refine awpL_callB (mem [1]) cal12 (by simp [flat]) rfl rfl (fun _ => rfl) (fun hg => smp_encode) (fun hg => ?_) (fun hg => ?_) fun K hK => ?_
 · simp [hG, List.getD_cons_zero, List.getD_cons_succ, -List.getD_eq_getElem?_getD, pureOp]
 · simp [hG, List.getD_cons_zero, List.getD_cons_succ, -List.getD_eq_getElem?_getD, pureOp]
 simp [hG, List.getD_cons_zero, List.getD_cons_succ, -List.getD_eq_getElem?_getD, pureOp]
 refine hK _ ?_
 clear K hK
 refine zlP 7 ?_
 refine zN (zs (zL (zlP 1 ?_)))
 refine zcP cal22 smp_lossless ?_
 refine zlP 5 ?_
 refine zN (zs ?_)
 refine awpS_draw hR mixed [] ⟨[], [], []⟩ fun mu0 => ?_
 refine zaP [0] [] 7 [0] ?_
 refine awpA_only (fuel := 6) (i := 1) (by decide +kernel) ?_
 refine zeP cal24 golden_c ?_
 refine awpA_only (fuel := 5) (i := 2) (by decide +kernel) ?_
 refine zeP cal23 smp_within ?_
 refine zaP [3, 4, 5, 6, 7] [] 0 [7, 6, 5, 4, 3, 2, 1, 0] ?_
 refine awpA_done (by decide +kernel) ?_
 refine zs (zL (zlP 1 ?_))
 refine zcP cal25 smp_print ?_
 refine zlP 5 ?_
 refine zN (zs (zrP ?_))
 refine zt ?_
 exact zRP
set_option maxRecDepth 100000 in
theorem block_c (q n l : Int) (hlx : l ≤ 9223372036854775807) : PC Tryz.prog 29 [.int .i64 q, .int .i64 n, .int .i64 l] (.tup 2 (fun j => [.str (blockX q n l), .int .i64 (blockN q n l)].getD j .any)) := by
 refine zp Tryz.func29 fun G hG hR => ?_
 refine zs (zr ?_)
 refine zs (zs (zr ?_))
 refine zy (fun hb15 => ?_) fun hb15 => ?_
 · refine zs (zr ?_)
   refine zt ?_
   refine RetOK_of ?_
   simp [hG, List.getD_cons_zero, List.getD_cons_succ, -List.getD_eq_getElem?_getD]
   have hN : blockN q n l = 12 := (by unfold blockN; rw [if_pos (by omega)]); rw [block_no hN (by omega), hN]; simp
 refine zk (zs (zs (zr ?_)))
 refine zy (fun hb25 => ?_) fun hb25 => ?_
 · refine zs (zr ?_)
   refine zt ?_
   refine RetOK_of ?_
   simp [hG, List.getD_cons_zero, List.getD_cons_succ, -List.getD_eq_getElem?_getD]
   have hN : blockN q n l = 2 := (by unfold blockN; rw [if_neg (by omega), if_pos (by omega)]); rw [block_no hN (by omega), hN]; simp
 have hq : 1 ≤ q ∧ q ≤ 16 := (by omega)
 have hn : 0 ≤ n ∧ n ≤ 16 := (by omega)
 have hl : 0 ≤ l := (by omega)
 refine zk (zs (zr ?_))
 refine zs (zs (zr ?_))
 refine zb ?_
 refine awpS_loop (α := Nat) (fun i => ⟨[(0, .int .i64 q), (1, .int .i64 n), (2, .int .i64 (l / q ^ i)), (8, .sl (0, 0) 0 n.toNat), (29, .int .i64 n.toNat), (30, .int .i64 i)], [(0, .one (.arr n.toNat 1 (fun j _ => .int .u8 (bwAt q n.toNat l i j))))], 1⟩) (fun i => i ≤ n.toNat) (fun i => n.toNat - i) (0) (Nat.zero_le _) ?_ ?_
 · exact zi (h := by simp [hG, List.getD_cons_zero, List.getD_cons_succ, -List.getD_eq_getElem?_getD]; exact fun j hj => bw_zero (by omega))
 rintro i hi
 have hdb := div_box (i := i) hq.1 hl
 have hrm : 0 ≤ l / q ^ i % q ∧ l / q ^ i % q < q := ⟨Int.emod_nonneg _ (by omega), Int.emod_lt_of_pos _ (by omega)⟩
 refine zs (zr ?_)
 refine zs (zy (fun hb31 => ?_) fun hb31 => ?_)
 · refine zk (zs (zb (zs (zr ?_))))
   refine zs (zr ?_)
   refine zr ?_
   refine zn (zbn (zr ?_))
   refine zn ?_
   refine round_end (i + 1) (by omega) (by omega) ?_
   exact zi (e := by simp [hG, List.getD_cons_zero, List.getD_cons_succ, -List.getD_eq_getElem?_getD]; exact (div_step hq.1 hl)) (h := by simp [hG, List.getD_cons_zero, List.getD_cons_succ, -List.getD_eq_getElem?_getD]; exact fun j hj => bw_set (by omega) (by omega))
 refine zx (ztx (zbx (zs (zs (zr ?_)))))
 refine zy (fun hb48 => ?_) fun hb48 => ?_
 · refine zs (zr ?_)
   refine zt ?_
   refine RetOK_of ?_
   simp [hG, List.getD_cons_zero, List.getD_cons_succ, -List.getD_eq_getElem?_getD]
   obtain rfl : i = n.toNat := (by omega); have hN : blockN q n l = 2 := (by unfold blockN; rw [if_neg (by omega), if_neg (by omega), if_pos (by omega)]); rw [block_no hN (by omega), hN]; simp
 refine zk (zs ?_)
 refine awpS_wk (st2 := ⟨[(8, Lift.bytes (blockL q n.toNat l))], [], 0⟩) ?_ ?_
 · exact zw (id) (fun k => k == 0) (fun _ => false) (e := by simp [hG, List.getD_cons_zero, List.getD_cons_succ, -List.getD_eq_getElem?_getD]; exact fun j hj => bw_all (by omega) (by omega))
 refine zr ?_
 refine zt ?_
 refine RetOK_of ?_
 simp [hG, List.getD_cons_zero, List.getD_cons_succ, -List.getD_eq_getElem?_getD]
 obtain rfl : i = n.toNat := (by omega); have hN : blockN q n l = 0 := (by unfold blockN; rw [if_neg (by omega), if_neg (by omega), if_neg (by omega)]); rw [block_ok hN, hN]; simp
set_option maxRecDepth 100000 in
theorem blockR_c (q n l : Int) (hlx : l ≤ 9223372036854775807) : PC Tryz.prog 33 [.int .i64 q, .int .i64 n, .int .i64 l] (.tup 2 (fun j => [.str (blockX q n l), .int .i64 (blockN q n l)].getD j .any)) := by
 refine zp Tryz.func33 fun G hG hR => ?_
 refine zs (zr ?_)
 refine zs (zs (zr ?_))
 refine zy (fun hb16 => ?_) fun hb16 => ?_
 · refine zs (zr ?_)
   refine zt ?_
   refine RetOK_of ?_
   simp [hG, List.getD_cons_zero, List.getD_cons_succ, -List.getD_eq_getElem?_getD]
   have hN : blockN q n l = 12 := (by unfold blockN; rw [if_pos (by omega)]); rw [block_no hN (by omega), hN]; simp
 refine zk (zs (zs (zr ?_)))
 refine zy (fun hb26 => ?_) fun hb26 => ?_
 · refine zs (zr ?_)
   refine zt ?_
   refine RetOK_of ?_
   simp [hG, List.getD_cons_zero, List.getD_cons_succ, -List.getD_eq_getElem?_getD]
   have hN : blockN q n l = 2 := (by unfold blockN; rw [if_neg (by omega), if_pos (by omega)]); rw [block_no hN (by omega), hN]; simp
 have hq : 1 ≤ q ∧ q ≤ 16 := (by omega)
 have hn : 0 ≤ n ∧ n ≤ 16 := (by omega)
 have hl : 0 ≤ l := (by omega)
 refine zk (zs (zr ?_))
 refine zs (zs (zr ?_))
 refine zb ?_
 refine awpS_loop (α := Nat) (fun i => ⟨[(0, .int .i64 q), (1, .int .i64 n), (2, .int .i64 (l / q ^ i)), (8, .str (blockL q i l)), (9, .int .i64 i)], [], 0⟩) (fun i => i ≤ n.toNat) (fun i => n.toNat - i) (0) (Nat.zero_le _) ?_ ?_
 · exact zi (e := by simp [hG, List.getD_cons_zero, List.getD_cons_succ, -List.getD_eq_getElem?_getD]; rfl)
 rintro i hi
 have hdb := div_box (i := i) hq.1 hl
 have hrm : 0 ≤ l / q ^ i % q ∧ l / q ^ i % q < q := ⟨Int.emod_nonneg _ (by omega), Int.emod_lt_of_pos _ (by omega)⟩
 refine zs (zs (zr ?_))
 refine zy (fun hb29 => ?_) fun hb29 => ?_
 · refine zk (zs (zb (zs (zr ?_))))
   refine zs (zr ?_)
   refine zr ?_
   refine zn (zbn (zr ?_))
   refine zn ?_
   refine round_end (i + 1) (by omega) (by omega) ?_
   exact zi (e := by simp [hG, List.getD_cons_zero, List.getD_cons_succ, -List.getD_eq_getElem?_getD]; exact ⟨div_step hq.1 hl, by rw [blockL_succ]; exact congrArg (· ++ blockL q i l) (ltr_slice hrm.1 (by omega))⟩)
 refine zx (ztx (zbx (zs (zs (zr ?_)))))
 refine zy (fun hb45 => ?_) fun hb45 => ?_
 · refine zs (zr ?_)
   refine zt ?_
   refine RetOK_of ?_
   simp [hG, List.getD_cons_zero, List.getD_cons_succ, -List.getD_eq_getElem?_getD]
   obtain rfl : i = n.toNat := (by omega); have hN : blockN q n l = 2 := (by unfold blockN; rw [if_neg (by omega), if_neg (by omega), if_pos (by omega)]); rw [block_no hN (by omega), hN]; simp
 refine zk (zs (zr ?_))
 refine zt ?_
 refine RetOK_of ?_
 simp [hG, List.getD_cons_zero, List.getD_cons_succ, -List.getD_eq_getElem?_getD]
 obtain rfl : i = n.toNat := (by omega); have hN : blockN q n l = 0 := (by unfold blockN; rw [if_neg (by omega), if_neg (by omega), if_neg (by omega)]); rw [block_ok hN, hN]; simp
end Go.Proofs.YtchjjiedcpfniaaGreatDoor
