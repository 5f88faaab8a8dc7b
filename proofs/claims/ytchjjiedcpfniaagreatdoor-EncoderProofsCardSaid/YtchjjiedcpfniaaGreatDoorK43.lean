/- Parts of the proof: UL. -/
import Derived.Test.YtchjjiedcpfniaaGreatDoorK16
import Derived.Test.YtchjjiedcpfniaaGreatDoorK34
import Derived.Test.YtchjjiedcpfniaaGreatDoorK42
namespace Go.Proofs.YtchjjiedcpfniaaGreatDoor
set_option linter.unusedSimpArgs false
set_option linter.unusedVariables false
open Go Go.Lift Go.Proofs
theorem head_len {e : Enc} : (headW e).length = 5 := rfl
theorem head_word {e : Enc} : ∀ w ∈ headW e, w.length ≤ 100 := fun w hw => by
  simp only [headW, List.mem_cons, List.not_mem_nil, or_false] at hw
  rcases hw with rfl | rfl | rfl | rfl | rfl
  · decide
  all_goals exact Nat.le_trans itoa2_len.1 (by omega)
theorem cells_word {e : Enc} (hv : checkE e = 0) {s : Nat} (hs : s < e.rows.length) : ∀ w ∈ (e.rows.getD s []).map cellT, w.length ≤ 100 := fun w hw => by
  obtain ⟨c, hc, rfl⟩ := List.mem_map.1 hw
  have := cellT_len hv (getD_mem hs) hc
  omega
theorem map_cellT {r : List Cell} {i : Nat} (h : i < r.length) : (r.map cellT).getD i [] = cellT (r.getD i dc) := by
  rw [getD_get (by rw [List.length_map]; exact h), List.getElem_map, getD_get h]
theorem app_word {F : Nat → List UInt8} {m i : Nat} {v : List UInt8} {w : Nat → Nat → AVal} (hi : i < m + 1) (hv : w 0 0 = .str v) (h : F m = v) : app (fun q _ => .str (F q)) m w i 0 = .str (F i) := by
  unfold app
  by_cases e : i < m
  · rw [if_pos e]
  · obtain rfl : i = m := by omega
    rw [if_neg e, Nat.sub_self, hv, h]
theorem text_ne {e : Enc} {k : Nat} : textA e k ≠ [] := by
  unfold textA lineT
  simp
set_option maxRecDepth 100000 in
theorem lenB_c (b : Bool) (w : List UInt8) : FC1 Tryz.prog 56 [.ptr (0, 0) 0 0] [(0, .typ 81 (.arr 1 2 (fun _ j => bF (selfQ b) (.sl (1, 0) 0 (w).length) j))), (1, .typ 5 (.arr (w).length 1 (byF (w))))] 2 (.int .i64 w.length) [(0, .typ 81 (.arr 1 2 (fun _ j => bF (selfQ b) (.sl (1, 0) 0 (w).length) j))), (1, .typ 5 (.arr (w).length 1 (byF (w))))] 2 := by
 refine FC_introS T_ok Tryz.func56 rfl (by simp [Tryz.ntmps56]) fun G hG hR => ?_
 simp only [Tryz.ntmps56, Tryz.results56] at hG ⊢
 simp only [argEnv, Nat.zero_add, Nat.reduceAdd]
 refine zs (zr ?_)
 refine zs (zr ?_)
 refine zt ?_
 refine RetF_of (()) (id) (fun _ => false) (fun _ => false) trivial ?_ ?_ (by rfl) (by simp) (fun k _ => ⟨rfl, rfl⟩)
 · simp [hG, List.getD_cons_zero, List.getD_cons_succ, -List.getD_eq_getElem?_getD]
 simp [hG, List.getD_cons_zero, List.getD_cons_succ, -List.getD_eq_getElem?_getD]
set_option maxRecDepth 100000 in
theorem line_c (b : Bool) (w : List UInt8) (ws : List (List UInt8)) (hl : ws.length ≤ 1000) (hw : ∀ w ∈ ws, w.length ≤ 100) (hb : w.length ≤ 100000) : FC1 Tryz.prog 52 [strs ws, .ptr (0, 0) 0 0] [(0, .typ 81 (.arr 1 2 (fun _ j => bF (selfQ b) (.sl (1, 0) 0 (w).length) j))), (1, .typ 5 (.arr (w).length 1 (byF (w))))] 2 (.tup 0 (fun _ => .any)) [(0, .typ 81 (.arr 1 2 (fun _ j => bF (.ptr (0, 0) 0 0) (.sl (2, 0) 0 (w ++ lineT ws).length) j))), (2, .typ 5 (.arr (w ++ lineT ws).length 1 (byF (w ++ lineT ws))))] 3 := by
 have hjl := join_le hl hw
 refine FC_introS T_ok Tryz.func52 rfl (by simp [Tryz.ntmps52]) fun G hG hR => ?_
 simp only [Tryz.ntmps52, Tryz.results52] at hG ⊢
 simp only [argEnv, Nat.zero_add, Nat.reduceAdd]
 refine zL (zl 1 ?_)
 refine zc cal54 (join_c ws hl hw) ?_
 refine zl 1 ?_
 refine zf cal53 [0, 1] (writeK_c b w (joinB 32 ws ++ [10]) (by simp only [List.length_append, List.length_singleton]; omega)) (fun x hI hno => ?_)
 refine zN (zn ?_)
 refine RetF_of (()) (id) (fun _ => false) (fun _ => false) trivial ?_ ?_ (by rfl) (by simp) (fun k _ => ⟨rfl, rfl⟩)
 · simp [hG, List.getD_cons_zero, List.getD_cons_succ, -List.getD_eq_getElem?_getD]
 rw [show lineT ws = joinB 32 ws ++ [10] from rfl]; simp [hG, List.getD_cons_zero, List.getD_cons_succ, -List.getD_eq_getElem?_getD]
set_option maxRecDepth 100000 in
theorem print_c (e : Enc) (hm : Sml e) : PC Tryz.prog 25 [.agg 4 (encF e)] (.tup 2 (fun j => [.str (printX e), .int .i64 (printN e)].getD j .any)) := by
 refine zp Tryz.func25 fun G hG hR => ?_
 refine zs (zr ?_)
 refine zs (zs (zL (zl 1 ?_)))
 refine zc cal11 (check_c e) ?_
 refine zl 1 ?_
 refine zN (zy (fun hb13 => ?_) fun hb13 => ?_)
 · refine zs (zr ?_)
   refine zt ?_
   refine RetOK_of ?_
   simp [hG, List.getD_cons_zero, List.getD_cons_succ, -List.getD_eq_getElem?_getD]
   unfold printX printN; rw [if_pos hb13, if_pos hb13]; exact ⟨rfl, rfl⟩
 have hv : checkE e = 0 := (by simpa using hb13)
 have hd := (checkE_valid hv).1
 obtain ⟨hd1, hd2, hd3⟩ := hd
 have hr6 := sml_rows hm hv
 have hi6 := sml_inputs hm hv
 refine zk (zs (zr ?_))
 refine zs (zr ?_)
 refine zs ?_
 refine awpS_wk (st2 := ⟨[(1, .ptr (0, 0) 0 0), (4, .ptr (1, 0) 0 0), (5, .fn 52 1 (fun j => [.ptr (1, 0) 0 0].getD j .any))], [(0, .one (.arr 1 4 (fun _ => encF e))), (1, .typ 81 (.arr 1 2 (fun _ j => bF (selfQ false) (.sl (2, 0) 0 (([] : List UInt8)).length) j))), (2, .typ 5 (.arr (([] : List UInt8)).length 1 (byF (([] : List UInt8)))))], 3⟩) ?_ ?_
 · exact zw (id) (fun _ => false) (fun k => k == 2)
 refine awpS_draw hR mixed [] ⟨[], [15], [(0, 0)]⟩ fun mu0 => ?_
 refine za [0, 1, 2, 4, 5, 7, 8, 10, 11, 12] [] 6 [12, 11, 10, 8, 7, 5, 4, 2, 1, 0] ?_
 refine awpA_only (fuel := 5) (i := 3) (by decide +kernel) ?_
 refine ze cal55 (itoa_c e.letters (by omega)) ?_
 refine awpA_only (fuel := 4) (i := 6) (by decide +kernel) ?_
 refine ze cal55 (itoa_c e.block (by omega)) ?_
 refine awpA_only (fuel := 3) (i := 9) (by decide +kernel) ?_
 refine ze cal55 (itoa_c e.inputs (by omega)) ?_
 refine awpA_only (fuel := 2) (i := 13) (by decide +kernel) ?_
 refine ze cal55 (itoa_c (e.rows.length : Nat) (by omega)) ?_
 refine awpA_only (fuel := 1) (i := 14) (by decide +kernel) ?_
 refine zo ?_
 refine awpA_only (fuel := 0) (i := 15) (by decide +kernel) ?_
 refine awpO_fcr cal52 [1, 2] (mem [3]) (line_c false ([] : List UInt8) (headW e) (by rw [head_len]; omega) head_word (by simp)) rfl ⟨by decide, by decide, by simp⟩ rfl rfl rfl (by simp) (.inr fun x hI => by simp [flat]) ?_ ?_ ?_ fun K hK x hI hno => ?_
 · simp [hG, List.getD_cons_zero, List.getD_cons_succ, -List.getD_eq_getElem?_getD]
 · simp [hG, List.range'_succ, List.range'_zero, List.getD_cons_zero, List.getD_cons_succ, -List.getD_eq_getElem?_getD]; refine ⟨rfl, Nat.le_refl _, fun i hi => ?_⟩; have h5 : i < 5 := hi; rcases (show i = 0 ∨ i = 1 ∨ i = 2 ∨ i = 3 ∨ i = 4 by omega) with rfl | rfl | rfl | rfl | rfl <;> rfl
 · simp [hG, List.getD_cons_zero, List.getD_cons_succ, -List.getD_eq_getElem?_getD]
 simp [hG, List.getD_cons_zero, List.getD_cons_succ, -List.getD_eq_getElem?_getD]
 refine hK _ ?_
 clear K hK
 refine awpA_done (by decide +kernel) ?_
 refine zs (zs (zr ?_))
 refine zb ?_
 refine awpS_loop (α := Nat) (fun s => ⟨[(1, .ptr (0, 0) 0 0), (4, .ptr (1, 0) 0 0), (5, .fn 52 1 (fun j => [.ptr (1, 0) 0 0].getD j .any)), (32, rowsC e.rows), (33, .int .i64 e.rows.length), (34, .int .i64 s)], [(0, .one (.arr 1 4 (fun _ => encF e))), (1, .typ 81 (.arr 1 2 (fun _ j => bF (.ptr (1, 0) 0 0) (.sl (2, 0) 0 (textA e s).length) j))), (2, .typ 5 (.arr (textA e s).length 1 (byF (textA e s))))], 3⟩) (fun s => s ≤ e.rows.length) (fun s => e.rows.length - s) (0) (Nat.zero_le _) ?_ ?_
 · exact zw (fun k => if k = 2 then 4 else k) (fun _ => false) (fun _ => false) (h := by rw [textA_zero]; simp [hG, List.getD_cons_zero, List.getD_cons_succ, -List.getD_eq_getElem?_getD])
 rintro s hs
 refine zs (zr ?_)
 refine zs (zy (fun hb35 => ?_) fun hb35 => ?_)
 · have hsl : s < e.rows.length := (by omega)
   have hrw := row_eq hv hsl
   have htl := textA_len hm hv (k := s)
   have hE : textA e (s + 1) = textA e s ++ lineT ((e.rows.getD s []).map cellT) := textA_succ hsl
   refine zk (zs (zb (zs (zr ?_))))
   refine zs (zr ?_)
   refine zs (zs (zr ?_))
   refine zb ?_
   refine awpS_loop (α := Nat) (fun k => ⟨[(1, .ptr (0, 0) 0 0), (4, .ptr (1, 0) 0 0), (5, .fn 52 1 (fun j => [.ptr (1, 0) 0 0].getD j .any)), (8, .sl (3, 0) 0 k), (32, rowsC e.rows), (33, .int .i64 e.rows.length), (34, .int .i64 s), (38, cells (e.rows.getD s [])), (39, .int .i64 (e.rows.getD s []).length), (40, .int .i64 k)], [(0, .one (.arr 1 4 (fun _ => encF e))), (1, .typ 81 (.arr 1 2 (fun _ j => bF (.ptr (1, 0) 0 0) (.sl (2, 0) 0 (textA e s).length) j))), (2, .typ 5 (.arr (textA e s).length 1 (byF (textA e s)))), (3, .one (.arr k 1 (fun i _ => .str (cellT ((e.rows.getD s []).getD i dc)))))], 4⟩) (fun k => k ≤ (e.rows.getD s []).length) (fun k => (e.rows.getD s []).length - k) (0) (Nat.zero_le _) ?_ ?_
   · exact zw (id) (fun _ => false) (fun k => k == 3)
   rintro k hk
   refine zs (zr ?_)
   refine zs (zy (fun hb41 => ?_) fun hb41 => ?_)
   · have hkl : k < (e.rows.getD s []).length := (by omega)
     have hct := cell_to hv hsl hkl
     have hcw := cell_wlen hv hsl hkl
     unfold cellAt at hct hcw
     have hi2 := itoa2_len (a := ((e.rows.getD s []).getD k dc).to)
     refine zk (zs (zb (zs (zr ?_))))
     refine awpS_draw hR mixed [(9, (3, 0))] ⟨[], [], []⟩ fun mu0 => ?_
     refine za [0] [] 10 [0] ?_
     refine za [1, 2, 3, 4, 5] [(3, 0)] 5 [5, 4, 3, 2, 1, 0] ?_
     refine awpA_only (fuel := 4) (i := 6) (by decide +kernel) ?_
     refine ze cal55 (itoa_c ((e.rows.getD s []).getD k dc).to (by omega)) ?_
     refine za [7] [(3, 0)] 3 [7, 6, 5, 4, 3, 2, 1, 0] ?_
     refine awpA_only (fuel := 2) (i := 8) (by decide +kernel) ?_
     refine zo ?_
     refine awpA_only (fuel := 1) (i := 9) (by decide +kernel) ?_
     refine zo ?_
     refine za [10] [] 0 [10, 9, 8, 7, 6, 5, 4, 3, 2, 1, 0] ?_
     refine awpA_done (by decide +kernel) ?_
     refine zn (zbn (zr ?_))
     refine zn ?_
     refine round_end (k + 1) (by omega) (by omega) ?_
     exact zw (fun k => if k = 3 then 6 else k) (fun _ => false) (fun _ => false) (h := by simp [hG, List.getD_cons_zero, List.getD_cons_succ, -List.getD_eq_getElem?_getD]; exact fun i hi => app_word hi rfl (by simp [cellT]))
   obtain rfl : k = (e.rows.getD s []).length := (by omega)
   refine zx (ztx (zbx (zL (zl 2 ?_))))
   refine awpL_fc cal52 [1, 2] (mem [3]) (line_c true (textA e s) ((e.rows.getD s []).map cellT) (by rw [List.length_map]; omega) (cells_word hv (by omega)) (by omega)) rfl rfl rfl (by simp) (.inr fun x hI => by simp [flat]) ?_ ?_ ?_ fun K hK x hI hno => ?_
   · simp [hG, List.getD_cons_zero, List.getD_cons_succ, -List.getD_eq_getElem?_getD]
   · simp [hG, List.range'_succ, List.range'_zero, List.getD_cons_zero, List.getD_cons_succ, -List.getD_eq_getElem?_getD]; exact fun i hi => (map_cellT hi).symm
   · simp [hG, List.getD_cons_zero, List.getD_cons_succ, -List.getD_eq_getElem?_getD]
   simp [hG, List.getD_cons_zero, List.getD_cons_succ, -List.getD_eq_getElem?_getD]
   refine hK _ ?_
   clear K hK
   refine zN (zn (zbn (zr ?_)))
   refine zn ?_
   refine round_end (s + 1) (by omega) (by omega) ?_
   exact zw (fun k => if k = 2 then 4 else k) (fun _ => false) (fun _ => false) (h := by rw [hE]; simp [hG, List.getD_cons_zero, List.getD_cons_succ, -List.getD_eq_getElem?_getD])
 obtain rfl : s = e.rows.length := (by omega)
 have htl := textA_len hm hv (k := e.rows.length)
 refine zx (ztx (zbx (zs (zs (zL ?_)))))
 refine zf cal56 [1, 2] (lenB_c true (textA e e.rows.length)) (fun x hI hno => ?_)
 refine zl 1 ?_
 refine zN ?_
 refine awpS_cond rfl (fun hb60 => ?_) (fun hb60 => ?_)
 · exact absurd hb60 (by simp; omega)
 try simp [-List.getD_eq_getElem?_getD] at hb60
 refine zk (zs (zL ?_))
 refine zf cal39 [1, 2] (stringB (S := 2) (off := 0) (hin := [(0, .typ 81 (.arr 1 2 (fun _ j => bF (.ptr (0, 0) 0 0) (.sl (1, 0) 0 (textA e e.rows.length).length) j))), (1, .typ 5 (.arr (textA e e.rows.length).length 1 (byF (textA e e.rows.length))))]) (nin := 2) (l := textA e e.rows.length) (id := (1, 0)) rfl (by omega) rfl rfl rfl (Nat.le_refl _) text_ne (fun i hi => rfl) (by omega)) (fun x hI hno => ?_)
 refine zl 2 ?_
 refine zN (zt ?_)
 refine RetOK_of ?_
 simp [hG, List.getD_cons_zero, List.getD_cons_succ, -List.getD_eq_getElem?_getD]
 unfold printX printN; rw [if_neg (fun h => h hv), if_neg (fun h => h hv), textA_all (Nat.le_refl _)]; exact ⟨rfl, rfl⟩
end Go.Proofs.YtchjjiedcpfniaaGreatDoor
