/-
  Walk: the reference's Sort.
-/
import Derived.Test.YtmjkbidnghcfnaaWQ
import Derived.Test.YtmjkbidnghcfnaaWG
import Derived.Test.YtmjkbidnghcfnaaPX
namespace Go.Proofs.Ytmjkbidnghcfnaa
set_option linter.unusedSimpArgs false
set_option linter.unusedVariables false
open Go Go.Lift Go.Proofs
theorem srtR_ok {e : Enc} (h : checkE e = 0) : srtX e = srtE e := by unfold srtX; rw [if_pos h]
theorem srtRN_ok {e : Enc} (h : checkE e = 0) : srtN e = 0 := by unfold srtN; rw [if_pos h]
theorem srtR_no {e : Enc} (h : ¬ checkE e = 0) : srtX e = ⟨0, 0, 0, []⟩ := by unfold srtX; rw [if_neg h]
theorem srtRN_no {e : Enc} (h : ¬ checkE e = 0) : srtN e = 1 := by unfold srtN; rw [if_neg h]

theorem before_eq {x y : Cell} : (Op.bytesLess x.word y.word || decide (x.word = y.word) && decide (x.to < y.to)) = decide (ltC x y) := by
  unfold ltC; rw [Bool.eq_iff_iff]; simp; exact decide_eq_true_iff.symm
theorem app_ins {T : List Cell} {x : Cell} {k i j : Nat} {w : Nat → Nat → AVal} (hk : k ≤ T.length) (hi : i < T.length + 1) (hj : j < 2) (hw : ∀ j, j < 2 → w 0 j = cellF x j) :
    app (fun i j => app (fun i j => vecF cellF dc T i j) k w i j) (k + 1) (fun i => vecF cellF dc T (k + i)) i j = cellF ((T.take k ++ x :: T.drop k).getD i dc) j := by
  unfold app
  simp only [vecF]
  rcases Nat.lt_trichotomy i k with h | h | h
  · rw [if_pos (by omega), if_pos h, getD_app, if_pos (by rw [List.length_take]; omega)]; simp [List.getD_eq_getElem?_getD, List.getElem?_take, h]
  · subst h
    rw [if_pos (by omega), if_neg (by omega), Nat.sub_self, hw j hj, getD_app, if_neg (by rw [List.length_take]; omega), List.length_take, Nat.min_eq_left hk, Nat.sub_self]; rfl
  · rw [if_neg (by omega), getD_app, if_neg (by rw [List.length_take]; omega), List.length_take, Nat.min_eq_left hk]
    obtain ⟨q, rfl⟩ : ∃ q, i = k + 1 + q := ⟨i - (k + 1), by omega⟩
    rw [show k + 1 + q - (k + 1) = q by omega, show k + 1 + q - k = q + 1 by omega, List.getD_cons_succ]
    simp [List.getD_eq_getElem?_getD, List.getElem?_drop]
set_option maxRecDepth 100000 in
theorem beforeR_c (x y : Cell) : PC Try.prog 61 [.agg 2 (cellF x), .agg 2 (cellF y)] (.bool (decide (ltC x y))) := by
  refine PC_introS T_ok Try.func61 rfl (by simp [Try.ntmps61]) fun G hG hR => ?_
  simp only [Try.ntmps61, Try.results61] at hG ⊢
  simp only [argEnv, Nat.zero_add, Nat.reduceAdd]
  refine awpS_seq ?_
  refine awpS_reg T_ok fun K hK => ?_
  simp [hG, List.getD_cons_zero, List.getD_cons_succ, -List.getD_eq_getElem?_getD]
  refine ⟨Cond.mk (by simp [-List.getD_eq_getElem?_getD]), hK _ ?_⟩
  clear K hK
  refine awpS_seq ?_
  refine awpS_reg T_ok fun K hK => ?_
  simp [hG, List.getD_cons_zero, List.getD_cons_succ, -List.getD_eq_getElem?_getD]
  refine ⟨Cond.mk (by simp [-List.getD_eq_getElem?_getD]; repeat (first | intro _ | exact And.intro ‹_› ‹_› | apply And.intro | assumption | omega | exact decide_eq_true (by assumption))), hK _ ?_⟩
  clear K hK
  refine awpS_ret ?_
  refine RetOK_of ?_
  simp [hG, List.getD_cons_zero, List.getD_cons_succ, -List.getD_eq_getElem?_getD]
  exact before_eq

set_option maxRecDepth 100000 in
theorem sortR_c (e : Enc) : PC Try.prog 35 [.agg 4 (encF e)] (.tup 2 (fun j => [.agg 4 (encF (srtX e)), .int .i64 (srtN e)].getD j .any)) := by
  refine PC_introS T_ok Try.func35 rfl (by simp [Try.ntmps35]) fun G hG hR => ?_
  simp only [Try.ntmps35, Try.results35] at hG ⊢
  simp only [argEnv, Nat.zero_add, Nat.reduceAdd]
  refine awpS_seq ?_
  refine awpS_reg T_ok fun K hK => ?_
  simp [hG, List.getD_cons_zero, List.getD_cons_succ, -List.getD_eq_getElem?_getD]
  refine ⟨Cond.mk (by simp [-List.getD_eq_getElem?_getD]), hK _ ?_⟩
  clear K hK
  refine awpS_seq ?_
  refine awpS_seq ?_
  refine awpS_regL ?_
  refine awpL_reg T_ok 1 fun K hK => ?_
  simp [hG, List.getD_cons_zero, List.getD_cons_succ, -List.getD_eq_getElem?_getD]
  refine hK _ ?_
  clear K hK
  refine awpL_call cal41 rfl rfl (fun _ => rfl) (fun hg => checkR_c e) (fun hg => ?_) (fun hg => ?_) fun K hK => ?_
  · simp [hG, List.getD_cons_zero, List.getD_cons_succ, -List.getD_eq_getElem?_getD]
  · simp [hG, List.getD_cons_zero, List.getD_cons_succ, -List.getD_eq_getElem?_getD]
  simp [hG, List.getD_cons_zero, List.getD_cons_succ, -List.getD_eq_getElem?_getD]
  refine hK _ ?_
  clear K hK
  refine awpL_reg T_ok 1 fun K hK => ?_
  simp [hG, List.getD_cons_zero, List.getD_cons_succ, -List.getD_eq_getElem?_getD]
  refine hK _ ?_
  clear K hK
  refine awpL_nil ?_
  refine awpS_cond rfl (fun hb12 => ?_) (fun hb12 => ?_)
  ·
    try simp [-List.getD_eq_getElem?_getD] at hb12
    refine awpS_seq ?_
    refine awpS_reg T_ok fun K hK => ?_
    simp [hG, List.getD_cons_zero, List.getD_cons_succ, -List.getD_eq_getElem?_getD]
    refine ⟨Cond.mk (by simp [-List.getD_eq_getElem?_getD]), hK _ ?_⟩
    clear K hK
    refine awpS_ret ?_
    refine RetOK_of ?_
    simp [hG, List.getD_cons_zero, List.getD_cons_succ, -List.getD_eq_getElem?_getD]
    rw [srtR_no hb12, srtRN_no hb12]; simp
  ·
    try simp [-List.getD_eq_getElem?_getD] at hb12
    have hv : checkE e = 0 := (by simpa using hb12)
    have hl64 := rows_len hv
    have hin := (checkE_valid hv).1.inputs
    refine awpS_skip ?_
    refine awpS_seq ?_
    refine awpS_reg T_ok fun K hK => ?_
    simp [hG, List.getD_cons_zero, List.getD_cons_succ, -List.getD_eq_getElem?_getD]
    refine ⟨Cond.mk (by simp [-List.getD_eq_getElem?_getD]), hK _ ?_⟩
    clear K hK
    refine awpS_seq ?_
    refine awpS_seq ?_
    refine awpS_reg T_ok fun K hK => ?_
    simp [hG, List.getD_cons_zero, List.getD_cons_succ, -List.getD_eq_getElem?_getD]
    refine hK _ ?_
    clear K hK
    refine awpS_block ?_
    refine awpS_loop (α := Nat) (fun s => ⟨[(1, .ptr (0, 0) 0 0), (2, .ptr (1, 0) 0 0), (4, .ptr (2, 0) 0 0), (5, .int .i64 s)], [(0, .one (.arr 1 4 (fun _ => encF e))), (1, .one (.arr 1 4 (fun _ m => [AVal.int IntKind.i64 0, AVal.int IntKind.i64 0, AVal.int IntKind.i64 0, AVal.nils].getD m AVal.any))), (2, .one (.arr 1 4 (fun _ c4 => [AVal.int IntKind.i64 e.letters, AVal.int IntKind.i64 e.block, AVal.int IntKind.i64 e.inputs, .sl (3, 0) 0 s].getD c4 AVal.any))), (3, .one (.arr s 1 (fun q _ => cells (srt (e.rows.getD q [])))))], 4⟩) (fun s => s ≤ e.rows.length) (fun s => e.rows.length - s) (0) (Nat.zero_le _) ?_ ?_
    ·
      refine wk_of (id) (fun _ => false) (fun k => k == 3) ?_ ?_ rfl (Nat.zero_le _) (fun k hk => absurd hk (Nat.not_lt_zero _))
      · simp [hG, List.getD_cons_zero, List.getD_cons_succ, -List.getD_eq_getElem?_getD]
      · simp [hG, List.getD_cons_zero, List.getD_cons_succ, -List.getD_eq_getElem?_getD]
    ·
      rintro s hs
      refine awpS_seq ?_
      refine awpS_seq ?_
      refine awpS_reg T_ok fun K hK => ?_
      simp [hG, List.getD_cons_zero, List.getD_cons_succ, -List.getD_eq_getElem?_getD]
      refine hK _ ?_
      clear K hK
      refine awpS_cond rfl (fun hb25 => ?_) (fun hb25 => ?_)
      ·
        try simp [-List.getD_eq_getElem?_getD] at hb25
        have hsr := row_len hv (k := s) (by omega)
        have hre := row_eq hv (k := s) (by omega)
        refine awpS_skip ?_
        refine awpS_seq ?_
        refine awpS_block ?_
        refine awpS_seq ?_
        refine awpS_reg T_ok fun K hK => ?_
        simp [hG, List.getD_cons_zero, List.getD_cons_succ, -List.getD_eq_getElem?_getD]
        refine hK _ ?_
        clear K hK
        refine awpS_seq ?_
        refine awpS_seq ?_
        refine awpS_reg T_ok fun K hK => ?_
        simp [hG, List.getD_cons_zero, List.getD_cons_succ, -List.getD_eq_getElem?_getD]
        refine hK _ ?_
        clear K hK
        refine awpS_block ?_
        refine awpS_loop (α := Nat) (fun i => ⟨[(1, .ptr (0, 0) 0 0), (2, .ptr (1, 0) 0 0), (4, .ptr (2, 0) 0 0), (5, .int .i64 s), (6, cells (srt ((e.rows.getD s []).take i))), (7, .int .i64 i)], [(0, .one (.arr 1 4 (fun _ => encF e))), (1, .one (.arr 1 4 (fun _ m => [AVal.int IntKind.i64 0, AVal.int IntKind.i64 0, AVal.int IntKind.i64 0, AVal.nils].getD m AVal.any))), (2, .one (.arr 1 4 (fun _ c4 => [AVal.int IntKind.i64 e.letters, AVal.int IntKind.i64 e.block, AVal.int IntKind.i64 e.inputs, .sl (3, 0) 0 s].getD c4 AVal.any))), (3, .one (.arr s 1 (fun q _ => cells (srt (e.rows.getD q [])))))], 4⟩) (fun i => i ≤ e.inputs.toNat) (fun i => e.inputs.toNat - i) (0) (Nat.zero_le _) ?_ ?_
        ·
          refine wk_of (id) (fun k => k == 4) (fun _ => false) ?_ ?_ rfl (Nat.zero_le _) (fun k hk => absurd hk (Nat.not_lt_zero _))
          · simp [hG, List.getD_cons_zero, List.getD_cons_succ, -List.getD_eq_getElem?_getD]
          · simp [hG, List.getD_cons_zero, List.getD_cons_succ, -List.getD_eq_getElem?_getD]
        ·
          rintro i hi
          refine awpS_seq ?_
          refine awpS_seq ?_
          refine awpS_reg T_ok fun K hK => ?_
          simp [hG, List.getD_cons_zero, List.getD_cons_succ, -List.getD_eq_getElem?_getD]
          refine hK _ ?_
          clear K hK
          refine awpS_cond rfl (fun hb32 => ?_) (fun hb32 => ?_)
          ·
            try simp [-List.getD_eq_getElem?_getD] at hb32
            have hil : i < e.inputs.toNat := (by omega)
            have hrt : (srt ((e.rows.getD s []).take i)).length = i := (by rw [srt_len, List.length_take]; omega)
            refine awpS_skip ?_
            refine awpS_seq ?_
            refine awpS_block ?_
            refine awpS_seq ?_
            refine awpS_reg T_ok fun K hK => ?_
            simp [hG, List.getD_cons_zero, List.getD_cons_succ, -List.getD_eq_getElem?_getD]
            refine hK _ ?_
            clear K hK
            refine awpS_seq ?_
            refine awpS_block ?_
            refine awpS_loop (α := Nat) (fun k => ⟨[(1, .ptr (0, 0) 0 0), (2, .ptr (1, 0) 0 0), (4, .ptr (2, 0) 0 0), (5, .int .i64 s), (6, cells (srt ((e.rows.getD s []).take i))), (7, .int .i64 i), (8, .int .i64 k)], [(0, .one (.arr 1 4 (fun _ => encF e))), (1, .one (.arr 1 4 (fun _ m => [AVal.int IntKind.i64 0, AVal.int IntKind.i64 0, AVal.int IntKind.i64 0, AVal.nils].getD m AVal.any))), (2, .one (.arr 1 4 (fun _ c4 => [AVal.int IntKind.i64 e.letters, AVal.int IntKind.i64 e.block, AVal.int IntKind.i64 e.inputs, .sl (3, 0) 0 s].getD c4 AVal.any))), (3, .one (.arr s 1 (fun q _ => cells (srt (e.rows.getD q [])))))], 4⟩) (fun k => k ≤ i ∧ ∀ j, k ≤ j → j < i → ltC ((e.rows.getD s []).getD i dc) ((srt ((e.rows.getD s []).take i)).getD j dc)) (fun k => k) (i) (⟨Nat.le_refl _, fun j h1 h2 => by omega⟩) ?_ ?_
            ·
              refine wk_of (id) (fun _ => false) (fun _ => false) ?_ ?_ rfl (Nat.zero_le _) (fun k hk => absurd hk (Nat.not_lt_zero _))
              · simp [hG, List.getD_cons_zero, List.getD_cons_succ, -List.getD_eq_getElem?_getD]; omega
              · simp [hG, List.getD_cons_zero, List.getD_cons_succ, -List.getD_eq_getElem?_getD]
            ·
              rintro k ⟨hk, hgt⟩
              refine awpS_seq ?_
              refine awpS_seq ?_
              refine awpS_draw hR mixed [] ⟨[], [], []⟩ fun mu0 => ?_
              refine awpA_tk T_ok [0, 1, 2, 3, 4, 5, 6, 7, 8, 9, 10, 11, 12, 13, 14, 15] [] (fuel := 2) [15, 14, 13, 12, 11, 10, 9, 8, 7, 6, 5, 4, 3, 2, 1, 0] (by decide +kernel) (by decide +kernel) rfl rfl fun K hK => ?_
              simp [hG, List.getD_cons_zero, List.getD_cons_succ, -List.getD_eq_getElem?_getD]
              refine ⟨Cond.mk (by simp [-List.getD_eq_getElem?_getD]; omega), hK _ ?_⟩
              clear K hK
              refine awpA_only (fuel := 1) (i := 16) (by decide +kernel) ?_
              refine awpO_call cal61 rfl rfl rfl (fun _ => rfl) (fun hg => beforeR_c ((e.rows.getD s []).getD i dc) ((srt ((e.rows.getD s []).take i)).getD (k - 1) dc)) (fun hg => ?_) (fun hg => ?_) fun K hK => ?_
              · first | (simp [hG, List.getD_cons_zero, List.getD_cons_succ, -List.getD_eq_getElem?_getD]; done) | (simp [-List.getD_eq_getElem?_getD] at hg; done) | (simp [-List.getD_eq_getElem?_getD] at hg; simp [hG, List.getD_cons_zero, List.getD_cons_succ, -List.getD_eq_getElem?_getD]; first | omega | exact hg | (simp_all [-List.getD_eq_getElem?_getD]; done) | (simp_all [-List.getD_eq_getElem?_getD]; first | exact ⟨rfl, rfl⟩ | exact rfl))
              · simp [hG, List.getD_cons_zero, List.getD_cons_succ, -List.getD_eq_getElem?_getD]; exact ⟨⟨rfl, rfl⟩, rfl, rfl⟩
              simp [hG, List.getD_cons_zero, List.getD_cons_succ, -List.getD_eq_getElem?_getD]
              refine hK _ ?_
              clear K hK
              refine awpA_tk T_ok [17] [] (fuel := 0) [17, 16, 15, 14, 13, 12, 11, 10, 9, 8, 7, 6, 5, 4, 3, 2, 1, 0] (by decide +kernel) (by decide +kernel) rfl rfl fun K hK => ?_
              simp [hG, List.getD_cons_zero, List.getD_cons_succ, -List.getD_eq_getElem?_getD]
              refine hK _ ?_
              clear K hK
              refine awpA_done (by decide +kernel) ?_
              refine awpS_cond rfl (fun hb54 => ?_) (fun hb54 => ?_)
              ·
                try simp [-List.getD_eq_getElem?_getD] at hb54
                have hkp : 0 < k := (by omega)
                have hlt := hb54.2
                refine awpS_skip ?_
                refine awpS_block ?_
                refine awpS_reg T_ok fun K hK => ?_
                simp [hG, List.getD_cons_zero, List.getD_cons_succ, -List.getD_eq_getElem?_getD]
                refine ⟨Cond.mk (by omega), hK _ ?_⟩
                clear K hK
                refine awpS_nil ?_
                refine blockQ_norm (thenQ_norm ?_)
                refine awpS_nil ?_
                refine round_end (k - 1) (⟨by omega, fun j h1 h2 => (Nat.lt_or_ge j k).elim (fun h => by rw [show j = k - 1 by omega]; exact hlt) fun h => hgt j h h2⟩) (by omega) ?_
                refine wk_of (id) (fun _ => false) (fun _ => false) ?_ ?_ rfl (Nat.zero_le _) (fun k hk => absurd hk (Nat.not_lt_zero _))
                · simp [hG, List.getD_cons_zero, List.getD_cons_succ, -List.getD_eq_getElem?_getD]; omega
                · simp [hG, List.getD_cons_zero, List.getD_cons_succ, -List.getD_eq_getElem?_getD]
              ·
                try simp [-List.getD_eq_getElem?_getD] at hb54
                have hstop : 0 < k → ¬ ltC ((e.rows.getD s []).getD i dc) ((srt ((e.rows.getD s []).take i)).getD (k - 1) dc) := (fun h hl => by simp_all)
                have hins := srt_insert (l := (e.rows.getD s [])) (i := i) (k := k) (by omega) hk hgt hstop
                refine awpS_exit ?_
                refine thenQ_exit (thenQ_exit ?_)
                refine blockQ_exit (thenQ_norm ?_)
                refine awpS_seq ?_
                refine awpS_reg T_ok fun K hK => ?_
                simp [hG, List.getD_cons_zero, List.getD_cons_succ, -List.getD_eq_getElem?_getD]
                refine ⟨Cond.mk (by simp [-List.getD_eq_getElem?_getD]; omega), hK _ ?_⟩
                clear K hK
                refine awpS_seq ?_
                refine awpS_reg T_ok fun K hK => ?_
                simp [hG, List.getD_cons_zero, List.getD_cons_succ, -List.getD_eq_getElem?_getD]
                refine ⟨Cond.mk (by simp [-List.getD_eq_getElem?_getD]; omega), hK _ ?_⟩
                clear K hK
                refine awpS_reg T_ok fun K hK => ?_
                simp [hG, List.getD_cons_zero, List.getD_cons_succ, -List.getD_eq_getElem?_getD]
                refine ⟨Cond.mk (by simp [-List.getD_eq_getElem?_getD]; omega), hK _ ?_⟩
                clear K hK
                refine awpS_nil ?_
                refine blockQ_norm (thenQ_norm ?_)
                refine awpS_reg T_ok fun K hK => ?_
                simp [hG, List.getD_cons_zero, List.getD_cons_succ, -List.getD_eq_getElem?_getD]
                refine ⟨Cond.mk (by omega), hK _ ?_⟩
                clear K hK
                refine awpS_nil ?_
                refine round_end (i + 1) (by omega) (by omega) ?_
                refine wk_of (id) (fun k => k == 8) (fun _ => false) ?_ ?_ rfl (Nat.zero_le _) (fun k hk => absurd hk (Nat.not_lt_zero _))
                · rw [← hins]; simp [hG, List.getD_cons_zero, List.getD_cons_succ, -List.getD_eq_getElem?_getD]; exact ⟨by omega, by omega, fun q hq => ⟨app_ins (j := 0) (by omega) (by omega) (by decide) (fun j hj => by simp [hj]), app_ins (j := 1) (by omega) (by omega) (by decide) (fun j hj => by simp [hj])⟩⟩
                · simp [hG, List.getD_cons_zero, List.getD_cons_succ, -List.getD_eq_getElem?_getD]
          ·
            try simp [-List.getD_eq_getElem?_getD] at hb32
            obtain rfl : i = e.inputs.toNat := (by omega)
            have htk : (e.rows.getD s []).take e.inputs.toNat = (e.rows.getD s []) := List.take_of_length_le (by omega)
            refine awpS_exit ?_
            refine thenQ_exit (thenQ_exit ?_)
            refine blockQ_exit (thenQ_norm ?_)
            refine awpS_reg T_ok fun K hK => ?_
            simp [hG, List.getD_cons_zero, List.getD_cons_succ, -List.getD_eq_getElem?_getD]
            refine ⟨Cond.mk (by simp [-List.getD_eq_getElem?_getD]; omega), hK _ ?_⟩
            clear K hK
            refine awpS_nil ?_
            refine blockQ_norm (thenQ_norm ?_)
            refine awpS_reg T_ok fun K hK => ?_
            simp [hG, List.getD_cons_zero, List.getD_cons_succ, -List.getD_eq_getElem?_getD]
            refine ⟨Cond.mk (by omega), hK _ ?_⟩
            clear K hK
            refine awpS_nil ?_
            refine round_end (s + 1) (by omega) (by omega) ?_
            refine wk_of (fun k => if k = 3 then 5 else k) (fun _ => false) (fun _ => false) ?_ ?_ rfl (Nat.zero_le _) (fun k hk => absurd hk (Nat.not_lt_zero _))
            · simp [hG, List.getD_cons_zero, List.getD_cons_succ, -List.getD_eq_getElem?_getD]
            · simp [hG, List.getD_cons_zero, List.getD_cons_succ, -List.getD_eq_getElem?_getD]; refine fun j hj => app_rowC (F := fun q => srt (e.rows.getD q [])) hj ?_; rw [htk]; simp [-List.getD_eq_getElem?_getD]
      ·
        try simp [-List.getD_eq_getElem?_getD] at hb25
        obtain rfl : s = e.rows.length := (by omega)
        refine awpS_exit ?_
        refine thenQ_exit (thenQ_exit ?_)
        refine blockQ_exit (thenQ_norm ?_)
        refine awpS_seq ?_
        refine awpS_reg T_ok fun K hK => ?_
        simp [hG, List.getD_cons_zero, List.getD_cons_succ, -List.getD_eq_getElem?_getD]
        refine ⟨Cond.mk (by simp [-List.getD_eq_getElem?_getD]), hK _ ?_⟩
        clear K hK
        refine awpS_ret ?_
        refine RetOK_of ?_
        simp [hG, List.getD_cons_zero, List.getD_cons_succ, -List.getD_eq_getElem?_getD]
        rw [srtR_ok hv, srtRN_ok hv]; simp; exact ⟨rfl, rfl, rfl, fun q hq => by simp [srtE, hq]⟩

end Go.Proofs.Ytmjkbidnghcfnaa
