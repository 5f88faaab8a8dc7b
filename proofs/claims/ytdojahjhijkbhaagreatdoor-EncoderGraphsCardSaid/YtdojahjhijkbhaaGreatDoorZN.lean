/-
 Walks: the law EncoderGraphs.
-/
import Derived.Test.YtdojahjhijkbhaaGreatDoorVN
import Derived.Test.YtdojahjhijkbhaaGreatDoorVF
import Derived.Test.YtdojahjhijkbhaaGreatDoorZI
namespace Go.Proofs.YtdojahjhijkbhaaGreatDoor
set_option linter.unusedSimpArgs false
set_option linter.unusedVariables false
open Go Go.Lift Go.Proofs

theorem enc_fine {e : Enc} (hv : checkE e = 0) {s : Int} (h0 : 0 ≤ s) (h1 : s < (e.rows.length : Int)) {l : List Int} (hg : l.any (badI e) = false) (hl : l.length ≤ 100) : encodeN e s l = 0 := by
 have hb := (checkE_valid hv).1.block
 have hm := mul_bd (a := (l.length : Int)) (b := e.block) (c := 100) (by omega) hb
 unfold encodeN
 rw [if_neg (fun h => h hv), if_neg (by omega), if_neg (by rw [hg]; exact Bool.false_ne_true), if_neg (by omega)]
theorem st_box {b : Int} {n : Nat} (hb : 0 ≤ b) (hn : 0 < n) : 0 ≤ b % n ∧ b % n < (n : Int) := ⟨Int.emod_nonneg _ (by omega), Int.emod_lt_of_pos _ (by omega)⟩
@[simp] theorem strip_encR {e : Enc} {s : Int} {l : List Int} : strip (encodeR e s l) = (encodeR e s l, True) := rfl
theorem sml_cells {e : Enc} (hm : Sml e) (hv : checkE e = 0) : e.rows.length * e.inputs.toNat ≤ 1024 := by
 have h1 := sml_rows hm hv
 have h2 := sml_inputs hm hv
 have h3 : e.rows.length * e.inputs.toNat ≤ 6 * 6 := Nat.mul_le_mul h1 (by omega)
 omega
/-- what Graph answers for a small encoder. -/
theorem gr_small {e : Enc} (hm : Sml e) (hv : checkE e = 0) (h : ¬ encGN e = 0) : encGN e = 4 := by
 refine (gr_over hv (Classical.byContradiction fun k => h ?_)).1
 exact (graph_ok hv (sml_cells hm hv) (by omega)).1
theorem gr_up {e : Enc} (hv : checkE e = 0) (h : encGN e = 0) : upTo e.letters e.block.toNat ≤ 256 := Classical.byContradiction fun k => by
 rw [(gr_over hv (by omega)).1] at h; omega
theorem gr_check {e : Enc} (hv : checkE e = 0) (h : encGN e = 0) : gcheck (encGX e) = 0 := by
 have h1 := gr_fin hv (by have := gr_up hv h; omega)
 have h2 := h
 rw [h1.1] at h2
 rw [h1.2, mk_ok h2]
 exact h2
theorem gr_form {e : Enc} (hm : Sml e) (hv : checkE e = 0) (h : encGN e = 0) : encGX e = ⟨e.letters ^ e.block.toNat, e.rows.length, normE (grE e e.rows.length)⟩ := (graph_ok hv (sml_cells hm hv) (gr_up hv h)).2
theorem gr_edge {e : Enc} (hm : Sml e) (hv : checkE e = 0) (h : encGN e = 0) {q : Nat} (hq : q < (encGX e).edges.length) : ∃ s i, s < e.rows.length ∧ i < (e.rows.getD s []).length ∧ (encGX e).edges.getD q de = cellE e s i := by
 have h1 := getD_mem (d := de) hq
 rw [gr_form hm hv h] at h1
 rw [gr_form hm hv h]
 exact grE_mem.1 (norm_mem.1 h1)
theorem gr_cell {e : Enc} (hm : Sml e) (hv : checkE e = 0) (h : encGN e = 0) {s i : Nat} (hs : s < e.rows.length) (hi : i < (e.rows.getD s []).length) : cellE e s i ∈ (encGX e).edges := by
 rw [gr_form hm hv h]
 exact norm_mem.2 (grE_mem.2 ⟨s, i, hs, hi, rfl⟩)
theorem blk_lt {j n B : Nat} (hB : 1 ≤ B) (h : j * B + B ≤ n * B) : j < n := by
 have : (j + 1) * B ≤ n * B := by rw [Nat.add_mul]; omega
 exact Nat.le_of_mul_le_mul_right this hB
theorem blk_end {j n B : Nat} (h : ¬ j * B + B ≤ n * B) (hj : j ≤ n) : j = n := by
 refine Classical.byContradiction fun hne => h ?_
 have : (j + 1) * B ≤ n * B := Nat.mul_le_mul_right _ (by omega)
 rw [Nat.add_mul] at this
 omega
theorem blk_le {j n B : Nat} (hj : j ≤ n) : j * B ≤ n * B := Nat.mul_le_mul_right _ hj
def blkI (B j : Nat) : Int := ((j * B : Nat) : Int)
theorem blkI_zero (B : Nat) : blkI B 0 = 0 := by simp [blkI]
theorem blkI_succ (B j : Nat) : blkI B (j + 1) = blkI B j + B := by
 unfold blkI
 rw [Nat.add_mul, Nat.one_mul]
 rfl
theorem sj_zero {e : Enc} {g : Gr} {s : Int} {l : List Int} : setJ e g s l 0 = [s] := rfl
theorem cut_eq {w : List UInt8} {i B : Nat} : (w.take (i + B)).drop i = (w.drop i).take B := by
 rw [List.drop_take, Nat.add_sub_cancel_left]
/-- the word of a cell as a block of its number. -/
theorem cell_block {e : Enc} (hv : checkE e = 0) {s i : Nat} (hs : s < e.rows.length) (hi : i < (e.rows.getD s []).length) : blockN e.letters e.block (cellE e s i).lab = 0 ∧ blockX e.letters e.block (cellE e s i).lab = (cellAt e s i).word := by
 have hd := (checkE_valid hv).1
 obtain ⟨h1, h2⟩ := word_dig (cell_word hv hs hi)
 have h4 := cell_wlen hv hs hi
 have hb := hd.block
 have h5 := block_label_ok h1 h2 (by omega)
 rw [h4] at h5
 exact h5
theorem cell_mem {e : Enc} {s i : Nat} (hi : i < (e.rows.getD s []).length) : (⟨(cellE e s i).to, (cellAt e s i).word⟩ : Cell) ∈ e.rows.getD s [] := getD_mem (d := dc) hi
section
variable {e : Enc} (hm : Sml e) (hv : checkE e = 0) (hg : encGN e = 0) {s : Int} {l : List Int} (h0 : 0 ≤ s ∧ s < (e.rows.length : Int)) (hgd : ∀ i ∈ l, badI e i = false)
include hm hv hg h0
theorem sj_ok (j : Nat) : SetOK (encGX e) (setJ e (encGX e) s l j) := setJ_ok (gr_check hv hg) (by rw [gr_form hm hv hg]) h0 j
include hgd
theorem sj_end : (runE e s l).2 ∈ setJ e (encGX e) s l l.length := by
 have := setJ_mem hv (fun s i hs hi => gr_cell hm hv hg hs hi) h0 hgd (Nat.le_refl _)
 rwa [List.take_length] at this
end
set_option maxRecDepth 100000 in
theorem indexI_c (l : List Int) (v : Int) (hl : l.length ≤ 1000000) : PC Tryz.prog 65 [ints l, .int .i64 v] (.int .i64 (placeI l v)) := by
 refine PC_introS T_ok Tryz.func65 rfl (by simp [Tryz.ntmps65]) fun G hG hR => ?_
 simp only [Tryz.ntmps65, Tryz.results65] at hG ⊢
 simp only [argEnv, Nat.zero_add, Nat.reduceAdd]
 refine awpS_seq ?_
 refine awpS_reg T_ok fun K hK => ?_
 simp [hG, List.getD_cons_zero, List.getD_cons_succ, -List.getD_eq_getElem?_getD]
 refine hK _ ?_
 clear K hK
 refine awpS_seq ?_
 refine awpS_seq ?_
 refine awpS_reg T_ok fun K hK => ?_
 simp [hG, List.getD_cons_zero, List.getD_cons_succ, -List.getD_eq_getElem?_getD]
 refine hK _ ?_
 clear K hK
 refine awpS_block ?_
 refine awpS_loop (α := Nat) (fun i => ⟨[(0, ints l), (1, .int .i64 v), (7, .int .i64 l.length), (8, .int .i64 i)], [], 0⟩) (fun i => i ≤ l.length ∧ ∀ j, j < i → l.getD j 0 ≠ v) (fun i => l.length - i) (0) (⟨Nat.zero_le _, fun j hj => absurd hj (Nat.not_lt_zero _)⟩) ?_ ?_
 ·
  refine wk_of (id) (fun _ => false) (fun _ => false) ?_ ?_ rfl (Nat.zero_le _) (fun k hk => absurd hk (Nat.not_lt_zero _))
  · simp [hG, List.getD_cons_zero, List.getD_cons_succ, -List.getD_eq_getElem?_getD]
  · simp [hG, List.getD_cons_zero, List.getD_cons_succ, -List.getD_eq_getElem?_getD]
 ·
  rintro i ⟨hi, hn⟩
  refine awpS_seq ?_
  refine awpS_reg T_ok fun K hK => ?_
  simp [hG, List.getD_cons_zero, List.getD_cons_succ, -List.getD_eq_getElem?_getD]
  refine hK _ ?_
  clear K hK
  refine awpS_seq ?_
  refine awpS_cond rfl (fun hb9 => ?_) (fun hb9 => ?_)
  ·
   try simp [-List.getD_eq_getElem?_getD] at hb9
   refine awpS_skip ?_
   refine awpS_seq ?_
   refine awpS_block ?_
   refine awpS_seq ?_
   refine awpS_reg T_ok fun K hK => ?_
   simp [hG, List.getD_cons_zero, List.getD_cons_succ, -List.getD_eq_getElem?_getD]
   refine hK _ ?_
   clear K hK
   refine awpS_seq ?_
   refine awpS_reg T_ok fun K hK => ?_
   simp [hG, List.getD_cons_zero, List.getD_cons_succ, -List.getD_eq_getElem?_getD]
   refine ⟨Cond.mk (by omega), hK _ ?_⟩
   clear K hK
   refine awpS_cond rfl (fun hb16 => ?_) (fun hb16 => ?_)
   ·
    try simp [-List.getD_eq_getElem?_getD] at hb16
    refine awpS_seq ?_
    refine awpS_reg T_ok fun K hK => ?_
    simp [hG, List.getD_cons_zero, List.getD_cons_succ, -List.getD_eq_getElem?_getD]
    refine hK _ ?_
    clear K hK
    refine awpS_ret ?_
    refine blockQ_ret (thenQ_ret ?_)
    refine thenQ_ret (thenQ_ret ?_)
    refine blockQ_ret (thenQ_ret ?_)
    refine RetOK_of ?_
    simp [hG, List.getD_cons_zero, List.getD_cons_succ, -List.getD_eq_getElem?_getD]
    exact (placeI_some l v i (by omega) hn hb16.symm).symm
   ·
    try simp [-List.getD_eq_getElem?_getD] at hb16
    refine awpS_skip ?_
    refine awpS_nil ?_
    refine blockQ_norm (thenQ_norm ?_)
    refine awpS_reg T_ok fun K hK => ?_
    simp [hG, List.getD_cons_zero, List.getD_cons_succ, -List.getD_eq_getElem?_getD]
    refine ⟨Cond.mk (by omega), hK _ ?_⟩
    clear K hK
    refine awpS_nil ?_
    refine round_end (i + 1) (⟨by omega, step_all hn (fun h => hb16 h.symm)⟩) (by omega) ?_
    refine wk_of (id) (fun _ => false) (fun _ => false) ?_ ?_ rfl (Nat.zero_le _) (fun k hk => absurd hk (Nat.not_lt_zero _))
    · simp [hG, List.getD_cons_zero, List.getD_cons_succ, -List.getD_eq_getElem?_getD]
    · simp [hG, List.getD_cons_zero, List.getD_cons_succ, -List.getD_eq_getElem?_getD]
  ·
   try simp [-List.getD_eq_getElem?_getD] at hb9
   refine awpS_exit ?_
   refine thenQ_exit (thenQ_exit ?_)
   refine blockQ_exit (thenQ_norm ?_)
   refine awpS_seq ?_
   refine awpS_reg T_ok fun K hK => ?_
   simp [hG, List.getD_cons_zero, List.getD_cons_succ, -List.getD_eq_getElem?_getD]
   refine hK _ ?_
   clear K hK
   refine awpS_ret ?_
   refine RetOK_of ?_
   simp [hG, List.getD_cons_zero, List.getD_cons_succ, -List.getD_eq_getElem?_getD]
   exact (placeI_none l v fun j hj => hn j (by omega)).symm

set_option maxRecDepth 100000 in
theorem containsI_c (l : List Int) (v : Int) (hl : l.length ≤ 1000000) : PC Tryz.prog 29 [ints l, .int .i64 v] (.bool (hasI l v)) := by
 refine PC_introS T_ok Tryz.func29 rfl (by simp [Tryz.ntmps29]) fun G hG hR => ?_
 simp only [Tryz.ntmps29, Tryz.results29] at hG ⊢
 simp only [argEnv, Nat.zero_add, Nat.reduceAdd]
 refine awpS_seq ?_
 refine awpS_reg T_ok fun K hK => ?_
 simp [hG, List.getD_cons_zero, List.getD_cons_succ, -List.getD_eq_getElem?_getD]
 refine hK _ ?_
 clear K hK
 refine awpS_seq ?_
 refine awpS_regL ?_
 refine awpL_reg T_ok 2 fun K hK => ?_
 simp [hG, List.getD_cons_zero, List.getD_cons_succ, -List.getD_eq_getElem?_getD]
 refine hK _ ?_
 clear K hK
 refine awpL_call cal65 rfl rfl (fun _ => rfl) (fun hg => indexI_c l v hl) (fun hg => ?_) (fun hg => ?_) fun K hK => ?_
 · simp [hG, List.getD_cons_zero, List.getD_cons_succ, -List.getD_eq_getElem?_getD]
 · simp [hG, List.getD_cons_zero, List.getD_cons_succ, -List.getD_eq_getElem?_getD]
 simp [hG, List.getD_cons_zero, List.getD_cons_succ, -List.getD_eq_getElem?_getD]
 refine hK _ ?_
 clear K hK
 refine awpL_reg T_ok 2 fun K hK => ?_
 simp [hG, List.getD_cons_zero, List.getD_cons_succ, -List.getD_eq_getElem?_getD]
 refine hK _ ?_
 clear K hK
 refine awpL_nil ?_
 refine awpS_ret ?_
 refine RetOK_of ?_
 simp [hG, List.getD_cons_zero, List.getD_cons_succ, -List.getD_eq_getElem?_getD]
 rw [← hasI_place]

set_option maxRecDepth 100000 in
set_option maxHeartbeats 1000000 in
theorem graphsLaw_c (e : Enc) (b : Int) (hb : 0 ≤ b ∧ b < 256) (l : List UInt8) : PC Tryz.prog 5 [.agg 4 (encF e), .int .u8 b, Lift.bytes l] (.bool true) := by
 refine PC_introS T_ok Tryz.func5 rfl (by simp [Tryz.ntmps5]) fun G hG hR => ?_
 simp only [Tryz.ntmps5, Tryz.results5] at hG ⊢
 simp only [argEnv, Nat.zero_add, Nat.reduceAdd]
 refine awpS_seq ?_
 refine awpS_reg T_ok fun K hK => ?_
 simp [hG, List.getD_cons_zero, List.getD_cons_succ, -List.getD_eq_getElem?_getD, pureOp]
 refine ⟨Cond.mk (by exact trivial), hK _ ?_⟩
 clear K hK
 refine awpS_seq ?_
 refine awpS_seq ?_
 refine awpS_regL ?_
 refine awpL_reg T_ok 1 fun K hK => ?_
 simp [hG, List.getD_cons_zero, List.getD_cons_succ, -List.getD_eq_getElem?_getD, pureOp]
 refine hK _ ?_
 clear K hK
 refine awpL_call cal22 rfl rfl (fun _ => rfl) (fun hg => fine_c e) (fun hg => ?_) (fun hg => ?_) fun K hK => ?_
 · simp [hG, List.getD_cons_zero, List.getD_cons_succ, -List.getD_eq_getElem?_getD, pureOp]
 · simp [hG, List.getD_cons_zero, List.getD_cons_succ, -List.getD_eq_getElem?_getD, pureOp]
 simp [hG, List.getD_cons_zero, List.getD_cons_succ, -List.getD_eq_getElem?_getD, pureOp]
 refine hK _ ?_
 clear K hK
 refine awpL_reg T_ok 6 fun K hK => ?_
 simp [hG, List.getD_cons_zero, List.getD_cons_succ, -List.getD_eq_getElem?_getD, pureOp]
 refine hK _ ?_
 clear K hK
 refine awpL_nil ?_
 refine awpS_cond rfl (fun hb30 => ?_) (fun hb30 => ?_)
 ·
  try simp [-List.getD_eq_getElem?_getD] at hb30
  refine awpS_seq ?_
  refine awpS_regL ?_
  refine awpL_call cal8 rfl rfl (fun _ => rfl) (fun hg => awake_c) (fun hg => ?_) (fun hg => ?_) fun K hK => ?_
  · simp [hG, List.getD_cons_zero, List.getD_cons_succ, -List.getD_eq_getElem?_getD, pureOp]
  · simp [hG, List.getD_cons_zero, List.getD_cons_succ, -List.getD_eq_getElem?_getD, pureOp]
  simp [hG, List.getD_cons_zero, List.getD_cons_succ, -List.getD_eq_getElem?_getD, pureOp]
  refine hK _ ?_
  clear K hK
  refine awpL_reg T_ok 1 fun K hK => ?_
  simp [hG, List.getD_cons_zero, List.getD_cons_succ, -List.getD_eq_getElem?_getD, pureOp]
  refine hK _ ?_
  clear K hK
  refine awpL_nil ?_
  refine awpS_ret ?_
  refine RetOK_of ?_
  simp [hG, List.getD_cons_zero, List.getD_cons_succ, -List.getD_eq_getElem?_getD, pureOp]
 ·
  try simp [-List.getD_eq_getElem?_getD] at hb30
  obtain ⟨hv, hm⟩ := fine_ok hb30.1
  have h0 := (checkE_valid hv).2.1
  have hd := (checkE_valid hv).1
  have h6 := sml_rows hm hv
  have hin := sml_inputs hm hv
  have hbk := hd.block
  have hlt := hd.letters
  have hsb := st_box hb.1 h0
  have n1 := enc_fine hv hsb.1 hsb.2 (inpL_any hv (l := l)) (by rw [inpL_len]; omega)
  refine awpS_skip ?_
  refine awpS_seq ?_
  refine awpS_regL ?_
  refine awpL_reg T_ok 1 fun K hK => ?_
  simp [hG, List.getD_cons_zero, List.getD_cons_succ, -List.getD_eq_getElem?_getD, pureOp]
  refine hK _ ?_
  clear K hK
  refine awpL_call cal13 rfl rfl (fun _ => rfl) (fun hg => graphE_c e) (fun hg => ?_) (fun hg => ?_) fun K hK => ?_
  · simp [hG, List.getD_cons_zero, List.getD_cons_succ, -List.getD_eq_getElem?_getD, pureOp]
  · simp [hG, List.getD_cons_zero, List.getD_cons_succ, -List.getD_eq_getElem?_getD, pureOp]
  simp [hG, List.getD_cons_zero, List.getD_cons_succ, -List.getD_eq_getElem?_getD, pureOp]
  refine hK _ ?_
  clear K hK
  refine awpL_reg T_ok 6 fun K hK => ?_
  simp [hG, List.getD_cons_zero, List.getD_cons_succ, -List.getD_eq_getElem?_getD, pureOp]
  refine ⟨Cond.mk (by exact trivial), hK _ ?_⟩
  clear K hK
  refine awpL_nil ?_
  refine awpS_seq ?_
  refine awpS_seq ?_
  refine awpS_reg T_ok fun K hK => ?_
  simp [hG, List.getD_cons_zero, List.getD_cons_succ, -List.getD_eq_getElem?_getD, pureOp]
  refine hK _ ?_
  clear K hK
  refine awpS_cond rfl (fun hb38 => ?_) (fun hb38 => ?_)
  ·
   try simp [-List.getD_eq_getElem?_getD] at hb38
   have hg4 := gr_small hm hv (by simpa using hb38)
   refine awpS_seq ?_
   refine awpS_regL ?_
   refine awpL_reg T_ok 3 fun K hK => ?_
   simp [hG, List.getD_cons_zero, List.getD_cons_succ, -List.getD_eq_getElem?_getD, pureOp]
   refine hK _ ?_
   clear K hK
   refine awpL_call cal8 rfl rfl (fun _ => rfl) (fun hg => awake_c) (fun hg => ?_) (fun hg => ?_) fun K hK => ?_
   · first | (simp [hG, List.getD_cons_zero, List.getD_cons_succ, -List.getD_eq_getElem?_getD, pureOp]; done) | (simp [-List.getD_eq_getElem?_getD] at hg; done) | (simp [-List.getD_eq_getElem?_getD] at hg; simp [hG, List.getD_cons_zero, List.getD_cons_succ, -List.getD_eq_getElem?_getD, pureOp]; first | omega | exact hg | (simp_all [-List.getD_eq_getElem?_getD]; done) | (simp_all [-List.getD_eq_getElem?_getD]; first | exact ⟨rfl, rfl⟩ | exact rfl))
   · first | (simp [hG, List.getD_cons_zero, List.getD_cons_succ, -List.getD_eq_getElem?_getD, pureOp]; done) | (simp [-List.getD_eq_getElem?_getD] at hg; done) | (simp [-List.getD_eq_getElem?_getD] at hg; simp [hG, List.getD_cons_zero, List.getD_cons_succ, -List.getD_eq_getElem?_getD, pureOp]; first | omega | exact hg | (simp_all [-List.getD_eq_getElem?_getD]; done) | (simp_all [-List.getD_eq_getElem?_getD]; first | exact ⟨rfl, rfl⟩ | exact rfl))
   simp [hG, List.getD_cons_zero, List.getD_cons_succ, -List.getD_eq_getElem?_getD, pureOp]
   refine hK _ ?_
   clear K hK
   refine awpL_reg T_ok 2 fun K hK => ?_
   simp [hG, List.getD_cons_zero, List.getD_cons_succ, -List.getD_eq_getElem?_getD, pureOp]
   refine hK _ ?_
   clear K hK
   refine awpL_nil ?_
   refine awpS_ret ?_
   refine RetOK_of ?_
   simp [hG, List.getD_cons_zero, List.getD_cons_succ, -List.getD_eq_getElem?_getD, pureOp]
   exact hg4
  ·
   try simp [-List.getD_eq_getElem?_getD] at hb38
   have hg0 : encGN e = 0 := (by simpa using hb38)
   have hgc := gr_check hv hg0
   have hgs : (encGX e).states = e.rows.length := (by rw [gr_form hm hv hg0])
   have hgl : (encGX e).labels = e.letters ^ e.block.toNat := (by rw [gr_form hm hv hg0])
   have hu := gr_up hv hg0
   have hge := (gcheck_valid hgc).1.ed
   have hgood := inpL_good hv (l := l)
   obtain ⟨k1, k2, k3⟩ := runE_ok hv hsb.1 hsb.2 hgood
   have hWe : (encodeW e (b % e.rows.length) (inpL e l)) = (runE e (b % e.rows.length) (inpL e l)).1 := (by unfold encodeW; rw [if_pos n1])
   have hTe : encodeT e (b % e.rows.length) (inpL e l) = (runE e (b % e.rows.length) (inpL e l)).2 := (by unfold encodeT; rw [if_pos n1])
   obtain ⟨B, hbB⟩ : ∃ B : Nat, e.block = B := ⟨e.block.toNat, by omega⟩
   have hbT : e.block.toNat = B := (by omega)
   have hWl : (encodeW e (b % e.rows.length) (inpL e l)).length = l.length * B := (by rw [hWe]; rw [inpL_len, hbB] at k3; exact_mod_cast k3)
   have hmx : l.length * B ≤ 10 * 16 := Nat.mul_le_mul (by omega) (by omega)
   refine awpS_skip ?_
   refine awpS_seq ?_
   refine awpS_reg T_ok fun K hK => ?_
   simp [hG, List.getD_cons_zero, List.getD_cons_succ, -List.getD_eq_getElem?_getD, pureOp]
   refine ⟨Cond.mk (by omega), hK _ ?_⟩
   clear K hK
   refine awpS_seq ?_
   refine awpS_draw hR mixed [] ⟨[], [], []⟩ fun mu0 => ?_
   refine awpA_tk T_ok [0, 1, 2, 3] [] (fuel := 9) [3, 2, 1, 0] (by decide +kernel) (by decide +kernel) rfl rfl fun K hK => ?_
   simp [hG, List.getD_cons_zero, List.getD_cons_succ, -List.getD_eq_getElem?_getD, pureOp]
   refine hK _ ?_
   clear K hK
   refine awpA_only (fuel := 8) (i := 4) (by decide +kernel) ?_
   refine awpO_call cal23 rfl rfl rfl (fun _ => rfl) (fun hg => inputs_c e l hv (by omega)) (fun hg => ?_) (fun hg => ?_) fun K hK => ?_
   · simp [hG, List.getD_cons_zero, List.getD_cons_succ, -List.getD_eq_getElem?_getD, pureOp]
   · simp [hG, List.getD_cons_zero, List.getD_cons_succ, -List.getD_eq_getElem?_getD, pureOp]
   simp [hG, List.getD_cons_zero, List.getD_cons_succ, -List.getD_eq_getElem?_getD, pureOp]
   refine hK _ ?_
   clear K hK
   refine awpA_only (fuel := 7) (i := 5) (by decide +kernel) ?_
   refine awpO_call cal9 rfl rfl rfl (fun _ => rfl) (fun hg => encode_c e (b % e.rows.length) (inpL e l) (by rw [inpL_len]; omega)) (fun hg => ?_) (fun hg => ?_) fun K hK => ?_
   · simp [hG, List.getD_cons_zero, List.getD_cons_succ, -List.getD_eq_getElem?_getD, pureOp]
   · simp [hG, List.getD_cons_zero, List.getD_cons_succ, -List.getD_eq_getElem?_getD, pureOp]
   simp [hG, List.getD_cons_zero, List.getD_cons_succ, -List.getD_eq_getElem?_getD, pureOp]
   refine hK _ ?_
   clear K hK
   refine awpA_tk T_ok [6, 7, 8, 9, 10, 11, 12] [] (fuel := 0) [12, 11, 10, 9, 8, 7, 6, 5, 4, 3, 2, 1, 0] (by decide +kernel) (by decide +kernel) rfl rfl fun K hK => ?_
   simp [hG, List.getD_cons_zero, List.getD_cons_succ, -List.getD_eq_getElem?_getD, pureOp]
   refine ⟨Cond.mk (by simp [-List.getD_eq_getElem?_getD]), hK _ ?_⟩
   clear K hK
   refine awpA_done (by decide +kernel) ?_
   refine awpS_seq ?_
   refine awpS_seq ?_
   refine awpS_regL ?_
   refine awpL_reg T_ok 4 fun K hK => ?_
   simp [hG, List.getD_cons_zero, List.getD_cons_succ, -List.getD_eq_getElem?_getD, pureOp]
   refine hK _ ?_
   clear K hK
   refine awpL_call cal24 rfl rfl (fun _ => rfl) (fun hg => checkC_c (encGX e)) (fun hg => ?_) (fun hg => ?_) fun K hK => ?_
   · first | (simp [hG, List.getD_cons_zero, List.getD_cons_succ, -List.getD_eq_getElem?_getD, pureOp]; done) | (simp [-List.getD_eq_getElem?_getD] at hg; done) | (simp [-List.getD_eq_getElem?_getD] at hg; simp [hG, List.getD_cons_zero, List.getD_cons_succ, -List.getD_eq_getElem?_getD, pureOp]; first | omega | exact hg | (simp_all [-List.getD_eq_getElem?_getD]; done) | (simp_all [-List.getD_eq_getElem?_getD]; first | exact ⟨rfl, rfl⟩ | exact rfl))
   · first | (simp [hG, List.getD_cons_zero, List.getD_cons_succ, -List.getD_eq_getElem?_getD, pureOp]; done) | (simp [-List.getD_eq_getElem?_getD] at hg; done) | (simp [-List.getD_eq_getElem?_getD] at hg; simp [hG, List.getD_cons_zero, List.getD_cons_succ, -List.getD_eq_getElem?_getD, pureOp]; first | omega | exact hg | (simp_all [-List.getD_eq_getElem?_getD]; done) | (simp_all [-List.getD_eq_getElem?_getD]; first | exact ⟨rfl, rfl⟩ | exact rfl))
   simp [hG, List.getD_cons_zero, List.getD_cons_succ, -List.getD_eq_getElem?_getD, pureOp]
   refine hK _ ?_
   clear K hK
   refine awpL_reg T_ok 10 fun K hK => ?_
   simp [hG, List.getD_cons_zero, List.getD_cons_succ, -List.getD_eq_getElem?_getD, pureOp]
   refine hK _ ?_
   clear K hK
   refine awpL_nil ?_
   refine awpS_cond rfl (fun hb74 => ?_) (fun hb74 => ?_)
   ·
    rw [n1, hgc, hgs] at hb74; simp at hb74
   ·
    try simp [-List.getD_eq_getElem?_getD] at hb74
    refine awpS_skip ?_
    refine awpS_seq ?_
    refine awpS_reg T_ok fun K hK => ?_
    simp [hG, List.getD_cons_zero, List.getD_cons_succ, -List.getD_eq_getElem?_getD, pureOp]
    refine hK _ ?_
    clear K hK
    refine awpS_seq ?_
    refine awpS_seq ?_
    refine awpS_reg T_ok fun K hK => ?_
    simp [hG, List.getD_cons_zero, List.getD_cons_succ, -List.getD_eq_getElem?_getD, pureOp]
    refine hK _ ?_
    clear K hK
    refine awpS_block ?_
    refine awpS_loop (α := Nat) (fun j => ⟨[(3, .ptr (0, 0) 0 0), (7, .ptr (1, 0) 0 0), (10, .str (encodeW e (b % e.rows.length) (inpL e l))), (11, .int .i64 (encodeT e (b % e.rows.length) (inpL e l))), (13, ints (setJ e (encGX e) (b % e.rows.length) (inpL e l) j)), (14, .int .i64 (blkI B j))], [(0, .one (.arr 1 4 (fun _ => encF e))), (1, .one (.arr 1 3 (fun _ => grF (encGX e))))], 2⟩) (fun j => j ≤ l.length) (fun j => l.length - j) (0) (Nat.zero_le _) ?_ ?_
    ·
     refine wk_of (id) (fun k => k == 2) (fun _ => false) ?_ ?_ rfl (Nat.zero_le _) (fun k hk => absurd hk (Nat.not_lt_zero _))
     · rw [sj_zero, blkI_zero]; simp [hG, List.getD_cons_zero, List.getD_cons_succ, -List.getD_eq_getElem?_getD]
     · simp [hG, List.getD_cons_zero, List.getD_cons_succ, -List.getD_eq_getElem?_getD, pureOp]
    ·
     rintro j hj
     have hbl := blk_le (B := B) hj
     have hbi : blkI B j = ((j * B : Nat) : Int) := rfl
     refine awpS_seq ?_
     refine awpS_seq ?_
     refine awpS_reg T_ok fun K hK => ?_
     simp [hG, List.getD_cons_zero, List.getD_cons_succ, -List.getD_eq_getElem?_getD, pureOp]
     refine ⟨Cond.mk (by omega), hK _ ?_⟩
     clear K hK
     refine awpS_cond rfl (fun hb83 => ?_) (fun hb83 => ?_)
     ·
      try simp [-List.getD_eq_getElem?_getD] at hb83
      have hjl : j < l.length := blk_lt (B := B) (by omega) (by omega)
      have hjI : j < (inpL e l).length := (by rw [inpL_len]; exact hjl)
      have hgt : ∀ i ∈ (inpL e l).take j, badI e i = false := (fun i hi => hgood i (List.mem_of_mem_take hi))
      obtain ⟨r1, r2, r3⟩ := runE_ok hv hsb.1 hsb.2 hgt
      have hgi := bad_no.1 (hgood _ (getD_mem (d := 0) hjI))
      have hre := row_eq hv (k := (runE e (b % e.rows.length) ((inpL e l).take j)).2.toNat) (by omega)
      have hlab := cell_label hv (s := (runE e (b % e.rows.length) ((inpL e l).take j)).2.toNat) (i := ((inpL e l).getD j 0).toNat) (by omega) (by omega) hu
      have hval := cell_val hv (s := (runE e (b % e.rows.length) ((inpL e l).take j)).2.toNat) (i := ((inpL e l).getD j 0).toNat) (by omega) (by omega)
      have hlb : 0 ≤ labelX e.letters (cellAt e (runE e (b % e.rows.length) ((inpL e l).take j)).2.toNat ((inpL e l).getD j 0).toNat).word ∧ labelX e.letters (cellAt e (runE e (b % e.rows.length) ((inpL e l).take j)).2.toNat ((inpL e l).getD j 0).toNat).word < (encGX e).labels := (by rw [hlab.2, hgl]; exact hval)
      have hsj := sj_ok hm hv hg0 hsb (l := (inpL e l)) j
      have hrb := run_block hv hsb.1 hsb.2 hgood hjI
      rw [hbT] at hrb
      have hcut : ((encodeW e (b % e.rows.length) (inpL e l)).take (blkI B j + e.block).toNat).drop (blkI B j).toNat = (cellAt e (runE e (b % e.rows.length) ((inpL e l).take j)).2.toNat ((inpL e l).getD j 0).toNat).word := (by rw [hWe, show (blkI B j + e.block).toNat = j * B + B by omega, show (blkI B j).toNat = j * B by omega, cut_eq]; exact hrb)
      have hS : (setJ e (encGX e) (b % e.rows.length) (inpL e l) (j + 1)) = stepL (encGX e) (labelX e.letters (cellAt e (runE e (b % e.rows.length) ((inpL e l).take j)).2.toNat ((inpL e l).getD j 0).toNat).word) (setJ e (encGX e) (b % e.rows.length) (inpL e l) j) := (by rw [hlab.2]; rfl)
      have hj1 := blkI_succ B j
      refine awpS_skip ?_
      refine awpS_seq ?_
      refine awpS_block ?_
      refine awpS_seq ?_
      refine awpS_draw hR mixed [] ⟨[], [], []⟩ fun mu0 => ?_
      refine awpA_tk T_ok [0, 1, 2, 3, 4, 5, 6, 7, 8] [] (fuel := 6) [8, 7, 6, 5, 4, 3, 2, 1, 0] (by decide +kernel) (by decide +kernel) rfl rfl fun K hK => ?_
      simp [hG, List.getD_cons_zero, List.getD_cons_succ, -List.getD_eq_getElem?_getD, pureOp]
      refine ⟨Cond.mk (by omega), hK _ ?_⟩
      clear K hK
      refine awpA_only (fuel := 5) (i := 9) (by decide +kernel) ?_
      refine awpO_call cal25 rfl rfl rfl (fun _ => rfl) (fun hg => label_c e.letters (cellAt e (runE e (b % e.rows.length) ((inpL e l).take j)).2.toNat ((inpL e l).getD j 0).toNat).word) (fun hg => ?_) (fun hg => ?_) fun K hK => ?_
      · simp [hG, List.getD_cons_zero, List.getD_cons_succ, -List.getD_eq_getElem?_getD, pureOp]
      · simp [hG, List.getD_cons_zero, List.getD_cons_succ, -List.getD_eq_getElem?_getD]; exact hcut
      simp [hG, List.getD_cons_zero, List.getD_cons_succ, -List.getD_eq_getElem?_getD, pureOp]
      refine hK _ ?_
      clear K hK
      refine awpA_tk T_ok [10, 11, 12, 13, 14] [] (fuel := 0) [14, 13, 12, 11, 10, 9, 8, 7, 6, 5, 4, 3, 2, 1, 0] (by decide +kernel) (by decide +kernel) rfl rfl fun K hK => ?_
      simp [hG, List.getD_cons_zero, List.getD_cons_succ, -List.getD_eq_getElem?_getD, pureOp]
      refine hK _ ?_
      clear K hK
      refine awpA_done (by decide +kernel) ?_
      refine awpS_seq ?_
      refine awpS_regL ?_
      refine awpL_reg T_ok 3 fun K hK => ?_
      simp [hG, List.getD_cons_zero, List.getD_cons_succ, -List.getD_eq_getElem?_getD, pureOp]
      refine hK _ ?_
      clear K hK
      refine awpL_call cal26 rfl rfl (fun _ => rfl) (fun hg => step_c (encGX e) (setJ e (encGX e) (b % e.rows.length) (inpL e l) j) (labelX e.letters (cellAt e (runE e (b % e.rows.length) ((inpL e l).take j)).2.toNat ((inpL e l).getD j 0).toNat).word) hgc hsj.1 hsj.2 hlb (hsj.len hgc)) (fun hg => ?_) (fun hg => ?_) fun K hK => ?_
      · simp [hG, List.getD_cons_zero, List.getD_cons_succ, -List.getD_eq_getElem?_getD, pureOp]
      · simp [hG, List.getD_cons_zero, List.getD_cons_succ, -List.getD_eq_getElem?_getD, pureOp]
      simp [hG, List.getD_cons_zero, List.getD_cons_succ, -List.getD_eq_getElem?_getD, pureOp]
      refine hK _ ?_
      clear K hK
      refine awpL_reg T_ok 5 fun K hK => ?_
      simp [hG, List.getD_cons_zero, List.getD_cons_succ, -List.getD_eq_getElem?_getD, pureOp]
      refine hK _ ?_
      clear K hK
      refine awpL_nil ?_
      refine awpS_seq ?_
      refine awpS_seq ?_
      refine awpS_reg T_ok fun K hK => ?_
      simp [hG, List.getD_cons_zero, List.getD_cons_succ, -List.getD_eq_getElem?_getD, pureOp]
      refine hK _ ?_
      clear K hK
      refine awpS_cond rfl (fun hb113 => ?_) (fun hb113 => ?_)
      ·
       rw [hlab.1] at hb113; simp at hb113
      ·
       try simp [-List.getD_eq_getElem?_getD] at hb113
       refine awpS_skip ?_
       refine awpS_reg T_ok fun K hK => ?_
       simp [hG, List.getD_cons_zero, List.getD_cons_succ, -List.getD_eq_getElem?_getD, pureOp]
       refine hK _ ?_
       clear K hK
       refine awpS_nil ?_
       refine blockQ_norm (thenQ_norm ?_)
       refine awpS_reg T_ok fun K hK => ?_
       simp [hG, List.getD_cons_zero, List.getD_cons_succ, -List.getD_eq_getElem?_getD, pureOp]
       refine ⟨Cond.mk (by omega), hK _ ?_⟩
       clear K hK
       refine awpS_nil ?_
       refine round_end (j + 1) (by omega) (by omega) ?_
       refine wk_of (id) (fun _ => false) (fun _ => false) ?_ ?_ rfl (Nat.zero_le _) (fun k hk => absurd hk (Nat.not_lt_zero _))
       · rw [hS]; simp [hG, List.getD_cons_zero, List.getD_cons_succ, -List.getD_eq_getElem?_getD]; rw [hj1]; omega
       · simp [hG, List.getD_cons_zero, List.getD_cons_succ, -List.getD_eq_getElem?_getD, pureOp]
     ·
      try simp [-List.getD_eq_getElem?_getD] at hb83
      obtain rfl : j = l.length := blk_end (B := B) (by omega) hj
      refine awpS_exit ?_
      refine thenQ_exit (thenQ_exit ?_)
      refine blockQ_exit (thenQ_norm ?_)
      refine awpS_seq ?_
      refine awpS_seq ?_
      refine awpS_reg T_ok fun K hK => ?_
      simp [hG, List.getD_cons_zero, List.getD_cons_succ, -List.getD_eq_getElem?_getD, pureOp]
      refine hK _ ?_
      clear K hK
      refine awpS_block ?_
      refine awpS_loop (α := Nat) (fun q => ⟨[(3, .ptr (0, 0) 0 0), (11, .int .i64 (encodeT e (b % e.rows.length) (inpL e l))), (13, ints (setJ e (encGX e) (b % e.rows.length) (inpL e l) l.length)), (116, edgesC (encGX e).edges), (117, .int .i64 (encGX e).edges.length), (118, .int .i64 q)], [(0, .one (.arr 1 4 (fun _ => encF e)))], 2⟩) (fun q => q ≤ (encGX e).edges.length) (fun q => (encGX e).edges.length - q) (0) (Nat.zero_le _) ?_ ?_
      ·
       refine wk_of (id) (fun _ => false) (fun _ => false) ?_ ?_ rfl (Nat.zero_le _) (fun k hk => absurd hk (Nat.not_lt_zero _))
       · simp [hG, List.getD_cons_zero, List.getD_cons_succ, -List.getD_eq_getElem?_getD, pureOp]
       · simp [hG, List.getD_cons_zero, List.getD_cons_succ, -List.getD_eq_getElem?_getD, pureOp]
      ·
       rintro q hq
       refine awpS_seq ?_
       refine awpS_reg T_ok fun K hK => ?_
       simp [hG, List.getD_cons_zero, List.getD_cons_succ, -List.getD_eq_getElem?_getD, pureOp]
       refine hK _ ?_
       clear K hK
       refine awpS_seq ?_
       refine awpS_cond rfl (fun hb119 => ?_) (fun hb119 => ?_)
       ·
        try simp [-List.getD_eq_getElem?_getD] at hb119
        obtain ⟨s, i, hs1, hi1, hx⟩ := gr_edge hm hv hg0 (q := q) (by omega)
        have hcb := cell_block hv hs1 hi1
        have hcv := cell_val hv hs1 hi1
        have hcm := cell_mem (e := e) hi1
        have hrl := row_len hv hs1
        rw [← hx] at hcb hcm
        have hcm2 := hcm
        have hfr : ((encGX e).edges.getD q de).frm = (s : Int) := (by rw [hx]; rfl)
        have hla : ((encGX e).edges.getD q de).lab = valW e.letters (cellAt e s i).word := (by rw [hx]; rfl)
        have hft : ((encGX e).edges.getD q de).frm.toNat = s := (by omega)
        have hpw : e.letters ^ e.block.toNat ≤ 256 := (upTo_iff (by omega)).1 hu
        have hrl2 : (e.rows.getD ((encGX e).edges.getD q de).frm.toNat []).length ≤ 256 := (by rw [hft]; exact hrl)
        refine awpS_skip ?_
        refine awpS_seq ?_
        refine awpS_block ?_
        refine awpS_seq ?_
        refine awpS_reg T_ok fun K hK => ?_
        simp [hG, List.getD_cons_zero, List.getD_cons_succ, -List.getD_eq_getElem?_getD, pureOp]
        refine ⟨Cond.mk (by simp [-List.getD_eq_getElem?_getD]; omega), hK _ ?_⟩
        clear K hK
        refine awpS_seq ?_
        refine awpS_regL ?_
        refine awpL_reg T_ok 6 fun K hK => ?_
        simp [hG, List.getD_cons_zero, List.getD_cons_succ, -List.getD_eq_getElem?_getD, pureOp]
        refine hK _ ?_
        clear K hK
        refine awpL_call cal27 rfl rfl (fun _ => rfl) (fun hg => block_c e.letters e.block ((encGX e).edges.getD q de).lab (by omega)) (fun hg => ?_) (fun hg => ?_) fun K hK => ?_
        · simp [hG, List.getD_cons_zero, List.getD_cons_succ, -List.getD_eq_getElem?_getD, pureOp]
        · simp [hG, List.getD_cons_zero, List.getD_cons_succ, -List.getD_eq_getElem?_getD, pureOp]
        simp [hG, List.getD_cons_zero, List.getD_cons_succ, -List.getD_eq_getElem?_getD, pureOp]
        refine hK _ ?_
        clear K hK
        refine awpL_reg T_ok 5 fun K hK => ?_
        simp [hG, List.getD_cons_zero, List.getD_cons_succ, -List.getD_eq_getElem?_getD, pureOp]
        refine hK _ ?_
        clear K hK
        refine awpL_nil ?_
        refine awpS_seq ?_
        refine awpS_draw hR mixed [] ⟨[], [], []⟩ fun mu0 => ?_
        refine awpA_tk T_ok [0, 1, 2, 3, 4, 5, 6, 7, 8, 9, 10, 11, 12] [] (fuel := 3) [12, 11, 10, 9, 8, 7, 6, 5, 4, 3, 2, 1, 0] (by decide +kernel) (by decide +kernel) rfl rfl fun K hK => ?_
        simp [hG, List.getD_cons_zero, List.getD_cons_succ, -List.getD_eq_getElem?_getD, pureOp]
        refine ⟨Cond.mk (by omega), hK _ ?_⟩
        clear K hK
        refine awpA_only (fuel := 2) (i := 13) (by decide +kernel) ?_
        refine awpO_call cal28 rfl rfl rfl (fun _ => rfl) (fun hg => containsC_c (e.rows.getD ((encGX e).edges.getD q de).frm.toNat []) ⟨((encGX e).edges.getD q de).to, blockX e.letters e.block ((encGX e).edges.getD q de).lab⟩ (by omega)) (fun hg => ?_) (fun hg => ?_) fun K hK => ?_
        · first | (simp [hG, List.getD_cons_zero, List.getD_cons_succ, -List.getD_eq_getElem?_getD, pureOp]; done) | (simp [-List.getD_eq_getElem?_getD] at hg; done) | (simp [-List.getD_eq_getElem?_getD] at hg; simp [hG, List.getD_cons_zero, List.getD_cons_succ, -List.getD_eq_getElem?_getD, pureOp]; first | omega | exact hg | (simp_all [-List.getD_eq_getElem?_getD]; done) | (simp_all [-List.getD_eq_getElem?_getD]; first | exact ⟨rfl, rfl⟩ | exact rfl))
        · first | (simp [hG, List.getD_cons_zero, List.getD_cons_succ, -List.getD_eq_getElem?_getD, pureOp]; done) | (simp [-List.getD_eq_getElem?_getD] at hg; done) | (simp [-List.getD_eq_getElem?_getD] at hg; simp [hG, List.getD_cons_zero, List.getD_cons_succ, -List.getD_eq_getElem?_getD, pureOp]; first | omega | exact hg | (simp_all [-List.getD_eq_getElem?_getD]; done) | (simp_all [-List.getD_eq_getElem?_getD]; first | exact ⟨rfl, rfl⟩ | exact rfl))
        simp [hG, List.getD_cons_zero, List.getD_cons_succ, -List.getD_eq_getElem?_getD, pureOp]
        refine hK _ ?_
        clear K hK
        refine awpA_tk T_ok [14, 15] [] (fuel := 0) [15, 14, 13, 12, 11, 10, 9, 8, 7, 6, 5, 4, 3, 2, 1, 0] (by decide +kernel) (by decide +kernel) rfl rfl fun K hK => ?_
        simp [hG, List.getD_cons_zero, List.getD_cons_succ, -List.getD_eq_getElem?_getD, pureOp]
        refine hK _ ?_
        clear K hK
        refine awpA_done (by decide +kernel) ?_
        refine awpS_cond rfl (fun hb147 => ?_) (fun hb147 => ?_)
        ·
         rw [hcb.1, hcb.2, hft, decide_eq_true hcm] at hb147; simp at hb147
        ·
         try simp [-List.getD_eq_getElem?_getD] at hb147
         refine awpS_skip ?_
         refine awpS_nil ?_
         refine blockQ_norm (thenQ_norm ?_)
         refine awpS_reg T_ok fun K hK => ?_
         simp [hG, List.getD_cons_zero, List.getD_cons_succ, -List.getD_eq_getElem?_getD, pureOp]
         refine ⟨Cond.mk (by omega), hK _ ?_⟩
         clear K hK
         refine awpS_nil ?_
         refine round_end (q + 1) (by omega) (by omega) ?_
         refine wk_of (id) (fun _ => false) (fun _ => false) ?_ ?_ rfl (Nat.zero_le _) (fun k hk => absurd hk (Nat.not_lt_zero _))
         · simp [hG, List.getD_cons_zero, List.getD_cons_succ, -List.getD_eq_getElem?_getD, pureOp]
         · simp [hG, List.getD_cons_zero, List.getD_cons_succ, -List.getD_eq_getElem?_getD, pureOp]
       ·
        try simp [-List.getD_eq_getElem?_getD] at hb119
        obtain rfl : q = (encGX e).edges.length := (by omega)
        refine awpS_exit ?_
        refine thenQ_exit (thenQ_exit ?_)
        refine blockQ_exit (thenQ_norm ?_)
        refine awpS_seq ?_
        refine awpS_regL ?_
        refine awpL_reg T_ok 2 fun K hK => ?_
        simp [hG, List.getD_cons_zero, List.getD_cons_succ, -List.getD_eq_getElem?_getD, pureOp]
        refine hK _ ?_
        clear K hK
        refine awpL_call cal29 rfl rfl (fun _ => rfl) (fun hg => containsI_c (setJ e (encGX e) (b % e.rows.length) (inpL e l) l.length) (encodeT e (b % e.rows.length) (inpL e l)) (by have := (sj_ok hm hv hg0 hsb (l := inpL e l) l.length).len hgc; omega)) (fun hg => ?_) (fun hg => ?_) fun K hK => ?_
        · simp [hG, List.getD_cons_zero, List.getD_cons_succ, -List.getD_eq_getElem?_getD, pureOp]
        · simp [hG, List.getD_cons_zero, List.getD_cons_succ, -List.getD_eq_getElem?_getD, pureOp]
        simp [hG, List.getD_cons_zero, List.getD_cons_succ, -List.getD_eq_getElem?_getD, pureOp]
        refine hK _ ?_
        clear K hK
        refine awpL_reg T_ok 1 fun K hK => ?_
        simp [hG, List.getD_cons_zero, List.getD_cons_succ, -List.getD_eq_getElem?_getD, pureOp]
        refine hK _ ?_
        clear K hK
        refine awpL_call cal8 rfl rfl (fun _ => rfl) (fun hg => awake_c) (fun hg => ?_) (fun hg => ?_) fun K hK => ?_
        · first | (simp [hG, List.getD_cons_zero, List.getD_cons_succ, -List.getD_eq_getElem?_getD, pureOp]; done) | (simp [-List.getD_eq_getElem?_getD] at hg; done) | (simp [-List.getD_eq_getElem?_getD] at hg; simp [hG, List.getD_cons_zero, List.getD_cons_succ, -List.getD_eq_getElem?_getD, pureOp]; first | omega | exact hg | (simp_all [-List.getD_eq_getElem?_getD]; done) | (simp_all [-List.getD_eq_getElem?_getD]; first | exact ⟨rfl, rfl⟩ | exact rfl))
        · first | (simp [hG, List.getD_cons_zero, List.getD_cons_succ, -List.getD_eq_getElem?_getD, pureOp]; done) | (simp [-List.getD_eq_getElem?_getD] at hg; done) | (simp [-List.getD_eq_getElem?_getD] at hg; simp [hG, List.getD_cons_zero, List.getD_cons_succ, -List.getD_eq_getElem?_getD, pureOp]; first | omega | exact hg | (simp_all [-List.getD_eq_getElem?_getD]; done) | (simp_all [-List.getD_eq_getElem?_getD]; first | exact ⟨rfl, rfl⟩ | exact rfl))
        simp [hG, List.getD_cons_zero, List.getD_cons_succ, -List.getD_eq_getElem?_getD, pureOp]
        refine hK _ ?_
        clear K hK
        refine awpL_reg T_ok 2 fun K hK => ?_
        simp [hG, List.getD_cons_zero, List.getD_cons_succ, -List.getD_eq_getElem?_getD, pureOp]
        refine hK _ ?_
        clear K hK
        refine awpL_nil ?_
        refine awpS_ret ?_
        refine RetOK_of ?_
        simp [hG, List.getD_cons_zero, List.getD_cons_succ, -List.getD_eq_getElem?_getD, pureOp]
        rw [hTe]; unfold hasI; exact decide_eq_true (by have := sj_end hm hv hg0 hsb hgood; rwa [inpL_len] at this)

end Go.Proofs.YtdojahjhijkbhaaGreatDoor
