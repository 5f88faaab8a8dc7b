/-
 Walks: the law EncoderLossless.
-/
import Derived.Test.YtfoeigajlkonpaaDoorVN
namespace Go.Proofs.YtfoeigajlkonpaaDoor
set_option linter.unusedSimpArgs false
set_option linter.unusedVariables false
open Go Go.Lift Go.Proofs

theorem row_new {e : Enc} (hv : checkE e = 0) (hb : losB e = true) {s i : Nat} (hs : s < e.rows.length) (hi : i < (e.rows.getD s []).length) : ¬ (e.rows.getD s []).getD i dc ∈ (e.rows.getD s []).take i := fun hm => by
 obtain ⟨j, hj, he⟩ := List.mem_iff_getElem.1 hm
 have hj2 : j < i := by rw [List.length_take] at hj; omega
 rw [List.getElem_take] at he
 refine los_cells hv hb hs hi (show j < (e.rows.getD s []).length by omega) (show i ≠ j by omega) ?_
 show (e.rows.getD s []).getD i dc = (e.rows.getD s []).getD j dc
 rw [getD_get (show j < (e.rows.getD s []).length by omega)]
 exact he.symm
theorem cells_take {l : List Cell} {i q : Nat} (h : q < i) : (l.take i).getD q dc = l.getD q dc := by
 simp [List.getD, List.getElem?_take, h]
theorem bytes_take {l : List UInt8} {i q : Nat} (h : q < i) : (l.take i).getD q 0 = l.getD q 0 := by
 simp [List.getD, List.getElem?_take, h]
@[simp] theorem vecF_cells {l : List Cell} {i j : Nat} : vecF cellF dc l i j = cellF (l.getD i dc) j := rfl
@[simp] theorem vecF_bytes {l : List UInt8} {i j : Nat} : vecF (fun (x : UInt8) (_ : Nat) => AVal.int .u8 x.toNat) 0 l i j = .int .u8 (l.getD i 0).toNat := rfl
@[simp] theorem strip_encR {e : Enc} {s : Int} {l : List Int} : strip (encodeR e s l) = (encodeR e s l, True) := rfl
theorem enc_fine {e : Enc} (hv : checkE e = 0) {s : Int} (h0 : 0 ≤ s) (h1 : s < (e.rows.length : Int)) {l : List Int} (hg : l.any (badI e) = false) (hl : l.length ≤ 100) : encodeN e s l = 0 := by
 have hb := (checkE_valid hv).1.block
 have hm := mul_bd (a := (l.length : Int)) (b := e.block) (c := 100) (by omega) hb
 unfold encodeN
 rw [if_neg (fun h => h hv), if_neg (by omega), if_neg (by rw [hg]; exact Bool.false_ne_true), if_neg (by omega)]
theorem st_box {b : Int} {n : Nat} (hb : 0 ≤ b) (hn : 0 < n) : 0 ≤ b % n ∧ b % n < (n : Int) := ⟨Int.emod_nonneg _ (by omega), Int.emod_lt_of_pos _ (by omega)⟩
theorem los_fin {e : Enc} (hv : checkE e = 0) {b : Int} (hb : 0 ≤ b) {l m : List UInt8} (hl : l.length ≤ 10) (hm : m.length ≤ 10) :
  (encodeN e (b % e.rows.length) (inpL e (l.take (min l.length m.length))) = 0 ∧ encodeN e (b % e.rows.length) (inpL e (m.take (min l.length m.length))) = 0) ∧
   (((losR e = false ∨ inpL e (l.take (min l.length m.length)) = inpL e (m.take (min l.length m.length))) ∨
     ¬ encodeW e (b % e.rows.length) (inpL e (l.take (min l.length m.length))) = encodeW e (b % e.rows.length) (inpL e (m.take (min l.length m.length)))) ∨
    ¬ encodeT e (b % e.rows.length) (inpL e (l.take (min l.length m.length))) = encodeT e (b % e.rows.length) (inpL e (m.take (min l.length m.length)))) := by
 have h0 := (checkE_valid hv).2.1
 obtain ⟨s1, s2⟩ := st_box hb h0
 have n1 := enc_fine hv s1 s2 (inpL_any hv (l := l.take (min l.length m.length))) (by rw [inpL_len, List.length_take]; omega)
 have n2 := enc_fine hv s1 s2 (inpL_any hv (l := m.take (min l.length m.length))) (by rw [inpL_len, List.length_take]; omega)
 refine ⟨⟨n1, n2⟩, ?_⟩
 unfold encodeW encodeT
 rw [if_pos n1, if_pos n2, if_pos n1, if_pos n2]
 cases hlb : losR e with
 | false => exact .inl (.inl (.inl rfl))
 | true =>
  have hlb2 : losB e = true := by unfold losR at hlb; rwa [if_pos hv] at hlb
  refine Classical.byContradiction fun hn => ?_
  have hn1 := fun h => hn (.inl (.inl (.inr h)))
  have hn2 := Classical.byContradiction fun h => hn (.inl (.inr h))
  have hn3 := Classical.byContradiction fun h => hn (.inr h)
  exact hn1 (los_law hv hlb2 s1 s2 (by rw [inpL_len, inpL_len, List.length_take, List.length_take]; omega) (inpL_good hv) (inpL_good hv) hn2 hn3)
set_option maxRecDepth 100000 in
theorem losLaw_c (e : Enc) (b : Int) (hb : 0 ≤ b ∧ b < 256) (l m : List UInt8) : PC Tryd.prog 3 [.agg 4 (encF e), .int .u8 b, Lift.bytes l, Lift.bytes m] (.bool true) := by
 refine PC_introS T_ok Tryd.func3 rfl (by simp [Tryd.ntmps3]) fun G hG hR => ?_
 simp only [Tryd.ntmps3, Tryd.results3] at hG ⊢
 simp only [argEnv, Nat.zero_add, Nat.reduceAdd]
 refine awpS_seq ?_
 refine awpS_reg T_ok fun K hK => ?_
 simp [hG, List.getD_cons_zero, List.getD_cons_succ, -List.getD_eq_getElem?_getD, pureOp]
 refine ⟨Cond.mk (by exact trivial), hK _ ?_⟩
 clear K hK
 refine awpS_seq ?_
 refine awpS_seq ?_
 refine awpS_regL ?_
 refine awpL_reg T_ok 1 fun K hK => ?_
 simp [hG, List.getD_cons_zero, List.getD_cons_succ, -List.getD_eq_getElem?_getD, pureOp]
 refine hK _ ?_
 clear K hK
 refine awpL_call cal7 rfl rfl (fun _ => rfl) (fun hg => fine_c e) (fun hg => ?_) (fun hg => ?_) fun K hK => ?_
 · simp [hG, List.getD_cons_zero, List.getD_cons_succ, -List.getD_eq_getElem?_getD, pureOp]
 · simp [hG, List.getD_cons_zero, List.getD_cons_succ, -List.getD_eq_getElem?_getD, pureOp]
 simp [hG, List.getD_cons_zero, List.getD_cons_succ, -List.getD_eq_getElem?_getD, pureOp]
 refine hK _ ?_
 clear K hK
 refine awpL_reg T_ok 11 fun K hK => ?_
 simp [hG, List.getD_cons_zero, List.getD_cons_succ, -List.getD_eq_getElem?_getD, pureOp]
 refine hK _ ?_
 clear K hK
 refine awpL_nil ?_
 refine awpS_cond rfl (fun hb37 => ?_) (fun hb37 => ?_)
 ·
  try simp [-List.getD_eq_getElem?_getD] at hb37
  refine awpS_seq ?_
  refine awpS_regL ?_
  refine awpL_call cal8 rfl rfl (fun _ => rfl) (fun hg => awake_c) (fun hg => ?_) (fun hg => ?_) fun K hK => ?_
  · simp [hG, List.getD_cons_zero, List.getD_cons_succ, -List.getD_eq_getElem?_getD, pureOp]
  · simp [hG, List.getD_cons_zero, List.getD_cons_succ, -List.getD_eq_getElem?_getD, pureOp]
  simp [hG, List.getD_cons_zero, List.getD_cons_succ, -List.getD_eq_getElem?_getD, pureOp]
  refine hK _ ?_
  clear K hK
  refine awpL_reg T_ok 1 fun K hK => ?_
  simp [hG, List.getD_cons_zero, List.getD_cons_succ, -List.getD_eq_getElem?_getD, pureOp]
  refine hK _ ?_
  clear K hK
  refine awpL_nil ?_
  refine awpS_ret ?_
  refine RetOK_of ?_
  simp [hG, List.getD_cons_zero, List.getD_cons_succ, -List.getD_eq_getElem?_getD, pureOp]
 ·
  try simp [-List.getD_eq_getElem?_getD] at hb37
  obtain ⟨hv, hm⟩ := fine_ok hb37.1.1
  have h6 := sml_rows hm hv
  have h0 := (checkE_valid hv).2.1
  have hln : losN e = 0 := (by unfold losN; rw [if_pos hv])
  have hlr : losR e = losB e := (by unfold losR; rw [if_pos hv])
  have hfin := los_fin hv hb.1 (l := l) (m := m) (by omega) (by omega)
  refine awpS_skip ?_
  refine awpS_seq ?_
  refine awpS_regL ?_
  refine awpL_reg T_ok 1 fun K hK => ?_
  simp [hG, List.getD_cons_zero, List.getD_cons_succ, -List.getD_eq_getElem?_getD, pureOp]
  refine hK _ ?_
  clear K hK
  refine awpL_call cal9 rfl rfl (fun _ => rfl) (fun hg => lossless_c e) (fun hg => ?_) (fun hg => ?_) fun K hK => ?_
  · simp [hG, List.getD_cons_zero, List.getD_cons_succ, -List.getD_eq_getElem?_getD, pureOp]
  · simp [hG, List.getD_cons_zero, List.getD_cons_succ, -List.getD_eq_getElem?_getD, pureOp]
  simp [hG, List.getD_cons_zero, List.getD_cons_succ, -List.getD_eq_getElem?_getD, pureOp]
  refine hK _ ?_
  clear K hK
  refine awpL_reg T_ok 5 fun K hK => ?_
  simp [hG, List.getD_cons_zero, List.getD_cons_succ, -List.getD_eq_getElem?_getD, pureOp]
  refine hK _ ?_
  clear K hK
  refine awpL_nil ?_
  refine awpS_seq ?_
  refine awpS_seq ?_
  refine awpS_reg T_ok fun K hK => ?_
  simp [hG, List.getD_cons_zero, List.getD_cons_succ, -List.getD_eq_getElem?_getD, pureOp]
  refine hK _ ?_
  clear K hK
  refine awpS_cond rfl (fun hb45 => ?_) (fun hb45 => ?_)
  ·
   exact absurd hb45 (by simp [hln])
  ·
   try simp [-List.getD_eq_getElem?_getD] at hb45
   refine awpS_skip ?_
   refine awpS_seq ?_
   refine awpS_seq ?_
   refine awpS_reg T_ok fun K hK => ?_
   simp [hG, List.getD_cons_zero, List.getD_cons_succ, -List.getD_eq_getElem?_getD, pureOp]
   refine hK _ ?_
   clear K hK
   refine awpS_block ?_
   refine awpS_loop (α := Nat) (fun s => ⟨[(1, .int .u8 b), (2, Lift.bytes l), (3, Lift.bytes m), (4, .ptr (0, 0) 0 0), (9, .bool (losR e)), (47, rowsC e.rows), (48, .int .i64 e.rows.length), (49, .int .i64 s)], [(0, .one (.arr 1 4 (fun _ => encF e)))], 1⟩) (fun s => s ≤ e.rows.length) (fun s => e.rows.length - s) (0) (Nat.zero_le _) ?_ ?_
   ·
    refine wk_of (id) (fun _ => false) (fun _ => false) ?_ ?_ rfl (Nat.zero_le _) (fun k hk => absurd hk (Nat.not_lt_zero _))
    · simp [hG, List.getD_cons_zero, List.getD_cons_succ, -List.getD_eq_getElem?_getD, pureOp]
    · simp [hG, List.getD_cons_zero, List.getD_cons_succ, -List.getD_eq_getElem?_getD, pureOp]
   ·
    rintro s hs
    refine awpS_seq ?_
    refine awpS_reg T_ok fun K hK => ?_
    simp [hG, List.getD_cons_zero, List.getD_cons_succ, -List.getD_eq_getElem?_getD, pureOp]
    refine hK _ ?_
    clear K hK
    refine awpS_seq ?_
    refine awpS_cond rfl (fun hb50 => ?_) (fun hb50 => ?_)
    ·
     try simp [-List.getD_eq_getElem?_getD] at hb50
     have hsl : s < e.rows.length := (by omega)
     have hrl := row_len hv hsl
     refine awpS_skip ?_
     refine awpS_seq ?_
     refine awpS_block ?_
     refine awpS_seq ?_
     refine awpS_reg T_ok fun K hK => ?_
     simp [hG, List.getD_cons_zero, List.getD_cons_succ, -List.getD_eq_getElem?_getD, pureOp]
     refine ⟨Cond.mk (by omega), hK _ ?_⟩
     clear K hK
     refine awpS_seq ?_
     refine awpS_reg T_ok fun K hK => ?_
     simp [hG, List.getD_cons_zero, List.getD_cons_succ, -List.getD_eq_getElem?_getD, pureOp]
     refine hK _ ?_
     clear K hK
     refine awpS_block ?_
     refine awpS_loop (α := Nat) (fun i => ⟨[(1, .int .u8 b), (2, Lift.bytes l), (3, Lift.bytes m), (4, .ptr (0, 0) 0 0), (9, .bool (losR e)), (12, cells (e.rows.getD s [])), (47, rowsC e.rows), (48, .int .i64 e.rows.length), (49, .int .i64 s), (53, cells (e.rows.getD s [])), (54, .int .i64 (e.rows.getD s []).length), (55, .int .i64 i)], [(0, .one (.arr 1 4 (fun _ => encF e)))], 1⟩) (fun i => i ≤ (e.rows.getD s []).length) (fun i => (e.rows.getD s []).length - i) (0) (Nat.zero_le _) ?_ ?_
     ·
      refine wk_of (id) (fun _ => false) (fun _ => false) ?_ ?_ rfl (Nat.zero_le _) (fun k hk => absurd hk (Nat.not_lt_zero _))
      · simp [hG, List.getD_cons_zero, List.getD_cons_succ, -List.getD_eq_getElem?_getD, pureOp]
      · simp [hG, List.getD_cons_zero, List.getD_cons_succ, -List.getD_eq_getElem?_getD, pureOp]
     ·
      rintro i hi
      refine awpS_seq ?_
      refine awpS_reg T_ok fun K hK => ?_
      simp [hG, List.getD_cons_zero, List.getD_cons_succ, -List.getD_eq_getElem?_getD, pureOp]
      refine hK _ ?_
      clear K hK
      refine awpS_seq ?_
      refine awpS_cond rfl (fun hb56 => ?_) (fun hb56 => ?_)
      ·
       try simp [-List.getD_eq_getElem?_getD] at hb56
       have hil : i < (e.rows.getD s []).length := (by omega)
       refine awpS_skip ?_
       refine awpS_seq ?_
       refine awpS_block ?_
       refine awpS_seq ?_
       refine awpS_reg T_ok fun K hK => ?_
       simp [hG, List.getD_cons_zero, List.getD_cons_succ, -List.getD_eq_getElem?_getD, pureOp]
       refine ⟨Cond.mk (by simp [-List.getD_eq_getElem?_getD]; omega), hK _ ?_⟩
       clear K hK
       refine awpS_seq ?_
       refine awpS_draw hR mixed [] ⟨[], [], []⟩ fun mu0 => ?_
       refine awpA_tk T_ok [0, 1, 2, 3, 4, 5] [] (fuel := 2) [5, 4, 3, 2, 1, 0] (by decide +kernel) (by decide +kernel) rfl rfl fun K hK => ?_
       simp [hG, List.getD_cons_zero, List.getD_cons_succ, -List.getD_eq_getElem?_getD, pureOp]
       refine ⟨Cond.mk (by simp [-List.getD_eq_getElem?_getD]; (repeat (first | assumption | intro _ | exact And.intro ‹_› ‹_› | apply And.intro | omega | exact trivial | exact decide_eq_true (by assumption)))), hK _ ?_⟩
       clear K hK
       refine awpA_only (fuel := 1) (i := 6) (by decide +kernel) ?_
       refine awpO_call cal10 rfl rfl rfl (fun _ => rfl) (fun hg => containsC_c ((e.rows.getD s []).take i) ((e.rows.getD s []).getD i dc) (by rw [List.length_take]; omega)) (fun hg => ?_) (fun hg => ?_) fun K hK => ?_
       · first | (simp [hG, List.getD_cons_zero, List.getD_cons_succ, -List.getD_eq_getElem?_getD, pureOp]; done) | (simp [-List.getD_eq_getElem?_getD] at hg; done) | (simp [-List.getD_eq_getElem?_getD] at hg; simp [hG, List.getD_cons_zero, List.getD_cons_succ, -List.getD_eq_getElem?_getD, pureOp]; first | omega | exact hg | (simp_all [-List.getD_eq_getElem?_getD]; done) | (simp_all [-List.getD_eq_getElem?_getD]; first | exact ⟨rfl, rfl⟩ | exact rfl))
       · simp [hG, List.getD_cons_zero, List.getD_cons_succ, -List.getD_eq_getElem?_getD]; exact ⟨by omega, fun q hq => by rw [cells_take (by omega)]; exact ⟨rfl, rfl⟩⟩
       simp [hG, List.getD_cons_zero, List.getD_cons_succ, -List.getD_eq_getElem?_getD, pureOp]
       refine hK _ ?_
       clear K hK
       refine awpA_tk T_ok [7] [] (fuel := 0) [7, 6, 5, 4, 3, 2, 1, 0] (by decide +kernel) (by decide +kernel) rfl rfl fun K hK => ?_
       simp [hG, List.getD_cons_zero, List.getD_cons_succ, -List.getD_eq_getElem?_getD, pureOp]
       refine hK _ ?_
       clear K hK
       refine awpA_done (by decide +kernel) ?_
       refine awpS_cond rfl (fun hb67 => ?_) (fun hb67 => ?_)
       ·
        simp at hb67; exact False.elim (row_new hv (by rw [← hlr]; exact hb67.1) hsl hil hb67.2)
       ·
        try simp [-List.getD_eq_getElem?_getD] at hb67
        refine awpS_skip ?_
        refine awpS_nil ?_
        refine blockQ_norm (thenQ_norm ?_)
        refine awpS_reg T_ok fun K hK => ?_
        simp [hG, List.getD_cons_zero, List.getD_cons_succ, -List.getD_eq_getElem?_getD, pureOp]
        refine ⟨Cond.mk (by omega), hK _ ?_⟩
        clear K hK
        refine awpS_nil ?_
        refine round_end (i + 1) (by omega) (by omega) ?_
        refine wk_of (id) (fun _ => false) (fun _ => false) ?_ ?_ rfl (Nat.zero_le _) (fun k hk => absurd hk (Nat.not_lt_zero _))
        · simp [hG, List.getD_cons_zero, List.getD_cons_succ, -List.getD_eq_getElem?_getD, pureOp]
        · simp [hG, List.getD_cons_zero, List.getD_cons_succ, -List.getD_eq_getElem?_getD, pureOp]
      ·
       try simp [-List.getD_eq_getElem?_getD] at hb56
       refine awpS_exit ?_
       refine thenQ_exit (thenQ_exit ?_)
       refine blockQ_exit (thenQ_norm ?_)
       refine awpS_nil ?_
       refine blockQ_norm (thenQ_norm ?_)
       refine awpS_reg T_ok fun K hK => ?_
       simp [hG, List.getD_cons_zero, List.getD_cons_succ, -List.getD_eq_getElem?_getD, pureOp]
       refine ⟨Cond.mk (by omega), hK _ ?_⟩
       clear K hK
       refine awpS_nil ?_
       refine round_end (s + 1) (by omega) (by omega) ?_
       refine wk_of (id) (fun _ => false) (fun _ => false) ?_ ?_ rfl (Nat.zero_le _) (fun k hk => absurd hk (Nat.not_lt_zero _))
       · simp [hG, List.getD_cons_zero, List.getD_cons_succ, -List.getD_eq_getElem?_getD, pureOp]
       · simp [hG, List.getD_cons_zero, List.getD_cons_succ, -List.getD_eq_getElem?_getD, pureOp]
    ·
     try simp [-List.getD_eq_getElem?_getD] at hb50
     obtain rfl : s = e.rows.length := (by omega)
     refine awpS_exit ?_
     refine thenQ_exit (thenQ_exit ?_)
     refine blockQ_exit (thenQ_norm ?_)
     refine awpS_seq ?_
     refine awpS_reg T_ok fun K hK => ?_
     simp [hG, List.getD_cons_zero, List.getD_cons_succ, -List.getD_eq_getElem?_getD, pureOp]
     refine hK _ ?_
     clear K hK
     refine awpS_seq ?_
     refine awpS_draw hR mixed [] ⟨[], [], []⟩ fun mu0 => ?_
     refine awpA_tk T_ok [0, 1, 2, 3, 4, 5, 6, 7, 8, 9, 11, 12, 13, 14] [] (fuel := 5) [14, 13, 12, 11, 9, 8, 7, 6, 5, 4, 3, 2, 1, 0] (by decide +kernel) (by decide +kernel) rfl rfl fun K hK => ?_
     simp [hG, List.getD_cons_zero, List.getD_cons_succ, -List.getD_eq_getElem?_getD, pureOp]
     refine ⟨Cond.mk (by simp [-List.getD_eq_getElem?_getD]; (repeat (first | assumption | intro _ | exact And.intro ‹_› ‹_› | apply And.intro | omega | exact trivial | exact decide_eq_true (by assumption)))), hK _ ?_⟩
     clear K hK
     refine awpA_only (fuel := 4) (i := 10) (by decide +kernel) ?_
     refine awpO_call cal11 rfl rfl rfl (fun _ => rfl) (fun hg => inputs_c e (l.take (min l.length m.length)) hv (by rw [List.length_take]; omega)) (fun hg => ?_) (fun hg => ?_) fun K hK => ?_
     · simp [hG, List.getD_cons_zero, List.getD_cons_succ, -List.getD_eq_getElem?_getD, pureOp]
     · simp [hG, List.getD_cons_zero, List.getD_cons_succ, -List.getD_eq_getElem?_getD]; exact ⟨by omega, fun q hq => by rw [bytes_take hq]⟩
     simp [hG, List.getD_cons_zero, List.getD_cons_succ, -List.getD_eq_getElem?_getD, pureOp]
     refine hK _ ?_
     clear K hK
     refine awpA_only (fuel := 3) (i := 15) (by decide +kernel) ?_
     refine awpO_call cal11 rfl rfl rfl (fun _ => rfl) (fun hg => inputs_c e (m.take (min l.length m.length)) hv (by rw [List.length_take]; omega)) (fun hg => ?_) (fun hg => ?_) fun K hK => ?_
     · simp [hG, List.getD_cons_zero, List.getD_cons_succ, -List.getD_eq_getElem?_getD, pureOp]
     · simp [hG, List.getD_cons_zero, List.getD_cons_succ, -List.getD_eq_getElem?_getD]; exact ⟨by omega, fun q hq => by rw [bytes_take hq]⟩
     simp [hG, List.getD_cons_zero, List.getD_cons_succ, -List.getD_eq_getElem?_getD, pureOp]
     refine hK _ ?_
     clear K hK
     refine awpA_tk T_ok [16, 17, 18] [] (fuel := 0) [18, 17, 16, 15, 10, 14, 13, 12, 11, 9, 8, 7, 6, 5, 4, 3, 2, 1, 0] (by decide +kernel) (by decide +kernel) rfl rfl fun K hK => ?_
     simp [hG, List.getD_cons_zero, List.getD_cons_succ, -List.getD_eq_getElem?_getD, pureOp]
     refine hK _ ?_
     clear K hK
     refine awpA_done (by decide +kernel) ?_
     refine awpS_seq ?_
     refine awpS_regL ?_
     refine awpL_reg T_ok 3 fun K hK => ?_
     simp [hG, List.getD_cons_zero, List.getD_cons_succ, -List.getD_eq_getElem?_getD, pureOp]
     refine hK _ ?_
     clear K hK
     refine awpL_call cal12 rfl rfl (fun _ => rfl) (fun hg => encode_c e (b % e.rows.length) (inpL e (l.take (min l.length m.length))) (by rw [inpL_len, List.length_take]; omega)) (fun hg => ?_) (fun hg => ?_) fun K hK => ?_
     · simp [hG, List.getD_cons_zero, List.getD_cons_succ, -List.getD_eq_getElem?_getD, pureOp]
     · simp [hG, List.getD_cons_zero, List.getD_cons_succ, -List.getD_eq_getElem?_getD, pureOp]
     simp [hG, List.getD_cons_zero, List.getD_cons_succ, -List.getD_eq_getElem?_getD, pureOp]
     refine hK _ ?_
     clear K hK
     refine awpL_reg T_ok 7 fun K hK => ?_
     simp [hG, List.getD_cons_zero, List.getD_cons_succ, -List.getD_eq_getElem?_getD, pureOp]
     refine ⟨Cond.mk (by simp [-List.getD_eq_getElem?_getD]), hK _ ?_⟩
     clear K hK
     refine awpL_nil ?_
     refine awpS_seq ?_
     refine awpS_regL ?_
     refine awpL_reg T_ok 3 fun K hK => ?_
     simp [hG, List.getD_cons_zero, List.getD_cons_succ, -List.getD_eq_getElem?_getD, pureOp]
     refine hK _ ?_
     clear K hK
     refine awpL_call cal12 rfl rfl (fun _ => rfl) (fun hg => encode_c e (b % e.rows.length) (inpL e (m.take (min l.length m.length))) (by rw [inpL_len, List.length_take]; omega)) (fun hg => ?_) (fun hg => ?_) fun K hK => ?_
     · simp [hG, List.getD_cons_zero, List.getD_cons_succ, -List.getD_eq_getElem?_getD, pureOp]
     · simp [hG, List.getD_cons_zero, List.getD_cons_succ, -List.getD_eq_getElem?_getD, pureOp]
     simp [hG, List.getD_cons_zero, List.getD_cons_succ, -List.getD_eq_getElem?_getD, pureOp]
     refine hK _ ?_
     clear K hK
     refine awpL_reg T_ok 7 fun K hK => ?_
     simp [hG, List.getD_cons_zero, List.getD_cons_succ, -List.getD_eq_getElem?_getD, pureOp]
     refine ⟨Cond.mk (by simp [-List.getD_eq_getElem?_getD]), hK _ ?_⟩
     clear K hK
     refine awpL_nil ?_
     refine awpS_seq ?_
     refine awpS_regL ?_
     refine awpL_reg T_ok 12 fun K hK => ?_
     simp [hG, List.getD_cons_zero, List.getD_cons_succ, -List.getD_eq_getElem?_getD, pureOp]
     refine hK _ ?_
     clear K hK
     refine awpL_call cal13 rfl rfl (fun _ => rfl) (fun hg => equalI_c (inpL e (l.take (min l.length m.length))) (inpL e (m.take (min l.length m.length))) (by rw [inpL_len, List.length_take]; omega)) (fun hg => ?_) (fun hg => ?_) fun K hK => ?_
     · first | (simp [hG, List.getD_cons_zero, List.getD_cons_succ, -List.getD_eq_getElem?_getD, pureOp]; done) | (simp [-List.getD_eq_getElem?_getD] at hg; done) | (simp [-List.getD_eq_getElem?_getD] at hg; simp [hG, List.getD_cons_zero, List.getD_cons_succ, -List.getD_eq_getElem?_getD, pureOp]; first | omega | exact hg | (simp_all [-List.getD_eq_getElem?_getD]; done) | (simp_all [-List.getD_eq_getElem?_getD]; first | exact ⟨rfl, rfl⟩ | exact rfl))
     · first | (simp [hG, List.getD_cons_zero, List.getD_cons_succ, -List.getD_eq_getElem?_getD, pureOp]; done) | (simp [-List.getD_eq_getElem?_getD] at hg; done) | (simp [-List.getD_eq_getElem?_getD] at hg; simp [hG, List.getD_cons_zero, List.getD_cons_succ, -List.getD_eq_getElem?_getD, pureOp]; first | omega | exact hg | (simp_all [-List.getD_eq_getElem?_getD]; done) | (simp_all [-List.getD_eq_getElem?_getD]; first | exact ⟨rfl, rfl⟩ | exact rfl))
     simp [hG, List.getD_cons_zero, List.getD_cons_succ, -List.getD_eq_getElem?_getD, pureOp]
     refine hK _ ?_
     clear K hK
     refine awpL_reg T_ok 13 fun K hK => ?_
     simp [hG, List.getD_cons_zero, List.getD_cons_succ, -List.getD_eq_getElem?_getD, pureOp]
     refine ⟨Cond.mk (by (repeat (first | assumption | intro _ | exact And.intro ‹_› ‹_› | apply And.intro | omega | exact trivial | exact decide_eq_true (by assumption)))), hK _ ?_⟩
     clear K hK
     refine awpL_call cal8 rfl rfl (fun _ => rfl) (fun hg => awake_c) (fun hg => ?_) (fun hg => ?_) fun K hK => ?_
     · first | (simp [hG, List.getD_cons_zero, List.getD_cons_succ, -List.getD_eq_getElem?_getD, pureOp]; done) | (simp [-List.getD_eq_getElem?_getD] at hg; done) | (simp [-List.getD_eq_getElem?_getD] at hg; simp [hG, List.getD_cons_zero, List.getD_cons_succ, -List.getD_eq_getElem?_getD, pureOp]; first | omega | exact hg | (simp_all [-List.getD_eq_getElem?_getD]; done) | (simp_all [-List.getD_eq_getElem?_getD]; first | exact ⟨rfl, rfl⟩ | exact rfl))
     · first | (simp [hG, List.getD_cons_zero, List.getD_cons_succ, -List.getD_eq_getElem?_getD, pureOp]; done) | (simp [-List.getD_eq_getElem?_getD] at hg; done) | (simp [-List.getD_eq_getElem?_getD] at hg; simp [hG, List.getD_cons_zero, List.getD_cons_succ, -List.getD_eq_getElem?_getD, pureOp]; first | omega | exact hg | (simp_all [-List.getD_eq_getElem?_getD]; done) | (simp_all [-List.getD_eq_getElem?_getD]; first | exact ⟨rfl, rfl⟩ | exact rfl))
     simp [hG, List.getD_cons_zero, List.getD_cons_succ, -List.getD_eq_getElem?_getD, pureOp]
     refine hK _ ?_
     clear K hK
     refine awpL_reg T_ok 2 fun K hK => ?_
     simp [hG, List.getD_cons_zero, List.getD_cons_succ, -List.getD_eq_getElem?_getD, pureOp]
     refine hK _ ?_
     clear K hK
     refine awpL_nil ?_
     refine awpS_ret ?_
     refine RetOK_of ?_
     simp [hG, List.getD_cons_zero, List.getD_cons_succ, -List.getD_eq_getElem?_getD, pureOp]
     exact hfin

end Go.Proofs.YtfoeigajlkonpaaDoor
