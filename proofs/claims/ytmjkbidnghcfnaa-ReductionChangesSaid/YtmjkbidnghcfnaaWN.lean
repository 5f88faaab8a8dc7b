/-
 Walks: inputs, the law ReductionMerged.
-/
import Derived.Test.YtmjkbidnghcfnaaWM
import Derived.Test.YtmjkbidnghcfnaaPL
namespace Go.Proofs.Ytmjkbidnghcfnaa
set_option linter.unusedSimpArgs false
set_option linter.unusedVariables false
open Go Go.Lift Go.Proofs

/-- the inputs of a law. -/
def inputsL (e : Enc) (l : List UInt8) : List Int := (l.take 12).map fun x => (x.toNat : Int) % e.inputs
theorem inputsL_len {e : Enc} {l : List UInt8} : (inputsL e l).length = min 12 l.length := by simp [inputsL]
theorem inputsL_le {e : Enc} {l : List UInt8} : (inputsL e l).length ≤ 12 := by rw [inputsL_len]; omega
theorem inputsL_at {e : Enc} {l : List UInt8} {k : Nat} (hk : k < min 12 l.length) : (inputsL e l).getD k 0 = ((l.getD k 0).toNat : Int) % e.inputs := by
 have h1 : k < (l.take 12).length := by rw [List.length_take]; exact hk
 unfold inputsL
 rw [List.getD_eq_getElem?_getD, List.getElem?_map, List.getElem?_take, if_pos (by omega), List.getElem?_eq_getElem (by omega)]
 simp [List.getD, show k < l.length by omega]
theorem inputsL_good {e : Enc} (hin : 1 ≤ e.inputs) {l : List UInt8} : ∀ i ∈ inputsL e l, badI e i = false := fun i hi => by
 obtain ⟨x, _, rfl⟩ := List.mem_map.1 hi
 exact bad_no.2 ⟨Int.emod_nonneg _ (by omega), Int.emod_lt_of_pos _ (by omega)⟩
theorem any_no {e : Enc} {l : List Int} (h : ∀ i ∈ l, badI e i = false) : l.any (badI e) = false := List.any_eq_false.2 fun i hi => by rw [h i hi]; exact Bool.false_ne_true
/-- Encode of a valid encoder. -/
theorem encodeG_c (e : Enc) (s : Int) (l : List Int) (hv : checkE e = 0) (h0 : 0 ≤ s) (h1 : s < (e.rows.length : Int)) (hg : ∀ i ∈ l, badI e i = false) (hl : l.length ≤ 16) :
  PC Try.prog 26 [.agg 4 (encF e), .int .i64 s, ints l] (.tup 3 (fun j => [.str (runE e s l).1, .int .i64 (runE e s l).2, .int .i64 0].getD j .any)) := by
 have hb := (checkE_valid hv).1.block
 have hm := mul_bd (a := (l.length : Int)) (b := e.block) (c := 16) (by omega) hb
 rw [← encodeR_ok (by unfold encodeN; rw [if_neg (by simpa using hv), if_neg (by omega), if_neg (by rw [any_no hg]; exact Bool.false_ne_true), if_neg (by omega)])]
 exact encode_c e s l (by omega)
theorem mergeV_c (e : Enc) (hv : checkE e = 0) : PC Try.prog 14 [.agg 4 (encF e)] (.tup 3 (fun j => [.agg 4 (encF (mergeE e)), ints (classesE e), .int .i64 0].getD j .any)) := by
 have := pc_rel (merge_c e) merge_rel
 unfold mergeX partL partN at this
 rw [if_pos hv, if_pos hv, if_pos hv] at this
 exact this
theorem partV_c (e : Enc) (hv : checkE e = 0) : PC Try.prog 13 [.agg 4 (encF e)] (.tup 2 (fun j => [ints (classesE e), .int .i64 0].getD j .any)) := by
 have := pc_rel (partition_c e) part_rel
 unfold partL partN at this
 rw [if_pos hv, if_pos hv] at this
 exact this
set_option maxRecDepth 100000 in
theorem inputs_c (e : Enc) (l : List UInt8) (hv : checkE e = 0) : PC Try.prog 24 [.agg 4 (encF e), Lift.bytes l] (ints (inputsL e l)) := by
 have hin := (checkE_valid hv).1.inputs
 refine PC_introS T_ok Try.func24 rfl (by simp [Try.ntmps24]) fun G hG hR => ?_
 simp only [Try.ntmps24, Try.results24] at hG ⊢
 simp only [argEnv, Nat.zero_add, Nat.reduceAdd]
 refine awpS_seq ?_
 refine awpS_reg T_ok fun K hK => ?_
 simp [hG, List.getD_cons_zero, List.getD_cons_succ, -List.getD_eq_getElem?_getD]
 refine ⟨Cond.mk (by simp [-List.getD_eq_getElem?_getD]), hK _ ?_⟩
 clear K hK
 refine awpS_seq ?_
 refine awpS_reg T_ok fun K hK => ?_
 simp [hG, List.getD_cons_zero, List.getD_cons_succ, -List.getD_eq_getElem?_getD]
 refine hK _ ?_
 clear K hK
 refine awpS_seq ?_
 refine awpS_seq ?_
 refine awpS_reg T_ok fun K hK => ?_
 simp [hG, List.getD_cons_zero, List.getD_cons_succ, -List.getD_eq_getElem?_getD]
 refine ⟨Cond.mk (by simp [-List.getD_eq_getElem?_getD]; omega), hK _ ?_⟩
 clear K hK
 refine awpS_block ?_
 refine awpS_loop (α := Nat) (fun k => ⟨[(2, .ptr (0, 0) 0 0), (5, .sl (1, 0) 0 k), (12, .vsl (min 12 l.length) 1 (fun i _ => .int .u8 (l.getD i 0).toNat)), (13, .int .i64 (min 12 l.length : Nat)), (14, .int .i64 k)], [(0, .one (.arr 1 4 (fun _ => encF e))), (1, .one (.arr k 1 (fun i _ => .int .i64 ((inputsL e l).getD i 0))))], 2⟩) (fun k => k ≤ min 12 l.length) (fun k => min 12 l.length - k) (0) (Nat.zero_le _) ?_ ?_
 ·
  refine wk_of (id) (fun _ => false) (fun k => k == 1) ?_ ?_ rfl (Nat.zero_le _) (fun k hk => absurd hk (Nat.not_lt_zero _))
  · simp [hG, List.getD_cons_zero, List.getD_cons_succ, -List.getD_eq_getElem?_getD]; exact ⟨⟨by omega, fun i _ => rfl⟩, by omega⟩
  · simp [hG, List.getD_cons_zero, List.getD_cons_succ, -List.getD_eq_getElem?_getD]
 ·
  rintro k hk
  refine awpS_seq ?_
  refine awpS_reg T_ok fun K hK => ?_
  simp [hG, List.getD_cons_zero, List.getD_cons_succ, -List.getD_eq_getElem?_getD]
  refine hK _ ?_
  clear K hK
  refine awpS_seq ?_
  refine awpS_cond rfl (fun hb15 => ?_) (fun hb15 => ?_)
  ·
   try simp [-List.getD_eq_getElem?_getD] at hb15
   have hat := inputsL_at (e := e) (l := l) (k := k) (by omega)
   refine awpS_skip ?_
   refine awpS_seq ?_
   refine awpS_block ?_
   refine awpS_seq ?_
   refine awpS_reg T_ok fun K hK => ?_
   simp [hG, List.getD_cons_zero, List.getD_cons_succ, -List.getD_eq_getElem?_getD]
   refine ⟨Cond.mk (by omega), hK _ ?_⟩
   clear K hK
   refine awpS_reg T_ok fun K hK => ?_
   simp [hG, List.getD_cons_zero, List.getD_cons_succ, -List.getD_eq_getElem?_getD]
   first | refine hK _ ?_ | refine ⟨Cond.mk (by have hb8 := (l.getD k 0).toNat_lt; clear hK hat; simp [-List.getD_eq_getElem?_getD]; repeat (first | omega | apply And.intro)), hK _ ?_⟩
   clear K hK
   refine awpS_nil ?_
   refine blockQ_norm (thenQ_norm ?_)
   refine awpS_reg T_ok fun K hK => ?_
   simp [hG, List.getD_cons_zero, List.getD_cons_succ, -List.getD_eq_getElem?_getD]
   refine ⟨Cond.mk (by omega), hK _ ?_⟩
   clear K hK
   refine awpS_nil ?_
   refine round_end (k + 1) (by omega) (by omega) ?_
   refine wk_of (fun k => if k = 1 then 3 else k) (fun _ => false) (fun _ => false) ?_ ?_ rfl (Nat.zero_le _) (fun k hk => absurd hk (Nat.not_lt_zero _))
   · simp [hG, List.getD_cons_zero, List.getD_cons_succ, -List.getD_eq_getElem?_getD]
   · simp [hG, List.getD_cons_zero, List.getD_cons_succ, -List.getD_eq_getElem?_getD]; exact fun i hi => app_last hi hat
  ·
   try simp [-List.getD_eq_getElem?_getD] at hb15
   obtain rfl : k = min 12 l.length := (by omega)
   refine awpS_exit ?_
   refine thenQ_exit (thenQ_exit ?_)
   refine blockQ_exit (thenQ_norm ?_)
   refine awpS_seq ?_
   refine awpS_reg T_ok fun K hK => ?_
   simp [hG, List.getD_cons_zero, List.getD_cons_succ, -List.getD_eq_getElem?_getD]
   refine hK _ ?_
   clear K hK
   refine awpS_ret ?_
   refine RetOK_of ?_
   simp [hG, List.getD_cons_zero, List.getD_cons_succ, -List.getD_eq_getElem?_getD]
   rw [inputsL_len]; exact ⟨rfl, Nat.le_refl _⟩

set_option maxRecDepth 100000 in
theorem mergedLaw_c (e : Enc) (st : Int) (hst : 0 ≤ st ∧ st < 256) (l : List UInt8) : PC Try.prog 5 [.agg 4 (encF e), .int .u8 st, Lift.bytes l] (.bool true) := by
 obtain ⟨s, hse⟩ : ∃ s : Int, st % (e.rows.length : Int) = s := ⟨_, rfl⟩
 refine PC_introS T_ok Try.func5 rfl (by simp [Try.ntmps5]) fun G hG hR => ?_
 simp only [Try.ntmps5, Try.results5] at hG ⊢
 simp only [argEnv, Nat.zero_add, Nat.reduceAdd]
 refine awpS_seq ?_
 refine awpS_reg T_ok fun K hK => ?_
 simp [hG, List.getD_cons_zero, List.getD_cons_succ, -List.getD_eq_getElem?_getD, hse]
 refine ⟨Cond.mk (by simp [-List.getD_eq_getElem?_getD]), hK _ ?_⟩
 clear K hK
 refine awpS_seq ?_
 refine awpS_seq ?_
 refine awpS_regL ?_
 refine awpL_reg T_ok 1 fun K hK => ?_
 simp [hG, List.getD_cons_zero, List.getD_cons_succ, -List.getD_eq_getElem?_getD, hse]
 refine hK _ ?_
 clear K hK
 refine awpL_call cal11 rfl rfl (fun _ => rfl) (fun hg => fine_c e) (fun hg => ?_) (fun hg => ?_) fun K hK => ?_
 · simp [hG, List.getD_cons_zero, List.getD_cons_succ, -List.getD_eq_getElem?_getD, hse]
 · simp [hG, List.getD_cons_zero, List.getD_cons_succ, -List.getD_eq_getElem?_getD, hse]
 simp [hG, List.getD_cons_zero, List.getD_cons_succ, -List.getD_eq_getElem?_getD, hse]
 refine hK _ ?_
 clear K hK
 refine awpL_reg T_ok 1 fun K hK => ?_
 simp [hG, List.getD_cons_zero, List.getD_cons_succ, -List.getD_eq_getElem?_getD, hse]
 refine hK _ ?_
 clear K hK
 refine awpL_nil ?_
 refine awpS_cond rfl (fun hb24 => ?_) (fun hb24 => ?_)
 ·
  try simp [-List.getD_eq_getElem?_getD] at hb24
  refine awpS_seq ?_
  refine awpS_regL ?_
  refine awpL_call cal12 rfl rfl (fun _ => rfl) (fun hg => awake_c) (fun hg => ?_) (fun hg => ?_) fun K hK => ?_
  · simp [hG, List.getD_cons_zero, List.getD_cons_succ, -List.getD_eq_getElem?_getD, hse]
  · simp [hG, List.getD_cons_zero, List.getD_cons_succ, -List.getD_eq_getElem?_getD, hse]
  simp [hG, List.getD_cons_zero, List.getD_cons_succ, -List.getD_eq_getElem?_getD, hse]
  refine hK _ ?_
  clear K hK
  refine awpL_reg T_ok 1 fun K hK => ?_
  simp [hG, List.getD_cons_zero, List.getD_cons_succ, -List.getD_eq_getElem?_getD, hse]
  refine hK _ ?_
  clear K hK
  refine awpL_nil ?_
  refine awpS_ret ?_
  refine RetOK_of ?_
  simp [hG, List.getD_cons_zero, List.getD_cons_succ, -List.getD_eq_getElem?_getD, hse]
 ·
  try simp [-List.getD_eq_getElem?_getD] at hb24
  have hfi := hb24
  have hv : checkE e = 0 := (by have := hb24; simp [fineE] at this; exact this.1.2)
  have hpos := (checkE_valid hv).2.1
  have hin := (checkE_valid hv).1.inputs
  have hl64 := rows_len hv
  have hs0 : 0 ≤ s := (by rw [← hse]; exact Int.emod_nonneg _ (by omega))
  have hs1 : s < (e.rows.length : Int) := (by rw [← hse]; exact Int.emod_lt_of_pos _ (by omega))
  have hgi := inputsL_good (e := e) (l := l) hin.1
  have hli := inputsL_le (e := e) (l := l)
  have hvm := merge_valid hv
  have hok1 := (classesE_ok hv).1
  have hmr := merge_rows hv
  have hcl := cls_lt hv (s := s.toNat) (by omega)
  have hle := mrowsAt_len e (classesE e) e.rows.length
  rw [← mergeE_rows] at hle
  have hrun := merged_run hv hs0 hs1 hgi
  have hro := runE_ok hv hs0 hs1 hgi
  have hgm : ∀ i ∈ inputsL e l, badI (mergeE e) i = false := hgi
  have hom := (classesE_ok hvm).1
  refine awpS_skip ?_
  refine awpS_seq ?_
  refine awpS_draw hR mixed [] ⟨[], [], []⟩ fun mu0 => ?_
  refine awpA_tk T_ok [0, 1, 2, 3, 4, 5, 6, 7] [] (fuel := 3) [7, 6, 5, 4, 3, 2, 1, 0] (by decide +kernel) (by decide +kernel) rfl rfl fun K hK => ?_
  simp [hG, List.getD_cons_zero, List.getD_cons_succ, -List.getD_eq_getElem?_getD, hse]
  first | refine hK _ ?_ | refine ⟨Cond.mk (by clear hK; simp [-List.getD_eq_getElem?_getD]; repeat (first | omega | exact trivial | apply And.intro)), hK _ ?_⟩
  clear K hK
  refine awpA_only (fuel := 2) (i := 8) (by decide +kernel) ?_
  refine awpO_call cal24 rfl rfl rfl (fun _ => rfl) (fun hg => inputs_c e l hv) (fun hg => ?_) (fun hg => ?_) fun K hK => ?_
  · simp [hG, List.getD_cons_zero, List.getD_cons_succ, -List.getD_eq_getElem?_getD, hse]
  · simp [hG, List.getD_cons_zero, List.getD_cons_succ, -List.getD_eq_getElem?_getD, hse]
  simp [hG, List.getD_cons_zero, List.getD_cons_succ, -List.getD_eq_getElem?_getD, hse]
  refine hK _ ?_
  clear K hK
  refine awpA_tk T_ok [9, 10] [] (fuel := 0) [10, 9, 8, 7, 6, 5, 4, 3, 2, 1, 0] (by decide +kernel) (by decide +kernel) rfl rfl fun K hK => ?_
  simp [hG, List.getD_cons_zero, List.getD_cons_succ, -List.getD_eq_getElem?_getD, hse]
  refine hK _ ?_
  clear K hK
  refine awpA_done (by decide +kernel) ?_
  refine awpS_seq ?_
  refine awpS_regL ?_
  refine awpL_reg T_ok 1 fun K hK => ?_
  simp [hG, List.getD_cons_zero, List.getD_cons_succ, -List.getD_eq_getElem?_getD, hse]
  refine hK _ ?_
  clear K hK
  refine awpL_call cal14 rfl rfl (fun _ => rfl) (fun hg => mergeV_c e hv) (fun hg => ?_) (fun hg => ?_) fun K hK => ?_
  · simp [hG, List.getD_cons_zero, List.getD_cons_succ, -List.getD_eq_getElem?_getD, hse]
  · simp [hG, List.getD_cons_zero, List.getD_cons_succ, -List.getD_eq_getElem?_getD, hse]
  simp [hG, List.getD_cons_zero, List.getD_cons_succ, -List.getD_eq_getElem?_getD, hse]
  refine hK _ ?_
  clear K hK
  refine awpL_reg T_ok 8 fun K hK => ?_
  simp [hG, List.getD_cons_zero, List.getD_cons_succ, -List.getD_eq_getElem?_getD, hse]
  refine ⟨Cond.mk (by simp [-List.getD_eq_getElem?_getD]), hK _ ?_⟩
  clear K hK
  refine awpL_nil ?_
  refine awpS_seq ?_
  refine awpS_seq ?_
  refine awpS_regL ?_
  refine awpL_reg T_ok 12 fun K hK => ?_
  simp [hG, List.getD_cons_zero, List.getD_cons_succ, -List.getD_eq_getElem?_getD, hse]
  refine ⟨Cond.mk (by simp [-List.getD_eq_getElem?_getD]), hK _ ?_⟩
  clear K hK
  refine awpL_call cal25 rfl rfl (fun _ => rfl) (fun hg => check_c (mergeE e)) (fun hg => ?_) (fun hg => ?_) fun K hK => ?_
  · first | (simp [hG, List.getD_cons_zero, List.getD_cons_succ, -List.getD_eq_getElem?_getD, hse]; done) | (simp [-List.getD_eq_getElem?_getD] at hg; done) | (simp [-List.getD_eq_getElem?_getD] at hg; simp [hG, List.getD_cons_zero, List.getD_cons_succ, -List.getD_eq_getElem?_getD, hse]; first | omega | exact hg | (simp_all [-List.getD_eq_getElem?_getD]; done) | (simp_all [-List.getD_eq_getElem?_getD]; first | exact ⟨rfl, rfl⟩ | exact rfl))
  · first | (simp [hG, List.getD_cons_zero, List.getD_cons_succ, -List.getD_eq_getElem?_getD, hse]; done) | (simp [-List.getD_eq_getElem?_getD] at hg; done) | (simp [-List.getD_eq_getElem?_getD] at hg; simp [hG, List.getD_cons_zero, List.getD_cons_succ, -List.getD_eq_getElem?_getD, hse]; first | omega | exact hg | (simp_all [-List.getD_eq_getElem?_getD]; done) | (simp_all [-List.getD_eq_getElem?_getD]; first | exact ⟨rfl, rfl⟩ | exact rfl))
  simp [hG, List.getD_cons_zero, List.getD_cons_succ, -List.getD_eq_getElem?_getD, hse]
  refine hK _ ?_
  clear K hK
  refine awpL_reg T_ok 11 fun K hK => ?_
  simp [hG, List.getD_cons_zero, List.getD_cons_succ, -List.getD_eq_getElem?_getD, hse]
  refine ⟨Cond.mk (by simp [-List.getD_eq_getElem?_getD]), hK _ ?_⟩
  clear K hK
  refine awpL_nil ?_
  refine awpS_cond rfl (fun hb64 => ?_) (fun hb64 => ?_)
  ·
   try simp [-List.getD_eq_getElem?_getD] at hb64
   refine awpS_seq ?_
   refine awpS_reg T_ok fun K hK => ?_
   simp [hG, List.getD_cons_zero, List.getD_cons_succ, -List.getD_eq_getElem?_getD, hse]
   refine hK _ ?_
   clear K hK
   refine awpS_ret ?_
   refine RetOK_of ?_
   simp [hG, List.getD_cons_zero, List.getD_cons_succ, -List.getD_eq_getElem?_getD, hse]
   omega
  ·
   try simp [-List.getD_eq_getElem?_getD] at hb64
   refine awpS_skip ?_
   refine awpS_seq ?_
   refine awpS_regL ?_
   refine awpL_reg T_ok 3 fun K hK => ?_
   simp [hG, List.getD_cons_zero, List.getD_cons_succ, -List.getD_eq_getElem?_getD, hse]
   refine hK _ ?_
   clear K hK
   refine awpL_call cal26 rfl rfl (fun _ => rfl) (fun hg => encodeG_c e s (inputsL e l) hv hs0 hs1 hgi (by omega)) (fun hg => ?_) (fun hg => ?_) fun K hK => ?_
   · simp [hG, List.getD_cons_zero, List.getD_cons_succ, -List.getD_eq_getElem?_getD, hse]
   · simp [hG, List.getD_cons_zero, List.getD_cons_succ, -List.getD_eq_getElem?_getD, hse]
   simp [hG, List.getD_cons_zero, List.getD_cons_succ, -List.getD_eq_getElem?_getD, hse]
   refine hK _ ?_
   clear K hK
   refine awpL_reg T_ok 7 fun K hK => ?_
   simp [hG, List.getD_cons_zero, List.getD_cons_succ, -List.getD_eq_getElem?_getD, hse]
   refine hK _ ?_
   clear K hK
   refine awpL_nil ?_
   refine awpS_seq ?_
   refine awpS_draw hR mixed [] ⟨[], [], []⟩ fun mu0 => ?_
   refine awpA_tk T_ok [0, 1, 2, 3, 4, 5] [] (fuel := 8) [5, 4, 3, 2, 1, 0] (by decide +kernel) (by decide +kernel) rfl rfl fun K hK => ?_
   simp [hG, List.getD_cons_zero, List.getD_cons_succ, -List.getD_eq_getElem?_getD, hse]
   refine ⟨Cond.mk (by omega), hK _ ?_⟩
   clear K hK
   refine awpA_only (fuel := 7) (i := 6) (by decide +kernel) ?_
   refine awpO_call cal26 rfl rfl rfl (fun _ => rfl) (fun hg => encodeG_c (mergeE e) ((classesE e).getD s.toNat 0) (inputsL e l) hvm (by omega) (by omega) hgm (by omega)) (fun hg => ?_) (fun hg => ?_) fun K hK => ?_
   · simp [hG, List.getD_cons_zero, List.getD_cons_succ, -List.getD_eq_getElem?_getD, hse]
   · simp [hG, List.getD_cons_zero, List.getD_cons_succ, -List.getD_eq_getElem?_getD, hse]
   simp [hG, List.getD_cons_zero, List.getD_cons_succ, -List.getD_eq_getElem?_getD, hse]
   refine hK _ ?_
   clear K hK
   refine awpA_tk T_ok [7, 8, 9, 10, 11, 12, 13] [] (fuel := 0) [13, 12, 11, 10, 9, 8, 7, 6, 5, 4, 3, 2, 1, 0] (by decide +kernel) (by decide +kernel) rfl rfl fun K hK => ?_
   simp [hG, List.getD_cons_zero, List.getD_cons_succ, -List.getD_eq_getElem?_getD, hse]
   refine hK _ ?_
   clear K hK
   refine awpA_done (by decide +kernel) ?_
   refine awpS_seq ?_
   refine awpS_seq ?_
   refine awpS_reg T_ok fun K hK => ?_
   simp [hG, List.getD_cons_zero, List.getD_cons_succ, -List.getD_eq_getElem?_getD, hse]
   refine ⟨Cond.mk (by simp [-List.getD_eq_getElem?_getD]; repeat (first | intro _ | exact And.intro ‹_› ‹_› | apply And.intro | assumption | omega | exact decide_eq_true (by assumption))), hK _ ?_⟩
   clear K hK
   refine awpS_cond rfl (fun hb112 => ?_) (fun hb112 => ?_)
   ·
    try simp [-List.getD_eq_getElem?_getD] at hb112
    refine awpS_seq ?_
    refine awpS_reg T_ok fun K hK => ?_
    simp [hG, List.getD_cons_zero, List.getD_cons_succ, -List.getD_eq_getElem?_getD, hse]
    refine hK _ ?_
    clear K hK
    refine awpS_ret ?_
    refine RetOK_of ?_
    simp [hG, List.getD_cons_zero, List.getD_cons_succ, -List.getD_eq_getElem?_getD, hse]
    rw [hrun] at hb112; rcases hb112 with ((h | h) | h) | h <;> first | exact h rfl | omega
   ·
    try simp [-List.getD_eq_getElem?_getD] at hb112
    refine awpS_skip ?_
    refine awpS_seq ?_
    refine awpS_regL ?_
    refine awpL_reg T_ok 1 fun K hK => ?_
    simp [hG, List.getD_cons_zero, List.getD_cons_succ, -List.getD_eq_getElem?_getD, hse]
    refine hK _ ?_
    clear K hK
    refine awpL_call cal13 rfl rfl (fun _ => rfl) (fun hg => partV_c (mergeE e) hvm) (fun hg => ?_) (fun hg => ?_) fun K hK => ?_
    · simp [hG, List.getD_cons_zero, List.getD_cons_succ, -List.getD_eq_getElem?_getD, hse]
    · simp [hG, List.getD_cons_zero, List.getD_cons_succ, -List.getD_eq_getElem?_getD, hse]
    simp [hG, List.getD_cons_zero, List.getD_cons_succ, -List.getD_eq_getElem?_getD, hse]
    refine hK _ ?_
    clear K hK
    refine awpL_reg T_ok 5 fun K hK => ?_
    simp [hG, List.getD_cons_zero, List.getD_cons_succ, -List.getD_eq_getElem?_getD, hse]
    refine hK _ ?_
    clear K hK
    refine awpL_nil ?_
    refine awpS_seq ?_
    refine awpS_seq ?_
    refine awpS_reg T_ok fun K hK => ?_
    simp [hG, List.getD_cons_zero, List.getD_cons_succ, -List.getD_eq_getElem?_getD, hse]
    refine ⟨Cond.mk (by simp [-List.getD_eq_getElem?_getD]), hK _ ?_⟩
    clear K hK
    refine awpS_cond rfl (fun hb127 => ?_) (fun hb127 => ?_)
    ·
     try simp [-List.getD_eq_getElem?_getD] at hb127
     refine awpS_seq ?_
     refine awpS_reg T_ok fun K hK => ?_
     simp [hG, List.getD_cons_zero, List.getD_cons_succ, -List.getD_eq_getElem?_getD, hse]
     refine hK _ ?_
     clear K hK
     refine awpS_ret ?_
     refine RetOK_of ?_
     simp [hG, List.getD_cons_zero, List.getD_cons_succ, -List.getD_eq_getElem?_getD, hse]
     omega
    ·
     try simp [-List.getD_eq_getElem?_getD] at hb127
     refine awpS_skip ?_
     refine awpS_seq ?_
     refine awpS_seq ?_
     refine awpS_reg T_ok fun K hK => ?_
     simp [hG, List.getD_cons_zero, List.getD_cons_succ, -List.getD_eq_getElem?_getD, hse]
     refine hK _ ?_
     clear K hK
     refine awpS_block ?_
     refine awpS_loop (α := Nat) (fun k => ⟨[(128, ints (classesE (mergeE e))), (129, .int .i64 (classesE (mergeE e)).length), (130, .int .i64 k)], [], 0⟩) (fun k => k ≤ (classesE (mergeE e)).length) (fun k => (classesE (mergeE e)).length - k) (0) (Nat.zero_le _) ?_ ?_
     ·
      refine wk_of (id) (fun _ => false) (fun _ => false) ?_ ?_ rfl (Nat.zero_le _) (fun k hk => absurd hk (Nat.not_lt_zero _))
      · simp [hG, List.getD_cons_zero, List.getD_cons_succ, -List.getD_eq_getElem?_getD, hse]
      · simp [hG, List.getD_cons_zero, List.getD_cons_succ, -List.getD_eq_getElem?_getD, hse]
     ·
      rintro k hk
      refine awpS_seq ?_
      refine awpS_reg T_ok fun K hK => ?_
      simp [hG, List.getD_cons_zero, List.getD_cons_succ, -List.getD_eq_getElem?_getD, hse]
      refine hK _ ?_
      clear K hK
      refine awpS_seq ?_
      refine awpS_cond rfl (fun hb131 => ?_) (fun hb131 => ?_)
      ·
       try simp [-List.getD_eq_getElem?_getD] at hb131
       refine awpS_skip ?_
       refine awpS_seq ?_
       refine awpS_block ?_
       refine awpS_seq ?_
       refine awpS_reg T_ok fun K hK => ?_
       simp [hG, List.getD_cons_zero, List.getD_cons_succ, -List.getD_eq_getElem?_getD, hse]
       refine ⟨Cond.mk (by omega), hK _ ?_⟩
       clear K hK
       refine awpS_seq ?_
       refine awpS_reg T_ok fun K hK => ?_
       simp [hG, List.getD_cons_zero, List.getD_cons_succ, -List.getD_eq_getElem?_getD, hse]
       refine hK _ ?_
       clear K hK
       refine awpS_cond rfl (fun hb137 => ?_) (fun hb137 => ?_)
       ·
        try simp [-List.getD_eq_getElem?_getD] at hb137
        refine awpS_seq ?_
        refine awpS_reg T_ok fun K hK => ?_
        simp [hG, List.getD_cons_zero, List.getD_cons_succ, -List.getD_eq_getElem?_getD, hse]
        refine hK _ ?_
        clear K hK
        refine awpS_ret ?_
        refine blockQ_ret (thenQ_ret ?_)
        refine thenQ_ret (thenQ_ret ?_)
        refine blockQ_ret (thenQ_ret ?_)
        refine RetOK_of ?_
        simp [hG, List.getD_cons_zero, List.getD_cons_succ, -List.getD_eq_getElem?_getD, hse]
        exact hb137 (merged_classes hv k (by omega))
       ·
        try simp [-List.getD_eq_getElem?_getD] at hb137
        refine awpS_skip ?_
        refine awpS_nil ?_
        refine blockQ_norm (thenQ_norm ?_)
        refine awpS_reg T_ok fun K hK => ?_
        simp [hG, List.getD_cons_zero, List.getD_cons_succ, -List.getD_eq_getElem?_getD, hse]
        refine ⟨Cond.mk (by omega), hK _ ?_⟩
        clear K hK
        refine awpS_nil ?_
        refine round_end (k + 1) (by omega) (by omega) ?_
        refine wk_of (id) (fun _ => false) (fun _ => false) ?_ ?_ rfl (Nat.zero_le _) (fun k hk => absurd hk (Nat.not_lt_zero _))
        · simp [hG, List.getD_cons_zero, List.getD_cons_succ, -List.getD_eq_getElem?_getD, hse]
        · simp [hG, List.getD_cons_zero, List.getD_cons_succ, -List.getD_eq_getElem?_getD, hse]
      ·
       try simp [-List.getD_eq_getElem?_getD] at hb131
       refine awpS_exit ?_
       refine thenQ_exit (thenQ_exit ?_)
       refine blockQ_exit (thenQ_norm ?_)
       refine awpS_seq ?_
       refine awpS_regL ?_
       refine awpL_call cal12 rfl rfl (fun _ => rfl) (fun hg => awake_c) (fun hg => ?_) (fun hg => ?_) fun K hK => ?_
       · simp [hG, List.getD_cons_zero, List.getD_cons_succ, -List.getD_eq_getElem?_getD, hse]
       · simp [hG, List.getD_cons_zero, List.getD_cons_succ, -List.getD_eq_getElem?_getD, hse]
       simp [hG, List.getD_cons_zero, List.getD_cons_succ, -List.getD_eq_getElem?_getD, hse]
       refine hK _ ?_
       clear K hK
       refine awpL_reg T_ok 1 fun K hK => ?_
       simp [hG, List.getD_cons_zero, List.getD_cons_succ, -List.getD_eq_getElem?_getD, hse]
       refine hK _ ?_
       clear K hK
       refine awpL_nil ?_
       refine awpS_ret ?_
       refine RetOK_of ?_
       simp [hG, List.getD_cons_zero, List.getD_cons_succ, -List.getD_eq_getElem?_getD, hse]

end Go.Proofs.Ytmjkbidnghcfnaa
