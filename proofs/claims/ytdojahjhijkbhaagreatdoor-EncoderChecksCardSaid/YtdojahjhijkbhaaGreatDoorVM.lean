/-
 Walks: the examples; what the statements are about.
-/
import Derived.Test.YtdojahjhijkbhaaGreatDoorVJ
import Derived.Test.YtdojahjhijkbhaaGreatDoorVL
import Derived.Test.YtdojahjhijkbhaaGreatDoorQM
namespace Go.Proofs.YtdojahjhijkbhaaGreatDoor
set_option linter.unusedSimpArgs false
set_option linter.unusedVariables false
open Go Go.Lift Go.Proofs

theorem smp_sml : Sml smp := by
 exact ⟨by decide, by decide, by decide, by decide⟩
@[simp] theorem smp_letters : smp.letters = 2 := rfl
@[simp] theorem smp_block : smp.block = 2 := rfl
@[simp] theorem smp_inputs : smp.inputs = 2 := rfl
@[simp] theorem smp_len : smp.rows.length = 2 := rfl
@[simp] theorem smp_r0 : smp.rows.getD 0 [] = [⟨0, [48, 49]⟩, ⟨1, [48, 48]⟩] := rfl
@[simp] theorem smp_r1 : smp.rows.getD 1 [] = [⟨0, [49, 48]⟩, ⟨1, [48, 48]⟩] := rfl
set_option maxRecDepth 100000 in
theorem great_c (e : Enc) : PC Tryz.prog 6 [.agg 4 (encF e)] (.bool (great e)) := by
 refine PC_introS T_ok Tryz.func6 rfl (by simp [Tryz.ntmps6]) fun G hG hR => ?_
 simp only [Tryz.ntmps6, Tryz.results6] at hG ⊢
 simp only [argEnv, Nat.zero_add, Nat.reduceAdd]
 refine awpS_seq ?_
 refine awpS_reg T_ok fun K hK => ?_
 simp [hG, List.getD_cons_zero, List.getD_cons_succ, -List.getD_eq_getElem?_getD, pureOp]
 refine ⟨Cond.mk (by exact trivial), hK _ ?_⟩
 clear K hK
 refine awpS_seq ?_
 refine awpS_seq ?_
 refine awpS_reg T_ok fun K hK => ?_
 simp [hG, List.getD_cons_zero, List.getD_cons_succ, -List.getD_eq_getElem?_getD, pureOp]
 first | refine hK _ ?_ | refine ⟨Cond.mk (by exact fun h => by omega), hK _ ?_⟩
 clear K hK
 refine awpS_cond rfl (fun hb20 => ?_) (fun hb20 => ?_)
 ·
  try simp [-List.getD_eq_getElem?_getD] at hb20
  refine awpS_seq ?_
  refine awpS_reg T_ok fun K hK => ?_
  simp [hG, List.getD_cons_zero, List.getD_cons_succ, -List.getD_eq_getElem?_getD, pureOp]
  refine hK _ ?_
  clear K hK
  refine awpS_ret ?_
  refine RetOK_of ?_
  simp [hG, List.getD_cons_zero, List.getD_cons_succ, -List.getD_eq_getElem?_getD, pureOp]
  exact great_yes (.inl (by unfold greatTop; omega))
 ·
  try simp [-List.getD_eq_getElem?_getD] at hb20
  refine awpS_skip ?_
  refine awpS_seq ?_
  refine awpS_seq ?_
  refine awpS_reg T_ok fun K hK => ?_
  simp [hG, List.getD_cons_zero, List.getD_cons_succ, -List.getD_eq_getElem?_getD, pureOp]
  refine hK _ ?_
  clear K hK
  refine awpS_block ?_
  refine awpS_loop (α := Nat) (fun k => ⟨[(1, .ptr (0, 0) 0 0), (3, .int .i64 k)], [(0, .one (.arr 1 4 (fun _ => encF e)))], 1⟩) (fun k => ¬ greatTop e ∧ k ≤ e.rows.length ∧ ∀ k1, k1 < k → ¬ greatLen (e.rows.getD k1 []) ∧ ∀ i, i < (e.rows.getD k1 []).length → ¬ greatWord ((e.rows.getD k1 []).getD i dc)) (fun k => e.rows.length - k) (0) (⟨by unfold greatTop; omega, Nat.zero_le _, fun j hj => absurd hj (Nat.not_lt_zero _)⟩) ?_ ?_
  ·
   refine wk_of (id) (fun _ => false) (fun _ => false) ?_ ?_ rfl (Nat.zero_le _) (fun k hk => absurd hk (Nat.not_lt_zero _))
   · simp [hG, List.getD_cons_zero, List.getD_cons_succ, -List.getD_eq_getElem?_getD, pureOp]
   · simp [hG, List.getD_cons_zero, List.getD_cons_succ, -List.getD_eq_getElem?_getD, pureOp]
  ·
   rintro k ⟨ht, hk, hn⟩
   refine awpS_seq ?_
   refine awpS_seq ?_
   refine awpS_reg T_ok fun K hK => ?_
   simp [hG, List.getD_cons_zero, List.getD_cons_succ, -List.getD_eq_getElem?_getD, pureOp]
   refine hK _ ?_
   clear K hK
   refine awpS_cond rfl (fun hb25 => ?_) (fun hb25 => ?_)
   ·
    try simp [-List.getD_eq_getElem?_getD] at hb25
    refine awpS_skip ?_
    refine awpS_seq ?_
    refine awpS_block ?_
    refine awpS_seq ?_
    refine awpS_seq ?_
    refine awpS_reg T_ok fun K hK => ?_
    simp [hG, List.getD_cons_zero, List.getD_cons_succ, -List.getD_eq_getElem?_getD, pureOp]
    refine ⟨Cond.mk (by omega), hK _ ?_⟩
    clear K hK
    refine awpS_cond rfl (fun hb34 => ?_) (fun hb34 => ?_)
    ·
     try simp [-List.getD_eq_getElem?_getD] at hb34
     refine awpS_seq ?_
     refine awpS_reg T_ok fun K hK => ?_
     simp [hG, List.getD_cons_zero, List.getD_cons_succ, -List.getD_eq_getElem?_getD, pureOp]
     refine hK _ ?_
     clear K hK
     refine awpS_ret ?_
     refine blockQ_ret (thenQ_ret ?_)
     refine thenQ_ret (thenQ_ret ?_)
     refine blockQ_ret (thenQ_ret ?_)
     refine RetOK_of ?_
     simp [hG, List.getD_cons_zero, List.getD_cons_succ, -List.getD_eq_getElem?_getD, pureOp]
     exact great_row hb25 (by unfold greatLen; omega)
    ·
     try simp [-List.getD_eq_getElem?_getD] at hb34
     refine awpS_skip ?_
     refine awpS_seq ?_
     refine awpS_reg T_ok fun K hK => ?_
     simp [hG, List.getD_cons_zero, List.getD_cons_succ, -List.getD_eq_getElem?_getD, pureOp]
     refine hK _ ?_
     clear K hK
     refine awpS_block ?_
     refine awpS_loop (α := Nat) (fun i => ⟨[(1, .ptr (0, 0) 0 0), (3, .int .i64 k), (4, .int .i64 i)], [(0, .one (.arr 1 4 (fun _ => encF e)))], 1⟩) (fun i => i ≤ (e.rows.getD k []).length ∧ ∀ i1, i1 < i → ¬ greatWord ((e.rows.getD k []).getD i1 dc)) (fun i => (e.rows.getD k []).length - i) (0) (⟨Nat.zero_le _, fun j hj => absurd hj (Nat.not_lt_zero _)⟩) ?_ ?_
     ·
      refine wk_of (id) (fun _ => false) (fun _ => false) ?_ ?_ rfl (Nat.zero_le _) (fun k hk => absurd hk (Nat.not_lt_zero _))
      · simp [hG, List.getD_cons_zero, List.getD_cons_succ, -List.getD_eq_getElem?_getD, pureOp]
      · simp [hG, List.getD_cons_zero, List.getD_cons_succ, -List.getD_eq_getElem?_getD, pureOp]
     ·
      rintro i ⟨hi, hm⟩
      refine awpS_seq ?_
      refine awpS_seq ?_
      refine awpS_reg T_ok fun K hK => ?_
      simp [hG, List.getD_cons_zero, List.getD_cons_succ, -List.getD_eq_getElem?_getD, pureOp]
      refine ⟨Cond.mk (by omega), hK _ ?_⟩
      clear K hK
      refine awpS_cond rfl (fun hb42 => ?_) (fun hb42 => ?_)
      ·
       try simp [-List.getD_eq_getElem?_getD] at hb42
       refine awpS_skip ?_
       refine awpS_seq ?_
       refine awpS_block ?_
       refine awpS_seq ?_
       refine awpS_reg T_ok fun K hK => ?_
       simp [hG, List.getD_cons_zero, List.getD_cons_succ, -List.getD_eq_getElem?_getD, pureOp]
       refine ⟨Cond.mk (by omega), hK _ ?_⟩
       clear K hK
       refine awpS_cond rfl (fun hb55 => ?_) (fun hb55 => ?_)
       ·
        try simp [-List.getD_eq_getElem?_getD] at hb55
        refine awpS_seq ?_
        refine awpS_reg T_ok fun K hK => ?_
        simp [hG, List.getD_cons_zero, List.getD_cons_succ, -List.getD_eq_getElem?_getD, pureOp]
        refine hK _ ?_
        clear K hK
        refine awpS_ret ?_
        refine blockQ_ret (thenQ_ret ?_)
        refine thenQ_ret (thenQ_ret ?_)
        refine blockQ_ret (thenQ_ret ?_)
        refine blockQ_ret (thenQ_ret ?_)
        refine thenQ_ret (thenQ_ret ?_)
        refine blockQ_ret (thenQ_ret ?_)
        refine RetOK_of ?_
        simp [hG, List.getD_cons_zero, List.getD_cons_succ, -List.getD_eq_getElem?_getD, pureOp]
        exact great_word hb25 hb42 (by unfold greatWord; omega)
       ·
        try simp [-List.getD_eq_getElem?_getD] at hb55
        refine awpS_skip ?_
        refine awpS_nil ?_
        refine blockQ_norm (thenQ_norm ?_)
        refine awpS_reg T_ok fun K hK => ?_
        simp [hG, List.getD_cons_zero, List.getD_cons_succ, -List.getD_eq_getElem?_getD, pureOp]
        refine ⟨Cond.mk (by omega), hK _ ?_⟩
        clear K hK
        refine awpS_nil ?_
        refine round_end (i + 1) (⟨by omega, step_all hm (by unfold greatWord; omega)⟩) (by omega) ?_
        refine wk_of (id) (fun _ => false) (fun _ => false) ?_ ?_ rfl (Nat.zero_le _) (fun k hk => absurd hk (Nat.not_lt_zero _))
        · simp [hG, List.getD_cons_zero, List.getD_cons_succ, -List.getD_eq_getElem?_getD, pureOp]
        · simp [hG, List.getD_cons_zero, List.getD_cons_succ, -List.getD_eq_getElem?_getD, pureOp]
      ·
       try simp [-List.getD_eq_getElem?_getD] at hb42
       refine awpS_exit ?_
       refine thenQ_exit (thenQ_exit ?_)
       refine blockQ_exit (thenQ_norm ?_)
       refine awpS_nil ?_
       refine blockQ_norm (thenQ_norm ?_)
       refine awpS_reg T_ok fun K hK => ?_
       simp [hG, List.getD_cons_zero, List.getD_cons_succ, -List.getD_eq_getElem?_getD, pureOp]
       refine ⟨Cond.mk (by omega), hK _ ?_⟩
       clear K hK
       refine awpS_nil ?_
       refine round_end (k + 1) (⟨ht, by omega, step_all hn ⟨by unfold greatLen; omega, fun j hj => hm j (by omega)⟩⟩) (by omega) ?_
       refine wk_of (id) (fun _ => false) (fun _ => false) ?_ ?_ rfl (Nat.zero_le _) (fun k hk => absurd hk (Nat.not_lt_zero _))
       · simp [hG, List.getD_cons_zero, List.getD_cons_succ, -List.getD_eq_getElem?_getD, pureOp]
       · simp [hG, List.getD_cons_zero, List.getD_cons_succ, -List.getD_eq_getElem?_getD, pureOp]
   ·
    try simp [-List.getD_eq_getElem?_getD] at hb25
    refine awpS_exit ?_
    refine thenQ_exit (thenQ_exit ?_)
    refine blockQ_exit (thenQ_norm ?_)
    refine awpS_seq ?_
    refine awpS_reg T_ok fun K hK => ?_
    simp [hG, List.getD_cons_zero, List.getD_cons_succ, -List.getD_eq_getElem?_getD, pureOp]
    refine hK _ ?_
    clear K hK
    refine awpS_ret ?_
    refine RetOK_of ?_
    simp [hG, List.getD_cons_zero, List.getD_cons_succ, -List.getD_eq_getElem?_getD, pureOp]
    exact great_no ht (fun k1 hk1 => hn k1 (by omega))

set_option maxRecDepth 100000 in
theorem sample_c  : PC Tryz.prog 31 [] (.agg 4 (encF smp)) := by
 refine PC_introS T_ok Tryz.func31 rfl (by simp [Tryz.ntmps31]) fun G hG hR => ?_
 simp only [Tryz.ntmps31, Tryz.results31] at hG ⊢
 simp only [argEnv, Nat.zero_add, Nat.reduceAdd]
 refine awpS_seq ?_
 refine awpS_reg T_ok fun K hK => ?_
 simp [hG, List.getD_cons_zero, List.getD_cons_succ, -List.getD_eq_getElem?_getD]
 refine hK _ ?_
 clear K hK
 refine awpS_seq ?_
 refine awpS_reg T_ok fun K hK => ?_
 simp [hG, List.getD_cons_zero, List.getD_cons_succ, -List.getD_eq_getElem?_getD]
 refine ⟨Cond.mk (by simp [-List.getD_eq_getElem?_getD]), hK _ ?_⟩
 clear K hK
 refine awpS_ret ?_
 refine RetOK_of ?_
 simp [hG, List.getD_cons_zero, List.getD_cons_succ, -List.getD_eq_getElem?_getD]

set_option maxRecDepth 100000 in
theorem golden_c  : PC Tryz.prog 32 [] (.agg 3 (grF gold)) := by
 refine PC_introS T_ok Tryz.func32 rfl (by simp [Tryz.ntmps32]) fun G hG hR => ?_
 simp only [Tryz.ntmps32, Tryz.results32] at hG ⊢
 simp only [argEnv, Nat.zero_add, Nat.reduceAdd]
 refine awpS_seq ?_
 refine awpS_reg T_ok fun K hK => ?_
 simp [hG, List.getD_cons_zero, List.getD_cons_succ, -List.getD_eq_getElem?_getD]
 refine hK _ ?_
 clear K hK
 refine awpS_seq ?_
 refine awpS_reg T_ok fun K hK => ?_
 simp [hG, List.getD_cons_zero, List.getD_cons_succ, -List.getD_eq_getElem?_getD]
 refine ⟨Cond.mk (by simp [-List.getD_eq_getElem?_getD]), hK _ ?_⟩
 clear K hK
 refine awpS_ret ?_
 refine RetOK_of ?_
 simp [hG, List.getD_cons_zero, List.getD_cons_succ, -List.getD_eq_getElem?_getD]
 exact ⟨rfl, rfl, rfl, Nat.le_refl _, fun i hi => by rcases (show i = 0 ∨ i = 1 ∨ i = 2 by have h3 : i < 3 := hi; omega) with rfl | rfl | rfl <;> exact ⟨rfl, rfl, rfl⟩⟩

end Go.Proofs.YtdojahjhijkbhaaGreatDoor
