/-
 Walks: small functions of this seat.
-/
import Derived.Test.YtmjkbidnghcfnaaLT
import Derived.Test.YtmjkbidnghcfnaaLZ
import Derived.Test.YtmjkbidnghcfnaaWB
import Derived.Test.YtmjkbidnghcfnaaLC1
namespace Go.Proofs.Ytmjkbidnghcfnaa
set_option linter.unusedSimpArgs false
set_option linter.unusedVariables false
open Go Go.Lift Go.Proofs




set_option maxRecDepth 100000 in
theorem great_c (e : Enc) : PC Try.prog 16 [.agg 4 (encF e)] (.bool (great e)) := by
 refine PC_introS T_ok Try.func16 rfl (by simp [Try.ntmps16]) fun G hG hR => ?_
 simp only [Try.ntmps16, Try.results16] at hG ⊢
 simp only [argEnv, Nat.zero_add, Nat.reduceAdd]
 refine awpS_seq ?_
 refine awpS_reg T_ok fun K hK => ?_
 simp [hG, List.getD_cons_zero, List.getD_cons_succ, -List.getD_eq_getElem?_getD]
 refine ⟨Cond.mk (by simp [-List.getD_eq_getElem?_getD]), hK _ ?_⟩
 clear K hK
 refine awpS_seq ?_
 refine awpS_seq ?_
 refine awpS_reg T_ok fun K hK => ?_
 simp [hG, List.getD_cons_zero, List.getD_cons_succ, -List.getD_eq_getElem?_getD]
 first | refine hK _ ?_ | refine ⟨Cond.mk (by simp [-List.getD_eq_getElem?_getD]; refine ⟨by omega, fun h1 h2 => ?_, by omega⟩; have := mul_small (b := max 0 (min e.inputs 300)) (a := e.rows.length) (by omega) h2 (by omega) (by omega); omega), hK _ ?_⟩
 clear K hK
 refine awpS_cond rfl (fun hb31 => ?_) (fun hb31 => ?_)
 ·
  try simp [-List.getD_eq_getElem?_getD] at hb31
  refine awpS_seq ?_
  refine awpS_reg T_ok fun K hK => ?_
  simp [hG, List.getD_cons_zero, List.getD_cons_succ, -List.getD_eq_getElem?_getD]
  refine hK _ ?_
  clear K hK
  refine awpS_ret ?_
  refine RetOK_of ?_
  simp [hG, List.getD_cons_zero, List.getD_cons_succ, -List.getD_eq_getElem?_getD]
  exact great_yes (.inl (by unfold greatTop; omega))
 ·
  try simp [-List.getD_eq_getElem?_getD] at hb31
  refine awpS_skip ?_
  refine awpS_seq ?_
  refine awpS_seq ?_
  refine awpS_reg T_ok fun K hK => ?_
  simp [hG, List.getD_cons_zero, List.getD_cons_succ, -List.getD_eq_getElem?_getD]
  refine hK _ ?_
  clear K hK
  refine awpS_block ?_
  refine awpS_loop (α := Nat) (fun k => ⟨[(1, .ptr (0, 0) 0 0), (3, .int .i64 k)], [(0, .one (.arr 1 4 (fun _ => encF e)))], 1⟩) (fun k => ¬ greatTop e ∧ k ≤ e.rows.length ∧ ∀ k1, k1 < k → ¬ greatLen (e.rows.getD k1 []) ∧ ∀ i, i < (e.rows.getD k1 []).length → ¬ greatWord ((e.rows.getD k1 []).getD i dc)) (fun k => e.rows.length - k) (0) (⟨by unfold greatTop; omega, Nat.zero_le _, fun j hj => absurd hj (Nat.not_lt_zero _)⟩) ?_ ?_
  ·
   refine wk_of (id) (fun _ => false) (fun _ => false) ?_ ?_ rfl (Nat.zero_le _) (fun k hk => absurd hk (Nat.not_lt_zero _))
   · simp [hG, List.getD_cons_zero, List.getD_cons_succ, -List.getD_eq_getElem?_getD]
   · simp [hG, List.getD_cons_zero, List.getD_cons_succ, -List.getD_eq_getElem?_getD]
  ·
   rintro k ⟨ht, hk, hn⟩
   refine awpS_seq ?_
   refine awpS_seq ?_
   refine awpS_reg T_ok fun K hK => ?_
   simp [hG, List.getD_cons_zero, List.getD_cons_succ, -List.getD_eq_getElem?_getD]
   refine hK _ ?_
   clear K hK
   refine awpS_cond rfl (fun hb36 => ?_) (fun hb36 => ?_)
   ·
    try simp [-List.getD_eq_getElem?_getD] at hb36
    refine awpS_skip ?_
    refine awpS_seq ?_
    refine awpS_block ?_
    refine awpS_seq ?_
    refine awpS_seq ?_
    refine awpS_reg T_ok fun K hK => ?_
    simp [hG, List.getD_cons_zero, List.getD_cons_succ, -List.getD_eq_getElem?_getD]
    refine ⟨Cond.mk (by simp [-List.getD_eq_getElem?_getD]; omega), hK _ ?_⟩
    clear K hK
    refine awpS_cond rfl (fun hb63 => ?_) (fun hb63 => ?_)
    ·
     try simp [-List.getD_eq_getElem?_getD] at hb63
     refine awpS_seq ?_
     refine awpS_reg T_ok fun K hK => ?_
     simp [hG, List.getD_cons_zero, List.getD_cons_succ, -List.getD_eq_getElem?_getD]
     refine hK _ ?_
     clear K hK
     refine awpS_ret ?_
     refine blockQ_ret (thenQ_ret ?_)
     refine thenQ_ret (thenQ_ret ?_)
     refine blockQ_ret (thenQ_ret ?_)
     refine RetOK_of ?_
     simp [hG, List.getD_cons_zero, List.getD_cons_succ, -List.getD_eq_getElem?_getD]
     exact great_row hb36 (by unfold greatLen; omega)
    ·
     try simp [-List.getD_eq_getElem?_getD] at hb63
     refine awpS_skip ?_
     refine awpS_seq ?_
     refine awpS_reg T_ok fun K hK => ?_
     simp [hG, List.getD_cons_zero, List.getD_cons_succ, -List.getD_eq_getElem?_getD]
     refine hK _ ?_
     clear K hK
     refine awpS_block ?_
     refine awpS_loop (α := Nat) (fun i => ⟨[(1, .ptr (0, 0) 0 0), (3, .int .i64 k), (4, .int .i64 i)], [(0, .one (.arr 1 4 (fun _ => encF e)))], 1⟩) (fun i => i ≤ (e.rows.getD k []).length ∧ ∀ i1, i1 < i → ¬ greatWord ((e.rows.getD k []).getD i1 dc)) (fun i => (e.rows.getD k []).length - i) (0) (⟨Nat.zero_le _, fun j hj => absurd hj (Nat.not_lt_zero _)⟩) ?_ ?_
     ·
      refine wk_of (id) (fun _ => false) (fun _ => false) ?_ ?_ rfl (Nat.zero_le _) (fun k hk => absurd hk (Nat.not_lt_zero _))
      · simp [hG, List.getD_cons_zero, List.getD_cons_succ, -List.getD_eq_getElem?_getD]
      · simp [hG, List.getD_cons_zero, List.getD_cons_succ, -List.getD_eq_getElem?_getD]
     ·
      rintro i ⟨hi, hm⟩
      refine awpS_seq ?_
      refine awpS_seq ?_
      refine awpS_reg T_ok fun K hK => ?_
      simp [hG, List.getD_cons_zero, List.getD_cons_succ, -List.getD_eq_getElem?_getD]
      refine ⟨Cond.mk (by omega), hK _ ?_⟩
      clear K hK
      refine awpS_cond rfl (fun hb71 => ?_) (fun hb71 => ?_)
      ·
       try simp [-List.getD_eq_getElem?_getD] at hb71
       refine awpS_skip ?_
       refine awpS_seq ?_
       refine awpS_block ?_
       refine awpS_seq ?_
       refine awpS_reg T_ok fun K hK => ?_
       simp [hG, List.getD_cons_zero, List.getD_cons_succ, -List.getD_eq_getElem?_getD]
       refine ⟨Cond.mk (by simp [-List.getD_eq_getElem?_getD]; omega), hK _ ?_⟩
       clear K hK
       refine awpS_cond rfl (fun hb110 => ?_) (fun hb110 => ?_)
       ·
        try simp [-List.getD_eq_getElem?_getD] at hb110
        refine awpS_seq ?_
        refine awpS_reg T_ok fun K hK => ?_
        simp [hG, List.getD_cons_zero, List.getD_cons_succ, -List.getD_eq_getElem?_getD]
        refine hK _ ?_
        clear K hK
        refine awpS_ret ?_
        refine blockQ_ret (thenQ_ret ?_)
        refine thenQ_ret (thenQ_ret ?_)
        refine blockQ_ret (thenQ_ret ?_)
        refine blockQ_ret (thenQ_ret ?_)
        refine thenQ_ret (thenQ_ret ?_)
        refine blockQ_ret (thenQ_ret ?_)
        refine RetOK_of ?_
        simp [hG, List.getD_cons_zero, List.getD_cons_succ, -List.getD_eq_getElem?_getD]
        exact great_word hb36 hb71 (by unfold greatWord; omega)
       ·
        try simp [-List.getD_eq_getElem?_getD] at hb110
        refine awpS_skip ?_
        refine awpS_nil ?_
        refine blockQ_norm (thenQ_norm ?_)
        refine awpS_reg T_ok fun K hK => ?_
        simp [hG, List.getD_cons_zero, List.getD_cons_succ, -List.getD_eq_getElem?_getD]
        refine ⟨Cond.mk (by omega), hK _ ?_⟩
        clear K hK
        refine awpS_nil ?_
        refine round_end (i + 1) (⟨by omega, step_all hm (by unfold greatWord; omega)⟩) (by omega) ?_
        refine wk_of (id) (fun _ => false) (fun _ => false) ?_ ?_ rfl (Nat.zero_le _) (fun k hk => absurd hk (Nat.not_lt_zero _))
        · simp [hG, List.getD_cons_zero, List.getD_cons_succ, -List.getD_eq_getElem?_getD]
        · simp [hG, List.getD_cons_zero, List.getD_cons_succ, -List.getD_eq_getElem?_getD]
      ·
       try simp [-List.getD_eq_getElem?_getD] at hb71
       refine awpS_exit ?_
       refine thenQ_exit (thenQ_exit ?_)
       refine blockQ_exit (thenQ_norm ?_)
       refine awpS_nil ?_
       refine blockQ_norm (thenQ_norm ?_)
       refine awpS_reg T_ok fun K hK => ?_
       simp [hG, List.getD_cons_zero, List.getD_cons_succ, -List.getD_eq_getElem?_getD]
       refine ⟨Cond.mk (by omega), hK _ ?_⟩
       clear K hK
       refine awpS_nil ?_
       refine round_end (k + 1) (⟨ht, by omega, step_all hn ⟨by unfold greatLen; omega, fun j hj => hm j (by omega)⟩⟩) (by omega) ?_
       refine wk_of (id) (fun _ => false) (fun _ => false) ?_ ?_ rfl (Nat.zero_le _) (fun k hk => absurd hk (Nat.not_lt_zero _))
       · simp [hG, List.getD_cons_zero, List.getD_cons_succ, -List.getD_eq_getElem?_getD]
       · simp [hG, List.getD_cons_zero, List.getD_cons_succ, -List.getD_eq_getElem?_getD]
   ·
    try simp [-List.getD_eq_getElem?_getD] at hb36
    refine awpS_exit ?_
    refine thenQ_exit (thenQ_exit ?_)
    refine blockQ_exit (thenQ_norm ?_)
    refine awpS_seq ?_
    refine awpS_reg T_ok fun K hK => ?_
    simp [hG, List.getD_cons_zero, List.getD_cons_succ, -List.getD_eq_getElem?_getD]
    refine hK _ ?_
    clear K hK
    refine awpS_ret ?_
    refine RetOK_of ?_
    simp [hG, List.getD_cons_zero, List.getD_cons_succ, -List.getD_eq_getElem?_getD]
    exact great_no ht (fun k1 hk1 => hn k1 (by omega))

set_option maxRecDepth 100000 in
theorem fine_c (e : Enc) : PC Try.prog 11 [.agg 4 (encF e)] (.bool (fineE e)) := by
 refine PC_introS T_ok Try.func11 rfl (by simp [Try.ntmps11]) fun G hG hR => ?_
 simp only [Try.ntmps11, Try.results11] at hG ⊢
 simp only [argEnv, Nat.zero_add, Nat.reduceAdd]
 refine awpS_seq ?_
 refine awpS_reg T_ok fun K hK => ?_
 simp [hG, List.getD_cons_zero, List.getD_cons_succ, -List.getD_eq_getElem?_getD]
 refine ⟨Cond.mk (by simp [-List.getD_eq_getElem?_getD]), hK _ ?_⟩
 clear K hK
 refine awpS_seq ?_
 refine awpS_regL ?_
 refine awpL_reg T_ok 1 fun K hK => ?_
 simp [hG, List.getD_cons_zero, List.getD_cons_succ, -List.getD_eq_getElem?_getD]
 refine hK _ ?_
 clear K hK
 refine awpL_call cal16 rfl rfl (fun _ => rfl) (fun hg => great_c e) (fun hg => ?_) (fun hg => ?_) fun K hK => ?_
 · simp [hG, List.getD_cons_zero, List.getD_cons_succ, -List.getD_eq_getElem?_getD]
 · simp [hG, List.getD_cons_zero, List.getD_cons_succ, -List.getD_eq_getElem?_getD]
 simp [hG, List.getD_cons_zero, List.getD_cons_succ, -List.getD_eq_getElem?_getD]
 refine hK _ ?_
 clear K hK
 refine awpL_reg T_ok 3 fun K hK => ?_
 simp [hG, List.getD_cons_zero, List.getD_cons_succ, -List.getD_eq_getElem?_getD]
 refine ⟨Cond.mk (by simp [-List.getD_eq_getElem?_getD]), hK _ ?_⟩
 clear K hK
 refine awpL_call cal25 rfl rfl (fun _ => rfl) (fun hg => check_c e) (fun hg => ?_) (fun hg => ?_) fun K hK => ?_
 · first | (simp [hG, List.getD_cons_zero, List.getD_cons_succ, -List.getD_eq_getElem?_getD]; done) | (simp [-List.getD_eq_getElem?_getD] at hg; done) | (simp [-List.getD_eq_getElem?_getD] at hg; simp [hG, List.getD_cons_zero, List.getD_cons_succ, -List.getD_eq_getElem?_getD]; first | omega | exact hg | (simp_all [-List.getD_eq_getElem?_getD]; done) | (simp_all [-List.getD_eq_getElem?_getD]; first | exact ⟨rfl, rfl⟩ | exact rfl))
 · first | (simp [hG, List.getD_cons_zero, List.getD_cons_succ, -List.getD_eq_getElem?_getD]; done) | (simp [-List.getD_eq_getElem?_getD] at hg; done) | (simp [-List.getD_eq_getElem?_getD] at hg; simp [hG, List.getD_cons_zero, List.getD_cons_succ, -List.getD_eq_getElem?_getD]; first | omega | exact hg | (simp_all [-List.getD_eq_getElem?_getD]; done) | (simp_all [-List.getD_eq_getElem?_getD]; first | exact ⟨rfl, rfl⟩ | exact rfl))
 simp [hG, List.getD_cons_zero, List.getD_cons_succ, -List.getD_eq_getElem?_getD]
 refine hK _ ?_
 clear K hK
 refine awpL_reg T_ok 9 fun K hK => ?_
 simp [hG, List.getD_cons_zero, List.getD_cons_succ, -List.getD_eq_getElem?_getD]
 refine ⟨Cond.mk (by simp [-List.getD_eq_getElem?_getD]), hK _ ?_⟩
 clear K hK
 refine awpL_nil ?_
 refine awpS_ret ?_
 refine RetOK_of ?_
 simp [hG, List.getD_cons_zero, List.getD_cons_succ, -List.getD_eq_getElem?_getD]
 simp [fineE]

end Go.Proofs.Ytmjkbidnghcfnaa
