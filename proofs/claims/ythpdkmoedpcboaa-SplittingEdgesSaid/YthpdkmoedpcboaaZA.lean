/-
 Walks: graphs checked by the reference.
-/
import Derived.Test.YthpdkmoedpcboaaVA
namespace Go.Proofs.Ythpdkmoedpcboaa
set_option linter.unusedSimpArgs false
set_option linter.unusedVariables false
open Go Go.Lift Go.Proofs

set_option maxRecDepth 100000 in
theorem compare_c (a b : Edge) : PC Try.prog 39 [.agg 3 (edgeF a), .agg 3 (edgeF b)] (.int .i64 (cmpE a b)) := by
 refine PC_introS T_ok Try.func39 rfl (by simp [Try.ntmps39]) fun G hG hR => ?_
 simp only [Try.ntmps39, Try.results39] at hG ⊢
 simp only [argEnv, Nat.zero_add, Nat.reduceAdd]
 refine awpS_seq ?_
 refine awpS_reg T_ok fun K hK => ?_
 simp [hG, List.getD_cons_zero, List.getD_cons_succ, -List.getD_eq_getElem?_getD]
 refine ⟨Cond.mk (by simp [-List.getD_eq_getElem?_getD]), hK _ ?_⟩
 clear K hK
 refine awpS_seq ?_
 refine awpS_cut (α := Unit) (fun _u => ⟨[(5, ints (trip a)), (6, ints (trip b))], [], 0⟩) (fun _u => True) ?_ ?_ (by simp)
 ·
  refine awpS_draw hR mixed [] ⟨[], [], []⟩ fun mu0 => ?_
  refine awpA_tk T_ok [0, 1, 2, 3, 4, 5, 7, 8, 9, 10, 11, 12] [] (fuel := 4) [12, 11, 10, 9, 8, 7, 5, 4, 3, 2, 1, 0] (by decide +kernel) (by decide +kernel) rfl rfl fun K hK => ?_
  simp [hG, List.getD_cons_zero, List.getD_cons_succ, -List.getD_eq_getElem?_getD]
  refine hK _ ?_
  clear K hK
  refine awpA_two (fuel := 3) (i := 6) (k := 13) (by decide +kernel) ?_ ?_
  ·
   refine awpO_reg T_ok rfl ?_ fun K hK => ?_
   · simp [hG, List.getD_cons_zero, List.getD_cons_succ, -List.getD_eq_getElem?_getD]; try exact trivial
   simp [hG, List.getD_cons_zero, List.getD_cons_succ, -List.getD_eq_getElem?_getD]
   refine hK _ ?_
   clear K hK
   refine awpA_tk T_ok [14] [] (fuel := 2) [14, 6, 12, 11, 10, 9, 8, 7, 5, 4, 3, 2, 1, 0] (by decide +kernel) (by decide +kernel) rfl rfl fun K hK => ?_
   simp [hG, List.getD_cons_zero, List.getD_cons_succ, -List.getD_eq_getElem?_getD]
   refine hK _ ?_
   clear K hK
   refine awpA_only (fuel := 1) (i := 13) (by decide +kernel) ?_
   refine awpO_reg T_ok rfl ?_ fun K hK => ?_
   · simp [hG, List.getD_cons_zero, List.getD_cons_succ, -List.getD_eq_getElem?_getD]; try exact trivial
   simp [hG, List.getD_cons_zero, List.getD_cons_succ, -List.getD_eq_getElem?_getD]
   refine hK _ ?_
   clear K hK
   refine awpA_tk T_ok [15] [] (fuel := 0) [15, 13, 14, 6, 12, 11, 10, 9, 8, 7, 5, 4, 3, 2, 1, 0] (by decide +kernel) (by decide +kernel) rfl rfl fun K hK => ?_
   simp [hG, List.getD_cons_zero, List.getD_cons_succ, -List.getD_eq_getElem?_getD]
   refine hK _ ?_
   clear K hK
   refine awpA_done (by decide +kernel) ?_
   refine awpS_nil ?_
   refine cut_end (()) (trivial) ?_
   refine wk_of (id) (fun k => decide (2 ≤ k)) (fun _ => false) ?_ ?_ rfl (Nat.zero_le _) (fun k hk => absurd hk (Nat.not_lt_zero _))
   · simp [hG, List.getD_cons_zero, List.getD_cons_succ, -List.getD_eq_getElem?_getD]; exact ⟨⟨rfl, rfl, rfl⟩, rfl, rfl, rfl⟩
   · simp [hG, List.getD_cons_zero, List.getD_cons_succ, -List.getD_eq_getElem?_getD]
  ·
   refine awpO_reg T_ok rfl ?_ fun K hK => ?_
   · simp [hG, List.getD_cons_zero, List.getD_cons_succ, -List.getD_eq_getElem?_getD]; try exact trivial
   simp [hG, List.getD_cons_zero, List.getD_cons_succ, -List.getD_eq_getElem?_getD]
   refine hK _ ?_
   clear K hK
   refine awpA_only (fuel := 2) (i := 6) (by decide +kernel) ?_
   refine awpO_reg T_ok rfl ?_ fun K hK => ?_
   · simp [hG, List.getD_cons_zero, List.getD_cons_succ, -List.getD_eq_getElem?_getD]; try exact trivial
   simp [hG, List.getD_cons_zero, List.getD_cons_succ, -List.getD_eq_getElem?_getD]
   refine hK _ ?_
   clear K hK
   refine awpA_tk T_ok [14, 15] [] (fuel := 0) [15, 14, 6, 13, 12, 11, 10, 9, 8, 7, 5, 4, 3, 2, 1, 0] (by decide +kernel) (by decide +kernel) rfl rfl fun K hK => ?_
   simp [hG, List.getD_cons_zero, List.getD_cons_succ, -List.getD_eq_getElem?_getD]
   refine hK _ ?_
   clear K hK
   refine awpA_done (by decide +kernel) ?_
   refine awpS_nil ?_
   refine cut_end (()) (trivial) ?_
   refine wk_of (id) (fun k => decide (2 ≤ k)) (fun _ => false) ?_ ?_ rfl (Nat.zero_le _) (fun k hk => absurd hk (Nat.not_lt_zero _))
   · simp [hG, List.getD_cons_zero, List.getD_cons_succ, -List.getD_eq_getElem?_getD]; exact ⟨⟨rfl, rfl, rfl⟩, rfl, rfl, rfl⟩
   · simp [hG, List.getD_cons_zero, List.getD_cons_succ, -List.getD_eq_getElem?_getD]
 ·
  rintro _ _
  refine awpS_seq ?_
  refine awpS_seq ?_
  refine awpS_reg T_ok fun K hK => ?_
  simp [hG, List.getD_cons_zero, List.getD_cons_succ, -List.getD_eq_getElem?_getD]
  refine hK _ ?_
  clear K hK
  refine awpS_block ?_
  refine awpS_loop (α := Nat) (fun k => ⟨[(5, ints (trip a)), (6, ints (trip b)), (7, .int .i64 k)], [], 0⟩) (fun k => k ≤ 3 ∧ ∀ j, j < k → (trip a).getD j 0 = (trip b).getD j 0) (fun k => 3 - k) (0) (⟨by decide, fun j hj => absurd hj (Nat.not_lt_zero _)⟩) ?_ ?_
  ·
   refine wk_of (id) (fun _ => false) (fun _ => false) ?_ ?_ rfl (Nat.zero_le _) (fun k hk => absurd hk (Nat.not_lt_zero _))
   · simp [hG, List.getD_cons_zero, List.getD_cons_succ, -List.getD_eq_getElem?_getD]
   · simp [hG, List.getD_cons_zero, List.getD_cons_succ, -List.getD_eq_getElem?_getD]
  ·
   rintro k ⟨hk, hn⟩
   refine awpS_seq ?_
   refine awpS_seq ?_
   refine awpS_reg T_ok fun K hK => ?_
   simp [hG, List.getD_cons_zero, List.getD_cons_succ, -List.getD_eq_getElem?_getD]
   refine hK _ ?_
   clear K hK
   refine awpS_cond rfl (fun hb23 => ?_) (fun hb23 => ?_)
   ·
    try simp [-List.getD_eq_getElem?_getD] at hb23
    refine awpS_skip ?_
    refine awpS_seq ?_
    refine awpS_block ?_
    refine awpS_seq ?_
    refine awpS_seq ?_
    refine awpS_draw hR mixed [] ⟨[], [], []⟩ fun mu0 => ?_
    refine awpA_tk T_ok [0, 1, 2, 3, 4, 5, 6, 7, 8] [] (fuel := 0) [8, 7, 6, 5, 4, 3, 2, 1, 0] (by decide +kernel) (by decide +kernel) rfl rfl fun K hK => ?_
    simp [hG, List.getD_cons_zero, List.getD_cons_succ, -List.getD_eq_getElem?_getD]
    refine ⟨Cond.mk (by omega), hK _ ?_⟩
    clear K hK
    refine awpA_done (by decide +kernel) ?_
    refine awpS_cond rfl (fun hb34 => ?_) (fun hb34 => ?_)
    ·
     try simp [-List.getD_eq_getElem?_getD] at hb34
     refine awpS_seq ?_
     refine awpS_reg T_ok fun K hK => ?_
     simp [hG, List.getD_cons_zero, List.getD_cons_succ, -List.getD_eq_getElem?_getD]
     refine hK _ ?_
     clear K hK
     refine awpS_ret ?_
     refine blockQ_ret (thenQ_ret ?_)
     refine thenQ_ret (thenQ_ret ?_)
     refine blockQ_ret (thenQ_ret ?_)
     refine RetOK_of ?_
     simp [hG, List.getD_cons_zero, List.getD_cons_succ, -List.getD_eq_getElem?_getD]
     exact ((trip_cmp (by omega) hn).1 hb34).symm
    ·
     try simp [-List.getD_eq_getElem?_getD] at hb34
     refine awpS_skip ?_
     refine awpS_seq ?_
     refine awpS_draw hR mixed [] ⟨[], [], []⟩ fun mu0 => ?_
     refine awpA_tk T_ok [0, 1, 2, 3, 4, 5, 6, 7, 8] [] (fuel := 0) [8, 7, 6, 5, 4, 3, 2, 1, 0] (by decide +kernel) (by decide +kernel) rfl rfl fun K hK => ?_
     simp [hG, List.getD_cons_zero, List.getD_cons_succ, -List.getD_eq_getElem?_getD]
     refine ⟨Cond.mk (by omega), hK _ ?_⟩
     clear K hK
     refine awpA_done (by decide +kernel) ?_
     refine awpS_cond rfl (fun hb43 => ?_) (fun hb43 => ?_)
     ·
      try simp [-List.getD_eq_getElem?_getD] at hb43
      refine awpS_seq ?_
      refine awpS_reg T_ok fun K hK => ?_
      simp [hG, List.getD_cons_zero, List.getD_cons_succ, -List.getD_eq_getElem?_getD]
      refine hK _ ?_
      clear K hK
      refine awpS_ret ?_
      refine blockQ_ret (thenQ_ret ?_)
      refine thenQ_ret (thenQ_ret ?_)
      refine blockQ_ret (thenQ_ret ?_)
      refine RetOK_of ?_
      simp [hG, List.getD_cons_zero, List.getD_cons_succ, -List.getD_eq_getElem?_getD]
      exact ((trip_cmp (by omega) hn).2 hb43).symm
     ·
      try simp [-List.getD_eq_getElem?_getD] at hb43
      refine awpS_skip ?_
      refine awpS_nil ?_
      refine blockQ_norm (thenQ_norm ?_)
      refine awpS_reg T_ok fun K hK => ?_
      simp [hG, List.getD_cons_zero, List.getD_cons_succ, -List.getD_eq_getElem?_getD]
      refine ⟨Cond.mk (by omega), hK _ ?_⟩
      clear K hK
      refine awpS_nil ?_
      refine round_end (k + 1) (⟨by omega, step_all hn (by omega)⟩) (by omega) ?_
      refine wk_of (id) (fun _ => false) (fun _ => false) ?_ ?_ rfl (Nat.zero_le _) (fun k hk => absurd hk (Nat.not_lt_zero _))
      · simp [hG, List.getD_cons_zero, List.getD_cons_succ, -List.getD_eq_getElem?_getD]
      · simp [hG, List.getD_cons_zero, List.getD_cons_succ, -List.getD_eq_getElem?_getD]
   ·
    try simp [-List.getD_eq_getElem?_getD] at hb23
    refine awpS_exit ?_
    refine thenQ_exit (thenQ_exit ?_)
    refine blockQ_exit (thenQ_norm ?_)
    refine awpS_seq ?_
    refine awpS_reg T_ok fun K hK => ?_
    simp [hG, List.getD_cons_zero, List.getD_cons_succ, -List.getD_eq_getElem?_getD]
    refine hK _ ?_
    clear K hK
    refine awpS_ret ?_
    refine RetOK_of ?_
    simp [hG, List.getD_cons_zero, List.getD_cons_succ, -List.getD_eq_getElem?_getD]
    exact (trip_same fun j hj => hn j (by omega)).symm

set_option maxRecDepth 100000 in
theorem check9_c (g : Gr) : PC Try.prog 19 [.agg 3 (grF g)] (.int .i64 (gcheck g)) := by
 refine PC_introS T_ok Try.func19 rfl (by simp [Try.ntmps19]) fun G hG hR => ?_
 simp only [Try.ntmps19, Try.results19] at hG ⊢
 simp only [argEnv, Nat.zero_add, Nat.reduceAdd]
 refine awpS_seq ?_
 refine awpS_reg T_ok fun K hK => ?_
 simp [hG, List.getD_cons_zero, List.getD_cons_succ, -List.getD_eq_getElem?_getD]
 refine ⟨Cond.mk (by exact trivial), hK _ ?_⟩
 clear K hK
 refine awpS_seq ?_
 refine awpS_seq ?_
 refine awpS_reg T_ok fun K hK => ?_
 simp [hG, List.getD_cons_zero, List.getD_cons_succ, -List.getD_eq_getElem?_getD]
 refine ⟨Cond.mk (by simp [-List.getD_eq_getElem?_getD]), hK _ ?_⟩
 clear K hK
 refine awpS_cond rfl (fun hb12 => ?_) (fun hb12 => ?_)
 ·
  try simp [-List.getD_eq_getElem?_getD] at hb12
  refine awpS_seq ?_
  refine awpS_reg T_ok fun K hK => ?_
  simp [hG, List.getD_cons_zero, List.getD_cons_succ, -List.getD_eq_getElem?_getD]
  refine hK _ ?_
  clear K hK
  refine awpS_ret ?_
  refine RetOK_of ?_
  simp [hG, List.getD_cons_zero, List.getD_cons_succ, -List.getD_eq_getElem?_getD]
  exact (gcheck_labels (by omega)).symm
 ·
  try simp [-List.getD_eq_getElem?_getD] at hb12
  refine awpS_skip ?_
  refine awpS_seq ?_
  refine awpS_seq ?_
  refine awpS_reg T_ok fun K hK => ?_
  simp [hG, List.getD_cons_zero, List.getD_cons_succ, -List.getD_eq_getElem?_getD]
  refine hK _ ?_
  clear K hK
  refine awpS_cond rfl (fun hb15 => ?_) (fun hb15 => ?_)
  ·
   try simp [-List.getD_eq_getElem?_getD] at hb15
   refine awpS_seq ?_
   refine awpS_reg T_ok fun K hK => ?_
   simp [hG, List.getD_cons_zero, List.getD_cons_succ, -List.getD_eq_getElem?_getD]
   refine hK _ ?_
   clear K hK
   refine awpS_ret ?_
   refine RetOK_of ?_
   simp [hG, List.getD_cons_zero, List.getD_cons_succ, -List.getD_eq_getElem?_getD]
   exact (gcheck_neg (by omega) (by omega)).symm
  ·
   try simp [-List.getD_eq_getElem?_getD] at hb15
   refine awpS_skip ?_
   refine awpS_seq ?_
   refine awpS_seq ?_
   refine awpS_reg T_ok fun K hK => ?_
   simp [hG, List.getD_cons_zero, List.getD_cons_succ, -List.getD_eq_getElem?_getD]
   refine ⟨Cond.mk (by simp [-List.getD_eq_getElem?_getD]), hK _ ?_⟩
   clear K hK
   refine awpS_cond rfl (fun hb24 => ?_) (fun hb24 => ?_)
   ·
    try simp [-List.getD_eq_getElem?_getD] at hb24
    refine awpS_seq ?_
    refine awpS_reg T_ok fun K hK => ?_
    simp [hG, List.getD_cons_zero, List.getD_cons_succ, -List.getD_eq_getElem?_getD]
    refine hK _ ?_
    clear K hK
    refine awpS_ret ?_
    refine RetOK_of ?_
    simp [hG, List.getD_cons_zero, List.getD_cons_succ, -List.getD_eq_getElem?_getD]
    exact (gcheck_limit (by omega) (by omega) (by omega)).symm
   ·
    try simp [-List.getD_eq_getElem?_getD] at hb24
    refine awpS_skip ?_
    refine awpS_seq ?_
    refine awpS_seq ?_
    refine awpS_reg T_ok fun K hK => ?_
    simp [hG, List.getD_cons_zero, List.getD_cons_succ, -List.getD_eq_getElem?_getD]
    refine hK _ ?_
    clear K hK
    refine awpS_block ?_
    refine awpS_loop (α := Nat) (fun k => ⟨[(1, .ptr (0, 0) 0 0), (3, .int .i64 k)], [(0, .one (.arr 1 3 (fun _ => grF g)))], 1⟩) (fun k => Sized g ∧ k ≤ g.edges.length ∧ ∀ j, j < k → edgeCheck g j = 0) (fun k => g.edges.length - k) (0) (⟨⟨by omega, by omega, by omega⟩, Nat.zero_le _, fun j hj => absurd hj (Nat.not_lt_zero _)⟩) ?_ ?_
    ·
     refine wk_of (id) (fun _ => false) (fun _ => false) ?_ ?_ rfl (Nat.zero_le _) (fun k hk => absurd hk (Nat.not_lt_zero _))
     · simp [hG, List.getD_cons_zero, List.getD_cons_succ, -List.getD_eq_getElem?_getD]
     · simp [hG, List.getD_cons_zero, List.getD_cons_succ, -List.getD_eq_getElem?_getD]
    ·
     rintro k ⟨hz, hk, hn⟩
     have hed := hz.ed
     refine awpS_seq ?_
     refine awpS_seq ?_
     refine awpS_reg T_ok fun K hK => ?_
     simp [hG, List.getD_cons_zero, List.getD_cons_succ, -List.getD_eq_getElem?_getD]
     refine hK _ ?_
     clear K hK
     refine awpS_cond rfl (fun hb29 => ?_) (fun hb29 => ?_)
     ·
      try simp [-List.getD_eq_getElem?_getD] at hb29
      refine awpS_skip ?_
      refine awpS_seq ?_
      refine awpS_block ?_
      refine awpS_seq ?_
      refine awpS_reg T_ok fun K hK => ?_
      simp [hG, List.getD_cons_zero, List.getD_cons_succ, -List.getD_eq_getElem?_getD]
      refine ⟨Cond.mk (by simp [-List.getD_eq_getElem?_getD]; omega), hK _ ?_⟩
      clear K hK
      refine awpS_seq ?_
      refine awpS_seq ?_
      refine awpS_reg T_ok fun K hK => ?_
      simp [hG, List.getD_cons_zero, List.getD_cons_succ, -List.getD_eq_getElem?_getD]
      refine ⟨Cond.mk (by simp [-List.getD_eq_getElem?_getD]), hK _ ?_⟩
      clear K hK
      refine awpS_cond rfl (fun hb70 => ?_) (fun hb70 => ?_)
      ·
       try simp [-List.getD_eq_getElem?_getD] at hb70
       refine awpS_seq ?_
       refine awpS_reg T_ok fun K hK => ?_
       simp [hG, List.getD_cons_zero, List.getD_cons_succ, -List.getD_eq_getElem?_getD]
       refine hK _ ?_
       clear K hK
       refine awpS_ret ?_
       refine blockQ_ret (thenQ_ret ?_)
       refine thenQ_ret (thenQ_ret ?_)
       refine blockQ_ret (thenQ_ret ?_)
       refine RetOK_of ?_
       simp [hG, List.getD_cons_zero, List.getD_cons_succ, -List.getD_eq_getElem?_getD]
       exact (gcheck_bad hz hb29 hn (edgeCheck_out hb70) (by decide)).symm
      ·
       try simp [-List.getD_eq_getElem?_getD] at hb70
       refine awpS_skip ?_
       refine awpS_seq ?_
       refine awpS_draw hR mixed [] ⟨[], [], []⟩ fun mu0 => ?_
       refine awpA_tk T_ok [0, 1, 2, 3, 4, 5, 6, 7, 8, 9] [] (fuel := 3) [9, 8, 7, 6, 5, 4, 3, 2, 1, 0] (by decide +kernel) (by decide +kernel) rfl rfl fun K hK => ?_
       simp [hG, List.getD_cons_zero, List.getD_cons_succ, -List.getD_eq_getElem?_getD]
       refine ⟨Cond.mk (by simp [-List.getD_eq_getElem?_getD]; omega), hK _ ?_⟩
       clear K hK
       refine awpA_only (fuel := 2) (i := 10) (by decide +kernel) ?_
       refine awpO_call cal39 rfl rfl rfl (fun _ => rfl) (fun hg => compare_c (g.edges.getD (k - 1) de) (g.edges.getD k de)) (fun hg => ?_) (fun hg => ?_) fun K hK => ?_
       · first | (simp [hG, List.getD_cons_zero, List.getD_cons_succ, -List.getD_eq_getElem?_getD]; done) | (simp [-List.getD_eq_getElem?_getD] at hg; done) | (simp [-List.getD_eq_getElem?_getD] at hg; simp [hG, List.getD_cons_zero, List.getD_cons_succ, -List.getD_eq_getElem?_getD]; first | omega | exact hg | (simp_all [-List.getD_eq_getElem?_getD]; done) | (simp_all [-List.getD_eq_getElem?_getD]; first | exact ⟨rfl, rfl⟩ | exact rfl))
       · simp [-List.getD_eq_getElem?_getD] at hg; simp [hG, List.getD_cons_zero, List.getD_cons_succ, -List.getD_eq_getElem?_getD]; exact ⟨rfl, rfl, rfl⟩
       simp [hG, List.getD_cons_zero, List.getD_cons_succ, -List.getD_eq_getElem?_getD]
       refine hK _ ?_
       clear K hK
       refine awpA_tk T_ok [11, 12] [] (fuel := 0) [12, 11, 10, 9, 8, 7, 6, 5, 4, 3, 2, 1, 0] (by decide +kernel) (by decide +kernel) rfl rfl fun K hK => ?_
       simp [hG, List.getD_cons_zero, List.getD_cons_succ, -List.getD_eq_getElem?_getD]
       refine ⟨Cond.mk (by simp [-List.getD_eq_getElem?_getD]), hK _ ?_⟩
       clear K hK
       refine awpA_done (by decide +kernel) ?_
       refine awpS_cond rfl (fun hb83 => ?_) (fun hb83 => ?_)
       ·
        try simp [-List.getD_eq_getElem?_getD] at hb83
        refine awpS_seq ?_
        refine awpS_reg T_ok fun K hK => ?_
        simp [hG, List.getD_cons_zero, List.getD_cons_succ, -List.getD_eq_getElem?_getD]
        refine hK _ ?_
        clear K hK
        refine awpS_ret ?_
        refine blockQ_ret (thenQ_ret ?_)
        refine thenQ_ret (thenQ_ret ?_)
        refine blockQ_ret (thenQ_ret ?_)
        refine RetOK_of ?_
        simp [hG, List.getD_cons_zero, List.getD_cons_succ, -List.getD_eq_getElem?_getD]
        exact (gcheck_bad hz hb29 hn (edgeCheck_ord hb70 hb83) (by decide)).symm
       ·
        try simp [-List.getD_eq_getElem?_getD] at hb83
        refine awpS_skip ?_
        refine awpS_nil ?_
        refine blockQ_norm (thenQ_norm ?_)
        refine awpS_reg T_ok fun K hK => ?_
        simp [hG, List.getD_cons_zero, List.getD_cons_succ, -List.getD_eq_getElem?_getD]
        refine ⟨Cond.mk (by omega), hK _ ?_⟩
        clear K hK
        refine awpS_nil ?_
        refine round_end (k + 1) (⟨hz, by omega, step_all hn (edgeCheck_ok hb70 hb83)⟩) (by omega) ?_
        refine wk_of (id) (fun _ => false) (fun _ => false) ?_ ?_ rfl (Nat.zero_le _) (fun k hk => absurd hk (Nat.not_lt_zero _))
        · simp [hG, List.getD_cons_zero, List.getD_cons_succ, -List.getD_eq_getElem?_getD]
        · simp [hG, List.getD_cons_zero, List.getD_cons_succ, -List.getD_eq_getElem?_getD]
     ·
      try simp [-List.getD_eq_getElem?_getD] at hb29
      refine awpS_exit ?_
      refine thenQ_exit (thenQ_exit ?_)
      refine blockQ_exit (thenQ_norm ?_)
      refine awpS_seq ?_
      refine awpS_reg T_ok fun K hK => ?_
      simp [hG, List.getD_cons_zero, List.getD_cons_succ, -List.getD_eq_getElem?_getD]
      refine hK _ ?_
      clear K hK
      refine awpS_ret ?_
      refine RetOK_of ?_
      simp [hG, List.getD_cons_zero, List.getD_cons_succ, -List.getD_eq_getElem?_getD]
      exact (gcheck_ok hz fun j hj => hn j (by omega)).symm

end Go.Proofs.Ythpdkmoedpcboaa
