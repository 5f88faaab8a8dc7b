/-
  Walks: the reference on graphs.
-/
import Derived.Test.YtkmnnmclebdjlaaWA
namespace Go.Proofs.Ytkmnnmclebdjlaa
set_option linter.unusedSimpArgs false
set_option linter.unusedVariables false
open Go Go.Lift Go.Proofs

set_option maxRecDepth 100000 in
theorem same_c (a b : List (List Int)) (ha : a.length ≤ 1000000) (hb : b.length ≤ 1000000) (hc : ∀ x ∈ a, x.length ≤ 1000000) : PC Try.prog 22 [rowsI a, rowsI b] (.bool (decide (a = b))) := by
  refine PC_introS T_ok Try.func22 rfl (by simp [Try.ntmps22]) fun G hG hR => ?_
  simp only [Try.ntmps22, Try.results22] at hG ⊢
  simp only [argEnv, Nat.zero_add, Nat.reduceAdd]
  refine awpS_seq ?_
  refine awpS_reg T_ok fun K hK => ?_
  simp [hG, List.getD_cons_zero, List.getD_cons_succ, -List.getD_eq_getElem?_getD]
  first | refine hK _ ?_ | refine ⟨Cond.mk (by first | omega | (simp [-List.getD_eq_getElem?_getD]; done) | (simp [-List.getD_eq_getElem?_getD]; omega) | (simp [-List.getD_eq_getElem?_getD]; repeat (first | intro _ | exact And.intro ‹_› ‹_› | apply And.intro | assumption | omega | exact decide_eq_true (by assumption)))), hK _ ?_⟩
  clear K hK
  refine awpS_seq ?_
  refine awpS_seq ?_
  refine awpS_reg T_ok fun K hK => ?_
  simp [hG, List.getD_cons_zero, List.getD_cons_succ, -List.getD_eq_getElem?_getD]
  first | refine hK _ ?_ | refine ⟨Cond.mk (by first | omega | (simp [-List.getD_eq_getElem?_getD]; done) | (simp [-List.getD_eq_getElem?_getD]; omega) | (simp [-List.getD_eq_getElem?_getD]; repeat (first | intro _ | exact And.intro ‹_› ‹_› | apply And.intro | assumption | omega | exact decide_eq_true (by assumption)))), hK _ ?_⟩
  clear K hK
  refine awpS_cond rfl (fun hb11 => ?_) (fun hb11 => ?_)
  ·
    try simp [-List.getD_eq_getElem?_getD] at hb11
    refine awpS_seq ?_
    refine awpS_reg T_ok fun K hK => ?_
    simp [hG, List.getD_cons_zero, List.getD_cons_succ, -List.getD_eq_getElem?_getD]
    first | refine hK _ ?_ | refine ⟨Cond.mk (by first | omega | (simp [-List.getD_eq_getElem?_getD]; done) | (simp [-List.getD_eq_getElem?_getD]; omega) | (simp [-List.getD_eq_getElem?_getD]; repeat (first | intro _ | exact And.intro ‹_› ‹_› | apply And.intro | assumption | omega | exact decide_eq_true (by assumption)))), hK _ ?_⟩
    clear K hK
    refine awpS_ret ?_
    refine RetOK_of ?_
    simp [hG, List.getD_cons_zero, List.getD_cons_succ, -List.getD_eq_getElem?_getD]
    exact fun e => by rw [e] at hb11; exact hb11 rfl
  ·
    try simp [-List.getD_eq_getElem?_getD] at hb11
    refine awpS_skip ?_
    refine awpS_seq ?_
    refine awpS_seq ?_
    refine awpS_reg T_ok fun K hK => ?_
    simp [hG, List.getD_cons_zero, List.getD_cons_succ, -List.getD_eq_getElem?_getD]
    first | refine hK _ ?_ | refine ⟨Cond.mk (by first | omega | (simp [-List.getD_eq_getElem?_getD]; done) | (simp [-List.getD_eq_getElem?_getD]; omega) | (simp [-List.getD_eq_getElem?_getD]; repeat (first | intro _ | exact And.intro ‹_› ‹_› | apply And.intro | assumption | omega | exact decide_eq_true (by assumption)))), hK _ ?_⟩
    clear K hK
    refine awpS_block ?_
    refine awpS_loop (α := Nat) (fun k => ⟨[(0, rowsI a), (1, rowsI b), (5, .int .i64 k)], [], 0⟩) (fun k => a.length = b.length ∧ k ≤ a.length ∧ ∀ j, j < k → a.getD j [] = b.getD j []) (fun k => a.length - k) (0) (⟨by omega, Nat.zero_le _, fun j hj => absurd hj (Nat.not_lt_zero _)⟩) ?_ ?_
    ·
      refine wk_of (id) (fun _ => false) (fun _ => false) ?_ ?_ rfl (Nat.zero_le _) (fun k hk => absurd hk (Nat.not_lt_zero _))
      · simp [hG, List.getD_cons_zero, List.getD_cons_succ, -List.getD_eq_getElem?_getD]
      · simp [hG, List.getD_cons_zero, List.getD_cons_succ, -List.getD_eq_getElem?_getD]
    ·
      rintro k ⟨hab, hk, hn⟩
      refine awpS_seq ?_
      refine awpS_seq ?_
      refine awpS_reg T_ok fun K hK => ?_
      simp [hG, List.getD_cons_zero, List.getD_cons_succ, -List.getD_eq_getElem?_getD]
      first | refine hK _ ?_ | refine ⟨Cond.mk (by first | omega | (simp [-List.getD_eq_getElem?_getD]; done) | (simp [-List.getD_eq_getElem?_getD]; omega) | (simp [-List.getD_eq_getElem?_getD]; repeat (first | intro _ | exact And.intro ‹_› ‹_› | apply And.intro | assumption | omega | exact decide_eq_true (by assumption)))), hK _ ?_⟩
      clear K hK
      refine awpS_cond rfl (fun hb15 => ?_) (fun hb15 => ?_)
      ·
        try simp [-List.getD_eq_getElem?_getD] at hb15
        refine awpS_skip ?_
        refine awpS_seq ?_
        refine awpS_block ?_
        refine awpS_seq ?_
        refine awpS_seq ?_
        refine awpS_draw hR mixed [] ⟨[], [], []⟩ fun mu0 => ?_
        refine awpA_tk T_ok [0, 1, 2, 3, 4, 5, 6, 7, 8, 9, 10] [] (fuel := 0) [10, 9, 8, 7, 6, 5, 4, 3, 2, 1, 0] (by decide +kernel) (by decide +kernel) rfl rfl fun K hK => ?_
        simp [hG, List.getD_cons_zero, List.getD_cons_succ, -List.getD_eq_getElem?_getD]
        first | refine hK _ ?_ | refine ⟨Cond.mk (by exact ⟨by omega, trivial, by omega, trivial⟩), hK _ ?_⟩
        clear K hK
        refine awpA_done (by decide +kernel) ?_
        refine awpS_cond rfl (fun hb28 => ?_) (fun hb28 => ?_)
        ·
          try simp [-List.getD_eq_getElem?_getD] at hb28
          refine awpS_seq ?_
          refine awpS_reg T_ok fun K hK => ?_
          simp [hG, List.getD_cons_zero, List.getD_cons_succ, -List.getD_eq_getElem?_getD]
          first | refine hK _ ?_ | refine ⟨Cond.mk (by first | omega | (simp [-List.getD_eq_getElem?_getD]; done) | (simp [-List.getD_eq_getElem?_getD]; omega) | (simp [-List.getD_eq_getElem?_getD]; repeat (first | intro _ | exact And.intro ‹_› ‹_› | apply And.intro | assumption | omega | exact decide_eq_true (by assumption)))), hK _ ?_⟩
          clear K hK
          refine awpS_ret ?_
          refine blockQ_ret (thenQ_ret ?_)
          refine thenQ_ret (thenQ_ret ?_)
          refine blockQ_ret (thenQ_ret ?_)
          refine RetOK_of ?_
          simp [hG, List.getD_cons_zero, List.getD_cons_succ, -List.getD_eq_getElem?_getD]
          exact fun e => by rw [e] at hb28; exact hb28 rfl
        ·
          try simp [-List.getD_eq_getElem?_getD] at hb28
          refine awpS_skip ?_
          refine awpS_seq ?_
          refine awpS_reg T_ok fun K hK => ?_
          simp [hG, List.getD_cons_zero, List.getD_cons_succ, -List.getD_eq_getElem?_getD]
          first | refine hK _ ?_ | refine ⟨Cond.mk (by first | omega | (simp [-List.getD_eq_getElem?_getD]; done) | (simp [-List.getD_eq_getElem?_getD]; omega) | (simp [-List.getD_eq_getElem?_getD]; repeat (first | intro _ | exact And.intro ‹_› ‹_› | apply And.intro | assumption | omega | exact decide_eq_true (by assumption)))), hK _ ?_⟩
          clear K hK
          refine awpS_block ?_
          refine awpS_loop (α := Nat) (fun i => ⟨[(0, rowsI a), (1, rowsI b), (5, .int .i64 k), (6, .int .i64 i)], [], 0⟩) (fun i => (a.getD k []).length = (b.getD k []).length ∧ i ≤ (a.getD k []).length ∧ ∀ j, j < i → (a.getD k []).getD j 0 = (b.getD k []).getD j 0) (fun i => (a.getD k []).length - i) (0) (⟨by omega, Nat.zero_le _, fun j hj => absurd hj (Nat.not_lt_zero _)⟩) ?_ ?_
          ·
            refine wk_of (id) (fun _ => false) (fun _ => false) ?_ ?_ rfl (Nat.zero_le _) (fun k hk => absurd hk (Nat.not_lt_zero _))
            · simp [hG, List.getD_cons_zero, List.getD_cons_succ, -List.getD_eq_getElem?_getD]
            · simp [hG, List.getD_cons_zero, List.getD_cons_succ, -List.getD_eq_getElem?_getD]
          ·
            rintro i ⟨hl, hi, hm⟩
            have hcl := hc _ (getD_mem (d := []) (by simpa using hb15))
            refine awpS_seq ?_
            refine awpS_seq ?_
            refine awpS_reg T_ok fun K hK => ?_
            simp [hG, List.getD_cons_zero, List.getD_cons_succ, -List.getD_eq_getElem?_getD]
            first | refine hK _ ?_ | refine ⟨Cond.mk (by first | omega | (simp [-List.getD_eq_getElem?_getD]; done) | (simp [-List.getD_eq_getElem?_getD]; omega) | (simp [-List.getD_eq_getElem?_getD]; repeat (first | intro _ | exact And.intro ‹_› ‹_› | apply And.intro | assumption | omega | exact decide_eq_true (by assumption)))), hK _ ?_⟩
            clear K hK
            refine awpS_cond rfl (fun hb35 => ?_) (fun hb35 => ?_)
            ·
              try simp [-List.getD_eq_getElem?_getD] at hb35
              refine awpS_skip ?_
              refine awpS_seq ?_
              refine awpS_block ?_
              refine awpS_seq ?_
              refine awpS_draw hR mixed [] ⟨[], [], []⟩ fun mu0 => ?_
              refine awpA_tk T_ok [0, 1, 2, 3, 4, 5, 6, 7, 8, 9, 10, 11, 12, 13, 14] [] (fuel := 0) [14, 13, 12, 11, 10, 9, 8, 7, 6, 5, 4, 3, 2, 1, 0] (by decide +kernel) (by decide +kernel) rfl rfl fun K hK => ?_
              simp [hG, List.getD_cons_zero, List.getD_cons_succ, -List.getD_eq_getElem?_getD]
              first | refine hK _ ?_ | refine ⟨Cond.mk (by first | omega | (simp [-List.getD_eq_getElem?_getD]; done) | (simp [-List.getD_eq_getElem?_getD]; omega) | (simp [-List.getD_eq_getElem?_getD]; repeat (first | intro _ | exact And.intro ‹_› ‹_› | apply And.intro | assumption | omega | exact decide_eq_true (by assumption)))), hK _ ?_⟩
              clear K hK
              refine awpA_done (by decide +kernel) ?_
              refine awpS_cond rfl (fun hb52 => ?_) (fun hb52 => ?_)
              ·
                try simp [-List.getD_eq_getElem?_getD] at hb52
                refine awpS_seq ?_
                refine awpS_reg T_ok fun K hK => ?_
                simp [hG, List.getD_cons_zero, List.getD_cons_succ, -List.getD_eq_getElem?_getD]
                first | refine hK _ ?_ | refine ⟨Cond.mk (by first | omega | (simp [-List.getD_eq_getElem?_getD]; done) | (simp [-List.getD_eq_getElem?_getD]; omega) | (simp [-List.getD_eq_getElem?_getD]; repeat (first | intro _ | exact And.intro ‹_› ‹_› | apply And.intro | assumption | omega | exact decide_eq_true (by assumption)))), hK _ ?_⟩
                clear K hK
                refine awpS_ret ?_
                refine blockQ_ret (thenQ_ret ?_)
                refine thenQ_ret (thenQ_ret ?_)
                refine blockQ_ret (thenQ_ret ?_)
                refine blockQ_ret (thenQ_ret ?_)
                refine thenQ_ret (thenQ_ret ?_)
                refine blockQ_ret (thenQ_ret ?_)
                refine RetOK_of ?_
                simp [hG, List.getD_cons_zero, List.getD_cons_succ, -List.getD_eq_getElem?_getD]
                exact fun e => by rw [e] at hb52; exact hb52 rfl
              ·
                try simp [-List.getD_eq_getElem?_getD] at hb52
                refine awpS_skip ?_
                refine awpS_nil ?_
                refine blockQ_norm (thenQ_norm ?_)
                refine awpS_reg T_ok fun K hK => ?_
                simp [hG, List.getD_cons_zero, List.getD_cons_succ, -List.getD_eq_getElem?_getD]
                first | refine hK _ ?_ | refine ⟨Cond.mk (by first | omega | (simp [-List.getD_eq_getElem?_getD]; done) | (simp [-List.getD_eq_getElem?_getD]; omega) | (simp [-List.getD_eq_getElem?_getD]; repeat (first | intro _ | exact And.intro ‹_› ‹_› | apply And.intro | assumption | omega | exact decide_eq_true (by assumption)))), hK _ ?_⟩
                clear K hK
                refine awpS_nil ?_
                refine round_end (i + 1) (⟨hl, by omega, step_all hm (by simpa using hb52)⟩) (by omega) ?_
                refine wk_of (id) (fun _ => false) (fun _ => false) ?_ ?_ rfl (Nat.zero_le _) (fun k hk => absurd hk (Nat.not_lt_zero _))
                · simp [hG, List.getD_cons_zero, List.getD_cons_succ, -List.getD_eq_getElem?_getD]
                · simp [hG, List.getD_cons_zero, List.getD_cons_succ, -List.getD_eq_getElem?_getD]
            ·
              try simp [-List.getD_eq_getElem?_getD] at hb35
              refine awpS_exit ?_
              refine thenQ_exit (thenQ_exit ?_)
              refine blockQ_exit (thenQ_norm ?_)
              refine awpS_nil ?_
              refine blockQ_norm (thenQ_norm ?_)
              refine awpS_reg T_ok fun K hK => ?_
              simp [hG, List.getD_cons_zero, List.getD_cons_succ, -List.getD_eq_getElem?_getD]
              first | refine hK _ ?_ | refine ⟨Cond.mk (by first | omega | (simp [-List.getD_eq_getElem?_getD]; done) | (simp [-List.getD_eq_getElem?_getD]; omega) | (simp [-List.getD_eq_getElem?_getD]; repeat (first | intro _ | exact And.intro ‹_› ‹_› | apply And.intro | assumption | omega | exact decide_eq_true (by assumption)))), hK _ ?_⟩
              clear K hK
              refine awpS_nil ?_
              refine round_end (k + 1) (⟨hab, by omega, step_all hn (eq_of_getD (d := 0) (by omega) (fun j hj => hm j (by omega)))⟩) (by omega) ?_
              refine wk_of (id) (fun _ => false) (fun _ => false) ?_ ?_ rfl (Nat.zero_le _) (fun k hk => absurd hk (Nat.not_lt_zero _))
              · simp [hG, List.getD_cons_zero, List.getD_cons_succ, -List.getD_eq_getElem?_getD]
              · simp [hG, List.getD_cons_zero, List.getD_cons_succ, -List.getD_eq_getElem?_getD]
      ·
        try simp [-List.getD_eq_getElem?_getD] at hb15
        refine awpS_exit ?_
        refine thenQ_exit (thenQ_exit ?_)
        refine blockQ_exit (thenQ_norm ?_)
        refine awpS_seq ?_
        refine awpS_reg T_ok fun K hK => ?_
        simp [hG, List.getD_cons_zero, List.getD_cons_succ, -List.getD_eq_getElem?_getD]
        first | refine hK _ ?_ | refine ⟨Cond.mk (by first | omega | (simp [-List.getD_eq_getElem?_getD]; done) | (simp [-List.getD_eq_getElem?_getD]; omega) | (simp [-List.getD_eq_getElem?_getD]; repeat (first | intro _ | exact And.intro ‹_› ‹_› | apply And.intro | assumption | omega | exact decide_eq_true (by assumption)))), hK _ ?_⟩
        clear K hK
        refine awpS_ret ?_
        refine RetOK_of ?_
        simp [hG, List.getD_cons_zero, List.getD_cons_succ, -List.getD_eq_getElem?_getD]
        exact eq_of_getD (d := []) hab (fun j hj => hn j (by omega))

set_option maxRecDepth 100000 in
theorem check_c (g : Gr) : PC Try.prog 49 [.agg 3 (grF g)] (.int .i64 (gcheck g)) := by
  refine PC_introS T_ok Try.func49 rfl (by simp [Try.ntmps49]) fun G hG hR => ?_
  simp only [Try.ntmps49, Try.results49] at hG ⊢
  simp only [argEnv, Nat.zero_add, Nat.reduceAdd]
  refine awpS_seq ?_
  refine awpS_reg T_ok fun K hK => ?_
  simp [hG, List.getD_cons_zero, List.getD_cons_succ, -List.getD_eq_getElem?_getD]
  first | refine hK _ ?_ | refine ⟨Cond.mk (by first | omega | (simp [-List.getD_eq_getElem?_getD]; done) | (simp [-List.getD_eq_getElem?_getD]; omega) | (simp [-List.getD_eq_getElem?_getD]; repeat (first | intro _ | exact And.intro ‹_› ‹_› | apply And.intro | assumption | omega | exact decide_eq_true (by assumption)))), hK _ ?_⟩
  clear K hK
  refine awpS_seq ?_
  refine awpS_seq ?_
  refine awpS_reg T_ok fun K hK => ?_
  simp [hG, List.getD_cons_zero, List.getD_cons_succ, -List.getD_eq_getElem?_getD]
  first | refine hK _ ?_ | refine ⟨Cond.mk (by first | omega | (simp [-List.getD_eq_getElem?_getD]; done) | (simp [-List.getD_eq_getElem?_getD]; omega) | (simp [-List.getD_eq_getElem?_getD]; repeat (first | intro _ | exact And.intro ‹_› ‹_› | apply And.intro | assumption | omega | exact decide_eq_true (by assumption)))), hK _ ?_⟩
  clear K hK
  refine awpS_cond rfl (fun hb12 => ?_) (fun hb12 => ?_)
  ·
    try simp [-List.getD_eq_getElem?_getD] at hb12
    refine awpS_seq ?_
    refine awpS_reg T_ok fun K hK => ?_
    simp [hG, List.getD_cons_zero, List.getD_cons_succ, -List.getD_eq_getElem?_getD]
    first | refine hK _ ?_ | refine ⟨Cond.mk (by first | omega | (simp [-List.getD_eq_getElem?_getD]; done) | (simp [-List.getD_eq_getElem?_getD]; omega) | (simp [-List.getD_eq_getElem?_getD]; repeat (first | intro _ | exact And.intro ‹_› ‹_› | apply And.intro | assumption | omega | exact decide_eq_true (by assumption)))), hK _ ?_⟩
    clear K hK
    refine awpS_ret ?_
    refine RetOK_of ?_
    simp [hG, List.getD_cons_zero, List.getD_cons_succ, -List.getD_eq_getElem?_getD]
    exact (gcheck_labels (by omega)).symm
  ·
    try simp [-List.getD_eq_getElem?_getD] at hb12
    refine awpS_skip ?_
    refine awpS_seq ?_
    refine awpS_seq ?_
    refine awpS_reg T_ok fun K hK => ?_
    simp [hG, List.getD_cons_zero, List.getD_cons_succ, -List.getD_eq_getElem?_getD]
    first | refine hK _ ?_ | refine ⟨Cond.mk (by first | omega | (simp [-List.getD_eq_getElem?_getD]; done) | (simp [-List.getD_eq_getElem?_getD]; omega) | (simp [-List.getD_eq_getElem?_getD]; repeat (first | intro _ | exact And.intro ‹_› ‹_› | apply And.intro | assumption | omega | exact decide_eq_true (by assumption)))), hK _ ?_⟩
    clear K hK
    refine awpS_cond rfl (fun hb15 => ?_) (fun hb15 => ?_)
    ·
      try simp [-List.getD_eq_getElem?_getD] at hb15
      refine awpS_seq ?_
      refine awpS_reg T_ok fun K hK => ?_
      simp [hG, List.getD_cons_zero, List.getD_cons_succ, -List.getD_eq_getElem?_getD]
      first | refine hK _ ?_ | refine ⟨Cond.mk (by first | omega | (simp [-List.getD_eq_getElem?_getD]; done) | (simp [-List.getD_eq_getElem?_getD]; omega) | (simp [-List.getD_eq_getElem?_getD]; repeat (first | intro _ | exact And.intro ‹_› ‹_› | apply And.intro | assumption | omega | exact decide_eq_true (by assumption)))), hK _ ?_⟩
      clear K hK
      refine awpS_ret ?_
      refine RetOK_of ?_
      simp [hG, List.getD_cons_zero, List.getD_cons_succ, -List.getD_eq_getElem?_getD]
      exact (gcheck_neg (by omega) (by omega)).symm
    ·
      try simp [-List.getD_eq_getElem?_getD] at hb15
      refine awpS_skip ?_
      refine awpS_seq ?_
      refine awpS_seq ?_
      refine awpS_reg T_ok fun K hK => ?_
      simp [hG, List.getD_cons_zero, List.getD_cons_succ, -List.getD_eq_getElem?_getD]
      first | refine hK _ ?_ | refine ⟨Cond.mk (by first | omega | (simp [-List.getD_eq_getElem?_getD]; done) | (simp [-List.getD_eq_getElem?_getD]; omega) | (simp [-List.getD_eq_getElem?_getD]; repeat (first | intro _ | exact And.intro ‹_› ‹_› | apply And.intro | assumption | omega | exact decide_eq_true (by assumption)))), hK _ ?_⟩
      clear K hK
      refine awpS_cond rfl (fun hb24 => ?_) (fun hb24 => ?_)
      ·
        try simp [-List.getD_eq_getElem?_getD] at hb24
        refine awpS_seq ?_
        refine awpS_reg T_ok fun K hK => ?_
        simp [hG, List.getD_cons_zero, List.getD_cons_succ, -List.getD_eq_getElem?_getD]
        first | refine hK _ ?_ | refine ⟨Cond.mk (by first | omega | (simp [-List.getD_eq_getElem?_getD]; done) | (simp [-List.getD_eq_getElem?_getD]; omega) | (simp [-List.getD_eq_getElem?_getD]; repeat (first | intro _ | exact And.intro ‹_› ‹_› | apply And.intro | assumption | omega | exact decide_eq_true (by assumption)))), hK _ ?_⟩
        clear K hK
        refine awpS_ret ?_
        refine RetOK_of ?_
        simp [hG, List.getD_cons_zero, List.getD_cons_succ, -List.getD_eq_getElem?_getD]
        exact (gcheck_limit (by omega) (by omega) (by omega)).symm
      ·
        try simp [-List.getD_eq_getElem?_getD] at hb24
        refine awpS_skip ?_
        refine awpS_seq ?_
        refine awpS_seq ?_
        refine awpS_reg T_ok fun K hK => ?_
        simp [hG, List.getD_cons_zero, List.getD_cons_succ, -List.getD_eq_getElem?_getD]
        first | refine hK _ ?_ | refine ⟨Cond.mk (by first | omega | (simp [-List.getD_eq_getElem?_getD]; done) | (simp [-List.getD_eq_getElem?_getD]; omega) | (simp [-List.getD_eq_getElem?_getD]; repeat (first | intro _ | exact And.intro ‹_› ‹_› | apply And.intro | assumption | omega | exact decide_eq_true (by assumption)))), hK _ ?_⟩
        clear K hK
        refine awpS_block ?_
        refine awpS_loop (α := Nat) (fun k => ⟨[(1, .ptr (0, 0) 0 0), (3, .int .i64 k)], [(0, .one (.arr 1 3 (fun _ => grF g)))], 1⟩) (fun k => Sized g ∧ k ≤ g.edges.length ∧ ∀ j, j < k → edgeCheck g j = 0) (fun k => g.edges.length - k) (0) (⟨⟨by omega, by omega, by omega⟩, Nat.zero_le _, fun j hj => absurd hj (Nat.not_lt_zero _)⟩) ?_ ?_
        ·
          refine wk_of (id) (fun _ => false) (fun _ => false) ?_ ?_ rfl (Nat.zero_le _) (fun k hk => absurd hk (Nat.not_lt_zero _))
          · simp [hG, List.getD_cons_zero, List.getD_cons_succ, -List.getD_eq_getElem?_getD]
          · simp [hG, List.getD_cons_zero, List.getD_cons_succ, -List.getD_eq_getElem?_getD]
        ·
          rintro k ⟨hz, hk, hn⟩
          have hed := hz.ed
          refine awpS_seq ?_
          refine awpS_seq ?_
          refine awpS_reg T_ok fun K hK => ?_
          simp [hG, List.getD_cons_zero, List.getD_cons_succ, -List.getD_eq_getElem?_getD]
          first | refine hK _ ?_ | refine ⟨Cond.mk (by first | omega | (simp [-List.getD_eq_getElem?_getD]; done) | (simp [-List.getD_eq_getElem?_getD]; omega) | (simp [-List.getD_eq_getElem?_getD]; repeat (first | intro _ | exact And.intro ‹_› ‹_› | apply And.intro | assumption | omega | exact decide_eq_true (by assumption)))), hK _ ?_⟩
          clear K hK
          refine awpS_cond rfl (fun hb29 => ?_) (fun hb29 => ?_)
          ·
            try simp [-List.getD_eq_getElem?_getD] at hb29
            refine awpS_skip ?_
            refine awpS_seq ?_
            refine awpS_block ?_
            refine awpS_seq ?_
            refine awpS_reg T_ok fun K hK => ?_
            simp [hG, List.getD_cons_zero, List.getD_cons_succ, -List.getD_eq_getElem?_getD]
            first | refine hK _ ?_ | refine ⟨Cond.mk (by first | omega | (simp [-List.getD_eq_getElem?_getD]; done) | (simp [-List.getD_eq_getElem?_getD]; omega) | (simp [-List.getD_eq_getElem?_getD]; repeat (first | intro _ | exact And.intro ‹_› ‹_› | apply And.intro | assumption | omega | exact decide_eq_true (by assumption)))), hK _ ?_⟩
            clear K hK
            refine awpS_seq ?_
            refine awpS_seq ?_
            refine awpS_reg T_ok fun K hK => ?_
            simp [hG, List.getD_cons_zero, List.getD_cons_succ, -List.getD_eq_getElem?_getD]
            first | refine hK _ ?_ | refine ⟨Cond.mk (by first | omega | (simp [-List.getD_eq_getElem?_getD]; done) | (simp [-List.getD_eq_getElem?_getD]; omega) | (simp [-List.getD_eq_getElem?_getD]; repeat (first | intro _ | exact And.intro ‹_› ‹_› | apply And.intro | assumption | omega | exact decide_eq_true (by assumption)))), hK _ ?_⟩
            clear K hK
            refine awpS_cond rfl (fun hb70 => ?_) (fun hb70 => ?_)
            ·
              try simp [-List.getD_eq_getElem?_getD] at hb70
              refine awpS_seq ?_
              refine awpS_reg T_ok fun K hK => ?_
              simp [hG, List.getD_cons_zero, List.getD_cons_succ, -List.getD_eq_getElem?_getD]
              first | refine hK _ ?_ | refine ⟨Cond.mk (by first | omega | (simp [-List.getD_eq_getElem?_getD]; done) | (simp [-List.getD_eq_getElem?_getD]; omega) | (simp [-List.getD_eq_getElem?_getD]; repeat (first | intro _ | exact And.intro ‹_› ‹_› | apply And.intro | assumption | omega | exact decide_eq_true (by assumption)))), hK _ ?_⟩
              clear K hK
              refine awpS_ret ?_
              refine blockQ_ret (thenQ_ret ?_)
              refine thenQ_ret (thenQ_ret ?_)
              refine blockQ_ret (thenQ_ret ?_)
              refine RetOK_of ?_
              simp [hG, List.getD_cons_zero, List.getD_cons_succ, -List.getD_eq_getElem?_getD]
              exact (gcheck_bad hz hb29 hn (edgeCheck_out hb70) (by decide)).symm
            ·
              try simp [-List.getD_eq_getElem?_getD] at hb70
              refine awpS_skip ?_
              refine awpS_seq ?_
              refine awpS_draw hR mixed [] ⟨[], [], []⟩ fun mu0 => ?_
              refine awpA_tk T_ok [0, 1, 2, 3, 4, 5, 6, 7, 8, 9] [] (fuel := 3) [9, 8, 7, 6, 5, 4, 3, 2, 1, 0] (by decide +kernel) (by decide +kernel) rfl rfl fun K hK => ?_
              simp [hG, List.getD_cons_zero, List.getD_cons_succ, -List.getD_eq_getElem?_getD]
              first | refine hK _ ?_ | refine ⟨Cond.mk (by first | omega | (simp [-List.getD_eq_getElem?_getD]; done) | (simp [-List.getD_eq_getElem?_getD]; omega) | (simp [-List.getD_eq_getElem?_getD]; repeat (first | intro _ | exact And.intro ‹_› ‹_› | apply And.intro | assumption | omega | exact decide_eq_true (by assumption)))), hK _ ?_⟩
              clear K hK
              refine awpA_only (fuel := 2) (i := 10) (by decide +kernel) ?_
              refine awpO_call cal72 rfl rfl rfl (fun _ => rfl) (fun hg => compare_c (g.edges.getD (k - 1) de) (g.edges.getD k de)) (fun hg => ?_) (fun hg => ?_) fun K hK => ?_
              · first | (simp [hG, List.getD_cons_zero, List.getD_cons_succ, -List.getD_eq_getElem?_getD]; done) | (simp [-List.getD_eq_getElem?_getD] at hg; done) | (simp [-List.getD_eq_getElem?_getD] at hg; simp [hG, List.getD_cons_zero, List.getD_cons_succ, -List.getD_eq_getElem?_getD]; first | omega | exact hg | (simp_all [-List.getD_eq_getElem?_getD]; done) | (simp_all [-List.getD_eq_getElem?_getD]; first | exact ⟨rfl, rfl⟩ | exact rfl))
              · simp [-List.getD_eq_getElem?_getD] at hg; simp [hG, List.getD_cons_zero, List.getD_cons_succ, -List.getD_eq_getElem?_getD]; exact ⟨rfl, rfl, rfl⟩
              simp [hG, List.getD_cons_zero, List.getD_cons_succ, -List.getD_eq_getElem?_getD]
              refine hK _ ?_
              clear K hK
              refine awpA_tk T_ok [11, 12] [] (fuel := 0) [12, 11, 10, 9, 8, 7, 6, 5, 4, 3, 2, 1, 0] (by decide +kernel) (by decide +kernel) rfl rfl fun K hK => ?_
              simp [hG, List.getD_cons_zero, List.getD_cons_succ, -List.getD_eq_getElem?_getD]
              first | refine hK _ ?_ | refine ⟨Cond.mk (by first | omega | (simp [-List.getD_eq_getElem?_getD]; done) | (simp [-List.getD_eq_getElem?_getD]; omega) | (simp [-List.getD_eq_getElem?_getD]; repeat (first | intro _ | exact And.intro ‹_› ‹_› | apply And.intro | assumption | omega | exact decide_eq_true (by assumption)))), hK _ ?_⟩
              clear K hK
              refine awpA_done (by decide +kernel) ?_
              refine awpS_cond rfl (fun hb83 => ?_) (fun hb83 => ?_)
              ·
                try simp [-List.getD_eq_getElem?_getD] at hb83
                refine awpS_seq ?_
                refine awpS_reg T_ok fun K hK => ?_
                simp [hG, List.getD_cons_zero, List.getD_cons_succ, -List.getD_eq_getElem?_getD]
                first | refine hK _ ?_ | refine ⟨Cond.mk (by first | omega | (simp [-List.getD_eq_getElem?_getD]; done) | (simp [-List.getD_eq_getElem?_getD]; omega) | (simp [-List.getD_eq_getElem?_getD]; repeat (first | intro _ | exact And.intro ‹_› ‹_› | apply And.intro | assumption | omega | exact decide_eq_true (by assumption)))), hK _ ?_⟩
                clear K hK
                refine awpS_ret ?_
                refine blockQ_ret (thenQ_ret ?_)
                refine thenQ_ret (thenQ_ret ?_)
                refine blockQ_ret (thenQ_ret ?_)
                refine RetOK_of ?_
                simp [hG, List.getD_cons_zero, List.getD_cons_succ, -List.getD_eq_getElem?_getD]
                exact (gcheck_bad hz hb29 hn (edgeCheck_ord hb70 hb83) (by decide)).symm
              ·
                try simp [-List.getD_eq_getElem?_getD] at hb83
                refine awpS_skip ?_
                refine awpS_nil ?_
                refine blockQ_norm (thenQ_norm ?_)
                refine awpS_reg T_ok fun K hK => ?_
                simp [hG, List.getD_cons_zero, List.getD_cons_succ, -List.getD_eq_getElem?_getD]
                first | refine hK _ ?_ | refine ⟨Cond.mk (by first | omega | (simp [-List.getD_eq_getElem?_getD]; done) | (simp [-List.getD_eq_getElem?_getD]; omega) | (simp [-List.getD_eq_getElem?_getD]; repeat (first | intro _ | exact And.intro ‹_› ‹_› | apply And.intro | assumption | omega | exact decide_eq_true (by assumption)))), hK _ ?_⟩
                clear K hK
                refine awpS_nil ?_
                refine round_end (k + 1) (⟨hz, by omega, step_all hn (edgeCheck_ok hb70 hb83)⟩) (by omega) ?_
                refine wk_of (id) (fun _ => false) (fun _ => false) ?_ ?_ rfl (Nat.zero_le _) (fun k hk => absurd hk (Nat.not_lt_zero _))
                · simp [hG, List.getD_cons_zero, List.getD_cons_succ, -List.getD_eq_getElem?_getD]
                · simp [hG, List.getD_cons_zero, List.getD_cons_succ, -List.getD_eq_getElem?_getD]
          ·
            try simp [-List.getD_eq_getElem?_getD] at hb29
            refine awpS_exit ?_
            refine thenQ_exit (thenQ_exit ?_)
            refine blockQ_exit (thenQ_norm ?_)
            refine awpS_seq ?_
            refine awpS_reg T_ok fun K hK => ?_
            simp [hG, List.getD_cons_zero, List.getD_cons_succ, -List.getD_eq_getElem?_getD]
            first | refine hK _ ?_ | refine ⟨Cond.mk (by first | omega | (simp [-List.getD_eq_getElem?_getD]; done) | (simp [-List.getD_eq_getElem?_getD]; omega) | (simp [-List.getD_eq_getElem?_getD]; repeat (first | intro _ | exact And.intro ‹_› ‹_› | apply And.intro | assumption | omega | exact decide_eq_true (by assumption)))), hK _ ?_⟩
            clear K hK
            refine awpS_ret ?_
            refine RetOK_of ?_
            simp [hG, List.getD_cons_zero, List.getD_cons_succ, -List.getD_eq_getElem?_getD]
            exact (gcheck_ok hz fun j hj => hn j (by omega)).symm

set_option maxRecDepth 100000 in
theorem reachedR_c (g : Gr) (s : Nat) (hf : Fit g) (hed : g.edges.length ≤ 1024) (hs : s < g.n) : PC Try.prog 50 [.agg 3 (grF g), .int .i64 s] (bools (reachL g s)) := by
  have hst := hf.st
  have hnn : (g.n : Int) = g.states := (by unfold Gr.n; omega)
  refine PC_introS T_ok Try.func50 rfl (by simp [Try.ntmps50]) fun G hG hR => ?_
  simp only [Try.ntmps50, Try.results50] at hG ⊢
  simp only [argEnv, Nat.zero_add, Nat.reduceAdd]
  refine awpS_seq ?_
  refine awpS_reg T_ok fun K hK => ?_
  simp [hG, List.getD_cons_zero, List.getD_cons_succ, -List.getD_eq_getElem?_getD]
  first | refine hK _ ?_ | refine ⟨Cond.mk (by first | omega | (simp [-List.getD_eq_getElem?_getD]; done) | (simp [-List.getD_eq_getElem?_getD]; omega) | (simp [-List.getD_eq_getElem?_getD]; repeat (first | intro _ | exact And.intro ‹_› ‹_› | apply And.intro | assumption | omega | exact decide_eq_true (by assumption)))), hK _ ?_⟩
  clear K hK
  refine awpS_seq ?_
  refine awpS_reg T_ok fun K hK => ?_
  simp [hG, List.getD_cons_zero, List.getD_cons_succ, -List.getD_eq_getElem?_getD]
  first | refine hK _ ?_ | refine ⟨Cond.mk (by first | omega | (simp [-List.getD_eq_getElem?_getD]; done) | (simp [-List.getD_eq_getElem?_getD]; omega) | (simp [-List.getD_eq_getElem?_getD]; repeat (first | intro _ | exact And.intro ‹_› ‹_› | apply And.intro | assumption | omega | exact decide_eq_true (by assumption)))), hK _ ?_⟩
  clear K hK
  refine awpS_seq ?_
  refine awpS_reg T_ok fun K hK => ?_
  simp [hG, List.getD_cons_zero, List.getD_cons_succ, -List.getD_eq_getElem?_getD]
  first | refine hK _ ?_ | refine ⟨Cond.mk (by first | omega | (simp [-List.getD_eq_getElem?_getD]; done) | (simp [-List.getD_eq_getElem?_getD]; omega) | (simp [-List.getD_eq_getElem?_getD]; repeat (first | intro _ | exact And.intro ‹_› ‹_› | apply And.intro | assumption | omega | exact decide_eq_true (by assumption)))), hK _ ?_⟩
  clear K hK
  refine awpS_seq ?_
  refine awpS_seq ?_
  refine awpS_reg T_ok fun K hK => ?_
  simp [hG, List.getD_cons_zero, List.getD_cons_succ, -List.getD_eq_getElem?_getD]
  first | refine hK _ ?_ | refine ⟨Cond.mk (by first | omega | (simp [-List.getD_eq_getElem?_getD]; done) | (simp [-List.getD_eq_getElem?_getD]; omega) | (simp [-List.getD_eq_getElem?_getD]; repeat (first | intro _ | exact And.intro ‹_› ‹_› | apply And.intro | assumption | omega | exact decide_eq_true (by assumption)))), hK _ ?_⟩
  clear K hK
  refine awpS_block ?_
  refine awpS_loop (α := Nat) (fun k => ⟨[(2, .ptr (0, 0) 0 0), (5, .sl (1, 0) 0 g.n), (6, .int .i64 k)], [(0, .one (.arr 1 3 (fun _ => grF g))), (1, .one (.arr g.n 1 (fun j _ => .bool ((rounds g s k).getD j false))))], 2⟩) (fun k => k ≤ g.n) (fun k => g.n - k) (0) (Nat.zero_le _) ?_ ?_
  ·
    refine wk_of (id) (fun _ => false) (fun _ => false) ?_ ?_ rfl (Nat.zero_le _) (fun k hk => absurd hk (Nat.not_lt_zero _))
    · simp [hG, List.getD_cons_zero, List.getD_cons_succ, -List.getD_eq_getElem?_getD]; rfl
    · simp [hG, List.getD_cons_zero, List.getD_cons_succ, -List.getD_eq_getElem?_getD]; exact ⟨Nat.le_of_eq rfl, fun j _ => rstart_at hs⟩
  ·
    rintro k hk
    refine awpS_seq ?_
    refine awpS_seq ?_
    refine awpS_reg T_ok fun K hK => ?_
    simp [hG, List.getD_cons_zero, List.getD_cons_succ, -List.getD_eq_getElem?_getD]
    first | refine hK _ ?_ | refine ⟨Cond.mk (by first | omega | (simp [-List.getD_eq_getElem?_getD]; done) | (simp [-List.getD_eq_getElem?_getD]; omega) | (simp [-List.getD_eq_getElem?_getD]; repeat (first | intro _ | exact And.intro ‹_› ‹_› | apply And.intro | assumption | omega | exact decide_eq_true (by assumption)))), hK _ ?_⟩
    clear K hK
    refine awpS_cond rfl (fun hb17 => ?_) (fun hb17 => ?_)
    ·
      try simp [-List.getD_eq_getElem?_getD] at hb17
      refine awpS_skip ?_
      refine awpS_seq ?_
      refine awpS_block ?_
      refine awpS_seq ?_
      refine awpS_reg T_ok fun K hK => ?_
      simp [hG, List.getD_cons_zero, List.getD_cons_succ, -List.getD_eq_getElem?_getD]
      first | refine hK _ ?_ | refine ⟨Cond.mk (by first | omega | (simp [-List.getD_eq_getElem?_getD]; done) | (simp [-List.getD_eq_getElem?_getD]; omega) | (simp [-List.getD_eq_getElem?_getD]; repeat (first | intro _ | exact And.intro ‹_› ‹_› | apply And.intro | assumption | omega | exact decide_eq_true (by assumption)))), hK _ ?_⟩
      clear K hK
      refine awpS_block ?_
      refine awpS_loop (α := Nat) (fun i => ⟨[(2, .ptr (0, 0) 0 0), (5, .sl (1, 0) 0 g.n), (6, .int .i64 k), (7, .int .i64 i)], [(0, .one (.arr 1 3 (fun _ => grF g))), (1, .one (.arr g.n 1 (fun j _ => .bool ((roundsAt g s k i).getD j false))))], 2⟩) (fun i => i ≤ g.edges.length) (fun i => g.edges.length - i) (0) (Nat.zero_le _) ?_ ?_
      ·
        refine wk_of (id) (fun _ => false) (fun _ => false) ?_ ?_ rfl (Nat.zero_le _) (fun k hk => absurd hk (Nat.not_lt_zero _))
        · simp [hG, List.getD_cons_zero, List.getD_cons_succ, -List.getD_eq_getElem?_getD]
        · simp [hG, List.getD_cons_zero, List.getD_cons_succ, -List.getD_eq_getElem?_getD]; exact fun j _ => by rw [roundsAt_zero]
      ·
        rintro i hi
        refine awpS_seq ?_
        refine awpS_seq ?_
        refine awpS_reg T_ok fun K hK => ?_
        simp [hG, List.getD_cons_zero, List.getD_cons_succ, -List.getD_eq_getElem?_getD]
        first | refine hK _ ?_ | refine ⟨Cond.mk (by first | omega | (simp [-List.getD_eq_getElem?_getD]; done) | (simp [-List.getD_eq_getElem?_getD]; omega) | (simp [-List.getD_eq_getElem?_getD]; repeat (first | intro _ | exact And.intro ‹_› ‹_› | apply And.intro | assumption | omega | exact decide_eq_true (by assumption)))), hK _ ?_⟩
        clear K hK
        refine awpS_cond rfl (fun hb24 => ?_) (fun hb24 => ?_)
        ·
          try simp [-List.getD_eq_getElem?_getD] at hb24
          have hfr := hf.frm _ (getD_mem (d := de) (by simpa using hb24))
          have hto := hf.to _ (getD_mem (d := de) (by simpa using hb24))
          refine awpS_skip ?_
          refine awpS_seq ?_
          refine awpS_block ?_
          refine awpS_seq ?_
          refine awpS_reg T_ok fun K hK => ?_
          simp [hG, List.getD_cons_zero, List.getD_cons_succ, -List.getD_eq_getElem?_getD]
          first | refine hK _ ?_ | refine ⟨Cond.mk (by first | omega | (simp [-List.getD_eq_getElem?_getD]; done) | (simp [-List.getD_eq_getElem?_getD]; omega) | (simp [-List.getD_eq_getElem?_getD]; repeat (first | intro _ | exact And.intro ‹_› ‹_› | apply And.intro | assumption | omega | exact decide_eq_true (by assumption)))), hK _ ?_⟩
          clear K hK
          refine awpS_cond rfl (fun hb35 => ?_) (fun hb35 => ?_)
          ·
            try simp [-List.getD_eq_getElem?_getD] at hb35
            refine awpS_reg T_ok fun K hK => ?_
            simp [hG, List.getD_cons_zero, List.getD_cons_succ, -List.getD_eq_getElem?_getD]
            first | refine hK _ ?_ | refine ⟨Cond.mk (by first | omega | (simp [-List.getD_eq_getElem?_getD]; done) | (simp [-List.getD_eq_getElem?_getD]; omega) | (simp [-List.getD_eq_getElem?_getD]; repeat (first | intro _ | exact And.intro ‹_› ‹_› | apply And.intro | assumption | omega | exact decide_eq_true (by assumption)))), hK _ ?_⟩
            clear K hK
            refine awpS_nil ?_
            refine blockQ_norm (thenQ_norm ?_)
            refine awpS_reg T_ok fun K hK => ?_
            simp [hG, List.getD_cons_zero, List.getD_cons_succ, -List.getD_eq_getElem?_getD]
            first | refine hK _ ?_ | refine ⟨Cond.mk (by first | omega | (simp [-List.getD_eq_getElem?_getD]; done) | (simp [-List.getD_eq_getElem?_getD]; omega) | (simp [-List.getD_eq_getElem?_getD]; repeat (first | intro _ | exact And.intro ‹_› ‹_› | apply And.intro | assumption | omega | exact decide_eq_true (by assumption)))), hK _ ?_⟩
            clear K hK
            refine awpS_nil ?_
            refine round_end (i + 1) (by omega) (by omega) ?_
            refine wk_of (id) (fun _ => false) (fun _ => false) ?_ ?_ rfl (Nat.zero_le _) (fun k hk => absurd hk (Nat.not_lt_zero _))
            · simp [hG, List.getD_cons_zero, List.getD_cons_succ, -List.getD_eq_getElem?_getD]
            · simp [hG, List.getD_cons_zero, List.getD_cons_succ, -List.getD_eq_getElem?_getD]; exact fun j hj => by rw [roundsAt_succ hb24, relax_yes hb35 j (by rw [roundsAt_len]; omega)]; split <;> rfl
          ·
            try simp [-List.getD_eq_getElem?_getD] at hb35
            refine awpS_skip ?_
            refine awpS_nil ?_
            refine blockQ_norm (thenQ_norm ?_)
            refine awpS_reg T_ok fun K hK => ?_
            simp [hG, List.getD_cons_zero, List.getD_cons_succ, -List.getD_eq_getElem?_getD]
            first | refine hK _ ?_ | refine ⟨Cond.mk (by first | omega | (simp [-List.getD_eq_getElem?_getD]; done) | (simp [-List.getD_eq_getElem?_getD]; omega) | (simp [-List.getD_eq_getElem?_getD]; repeat (first | intro _ | exact And.intro ‹_› ‹_› | apply And.intro | assumption | omega | exact decide_eq_true (by assumption)))), hK _ ?_⟩
            clear K hK
            refine awpS_nil ?_
            refine round_end (i + 1) (by omega) (by omega) ?_
            refine wk_of (id) (fun _ => false) (fun _ => false) ?_ ?_ rfl (Nat.zero_le _) (fun k hk => absurd hk (Nat.not_lt_zero _))
            · simp [hG, List.getD_cons_zero, List.getD_cons_succ, -List.getD_eq_getElem?_getD]
            · simp [hG, List.getD_cons_zero, List.getD_cons_succ, -List.getD_eq_getElem?_getD]; exact fun j hj => by rw [roundsAt_succ hb24, relax_no hb35]
        ·
          try simp [-List.getD_eq_getElem?_getD] at hb24
          refine awpS_exit ?_
          refine thenQ_exit (thenQ_exit ?_)
          refine blockQ_exit (thenQ_norm ?_)
          refine awpS_nil ?_
          refine blockQ_norm (thenQ_norm ?_)
          refine awpS_reg T_ok fun K hK => ?_
          simp [hG, List.getD_cons_zero, List.getD_cons_succ, -List.getD_eq_getElem?_getD]
          first | refine hK _ ?_ | refine ⟨Cond.mk (by first | omega | (simp [-List.getD_eq_getElem?_getD]; done) | (simp [-List.getD_eq_getElem?_getD]; omega) | (simp [-List.getD_eq_getElem?_getD]; repeat (first | intro _ | exact And.intro ‹_› ‹_› | apply And.intro | assumption | omega | exact decide_eq_true (by assumption)))), hK _ ?_⟩
          clear K hK
          refine awpS_nil ?_
          refine round_end (k + 1) (by omega) (by omega) ?_
          refine wk_of (id) (fun _ => false) (fun _ => false) ?_ ?_ rfl (Nat.zero_le _) (fun k hk => absurd hk (Nat.not_lt_zero _))
          · simp [hG, List.getD_cons_zero, List.getD_cons_succ, -List.getD_eq_getElem?_getD]
          · simp [hG, List.getD_cons_zero, List.getD_cons_succ, -List.getD_eq_getElem?_getD]; exact fun j _ => by rw [roundsAt_all hb24]
    ·
      try simp [-List.getD_eq_getElem?_getD] at hb17
      refine awpS_exit ?_
      refine thenQ_exit (thenQ_exit ?_)
      refine blockQ_exit (thenQ_norm ?_)
      refine awpS_seq ?_
      refine awpS_reg T_ok fun K hK => ?_
      simp [hG, List.getD_cons_zero, List.getD_cons_succ, -List.getD_eq_getElem?_getD]
      first | refine hK _ ?_ | refine ⟨Cond.mk (by first | omega | (simp [-List.getD_eq_getElem?_getD]; done) | (simp [-List.getD_eq_getElem?_getD]; omega) | (simp [-List.getD_eq_getElem?_getD]; repeat (first | intro _ | exact And.intro ‹_› ‹_› | apply And.intro | assumption | omega | exact decide_eq_true (by assumption)))), hK _ ?_⟩
      clear K hK
      refine awpS_ret ?_
      refine RetOK_of ?_
      simp [hG, List.getD_cons_zero, List.getD_cons_succ, -List.getD_eq_getElem?_getD]
      obtain rfl : k = g.n := (by omega); rw [rounds_all hf hs]; exact fun _ _ => rfl

end Go.Proofs.Ytkmnnmclebdjlaa
