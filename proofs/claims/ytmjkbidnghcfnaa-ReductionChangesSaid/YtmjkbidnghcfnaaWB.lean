/-
 Walks: small functions of this seat.
-/
import Derived.Test.YtmjkbidnghcfnaaLT
import Derived.Test.YtmjkbidnghcfnaaLZ
import Derived.Test.YtmjkbidnghcfnaaWA
import Derived.Test.YtmjkbidnghcfnaaLC1
namespace Go.Proofs.Ytmjkbidnghcfnaa
set_option linter.unusedSimpArgs false
set_option linter.unusedVariables false
open Go Go.Lift Go.Proofs




@[simp] theorem luK9 {β : Type} {ev : β → AVal} {l : List (List UInt8 × β)} {k : List UInt8} : luK T 9 (mpE strK ev l) 0 (.str k) = some ((alFind l 0 k).map fun p => (p.1, ev p.2)) := luK_strK (by simp)

set_option maxRecDepth 100000 in
theorem cloneI_c (l : List Int) (hl : l.length ≤ 1000000) : FC1 Try.prog 50 [ints l] [] 0 (.sl (0, 0) 0 l.length) [(0, .one (.arr l.length 1 (fun i _ => .int .i64 (l.getD i 0))))] 1 := by
 refine FC_introS T_ok Try.func50 rfl (by simp [Try.ntmps50]) fun G hG hR => ?_
 simp only [Try.ntmps50, Try.results50] at hG ⊢
 simp only [argEnv, Nat.zero_add, Nat.reduceAdd]
 refine awpS_seq ?_
 refine awpS_reg T_ok fun K hK => ?_
 simp [hG, List.getD_cons_zero, List.getD_cons_succ, -List.getD_eq_getElem?_getD]
 refine hK _ ?_
 clear K hK
 refine awpS_seq ?_
 refine awpS_seq ?_
 refine awpS_reg T_ok fun K hK => ?_
 simp [hG, List.getD_cons_zero, List.getD_cons_succ, -List.getD_eq_getElem?_getD]
 refine hK _ ?_
 clear K hK
 refine awpS_condU rfl (fun hb4 => ?_) ?_
 ·
  refine awpS_seq ?_
  refine awpS_reg T_ok fun K hK => ?_
  simp [hG, List.getD_cons_zero, List.getD_cons_succ, -List.getD_eq_getElem?_getD]
  refine hK _ ?_
  clear K hK
  refine awpS_ret ?_
  refine RetF_of (()) (id) (fun _ => false) (fun _ => true) trivial ?_ ?_ (by rfl) (by simp) (fun k hk => absurd hk (Nat.not_lt_zero _))
  · simp [hG]; exact hb4
  · simp [hG]; exact hb4
 ·
  refine awpS_skip ?_
  refine awpS_seq ?_
  refine awpS_reg T_ok fun K hK => ?_
  simp [hG, List.getD_cons_zero, List.getD_cons_succ, -List.getD_eq_getElem?_getD]
  refine ⟨Cond.mk (by omega), hK _ ?_⟩
  clear K hK
  refine awpS_ret ?_
  refine RetF_of (()) (fun _ => 1) (fun _ => false) (fun _ => false) trivial ?_ ?_ (by rfl) (by simp) (fun k hk => absurd hk (Nat.not_lt_zero _))
  · simp [hG, List.getD_cons_zero, List.getD_cons_succ, -List.getD_eq_getElem?_getD]
  · simp [hG, List.getD_cons_zero, List.getD_cons_succ, -List.getD_eq_getElem?_getD]

set_option maxRecDepth 100000 in
theorem cloneC_c (l : List Cell) (hl : l.length ≤ 1000000) : FC1 Try.prog 39 [cells l] [] 0 (.sl (0, 0) 0 l.length) [(0, .one (.arr l.length 2 (fun i j => cellF (l.getD i dc) j)))] 1 := by
 refine FC_introS T_ok Try.func39 rfl (by simp [Try.ntmps39]) fun G hG hR => ?_
 simp only [Try.ntmps39, Try.results39] at hG ⊢
 simp only [argEnv, Nat.zero_add, Nat.reduceAdd]
 refine awpS_seq ?_
 refine awpS_reg T_ok fun K hK => ?_
 simp [hG, List.getD_cons_zero, List.getD_cons_succ, -List.getD_eq_getElem?_getD]
 refine hK _ ?_
 clear K hK
 refine awpS_seq ?_
 refine awpS_seq ?_
 refine awpS_reg T_ok fun K hK => ?_
 simp [hG, List.getD_cons_zero, List.getD_cons_succ, -List.getD_eq_getElem?_getD]
 refine hK _ ?_
 clear K hK
 refine awpS_condU rfl (fun hb4 => ?_) ?_
 ·
  refine awpS_seq ?_
  refine awpS_reg T_ok fun K hK => ?_
  simp [hG, List.getD_cons_zero, List.getD_cons_succ, -List.getD_eq_getElem?_getD]
  refine hK _ ?_
  clear K hK
  refine awpS_ret ?_
  refine RetF_of (()) (id) (fun _ => false) (fun _ => true) trivial ?_ ?_ (by rfl) (by simp) (fun k hk => absurd hk (Nat.not_lt_zero _))
  · simp [hG]; exact hb4
  · simp [hG]; exact hb4
 ·
  refine awpS_skip ?_
  refine awpS_seq ?_
  refine awpS_reg T_ok fun K hK => ?_
  simp [hG, List.getD_cons_zero, List.getD_cons_succ, -List.getD_eq_getElem?_getD]
  refine ⟨Cond.mk (by omega), hK _ ?_⟩
  clear K hK
  refine awpS_ret ?_
  refine RetF_of (()) (fun _ => 1) (fun _ => false) (fun _ => false) trivial ?_ ?_ (by rfl) (by simp) (fun k hk => absurd hk (Nat.not_lt_zero _))
  · simp [hG, List.getD_cons_zero, List.getD_cons_succ, -List.getD_eq_getElem?_getD]
  · simp [hG, List.getD_cons_zero, List.getD_cons_succ, -List.getD_eq_getElem?_getD]

set_option maxRecDepth 100000 in
theorem with_c (e : Enc) (rows : List (List Cell)) : PC Try.prog 40 [.agg 4 (encF e), rowsC rows] (.agg 4 (encF { e with rows := rows })) := by
 refine PC_introS T_ok Try.func40 rfl (by simp [Try.ntmps40]) fun G hG hR => ?_
 simp only [Try.ntmps40, Try.results40] at hG ⊢
 simp only [argEnv, Nat.zero_add, Nat.reduceAdd]
 refine awpS_seq ?_
 refine awpS_reg T_ok fun K hK => ?_
 simp [hG, List.getD_cons_zero, List.getD_cons_succ, -List.getD_eq_getElem?_getD]
 refine ⟨Cond.mk (by simp [-List.getD_eq_getElem?_getD]), hK _ ?_⟩
 clear K hK
 refine awpS_seq ?_
 refine awpS_reg T_ok fun K hK => ?_
 simp [hG, List.getD_cons_zero, List.getD_cons_succ, -List.getD_eq_getElem?_getD]
 refine ⟨Cond.mk (by simp [-List.getD_eq_getElem?_getD]), hK _ ?_⟩
 clear K hK
 refine awpS_seq ?_
 refine awpS_reg T_ok fun K hK => ?_
 simp [hG, List.getD_cons_zero, List.getD_cons_succ, -List.getD_eq_getElem?_getD]
 refine ⟨Cond.mk (by simp [-List.getD_eq_getElem?_getD]), hK _ ?_⟩
 clear K hK
 refine awpS_ret ?_
 refine RetOK_of ?_
 simp [hG, List.getD_cons_zero, List.getD_cons_succ, -List.getD_eq_getElem?_getD]

set_option maxRecDepth 100000 in
theorem maxI_c (l : List Int) (h0 : 0 < l.length) (hl : l.length ≤ 1000000) : PC Try.prog 62 [ints l] (.int .i64 (maxL l)) := by
 refine PC_introS T_ok Try.func62 rfl (by simp [Try.ntmps62]) fun G hG hR => ?_
 simp only [Try.ntmps62, Try.results62] at hG ⊢
 simp only [argEnv, Nat.zero_add, Nat.reduceAdd]
 refine awpS_seq ?_
 refine awpS_reg T_ok fun K hK => ?_
 simp [hG, List.getD_cons_zero, List.getD_cons_succ, -List.getD_eq_getElem?_getD]
 refine hK _ ?_
 clear K hK
 refine awpS_seq ?_
 refine awpS_seq ?_
 refine awpS_reg T_ok fun K hK => ?_
 simp [hG, List.getD_cons_zero, List.getD_cons_succ, -List.getD_eq_getElem?_getD]
 refine hK _ ?_
 clear K hK
 refine awpS_cond rfl (fun hb7 => ?_) (fun hb7 => ?_)
 ·
  exact absurd hb7 (by simp; omega)
 ·
  try simp [-List.getD_eq_getElem?_getD] at hb7
  refine awpS_skip ?_
  refine awpS_seq ?_
  refine awpS_reg T_ok fun K hK => ?_
  simp [hG, List.getD_cons_zero, List.getD_cons_succ, -List.getD_eq_getElem?_getD]
  refine ⟨Cond.mk (by omega), hK _ ?_⟩
  clear K hK
  refine awpS_seq ?_
  refine awpS_seq ?_
  refine awpS_reg T_ok fun K hK => ?_
  simp [hG, List.getD_cons_zero, List.getD_cons_succ, -List.getD_eq_getElem?_getD]
  refine hK _ ?_
  clear K hK
  refine awpS_block ?_
  refine awpS_loop (α := Nat) (fun k => ⟨[(0, ints l), (3, .int .i64 (maxL (l.take k))), (4, .int .i64 k)], [], 0⟩) (fun k => 0 < k ∧ k ≤ l.length) (fun k => l.length - k) (1) (⟨by decide, h0⟩) ?_ ?_
  ·
   refine wk_of (id) (fun _ => false) (fun _ => false) ?_ ?_ rfl (Nat.zero_le _) (fun k hk => absurd hk (Nat.not_lt_zero _))
   · simp [hG, maxL_one h0, -List.getD_eq_getElem?_getD]
   · simp [hG, List.getD_cons_zero, List.getD_cons_succ, -List.getD_eq_getElem?_getD]
  ·
   rintro k ⟨h1, h2⟩
   refine awpS_seq ?_
   refine awpS_seq ?_
   refine awpS_reg T_ok fun K hK => ?_
   simp [hG, List.getD_cons_zero, List.getD_cons_succ, -List.getD_eq_getElem?_getD]
   refine hK _ ?_
   clear K hK
   refine awpS_cond rfl (fun hb15 => ?_) (fun hb15 => ?_)
   ·
    try simp [-List.getD_eq_getElem?_getD] at hb15
    refine awpS_skip ?_
    refine awpS_seq ?_
    refine awpS_block ?_
    refine awpS_reg T_ok fun K hK => ?_
    simp [hG, List.getD_cons_zero, List.getD_cons_succ, -List.getD_eq_getElem?_getD]
    refine ⟨Cond.mk (by omega), hK _ ?_⟩
    clear K hK
    refine awpS_nil ?_
    refine blockQ_norm (thenQ_norm ?_)
    refine awpS_reg T_ok fun K hK => ?_
    simp [hG, List.getD_cons_zero, List.getD_cons_succ, -List.getD_eq_getElem?_getD]
    refine ⟨Cond.mk (by omega), hK _ ?_⟩
    clear K hK
    refine awpS_nil ?_
    refine round_end (k + 1) (⟨by omega, by omega⟩) (by omega) ?_
    refine wk_of (id) (fun _ => false) (fun _ => false) ?_ ?_ rfl (Nat.zero_le _) (fun k hk => absurd hk (Nat.not_lt_zero _))
    · simp [hG, maxL_succ h1 hb15, -List.getD_eq_getElem?_getD]
    · simp [hG, List.getD_cons_zero, List.getD_cons_succ, -List.getD_eq_getElem?_getD]
   ·
    try simp [-List.getD_eq_getElem?_getD] at hb15
    refine awpS_exit ?_
    refine thenQ_exit (thenQ_exit ?_)
    refine blockQ_exit (thenQ_norm ?_)
    refine awpS_seq ?_
    refine awpS_reg T_ok fun K hK => ?_
    simp [hG, List.getD_cons_zero, List.getD_cons_succ, -List.getD_eq_getElem?_getD]
    refine hK _ ?_
    clear K hK
    refine awpS_ret ?_
    refine RetOK_of ?_
    simp [hG, List.getD_cons_zero, List.getD_cons_succ, -List.getD_eq_getElem?_getD]
    rw [List.take_of_length_le hb15]

set_option maxRecDepth 100000 in
theorem size_c (e : Enc) : PC Try.prog 15 [.agg 4 (encF e)] (sizeR e) := by
 refine PC_introS T_ok Try.func15 rfl (by simp [Try.ntmps15]) fun G hG hR => ?_
 simp only [Try.ntmps15, Try.results15] at hG ⊢
 simp only [argEnv, Nat.zero_add, Nat.reduceAdd]
 refine awpS_seq ?_
 refine awpS_reg T_ok fun K hK => ?_
 simp [hG, List.getD_cons_zero, List.getD_cons_succ, -List.getD_eq_getElem?_getD]
 refine ⟨Cond.mk (by simp [-List.getD_eq_getElem?_getD]), hK _ ?_⟩
 clear K hK
 refine awpS_seq ?_
 refine awpS_seq ?_
 refine awpS_regL ?_
 refine awpL_reg T_ok 1 fun K hK => ?_
 simp [hG, List.getD_cons_zero, List.getD_cons_succ, -List.getD_eq_getElem?_getD]
 refine hK _ ?_
 clear K hK
 refine awpL_call cal25 rfl rfl (fun _ => rfl) (fun hg => check_c e) (fun hg => ?_) (fun hg => ?_) fun K hK => ?_
 · simp [hG, List.getD_cons_zero, List.getD_cons_succ, -List.getD_eq_getElem?_getD]
 · simp [hG, List.getD_cons_zero, List.getD_cons_succ, -List.getD_eq_getElem?_getD]
 simp [hG, List.getD_cons_zero, List.getD_cons_succ, -List.getD_eq_getElem?_getD]
 refine hK _ ?_
 clear K hK
 refine awpL_reg T_ok 1 fun K hK => ?_
 simp [hG, List.getD_cons_zero, List.getD_cons_succ, -List.getD_eq_getElem?_getD]
 refine hK _ ?_
 clear K hK
 refine awpL_nil ?_
 refine awpS_cond rfl (fun hb12 => ?_) (fun hb12 => ?_)
 ·
  try simp [-List.getD_eq_getElem?_getD] at hb12
  refine awpS_seq ?_
  refine awpS_reg T_ok fun K hK => ?_
  simp [hG, List.getD_cons_zero, List.getD_cons_succ, -List.getD_eq_getElem?_getD]
  refine hK _ ?_
  clear K hK
  refine awpS_ret ?_
  refine RetOK_of ?_
  simp [hG, List.getD_cons_zero, List.getD_cons_succ, -List.getD_eq_getElem?_getD]
  simp [sizeR, hb12]
 ·
  try simp [-List.getD_eq_getElem?_getD] at hb12
  refine awpS_skip ?_
  refine awpS_seq ?_
  refine awpS_reg T_ok fun K hK => ?_
  simp [hG, List.getD_cons_zero, List.getD_cons_succ, -List.getD_eq_getElem?_getD]
  refine hK _ ?_
  clear K hK
  refine awpS_seq ?_
  refine awpS_seq ?_
  refine awpS_reg T_ok fun K hK => ?_
  simp [hG, List.getD_cons_zero, List.getD_cons_succ, -List.getD_eq_getElem?_getD]
  refine hK _ ?_
  clear K hK
  refine awpS_block ?_
  refine awpS_loop (α := Nat) (fun k => ⟨[(1, .ptr (0, 0) 0 0), (5, .map (1, 0)), (15, rowsC e.rows), (16, .int .i64 e.rows.length), (17, .int .i64 k)], [(0, .one (.arr 1 4 (fun _ => encF e))), (1, .one (.mp (mpE strK boolV (putRows [] (e.rows.take k)))))], 2⟩) (fun k => checkE e = 0 ∧ k ≤ e.rows.length) (fun k => e.rows.length - k) (0) (⟨hb12, Nat.zero_le _⟩) ?_ ?_
  ·
   refine wk_of (id) (fun _ => false) (fun _ => false) ?_ ?_ rfl (Nat.zero_le _) (fun k hk => absurd hk (Nat.not_lt_zero _))
   · simp [hG, List.getD_cons_zero, List.getD_cons_succ, -List.getD_eq_getElem?_getD]
   · simp [hG, putRows]
  ·
   rintro k ⟨hv, hk⟩
   have hl64 := rows_len hv
   refine awpS_seq ?_
   refine awpS_reg T_ok fun K hK => ?_
   simp [hG, List.getD_cons_zero, List.getD_cons_succ, -List.getD_eq_getElem?_getD]
   refine hK _ ?_
   clear K hK
   refine awpS_seq ?_
   refine awpS_cond rfl (fun hb18 => ?_) (fun hb18 => ?_)
   ·
    try simp [-List.getD_eq_getElem?_getD] at hb18
    refine awpS_skip ?_
    refine awpS_seq ?_
    refine awpS_block ?_
    refine awpS_seq ?_
    refine awpS_reg T_ok fun K hK => ?_
    simp [hG, List.getD_cons_zero, List.getD_cons_succ, -List.getD_eq_getElem?_getD]
    refine ⟨Cond.mk (by omega), hK _ ?_⟩
    clear K hK
    refine awpS_seq ?_
    refine awpS_reg T_ok fun K hK => ?_
    simp [hG, List.getD_cons_zero, List.getD_cons_succ, -List.getD_eq_getElem?_getD]
    refine hK _ ?_
    clear K hK
    refine awpS_block ?_
    refine awpS_loop (α := Nat) (fun i => ⟨[(1, .ptr (0, 0) 0 0), (5, .map (1, 0)), (15, rowsC e.rows), (16, .int .i64 e.rows.length), (17, .int .i64 k), (21, cells (e.rows.getD k [])), (22, .int .i64 (e.rows.getD k []).length), (23, .int .i64 i)], [(0, .one (.arr 1 4 (fun _ => encF e))), (1, .one (.mp (mpE strK boolV (putWords (putRows [] (e.rows.take k)) ((e.rows.getD k []).take i)))))], 2⟩) (fun i => i ≤ (e.rows.getD k []).length) (fun i => (e.rows.getD k []).length - i) (0) (Nat.zero_le _) ?_ ?_
    ·
     refine wk_of (id) (fun _ => false) (fun _ => false) ?_ ?_ rfl (Nat.zero_le _) (fun k hk => absurd hk (Nat.not_lt_zero _))
     · simp [hG, List.getD_cons_zero, List.getD_cons_succ, -List.getD_eq_getElem?_getD]
     · simp [hG, putWords]
    ·
     rintro i hi
     have hl256 := row_len hv hb18
     refine awpS_seq ?_
     refine awpS_reg T_ok fun K hK => ?_
     simp [hG, List.getD_cons_zero, List.getD_cons_succ, -List.getD_eq_getElem?_getD]
     refine hK _ ?_
     clear K hK
     refine awpS_seq ?_
     refine awpS_cond rfl (fun hb24 => ?_) (fun hb24 => ?_)
     ·
      try simp [-List.getD_eq_getElem?_getD] at hb24
      refine awpS_skip ?_
      refine awpS_seq ?_
      refine awpS_block ?_
      refine awpS_seq ?_
      refine awpS_reg T_ok fun K hK => ?_
      simp [hG, List.getD_cons_zero, List.getD_cons_succ, -List.getD_eq_getElem?_getD]
      refine ⟨Cond.mk (by simp [-List.getD_eq_getElem?_getD]; omega), hK _ ?_⟩
      clear K hK
      refine awpS_reg T_ok fun K hK => ?_
      simp [hG, List.getD_cons_zero, List.getD_cons_succ, -List.getD_eq_getElem?_getD]
      refine hK _ ?_
      clear K hK
      refine awpS_nil ?_
      refine blockQ_norm (thenQ_norm ?_)
      refine awpS_reg T_ok fun K hK => ?_
      simp [hG, List.getD_cons_zero, List.getD_cons_succ, -List.getD_eq_getElem?_getD]
      refine ⟨Cond.mk (by omega), hK _ ?_⟩
      clear K hK
      refine awpS_nil ?_
      refine round_end (i + 1) (by omega) (by omega) ?_
      refine wk_of (id) (fun _ => false) (fun _ => false) ?_ ?_ rfl (Nat.zero_le _) (fun k hk => absurd hk (Nat.not_lt_zero _))
      · simp [hG, List.getD_cons_zero, List.getD_cons_succ, -List.getD_eq_getElem?_getD]
      · simp [hG, putWords_succ hb24, -List.getD_eq_getElem?_getD]
     ·
      try simp [-List.getD_eq_getElem?_getD] at hb24
      refine awpS_exit ?_
      refine thenQ_exit (thenQ_exit ?_)
      refine blockQ_exit (thenQ_norm ?_)
      refine awpS_nil ?_
      refine blockQ_norm (thenQ_norm ?_)
      refine awpS_reg T_ok fun K hK => ?_
      simp [hG, List.getD_cons_zero, List.getD_cons_succ, -List.getD_eq_getElem?_getD]
      refine ⟨Cond.mk (by omega), hK _ ?_⟩
      clear K hK
      refine awpS_nil ?_
      refine round_end (k + 1) (⟨hv, by omega⟩) (by omega) ?_
      refine wk_of (id) (fun _ => false) (fun _ => false) ?_ ?_ rfl (Nat.zero_le _) (fun k hk => absurd hk (Nat.not_lt_zero _))
      · simp [hG, List.getD_cons_zero, List.getD_cons_succ, -List.getD_eq_getElem?_getD]
      · simp [hG, putRows_succ hb18, List.take_of_length_le hb24, -List.getD_eq_getElem?_getD]
   ·
    try simp [-List.getD_eq_getElem?_getD] at hb18
    refine awpS_exit ?_
    refine thenQ_exit (thenQ_exit ?_)
    refine blockQ_exit (thenQ_norm ?_)
    refine awpS_seq ?_
    refine awpS_reg T_ok fun K hK => ?_
    simp [hG, List.getD_cons_zero, List.getD_cons_succ, -List.getD_eq_getElem?_getD]
    refine ⟨Cond.mk (by simp [-List.getD_eq_getElem?_getD]), hK _ ?_⟩
    clear K hK
    refine awpS_ret ?_
    refine RetOK_of ?_
    simp [hG, List.getD_cons_zero, List.getD_cons_succ, -List.getD_eq_getElem?_getD]
    simp [sizeR, hv, List.take_of_length_le hb18]

end Go.Proofs.Ytmjkbidnghcfnaa
