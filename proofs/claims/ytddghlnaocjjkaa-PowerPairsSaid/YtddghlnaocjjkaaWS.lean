/-
 Walks: sums and products of graphs, in the program and in the reference.
-/
import Derived.Test.YtddghlnaocjjkaaWR
import Derived.Test.YtddghlnaocjjkaaPF
import Derived.Test.YtddghlnaocjjkaaWK
namespace Go.Proofs.Ytddghlnaocjjkaa
set_option linter.unusedSimpArgs false
set_option linter.unusedVariables false
open Go Go.Lift Go.Proofs

theorem rows_eq {a b : List (List Int)} (h : a.length = b.length) (hn : ∀ j, j < a.length → a.getD j [] = b.getD j []) : a = b := by
 apply List.ext_getElem h
 intro i h1 h2
 have := hn i h1
 rwa [getD_get h1, getD_get h2] at this
theorem ints_eq {a b : List Int} (h : a.length = b.length) (hn : ∀ j, j < a.length → a.getD j 0 = b.getD j 0) : a = b := by
 apply List.ext_getElem h
 intro i h1 h2
 have := hn i h1
 rwa [getD_get h1, getD_get h2] at this
theorem recE_takes {g : Gr} {l : List Int} {i : Nat} (h : i < g.edges.length) : (recE g l).take (i + 1) = (recE g l).take i ++ [recE1 l (g.edges.getD i de)] := by
 have hl : (recE g l).length = g.edges.length := by simp [recE]
 rw [List.take_succ_eq_append_getElem (by omega), ← getD_get (d := de) (by omega), recE_at h]
def recT (g : Gr) (l : List Int) (i : Nat) : List Edge := (recE g l).take i
theorem recT_zero {g : Gr} {l : List Int} : recT g l 0 = [] := by simp [recT]
theorem recT_len {g : Gr} {l : List Int} {i : Nat} : (recT g l i).length ≤ i := by unfold recT; rw [List.length_take]; omega
theorem recT_all {g : Gr} {l : List Int} : recT g l g.edges.length = recE g l := List.take_of_length_le (by simp [recE])
set_option maxRecDepth 100000 in
theorem sameI_c (a b : List Int) (ha : a.length ≤ 1000000) : PC Try.prog 60 [ints a, ints b] (.bool (decide (a = b))) := by
 refine PC_introS T_ok Try.func60 rfl (by simp [Try.ntmps60]) fun G hG hR => ?_
 simp only [Try.ntmps60, Try.results60] at hG ⊢
 simp only [argEnv, Nat.zero_add, Nat.reduceAdd]
 refine awpS_seq ?_
 refine awpS_reg T_ok fun K hK => ?_
 simp [hG, List.getD_cons_zero, List.getD_cons_succ, -List.getD_eq_getElem?_getD]
 refine hK _ ?_
 clear K hK
 refine awpS_seq ?_
 refine awpS_seq ?_
 refine awpS_reg T_ok fun K hK => ?_
 simp [hG, List.getD_cons_zero, List.getD_cons_succ, -List.getD_eq_getElem?_getD]
 refine hK _ ?_
 clear K hK
 refine awpS_cond rfl (fun hb10 => ?_) (fun hb10 => ?_)
 ·
  try simp [-List.getD_eq_getElem?_getD] at hb10
  refine awpS_seq ?_
  refine awpS_reg T_ok fun K hK => ?_
  simp [hG, List.getD_cons_zero, List.getD_cons_succ, -List.getD_eq_getElem?_getD]
  refine hK _ ?_
  clear K hK
  refine awpS_ret ?_
  refine RetOK_of ?_
  simp [hG, List.getD_cons_zero, List.getD_cons_succ, -List.getD_eq_getElem?_getD]
  intro h; rw [h] at hb10; omega
 ·
  try simp [-List.getD_eq_getElem?_getD] at hb10
  refine awpS_skip ?_
  refine awpS_seq ?_
  refine awpS_seq ?_
  refine awpS_reg T_ok fun K hK => ?_
  simp [hG, List.getD_cons_zero, List.getD_cons_succ, -List.getD_eq_getElem?_getD]
  refine hK _ ?_
  clear K hK
  refine awpS_block ?_
  refine awpS_loop (α := Nat) (fun k => ⟨[(0, ints a), (1, ints b), (5, .int .i64 k)], [], 0⟩) (fun k => a.length = b.length ∧ k ≤ a.length ∧ ∀ j, j < k → a.getD j 0 = b.getD j 0) (fun k => a.length - k) (0) (⟨by omega, Nat.zero_le _, fun j hj => absurd hj (Nat.not_lt_zero _)⟩) ?_ ?_
  ·
   refine wk_of (id) (fun _ => false) (fun _ => false) ?_ ?_ rfl (Nat.zero_le _) (fun k hk => absurd hk (Nat.not_lt_zero _))
   · simp [hG, List.getD_cons_zero, List.getD_cons_succ, -List.getD_eq_getElem?_getD]
   · simp [hG, List.getD_cons_zero, List.getD_cons_succ, -List.getD_eq_getElem?_getD]
  ·
   rintro k ⟨h3, hk, hn⟩
   refine awpS_seq ?_
   refine awpS_seq ?_
   refine awpS_reg T_ok fun K hK => ?_
   simp [hG, List.getD_cons_zero, List.getD_cons_succ, -List.getD_eq_getElem?_getD]
   refine hK _ ?_
   clear K hK
   refine awpS_cond rfl (fun hb14 => ?_) (fun hb14 => ?_)
   ·
    try simp [-List.getD_eq_getElem?_getD] at hb14
    refine awpS_skip ?_
    refine awpS_seq ?_
    refine awpS_block ?_
    refine awpS_seq ?_
    refine awpS_draw hR mixed [] ⟨[], [], []⟩ fun mu0 => ?_
    refine awpA_tk T_ok [0, 1, 2, 3, 4, 5, 6, 7, 8] [] (fuel := 0) [8, 7, 6, 5, 4, 3, 2, 1, 0] (by decide +kernel) (by decide +kernel) rfl rfl fun K hK => ?_
    simp [hG, List.getD_cons_zero, List.getD_cons_succ, -List.getD_eq_getElem?_getD]
    refine ⟨Cond.mk (by omega), hK _ ?_⟩
    clear K hK
    refine awpA_done (by decide +kernel) ?_
    refine awpS_cond rfl (fun hb25 => ?_) (fun hb25 => ?_)
    ·
     try simp [-List.getD_eq_getElem?_getD] at hb25
     refine awpS_seq ?_
     refine awpS_reg T_ok fun K hK => ?_
     simp [hG, List.getD_cons_zero, List.getD_cons_succ, -List.getD_eq_getElem?_getD]
     refine hK _ ?_
     clear K hK
     refine awpS_ret ?_
     refine blockQ_ret (thenQ_ret ?_)
     refine thenQ_ret (thenQ_ret ?_)
     refine blockQ_ret (thenQ_ret ?_)
     refine RetOK_of ?_
     simp [hG, List.getD_cons_zero, List.getD_cons_succ, -List.getD_eq_getElem?_getD]
     intro h; rw [h] at hb25; exact hb25 rfl
    ·
     try simp [-List.getD_eq_getElem?_getD] at hb25
     refine awpS_skip ?_
     refine awpS_nil ?_
     refine blockQ_norm (thenQ_norm ?_)
     refine awpS_reg T_ok fun K hK => ?_
     simp [hG, List.getD_cons_zero, List.getD_cons_succ, -List.getD_eq_getElem?_getD]
     refine ⟨Cond.mk (by omega), hK _ ?_⟩
     clear K hK
     refine awpS_nil ?_
     refine round_end (k + 1) (⟨h3, by omega, step_all hn hb25⟩) (by omega) ?_
     refine wk_of (id) (fun _ => false) (fun _ => false) ?_ ?_ rfl (Nat.zero_le _) (fun k hk => absurd hk (Nat.not_lt_zero _))
     · simp [hG, List.getD_cons_zero, List.getD_cons_succ, -List.getD_eq_getElem?_getD]
     · simp [hG, List.getD_cons_zero, List.getD_cons_succ, -List.getD_eq_getElem?_getD]
   ·
    try simp [-List.getD_eq_getElem?_getD] at hb14
    refine awpS_exit ?_
    refine thenQ_exit (thenQ_exit ?_)
    refine blockQ_exit (thenQ_norm ?_)
    refine awpS_seq ?_
    refine awpS_reg T_ok fun K hK => ?_
    simp [hG, List.getD_cons_zero, List.getD_cons_succ, -List.getD_eq_getElem?_getD]
    refine hK _ ?_
    clear K hK
    refine awpS_ret ?_
    refine RetOK_of ?_
    simp [hG, List.getD_cons_zero, List.getD_cons_succ, -List.getD_eq_getElem?_getD]
    exact ints_eq h3 fun j hj => hn j (by omega)

set_option maxRecDepth 100000 in
theorem sameSets_c (a b : List (List Int)) (ha : a.length ≤ 1000000) (hr : ∀ p ∈ a, p.length ≤ 1000000) : PC Try.prog 30 [rowsI a, rowsI b] (.bool (decide (a = b))) := by
 refine PC_introS T_ok Try.func30 rfl (by simp [Try.ntmps30]) fun G hG hR => ?_
 simp only [Try.ntmps30, Try.results30] at hG ⊢
 simp only [argEnv, Nat.zero_add, Nat.reduceAdd]
 refine awpS_seq ?_
 refine awpS_reg T_ok fun K hK => ?_
 simp [hG, List.getD_cons_zero, List.getD_cons_succ, -List.getD_eq_getElem?_getD]
 refine hK _ ?_
 clear K hK
 refine awpS_seq ?_
 refine awpS_seq ?_
 refine awpS_reg T_ok fun K hK => ?_
 simp [hG, List.getD_cons_zero, List.getD_cons_succ, -List.getD_eq_getElem?_getD]
 refine hK _ ?_
 clear K hK
 refine awpS_cond rfl (fun hb10 => ?_) (fun hb10 => ?_)
 ·
  try simp [-List.getD_eq_getElem?_getD] at hb10
  refine awpS_seq ?_
  refine awpS_reg T_ok fun K hK => ?_
  simp [hG, List.getD_cons_zero, List.getD_cons_succ, -List.getD_eq_getElem?_getD]
  refine hK _ ?_
  clear K hK
  refine awpS_ret ?_
  refine RetOK_of ?_
  simp [hG, List.getD_cons_zero, List.getD_cons_succ, -List.getD_eq_getElem?_getD]
  intro h; rw [h] at hb10; omega
 ·
  try simp [-List.getD_eq_getElem?_getD] at hb10
  refine awpS_skip ?_
  refine awpS_seq ?_
  refine awpS_seq ?_
  refine awpS_reg T_ok fun K hK => ?_
  simp [hG, List.getD_cons_zero, List.getD_cons_succ, -List.getD_eq_getElem?_getD]
  refine hK _ ?_
  clear K hK
  refine awpS_block ?_
  refine awpS_loop (α := Nat) (fun k => ⟨[(0, rowsI a), (1, rowsI b), (5, .int .i64 k)], [], 0⟩) (fun k => a.length = b.length ∧ k ≤ a.length ∧ ∀ j, j < k → a.getD j [] = b.getD j []) (fun k => a.length - k) (0) (⟨by omega, Nat.zero_le _, fun j hj => absurd hj (Nat.not_lt_zero _)⟩) ?_ ?_
  ·
   refine wk_of (id) (fun _ => false) (fun _ => false) ?_ ?_ rfl (Nat.zero_le _) (fun k hk => absurd hk (Nat.not_lt_zero _))
   · simp [hG, List.getD_cons_zero, List.getD_cons_succ, -List.getD_eq_getElem?_getD]
   · simp [hG, List.getD_cons_zero, List.getD_cons_succ, -List.getD_eq_getElem?_getD]
  ·
   rintro k ⟨h3, hk, hn⟩
   refine awpS_seq ?_
   refine awpS_seq ?_
   refine awpS_reg T_ok fun K hK => ?_
   simp [hG, List.getD_cons_zero, List.getD_cons_succ, -List.getD_eq_getElem?_getD]
   refine hK _ ?_
   clear K hK
   refine awpS_cond rfl (fun hb14 => ?_) (fun hb14 => ?_)
   ·
    try simp [-List.getD_eq_getElem?_getD] at hb14
    refine awpS_skip ?_
    refine awpS_seq ?_
    refine awpS_block ?_
    refine awpS_seq ?_
    refine awpS_draw hR mixed [] ⟨[], [], []⟩ fun mu0 => ?_
    refine awpA_tk T_ok [0, 1, 2, 3, 4, 5, 6, 7] [] (fuel := 2) [7, 6, 5, 4, 3, 2, 1, 0] (by decide +kernel) (by decide +kernel) rfl rfl fun K hK => ?_
    simp [hG, List.getD_cons_zero, List.getD_cons_succ, -List.getD_eq_getElem?_getD]
    refine ⟨Cond.mk (by omega), hK _ ?_⟩
    clear K hK
    refine awpA_only (fuel := 1) (i := 8) (by decide +kernel) ?_
    refine awpO_call cal60 rfl rfl rfl (fun _ => rfl) (fun hg => sameI_c (a.getD k []) (b.getD k []) (hr _ (getD_mem (by omega)))) (fun hg => ?_) (fun hg => ?_) fun K hK => ?_
    · simp [hG, List.getD_cons_zero, List.getD_cons_succ, -List.getD_eq_getElem?_getD]
    · simp [hG, List.getD_cons_zero, List.getD_cons_succ, -List.getD_eq_getElem?_getD]
    simp [hG, List.getD_cons_zero, List.getD_cons_succ, -List.getD_eq_getElem?_getD]
    refine hK _ ?_
    clear K hK
    refine awpA_tk T_ok [9] [] (fuel := 0) [9, 8, 7, 6, 5, 4, 3, 2, 1, 0] (by decide +kernel) (by decide +kernel) rfl rfl fun K hK => ?_
    simp [hG, List.getD_cons_zero, List.getD_cons_succ, -List.getD_eq_getElem?_getD]
    refine hK _ ?_
    clear K hK
    refine awpA_done (by decide +kernel) ?_
    refine awpS_cond rfl (fun hb26 => ?_) (fun hb26 => ?_)
    ·
     try simp [-List.getD_eq_getElem?_getD] at hb26
     refine awpS_seq ?_
     refine awpS_reg T_ok fun K hK => ?_
     simp [hG, List.getD_cons_zero, List.getD_cons_succ, -List.getD_eq_getElem?_getD]
     refine hK _ ?_
     clear K hK
     refine awpS_ret ?_
     refine blockQ_ret (thenQ_ret ?_)
     refine thenQ_ret (thenQ_ret ?_)
     refine blockQ_ret (thenQ_ret ?_)
     refine RetOK_of ?_
     simp [hG, List.getD_cons_zero, List.getD_cons_succ, -List.getD_eq_getElem?_getD]
     intro h; rw [h] at hb26; exact hb26 rfl
    ·
     try simp [-List.getD_eq_getElem?_getD] at hb26
     refine awpS_skip ?_
     refine awpS_nil ?_
     refine blockQ_norm (thenQ_norm ?_)
     refine awpS_reg T_ok fun K hK => ?_
     simp [hG, List.getD_cons_zero, List.getD_cons_succ, -List.getD_eq_getElem?_getD]
     refine ⟨Cond.mk (by omega), hK _ ?_⟩
     clear K hK
     refine awpS_nil ?_
     refine round_end (k + 1) (⟨h3, by omega, step_all hn hb26⟩) (by omega) ?_
     refine wk_of (id) (fun _ => false) (fun _ => false) ?_ ?_ rfl (Nat.zero_le _) (fun k hk => absurd hk (Nat.not_lt_zero _))
     · simp [hG, List.getD_cons_zero, List.getD_cons_succ, -List.getD_eq_getElem?_getD]
     · simp [hG, List.getD_cons_zero, List.getD_cons_succ, -List.getD_eq_getElem?_getD]
   ·
    try simp [-List.getD_eq_getElem?_getD] at hb14
    refine awpS_exit ?_
    refine thenQ_exit (thenQ_exit ?_)
    refine blockQ_exit (thenQ_norm ?_)
    refine awpS_seq ?_
    refine awpS_reg T_ok fun K hK => ?_
    simp [hG, List.getD_cons_zero, List.getD_cons_succ, -List.getD_eq_getElem?_getD]
    refine hK _ ?_
    clear K hK
    refine awpS_ret ?_
    refine RetOK_of ?_
    simp [hG, List.getD_cons_zero, List.getD_cons_succ, -List.getD_eq_getElem?_getD]
    exact rows_eq h3 fun j hj => hn j (by omega)

set_option maxRecDepth 100000 in
theorem check2_c (g h : Gr) : PC Try.prog 57 [.agg 3 (grF g), .agg 3 (grF h)] (.int .i64 (chk2N g h)) := by
 refine PC_introS T_ok Try.func57 rfl (by simp [Try.ntmps57]) fun G hG hR => ?_
 simp only [Try.ntmps57, Try.results57] at hG ⊢
 simp only [argEnv, Nat.zero_add, Nat.reduceAdd]
 refine awpS_seq ?_
 refine awpS_reg T_ok fun K hK => ?_
 simp [hG, List.getD_cons_zero, List.getD_cons_succ, -List.getD_eq_getElem?_getD]
 refine ⟨Cond.mk (by simp [-List.getD_eq_getElem?_getD]), hK _ ?_⟩
 clear K hK
 refine awpS_seq ?_
 refine awpS_seq ?_
 refine awpS_regL ?_
 refine awpL_reg T_ok 1 fun K hK => ?_
 simp [hG, List.getD_cons_zero, List.getD_cons_succ, -List.getD_eq_getElem?_getD]
 refine hK _ ?_
 clear K hK
 refine awpL_call cal35 rfl rfl (fun _ => rfl) (fun hg => checkC_c g) (fun hg => ?_) (fun hg => ?_) fun K hK => ?_
 · simp [hG, List.getD_cons_zero, List.getD_cons_succ, -List.getD_eq_getElem?_getD]
 · simp [hG, List.getD_cons_zero, List.getD_cons_succ, -List.getD_eq_getElem?_getD]
 simp [hG, List.getD_cons_zero, List.getD_cons_succ, -List.getD_eq_getElem?_getD]
 refine hK _ ?_
 clear K hK
 refine awpL_reg T_ok 3 fun K hK => ?_
 simp [hG, List.getD_cons_zero, List.getD_cons_succ, -List.getD_eq_getElem?_getD]
 refine ⟨Cond.mk (by simp [-List.getD_eq_getElem?_getD]), hK _ ?_⟩
 clear K hK
 refine awpL_call cal35 rfl rfl (fun _ => rfl) (fun hg => checkC_c h) (fun hg => ?_) (fun hg => ?_) fun K hK => ?_
 · first | (simp [hG, List.getD_cons_zero, List.getD_cons_succ, -List.getD_eq_getElem?_getD]; done) | (simp [-List.getD_eq_getElem?_getD] at hg; done) | (simp [-List.getD_eq_getElem?_getD] at hg; simp [hG, List.getD_cons_zero, List.getD_cons_succ, -List.getD_eq_getElem?_getD]; first | omega | exact hg | (simp_all [-List.getD_eq_getElem?_getD]; done) | (simp_all [-List.getD_eq_getElem?_getD]; first | exact ⟨rfl, rfl⟩ | exact rfl))
 · first | (simp [hG, List.getD_cons_zero, List.getD_cons_succ, -List.getD_eq_getElem?_getD]; done) | (simp [-List.getD_eq_getElem?_getD] at hg; done) | (simp [-List.getD_eq_getElem?_getD] at hg; simp [hG, List.getD_cons_zero, List.getD_cons_succ, -List.getD_eq_getElem?_getD]; first | omega | exact hg | (simp_all [-List.getD_eq_getElem?_getD]; done) | (simp_all [-List.getD_eq_getElem?_getD]; first | exact ⟨rfl, rfl⟩ | exact rfl))
 simp [hG, List.getD_cons_zero, List.getD_cons_succ, -List.getD_eq_getElem?_getD]
 refine hK _ ?_
 clear K hK
 refine awpL_reg T_ok 2 fun K hK => ?_
 simp [hG, List.getD_cons_zero, List.getD_cons_succ, -List.getD_eq_getElem?_getD]
 refine ⟨Cond.mk (by simp [-List.getD_eq_getElem?_getD]), hK _ ?_⟩
 clear K hK
 refine awpL_nil ?_
 refine awpS_cond rfl (fun hb12 => ?_) (fun hb12 => ?_)
 ·
  try simp [-List.getD_eq_getElem?_getD] at hb12
  refine awpS_seq ?_
  refine awpS_reg T_ok fun K hK => ?_
  simp [hG, List.getD_cons_zero, List.getD_cons_succ, -List.getD_eq_getElem?_getD]
  refine hK _ ?_
  clear K hK
  refine awpS_ret ?_
  refine RetOK_of ?_
  simp [hG, List.getD_cons_zero, List.getD_cons_succ, -List.getD_eq_getElem?_getD]
  unfold chk2N; rw [if_pos]; exact hb12
 ·
  try simp [-List.getD_eq_getElem?_getD] at hb12
  refine awpS_skip ?_
  refine awpS_seq ?_
  refine awpS_seq ?_
  refine awpS_reg T_ok fun K hK => ?_
  simp [hG, List.getD_cons_zero, List.getD_cons_succ, -List.getD_eq_getElem?_getD]
  refine hK _ ?_
  clear K hK
  refine awpS_cond rfl (fun hb17 => ?_) (fun hb17 => ?_)
  ·
   try simp [-List.getD_eq_getElem?_getD] at hb17
   refine awpS_seq ?_
   refine awpS_reg T_ok fun K hK => ?_
   simp [hG, List.getD_cons_zero, List.getD_cons_succ, -List.getD_eq_getElem?_getD]
   refine hK _ ?_
   clear K hK
   refine awpS_ret ?_
   refine RetOK_of ?_
   simp [hG, List.getD_cons_zero, List.getD_cons_succ, -List.getD_eq_getElem?_getD]
   unfold chk2N; rw [if_neg (by rintro (e | e); exact e hb12.1; exact e hb12.2), if_pos hb17]
  ·
   try simp [-List.getD_eq_getElem?_getD] at hb17
   refine awpS_skip ?_
   refine awpS_seq ?_
   refine awpS_reg T_ok fun K hK => ?_
   simp [hG, List.getD_cons_zero, List.getD_cons_succ, -List.getD_eq_getElem?_getD]
   refine hK _ ?_
   clear K hK
   refine awpS_ret ?_
   refine RetOK_of ?_
   simp [hG, List.getD_cons_zero, List.getD_cons_succ, -List.getD_eq_getElem?_getD]
   unfold chk2N; rw [if_neg (by rintro (e | e); exact e hb12.1; exact e hb12.2), if_neg (fun e => e hb17)]

set_option maxRecDepth 100000 in
theorem recodeR_c (g : Gr) (labels : Int) (l : List Int) (hl : l.length ≤ 1000000) : PC Try.prog 29 [.agg 3 (grF g), .int .i64 labels, ints l] (.tup 2 (fun j => [.agg 3 (grF (recX g labels l)), .int .i64 (recN g labels l)].getD j .any)) := by
 refine PC_introS T_ok Try.func29 rfl (by simp [Try.ntmps29]) fun G hG hR => ?_
 simp only [Try.ntmps29, Try.results29] at hG ⊢
 simp only [argEnv, Nat.zero_add, Nat.reduceAdd]
 refine awpS_seq ?_
 refine awpS_reg T_ok fun K hK => ?_
 simp [hG, List.getD_cons_zero, List.getD_cons_succ, -List.getD_eq_getElem?_getD, recT_zero]
 refine ⟨Cond.mk (by simp [-List.getD_eq_getElem?_getD]), hK _ ?_⟩
 clear K hK
 refine awpS_seq ?_
 refine awpS_seq ?_
 refine awpS_regL ?_
 refine awpL_reg T_ok 1 fun K hK => ?_
 simp [hG, List.getD_cons_zero, List.getD_cons_succ, -List.getD_eq_getElem?_getD, recT_zero]
 refine hK _ ?_
 clear K hK
 refine awpL_call cal17 rfl rfl (fun _ => rfl) (fun hg => check_c g) (fun hg => ?_) (fun hg => ?_) fun K hK => ?_
 · simp [hG, List.getD_cons_zero, List.getD_cons_succ, -List.getD_eq_getElem?_getD, recT_zero]
 · simp [hG, List.getD_cons_zero, List.getD_cons_succ, -List.getD_eq_getElem?_getD, recT_zero]
 simp [hG, List.getD_cons_zero, List.getD_cons_succ, -List.getD_eq_getElem?_getD, recT_zero]
 refine hK _ ?_
 clear K hK
 refine awpL_reg T_ok 1 fun K hK => ?_
 simp [hG, List.getD_cons_zero, List.getD_cons_succ, -List.getD_eq_getElem?_getD, recT_zero]
 refine hK _ ?_
 clear K hK
 refine awpL_nil ?_
 refine awpS_cond rfl (fun hb14 => ?_) (fun hb14 => ?_)
 ·
  try simp [-List.getD_eq_getElem?_getD] at hb14
  refine awpS_seq ?_
  refine awpS_reg T_ok fun K hK => ?_
  simp [hG, List.getD_cons_zero, List.getD_cons_succ, -List.getD_eq_getElem?_getD, recT_zero]
  refine ⟨Cond.mk (by simp [-List.getD_eq_getElem?_getD]), hK _ ?_⟩
  clear K hK
  refine awpS_ret ?_
  refine RetOK_of ?_
  simp [hG, List.getD_cons_zero, List.getD_cons_succ, -List.getD_eq_getElem?_getD, recT_zero]
  have hN : recN g labels l = 1 := (by unfold recN; rw [if_pos hb14]); rw [rec_no hN (by omega), hN]; simp
 ·
  try simp [-List.getD_eq_getElem?_getD] at hb14
  have hv : gcheck g = 0 := (by simpa using hb14)
  have hz := (gcheck_valid hv).1
  have hed := hz.ed
  have hlb := hz.lab
  refine awpS_skip ?_
  refine awpS_seq ?_
  refine awpS_seq ?_
  refine awpS_reg T_ok fun K hK => ?_
  simp [hG, List.getD_cons_zero, List.getD_cons_succ, -List.getD_eq_getElem?_getD, recT_zero]
  refine ⟨Cond.mk (by simp [-List.getD_eq_getElem?_getD]), hK _ ?_⟩
  clear K hK
  refine awpS_cond rfl (fun hb21 => ?_) (fun hb21 => ?_)
  ·
   try simp [-List.getD_eq_getElem?_getD] at hb21
   refine awpS_seq ?_
   refine awpS_reg T_ok fun K hK => ?_
   simp [hG, List.getD_cons_zero, List.getD_cons_succ, -List.getD_eq_getElem?_getD, recT_zero]
   refine ⟨Cond.mk (by simp [-List.getD_eq_getElem?_getD]), hK _ ?_⟩
   clear K hK
   refine awpS_ret ?_
   refine RetOK_of ?_
   simp [hG, List.getD_cons_zero, List.getD_cons_succ, -List.getD_eq_getElem?_getD, recT_zero]
   have hN : recN g labels l = 2 := (by unfold recN; rw [if_neg (by omega), if_pos (by omega)]); rw [rec_no hN (by omega), hN]; simp
  ·
   try simp [-List.getD_eq_getElem?_getD] at hb21
   refine awpS_skip ?_
   refine awpS_seq ?_
   refine awpS_seq ?_
   refine awpS_reg T_ok fun K hK => ?_
   simp [hG, List.getD_cons_zero, List.getD_cons_succ, -List.getD_eq_getElem?_getD, recT_zero]
   refine hK _ ?_
   clear K hK
   refine awpS_cond rfl (fun hb27 => ?_) (fun hb27 => ?_)
   ·
    try simp [-List.getD_eq_getElem?_getD] at hb27
    refine awpS_seq ?_
    refine awpS_reg T_ok fun K hK => ?_
    simp [hG, List.getD_cons_zero, List.getD_cons_succ, -List.getD_eq_getElem?_getD, recT_zero]
    refine ⟨Cond.mk (by simp [-List.getD_eq_getElem?_getD]), hK _ ?_⟩
    clear K hK
    refine awpS_ret ?_
    refine RetOK_of ?_
    simp [hG, List.getD_cons_zero, List.getD_cons_succ, -List.getD_eq_getElem?_getD, recT_zero]
    have hN : recN g labels l = 11 := (by unfold recN; rw [if_neg (by omega), if_neg (by omega), if_pos (by omega)]); rw [rec_no hN (by omega), hN]; simp
   ·
    try simp [-List.getD_eq_getElem?_getD] at hb27
    refine awpS_skip ?_
    refine awpS_seq ?_
    refine awpS_seq ?_
    refine awpS_reg T_ok fun K hK => ?_
    simp [hG, List.getD_cons_zero, List.getD_cons_succ, -List.getD_eq_getElem?_getD, recT_zero]
    refine hK _ ?_
    clear K hK
    refine awpS_block ?_
    refine awpS_loop (α := Nat) (fun i => ⟨[(1, .int .i64 labels), (2, ints l), (3, .ptr (0, 0) 0 0), (6, .ptr (1, 0) 0 0), (8, .int .i64 i)], [(0, .one (.arr 1 3 (fun _ => grF g))), (1, .one (.arr 1 3 (fun _ j => [.int .i64 0, .int .i64 0, .nils].getD j .any)))], 2⟩) (fun i => i ≤ l.length ∧ ∀ j, j < i → outB labels (l.getD j 0) = false) (fun i => l.length - i) (0) (⟨Nat.zero_le _, fun j hj => absurd hj (Nat.not_lt_zero _)⟩) ?_ ?_
    ·
     refine wk_of (id) (fun _ => false) (fun _ => false) ?_ ?_ rfl (Nat.zero_le _) (fun k hk => absurd hk (Nat.not_lt_zero _))
     · simp [hG, List.getD_cons_zero, List.getD_cons_succ, -List.getD_eq_getElem?_getD, recT_zero]
     · simp [hG, List.getD_cons_zero, List.getD_cons_succ, -List.getD_eq_getElem?_getD, recT_zero]
    ·
     rintro i ⟨hi, hno⟩
     refine awpS_seq ?_
     refine awpS_seq ?_
     refine awpS_reg T_ok fun K hK => ?_
     simp [hG, List.getD_cons_zero, List.getD_cons_succ, -List.getD_eq_getElem?_getD, recT_zero]
     refine hK _ ?_
     clear K hK
     refine awpS_cond rfl (fun hb32 => ?_) (fun hb32 => ?_)
     ·
      try simp [-List.getD_eq_getElem?_getD] at hb32
      refine awpS_skip ?_
      refine awpS_seq ?_
      refine awpS_block ?_
      refine awpS_seq ?_
      refine awpS_reg T_ok fun K hK => ?_
      simp [hG, List.getD_cons_zero, List.getD_cons_succ, -List.getD_eq_getElem?_getD, recT_zero]
      refine ⟨Cond.mk (by simp [-List.getD_eq_getElem?_getD]; omega), hK _ ?_⟩
      clear K hK
      refine awpS_cond rfl (fun hb47 => ?_) (fun hb47 => ?_)
      ·
       try simp [-List.getD_eq_getElem?_getD] at hb47
       have hob : outB labels (l.getD i 0) = true := (by unfold outB; simp only [Bool.or_eq_true, decide_eq_true_eq]; exact hb47)
       refine awpS_seq ?_
       refine awpS_reg T_ok fun K hK => ?_
       simp [hG, List.getD_cons_zero, List.getD_cons_succ, -List.getD_eq_getElem?_getD, recT_zero]
       refine ⟨Cond.mk (by simp [-List.getD_eq_getElem?_getD]), hK _ ?_⟩
       clear K hK
       refine awpS_ret ?_
       refine blockQ_ret (thenQ_ret ?_)
       refine thenQ_ret (thenQ_ret ?_)
       refine blockQ_ret (thenQ_ret ?_)
       refine RetOK_of ?_
       simp [hG, List.getD_cons_zero, List.getD_cons_succ, -List.getD_eq_getElem?_getD, recT_zero]
       have hN : recN g labels l = 2 := (by unfold recN; rw [if_neg (by omega), if_neg (by omega), if_neg (by omega), if_pos (List.any_eq_true.2 ⟨l.getD i 0, getD_mem (by omega), hob⟩)]); rw [rec_no hN (by omega), hN]; simp
      ·
       try simp [-List.getD_eq_getElem?_getD] at hb47
       have hob : outB labels (l.getD i 0) = false := (by unfold outB; simp only [Bool.or_eq_false_iff, decide_eq_false_iff_not]; omega)
       refine awpS_skip ?_
       refine awpS_nil ?_
       refine blockQ_norm (thenQ_norm ?_)
       refine awpS_reg T_ok fun K hK => ?_
       simp [hG, List.getD_cons_zero, List.getD_cons_succ, -List.getD_eq_getElem?_getD, recT_zero]
       refine ⟨Cond.mk (by omega), hK _ ?_⟩
       clear K hK
       refine awpS_nil ?_
       refine round_end (i + 1) (⟨by omega, fun j hj => (Nat.lt_succ_iff_lt_or_eq.1 hj).elim (hno j) fun e => by rw [e]; exact hob⟩) (by omega) ?_
       refine wk_of (id) (fun _ => false) (fun _ => false) ?_ ?_ rfl (Nat.zero_le _) (fun k hk => absurd hk (Nat.not_lt_zero _))
       · simp [hG, List.getD_cons_zero, List.getD_cons_succ, -List.getD_eq_getElem?_getD, recT_zero]
       · simp [hG, List.getD_cons_zero, List.getD_cons_succ, -List.getD_eq_getElem?_getD, recT_zero]
     ·
      try simp [-List.getD_eq_getElem?_getD] at hb32
      obtain rfl : i = l.length := (by omega)
      have hany : l.any (outB labels) = false := List.any_eq_false.2 (fun n hn => by obtain ⟨j, hj, rfl⟩ := List.mem_iff_getElem.1 hn; have := hno j hj; rw [getD_get hj] at this; rw [this]; simp)
      refine awpS_exit ?_
      refine thenQ_exit (thenQ_exit ?_)
      refine blockQ_exit (thenQ_norm ?_)
      refine awpS_seq ?_
      refine awpS_reg T_ok fun K hK => ?_
      simp [hG, List.getD_cons_zero, List.getD_cons_succ, -List.getD_eq_getElem?_getD, recT_zero]
      refine hK _ ?_
      clear K hK
      refine awpS_seq ?_
      refine awpS_seq ?_
      refine awpS_reg T_ok fun K hK => ?_
      simp [hG, List.getD_cons_zero, List.getD_cons_succ, -List.getD_eq_getElem?_getD, recT_zero]
      refine hK _ ?_
      clear K hK
      refine awpS_block ?_
      refine awpS_loop (α := Nat) (fun i => ⟨[(1, .int .i64 labels), (2, ints l), (3, .ptr (0, 0) 0 0), (6, .ptr (1, 0) 0 0), (9, .sl (2, 0) 0 (recT g l i).length), (10, .int .i64 i)], [(0, .one (.arr 1 3 (fun _ => grF g))), (1, .one (.arr 1 3 (fun _ j => [.int .i64 0, .int .i64 0, .nils].getD j .any))), (2, .one (.arr (recT g l i).length 3 (fun q j => edgeF ((recT g l i).getD q de) j)))], 3⟩) (fun i => i ≤ g.edges.length) (fun i => g.edges.length - i) (0) (Nat.zero_le _) ?_ ?_
      ·
       refine wk_of (id) (fun _ => false) (fun _ => false) ?_ ?_ rfl (Nat.zero_le _) (fun k hk => absurd hk (Nat.not_lt_zero _))
       · simp [hG, List.getD_cons_zero, List.getD_cons_succ, -List.getD_eq_getElem?_getD, recT_zero]
       · simp [hG, List.getD_cons_zero, List.getD_cons_succ, -List.getD_eq_getElem?_getD, recT_zero]
      ·
       rintro i hi
       refine awpS_seq ?_
       refine awpS_seq ?_
       refine awpS_reg T_ok fun K hK => ?_
       simp [hG, List.getD_cons_zero, List.getD_cons_succ, -List.getD_eq_getElem?_getD, recT_zero]
       refine hK _ ?_
       clear K hK
       refine awpS_cond rfl (fun hb54 => ?_) (fun hb54 => ?_)
       ·
        try simp [-List.getD_eq_getElem?_getD] at hb54
        have heb := edge_box hv (k := i) (by omega)
        have hrl := recT_len (g := g) (l := l) (i := i)
        have hrt : recT g l (i + 1) = recT g l i ++ [recE1 l (g.edges.getD i de)] := recE_takes (by omega)
        refine awpS_skip ?_
        refine awpS_seq ?_
        refine awpS_block ?_
        refine awpS_seq ?_
        refine awpS_reg T_ok fun K hK => ?_
        simp [hG, List.getD_cons_zero, List.getD_cons_succ, -List.getD_eq_getElem?_getD, recT_zero]
        refine ⟨Cond.mk (by simp [-List.getD_eq_getElem?_getD]; omega), hK _ ?_⟩
        clear K hK
        refine awpS_draw hR mixed [(12, (2, 0))] ⟨[], [], []⟩ fun mu0 => ?_
        refine awpA_tk T_ok [0] [] (fuel := 13) [0] (by decide +kernel) (by decide +kernel) rfl rfl fun K hK => ?_
        simp [hG, List.getD_cons_zero, List.getD_cons_succ, -List.getD_eq_getElem?_getD, recT_zero]
        refine hK _ ?_
        clear K hK
        refine awpA_tk T_ok [1, 2, 3, 4, 5, 6, 7, 8, 9, 10] [(2, 0)] (fuel := 3) [10, 9, 8, 7, 6, 5, 4, 3, 2, 1, 0] (by decide +kernel) (by decide +kernel) rfl rfl fun K hK => ?_
        simp [hG, List.getD_cons_zero, List.getD_cons_succ, -List.getD_eq_getElem?_getD, recT_zero]
        refine ⟨Cond.mk (by omega), hK _ ?_⟩
        clear K hK
        refine awpA_only (fuel := 2) (i := 11) (by decide +kernel) ?_
        refine awpO_reg T_ok rfl ?_ fun K hK => ?_
        · simp [hG, List.getD_cons_zero, List.getD_cons_succ, -List.getD_eq_getElem?_getD, recT_zero]
        simp [hG, List.getD_cons_zero, List.getD_cons_succ, -List.getD_eq_getElem?_getD, recT_zero]
        refine ⟨Cond.mk (by simp [-List.getD_eq_getElem?_getD]), hK _ ?_⟩
        clear K hK
        refine awpA_only (fuel := 1) (i := 12) (by decide +kernel) ?_
        refine awpO_reg T_ok rfl ?_ fun K hK => ?_
        · simp [hG, List.getD_cons_zero, List.getD_cons_succ, -List.getD_eq_getElem?_getD, recT_zero]
        simp [hG, List.getD_cons_zero, List.getD_cons_succ, -List.getD_eq_getElem?_getD, recT_zero]
        refine ⟨Cond.mk (by omega), hK _ ?_⟩
        clear K hK
        refine awpA_tk T_ok [13] [] (fuel := 0) [13, 12, 11, 10, 9, 8, 7, 6, 5, 4, 3, 2, 1, 0] (by decide +kernel) (by decide +kernel) rfl rfl fun K hK => ?_
        simp [hG, List.getD_cons_zero, List.getD_cons_succ, -List.getD_eq_getElem?_getD, recT_zero]
        refine hK _ ?_
        clear K hK
        refine awpA_done (by decide +kernel) ?_
        refine awpS_nil ?_
        refine blockQ_norm (thenQ_norm ?_)
        refine awpS_reg T_ok fun K hK => ?_
        simp [hG, List.getD_cons_zero, List.getD_cons_succ, -List.getD_eq_getElem?_getD, recT_zero]
        refine ⟨Cond.mk (by omega), hK _ ?_⟩
        clear K hK
        refine awpS_nil ?_
        refine round_end (i + 1) (by omega) (by omega) ?_
        refine wk_of (fun k => if k = 2 then 5 else k) (fun _ => false) (fun _ => false) ?_ ?_ rfl (Nat.zero_le _) (fun k hk => absurd hk (Nat.not_lt_zero _))
        · rw [hrt]; simp [hG, List.getD_cons_zero, List.getD_cons_succ, -List.getD_eq_getElem?_getD]
        · rw [hrt]; simp [hG, List.getD_cons_zero, List.getD_cons_succ, -List.getD_eq_getElem?_getD]; exact fun q hq => app_edge3 (by simpa using hq) (fun j hj => by rcases lt3 hj with rfl | rfl | rfl <;> simp [recE1])
       ·
        try simp [-List.getD_eq_getElem?_getD] at hb54
        obtain rfl : i = g.edges.length := (by omega)
        refine awpS_exit ?_
        refine thenQ_exit (thenQ_exit ?_)
        refine blockQ_exit (thenQ_norm ?_)
        refine awpS_seq ?_
        refine awpS_wk (st2 := ⟨[(1, .int .i64 labels), (2, ints l), (3, .ptr (0, 0) 0 0), (6, .ptr (1, 0) 0 0), (9, edgesC (recE g l))], [(0, .one (.arr 1 3 (fun _ => grF g))), (1, .one (.arr 1 3 (fun _ j => [.int .i64 0, .int .i64 0, .nils].getD j .any)))], 2⟩) ?_ ?_
        ·
         refine wk_of (id) (fun k => k == 2) (fun _ => false) ?_ ?_ rfl (Nat.zero_le _) (fun k hk => absurd hk (Nat.not_lt_zero _))
         · rw [← recT_all]; simp [hG, List.getD_cons_zero, List.getD_cons_succ, -List.getD_eq_getElem?_getD]
         · simp [hG, List.getD_cons_zero, List.getD_cons_succ, -List.getD_eq_getElem?_getD, recT_zero]
        refine awpS_regL ?_
        refine awpL_reg T_ok 4 fun K hK => ?_
        simp [hG, List.getD_cons_zero, List.getD_cons_succ, -List.getD_eq_getElem?_getD, recT_zero]
        refine hK _ ?_
        clear K hK
        refine awpL_call cal42 rfl rfl (fun _ => rfl) (fun hg => makeR_c labels g.states (recE g l) (by unfold recE; rw [List.length_map]; omega)) (fun hg => ?_) (fun hg => ?_) fun K hK => ?_
        · simp [hG, List.getD_cons_zero, List.getD_cons_succ, -List.getD_eq_getElem?_getD, recT_zero]
        · simp [hG, List.getD_cons_zero, List.getD_cons_succ, -List.getD_eq_getElem?_getD, recT_zero]
        simp [hG, List.getD_cons_zero, List.getD_cons_succ, -List.getD_eq_getElem?_getD, recT_zero]
        refine hK _ ?_
        clear K hK
        refine awpL_reg T_ok 4 fun K hK => ?_
        simp [hG, List.getD_cons_zero, List.getD_cons_succ, -List.getD_eq_getElem?_getD, recT_zero]
        refine ⟨Cond.mk (by simp [-List.getD_eq_getElem?_getD]), hK _ ?_⟩
        clear K hK
        refine awpL_nil ?_
        refine awpS_ret ?_
        refine RetOK_of ?_
        simp [hG, List.getD_cons_zero, List.getD_cons_succ, -List.getD_eq_getElem?_getD, recT_zero]
        obtain ⟨hN, hX⟩ := rec_mk hv (by omega) (by omega) hany; rw [hN, hX]; simp

set_option maxRecDepth 100000 in
theorem sum_c (g h : Gr) (hsg : gcheck g = 0 → g.states ≤ 10 ∧ g.edges.length ≤ 30) (hsh : gcheck h = 0 → h.states ≤ 10 ∧ h.edges.length ≤ 30) : PC Try.prog 27 [.agg 3 (grF g), .agg 3 (grF h)] (.tup 2 (fun j => [.agg 3 (grF (sumX g h)), .int .i64 (chk2N g h)].getD j .any)) := by
 refine PC_introS T_ok Try.func27 rfl (by simp [Try.ntmps27]) fun G hG hR => ?_
 simp only [Try.ntmps27, Try.results27] at hG ⊢
 simp only [argEnv, Nat.zero_add, Nat.reduceAdd]
 refine awpS_seq ?_
 refine awpS_reg T_ok fun K hK => ?_
 simp [hG, List.getD_cons_zero, List.getD_cons_succ, -List.getD_eq_getElem?_getD, sumAt_zero]
 refine ⟨Cond.mk (by simp [-List.getD_eq_getElem?_getD]), hK _ ?_⟩
 clear K hK
 refine awpS_seq ?_
 refine awpS_seq ?_
 refine awpS_regL ?_
 refine awpL_reg T_ok 2 fun K hK => ?_
 simp [hG, List.getD_cons_zero, List.getD_cons_succ, -List.getD_eq_getElem?_getD, sumAt_zero]
 refine hK _ ?_
 clear K hK
 refine awpL_call cal57 rfl rfl (fun _ => rfl) (fun hg => check2_c g h) (fun hg => ?_) (fun hg => ?_) fun K hK => ?_
 · simp [hG, List.getD_cons_zero, List.getD_cons_succ, -List.getD_eq_getElem?_getD, sumAt_zero]
 · simp [hG, List.getD_cons_zero, List.getD_cons_succ, -List.getD_eq_getElem?_getD, sumAt_zero]
 simp [hG, List.getD_cons_zero, List.getD_cons_succ, -List.getD_eq_getElem?_getD, sumAt_zero]
 refine hK _ ?_
 clear K hK
 refine awpL_reg T_ok 1 fun K hK => ?_
 simp [hG, List.getD_cons_zero, List.getD_cons_succ, -List.getD_eq_getElem?_getD, sumAt_zero]
 refine hK _ ?_
 clear K hK
 refine awpL_nil ?_
 refine awpS_seq ?_
 refine awpS_reg T_ok fun K hK => ?_
 simp [hG, List.getD_cons_zero, List.getD_cons_succ, -List.getD_eq_getElem?_getD, sumAt_zero]
 refine hK _ ?_
 clear K hK
 refine awpS_cond rfl (fun hb14 => ?_) (fun hb14 => ?_)
 ·
  try simp [-List.getD_eq_getElem?_getD] at hb14
  refine awpS_seq ?_
  refine awpS_reg T_ok fun K hK => ?_
  simp [hG, List.getD_cons_zero, List.getD_cons_succ, -List.getD_eq_getElem?_getD, sumAt_zero]
  refine ⟨Cond.mk (by simp [-List.getD_eq_getElem?_getD]), hK _ ?_⟩
  clear K hK
  refine awpS_ret ?_
  refine RetOK_of ?_
  simp [hG, List.getD_cons_zero, List.getD_cons_succ, -List.getD_eq_getElem?_getD, sumAt_zero]
  unfold sumX; rw [if_neg hb14]; simp
 ·
  try simp [-List.getD_eq_getElem?_getD] at hb14
  have hck : chk2N g h = 0 := (by simpa using hb14)
  obtain ⟨hv, hw, hlb2⟩ := chk2_ok hck
  obtain ⟨hs1, he1⟩ := hsg hv
  obtain ⟨hs2, he2⟩ := hsh hw
  have hst := (gcheck_valid hv).1.st
  have hst2 := (gcheck_valid hw).1.st
  refine awpS_skip ?_
  refine awpS_seq ?_
  refine awpS_cut (α := Unit) (fun _u => ⟨[(2, .ptr (0, 0) 0 0), (3, .ptr (1, 0) 0 0), (4, .ptr (2, 0) 0 0), (7, .ptr (3, 0) 0 0)], [(0, .one (.arr 1 3 (fun _ => grF g))), (1, .one (.arr 1 3 (fun _ => grF h))), (2, .one (.arr 1 3 (fun _ j => [.int .i64 0, .int .i64 0, .nils].getD j .any))), (3, .one (.arr 1 3 (fun _ j => [.int .i64 g.labels, .int .i64 (g.states + h.states), .sl (4, 0) 0 g.edges.length].getD j .any))), (4, .one (.arr g.edges.length 3 (fun q j => edgeF (g.edges.getD q de) j)))], 5⟩) (fun _u => True) ?_ ?_ (by simp)
  ·
   refine awpS_draw hR mixed [] ⟨[12], [], []⟩ fun mu0 => ?_
   refine awpA_tk T_ok [0, 1, 2, 3, 4, 5, 6, 7, 8] [] (fuel := 4) [8, 7, 6, 5, 4, 3, 2, 1, 0] (by decide +kernel) (by decide +kernel) rfl rfl fun K hK => ?_
   simp [hG, List.getD_cons_zero, List.getD_cons_succ, -List.getD_eq_getElem?_getD, sumAt_zero]
   refine ⟨Cond.mk (by omega), hK _ ?_⟩
   clear K hK
   refine awpA_two (fuel := 3) (i := 9) (k := 11) (by decide +kernel) ?_ ?_
   ·
    refine awpO_fc cal43 [] (fun _ => false) (cloneE_c g.edges (by omega)) rfl (.inr rfl) rfl rfl rfl (by simp) (.inl fun _ => rfl) ?_ ?_ ?_ fun K hK x hI hno => ?_
    · simp [hG, List.getD_cons_zero, List.getD_cons_succ, -List.getD_eq_getElem?_getD, sumAt_zero]
    · simp [hG, List.getD_cons_zero, List.getD_cons_succ, -List.getD_eq_getElem?_getD, sumAt_zero]
    · simp [hG, List.getD_cons_zero, List.getD_cons_succ, -List.getD_eq_getElem?_getD, sumAt_zero]
    simp [hG, List.getD_cons_zero, List.getD_cons_succ, -List.getD_eq_getElem?_getD, sumAt_zero]
    refine hK _ ?_
    clear K hK
    refine awpA_tk T_ok [10] [] (fuel := 2) [10, 9, 8, 7, 6, 5, 4, 3, 2, 1, 0] (by decide +kernel) (by decide +kernel) rfl rfl fun K hK => ?_
    simp [hG, List.getD_cons_zero, List.getD_cons_succ, -List.getD_eq_getElem?_getD, sumAt_zero]
    refine hK _ ?_
    clear K hK
    refine awpA_only (fuel := 1) (i := 11) (by decide +kernel) ?_
    refine awpO_reg T_ok rfl ?_ fun K hK => ?_
    · simp [hG, List.getD_cons_zero, List.getD_cons_succ, -List.getD_eq_getElem?_getD, sumAt_zero]
    simp [hG, List.getD_cons_zero, List.getD_cons_succ, -List.getD_eq_getElem?_getD, sumAt_zero]
    refine hK _ ?_
    clear K hK
    refine awpA_only (fuel := 0) (i := 12) (by decide +kernel) ?_
    refine awpO_reg T_ok rfl ?_ fun K hK => ?_
    · simp [hG, List.getD_cons_zero, List.getD_cons_succ, -List.getD_eq_getElem?_getD, sumAt_zero]
    simp [hG, List.getD_cons_zero, List.getD_cons_succ, -List.getD_eq_getElem?_getD, sumAt_zero]
    refine ⟨Cond.mk (by omega), hK _ ?_⟩
    clear K hK
    refine awpA_done (by decide +kernel) ?_
    refine awpS_nil ?_
    refine cut_end (()) (trivial) ?_
    refine wk_of (fun k => if k = 3 then 4 else if k = 4 then 3 else k) (fun _ => false) (fun _ => false) ?_ ?_ rfl (Nat.zero_le _) (fun k hk => absurd hk (Nat.not_lt_zero _))
    · simp [hG, List.getD_cons_zero, List.getD_cons_succ, -List.getD_eq_getElem?_getD, sumAt_zero]
    · simp [hG, List.getD_cons_zero, List.getD_cons_succ, -List.getD_eq_getElem?_getD, sumAt_zero]
   ·
    refine awpO_reg T_ok rfl ?_ fun K hK => ?_
    · simp [hG, List.getD_cons_zero, List.getD_cons_succ, -List.getD_eq_getElem?_getD, sumAt_zero]
    simp [hG, List.getD_cons_zero, List.getD_cons_succ, -List.getD_eq_getElem?_getD, sumAt_zero]
    refine hK _ ?_
    clear K hK
    refine awpA_only (fuel := 2) (i := 9) (by decide +kernel) ?_
    refine awpO_fc cal43 [] (fun _ => false) (cloneE_c g.edges (by omega)) rfl (.inr rfl) rfl rfl rfl (by simp) (.inl fun _ => rfl) ?_ ?_ ?_ fun K hK x hI hno => ?_
    · simp [hG, List.getD_cons_zero, List.getD_cons_succ, -List.getD_eq_getElem?_getD, sumAt_zero]
    · simp [hG, List.getD_cons_zero, List.getD_cons_succ, -List.getD_eq_getElem?_getD, sumAt_zero]
    · simp [hG, List.getD_cons_zero, List.getD_cons_succ, -List.getD_eq_getElem?_getD, sumAt_zero]
    simp [hG, List.getD_cons_zero, List.getD_cons_succ, -List.getD_eq_getElem?_getD, sumAt_zero]
    refine hK _ ?_
    clear K hK
    refine awpA_tk T_ok [10] [] (fuel := 1) [10, 9, 11, 8, 7, 6, 5, 4, 3, 2, 1, 0] (by decide +kernel) (by decide +kernel) rfl rfl fun K hK => ?_
    simp [hG, List.getD_cons_zero, List.getD_cons_succ, -List.getD_eq_getElem?_getD, sumAt_zero]
    refine hK _ ?_
    clear K hK
    refine awpA_only (fuel := 0) (i := 12) (by decide +kernel) ?_
    refine awpO_reg T_ok rfl ?_ fun K hK => ?_
    · simp [hG, List.getD_cons_zero, List.getD_cons_succ, -List.getD_eq_getElem?_getD, sumAt_zero]
    simp [hG, List.getD_cons_zero, List.getD_cons_succ, -List.getD_eq_getElem?_getD, sumAt_zero]
    refine ⟨Cond.mk (by omega), hK _ ?_⟩
    clear K hK
    refine awpA_done (by decide +kernel) ?_
    refine awpS_nil ?_
    refine cut_end (()) (trivial) ?_
    refine wk_of (id) (fun _ => false) (fun _ => false) ?_ ?_ rfl (Nat.zero_le _) (fun k hk => absurd hk (Nat.not_lt_zero _))
    · simp [hG, List.getD_cons_zero, List.getD_cons_succ, -List.getD_eq_getElem?_getD, sumAt_zero]
    · simp [hG, List.getD_cons_zero, List.getD_cons_succ, -List.getD_eq_getElem?_getD, sumAt_zero]
  ·
   rintro ⟨⟩ -
   refine awpS_seq ?_
   refine awpS_seq ?_
   refine awpS_reg T_ok fun K hK => ?_
   simp [hG, List.getD_cons_zero, List.getD_cons_succ, -List.getD_eq_getElem?_getD, sumAt_zero]
   refine hK _ ?_
   clear K hK
   refine awpS_block ?_
   refine awpS_loop (α := Nat) (fun m => ⟨[(2, .ptr (0, 0) 0 0), (3, .ptr (1, 0) 0 0), (4, .ptr (2, 0) 0 0), (7, .ptr (3, 0) 0 0), (29, edgesC h.edges), (30, .int .i64 h.edges.length), (31, .int .i64 m)], [(0, .one (.arr 1 3 (fun _ => grF g))), (1, .one (.arr 1 3 (fun _ => grF h))), (2, .one (.arr 1 3 (fun _ j => [.int .i64 0, .int .i64 0, .nils].getD j .any))), (3, .one (.arr 1 3 (fun _ j => [.int .i64 g.labels, .int .i64 (g.states + h.states), .sl (4, 0) 0 (sumAt g h m).length].getD j .any))), (4, .one (.arr (sumAt g h m).length 3 (fun q j => edgeF ((sumAt g h m).getD q de) j)))], 5⟩) (fun m => m ≤ h.edges.length) (fun m => h.edges.length - m) (0) (Nat.zero_le _) ?_ ?_
   ·
    refine wk_of (id) (fun _ => false) (fun _ => false) ?_ ?_ rfl (Nat.zero_le _) (fun k hk => absurd hk (Nat.not_lt_zero _))
    · simp [hG, List.getD_cons_zero, List.getD_cons_succ, -List.getD_eq_getElem?_getD, sumAt_zero]
    · simp [hG, List.getD_cons_zero, List.getD_cons_succ, -List.getD_eq_getElem?_getD, sumAt_zero]
   ·
    rintro m hm
    refine awpS_seq ?_
    refine awpS_reg T_ok fun K hK => ?_
    simp [hG, List.getD_cons_zero, List.getD_cons_succ, -List.getD_eq_getElem?_getD, sumAt_zero]
    refine hK _ ?_
    clear K hK
    refine awpS_seq ?_
    refine awpS_cond rfl (fun hb32 => ?_) (fun hb32 => ?_)
    ·
     try simp [-List.getD_eq_getElem?_getD] at hb32
     have hsl := sumAt_len (g := g) (h := h) (m := m)
     have heb := edge_box hw (k := m) (by omega)
     have hsu := sumAt_succ (g := g) (h := h) (m := m) (by omega)
     refine awpS_skip ?_
     refine awpS_seq ?_
     refine awpS_block ?_
     refine awpS_seq ?_
     refine awpS_reg T_ok fun K hK => ?_
     simp [hG, List.getD_cons_zero, List.getD_cons_succ, -List.getD_eq_getElem?_getD, sumAt_zero]
     refine ⟨Cond.mk (by simp [-List.getD_eq_getElem?_getD]; omega), hK _ ?_⟩
     clear K hK
     refine awpS_reg T_ok fun K hK => ?_
     simp [hG, List.getD_cons_zero, List.getD_cons_succ, -List.getD_eq_getElem?_getD, sumAt_zero]
     refine ⟨Cond.mk (by simp [-List.getD_eq_getElem?_getD]; omega), hK _ ?_⟩
     clear K hK
     refine awpS_nil ?_
     refine blockQ_norm (thenQ_norm ?_)
     refine awpS_reg T_ok fun K hK => ?_
     simp [hG, List.getD_cons_zero, List.getD_cons_succ, -List.getD_eq_getElem?_getD, sumAt_zero]
     refine ⟨Cond.mk (by omega), hK _ ?_⟩
     clear K hK
     refine awpS_nil ?_
     refine round_end (m + 1) (by omega) (by omega) ?_
     refine wk_of (fun k => if k = 4 then 7 else k) (fun _ => false) (fun _ => false) ?_ ?_ rfl (Nat.zero_le _) (fun k hk => absurd hk (Nat.not_lt_zero _))
     · simp [hG, List.getD_cons_zero, List.getD_cons_succ, -List.getD_eq_getElem?_getD, sumAt_zero]
     · rw [hsu]; simp [hG, List.getD_cons_zero, List.getD_cons_succ, -List.getD_eq_getElem?_getD]; exact fun q hq => app_edge3 (by simpa using hq) (fun j hj => by rcases lt3 hj with rfl | rfl | rfl <;> simp [shiftE, Int.add_comm, -List.getD_eq_getElem?_getD])
    ·
     try simp [-List.getD_eq_getElem?_getD] at hb32
     obtain rfl : m = h.edges.length := (by omega)
     have hall := sumAt_all (g := g) (h := h)
     refine awpS_exit ?_
     refine thenQ_exit (thenQ_exit ?_)
     refine blockQ_exit (thenQ_norm ?_)
     refine awpS_seq ?_
     refine awpS_seq ?_
     refine awpS_regL ?_
     refine awpL_reg T_ok 1 fun K hK => ?_
     simp [hG, List.getD_cons_zero, List.getD_cons_succ, -List.getD_eq_getElem?_getD, sumAt_zero]
     refine hK _ ?_
     clear K hK
     refine awpL_callB (mem [4]) cal35 (by simp [flat]) rfl rfl (fun _ => rfl) (fun hg => checkC_c ⟨g.labels, g.states + h.states, sumL g h⟩) (fun hg => ?_) (fun hg => ?_) fun K hK => ?_
     · simp [hG, List.getD_cons_zero, List.getD_cons_succ, -List.getD_eq_getElem?_getD, sumAt_zero]
     · rw [← hall]; simp [hG, List.getD_cons_zero, List.getD_cons_succ, -List.getD_eq_getElem?_getD]
     simp [hG, List.getD_cons_zero, List.getD_cons_succ, -List.getD_eq_getElem?_getD, sumAt_zero]
     refine hK _ ?_
     clear K hK
     refine awpL_reg T_ok 1 fun K hK => ?_
     simp [hG, List.getD_cons_zero, List.getD_cons_succ, -List.getD_eq_getElem?_getD, sumAt_zero]
     refine hK _ ?_
     clear K hK
     refine awpL_nil ?_
     refine awpS_cond rfl (fun hb56 => ?_) (fun hb56 => ?_)
     ·
      exact absurd hb56 (by simp [(sum_ok hck (by omega) (by omega)).2])
     ·
      try simp [-List.getD_eq_getElem?_getD] at hb56
      refine awpS_skip ?_
      refine awpS_seq ?_
      refine awpS_reg T_ok fun K hK => ?_
      simp [hG, List.getD_cons_zero, List.getD_cons_succ, -List.getD_eq_getElem?_getD, sumAt_zero]
      refine ⟨Cond.mk (by simp [-List.getD_eq_getElem?_getD]), hK _ ?_⟩
      clear K hK
      refine awpS_ret ?_
      refine RetOK_of ?_
      simp [hG, List.getD_cons_zero, List.getD_cons_succ, -List.getD_eq_getElem?_getD, sumAt_zero]
      unfold sumX; rw [if_pos hck, hck, hall]; simp

set_option maxRecDepth 100000 in
theorem sumR_c (g h : Gr) (hsg : gcheck g = 0 → g.states ≤ 10 ∧ g.edges.length ≤ 30) (hsh : gcheck h = 0 → h.states ≤ 10 ∧ h.edges.length ≤ 30) : PC Try.prog 28 [.agg 3 (grF g), .agg 3 (grF h)] (.tup 2 (fun j => [.agg 3 (grF (sumX g h)), .int .i64 (chk2N g h)].getD j .any)) := by
 refine PC_introS T_ok Try.func28 rfl (by simp [Try.ntmps28]) fun G hG hR => ?_
 simp only [Try.ntmps28, Try.results28] at hG ⊢
 simp only [argEnv, Nat.zero_add, Nat.reduceAdd]
 refine awpS_seq ?_
 refine awpS_reg T_ok fun K hK => ?_
 simp [hG, List.getD_cons_zero, List.getD_cons_succ, -List.getD_eq_getElem?_getD, sumAt_zero]
 refine ⟨Cond.mk (by simp [-List.getD_eq_getElem?_getD]), hK _ ?_⟩
 clear K hK
 refine awpS_seq ?_
 refine awpS_seq ?_
 refine awpS_regL ?_
 refine awpL_reg T_ok 1 fun K hK => ?_
 simp [hG, List.getD_cons_zero, List.getD_cons_succ, -List.getD_eq_getElem?_getD, sumAt_zero]
 refine hK _ ?_
 clear K hK
 refine awpL_call cal17 rfl rfl (fun _ => rfl) (fun hg => check_c g) (fun hg => ?_) (fun hg => ?_) fun K hK => ?_
 · simp [hG, List.getD_cons_zero, List.getD_cons_succ, -List.getD_eq_getElem?_getD, sumAt_zero]
 · simp [hG, List.getD_cons_zero, List.getD_cons_succ, -List.getD_eq_getElem?_getD, sumAt_zero]
 simp [hG, List.getD_cons_zero, List.getD_cons_succ, -List.getD_eq_getElem?_getD, sumAt_zero]
 refine hK _ ?_
 clear K hK
 refine awpL_reg T_ok 3 fun K hK => ?_
 simp [hG, List.getD_cons_zero, List.getD_cons_succ, -List.getD_eq_getElem?_getD, sumAt_zero]
 refine ⟨Cond.mk (by simp [-List.getD_eq_getElem?_getD]), hK _ ?_⟩
 clear K hK
 refine awpL_call cal17 rfl rfl (fun _ => rfl) (fun hg => check_c h) (fun hg => ?_) (fun hg => ?_) fun K hK => ?_
 · first | (simp [hG, List.getD_cons_zero, List.getD_cons_succ, -List.getD_eq_getElem?_getD, sumAt_zero]; done) | (simp [-List.getD_eq_getElem?_getD] at hg; done) | (simp [-List.getD_eq_getElem?_getD] at hg; simp [hG, List.getD_cons_zero, List.getD_cons_succ, -List.getD_eq_getElem?_getD, sumAt_zero]; first | omega | exact hg | (simp_all [-List.getD_eq_getElem?_getD]; done) | (simp_all [-List.getD_eq_getElem?_getD]; first | exact ⟨rfl, rfl⟩ | exact rfl))
 · first | (simp [hG, List.getD_cons_zero, List.getD_cons_succ, -List.getD_eq_getElem?_getD, sumAt_zero]; done) | (simp [-List.getD_eq_getElem?_getD] at hg; done) | (simp [-List.getD_eq_getElem?_getD] at hg; simp [hG, List.getD_cons_zero, List.getD_cons_succ, -List.getD_eq_getElem?_getD, sumAt_zero]; first | omega | exact hg | (simp_all [-List.getD_eq_getElem?_getD]; done) | (simp_all [-List.getD_eq_getElem?_getD]; first | exact ⟨rfl, rfl⟩ | exact rfl))
 simp [hG, List.getD_cons_zero, List.getD_cons_succ, -List.getD_eq_getElem?_getD, sumAt_zero]
 refine hK _ ?_
 clear K hK
 refine awpL_reg T_ok 2 fun K hK => ?_
 simp [hG, List.getD_cons_zero, List.getD_cons_succ, -List.getD_eq_getElem?_getD, sumAt_zero]
 refine ⟨Cond.mk (by simp [-List.getD_eq_getElem?_getD]), hK _ ?_⟩
 clear K hK
 refine awpL_nil ?_
 refine awpS_cond rfl (fun hb16 => ?_) (fun hb16 => ?_)
 ·
  try simp [-List.getD_eq_getElem?_getD] at hb16
  refine awpS_seq ?_
  refine awpS_reg T_ok fun K hK => ?_
  simp [hG, List.getD_cons_zero, List.getD_cons_succ, -List.getD_eq_getElem?_getD, sumAt_zero]
  refine ⟨Cond.mk (by simp [-List.getD_eq_getElem?_getD]), hK _ ?_⟩
  clear K hK
  refine awpS_ret ?_
  refine RetOK_of ?_
  simp [hG, List.getD_cons_zero, List.getD_cons_succ, -List.getD_eq_getElem?_getD, sumAt_zero]
  have hck : chk2N g h = 1 := (by unfold chk2N; rw [if_pos]; exact hb16); unfold sumX; rw [hck]; simp
 ·
  try simp [-List.getD_eq_getElem?_getD] at hb16
  refine awpS_skip ?_
  refine awpS_seq ?_
  refine awpS_seq ?_
  refine awpS_reg T_ok fun K hK => ?_
  simp [hG, List.getD_cons_zero, List.getD_cons_succ, -List.getD_eq_getElem?_getD, sumAt_zero]
  refine hK _ ?_
  clear K hK
  refine awpS_cond rfl (fun hb22 => ?_) (fun hb22 => ?_)
  ·
   try simp [-List.getD_eq_getElem?_getD] at hb22
   refine awpS_seq ?_
   refine awpS_reg T_ok fun K hK => ?_
   simp [hG, List.getD_cons_zero, List.getD_cons_succ, -List.getD_eq_getElem?_getD, sumAt_zero]
   refine ⟨Cond.mk (by simp [-List.getD_eq_getElem?_getD]), hK _ ?_⟩
   clear K hK
   refine awpS_ret ?_
   refine RetOK_of ?_
   simp [hG, List.getD_cons_zero, List.getD_cons_succ, -List.getD_eq_getElem?_getD, sumAt_zero]
   have hck : chk2N g h = 11 := (by unfold chk2N; rw [if_neg (by rintro (e | e); exact e hb16.1; exact e hb16.2), if_pos hb22]); unfold sumX; rw [hck]; simp
  ·
   try simp [-List.getD_eq_getElem?_getD] at hb22
   have hck : chk2N g h = 0 := (by unfold chk2N; rw [if_neg (by rintro (e | e); exact e hb16.1; exact e hb16.2), if_neg (fun e => e hb22)])
   obtain ⟨hv, hw, hlb2⟩ := chk2_ok hck
   obtain ⟨hs1, he1⟩ := hsg hv
   obtain ⟨hs2, he2⟩ := hsh hw
   have hst := (gcheck_valid hv).1.st
   have hst2 := (gcheck_valid hw).1.st
   refine awpS_skip ?_
   refine awpS_seq ?_
   refine awpS_seq ?_
   refine awpS_reg T_ok fun K hK => ?_
   simp [hG, List.getD_cons_zero, List.getD_cons_succ, -List.getD_eq_getElem?_getD, sumAt_zero]
   refine ⟨Cond.mk (by simp [-List.getD_eq_getElem?_getD]; omega), hK _ ?_⟩
   clear K hK
   refine awpS_cond rfl (fun hb39 => ?_) (fun hb39 => ?_)
   ·
    exact absurd hb39 (by simp; omega)
   ·
    try simp [-List.getD_eq_getElem?_getD] at hb39
    refine awpS_skip ?_
    refine awpS_seq ?_
    refine awpS_reg T_ok fun K hK => ?_
    simp [hG, List.getD_cons_zero, List.getD_cons_succ, -List.getD_eq_getElem?_getD, sumAt_zero]
    refine ⟨Cond.mk (by omega), hK _ ?_⟩
    clear K hK
    refine awpS_seq ?_
    refine awpS_seq ?_
    refine awpS_reg T_ok fun K hK => ?_
    simp [hG, List.getD_cons_zero, List.getD_cons_succ, -List.getD_eq_getElem?_getD, sumAt_zero]
    refine hK _ ?_
    clear K hK
    refine awpS_block ?_
    refine awpS_loop (α := Nat) (fun m => ⟨[(2, .ptr (0, 0) 0 0), (3, .ptr (1, 0) 0 0), (4, .ptr (2, 0) 0 0), (6, .sl (3, 0) 0 (sumAt g h m).length), (7, .int .i64 m)], [(0, .one (.arr 1 3 (fun _ => grF g))), (1, .one (.arr 1 3 (fun _ => grF h))), (2, .one (.arr 1 3 (fun _ j => [.int .i64 0, .int .i64 0, .nils].getD j .any))), (3, .one (.arr (sumAt g h m).length 3 (fun q j => edgeF ((sumAt g h m).getD q de) j)))], 4⟩) (fun m => m ≤ h.edges.length) (fun m => h.edges.length - m) (0) (Nat.zero_le _) ?_ ?_
    ·
     refine wk_of (fun k => if k = 3 then 4 else k) (fun _ => false) (fun _ => false) ?_ ?_ rfl (Nat.zero_le _) (fun k hk => absurd hk (Nat.not_lt_zero _))
     · simp [hG, List.getD_cons_zero, List.getD_cons_succ, -List.getD_eq_getElem?_getD, sumAt_zero]
     · simp [hG, List.getD_cons_zero, List.getD_cons_succ, -List.getD_eq_getElem?_getD, sumAt_zero]
    ·
     rintro m hm
     refine awpS_seq ?_
     refine awpS_seq ?_
     refine awpS_reg T_ok fun K hK => ?_
     simp [hG, List.getD_cons_zero, List.getD_cons_succ, -List.getD_eq_getElem?_getD, sumAt_zero]
     refine hK _ ?_
     clear K hK
     refine awpS_cond rfl (fun hb49 => ?_) (fun hb49 => ?_)
     ·
      try simp [-List.getD_eq_getElem?_getD] at hb49
      have hsl := sumAt_len (g := g) (h := h) (m := m)
      have heb := edge_box hw (k := m) (by omega)
      have hsu := sumAt_succ (g := g) (h := h) (m := m) (by omega)
      refine awpS_skip ?_
      refine awpS_seq ?_
      refine awpS_block ?_
      refine awpS_seq ?_
      refine awpS_reg T_ok fun K hK => ?_
      simp [hG, List.getD_cons_zero, List.getD_cons_succ, -List.getD_eq_getElem?_getD, sumAt_zero]
      refine ⟨Cond.mk (by simp [-List.getD_eq_getElem?_getD]; omega), hK _ ?_⟩
      clear K hK
      refine awpS_reg T_ok fun K hK => ?_
      simp [hG, List.getD_cons_zero, List.getD_cons_succ, -List.getD_eq_getElem?_getD, sumAt_zero]
      refine ⟨Cond.mk (by simp [-List.getD_eq_getElem?_getD]; omega), hK _ ?_⟩
      clear K hK
      refine awpS_nil ?_
      refine blockQ_norm (thenQ_norm ?_)
      refine awpS_reg T_ok fun K hK => ?_
      simp [hG, List.getD_cons_zero, List.getD_cons_succ, -List.getD_eq_getElem?_getD, sumAt_zero]
      refine ⟨Cond.mk (by omega), hK _ ?_⟩
      clear K hK
      refine awpS_nil ?_
      refine round_end (m + 1) (by omega) (by omega) ?_
      refine wk_of (fun k => if k = 3 then 6 else k) (fun _ => false) (fun _ => false) ?_ ?_ rfl (Nat.zero_le _) (fun k hk => absurd hk (Nat.not_lt_zero _))
      · rw [hsu]; simp [hG, List.getD_cons_zero, List.getD_cons_succ, -List.getD_eq_getElem?_getD]
      · rw [hsu]; simp [hG, List.getD_cons_zero, List.getD_cons_succ, -List.getD_eq_getElem?_getD]; exact fun q hq => app_edge3 (by simpa using hq) (fun j hj => by rcases lt3 hj with rfl | rfl | rfl <;> simp [shiftE, -List.getD_eq_getElem?_getD])
     ·
      try simp [-List.getD_eq_getElem?_getD] at hb49
      obtain rfl : m = h.edges.length := (by omega)
      refine awpS_exit ?_
      refine thenQ_exit (thenQ_exit ?_)
      refine blockQ_exit (thenQ_norm ?_)
      refine awpS_seq ?_
      refine awpS_wk (st2 := ⟨[(2, .ptr (0, 0) 0 0), (3, .ptr (1, 0) 0 0), (4, .ptr (2, 0) 0 0), (6, edgesC (sumL g h))], [(0, .one (.arr 1 3 (fun _ => grF g))), (1, .one (.arr 1 3 (fun _ => grF h))), (2, .one (.arr 1 3 (fun _ j => [.int .i64 0, .int .i64 0, .nils].getD j .any)))], 3⟩) ?_ ?_
      ·
       refine wk_of (id) (fun k => k == 3) (fun _ => false) ?_ ?_ rfl (Nat.zero_le _) (fun k hk => absurd hk (Nat.not_lt_zero _))
       · rw [← sumAt_all]; simp [hG, List.getD_cons_zero, List.getD_cons_succ, -List.getD_eq_getElem?_getD]
       · simp [hG, List.getD_cons_zero, List.getD_cons_succ, -List.getD_eq_getElem?_getD, sumAt_zero]
      refine awpS_regL ?_
      refine awpL_reg T_ok 8 fun K hK => ?_
      simp [hG, List.getD_cons_zero, List.getD_cons_succ, -List.getD_eq_getElem?_getD, sumAt_zero]
      refine ⟨Cond.mk (by omega), hK _ ?_⟩
      clear K hK
      refine awpL_call cal42 rfl rfl (fun _ => rfl) (fun hg => makeR_c g.labels (g.states + h.states) (sumL g h) (by rw [sumL_len]; omega)) (fun hg => ?_) (fun hg => ?_) fun K hK => ?_
      · simp [hG, List.getD_cons_zero, List.getD_cons_succ, -List.getD_eq_getElem?_getD, sumAt_zero]
      · simp [hG, List.getD_cons_zero, List.getD_cons_succ, -List.getD_eq_getElem?_getD, sumAt_zero]
      simp [hG, List.getD_cons_zero, List.getD_cons_succ, -List.getD_eq_getElem?_getD, sumAt_zero]
      refine hK _ ?_
      clear K hK
      refine awpL_reg T_ok 4 fun K hK => ?_
      simp [hG, List.getD_cons_zero, List.getD_cons_succ, -List.getD_eq_getElem?_getD, sumAt_zero]
      refine ⟨Cond.mk (by simp [-List.getD_eq_getElem?_getD]), hK _ ?_⟩
      clear K hK
      refine awpL_nil ?_
      refine awpS_ret ?_
      refine RetOK_of ?_
      simp [hG, List.getD_cons_zero, List.getD_cons_succ, -List.getD_eq_getElem?_getD, sumAt_zero]
      obtain ⟨h1, h2⟩ := sum_ok hck (by omega) (by omega); have hM : mkN g.labels (g.states + h.states) (sumL g h) = 0 := (by unfold mkN; rw [norm_own h1]; exact h2); unfold sumX; rw [if_pos hck, hck, hM, mk_ok hM, norm_own h1]; simp

end Go.Proofs.Ytddghlnaocjjkaa
