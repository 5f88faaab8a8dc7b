/-
 Walks: the reference's Relabel.
-/
import Derived.Test.YtmjkbidnghcfnaaWQ
import Derived.Test.YtmjkbidnghcfnaaPX
namespace Go.Proofs.Ytmjkbidnghcfnaa
set_option linter.unusedSimpArgs false
set_option linter.unusedVariables false
open Go Go.Lift Go.Proofs

theorem bad_len {e : Enc} {x : List Int} : badRow e x = false ↔ (x.length : Int) = e.inputs := by simp [badRow]
theorem relE_rows_at {e : Enc} {L : List (List Int)} {s : Nat} (h : s < (relE e L).rows.length) : (relE e L).rows.getD s [] = relCells e L s := relE_row (by rwa [relE_len] at h)
theorem bad_ne {e : Enc} {x : List Int} (h : ¬ (x.length : Int) = e.inputs) : badRow e x = true := by simp [badRow, h]
@[simp] theorem vecF_int {l : List Int} {d : Int} {i j : Nat} : vecF (fun (x : Int) (_ : Nat) => AVal.int .i64 x) d l i j = .int .i64 (l.getD i d) := rfl
@[simp] theorem vecF_ints {L : List (List Int)} {i j : Nat} : vecF (fun (x : List Int) (_ : Nat) => ints x) [] L i j = ints (L.getD i []) := rfl
set_option maxRecDepth 100000 in
theorem relabelR_c (e : Enc) (L : List (List Int)) (hL : L.length ≤ 1000000) (hr : ∀ x ∈ L, x.length ≤ 1000000) : PC Try.prog 33 [.agg 4 (encF e), rowsI L] (.tup 2 (fun j => [.agg 4 (encF (relX e L)), .int .i64 (relCheck e L)].getD j .any)) := by
 refine PC_introS T_ok Try.func33 rfl (by simp [Try.ntmps33]) fun G hG hR => ?_
 simp only [Try.ntmps33, Try.results33] at hG ⊢
 simp only [argEnv, Nat.zero_add, Nat.reduceAdd]
 refine awpS_seq ?_
 refine awpS_reg T_ok fun K hK => ?_
 simp [hG, List.getD_cons_zero, List.getD_cons_succ, -List.getD_eq_getElem?_getD]
 refine ⟨Cond.mk (by simp [-List.getD_eq_getElem?_getD]), hK _ ?_⟩
 clear K hK
 refine awpS_seq ?_
 refine awpS_seq ?_
 refine awpS_regL ?_
 refine awpL_reg T_ok 1 fun K hK => ?_
 simp [hG, List.getD_cons_zero, List.getD_cons_succ, -List.getD_eq_getElem?_getD]
 refine hK _ ?_
 clear K hK
 refine awpL_call cal41 rfl rfl (fun _ => rfl) (fun hg => checkR_c e) (fun hg => ?_) (fun hg => ?_) fun K hK => ?_
 · simp [hG, List.getD_cons_zero, List.getD_cons_succ, -List.getD_eq_getElem?_getD]
 · simp [hG, List.getD_cons_zero, List.getD_cons_succ, -List.getD_eq_getElem?_getD]
 simp [hG, List.getD_cons_zero, List.getD_cons_succ, -List.getD_eq_getElem?_getD]
 refine hK _ ?_
 clear K hK
 refine awpL_reg T_ok 1 fun K hK => ?_
 simp [hG, List.getD_cons_zero, List.getD_cons_succ, -List.getD_eq_getElem?_getD]
 refine hK _ ?_
 clear K hK
 refine awpL_nil ?_
 refine awpS_cond rfl (fun hb13 => ?_) (fun hb13 => ?_)
 ·
  try simp [-List.getD_eq_getElem?_getD] at hb13
  refine awpS_seq ?_
  refine awpS_reg T_ok fun K hK => ?_
  simp [hG, List.getD_cons_zero, List.getD_cons_succ, -List.getD_eq_getElem?_getD]
  refine ⟨Cond.mk (by simp [-List.getD_eq_getElem?_getD]), hK _ ?_⟩
  clear K hK
  refine awpS_ret ?_
  refine RetOK_of ?_
  simp [hG, List.getD_cons_zero, List.getD_cons_succ, -List.getD_eq_getElem?_getD]
  have hN : relCheck e L = 1 := (by unfold relCheck; rw [if_pos (by simpa using hb13)]); rw [relX_err hN (by omega), hN]; simp
 ·
  try simp [-List.getD_eq_getElem?_getD] at hb13
  have hv : checkE e = 0 := (by simpa using hb13)
  have hl64 := rows_len hv
  have hin := (checkE_valid hv).1.inputs
  refine awpS_skip ?_
  refine awpS_seq ?_
  refine awpS_seq ?_
  refine awpS_reg T_ok fun K hK => ?_
  simp [hG, List.getD_cons_zero, List.getD_cons_succ, -List.getD_eq_getElem?_getD]
  refine hK _ ?_
  clear K hK
  refine awpS_cond rfl (fun hb20 => ?_) (fun hb20 => ?_)
  ·
   try simp [-List.getD_eq_getElem?_getD] at hb20
   refine awpS_seq ?_
   refine awpS_reg T_ok fun K hK => ?_
   simp [hG, List.getD_cons_zero, List.getD_cons_succ, -List.getD_eq_getElem?_getD]
   refine ⟨Cond.mk (by simp [-List.getD_eq_getElem?_getD]), hK _ ?_⟩
   clear K hK
   refine awpS_ret ?_
   refine RetOK_of ?_
   simp [hG, List.getD_cons_zero, List.getD_cons_succ, -List.getD_eq_getElem?_getD]
   have hN : relCheck e L = 11 := rel_mis hv (.inl hb20); rw [relX_err hN (by omega), hN]; simp
  ·
   try simp [-List.getD_eq_getElem?_getD] at hb20
   have hll : (L.length : Int) = e.rows.length := (by simpa using hb20)
   refine awpS_skip ?_
   refine awpS_seq ?_
   refine awpS_seq ?_
   refine awpS_reg T_ok fun K hK => ?_
   simp [hG, List.getD_cons_zero, List.getD_cons_succ, -List.getD_eq_getElem?_getD]
   refine hK _ ?_
   clear K hK
   refine awpS_block ?_
   refine awpS_loop (α := Nat) (fun k => ⟨[(1, rowsI L), (2, .ptr (0, 0) 0 0), (4, .ptr (1, 0) 0 0), (6, .int .i64 k)], [(0, .one (.arr 1 4 (fun _ => encF e))), (1, .one (.arr 1 4 (fun _ m => [AVal.int IntKind.i64 0, AVal.int IntKind.i64 0, AVal.int IntKind.i64 0, AVal.nils].getD m AVal.any)))], 2⟩) (fun k => k ≤ L.length ∧ ∀ j, j < k → badRow e (L.getD j []) = false) (fun k => L.length - k) (0) (⟨Nat.zero_le _, fun j hj => absurd hj (Nat.not_lt_zero _)⟩) ?_ ?_
   ·
    refine wk_of (id) (fun _ => false) (fun _ => false) ?_ ?_ rfl (Nat.zero_le _) (fun k hk => absurd hk (Nat.not_lt_zero _))
    · simp [hG, List.getD_cons_zero, List.getD_cons_succ, -List.getD_eq_getElem?_getD]
    · simp [hG, List.getD_cons_zero, List.getD_cons_succ, -List.getD_eq_getElem?_getD]
   ·
    rintro k ⟨hk, hrows⟩
    refine awpS_seq ?_
    refine awpS_seq ?_
    refine awpS_reg T_ok fun K hK => ?_
    simp [hG, List.getD_cons_zero, List.getD_cons_succ, -List.getD_eq_getElem?_getD]
    refine hK _ ?_
    clear K hK
    refine awpS_cond rfl (fun hb25 => ?_) (fun hb25 => ?_)
    ·
     try simp [-List.getD_eq_getElem?_getD] at hb25
     have hxl := hr _ (getD_mem (d := []) (show k < L.length by omega))
     refine awpS_skip ?_
     refine awpS_seq ?_
     refine awpS_block ?_
     refine awpS_seq ?_
     refine awpS_draw hR mixed [] ⟨[], [], []⟩ fun mu0 => ?_
     refine awpA_tk T_ok [0, 1, 2, 3, 4, 5, 6, 7] [] (fuel := 0) [7, 6, 5, 4, 3, 2, 1, 0] (by decide +kernel) (by decide +kernel) rfl rfl fun K hK => ?_
     simp [hG, List.getD_cons_zero, List.getD_cons_succ, -List.getD_eq_getElem?_getD]
     first | refine hK _ ?_ | refine ⟨Cond.mk (by exact ⟨by omega, trivial⟩), hK _ ?_⟩
     clear K hK
     refine awpA_done (by decide +kernel) ?_
     refine awpS_cond rfl (fun hb35 => ?_) (fun hb35 => ?_)
     ·
      try simp [-List.getD_eq_getElem?_getD] at hb35
      refine awpS_seq ?_
      refine awpS_reg T_ok fun K hK => ?_
      simp [hG, List.getD_cons_zero, List.getD_cons_succ, -List.getD_eq_getElem?_getD]
      refine ⟨Cond.mk (by simp [-List.getD_eq_getElem?_getD]), hK _ ?_⟩
      clear K hK
      refine awpS_ret ?_
      refine blockQ_ret (thenQ_ret ?_)
      refine thenQ_ret (thenQ_ret ?_)
      refine blockQ_ret (thenQ_ret ?_)
      refine RetOK_of ?_
      simp [hG, List.getD_cons_zero, List.getD_cons_succ, -List.getD_eq_getElem?_getD]
      have hN : relCheck e L = 11 := rel_mis hv (.inr (List.any_eq_true.2 ⟨_, getD_mem (d := []) (show k < L.length by omega), bad_ne (by simpa using hb35)⟩)); rw [relX_err hN (by omega), hN]; simp
     ·
      try simp [-List.getD_eq_getElem?_getD] at hb35
      refine awpS_skip ?_
      refine awpS_nil ?_
      refine blockQ_norm (thenQ_norm ?_)
      refine awpS_reg T_ok fun K hK => ?_
      simp [hG, List.getD_cons_zero, List.getD_cons_succ, -List.getD_eq_getElem?_getD]
      refine ⟨Cond.mk (by omega), hK _ ?_⟩
      clear K hK
      refine awpS_nil ?_
      refine round_end (k + 1) (⟨by omega, fun j hj => (Nat.lt_succ_iff_lt_or_eq.1 hj).elim (hrows j) fun e => by rw [e]; exact bad_len.2 hb35⟩) (by omega) ?_
      refine wk_of (id) (fun _ => false) (fun _ => false) ?_ ?_ rfl (Nat.zero_le _) (fun k hk => absurd hk (Nat.not_lt_zero _))
      · simp [hG, List.getD_cons_zero, List.getD_cons_succ, -List.getD_eq_getElem?_getD]
      · simp [hG, List.getD_cons_zero, List.getD_cons_succ, -List.getD_eq_getElem?_getD]
    ·
     try simp [-List.getD_eq_getElem?_getD] at hb25
     obtain rfl : k = L.length := (by omega)
     have hbad : L.any (badRow e) = false := List.any_eq_false.2 fun x hx => (by obtain ⟨j, hj, rfl⟩ := List.mem_iff_getElem.1 hx; have := hrows j hj; rw [getD_get hj] at this; rw [this]; exact Bool.false_ne_true)
     refine awpS_exit ?_
     refine thenQ_exit (thenQ_exit ?_)
     refine blockQ_exit (thenQ_norm ?_)
     refine awpS_seq ?_
     refine awpS_reg T_ok fun K hK => ?_
     simp [hG, List.getD_cons_zero, List.getD_cons_succ, -List.getD_eq_getElem?_getD]
     refine ⟨Cond.mk (by simp [-List.getD_eq_getElem?_getD]), hK _ ?_⟩
     clear K hK
     refine awpS_seq ?_
     refine awpS_seq ?_
     refine awpS_reg T_ok fun K hK => ?_
     simp [hG, List.getD_cons_zero, List.getD_cons_succ, -List.getD_eq_getElem?_getD]
     refine hK _ ?_
     clear K hK
     refine awpS_block ?_
     refine awpS_loop (α := Nat) (fun s => ⟨[(1, rowsI L), (2, .ptr (0, 0) 0 0), (4, .ptr (1, 0) 0 0), (7, .ptr (2, 0) 0 0), (8, .int .i64 s)], [(0, .one (.arr 1 4 (fun _ => encF e))), (1, .one (.arr 1 4 (fun _ m => [AVal.int IntKind.i64 0, AVal.int IntKind.i64 0, AVal.int IntKind.i64 0, AVal.nils].getD m AVal.any))), (2, .one (.arr 1 4 (fun _ c4 => [AVal.int IntKind.i64 e.letters, AVal.int IntKind.i64 e.block, AVal.int IntKind.i64 e.inputs, .sl (3, 0) 0 s].getD c4 AVal.any))), (3, .one (.arr s 1 (fun q _ => cells (relCells e L q))))], 4⟩) (fun s => s ≤ L.length ∧ ∀ j, j < s → relRow e.inputs (L.getD j []) = 0) (fun s => L.length - s) (0) (⟨Nat.zero_le _, fun j hj => absurd hj (Nat.not_lt_zero _)⟩) ?_ ?_
     ·
      refine wk_of (id) (fun _ => false) (fun k => k == 3) ?_ ?_ rfl (Nat.zero_le _) (fun k hk => absurd hk (Nat.not_lt_zero _))
      · simp [hG, List.getD_cons_zero, List.getD_cons_succ, -List.getD_eq_getElem?_getD]
      · simp [hG, List.getD_cons_zero, List.getD_cons_succ, -List.getD_eq_getElem?_getD]
     ·
      rintro s ⟨hs, hrw⟩
      refine awpS_seq ?_
      refine awpS_seq ?_
      refine awpS_reg T_ok fun K hK => ?_
      simp [hG, List.getD_cons_zero, List.getD_cons_succ, -List.getD_eq_getElem?_getD]
      refine hK _ ?_
      clear K hK
      refine awpS_cond rfl (fun hb47 => ?_) (fun hb47 => ?_)
      ·
       try simp [-List.getD_eq_getElem?_getD] at hb47
       have hsr := row_len hv (k := s) (by omega)
       have hre := row_eq hv (k := s) (by omega)
       have hgr := good_row hbad (k := s) (by omega)
       refine awpS_skip ?_
       refine awpS_seq ?_
       refine awpS_block ?_
       refine awpS_seq ?_
       refine awpS_reg T_ok fun K hK => ?_
       simp [hG, List.getD_cons_zero, List.getD_cons_succ, -List.getD_eq_getElem?_getD]
       refine ⟨Cond.mk (by omega), hK _ ?_⟩
       clear K hK
       refine awpS_seq ?_
       refine awpS_seq ?_
       refine awpS_reg T_ok fun K hK => ?_
       simp [hG, List.getD_cons_zero, List.getD_cons_succ, -List.getD_eq_getElem?_getD]
       refine hK _ ?_
       clear K hK
       refine awpS_block ?_
       refine awpS_loop (α := Nat) (fun i => ⟨[(1, rowsI L), (2, .ptr (0, 0) 0 0), (4, .ptr (1, 0) 0 0), (7, .ptr (2, 0) 0 0), (8, .int .i64 s), (9, .sl (4, 0) 0 (e.rows.getD s []).length), (10, .int .i64 i)], [(0, .one (.arr 1 4 (fun _ => encF e))), (1, .one (.arr 1 4 (fun _ m => [AVal.int IntKind.i64 0, AVal.int IntKind.i64 0, AVal.int IntKind.i64 0, AVal.nils].getD m AVal.any))), (2, .one (.arr 1 4 (fun _ c4 => [AVal.int IntKind.i64 e.letters, AVal.int IntKind.i64 e.block, AVal.int IntKind.i64 e.inputs, .sl (3, 0) 0 s].getD c4 AVal.any))), (3, .one (.arr s 1 (fun q _ => cells (relCells e L q)))), (4, .one (.arr (e.rows.getD s []).length 2 (fun q j => cellF ((scat (L.getD s []) (e.rows.getD s []) dc (e.rows.getD s []).length (i)).getD q dc) j)))], 5⟩) (fun i => i ≤ e.inputs.toNat ∧ ∀ j, j < i → relCell e.inputs (L.getD s []) j = 0) (fun i => e.inputs.toNat - i) (0) (⟨Nat.zero_le _, fun j hj => absurd hj (Nat.not_lt_zero _)⟩) ?_ ?_
       ·
        refine wk_of (id) (fun _ => false) (fun _ => false) ?_ ?_ rfl (Nat.zero_le _) (fun k hk => absurd hk (Nat.not_lt_zero _))
        · simp [hG, List.getD_cons_zero, List.getD_cons_succ, -List.getD_eq_getElem?_getD]; omega
        · simp [hG, List.getD_cons_zero, List.getD_cons_succ, -List.getD_eq_getElem?_getD]; exact ⟨by omega, fun q hq => (by unfold scat; rw [repl_dc]; exact ⟨rfl, rfl⟩)⟩
       ·
        rintro i ⟨hi, hcells⟩
        refine awpS_seq ?_
        refine awpS_seq ?_
        refine awpS_reg T_ok fun K hK => ?_
        simp [hG, List.getD_cons_zero, List.getD_cons_succ, -List.getD_eq_getElem?_getD]
        refine hK _ ?_
        clear K hK
        refine awpS_cond rfl (fun hb56 => ?_) (fun hb56 => ?_)
        ·
         try simp [-List.getD_eq_getElem?_getD] at hb56
         refine awpS_skip ?_
         refine awpS_seq ?_
         refine awpS_block ?_
         refine awpS_seq ?_
         refine awpS_seq ?_
         refine awpS_draw hR mixed [] ⟨[], [], []⟩ fun mu0 => ?_
         refine awpA_tk T_ok [0, 1, 2, 3, 4, 5, 6, 7, 8, 9, 10, 11, 12, 13, 14, 15, 16, 17, 18, 19] [] (fuel := 0) [19, 18, 17, 16, 15, 14, 13, 12, 11, 10, 9, 8, 7, 6, 5, 4, 3, 2, 1, 0] (by decide +kernel) (by decide +kernel) rfl rfl fun K hK => ?_
         simp [hG, List.getD_cons_zero, List.getD_cons_succ, -List.getD_eq_getElem?_getD]
         refine ⟨Cond.mk (by simp [-List.getD_eq_getElem?_getD]; omega), hK _ ?_⟩
         clear K hK
         refine awpA_done (by decide +kernel) ?_
         refine awpS_cond rfl (fun hb78 => ?_) (fun hb78 => ?_)
         ·
          try simp [-List.getD_eq_getElem?_getD] at hb78
          refine awpS_seq ?_
          refine awpS_reg T_ok fun K hK => ?_
          simp [hG, List.getD_cons_zero, List.getD_cons_succ, -List.getD_eq_getElem?_getD]
          refine ⟨Cond.mk (by simp [-List.getD_eq_getElem?_getD]), hK _ ?_⟩
          clear K hK
          refine awpS_ret ?_
          refine blockQ_ret (thenQ_ret ?_)
          refine thenQ_ret (thenQ_ret ?_)
          refine blockQ_ret (thenQ_ret ?_)
          refine blockQ_ret (thenQ_ret ?_)
          refine thenQ_ret (thenQ_ret ?_)
          refine blockQ_ret (thenQ_ret ?_)
          refine RetOK_of ?_
          simp [hG, List.getD_cons_zero, List.getD_cons_succ, -List.getD_eq_getElem?_getD]
          have hN := rel_hit hv hll hbad (k := s) (by omega) hrw (relRow_hit (i := i) (by omega) hcells (relCell_range hb78) (by omega)) (by omega); rw [relX_err hN (by omega), hN]; simp
         ·
          try simp [-List.getD_eq_getElem?_getD] at hb78
          have hrg : 0 ≤ (L.getD s []).getD i 0 ∧ (L.getD s []).getD i 0 < e.inputs := (by omega)
          refine awpS_skip ?_
          refine awpS_seq ?_
          refine awpS_seq ?_
          refine awpS_draw hR mixed [] ⟨[], [], []⟩ fun mu0 => ?_
          refine awpA_tk T_ok [0, 1, 2, 3, 4, 5, 6, 7, 8, 9, 10, 11, 12] [] (fuel := 2) [12, 11, 10, 9, 8, 7, 6, 5, 4, 3, 2, 1, 0] (by decide +kernel) (by decide +kernel) rfl rfl fun K hK => ?_
          simp [hG, List.getD_cons_zero, List.getD_cons_succ, -List.getD_eq_getElem?_getD]
          refine ⟨Cond.mk (by simp [-List.getD_eq_getElem?_getD]; omega), hK _ ?_⟩
          clear K hK
          refine awpA_only (fuel := 1) (i := 13) (by decide +kernel) ?_
          refine awpO_callB (mem []) cal44 (by simp [flat]) rfl rfl rfl (fun _ => rfl) (fun hg => place_c ((L.getD s []).take i) ((L.getD s []).getD i 0) (by rw [List.length_take]; omega)) (fun hg => ?_) (fun hg => ?_) fun K hK => ?_
          · simp [hG, List.getD_cons_zero, List.getD_cons_succ, -List.getD_eq_getElem?_getD]
          · simp [hG, List.getD_cons_zero, List.getD_cons_succ, -List.getD_eq_getElem?_getD]; exact ⟨by omega, fun q hq => by rw [take_getD (by omega)]⟩
          simp [hG, List.getD_cons_zero, List.getD_cons_succ, -List.getD_eq_getElem?_getD]
          refine hK _ ?_
          clear K hK
          refine awpA_tk T_ok [14] [] (fuel := 0) [14, 13, 12, 11, 10, 9, 8, 7, 6, 5, 4, 3, 2, 1, 0] (by decide +kernel) (by decide +kernel) rfl rfl fun K hK => ?_
          simp [hG, List.getD_cons_zero, List.getD_cons_succ, -List.getD_eq_getElem?_getD]
          refine hK _ ?_
          clear K hK
          refine awpA_done (by decide +kernel) ?_
          refine awpS_cond rfl (fun hb94 => ?_) (fun hb94 => ?_)
          ·
           try simp [-List.getD_eq_getElem?_getD] at hb94
           refine awpS_seq ?_
           refine awpS_reg T_ok fun K hK => ?_
           simp [hG, List.getD_cons_zero, List.getD_cons_succ, -List.getD_eq_getElem?_getD]
           refine ⟨Cond.mk (by simp [-List.getD_eq_getElem?_getD]), hK _ ?_⟩
           clear K hK
           refine awpS_ret ?_
           refine blockQ_ret (thenQ_ret ?_)
           refine thenQ_ret (thenQ_ret ?_)
           refine blockQ_ret (thenQ_ret ?_)
           refine blockQ_ret (thenQ_ret ?_)
           refine thenQ_ret (thenQ_ret ?_)
           refine blockQ_ret (thenQ_ret ?_)
           refine RetOK_of ?_
           simp [hG, List.getD_cons_zero, List.getD_cons_succ, -List.getD_eq_getElem?_getD]
           have hN := rel_hit hv hll hbad (k := s) (by omega) hrw (relRow_hit (i := i) (by omega) hcells (relCell_twice hrg (placeI_mem.1 hb94)) (by omega)) (by omega); rw [relX_err hN (by omega), hN]; simp
          ·
           try simp [-List.getD_eq_getElem?_getD] at hb94
           have hsc : (scat (L.getD s []) (e.rows.getD s []) dc (e.rows.getD s []).length (i + 1)) = (scat (L.getD s []) (e.rows.getD s []) dc (e.rows.getD s []).length (i)).set ((L.getD s []).getD i 0).toNat ((e.rows.getD s []).getD i dc) := rfl
           refine awpS_skip ?_
           refine awpS_draw hR mixed [(17, (4, 0))] ⟨[], [], []⟩ fun mu0 => ?_
           refine awpA_tk T_ok [0, 1, 2, 3, 4, 5, 6, 7, 8, 9, 10, 11, 12, 13, 14, 15, 16] [] (fuel := 1) [16, 15, 14, 13, 12, 11, 10, 9, 8, 7, 6, 5, 4, 3, 2, 1, 0] (by decide +kernel) (by decide +kernel) rfl rfl fun K hK => ?_
           simp [hG, List.getD_cons_zero, List.getD_cons_succ, -List.getD_eq_getElem?_getD]
           refine ⟨Cond.mk (by omega), hK _ ?_⟩
           clear K hK
           refine awpA_only (fuel := 0) (i := 17) (by decide +kernel) ?_
           refine awpO_reg T_ok rfl ?_ fun K hK => ?_
           · simp [hG, List.getD_cons_zero, List.getD_cons_succ, -List.getD_eq_getElem?_getD]
           simp [hG, List.getD_cons_zero, List.getD_cons_succ, -List.getD_eq_getElem?_getD]
           refine ⟨Cond.mk (by omega), hK _ ?_⟩
           clear K hK
           refine awpA_done (by decide +kernel) ?_
           refine awpS_nil ?_
           refine blockQ_norm (thenQ_norm ?_)
           refine awpS_reg T_ok fun K hK => ?_
           simp [hG, List.getD_cons_zero, List.getD_cons_succ, -List.getD_eq_getElem?_getD]
           refine ⟨Cond.mk (by omega), hK _ ?_⟩
           clear K hK
           refine awpS_nil ?_
           refine round_end (i + 1) (⟨by omega, fun j hj => (Nat.lt_succ_iff_lt_or_eq.1 hj).elim (hcells j) fun e => by rw [e]; exact relCell_ok hrg (fun h => by have := placeI_mem.2 h; omega)⟩) (by omega) ?_
           refine wk_of (id) (fun _ => false) (fun _ => false) ?_ ?_ rfl (Nat.zero_le _) (fun k hk => absurd hk (Nat.not_lt_zero _))
           · simp [hG, List.getD_cons_zero, List.getD_cons_succ, -List.getD_eq_getElem?_getD]
           · simp [hG, List.getD_cons_zero, List.getD_cons_succ, -List.getD_eq_getElem?_getD]; exact fun q hq => ⟨cell_set (j := 0) (by rw [scat_len]; omega), cell_set (j := 1) (by rw [scat_len]; omega)⟩
        ·
         try simp [-List.getD_eq_getElem?_getD] at hb56
         obtain rfl : i = e.inputs.toNat := (by omega)
         have hrz := relRow_zero (m := e.inputs) (x := (L.getD s [])) (fun j hj => hcells j (by omega))
         refine awpS_exit ?_
         refine thenQ_exit (thenQ_exit ?_)
         refine blockQ_exit (thenQ_norm ?_)
         refine awpS_reg T_ok fun K hK => ?_
         simp [hG, List.getD_cons_zero, List.getD_cons_succ, -List.getD_eq_getElem?_getD]
         refine ⟨Cond.mk (by omega), hK _ ?_⟩
         clear K hK
         refine awpS_nil ?_
         refine blockQ_norm (thenQ_norm ?_)
         refine awpS_reg T_ok fun K hK => ?_
         simp [hG, List.getD_cons_zero, List.getD_cons_succ, -List.getD_eq_getElem?_getD]
         refine ⟨Cond.mk (by omega), hK _ ?_⟩
         clear K hK
         refine awpS_nil ?_
         refine round_end (s + 1) (⟨by omega, fun j hj => (Nat.lt_succ_iff_lt_or_eq.1 hj).elim (hrw j) fun e => by rw [e]; exact hrz⟩) (by omega) ?_
         refine wk_of (fun k => if k = 3 then 6 else k) (fun k => k == 4) (fun _ => false) ?_ ?_ rfl (Nat.zero_le _) (fun k hk => absurd hk (Nat.not_lt_zero _))
         · simp [hG, List.getD_cons_zero, List.getD_cons_succ, -List.getD_eq_getElem?_getD]
         · simp [hG, List.getD_cons_zero, List.getD_cons_succ, -List.getD_eq_getElem?_getD]; refine fun j hj => app_rowC (F := relCells e L) hj ?_; simp [-List.getD_eq_getElem?_getD]; exact ⟨by have := relCells_len (e := e) (L := L) (s := s); omega, by have := relCells_len (e := e) (L := L) (s := s); omega, fun q hq => (by have hm : e.inputs.toNat = (e.rows.getD s []).length := (by omega); rw [hm]; exact ⟨rfl, rfl⟩)⟩
      ·
       try simp [-List.getD_eq_getElem?_getD] at hb47
       obtain rfl : s = L.length := (by omega)
       have hN := rel_zero hv hll hbad hrw
       refine awpS_exit ?_
       refine thenQ_exit (thenQ_exit ?_)
       refine blockQ_exit (thenQ_norm ?_)
       refine awpS_seq ?_
       refine awpS_reg T_ok fun K hK => ?_
       simp [hG, List.getD_cons_zero, List.getD_cons_succ, -List.getD_eq_getElem?_getD]
       refine ⟨Cond.mk (by simp [-List.getD_eq_getElem?_getD]), hK _ ?_⟩
       clear K hK
       refine awpS_ret ?_
       refine RetOK_of ?_
       simp [hG, List.getD_cons_zero, List.getD_cons_succ, -List.getD_eq_getElem?_getD]
       rw [relX_ok hN, hN]; simp [-List.getD_eq_getElem?_getD]; exact ⟨rfl, rfl, rfl, by omega, by omega, fun q hq => (by rw [relE_row hq]; exact Clo.le _ Clo_cells)⟩

end Go.Proofs.Ytmjkbidnghcfnaa
