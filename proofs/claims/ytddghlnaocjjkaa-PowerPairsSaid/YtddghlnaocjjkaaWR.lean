/-
 Walks: the essential part, in the program and in the reference.
-/
import Derived.Test.YtddghlnaocjjkaaWQ
namespace Go.Proofs.Ytddghlnaocjjkaa
set_option linter.unusedSimpArgs false
set_option linter.unusedVariables false
open Go Go.Lift Go.Proofs
set_option maxRecDepth 100000 in
theorem essential_c (g : Gr) : PC Try.prog 58 [.agg 3 (grF g)] (.tup 3 (fun j => [.agg 3 (grF (essG g)), ints (essX g), .int .i64 (essN g)].getD j .any)) := by
 refine PC_introS T_ok Try.func58 rfl (by simp [Try.ntmps58]) fun G hG hR => ?_
 simp only [Try.ntmps58, Try.results58] at hG ⊢
 simp only [argEnv, Nat.zero_add, Nat.reduceAdd]
 refine awpS_seq ?_
 refine awpS_reg T_ok fun K hK => ?_
 simp [hG, List.getD_cons_zero, List.getD_cons_succ, -List.getD_eq_getElem?_getD, entM_zero, leaM_zero, wMap]
 refine ⟨Cond.mk (by simp [-List.getD_eq_getElem?_getD]), hK _ ?_⟩
 clear K hK
 refine awpS_seq ?_
 refine awpS_seq ?_
 refine awpS_regL ?_
 refine awpL_reg T_ok 1 fun K hK => ?_
 simp [hG, List.getD_cons_zero, List.getD_cons_succ, -List.getD_eq_getElem?_getD, entM_zero, leaM_zero, wMap]
 refine hK _ ?_
 clear K hK
 refine awpL_call cal35 rfl rfl (fun _ => rfl) (fun hg => checkC_c g) (fun hg => ?_) (fun hg => ?_) fun K hK => ?_
 · simp [hG, List.getD_cons_zero, List.getD_cons_succ, -List.getD_eq_getElem?_getD, entM_zero, leaM_zero, wMap]
 · simp [hG, List.getD_cons_zero, List.getD_cons_succ, -List.getD_eq_getElem?_getD, entM_zero, leaM_zero, wMap]
 simp [hG, List.getD_cons_zero, List.getD_cons_succ, -List.getD_eq_getElem?_getD, entM_zero, leaM_zero, wMap]
 refine hK _ ?_
 clear K hK
 refine awpL_reg T_ok 1 fun K hK => ?_
 simp [hG, List.getD_cons_zero, List.getD_cons_succ, -List.getD_eq_getElem?_getD, entM_zero, leaM_zero, wMap]
 refine hK _ ?_
 clear K hK
 refine awpL_nil ?_
 refine awpS_cond rfl (fun hb18 => ?_) (fun hb18 => ?_)
 ·
  try simp [-List.getD_eq_getElem?_getD] at hb18
  refine awpS_seq ?_
  refine awpS_reg T_ok fun K hK => ?_
  simp [hG, List.getD_cons_zero, List.getD_cons_succ, -List.getD_eq_getElem?_getD, entM_zero, leaM_zero, wMap]
  refine ⟨Cond.mk (by simp [-List.getD_eq_getElem?_getD]), hK _ ?_⟩
  clear K hK
  refine awpS_ret ?_
  refine RetOK_of ?_
  simp [hG, List.getD_cons_zero, List.getD_cons_succ, -List.getD_eq_getElem?_getD, entM_zero, leaM_zero, wMap]
  have hn : ¬ gcheck g = 0 := (by simpa using hb18); unfold essG essX essN; rw [if_neg hn, if_neg hn, if_neg hn]; simp
 ·
  try simp [-List.getD_eq_getElem?_getD] at hb18
  have hv : gcheck g = 0 := (by simpa using hb18)
  have hz := (gcheck_valid hv).1
  have hed := hz.ed
  have hst := hz.st
  refine awpS_skip ?_
  refine awpS_seq ?_
  refine awpS_reg T_ok fun K hK => ?_
  simp [hG, List.getD_cons_zero, List.getD_cons_succ, -List.getD_eq_getElem?_getD, entM_zero, leaM_zero, wMap]
  refine hK _ ?_
  clear K hK
  refine awpS_seq ?_
  refine awpS_seq ?_
  refine awpS_reg T_ok fun K hK => ?_
  simp [hG, List.getD_cons_zero, List.getD_cons_succ, -List.getD_eq_getElem?_getD, entM_zero, leaM_zero, wMap]
  refine hK _ ?_
  clear K hK
  refine awpS_block ?_
  refine awpS_loop (α := Nat) (fun i => ⟨[(1, .ptr (0, 0) 0 0), (2, .ptr (1, 0) 0 0), (5, .sl (2, 0) 0 i), (21, .int .i64 g.states), (22, .int .i64 i)], [(0, .one (.arr 1 3 (fun _ => grF g))), (1, .one (.arr 1 3 (fun _ j => [.int .i64 0, .int .i64 0, .nils].getD j .any))), (2, .one (.arr i 1 (fun q _ => .int .i64 (q : Int))))], 3⟩) (fun i => i ≤ g.states.toNat) (fun i => g.states.toNat - i) (0) (Nat.zero_le _) ?_ ?_
  ·
   refine wk_of (id) (fun _ => false) (fun k => k == 2) ?_ ?_ rfl (Nat.zero_le _) (fun k hk => absurd hk (Nat.not_lt_zero _))
   · simp [hG, List.getD_cons_zero, List.getD_cons_succ, -List.getD_eq_getElem?_getD, entM_zero, leaM_zero, wMap]
   · simp [hG, List.getD_cons_zero, List.getD_cons_succ, -List.getD_eq_getElem?_getD, entM_zero, leaM_zero, wMap]
  ·
   rintro i hi
   refine awpS_seq ?_
   refine awpS_reg T_ok fun K hK => ?_
   simp [hG, List.getD_cons_zero, List.getD_cons_succ, -List.getD_eq_getElem?_getD, entM_zero, leaM_zero, wMap]
   refine hK _ ?_
   clear K hK
   refine awpS_seq ?_
   refine awpS_cond rfl (fun hb23 => ?_) (fun hb23 => ?_)
   ·
    try simp [-List.getD_eq_getElem?_getD] at hb23
    refine awpS_skip ?_
    refine awpS_seq ?_
    refine awpS_block ?_
    refine awpS_seq ?_
    refine awpS_reg T_ok fun K hK => ?_
    simp [hG, List.getD_cons_zero, List.getD_cons_succ, -List.getD_eq_getElem?_getD, entM_zero, leaM_zero, wMap]
    refine hK _ ?_
    clear K hK
    refine awpS_reg T_ok fun K hK => ?_
    simp [hG, List.getD_cons_zero, List.getD_cons_succ, -List.getD_eq_getElem?_getD, entM_zero, leaM_zero, wMap]
    refine ⟨Cond.mk (by omega), hK _ ?_⟩
    clear K hK
    refine awpS_nil ?_
    refine blockQ_norm (thenQ_norm ?_)
    refine awpS_reg T_ok fun K hK => ?_
    simp [hG, List.getD_cons_zero, List.getD_cons_succ, -List.getD_eq_getElem?_getD, entM_zero, leaM_zero, wMap]
    refine ⟨Cond.mk (by omega), hK _ ?_⟩
    clear K hK
    refine awpS_nil ?_
    refine round_end (i + 1) (by omega) (by omega) ?_
    refine wk_of (fun k => if k = 2 then 4 else k) (fun _ => false) (fun _ => false) ?_ ?_ rfl (Nat.zero_le _) (fun k hk => absurd hk (Nat.not_lt_zero _))
    · simp [hG, List.getD_cons_zero, List.getD_cons_succ, -List.getD_eq_getElem?_getD, entM_zero, leaM_zero, wMap]
    · simp [hG, List.getD_cons_zero, List.getD_cons_succ, -List.getD_eq_getElem?_getD]; exact fun q => app_fnQ (F := fun q => (q : Int)) rfl
   ·
    try simp [-List.getD_eq_getElem?_getD] at hb23
    obtain rfl : i = g.states.toNat := (by omega)
    refine awpS_exit ?_
    refine thenQ_exit (thenQ_exit ?_)
    refine blockQ_exit (thenQ_norm ?_)
    refine awpS_block ?_
    refine awpS_loop (α := Nat) (fun k => ⟨[(1, .ptr (0, 0) 0 0), (2, .ptr (1, 0) 0 0), (5, .sl (2, 0) 0 (essAt g k).length)], [(0, .one (.arr 1 3 (fun _ => grF g))), (1, .one (.arr 1 3 (fun _ j => [.int .i64 0, .int .i64 0, .nils].getD j .any))), (2, .one (.arr (essAt g k).length 1 (fun p _ => .int .i64 ((essAt g k).getD p 0))))], 3⟩) (fun k => (essAt g k).length + k ≤ g.states.toNat) (fun k => (essAt g k).length) (0) (by show (iotaL _).length + 0 ≤ _; rw [iota_len]; omega) ?_ ?_
    ·
     refine wk_of (id) (fun _ => false) (fun _ => false) ?_ ?_ rfl (Nat.zero_le _) (fun k hk => absurd hk (Nat.not_lt_zero _))
     · simp [hG, List.getD_cons_zero, List.getD_cons_succ, -List.getD_eq_getElem?_getD]; exact (iota_all (m := g.states.toNat)).1
     · simp [hG, List.getD_cons_zero, List.getD_cons_succ, -List.getD_eq_getElem?_getD]; exact ⟨(iota_all (m := g.states.toNat)).2.1, (iota_all (m := g.states.toNat)).2.2⟩
    ·
     rintro k hkn
     refine awpS_block ?_
     refine awpS_seq ?_
     refine awpS_reg T_ok fun K hK => ?_
     simp [hG, List.getD_cons_zero, List.getD_cons_succ, -List.getD_eq_getElem?_getD, entM_zero, leaM_zero, wMap]
     refine hK _ ?_
     clear K hK
     refine awpS_seq ?_
     refine awpS_seq ?_
     refine awpS_reg T_ok fun K hK => ?_
     simp [hG, List.getD_cons_zero, List.getD_cons_succ, -List.getD_eq_getElem?_getD, entM_zero, leaM_zero, wMap]
     refine hK _ ?_
     clear K hK
     refine awpS_block ?_
     refine awpS_loop (α := Nat) (fun i => ⟨[(1, .ptr (0, 0) 0 0), (2, .ptr (1, 0) 0 0), (5, .sl (2, 0) 0 (essAt g k).length), (7, .ptr (5, 0) 0 0), (8, .ptr (6, 0) 0 0), (33, edgesC g.edges), (34, .int .i64 g.edges.length), (35, .int .i64 i)], [(0, .one (.arr 1 3 (fun _ => grF g))), (1, .one (.arr 1 3 (fun _ j => [.int .i64 0, .int .i64 0, .nils].getD j .any))), (2, .one (.arr (essAt g k).length 1 (fun p _ => .int .i64 ((essAt g k).getD p 0)))), (3, .one (.mp (mpE intK boolV (entM g (essAt g k) i)))), (4, .one (.mp (mpE intK boolV (leaM g (essAt g k) i)))), (5, .one (.arr 1 1 (fun _ _ => .map (3, 0)))), (6, .one (.arr 1 1 (fun _ _ => .map (4, 0))))], 7⟩) (fun i => i ≤ g.edges.length) (fun i => g.edges.length - i) (0) (Nat.zero_le _) ?_ ?_
     ·
      refine wk_of (id) (fun _ => false) (fun _ => false) ?_ ?_ rfl (Nat.zero_le _) (fun k hk => absurd hk (Nat.not_lt_zero _))
      · simp [hG, List.getD_cons_zero, List.getD_cons_succ, -List.getD_eq_getElem?_getD, entM_zero, leaM_zero, wMap]
      · simp [hG, List.getD_cons_zero, List.getD_cons_succ, -List.getD_eq_getElem?_getD, entM_zero, leaM_zero, wMap]
     ·
      rintro i hi
      refine awpS_seq ?_
      refine awpS_reg T_ok fun K hK => ?_
      simp [hG, List.getD_cons_zero, List.getD_cons_succ, -List.getD_eq_getElem?_getD, entM_zero, leaM_zero, wMap]
      refine hK _ ?_
      clear K hK
      refine awpS_seq ?_
      refine awpS_cond rfl (fun hb36 => ?_) (fun hb36 => ?_)
      ·
       try simp [-List.getD_eq_getElem?_getD] at hb36
       refine awpS_skip ?_
       refine awpS_seq ?_
       refine awpS_block ?_
       refine awpS_seq ?_
       refine awpS_reg T_ok fun K hK => ?_
       simp [hG, List.getD_cons_zero, List.getD_cons_succ, -List.getD_eq_getElem?_getD, entM_zero, leaM_zero, wMap]
       refine ⟨Cond.mk (by simp [-List.getD_eq_getElem?_getD]; omega), hK _ ?_⟩
       clear K hK
       refine awpS_seq ?_
       refine awpS_regL ?_
       refine awpL_reg T_ok 3 fun K hK => ?_
       simp [hG, List.getD_cons_zero, List.getD_cons_succ, -List.getD_eq_getElem?_getD, entM_zero, leaM_zero, wMap]
       refine hK _ ?_
       clear K hK
       refine awpL_callB (mem [2]) cal74 (by simp [flat]) rfl rfl (fun _ => rfl) (fun hg => bsearch_c (essAt g k) (g.edges.getD i de).frm (by omega) ess_asc) (fun hg => ?_) (fun hg => ?_) fun K hK => ?_
       · simp [hG, List.getD_cons_zero, List.getD_cons_succ, -List.getD_eq_getElem?_getD, entM_zero, leaM_zero, wMap]
       · simp [hG, List.getD_cons_zero, List.getD_cons_succ, -List.getD_eq_getElem?_getD, entM_zero, leaM_zero, wMap]
       simp [hG, List.getD_cons_zero, List.getD_cons_succ, -List.getD_eq_getElem?_getD, entM_zero, leaM_zero, wMap]
       refine hK _ ?_
       clear K hK
       refine awpL_reg T_ok 5 fun K hK => ?_
       simp [hG, List.getD_cons_zero, List.getD_cons_succ, -List.getD_eq_getElem?_getD, entM_zero, leaM_zero, wMap]
       refine hK _ ?_
       clear K hK
       refine awpL_nil ?_
       refine awpS_seq ?_
       refine awpS_regL ?_
       refine awpL_reg T_ok 3 fun K hK => ?_
       simp [hG, List.getD_cons_zero, List.getD_cons_succ, -List.getD_eq_getElem?_getD, entM_zero, leaM_zero, wMap]
       refine hK _ ?_
       clear K hK
       refine awpL_callB (mem [2]) cal74 (by simp [flat]) rfl rfl (fun _ => rfl) (fun hg => bsearch_c (essAt g k) (g.edges.getD i de).to (by omega) ess_asc) (fun hg => ?_) (fun hg => ?_) fun K hK => ?_
       · simp [hG, List.getD_cons_zero, List.getD_cons_succ, -List.getD_eq_getElem?_getD, entM_zero, leaM_zero, wMap]
       · simp [hG, List.getD_cons_zero, List.getD_cons_succ, -List.getD_eq_getElem?_getD, entM_zero, leaM_zero, wMap]
       simp [hG, List.getD_cons_zero, List.getD_cons_succ, -List.getD_eq_getElem?_getD, entM_zero, leaM_zero, wMap]
       refine hK _ ?_
       clear K hK
       refine awpL_reg T_ok 5 fun K hK => ?_
       simp [hG, List.getD_cons_zero, List.getD_cons_succ, -List.getD_eq_getElem?_getD, entM_zero, leaM_zero, wMap]
       refine hK _ ?_
       clear K hK
       refine awpL_nil ?_
       refine awpS_seq ?_
       refine awpS_reg T_ok fun K hK => ?_
       simp [hG, List.getD_cons_zero, List.getD_cons_succ, -List.getD_eq_getElem?_getD, entM_zero, leaM_zero, wMap]
       refine ⟨Cond.mk (by simp [-List.getD_eq_getElem?_getD]), hK _ ?_⟩
       clear K hK
       refine awpS_cond rfl (fun hb56 => ?_) (fun hb56 => ?_)
       ·
        try simp [-List.getD_eq_getElem?_getD] at hb56
        have hib : inBoth (essAt g k) (g.edges.getD i de) = true := (by unfold inBoth; rw [hb56.1, hb56.2]; rfl)
        have hen : entM g (essAt g k) (i + 1) = alPut (entM g (essAt g k) i) (g.edges.getD i de).to true := if_pos hib
        have hle : leaM g (essAt g k) (i + 1) = alPut (leaM g (essAt g k) i) (g.edges.getD i de).frm true := if_pos hib
        refine awpS_draw hR mixed [(6, (3, 0)), (7, (4, 0))] ⟨[], [], []⟩ fun mu0 => ?_
        refine awpA_tk T_ok [0, 1, 2] [] (fuel := 5) [2, 1, 0] (by decide +kernel) (by decide +kernel) rfl rfl fun K hK => ?_
        simp [hG, List.getD_cons_zero, List.getD_cons_succ, -List.getD_eq_getElem?_getD, entM_zero, leaM_zero, wMap]
        refine hK _ ?_
        clear K hK
        refine awpA_tk T_ok [3, 4, 5] [(3, 0)] (fuel := 2) [5, 4, 3, 2, 1, 0] (by decide +kernel) (by decide +kernel) rfl rfl fun K hK => ?_
        simp [hG, List.getD_cons_zero, List.getD_cons_succ, -List.getD_eq_getElem?_getD, entM_zero, leaM_zero, wMap]
        refine hK _ ?_
        clear K hK
        refine awpA_only (fuel := 1) (i := 6) (by decide +kernel) ?_
        refine awpO_reg T_ok rfl ?_ fun K hK => ?_
        · simp [hG, List.getD_cons_zero, List.getD_cons_succ, -List.getD_eq_getElem?_getD, entM_zero, leaM_zero, wMap]
        simp [hG, List.getD_cons_zero, List.getD_cons_succ, -List.getD_eq_getElem?_getD, entM_zero, leaM_zero, wMap]
        refine hK _ ?_
        clear K hK
        refine awpA_only (fuel := 0) (i := 7) (by decide +kernel) ?_
        refine awpO_reg T_ok rfl ?_ fun K hK => ?_
        · simp [hG, List.getD_cons_zero, List.getD_cons_succ, -List.getD_eq_getElem?_getD, entM_zero, leaM_zero, wMap]
        simp [hG, List.getD_cons_zero, List.getD_cons_succ, -List.getD_eq_getElem?_getD, entM_zero, leaM_zero, wMap]
        refine hK _ ?_
        clear K hK
        refine awpA_done (by decide +kernel) ?_
        refine awpS_nil ?_
        refine blockQ_norm (thenQ_norm ?_)
        refine awpS_reg T_ok fun K hK => ?_
        simp [hG, List.getD_cons_zero, List.getD_cons_succ, -List.getD_eq_getElem?_getD, entM_zero, leaM_zero, wMap]
        refine ⟨Cond.mk (by omega), hK _ ?_⟩
        clear K hK
        refine awpS_nil ?_
        refine round_end (i + 1) (by omega) (by omega) ?_
        refine wk_of (id) (fun _ => false) (fun _ => false) ?_ ?_ rfl (Nat.zero_le _) (fun k hk => absurd hk (Nat.not_lt_zero _))
        · simp [hG, List.getD_cons_zero, List.getD_cons_succ, -List.getD_eq_getElem?_getD, entM_zero, leaM_zero, wMap]
        · rw [hen, hle]; simp [hG, List.getD_cons_zero, List.getD_cons_succ, -List.getD_eq_getElem?_getD]
       ·
        try simp [-List.getD_eq_getElem?_getD] at hb56
        have hib : ¬ inBoth (essAt g k) (g.edges.getD i de) = true := (fun h => by unfold inBoth at h; rw [Bool.and_eq_true] at h; have := hb56 h.1; rw [h.2] at this; cases this)
        have hen : entM g (essAt g k) (i + 1) = (entM g (essAt g k) i) := if_neg hib
        have hle : leaM g (essAt g k) (i + 1) = (leaM g (essAt g k) i) := if_neg hib
        refine awpS_skip ?_
        refine awpS_nil ?_
        refine blockQ_norm (thenQ_norm ?_)
        refine awpS_reg T_ok fun K hK => ?_
        simp [hG, List.getD_cons_zero, List.getD_cons_succ, -List.getD_eq_getElem?_getD, entM_zero, leaM_zero, wMap]
        refine ⟨Cond.mk (by omega), hK _ ?_⟩
        clear K hK
        refine awpS_nil ?_
        refine round_end (i + 1) (by omega) (by omega) ?_
        refine wk_of (id) (fun _ => false) (fun _ => false) ?_ ?_ rfl (Nat.zero_le _) (fun k hk => absurd hk (Nat.not_lt_zero _))
        · simp [hG, List.getD_cons_zero, List.getD_cons_succ, -List.getD_eq_getElem?_getD, entM_zero, leaM_zero, wMap]
        · rw [hen, hle]; simp [hG, List.getD_cons_zero, List.getD_cons_succ, -List.getD_eq_getElem?_getD]
      ·
       try simp [-List.getD_eq_getElem?_getD] at hb36
       obtain rfl : i = g.edges.length := (by omega)
       have hkp : kpt (outM (entM g (essAt g k) g.edges.length) (leaM g (essAt g k) g.edges.length)) (essAt g k) (essAt g k).length = essAt g (k + 1) := (by rw [kpt_all, out_filter])
       have hdn := ess_down (g := g) (k := k)
       refine awpS_exit ?_
       refine thenQ_exit (thenQ_exit ?_)
       refine blockQ_exit (thenQ_norm ?_)
       refine awpS_seq ?_
       refine awpS_reg T_ok fun K hK => ?_
       simp [hG, List.getD_cons_zero, List.getD_cons_succ, -List.getD_eq_getElem?_getD, entM_zero, leaM_zero, wMap]
       refine hK _ ?_
       clear K hK
       refine awpS_seq ?_
       refine awpS_regL ?_
       refine awpL_reg T_ok 2 fun K hK => ?_
       simp [hG, List.getD_cons_zero, List.getD_cons_succ, -List.getD_eq_getElem?_getD, entM_zero, leaM_zero, wMap]
       refine hK _ ?_
       clear K hK
       refine awpL_fc cal75 [2, 5, 6, 3, 4] (fun _ => false) (delE_c (essAt g k) (entM g (essAt g k) g.edges.length) (leaM g (essAt g k) g.edges.length) (by omega)) rfl rfl rfl (by simp) (.inl fun _ => rfl) ?_ ?_ ?_ fun K hK x hI hno => ?_
       · simp [hG, List.getD_cons_zero, List.getD_cons_succ, -List.getD_eq_getElem?_getD, entM_zero, leaM_zero, wMap]
       · simp [hG, List.getD_cons_zero, List.getD_cons_succ, -List.getD_eq_getElem?_getD, entM_zero, leaM_zero, wMap]
       · simp [hG, List.getD_cons_zero, List.getD_cons_succ, -List.getD_eq_getElem?_getD, entM_zero, leaM_zero, wMap]
       simp only [hkp]
       simp [hG, List.getD_cons_zero, List.getD_cons_succ, -List.getD_eq_getElem?_getD, entM_zero, leaM_zero, wMap]
       refine hK _ ?_
       clear K hK
       refine awpL_reg T_ok 1 fun K hK => ?_
       simp [hG, List.getD_cons_zero, List.getD_cons_succ, -List.getD_eq_getElem?_getD, entM_zero, leaM_zero, wMap]
       refine hK _ ?_
       clear K hK
       refine awpL_nil ?_
       refine awpS_seq ?_
       refine awpS_reg T_ok fun K hK => ?_
       simp [hG, List.getD_cons_zero, List.getD_cons_succ, -List.getD_eq_getElem?_getD, entM_zero, leaM_zero, wMap]
       refine hK _ ?_
       clear K hK
       refine awpS_cond rfl (fun hb72 => ?_) (fun hb72 => ?_)
       ·
        try simp [-List.getD_eq_getElem?_getD] at hb72
        have hdo := ess_done hkn (by omega)
        have hst2 := ess_stop (g := g) (k := k) (by omega)
        refine awpS_seq ?_
        refine awpS_wk (st2 := ⟨[(1, .ptr (0, 0) 0 0), (2, .ptr (1, 0) 0 0), (5, ints (essAt g (k + 1)))], [(0, .one (.arr 1 3 (fun _ => grF g))), (1, .one (.arr 1 3 (fun _ j => [.int .i64 0, .int .i64 0, .nils].getD j .any)))], 2⟩) ?_ ?_
        ·
         refine wk_of (id) (fun k => k == 2) (fun _ => false) ?_ ?_ rfl (Nat.zero_le _) (fun k hk => absurd hk (Nat.not_lt_zero _))
         · simp [hG, List.getD_cons_zero, List.getD_cons_succ, -List.getD_eq_getElem?_getD]; omega
         · simp [hG, List.getD_cons_zero, List.getD_cons_succ, -List.getD_eq_getElem?_getD, entM_zero, leaM_zero, wMap]
        refine awpS_regL ?_
        refine awpL_reg T_ok 2 fun K hK => ?_
        simp [hG, List.getD_cons_zero, List.getD_cons_succ, -List.getD_eq_getElem?_getD, entM_zero, leaM_zero, wMap]
        refine hK _ ?_
        clear K hK
        refine awpL_call cal77 rfl rfl (fun _ => rfl) (fun hg => keep_c g (essAt g (k + 1)) ess_asc (by omega) hed) (fun hg => ?_) (fun hg => ?_) fun K hK => ?_
        · simp [hG, List.getD_cons_zero, List.getD_cons_succ, -List.getD_eq_getElem?_getD, entM_zero, leaM_zero, wMap]
        · simp [hG, List.getD_cons_zero, List.getD_cons_succ, -List.getD_eq_getElem?_getD, entM_zero, leaM_zero, wMap]
        simp [hG, List.getD_cons_zero, List.getD_cons_succ, -List.getD_eq_getElem?_getD, entM_zero, leaM_zero, wMap]
        refine hK _ ?_
        clear K hK
        refine awpL_reg T_ok 4 fun K hK => ?_
        simp [hG, List.getD_cons_zero, List.getD_cons_succ, -List.getD_eq_getElem?_getD, entM_zero, leaM_zero, wMap]
        refine ⟨Cond.mk (by omega), hK _ ?_⟩
        clear K hK
        refine awpL_nil ?_
        refine awpS_ret ?_
        refine blockQ_ret (thenQ_ret ?_)
        refine thenQ_ret (thenQ_ret ?_)
        refine blockQ_ret (thenQ_ret ?_)
        refine RetOK_of ?_
        simp [hG, List.getD_cons_zero, List.getD_cons_succ, -List.getD_eq_getElem?_getD, entM_zero, leaM_zero, wMap]
        unfold essG essX essN; rw [if_pos hv, if_pos hv, if_pos hv, ← hdo, hst2]; simp
       ·
        try simp [-List.getD_eq_getElem?_getD] at hb72
        refine awpS_skip ?_
        refine awpS_nil ?_
        refine blockQ_norm (thenQ_norm ?_)
        refine awpS_nil ?_
        refine round_end (k + 1) (by omega) (by omega) ?_
        refine wk_of (id) (fun _ => false) (fun _ => false) ?_ ?_ rfl (Nat.zero_le _) (fun k hk => absurd hk (Nat.not_lt_zero _))
        · simp [hG, List.getD_cons_zero, List.getD_cons_succ, -List.getD_eq_getElem?_getD, entM_zero, leaM_zero, wMap]
        · simp [hG, List.getD_cons_zero, List.getD_cons_succ, -List.getD_eq_getElem?_getD]; omega

set_option maxRecDepth 100000 in
theorem essentialR_c (g : Gr) : PC Try.prog 59 [.agg 3 (grF g)] (.tup 3 (fun j => [.agg 3 (grF (essG g)), ints (essX g), .int .i64 (essN g)].getD j .any)) := by
 refine PC_introS T_ok Try.func59 rfl (by simp [Try.ntmps59]) fun G hG hR => ?_
 simp only [Try.ntmps59, Try.results59] at hG ⊢
 simp only [argEnv, Nat.zero_add, Nat.reduceAdd]
 refine awpS_seq ?_
 refine awpS_reg T_ok fun K hK => ?_
 simp [hG, List.getD_cons_zero, List.getD_cons_succ, -List.getD_eq_getElem?_getD, kR_zero, inA_zero, outA_zero]
 refine ⟨Cond.mk (by simp [-List.getD_eq_getElem?_getD]), hK _ ?_⟩
 clear K hK
 refine awpS_seq ?_
 refine awpS_seq ?_
 refine awpS_regL ?_
 refine awpL_reg T_ok 1 fun K hK => ?_
 simp [hG, List.getD_cons_zero, List.getD_cons_succ, -List.getD_eq_getElem?_getD, kR_zero, inA_zero, outA_zero]
 refine hK _ ?_
 clear K hK
 refine awpL_call cal17 rfl rfl (fun _ => rfl) (fun hg => check_c g) (fun hg => ?_) (fun hg => ?_) fun K hK => ?_
 · simp [hG, List.getD_cons_zero, List.getD_cons_succ, -List.getD_eq_getElem?_getD, kR_zero, inA_zero, outA_zero]
 · simp [hG, List.getD_cons_zero, List.getD_cons_succ, -List.getD_eq_getElem?_getD, kR_zero, inA_zero, outA_zero]
 simp [hG, List.getD_cons_zero, List.getD_cons_succ, -List.getD_eq_getElem?_getD, kR_zero, inA_zero, outA_zero]
 refine hK _ ?_
 clear K hK
 refine awpL_reg T_ok 1 fun K hK => ?_
 simp [hG, List.getD_cons_zero, List.getD_cons_succ, -List.getD_eq_getElem?_getD, kR_zero, inA_zero, outA_zero]
 refine hK _ ?_
 clear K hK
 refine awpL_nil ?_
 refine awpS_cond rfl (fun hb16 => ?_) (fun hb16 => ?_)
 ·
  try simp [-List.getD_eq_getElem?_getD] at hb16
  refine awpS_seq ?_
  refine awpS_reg T_ok fun K hK => ?_
  simp [hG, List.getD_cons_zero, List.getD_cons_succ, -List.getD_eq_getElem?_getD, kR_zero, inA_zero, outA_zero]
  refine ⟨Cond.mk (by simp [-List.getD_eq_getElem?_getD]), hK _ ?_⟩
  clear K hK
  refine awpS_ret ?_
  refine RetOK_of ?_
  simp [hG, List.getD_cons_zero, List.getD_cons_succ, -List.getD_eq_getElem?_getD, kR_zero, inA_zero, outA_zero]
  have hn : ¬ gcheck g = 0 := (by simpa using hb16); unfold essG essX essN; rw [if_neg hn, if_neg hn, if_neg hn]; simp
 ·
  try simp [-List.getD_eq_getElem?_getD] at hb16
  have hv : gcheck g = 0 := (by simpa using hb16)
  have hz := (gcheck_valid hv).1
  have hed := hz.ed
  have hst := hz.st
  refine awpS_skip ?_
  refine awpS_seq ?_
  refine awpS_reg T_ok fun K hK => ?_
  simp [hG, List.getD_cons_zero, List.getD_cons_succ, -List.getD_eq_getElem?_getD, kR_zero, inA_zero, outA_zero]
  refine hK _ ?_
  clear K hK
  refine awpS_seq ?_
  refine awpS_seq ?_
  refine awpS_reg T_ok fun K hK => ?_
  simp [hG, List.getD_cons_zero, List.getD_cons_succ, -List.getD_eq_getElem?_getD, kR_zero, inA_zero, outA_zero]
  refine hK _ ?_
  clear K hK
  refine awpS_block ?_
  refine awpS_loop (α := Nat) (fun i => ⟨[(1, .ptr (0, 0) 0 0), (2, .ptr (1, 0) 0 0), (5, .sl (2, 0) 0 i), (6, .int .i64 i)], [(0, .one (.arr 1 3 (fun _ => grF g))), (1, .one (.arr 1 3 (fun _ j => [.int .i64 0, .int .i64 0, .nils].getD j .any))), (2, .one (.arr i 1 (fun q _ => .int .i64 (q : Int))))], 3⟩) (fun i => i ≤ g.states.toNat) (fun i => g.states.toNat - i) (0) (Nat.zero_le _) ?_ ?_
  ·
   refine wk_of (id) (fun _ => false) (fun k => k == 2) ?_ ?_ rfl (Nat.zero_le _) (fun k hk => absurd hk (Nat.not_lt_zero _))
   · simp [hG, List.getD_cons_zero, List.getD_cons_succ, -List.getD_eq_getElem?_getD, kR_zero, inA_zero, outA_zero]
   · simp [hG, List.getD_cons_zero, List.getD_cons_succ, -List.getD_eq_getElem?_getD, kR_zero, inA_zero, outA_zero]
  ·
   rintro i hi
   refine awpS_seq ?_
   refine awpS_seq ?_
   refine awpS_reg T_ok fun K hK => ?_
   simp [hG, List.getD_cons_zero, List.getD_cons_succ, -List.getD_eq_getElem?_getD, kR_zero, inA_zero, outA_zero]
   refine hK _ ?_
   clear K hK
   refine awpS_cond rfl (fun hb21 => ?_) (fun hb21 => ?_)
   ·
    try simp [-List.getD_eq_getElem?_getD] at hb21
    refine awpS_skip ?_
    refine awpS_seq ?_
    refine awpS_block ?_
    refine awpS_reg T_ok fun K hK => ?_
    simp [hG, List.getD_cons_zero, List.getD_cons_succ, -List.getD_eq_getElem?_getD, kR_zero, inA_zero, outA_zero]
    refine ⟨Cond.mk (by omega), hK _ ?_⟩
    clear K hK
    refine awpS_nil ?_
    refine blockQ_norm (thenQ_norm ?_)
    refine awpS_reg T_ok fun K hK => ?_
    simp [hG, List.getD_cons_zero, List.getD_cons_succ, -List.getD_eq_getElem?_getD, kR_zero, inA_zero, outA_zero]
    refine ⟨Cond.mk (by omega), hK _ ?_⟩
    clear K hK
    refine awpS_nil ?_
    refine round_end (i + 1) (by omega) (by omega) ?_
    refine wk_of (fun k => if k = 2 then 4 else k) (fun _ => false) (fun _ => false) ?_ ?_ rfl (Nat.zero_le _) (fun k hk => absurd hk (Nat.not_lt_zero _))
    · simp [hG, List.getD_cons_zero, List.getD_cons_succ, -List.getD_eq_getElem?_getD, kR_zero, inA_zero, outA_zero]
    · simp [hG, List.getD_cons_zero, List.getD_cons_succ, -List.getD_eq_getElem?_getD]; exact fun q => app_fnQ (F := fun q => (q : Int)) rfl
   ·
    try simp [-List.getD_eq_getElem?_getD] at hb21
    obtain rfl : i = g.states.toNat := (by omega)
    refine awpS_exit ?_
    refine thenQ_exit (thenQ_exit ?_)
    refine blockQ_exit (thenQ_norm ?_)
    refine awpS_seq ?_
    refine awpS_seq ?_
    refine awpS_reg T_ok fun K hK => ?_
    simp [hG, List.getD_cons_zero, List.getD_cons_succ, -List.getD_eq_getElem?_getD, kR_zero, inA_zero, outA_zero]
    refine hK _ ?_
    clear K hK
    refine awpS_block ?_
    refine awpS_loop (α := Nat × Bool) (fun p => ⟨[(1, .ptr (0, 0) 0 0), (2, .ptr (1, 0) 0 0), (5, ints (essAt g p.1)), (7, .bool p.2)], [(0, .one (.arr 1 3 (fun _ => grF g))), (1, .one (.arr 1 3 (fun _ j => [.int .i64 0, .int .i64 0, .nils].getD j .any)))], 2⟩) (fun p => (p.2 = true → (essAt g p.1).length + p.1 ≤ g.states.toNat) ∧ (p.2 = false → essAt g p.1 = essL g)) (fun p => (essAt g p.1).length + (if p.2 then 1 else 0)) ((0, true)) (⟨fun _ => by show (iotaL _).length + 0 ≤ _; rw [iota_len]; omega, fun h => by cases h⟩) ?_ ?_
    ·
     refine wk_of (id) (fun k => k == 2) (fun _ => false) ?_ ?_ rfl (Nat.zero_le _) (fun k hk => absurd hk (Nat.not_lt_zero _))
     · simp [hG, List.getD_cons_zero, List.getD_cons_succ, -List.getD_eq_getElem?_getD]; exact iota_all
     · simp [hG, List.getD_cons_zero, List.getD_cons_succ, -List.getD_eq_getElem?_getD, kR_zero, inA_zero, outA_zero]
    ·
     rintro ⟨k, b⟩ ⟨hp1, hp2⟩
     simp only at hp1 hp2
     refine awpS_seq ?_
     refine awpS_seq ?_
     refine awpS_reg T_ok fun K hK => ?_
     simp [hG, List.getD_cons_zero, List.getD_cons_succ, -List.getD_eq_getElem?_getD, kR_zero, inA_zero, outA_zero]
     refine hK _ ?_
     clear K hK
     refine awpS_cond rfl (fun hb28 => ?_) (fun hb28 => ?_)
     ·
      try simp [-List.getD_eq_getElem?_getD] at hb28
      subst hb28
      have hkn := hp1 rfl
      have hdn := ess_down (g := g) (k := k)
      refine awpS_skip ?_
      refine awpS_block ?_
      refine awpS_seq ?_
      refine awpS_reg T_ok fun K hK => ?_
      simp [hG, List.getD_cons_zero, List.getD_cons_succ, -List.getD_eq_getElem?_getD, kR_zero, inA_zero, outA_zero]
      refine hK _ ?_
      clear K hK
      refine awpS_seq ?_
      refine awpS_reg T_ok fun K hK => ?_
      simp [hG, List.getD_cons_zero, List.getD_cons_succ, -List.getD_eq_getElem?_getD, kR_zero, inA_zero, outA_zero]
      refine hK _ ?_
      clear K hK
      refine awpS_seq ?_
      refine awpS_seq ?_
      refine awpS_reg T_ok fun K hK => ?_
      simp [hG, List.getD_cons_zero, List.getD_cons_succ, -List.getD_eq_getElem?_getD, kR_zero, inA_zero, outA_zero]
      refine hK _ ?_
      clear K hK
      refine awpS_block ?_
      refine awpS_loop (α := Nat) (fun i => ⟨[(1, .ptr (0, 0) 0 0), (2, .ptr (1, 0) 0 0), (5, ints (essAt g k)), (7, .bool (decide ((kR g k i).length ≠ i))), (8, .sl (2, 0) 0 (kR g k i).length), (9, .int .i64 i)], [(0, .one (.arr 1 3 (fun _ => grF g))), (1, .one (.arr 1 3 (fun _ j => [.int .i64 0, .int .i64 0, .nils].getD j .any))), (2, .one (.arr (kR g k i).length 1 (fun p _ => .int .i64 ((kR g k i).getD p 0))))], 3⟩) (fun i => i ≤ (essAt g k).length) (fun i => (essAt g k).length - i) (0) (Nat.zero_le _) ?_ ?_
      ·
       refine wk_of (id) (fun _ => false) (fun k => k == 2) ?_ ?_ rfl (Nat.zero_le _) (fun k hk => absurd hk (Nat.not_lt_zero _))
       · simp [hG, List.getD_cons_zero, List.getD_cons_succ, -List.getD_eq_getElem?_getD, kR_zero, inA_zero, outA_zero]
       · simp [hG, List.getD_cons_zero, List.getD_cons_succ, -List.getD_eq_getElem?_getD, kR_zero, inA_zero, outA_zero]
      ·
       rintro i hi
       refine awpS_seq ?_
       refine awpS_seq ?_
       refine awpS_reg T_ok fun K hK => ?_
       simp [hG, List.getD_cons_zero, List.getD_cons_succ, -List.getD_eq_getElem?_getD, kR_zero, inA_zero, outA_zero]
       refine hK _ ?_
       clear K hK
       refine awpS_cond rfl (fun hb32 => ?_) (fun hb32 => ?_)
       ·
        try simp [-List.getD_eq_getElem?_getD] at hb32
        have hil : i < (essAt g k).length := (by omega)
        have hkl := kR_len (g := g) (k := k) (i := i)
        refine awpS_skip ?_
        refine awpS_seq ?_
        refine awpS_block ?_
        refine awpS_seq ?_
        refine awpS_reg T_ok fun K hK => ?_
        simp [hG, List.getD_cons_zero, List.getD_cons_succ, -List.getD_eq_getElem?_getD, kR_zero, inA_zero, outA_zero]
        refine hK _ ?_
        clear K hK
        refine awpS_seq ?_
        refine awpS_seq ?_
        refine awpS_reg T_ok fun K hK => ?_
        simp [hG, List.getD_cons_zero, List.getD_cons_succ, -List.getD_eq_getElem?_getD, kR_zero, inA_zero, outA_zero]
        refine hK _ ?_
        clear K hK
        refine awpS_block ?_
        refine awpS_loop (α := Nat) (fun m => ⟨[(1, .ptr (0, 0) 0 0), (2, .ptr (1, 0) 0 0), (5, ints (essAt g k)), (7, .bool (decide ((kR g k i).length ≠ i))), (8, .sl (2, 0) 0 (kR g k i).length), (9, .int .i64 i), (10, .bool (inA g (essAt g k) ((essAt g k).getD i 0) m)), (11, .bool (outA g (essAt g k) ((essAt g k).getD i 0) m)), (12, .int .i64 m)], [(0, .one (.arr 1 3 (fun _ => grF g))), (1, .one (.arr 1 3 (fun _ j => [.int .i64 0, .int .i64 0, .nils].getD j .any))), (2, .one (.arr (kR g k i).length 1 (fun p _ => .int .i64 ((kR g k i).getD p 0))))], 3⟩) (fun m => m ≤ g.edges.length) (fun m => g.edges.length - m) (0) (Nat.zero_le _) ?_ ?_
        ·
         refine wk_of (id) (fun _ => false) (fun _ => false) ?_ ?_ rfl (Nat.zero_le _) (fun k hk => absurd hk (Nat.not_lt_zero _))
         · simp [hG, List.getD_cons_zero, List.getD_cons_succ, -List.getD_eq_getElem?_getD, kR_zero, inA_zero, outA_zero]
         · simp [hG, List.getD_cons_zero, List.getD_cons_succ, -List.getD_eq_getElem?_getD, kR_zero, inA_zero, outA_zero]
        ·
         rintro m hm
         refine awpS_seq ?_
         refine awpS_seq ?_
         refine awpS_reg T_ok fun K hK => ?_
         simp [hG, List.getD_cons_zero, List.getD_cons_succ, -List.getD_eq_getElem?_getD, kR_zero, inA_zero, outA_zero]
         refine hK _ ?_
         clear K hK
         refine awpS_cond rfl (fun hb39 => ?_) (fun hb39 => ?_)
         ·
          try simp [-List.getD_eq_getElem?_getD] at hb39
          have hia := inA_succ (g := g) (L := (essAt g k)) (s := ((essAt g k).getD i 0)) (i := m) (by omega)
          have hoa := outA_succ (g := g) (L := (essAt g k)) (s := ((essAt g k).getD i 0)) (i := m) (by omega)
          refine awpS_skip ?_
          refine awpS_seq ?_
          refine awpS_block ?_
          refine awpS_seq ?_
          refine awpS_reg T_ok fun K hK => ?_
          simp [hG, List.getD_cons_zero, List.getD_cons_succ, -List.getD_eq_getElem?_getD, kR_zero, inA_zero, outA_zero]
          refine ⟨Cond.mk (by simp [-List.getD_eq_getElem?_getD]; omega), hK _ ?_⟩
          clear K hK
          refine awpS_seq ?_
          refine awpS_draw hR mixed [] ⟨[], [], []⟩ fun mu0 => ?_
          refine awpA_tk T_ok [0, 1, 2, 3, 4, 5, 6, 7, 8, 9, 10, 11, 12] [] (fuel := 4) [12, 11, 10, 9, 8, 7, 6, 5, 4, 3, 2, 1, 0] (by decide +kernel) (by decide +kernel) rfl rfl fun K hK => ?_
          simp [hG, List.getD_cons_zero, List.getD_cons_succ, -List.getD_eq_getElem?_getD, kR_zero, inA_zero, outA_zero]
          refine ⟨Cond.mk (by simp [-List.getD_eq_getElem?_getD]; repeat (first | intro _ | exact And.intro ‹_› ‹_› | apply And.intro | assumption | omega | exact decide_eq_true (by assumption))), hK _ ?_⟩
          clear K hK
          refine awpA_only (fuel := 3) (i := 13) (by decide +kernel) ?_
          refine awpO_call cal78 rfl rfl rfl (fun _ => rfl) (fun hg => has_c (essAt g k) (g.edges.getD m de).frm (by omega)) (fun hg => ?_) (fun hg => ?_) fun K hK => ?_
          · first | (simp [hG, List.getD_cons_zero, List.getD_cons_succ, -List.getD_eq_getElem?_getD, kR_zero, inA_zero, outA_zero]; done) | (simp [-List.getD_eq_getElem?_getD] at hg; done) | (simp [-List.getD_eq_getElem?_getD] at hg; simp [hG, List.getD_cons_zero, List.getD_cons_succ, -List.getD_eq_getElem?_getD, kR_zero, inA_zero, outA_zero]; first | omega | exact hg | (simp_all [-List.getD_eq_getElem?_getD]; done) | (simp_all [-List.getD_eq_getElem?_getD]; first | exact ⟨rfl, rfl⟩ | exact rfl))
          · first | (simp [hG, List.getD_cons_zero, List.getD_cons_succ, -List.getD_eq_getElem?_getD, kR_zero, inA_zero, outA_zero]; done) | (simp [-List.getD_eq_getElem?_getD] at hg; done) | (simp [-List.getD_eq_getElem?_getD] at hg; simp [hG, List.getD_cons_zero, List.getD_cons_succ, -List.getD_eq_getElem?_getD, kR_zero, inA_zero, outA_zero]; first | omega | exact hg | (simp_all [-List.getD_eq_getElem?_getD]; done) | (simp_all [-List.getD_eq_getElem?_getD]; first | exact ⟨rfl, rfl⟩ | exact rfl))
          simp [hG, List.getD_cons_zero, List.getD_cons_succ, -List.getD_eq_getElem?_getD, kR_zero, inA_zero, outA_zero]
          refine hK _ ?_
          clear K hK
          refine awpA_tk T_ok [14, 15, 16] [] (fuel := 0) [16, 15, 14, 13, 12, 11, 10, 9, 8, 7, 6, 5, 4, 3, 2, 1, 0] (by decide +kernel) (by decide +kernel) rfl rfl fun K hK => ?_
          simp [hG, List.getD_cons_zero, List.getD_cons_succ, -List.getD_eq_getElem?_getD, kR_zero, inA_zero, outA_zero]
          refine ⟨Cond.mk (by simp [-List.getD_eq_getElem?_getD]; repeat (first | intro _ | exact And.intro ‹_› ‹_› | apply And.intro | assumption | omega | exact decide_eq_true (by assumption))), hK _ ?_⟩
          clear K hK
          refine awpA_done (by decide +kernel) ?_
          refine awpS_draw hR mixed [] ⟨[], [], []⟩ fun mu0 => ?_
          refine awpA_tk T_ok [0, 1, 2, 3, 4, 5, 6, 7, 8, 9, 10, 11, 12] [] (fuel := 4) [12, 11, 10, 9, 8, 7, 6, 5, 4, 3, 2, 1, 0] (by decide +kernel) (by decide +kernel) rfl rfl fun K hK => ?_
          simp [hG, List.getD_cons_zero, List.getD_cons_succ, -List.getD_eq_getElem?_getD, kR_zero, inA_zero, outA_zero]
          refine ⟨Cond.mk (by simp [-List.getD_eq_getElem?_getD]; repeat (first | intro _ | exact And.intro ‹_› ‹_› | apply And.intro | assumption | omega | exact decide_eq_true (by assumption))), hK _ ?_⟩
          clear K hK
          refine awpA_only (fuel := 3) (i := 13) (by decide +kernel) ?_
          refine awpO_call cal78 rfl rfl rfl (fun _ => rfl) (fun hg => has_c (essAt g k) (g.edges.getD m de).to (by omega)) (fun hg => ?_) (fun hg => ?_) fun K hK => ?_
          · first | (simp [hG, List.getD_cons_zero, List.getD_cons_succ, -List.getD_eq_getElem?_getD, kR_zero, inA_zero, outA_zero]; done) | (simp [-List.getD_eq_getElem?_getD] at hg; done) | (simp [-List.getD_eq_getElem?_getD] at hg; simp [hG, List.getD_cons_zero, List.getD_cons_succ, -List.getD_eq_getElem?_getD, kR_zero, inA_zero, outA_zero]; first | omega | exact hg | (simp_all [-List.getD_eq_getElem?_getD]; done) | (simp_all [-List.getD_eq_getElem?_getD]; first | exact ⟨rfl, rfl⟩ | exact rfl))
          · first | (simp [hG, List.getD_cons_zero, List.getD_cons_succ, -List.getD_eq_getElem?_getD, kR_zero, inA_zero, outA_zero]; done) | (simp [-List.getD_eq_getElem?_getD] at hg; done) | (simp [-List.getD_eq_getElem?_getD] at hg; simp [hG, List.getD_cons_zero, List.getD_cons_succ, -List.getD_eq_getElem?_getD, kR_zero, inA_zero, outA_zero]; first | omega | exact hg | (simp_all [-List.getD_eq_getElem?_getD]; done) | (simp_all [-List.getD_eq_getElem?_getD]; first | exact ⟨rfl, rfl⟩ | exact rfl))
          simp [hG, List.getD_cons_zero, List.getD_cons_succ, -List.getD_eq_getElem?_getD, kR_zero, inA_zero, outA_zero]
          refine hK _ ?_
          clear K hK
          refine awpA_tk T_ok [14, 15, 16] [] (fuel := 0) [16, 15, 14, 13, 12, 11, 10, 9, 8, 7, 6, 5, 4, 3, 2, 1, 0] (by decide +kernel) (by decide +kernel) rfl rfl fun K hK => ?_
          simp [hG, List.getD_cons_zero, List.getD_cons_succ, -List.getD_eq_getElem?_getD, kR_zero, inA_zero, outA_zero]
          refine ⟨Cond.mk (by simp [-List.getD_eq_getElem?_getD]; repeat (first | intro _ | exact And.intro ‹_› ‹_› | apply And.intro | assumption | omega | exact decide_eq_true (by assumption))), hK _ ?_⟩
          clear K hK
          refine awpA_done (by decide +kernel) ?_
          refine awpS_nil ?_
          refine blockQ_norm (thenQ_norm ?_)
          refine awpS_reg T_ok fun K hK => ?_
          simp [hG, List.getD_cons_zero, List.getD_cons_succ, -List.getD_eq_getElem?_getD, kR_zero, inA_zero, outA_zero]
          refine ⟨Cond.mk (by omega), hK _ ?_⟩
          clear K hK
          refine awpS_nil ?_
          refine round_end (m + 1) (by omega) (by omega) ?_
          refine wk_of (id) (fun _ => false) (fun _ => false) ?_ ?_ rfl (Nat.zero_le _) (fun k hk => absurd hk (Nat.not_lt_zero _))
          · rw [hia, hoa]; simp [hG, List.getD_cons_zero, List.getD_cons_succ, -List.getD_eq_getElem?_getD]
          · simp [hG, List.getD_cons_zero, List.getD_cons_succ, -List.getD_eq_getElem?_getD, kR_zero, inA_zero, outA_zero]
         ·
          try simp [-List.getD_eq_getElem?_getD] at hb39
          obtain rfl : m = g.edges.length := (by omega)
          refine awpS_exit ?_
          refine thenQ_exit (thenQ_exit ?_)
          refine blockQ_exit (thenQ_norm ?_)
          refine awpS_seq ?_
          refine awpS_reg T_ok fun K hK => ?_
          simp [hG, List.getD_cons_zero, List.getD_cons_succ, -List.getD_eq_getElem?_getD, kR_zero, inA_zero, outA_zero]
          refine ⟨Cond.mk (by simp [-List.getD_eq_getElem?_getD]), hK _ ?_⟩
          clear K hK
          refine awpS_cond rfl (fun hb82 => ?_) (fun hb82 => ?_)
          ·
           try simp [-List.getD_eq_getElem?_getD] at hb82
           have hks := kR_yes hil hb82.1 hb82.2
           refine awpS_reg T_ok fun K hK => ?_
           simp [hG, List.getD_cons_zero, List.getD_cons_succ, -List.getD_eq_getElem?_getD, kR_zero, inA_zero, outA_zero]
           refine ⟨Cond.mk (by omega), hK _ ?_⟩
           clear K hK
           refine awpS_nil ?_
           refine blockQ_norm (thenQ_norm ?_)
           refine awpS_reg T_ok fun K hK => ?_
           simp [hG, List.getD_cons_zero, List.getD_cons_succ, -List.getD_eq_getElem?_getD, kR_zero, inA_zero, outA_zero]
           refine ⟨Cond.mk (by omega), hK _ ?_⟩
           clear K hK
           refine awpS_nil ?_
           refine round_end (i + 1) (by omega) (by omega) ?_
           refine wk_of (fun k => if k = 2 then 4 else k) (fun _ => false) (fun _ => false) ?_ ?_ rfl (Nat.zero_le _) (fun k hk => absurd hk (Nat.not_lt_zero _))
           · rw [hks]; simp [hG, List.getD_cons_zero, List.getD_cons_succ, -List.getD_eq_getElem?_getD]
           · rw [hks]; simp [hG, List.getD_cons_zero, List.getD_cons_succ, -List.getD_eq_getElem?_getD]; exact fun q hq => app_int hq
          ·
           try simp [-List.getD_eq_getElem?_getD] at hb82
           have hks := kR_no hil hb82
           refine awpS_reg T_ok fun K hK => ?_
           simp [hG, List.getD_cons_zero, List.getD_cons_succ, -List.getD_eq_getElem?_getD, kR_zero, inA_zero, outA_zero]
           refine hK _ ?_
           clear K hK
           refine awpS_nil ?_
           refine blockQ_norm (thenQ_norm ?_)
           refine awpS_reg T_ok fun K hK => ?_
           simp [hG, List.getD_cons_zero, List.getD_cons_succ, -List.getD_eq_getElem?_getD, kR_zero, inA_zero, outA_zero]
           refine ⟨Cond.mk (by omega), hK _ ?_⟩
           clear K hK
           refine awpS_nil ?_
           refine round_end (i + 1) (by omega) (by omega) ?_
           refine wk_of (id) (fun _ => false) (fun _ => false) ?_ ?_ rfl (Nat.zero_le _) (fun k hk => absurd hk (Nat.not_lt_zero _))
           · rw [hks]; simp [hG, List.getD_cons_zero, List.getD_cons_succ, -List.getD_eq_getElem?_getD]; omega
           · rw [hks]; simp [hG, List.getD_cons_zero, List.getD_cons_succ, -List.getD_eq_getElem?_getD]
       ·
        try simp [-List.getD_eq_getElem?_getD] at hb32
        obtain rfl : i = (essAt g k).length := (by omega)
        have hka := kR_all (g := g) (k := k)
        refine awpS_exit ?_
        refine thenQ_exit (thenQ_exit ?_)
        refine blockQ_exit (thenQ_norm ?_)
        refine awpS_reg T_ok fun K hK => ?_
        simp [hG, List.getD_cons_zero, List.getD_cons_succ, -List.getD_eq_getElem?_getD, kR_zero, inA_zero, outA_zero]
        refine hK _ ?_
        clear K hK
        refine awpS_nil ?_
        refine blockQ_norm (thenQ_norm ?_)
        refine awpS_nil ?_
        refine round_end ((k + 1, decide ((essAt g (k + 1)).length ≠ (essAt g k).length))) (⟨fun h => by have := of_decide_eq_true h; simp only; omega, fun h => by have := of_decide_eq_false h; simp only; have e : (essAt g (k + 1)).length = (essAt g k).length := Classical.not_not.1 this; rw [ess_stop e]; exact ess_done hkn e⟩) (by simp only; by_cases e : (essAt g (k + 1)).length = (essAt g k).length <;> simp [e] <;> omega) ?_
        refine wk_of (id) (fun k => k == 2) (fun _ => false) ?_ ?_ rfl (Nat.zero_le _) (fun k hk => absurd hk (Nat.not_lt_zero _))
        · simp [hG, List.getD_cons_zero, List.getD_cons_succ, -List.getD_eq_getElem?_getD]; rw [hka]; exact ⟨⟨rfl, Nat.le_refl _, fun _ _ => rfl⟩, Iff.rfl⟩
        · simp [hG, List.getD_cons_zero, List.getD_cons_succ, -List.getD_eq_getElem?_getD, kR_zero, inA_zero, outA_zero]
     ·
      try simp [-List.getD_eq_getElem?_getD] at hb28
      subst hb28
      have hdo := hp2 rfl
      refine awpS_exit ?_
      refine thenQ_exit (thenQ_exit ?_)
      refine blockQ_exit (thenQ_norm ?_)
      refine awpS_seq ?_
      refine awpS_wk (st2 := ⟨[(1, .ptr (0, 0) 0 0), (2, .ptr (1, 0) 0 0), (5, ints (essL g))], [(0, .one (.arr 1 3 (fun _ => grF g))), (1, .one (.arr 1 3 (fun _ j => [.int .i64 0, .int .i64 0, .nils].getD j .any)))], 2⟩) ?_ ?_
      ·
       refine wk_of (id) (fun _ => false) (fun _ => false) ?_ ?_ rfl (Nat.zero_le _) (fun k hk => absurd hk (Nat.not_lt_zero _))
       · rw [← hdo]; simp [hG, List.getD_cons_zero, List.getD_cons_succ, -List.getD_eq_getElem?_getD]
       · simp [hG, List.getD_cons_zero, List.getD_cons_succ, -List.getD_eq_getElem?_getD, kR_zero, inA_zero, outA_zero]
      refine awpS_regL ?_
      refine awpL_reg T_ok 2 fun K hK => ?_
      simp [hG, List.getD_cons_zero, List.getD_cons_succ, -List.getD_eq_getElem?_getD, kR_zero, inA_zero, outA_zero]
      refine hK _ ?_
      clear K hK
      refine awpL_call cal79 rfl rfl (fun _ => rfl) (fun hg => part_c g (essL g) ess_asc (by have := ess_len (g := g) (k := g.states.toNat); unfold essL; omega) hed) (fun hg => ?_) (fun hg => ?_) fun K hK => ?_
      · simp [hG, List.getD_cons_zero, List.getD_cons_succ, -List.getD_eq_getElem?_getD, kR_zero, inA_zero, outA_zero]
      · simp [hG, List.getD_cons_zero, List.getD_cons_succ, -List.getD_eq_getElem?_getD, kR_zero, inA_zero, outA_zero]
      simp [hG, List.getD_cons_zero, List.getD_cons_succ, -List.getD_eq_getElem?_getD, kR_zero, inA_zero, outA_zero]
      refine hK _ ?_
      clear K hK
      refine awpL_reg T_ok 4 fun K hK => ?_
      simp [hG, List.getD_cons_zero, List.getD_cons_succ, -List.getD_eq_getElem?_getD, kR_zero, inA_zero, outA_zero]
      refine ⟨Cond.mk (by simp [-List.getD_eq_getElem?_getD]), hK _ ?_⟩
      clear K hK
      refine awpL_nil ?_
      refine awpS_ret ?_
      refine RetOK_of ?_
      simp [hG, List.getD_cons_zero, List.getD_cons_succ, -List.getD_eq_getElem?_getD, kR_zero, inA_zero, outA_zero]
      unfold essG essX essN; rw [if_pos hv, if_pos hv, if_pos hv]; simp

end Go.Proofs.Ytddghlnaocjjkaa
