/-
 Walks: the graph of sets in the reference.
-/
import Derived.Test.YtdojahjhijkbhaaGreatDoorZO
namespace Go.Proofs.YtdojahjhijkbhaaGreatDoor
set_option linter.unusedSimpArgs false
set_option linter.unusedVariables false
open Go Go.Lift Go.Proofs

theorem sets_out {g : Gr} (hv : gcheck g = 0) (h0 : 0 < g.states) {i k : Nat} (hi : i ≤ 64) (hil : i < (sbAt g i).all.length) (hk : k ≤ g.labels.toNat) (h : 64 < (sbRow g i (sbAt g i) k).all.length ∨ 1024 < (sbRow g i (sbAt g i) k).es.length) :
  buildN g = 4 ∧ buildG g = ⟨0, 0, []⟩ ∧ buildS g = [] := by
 have h1 := sb_next hi hil hk (by unfold sbOver; omega)
 have h2 := buildN_over hv h0 h1
 refine ⟨h2, ?_, ?_⟩
 · unfold buildG; rw [if_pos (by rw [h2]; decide)]
 · unfold buildS; rw [if_pos (.inl (by rw [h2]; decide))]
theorem sets_step {g : Gr} {i : Nat} (hil : i < (sbAt g i).all.length) (ha : (sbRow g i (sbAt g i) g.labels.toNat).all.length ≤ 64) (he : (sbRow g i (sbAt g i) g.labels.toNat).es.length ≤ 1024) (ha0 : (sbAt g i).all.length ≤ 64) :
  i + 1 ≤ 64 ∧ i + 1 ≤ (sbAt g (i + 1)).all.length ∧ (sbAt g (i + 1)).all.length ≤ 64 ∧ (sbAt g (i + 1)).es.length ≤ 1024 := build_step hil ha0 ⟨by omega, by omega⟩
theorem rows_small {g : Gr} (hv : gcheck g = 0) {i k : Nat} {st : Sb} (h : SbOK g i k st) : ∀ p ∈ st.all, p.length ≤ 1000000 := fun p hp => by
 have h1 := h.set p hp
 have h2 : p.length ≤ 64 := SetOK.len hv ⟨h1.2.1, h1.2.2⟩
 omega
theorem from_no {g : Gr} (hv : gcheck g = 0) (h0 : 0 < g.states) (h : ¬ buildN g = 0) : buildN g = 4 ∧ buildG g = ⟨0, 0, []⟩ ∧ buildS g = [] := by
 have h2 : buildN g = 4 := by
  unfold buildN at h ⊢
  rw [if_neg (fun k => k hv)] at h ⊢
  by_cases h3 : 0 < g.states ∧ sbOver (sbAt g 65)
  · rw [if_pos h3]
  · rw [if_neg h3] at h; exact absurd rfl h
 refine ⟨h2, ?_, ?_⟩
 · unfold buildG; rw [if_pos (by rw [h2]; decide)]
 · unfold buildS; rw [if_pos (.inl (by rw [h2]; decide))]
set_option maxRecDepth 100000 in
theorem setsR_c (g : Gr) (hv : gcheck g = 0) (h0 : 0 < g.states) : PC Tryz.prog 94 [.agg 3 (grF g), ints (iotaL g.states.toNat)] (.tup 3 (fun j => [.agg 3 (grF (buildG g)), rowsI (buildS g), .bool (decide (buildN g = 0))].getD j .any)) := by
 have hlb := (gcheck_valid hv).1.lab
 refine PC_introS T_ok Tryz.func94 rfl (by simp [Tryz.ntmps94]) fun G hG hR => ?_
 simp only [Tryz.ntmps94, Tryz.results94] at hG ⊢
 simp only [argEnv, Nat.zero_add, Nat.reduceAdd]
 refine awpS_seq ?_
 refine awpS_reg T_ok fun K hK => ?_
 simp [hG, List.getD_cons_zero, List.getD_cons_succ, -List.getD_eq_getElem?_getD, pureOp, sbRow_zero]
 refine ⟨Cond.mk (by exact trivial), hK _ ?_⟩
 clear K hK
 refine awpS_seq ?_
 refine awpS_reg T_ok fun K hK => ?_
 simp [hG, List.getD_cons_zero, List.getD_cons_succ, -List.getD_eq_getElem?_getD, pureOp, sbRow_zero]
 refine ⟨Cond.mk (by exact trivial), hK _ ?_⟩
 clear K hK
 refine awpS_seq ?_
 refine awpS_reg T_ok fun K hK => ?_
 simp [hG, List.getD_cons_zero, List.getD_cons_succ, -List.getD_eq_getElem?_getD, pureOp, sbRow_zero]
 refine hK _ ?_
 clear K hK
 refine awpS_seq ?_
 refine awpS_seq ?_
 refine awpS_reg T_ok fun K hK => ?_
 simp [hG, List.getD_cons_zero, List.getD_cons_succ, -List.getD_eq_getElem?_getD, pureOp, sbRow_zero]
 refine hK _ ?_
 clear K hK
 refine awpS_block ?_
 refine awpS_loop (α := Nat) (fun i => ⟨[(2, .ptr (0, 0) 0 0), (4, .ptr (1, 0) 0 0), (7, .ptr (2, 0) 0 0), (8, .sl (3, 0) 0 (sbAt g i).all.length), (9, .int .i64 i)], [(0, .one (.arr 1 3 (fun _ => grF g))), (1, .one (.arr 1 3 (fun _ j => [.int .i64 0, .int .i64 0, .nils].getD j .any))), (2, .one (.arr 1 3 (fun _ j => [.int .i64 g.labels, .int .i64 0, .sl (4, 0) 0 (sbAt g i).es.length].getD j .any))), (3, .one (.arr (sbAt g i).all.length 1 (fun q _ => ints ((sbAt g i).all.getD q [])))), (4, .one (.arr (sbAt g i).es.length 3 (fun q j => edgeF ((sbAt g i).es.getD q de) j)))], 5⟩) (fun i => i ≤ 64 ∧ i ≤ (sbAt g i).all.length ∧ (sbAt g i).all.length ≤ 64 ∧ (sbAt g i).es.length ≤ 1024) (fun i => 65 - i) (0) (⟨by omega, Nat.zero_le _, by show 1 ≤ 64; omega, by show 0 ≤ 1024; omega⟩) ?_ ?_
 ·
  refine wk_of (id) (fun _ => false) (fun k => k == 4) ?_ ?_ rfl (Nat.zero_le _) (fun k hk => absurd hk (Nat.not_lt_zero _))
  · rw [show sbAt g 0 = ⟨[iotaL g.states.toNat], []⟩ from rfl]; simp [hG, List.getD_cons_zero, List.getD_cons_succ, -List.getD_eq_getElem?_getD]
  · rw [show sbAt g 0 = ⟨[iotaL g.states.toNat], []⟩ from rfl]; simp [hG, List.getD_cons_zero, List.getD_cons_succ, -List.getD_eq_getElem?_getD]
 ·
  rintro i ⟨hi64, hil0, hal, hel⟩
  refine awpS_seq ?_
  refine awpS_seq ?_
  refine awpS_reg T_ok fun K hK => ?_
  simp [hG, List.getD_cons_zero, List.getD_cons_succ, -List.getD_eq_getElem?_getD, pureOp, sbRow_zero]
  refine hK _ ?_
  clear K hK
  refine awpS_cond rfl (fun hb22 => ?_) (fun hb22 => ?_)
  ·
   try simp [-List.getD_eq_getElem?_getD] at hb22
   have hil : i < (sbAt g i).all.length := (by omega)
   have hE2 := sbAt_succ hil
   refine awpS_skip ?_
   refine awpS_seq ?_
   refine awpS_block ?_
   refine awpS_seq ?_
   refine awpS_reg T_ok fun K hK => ?_
   simp [hG, List.getD_cons_zero, List.getD_cons_succ, -List.getD_eq_getElem?_getD, pureOp, sbRow_zero]
   refine hK _ ?_
   clear K hK
   refine awpS_block ?_
   refine awpS_loop (α := Nat) (fun k => ⟨[(2, .ptr (0, 0) 0 0), (4, .ptr (1, 0) 0 0), (7, .ptr (2, 0) 0 0), (8, .sl (3, 0) 0 (sbRow g i (sbAt g i) k).all.length), (9, .int .i64 i), (10, .int .i64 k)], [(0, .one (.arr 1 3 (fun _ => grF g))), (1, .one (.arr 1 3 (fun _ j => [.int .i64 0, .int .i64 0, .nils].getD j .any))), (2, .one (.arr 1 3 (fun _ j => [.int .i64 g.labels, .int .i64 0, .sl (4, 0) 0 (sbRow g i (sbAt g i) k).es.length].getD j .any))), (3, .one (.arr (sbRow g i (sbAt g i) k).all.length 1 (fun q _ => ints ((sbRow g i (sbAt g i) k).all.getD q [])))), (4, .one (.arr (sbRow g i (sbAt g i) k).es.length 3 (fun q j => edgeF ((sbRow g i (sbAt g i) k).es.getD q de) j)))], 5⟩) (fun k => k ≤ g.labels.toNat ∧ (sbRow g i (sbAt g i) k).all.length ≤ 64 ∧ (sbRow g i (sbAt g i) k).es.length ≤ 1024) (fun k => g.labels.toNat - k) (0) (by rw [sbRow_zero]; exact ⟨Nat.zero_le _, hal, hel⟩) ?_ ?_
   ·
    refine wk_of (id) (fun _ => false) (fun _ => false) ?_ ?_ rfl (Nat.zero_le _) (fun k hk => absurd hk (Nat.not_lt_zero _))
    · simp [hG, List.getD_cons_zero, List.getD_cons_succ, -List.getD_eq_getElem?_getD, pureOp, sbRow_zero]
    · simp [hG, List.getD_cons_zero, List.getD_cons_succ, -List.getD_eq_getElem?_getD, pureOp, sbRow_zero]
   ·
    rintro k ⟨hk, hka, hke⟩
    refine awpS_seq ?_
    refine awpS_seq ?_
    refine awpS_reg T_ok fun K hK => ?_
    simp [hG, List.getD_cons_zero, List.getD_cons_succ, -List.getD_eq_getElem?_getD, pureOp, sbRow_zero]
    refine hK _ ?_
    clear K hK
    refine awpS_cond rfl (fun hb28 => ?_) (fun hb28 => ?_)
    ·
     try simp [-List.getD_eq_getElem?_getD] at hb28
     have hkl : k < g.labels.toNat := (by omega)
     have hrk : SbOK g i k (sbRow g i (sbAt g i) k) := (sbAt_ok hv h0 i).row hv hil (k := k) (by omega)
     have hir : i < (sbRow g i (sbAt g i) k).all.length := Nat.lt_of_lt_of_le hil (sbRow_pre k).all.length_le
     have hxi := hrk.set _ (getD_mem (d := []) hir)
     have hset : SetOK g ((sbRow g i (sbAt g i) k).all.getD i []) := ⟨hxi.2.1, hxi.2.2⟩
     have hE := sbRow_succ (g := g) (i := i) (st := sbAt g i) (k := k)
     refine awpS_skip ?_
     refine awpS_seq ?_
     refine awpS_block ?_
     refine awpS_seq ?_
     refine awpS_draw hR mixed [] ⟨[], [], []⟩ fun mu0 => ?_
     refine awpA_tk T_ok [0, 1, 2, 3, 4, 5] [] (fuel := 6) [5, 4, 3, 2, 1, 0] (by decide +kernel) (by decide +kernel) rfl rfl fun K hK => ?_
     simp [hG, List.getD_cons_zero, List.getD_cons_succ, -List.getD_eq_getElem?_getD, pureOp, sbRow_zero]
     refine ⟨Cond.mk (by omega), hK _ ?_⟩
     clear K hK
     refine awpA_only (fuel := 5) (i := 6) (by decide +kernel) ?_
     refine awpO_call cal112 rfl rfl rfl (fun _ => rfl) (fun hg => stepR_c g (k : Nat) ((sbRow g i (sbAt g i) k).all.getD i []) hv hset (by omega) (by have := hset.len hv; omega)) (fun hg => ?_) (fun hg => ?_) fun K hK => ?_
     · simp [hG, List.getD_cons_zero, List.getD_cons_succ, -List.getD_eq_getElem?_getD, pureOp, sbRow_zero]
     · simp [hG, List.getD_cons_zero, List.getD_cons_succ, -List.getD_eq_getElem?_getD, pureOp, sbRow_zero]
     simp [hG, List.getD_cons_zero, List.getD_cons_succ, -List.getD_eq_getElem?_getD, pureOp, sbRow_zero]
     refine hK _ ?_
     clear K hK
     refine awpA_tk T_ok [7, 8, 9, 10, 11] [] (fuel := 0) [11, 10, 9, 8, 7, 6, 5, 4, 3, 2, 1, 0] (by decide +kernel) (by decide +kernel) rfl rfl fun K hK => ?_
     simp [hG, List.getD_cons_zero, List.getD_cons_succ, -List.getD_eq_getElem?_getD, pureOp, sbRow_zero]
     refine hK _ ?_
     clear K hK
     refine awpA_done (by decide +kernel) ?_
     refine awpS_seq ?_
     refine awpS_seq ?_
     refine awpS_reg T_ok fun K hK => ?_
     simp [hG, List.getD_cons_zero, List.getD_cons_succ, -List.getD_eq_getElem?_getD, pureOp, sbRow_zero]
     refine hK _ ?_
     clear K hK
     refine awpS_cond rfl (fun hb43 => ?_) (fun hb43 => ?_)
     ·
      try simp [-List.getD_eq_getElem?_getD] at hb43
      have hP := sbPut_none (g := g) (i := i) (k := k) (st := (sbRow g i (sbAt g i) k)) (by simpa using hb43)
      refine awpS_exit ?_
      refine blockQ_exit (thenQ_norm ?_)
      refine awpS_reg T_ok fun K hK => ?_
      simp [hG, List.getD_cons_zero, List.getD_cons_succ, -List.getD_eq_getElem?_getD, pureOp, sbRow_zero]
      refine ⟨Cond.mk (by omega), hK _ ?_⟩
      clear K hK
      refine awpS_nil ?_
      refine round_end (k + 1) (by rw [hE, hP]; exact ⟨hkl, hka, hke⟩) (by omega) ?_
      refine wk_of (id) (fun _ => false) (fun _ => false) ?_ ?_ rfl (Nat.zero_le _) (fun k hk => absurd hk (Nat.not_lt_zero _))
      · rw [hE, hP]; simp [hG, List.getD_cons_zero, List.getD_cons_succ, -List.getD_eq_getElem?_getD]
      · rw [hE, hP]; simp [hG, List.getD_cons_zero, List.getD_cons_succ, -List.getD_eq_getElem?_getD]
     ·
      try simp [-List.getD_eq_getElem?_getD] at hb43
      have hne : (stepL g k ((sbRow g i (sbAt g i) k).all.getD i [])) ≠ [] := (by intro h; rw [h] at hb43; simp at hb43)
      refine awpS_skip ?_
      refine awpS_seq ?_
      refine awpS_regL ?_
      refine awpL_reg T_ok 2 fun K hK => ?_
      simp [hG, List.getD_cons_zero, List.getD_cons_succ, -List.getD_eq_getElem?_getD, pureOp, sbRow_zero]
      refine hK _ ?_
      clear K hK
      refine awpL_callB (mem [3]) cal113 (by simp [flat]) rfl rfl (fun _ => rfl) (fun hg => indexS_c (sbRow g i (sbAt g i) k).all (stepL g k ((sbRow g i (sbAt g i) k).all.getD i [])) (by omega) (rows_small hv hrk)) (fun hg => ?_) (fun hg => ?_) fun K hK => ?_
      · simp [hG, List.getD_cons_zero, List.getD_cons_succ, -List.getD_eq_getElem?_getD, pureOp, sbRow_zero]
      · simp [hG, List.getD_cons_zero, List.getD_cons_succ, -List.getD_eq_getElem?_getD, pureOp, sbRow_zero]
      simp [hG, List.getD_cons_zero, List.getD_cons_succ, -List.getD_eq_getElem?_getD, pureOp, sbRow_zero]
      refine hK _ ?_
      clear K hK
      refine awpL_reg T_ok 1 fun K hK => ?_
      simp [hG, List.getD_cons_zero, List.getD_cons_succ, -List.getD_eq_getElem?_getD, pureOp, sbRow_zero]
      refine hK _ ?_
      clear K hK
      refine awpL_nil ?_
      refine awpS_seq ?_
      refine awpS_seq ?_
      refine awpS_reg T_ok fun K hK => ?_
      simp [hG, List.getD_cons_zero, List.getD_cons_succ, -List.getD_eq_getElem?_getD, pureOp, sbRow_zero]
      refine hK _ ?_
      clear K hK
      refine awpS_cond rfl (fun hb48 => ?_) (fun hb48 => ?_)
      ·
       try simp [-List.getD_eq_getElem?_getD] at hb48
       have hnm : ¬ (stepL g k ((sbRow g i (sbAt g i) k).all.getD i [])) ∈ (sbRow g i (sbAt g i) k).all := idxL_put.1.1 (by simpa using hb48)
       have hP := sbPut_new hne hnm
       refine awpS_seq ?_
       refine awpS_reg T_ok fun K hK => ?_
       simp [hG, List.getD_cons_zero, List.getD_cons_succ, -List.getD_eq_getElem?_getD, pureOp, sbRow_zero]
       refine hK _ ?_
       clear K hK
       refine awpS_reg T_ok fun K hK => ?_
       simp [hG, List.getD_cons_zero, List.getD_cons_succ, -List.getD_eq_getElem?_getD, pureOp, sbRow_zero]
       refine ⟨Cond.mk (by omega), hK _ ?_⟩
       clear K hK
       refine awpS_seq ?_
       refine awpS_reg T_ok fun K hK => ?_
       simp [hG, List.getD_cons_zero, List.getD_cons_succ, -List.getD_eq_getElem?_getD, pureOp, sbRow_zero]
       refine ⟨Cond.mk (by simp [-List.getD_eq_getElem?_getD]; omega), hK _ ?_⟩
       clear K hK
       refine awpS_seq ?_
       refine awpS_reg T_ok fun K hK => ?_
       simp [hG, List.getD_cons_zero, List.getD_cons_succ, -List.getD_eq_getElem?_getD, pureOp, sbRow_zero]
       refine hK _ ?_
       clear K hK
       refine awpS_cond rfl (fun hb72 => ?_) (fun hb72 => ?_)
       ·
        try simp [-List.getD_eq_getElem?_getD] at hb72
        obtain ⟨e1, e2, e3⟩ := sets_out hv h0 hi64 hil (k := k + 1) (by omega) (by rw [hE, hP]; simp only [List.length_append, List.length_singleton]; omega)
        refine awpS_seq ?_
        refine awpS_reg T_ok fun K hK => ?_
        simp [hG, List.getD_cons_zero, List.getD_cons_succ, -List.getD_eq_getElem?_getD, pureOp, sbRow_zero]
        refine ⟨Cond.mk (by exact trivial), hK _ ?_⟩
        clear K hK
        refine awpS_ret ?_
        refine blockQ_ret (thenQ_ret ?_)
        refine thenQ_ret (thenQ_ret ?_)
        refine blockQ_ret (thenQ_ret ?_)
        refine blockQ_ret (thenQ_ret ?_)
        refine thenQ_ret (thenQ_ret ?_)
        refine blockQ_ret (thenQ_ret ?_)
        refine RetOK_of ?_
        simp [hG, List.getD_cons_zero, List.getD_cons_succ, -List.getD_eq_getElem?_getD, pureOp, sbRow_zero]
        rw [e1, e2, e3]; exact ⟨⟨rfl, rfl, rfl⟩, rfl, by decide⟩
       ·
        try simp [-List.getD_eq_getElem?_getD] at hb72
        refine awpS_skip ?_
        refine awpS_nil ?_
        refine blockQ_norm (thenQ_norm ?_)
        refine awpS_reg T_ok fun K hK => ?_
        simp [hG, List.getD_cons_zero, List.getD_cons_succ, -List.getD_eq_getElem?_getD, pureOp, sbRow_zero]
        refine ⟨Cond.mk (by omega), hK _ ?_⟩
        clear K hK
        refine awpS_nil ?_
        refine round_end (k + 1) (by rw [hE, hP]; simp only [List.length_append, List.length_singleton]; omega) (by omega) ?_
        refine wk_of (fun k => if k = 3 then 6 else if k = 4 then 8 else k) (fun _ => false) (fun _ => false) ?_ ?_ rfl (Nat.zero_le _) (fun k hk => absurd hk (Nat.not_lt_zero _))
        · rw [hE, hP]; simp [hG, List.getD_cons_zero, List.getD_cons_succ, -List.getD_eq_getElem?_getD]
        · rw [hE, hP]; simp [hG, List.getD_cons_zero, List.getD_cons_succ, -List.getD_eq_getElem?_getD]; exact ⟨fun q hq => app_rowX hq (Clo.le _ Clo_ints), fun q hq => ⟨app_ed (j := 0) hq rfl, app_ed (j := 1) hq rfl, app_ed (j := 2) hq rfl⟩⟩
      ·
       try simp [-List.getD_eq_getElem?_getD] at hb48
       have hmm : (stepL g k ((sbRow g i (sbAt g i) k).all.getD i [])) ∈ (sbRow g i (sbAt g i) k).all := Classical.byContradiction fun h => hb48 (idxL_put.1.2 h)
       have hix := idxL_put.2 hmm
       have hP := sbPut_old hne hmm
       refine awpS_skip ?_
       refine awpS_seq ?_
       refine awpS_reg T_ok fun K hK => ?_
       simp [hG, List.getD_cons_zero, List.getD_cons_succ, -List.getD_eq_getElem?_getD, pureOp, sbRow_zero]
       refine ⟨Cond.mk (by simp [-List.getD_eq_getElem?_getD]; omega), hK _ ?_⟩
       clear K hK
       refine awpS_seq ?_
       refine awpS_reg T_ok fun K hK => ?_
       simp [hG, List.getD_cons_zero, List.getD_cons_succ, -List.getD_eq_getElem?_getD, pureOp, sbRow_zero]
       refine hK _ ?_
       clear K hK
       refine awpS_cond rfl (fun hb72 => ?_) (fun hb72 => ?_)
       ·
        try simp [-List.getD_eq_getElem?_getD] at hb72
        obtain ⟨e1, e2, e3⟩ := sets_out hv h0 hi64 hil (k := k + 1) (by omega) (by rw [hE, hP]; simp only [List.length_append, List.length_singleton]; omega)
        refine awpS_seq ?_
        refine awpS_reg T_ok fun K hK => ?_
        simp [hG, List.getD_cons_zero, List.getD_cons_succ, -List.getD_eq_getElem?_getD, pureOp, sbRow_zero]
        refine ⟨Cond.mk (by exact trivial), hK _ ?_⟩
        clear K hK
        refine awpS_ret ?_
        refine blockQ_ret (thenQ_ret ?_)
        refine thenQ_ret (thenQ_ret ?_)
        refine blockQ_ret (thenQ_ret ?_)
        refine blockQ_ret (thenQ_ret ?_)
        refine thenQ_ret (thenQ_ret ?_)
        refine blockQ_ret (thenQ_ret ?_)
        refine RetOK_of ?_
        simp [hG, List.getD_cons_zero, List.getD_cons_succ, -List.getD_eq_getElem?_getD, pureOp, sbRow_zero]
        rw [e1, e2, e3]; exact ⟨⟨rfl, rfl, rfl⟩, rfl, by decide⟩
       ·
        try simp [-List.getD_eq_getElem?_getD] at hb72
        refine awpS_skip ?_
        refine awpS_nil ?_
        refine blockQ_norm (thenQ_norm ?_)
        refine awpS_reg T_ok fun K hK => ?_
        simp [hG, List.getD_cons_zero, List.getD_cons_succ, -List.getD_eq_getElem?_getD, pureOp, sbRow_zero]
        refine ⟨Cond.mk (by omega), hK _ ?_⟩
        clear K hK
        refine awpS_nil ?_
        refine round_end (k + 1) (by rw [hE, hP]; simp only [List.length_append, List.length_singleton]; omega) (by omega) ?_
        refine wk_of (fun k => if k = 4 then 6 else k) (fun _ => false) (fun _ => false) ?_ ?_ rfl (Nat.zero_le _) (fun k hk => absurd hk (Nat.not_lt_zero _))
        · rw [hE, hP]; simp [hG, List.getD_cons_zero, List.getD_cons_succ, -List.getD_eq_getElem?_getD]
        · rw [hE, hP]; simp [hG, List.getD_cons_zero, List.getD_cons_succ, -List.getD_eq_getElem?_getD]; exact fun q hq => ⟨app_ed (j := 0) hq rfl, app_ed (j := 1) hq rfl, app_ed (j := 2) hq (congrArg (AVal.int .i64) hix)⟩
    ·
     try simp [-List.getD_eq_getElem?_getD] at hb28
     obtain rfl : k = g.labels.toNat := (by omega)
     refine awpS_exit ?_
     refine thenQ_exit (thenQ_exit ?_)
     refine blockQ_exit (thenQ_norm ?_)
     refine awpS_nil ?_
     refine blockQ_norm (thenQ_norm ?_)
     refine awpS_reg T_ok fun K hK => ?_
     simp [hG, List.getD_cons_zero, List.getD_cons_succ, -List.getD_eq_getElem?_getD, pureOp, sbRow_zero]
     refine ⟨Cond.mk (by omega), hK _ ?_⟩
     clear K hK
     refine awpS_nil ?_
     refine round_end (i + 1) (sets_step hil hka hke hal) (by omega) ?_
     refine wk_of (id) (fun _ => false) (fun _ => false) ?_ ?_ rfl (Nat.zero_le _) (fun k hk => absurd hk (Nat.not_lt_zero _))
     · rw [hE2]; simp [hG, List.getD_cons_zero, List.getD_cons_succ, -List.getD_eq_getElem?_getD]
     · rw [hE2]; simp [hG, List.getD_cons_zero, List.getD_cons_succ, -List.getD_eq_getElem?_getD]
  ·
   try simp [-List.getD_eq_getElem?_getD] at hb22
   obtain hiL : (sbAt g i).all.length ≤ i := (by omega)
   obtain ⟨e1, e2, e3⟩ := build_fine hv h0 hi64 hiL hal hel
   refine awpS_exit ?_
   refine thenQ_exit (thenQ_exit ?_)
   refine blockQ_exit (thenQ_norm ?_)
   refine awpS_seq ?_
   refine awpS_reg T_ok fun K hK => ?_
   simp [hG, List.getD_cons_zero, List.getD_cons_succ, -List.getD_eq_getElem?_getD, pureOp, sbRow_zero]
   refine hK _ ?_
   clear K hK
   refine awpS_seq ?_
   refine awpS_reg T_ok fun K hK => ?_
   simp [hG, List.getD_cons_zero, List.getD_cons_succ, -List.getD_eq_getElem?_getD, pureOp, sbRow_zero]
   refine ⟨Cond.mk (by exact trivial), hK _ ?_⟩
   clear K hK
   refine awpS_ret ?_
   refine RetOK_of ?_
   simp [hG, List.getD_cons_zero, List.getD_cons_succ, -List.getD_eq_getElem?_getD, pureOp, sbRow_zero]
   rw [e1, e2, e3]; exact ⟨⟨rfl, rfl, rfl, Nat.le_refl _, fun q hq => ⟨rfl, rfl, rfl⟩⟩, ⟨rfl, Nat.le_refl _, fun q hq => Clo.le _ Clo_ints⟩, rfl⟩

set_option maxRecDepth 100000 in
theorem fromR_c (g : Gr) (hv : gcheck g = 0) (h0 : 0 < g.states) : PC Tryz.prog 70 [.agg 3 (grF g), ints (iotaL g.states.toNat)] (.tup 3 (fun j => [.agg 3 (grF (buildG g)), rowsI (buildS g), .int .i64 (buildN g)].getD j .any)) := by
 have hAl := SetOK.all (g := g)
 have hst := (gcheck_valid hv).1.st
 have hln := iota_len (m := g.states.toNat)
 refine PC_introS T_ok Tryz.func70 rfl (by simp [Tryz.ntmps70]) fun G hG hR => ?_
 simp only [Tryz.ntmps70, Tryz.results70] at hG ⊢
 simp only [argEnv, Nat.zero_add, Nat.reduceAdd]
 refine awpS_seq ?_
 refine awpS_reg T_ok fun K hK => ?_
 simp [hG, List.getD_cons_zero, List.getD_cons_succ, -List.getD_eq_getElem?_getD, pureOp]
 refine ⟨Cond.mk (by exact trivial), hK _ ?_⟩
 clear K hK
 refine awpS_seq ?_
 refine awpS_seq ?_
 refine awpS_regL ?_
 refine awpL_reg T_ok 1 fun K hK => ?_
 simp [hG, List.getD_cons_zero, List.getD_cons_succ, -List.getD_eq_getElem?_getD, pureOp]
 refine hK _ ?_
 clear K hK
 refine awpL_call cal40 rfl rfl (fun _ => rfl) (fun hg => check9_c g) (fun hg => ?_) (fun hg => ?_) fun K hK => ?_
 · simp [hG, List.getD_cons_zero, List.getD_cons_succ, -List.getD_eq_getElem?_getD, pureOp]
 · simp [hG, List.getD_cons_zero, List.getD_cons_succ, -List.getD_eq_getElem?_getD, pureOp]
 simp [hG, List.getD_cons_zero, List.getD_cons_succ, -List.getD_eq_getElem?_getD, pureOp]
 refine hK _ ?_
 clear K hK
 refine awpL_reg T_ok 1 fun K hK => ?_
 simp [hG, List.getD_cons_zero, List.getD_cons_succ, -List.getD_eq_getElem?_getD, pureOp]
 refine hK _ ?_
 clear K hK
 refine awpL_nil ?_
 refine awpS_cond rfl (fun hb13 => ?_) (fun hb13 => ?_)
 ·
  exact absurd hv (by simpa using hb13)
 ·
  try simp [-List.getD_eq_getElem?_getD] at hb13
  refine awpS_skip ?_
  refine awpS_seq ?_
  refine awpS_seq ?_
  refine awpS_reg T_ok fun K hK => ?_
  simp [hG, List.getD_cons_zero, List.getD_cons_succ, -List.getD_eq_getElem?_getD, pureOp]
  refine hK _ ?_
  clear K hK
  refine awpS_cond rfl (fun hb17 => ?_) (fun hb17 => ?_)
  ·
   exact absurd (congrArg List.length (of_decide_eq_true hb17)) (by rw [iota_len]; simp; omega)
  ·
   try simp [-List.getD_eq_getElem?_getD] at hb17
   refine awpS_skip ?_
   refine awpS_seq ?_
   refine awpS_seq ?_
   refine awpS_reg T_ok fun K hK => ?_
   simp [hG, List.getD_cons_zero, List.getD_cons_succ, -List.getD_eq_getElem?_getD, pureOp]
   refine hK _ ?_
   clear K hK
   refine awpS_block ?_
   refine awpS_loop (α := Nat) (fun i => ⟨[(1, ints (iotaL g.states.toNat)), (2, .ptr (0, 0) 0 0), (4, .ptr (1, 0) 0 0), (7, .int .i64 i)], [(0, .one (.arr 1 3 (fun _ => grF g))), (1, .one (.arr 1 3 (fun _ j => [.int .i64 0, .int .i64 0, .nils].getD j .any)))], 2⟩) (fun i => i ≤ (iotaL g.states.toNat).length) (fun i => (iotaL g.states.toNat).length - i) (0) (Nat.zero_le _) ?_ ?_
   ·
    refine wk_of (id) (fun _ => false) (fun _ => false) ?_ ?_ rfl (Nat.zero_le _) (fun k hk => absurd hk (Nat.not_lt_zero _))
    · simp [hG, List.getD_cons_zero, List.getD_cons_succ, -List.getD_eq_getElem?_getD, pureOp]
    · simp [hG, List.getD_cons_zero, List.getD_cons_succ, -List.getD_eq_getElem?_getD, pureOp]
   ·
    rintro i hi
    refine awpS_seq ?_
    refine awpS_seq ?_
    refine awpS_reg T_ok fun K hK => ?_
    simp [hG, List.getD_cons_zero, List.getD_cons_succ, -List.getD_eq_getElem?_getD, pureOp]
    refine hK _ ?_
    clear K hK
    refine awpS_cond rfl (fun hb22 => ?_) (fun hb22 => ?_)
    ·
     try simp [-List.getD_eq_getElem?_getD] at hb22
     have hbx := set_box hAl (i := i) (by omega)
     refine awpS_skip ?_
     refine awpS_seq ?_
     refine awpS_block ?_
     refine awpS_seq ?_
     refine awpS_seq ?_
     refine awpS_draw hR mixed [] ⟨[], [], []⟩ fun mu0 => ?_
     refine awpA_tk T_ok [0, 1, 2, 3, 4, 5, 6, 7, 8, 9, 10, 11, 12, 13] [] (fuel := 0) [13, 12, 11, 10, 9, 8, 7, 6, 5, 4, 3, 2, 1, 0] (by decide +kernel) (by decide +kernel) rfl rfl fun K hK => ?_
     simp [hG, List.getD_cons_zero, List.getD_cons_succ, -List.getD_eq_getElem?_getD, pureOp]
     refine ⟨Cond.mk (by omega), hK _ ?_⟩
     clear K hK
     refine awpA_done (by decide +kernel) ?_
     refine awpS_cond rfl (fun hb38 => ?_) (fun hb38 => ?_)
     ·
      simp [-List.getD_eq_getElem?_getD] at hb38; omega
     ·
      try simp [-List.getD_eq_getElem?_getD] at hb38
      refine awpS_skip ?_
      refine awpS_seq ?_
      refine awpS_draw hR mixed [] ⟨[], [], []⟩ fun mu0 => ?_
      refine awpA_tk T_ok [0, 1, 2, 3, 4, 5, 6, 7, 8, 9, 10, 11, 12, 13] [] (fuel := 0) [13, 12, 11, 10, 9, 8, 7, 6, 5, 4, 3, 2, 1, 0] (by decide +kernel) (by decide +kernel) rfl rfl fun K hK => ?_
      simp [hG, List.getD_cons_zero, List.getD_cons_succ, -List.getD_eq_getElem?_getD, pureOp]
      refine ⟨Cond.mk (by omega), hK _ ?_⟩
      clear K hK
      refine awpA_done (by decide +kernel) ?_
      refine awpS_cond rfl (fun hb53 => ?_) (fun hb53 => ?_)
      ·
       simp [-List.getD_eq_getElem?_getD] at hb53; omega
      ·
       try simp [-List.getD_eq_getElem?_getD] at hb53
       refine awpS_skip ?_
       refine awpS_nil ?_
       refine blockQ_norm (thenQ_norm ?_)
       refine awpS_reg T_ok fun K hK => ?_
       simp [hG, List.getD_cons_zero, List.getD_cons_succ, -List.getD_eq_getElem?_getD, pureOp]
       refine ⟨Cond.mk (by omega), hK _ ?_⟩
       clear K hK
       refine awpS_nil ?_
       refine round_end (i + 1) (by omega) (by omega) ?_
       refine wk_of (id) (fun _ => false) (fun _ => false) ?_ ?_ rfl (Nat.zero_le _) (fun k hk => absurd hk (Nat.not_lt_zero _))
       · simp [hG, List.getD_cons_zero, List.getD_cons_succ, -List.getD_eq_getElem?_getD, pureOp]
       · simp [hG, List.getD_cons_zero, List.getD_cons_succ, -List.getD_eq_getElem?_getD, pureOp]
    ·
     try simp [-List.getD_eq_getElem?_getD] at hb22
     refine awpS_exit ?_
     refine thenQ_exit (thenQ_exit ?_)
     refine blockQ_exit (thenQ_norm ?_)
     refine awpS_seq ?_
     refine awpS_regL ?_
     refine awpL_reg T_ok 2 fun K hK => ?_
     simp [hG, List.getD_cons_zero, List.getD_cons_succ, -List.getD_eq_getElem?_getD, pureOp]
     refine hK _ ?_
     clear K hK
     refine awpL_call cal94 rfl rfl (fun _ => rfl) (fun hg => setsR_c g hv h0) (fun hg => ?_) (fun hg => ?_) fun K hK => ?_
     · simp [hG, List.getD_cons_zero, List.getD_cons_succ, -List.getD_eq_getElem?_getD, pureOp]
     · simp [hG, List.getD_cons_zero, List.getD_cons_succ, -List.getD_eq_getElem?_getD, pureOp]
     simp [hG, List.getD_cons_zero, List.getD_cons_succ, -List.getD_eq_getElem?_getD, pureOp]
     refine hK _ ?_
     clear K hK
     refine awpL_reg T_ok 8 fun K hK => ?_
     simp [hG, List.getD_cons_zero, List.getD_cons_succ, -List.getD_eq_getElem?_getD, pureOp]
     refine ⟨Cond.mk (by exact trivial), hK _ ?_⟩
     clear K hK
     refine awpL_nil ?_
     refine awpS_seq ?_
     refine awpS_seq ?_
     refine awpS_reg T_ok fun K hK => ?_
     simp [hG, List.getD_cons_zero, List.getD_cons_succ, -List.getD_eq_getElem?_getD, pureOp]
     refine hK _ ?_
     clear K hK
     refine awpS_cond rfl (fun hb63 => ?_) (fun hb63 => ?_)
     ·
      try simp [-List.getD_eq_getElem?_getD] at hb63
      obtain ⟨e1, e2, e3⟩ := from_no hv h0 (by simpa using hb63)
      refine awpS_seq ?_
      refine awpS_reg T_ok fun K hK => ?_
      simp [hG, List.getD_cons_zero, List.getD_cons_succ, -List.getD_eq_getElem?_getD, pureOp]
      refine ⟨Cond.mk (by exact trivial), hK _ ?_⟩
      clear K hK
      refine awpS_ret ?_
      refine RetOK_of ?_
      simp [hG, List.getD_cons_zero, List.getD_cons_succ, -List.getD_eq_getElem?_getD, pureOp]
      rw [e1, e2, e3]; exact ⟨⟨rfl, rfl, rfl⟩, rfl, rfl⟩
     ·
      try simp [-List.getD_eq_getElem?_getD] at hb63
      have e1 : buildN g = 0 := (by simpa using hb63)
      refine awpS_skip ?_
      refine awpS_seq ?_
      refine awpS_reg T_ok fun K hK => ?_
      simp [hG, List.getD_cons_zero, List.getD_cons_succ, -List.getD_eq_getElem?_getD, pureOp]
      refine ⟨Cond.mk (by exact trivial), hK _ ?_⟩
      clear K hK
      refine awpS_ret ?_
      refine RetOK_of ?_
      simp [hG, List.getD_cons_zero, List.getD_cons_succ, -List.getD_eq_getElem?_getD, pureOp]
      exact e1.symm

set_option maxRecDepth 100000 in
theorem buildR_c (g : Gr) : PC Tryz.prog 41 [.agg 3 (grF g)] (.tup 3 (fun j => [.agg 3 (grF (buildG g)), rowsI (buildS g), .int .i64 (buildN g)].getD j .any)) := by
 refine PC_introS T_ok Tryz.func41 rfl (by simp [Tryz.ntmps41]) fun G hG hR => ?_
 simp only [Tryz.ntmps41, Tryz.results41] at hG ⊢
 simp only [argEnv, Nat.zero_add, Nat.reduceAdd]
 refine awpS_seq ?_
 refine awpS_reg T_ok fun K hK => ?_
 simp [hG, List.getD_cons_zero, List.getD_cons_succ, -List.getD_eq_getElem?_getD, pureOp]
 refine ⟨Cond.mk (by exact trivial), hK _ ?_⟩
 clear K hK
 refine awpS_seq ?_
 refine awpS_seq ?_
 refine awpS_regL ?_
 refine awpL_reg T_ok 1 fun K hK => ?_
 simp [hG, List.getD_cons_zero, List.getD_cons_succ, -List.getD_eq_getElem?_getD, pureOp]
 refine hK _ ?_
 clear K hK
 refine awpL_call cal40 rfl rfl (fun _ => rfl) (fun hg => check9_c g) (fun hg => ?_) (fun hg => ?_) fun K hK => ?_
 · simp [hG, List.getD_cons_zero, List.getD_cons_succ, -List.getD_eq_getElem?_getD, pureOp]
 · simp [hG, List.getD_cons_zero, List.getD_cons_succ, -List.getD_eq_getElem?_getD, pureOp]
 simp [hG, List.getD_cons_zero, List.getD_cons_succ, -List.getD_eq_getElem?_getD, pureOp]
 refine hK _ ?_
 clear K hK
 refine awpL_reg T_ok 1 fun K hK => ?_
 simp [hG, List.getD_cons_zero, List.getD_cons_succ, -List.getD_eq_getElem?_getD, pureOp]
 refine hK _ ?_
 clear K hK
 refine awpL_nil ?_
 refine awpS_cond rfl (fun hb7 => ?_) (fun hb7 => ?_)
 ·
  try simp [-List.getD_eq_getElem?_getD] at hb7
  refine awpS_seq ?_
  refine awpS_reg T_ok fun K hK => ?_
  simp [hG, List.getD_cons_zero, List.getD_cons_succ, -List.getD_eq_getElem?_getD, pureOp]
  refine ⟨Cond.mk (by exact trivial), hK _ ?_⟩
  clear K hK
  refine awpS_ret ?_
  refine RetOK_of ?_
  simp [hG, List.getD_cons_zero, List.getD_cons_succ, -List.getD_eq_getElem?_getD, pureOp]
  obtain ⟨e1, e2, e3⟩ := build_bad (by simpa using hb7); rw [e1, e2, e3]; exact ⟨⟨rfl, rfl, rfl⟩, rfl, rfl⟩
 ·
  try simp [-List.getD_eq_getElem?_getD] at hb7
  have hv : gcheck g = 0 := (by simpa using hb7)
  have hst := (gcheck_valid hv).1.st
  refine awpS_skip ?_
  refine awpS_seq ?_
  refine awpS_seq ?_
  refine awpS_reg T_ok fun K hK => ?_
  simp [hG, List.getD_cons_zero, List.getD_cons_succ, -List.getD_eq_getElem?_getD, pureOp]
  refine hK _ ?_
  clear K hK
  refine awpS_cond rfl (fun hb11 => ?_) (fun hb11 => ?_)
  ·
   try simp [-List.getD_eq_getElem?_getD] at hb11
   refine awpS_seq ?_
   refine awpS_reg T_ok fun K hK => ?_
   simp [hG, List.getD_cons_zero, List.getD_cons_succ, -List.getD_eq_getElem?_getD, pureOp]
   refine ⟨Cond.mk (by exact trivial), hK _ ?_⟩
   clear K hK
   refine awpS_ret ?_
   refine RetOK_of ?_
   simp [hG, List.getD_cons_zero, List.getD_cons_succ, -List.getD_eq_getElem?_getD, pureOp]
   obtain ⟨e1, e2, e3⟩ := build_none (by omega) hb11; rw [e1, e2, e3]; exact ⟨⟨rfl, rfl, rfl⟩, rfl, rfl⟩
  ·
   try simp [-List.getD_eq_getElem?_getD] at hb11
   have h0 : 0 < g.states := (by omega)
   refine awpS_skip ?_
   refine awpS_seq ?_
   refine awpS_draw hR mixed [(7, (1, 0))] ⟨[], [], []⟩ fun mu0 => ?_
   refine awpA_tk T_ok [0, 1] [] (fuel := 8) [1, 0] (by decide +kernel) (by decide +kernel) rfl rfl fun K hK => ?_
   simp [hG, List.getD_cons_zero, List.getD_cons_succ, -List.getD_eq_getElem?_getD, pureOp]
   refine hK _ ?_
   clear K hK
   refine awpA_only (fuel := 7) (i := 2) (by decide +kernel) ?_
   refine awpO_call cal71 rfl rfl rfl (fun _ => rfl) (fun hg => statesR_c g (by omega)) (fun hg => ?_) (fun hg => ?_) fun K hK => ?_
   · simp [hG, List.getD_cons_zero, List.getD_cons_succ, -List.getD_eq_getElem?_getD, pureOp]
   · simp [hG, List.getD_cons_zero, List.getD_cons_succ, -List.getD_eq_getElem?_getD, pureOp]
   simp [hG, List.getD_cons_zero, List.getD_cons_succ, -List.getD_eq_getElem?_getD, pureOp]
   refine hK _ ?_
   clear K hK
   refine awpA_only (fuel := 6) (i := 3) (by decide +kernel) ?_
   refine awpO_call cal70 rfl rfl rfl (fun _ => rfl) (fun hg => fromR_c g hv h0) (fun hg => ?_) (fun hg => ?_) fun K hK => ?_
   · simp [hG, List.getD_cons_zero, List.getD_cons_succ, -List.getD_eq_getElem?_getD, pureOp]
   · simp [hG, List.getD_cons_zero, List.getD_cons_succ, -List.getD_eq_getElem?_getD, pureOp]
   simp [hG, List.getD_cons_zero, List.getD_cons_succ, -List.getD_eq_getElem?_getD, pureOp]
   refine hK _ ?_
   clear K hK
   refine awpA_tk T_ok [4, 5, 6] [] (fuel := 3) [6, 5, 4, 3, 2, 1, 0] (by decide +kernel) (by decide +kernel) rfl rfl fun K hK => ?_
   simp [hG, List.getD_cons_zero, List.getD_cons_succ, -List.getD_eq_getElem?_getD, pureOp]
   refine hK _ ?_
   clear K hK
   refine awpA_only (fuel := 2) (i := 7) (by decide +kernel) ?_
   refine awpO_reg T_ok rfl ?_ fun K hK => ?_
   · simp [hG, List.getD_cons_zero, List.getD_cons_succ, -List.getD_eq_getElem?_getD, pureOp]; try exact trivial
   simp [hG, List.getD_cons_zero, List.getD_cons_succ, -List.getD_eq_getElem?_getD, pureOp]
   refine ⟨Cond.mk (by exact trivial), hK _ ?_⟩
   clear K hK
   refine awpA_tk T_ok [8, 9] [] (fuel := 0) [9, 8, 7, 6, 5, 4, 3, 2, 1, 0] (by decide +kernel) (by decide +kernel) rfl rfl fun K hK => ?_
   simp [hG, List.getD_cons_zero, List.getD_cons_succ, -List.getD_eq_getElem?_getD, pureOp]
   refine hK _ ?_
   clear K hK
   refine awpA_done (by decide +kernel) ?_
   refine awpS_ret ?_
   refine RetOK_of ?_
   simp [hG, List.getD_cons_zero, List.getD_cons_succ, -List.getD_eq_getElem?_getD, pureOp]

end Go.Proofs.YtdojahjhijkbhaaGreatDoor
