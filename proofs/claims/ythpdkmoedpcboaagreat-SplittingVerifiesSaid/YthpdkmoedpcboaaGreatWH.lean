/-
 Walks: rounds checked, by the reference.
-/
import Derived.Test.YthpdkmoedpcboaaGreatWG
namespace Go.Proofs.YthpdkmoedpcboaaGreat
set_option linter.unusedSimpArgs false
set_option linter.unusedVariables false
open Go Go.Lift Go.Proofs
attribute [local simp] List.getD_cons_zero List.getD_cons_succ
set_option maxRecDepth 100000 in
set_option maxHeartbeats 1000000 in
theorem rndRf_c (g : Gr) (v : List Int) (m : Int) (l : List Spl) (hr : RndOK l) : PC Tryz.prog 107 [.agg 3 (grF g), ints v, .int .i64 m, spls l] (.int .i64 (rndN g v m l)) := by
 have hrl := hr.len
 refine PC_introS T_ok Tryz.func107 rfl (by simp [Tryz.ntmps107]) fun G hG hR => ?_
 simp only [Tryz.ntmps107, Tryz.results107] at hG ⊢
 simp only [argEnv, Nat.zero_add, Nat.reduceAdd]
 refine awpS_seq ?_
 refine awpS_reg T_ok fun K hK => ?_
 simp [hG, -List.getD_eq_getElem?_getD, pureOp]
 refine ⟨Cond.mk (by exact trivial), hK _ ?_⟩
 clear K hK
 refine awpS_seq ?_
 refine awpS_seq ?_
 refine awpS_regL ?_
 refine awpL_reg T_ok 3 fun K hK => ?_
 simp [hG, -List.getD_eq_getElem?_getD, pureOp]
 refine hK _ ?_
 clear K hK
 refine awpL_call cal51 rfl rfl (fun _ => rfl) (fun hg => weighted_c g v m) (fun hg => ?_) (fun hg => ?_) fun K hK => ?_
 · simp [hG, -List.getD_eq_getElem?_getD, pureOp]
 · simp [hG, -List.getD_eq_getElem?_getD, pureOp]
 simp [hG, -List.getD_eq_getElem?_getD, pureOp]
 refine hK _ ?_
 clear K hK
 refine awpL_reg T_ok 1 fun K hK => ?_
 simp [hG, -List.getD_eq_getElem?_getD, pureOp]
 refine hK _ ?_
 clear K hK
 refine awpL_nil ?_
 refine awpS_seq ?_
 refine awpS_reg T_ok fun K hK => ?_
 simp [hG, -List.getD_eq_getElem?_getD, pureOp]
 refine hK _ ?_
 clear K hK
 refine awpS_cond rfl (fun hb19 => ?_) (fun hb19 => ?_)
 ·
  try simp [-List.getD_eq_getElem?_getD] at hb19
  refine awpS_seq ?_
  refine awpS_reg T_ok fun K hK => ?_
  simp [hG, -List.getD_eq_getElem?_getD, pureOp]
  refine hK _ ?_
  clear K hK
  refine awpS_ret ?_
  refine RetOK_of ?_
  simp [hG, -List.getD_eq_getElem?_getD, pureOp]
  exact (rnd_1 hb19).symm
 ·
  try simp [-List.getD_eq_getElem?_getD] at hb19
  obtain ⟨hv, hm, hl, hbx⟩ := vecN_zero (eigN_zero (baseN_zero hb19).1).1
  refine awpS_skip ?_
  refine awpS_seq ?_
  refine awpS_seq ?_
  refine awpS_reg T_ok fun K hK => ?_
  simp [hG, -List.getD_eq_getElem?_getD, pureOp]
  refine hK _ ?_
  clear K hK
  refine awpS_cond rfl (fun hb23 => ?_) (fun hb23 => ?_)
  ·
   try simp [-List.getD_eq_getElem?_getD] at hb23
   refine awpS_seq ?_
   refine awpS_reg T_ok fun K hK => ?_
   simp [hG, -List.getD_eq_getElem?_getD, pureOp]
   refine hK _ ?_
   clear K hK
   refine awpS_ret ?_
   refine RetOK_of ?_
   simp [hG, -List.getD_eq_getElem?_getD, pureOp]
   exact (rnd_2 hb19 hb23).symm
  ·
   try simp [-List.getD_eq_getElem?_getD] at hb23
   have hne : l ≠ [] := (by intro h; rw [h] at hb23; simp at hb23)
   refine awpS_skip ?_
   refine awpS_seq ?_
   refine awpS_seq ?_
   refine awpS_reg T_ok fun K hK => ?_
   simp [hG, -List.getD_eq_getElem?_getD, pureOp]
   refine hK _ ?_
   clear K hK
   refine awpS_block ?_
   refine awpS_loop (α := Nat) (fun i => ⟨[(1, ints v), (2, .int .i64 m), (3, spls l), (4, .ptr (0, 0) 0 0), (10, .int .i64 i)], [(0, .one (.arr 1 3 (fun _ => grF g)))], 1⟩) (fun i => i ≤ l.length ∧ ∀ j, j < i → splN g v m l j = 0) (fun i => l.length - i) (0) (⟨Nat.zero_le _, fun j hj => absurd hj (Nat.not_lt_zero _)⟩) ?_ ?_
   ·
    refine wk_of (id) (fun _ => false) (fun _ => false) ?_ ?_ rfl (Nat.zero_le _) (fun k hk => absurd hk (Nat.not_lt_zero _))
    · simp [hG, -List.getD_eq_getElem?_getD, pureOp]
    · simp [hG, -List.getD_eq_getElem?_getD, pureOp]
   ·
    rintro i ⟨hi, hn⟩
    refine awpS_seq ?_
    refine awpS_seq ?_
    refine awpS_reg T_ok fun K hK => ?_
    simp [hG, -List.getD_eq_getElem?_getD, pureOp]
    refine hK _ ?_
    clear K hK
    refine awpS_cond rfl (fun hb27 => ?_) (fun hb27 => ?_)
    ·
     try simp [-List.getD_eq_getElem?_getD] at hb27
     have hil : i < l.length := (by omega)
     have hxm := getD_mem (d := ds) hil
     refine awpS_skip ?_
     refine awpS_seq ?_
     refine awpS_block ?_
     refine awpS_seq ?_
     refine awpS_reg T_ok fun K hK => ?_
     simp [hG, -List.getD_eq_getElem?_getD, pureOp]
     refine ⟨Cond.mk (by simp [-List.getD_eq_getElem?_getD]; omega), hK _ ?_⟩
     clear K hK
     refine awpS_seq ?_
     refine awpS_seq ?_
     refine awpS_reg T_ok fun K hK => ?_
     simp [hG, -List.getD_eq_getElem?_getD, pureOp]
     refine hK _ ?_
     clear K hK
     refine awpS_cond rfl (fun hb43 => ?_) (fun hb43 => ?_)
     ·
      try simp [-List.getD_eq_getElem?_getD] at hb43
      refine awpS_seq ?_
      refine awpS_reg T_ok fun K hK => ?_
      simp [hG, -List.getD_eq_getElem?_getD, pureOp]
      refine hK _ ?_
      clear K hK
      refine awpS_ret ?_
      refine blockQ_ret (thenQ_ret ?_)
      refine thenQ_ret (thenQ_ret ?_)
      refine blockQ_ret (thenQ_ret ?_)
      refine RetOK_of ?_
      simp [hG, -List.getD_eq_getElem?_getD, pureOp]
      exact (rnd_hit hb19 hne hn hil (spl_1 hb43) (by decide)).symm
     ·
      try simp [-List.getD_eq_getElem?_getD] at hb43
      refine awpS_skip ?_
      refine awpS_seq ?_
      refine awpS_seq ?_
      refine awpS_draw hR mixed [] ⟨[], [], []⟩ fun mu0 => ?_
      refine awpA_tk T_ok [0, 1, 2, 3, 4, 5, 6, 7, 8, 9, 10, 11, 12] [] (fuel := 0) [12, 11, 10, 9, 8, 7, 6, 5, 4, 3, 2, 1, 0] (by decide +kernel) (by decide +kernel) rfl rfl fun K hK => ?_
      simp [hG, -List.getD_eq_getElem?_getD, pureOp]
      refine ⟨Cond.mk (by omega), hK _ ?_⟩
      clear K hK
      refine awpA_done (by decide +kernel) ?_
      refine awpS_cond rfl (fun hb56 => ?_) (fun hb56 => ?_)
      ·
       try simp [-List.getD_eq_getElem?_getD] at hb56
       refine awpS_seq ?_
       refine awpS_reg T_ok fun K hK => ?_
       simp [hG, -List.getD_eq_getElem?_getD, pureOp]
       refine hK _ ?_
       clear K hK
       refine awpS_ret ?_
       refine blockQ_ret (thenQ_ret ?_)
       refine thenQ_ret (thenQ_ret ?_)
       refine blockQ_ret (thenQ_ret ?_)
       refine RetOK_of ?_
       simp [hG, -List.getD_eq_getElem?_getD, pureOp]
       exact (rnd_hit hb19 hne hn hil (spl_2 hb43 hb56) (by decide)).symm
      ·
       try simp [-List.getD_eq_getElem?_getD] at hb56
       have hnx : ¬ (0 < i ∧ (l.getD i ds).st ≤ (l.getD (i - 1) ds).st) := fun h => by have := hb56 h.1; omega
       refine awpS_skip ?_
       refine awpS_seq ?_
       refine awpS_seq ?_
       refine awpS_regL ?_
       refine awpL_reg T_ok 2 fun K hK => ?_
       simp [hG, -List.getD_eq_getElem?_getD, pureOp]
       refine hK _ ?_
       clear K hK
       refine awpL_call cal136 rfl rfl (fun _ => rfl) (fun hg => divRf_c g (l.getD i ds) hv hb43 (hr.num _ hxm) (hr.part _ hxm)) (fun hg => ?_) (fun hg => ?_) fun K hK => ?_
       · simp [hG, -List.getD_eq_getElem?_getD, pureOp]
       · simp [hG, -List.getD_eq_getElem?_getD, pureOp]
       simp [hG, -List.getD_eq_getElem?_getD, pureOp]
       refine hK _ ?_
       clear K hK
       refine awpL_reg T_ok 1 fun K hK => ?_
       simp [hG, -List.getD_eq_getElem?_getD, pureOp]
       refine hK _ ?_
       clear K hK
       refine awpL_nil ?_
       refine awpS_cond rfl (fun hb60 => ?_) (fun hb60 => ?_)
       ·
        try simp [-List.getD_eq_getElem?_getD] at hb60
        refine awpS_seq ?_
        refine awpS_reg T_ok fun K hK => ?_
        simp [hG, -List.getD_eq_getElem?_getD, pureOp]
        refine hK _ ?_
        clear K hK
        refine awpS_ret ?_
        refine blockQ_ret (thenQ_ret ?_)
        refine thenQ_ret (thenQ_ret ?_)
        refine blockQ_ret (thenQ_ret ?_)
        refine RetOK_of ?_
        simp [hG, -List.getD_eq_getElem?_getD, pureOp]
        exact (rnd_hit hb19 hne hn hil (spl_3 hb43 hnx hb60) (by decide)).symm
       ·
        try simp [-List.getD_eq_getElem?_getD] at hb60
        have hso := spl_ok hv hr hxm hb43 hb60
        refine awpS_skip ?_
        refine awpS_seq ?_
        refine awpS_regL ?_
        refine awpL_reg T_ok 4 fun K hK => ?_
        simp [hG, -List.getD_eq_getElem?_getD, pureOp]
        refine hK _ ?_
        clear K hK
        refine awpL_call cal108 rfl rfl (fun _ => rfl) (fun hg => shares_c g v m (l.getD i ds) hv hl hbx hm hso.1 hso.2) (fun hg => ?_) (fun hg => ?_) fun K hK => ?_
        · simp [hG, -List.getD_eq_getElem?_getD, pureOp]
        · simp [hG, -List.getD_eq_getElem?_getD, pureOp]
        simp [hG, -List.getD_eq_getElem?_getD, pureOp]
        refine hK _ ?_
        clear K hK
        refine awpL_reg T_ok 5 fun K hK => ?_
        simp [hG, -List.getD_eq_getElem?_getD, pureOp]
        refine hK _ ?_
        clear K hK
        refine awpL_nil ?_
        refine awpS_seq ?_
        refine awpS_reg T_ok fun K hK => ?_
        simp [hG, -List.getD_eq_getElem?_getD, pureOp]
        refine hK _ ?_
        clear K hK
        refine awpS_cond rfl (fun hb70 => ?_) (fun hb70 => ?_)
        ·
         try simp [-List.getD_eq_getElem?_getD] at hb70
         refine awpS_seq ?_
         refine awpS_reg T_ok fun K hK => ?_
         simp [hG, -List.getD_eq_getElem?_getD, pureOp]
         refine hK _ ?_
         clear K hK
         refine awpS_ret ?_
         refine blockQ_ret (thenQ_ret ?_)
         refine thenQ_ret (thenQ_ret ?_)
         refine blockQ_ret (thenQ_ret ?_)
         refine RetOK_of ?_
         simp [hG, -List.getD_eq_getElem?_getD, pureOp]
         exact (rnd_hit hb19 hne hn hil (by rw [spl_4 hb43 hnx hb60, if_pos hb70]) (by decide)).symm
        ·
         try simp [-List.getD_eq_getElem?_getD] at hb70
         refine awpS_skip ?_
         refine awpS_nil ?_
         refine blockQ_norm (thenQ_norm ?_)
         refine awpS_reg T_ok fun K hK => ?_
         simp [hG, -List.getD_eq_getElem?_getD, pureOp]
         refine ⟨Cond.mk (by omega), hK _ ?_⟩
         clear K hK
         refine awpS_nil ?_
         refine round_end (i + 1) (⟨by omega, step_all hn (by rw [spl_4 hb43 hnx hb60, if_neg (by rw [hb70]; simp)])⟩) (by omega) ?_
         refine wk_of (id) (fun _ => false) (fun _ => false) ?_ ?_ rfl (Nat.zero_le _) (fun k hk => absurd hk (Nat.not_lt_zero _))
         · simp [hG, -List.getD_eq_getElem?_getD, pureOp]
         · simp [hG, -List.getD_eq_getElem?_getD, pureOp]
    ·
     try simp [-List.getD_eq_getElem?_getD] at hb27
     refine awpS_exit ?_
     refine thenQ_exit (thenQ_exit ?_)
     refine blockQ_exit (thenQ_norm ?_)
     refine awpS_seq ?_
     refine awpS_reg T_ok fun K hK => ?_
     simp [hG, -List.getD_eq_getElem?_getD, pureOp]
     refine hK _ ?_
     clear K hK
     refine awpS_ret ?_
     refine RetOK_of ?_
     simp [hG, -List.getD_eq_getElem?_getD, pureOp]
     exact (rnd_ok hb19 hne (fun j hj => hn j (by omega))).symm

end Go.Proofs.YthpdkmoedpcboaaGreat
