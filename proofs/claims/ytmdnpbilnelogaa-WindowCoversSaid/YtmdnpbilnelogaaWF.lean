/-
  Walks: the reference's Build, Search, Covers.
-/
import Derived.Test.YtmdnpbilnelogaaWE
namespace Go.Proofs.Ytmdnpbilnelogaa
set_option linter.unusedSimpArgs false
set_option linter.unusedVariables false
open Go Go.Lift Go.Proofs
theorem take_step {S X : Type} {f : S → X → S × Bool} {m : S} {L : List X} {i : Nat} {d : X} (hi : i < L.length) (hc : (goS f m (L.take i)).2 = false) : goS f m (L.take (i + 1)) = f (goS f m (L.take i)).1 (L.getD i d) := by
  have : L.take (i + 1) = L.take i ++ [L.getD i d] := by
    rw [List.take_add_one, List.getElem?_eq_getElem hi]
    simp [List.getD, hi]
  rw [this, go_more hc, go_one]
theorem take_stop {S X : Type} {f : S → X → S × Bool} {m : S} {L : List X} {i : Nat} (h : (goS f m (L.take i)).2 = true) : goS f m L = goS f m (L.take i) := by
  conv => lhs; rw [← List.take_append_drop i L]
  exact go_over h
theorem stepE_some {m : List Ent} {x : Ent} {k : Int} (h : lookE m x.win = some k) : stepE m x = (m, decide (k ≠ x.inp)) := by unfold stepE; rw [h]
theorem stepE_none {m : List Ent} {x : Ent} (h : lookE m x.win = none) : stepE m x = (putE m x, false) := by unfold stepE; rw [h]
theorem take_zero' {S X : Type} {f : S → X → S × Bool} {m : S} {L : List X} : goS f m (L.take 0) = (m, false) := rfl
theorem putE_len {l : List Ent} {x : Ent} : (putE l x).length = l.length + 1 := by rw [(putE_perm (l := l) (x := x)).length_eq]; rfl
theorem shG_mv {l : List Ent} {j q : Nat} (hj : 0 < j) (hjl : j ≤ l.length) : (if q = j then shG l j (j - 1) else shG l j q) = shG l (j - 1) q := by
  rw [shG_step hj hjl]
  by_cases h : q = j
  · rw [if_pos h, if_pos h]
    exact if_neg (by omega)
  · rw [if_neg h, if_neg h]
theorem all_no {α : Type} {f : α → Bool} {L : List α} {i : Nat} {d : α} (hi : i < L.length) (h : f (L.getD i d) = false) : L.all f = false := by
  rw [Bool.eq_false_iff]
  intro h2
  rw [List.all_eq_true] at h2
  rw [h2 _ (getD_mem hi)] at h; cases h
theorem all_yes {α : Type} {f : α → Bool} {L : List α} {d : α} (h : ∀ j, j < L.length → f (L.getD j d) = true) : L.all f = true := by
  rw [List.all_eq_true]
  intro x hx
  obtain ⟨j, hj, rfl⟩ := List.mem_iff_getElem.1 hx
  have := h j hj
  simpa [List.getD, hj] using this
theorem covE_yes {d : Dec} (ha : Asc d.ents) {x : Ent} (h : lowE d.ents x.win < d.ents.length ∧ (d.ents.getD (lowE d.ents x.win) den).win = x.win ∧ (d.ents.getD (lowE d.ents x.win) den).inp = x.inp) : covE d x = true := by
  unfold covE
  rw [decide_eq_true_eq, look_hit ha h.1 h.2.1, h.2.2]
theorem covE_no {d : Dec} (ha : Asc d.ents) {x : Ent} (h : d.ents.length ≤ lowE d.ents x.win ∨ ¬ (d.ents.getD (lowE d.ents x.win) den).win = x.win ∨ ¬ (d.ents.getD (lowE d.ents x.win) den).inp = x.inp) : covE d x = false := by
  unfold covE
  rw [decide_eq_false_iff_not, look_low ha]
  intro h2
  split at h2
  · rename_i h3
    injection h2 with h2
    rcases h with h | h | h
    · omega
    · exact h h3.2
    · exact h h2
  · cases h2
set_option maxRecDepth 100000 in
set_option maxHeartbeats 1000000 in
theorem buildRf_c (e : Enc) (pz fz : Int) : PC Try.prog 27 [.agg 4 (encF e), .int .i64 pz, .int .i64 fz] (.tup 2 (fun j => [.agg 6 (decF (wbX e pz fz)), .int .i64 (wbN e pz fz)].getD j .any)) := by
  refine PC_introS T_ok Try.func27 rfl (by simp [Try.ntmps27]) fun G hG hR => ?_
  simp only [Try.ntmps27, Try.results27] at hG ⊢
  simp only [argEnv, Nat.zero_add, Nat.reduceAdd]
  refine awpS_seq ?_
  refine awpS_reg T_ok fun K hK => ?_
  simp [hG, List.getD_cons_zero, List.getD_cons_succ, -List.getD_eq_getElem?_getD, pureOp]
  refine ⟨Cond.mk (by exact trivial), hK _ ?_⟩
  clear K hK
  refine awpS_seq ?_
  refine awpS_seq ?_
  refine awpS_regL ?_
  refine awpL_reg T_ok 1 fun K hK => ?_
  simp [hG, List.getD_cons_zero, List.getD_cons_succ, -List.getD_eq_getElem?_getD, pureOp]
  refine hK _ ?_
  clear K hK
  refine awpL_call cal35 rfl rfl (fun _ => rfl) (fun hg => checkR_c e) (fun hg => ?_) (fun hg => ?_) fun K hK => ?_
  · simp [hG, List.getD_cons_zero, List.getD_cons_succ, -List.getD_eq_getElem?_getD, pureOp]
  · simp [hG, List.getD_cons_zero, List.getD_cons_succ, -List.getD_eq_getElem?_getD, pureOp]
  simp [hG, List.getD_cons_zero, List.getD_cons_succ, -List.getD_eq_getElem?_getD, pureOp]
  refine hK _ ?_
  clear K hK
  refine awpL_reg T_ok 1 fun K hK => ?_
  simp [hG, List.getD_cons_zero, List.getD_cons_succ, -List.getD_eq_getElem?_getD, pureOp]
  refine hK _ ?_
  clear K hK
  refine awpL_nil ?_
  refine awpS_cond rfl (fun hb16 => ?_) (fun hb16 => ?_)
  ·
    try simp [-List.getD_eq_getElem?_getD] at hb16
    refine awpS_seq ?_
    refine awpS_reg T_ok fun K hK => ?_
    simp [hG, List.getD_cons_zero, List.getD_cons_succ, -List.getD_eq_getElem?_getD, pureOp]
    refine ⟨Cond.mk (by exact trivial), hK _ ?_⟩
    clear K hK
    refine awpS_ret ?_
    refine RetOK_of ?_
    simp [hG, List.getD_cons_zero, List.getD_cons_succ, -List.getD_eq_getElem?_getD, pureOp]
    rw [wbX_no (wb_one hb16) (by decide), wb_one hb16]; simp
  ·
    try simp [-List.getD_eq_getElem?_getD] at hb16
    have hv : checkE e = 0 := (by simpa using hb16)
    refine awpS_skip ?_
    refine awpS_seq ?_
    refine awpS_seq ?_
    refine awpS_regL ?_
    refine awpL_reg T_ok 2 fun K hK => ?_
    simp [hG, List.getD_cons_zero, List.getD_cons_succ, -List.getD_eq_getElem?_getD, pureOp]
    refine hK _ ?_
    clear K hK
    refine awpL_call cal44 rfl rfl (fun _ => rfl) (fun hg => sides_c pz fz) (fun hg => ?_) (fun hg => ?_) fun K hK => ?_
    · simp [hG, List.getD_cons_zero, List.getD_cons_succ, -List.getD_eq_getElem?_getD, pureOp]
    · simp [hG, List.getD_cons_zero, List.getD_cons_succ, -List.getD_eq_getElem?_getD, pureOp]
    simp [hG, List.getD_cons_zero, List.getD_cons_succ, -List.getD_eq_getElem?_getD, pureOp]
    refine hK _ ?_
    clear K hK
    refine awpL_reg T_ok 1 fun K hK => ?_
    simp [hG, List.getD_cons_zero, List.getD_cons_succ, -List.getD_eq_getElem?_getD, pureOp]
    refine hK _ ?_
    clear K hK
    refine awpL_nil ?_
    refine awpS_seq ?_
    refine awpS_reg T_ok fun K hK => ?_
    simp [hG, List.getD_cons_zero, List.getD_cons_succ, -List.getD_eq_getElem?_getD, pureOp]
    refine hK _ ?_
    clear K hK
    refine awpS_cond rfl (fun hb22 => ?_) (fun hb22 => ?_)
    ·
      try simp [-List.getD_eq_getElem?_getD] at hb22
      refine awpS_seq ?_
      refine awpS_reg T_ok fun K hK => ?_
      simp [hG, List.getD_cons_zero, List.getD_cons_succ, -List.getD_eq_getElem?_getD, pureOp]
      refine ⟨Cond.mk (by exact trivial), hK _ ?_⟩
      clear K hK
      refine awpS_ret ?_
      refine RetOK_of ?_
      simp [hG, List.getD_cons_zero, List.getD_cons_succ, -List.getD_eq_getElem?_getD, pureOp]
      have hz := wb_side hv hb22; rw [wbX_no hz (by decide), hz, if_pos hb22]; simp
    ·
      try simp [-List.getD_eq_getElem?_getD] at hb22
      have hs : ¬ badS pz fz := hb22
      have hs2 := not_badS hs
      obtain ⟨p, rfl⟩ := Int.eq_ofNat_of_zero_le hs2.1
      obtain ⟨f, rfl⟩ := Int.eq_ofNat_of_zero_le hs2.2.1
      have hpf : (p + 1 + f) ≤ 16 := (by omega)
      refine awpS_skip ?_
      refine awpS_seq ?_
      refine awpS_seq ?_
      refine awpS_regL ?_
      refine awpL_reg T_ok 5 fun K hK => ?_
      simp [hG, List.getD_cons_zero, List.getD_cons_succ, -List.getD_eq_getElem?_getD, pureOp]
      refine ⟨Cond.mk (by omega), hK _ ?_⟩
      clear K hK
      refine awpL_call cal50 rfl rfl (fun _ => rfl) (fun hg => manyR_c e (p + 1 + f) hv hpf) (fun hg => ?_) (fun hg => ?_) fun K hK => ?_
      · simp [hG, List.getD_cons_zero, List.getD_cons_succ, -List.getD_eq_getElem?_getD, pureOp]
      · simp [hG, List.getD_cons_zero, List.getD_cons_succ, -List.getD_eq_getElem?_getD, pureOp]
      simp [hG, List.getD_cons_zero, List.getD_cons_succ, -List.getD_eq_getElem?_getD, pureOp]
      refine hK _ ?_
      clear K hK
      refine awpL_reg T_ok 1 fun K hK => ?_
      simp [hG, List.getD_cons_zero, List.getD_cons_succ, -List.getD_eq_getElem?_getD, pureOp]
      refine hK _ ?_
      clear K hK
      refine awpL_nil ?_
      refine awpS_cond rfl (fun hb31 => ?_) (fun hb31 => ?_)
      ·
        try simp [-List.getD_eq_getElem?_getD] at hb31
        refine awpS_seq ?_
        refine awpS_reg T_ok fun K hK => ?_
        simp [hG, List.getD_cons_zero, List.getD_cons_succ, -List.getD_eq_getElem?_getD, pureOp]
        refine ⟨Cond.mk (by exact trivial), hK _ ?_⟩
        clear K hK
        refine awpS_ret ?_
        refine RetOK_of ?_
        simp [hG, List.getD_cons_zero, List.getD_cons_succ, -List.getD_eq_getElem?_getD, pureOp]
        have hz := wb_many (p := (p : Int)) (f := (f : Int)) hv hs (by simpa using hb31); rw [wbX_no hz (by decide), hz]; simp
      ·
        try simp [-List.getD_eq_getElem?_getD] at hb31
        have hmn : manyB e (p + 1 + f) = false := (by simpa using hb31)
        have hpl := paths_len hv (p := p) (f := f)
        have hcb : cntN e (p + 1 + f) ≤ 65536 := (by simpa [manyB] using hmn)
        refine awpS_skip ?_
        refine awpS_seq ?_
        refine awpS_regL ?_
        refine awpL_reg T_ok 3 fun K hK => ?_
        simp [hG, List.getD_cons_zero, List.getD_cons_succ, -List.getD_eq_getElem?_getD, pureOp]
        refine hK _ ?_
        clear K hK
        refine awpL_call cal51 rfl rfl (fun _ => rfl) (fun hg => occurring_c e hv p f (p + 1 + f) rfl hpf hmn) (fun hg => ?_) (fun hg => ?_) fun K hK => ?_
        · simp [hG, List.getD_cons_zero, List.getD_cons_succ, -List.getD_eq_getElem?_getD, pureOp]
        · simp [hG, List.getD_cons_zero, List.getD_cons_succ, -List.getD_eq_getElem?_getD, pureOp]
        simp [hG, List.getD_cons_zero, List.getD_cons_succ, -List.getD_eq_getElem?_getD, pureOp]
        refine hK _ ?_
        clear K hK
        refine awpL_reg T_ok 1 fun K hK => ?_
        simp [hG, List.getD_cons_zero, List.getD_cons_succ, -List.getD_eq_getElem?_getD, pureOp]
        refine hK _ ?_
        clear K hK
        refine awpL_nil ?_
        refine awpS_seq ?_
        refine awpS_reg T_ok fun K hK => ?_
        simp [hG, List.getD_cons_zero, List.getD_cons_succ, -List.getD_eq_getElem?_getD, pureOp]
        refine hK _ ?_
        clear K hK
        refine awpS_seq ?_
        refine awpS_seq ?_
        refine awpS_reg T_ok fun K hK => ?_
        simp [hG, List.getD_cons_zero, List.getD_cons_succ, -List.getD_eq_getElem?_getD, pureOp]
        refine hK _ ?_
        clear K hK
        refine awpS_block ?_
        refine awpS_loop (α := Nat) (fun i => ⟨[(1, .int .i64 (p : Nat)), (2, .int .i64 (f : Nat)), (3, .ptr (0, 0) 0 0), (6, .ptr (1, 0) 0 0), (9, ents (pathsL e p f)), (10, .sl (2, 0) 0 (goS stepE [] ((pathsL e p f).take i)).1.length), (11, .int .i64 (i : Nat))], [(0, .one (.arr 1 4 (fun _ => encF e))), (1, .one (.arr 1 6 (fun _ j => decF dd0 j))), (2, .one (.arr (goS stepE [] ((pathsL e p f).take i)).1.length 2 (fun q j => entF ((goS stepE [] ((pathsL e p f).take i)).1.getD q den) j)))], 3⟩) (fun i => i ≤ (pathsL e p f).length ∧ (goS stepE [] ((pathsL e p f).take i)).2 = false) (fun i => (pathsL e p f).length - i) (0) (⟨Nat.zero_le _, rfl⟩) ?_ ?_
        ·
          refine wk_of (id) (fun _ => false) (fun _ => false) ?_ ?_ rfl (Nat.zero_le _) (fun k hk => absurd hk (Nat.not_lt_zero _))
          · simp [hG, goS_nil, List.getD_cons_zero, List.getD_cons_succ, -List.getD_eq_getElem?_getD]
          · simp [hG, goS_nil, List.getD_cons_zero, List.getD_cons_succ, -List.getD_eq_getElem?_getD]
        ·
          rintro i ⟨hi, hc⟩
          have hasc : Asc (goS stepE [] ((pathsL e p f).take i)).1 := go_asc _ asc_nil
          have hgl := go_len ((pathsL e p f).take i) (m := [])
          rw [List.length_take] at hgl
          simp only [List.length_nil, Nat.zero_add] at hgl
          have hll := lowE_le (l := (goS stepE [] ((pathsL e p f).take i)).1) (w := ((pathsL e p f).getD i den).win)
          refine awpS_seq ?_
          refine awpS_seq ?_
          refine awpS_reg T_ok fun K hK => ?_
          simp [hG, List.getD_cons_zero, List.getD_cons_succ, -List.getD_eq_getElem?_getD, pureOp]
          refine hK _ ?_
          clear K hK
          refine awpS_cond rfl (fun hb41 => ?_) (fun hb41 => ?_)
          ·
            try simp [-List.getD_eq_getElem?_getD] at hb41
            have hil : i < (pathsL e p f).length := (by omega)
            have hts := take_step (f := stepE) (m := []) (d := den) hil hc
            refine awpS_skip ?_
            refine awpS_seq ?_
            refine awpS_block ?_
            refine awpS_seq ?_
            refine awpS_regL ?_
            refine awpL_reg T_ok 6 fun K hK => ?_
            simp [hG, List.getD_cons_zero, List.getD_cons_succ, -List.getD_eq_getElem?_getD, pureOp]
            refine ⟨Cond.mk (by omega), hK _ ?_⟩
            clear K hK
            refine awpL_callB (mem [2]) cal47 (by simp [flat]) rfl rfl (fun _ => rfl) (fun hg => place_c (goS stepE [] ((pathsL e p f).take i)).1 ((pathsL e p f).getD i den).win (by omega) hasc) (fun hg => ?_) (fun hg => ?_) fun K hK => ?_
            · simp [hG, List.getD_cons_zero, List.getD_cons_succ, -List.getD_eq_getElem?_getD, pureOp]
            · simp [hG, List.getD_cons_zero, List.getD_cons_succ, -List.getD_eq_getElem?_getD, pureOp]
            simp [hG, List.getD_cons_zero, List.getD_cons_succ, -List.getD_eq_getElem?_getD, pureOp]
            refine hK _ ?_
            clear K hK
            refine awpL_reg T_ok 1 fun K hK => ?_
            simp [hG, List.getD_cons_zero, List.getD_cons_succ, -List.getD_eq_getElem?_getD, pureOp]
            refine hK _ ?_
            clear K hK
            refine awpL_nil ?_
            refine awpS_seq ?_
            refine awpS_seq ?_
            refine awpS_draw hR mixed [] ⟨[], [], []⟩ fun mu0 => ?_
            refine awpA_tk T_ok [0, 1, 2, 3, 4, 5, 6, 7, 8, 9, 10, 11, 12, 13, 14, 15, 16] [] (fuel := 0) [16, 15, 14, 13, 12, 11, 10, 9, 8, 7, 6, 5, 4, 3, 2, 1, 0] (by decide +kernel) (by decide +kernel) rfl rfl fun K hK => ?_
            simp [hG, List.getD_cons_zero, List.getD_cons_succ, -List.getD_eq_getElem?_getD, pureOp]
            refine ⟨Cond.mk (by omega), hK _ ?_⟩
            clear K hK
            refine awpA_done (by decide +kernel) ?_
            refine awpS_cond rfl (fun hb67 => ?_) (fun hb67 => ?_)
            ·
              try simp [-List.getD_eq_getElem?_getD] at hb67
              have hlk := look_hit hasc hb67.1 hb67.2
              have hse := stepE_some hlk
              refine awpS_seq ?_
              refine awpS_seq ?_
              refine awpS_draw hR mixed [] ⟨[], [], []⟩ fun mu0 => ?_
              refine awpA_tk T_ok [0, 1, 2, 3, 4, 5, 6, 7, 8, 9, 10] [] (fuel := 0) [10, 9, 8, 7, 6, 5, 4, 3, 2, 1, 0] (by decide +kernel) (by decide +kernel) rfl rfl fun K hK => ?_
              simp [hG, List.getD_cons_zero, List.getD_cons_succ, -List.getD_eq_getElem?_getD, pureOp]
              refine ⟨Cond.mk (by omega), hK _ ?_⟩
              clear K hK
              refine awpA_done (by decide +kernel) ?_
              refine awpS_cond rfl (fun hb78 => ?_) (fun hb78 => ?_)
              ·
                try simp [-List.getD_eq_getElem?_getD] at hb78
                have hst : (goS stepE [] ((pathsL e p f).take (i + 1))).2 = true := (by rw [hts, hse]; simpa using hb78)
                have hstop := take_stop hst
                skip
                refine awpS_seq ?_
                refine awpS_reg T_ok fun K hK => ?_
                simp [hG, List.getD_cons_zero, List.getD_cons_succ, -List.getD_eq_getElem?_getD, pureOp]
                refine ⟨Cond.mk (by exact trivial), hK _ ?_⟩
                clear K hK
                refine awpS_ret ?_
                refine blockQ_ret (thenQ_ret ?_)
                refine thenQ_ret (thenQ_ret ?_)
                refine blockQ_ret (thenQ_ret ?_)
                refine RetOK_of ?_
                simp [hG, List.getD_cons_zero, List.getD_cons_succ, -List.getD_eq_getElem?_getD, pureOp]
                have hz := wb_stop (p := (p : Int)) (f := (f : Int)) hv hs (by simpa using hmn) (by rw [Int.toNat_natCast, Int.toNat_natCast]; show (goS stepE [] (pathsL e p f)).2 = true; rw [hstop]; exact hst); rw [wbX_no hz (by decide), hz]; simp
              ·
                try simp [-List.getD_eq_getElem?_getD] at hb78
                refine awpS_skip ?_
                refine awpS_exit ?_
                refine blockQ_exit (thenQ_norm ?_)
                refine awpS_reg T_ok fun K hK => ?_
                simp [hG, List.getD_cons_zero, List.getD_cons_succ, -List.getD_eq_getElem?_getD, pureOp]
                refine ⟨Cond.mk (by omega), hK _ ?_⟩
                clear K hK
                refine awpS_nil ?_
                refine round_end (i + 1) (⟨by omega, by rw [hts, hse]; simpa using hb78⟩) (by omega) ?_
                refine wk_of (id) (fun _ => false) (fun _ => false) ?_ ?_ rfl (Nat.zero_le _) (fun k hk => absurd hk (Nat.not_lt_zero _))
                · rw [hts, hse]; simp [hG, List.getD_cons_zero, List.getD_cons_succ, -List.getD_eq_getElem?_getD]
                · rw [hts, hse]; simp [hG, List.getD_cons_zero, List.getD_cons_succ, -List.getD_eq_getElem?_getD]
            ·
              try simp [-List.getD_eq_getElem?_getD] at hb67
              have hlk := look_miss hasc (w := ((pathsL e p f).getD i den).win) (fun h => hb67 h.1 h.2)
              have hse := stepE_none hlk
              refine awpS_skip ?_
              refine awpS_seq ?_
              refine awpS_reg T_ok fun K hK => ?_
              simp [hG, List.getD_cons_zero, List.getD_cons_succ, -List.getD_eq_getElem?_getD, pureOp]
              refine ⟨Cond.mk (by simp [-List.getD_eq_getElem?_getD]; omega), hK _ ?_⟩
              clear K hK
              refine awpS_seq ?_
              refine awpS_seq ?_
              refine awpS_reg T_ok fun K hK => ?_
              simp [hG, List.getD_cons_zero, List.getD_cons_succ, -List.getD_eq_getElem?_getD, pureOp]
              refine ⟨Cond.mk (by omega), hK _ ?_⟩
              clear K hK
              refine awpS_block ?_
              refine awpS_loop (α := Nat) (fun j => ⟨[(1, .int .i64 (p : Nat)), (2, .int .i64 (f : Nat)), (3, .ptr (0, 0) 0 0), (6, .ptr (1, 0) 0 0), (9, ents (pathsL e p f)), (10, .sl (2, 0) 0 ((goS stepE [] ((pathsL e p f).take i)).1.length + 1)), (11, .int .i64 (i : Nat)), (12, .int .i64 ((lowE (goS stepE [] ((pathsL e p f).take i)).1 ((pathsL e p f).getD i den).win) : Nat)), (13, .int .i64 (j : Nat))], [(0, .one (.arr 1 4 (fun _ => encF e))), (1, .one (.arr 1 6 (fun _ j => decF dd0 j))), (2, .one (.arr ((goS stepE [] ((pathsL e p f).take i)).1.length + 1) 2 (fun q c => entF (shG (goS stepE [] ((pathsL e p f).take i)).1 (j) q) c)))], 3⟩) (fun j => (lowE (goS stepE [] ((pathsL e p f).take i)).1 ((pathsL e p f).getD i den).win) ≤ j ∧ j ≤ (goS stepE [] ((pathsL e p f).take i)).1.length) (fun j => j) ((goS stepE [] ((pathsL e p f).take i)).1.length) (⟨hll, Nat.le_refl _⟩) ?_ ?_
              ·
                refine wk_of (fun k => if k = 2 then 4 else k) (fun _ => false) (fun _ => false) ?_ ?_ rfl (Nat.zero_le _) (fun k hk => absurd hk (Nat.not_lt_zero _))
                · simp [hG, List.getD_cons_zero, List.getD_cons_succ, -List.getD_eq_getElem?_getD, pureOp]
                · simp [hG, List.getD_cons_zero, List.getD_cons_succ, -List.getD_eq_getElem?_getD]; exact fun i hi => by rw [shG_start hi]; exact ⟨app_ent (j := 0) hi rfl, app_ent (j := 1) hi rfl⟩
              ·
                rintro j ⟨hkj, hjl⟩
                refine awpS_seq ?_
                refine awpS_seq ?_
                refine awpS_reg T_ok fun K hK => ?_
                simp [hG, List.getD_cons_zero, List.getD_cons_succ, -List.getD_eq_getElem?_getD, pureOp]
                refine hK _ ?_
                clear K hK
                refine awpS_cond rfl (fun hb89 => ?_) (fun hb89 => ?_)
                ·
                  try simp [-List.getD_eq_getElem?_getD] at hb89
                  refine awpS_skip ?_
                  refine awpS_seq ?_
                  refine awpS_block ?_
                  refine awpS_reg T_ok fun K hK => ?_
                  simp [hG, List.getD_cons_zero, List.getD_cons_succ, -List.getD_eq_getElem?_getD, pureOp]
                  refine ⟨Cond.mk (by omega), hK _ ?_⟩
                  clear K hK
                  refine awpS_nil ?_
                  refine blockQ_norm (thenQ_norm ?_)
                  refine awpS_reg T_ok fun K hK => ?_
                  simp [hG, List.getD_cons_zero, List.getD_cons_succ, -List.getD_eq_getElem?_getD, pureOp]
                  refine ⟨Cond.mk (by omega), hK _ ?_⟩
                  clear K hK
                  refine awpS_nil ?_
                  refine round_end (j - 1) (⟨by omega, by omega⟩) (by omega) ?_
                  refine wk_of (id) (fun _ => false) (fun _ => false) ?_ ?_ rfl (Nat.zero_le _) (fun k hk => absurd hk (Nat.not_lt_zero _))
                  · simp [hG, List.getD_cons_zero, List.getD_cons_succ, -List.getD_eq_getElem?_getD]; omega
                  · simp [hG, List.getD_cons_zero, List.getD_cons_succ, -List.getD_eq_getElem?_getD]; exact fun q hq => by rw [← shG_mv (l := (goS stepE [] ((pathsL e p f).take i)).1) (j := j) (q := q) (by omega) hjl]; split <;> exact ⟨rfl, rfl⟩
                ·
                  try simp [-List.getD_eq_getElem?_getD] at hb89
                  obtain rfl : j = (lowE (goS stepE [] ((pathsL e p f).take i)).1 ((pathsL e p f).getD i den).win) := (by omega)
                  refine awpS_exit ?_
                  refine thenQ_exit (thenQ_exit ?_)
                  refine blockQ_exit (thenQ_norm ?_)
                  refine awpS_reg T_ok fun K hK => ?_
                  simp [hG, List.getD_cons_zero, List.getD_cons_succ, -List.getD_eq_getElem?_getD, pureOp]
                  refine ⟨Cond.mk (by omega), hK _ ?_⟩
                  clear K hK
                  refine awpS_nil ?_
                  refine blockQ_norm (thenQ_norm ?_)
                  refine awpS_reg T_ok fun K hK => ?_
                  simp [hG, List.getD_cons_zero, List.getD_cons_succ, -List.getD_eq_getElem?_getD, pureOp]
                  refine ⟨Cond.mk (by omega), hK _ ?_⟩
                  clear K hK
                  refine awpS_nil ?_
                  refine round_end (i + 1) (⟨by omega, by rw [hts, hse]⟩) (by omega) ?_
                  refine wk_of (id) (fun _ => false) (fun _ => false) ?_ ?_ rfl (Nat.zero_le _) (fun k hk => absurd hk (Nat.not_lt_zero _))
                  · rw [hts, hse]; simp [hG, List.getD_cons_zero, List.getD_cons_succ, -List.getD_eq_getElem?_getD]; exact putE_len.symm
                  · rw [hts, hse]; simp [hG, List.getD_cons_zero, List.getD_cons_succ, -List.getD_eq_getElem?_getD]; exact ⟨Nat.le_of_eq putE_len, fun q hq => by rw [shG_put (by rw [putE_len] at hq; exact hq)]; split <;> exact ⟨rfl, rfl⟩⟩
          ·
            try simp [-List.getD_eq_getElem?_getD] at hb41
            obtain rfl : i = (pathsL e p f).length := (by omega)
            rw [List.take_length] at *
            refine awpS_exit ?_
            refine thenQ_exit (thenQ_exit ?_)
            refine blockQ_exit (thenQ_norm ?_)
            refine awpS_seq ?_
            refine awpS_reg T_ok fun K hK => ?_
            simp [hG, List.getD_cons_zero, List.getD_cons_succ, -List.getD_eq_getElem?_getD, pureOp]
            refine ⟨Cond.mk (by exact trivial), hK _ ?_⟩
            clear K hK
            refine awpS_ret ?_
            refine RetOK_of ?_
            simp [hG, List.getD_cons_zero, List.getD_cons_succ, -List.getD_eq_getElem?_getD, pureOp]
            have hz := wb_ok (p := (p : Int)) (f := (f : Int)) hv hs (by simpa using hmn) (by rw [Int.toNat_natCast, Int.toNat_natCast]; exact hc); rw [wbX_ok hz, hz]; simp only [Int.toNat_natCast, true_and, and_true]; exact ⟨rfl, Nat.le_refl _, fun _ _ => ⟨rfl, rfl⟩⟩

set_option maxRecDepth 100000 in
theorem searchRf_c (e : Enc) (most : Int) : PC Try.prog 28 [.agg 4 (encF e), .int .i64 most] (.tup 2 (fun j => [.agg 6 (decF (searchX e most)), .int .i64 (searchN e most)].getD j .any)) := by
  refine PC_introS T_ok Try.func28 rfl (by simp [Try.ntmps28]) fun G hG hR => ?_
  simp only [Try.ntmps28, Try.results28] at hG ⊢
  simp only [argEnv, Nat.zero_add, Nat.reduceAdd]
  refine awpS_seq ?_
  refine awpS_reg T_ok fun K hK => ?_
  simp [hG, List.getD_cons_zero, List.getD_cons_succ, -List.getD_eq_getElem?_getD, pureOp]
  refine ⟨Cond.mk (by exact trivial), hK _ ?_⟩
  clear K hK
  refine awpS_seq ?_
  refine awpS_seq ?_
  refine awpS_regL ?_
  refine awpL_reg T_ok 1 fun K hK => ?_
  simp [hG, List.getD_cons_zero, List.getD_cons_succ, -List.getD_eq_getElem?_getD, pureOp]
  refine hK _ ?_
  clear K hK
  refine awpL_call cal35 rfl rfl (fun _ => rfl) (fun hg => checkR_c e) (fun hg => ?_) (fun hg => ?_) fun K hK => ?_
  · simp [hG, List.getD_cons_zero, List.getD_cons_succ, -List.getD_eq_getElem?_getD, pureOp]
  · simp [hG, List.getD_cons_zero, List.getD_cons_succ, -List.getD_eq_getElem?_getD, pureOp]
  simp [hG, List.getD_cons_zero, List.getD_cons_succ, -List.getD_eq_getElem?_getD, pureOp]
  refine hK _ ?_
  clear K hK
  refine awpL_reg T_ok 1 fun K hK => ?_
  simp [hG, List.getD_cons_zero, List.getD_cons_succ, -List.getD_eq_getElem?_getD, pureOp]
  refine hK _ ?_
  clear K hK
  refine awpL_nil ?_
  refine awpS_cond rfl (fun hb12 => ?_) (fun hb12 => ?_)
  ·
    try simp [-List.getD_eq_getElem?_getD] at hb12
    refine awpS_seq ?_
    refine awpS_reg T_ok fun K hK => ?_
    simp [hG, List.getD_cons_zero, List.getD_cons_succ, -List.getD_eq_getElem?_getD, pureOp]
    refine ⟨Cond.mk (by exact trivial), hK _ ?_⟩
    clear K hK
    refine awpS_ret ?_
    refine RetOK_of ?_
    simp [hG, List.getD_cons_zero, List.getD_cons_succ, -List.getD_eq_getElem?_getD, pureOp]
    obtain ⟨e1, e2⟩ := srch_one (most := most) hb12; rw [e1, e2]; simp
  ·
    try simp [-List.getD_eq_getElem?_getD] at hb12
    have hv : checkE e = 0 := (by simpa using hb12)
    refine awpS_skip ?_
    refine awpS_seq ?_
    refine awpS_seq ?_
    refine awpS_reg T_ok fun K hK => ?_
    simp [hG, List.getD_cons_zero, List.getD_cons_succ, -List.getD_eq_getElem?_getD, pureOp]
    refine hK _ ?_
    clear K hK
    refine awpS_cond rfl (fun hb19 => ?_) (fun hb19 => ?_)
    ·
      try simp [-List.getD_eq_getElem?_getD] at hb19
      refine awpS_seq ?_
      refine awpS_reg T_ok fun K hK => ?_
      simp [hG, List.getD_cons_zero, List.getD_cons_succ, -List.getD_eq_getElem?_getD, pureOp]
      refine ⟨Cond.mk (by exact trivial), hK _ ?_⟩
      clear K hK
      refine awpS_ret ?_
      refine RetOK_of ?_
      simp [hG, List.getD_cons_zero, List.getD_cons_succ, -List.getD_eq_getElem?_getD, pureOp]
      obtain ⟨e1, e2⟩ := srch_range hv hb19; rw [e1, e2]; simp
    ·
      try simp [-List.getD_eq_getElem?_getD] at hb19
      obtain ⟨M, rfl⟩ := Int.eq_ofNat_of_zero_le (a := most) (by omega)
      refine awpS_skip ?_
      refine awpS_seq ?_
      refine awpS_seq ?_
      refine awpS_reg T_ok fun K hK => ?_
      simp [hG, List.getD_cons_zero, List.getD_cons_succ, -List.getD_eq_getElem?_getD, pureOp]
      refine hK _ ?_
      clear K hK
      refine awpS_block ?_
      refine awpS_loop (α := Nat) (fun n => ⟨[(1, .int .i64 (M : Nat)), (2, .ptr (0, 0) 0 0), (4, .ptr (1, 0) 0 0), (6, .int .i64 (n : Nat))], [(0, .one (.arr 1 4 (fun _ => encF e))), (1, .one (.arr 1 6 (fun _ j => decF dd0 j)))], 2⟩) (fun n => n ≤ M + 1 ∧ NoW e n 0) (fun n => M + 1 - n) (0) (⟨Nat.zero_le _, NoW.zero⟩) ?_ ?_
      ·
        refine wk_of (id) (fun _ => false) (fun _ => false) ?_ ?_ rfl (Nat.zero_le _) (fun k hk => absurd hk (Nat.not_lt_zero _))
        · simp [hG, List.getD_cons_zero, List.getD_cons_succ, -List.getD_eq_getElem?_getD, pureOp]
        · simp [hG, List.getD_cons_zero, List.getD_cons_succ, -List.getD_eq_getElem?_getD, pureOp]
      ·
        rintro n ⟨hn, h1⟩
        refine awpS_seq ?_
        refine awpS_seq ?_
        refine awpS_reg T_ok fun K hK => ?_
        simp [hG, List.getD_cons_zero, List.getD_cons_succ, -List.getD_eq_getElem?_getD, pureOp]
        refine hK _ ?_
        clear K hK
        refine awpS_cond rfl (fun hb23 => ?_) (fun hb23 => ?_)
        ·
          try simp [-List.getD_eq_getElem?_getD] at hb23
          have hnM : n ≤ M := (by omega)
          refine awpS_skip ?_
          refine awpS_seq ?_
          refine awpS_block ?_
          refine awpS_seq ?_
          refine awpS_reg T_ok fun K hK => ?_
          simp [hG, List.getD_cons_zero, List.getD_cons_succ, -List.getD_eq_getElem?_getD, pureOp]
          refine hK _ ?_
          clear K hK
          refine awpS_block ?_
          refine awpS_loop (α := Nat) (fun f => ⟨[(1, .int .i64 (M : Nat)), (2, .ptr (0, 0) 0 0), (4, .ptr (1, 0) 0 0), (6, .int .i64 (n : Nat)), (7, .int .i64 (f : Nat))], [(0, .one (.arr 1 4 (fun _ => encF e))), (1, .one (.arr 1 6 (fun _ j => decF dd0 j)))], 2⟩) (fun f => f ≤ n + 1 ∧ NoW e n f) (fun f => n + 1 - f) (0) (⟨Nat.zero_le _, h1⟩) ?_ ?_
          ·
            refine wk_of (id) (fun _ => false) (fun _ => false) ?_ ?_ rfl (Nat.zero_le _) (fun k hk => absurd hk (Nat.not_lt_zero _))
            · simp [hG, List.getD_cons_zero, List.getD_cons_succ, -List.getD_eq_getElem?_getD, pureOp]
            · simp [hG, List.getD_cons_zero, List.getD_cons_succ, -List.getD_eq_getElem?_getD, pureOp]
          ·
            rintro f ⟨hf, h2⟩
            refine awpS_seq ?_
            refine awpS_seq ?_
            refine awpS_reg T_ok fun K hK => ?_
            simp [hG, List.getD_cons_zero, List.getD_cons_succ, -List.getD_eq_getElem?_getD, pureOp]
            refine hK _ ?_
            clear K hK
            refine awpS_cond rfl (fun hb28 => ?_) (fun hb28 => ?_)
            ·
              try simp [-List.getD_eq_getElem?_getD] at hb28
              have hfn : f ≤ n := (by omega)
              refine awpS_skip ?_
              refine awpS_seq ?_
              refine awpS_block ?_
              refine awpS_seq ?_
              refine awpS_regL ?_
              refine awpL_reg T_ok 5 fun K hK => ?_
              simp [hG, List.getD_cons_zero, List.getD_cons_succ, -List.getD_eq_getElem?_getD, pureOp]
              refine ⟨Cond.mk (by omega), hK _ ?_⟩
              clear K hK
              refine awpL_call cal27 rfl rfl (fun _ => rfl) (fun hg => buildRf_c e ((n : Int) - f) f) (fun hg => ?_) (fun hg => ?_) fun K hK => ?_
              · simp [hG, List.getD_cons_zero, List.getD_cons_succ, -List.getD_eq_getElem?_getD, pureOp]
              · simp [hG, List.getD_cons_zero, List.getD_cons_succ, -List.getD_eq_getElem?_getD, pureOp]
              simp [hG, List.getD_cons_zero, List.getD_cons_succ, -List.getD_eq_getElem?_getD, pureOp]
              refine hK _ ?_
              clear K hK
              refine awpL_reg T_ok 6 fun K hK => ?_
              simp [hG, List.getD_cons_zero, List.getD_cons_succ, -List.getD_eq_getElem?_getD, pureOp]
              refine ⟨Cond.mk (by exact trivial), hK _ ?_⟩
              clear K hK
              refine awpL_nil ?_
              refine awpS_seq ?_
              refine awpS_reg T_ok fun K hK => ?_
              simp [hG, List.getD_cons_zero, List.getD_cons_succ, -List.getD_eq_getElem?_getD, pureOp]
              refine hK _ ?_
              clear K hK
              refine awpS_cond rfl (fun hb41 => ?_) (fun hb41 => ?_)
              ·
                try simp [-List.getD_eq_getElem?_getD] at hb41
                have hso := srch_hit h2 hnM hfn (by simpa using hb41)
                refine awpS_seq ?_
                refine awpS_reg T_ok fun K hK => ?_
                simp [hG, List.getD_cons_zero, List.getD_cons_succ, -List.getD_eq_getElem?_getD, pureOp]
                refine ⟨Cond.mk (by exact trivial), hK _ ?_⟩
                clear K hK
                refine awpS_ret ?_
                refine blockQ_ret (thenQ_ret ?_)
                refine thenQ_ret (thenQ_ret ?_)
                refine blockQ_ret (thenQ_ret ?_)
                refine blockQ_ret (thenQ_ret ?_)
                refine thenQ_ret (thenQ_ret ?_)
                refine blockQ_ret (thenQ_ret ?_)
                refine RetOK_of ?_
                simp [hG, List.getD_cons_zero, List.getD_cons_succ, -List.getD_eq_getElem?_getD, pureOp]
                obtain ⟨e1, e2⟩ := srch_at hv hb19 hso; rw [e1, e2]; exact ⟨⟨rfl, rfl, rfl, rfl, rfl, Clo.le _ Clo_ents⟩, rfl⟩
              ·
                try simp [-List.getD_eq_getElem?_getD] at hb41
                refine awpS_skip ?_
                refine awpS_nil ?_
                refine blockQ_norm (thenQ_norm ?_)
                refine awpS_reg T_ok fun K hK => ?_
                simp [hG, List.getD_cons_zero, List.getD_cons_succ, -List.getD_eq_getElem?_getD, pureOp]
                refine ⟨Cond.mk (by omega), hK _ ?_⟩
                clear K hK
                refine awpS_nil ?_
                refine round_end (f + 1) (⟨by omega, h2.next (by simpa using hb41)⟩) (by omega) ?_
                refine wk_of (id) (fun _ => false) (fun _ => false) ?_ ?_ rfl (Nat.zero_le _) (fun k hk => absurd hk (Nat.not_lt_zero _))
                · simp [hG, List.getD_cons_zero, List.getD_cons_succ, -List.getD_eq_getElem?_getD, pureOp]
                · simp [hG, List.getD_cons_zero, List.getD_cons_succ, -List.getD_eq_getElem?_getD, pureOp]
            ·
              try simp [-List.getD_eq_getElem?_getD] at hb28
              obtain rfl : f = n + 1 := (by omega)
              refine awpS_exit ?_
              refine thenQ_exit (thenQ_exit ?_)
              refine blockQ_exit (thenQ_norm ?_)
              refine awpS_nil ?_
              refine blockQ_norm (thenQ_norm ?_)
              refine awpS_reg T_ok fun K hK => ?_
              simp [hG, List.getD_cons_zero, List.getD_cons_succ, -List.getD_eq_getElem?_getD, pureOp]
              refine ⟨Cond.mk (by omega), hK _ ?_⟩
              clear K hK
              refine awpS_nil ?_
              refine round_end (n + 1) (⟨by omega, h2.up⟩) (by omega) ?_
              refine wk_of (id) (fun _ => false) (fun _ => false) ?_ ?_ rfl (Nat.zero_le _) (fun k hk => absurd hk (Nat.not_lt_zero _))
              · simp [hG, List.getD_cons_zero, List.getD_cons_succ, -List.getD_eq_getElem?_getD, pureOp]
              · simp [hG, List.getD_cons_zero, List.getD_cons_succ, -List.getD_eq_getElem?_getD, pureOp]
        ·
          try simp [-List.getD_eq_getElem?_getD] at hb23
          obtain rfl : n = M + 1 := (by omega)
          have hso := srch_none h1
          refine awpS_exit ?_
          refine thenQ_exit (thenQ_exit ?_)
          refine blockQ_exit (thenQ_norm ?_)
          refine awpS_seq ?_
          refine awpS_reg T_ok fun K hK => ?_
          simp [hG, List.getD_cons_zero, List.getD_cons_succ, -List.getD_eq_getElem?_getD, pureOp]
          refine ⟨Cond.mk (by exact trivial), hK _ ?_⟩
          clear K hK
          refine awpS_ret ?_
          refine RetOK_of ?_
          simp [hG, List.getD_cons_zero, List.getD_cons_succ, -List.getD_eq_getElem?_getD, pureOp]
          obtain ⟨e1, e2⟩ := srch_nil hv hb19 hso; rw [e1, e2]; simp

set_option maxRecDepth 100000 in
theorem coversRf_c (d : Dec) (e : Enc) : PC Try.prog 30 [.agg 6 (decF d), .agg 4 (encF e)] (.tup 2 (fun j => [.bool (coversB d e), .int .i64 (coversN d e)].getD j .any)) := by
  refine PC_introS T_ok Try.func30 rfl (by simp [Try.ntmps30]) fun G hG hR => ?_
  simp only [Try.ntmps30, Try.results30] at hG ⊢
  simp only [argEnv, Nat.zero_add, Nat.reduceAdd]
  refine awpS_seq ?_
  refine awpS_reg T_ok fun K hK => ?_
  simp [hG, List.getD_cons_zero, List.getD_cons_succ, -List.getD_eq_getElem?_getD, pureOp]
  refine ⟨Cond.mk (by simp [-List.getD_eq_getElem?_getD]), hK _ ?_⟩
  clear K hK
  refine awpS_seq ?_
  refine awpS_seq ?_
  refine awpS_regL ?_
  refine awpL_reg T_ok 1 fun K hK => ?_
  simp [hG, List.getD_cons_zero, List.getD_cons_succ, -List.getD_eq_getElem?_getD, pureOp]
  refine hK _ ?_
  clear K hK
  refine awpL_call cal17 rfl rfl (fun _ => rfl) (fun hg => checkDR_c d) (fun hg => ?_) (fun hg => ?_) fun K hK => ?_
  · simp [hG, List.getD_cons_zero, List.getD_cons_succ, -List.getD_eq_getElem?_getD, pureOp]
  · simp [hG, List.getD_cons_zero, List.getD_cons_succ, -List.getD_eq_getElem?_getD, pureOp]
  simp [hG, List.getD_cons_zero, List.getD_cons_succ, -List.getD_eq_getElem?_getD, pureOp]
  refine hK _ ?_
  clear K hK
  refine awpL_reg T_ok 3 fun K hK => ?_
  simp [hG, List.getD_cons_zero, List.getD_cons_succ, -List.getD_eq_getElem?_getD, pureOp]
  refine hK _ ?_
  clear K hK
  refine awpL_call cal35 rfl rfl (fun _ => rfl) (fun hg => checkR_c e) (fun hg => ?_) (fun hg => ?_) fun K hK => ?_
  · first | (simp [hG, List.getD_cons_zero, List.getD_cons_succ, -List.getD_eq_getElem?_getD, pureOp]; done) | (simp [-List.getD_eq_getElem?_getD] at hg; done) | (simp [-List.getD_eq_getElem?_getD] at hg; simp [hG, List.getD_cons_zero, List.getD_cons_succ, -List.getD_eq_getElem?_getD, pureOp]; first | omega | exact hg | (simp_all [-List.getD_eq_getElem?_getD]; done) | (simp_all [-List.getD_eq_getElem?_getD]; first | exact ⟨rfl, rfl⟩ | exact rfl))
  · first | (simp [hG, List.getD_cons_zero, List.getD_cons_succ, -List.getD_eq_getElem?_getD, pureOp]; done) | (simp [-List.getD_eq_getElem?_getD] at hg; done) | (simp [-List.getD_eq_getElem?_getD] at hg; simp [hG, List.getD_cons_zero, List.getD_cons_succ, -List.getD_eq_getElem?_getD, pureOp]; first | omega | exact hg | (simp_all [-List.getD_eq_getElem?_getD]; done) | (simp_all [-List.getD_eq_getElem?_getD]; first | exact ⟨rfl, rfl⟩ | exact rfl))
  simp [hG, List.getD_cons_zero, List.getD_cons_succ, -List.getD_eq_getElem?_getD, pureOp]
  refine hK _ ?_
  clear K hK
  refine awpL_reg T_ok 2 fun K hK => ?_
  simp [hG, List.getD_cons_zero, List.getD_cons_succ, -List.getD_eq_getElem?_getD, pureOp]
  refine hK _ ?_
  clear K hK
  refine awpL_nil ?_
  refine awpS_cond rfl (fun hb16 => ?_) (fun hb16 => ?_)
  ·
    try simp [-List.getD_eq_getElem?_getD] at hb16
    refine awpS_seq ?_
    refine awpS_reg T_ok fun K hK => ?_
    simp [hG, List.getD_cons_zero, List.getD_cons_succ, -List.getD_eq_getElem?_getD, pureOp]
    refine hK _ ?_
    clear K hK
    refine awpS_ret ?_
    refine RetOK_of ?_
    simp [hG, List.getD_cons_zero, List.getD_cons_succ, -List.getD_eq_getElem?_getD, pureOp]
    have hz := cov_one hb16; rw [covB_err hz (by decide), hz]; exact ⟨rfl, rfl⟩
  ·
    try simp [-List.getD_eq_getElem?_getD] at hb16
    have hvd : checkD d = 0 := hb16.1
    have hv : checkE e = 0 := hb16.2
    have hs2 := not_badS (checkD_valid hvd).1.sides
    have hva := checkD_asc hvd
    have hvl := (checkD_valid hvd).2.1
    obtain ⟨p, hp⟩ := Int.eq_ofNat_of_zero_le hs2.1
    obtain ⟨f, hf⟩ := Int.eq_ofNat_of_zero_le hs2.2.1
    have hpf : (p + 1 + f) ≤ 16 := (by omega)
    refine awpS_skip ?_
    refine awpS_seq ?_
    refine awpS_seq ?_
    refine awpS_reg T_ok fun K hK => ?_
    simp [hG, List.getD_cons_zero, List.getD_cons_succ, -List.getD_eq_getElem?_getD, pureOp]
    refine hK _ ?_
    clear K hK
    refine awpS_cond rfl (fun hb35 => ?_) (fun hb35 => ?_)
    ·
      try simp [-List.getD_eq_getElem?_getD] at hb35
      refine awpS_seq ?_
      refine awpS_reg T_ok fun K hK => ?_
      simp [hG, List.getD_cons_zero, List.getD_cons_succ, -List.getD_eq_getElem?_getD, pureOp]
      refine hK _ ?_
      clear K hK
      refine awpS_ret ?_
      refine RetOK_of ?_
      simp [hG, List.getD_cons_zero, List.getD_cons_succ, -List.getD_eq_getElem?_getD, pureOp]
      have hz := cov_mis hb16 (by omega); rw [covB_err hz (by decide), hz]; exact ⟨rfl, rfl⟩
    ·
      try simp [-List.getD_eq_getElem?_getD] at hb35
      refine awpS_skip ?_
      refine awpS_seq ?_
      refine awpS_seq ?_
      refine awpS_regL ?_
      refine awpL_reg T_ok 7 fun K hK => ?_
      simp [hG, List.getD_cons_zero, List.getD_cons_succ, -List.getD_eq_getElem?_getD, pureOp]
      refine ⟨Cond.mk (by omega), hK _ ?_⟩
      clear K hK
      refine awpL_call cal50 rfl rfl (fun _ => rfl) (fun hg => manyR_c e (p + 1 + f) hv hpf) (fun hg => ?_) (fun hg => ?_) fun K hK => ?_
      · simp [hG, List.getD_cons_zero, List.getD_cons_succ, -List.getD_eq_getElem?_getD, pureOp]
      · simp [hG, List.getD_cons_zero, List.getD_cons_succ, -List.getD_eq_getElem?_getD]; omega
      simp [hG, List.getD_cons_zero, List.getD_cons_succ, -List.getD_eq_getElem?_getD, pureOp]
      refine hK _ ?_
      clear K hK
      refine awpL_reg T_ok 1 fun K hK => ?_
      simp [hG, List.getD_cons_zero, List.getD_cons_succ, -List.getD_eq_getElem?_getD, pureOp]
      refine hK _ ?_
      clear K hK
      refine awpL_nil ?_
      refine awpS_cond rfl (fun hb44 => ?_) (fun hb44 => ?_)
      ·
        try simp [-List.getD_eq_getElem?_getD] at hb44
        refine awpS_seq ?_
        refine awpS_reg T_ok fun K hK => ?_
        simp [hG, List.getD_cons_zero, List.getD_cons_succ, -List.getD_eq_getElem?_getD, pureOp]
        refine hK _ ?_
        clear K hK
        refine awpS_ret ?_
        refine RetOK_of ?_
        simp [hG, List.getD_cons_zero, List.getD_cons_succ, -List.getD_eq_getElem?_getD, pureOp]
        have hz := cov_many (d := d) hb16 hb35 (by rw [hp, hf]; simpa using hb44); rw [covB_err hz (by decide), hz]; exact ⟨rfl, rfl⟩
      ·
        try simp [-List.getD_eq_getElem?_getD] at hb44
        have hmn : manyB e (p + 1 + f) = false := (by simpa using hb44)
        have hpl := paths_len hv (p := p) (f := f)
        have hcb : cntN e (p + 1 + f) ≤ 65536 := (by simpa [manyB] using hmn)
        refine awpS_skip ?_
        refine awpS_seq ?_
        refine awpS_regL ?_
        refine awpL_reg T_ok 5 fun K hK => ?_
        simp [hG, List.getD_cons_zero, List.getD_cons_succ, -List.getD_eq_getElem?_getD, pureOp]
        refine hK _ ?_
        clear K hK
        refine awpL_call cal51 rfl rfl (fun _ => rfl) (fun hg => occurring_c e hv p f (p + 1 + f) rfl hpf hmn) (fun hg => ?_) (fun hg => ?_) fun K hK => ?_
        · simp [hG, List.getD_cons_zero, List.getD_cons_succ, -List.getD_eq_getElem?_getD, pureOp]
        · simp [hG, List.getD_cons_zero, List.getD_cons_succ, -List.getD_eq_getElem?_getD]; exact ⟨hp, hf⟩
        simp [hG, List.getD_cons_zero, List.getD_cons_succ, -List.getD_eq_getElem?_getD, pureOp]
        refine hK _ ?_
        clear K hK
        refine awpL_reg T_ok 1 fun K hK => ?_
        simp [hG, List.getD_cons_zero, List.getD_cons_succ, -List.getD_eq_getElem?_getD, pureOp]
        refine hK _ ?_
        clear K hK
        refine awpL_nil ?_
        refine awpS_seq ?_
        refine awpS_seq ?_
        refine awpS_reg T_ok fun K hK => ?_
        simp [hG, List.getD_cons_zero, List.getD_cons_succ, -List.getD_eq_getElem?_getD, pureOp]
        refine hK _ ?_
        clear K hK
        refine awpS_block ?_
        refine awpS_loop (α := Nat) (fun i => ⟨[(2, .ptr (0, 0) 0 0), (6, ents (pathsL e p f)), (7, .int .i64 (i : Nat))], [(0, .one (.arr 1 6 (fun _ => decF d)))], 1⟩) (fun i => i ≤ (pathsL e p f).length ∧ ∀ j, j < i → covE d ((pathsL e p f).getD j den) = true) (fun i => (pathsL e p f).length - i) (0) (⟨Nat.zero_le _, fun j hj => absurd hj (Nat.not_lt_zero _)⟩) ?_ ?_
        ·
          refine wk_of (id) (fun _ => false) (fun _ => false) ?_ ?_ rfl (Nat.zero_le _) (fun k hk => absurd hk (Nat.not_lt_zero _))
          · simp [hG, List.getD_cons_zero, List.getD_cons_succ, -List.getD_eq_getElem?_getD, pureOp]
          · simp [hG, List.getD_cons_zero, List.getD_cons_succ, -List.getD_eq_getElem?_getD, pureOp]
        ·
          rintro i ⟨hi, hc⟩
          refine awpS_seq ?_
          refine awpS_seq ?_
          refine awpS_reg T_ok fun K hK => ?_
          simp [hG, List.getD_cons_zero, List.getD_cons_succ, -List.getD_eq_getElem?_getD, pureOp]
          refine hK _ ?_
          clear K hK
          refine awpS_cond rfl (fun hb54 => ?_) (fun hb54 => ?_)
          ·
            try simp [-List.getD_eq_getElem?_getD] at hb54
            have hil : i < (pathsL e p f).length := (by omega)
            have hll := lowE_le (l := d.ents) (w := ((pathsL e p f).getD i den).win)
            refine awpS_skip ?_
            refine awpS_seq ?_
            refine awpS_block ?_
            refine awpS_seq ?_
            refine awpS_draw hR mixed [] ⟨[], [], []⟩ fun mu0 => ?_
            refine awpA_tk T_ok [0, 1, 2, 3, 4, 5, 6] [] (fuel := 2) [6, 5, 4, 3, 2, 1, 0] (by decide +kernel) (by decide +kernel) rfl rfl fun K hK => ?_
            simp [hG, List.getD_cons_zero, List.getD_cons_succ, -List.getD_eq_getElem?_getD, pureOp]
            refine ⟨Cond.mk (by omega), hK _ ?_⟩
            clear K hK
            refine awpA_only (fuel := 1) (i := 7) (by decide +kernel) ?_
            refine awpO_call cal47 rfl rfl rfl (fun _ => rfl) (fun hg => place_c d.ents ((pathsL e p f).getD i den).win (by omega) hva) (fun hg => ?_) (fun hg => ?_) fun K hK => ?_
            · simp [hG, List.getD_cons_zero, List.getD_cons_succ, -List.getD_eq_getElem?_getD, pureOp]
            · simp [hG, List.getD_cons_zero, List.getD_cons_succ, -List.getD_eq_getElem?_getD, pureOp]
            simp [hG, List.getD_cons_zero, List.getD_cons_succ, -List.getD_eq_getElem?_getD, pureOp]
            refine hK _ ?_
            clear K hK
            refine awpA_tk T_ok [8] [] (fuel := 0) [8, 7, 6, 5, 4, 3, 2, 1, 0] (by decide +kernel) (by decide +kernel) rfl rfl fun K hK => ?_
            simp [hG, List.getD_cons_zero, List.getD_cons_succ, -List.getD_eq_getElem?_getD, pureOp]
            refine hK _ ?_
            clear K hK
            refine awpA_done (by decide +kernel) ?_
            refine awpS_seq ?_
            refine awpS_draw hR mixed [] ⟨[], [], []⟩ fun mu0 => ?_
            refine awpA_tk T_ok [0, 1, 2, 3, 4, 5, 6, 7, 8, 9, 10, 11, 12, 13, 14, 15, 16] [] (fuel := 0) [16, 15, 14, 13, 12, 11, 10, 9, 8, 7, 6, 5, 4, 3, 2, 1, 0] (by decide +kernel) (by decide +kernel) rfl rfl fun K hK => ?_
            simp [hG, List.getD_cons_zero, List.getD_cons_succ, -List.getD_eq_getElem?_getD, pureOp]
            refine ⟨Cond.mk (by (repeat (first | assumption | intro _ | exact And.intro ‹_› ‹_› | apply And.intro | omega | exact trivial | exact decide_eq_true (by assumption)))), hK _ ?_⟩
            clear K hK
            refine awpA_done (by decide +kernel) ?_
            refine awpS_cond rfl (fun hb81 => ?_) (fun hb81 => ?_)
            ·
              try simp [-List.getD_eq_getElem?_getD] at hb81
              have hcx : covE d ((pathsL e p f).getD i den) = false := covE_no hva hb81
              refine awpS_seq ?_
              refine awpS_reg T_ok fun K hK => ?_
              simp [hG, List.getD_cons_zero, List.getD_cons_succ, -List.getD_eq_getElem?_getD, pureOp]
              refine hK _ ?_
              clear K hK
              refine awpS_ret ?_
              refine blockQ_ret (thenQ_ret ?_)
              refine thenQ_ret (thenQ_ret ?_)
              refine blockQ_ret (thenQ_ret ?_)
              refine RetOK_of ?_
              simp [hG, List.getD_cons_zero, List.getD_cons_succ, -List.getD_eq_getElem?_getD, pureOp]
              have hz := cov_ok (d := d) hb16 hb35 (by rw [hp, hf]; simpa using hmn); rw [covB_ok hz, hz, hp, hf, Int.toNat_natCast, Int.toNat_natCast, all_no hil hcx]; exact ⟨rfl, rfl⟩
            ·
              try simp [-List.getD_eq_getElem?_getD] at hb81
              have hcx : covE d ((pathsL e p f).getD i den) = true := covE_yes hva hb81
              refine awpS_skip ?_
              refine awpS_nil ?_
              refine blockQ_norm (thenQ_norm ?_)
              refine awpS_reg T_ok fun K hK => ?_
              simp [hG, List.getD_cons_zero, List.getD_cons_succ, -List.getD_eq_getElem?_getD, pureOp]
              refine ⟨Cond.mk (by omega), hK _ ?_⟩
              clear K hK
              refine awpS_nil ?_
              refine round_end (i + 1) (⟨by omega, step_all hc hcx⟩) (by omega) ?_
              refine wk_of (id) (fun _ => false) (fun _ => false) ?_ ?_ rfl (Nat.zero_le _) (fun k hk => absurd hk (Nat.not_lt_zero _))
              · simp [hG, List.getD_cons_zero, List.getD_cons_succ, -List.getD_eq_getElem?_getD, pureOp]
              · simp [hG, List.getD_cons_zero, List.getD_cons_succ, -List.getD_eq_getElem?_getD, pureOp]
          ·
            try simp [-List.getD_eq_getElem?_getD] at hb54
            obtain rfl : i = (pathsL e p f).length := (by omega)
            refine awpS_exit ?_
            refine thenQ_exit (thenQ_exit ?_)
            refine blockQ_exit (thenQ_norm ?_)
            refine awpS_seq ?_
            refine awpS_reg T_ok fun K hK => ?_
            simp [hG, List.getD_cons_zero, List.getD_cons_succ, -List.getD_eq_getElem?_getD, pureOp]
            refine hK _ ?_
            clear K hK
            refine awpS_ret ?_
            refine RetOK_of ?_
            simp [hG, List.getD_cons_zero, List.getD_cons_succ, -List.getD_eq_getElem?_getD, pureOp]
            have hz := cov_ok (d := d) hb16 hb35 (by rw [hp, hf]; simpa using hmn); rw [covB_ok hz, hz, hp, hf, Int.toNat_natCast, Int.toNat_natCast, all_yes hc]; exact ⟨rfl, rfl⟩

end Go.Proofs.Ytmdnpbilnelogaa
