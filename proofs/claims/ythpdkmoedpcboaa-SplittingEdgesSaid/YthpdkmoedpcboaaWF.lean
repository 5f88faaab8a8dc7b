/-
  Walks: rounds checked, by the program.
-/
import Derived.Test.YthpdkmoedpcboaaWE
namespace Go.Proofs.Ythpdkmoedpcboaa
set_option linter.unusedSimpArgs false
set_option linter.unusedVariables false
open Go Go.Lift Go.Proofs

theorem div_ok {L : List (List Int)} {l : List Int} (h : divB L l = true) : 1 < L.length ∧ (∀ p ∈ L, p ≠ [] ∧ sortedB p = true) ∧ L.flatten.Perm l := by
  unfold divB at h
  rw [Bool.and_eq_true, Bool.and_eq_true, decide_eq_true_eq, decide_eq_true_eq] at h
  obtain ⟨h1, h2, h3⟩ := h
  refine ⟨h2, fun p hp => ?_, ?_⟩
  · have := List.all_eq_true.1 h1 p hp
    simpa using this
  · rw [← h3]; exact srtI_perm.symm
/-- why a split is none. -/
noncomputable def splN (g : Gr) (v : List Int) (m : Int) (l : List Spl) (i : Nat) : Int :=
  if (l.getD i ds).st < 0 ∨ g.states ≤ (l.getD i ds).st then 25 else if 0 < i ∧ (l.getD i ds).st ≤ (l.getD (i - 1) ds).st then 10
  else if divB (l.getD i ds).parts (outR g (l.getD i ds).st) = false then 11 else if wtB g v m (l.getD i ds) = false then 16 else 0
/-- why a list of splits is no round. -/
noncomputable def rndN (g : Gr) (v : List Int) (m : Int) (l : List Spl) : Int := if baseN g v m ≠ 0 then baseN g v m else if l = [] then 5 else firstNZ (splN g v m l) (List.range l.length)
/-- the sizes of rounds that are looked at. -/
structure RndOK (l : List Spl) : Prop where
  len : l.length ≤ 1000000
  num : ∀ x ∈ l, x.parts.length ≤ 900
  part : ∀ x ∈ l, ∀ p ∈ x.parts, p.length ≤ 1024
section
variable {g : Gr} {v : List Int} {m : Int} {l : List Spl}
theorem spl_ok {x : Spl} (hv : gcheck g = 0) (hl : RndOK l) (hx : x ∈ l) (hs : 0 ≤ x.st ∧ x.st < g.states) (hd : divB x.parts (outR g x.st) = true) : SplOK g x ∧ 0 < x.parts.length := by
  obtain ⟨h1, h2, h3⟩ := div_ok hd
  rw [(out_3 hv hs).1] at h3
  refine ⟨⟨hs, by have := hl.num x hx; omega, hl.part x hx, fun p hp k hk => ?_⟩, by omega⟩
  have hm : k ∈ outL g x.st := h3.mem_iff.1 (List.mem_flatten.2 ⟨p, hp, hk⟩)
  obtain ⟨j, hj, rfl, _⟩ := outA_mem.1 hm
  omega
theorem rnd_1 (h : baseN g v m ≠ 0) : rndN g v m l = baseN g v m := if_pos h
theorem rnd_2 (h : baseN g v m = 0) (h2 : l = []) : rndN g v m l = 5 := by unfold rndN; rw [if_neg (fun h3 => h3 h), if_pos h2]
theorem rnd_at (h : baseN g v m = 0) (h2 : l ≠ []) : rndN g v m l = firstNZ (splN g v m l) (List.range l.length) := by unfold rndN; rw [if_neg (fun h3 => h3 h), if_neg h2]
theorem rnd_hit {i : Nat} (h : baseN g v m = 0) (h2 : l ≠ []) (hn : ∀ j, j < i → splN g v m l j = 0) (hi : i < l.length) {n : Int} (hs : splN g v m l i = n) (h0 : n ≠ 0) : rndN g v m l = n := by
  rw [rnd_at h h2, ← hs]
  exact firstNZ_range hn hi (by rw [hs]; exact h0)
theorem rnd_ok (h : baseN g v m = 0) (h2 : l ≠ []) (hn : ∀ j, j < l.length → splN g v m l j = 0) : rndN g v m l = 0 := by rw [rnd_at h h2]; exact firstNZ_none hn
theorem spl_1 {i : Nat} (h : (l.getD i ds).st < 0 ∨ g.states ≤ (l.getD i ds).st) : splN g v m l i = 25 := if_pos h
theorem spl_2 {i : Nat} (h : 0 ≤ (l.getD i ds).st ∧ (l.getD i ds).st < g.states) (h2 : 0 < i ∧ (l.getD i ds).st ≤ (l.getD (i - 1) ds).st) : splN g v m l i = 10 := by unfold splN; rw [if_neg (by omega), if_pos h2]
theorem spl_3 {i : Nat} (h : 0 ≤ (l.getD i ds).st ∧ (l.getD i ds).st < g.states) (h2 : ¬ (0 < i ∧ (l.getD i ds).st ≤ (l.getD (i - 1) ds).st)) (h3 : divB (l.getD i ds).parts (outR g (l.getD i ds).st) = false) : splN g v m l i = 11 := by unfold splN; rw [if_neg (by omega), if_neg h2, if_pos h3]
theorem spl_4 {i : Nat} (h : 0 ≤ (l.getD i ds).st ∧ (l.getD i ds).st < g.states) (h2 : ¬ (0 < i ∧ (l.getD i ds).st ≤ (l.getD (i - 1) ds).st)) (h3 : divB (l.getD i ds).parts (outR g (l.getD i ds).st) = true) : splN g v m l i = if wtB g v m (l.getD i ds) = false then 16 else 0 := by unfold splN; rw [if_neg (by omega), if_neg h2, if_neg (by rw [h3]; simp)]
end
set_option maxRecDepth 100000 in
set_option maxHeartbeats 1000000 in
theorem rndC_c (g : Gr) (v : List Int) (m : Int) (l : List Spl) (hr : RndOK l) : PC Try.prog 12 [.agg 3 (grF g), ints v, .int .i64 m, spls l] (.int .i64 (rndN g v m l)) := by
  have hrl := hr.len
  refine PC_introS T_ok Try.func12 rfl (by simp [Try.ntmps12]) fun G hG hR => ?_
  simp only [Try.ntmps12, Try.results12] at hG ⊢
  simp only [argEnv, Nat.zero_add, Nat.reduceAdd]
  refine awpS_seq ?_
  refine awpS_reg T_ok fun K hK => ?_
  simp [hG, List.getD_cons_zero, List.getD_cons_succ, -List.getD_eq_getElem?_getD, pureOp]
  refine ⟨Cond.mk (by exact trivial), hK _ ?_⟩
  clear K hK
  refine awpS_seq ?_
  refine awpS_seq ?_
  refine awpS_regL ?_
  refine awpL_reg T_ok 3 fun K hK => ?_
  simp [hG, List.getD_cons_zero, List.getD_cons_succ, -List.getD_eq_getElem?_getD, pureOp]
  refine hK _ ?_
  clear K hK
  refine awpL_call cal30 rfl rfl (fun _ => rfl) (fun hg => baseC_c g v m) (fun hg => ?_) (fun hg => ?_) fun K hK => ?_
  · simp [hG, List.getD_cons_zero, List.getD_cons_succ, -List.getD_eq_getElem?_getD, pureOp]
  · simp [hG, List.getD_cons_zero, List.getD_cons_succ, -List.getD_eq_getElem?_getD, pureOp]
  simp [hG, List.getD_cons_zero, List.getD_cons_succ, -List.getD_eq_getElem?_getD, pureOp]
  refine hK _ ?_
  clear K hK
  refine awpL_reg T_ok 1 fun K hK => ?_
  simp [hG, List.getD_cons_zero, List.getD_cons_succ, -List.getD_eq_getElem?_getD, pureOp]
  refine hK _ ?_
  clear K hK
  refine awpL_nil ?_
  refine awpS_seq ?_
  refine awpS_reg T_ok fun K hK => ?_
  simp [hG, List.getD_cons_zero, List.getD_cons_succ, -List.getD_eq_getElem?_getD, pureOp]
  refine hK _ ?_
  clear K hK
  refine awpS_cond rfl (fun hb21 => ?_) (fun hb21 => ?_)
  ·
    try simp [-List.getD_eq_getElem?_getD] at hb21
    refine awpS_seq ?_
    refine awpS_reg T_ok fun K hK => ?_
    simp [hG, List.getD_cons_zero, List.getD_cons_succ, -List.getD_eq_getElem?_getD, pureOp]
    refine hK _ ?_
    clear K hK
    refine awpS_ret ?_
    refine RetOK_of ?_
    simp [hG, List.getD_cons_zero, List.getD_cons_succ, -List.getD_eq_getElem?_getD, pureOp]
    exact (rnd_1 hb21).symm
  ·
    try simp [-List.getD_eq_getElem?_getD] at hb21
    obtain ⟨hv, hm, hl, hbx⟩ := vecN_zero (eigN_zero (baseN_zero hb21).1).1
    refine awpS_skip ?_
    refine awpS_seq ?_
    refine awpS_seq ?_
    refine awpS_reg T_ok fun K hK => ?_
    simp [hG, List.getD_cons_zero, List.getD_cons_succ, -List.getD_eq_getElem?_getD, pureOp]
    refine hK _ ?_
    clear K hK
    refine awpS_cond rfl (fun hb25 => ?_) (fun hb25 => ?_)
    ·
      try simp [-List.getD_eq_getElem?_getD] at hb25
      refine awpS_seq ?_
      refine awpS_reg T_ok fun K hK => ?_
      simp [hG, List.getD_cons_zero, List.getD_cons_succ, -List.getD_eq_getElem?_getD, pureOp]
      refine hK _ ?_
      clear K hK
      refine awpS_ret ?_
      refine RetOK_of ?_
      simp [hG, List.getD_cons_zero, List.getD_cons_succ, -List.getD_eq_getElem?_getD, pureOp]
      exact (rnd_2 hb21 hb25).symm
    ·
      try simp [-List.getD_eq_getElem?_getD] at hb25
      have hne : l ≠ [] := (by intro h; rw [h] at hb25; simp at hb25)
      refine awpS_skip ?_
      refine awpS_seq ?_
      refine awpS_seq ?_
      refine awpS_reg T_ok fun K hK => ?_
      simp [hG, List.getD_cons_zero, List.getD_cons_succ, -List.getD_eq_getElem?_getD, pureOp]
      refine hK _ ?_
      clear K hK
      refine awpS_block ?_
      refine awpS_loop (α := Nat) (fun i => ⟨[(1, ints v), (2, .int .i64 m), (3, spls l), (4, .ptr (0, 0) 0 0), (26, spls l), (27, .int .i64 l.length), (28, .int .i64 i)], [(0, .one (.arr 1 3 (fun _ => grF g)))], 1⟩) (fun i => i ≤ l.length ∧ ∀ j, j < i → splN g v m l j = 0) (fun i => l.length - i) (0) (⟨Nat.zero_le _, fun j hj => absurd hj (Nat.not_lt_zero _)⟩) ?_ ?_
      ·
        refine wk_of (id) (fun _ => false) (fun _ => false) ?_ ?_ rfl (Nat.zero_le _) (fun k hk => absurd hk (Nat.not_lt_zero _))
        · simp [hG, List.getD_cons_zero, List.getD_cons_succ, -List.getD_eq_getElem?_getD, pureOp]
        · simp [hG, List.getD_cons_zero, List.getD_cons_succ, -List.getD_eq_getElem?_getD, pureOp]
      ·
        rintro i ⟨hi, hn⟩
        refine awpS_seq ?_
        refine awpS_reg T_ok fun K hK => ?_
        simp [hG, List.getD_cons_zero, List.getD_cons_succ, -List.getD_eq_getElem?_getD, pureOp]
        refine hK _ ?_
        clear K hK
        refine awpS_seq ?_
        refine awpS_cond rfl (fun hb29 => ?_) (fun hb29 => ?_)
        ·
          try simp [-List.getD_eq_getElem?_getD] at hb29
          have hil : i < l.length := (by omega)
          have hxm := getD_mem (d := ds) hil
          refine awpS_skip ?_
          refine awpS_seq ?_
          refine awpS_block ?_
          refine awpS_seq ?_
          refine awpS_reg T_ok fun K hK => ?_
          simp [hG, List.getD_cons_zero, List.getD_cons_succ, -List.getD_eq_getElem?_getD, pureOp]
          refine ⟨Cond.mk (by simp [-List.getD_eq_getElem?_getD]; omega), hK _ ?_⟩
          clear K hK
          refine awpS_seq ?_
          refine awpS_seq ?_
          refine awpS_reg T_ok fun K hK => ?_
          simp [hG, List.getD_cons_zero, List.getD_cons_succ, -List.getD_eq_getElem?_getD, pureOp]
          refine hK _ ?_
          clear K hK
          refine awpS_cond rfl (fun hb42 => ?_) (fun hb42 => ?_)
          ·
            try simp [-List.getD_eq_getElem?_getD] at hb42
            refine awpS_seq ?_
            refine awpS_reg T_ok fun K hK => ?_
            simp [hG, List.getD_cons_zero, List.getD_cons_succ, -List.getD_eq_getElem?_getD, pureOp]
            refine hK _ ?_
            clear K hK
            refine awpS_ret ?_
            refine blockQ_ret (thenQ_ret ?_)
            refine thenQ_ret (thenQ_ret ?_)
            refine blockQ_ret (thenQ_ret ?_)
            refine RetOK_of ?_
            simp [hG, List.getD_cons_zero, List.getD_cons_succ, -List.getD_eq_getElem?_getD, pureOp]
            exact (rnd_hit hb21 hne hn hil (spl_1 hb42) (by decide)).symm
          ·
            try simp [-List.getD_eq_getElem?_getD] at hb42
            refine awpS_skip ?_
            refine awpS_seq ?_
            refine awpS_seq ?_
            refine awpS_draw hR mixed [] ⟨[], [], []⟩ fun mu0 => ?_
            refine awpA_tk T_ok [0, 1, 2, 3, 4, 5, 6, 7, 8, 9, 10, 11, 12] [] (fuel := 0) [12, 11, 10, 9, 8, 7, 6, 5, 4, 3, 2, 1, 0] (by decide +kernel) (by decide +kernel) rfl rfl fun K hK => ?_
            simp [hG, List.getD_cons_zero, List.getD_cons_succ, -List.getD_eq_getElem?_getD, pureOp]
            refine ⟨Cond.mk (by omega), hK _ ?_⟩
            clear K hK
            refine awpA_done (by decide +kernel) ?_
            refine awpS_cond rfl (fun hb55 => ?_) (fun hb55 => ?_)
            ·
              try simp [-List.getD_eq_getElem?_getD] at hb55
              refine awpS_seq ?_
              refine awpS_reg T_ok fun K hK => ?_
              simp [hG, List.getD_cons_zero, List.getD_cons_succ, -List.getD_eq_getElem?_getD, pureOp]
              refine hK _ ?_
              clear K hK
              refine awpS_ret ?_
              refine blockQ_ret (thenQ_ret ?_)
              refine thenQ_ret (thenQ_ret ?_)
              refine blockQ_ret (thenQ_ret ?_)
              refine RetOK_of ?_
              simp [hG, List.getD_cons_zero, List.getD_cons_succ, -List.getD_eq_getElem?_getD, pureOp]
              exact (rnd_hit hb21 hne hn hil (spl_2 hb42 hb55) (by decide)).symm
            ·
              try simp [-List.getD_eq_getElem?_getD] at hb55
              have hnx : ¬ (0 < i ∧ (l.getD i ds).st ≤ (l.getD (i - 1) ds).st) := fun h => by have := hb55 h.1; omega
              refine awpS_skip ?_
              refine awpS_seq ?_
              refine awpS_seq ?_
              refine awpS_regL ?_
              refine awpL_reg T_ok 3 fun K hK => ?_
              simp [hG, List.getD_cons_zero, List.getD_cons_succ, -List.getD_eq_getElem?_getD, pureOp]
              refine hK _ ?_
              clear K hK
              refine awpL_call cal22 rfl rfl (fun _ => rfl) (fun hg => outC_c g (l.getD i ds).st) (fun hg => ?_) (fun hg => ?_) fun K hK => ?_
              · simp [hG, List.getD_cons_zero, List.getD_cons_succ, -List.getD_eq_getElem?_getD, pureOp]
              · simp [hG, List.getD_cons_zero, List.getD_cons_succ, -List.getD_eq_getElem?_getD, pureOp]
              simp [hG, List.getD_cons_zero, List.getD_cons_succ, -List.getD_eq_getElem?_getD, pureOp]
              refine hK _ ?_
              clear K hK
              refine awpL_reg T_ok 5 fun K hK => ?_
              simp [hG, List.getD_cons_zero, List.getD_cons_succ, -List.getD_eq_getElem?_getD, pureOp]
              refine hK _ ?_
              clear K hK
              refine awpL_nil ?_
              refine awpS_seq ?_
              refine awpS_regL ?_
              refine awpL_reg T_ok 3 fun K hK => ?_
              simp [hG, List.getD_cons_zero, List.getD_cons_succ, -List.getD_eq_getElem?_getD, pureOp]
              refine hK _ ?_
              clear K hK
              refine awpL_call cal31 rfl rfl (fun _ => rfl) (fun hg => divC_c (l.getD i ds).parts (outR g (l.getD i ds).st) (hr.num _ hxm) (hr.part _ hxm)) (fun hg => ?_) (fun hg => ?_) fun K hK => ?_
              · simp [hG, List.getD_cons_zero, List.getD_cons_succ, -List.getD_eq_getElem?_getD, pureOp]
              · simp [hG, List.getD_cons_zero, List.getD_cons_succ, -List.getD_eq_getElem?_getD, pureOp]
              simp [hG, List.getD_cons_zero, List.getD_cons_succ, -List.getD_eq_getElem?_getD, pureOp]
              refine hK _ ?_
              clear K hK
              refine awpL_reg T_ok 1 fun K hK => ?_
              simp [hG, List.getD_cons_zero, List.getD_cons_succ, -List.getD_eq_getElem?_getD, pureOp]
              refine hK _ ?_
              clear K hK
              refine awpL_nil ?_
              refine awpS_cond rfl (fun hb67 => ?_) (fun hb67 => ?_)
              ·
                try simp [-List.getD_eq_getElem?_getD] at hb67
                refine awpS_seq ?_
                refine awpS_reg T_ok fun K hK => ?_
                simp [hG, List.getD_cons_zero, List.getD_cons_succ, -List.getD_eq_getElem?_getD, pureOp]
                refine hK _ ?_
                clear K hK
                refine awpS_ret ?_
                refine blockQ_ret (thenQ_ret ?_)
                refine thenQ_ret (thenQ_ret ?_)
                refine blockQ_ret (thenQ_ret ?_)
                refine RetOK_of ?_
                simp [hG, List.getD_cons_zero, List.getD_cons_succ, -List.getD_eq_getElem?_getD, pureOp]
                exact (rnd_hit hb21 hne hn hil (spl_3 hb42 hnx hb67) (by decide)).symm
              ·
                try simp [-List.getD_eq_getElem?_getD] at hb67
                have hso := spl_ok hv hr hxm hb42 hb67
                refine awpS_skip ?_
                refine awpS_seq ?_
                refine awpS_regL ?_
                refine awpL_reg T_ok 4 fun K hK => ?_
                simp [hG, List.getD_cons_zero, List.getD_cons_succ, -List.getD_eq_getElem?_getD, pureOp]
                refine hK _ ?_
                clear K hK
                refine awpL_call cal25 rfl rfl (fun _ => rfl) (fun hg => weights_c g v m (l.getD i ds) hv hl hbx hm hso.1 hso.2) (fun hg => ?_) (fun hg => ?_) fun K hK => ?_
                · simp [hG, List.getD_cons_zero, List.getD_cons_succ, -List.getD_eq_getElem?_getD, pureOp]
                · simp [hG, List.getD_cons_zero, List.getD_cons_succ, -List.getD_eq_getElem?_getD, pureOp]
                simp [hG, List.getD_cons_zero, List.getD_cons_succ, -List.getD_eq_getElem?_getD, pureOp]
                refine hK _ ?_
                clear K hK
                refine awpL_reg T_ok 5 fun K hK => ?_
                simp [hG, List.getD_cons_zero, List.getD_cons_succ, -List.getD_eq_getElem?_getD, pureOp]
                refine hK _ ?_
                clear K hK
                refine awpL_nil ?_
                refine awpS_seq ?_
                refine awpS_reg T_ok fun K hK => ?_
                simp [hG, List.getD_cons_zero, List.getD_cons_succ, -List.getD_eq_getElem?_getD, pureOp]
                refine hK _ ?_
                clear K hK
                refine awpS_cond rfl (fun hb77 => ?_) (fun hb77 => ?_)
                ·
                  try simp [-List.getD_eq_getElem?_getD] at hb77
                  refine awpS_seq ?_
                  refine awpS_reg T_ok fun K hK => ?_
                  simp [hG, List.getD_cons_zero, List.getD_cons_succ, -List.getD_eq_getElem?_getD, pureOp]
                  refine hK _ ?_
                  clear K hK
                  refine awpS_ret ?_
                  refine blockQ_ret (thenQ_ret ?_)
                  refine thenQ_ret (thenQ_ret ?_)
                  refine blockQ_ret (thenQ_ret ?_)
                  refine RetOK_of ?_
                  simp [hG, List.getD_cons_zero, List.getD_cons_succ, -List.getD_eq_getElem?_getD, pureOp]
                  exact (rnd_hit hb21 hne hn hil (by rw [spl_4 hb42 hnx hb67, if_pos hb77]) (by decide)).symm
                ·
                  try simp [-List.getD_eq_getElem?_getD] at hb77
                  refine awpS_skip ?_
                  refine awpS_nil ?_
                  refine blockQ_norm (thenQ_norm ?_)
                  refine awpS_reg T_ok fun K hK => ?_
                  simp [hG, List.getD_cons_zero, List.getD_cons_succ, -List.getD_eq_getElem?_getD, pureOp]
                  refine ⟨Cond.mk (by omega), hK _ ?_⟩
                  clear K hK
                  refine awpS_nil ?_
                  refine round_end (i + 1) (⟨by omega, step_all hn (by rw [spl_4 hb42 hnx hb67, if_neg (by rw [hb77]; simp)])⟩) (by omega) ?_
                  refine wk_of (id) (fun _ => false) (fun _ => false) ?_ ?_ rfl (Nat.zero_le _) (fun k hk => absurd hk (Nat.not_lt_zero _))
                  · simp [hG, List.getD_cons_zero, List.getD_cons_succ, -List.getD_eq_getElem?_getD, pureOp]
                  · simp [hG, List.getD_cons_zero, List.getD_cons_succ, -List.getD_eq_getElem?_getD, pureOp]
        ·
          try simp [-List.getD_eq_getElem?_getD] at hb29
          refine awpS_exit ?_
          refine thenQ_exit (thenQ_exit ?_)
          refine blockQ_exit (thenQ_norm ?_)
          refine awpS_seq ?_
          refine awpS_reg T_ok fun K hK => ?_
          simp [hG, List.getD_cons_zero, List.getD_cons_succ, -List.getD_eq_getElem?_getD, pureOp]
          refine hK _ ?_
          clear K hK
          refine awpS_ret ?_
          refine RetOK_of ?_
          simp [hG, List.getD_cons_zero, List.getD_cons_succ, -List.getD_eq_getElem?_getD, pureOp]
          exact (rnd_ok hb21 hne (fun j hj => hn j (by omega))).symm

end Go.Proofs.Ythpdkmoedpcboaa
