/-
  Walks: the reference's Encode and Within.
-/
import Derived.Test.YtdojahjhijkbhaaGreatDoorZF
import Derived.Test.YtdojahjhijkbhaaGreatDoorVJ
namespace Go.Proofs.YtdojahjhijkbhaaGreatDoor
set_option linter.unusedSimpArgs false
set_option linter.unusedVariables false
open Go Go.Lift Go.Proofs

/-- a state with a set, as the reference keeps it. -/
def mtF (st : Sb) (p : Pr) (j : Nat) : AVal := [.int .i64 p.s, ints (st.all.getD p.t.toNat [])].getD j .any
@[simp] theorem mtF_0 {st : Sb} {p : Pr} : mtF st p 0 = .int .i64 p.s := rfl
@[simp] theorem mtF_1 {st : Sb} {p : Pr} : mtF st p 1 = ints (st.all.getD p.t.toNat []) := rfl
@[simp] theorem ren_mtF {ρ : Nat → Nat} {st : Sb} {p : Pr} {j : Nat} : ren ρ (mtF st p j) = mtF st p j := by
  match j with
  | 0 => rfl
  | 1 => exact ren_ints
  | j + 2 => rfl
def metB (st : Sb) (Q : List Pr) (s : Int) (X : List Int) : Bool := Q.any fun p => decide (p.s = s ∧ st.all.getD p.t.toNat [] = X)
theorem metB_hit {st : Sb} {Q : List Pr} {s : Int} {X : List Int} {i : Nat} (hi : i < Q.length) (h1 : (Q.getD i dp).s = s) (h2 : st.all.getD (Q.getD i dp).t.toNat [] = X) : metB st Q s X = true :=
  List.any_eq_true.2 ⟨_, getD_mem (d := dp) hi, decide_eq_true ⟨h1, h2⟩⟩
theorem metB_none {st : Sb} {Q : List Pr} {s : Int} {X : List Int} (h : ∀ j, j < Q.length → ¬ ((Q.getD j dp).s = s ∧ st.all.getD (Q.getD j dp).t.toNat [] = X)) : metB st Q s X = false := by
  refine List.any_eq_false.2 fun p hp he => ?_
  obtain ⟨j, hj, rfl⟩ := List.mem_iff_getElem.1 hp
  have := h j hj
  rw [getD_get hj] at this
  exact this (of_decide_eq_true he)
theorem metB_mem {g : Gr} {st : Sb} (h : SbFin g st) {Q : List Pr} (hQ : ∀ p ∈ Q, 0 ≤ p.t ∧ p.t < (st.all.length : Int)) {s : Int} {q : Nat} (hq : q < st.all.length) : metB st Q s (st.all.getD q []) = true ↔ (⟨s, (q : Int)⟩ : Pr) ∈ Q := by
  rw [← met_mem h hQ hq]
  unfold metB
  rw [List.any_eq_true]
  simp only [decide_eq_true_eq]
theorem wi0_map : ∀ s : Nat, wi0 s = (List.range s).map fun (i : Nat) => (⟨(i : Int), 0⟩ : Pr)
  | 0 => rfl
  | s + 1 => by
    rw [wi0_succ, wi0_map s, List.range_succ, List.map_append]
    refine if_neg fun h => ?_
    obtain ⟨i, hi, he⟩ := List.mem_map.1 h
    injection he with h1 h2
    have := List.mem_range.1 hi
    omega
theorem wi0_new {s : Nat} : wi0 (s + 1) = wi0 s ++ [⟨(s : Int), 0⟩] := by
  rw [wi0_map, wi0_map, List.range_succ, List.map_append]; rfl
theorem app_mt {st : Sb} {X : List Pr} {r : Pr} {H : Heap} {σ : Lift.Id → Lift.Id} {fz : Nat → Bool} {vz : Lift.Id → Bool} {nx : Nat} {q : Nat} {w : Nat → Nat → AVal} (hq : q < X.length + 1) (h0 : w 0 0 = .int .i64 r.s) (h1 : VLe H σ fz vz nx (ints (st.all.getD r.t.toNat [])) (w 0 1)) :
    app (fun q j => mtF st (X.getD q dp) j) X.length w q 0 = .int .i64 ((X ++ [r]).getD q dp).s ∧ VLe H σ fz vz nx (ints (st.all.getD ((X ++ [r]).getD q dp).t.toNat [])) (app (fun q j => mtF st (X.getD q dp) j) X.length w q 1) := by
  unfold app
  by_cases h : q < X.length
  · rw [if_pos h, if_pos h]
    have : (X ++ [r]).getD q dp = X.getD q dp := by simp [List.getD, List.getElem?_append_left h]
    rw [this]
    exact ⟨rfl, Clo.le _ Clo_ints⟩
  · obtain rfl : q = X.length := by omega
    have : (X ++ [r]).getD X.length dp = r := by simp [List.getD]
    rw [if_neg h, if_neg h, Nat.sub_self, this]
    exact ⟨h0, h1⟩
section
variable {e : Enc} {g : Gr} {st : Sb} (hst : sbAt g 65 = st) (hv : checkE e = 0) (hvg : gcheck g = 0) (hl : g.labels = e.letters) (h0 : 0 < g.states) (hN : buildN g = 0)
include hst hvg h0 hN
omit hvg h0 hN in
theorem v_first : st.all.getD 0 [] = iotaL g.states.toNat := by subst hst; exact sbAt_first 65
theorem v_set {t : Int} (h1 : 0 ≤ t) (h2 : t < st.all.length) : SetOK g (st.all.getD t.toNat []) := by
  have h := (vst_fin hst hvg h0 hN).set _ (getD_mem (d := []) (show t.toNat < st.all.length by omega))
  exact ⟨h.2.1, h.2.2⟩
include hv hl
theorem v_box {i k : Nat} (hi : i < (wiQ e st i).length) (hk : k ≤ (e.rows.getD ((wiQ e st i).getD i dp).s.toNat []).length) : ∀ p ∈ wiRow e st ((wiQ e st i).getD i dp) (wiQ e st i) k, 0 ≤ p.t ∧ p.t < (st.all.length : Int) := fun p hp => by
  subst hst
  have hq := wqok hv hvg hl h0 hN
  have h1 := wiRow_ext hv (build_fin hvg h0 hN) hl (wi_at hv hvg hl h0 hN hi) hk (Q := wiQ e (sbAt g 65) i)
  exact ((h1.new p hp).elim ((hq.ok i).2 p) id).2
/-- what the reference finds for a cell. -/
theorem v_cell {i k : Nat} (hi : i < (wiQ e st i).length) (hk : k < (e.rows.getD ((wiQ e st i).getD i dp).s.toNat []).length) :
    (setA g (st.all.getD ((wiQ e st i).getD i dp).t.toNat []) (cellAt e ((wiQ e st i).getD i dp).s.toNat k).word = [] → wiB e st = false) ∧
    (setA g (st.all.getD ((wiQ e st i).getD i dp).t.toNat []) (cellAt e ((wiQ e st i).getD i dp).s.toNat k).word ≠ [] →
      0 ≤ folA st ((wiQ e st i).getD i dp).t (cellAt e ((wiQ e st i).getD i dp).s.toNat k).word ∧
      st.all.getD (folA st ((wiQ e st i).getD i dp).t (cellAt e ((wiQ e st i).getD i dp).s.toNat k).word).toNat [] = setA g (st.all.getD ((wiQ e st i).getD i dp).t.toNat []) (cellAt e ((wiQ e st i).getD i dp).s.toNat k).word ∧
      (metB st (wiRow e st ((wiQ e st i).getD i dp) (wiQ e st i) k) (cellAt e ((wiQ e st i).getD i dp).s.toNat k).to (setA g (st.all.getD ((wiQ e st i).getD i dp).t.toNat []) (cellAt e ((wiQ e st i).getD i dp).s.toNat k).word) = true ↔
        (⟨(cellAt e ((wiQ e st i).getD i dp).s.toNat k).to, folA st ((wiQ e st i).getD i dp).t (cellAt e ((wiQ e st i).getD i dp).s.toNat k).word⟩ : Pr) ∈ wiRow e st ((wiQ e st i).getD i dp) (wiQ e st i) k)) := by
  have hf := vst_fin hst hvg h0 hN
  rcases wi_fol hv hf hl (v_at hst hv hvg hl h0 hN hi) hk with ⟨h1, h2⟩ | ⟨q, h1, h2, h3⟩
  · exact ⟨fun _ => v_false hst hv hvg hl h0 hN hi hk h2, fun h => absurd h1 h⟩
  · refine ⟨fun h => ?_, fun _ => ⟨by omega, by rw [h1, ← h3]; rfl, ?_⟩⟩
    · rw [h] at h3
      exact absurd h3 (hf.set _ (getD_mem (d := []) h2)).1
    · rw [← h3, h1]
      exact metB_mem hf (v_box hst hv hvg hl h0 hN hi (Nat.le_of_lt hk)) h2
end
theorem bad_hit {e : Enc} {l : List Int} {i : Nat} (hi : i < l.length) (h : l.getD i 0 < 0 ∨ e.inputs ≤ l.getD i 0) : l.any (badI e) = true := by
  refine List.any_eq_true.2 ⟨_, getD_mem (d := 0) hi, ?_⟩
  unfold badI
  simp only [Bool.or_eq_true, decide_eq_true_eq]
  exact h
theorem any_bad {e : Enc} {l : List Int} (h : ∀ j, j < l.length → badI e (l.getD j 0) = false) : l.any (badI e) = false := by
  refine List.any_eq_false.2 fun p hp he => ?_
  obtain ⟨j, hj, rfl⟩ := List.mem_iff_getElem.1 hp
  have := h j hj
  rw [getD_get hj, he] at this
  cases this
theorem all_small {l : List (List Int)} (h : ∀ p ∈ l, p.length ≤ 1000000) {i : Nat} : (l.getD i []).length ≤ 1000000 := by
  by_cases hi : i < l.length
  · exact h _ (getD_mem hi)
  · simp [List.getD, List.getElem?_eq_none (Nat.le_of_not_lt hi)]
theorem states_none {g : Gr} (h : 0 ≤ g.states) (hz : iotaL g.states.toNat = []) : g.states = 0 := by
  have := congrArg List.length hz
  rw [iota_len] at this
  simp at this
  omega
theorem states_some {g : Gr} (h : 0 ≤ g.states) (hz : ¬ iotaL g.states.toNat = []) : 0 < g.states := by
  refine Classical.byContradiction fun h2 => hz ?_
  have : g.states.toNat = 0 := by omega
  rw [this]; rfl
theorem within6 {e : Enc} {g : Gr} (hv : checkE e = 0) (hvg : gcheck g = 0) (hl : g.labels = e.letters) (hN : buildN g = 0) (h : g.states = 0) : withinB e g = false ∧ 0 = withinN e g :=
  ⟨withinB_none (by omega), by rw [withinN_ok hv hvg hl, hN]⟩
theorem within7 {e : Enc} {g : Gr} (hv : checkE e = 0) (hvg : gcheck g = 0) (hl : g.labels = e.letters) (h : ¬ buildN g = 0) : withinB e g = false ∧ 4 = withinN e g := by
  have h1 := within2 hv hvg hl h
  have h0 : 0 < g.states := by
    refine Classical.byContradiction fun h2 => h (build_none hvg ?_).1
    have := (gcheck_valid hvg).1.st
    omega
  rw [(from_no hvg h0 h).1] at h1
  exact h1
set_option maxRecDepth 100000 in
theorem encodeRf_c (e : Enc) (s : Int) (l : List Int) (hl : l.length ≤ 100000) : PC Tryz.prog 10 [.agg 4 (encF e), .int .i64 s, ints l] (encodeR e s l) := by
  refine PC_introS T_ok Tryz.func10 rfl (by simp [Tryz.ntmps10]) fun G hG hR => ?_
  simp only [Tryz.ntmps10, Tryz.results10] at hG ⊢
  simp only [argEnv, Nat.zero_add, Nat.reduceAdd]
  refine awpS_seq ?_
  refine awpS_reg T_ok fun K hK => ?_
  simp [hG, List.getD_cons_zero, List.getD_cons_succ, -List.getD_eq_getElem?_getD, pureOp]
  refine ⟨Cond.mk (by exact trivial), hK _ ?_⟩
  clear K hK
  refine awpS_seq ?_
  refine awpS_seq ?_
  refine awpS_regL ?_
  refine awpL_reg T_ok 1 fun K hK => ?_
  simp [hG, List.getD_cons_zero, List.getD_cons_succ, -List.getD_eq_getElem?_getD, pureOp]
  refine hK _ ?_
  clear K hK
  refine awpL_call cal20 rfl rfl (fun _ => rfl) (fun hg => checkR_c e) (fun hg => ?_) (fun hg => ?_) fun K hK => ?_
  · simp [hG, List.getD_cons_zero, List.getD_cons_succ, -List.getD_eq_getElem?_getD, pureOp]
  · simp [hG, List.getD_cons_zero, List.getD_cons_succ, -List.getD_eq_getElem?_getD, pureOp]
  simp [hG, List.getD_cons_zero, List.getD_cons_succ, -List.getD_eq_getElem?_getD, pureOp]
  refine hK _ ?_
  clear K hK
  refine awpL_reg T_ok 1 fun K hK => ?_
  simp [hG, List.getD_cons_zero, List.getD_cons_succ, -List.getD_eq_getElem?_getD, pureOp]
  refine hK _ ?_
  clear K hK
  refine awpL_nil ?_
  refine awpS_cond rfl (fun hb15 => ?_) (fun hb15 => ?_)
  ·
    try simp [-List.getD_eq_getElem?_getD] at hb15
    refine awpS_seq ?_
    refine awpS_reg T_ok fun K hK => ?_
    simp [hG, List.getD_cons_zero, List.getD_cons_succ, -List.getD_eq_getElem?_getD, pureOp]
    refine hK _ ?_
    clear K hK
    refine awpS_ret ?_
    refine RetOK_of ?_
    simp [hG, List.getD_cons_zero, List.getD_cons_succ, -List.getD_eq_getElem?_getD, pureOp]
    rw [encodeR_err (n := 1) (by unfold encodeN; rw [if_pos (by simpa using hb15)]) (by omega)]; simp
  ·
    try simp [-List.getD_eq_getElem?_getD] at hb15
    have hv : checkE e = 0 := (by simpa using hb15)
    have hbl := (checkE_valid hv).1.block
    have hl64 := rows_len hv
    refine awpS_skip ?_
    refine awpS_seq ?_
    refine awpS_seq ?_
    refine awpS_reg T_ok fun K hK => ?_
    simp [hG, List.getD_cons_zero, List.getD_cons_succ, -List.getD_eq_getElem?_getD, pureOp]
    refine hK _ ?_
    clear K hK
    refine awpS_cond rfl (fun hb24 => ?_) (fun hb24 => ?_)
    ·
      try simp [-List.getD_eq_getElem?_getD] at hb24
      refine awpS_seq ?_
      refine awpS_reg T_ok fun K hK => ?_
      simp [hG, List.getD_cons_zero, List.getD_cons_succ, -List.getD_eq_getElem?_getD, pureOp]
      refine hK _ ?_
      clear K hK
      refine awpS_ret ?_
      refine RetOK_of ?_
      simp [hG, List.getD_cons_zero, List.getD_cons_succ, -List.getD_eq_getElem?_getD, pureOp]
      rw [encodeR_err (n := 25) (by unfold encodeN; rw [if_neg (by simpa using hv), if_pos (by omega)]) (by omega)]; simp
    ·
      try simp [-List.getD_eq_getElem?_getD] at hb24
      have hs0 : 0 ≤ s ∧ s < (e.rows.length : Int) := (by omega)
      have hmul := mul_bd (a := (l.length : Int)) (b := e.block) (c := 100000) (by omega) hbl
      refine awpS_skip ?_
      refine awpS_seq ?_
      refine awpS_seq ?_
      refine awpS_reg T_ok fun K hK => ?_
      simp [hG, List.getD_cons_zero, List.getD_cons_succ, -List.getD_eq_getElem?_getD, pureOp]
      refine hK _ ?_
      clear K hK
      refine awpS_block ?_
      refine awpS_loop (α := Nat) (fun i => ⟨[(1, .int .i64 s), (2, ints l), (3, .ptr (0, 0) 0 0), (9, .int .i64 i)], [(0, .one (.arr 1 4 (fun _ => encF e)))], 1⟩) (fun i => i ≤ l.length ∧ ∀ j, j < i → badI e (l.getD j 0) = false) (fun i => l.length - i) (0) (⟨Nat.zero_le _, fun j hj => absurd hj (Nat.not_lt_zero _)⟩) ?_ ?_
      ·
        refine wk_of (id) (fun _ => false) (fun _ => false) ?_ ?_ rfl (Nat.zero_le _) (fun k hk => absurd hk (Nat.not_lt_zero _))
        · simp [hG, List.getD_cons_zero, List.getD_cons_succ, -List.getD_eq_getElem?_getD, pureOp]
        · simp [hG, List.getD_cons_zero, List.getD_cons_succ, -List.getD_eq_getElem?_getD, pureOp]
      ·
        rintro i ⟨hi, hn⟩
        refine awpS_seq ?_
        refine awpS_seq ?_
        refine awpS_reg T_ok fun K hK => ?_
        simp [hG, List.getD_cons_zero, List.getD_cons_succ, -List.getD_eq_getElem?_getD, pureOp]
        refine hK _ ?_
        clear K hK
        refine awpS_cond rfl (fun hb28 => ?_) (fun hb28 => ?_)
        ·
          try simp [-List.getD_eq_getElem?_getD] at hb28
          have hil : i < l.length := (by omega)
          refine awpS_skip ?_
          refine awpS_seq ?_
          refine awpS_block ?_
          refine awpS_seq ?_
          refine awpS_draw hR mixed [] ⟨[], [], []⟩ fun mu0 => ?_
          refine awpA_tk T_ok [0, 1, 2, 3, 4, 5, 6, 7, 8, 9, 10, 11, 12, 13] [] (fuel := 0) [13, 12, 11, 10, 9, 8, 7, 6, 5, 4, 3, 2, 1, 0] (by decide +kernel) (by decide +kernel) rfl rfl fun K hK => ?_
          simp [hG, List.getD_cons_zero, List.getD_cons_succ, -List.getD_eq_getElem?_getD, pureOp]
          refine ⟨Cond.mk (by omega), hK _ ?_⟩
          clear K hK
          refine awpA_done (by decide +kernel) ?_
          refine awpS_cond rfl (fun hb44 => ?_) (fun hb44 => ?_)
          ·
            try simp [-List.getD_eq_getElem?_getD] at hb44
            have hbd : l.any (badI e) = true := bad_hit hil (by omega)
            refine awpS_seq ?_
            refine awpS_reg T_ok fun K hK => ?_
            simp [hG, List.getD_cons_zero, List.getD_cons_succ, -List.getD_eq_getElem?_getD, pureOp]
            refine hK _ ?_
            clear K hK
            refine awpS_ret ?_
            refine blockQ_ret (thenQ_ret ?_)
            refine thenQ_ret (thenQ_ret ?_)
            refine blockQ_ret (thenQ_ret ?_)
            refine RetOK_of ?_
            simp [hG, List.getD_cons_zero, List.getD_cons_succ, -List.getD_eq_getElem?_getD, pureOp]
            rw [encodeR_err (n := 2) (by unfold encodeN; rw [if_neg (by simpa using hv), if_neg (by omega), if_pos (by simpa using hbd)]) (by omega)]; simp
          ·
            try simp [-List.getD_eq_getElem?_getD] at hb44
            have hgi : badI e (l.getD i 0) = false := bad_no.2 (by omega)
            refine awpS_skip ?_
            refine awpS_nil ?_
            refine blockQ_norm (thenQ_norm ?_)
            refine awpS_reg T_ok fun K hK => ?_
            simp [hG, List.getD_cons_zero, List.getD_cons_succ, -List.getD_eq_getElem?_getD, pureOp]
            refine ⟨Cond.mk (by omega), hK _ ?_⟩
            clear K hK
            refine awpS_nil ?_
            refine round_end (i + 1) (⟨by omega, step_all hn hgi⟩) (by omega) ?_
            refine wk_of (id) (fun _ => false) (fun _ => false) ?_ ?_ rfl (Nat.zero_le _) (fun k hk => absurd hk (Nat.not_lt_zero _))
            · simp [hG, List.getD_cons_zero, List.getD_cons_succ, -List.getD_eq_getElem?_getD, pureOp]
            · simp [hG, List.getD_cons_zero, List.getD_cons_succ, -List.getD_eq_getElem?_getD, pureOp]
        ·
          try simp [-List.getD_eq_getElem?_getD] at hb28
          obtain rfl : i = l.length := (by omega)
          have hgd : l.any (badI e) = false := any_bad hn
          refine awpS_exit ?_
          refine thenQ_exit (thenQ_exit ?_)
          refine blockQ_exit (thenQ_norm ?_)
          refine awpS_seq ?_
          refine awpS_seq ?_
          refine awpS_reg T_ok fun K hK => ?_
          simp [hG, List.getD_cons_zero, List.getD_cons_succ, -List.getD_eq_getElem?_getD, pureOp]
          refine ⟨Cond.mk (by omega), hK _ ?_⟩
          clear K hK
          refine awpS_cond rfl (fun hb50 => ?_) (fun hb50 => ?_)
          ·
            try simp [-List.getD_eq_getElem?_getD] at hb50
            refine awpS_seq ?_
            refine awpS_reg T_ok fun K hK => ?_
            simp [hG, List.getD_cons_zero, List.getD_cons_succ, -List.getD_eq_getElem?_getD, pureOp]
            refine hK _ ?_
            clear K hK
            refine awpS_ret ?_
            refine RetOK_of ?_
            simp [hG, List.getD_cons_zero, List.getD_cons_succ, -List.getD_eq_getElem?_getD, pureOp]
            rw [encodeR_err (n := 4) (by unfold encodeN; rw [if_neg (by simpa using hv), if_neg (by omega), if_neg (by rw [hgd]; exact Bool.false_ne_true), if_pos (by omega)]) (by omega)]; simp
          ·
            try simp [-List.getD_eq_getElem?_getD] at hb50
            have hm : (l.length : Int) * e.block ≤ 65536 := (by omega)
            have hN : encodeN e s l = 0 := (by unfold encodeN; rw [if_neg (by simpa using hv), if_neg (by omega), if_neg (by rw [hgd]; exact Bool.false_ne_true), if_neg (by omega)])
            refine awpS_skip ?_
            refine awpS_seq ?_
            refine awpS_reg T_ok fun K hK => ?_
            simp [hG, List.getD_cons_zero, List.getD_cons_succ, -List.getD_eq_getElem?_getD, pureOp]
            refine hK _ ?_
            clear K hK
            refine awpS_seq ?_
            refine awpS_seq ?_
            refine awpS_reg T_ok fun K hK => ?_
            simp [hG, List.getD_cons_zero, List.getD_cons_succ, -List.getD_eq_getElem?_getD, pureOp]
            refine hK _ ?_
            clear K hK
            refine awpS_block ?_
            refine awpS_loop (α := Nat) (fun k => ⟨[(1, .int .i64 (runE e s (l.take k)).2), (2, ints l), (3, .ptr (0, 0) 0 0), (10, .str (runE e s (l.take k)).1), (11, .int .i64 k)], [(0, .one (.arr 1 4 (fun _ => encF e)))], 1⟩) (fun k => k ≤ l.length) (fun k => l.length - k) (0) (Nat.zero_le _) ?_ ?_
            ·
              refine wk_of (id) (fun _ => false) (fun _ => false) ?_ ?_ rfl (Nat.zero_le _) (fun k hk => absurd hk (Nat.not_lt_zero _))
              · simp [hG, List.getD_cons_zero, List.getD_cons_succ, -List.getD_eq_getElem?_getD]; exact ⟨rfl, rfl⟩
              · simp [hG, List.getD_cons_zero, List.getD_cons_succ, -List.getD_eq_getElem?_getD, pureOp]
            ·
              rintro k hk
              refine awpS_seq ?_
              refine awpS_seq ?_
              refine awpS_reg T_ok fun K hK => ?_
              simp [hG, List.getD_cons_zero, List.getD_cons_succ, -List.getD_eq_getElem?_getD, pureOp]
              refine hK _ ?_
              clear K hK
              refine awpS_cond rfl (fun hb54 => ?_) (fun hb54 => ?_)
              ·
                try simp [-List.getD_eq_getElem?_getD] at hb54
                have hkl : k < l.length := (by omega)
                have hrun := run_at hv hs0.1 hs0.2 hgd hm hk
                have hrt := runE_take (e := e) (s := s) hkl
                unfold cellAt at hrt
                have hgk := bad_no.1 (good_at hgd hkl)
                have hrl := row_eq hv (k := (runE e s (l.take k)).2.toNat) (by omega)
                have hcw := cell_wlen hv (s := (runE e s (l.take k)).2.toNat) (i := (l.getD k 0).toNat) (by omega) (by omega)
                unfold cellAt at hcw
                refine awpS_skip ?_
                refine awpS_seq ?_
                refine awpS_block ?_
                refine awpS_seq ?_
                refine awpS_draw hR mixed [] ⟨[12], [], []⟩ fun mu0 => ?_
                refine awpA_tk T_ok [0, 1, 2, 3, 4, 5, 6, 7, 8, 9, 10] [] (fuel := 2) [10, 9, 8, 7, 6, 5, 4, 3, 2, 1, 0] (by decide +kernel) (by decide +kernel) rfl rfl fun K hK => ?_
                simp [hG, List.getD_cons_zero, List.getD_cons_succ, -List.getD_eq_getElem?_getD, pureOp]
                refine ⟨Cond.mk (by omega), hK _ ?_⟩
                clear K hK
                refine awpA_only (fuel := 1) (i := 11) (by decide +kernel) ?_
                refine awpO_reg T_ok rfl ?_ fun K hK => ?_
                · simp [hG, List.getD_cons_zero, List.getD_cons_succ, -List.getD_eq_getElem?_getD, pureOp]; try exact trivial
                simp [hG, List.getD_cons_zero, List.getD_cons_succ, -List.getD_eq_getElem?_getD, pureOp]
                refine hK _ ?_
                clear K hK
                refine awpA_only (fuel := 0) (i := 12) (by decide +kernel) ?_
                refine awpO_reg T_ok rfl ?_ fun K hK => ?_
                · simp [hG, List.getD_cons_zero, List.getD_cons_succ, -List.getD_eq_getElem?_getD, pureOp]; try exact trivial
                simp [hG, List.getD_cons_zero, List.getD_cons_succ, -List.getD_eq_getElem?_getD, pureOp]
                refine ⟨Cond.mk (by exact trivial), hK _ ?_⟩
                clear K hK
                refine awpA_done (by decide +kernel) ?_
                refine awpS_seq ?_
                refine awpS_reg T_ok fun K hK => ?_
                simp [hG, List.getD_cons_zero, List.getD_cons_succ, -List.getD_eq_getElem?_getD, pureOp]
                refine ⟨Cond.mk (by omega), hK _ ?_⟩
                clear K hK
                refine awpS_reg T_ok fun K hK => ?_
                simp [hG, List.getD_cons_zero, List.getD_cons_succ, -List.getD_eq_getElem?_getD, pureOp]
                refine hK _ ?_
                clear K hK
                refine awpS_nil ?_
                refine blockQ_norm (thenQ_norm ?_)
                refine awpS_reg T_ok fun K hK => ?_
                simp [hG, List.getD_cons_zero, List.getD_cons_succ, -List.getD_eq_getElem?_getD, pureOp]
                refine ⟨Cond.mk (by omega), hK _ ?_⟩
                clear K hK
                refine awpS_nil ?_
                refine round_end (k + 1) (by omega) (by omega) ?_
                refine wk_of (id) (fun _ => false) (fun _ => false) ?_ ?_ rfl (Nat.zero_le _) (fun k hk => absurd hk (Nat.not_lt_zero _))
                · rw [hrt]; simp [hG, List.getD_cons_zero, List.getD_cons_succ, -List.getD_eq_getElem?_getD]
                · simp [hG, List.getD_cons_zero, List.getD_cons_succ, -List.getD_eq_getElem?_getD, pureOp]
              ·
                try simp [-List.getD_eq_getElem?_getD] at hb54
                obtain rfl : k = l.length := (by omega)
                refine awpS_exit ?_
                refine thenQ_exit (thenQ_exit ?_)
                refine blockQ_exit (thenQ_norm ?_)
                refine awpS_seq ?_
                refine awpS_reg T_ok fun K hK => ?_
                simp [hG, List.getD_cons_zero, List.getD_cons_succ, -List.getD_eq_getElem?_getD, pureOp]
                refine hK _ ?_
                clear K hK
                refine awpS_ret ?_
                refine RetOK_of ?_
                simp [hG, List.getD_cons_zero, List.getD_cons_succ, -List.getD_eq_getElem?_getD, pureOp]
                rw [encodeR_ok hN]; simp

set_option maxRecDepth 100000 in
theorem followR_c (g : Gr) (hv : gcheck g = 0) (L : List Int) (hset : SetOK g L) (w : List UInt8) (hw : w.length ≤ 100000) : PC Tryz.prog 42 [.agg 3 (grF g), ints L, .str w] (ints (setA g L w)) := by
  have hz := (gcheck_valid hv).1
  have hst := hz.st
  have hed := hz.ed
  refine PC_introS T_ok Tryz.func42 rfl (by simp [Tryz.ntmps42]) fun G hG hR => ?_
  simp only [Tryz.ntmps42, Tryz.results42] at hG ⊢
  simp only [argEnv, Nat.zero_add, Nat.reduceAdd]
  refine awpS_seq ?_
  refine awpS_reg T_ok fun K hK => ?_
  simp [hG, List.getD_cons_zero, List.getD_cons_succ, -List.getD_eq_getElem?_getD, List.take_zero]
  refine ⟨Cond.mk (by exact trivial), hK _ ?_⟩
  clear K hK
  refine awpS_seq ?_
  refine awpS_seq ?_
  refine awpS_reg T_ok fun K hK => ?_
  simp [hG, List.getD_cons_zero, List.getD_cons_succ, -List.getD_eq_getElem?_getD, List.take_zero]
  refine hK _ ?_
  clear K hK
  refine awpS_block ?_
  refine awpS_loop (α := Nat) (fun i => ⟨[(1, ints (setA g L (w.take i))), (2, .str w), (3, .ptr (0, 0) 0 0), (7, .int .i64 i)], [(0, .one (.arr 1 3 (fun _ => grF g)))], 1⟩) (fun i => i ≤ w.length) (fun i => w.length - i) (0) (Nat.zero_le _) ?_ ?_
  ·
    refine wk_of (id) (fun _ => false) (fun _ => false) ?_ ?_ rfl (Nat.zero_le _) (fun k hk => absurd hk (Nat.not_lt_zero _))
    · simp [hG, List.getD_cons_zero, List.getD_cons_succ, -List.getD_eq_getElem?_getD]; exact Clo.le _ Clo_ints
    · simp [hG, List.getD_cons_zero, List.getD_cons_succ, -List.getD_eq_getElem?_getD, List.take_zero]
  ·
    rintro i hi
    refine awpS_seq ?_
    refine awpS_seq ?_
    refine awpS_reg T_ok fun K hK => ?_
    simp [hG, List.getD_cons_zero, List.getD_cons_succ, -List.getD_eq_getElem?_getD, List.take_zero]
    refine hK _ ?_
    clear K hK
    refine awpS_cond rfl (fun hb11 => ?_) (fun hb11 => ?_)
    ·
      try simp [-List.getD_eq_getElem?_getD] at hb11
      have hiw : i < w.length := (by omega)
      have hE := setA_take (g := g) (L := L) hiw
      have hsl := (setA_ok hv hset (w := w.take i)).len hv
      refine awpS_skip ?_
      refine awpS_seq ?_
      refine awpS_block ?_
      refine awpS_draw hR mixed [] ⟨[], [], []⟩ fun mu0 => ?_
      refine awpA_tk T_ok [0, 1, 2, 3, 4] [] (fuel := 3) [4, 3, 2, 1, 0] (by decide +kernel) (by decide +kernel) rfl rfl fun K hK => ?_
      simp [hG, List.getD_cons_zero, List.getD_cons_succ, -List.getD_eq_getElem?_getD, List.take_zero]
      refine ⟨Cond.mk (by omega), hK _ ?_⟩
      clear K hK
      refine awpA_only (fuel := 2) (i := 5) (by decide +kernel) ?_
      refine awpO_call cal73 rfl rfl rfl (fun _ => rfl) (fun hg => digit_c (w.getD i 0)) (fun hg => ?_) (fun hg => ?_) fun K hK => ?_
      · simp [hG, List.getD_cons_zero, List.getD_cons_succ, -List.getD_eq_getElem?_getD, List.take_zero]
      · simp [hG, List.getD_cons_zero, List.getD_cons_succ, -List.getD_eq_getElem?_getD, List.take_zero]
      simp [hG, List.getD_cons_zero, List.getD_cons_succ, -List.getD_eq_getElem?_getD, List.take_zero]
      refine hK _ ?_
      clear K hK
      refine awpA_only (fuel := 1) (i := 6) (by decide +kernel) ?_
      refine awpO_call cal72 rfl rfl rfl (fun _ => rfl) (fun hg => nextR_c g (idxB letters (w.getD i 0)) (setA g L (w.take i)) (by omega) (by omega) (by omega)) (fun hg => ?_) (fun hg => ?_) fun K hK => ?_
      · simp [hG, List.getD_cons_zero, List.getD_cons_succ, -List.getD_eq_getElem?_getD, List.take_zero]
      · simp [hG, List.getD_cons_zero, List.getD_cons_succ, -List.getD_eq_getElem?_getD, List.take_zero]
      simp [hG, List.getD_cons_zero, List.getD_cons_succ, -List.getD_eq_getElem?_getD, List.take_zero]
      refine hK _ ?_
      clear K hK
      refine awpA_tk T_ok [7] [] (fuel := 0) [7, 6, 5, 4, 3, 2, 1, 0] (by decide +kernel) (by decide +kernel) rfl rfl fun K hK => ?_
      simp [hG, List.getD_cons_zero, List.getD_cons_succ, -List.getD_eq_getElem?_getD, List.take_zero]
      refine hK _ ?_
      clear K hK
      refine awpA_done (by decide +kernel) ?_
      refine awpS_nil ?_
      refine blockQ_norm (thenQ_norm ?_)
      refine awpS_reg T_ok fun K hK => ?_
      simp [hG, List.getD_cons_zero, List.getD_cons_succ, -List.getD_eq_getElem?_getD, List.take_zero]
      refine ⟨Cond.mk (by omega), hK _ ?_⟩
      clear K hK
      refine awpS_nil ?_
      refine round_end (i + 1) (by omega) (by omega) ?_
      refine wk_of (id) (fun _ => false) (fun _ => false) ?_ ?_ rfl (Nat.zero_le _) (fun k hk => absurd hk (Nat.not_lt_zero _))
      · rw [hE, ← nxT_all hv]; simp [hG, List.getD_cons_zero, List.getD_cons_succ, -List.getD_eq_getElem?_getD]
      · simp [hG, List.getD_cons_zero, List.getD_cons_succ, -List.getD_eq_getElem?_getD, List.take_zero]
    ·
      try simp [-List.getD_eq_getElem?_getD] at hb11
      obtain rfl : i = w.length := (by omega)
      refine awpS_exit ?_
      refine thenQ_exit (thenQ_exit ?_)
      refine blockQ_exit (thenQ_norm ?_)
      refine awpS_seq ?_
      refine awpS_reg T_ok fun K hK => ?_
      simp [hG, List.getD_cons_zero, List.getD_cons_succ, -List.getD_eq_getElem?_getD, List.take_zero]
      refine hK _ ?_
      clear K hK
      refine awpS_ret ?_
      refine RetOK_of ?_
      simp [hG, List.getD_cons_zero, List.getD_cons_succ, -List.getD_eq_getElem?_getD, List.take_zero]

set_option maxRecDepth 100000 in
theorem metR_c (st : Sb) (Q : List Pr) (s : Int) (X : List Int) (hQ : Q.length ≤ 100000) (hr : ∀ p ∈ st.all, p.length ≤ 1000000) : FC1 Tryz.prog 43 [.sl (0, 0) 0 Q.length, .int .i64 s, ints X] [(0, .one (.arr (Q).length 2 (fun q j => mtF st ((Q).getD q dp) j)))] 1 (.bool (metB st Q s X)) [(0, .one (.arr (Q).length 2 (fun q j => mtF st ((Q).getD q dp) j)))] 1 := by
  refine FC_introS T_ok Tryz.func43 rfl (by simp [Tryz.ntmps43]) fun G hG hR => ?_
  simp only [Tryz.ntmps43, Tryz.results43] at hG ⊢
  simp only [argEnv, Nat.zero_add, Nat.reduceAdd]
  refine awpS_seq ?_
  refine awpS_reg T_ok fun K hK => ?_
  simp [hG, List.getD_cons_zero, List.getD_cons_succ, -List.getD_eq_getElem?_getD]
  refine hK _ ?_
  clear K hK
  refine awpS_seq ?_
  refine awpS_seq ?_
  refine awpS_reg T_ok fun K hK => ?_
  simp [hG, List.getD_cons_zero, List.getD_cons_succ, -List.getD_eq_getElem?_getD]
  refine hK _ ?_
  clear K hK
  refine awpS_block ?_
  refine awpS_loop (α := Nat) (fun i => ⟨[(0, .sl (0, 0) 0 Q.length), (1, .int .i64 s), (2, ints X), (7, .int .i64 i)], [(0, .one (.arr (Q).length 2 (fun q j => mtF st ((Q).getD q dp) j)))], 1⟩) (fun i => i ≤ Q.length ∧ ∀ j, j < i → ¬ ((Q.getD j dp).s = s ∧ st.all.getD (Q.getD j dp).t.toNat [] = X)) (fun i => Q.length - i) (0) (⟨Nat.zero_le _, fun j hj => absurd hj (Nat.not_lt_zero _)⟩) ?_ ?_
  ·
    refine wk_of (id) (fun _ => false) (fun _ => false) ?_ ?_ rfl (by simp) (fun k hk => by first | exact ⟨rfl, rfl⟩ | (revert k; decide) | (obtain rfl : k = 0 := (by omega); exact ⟨rfl, rfl⟩) | (have hk2 : k = 0 ∨ k = 1 := (by omega); rcases hk2 with rfl | rfl <;> exact ⟨rfl, rfl⟩))
    · simp [hG, List.getD_cons_zero, List.getD_cons_succ, -List.getD_eq_getElem?_getD]
    · simp [hG, List.getD_cons_zero, List.getD_cons_succ, -List.getD_eq_getElem?_getD]
  ·
    rintro i ⟨hi, hn⟩
    refine awpS_seq ?_
    refine awpS_seq ?_
    refine awpS_reg T_ok fun K hK => ?_
    simp [hG, List.getD_cons_zero, List.getD_cons_succ, -List.getD_eq_getElem?_getD]
    refine hK _ ?_
    clear K hK
    refine awpS_cond rfl (fun hb11 => ?_) (fun hb11 => ?_)
    ·
      try simp [-List.getD_eq_getElem?_getD] at hb11
      refine awpS_skip ?_
      refine awpS_seq ?_
      refine awpS_block ?_
      refine awpS_seq ?_
      refine awpS_regL ?_
      refine awpL_reg T_ok 14 fun K hK => ?_
      simp [hG, List.getD_cons_zero, List.getD_cons_succ, -List.getD_eq_getElem?_getD]
      refine ⟨Cond.mk (by simp [-List.getD_eq_getElem?_getD]; omega), hK _ ?_⟩
      clear K hK
      refine awpL_call cal74 rfl rfl (fun _ => rfl) (fun hg => sameSetR_c (st.all.getD (Q.getD i dp).t.toNat []) X (all_small hr)) (fun hg => ?_) (fun hg => ?_) fun K hK => ?_
      · first | (simp [hG, List.getD_cons_zero, List.getD_cons_succ, -List.getD_eq_getElem?_getD]; done) | (simp [-List.getD_eq_getElem?_getD] at hg; done) | (simp [-List.getD_eq_getElem?_getD] at hg; simp [hG, List.getD_cons_zero, List.getD_cons_succ, -List.getD_eq_getElem?_getD]; first | omega | exact hg | (simp_all [-List.getD_eq_getElem?_getD]; done) | (simp_all [-List.getD_eq_getElem?_getD]; first | exact ⟨rfl, rfl⟩ | exact rfl))
      · first | (simp [hG, List.getD_cons_zero, List.getD_cons_succ, -List.getD_eq_getElem?_getD]; done) | (simp [-List.getD_eq_getElem?_getD] at hg; done) | (simp [-List.getD_eq_getElem?_getD] at hg; simp [hG, List.getD_cons_zero, List.getD_cons_succ, -List.getD_eq_getElem?_getD]; first | omega | exact hg | (simp_all [-List.getD_eq_getElem?_getD]; done) | (simp_all [-List.getD_eq_getElem?_getD]; first | exact ⟨rfl, rfl⟩ | exact rfl))
      simp [hG, List.getD_cons_zero, List.getD_cons_succ, -List.getD_eq_getElem?_getD]
      refine hK _ ?_
      clear K hK
      refine awpL_reg T_ok 1 fun K hK => ?_
      simp [hG, List.getD_cons_zero, List.getD_cons_succ, -List.getD_eq_getElem?_getD]
      refine hK _ ?_
      clear K hK
      refine awpL_nil ?_
      refine awpS_cond rfl (fun hb29 => ?_) (fun hb29 => ?_)
      ·
        try simp [-List.getD_eq_getElem?_getD] at hb29
        refine awpS_seq ?_
        refine awpS_reg T_ok fun K hK => ?_
        simp [hG, List.getD_cons_zero, List.getD_cons_succ, -List.getD_eq_getElem?_getD]
        refine hK _ ?_
        clear K hK
        refine awpS_ret ?_
        refine blockQ_ret (thenQ_ret ?_)
        refine thenQ_ret (thenQ_ret ?_)
        refine blockQ_ret (thenQ_ret ?_)
        refine RetF_of (()) (id) (fun _ => false) (fun _ => false) trivial ?_ ?_ (by rfl) (by simp) (fun k _ => ⟨rfl, rfl⟩)
        · rw [metB_hit (st := st) (s := s) (X := X) (show i < Q.length by omega) hb29.1 hb29.2]; simp [hG, List.getD_cons_zero, List.getD_cons_succ, -List.getD_eq_getElem?_getD]
        · simp [hG, List.getD_cons_zero, List.getD_cons_succ, -List.getD_eq_getElem?_getD]
      ·
        try simp [-List.getD_eq_getElem?_getD] at hb29
        refine awpS_skip ?_
        refine awpS_nil ?_
        refine blockQ_norm (thenQ_norm ?_)
        refine awpS_reg T_ok fun K hK => ?_
        simp [hG, List.getD_cons_zero, List.getD_cons_succ, -List.getD_eq_getElem?_getD]
        refine ⟨Cond.mk (by omega), hK _ ?_⟩
        clear K hK
        refine awpS_nil ?_
        refine round_end (i + 1) (⟨by omega, step_all hn (by simpa using hb29)⟩) (by omega) ?_
        refine wk_of (id) (fun _ => false) (fun _ => false) ?_ ?_ rfl (by simp) (fun k hk => by first | exact ⟨rfl, rfl⟩ | (revert k; decide) | (obtain rfl : k = 0 := (by omega); exact ⟨rfl, rfl⟩) | (have hk2 : k = 0 ∨ k = 1 := (by omega); rcases hk2 with rfl | rfl <;> exact ⟨rfl, rfl⟩))
        · simp [hG, List.getD_cons_zero, List.getD_cons_succ, -List.getD_eq_getElem?_getD]
        · simp [hG, List.getD_cons_zero, List.getD_cons_succ, -List.getD_eq_getElem?_getD]
    ·
      try simp [-List.getD_eq_getElem?_getD] at hb11
      refine awpS_exit ?_
      refine thenQ_exit (thenQ_exit ?_)
      refine blockQ_exit (thenQ_norm ?_)
      refine awpS_seq ?_
      refine awpS_reg T_ok fun K hK => ?_
      simp [hG, List.getD_cons_zero, List.getD_cons_succ, -List.getD_eq_getElem?_getD]
      refine hK _ ?_
      clear K hK
      refine awpS_ret ?_
      refine RetF_of (()) (id) (fun _ => false) (fun _ => false) trivial ?_ ?_ (by rfl) (by simp) (fun k _ => ⟨rfl, rfl⟩)
      · rw [metB_none (st := st) (s := s) (X := X) (fun j hj => hn j (by omega))]; simp [hG, List.getD_cons_zero, List.getD_cons_succ, -List.getD_eq_getElem?_getD]
      · simp [hG, List.getD_cons_zero, List.getD_cons_succ, -List.getD_eq_getElem?_getD]

set_option maxRecDepth 100000 in
set_option maxHeartbeats 2000000 in
theorem withinRf_c (e : Enc) (g : Gr) : PC Tryz.prog 12 [.agg 4 (encF e), .agg 3 (grF g)] (.tup 2 (fun j => [.bool (withinB e g), .int .i64 (withinN e g)].getD j .any)) := by
  refine PC_introS T_ok Tryz.func12 rfl (by simp [Tryz.ntmps12]) fun G hG hR => ?_
  simp only [Tryz.ntmps12, Tryz.results12] at hG ⊢
  simp only [argEnv, Nat.zero_add, Nat.reduceAdd]
  refine awpS_seq ?_
  refine awpS_reg T_ok fun K hK => ?_
  simp [hG, List.getD_cons_zero, List.getD_cons_succ, -List.getD_eq_getElem?_getD, pureOp, iota_nil, wi0_zero, wiRow_zero]
  refine ⟨Cond.mk (by simp [-List.getD_eq_getElem?_getD]), hK _ ?_⟩
  clear K hK
  refine awpS_seq ?_
  refine awpS_seq ?_
  refine awpS_regL ?_
  refine awpL_reg T_ok 1 fun K hK => ?_
  simp [hG, List.getD_cons_zero, List.getD_cons_succ, -List.getD_eq_getElem?_getD, pureOp, iota_nil, wi0_zero, wiRow_zero]
  refine hK _ ?_
  clear K hK
  refine awpL_call cal20 rfl rfl (fun _ => rfl) (fun hg => checkR_c e) (fun hg => ?_) (fun hg => ?_) fun K hK => ?_
  · simp [hG, List.getD_cons_zero, List.getD_cons_succ, -List.getD_eq_getElem?_getD, pureOp, iota_nil, wi0_zero, wiRow_zero]
  · simp [hG, List.getD_cons_zero, List.getD_cons_succ, -List.getD_eq_getElem?_getD, pureOp, iota_nil, wi0_zero, wiRow_zero]
  simp [hG, List.getD_cons_zero, List.getD_cons_succ, -List.getD_eq_getElem?_getD, pureOp, iota_nil, wi0_zero, wiRow_zero]
  refine hK _ ?_
  clear K hK
  refine awpL_reg T_ok 3 fun K hK => ?_
  simp [hG, List.getD_cons_zero, List.getD_cons_succ, -List.getD_eq_getElem?_getD, pureOp, iota_nil, wi0_zero, wiRow_zero]
  refine hK _ ?_
  clear K hK
  refine awpL_call cal40 rfl rfl (fun _ => rfl) (fun hg => check9_c g) (fun hg => ?_) (fun hg => ?_) fun K hK => ?_
  · first | (simp [hG, List.getD_cons_zero, List.getD_cons_succ, -List.getD_eq_getElem?_getD, pureOp, iota_nil, wi0_zero, wiRow_zero]; done) | (simp [-List.getD_eq_getElem?_getD] at hg; done) | (simp [-List.getD_eq_getElem?_getD] at hg; simp [hG, List.getD_cons_zero, List.getD_cons_succ, -List.getD_eq_getElem?_getD, pureOp, iota_nil, wi0_zero, wiRow_zero]; first | omega | exact hg | (simp_all [-List.getD_eq_getElem?_getD]; done) | (simp_all [-List.getD_eq_getElem?_getD]; first | exact ⟨rfl, rfl⟩ | exact rfl))
  · first | (simp [hG, List.getD_cons_zero, List.getD_cons_succ, -List.getD_eq_getElem?_getD, pureOp, iota_nil, wi0_zero, wiRow_zero]; done) | (simp [-List.getD_eq_getElem?_getD] at hg; done) | (simp [-List.getD_eq_getElem?_getD] at hg; simp [hG, List.getD_cons_zero, List.getD_cons_succ, -List.getD_eq_getElem?_getD, pureOp, iota_nil, wi0_zero, wiRow_zero]; first | omega | exact hg | (simp_all [-List.getD_eq_getElem?_getD]; done) | (simp_all [-List.getD_eq_getElem?_getD]; first | exact ⟨rfl, rfl⟩ | exact rfl))
  simp [hG, List.getD_cons_zero, List.getD_cons_succ, -List.getD_eq_getElem?_getD, pureOp, iota_nil, wi0_zero, wiRow_zero]
  refine hK _ ?_
  clear K hK
  refine awpL_reg T_ok 2 fun K hK => ?_
  simp [hG, List.getD_cons_zero, List.getD_cons_succ, -List.getD_eq_getElem?_getD, pureOp, iota_nil, wi0_zero, wiRow_zero]
  refine hK _ ?_
  clear K hK
  refine awpL_nil ?_
  refine awpS_cond rfl (fun hb24 => ?_) (fun hb24 => ?_)
  ·
    try simp [-List.getD_eq_getElem?_getD] at hb24
    refine awpS_seq ?_
    refine awpS_reg T_ok fun K hK => ?_
    simp [hG, List.getD_cons_zero, List.getD_cons_succ, -List.getD_eq_getElem?_getD, pureOp, iota_nil, wi0_zero, wiRow_zero]
    refine hK _ ?_
    clear K hK
    refine awpS_ret ?_
    refine RetOK_of ?_
    simp [hG, List.getD_cons_zero, List.getD_cons_succ, -List.getD_eq_getElem?_getD, pureOp, iota_nil, wi0_zero, wiRow_zero]
    exact within0 hb24
  ·
    try simp [-List.getD_eq_getElem?_getD] at hb24
    have hv : checkE e = 0 := hb24.1
    have hvg : gcheck g = 0 := hb24.2
    have h64 := rows_len hv
    have hin := (checkE_valid hv).1.inputs
    have hst64 := (gcheck_valid hvg).1.st
    refine awpS_skip ?_
    refine awpS_seq ?_
    refine awpS_seq ?_
    refine awpS_reg T_ok fun K hK => ?_
    simp [hG, List.getD_cons_zero, List.getD_cons_succ, -List.getD_eq_getElem?_getD, pureOp, iota_nil, wi0_zero, wiRow_zero]
    refine hK _ ?_
    clear K hK
    refine awpS_cond rfl (fun hb29 => ?_) (fun hb29 => ?_)
    ·
      try simp [-List.getD_eq_getElem?_getD] at hb29
      refine awpS_seq ?_
      refine awpS_reg T_ok fun K hK => ?_
      simp [hG, List.getD_cons_zero, List.getD_cons_succ, -List.getD_eq_getElem?_getD, pureOp, iota_nil, wi0_zero, wiRow_zero]
      refine hK _ ?_
      clear K hK
      refine awpS_ret ?_
      refine RetOK_of ?_
      simp [hG, List.getD_cons_zero, List.getD_cons_succ, -List.getD_eq_getElem?_getD, pureOp, iota_nil, wi0_zero, wiRow_zero]
      exact within1 hv hvg hb29
    ·
      try simp [-List.getD_eq_getElem?_getD] at hb29
      have hl : g.labels = e.letters := (by omega)
      refine awpS_skip ?_
      refine awpS_seq ?_
      refine awpS_seq ?_
      refine awpS_regL ?_
      refine awpL_reg T_ok 1 fun K hK => ?_
      simp [hG, List.getD_cons_zero, List.getD_cons_succ, -List.getD_eq_getElem?_getD, pureOp, iota_nil, wi0_zero, wiRow_zero]
      refine hK _ ?_
      clear K hK
      refine awpL_call cal41 rfl rfl (fun _ => rfl) (fun hg => buildR_c g) (fun hg => ?_) (fun hg => ?_) fun K hK => ?_
      · simp [hG, List.getD_cons_zero, List.getD_cons_succ, -List.getD_eq_getElem?_getD, pureOp, iota_nil, wi0_zero, wiRow_zero]
      · simp [hG, List.getD_cons_zero, List.getD_cons_succ, -List.getD_eq_getElem?_getD, pureOp, iota_nil, wi0_zero, wiRow_zero]
      simp [hG, List.getD_cons_zero, List.getD_cons_succ, -List.getD_eq_getElem?_getD, pureOp, iota_nil, wi0_zero, wiRow_zero]
      refine hK _ ?_
      clear K hK
      refine awpL_reg T_ok 8 fun K hK => ?_
      simp [hG, List.getD_cons_zero, List.getD_cons_succ, -List.getD_eq_getElem?_getD, pureOp, iota_nil, wi0_zero, wiRow_zero]
      refine ⟨Cond.mk (by exact trivial), hK _ ?_⟩
      clear K hK
      refine awpL_nil ?_
      refine awpS_seq ?_
      refine awpS_reg T_ok fun K hK => ?_
      simp [hG, List.getD_cons_zero, List.getD_cons_succ, -List.getD_eq_getElem?_getD, pureOp, iota_nil, wi0_zero, wiRow_zero]
      refine hK _ ?_
      clear K hK
      refine awpS_cond rfl (fun hb37 => ?_) (fun hb37 => ?_)
      ·
        try simp [-List.getD_eq_getElem?_getD] at hb37
        refine awpS_seq ?_
        refine awpS_reg T_ok fun K hK => ?_
        simp [hG, List.getD_cons_zero, List.getD_cons_succ, -List.getD_eq_getElem?_getD, pureOp, iota_nil, wi0_zero, wiRow_zero]
        refine hK _ ?_
        clear K hK
        refine awpS_ret ?_
        refine RetOK_of ?_
        simp [hG, List.getD_cons_zero, List.getD_cons_succ, -List.getD_eq_getElem?_getD, pureOp, iota_nil, wi0_zero, wiRow_zero]
        exact within7 hv hvg hl hb37
      ·
        try simp [-List.getD_eq_getElem?_getD] at hb37
        have hN : buildN g = 0 := (by omega)
        refine awpS_skip ?_
        refine awpS_seq ?_
        refine awpS_reg T_ok fun K hK => ?_
        simp [hG, List.getD_cons_zero, List.getD_cons_succ, -List.getD_eq_getElem?_getD, pureOp, iota_nil, wi0_zero, wiRow_zero]
        refine hK _ ?_
        clear K hK
        refine awpS_seq ?_
        refine awpS_seq ?_
        refine awpS_reg T_ok fun K hK => ?_
        simp [hG, List.getD_cons_zero, List.getD_cons_succ, -List.getD_eq_getElem?_getD, pureOp, iota_nil, wi0_zero, wiRow_zero]
        refine hK _ ?_
        clear K hK
        refine awpS_block ?_
        refine awpS_loop (α := Nat) (fun t => ⟨[(2, .ptr (0, 0) 0 0), (3, .ptr (1, 0) 0 0), (9, .sl (2, 0) 0 (iotaL t).length), (10, .int .i64 t)], [(0, .one (.arr 1 4 (fun _ => encF e))), (1, .one (.arr 1 3 (fun _ => grF g))), (2, .one (.arr (iotaL t).length 1 (fun q _ => .int .i64 ((iotaL t).getD q 0))))], 3⟩) (fun t => t ≤ g.states.toNat) (fun t => g.states.toNat - t) (0) (Nat.zero_le _) ?_ ?_
        ·
          refine wk_of (id) (fun _ => false) (fun k => k == 2) ?_ ?_ rfl (Nat.zero_le _) (fun k hk => absurd hk (Nat.not_lt_zero _))
          · simp [hG, List.getD_cons_zero, List.getD_cons_succ, -List.getD_eq_getElem?_getD, pureOp, iota_nil, wi0_zero, wiRow_zero]
          · simp [hG, List.getD_cons_zero, List.getD_cons_succ, -List.getD_eq_getElem?_getD, pureOp, iota_nil, wi0_zero, wiRow_zero]
        ·
          rintro t ht
          refine awpS_seq ?_
          refine awpS_seq ?_
          refine awpS_reg T_ok fun K hK => ?_
          simp [hG, List.getD_cons_zero, List.getD_cons_succ, -List.getD_eq_getElem?_getD, pureOp, iota_nil, wi0_zero, wiRow_zero]
          refine hK _ ?_
          clear K hK
          refine awpS_cond rfl (fun hb41 => ?_) (fun hb41 => ?_)
          ·
            try simp [-List.getD_eq_getElem?_getD] at hb41
            have hE := iota_succ (m := t)
            have hln := iota_len (m := t)
            refine awpS_skip ?_
            refine awpS_seq ?_
            refine awpS_block ?_
            refine awpS_reg T_ok fun K hK => ?_
            simp [hG, List.getD_cons_zero, List.getD_cons_succ, -List.getD_eq_getElem?_getD, pureOp, iota_nil, wi0_zero, wiRow_zero]
            refine ⟨Cond.mk (by omega), hK _ ?_⟩
            clear K hK
            refine awpS_nil ?_
            refine blockQ_norm (thenQ_norm ?_)
            refine awpS_reg T_ok fun K hK => ?_
            simp [hG, List.getD_cons_zero, List.getD_cons_succ, -List.getD_eq_getElem?_getD, pureOp, iota_nil, wi0_zero, wiRow_zero]
            refine ⟨Cond.mk (by omega), hK _ ?_⟩
            clear K hK
            refine awpS_nil ?_
            refine round_end (t + 1) (by omega) (by omega) ?_
            refine wk_of (fun k => if k = 2 then 4 else k) (fun _ => false) (fun _ => false) ?_ ?_ rfl (Nat.zero_le _) (fun k hk => absurd hk (Nat.not_lt_zero _))
            · rw [hE]; simp [hG, List.getD_cons_zero, List.getD_cons_succ, -List.getD_eq_getElem?_getD]
            · rw [hE]; simp [hG, List.getD_cons_zero, List.getD_cons_succ, -List.getD_eq_getElem?_getD]; exact fun q hq => app_int hq
          ·
            try simp [-List.getD_eq_getElem?_getD] at hb41
            obtain rfl : t = g.states.toNat := (by omega)
            refine awpS_exit ?_
            refine thenQ_exit (thenQ_exit ?_)
            refine blockQ_exit (thenQ_norm ?_)
            refine awpS_seq ?_
            refine awpS_seq ?_
            refine awpS_reg T_ok fun K hK => ?_
            simp [hG, List.getD_cons_zero, List.getD_cons_succ, -List.getD_eq_getElem?_getD, pureOp, iota_nil, wi0_zero, wiRow_zero]
            refine hK _ ?_
            clear K hK
            refine awpS_cond rfl (fun hb50 => ?_) (fun hb50 => ?_)
            ·
              try simp [-List.getD_eq_getElem?_getD] at hb50
              have hz : g.states = 0 := states_none (by omega) (by simpa using hb50)
              refine awpS_seq ?_
              refine awpS_reg T_ok fun K hK => ?_
              simp [hG, List.getD_cons_zero, List.getD_cons_succ, -List.getD_eq_getElem?_getD, pureOp, iota_nil, wi0_zero, wiRow_zero]
              refine hK _ ?_
              clear K hK
              refine awpS_ret ?_
              refine RetOK_of ?_
              simp [hG, List.getD_cons_zero, List.getD_cons_succ, -List.getD_eq_getElem?_getD, pureOp, iota_nil, wi0_zero, wiRow_zero]
              exact within6 hv hvg hl hN hz
            ·
              try simp [-List.getD_eq_getElem?_getD] at hb50
              have h0 : 0 < g.states := states_some (by omega) (by simpa using hb50)
              obtain ⟨st, hst⟩ : ∃ st, sbAt g 65 = st := ⟨_, rfl⟩
              have hwl := vst_len hst hvg h0 hN
              have hfn := vst_fin hst hvg h0 hN
              have hfst := v_first hst
              have hrs : ∀ p ∈ st.all, p.length ≤ 1000000 := (fun p hp => by have h1 := hfn.set p hp; have h2 : p.length ≤ 64 := SetOK.len hvg ⟨h1.2.1, h1.2.2⟩; omega)
              refine awpS_skip ?_
              refine awpS_seq ?_
              refine awpS_reg T_ok fun K hK => ?_
              simp [hG, List.getD_cons_zero, List.getD_cons_succ, -List.getD_eq_getElem?_getD, pureOp, iota_nil, wi0_zero, wiRow_zero]
              refine hK _ ?_
              clear K hK
              refine awpS_seq ?_
              refine awpS_seq ?_
              refine awpS_reg T_ok fun K hK => ?_
              simp [hG, List.getD_cons_zero, List.getD_cons_succ, -List.getD_eq_getElem?_getD, pureOp, iota_nil, wi0_zero, wiRow_zero]
              refine hK _ ?_
              clear K hK
              refine awpS_block ?_
              refine awpS_loop (α := Nat) (fun s => ⟨[(2, .ptr (0, 0) 0 0), (3, .ptr (1, 0) 0 0), (9, ints (iotaL g.states.toNat)), (11, .sl (2, 0) 0 (wi0 s).length), (12, .int .i64 s)], [(0, .one (.arr 1 4 (fun _ => encF e))), (1, .one (.arr 1 3 (fun _ => grF g))), (2, .one (.arr (wi0 s).length 2 (fun q j => mtF st ((wi0 s).getD q dp) j)))], 3⟩) (fun s => s ≤ e.rows.length) (fun s => e.rows.length - s) (0) (Nat.zero_le _) ?_ ?_
              ·
                refine wk_of (id) (fun k => k == 2) (fun k => k == 2) ?_ ?_ rfl (Nat.zero_le _) (fun k hk => absurd hk (Nat.not_lt_zero _))
                · simp [hG, List.getD_cons_zero, List.getD_cons_succ, -List.getD_eq_getElem?_getD, pureOp, iota_nil, wi0_zero, wiRow_zero]
                · simp [hG, List.getD_cons_zero, List.getD_cons_succ, -List.getD_eq_getElem?_getD, pureOp, iota_nil, wi0_zero, wiRow_zero]
              ·
                rintro s hs
                refine awpS_seq ?_
                refine awpS_seq ?_
                refine awpS_reg T_ok fun K hK => ?_
                simp [hG, List.getD_cons_zero, List.getD_cons_succ, -List.getD_eq_getElem?_getD, pureOp, iota_nil, wi0_zero, wiRow_zero]
                refine hK _ ?_
                clear K hK
                refine awpS_cond rfl (fun hb55 => ?_) (fun hb55 => ?_)
                ·
                  try simp [-List.getD_eq_getElem?_getD] at hb55
                  have hE := wi0_new (s := s)
                  have hw0 := wi0_len hv hvg hl h0 hN hs
                  refine awpS_skip ?_
                  refine awpS_seq ?_
                  refine awpS_block ?_
                  refine awpS_reg T_ok fun K hK => ?_
                  simp [hG, List.getD_cons_zero, List.getD_cons_succ, -List.getD_eq_getElem?_getD, pureOp, iota_nil, wi0_zero, wiRow_zero]
                  refine ⟨Cond.mk (by simp [-List.getD_eq_getElem?_getD]; omega), hK _ ?_⟩
                  clear K hK
                  refine awpS_nil ?_
                  refine blockQ_norm (thenQ_norm ?_)
                  refine awpS_reg T_ok fun K hK => ?_
                  simp [hG, List.getD_cons_zero, List.getD_cons_succ, -List.getD_eq_getElem?_getD, pureOp, iota_nil, wi0_zero, wiRow_zero]
                  refine ⟨Cond.mk (by omega), hK _ ?_⟩
                  clear K hK
                  refine awpS_nil ?_
                  refine round_end (s + 1) (by omega) (by omega) ?_
                  refine wk_of (fun k => if k = 2 then 4 else k) (fun _ => false) (fun _ => false) ?_ ?_ rfl (Nat.zero_le _) (fun k hk => absurd hk (Nat.not_lt_zero _))
                  · rw [hE]; simp [hG, List.getD_cons_zero, List.getD_cons_succ, -List.getD_eq_getElem?_getD]
                  · rw [hE]; simp [hG, List.getD_cons_zero, List.getD_cons_succ, -List.getD_eq_getElem?_getD]; exact fun q hq => app_mt hq rfl (by show VLe _ _ _ _ _ (ints (st.all.getD 0 [])) (ints (iotaL g.states.toNat)); rw [hfst]; exact Clo.le _ Clo_ints)
                ·
                  try simp [-List.getD_eq_getElem?_getD] at hb55
                  obtain rfl : s = e.rows.length := (by omega)
                  refine awpS_exit ?_
                  refine thenQ_exit (thenQ_exit ?_)
                  refine blockQ_exit (thenQ_norm ?_)
                  refine awpS_seq ?_
                  refine awpS_seq ?_
                  refine awpS_reg T_ok fun K hK => ?_
                  simp [hG, List.getD_cons_zero, List.getD_cons_succ, -List.getD_eq_getElem?_getD, pureOp, iota_nil, wi0_zero, wiRow_zero]
                  refine hK _ ?_
                  clear K hK
                  refine awpS_block ?_
                  refine awpS_loop (α := Nat) (fun i => ⟨[(2, .ptr (0, 0) 0 0), (3, .ptr (1, 0) 0 0), (11, .sl (2, 0) 0 (wiQ e st i).length), (13, .int .i64 i)], [(0, .one (.arr 1 4 (fun _ => encF e))), (1, .one (.arr 1 3 (fun _ => grF g))), (2, .one (.arr ((wiQ e st i)).length 2 (fun q j => mtF st (((wiQ e st i)).getD q dp) j)))], 3⟩) (fun i => i ≤ (wiQ e st i).length ∧ ∀ j, j < i → wiBad e st ((wiQ e st i).getD j dp) = false) (fun i => 4097 - i) (0) (⟨Nat.zero_le _, fun j hj => absurd hj (Nat.not_lt_zero _)⟩) ?_ ?_
                  ·
                    refine wk_of (id) (fun _ => false) (fun _ => false) ?_ ?_ rfl (Nat.zero_le _) (fun k hk => absurd hk (Nat.not_lt_zero _))
                    · rw [wiQ_zero]; simp [hG, List.getD_cons_zero, List.getD_cons_succ, -List.getD_eq_getElem?_getD]
                    · rw [wiQ_zero]; simp [hG, List.getD_cons_zero, List.getD_cons_succ, -List.getD_eq_getElem?_getD]
                  ·
                    rintro i ⟨hi, hn⟩
                    have hql := v_len hst hv hvg hl h0 hN i
                    refine awpS_seq ?_
                    refine awpS_seq ?_
                    refine awpS_reg T_ok fun K hK => ?_
                    simp [hG, List.getD_cons_zero, List.getD_cons_succ, -List.getD_eq_getElem?_getD, pureOp, iota_nil, wi0_zero, wiRow_zero]
                    refine hK _ ?_
                    clear K hK
                    refine awpS_cond rfl (fun hb67 => ?_) (fun hb67 => ?_)
                    ·
                      try simp [-List.getD_eq_getElem?_getD] at hb67
                      have hil : i < (wiQ e st i).length := (by omega)
                      have hat := v_at hst hv hvg hl h0 hN hil
                      obtain ⟨⟨ha1, ha2⟩, ha3, ha4⟩ := hat
                      have hrl := row_eq hv (k := ((wiQ e st i).getD i dp).s.toNat) (by omega)
                      refine awpS_skip ?_
                      refine awpS_seq ?_
                      refine awpS_block ?_
                      refine awpS_seq ?_
                      refine awpS_reg T_ok fun K hK => ?_
                      simp [hG, List.getD_cons_zero, List.getD_cons_succ, -List.getD_eq_getElem?_getD, pureOp, iota_nil, wi0_zero, wiRow_zero]
                      refine hK _ ?_
                      clear K hK
                      refine awpS_block ?_
                      refine awpS_loop (α := Nat) (fun k => ⟨[(2, .ptr (0, 0) 0 0), (3, .ptr (1, 0) 0 0), (11, .sl (2, 0) 0 (wiRow e st ((wiQ e st i).getD i dp) (wiQ e st i) k).length), (13, .int .i64 i), (14, .int .i64 k)], [(0, .one (.arr 1 4 (fun _ => encF e))), (1, .one (.arr 1 3 (fun _ => grF g))), (2, .one (.arr ((wiRow e st ((wiQ e st i).getD i dp) (wiQ e st i) k)).length 2 (fun q j => mtF st (((wiRow e st ((wiQ e st i).getD i dp) (wiQ e st i) k)).getD q dp) j)))], 3⟩) (fun k => k ≤ (e.rows.getD ((wiQ e st i).getD i dp).s.toNat []).length ∧ ∀ j, j < k → 0 ≤ folA st ((wiQ e st i).getD i dp).t (cellAt e ((wiQ e st i).getD i dp).s.toNat j).word) (fun k => (e.rows.getD ((wiQ e st i).getD i dp).s.toNat []).length - k) (0) (⟨Nat.zero_le _, fun j hj => absurd hj (Nat.not_lt_zero _)⟩) ?_ ?_
                      ·
                        refine wk_of (id) (fun _ => false) (fun _ => false) ?_ ?_ rfl (Nat.zero_le _) (fun k hk => absurd hk (Nat.not_lt_zero _))
                        · simp [hG, List.getD_cons_zero, List.getD_cons_succ, -List.getD_eq_getElem?_getD, pureOp, iota_nil, wi0_zero, wiRow_zero]
                        · simp [hG, List.getD_cons_zero, List.getD_cons_succ, -List.getD_eq_getElem?_getD, pureOp, iota_nil, wi0_zero, wiRow_zero]
                      ·
                        rintro k ⟨hk, hm⟩
                        refine awpS_seq ?_
                        refine awpS_seq ?_
                        refine awpS_reg T_ok fun K hK => ?_
                        simp [hG, List.getD_cons_zero, List.getD_cons_succ, -List.getD_eq_getElem?_getD, pureOp, iota_nil, wi0_zero, wiRow_zero]
                        refine hK _ ?_
                        clear K hK
                        refine awpS_cond rfl (fun hb73 => ?_) (fun hb73 => ?_)
                        ·
                          try simp [-List.getD_eq_getElem?_getD] at hb73
                          have hkl : k < (e.rows.getD ((wiQ e st i).getD i dp).s.toNat []).length := (by omega)
                          obtain ⟨hw1, hw2, hw3⟩ := vR hst hv hvg hl h0 hN hil hk
                          have hwl2 := cell_wlen hv (s := ((wiQ e st i).getD i dp).s.toNat) (by omega) hkl
                          have hbk := (checkE_valid hv).1.block
                          obtain ⟨hc1, hc2⟩ := v_cell hst hv hvg hl h0 hN hil hkl
                          have hb1 : 0 ≤ ((wiRow e st ((wiQ e st i).getD i dp) (wiQ e st i) k).getD i dp).s ∧ ((wiRow e st ((wiQ e st i).getD i dp) (wiQ e st i) k).getD i dp).s < (e.rows.length : Int) := (by rw [hw2]; omega)
                          have hb2 : k < (e.rows.getD ((wiRow e st ((wiQ e st i).getD i dp) (wiQ e st i) k).getD i dp).s.toNat []).length := (by rw [hw2]; exact hkl)
                          refine awpS_skip ?_
                          refine awpS_seq ?_
                          refine awpS_block ?_
                          refine awpS_seq ?_
                          refine awpS_draw hR mixed [] ⟨[13], [], []⟩ fun mu0 => ?_
                          refine awpA_tk T_ok [0, 1, 2, 3, 4, 5, 6, 7, 8, 9, 10, 11] [] (fuel := 2) [11, 10, 9, 8, 7, 6, 5, 4, 3, 2, 1, 0] (by decide +kernel) (by decide +kernel) rfl rfl fun K hK => ?_
                          simp [hG, List.getD_cons_zero, List.getD_cons_succ, -List.getD_eq_getElem?_getD, pureOp, iota_nil, wi0_zero, wiRow_zero]
                          refine ⟨Cond.mk (by omega), hK _ ?_⟩
                          clear K hK
                          refine awpA_only (fuel := 1) (i := 12) (by decide +kernel) ?_
                          refine awpO_reg T_ok rfl ?_ fun K hK => ?_
                          · simp [hG, List.getD_cons_zero, List.getD_cons_succ, -List.getD_eq_getElem?_getD, pureOp, iota_nil, wi0_zero, wiRow_zero]; try exact trivial
                          simp [hG, List.getD_cons_zero, List.getD_cons_succ, -List.getD_eq_getElem?_getD, pureOp, iota_nil, wi0_zero, wiRow_zero]
                          refine hK _ ?_
                          clear K hK
                          refine awpA_only (fuel := 0) (i := 13) (by decide +kernel) ?_
                          refine awpO_reg T_ok rfl ?_ fun K hK => ?_
                          · simp [hG, List.getD_cons_zero, List.getD_cons_succ, -List.getD_eq_getElem?_getD, pureOp, iota_nil, wi0_zero, wiRow_zero]; try exact trivial
                          simp [hG, List.getD_cons_zero, List.getD_cons_succ, -List.getD_eq_getElem?_getD, pureOp, iota_nil, wi0_zero, wiRow_zero]
                          refine ⟨Cond.mk (by exact trivial), hK _ ?_⟩
                          clear K hK
                          refine awpA_done (by decide +kernel) ?_
                          refine awpS_seq ?_
                          refine awpS_draw hR mixed [] ⟨[], [], []⟩ fun mu0 => ?_
                          refine awpA_tk T_ok [0, 1, 2, 3, 4, 5, 6, 7] [] (fuel := 2) [7, 6, 5, 4, 3, 2, 1, 0] (by decide +kernel) (by decide +kernel) rfl rfl fun K hK => ?_
                          simp [hG, List.getD_cons_zero, List.getD_cons_succ, -List.getD_eq_getElem?_getD, pureOp, iota_nil, wi0_zero, wiRow_zero]
                          refine ⟨Cond.mk (by omega), hK _ ?_⟩
                          clear K hK
                          refine awpA_only (fuel := 1) (i := 8) (by decide +kernel) ?_
                          refine awpO_call cal42 rfl rfl rfl (fun _ => rfl) (fun hg => followR_c g hvg (st.all.getD ((wiQ e st i).getD i dp).t.toNat []) (v_set hst hvg h0 hN ha3 ha4) (cellAt e ((wiQ e st i).getD i dp).s.toNat k).word (by omega)) (fun hg => ?_) (fun hg => ?_) fun K hK => ?_
                          · simp [hG, List.getD_cons_zero, List.getD_cons_succ, -List.getD_eq_getElem?_getD, pureOp, iota_nil, wi0_zero, wiRow_zero]
                          · simp [hG, List.getD_cons_zero, List.getD_cons_succ, -List.getD_eq_getElem?_getD]; rw [hw2]; exact ⟨Clo.le _ Clo_ints, rfl⟩
                          simp [hG, List.getD_cons_zero, List.getD_cons_succ, -List.getD_eq_getElem?_getD, pureOp, iota_nil, wi0_zero, wiRow_zero]
                          refine hK _ ?_
                          clear K hK
                          refine awpA_tk T_ok [9] [] (fuel := 0) [9, 8, 7, 6, 5, 4, 3, 2, 1, 0] (by decide +kernel) (by decide +kernel) rfl rfl fun K hK => ?_
                          simp [hG, List.getD_cons_zero, List.getD_cons_succ, -List.getD_eq_getElem?_getD, pureOp, iota_nil, wi0_zero, wiRow_zero]
                          refine hK _ ?_
                          clear K hK
                          refine awpA_done (by decide +kernel) ?_
                          refine awpS_seq ?_
                          refine awpS_seq ?_
                          refine awpS_reg T_ok fun K hK => ?_
                          simp [hG, List.getD_cons_zero, List.getD_cons_succ, -List.getD_eq_getElem?_getD, pureOp, iota_nil, wi0_zero, wiRow_zero]
                          refine hK _ ?_
                          clear K hK
                          refine awpS_cond rfl (fun hb99 => ?_) (fun hb99 => ?_)
                          ·
                            try simp [-List.getD_eq_getElem?_getD] at hb99
                            have hwf := hc1 (by simpa using hb99)
                            refine awpS_seq ?_
                            refine awpS_reg T_ok fun K hK => ?_
                            simp [hG, List.getD_cons_zero, List.getD_cons_succ, -List.getD_eq_getElem?_getD, pureOp, iota_nil, wi0_zero, wiRow_zero]
                            refine hK _ ?_
                            clear K hK
                            refine awpS_ret ?_
                            refine blockQ_ret (thenQ_ret ?_)
                            refine thenQ_ret (thenQ_ret ?_)
                            refine blockQ_ret (thenQ_ret ?_)
                            refine blockQ_ret (thenQ_ret ?_)
                            refine thenQ_ret (thenQ_ret ?_)
                            refine blockQ_ret (thenQ_ret ?_)
                            refine RetOK_of ?_
                            simp [hG, List.getD_cons_zero, List.getD_cons_succ, -List.getD_eq_getElem?_getD, pureOp, iota_nil, wi0_zero, wiRow_zero]
                            exact within5 hst hv hvg hl h0 hN hwf
                          ·
                            try simp [-List.getD_eq_getElem?_getD] at hb99
                            obtain ⟨hpos, hset2, hmt⟩ := hc2 (by simpa using hb99)
                            have hY := wiIf_yes hpos (Q := (wiQ e st i))
                            refine awpS_skip ?_
                            refine awpS_seq ?_
                            refine awpS_regL ?_
                            refine awpL_reg T_ok 4 fun K hK => ?_
                            simp [hG, List.getD_cons_zero, List.getD_cons_succ, -List.getD_eq_getElem?_getD, pureOp, iota_nil, wi0_zero, wiRow_zero]
                            refine hK _ ?_
                            clear K hK
                            refine awpL_fc cal43 [2] (fun _ => false) (metR_c st (wiRow e st ((wiQ e st i).getD i dp) (wiQ e st i) k) (cellAt e ((wiQ e st i).getD i dp).s.toNat k).to (setA g (st.all.getD ((wiQ e st i).getD i dp).t.toNat []) (cellAt e ((wiQ e st i).getD i dp).s.toNat k).word) (by omega) hrs) rfl rfl rfl (by simp) (.inl fun _ => rfl) ?_ ?_ ?_ fun K hK x hI hno => ?_
                            · simp [hG, List.getD_cons_zero, List.getD_cons_succ, -List.getD_eq_getElem?_getD, pureOp, iota_nil, wi0_zero, wiRow_zero]
                            · simp [hG, List.getD_cons_zero, List.getD_cons_succ, -List.getD_eq_getElem?_getD]; rw [hw2]; rfl
                            · simp [hG, List.getD_cons_zero, List.getD_cons_succ, -List.getD_eq_getElem?_getD, pureOp, iota_nil, wi0_zero, wiRow_zero]
                            simp [hG, List.getD_cons_zero, List.getD_cons_succ, -List.getD_eq_getElem?_getD, pureOp, iota_nil, wi0_zero, wiRow_zero]
                            refine hK _ ?_
                            clear K hK
                            refine awpL_reg T_ok 1 fun K hK => ?_
                            simp [hG, List.getD_cons_zero, List.getD_cons_succ, -List.getD_eq_getElem?_getD, pureOp, iota_nil, wi0_zero, wiRow_zero]
                            refine hK _ ?_
                            clear K hK
                            refine awpL_nil ?_
                            refine awpS_cond rfl (fun hb105 => ?_) (fun hb105 => ?_)
                            ·
                              try simp [-List.getD_eq_getElem?_getD] at hb105
                              have hnm : ¬ (⟨(cellAt e ((wiQ e st i).getD i dp).s.toNat k).to, folA st ((wiQ e st i).getD i dp).t (cellAt e ((wiQ e st i).getD i dp).s.toNat k).word⟩ : Pr) ∈ (wiRow e st ((wiQ e st i).getD i dp) (wiQ e st i) k) := (fun h => by have := hmt.2 h; rw [this] at hb105; simp at hb105)
                              have hP := losPut_new hnm
                              refine awpS_reg T_ok fun K hK => ?_
                              simp [hG, List.getD_cons_zero, List.getD_cons_succ, -List.getD_eq_getElem?_getD, pureOp, iota_nil, wi0_zero, wiRow_zero]
                              refine ⟨Cond.mk (by simp [-List.getD_eq_getElem?_getD]; omega), hK _ ?_⟩
                              clear K hK
                              refine awpS_nil ?_
                              refine blockQ_norm (thenQ_norm ?_)
                              refine awpS_reg T_ok fun K hK => ?_
                              simp [hG, List.getD_cons_zero, List.getD_cons_succ, -List.getD_eq_getElem?_getD, pureOp, iota_nil, wi0_zero, wiRow_zero]
                              refine ⟨Cond.mk (by omega), hK _ ?_⟩
                              clear K hK
                              refine awpS_nil ?_
                              refine round_end (k + 1) (⟨by omega, step_all hm hpos⟩) (by omega) ?_
                              refine wk_of (fun k => if k = 2 then 5 else k) (fun _ => false) (fun _ => false) ?_ ?_ rfl (Nat.zero_le _) (fun k hk => absurd hk (Nat.not_lt_zero _))
                              · rw [hY, hP]; simp [hG, List.getD_cons_zero, List.getD_cons_succ, -List.getD_eq_getElem?_getD]
                              · rw [hY, hP]; simp [hG, List.getD_cons_zero, List.getD_cons_succ, -List.getD_eq_getElem?_getD]; exact fun q hq => app_mt hq (by show AVal.int .i64 _ = AVal.int .i64 _; rw [hw2]; rfl) (by show VLe _ _ _ _ _ (ints (st.all.getD (folA st ((wiQ e st i).getD i dp).t (cellAt e ((wiQ e st i).getD i dp).s.toNat k).word).toNat [])) (ints (setA g (st.all.getD ((wiQ e st i).getD i dp).t.toNat []) (cellAt e ((wiQ e st i).getD i dp).s.toNat k).word)); rw [hset2]; exact Clo.le _ Clo_ints)
                            ·
                              try simp [-List.getD_eq_getElem?_getD] at hb105
                              have hmm : (⟨(cellAt e ((wiQ e st i).getD i dp).s.toNat k).to, folA st ((wiQ e st i).getD i dp).t (cellAt e ((wiQ e st i).getD i dp).s.toNat k).word⟩ : Pr) ∈ (wiRow e st ((wiQ e st i).getD i dp) (wiQ e st i) k) := hmt.1 (by simpa using hb105)
                              have hP := losPut_old hmm
                              refine awpS_skip ?_
                              refine awpS_nil ?_
                              refine blockQ_norm (thenQ_norm ?_)
                              refine awpS_reg T_ok fun K hK => ?_
                              simp [hG, List.getD_cons_zero, List.getD_cons_succ, -List.getD_eq_getElem?_getD, pureOp, iota_nil, wi0_zero, wiRow_zero]
                              refine ⟨Cond.mk (by omega), hK _ ?_⟩
                              clear K hK
                              refine awpS_nil ?_
                              refine round_end (k + 1) (⟨by omega, step_all hm hpos⟩) (by omega) ?_
                              refine wk_of (id) (fun _ => false) (fun _ => false) ?_ ?_ rfl (Nat.zero_le _) (fun k hk => absurd hk (Nat.not_lt_zero _))
                              · rw [hY, hP]; simp [hG, List.getD_cons_zero, List.getD_cons_succ, -List.getD_eq_getElem?_getD]
                              · rw [hY, hP]; simp [hG, List.getD_cons_zero, List.getD_cons_succ, -List.getD_eq_getElem?_getD]
                        ·
                          try simp [-List.getD_eq_getElem?_getD] at hb73
                          obtain rfl : k = (e.rows.getD ((wiQ e st i).getD i dp).s.toNat []).length := (by omega)
                          have hE := wiQ_succ hil
                          refine awpS_exit ?_
                          refine thenQ_exit (thenQ_exit ?_)
                          refine blockQ_exit (thenQ_norm ?_)
                          refine awpS_nil ?_
                          refine blockQ_norm (thenQ_norm ?_)
                          refine awpS_reg T_ok fun K hK => ?_
                          simp [hG, List.getD_cons_zero, List.getD_cons_succ, -List.getD_eq_getElem?_getD, pureOp, iota_nil, wi0_zero, wiRow_zero]
                          refine ⟨Cond.mk (by omega), hK _ ?_⟩
                          clear K hK
                          refine awpS_nil ?_
                          refine round_end (i + 1) (v_step hst hv hvg hl h0 hN hil hn hm) (by omega) ?_
                          refine wk_of (id) (fun _ => false) (fun _ => false) ?_ ?_ rfl (Nat.zero_le _) (fun k hk => absurd hk (Nat.not_lt_zero _))
                          · rw [hE]; simp [hG, List.getD_cons_zero, List.getD_cons_succ, -List.getD_eq_getElem?_getD]
                          · rw [hE]; simp [hG, List.getD_cons_zero, List.getD_cons_succ, -List.getD_eq_getElem?_getD]
                    ·
                      try simp [-List.getD_eq_getElem?_getD] at hb67
                      refine awpS_exit ?_
                      refine thenQ_exit (thenQ_exit ?_)
                      refine blockQ_exit (thenQ_norm ?_)
                      refine awpS_seq ?_
                      refine awpS_reg T_ok fun K hK => ?_
                      simp [hG, List.getD_cons_zero, List.getD_cons_succ, -List.getD_eq_getElem?_getD, pureOp, iota_nil, wi0_zero, wiRow_zero]
                      refine hK _ ?_
                      clear K hK
                      refine awpS_ret ?_
                      refine RetOK_of ?_
                      simp [hG, List.getD_cons_zero, List.getD_cons_succ, -List.getD_eq_getElem?_getD, pureOp, iota_nil, wi0_zero, wiRow_zero]
                      exact within5 hst hv hvg hl h0 hN (v_true hst hv hvg hl h0 hN (by omega) hi hn)

end Go.Proofs.YtdojahjhijkbhaaGreatDoor
