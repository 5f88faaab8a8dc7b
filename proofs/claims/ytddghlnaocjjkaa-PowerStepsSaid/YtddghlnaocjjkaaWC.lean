/-
  Walks: powers.
-/
import Derived.Test.YtddghlnaocjjkaaWB
import Derived.Test.YtddghlnaocjjkaaPV
namespace Go.Proofs.Ytddghlnaocjjkaa
set_option linter.unusedSimpArgs false
set_option linter.unusedVariables false
open Go Go.Lift Go.Proofs

theorem zero64 {j : Nat} {f : Nat → Bool} (hj : j < 64) (h : f = fun _ => false) : zs63.getD j .any = .int .u64 (m64 f : Nat) := by
  rw [zs63_at hj, h, m64_none]; rfl
theorem then_set {a b : Rl} {s u j : Nat} (hj : j < 64) (hab : a s u = true) : (if s ≤ j ∧ j < s + 1 then AVal.int .u64 (borI (m64 (thenAt a b s u s) : Nat) (m64 (b u) : Nat)) else .int .u64 (m64 (thenAt a b s u j) : Nat)) = .int .u64 (m64 (thenAt a b s (u + 1) j) : Nat) := by
  by_cases h : j = s
  · subst h
    rw [if_pos (by omega), borI_m64, thenAt_yes hab]
  · rw [if_neg (by omega), thenAt_other h]
theorem shr_box {f : Nat → Bool} {u : Nat} : 0 ≤ (m64 f : Int) / 2 ^ u ∧ (m64 f : Int) / 2 ^ u ≤ 18446744073709551615 := by
  have h1 := @m64_lt f
  have h2 : (0 : Int) < 2 ^ u := Int.pow_pos (by omega)
  have h3 := Int.ediv_le_self (a := (m64 f : Int)) (2 ^ u) (by omega)
  exact ⟨Int.ediv_nonneg (by omega) (by omega), by omega⟩
theorem edge_box {g : Gr} (hv : gcheck g = 0) {k : Nat} (hk : k < g.edges.length) : (0 ≤ (g.edges.getD k de).frm ∧ (g.edges.getD k de).frm < g.states) ∧ (0 ≤ (g.edges.getD k de).lab ∧ (g.edges.getD k de).lab < g.labels) ∧ (0 ≤ (g.edges.getD k de).to ∧ (g.edges.getD k de).to < g.states) := by
  have h := (gcheck_valid hv).2 k hk
  unfold edgeCheck at h
  split at h
  · cases h
  · rename_i h2
    unfold edgeOut at h2
    omega
theorem pow_box2 {u : Nat} (hu : u < 64) : 0 ≤ (2 : Int) ^ u ∧ (2 : Int) ^ u ≤ 18446744073709551615 := by
  have := pow_box hu
  have h2 : (0 : Int) < 2 ^ u := Int.pow_pos (by omega)
  omega
theorem borI_put2 {f : Nat → Bool} {u : Nat} (hu : u < 64) : borI (m64 f : Nat) (2 ^ u) = (m64 fun t => f t || decide (t = u) : Nat) := by
  have := borI_put (f := f) hu
  rwa [Int.one_mul] at this
theorem step_set {g : Gr} {k l j : Nat} (hk : k < g.edges.length) (heb : (0 ≤ (g.edges.getD k de).frm ∧ (g.edges.getD k de).frm < g.states) ∧ (0 ≤ (g.edges.getD k de).lab ∧ (g.edges.getD k de).lab < g.labels) ∧ (0 ≤ (g.edges.getD k de).to ∧ (g.edges.getD k de).to < g.states)) (hj : j < 64) (hs : g.states ≤ 64) :
    (if l = (g.edges.getD k de).lab.toNat ∧ (g.edges.getD k de).frm ≤ (j : Int) ∧ j < (g.edges.getD k de).frm.toNat + 1 then
      AVal.int .u64 (borI (m64 (stepB (List.take k g.edges) (g.edges.getD k de).lab.toNat (g.edges.getD k de).frm.toNat) : Nat) (2 ^ (g.edges.getD k de).to.toNat))
    else AVal.int .u64 (m64 (stepB (List.take k g.edges) l j) : Nat)) = AVal.int .u64 (m64 (stepB (List.take (k + 1) g.edges) l j) : Nat) := by
  have hc : (stepB (List.take (k + 1) g.edges) l j) = fun t => stepB (g.edges.take k) l j t || decide ((g.edges.getD k de).lab = l ∧ (g.edges.getD k de).frm = j ∧ (g.edges.getD k de).to = t) := by
    funext t; exact stepB_succ hk
  rw [hc]
  by_cases h : l = (g.edges.getD k de).lab.toNat ∧ j = (g.edges.getD k de).frm.toNat
  · obtain ⟨h1, h2⟩ := h
    rw [if_pos ⟨h1, by omega, by omega⟩, borI_put2 (by omega), ← h1, ← h2]
    congr 4
    funext t
    congr 1
    rw [decide_eq_decide]
    omega
  · rw [if_neg (by omega)]
    congr 4
    funext t
    have : ¬ ((g.edges.getD k de).lab = l ∧ (g.edges.getD k de).frm = j ∧ (g.edges.getD k de).to = t) := by omega
    rw [decide_eq_false this, Bool.or_false]
theorem mul_le_k {a b m n : Nat} (h1 : a ≤ m) (h2 : b ≤ n) : a * b ≤ m * n := Nat.mul_le_mul h1 h2
theorem app_rel {X : List Rl} {r : Rl} {w : Nat → Nat → AVal} {i j : Nat} (hi : i < (X ++ [r]).length) (hw : w 0 j = .int .u64 (m64 (r j) : Nat)) :
    app (fun q j => .int .u64 (m64 (X.getD q r0 j) : Nat)) X.length w i j = .int .u64 (m64 ((X ++ [r]).getD i r0 j) : Nat) := by
  unfold app
  rw [List.length_append] at hi
  by_cases h : i < X.length
  · rw [if_pos h]; simp [List.getD, List.getElem?_append_left h]
  · rw [if_neg h]
    have : i = X.length := by simp at hi; omega
    subst this
    rw [Nat.sub_self, hw]; simp [List.getD]
theorem pw_box {g : Gr} (hlb : 1 ≤ g.labels ∧ g.labels ≤ 256) {n : Nat} (h : upTo g.labels n ≤ 256) : ∀ k, k + 1 ≤ n → (pwL g k).length ≤ 256 := fun k hk => by
  have h1 := (upTo_iff hlb.1).1 h
  have h2 := Int.le_trans (pow_mono_le hlb.1 hk) h1
  rw [pwL_len]
  have h3 : ((g.labels.toNat ^ (k + 1) : Nat) : Int) = g.labels ^ (k + 1) := by
    rw [Int.natCast_pow, Int.toNat_of_nonneg (by omega)]
  omega
theorem app_edge {l : List Edge} {v : Edge} {w : Nat → Nat → AVal} {i j : Nat} (h : i < (l ++ [v]).length) (hj : j < 3) (hw : ∀ j, j < 3 → w 0 j = edgeF v j) : app (fun q j => edgeF (l.getD q de) j) l.length w i j = edgeF ((l ++ [v]).getD i de) j := by
  unfold app
  rw [List.length_append] at h
  by_cases h2 : i < l.length
  · rw [if_pos h2]; simp [List.getD, List.getElem?_append_left h2]
  · rw [if_neg h2]
    have : i = l.length := by simp at h; omega
    subst this
    rw [Nat.sub_self, hw j hj]; simp [List.getD]
theorem lt3 {j : Nat} (h : j < 3) : j = 0 ∨ j = 1 ∨ j = 2 := by omega
set_option maxRecDepth 100000 in
theorem then_c (a b : Rl) : PC Try.prog 39 [.vptr 64 (relF a) 0, .vptr 64 (relF b) 0] (.agg 64 (relF (thenR a b))) := by
  refine PC_introS T_ok Try.func39 rfl (by simp [Try.ntmps39]) fun G hG hR => ?_
  simp only [Try.ntmps39, Try.results39] at hG ⊢
  simp only [argEnv, Nat.zero_add, Nat.reduceAdd]
  refine awpS_seq ?_
  refine awpS_reg T_ok fun K hK => ?_
  simp [hG, List.getD_cons_zero, List.getD_cons_succ, -List.getD_eq_getElem?_getD]
  refine hK _ ?_
  clear K hK
  refine awpS_seq ?_
  refine awpS_reg T_ok fun K hK => ?_
  simp [hG, List.getD_cons_zero, List.getD_cons_succ, -List.getD_eq_getElem?_getD]
  refine hK _ ?_
  clear K hK
  refine awpS_seq ?_
  refine awpS_seq ?_
  refine awpS_reg T_ok fun K hK => ?_
  simp [hG, List.getD_cons_zero, List.getD_cons_succ, -List.getD_eq_getElem?_getD]
  refine hK _ ?_
  clear K hK
  refine awpS_block ?_
  refine awpS_loop (α := Nat) (fun s => ⟨[(0, .vptr 64 (relF a) 0), (1, .vptr 64 (relF b) 0), (4, .ptr (0, 0) 0 0), (5, .ptr (1, 0) 0 0), (9, .vptr 64 (relF a) 0), (10, .int .i64 s)], [(0, .one (.arr 1 64 (fun _ _ => .int .u64 0))), (1, .one (.arr 1 64 (fun _ j => .int .u64 (m64 (thenAt a b s 0 j) : Nat))))], 2⟩) (fun s => s ≤ 64) (fun s => 64 - s) (0) (Nat.zero_le _) ?_ ?_
  ·
    refine wk_of (id) (fun _ => false) (fun _ => false) ?_ ?_ rfl (Nat.zero_le _) (fun k hk => absurd hk (Nat.not_lt_zero _))
    · simp [hG, List.getD_cons_zero, List.getD_cons_succ, -List.getD_eq_getElem?_getD]
    · simp [hG, List.getD_cons_zero, List.getD_cons_succ, -List.getD_eq_getElem?_getD]; exact ⟨fun j hj => zs63_at hj, fun j hj => zero64 hj thenAt_zero⟩
  ·
    rintro s hs
    refine awpS_seq ?_
    refine awpS_reg T_ok fun K hK => ?_
    simp [hG, List.getD_cons_zero, List.getD_cons_succ, -List.getD_eq_getElem?_getD]
    refine hK _ ?_
    clear K hK
    refine awpS_seq ?_
    refine awpS_cond rfl (fun hb11 => ?_) (fun hb11 => ?_)
    ·
      try simp [-List.getD_eq_getElem?_getD] at hb11
      refine awpS_skip ?_
      refine awpS_seq ?_
      refine awpS_block ?_
      refine awpS_seq ?_
      refine awpS_draw hR mixed [] ⟨[], [], []⟩ fun mu0 => ?_
      refine awpA_tk T_ok [0, 1, 2, 3, 4, 5] [] (fuel := 0) [5, 4, 3, 2, 1, 0] (by decide +kernel) (by decide +kernel) rfl rfl fun K hK => ?_
      simp [hG, List.getD_cons_zero, List.getD_cons_succ, -List.getD_eq_getElem?_getD]
      refine ⟨Cond.mk (by omega), hK _ ?_⟩
      clear K hK
      refine awpA_done (by decide +kernel) ?_
      refine awpS_seq ?_
      refine awpS_reg T_ok fun K hK => ?_
      simp [hG, List.getD_cons_zero, List.getD_cons_succ, -List.getD_eq_getElem?_getD]
      refine hK _ ?_
      clear K hK
      refine awpS_block ?_
      refine awpS_loop (α := Nat) (fun u => ⟨[(0, .vptr 64 (relF a) 0), (1, .vptr 64 (relF b) 0), (4, .ptr (0, 0) 0 0), (5, .ptr (1, 0) 0 0), (6, .int .i64 s), (7, .int .u64 (m64 (a s) : Nat)), (9, .vptr 64 (relF a) 0), (10, .int .i64 s), (16, .int .i64 u)], [(0, .one (.arr 1 64 (fun _ _ => .int .u64 0))), (1, .one (.arr 1 64 (fun _ j => .int .u64 (m64 (thenAt a b s u j) : Nat))))], 2⟩) (fun u => u ≤ 64) (fun u => 64 - u) (0) (Nat.zero_le _) ?_ ?_
      ·
        refine wk_of (id) (fun _ => false) (fun _ => false) ?_ ?_ rfl (Nat.zero_le _) (fun k hk => absurd hk (Nat.not_lt_zero _))
        · simp [hG, List.getD_cons_zero, List.getD_cons_succ, -List.getD_eq_getElem?_getD]
        · simp [hG, List.getD_cons_zero, List.getD_cons_succ, -List.getD_eq_getElem?_getD]
      ·
        rintro u hu
        refine awpS_seq ?_
        refine awpS_reg T_ok fun K hK => ?_
        simp [hG, List.getD_cons_zero, List.getD_cons_succ, -List.getD_eq_getElem?_getD]
        refine hK _ ?_
        clear K hK
        refine awpS_seq ?_
        refine awpS_cond rfl (fun hb17 => ?_) (fun hb17 => ?_)
        ·
          try simp [-List.getD_eq_getElem?_getD] at hb17
          have hsb := shr_box (f := a s) (u := u)
          refine awpS_skip ?_
          refine awpS_seq ?_
          refine awpS_block ?_
          refine awpS_seq ?_
          refine awpS_reg T_ok fun K hK => ?_
          simp [hG, List.getD_cons_zero, List.getD_cons_succ, -List.getD_eq_getElem?_getD]
          refine hK _ ?_
          clear K hK
          refine awpS_seq ?_
          refine awpS_reg T_ok fun K hK => ?_
          simp [hG, List.getD_cons_zero, List.getD_cons_succ, -List.getD_eq_getElem?_getD]
          refine ⟨Cond.mk (by omega), hK _ ?_⟩
          clear K hK
          refine awpS_cond rfl (fun hb23 => ?_) (fun hb23 => ?_)
          ·
            try simp [-List.getD_eq_getElem?_getD] at hb23
            have hab : a s u = true := (bandI_test (by omega)).mp (by simpa using hb23)
            refine awpS_draw hR mixed [(10, (1, 0))] ⟨[], [], []⟩ fun mu0 => ?_
            refine awpA_tk T_ok [0, 1, 2, 3, 4, 5, 6, 7, 8, 9] [] (fuel := 1) [9, 8, 7, 6, 5, 4, 3, 2, 1, 0] (by decide +kernel) (by decide +kernel) rfl rfl fun K hK => ?_
            simp [hG, List.getD_cons_zero, List.getD_cons_succ, -List.getD_eq_getElem?_getD]
            refine ⟨Cond.mk (by omega), hK _ ?_⟩
            clear K hK
            refine awpA_only (fuel := 0) (i := 10) (by decide +kernel) ?_
            refine awpO_reg T_ok rfl ?_ fun K hK => ?_
            · simp [hG, List.getD_cons_zero, List.getD_cons_succ, -List.getD_eq_getElem?_getD]
            simp [hG, List.getD_cons_zero, List.getD_cons_succ, -List.getD_eq_getElem?_getD]
            refine ⟨Cond.mk (by omega), hK _ ?_⟩
            clear K hK
            refine awpA_done (by decide +kernel) ?_
            refine awpS_nil ?_
            refine blockQ_norm (thenQ_norm ?_)
            refine awpS_reg T_ok fun K hK => ?_
            simp [hG, List.getD_cons_zero, List.getD_cons_succ, -List.getD_eq_getElem?_getD]
            refine ⟨Cond.mk (by omega), hK _ ?_⟩
            clear K hK
            refine awpS_nil ?_
            refine round_end (u + 1) (by omega) (by omega) ?_
            refine wk_of (id) (fun _ => false) (fun _ => false) ?_ ?_ rfl (Nat.zero_le _) (fun k hk => absurd hk (Nat.not_lt_zero _))
            · simp [hG, List.getD_cons_zero, List.getD_cons_succ, -List.getD_eq_getElem?_getD]
            · simp [hG, List.getD_cons_zero, List.getD_cons_succ, -List.getD_eq_getElem?_getD]; exact fun j hj => then_set hj hab
          ·
            try simp [-List.getD_eq_getElem?_getD] at hb23
            have hab : a s u = false := Bool.eq_false_iff.2 fun h => hb23 ((bandI_test (by omega)).mpr h)
            refine awpS_skip ?_
            refine awpS_nil ?_
            refine blockQ_norm (thenQ_norm ?_)
            refine awpS_reg T_ok fun K hK => ?_
            simp [hG, List.getD_cons_zero, List.getD_cons_succ, -List.getD_eq_getElem?_getD]
            refine ⟨Cond.mk (by omega), hK _ ?_⟩
            clear K hK
            refine awpS_nil ?_
            refine round_end (u + 1) (by omega) (by omega) ?_
            refine wk_of (id) (fun _ => false) (fun _ => false) ?_ ?_ rfl (Nat.zero_le _) (fun k hk => absurd hk (Nat.not_lt_zero _))
            · simp [hG, List.getD_cons_zero, List.getD_cons_succ, -List.getD_eq_getElem?_getD]
            · simp [hG, List.getD_cons_zero, List.getD_cons_succ, -List.getD_eq_getElem?_getD]; exact fun j hj => by rw [thenAt_no hab]
        ·
          try simp [-List.getD_eq_getElem?_getD] at hb17
          refine awpS_exit ?_
          refine thenQ_exit (thenQ_exit ?_)
          refine blockQ_exit (thenQ_norm ?_)
          refine awpS_nil ?_
          refine blockQ_norm (thenQ_norm ?_)
          refine awpS_reg T_ok fun K hK => ?_
          simp [hG, List.getD_cons_zero, List.getD_cons_succ, -List.getD_eq_getElem?_getD]
          refine ⟨Cond.mk (by omega), hK _ ?_⟩
          clear K hK
          refine awpS_nil ?_
          refine round_end (s + 1) (by omega) (by omega) ?_
          refine wk_of (id) (fun _ => false) (fun _ => false) ?_ ?_ rfl (Nat.zero_le _) (fun k hk => absurd hk (Nat.not_lt_zero _))
          · simp [hG, List.getD_cons_zero, List.getD_cons_succ, -List.getD_eq_getElem?_getD]
          · simp [hG, List.getD_cons_zero, List.getD_cons_succ, -List.getD_eq_getElem?_getD]; exact fun j hj => by rw [show u = 64 by omega, thenAt_next]
    ·
      try simp [-List.getD_eq_getElem?_getD] at hb11
      refine awpS_exit ?_
      refine thenQ_exit (thenQ_exit ?_)
      refine blockQ_exit (thenQ_norm ?_)
      refine awpS_seq ?_
      refine awpS_reg T_ok fun K hK => ?_
      simp [hG, List.getD_cons_zero, List.getD_cons_succ, -List.getD_eq_getElem?_getD]
      refine ⟨Cond.mk (by simp [-List.getD_eq_getElem?_getD]), hK _ ?_⟩
      clear K hK
      refine awpS_ret ?_
      refine RetOK_of ?_
      simp [hG, List.getD_cons_zero, List.getD_cons_succ, -List.getD_eq_getElem?_getD]
      obtain rfl : s = 64 := (by omega); exact fun j hj => by rw [thenAt_all hj]; simp [hj]

set_option maxRecDepth 100000 in
theorem steps_c (g : Gr) (hv : gcheck g = 0) : PC Try.prog 37 [.agg 3 (grF g)] (relsC (stepsL g)) := by
  have hz := (gcheck_valid hv).1
  have hlb := hz.lab
  have hed := hz.ed
  have hst := hz.st
  refine PC_introS T_ok Try.func37 rfl (by simp [Try.ntmps37]) fun G hG hR => ?_
  simp only [Try.ntmps37, Try.results37] at hG ⊢
  simp only [argEnv, Nat.zero_add, Nat.reduceAdd]
  refine awpS_seq ?_
  refine awpS_reg T_ok fun K hK => ?_
  simp [hG, List.getD_cons_zero, List.getD_cons_succ, -List.getD_eq_getElem?_getD]
  refine ⟨Cond.mk (by simp [-List.getD_eq_getElem?_getD]), hK _ ?_⟩
  clear K hK
  refine awpS_seq ?_
  refine awpS_reg T_ok fun K hK => ?_
  simp [hG, List.getD_cons_zero, List.getD_cons_succ, -List.getD_eq_getElem?_getD]
  refine ⟨Cond.mk (by omega), hK _ ?_⟩
  clear K hK
  refine awpS_seq ?_
  refine awpS_seq ?_
  refine awpS_reg T_ok fun K hK => ?_
  simp [hG, List.getD_cons_zero, List.getD_cons_succ, -List.getD_eq_getElem?_getD]
  refine hK _ ?_
  clear K hK
  refine awpS_block ?_
  refine awpS_loop (α := Nat) (fun k => ⟨[(1, .ptr (0, 0) 0 0), (3, .sl (1, 0) 0 g.labels.toNat), (10, edgesC g.edges), (11, .int .i64 g.edges.length), (12, .int .i64 k)], [(0, .one (.arr 1 3 (fun _ => grF g))), (1, .one (.arr g.labels.toNat 64 (fun l j => .int .u64 (m64 (stepB (g.edges.take (k)) l j) : Nat))))], 2⟩) (fun k => k ≤ g.edges.length) (fun k => g.edges.length - k) (0) (Nat.zero_le _) ?_ ?_
  ·
    refine wk_of (id) (fun _ => false) (fun _ => false) ?_ ?_ rfl (Nat.zero_le _) (fun k hk => absurd hk (Nat.not_lt_zero _))
    · simp [hG, List.getD_cons_zero, List.getD_cons_succ, -List.getD_eq_getElem?_getD]
    · simp [hG, List.getD_cons_zero, List.getD_cons_succ, -List.getD_eq_getElem?_getD]; exact fun l hl j hj => zero64 hj (by funext t; rfl)
  ·
    rintro k hk
    refine awpS_seq ?_
    refine awpS_reg T_ok fun K hK => ?_
    simp [hG, List.getD_cons_zero, List.getD_cons_succ, -List.getD_eq_getElem?_getD]
    refine hK _ ?_
    clear K hK
    refine awpS_seq ?_
    refine awpS_cond rfl (fun hb13 => ?_) (fun hb13 => ?_)
    ·
      try simp [-List.getD_eq_getElem?_getD] at hb13
      have heb := edge_box hv (k := k) (by omega)
      have hpb := pow_box2 (u := (g.edges.getD k de).to.toNat) (by omega)
      refine awpS_skip ?_
      refine awpS_seq ?_
      refine awpS_block ?_
      refine awpS_seq ?_
      refine awpS_reg T_ok fun K hK => ?_
      simp [hG, List.getD_cons_zero, List.getD_cons_succ, -List.getD_eq_getElem?_getD]
      refine ⟨Cond.mk (by simp [-List.getD_eq_getElem?_getD]; omega), hK _ ?_⟩
      clear K hK
      refine awpS_draw hR mixed [(14, (1, 0))] ⟨[], [], []⟩ fun mu0 => ?_
      refine awpA_tk T_ok [0, 1, 2, 3, 4, 5, 6, 7, 8, 9, 10, 11] [] (fuel := 3) [11, 10, 9, 8, 7, 6, 5, 4, 3, 2, 1, 0] (by decide +kernel) (by decide +kernel) rfl rfl fun K hK => ?_
      simp [hG, List.getD_cons_zero, List.getD_cons_succ, -List.getD_eq_getElem?_getD]
      refine ⟨Cond.mk (by omega), hK _ ?_⟩
      clear K hK
      refine awpA_tk T_ok [12, 13] [(1, 0)] (fuel := 1) [13, 12, 11, 10, 9, 8, 7, 6, 5, 4, 3, 2, 1, 0] (by decide +kernel) (by decide +kernel) rfl rfl fun K hK => ?_
      simp [hG, List.getD_cons_zero, List.getD_cons_succ, -List.getD_eq_getElem?_getD]
      refine ⟨Cond.mk (by omega), hK _ ?_⟩
      clear K hK
      refine awpA_only (fuel := 0) (i := 14) (by decide +kernel) ?_
      refine awpO_reg T_ok rfl ?_ fun K hK => ?_
      · simp [hG, List.getD_cons_zero, List.getD_cons_succ, -List.getD_eq_getElem?_getD]
      simp [hG, List.getD_cons_zero, List.getD_cons_succ, -List.getD_eq_getElem?_getD]
      refine ⟨Cond.mk (by omega), hK _ ?_⟩
      clear K hK
      refine awpA_done (by decide +kernel) ?_
      refine awpS_nil ?_
      refine blockQ_norm (thenQ_norm ?_)
      refine awpS_reg T_ok fun K hK => ?_
      simp [hG, List.getD_cons_zero, List.getD_cons_succ, -List.getD_eq_getElem?_getD]
      refine ⟨Cond.mk (by omega), hK _ ?_⟩
      clear K hK
      refine awpS_nil ?_
      refine round_end (k + 1) (by omega) (by omega) ?_
      refine wk_of (id) (fun _ => false) (fun _ => false) ?_ ?_ rfl (Nat.zero_le _) (fun k hk => absurd hk (Nat.not_lt_zero _))
      · simp [hG, List.getD_cons_zero, List.getD_cons_succ, -List.getD_eq_getElem?_getD]
      · simp [hG, List.getD_cons_zero, List.getD_cons_succ, -List.getD_eq_getElem?_getD]; exact fun l hl j hj => step_set (by omega) heb hj (by omega)
    ·
      try simp [-List.getD_eq_getElem?_getD] at hb13
      refine awpS_exit ?_
      refine thenQ_exit (thenQ_exit ?_)
      refine blockQ_exit (thenQ_norm ?_)
      refine awpS_seq ?_
      refine awpS_reg T_ok fun K hK => ?_
      simp [hG, List.getD_cons_zero, List.getD_cons_succ, -List.getD_eq_getElem?_getD]
      refine hK _ ?_
      clear K hK
      refine awpS_ret ?_
      refine RetOK_of ?_
      simp [hG, List.getD_cons_zero, List.getD_cons_succ, -List.getD_eq_getElem?_getD]
      obtain rfl : k = g.edges.length := (by omega); exact fun l hl j hj => by rw [stepsL_at (by omega), List.take_length]

set_option maxRecDepth 100000 in
theorem longer_c (B O : List Rl) (hB : B.length ≤ 1000) (hO : O.length ≤ 1000) : PC Try.prog 38 [relsC B, .vptr 1 (fun _ => relsC O) 0] (relsC (longer B O)) := by
  refine PC_introS T_ok Try.func38 rfl (by simp [Try.ntmps38]) fun G hG hR => ?_
  simp only [Try.ntmps38, Try.results38] at hG ⊢
  simp only [argEnv, Nat.zero_add, Nat.reduceAdd]
  refine awpS_seq ?_
  refine awpS_reg T_ok fun K hK => ?_
  simp [hG, List.getD_cons_zero, List.getD_cons_succ, -List.getD_eq_getElem?_getD, longAt_zero]
  refine hK _ ?_
  clear K hK
  refine awpS_seq ?_
  refine awpS_reg T_ok fun K hK => ?_
  simp [hG, List.getD_cons_zero, List.getD_cons_succ, -List.getD_eq_getElem?_getD, longAt_zero]
  refine hK _ ?_
  clear K hK
  refine awpS_seq ?_
  refine awpS_seq ?_
  refine awpS_reg T_ok fun K hK => ?_
  simp [hG, List.getD_cons_zero, List.getD_cons_succ, -List.getD_eq_getElem?_getD, longAt_zero]
  refine hK _ ?_
  clear K hK
  refine awpS_block ?_
  refine awpS_loop (α := Nat) (fun i => ⟨[(0, relsC B), (1, .vptr 1 (fun _ => relsC O) 0), (4, .sl (0, 0) 0 (longAt B O i 0).length), (8, .int .i64 B.length), (9, .int .i64 i)], [(0, .one (.arr (longAt B O i 0).length 64 (fun q j => relF ((longAt B O i 0).getD q r0) j)))], 1⟩) (fun i => i ≤ B.length) (fun i => B.length - i) (0) (Nat.zero_le _) ?_ ?_
  ·
    refine wk_of (id) (fun _ => false) (fun k => k == 0) ?_ ?_ rfl (Nat.zero_le _) (fun k hk => absurd hk (Nat.not_lt_zero _))
    · simp [hG, List.getD_cons_zero, List.getD_cons_succ, -List.getD_eq_getElem?_getD, longAt_zero]
    · simp [hG, List.getD_cons_zero, List.getD_cons_succ, -List.getD_eq_getElem?_getD, longAt_zero]
  ·
    rintro i hi
    refine awpS_seq ?_
    refine awpS_reg T_ok fun K hK => ?_
    simp [hG, List.getD_cons_zero, List.getD_cons_succ, -List.getD_eq_getElem?_getD, longAt_zero]
    refine hK _ ?_
    clear K hK
    refine awpS_seq ?_
    refine awpS_cond rfl (fun hb10 => ?_) (fun hb10 => ?_)
    ·
      try simp [-List.getD_eq_getElem?_getD] at hb10
      refine awpS_skip ?_
      refine awpS_seq ?_
      refine awpS_block ?_
      refine awpS_seq ?_
      refine awpS_reg T_ok fun K hK => ?_
      simp [hG, List.getD_cons_zero, List.getD_cons_succ, -List.getD_eq_getElem?_getD, longAt_zero]
      refine hK _ ?_
      clear K hK
      refine awpS_seq ?_
      refine awpS_reg T_ok fun K hK => ?_
      simp [hG, List.getD_cons_zero, List.getD_cons_succ, -List.getD_eq_getElem?_getD, longAt_zero]
      refine hK _ ?_
      clear K hK
      refine awpS_block ?_
      refine awpS_loop (α := Nat) (fun k => ⟨[(0, relsC B), (1, .vptr 1 (fun _ => relsC O) 0), (4, .sl (0, 0) 0 (longAt B O i k).length), (5, .int .i64 i), (8, .int .i64 B.length), (9, .int .i64 i), (13, .int .i64 O.length), (14, .int .i64 k)], [(0, .one (.arr (longAt B O i k).length 64 (fun q j => relF ((longAt B O i k).getD q r0) j)))], 1⟩) (fun k => k ≤ O.length) (fun k => O.length - k) (0) (Nat.zero_le _) ?_ ?_
      ·
        refine wk_of (id) (fun _ => false) (fun _ => false) ?_ ?_ rfl (Nat.zero_le _) (fun k hk => absurd hk (Nat.not_lt_zero _))
        · simp [hG, List.getD_cons_zero, List.getD_cons_succ, -List.getD_eq_getElem?_getD, longAt_zero]
        · simp [hG, List.getD_cons_zero, List.getD_cons_succ, -List.getD_eq_getElem?_getD, longAt_zero]
      ·
        rintro k hk
        have hll := longAt_len (B := B) (O := O) (i := i) (k := k) (by omega) hk
        have hlx := mul_le_k (a := i) (b := O.length) (m := 1000) (n := 1000) (by omega) hO
        refine awpS_seq ?_
        refine awpS_reg T_ok fun K hK => ?_
        simp [hG, List.getD_cons_zero, List.getD_cons_succ, -List.getD_eq_getElem?_getD, longAt_zero]
        refine hK _ ?_
        clear K hK
        refine awpS_seq ?_
        refine awpS_cond rfl (fun hb15 => ?_) (fun hb15 => ?_)
        ·
          try simp [-List.getD_eq_getElem?_getD] at hb15
          refine awpS_skip ?_
          refine awpS_seq ?_
          refine awpS_block ?_
          refine awpS_seq ?_
          refine awpS_reg T_ok fun K hK => ?_
          simp [hG, List.getD_cons_zero, List.getD_cons_succ, -List.getD_eq_getElem?_getD, longAt_zero]
          refine hK _ ?_
          clear K hK
          refine awpS_draw hR mixed [(9, (0, 0))] ⟨[], [], []⟩ fun mu0 => ?_
          refine awpA_tk T_ok [0] [] (fuel := 10) [0] (by decide +kernel) (by decide +kernel) rfl rfl fun K hK => ?_
          simp [hG, List.getD_cons_zero, List.getD_cons_succ, -List.getD_eq_getElem?_getD, longAt_zero]
          refine hK _ ?_
          clear K hK
          refine awpA_tk T_ok [1, 2, 3, 4, 5, 6] [(0, 0)] (fuel := 4) [6, 5, 4, 3, 2, 1, 0] (by decide +kernel) (by decide +kernel) rfl rfl fun K hK => ?_
          simp [hG, List.getD_cons_zero, List.getD_cons_succ, -List.getD_eq_getElem?_getD, longAt_zero]
          refine ⟨Cond.mk (by omega), hK _ ?_⟩
          clear K hK
          refine awpA_only (fuel := 3) (i := 7) (by decide +kernel) ?_
          refine awpO_callB (mem []) cal39 (by simp [flat]) rfl rfl rfl (fun _ => rfl) (fun hg => then_c (B.getD i r0) (O.getD k r0)) (fun hg => ?_) (fun hg => ?_) fun K hK => ?_
          · simp [hG, List.getD_cons_zero, List.getD_cons_succ, -List.getD_eq_getElem?_getD, longAt_zero]
          · simp [hG, List.getD_cons_zero, List.getD_cons_succ, -List.getD_eq_getElem?_getD, longAt_zero]
          simp [hG, List.getD_cons_zero, List.getD_cons_succ, -List.getD_eq_getElem?_getD, longAt_zero]
          refine hK _ ?_
          clear K hK
          refine awpA_only (fuel := 2) (i := 8) (by decide +kernel) ?_
          refine awpO_reg T_ok rfl ?_ fun K hK => ?_
          · simp [hG, List.getD_cons_zero, List.getD_cons_succ, -List.getD_eq_getElem?_getD, longAt_zero]
          simp [hG, List.getD_cons_zero, List.getD_cons_succ, -List.getD_eq_getElem?_getD, longAt_zero]
          refine ⟨Cond.mk (by simp [-List.getD_eq_getElem?_getD]), hK _ ?_⟩
          clear K hK
          refine awpA_only (fuel := 1) (i := 9) (by decide +kernel) ?_
          refine awpO_reg T_ok rfl ?_ fun K hK => ?_
          · simp [hG, List.getD_cons_zero, List.getD_cons_succ, -List.getD_eq_getElem?_getD, longAt_zero]
          simp [hG, List.getD_cons_zero, List.getD_cons_succ, -List.getD_eq_getElem?_getD, longAt_zero]
          refine ⟨Cond.mk (by omega), hK _ ?_⟩
          clear K hK
          refine awpA_tk T_ok [10] [] (fuel := 0) [10, 9, 8, 7, 6, 5, 4, 3, 2, 1, 0] (by decide +kernel) (by decide +kernel) rfl rfl fun K hK => ?_
          simp [hG, List.getD_cons_zero, List.getD_cons_succ, -List.getD_eq_getElem?_getD, longAt_zero]
          refine hK _ ?_
          clear K hK
          refine awpA_done (by decide +kernel) ?_
          refine awpS_nil ?_
          refine blockQ_norm (thenQ_norm ?_)
          refine awpS_reg T_ok fun K hK => ?_
          simp [hG, List.getD_cons_zero, List.getD_cons_succ, -List.getD_eq_getElem?_getD, longAt_zero]
          refine ⟨Cond.mk (by omega), hK _ ?_⟩
          clear K hK
          refine awpS_nil ?_
          refine round_end (k + 1) (by omega) (by omega) ?_
          refine wk_of (fun k => if k = 0 then 2 else k) (fun _ => false) (fun _ => false) ?_ ?_ rfl (Nat.zero_le _) (fun k hk => absurd hk (Nat.not_lt_zero _))
          · rw [longAt_succ (by omega)]; simp [hG, List.getD_cons_zero, List.getD_cons_succ, -List.getD_eq_getElem?_getD]
          · rw [longAt_succ (by omega)]; simp [hG, List.getD_cons_zero, List.getD_cons_succ, -List.getD_eq_getElem?_getD]; exact fun q hq j hj => app_rel (by simpa using hq) (by simp [hj])
        ·
          try simp [-List.getD_eq_getElem?_getD] at hb15
          obtain rfl : k = O.length := (by omega)
          have hln := longAt_next (B := B) (O := O) (i := i) hb10
          refine awpS_exit ?_
          refine thenQ_exit (thenQ_exit ?_)
          refine blockQ_exit (thenQ_norm ?_)
          refine awpS_nil ?_
          refine blockQ_norm (thenQ_norm ?_)
          refine awpS_reg T_ok fun K hK => ?_
          simp [hG, List.getD_cons_zero, List.getD_cons_succ, -List.getD_eq_getElem?_getD, longAt_zero]
          refine ⟨Cond.mk (by omega), hK _ ?_⟩
          clear K hK
          refine awpS_nil ?_
          refine round_end (i + 1) (by omega) (by omega) ?_
          refine wk_of (id) (fun _ => false) (fun _ => false) ?_ ?_ rfl (Nat.zero_le _) (fun k hk => absurd hk (Nat.not_lt_zero _))
          · rw [hln]; simp [hG, List.getD_cons_zero, List.getD_cons_succ, -List.getD_eq_getElem?_getD]
          · rw [hln]; simp [hG, List.getD_cons_zero, List.getD_cons_succ, -List.getD_eq_getElem?_getD]
    ·
      try simp [-List.getD_eq_getElem?_getD] at hb10
      refine awpS_exit ?_
      refine thenQ_exit (thenQ_exit ?_)
      refine blockQ_exit (thenQ_norm ?_)
      refine awpS_seq ?_
      refine awpS_reg T_ok fun K hK => ?_
      simp [hG, List.getD_cons_zero, List.getD_cons_succ, -List.getD_eq_getElem?_getD, longAt_zero]
      refine hK _ ?_
      clear K hK
      refine awpS_ret ?_
      refine RetOK_of ?_
      simp [hG, List.getD_cons_zero, List.getD_cons_succ, -List.getD_eq_getElem?_getD, longAt_zero]
      obtain rfl : i = B.length := (by omega); rw [longAt_all]; simp

set_option maxRecDepth 100000 in
theorem power_c (g : Gr) (n : Int) : PC Try.prog 12 [.agg 3 (grF g), .int .i64 n] (.tup 2 (fun j => [.agg 3 (grF (powX g n)), .int .i64 (powN g n)].getD j .any)) := by
  refine PC_introS T_ok Try.func12 rfl (by simp [Try.ntmps12]) fun G hG hR => ?_
  simp only [Try.ntmps12, Try.results12] at hG ⊢
  simp only [argEnv, Nat.zero_add, Nat.reduceAdd]
  refine awpS_seq ?_
  refine awpS_reg T_ok fun K hK => ?_
  simp [hG, List.getD_cons_zero, List.getD_cons_succ, -List.getD_eq_getElem?_getD, eAll_zero]
  refine ⟨Cond.mk (by simp [-List.getD_eq_getElem?_getD]), hK _ ?_⟩
  clear K hK
  refine awpS_seq ?_
  refine awpS_block ?_
  refine awpS_seq ?_
  refine awpS_regL ?_
  refine awpL_reg T_ok 1 fun K hK => ?_
  simp [hG, List.getD_cons_zero, List.getD_cons_succ, -List.getD_eq_getElem?_getD, eAll_zero]
  refine hK _ ?_
  clear K hK
  refine awpL_call cal35 rfl rfl (fun _ => rfl) (fun hg => checkC_c g) (fun hg => ?_) (fun hg => ?_) fun K hK => ?_
  · simp [hG, List.getD_cons_zero, List.getD_cons_succ, -List.getD_eq_getElem?_getD, eAll_zero]
  · simp [hG, List.getD_cons_zero, List.getD_cons_succ, -List.getD_eq_getElem?_getD, eAll_zero]
  simp [hG, List.getD_cons_zero, List.getD_cons_succ, -List.getD_eq_getElem?_getD, eAll_zero]
  refine hK _ ?_
  clear K hK
  refine awpL_reg T_ok 2 fun K hK => ?_
  simp [hG, List.getD_cons_zero, List.getD_cons_succ, -List.getD_eq_getElem?_getD, eAll_zero]
  refine hK _ ?_
  clear K hK
  refine awpL_nil ?_
  refine awpS_cond rfl (fun hb13 => ?_) (fun hb13 => ?_)
  ·
    try simp [-List.getD_eq_getElem?_getD] at hb13
    refine awpS_seq ?_
    refine awpS_reg T_ok fun K hK => ?_
    simp [hG, List.getD_cons_zero, List.getD_cons_succ, -List.getD_eq_getElem?_getD, eAll_zero]
    refine ⟨Cond.mk (by simp [-List.getD_eq_getElem?_getD]), hK _ ?_⟩
    clear K hK
    refine awpS_ret ?_
    refine blockQ_ret (thenQ_ret ?_)
    refine RetOK_of ?_
    simp [hG, List.getD_cons_zero, List.getD_cons_succ, -List.getD_eq_getElem?_getD, eAll_zero]
    have hN : powN g n = 1 := (by unfold powN; rw [if_pos hb13]); rw [pow_no hN (by omega), hN]; simp
  ·
    try simp [-List.getD_eq_getElem?_getD] at hb13
    have hv : gcheck g = 0 := (by simpa using hb13)
    have hz := (gcheck_valid hv).1
    have hlb := hz.lab
    have hst := hz.st
    refine awpS_seq ?_
    refine awpS_reg T_ok fun K hK => ?_
    simp [hG, List.getD_cons_zero, List.getD_cons_succ, -List.getD_eq_getElem?_getD, eAll_zero]
    refine ⟨Cond.mk (by simp [-List.getD_eq_getElem?_getD]), hK _ ?_⟩
    clear K hK
    refine awpS_cond rfl (fun hb18 => ?_) (fun hb18 => ?_)
    ·
      try simp [-List.getD_eq_getElem?_getD] at hb18
      refine awpS_seq ?_
      refine awpS_reg T_ok fun K hK => ?_
      simp [hG, List.getD_cons_zero, List.getD_cons_succ, -List.getD_eq_getElem?_getD, eAll_zero]
      refine ⟨Cond.mk (by simp [-List.getD_eq_getElem?_getD]), hK _ ?_⟩
      clear K hK
      refine awpS_ret ?_
      refine blockQ_ret (thenQ_ret ?_)
      refine RetOK_of ?_
      simp [hG, List.getD_cons_zero, List.getD_cons_succ, -List.getD_eq_getElem?_getD, eAll_zero]
      have hN : powN g n = 2 := (by unfold powN; rw [if_neg (by omega), if_pos (by omega)]); rw [pow_no hN (by omega), hN]; simp
    ·
      try simp [-List.getD_eq_getElem?_getD] at hb18
      refine awpS_seq ?_
      refine awpS_regL ?_
      refine awpL_reg T_ok 3 fun K hK => ?_
      simp [hG, List.getD_cons_zero, List.getD_cons_succ, -List.getD_eq_getElem?_getD, eAll_zero]
      refine hK _ ?_
      clear K hK
      refine awpL_call cal36 rfl rfl (fun _ => rfl) (fun hg => raised_c g.labels n hlb (by omega)) (fun hg => ?_) (fun hg => ?_) fun K hK => ?_
      · simp [hG, List.getD_cons_zero, List.getD_cons_succ, -List.getD_eq_getElem?_getD, eAll_zero]
      · simp [hG, List.getD_cons_zero, List.getD_cons_succ, -List.getD_eq_getElem?_getD, eAll_zero]
      simp [hG, List.getD_cons_zero, List.getD_cons_succ, -List.getD_eq_getElem?_getD, eAll_zero]
      refine hK _ ?_
      clear K hK
      refine awpL_reg T_ok 2 fun K hK => ?_
      simp [hG, List.getD_cons_zero, List.getD_cons_succ, -List.getD_eq_getElem?_getD, eAll_zero]
      refine hK _ ?_
      clear K hK
      refine awpL_nil ?_
      refine awpS_cond rfl (fun hb26 => ?_) (fun hb26 => ?_)
      ·
        try simp [-List.getD_eq_getElem?_getD] at hb26
        refine awpS_seq ?_
        refine awpS_reg T_ok fun K hK => ?_
        simp [hG, List.getD_cons_zero, List.getD_cons_succ, -List.getD_eq_getElem?_getD, eAll_zero]
        refine ⟨Cond.mk (by simp [-List.getD_eq_getElem?_getD]), hK _ ?_⟩
        clear K hK
        refine awpS_ret ?_
        refine blockQ_ret (thenQ_ret ?_)
        refine RetOK_of ?_
        simp [hG, List.getD_cons_zero, List.getD_cons_succ, -List.getD_eq_getElem?_getD, eAll_zero]
        have hN : powN g n = 4 := (by unfold powN; rw [if_neg (by omega), if_neg (by omega), if_pos (by omega)]); rw [pow_no hN (by omega), hN]; simp
      ·
        try simp [-List.getD_eq_getElem?_getD] at hb26
        have hpw := pw_box hlb (n := n.toNat) (by simpa using hb26)
        refine awpS_skip ?_
        refine awpS_nil ?_
        refine blockQ_norm (thenQ_norm ?_)
        refine awpS_seq ?_
        refine awpS_regL ?_
        refine awpL_reg T_ok 1 fun K hK => ?_
        simp [hG, List.getD_cons_zero, List.getD_cons_succ, -List.getD_eq_getElem?_getD, eAll_zero]
        refine hK _ ?_
        clear K hK
        refine awpL_call cal37 rfl rfl (fun _ => rfl) (fun hg => steps_c g hv) (fun hg => ?_) (fun hg => ?_) fun K hK => ?_
        · simp [hG, List.getD_cons_zero, List.getD_cons_succ, -List.getD_eq_getElem?_getD, eAll_zero]
        · simp [hG, List.getD_cons_zero, List.getD_cons_succ, -List.getD_eq_getElem?_getD, eAll_zero]
        simp [hG, List.getD_cons_zero, List.getD_cons_succ, -List.getD_eq_getElem?_getD, eAll_zero]
        refine hK _ ?_
        clear K hK
        refine awpL_reg T_ok 2 fun K hK => ?_
        simp [hG, List.getD_cons_zero, List.getD_cons_succ, -List.getD_eq_getElem?_getD, eAll_zero]
        refine ⟨Cond.mk (by simp [-List.getD_eq_getElem?_getD]), hK _ ?_⟩
        clear K hK
        refine awpL_nil ?_
        refine awpS_seq ?_
        refine awpS_wk (st2 := ⟨[(1, .int .i64 n), (2, .ptr (0, 0) 0 0), (4, .ptr (1, 0) 0 0), (6, .vptr 1 (fun _ => relsC (stepsL g)) 0)], [(0, .one (.arr 1 3 (fun _ => grF g))), (1, .one (.arr 1 3 (fun _ j => [.int .i64 0, .int .i64 0, .nils].getD j .any)))], 2⟩) ?_ ?_
        ·
          refine wk_of (id) (fun k => k == 2) (fun _ => false) ?_ ?_ rfl (Nat.zero_le _) (fun k hk => absurd hk (Nat.not_lt_zero _))
          · simp [hG, List.getD_cons_zero, List.getD_cons_succ, -List.getD_eq_getElem?_getD, eAll_zero]
          · simp [hG, List.getD_cons_zero, List.getD_cons_succ, -List.getD_eq_getElem?_getD, eAll_zero]
        refine awpS_reg T_ok fun K hK => ?_
        simp [hG, List.getD_cons_zero, List.getD_cons_succ, -List.getD_eq_getElem?_getD, eAll_zero]
        refine hK _ ?_
        clear K hK
        refine awpS_seq ?_
        refine awpS_reg T_ok fun K hK => ?_
        simp [hG, List.getD_cons_zero, List.getD_cons_succ, -List.getD_eq_getElem?_getD, eAll_zero]
        refine hK _ ?_
        clear K hK
        refine awpS_seq ?_
        refine awpS_seq ?_
        refine awpS_reg T_ok fun K hK => ?_
        simp [hG, List.getD_cons_zero, List.getD_cons_succ, -List.getD_eq_getElem?_getD, eAll_zero]
        refine ⟨Cond.mk (by omega), hK _ ?_⟩
        clear K hK
        refine awpS_block ?_
        refine awpS_loop (α := Nat) (fun k => ⟨[(2, .ptr (0, 0) 0 0), (4, .ptr (1, 0) 0 0), (7, .fn 38 1 (fun _ => .vptr 1 (fun _ => relsC (stepsL g)) 0)), (8, relsC (pwL g k)), (38, .int .i64 (n - 1)), (39, .int .i64 k)], [(0, .one (.arr 1 3 (fun _ => grF g))), (1, .one (.arr 1 3 (fun _ j => [.int .i64 0, .int .i64 0, .nils].getD j .any)))], 2⟩) (fun k => k ≤ n.toNat - 1) (fun k => n.toNat - 1 - k) (0) (Nat.zero_le _) ?_ ?_
        ·
          refine wk_of (id) (fun _ => false) (fun _ => false) ?_ ?_ rfl (Nat.zero_le _) (fun k hk => absurd hk (Nat.not_lt_zero _))
          · simp [hG, List.getD_cons_zero, List.getD_cons_succ, -List.getD_eq_getElem?_getD]; exact Clo.le _ Clo_relsC
          · simp [hG, List.getD_cons_zero, List.getD_cons_succ, -List.getD_eq_getElem?_getD, eAll_zero]
        ·
          rintro k hk
          refine awpS_seq ?_
          refine awpS_reg T_ok fun K hK => ?_
          simp [hG, List.getD_cons_zero, List.getD_cons_succ, -List.getD_eq_getElem?_getD, eAll_zero]
          refine hK _ ?_
          clear K hK
          refine awpS_seq ?_
          refine awpS_cond rfl (fun hb40 => ?_) (fun hb40 => ?_)
          ·
            try simp [-List.getD_eq_getElem?_getD] at hb40
            have hkl := hpw k (by omega)
            refine awpS_skip ?_
            refine awpS_seq ?_
            refine awpS_block ?_
            refine awpS_regL ?_
            refine awpL_reg T_ok 2 fun K hK => ?_
            simp [hG, List.getD_cons_zero, List.getD_cons_succ, -List.getD_eq_getElem?_getD, eAll_zero]
            refine hK _ ?_
            clear K hK
            refine awpL_call cal38 rfl rfl (fun _ => rfl) (fun hg => longer_c (pwL g k) (stepsL g) (by omega) (by rw [stepsL_len]; omega)) (fun hg => ?_) (fun hg => ?_) fun K hK => ?_
            · simp [hG, List.getD_cons_zero, List.getD_cons_succ, -List.getD_eq_getElem?_getD, eAll_zero]
            · simp [hG, List.getD_cons_zero, List.getD_cons_succ, -List.getD_eq_getElem?_getD, eAll_zero]
            simp [hG, List.getD_cons_zero, List.getD_cons_succ, -List.getD_eq_getElem?_getD, eAll_zero]
            refine hK _ ?_
            clear K hK
            refine awpL_reg T_ok 1 fun K hK => ?_
            simp [hG, List.getD_cons_zero, List.getD_cons_succ, -List.getD_eq_getElem?_getD, eAll_zero]
            refine hK _ ?_
            clear K hK
            refine awpL_nil ?_
            refine awpS_nil ?_
            refine blockQ_norm (thenQ_norm ?_)
            refine awpS_reg T_ok fun K hK => ?_
            simp [hG, List.getD_cons_zero, List.getD_cons_succ, -List.getD_eq_getElem?_getD, eAll_zero]
            refine ⟨Cond.mk (by omega), hK _ ?_⟩
            clear K hK
            refine awpS_nil ?_
            refine round_end (k + 1) (by omega) (by omega) ?_
            refine wk_of (id) (fun _ => false) (fun _ => false) ?_ ?_ rfl (Nat.zero_le _) (fun k hk => absurd hk (Nat.not_lt_zero _))
            · simp [hG, List.getD_cons_zero, List.getD_cons_succ, -List.getD_eq_getElem?_getD]; exact Clo.le _ Clo_relsC
            · simp [hG, List.getD_cons_zero, List.getD_cons_succ, -List.getD_eq_getElem?_getD, eAll_zero]
          ·
            try simp [-List.getD_eq_getElem?_getD] at hb40
            obtain rfl : k = n.toNat - 1 := (by omega)
            have hpl := hpw (n.toNat - 1) (by omega)
            refine awpS_exit ?_
            refine thenQ_exit (thenQ_exit ?_)
            refine blockQ_exit (thenQ_norm ?_)
            refine awpS_seq ?_
            refine awpS_reg T_ok fun K hK => ?_
            simp [hG, List.getD_cons_zero, List.getD_cons_succ, -List.getD_eq_getElem?_getD, eAll_zero]
            refine ⟨Cond.mk (by simp [-List.getD_eq_getElem?_getD]), hK _ ?_⟩
            clear K hK
            refine awpS_seq ?_
            refine awpS_seq ?_
            refine awpS_reg T_ok fun K hK => ?_
            simp [hG, List.getD_cons_zero, List.getD_cons_succ, -List.getD_eq_getElem?_getD, eAll_zero]
            refine hK _ ?_
            clear K hK
            refine awpS_block ?_
            refine awpS_loop (α := Nat) (fun s => ⟨[(2, .ptr (0, 0) 0 0), (4, .ptr (1, 0) 0 0), (8, relsC (pwL g (n.toNat - 1))), (9, .ptr (2, 0) 0 0), (51, .int .i64 g.states), (52, .int .i64 s)], [(0, .one (.arr 1 3 (fun _ => grF g))), (1, .one (.arr 1 3 (fun _ j => [.int .i64 0, .int .i64 0, .nils].getD j .any))), (2, .one (.arr 1 3 (fun _ j => [.int .i64 ((pwL g (n.toNat - 1)).length : Int), .int .i64 g.states, .sl (3, 0) 0 (eAll g.states.toNat (pwL g (n.toNat - 1)) s).length].getD j .any))), (3, .one (.arr (eAll g.states.toNat (pwL g (n.toNat - 1)) s).length 3 (fun q j => edgeF ((eAll g.states.toNat (pwL g (n.toNat - 1)) s).getD q de) j)))], 4⟩) (fun s => s ≤ g.states.toNat ∧ (eAll g.states.toNat (pwL g (n.toNat - 1)) s).length ≤ 1024) (fun s => g.states.toNat - s) (0) (⟨Nat.zero_le _, by simp [eAll]⟩) ?_ ?_
            ·
              refine wk_of (id) (fun _ => false) (fun k => k == 3) ?_ ?_ rfl (Nat.zero_le _) (fun k hk => absurd hk (Nat.not_lt_zero _))
              · simp [hG, List.getD_cons_zero, List.getD_cons_succ, -List.getD_eq_getElem?_getD, eAll_zero]
              · simp [hG, List.getD_cons_zero, List.getD_cons_succ, -List.getD_eq_getElem?_getD, eAll_zero]
            ·
              rintro s ⟨hs, hle⟩
              refine awpS_seq ?_
              refine awpS_reg T_ok fun K hK => ?_
              simp [hG, List.getD_cons_zero, List.getD_cons_succ, -List.getD_eq_getElem?_getD, eAll_zero]
              refine hK _ ?_
              clear K hK
              refine awpS_seq ?_
              refine awpS_cond rfl (fun hb53 => ?_) (fun hb53 => ?_)
              ·
                try simp [-List.getD_eq_getElem?_getD] at hb53
                have hsn : s < g.states.toNat := (by omega)
                refine awpS_skip ?_
                refine awpS_seq ?_
                refine awpS_block ?_
                refine awpS_seq ?_
                refine awpS_reg T_ok fun K hK => ?_
                simp [hG, List.getD_cons_zero, List.getD_cons_succ, -List.getD_eq_getElem?_getD, eAll_zero]
                refine hK _ ?_
                clear K hK
                refine awpS_seq ?_
                refine awpS_seq ?_
                refine awpS_reg T_ok fun K hK => ?_
                simp [hG, List.getD_cons_zero, List.getD_cons_succ, -List.getD_eq_getElem?_getD, eAll_zero]
                refine hK _ ?_
                clear K hK
                refine awpS_block ?_
                refine awpS_loop (α := Nat) (fun l => ⟨[(2, .ptr (0, 0) 0 0), (4, .ptr (1, 0) 0 0), (8, relsC (pwL g (n.toNat - 1))), (9, .ptr (2, 0) 0 0), (10, .int .i64 s), (51, .int .i64 g.states), (52, .int .i64 s), (56, .int .i64 (pwL g (n.toNat - 1)).length), (57, .int .i64 l)], [(0, .one (.arr 1 3 (fun _ => grF g))), (1, .one (.arr 1 3 (fun _ j => [.int .i64 0, .int .i64 0, .nils].getD j .any))), (2, .one (.arr 1 3 (fun _ j => [.int .i64 ((pwL g (n.toNat - 1)).length : Int), .int .i64 g.states, .sl (3, 0) 0 (eAt g.states.toNat (pwL g (n.toNat - 1)) s l 0).length].getD j .any))), (3, .one (.arr (eAt g.states.toNat (pwL g (n.toNat - 1)) s l 0).length 3 (fun q j => edgeF ((eAt g.states.toNat (pwL g (n.toNat - 1)) s l 0).getD q de) j)))], 4⟩) (fun l => l ≤ (pwL g (n.toNat - 1)).length) (fun l => (pwL g (n.toNat - 1)).length - l) (0) (Nat.zero_le _) ?_ ?_
                ·
                  refine wk_of (id) (fun _ => false) (fun _ => false) ?_ ?_ rfl (Nat.zero_le _) (fun k hk => absurd hk (Nat.not_lt_zero _))
                  · simp [hG, List.getD_cons_zero, List.getD_cons_succ, -List.getD_eq_getElem?_getD, eAll_zero]
                  · rw [eAt_start]; simp [hG, List.getD_cons_zero, List.getD_cons_succ, -List.getD_eq_getElem?_getD]
                ·
                  rintro l hl
                  refine awpS_seq ?_
                  refine awpS_reg T_ok fun K hK => ?_
                  simp [hG, List.getD_cons_zero, List.getD_cons_succ, -List.getD_eq_getElem?_getD, eAll_zero]
                  refine hK _ ?_
                  clear K hK
                  refine awpS_seq ?_
                  refine awpS_cond rfl (fun hb58 => ?_) (fun hb58 => ?_)
                  ·
                    try simp [-List.getD_eq_getElem?_getD] at hb58
                    refine awpS_skip ?_
                    refine awpS_seq ?_
                    refine awpS_block ?_
                    refine awpS_seq ?_
                    refine awpS_reg T_ok fun K hK => ?_
                    simp [hG, List.getD_cons_zero, List.getD_cons_succ, -List.getD_eq_getElem?_getD, eAll_zero]
                    refine hK _ ?_
                    clear K hK
                    refine awpS_seq ?_
                    refine awpS_reg T_ok fun K hK => ?_
                    simp [hG, List.getD_cons_zero, List.getD_cons_succ, -List.getD_eq_getElem?_getD, eAll_zero]
                    refine hK _ ?_
                    clear K hK
                    refine awpS_block ?_
                    refine awpS_loop (α := Nat) (fun t => ⟨[(2, .ptr (0, 0) 0 0), (4, .ptr (1, 0) 0 0), (8, relsC (pwL g (n.toNat - 1))), (9, .ptr (2, 0) 0 0), (10, .int .i64 s), (11, .int .i64 l), (51, .int .i64 g.states), (52, .int .i64 s), (56, .int .i64 (pwL g (n.toNat - 1)).length), (57, .int .i64 l), (61, .int .i64 g.states), (62, .int .i64 t)], [(0, .one (.arr 1 3 (fun _ => grF g))), (1, .one (.arr 1 3 (fun _ j => [.int .i64 0, .int .i64 0, .nils].getD j .any))), (2, .one (.arr 1 3 (fun _ j => [.int .i64 ((pwL g (n.toNat - 1)).length : Int), .int .i64 g.states, .sl (3, 0) 0 (eAt g.states.toNat (pwL g (n.toNat - 1)) s l t).length].getD j .any))), (3, .one (.arr (eAt g.states.toNat (pwL g (n.toNat - 1)) s l t).length 3 (fun q j => edgeF ((eAt g.states.toNat (pwL g (n.toNat - 1)) s l t).getD q de) j)))], 4⟩) (fun t => t ≤ g.states.toNat) (fun t => g.states.toNat - t) (0) (Nat.zero_le _) ?_ ?_
                    ·
                      refine wk_of (id) (fun _ => false) (fun _ => false) ?_ ?_ rfl (Nat.zero_le _) (fun k hk => absurd hk (Nat.not_lt_zero _))
                      · simp [hG, List.getD_cons_zero, List.getD_cons_succ, -List.getD_eq_getElem?_getD, eAll_zero]
                      · simp [hG, List.getD_cons_zero, List.getD_cons_succ, -List.getD_eq_getElem?_getD, eAll_zero]
                    ·
                      rintro t ht
                      refine awpS_seq ?_
                      refine awpS_reg T_ok fun K hK => ?_
                      simp [hG, List.getD_cons_zero, List.getD_cons_succ, -List.getD_eq_getElem?_getD, eAll_zero]
                      refine hK _ ?_
                      clear K hK
                      refine awpS_seq ?_
                      refine awpS_cond rfl (fun hb63 => ?_) (fun hb63 => ?_)
                      ·
                        try simp [-List.getD_eq_getElem?_getD] at hb63
                        have hel := eAt_len (B := (pwL g (n.toNat - 1))) (l := l) (t := t) hle (show g.states.toNat ≤ 64 by omega) (by omega) (by omega)
                        have hsb := shr_box (f := (pwL g (n.toNat - 1)).getD l r0 s) (u := t)
                        refine awpS_skip ?_
                        refine awpS_seq ?_
                        refine awpS_block ?_
                        refine awpS_seq ?_
                        refine awpS_reg T_ok fun K hK => ?_
                        simp [hG, List.getD_cons_zero, List.getD_cons_succ, -List.getD_eq_getElem?_getD, eAll_zero]
                        refine hK _ ?_
                        clear K hK
                        refine awpS_seq ?_
                        refine awpS_reg T_ok fun K hK => ?_
                        simp [hG, List.getD_cons_zero, List.getD_cons_succ, -List.getD_eq_getElem?_getD, eAll_zero]
                        refine ⟨Cond.mk (by omega), hK _ ?_⟩
                        clear K hK
                        refine awpS_cond rfl (fun hb74 => ?_) (fun hb74 => ?_)
                        ·
                          try simp [-List.getD_eq_getElem?_getD] at hb74
                          have hbt : bit (pwL g (n.toNat - 1)) s l t = true := (bandI_test (by omega)).mp (by exact hb74)
                          refine awpS_reg T_ok fun K hK => ?_
                          simp [hG, List.getD_cons_zero, List.getD_cons_succ, -List.getD_eq_getElem?_getD, eAll_zero]
                          refine ⟨Cond.mk (by simp [-List.getD_eq_getElem?_getD]; omega), hK _ ?_⟩
                          clear K hK
                          refine awpS_nil ?_
                          refine blockQ_norm (thenQ_norm ?_)
                          refine awpS_reg T_ok fun K hK => ?_
                          simp [hG, List.getD_cons_zero, List.getD_cons_succ, -List.getD_eq_getElem?_getD, eAll_zero]
                          refine ⟨Cond.mk (by omega), hK _ ?_⟩
                          clear K hK
                          refine awpS_nil ?_
                          refine round_end (t + 1) (by omega) (by omega) ?_
                          refine wk_of (fun k => if k = 3 then 5 else k) (fun _ => false) (fun _ => false) ?_ ?_ rfl (Nat.zero_le _) (fun k hk => absurd hk (Nat.not_lt_zero _))
                          · simp [hG, List.getD_cons_zero, List.getD_cons_succ, -List.getD_eq_getElem?_getD, eAll_zero]
                          · rw [eAt_row, if_pos hbt]; simp [hG, List.getD_cons_zero, List.getD_cons_succ, -List.getD_eq_getElem?_getD]; exact fun q hq => ⟨app_edge (j := 0) (by simpa using hq) (by decide) (fun j hj => by rcases lt3 hj with rfl | rfl | rfl <;> rfl), app_edge (j := 1) (by simpa using hq) (by decide) (fun j hj => by rcases lt3 hj with rfl | rfl | rfl <;> rfl), app_edge (j := 2) (by simpa using hq) (by decide) (fun j hj => by rcases lt3 hj with rfl | rfl | rfl <;> rfl)⟩
                        ·
                          try simp [-List.getD_eq_getElem?_getD] at hb74
                          have hbt : bit (pwL g (n.toNat - 1)) s l t = false := Bool.eq_false_iff.2 fun h => hb74 ((bandI_test (by omega)).mpr h)
                          refine awpS_skip ?_
                          refine awpS_nil ?_
                          refine blockQ_norm (thenQ_norm ?_)
                          refine awpS_reg T_ok fun K hK => ?_
                          simp [hG, List.getD_cons_zero, List.getD_cons_succ, -List.getD_eq_getElem?_getD, eAll_zero]
                          refine ⟨Cond.mk (by omega), hK _ ?_⟩
                          clear K hK
                          refine awpS_nil ?_
                          refine round_end (t + 1) (by omega) (by omega) ?_
                          refine wk_of (id) (fun _ => false) (fun _ => false) ?_ ?_ rfl (Nat.zero_le _) (fun k hk => absurd hk (Nat.not_lt_zero _))
                          · simp [hG, List.getD_cons_zero, List.getD_cons_succ, -List.getD_eq_getElem?_getD, eAll_zero]
                          · rw [eAt_row, hbt]; simp [hG, List.getD_cons_zero, List.getD_cons_succ, -List.getD_eq_getElem?_getD]
                      ·
                        try simp [-List.getD_eq_getElem?_getD] at hb63
                        obtain rfl : t = g.states.toNat := (by omega)
                        refine awpS_exit ?_
                        refine thenQ_exit (thenQ_exit ?_)
                        refine blockQ_exit (thenQ_norm ?_)
                        refine awpS_nil ?_
                        refine blockQ_norm (thenQ_norm ?_)
                        refine awpS_reg T_ok fun K hK => ?_
                        simp [hG, List.getD_cons_zero, List.getD_cons_succ, -List.getD_eq_getElem?_getD, eAll_zero]
                        refine ⟨Cond.mk (by omega), hK _ ?_⟩
                        clear K hK
                        refine awpS_nil ?_
                        refine round_end (l + 1) (by omega) (by omega) ?_
                        refine wk_of (id) (fun _ => false) (fun _ => false) ?_ ?_ rfl (Nat.zero_le _) (fun k hk => absurd hk (Nat.not_lt_zero _))
                        · simp [hG, List.getD_cons_zero, List.getD_cons_succ, -List.getD_eq_getElem?_getD, eAll_zero]
                        · rw [← eAt_lab]; simp [hG, List.getD_cons_zero, List.getD_cons_succ, -List.getD_eq_getElem?_getD]
                  ·
                    try simp [-List.getD_eq_getElem?_getD] at hb58
                    obtain rfl : l = (pwL g (n.toNat - 1)).length := (by omega)
                    refine awpS_exit ?_
                    refine thenQ_exit (thenQ_exit ?_)
                    refine blockQ_exit (thenQ_norm ?_)
                    refine awpS_seq ?_
                    refine awpS_reg T_ok fun K hK => ?_
                    simp [hG, List.getD_cons_zero, List.getD_cons_succ, -List.getD_eq_getElem?_getD, eAll_zero]
                    refine hK _ ?_
                    clear K hK
                    refine awpS_cond rfl (fun hb89 => ?_) (fun hb89 => ?_)
                    ·
                      try simp [-List.getD_eq_getElem?_getD] at hb89
                      refine awpS_seq ?_
                      refine awpS_reg T_ok fun K hK => ?_
                      simp [hG, List.getD_cons_zero, List.getD_cons_succ, -List.getD_eq_getElem?_getD, eAll_zero]
                      refine ⟨Cond.mk (by simp [-List.getD_eq_getElem?_getD]), hK _ ?_⟩
                      clear K hK
                      refine awpS_ret ?_
                      refine blockQ_ret (thenQ_ret ?_)
                      refine thenQ_ret (thenQ_ret ?_)
                      refine blockQ_ret (thenQ_ret ?_)
                      refine RetOK_of ?_
                      simp [hG, List.getD_cons_zero, List.getD_cons_succ, -List.getD_eq_getElem?_getD, eAll_zero]
                      have hN : powN g n = 4 := (by unfold powN; rw [if_neg (by omega), if_neg (by omega), if_neg (by omega), if_pos (by rw [eAt_all] at hb89; have := eAll_mono (n := g.states.toNat) (B := (pwL g (n.toNat - 1))) (s := s + 1) (m := g.states.toNat) (by omega); unfold powE; omega)]); rw [pow_no hN (by omega), hN]; simp
                    ·
                      try simp [-List.getD_eq_getElem?_getD] at hb89
                      refine awpS_skip ?_
                      refine awpS_nil ?_
                      refine blockQ_norm (thenQ_norm ?_)
                      refine awpS_reg T_ok fun K hK => ?_
                      simp [hG, List.getD_cons_zero, List.getD_cons_succ, -List.getD_eq_getElem?_getD, eAll_zero]
                      refine ⟨Cond.mk (by omega), hK _ ?_⟩
                      clear K hK
                      refine awpS_nil ?_
                      refine round_end (s + 1) (⟨by omega, by rw [← eAt_all]; omega⟩) (by omega) ?_
                      refine wk_of (id) (fun _ => false) (fun _ => false) ?_ ?_ rfl (Nat.zero_le _) (fun k hk => absurd hk (Nat.not_lt_zero _))
                      · simp [hG, List.getD_cons_zero, List.getD_cons_succ, -List.getD_eq_getElem?_getD, eAll_zero]
                      · rw [← eAt_all]; simp [hG, List.getD_cons_zero, List.getD_cons_succ, -List.getD_eq_getElem?_getD]
              ·
                try simp [-List.getD_eq_getElem?_getD] at hb53
                refine awpS_exit ?_
                refine thenQ_exit (thenQ_exit ?_)
                refine blockQ_exit (thenQ_norm ?_)
                refine awpS_seq ?_
                refine awpS_reg T_ok fun K hK => ?_
                simp [hG, List.getD_cons_zero, List.getD_cons_succ, -List.getD_eq_getElem?_getD, eAll_zero]
                refine ⟨Cond.mk (by simp [-List.getD_eq_getElem?_getD]), hK _ ?_⟩
                clear K hK
                refine awpS_ret ?_
                refine RetOK_of ?_
                simp [hG, List.getD_cons_zero, List.getD_cons_succ, -List.getD_eq_getElem?_getD, eAll_zero]
                obtain rfl : s = g.states.toNat := (by omega); have hN : powN g n = 0 := (by unfold powN; rw [if_neg (by omega), if_neg (by omega), if_neg (by omega), if_neg (by unfold powE; omega)]); rw [pow_ok hN, hN]; unfold powE; simp

end Go.Proofs.Ytddghlnaocjjkaa
