/-
  Walks: words of a graph; the graph of sets.
-/
import Derived.Test.YtfoeigajlkonpaaDoorVF
import Derived.Test.YtfoeigajlkonpaaDoorVD
import Derived.Test.YtfoeigajlkonpaaDoorVC
import Derived.Test.YtfoeigajlkonpaaDoorQA
namespace Go.Proofs.YtfoeigajlkonpaaDoor
set_option linter.unusedSimpArgs false
set_option linter.unusedVariables false
open Go Go.Lift Go.Proofs

def SetOK (g : Gr) (L : List Int) : Prop := L.Pairwise (· < ·) ∧ ∀ x ∈ L, 0 ≤ x ∧ x < g.states
theorem SetOK.len {g : Gr} (hv : gcheck g = 0) {L : List Int} (h : SetOK g L) : L.length ≤ 64 := asc_short h.1 h.2 (gcheck_valid hv).1.st.2
theorem SetOK.small {g : Gr} (hv : gcheck g = 0) {L : List Int} (h : SetOK g L) : Small L := fun n hn => by
  have h1 := h.2 n hn
  have h2 := (gcheck_valid hv).1.st
  omega
theorem SetOK.step {g : Gr} (hv : gcheck g = 0) {k : Int} {L : List Int} : SetOK g (stepL g k L) := ⟨step_asc, step_box hv⟩
theorem SetOK.all {g : Gr} : SetOK g (iotaL g.states.toNat) := ⟨iota_asc, fun x hx => by have := iota_mem hx; omega⟩
theorem setA_take {g : Gr} {L : List Int} {w : List UInt8} {i : Nat} (h : i < w.length) : setA g L (w.take (i + 1)) = stepL g (idxB letters (w.getD i 0)) (setA g L (w.take i)) := by
  unfold setA
  rw [List.take_succ_eq_append_getElem h, List.foldl_append, getD_get h]
  rfl
theorem setA_ok {g : Gr} (hv : gcheck g = 0) : ∀ {w : List UInt8} {L : List Int}, SetOK g L → SetOK g (setA g L w)
  | [], L, h => h
  | c :: w, L, h => setA_ok hv (w := w) (L := stepL g (idxB letters c) L) (SetOK.step hv)
theorem setA_drop {g : Gr} {L : List Int} {w : List UInt8} {i : Nat} (h : setA g L (w.take i) = []) : setA g L w = [] := by
  have : setA g L w = setA g (setA g L (w.take i)) (w.drop i) := by
    conv => lhs; rw [← List.take_append_drop i w]
    unfold setA
    rw [List.foldl_append]
  rw [this, h, setA_nil]
/-- why a graph has no words of letters. -/
def langN (g : Gr) : Int := if gcheck g ≠ 0 then 1 else if 16 < g.labels then 12 else 0
def accN (g : Gr) (w : List UInt8) : Int := if langN g ≠ 0 then langN g else wordCheck g.labels w
def accB (g : Gr) (w : List UInt8) : Bool := decide (accN g w = 0) && decide (0 < (setA g (iotaL g.states.toNat) w).length)
theorem acc_ok {g : Gr} {w : List UInt8} (h : accN g w = 0) : gcheck g = 0 ∧ g.labels ≤ 16 ∧ wordCheck g.labels w = 0 := by
  unfold accN at h
  by_cases h1 : langN g = 0
  · rw [if_neg (fun k => k h1)] at h
    unfold langN at h1
    split at h1
    · cases h1
    · split at h1
      · cases h1
      · exact ⟨by omega, by omega, h⟩
  · rw [if_pos h1] at h; exact absurd h h1
theorem acc_len {g : Gr} {w : List UInt8} (h : accN g w = 0) : w.length ≤ 1000000 := by
  have h1 := (acc_ok h).2.2
  unfold wordCheck at h1
  split at h1
  · cases h1
  · split at h1
    · cases h1
    · omega
theorem acc_dig {g : Gr} {w : List UInt8} (h : accN g w = 0) {i : Nat} (hi : i < w.length) : 0 ≤ idxB letters (w.getD i 0) ∧ idxB letters (w.getD i 0) < g.labels := (word_dig (acc_ok h).2.2).2 i hi
theorem ends_eq {g : Gr} {L : List Int} {w : List UInt8} {i : Nat} (hi : i ≤ w.length) (h : i < w.length → setA g L (w.take i) = []) : setA g L (w.take i) = setA g L w := by
  rcases Nat.lt_or_ge i w.length with h2 | h2
  · rw [h h2, setA_drop (h h2)]
  · rw [List.take_of_length_le h2]
theorem app_one1 {k j : Nat} : (if j = k then AVal.int .i64 (k : Int) else .int .i64 (if j < k then (j : Int) else 0)) = .int .i64 (if j < k + 1 then (j : Int) else 0) := by
  by_cases h : j = k
  · subst h; rw [if_pos rfl, if_pos (by omega)]
  · rw [if_neg h]
    by_cases h2 : j < k
    · rw [if_pos h2, if_pos (by omega)]
    · rw [if_neg h2, if_neg (by omega)]
set_option maxRecDepth 100000 in
theorem langCheck_c (g : Gr) : PC Tryd.prog 58 [.agg 3 (grF g)] (.int .i64 (langN g)) := by
  refine PC_introS T_ok Tryd.func58 rfl (by simp [Tryd.ntmps58]) fun G hG hR => ?_
  simp only [Tryd.ntmps58, Tryd.results58] at hG ⊢
  simp only [argEnv, Nat.zero_add, Nat.reduceAdd]
  refine awpS_seq ?_
  refine awpS_reg T_ok fun K hK => ?_
  simp [hG, List.getD_cons_zero, List.getD_cons_succ, -List.getD_eq_getElem?_getD]
  refine ⟨Cond.mk (by exact trivial), hK _ ?_⟩
  clear K hK
  refine awpS_seq ?_
  refine awpS_block ?_
  refine awpS_seq ?_
  refine awpS_regL ?_
  refine awpL_reg T_ok 1 fun K hK => ?_
  simp [hG, List.getD_cons_zero, List.getD_cons_succ, -List.getD_eq_getElem?_getD]
  refine hK _ ?_
  clear K hK
  refine awpL_call cal35 rfl rfl (fun _ => rfl) (fun hg => checkC_c g) (fun hg => ?_) (fun hg => ?_) fun K hK => ?_
  · simp [hG, List.getD_cons_zero, List.getD_cons_succ, -List.getD_eq_getElem?_getD]
  · simp [hG, List.getD_cons_zero, List.getD_cons_succ, -List.getD_eq_getElem?_getD]
  simp [hG, List.getD_cons_zero, List.getD_cons_succ, -List.getD_eq_getElem?_getD]
  refine hK _ ?_
  clear K hK
  refine awpL_reg T_ok 2 fun K hK => ?_
  simp [hG, List.getD_cons_zero, List.getD_cons_succ, -List.getD_eq_getElem?_getD]
  refine hK _ ?_
  clear K hK
  refine awpL_nil ?_
  refine awpS_cond rfl (fun hb3 => ?_) (fun hb3 => ?_)
  ·
    try simp [-List.getD_eq_getElem?_getD] at hb3
    refine awpS_seq ?_
    refine awpS_reg T_ok fun K hK => ?_
    simp [hG, List.getD_cons_zero, List.getD_cons_succ, -List.getD_eq_getElem?_getD]
    refine hK _ ?_
    clear K hK
    refine awpS_ret ?_
    refine blockQ_ret (thenQ_ret ?_)
    refine RetOK_of ?_
    simp [hG, List.getD_cons_zero, List.getD_cons_succ, -List.getD_eq_getElem?_getD]
    unfold langN; rw [if_pos (by simpa using hb3)]
  ·
    try simp [-List.getD_eq_getElem?_getD] at hb3
    refine awpS_seq ?_
    refine awpS_reg T_ok fun K hK => ?_
    simp [hG, List.getD_cons_zero, List.getD_cons_succ, -List.getD_eq_getElem?_getD]
    refine hK _ ?_
    clear K hK
    refine awpS_cond rfl (fun hb7 => ?_) (fun hb7 => ?_)
    ·
      try simp [-List.getD_eq_getElem?_getD] at hb7
      refine awpS_seq ?_
      refine awpS_reg T_ok fun K hK => ?_
      simp [hG, List.getD_cons_zero, List.getD_cons_succ, -List.getD_eq_getElem?_getD]
      refine hK _ ?_
      clear K hK
      refine awpS_ret ?_
      refine blockQ_ret (thenQ_ret ?_)
      refine RetOK_of ?_
      simp [hG, List.getD_cons_zero, List.getD_cons_succ, -List.getD_eq_getElem?_getD]
      unfold langN; rw [if_neg (by simpa using hb3), if_pos (by omega)]
    ·
      try simp [-List.getD_eq_getElem?_getD] at hb7
      refine awpS_skip ?_
      refine awpS_nil ?_
      refine blockQ_norm (thenQ_norm ?_)
      refine awpS_seq ?_
      refine awpS_reg T_ok fun K hK => ?_
      simp [hG, List.getD_cons_zero, List.getD_cons_succ, -List.getD_eq_getElem?_getD]
      refine hK _ ?_
      clear K hK
      refine awpS_ret ?_
      refine RetOK_of ?_
      simp [hG, List.getD_cons_zero, List.getD_cons_succ, -List.getD_eq_getElem?_getD]
      unfold langN; rw [if_neg (by simpa using hb3), if_neg (by omega)]

set_option maxRecDepth 100000 in
theorem spells_c (g : Gr) (w : List UInt8) : PC Tryd.prog 39 [.agg 3 (grF g), .str w] (.int .i64 (accN g w)) := by
  refine PC_introS T_ok Tryd.func39 rfl (by simp [Tryd.ntmps39]) fun G hG hR => ?_
  simp only [Tryd.ntmps39, Tryd.results39] at hG ⊢
  simp only [argEnv, Nat.zero_add, Nat.reduceAdd]
  refine awpS_seq ?_
  refine awpS_reg T_ok fun K hK => ?_
  simp [hG, List.getD_cons_zero, List.getD_cons_succ, -List.getD_eq_getElem?_getD]
  refine ⟨Cond.mk (by exact trivial), hK _ ?_⟩
  clear K hK
  refine awpS_seq ?_
  refine awpS_seq ?_
  refine awpS_regL ?_
  refine awpL_reg T_ok 1 fun K hK => ?_
  simp [hG, List.getD_cons_zero, List.getD_cons_succ, -List.getD_eq_getElem?_getD]
  refine hK _ ?_
  clear K hK
  refine awpL_call cal58 rfl rfl (fun _ => rfl) (fun hg => langCheck_c g) (fun hg => ?_) (fun hg => ?_) fun K hK => ?_
  · simp [hG, List.getD_cons_zero, List.getD_cons_succ, -List.getD_eq_getElem?_getD]
  · simp [hG, List.getD_cons_zero, List.getD_cons_succ, -List.getD_eq_getElem?_getD]
  simp [hG, List.getD_cons_zero, List.getD_cons_succ, -List.getD_eq_getElem?_getD]
  refine hK _ ?_
  clear K hK
  refine awpL_reg T_ok 1 fun K hK => ?_
  simp [hG, List.getD_cons_zero, List.getD_cons_succ, -List.getD_eq_getElem?_getD]
  refine hK _ ?_
  clear K hK
  refine awpL_nil ?_
  refine awpS_seq ?_
  refine awpS_reg T_ok fun K hK => ?_
  simp [hG, List.getD_cons_zero, List.getD_cons_succ, -List.getD_eq_getElem?_getD]
  refine hK _ ?_
  clear K hK
  refine awpS_cond rfl (fun hb9 => ?_) (fun hb9 => ?_)
  ·
    try simp [-List.getD_eq_getElem?_getD] at hb9
    refine awpS_seq ?_
    refine awpS_reg T_ok fun K hK => ?_
    simp [hG, List.getD_cons_zero, List.getD_cons_succ, -List.getD_eq_getElem?_getD]
    refine hK _ ?_
    clear K hK
    refine awpS_ret ?_
    refine RetOK_of ?_
    simp [hG, List.getD_cons_zero, List.getD_cons_succ, -List.getD_eq_getElem?_getD]
    unfold accN; rw [if_pos (by simpa using hb9)]
  ·
    try simp [-List.getD_eq_getElem?_getD] at hb9
    refine awpS_skip ?_
    refine awpS_seq ?_
    refine awpS_regL ?_
    refine awpL_reg T_ok 3 fun K hK => ?_
    simp [hG, List.getD_cons_zero, List.getD_cons_succ, -List.getD_eq_getElem?_getD]
    refine hK _ ?_
    clear K hK
    refine awpL_call cal52 rfl rfl (fun _ => rfl) (fun hg => wcheck_c g.labels w) (fun hg => ?_) (fun hg => ?_) fun K hK => ?_
    · simp [hG, List.getD_cons_zero, List.getD_cons_succ, -List.getD_eq_getElem?_getD]
    · simp [hG, List.getD_cons_zero, List.getD_cons_succ, -List.getD_eq_getElem?_getD]
    simp [hG, List.getD_cons_zero, List.getD_cons_succ, -List.getD_eq_getElem?_getD]
    refine hK _ ?_
    clear K hK
    refine awpL_reg T_ok 1 fun K hK => ?_
    simp [hG, List.getD_cons_zero, List.getD_cons_succ, -List.getD_eq_getElem?_getD]
    refine hK _ ?_
    clear K hK
    refine awpL_nil ?_
    refine awpS_ret ?_
    refine RetOK_of ?_
    simp [hG, List.getD_cons_zero, List.getD_cons_succ, -List.getD_eq_getElem?_getD]
    unfold accN; rw [if_neg (by simpa using hb9)]

set_option maxRecDepth 100000 in
theorem states_c (g : Gr) (hv : gcheck g = 0) : PC Tryd.prog 41 [.agg 3 (grF g)] (ints (iotaL g.states.toNat)) := by
  have hst := (gcheck_valid hv).1.st
  refine PC_introS T_ok Tryd.func41 rfl (by simp [Tryd.ntmps41]) fun G hG hR => ?_
  simp only [Tryd.ntmps41, Tryd.results41] at hG ⊢
  simp only [argEnv, Nat.zero_add, Nat.reduceAdd]
  refine awpS_seq ?_
  refine awpS_reg T_ok fun K hK => ?_
  simp [hG, List.getD_cons_zero, List.getD_cons_succ, -List.getD_eq_getElem?_getD]
  refine ⟨Cond.mk (by exact trivial), hK _ ?_⟩
  clear K hK
  refine awpS_seq ?_
  refine awpS_reg T_ok fun K hK => ?_
  simp [hG, List.getD_cons_zero, List.getD_cons_succ, -List.getD_eq_getElem?_getD]
  refine ⟨Cond.mk (by omega), hK _ ?_⟩
  clear K hK
  refine awpS_seq ?_
  refine awpS_seq ?_
  refine awpS_reg T_ok fun K hK => ?_
  simp [hG, List.getD_cons_zero, List.getD_cons_succ, -List.getD_eq_getElem?_getD]
  refine hK _ ?_
  clear K hK
  refine awpS_block ?_
  refine awpS_loop (α := Nat) (fun k => ⟨[(3, .sl (1, 0) 0 g.states.toNat), (8, .sl (1, 0) 0 g.states.toNat), (9, .int .i64 (g.states.toNat : Nat)), (10, .int .i64 k)], [(1, .one (.arr g.states.toNat 1 (fun j _ => .int .i64 (if j < k then (j : Int) else 0))))], 2⟩) (fun k => k ≤ g.states.toNat) (fun k => g.states.toNat - k) (0) (Nat.zero_le _) ?_ ?_
  ·
    refine wk_of (id) (fun _ => false) (fun _ => false) ?_ ?_ rfl (Nat.zero_le _) (fun k hk => absurd hk (Nat.not_lt_zero _))
    · simp [hG, List.getD_cons_zero, List.getD_cons_succ, -List.getD_eq_getElem?_getD]
    · simp [hG, List.getD_cons_zero, List.getD_cons_succ, -List.getD_eq_getElem?_getD]
  ·
    rintro k hk
    refine awpS_seq ?_
    refine awpS_reg T_ok fun K hK => ?_
    simp [hG, List.getD_cons_zero, List.getD_cons_succ, -List.getD_eq_getElem?_getD]
    refine hK _ ?_
    clear K hK
    refine awpS_seq ?_
    refine awpS_cond rfl (fun hb11 => ?_) (fun hb11 => ?_)
    ·
      try simp [-List.getD_eq_getElem?_getD] at hb11
      refine awpS_skip ?_
      refine awpS_seq ?_
      refine awpS_block ?_
      refine awpS_seq ?_
      refine awpS_reg T_ok fun K hK => ?_
      simp [hG, List.getD_cons_zero, List.getD_cons_succ, -List.getD_eq_getElem?_getD]
      refine hK _ ?_
      clear K hK
      refine awpS_reg T_ok fun K hK => ?_
      simp [hG, List.getD_cons_zero, List.getD_cons_succ, -List.getD_eq_getElem?_getD]
      refine ⟨Cond.mk (by omega), hK _ ?_⟩
      clear K hK
      refine awpS_nil ?_
      refine blockQ_norm (thenQ_norm ?_)
      refine awpS_reg T_ok fun K hK => ?_
      simp [hG, List.getD_cons_zero, List.getD_cons_succ, -List.getD_eq_getElem?_getD]
      refine ⟨Cond.mk (by omega), hK _ ?_⟩
      clear K hK
      refine awpS_nil ?_
      refine round_end (k + 1) (by omega) (by omega) ?_
      refine wk_of (id) (fun _ => false) (fun _ => false) ?_ ?_ rfl (Nat.zero_le _) (fun k hk => absurd hk (Nat.not_lt_zero _))
      · simp [hG, List.getD_cons_zero, List.getD_cons_succ, -List.getD_eq_getElem?_getD]
      · simp [hG, List.getD_cons_zero, List.getD_cons_succ, -List.getD_eq_getElem?_getD]; exact fun j hj => app_one1
    ·
      try simp [-List.getD_eq_getElem?_getD] at hb11
      refine awpS_exit ?_
      refine thenQ_exit (thenQ_exit ?_)
      refine blockQ_exit (thenQ_norm ?_)
      refine awpS_seq ?_
      refine awpS_reg T_ok fun K hK => ?_
      simp [hG, List.getD_cons_zero, List.getD_cons_succ, -List.getD_eq_getElem?_getD]
      refine hK _ ?_
      clear K hK
      refine awpS_ret ?_
      refine RetOK_of ?_
      simp [hG, List.getD_cons_zero, List.getD_cons_succ, -List.getD_eq_getElem?_getD]
      obtain rfl : k = g.states.toNat := (by omega); exact ⟨iota_len.symm, by rw [iota_len]; exact Nat.le_refl _, fun i hi => by rw [iota_len] at hi; rw [if_pos hi, iota_at hi]⟩

set_option maxRecDepth 100000 in
theorem langStep_c (g : Gr) (L : List Int) (hv : gcheck g = 0) (hL : SetOK g L) (c : UInt8) (hc : 0 ≤ idxB letters c ∧ idxB letters c < g.labels) : PC Tryd.prog 59 [.agg 3 (grF g), ints L, .int .u8 c.toNat] (ints (stepL g (idxB letters c) L)) := by
  refine PC_introS T_ok Tryd.func59 rfl (by simp [Tryd.ntmps59]) fun G hG hR => ?_
  simp only [Tryd.ntmps59, Tryd.results59] at hG ⊢
  simp only [argEnv, Nat.zero_add, Nat.reduceAdd]
  refine awpS_seq ?_
  refine awpS_reg T_ok fun K hK => ?_
  simp [hG, List.getD_cons_zero, List.getD_cons_succ, -List.getD_eq_getElem?_getD]
  refine ⟨Cond.mk (by exact trivial), hK _ ?_⟩
  clear K hK
  refine awpS_seq ?_
  refine awpS_draw hR mixed [] ⟨[], [], []⟩ fun mu0 => ?_
  refine awpA_tk T_ok [0, 1, 2] [] (fuel := 7) [2, 1, 0] (by decide +kernel) (by decide +kernel) rfl rfl fun K hK => ?_
  simp [hG, List.getD_cons_zero, List.getD_cons_succ, -List.getD_eq_getElem?_getD]
  refine hK _ ?_
  clear K hK
  refine awpA_only (fuel := 6) (i := 3) (by decide +kernel) ?_
  refine awpO_call cal38 rfl rfl rfl (fun _ => rfl) (fun hg => idx_c letters c) (fun hg => ?_) (fun hg => ?_) fun K hK => ?_
  · simp [hG, List.getD_cons_zero, List.getD_cons_succ, -List.getD_eq_getElem?_getD]
  · simp [hG, List.getD_cons_zero, List.getD_cons_succ, -List.getD_eq_getElem?_getD]; rfl
  simp [hG, List.getD_cons_zero, List.getD_cons_succ, -List.getD_eq_getElem?_getD]
  refine hK _ ?_
  clear K hK
  refine awpA_only (fuel := 5) (i := 4) (by decide +kernel) ?_
  refine awpO_call cal73 rfl rfl rfl (fun _ => rfl) (fun hg => step_c g L (idxB letters c) hv hL.1 hL.2 hc (hL.len hv)) (fun hg => ?_) (fun hg => ?_) fun K hK => ?_
  · simp [hG, List.getD_cons_zero, List.getD_cons_succ, -List.getD_eq_getElem?_getD]
  · simp [hG, List.getD_cons_zero, List.getD_cons_succ, -List.getD_eq_getElem?_getD]
  simp [hG, List.getD_cons_zero, List.getD_cons_succ, -List.getD_eq_getElem?_getD]
  refine hK _ ?_
  clear K hK
  refine awpA_tk T_ok [5, 6, 7, 8, 9] [] (fuel := 0) [9, 8, 7, 6, 5, 4, 3, 2, 1, 0] (by decide +kernel) (by decide +kernel) rfl rfl fun K hK => ?_
  simp [hG, List.getD_cons_zero, List.getD_cons_succ, -List.getD_eq_getElem?_getD]
  refine hK _ ?_
  clear K hK
  refine awpA_done (by decide +kernel) ?_
  refine awpS_seq ?_
  refine awpS_reg T_ok fun K hK => ?_
  simp [hG, List.getD_cons_zero, List.getD_cons_succ, -List.getD_eq_getElem?_getD]
  refine hK _ ?_
  clear K hK
  refine awpS_ret ?_
  refine RetOK_of ?_
  simp [hG, List.getD_cons_zero, List.getD_cons_succ, -List.getD_eq_getElem?_getD]

set_option maxRecDepth 100000 in
theorem ends_c (g : Gr) (L : List Int) (hv : gcheck g = 0) (hL : SetOK g L) (w : List UInt8) (hlw : w.length ≤ 1000000) (hw : ∀ i, i < w.length → 0 ≤ idxB letters (w.getD i 0) ∧ idxB letters (w.getD i 0) < g.labels) : PC Tryd.prog 40 [.agg 3 (grF g), ints L, .str w] (ints (setA g L w)) := by
  refine PC_introS T_ok Tryd.func40 rfl (by simp [Tryd.ntmps40]) fun G hG hR => ?_
  simp only [Tryd.ntmps40, Tryd.results40] at hG ⊢
  simp only [argEnv, Nat.zero_add, Nat.reduceAdd]
  refine awpS_seq ?_
  refine awpS_reg T_ok fun K hK => ?_
  simp [hG, List.getD_cons_zero, List.getD_cons_succ, -List.getD_eq_getElem?_getD]
  refine ⟨Cond.mk (by exact trivial), hK _ ?_⟩
  clear K hK
  refine awpS_seq ?_
  refine awpS_seq ?_
  refine awpS_reg T_ok fun K hK => ?_
  simp [hG, List.getD_cons_zero, List.getD_cons_succ, -List.getD_eq_getElem?_getD]
  refine hK _ ?_
  clear K hK
  refine awpS_block ?_
  refine awpS_loop (α := Nat) (fun i => ⟨[(1, ints (setA g L (w.take i))), (2, .str w), (3, .ptr (0, 0) 0 0), (7, .int .i64 i)], [(0, .one (.arr 1 3 (fun _ => grF g)))], 1⟩) (fun i => i ≤ w.length) (fun i => w.length - i) (0) (Nat.zero_le _) ?_ ?_
  ·
    refine wk_of (id) (fun _ => false) (fun _ => false) ?_ ?_ rfl (Nat.zero_le _) (fun k hk => absurd hk (Nat.not_lt_zero _))
    · simp [hG, List.getD_cons_zero, List.getD_cons_succ, -List.getD_eq_getElem?_getD]; exact Clo.le _ Clo_ints
    · simp [hG, List.getD_cons_zero, List.getD_cons_succ, -List.getD_eq_getElem?_getD]
  ·
    rintro i hi
    refine awpS_seq ?_
    refine awpS_seq ?_
    refine awpS_reg T_ok fun K hK => ?_
    simp [hG, List.getD_cons_zero, List.getD_cons_succ, -List.getD_eq_getElem?_getD]
    refine ⟨Cond.mk (by simp [-List.getD_eq_getElem?_getD]), hK _ ?_⟩
    clear K hK
    refine awpS_cond rfl (fun hb16 => ?_) (fun hb16 => ?_)
    ·
      try simp [-List.getD_eq_getElem?_getD] at hb16
      have hE := setA_take (g := g) (L := L) (show i < w.length by omega)
      refine awpS_skip ?_
      refine awpS_seq ?_
      refine awpS_block ?_
      refine awpS_draw hR mixed [] ⟨[], [], []⟩ fun mu0 => ?_
      refine awpA_tk T_ok [0, 1, 2, 3, 4] [] (fuel := 2) [4, 3, 2, 1, 0] (by decide +kernel) (by decide +kernel) rfl rfl fun K hK => ?_
      simp [hG, List.getD_cons_zero, List.getD_cons_succ, -List.getD_eq_getElem?_getD]
      refine ⟨Cond.mk (by omega), hK _ ?_⟩
      clear K hK
      refine awpA_only (fuel := 1) (i := 5) (by decide +kernel) ?_
      refine awpO_call cal59 rfl rfl rfl (fun _ => rfl) (fun hg => langStep_c g (setA g L (w.take i)) hv (setA_ok hv hL) (w.getD i 0) (hw i (by omega))) (fun hg => ?_) (fun hg => ?_) fun K hK => ?_
      · simp [hG, List.getD_cons_zero, List.getD_cons_succ, -List.getD_eq_getElem?_getD]
      · simp [hG, List.getD_cons_zero, List.getD_cons_succ, -List.getD_eq_getElem?_getD]
      simp [hG, List.getD_cons_zero, List.getD_cons_succ, -List.getD_eq_getElem?_getD]
      refine hK _ ?_
      clear K hK
      refine awpA_tk T_ok [6] [] (fuel := 0) [6, 5, 4, 3, 2, 1, 0] (by decide +kernel) (by decide +kernel) rfl rfl fun K hK => ?_
      simp [hG, List.getD_cons_zero, List.getD_cons_succ, -List.getD_eq_getElem?_getD]
      refine hK _ ?_
      clear K hK
      refine awpA_done (by decide +kernel) ?_
      refine awpS_nil ?_
      refine blockQ_norm (thenQ_norm ?_)
      refine awpS_reg T_ok fun K hK => ?_
      simp [hG, List.getD_cons_zero, List.getD_cons_succ, -List.getD_eq_getElem?_getD]
      refine ⟨Cond.mk (by omega), hK _ ?_⟩
      clear K hK
      refine awpS_nil ?_
      refine round_end (i + 1) (by omega) (by omega) ?_
      refine wk_of (id) (fun _ => false) (fun _ => false) ?_ ?_ rfl (Nat.zero_le _) (fun k hk => absurd hk (Nat.not_lt_zero _))
      · rw [hE]; simp [hG, List.getD_cons_zero, List.getD_cons_succ, -List.getD_eq_getElem?_getD]
      · simp [hG, List.getD_cons_zero, List.getD_cons_succ, -List.getD_eq_getElem?_getD]
    ·
      try simp [-List.getD_eq_getElem?_getD] at hb16
      refine awpS_exit ?_
      refine thenQ_exit (thenQ_exit ?_)
      refine blockQ_exit (thenQ_norm ?_)
      refine awpS_seq ?_
      refine awpS_reg T_ok fun K hK => ?_
      simp [hG, List.getD_cons_zero, List.getD_cons_succ, -List.getD_eq_getElem?_getD]
      refine hK _ ?_
      clear K hK
      refine awpS_ret ?_
      refine RetOK_of ?_
      simp [hG, List.getD_cons_zero, List.getD_cons_succ, -List.getD_eq_getElem?_getD]
      rw [ends_eq hi hb16]; exact Clo.le _ Clo_ints

set_option maxRecDepth 100000 in
theorem accepts_c (g : Gr) (w : List UInt8) : PC Tryd.prog 17 [.agg 3 (grF g), .str w] (.tup 2 (fun j => [.bool (accB g w), .int .i64 (accN g w)].getD j .any)) := by
  refine PC_introS T_ok Tryd.func17 rfl (by simp [Tryd.ntmps17]) fun G hG hR => ?_
  simp only [Tryd.ntmps17, Tryd.results17] at hG ⊢
  simp only [argEnv, Nat.zero_add, Nat.reduceAdd]
  refine awpS_seq ?_
  refine awpS_reg T_ok fun K hK => ?_
  simp [hG, List.getD_cons_zero, List.getD_cons_succ, -List.getD_eq_getElem?_getD]
  refine ⟨Cond.mk (by exact trivial), hK _ ?_⟩
  clear K hK
  refine awpS_seq ?_
  refine awpS_seq ?_
  refine awpS_regL ?_
  refine awpL_reg T_ok 2 fun K hK => ?_
  simp [hG, List.getD_cons_zero, List.getD_cons_succ, -List.getD_eq_getElem?_getD]
  refine hK _ ?_
  clear K hK
  refine awpL_call cal39 rfl rfl (fun _ => rfl) (fun hg => spells_c g w) (fun hg => ?_) (fun hg => ?_) fun K hK => ?_
  · simp [hG, List.getD_cons_zero, List.getD_cons_succ, -List.getD_eq_getElem?_getD]
  · simp [hG, List.getD_cons_zero, List.getD_cons_succ, -List.getD_eq_getElem?_getD]
  simp [hG, List.getD_cons_zero, List.getD_cons_succ, -List.getD_eq_getElem?_getD]
  refine hK _ ?_
  clear K hK
  refine awpL_reg T_ok 1 fun K hK => ?_
  simp [hG, List.getD_cons_zero, List.getD_cons_succ, -List.getD_eq_getElem?_getD]
  refine hK _ ?_
  clear K hK
  refine awpL_nil ?_
  refine awpS_seq ?_
  refine awpS_reg T_ok fun K hK => ?_
  simp [hG, List.getD_cons_zero, List.getD_cons_succ, -List.getD_eq_getElem?_getD]
  refine hK _ ?_
  clear K hK
  refine awpS_cond rfl (fun hb11 => ?_) (fun hb11 => ?_)
  ·
    try simp [-List.getD_eq_getElem?_getD] at hb11
    refine awpS_seq ?_
    refine awpS_reg T_ok fun K hK => ?_
    simp [hG, List.getD_cons_zero, List.getD_cons_succ, -List.getD_eq_getElem?_getD]
    refine hK _ ?_
    clear K hK
    refine awpS_ret ?_
    refine RetOK_of ?_
    simp [hG, List.getD_cons_zero, List.getD_cons_succ, -List.getD_eq_getElem?_getD]
    have h2 : accB g w = false := (by unfold accB; rw [decide_eq_false (by simpa using hb11)]; rfl); exact h2
  ·
    try simp [-List.getD_eq_getElem?_getD] at hb11
    have hN : accN g w = 0 := (by simpa using hb11)
    refine awpS_skip ?_
    refine awpS_seq ?_
    refine awpS_draw hR mixed [] ⟨[], [], []⟩ fun mu0 => ?_
    refine awpA_tk T_ok [0, 1, 3] [] (fuel := 6) [3, 1, 0] (by decide +kernel) (by decide +kernel) rfl rfl fun K hK => ?_
    simp [hG, List.getD_cons_zero, List.getD_cons_succ, -List.getD_eq_getElem?_getD]
    refine hK _ ?_
    clear K hK
    refine awpA_only (fuel := 5) (i := 2) (by decide +kernel) ?_
    refine awpO_call cal41 rfl rfl rfl (fun _ => rfl) (fun hg => states_c g (acc_ok hN).1) (fun hg => ?_) (fun hg => ?_) fun K hK => ?_
    · simp [hG, List.getD_cons_zero, List.getD_cons_succ, -List.getD_eq_getElem?_getD]
    · simp [hG, List.getD_cons_zero, List.getD_cons_succ, -List.getD_eq_getElem?_getD]
    simp [hG, List.getD_cons_zero, List.getD_cons_succ, -List.getD_eq_getElem?_getD]
    refine hK _ ?_
    clear K hK
    refine awpA_only (fuel := 4) (i := 4) (by decide +kernel) ?_
    refine awpO_call cal40 rfl rfl rfl (fun _ => rfl) (fun hg => ends_c g (iotaL g.states.toNat) (acc_ok hN).1 SetOK.all w (acc_len hN) (fun i hi => acc_dig hN hi)) (fun hg => ?_) (fun hg => ?_) fun K hK => ?_
    · simp [hG, List.getD_cons_zero, List.getD_cons_succ, -List.getD_eq_getElem?_getD]
    · simp [hG, List.getD_cons_zero, List.getD_cons_succ, -List.getD_eq_getElem?_getD]
    simp [hG, List.getD_cons_zero, List.getD_cons_succ, -List.getD_eq_getElem?_getD]
    refine hK _ ?_
    clear K hK
    refine awpA_tk T_ok [5, 6, 7, 8] [] (fuel := 0) [8, 7, 6, 5, 4, 2, 3, 1, 0] (by decide +kernel) (by decide +kernel) rfl rfl fun K hK => ?_
    simp [hG, List.getD_cons_zero, List.getD_cons_succ, -List.getD_eq_getElem?_getD]
    refine ⟨Cond.mk (by exact trivial), hK _ ?_⟩
    clear K hK
    refine awpA_done (by decide +kernel) ?_
    refine awpS_ret ?_
    refine RetOK_of ?_
    simp [hG, List.getD_cons_zero, List.getD_cons_succ, -List.getD_eq_getElem?_getD]
    have h2 : accB g w = decide (0 < (setA g (iotaL g.states.toNat) w).length) := (by unfold accB; rw [hN]; rfl); rw [h2, hN]; simp

end Go.Proofs.YtfoeigajlkonpaaDoor
