/-
 Walks: the reference's checks and its Partition.
-/
import Derived.Test.YtmjkbidnghcfnaaRL
import Derived.Test.YtmjkbidnghcfnaaWF
import Derived.Test.YtmjkbidnghcfnaaPI
namespace Go.Proofs.Ytmjkbidnghcfnaa
set_option linter.unusedSimpArgs false
set_option linter.unusedVariables false
open Go Go.Lift Go.Proofs

/-- a state ahead of s is in the class c of s. -/
def Seen (cl : List Int) (s : Nat) (c : Int) : Prop := c = cl.getD s 0 ∧ ∃ t, t < s ∧ cl.getD t 0 = cl.getD s 0
theorem ne_step {cl : List Int} {t s : Nat} (h : ∀ j, j < t → cl.getD j 0 ≠ cl.getD s 0) (ht : ¬ cl.getD s 0 = cl.getD t 0) : ∀ j, j < t + 1 → cl.getD j 0 ≠ cl.getD s 0 := fun j hj => by
 rcases Nat.lt_succ_iff_lt_or_eq.1 hj with h1 | h1
 · exact h j h1
 · rw [h1]; exact fun e => ht e.symm
set_option maxRecDepth 100000 in
theorem digit_c (c : UInt8) : PC Try.prog 74 [.int .u8 c.toNat] (.int .i64 (idxB letters c)) := by
 refine PC_introS T_ok Try.func74 rfl (by simp [Try.ntmps74]) fun G hG hR => ?_
 simp only [Try.ntmps74, Try.results74] at hG ⊢
 simp only [argEnv, Nat.zero_add, Nat.reduceAdd]
 refine awpS_seq ?_
 refine awpS_reg T_ok fun K hK => ?_
 simp [hG, List.getD_cons_zero, List.getD_cons_succ, -List.getD_eq_getElem?_getD]
 refine hK _ ?_
 clear K hK
 refine awpS_seq ?_
 refine awpS_seq ?_
 refine awpS_reg T_ok fun K hK => ?_
 simp [hG, List.getD_cons_zero, List.getD_cons_succ, -List.getD_eq_getElem?_getD]
 refine hK _ ?_
 clear K hK
 refine awpS_block ?_
 refine awpS_loop (α := Nat) (fun k => ⟨[(0, .int .u8 c.toNat), (3, .int .i64 k)], [], 0⟩) (fun k => k ≤ 16 ∧ ∀ j, j < k → letters.getD j 0 ≠ c) (fun k => 16 - k) (0) (⟨Nat.zero_le _, fun j hj => absurd hj (Nat.not_lt_zero _)⟩) ?_ ?_
 ·
  refine wk_of (id) (fun _ => false) (fun _ => false) ?_ ?_ rfl (Nat.zero_le _) (fun k hk => absurd hk (Nat.not_lt_zero _))
  · simp [hG, List.getD_cons_zero, List.getD_cons_succ, -List.getD_eq_getElem?_getD]
  · simp [hG, List.getD_cons_zero, List.getD_cons_succ, -List.getD_eq_getElem?_getD]
 ·
  rintro k ⟨hk, hn⟩
  refine awpS_seq ?_
  refine awpS_seq ?_
  refine awpS_reg T_ok fun K hK => ?_
  simp [hG, List.getD_cons_zero, List.getD_cons_succ, -List.getD_eq_getElem?_getD]
  refine hK _ ?_
  clear K hK
  refine awpS_cond rfl (fun hb5 => ?_) (fun hb5 => ?_)
  ·
   try simp [-List.getD_eq_getElem?_getD] at hb5
   refine awpS_skip ?_
   refine awpS_seq ?_
   refine awpS_block ?_
   refine awpS_seq ?_
   refine awpS_reg T_ok fun K hK => ?_
   simp [hG, List.getD_cons_zero, List.getD_cons_succ, -List.getD_eq_getElem?_getD]
   refine ⟨Cond.mk (by omega), hK _ ?_⟩
   clear K hK
   refine awpS_cond rfl (fun hb11 => ?_) (fun hb11 => ?_)
   ·
    try simp [-List.getD_eq_getElem?_getD] at hb11
    refine awpS_seq ?_
    refine awpS_reg T_ok fun K hK => ?_
    simp [hG, List.getD_cons_zero, List.getD_cons_succ, -List.getD_eq_getElem?_getD]
    refine hK _ ?_
    clear K hK
    refine awpS_ret ?_
    refine blockQ_ret (thenQ_ret ?_)
    refine thenQ_ret (thenQ_ret ?_)
    refine blockQ_ret (thenQ_ret ?_)
    refine RetOK_of ?_
    simp [hG, List.getD_cons_zero, List.getD_cons_succ, -List.getD_eq_getElem?_getD]
    rw [idxB_some letters c k (by show k < 16; omega) hn (UInt8.toNat_inj.1 (Int.ofNat_inj.1 hb11))]
   ·
    try simp [-List.getD_eq_getElem?_getD] at hb11
    refine awpS_skip ?_
    refine awpS_nil ?_
    refine blockQ_norm (thenQ_norm ?_)
    refine awpS_reg T_ok fun K hK => ?_
    simp [hG, List.getD_cons_zero, List.getD_cons_succ, -List.getD_eq_getElem?_getD]
    refine ⟨Cond.mk (by omega), hK _ ?_⟩
    clear K hK
    refine awpS_nil ?_
    refine round_end (k + 1) (⟨by omega, digit_step hn (fun h => hb11 (by rw [Int.ofNat_inj]; exact h))⟩) (by omega) ?_
    refine wk_of (id) (fun _ => false) (fun _ => false) ?_ ?_ rfl (Nat.zero_le _) (fun k hk => absurd hk (Nat.not_lt_zero _))
    · simp [hG, List.getD_cons_zero, List.getD_cons_succ, -List.getD_eq_getElem?_getD]
    · simp [hG, List.getD_cons_zero, List.getD_cons_succ, -List.getD_eq_getElem?_getD]
  ·
   try simp [-List.getD_eq_getElem?_getD] at hb5
   refine awpS_exit ?_
   refine thenQ_exit (thenQ_exit ?_)
   refine blockQ_exit (thenQ_norm ?_)
   refine awpS_seq ?_
   refine awpS_reg T_ok fun K hK => ?_
   simp [hG, List.getD_cons_zero, List.getD_cons_succ, -List.getD_eq_getElem?_getD]
   refine hK _ ?_
   clear K hK
   refine awpS_ret ?_
   refine RetOK_of ?_
   simp [hG, List.getD_cons_zero, List.getD_cons_succ, -List.getD_eq_getElem?_getD]
   rw [idxB_none letters c (fun j hj => hn j (by have : j < 16 := hj; omega))]

set_option maxRecDepth 100000 in
theorem wcheckR_c (q : Int) (w : List UInt8) : PC Try.prog 63 [.int .i64 q, .str w] (.int .i64 (wordCheck q w)) := by
 refine PC_introS T_ok Try.func63 rfl (by simp [Try.ntmps63]) fun G hG hR => ?_
 simp only [Try.ntmps63, Try.results63] at hG ⊢
 simp only [argEnv, Nat.zero_add, Nat.reduceAdd]
 refine awpS_seq ?_
 refine awpS_reg T_ok fun K hK => ?_
 simp [hG, List.getD_cons_zero, List.getD_cons_succ, -List.getD_eq_getElem?_getD]
 refine hK _ ?_
 clear K hK
 refine awpS_seq ?_
 refine awpS_seq ?_
 refine awpS_reg T_ok fun K hK => ?_
 simp [hG, List.getD_cons_zero, List.getD_cons_succ, -List.getD_eq_getElem?_getD]
 refine ⟨Cond.mk (by simp [-List.getD_eq_getElem?_getD]), hK _ ?_⟩
 clear K hK
 refine awpS_cond rfl (fun hb12 => ?_) (fun hb12 => ?_)
 ·
  try simp [-List.getD_eq_getElem?_getD] at hb12
  refine awpS_seq ?_
  refine awpS_reg T_ok fun K hK => ?_
  simp [hG, List.getD_cons_zero, List.getD_cons_succ, -List.getD_eq_getElem?_getD]
  refine hK _ ?_
  clear K hK
  refine awpS_ret ?_
  refine RetOK_of ?_
  simp [hG, List.getD_cons_zero, List.getD_cons_succ, -List.getD_eq_getElem?_getD]
  exact (wordCheck_bad (by omega)).symm
 ·
  try simp [-List.getD_eq_getElem?_getD] at hb12
  refine awpS_skip ?_
  refine awpS_seq ?_
  refine awpS_seq ?_
  refine awpS_reg T_ok fun K hK => ?_
  simp [hG, List.getD_cons_zero, List.getD_cons_succ, -List.getD_eq_getElem?_getD]
  refine hK _ ?_
  clear K hK
  refine awpS_cond rfl (fun hb15 => ?_) (fun hb15 => ?_)
  ·
   try simp [-List.getD_eq_getElem?_getD] at hb15
   refine awpS_seq ?_
   refine awpS_reg T_ok fun K hK => ?_
   simp [hG, List.getD_cons_zero, List.getD_cons_succ, -List.getD_eq_getElem?_getD]
   refine hK _ ?_
   clear K hK
   refine awpS_ret ?_
   refine RetOK_of ?_
   simp [hG, List.getD_cons_zero, List.getD_cons_succ, -List.getD_eq_getElem?_getD]
   exact (wordCheck_long (by omega) (by omega)).symm
  ·
   try simp [-List.getD_eq_getElem?_getD] at hb15
   refine awpS_skip ?_
   refine awpS_seq ?_
   refine awpS_seq ?_
   refine awpS_reg T_ok fun K hK => ?_
   simp [hG, List.getD_cons_zero, List.getD_cons_succ, -List.getD_eq_getElem?_getD]
   refine hK _ ?_
   clear K hK
   refine awpS_block ?_
   refine awpS_loop (α := Nat) (fun k => ⟨[(0, .int .i64 q), (1, .str w), (5, .int .i64 k)], [], 0⟩) (fun k => (1 ≤ q ∧ q ≤ 16) ∧ w.length ≤ 65536 ∧ k ≤ w.length ∧ ∀ j, j < k → 0 ≤ idxB (letters.take q.toNat) (w.getD j 0)) (fun k => w.length - k) (0) (⟨by omega, by omega, Nat.zero_le _, fun j hj => absurd hj (Nat.not_lt_zero _)⟩) ?_ ?_
   ·
    refine wk_of (id) (fun _ => false) (fun _ => false) ?_ ?_ rfl (Nat.zero_le _) (fun k hk => absurd hk (Nat.not_lt_zero _))
    · simp [hG, List.getD_cons_zero, List.getD_cons_succ, -List.getD_eq_getElem?_getD]
    · simp [hG, List.getD_cons_zero, List.getD_cons_succ, -List.getD_eq_getElem?_getD]
   ·
    rintro k ⟨hq, hl, hk, hn⟩
    refine awpS_seq ?_
    refine awpS_seq ?_
    refine awpS_reg T_ok fun K hK => ?_
    simp [hG, List.getD_cons_zero, List.getD_cons_succ, -List.getD_eq_getElem?_getD]
    refine hK _ ?_
    clear K hK
    refine awpS_cond rfl (fun hb19 => ?_) (fun hb19 => ?_)
    ·
     try simp [-List.getD_eq_getElem?_getD] at hb19
     refine awpS_skip ?_
     refine awpS_seq ?_
     refine awpS_block ?_
     refine awpS_seq ?_
     refine awpS_regL ?_
     refine awpL_reg T_ok 3 fun K hK => ?_
     simp [hG, List.getD_cons_zero, List.getD_cons_succ, -List.getD_eq_getElem?_getD]
     refine ⟨Cond.mk (by omega), hK _ ?_⟩
     clear K hK
     refine awpL_call cal74 rfl rfl (fun _ => rfl) (fun hg => digit_c (w.getD k 0)) (fun hg => ?_) (fun hg => ?_) fun K hK => ?_
     · simp [hG, List.getD_cons_zero, List.getD_cons_succ, -List.getD_eq_getElem?_getD]
     · simp [hG, List.getD_cons_zero, List.getD_cons_succ, -List.getD_eq_getElem?_getD]
     simp [hG, List.getD_cons_zero, List.getD_cons_succ, -List.getD_eq_getElem?_getD]
     refine hK _ ?_
     clear K hK
     refine awpL_reg T_ok 1 fun K hK => ?_
     simp [hG, List.getD_cons_zero, List.getD_cons_succ, -List.getD_eq_getElem?_getD]
     refine hK _ ?_
     clear K hK
     refine awpL_nil ?_
     refine awpS_seq ?_
     refine awpS_reg T_ok fun K hK => ?_
     simp [hG, List.getD_cons_zero, List.getD_cons_succ, -List.getD_eq_getElem?_getD]
     refine ⟨Cond.mk (by simp [-List.getD_eq_getElem?_getD]), hK _ ?_⟩
     clear K hK
     refine awpS_cond rfl (fun hb32 => ?_) (fun hb32 => ?_)
     ·
      try simp [-List.getD_eq_getElem?_getD] at hb32
      refine awpS_seq ?_
      refine awpS_reg T_ok fun K hK => ?_
      simp [hG, List.getD_cons_zero, List.getD_cons_succ, -List.getD_eq_getElem?_getD]
      refine hK _ ?_
      clear K hK
      refine awpS_ret ?_
      refine blockQ_ret (thenQ_ret ?_)
      refine thenQ_ret (thenQ_ret ?_)
      refine blockQ_ret (thenQ_ret ?_)
      refine RetOK_of ?_
      simp [hG, List.getD_cons_zero, List.getD_cons_succ, -List.getD_eq_getElem?_getD]
      exact (wordCheck_not hq hl (by omega) (word_bad hq (by omega))).symm
     ·
      try simp [-List.getD_eq_getElem?_getD] at hb32
      refine awpS_skip ?_
      refine awpS_nil ?_
      refine blockQ_norm (thenQ_norm ?_)
      refine awpS_reg T_ok fun K hK => ?_
      simp [hG, List.getD_cons_zero, List.getD_cons_succ, -List.getD_eq_getElem?_getD]
      refine ⟨Cond.mk (by omega), hK _ ?_⟩
      clear K hK
      refine awpS_nil ?_
      refine round_end (k + 1) (⟨hq, hl, by omega, word_step hn (by omega) (by omega)⟩) (by omega) ?_
      refine wk_of (id) (fun _ => false) (fun _ => false) ?_ ?_ rfl (Nat.zero_le _) (fun k hk => absurd hk (Nat.not_lt_zero _))
      · simp [hG, List.getD_cons_zero, List.getD_cons_succ, -List.getD_eq_getElem?_getD]
      · simp [hG, List.getD_cons_zero, List.getD_cons_succ, -List.getD_eq_getElem?_getD]
    ·
     try simp [-List.getD_eq_getElem?_getD] at hb19
     refine awpS_exit ?_
     refine thenQ_exit (thenQ_exit ?_)
     refine blockQ_exit (thenQ_norm ?_)
     refine awpS_seq ?_
     refine awpS_reg T_ok fun K hK => ?_
     simp [hG, List.getD_cons_zero, List.getD_cons_succ, -List.getD_eq_getElem?_getD]
     refine hK _ ?_
     clear K hK
     refine awpS_ret ?_
     refine RetOK_of ?_
     simp [hG, List.getD_cons_zero, List.getD_cons_succ, -List.getD_eq_getElem?_getD]
     exact (wordCheck_ok hq hl (fun j hj => hn j (by omega))).symm

set_option maxRecDepth 100000 in
theorem checkR_c (e : Enc) : PC Try.prog 41 [.agg 4 (encF e)] (.int .i64 (checkE e)) := by
 refine PC_introS T_ok Try.func41 rfl (by simp [Try.ntmps41]) fun G hG hR => ?_
 simp only [Try.ntmps41, Try.results41] at hG ⊢
 simp only [argEnv, Nat.zero_add, Nat.reduceAdd]
 refine awpS_seq ?_
 refine awpS_reg T_ok fun K hK => ?_
 simp [hG, List.getD_cons_zero, List.getD_cons_succ, -List.getD_eq_getElem?_getD]
 refine ⟨Cond.mk (by simp [-List.getD_eq_getElem?_getD]), hK _ ?_⟩
 clear K hK
 refine awpS_seq ?_
 refine awpS_seq ?_
 refine awpS_reg T_ok fun K hK => ?_
 simp [hG, List.getD_cons_zero, List.getD_cons_succ, -List.getD_eq_getElem?_getD]
 refine ⟨Cond.mk (by simp [-List.getD_eq_getElem?_getD]), hK _ ?_⟩
 clear K hK
 refine awpS_cond rfl (fun hb13 => ?_) (fun hb13 => ?_)
 ·
  try simp [-List.getD_eq_getElem?_getD] at hb13
  refine awpS_seq ?_
  refine awpS_reg T_ok fun K hK => ?_
  simp [hG, List.getD_cons_zero, List.getD_cons_succ, -List.getD_eq_getElem?_getD]
  refine hK _ ?_
  clear K hK
  refine awpS_ret ?_
  refine RetOK_of ?_
  simp [hG, List.getD_cons_zero, List.getD_cons_succ, -List.getD_eq_getElem?_getD]
  exact (checkE_letters (by omega)).symm
 ·
  try simp [-List.getD_eq_getElem?_getD] at hb13
  refine awpS_skip ?_
  refine awpS_seq ?_
  refine awpS_seq ?_
  refine awpS_reg T_ok fun K hK => ?_
  simp [hG, List.getD_cons_zero, List.getD_cons_succ, -List.getD_eq_getElem?_getD]
  refine ⟨Cond.mk (by simp [-List.getD_eq_getElem?_getD]), hK _ ?_⟩
  clear K hK
  refine awpS_cond rfl (fun hb31 => ?_) (fun hb31 => ?_)
  ·
   try simp [-List.getD_eq_getElem?_getD] at hb31
   refine awpS_seq ?_
   refine awpS_reg T_ok fun K hK => ?_
   simp [hG, List.getD_cons_zero, List.getD_cons_succ, -List.getD_eq_getElem?_getD]
   refine hK _ ?_
   clear K hK
   refine awpS_ret ?_
   refine RetOK_of ?_
   simp [hG, List.getD_cons_zero, List.getD_cons_succ, -List.getD_eq_getElem?_getD]
   exact (checkE_range (by omega) (by omega)).symm
  ·
   try simp [-List.getD_eq_getElem?_getD] at hb31
   refine awpS_skip ?_
   refine awpS_seq ?_
   refine awpS_seq ?_
   refine awpS_reg T_ok fun K hK => ?_
   simp [hG, List.getD_cons_zero, List.getD_cons_succ, -List.getD_eq_getElem?_getD]
   refine hK _ ?_
   clear K hK
   refine awpS_cond rfl (fun hb35 => ?_) (fun hb35 => ?_)
   ·
    try simp [-List.getD_eq_getElem?_getD] at hb35
    refine awpS_seq ?_
    refine awpS_reg T_ok fun K hK => ?_
    simp [hG, List.getD_cons_zero, List.getD_cons_succ, -List.getD_eq_getElem?_getD]
    refine hK _ ?_
    clear K hK
    refine awpS_ret ?_
    refine RetOK_of ?_
    simp [hG, List.getD_cons_zero, List.getD_cons_succ, -List.getD_eq_getElem?_getD]
    exact (checkE_empty ⟨by omega, by omega, by omega⟩ (by rw [hb35]; rfl)).symm
   ·
    try simp [-List.getD_eq_getElem?_getD] at hb35
    refine awpS_skip ?_
    refine awpS_seq ?_
    refine awpS_seq ?_
    refine awpS_reg T_ok fun K hK => ?_
    simp [hG, List.getD_cons_zero, List.getD_cons_succ, -List.getD_eq_getElem?_getD]
    refine hK _ ?_
    clear K hK
    refine awpS_cond rfl (fun hb39 => ?_) (fun hb39 => ?_)
    ·
     try simp [-List.getD_eq_getElem?_getD] at hb39
     refine awpS_seq ?_
     refine awpS_reg T_ok fun K hK => ?_
     simp [hG, List.getD_cons_zero, List.getD_cons_succ, -List.getD_eq_getElem?_getD]
     refine hK _ ?_
     clear K hK
     refine awpS_ret ?_
     refine RetOK_of ?_
     simp [hG, List.getD_cons_zero, List.getD_cons_succ, -List.getD_eq_getElem?_getD]
     exact (checkE_limit ⟨by omega, by omega, by omega⟩ (by omega)).symm
    ·
     try simp [-List.getD_eq_getElem?_getD] at hb39
     refine awpS_skip ?_
     refine awpS_seq ?_
     refine awpS_seq ?_
     refine awpS_reg T_ok fun K hK => ?_
     simp [hG, List.getD_cons_zero, List.getD_cons_succ, -List.getD_eq_getElem?_getD]
     refine hK _ ?_
     clear K hK
     refine awpS_block ?_
     refine awpS_loop (α := Nat) (fun k => ⟨[(1, .ptr (0, 0) 0 0), (3, .int .i64 k)], [(0, .one (.arr 1 4 (fun _ => encF e)))], 1⟩) (fun k => Dims e ∧ 0 < e.rows.length ∧ e.rows.length ≤ 64 ∧ k ≤ e.rows.length ∧ ∀ j, j < k → rowCheck e (e.rows.getD j []) = 0) (fun k => e.rows.length - k) (0) (⟨⟨by omega, by omega, by omega⟩, List.length_pos_iff.2 hb35, by omega, Nat.zero_le _, fun j hj => absurd hj (Nat.not_lt_zero _)⟩) ?_ ?_
     ·
      refine wk_of (id) (fun _ => false) (fun _ => false) ?_ ?_ rfl (Nat.zero_le _) (fun k hk => absurd hk (Nat.not_lt_zero _))
      · simp [hG, List.getD_cons_zero, List.getD_cons_succ, -List.getD_eq_getElem?_getD]
      · simp [hG, List.getD_cons_zero, List.getD_cons_succ, -List.getD_eq_getElem?_getD]
     ·
      rintro k ⟨hd, hp, hl, hk, hn⟩
      refine awpS_seq ?_
      refine awpS_seq ?_
      refine awpS_reg T_ok fun K hK => ?_
      simp [hG, List.getD_cons_zero, List.getD_cons_succ, -List.getD_eq_getElem?_getD]
      refine hK _ ?_
      clear K hK
      refine awpS_cond rfl (fun hb44 => ?_) (fun hb44 => ?_)
      ·
       try simp [-List.getD_eq_getElem?_getD] at hb44
       refine awpS_skip ?_
       refine awpS_seq ?_
       refine awpS_block ?_
       refine awpS_seq ?_
       refine awpS_seq ?_
       refine awpS_draw hR mixed [] ⟨[], [], []⟩ fun mu0 => ?_
       refine awpA_tk T_ok [0, 1, 2, 3, 4, 5, 6, 7, 8] [] (fuel := 0) [8, 7, 6, 5, 4, 3, 2, 1, 0] (by decide +kernel) (by decide +kernel) rfl rfl fun K hK => ?_
       simp [hG, List.getD_cons_zero, List.getD_cons_succ, -List.getD_eq_getElem?_getD]
       first | refine hK _ ?_ | refine ⟨Cond.mk (by exact ⟨by omega, trivial⟩), hK _ ?_⟩
       clear K hK
       refine awpA_done (by decide +kernel) ?_
       refine awpS_cond rfl (fun hb55 => ?_) (fun hb55 => ?_)
       ·
        try simp [-List.getD_eq_getElem?_getD] at hb55
        refine awpS_seq ?_
        refine awpS_reg T_ok fun K hK => ?_
        simp [hG, List.getD_cons_zero, List.getD_cons_succ, -List.getD_eq_getElem?_getD]
        refine hK _ ?_
        clear K hK
        refine awpS_ret ?_
        refine blockQ_ret (thenQ_ret ?_)
        refine thenQ_ret (thenQ_ret ?_)
        refine blockQ_ret (thenQ_ret ?_)
        refine RetOK_of ?_
        simp [hG, List.getD_cons_zero, List.getD_cons_succ, -List.getD_eq_getElem?_getD]
        exact (checkE_row hd hp hl hb44 hn (rowCheck_len hb55) (by decide)).symm
       ·
        try simp [-List.getD_eq_getElem?_getD] at hb55
        refine awpS_skip ?_
        refine awpS_seq ?_
        refine awpS_reg T_ok fun K hK => ?_
        simp [hG, List.getD_cons_zero, List.getD_cons_succ, -List.getD_eq_getElem?_getD]
        refine hK _ ?_
        clear K hK
        refine awpS_block ?_
        refine awpS_loop (α := Nat) (fun i => ⟨[(1, .ptr (0, 0) 0 0), (3, .int .i64 k), (4, .int .i64 i)], [(0, .one (.arr 1 4 (fun _ => encF e)))], 1⟩) (fun i => i ≤ (e.rows.getD k []).length ∧ ∀ j, j < i → cellCheck e ((e.rows.getD k []).getD j dc) = 0) (fun i => (e.rows.getD k []).length - i) (0) (⟨Nat.zero_le _, fun j hj => absurd hj (Nat.not_lt_zero _)⟩) ?_ ?_
        ·
         refine wk_of (id) (fun _ => false) (fun _ => false) ?_ ?_ rfl (Nat.zero_le _) (fun k hk => absurd hk (Nat.not_lt_zero _))
         · simp [hG, List.getD_cons_zero, List.getD_cons_succ, -List.getD_eq_getElem?_getD]
         · simp [hG, List.getD_cons_zero, List.getD_cons_succ, -List.getD_eq_getElem?_getD]
        ·
         rintro i ⟨hi, hm⟩
         refine awpS_seq ?_
         refine awpS_seq ?_
         refine awpS_reg T_ok fun K hK => ?_
         simp [hG, List.getD_cons_zero, List.getD_cons_succ, -List.getD_eq_getElem?_getD]
         refine ⟨Cond.mk (by omega), hK _ ?_⟩
         clear K hK
         refine awpS_cond rfl (fun hb63 => ?_) (fun hb63 => ?_)
         ·
          try simp [-List.getD_eq_getElem?_getD] at hb63
          refine awpS_skip ?_
          refine awpS_seq ?_
          refine awpS_block ?_
          refine awpS_seq ?_
          refine awpS_reg T_ok fun K hK => ?_
          simp [hG, List.getD_cons_zero, List.getD_cons_succ, -List.getD_eq_getElem?_getD]
          refine ⟨Cond.mk (by simp [-List.getD_eq_getElem?_getD]; omega), hK _ ?_⟩
          clear K hK
          refine awpS_seq ?_
          refine awpS_seq ?_
          refine awpS_reg T_ok fun K hK => ?_
          simp [hG, List.getD_cons_zero, List.getD_cons_succ, -List.getD_eq_getElem?_getD]
          refine ⟨Cond.mk (by simp [-List.getD_eq_getElem?_getD]), hK _ ?_⟩
          clear K hK
          refine awpS_cond rfl (fun hb84 => ?_) (fun hb84 => ?_)
          ·
           try simp [-List.getD_eq_getElem?_getD] at hb84
           refine awpS_seq ?_
           refine awpS_reg T_ok fun K hK => ?_
           simp [hG, List.getD_cons_zero, List.getD_cons_succ, -List.getD_eq_getElem?_getD]
           refine hK _ ?_
           clear K hK
           refine awpS_ret ?_
           refine blockQ_ret (thenQ_ret ?_)
           refine thenQ_ret (thenQ_ret ?_)
           refine blockQ_ret (thenQ_ret ?_)
           refine blockQ_ret (thenQ_ret ?_)
           refine thenQ_ret (thenQ_ret ?_)
           refine blockQ_ret (thenQ_ret ?_)
           refine RetOK_of ?_
           simp [hG, List.getD_cons_zero, List.getD_cons_succ, -List.getD_eq_getElem?_getD]
           exact (checkE_row hd hp hl hb44 hn (rowCheck_cell hb55 hb63 hm (cellCheck_to hb84) (by decide)) (by decide)).symm
          ·
           try simp [-List.getD_eq_getElem?_getD] at hb84
           refine awpS_skip ?_
           refine awpS_seq ?_
           refine awpS_regL ?_
           refine awpL_reg T_ok 11 fun K hK => ?_
           simp [hG, List.getD_cons_zero, List.getD_cons_succ, -List.getD_eq_getElem?_getD]
           refine ⟨Cond.mk (by simp [-List.getD_eq_getElem?_getD]), hK _ ?_⟩
           clear K hK
           refine awpL_call cal63 rfl rfl (fun _ => rfl) (fun hg => wcheckR_c e.letters ((e.rows.getD k []).getD i dc).word) (fun hg => ?_) (fun hg => ?_) fun K hK => ?_
           · first | (simp [hG, List.getD_cons_zero, List.getD_cons_succ, -List.getD_eq_getElem?_getD]; done) | (simp [-List.getD_eq_getElem?_getD] at hg; done) | (simp [-List.getD_eq_getElem?_getD] at hg; simp [hG, List.getD_cons_zero, List.getD_cons_succ, -List.getD_eq_getElem?_getD]; first | omega | exact hg | (simp_all [-List.getD_eq_getElem?_getD]; done) | (simp_all [-List.getD_eq_getElem?_getD]; first | exact ⟨rfl, rfl⟩ | exact rfl))
           · first | (simp [hG, List.getD_cons_zero, List.getD_cons_succ, -List.getD_eq_getElem?_getD]; done) | (simp [-List.getD_eq_getElem?_getD] at hg; done) | (simp [-List.getD_eq_getElem?_getD] at hg; simp [hG, List.getD_cons_zero, List.getD_cons_succ, -List.getD_eq_getElem?_getD]; first | omega | exact hg | (simp_all [-List.getD_eq_getElem?_getD]; done) | (simp_all [-List.getD_eq_getElem?_getD]; first | exact ⟨rfl, rfl⟩ | exact rfl))
           simp [hG, List.getD_cons_zero, List.getD_cons_succ, -List.getD_eq_getElem?_getD]
           refine hK _ ?_
           clear K hK
           refine awpL_reg T_ok 2 fun K hK => ?_
           simp [hG, List.getD_cons_zero, List.getD_cons_succ, -List.getD_eq_getElem?_getD]
           refine ⟨Cond.mk (by simp [-List.getD_eq_getElem?_getD]), hK _ ?_⟩
           clear K hK
           refine awpL_nil ?_
           refine awpS_cond rfl (fun hb98 => ?_) (fun hb98 => ?_)
           ·
            try simp [-List.getD_eq_getElem?_getD] at hb98
            refine awpS_seq ?_
            refine awpS_reg T_ok fun K hK => ?_
            simp [hG, List.getD_cons_zero, List.getD_cons_succ, -List.getD_eq_getElem?_getD]
            refine hK _ ?_
            clear K hK
            refine awpS_ret ?_
            refine blockQ_ret (thenQ_ret ?_)
            refine thenQ_ret (thenQ_ret ?_)
            refine blockQ_ret (thenQ_ret ?_)
            refine blockQ_ret (thenQ_ret ?_)
            refine thenQ_ret (thenQ_ret ?_)
            refine blockQ_ret (thenQ_ret ?_)
            refine RetOK_of ?_
            simp [hG, List.getD_cons_zero, List.getD_cons_succ, -List.getD_eq_getElem?_getD]
            exact (checkE_row hd hp hl hb44 hn (rowCheck_cell hb55 hb63 hm (cellCheck_word hb84 hb98) (by decide)) (by decide)).symm
           ·
            try simp [-List.getD_eq_getElem?_getD] at hb98
            refine awpS_skip ?_
            refine awpS_nil ?_
            refine blockQ_norm (thenQ_norm ?_)
            refine awpS_reg T_ok fun K hK => ?_
            simp [hG, List.getD_cons_zero, List.getD_cons_succ, -List.getD_eq_getElem?_getD]
            refine ⟨Cond.mk (by omega), hK _ ?_⟩
            clear K hK
            refine awpS_nil ?_
            refine round_end (i + 1) (⟨by omega, step_all hm (cellCheck_ok hb84 hb98)⟩) (by omega) ?_
            refine wk_of (id) (fun _ => false) (fun _ => false) ?_ ?_ rfl (Nat.zero_le _) (fun k hk => absurd hk (Nat.not_lt_zero _))
            · simp [hG, List.getD_cons_zero, List.getD_cons_succ, -List.getD_eq_getElem?_getD]
            · simp [hG, List.getD_cons_zero, List.getD_cons_succ, -List.getD_eq_getElem?_getD]
         ·
          try simp [-List.getD_eq_getElem?_getD] at hb63
          refine awpS_exit ?_
          refine thenQ_exit (thenQ_exit ?_)
          refine blockQ_exit (thenQ_norm ?_)
          refine awpS_nil ?_
          refine blockQ_norm (thenQ_norm ?_)
          refine awpS_reg T_ok fun K hK => ?_
          simp [hG, List.getD_cons_zero, List.getD_cons_succ, -List.getD_eq_getElem?_getD]
          refine ⟨Cond.mk (by omega), hK _ ?_⟩
          clear K hK
          refine awpS_nil ?_
          refine round_end (k + 1) (⟨hd, hp, hl, by omega, step_all hn (rowCheck_ok hb55 (fun j hj => hm j (by omega)))⟩) (by omega) ?_
          refine wk_of (id) (fun _ => false) (fun _ => false) ?_ ?_ rfl (Nat.zero_le _) (fun k hk => absurd hk (Nat.not_lt_zero _))
          · simp [hG, List.getD_cons_zero, List.getD_cons_succ, -List.getD_eq_getElem?_getD]
          · simp [hG, List.getD_cons_zero, List.getD_cons_succ, -List.getD_eq_getElem?_getD]
      ·
       try simp [-List.getD_eq_getElem?_getD] at hb44
       refine awpS_exit ?_
       refine thenQ_exit (thenQ_exit ?_)
       refine blockQ_exit (thenQ_norm ?_)
       refine awpS_seq ?_
       refine awpS_reg T_ok fun K hK => ?_
       simp [hG, List.getD_cons_zero, List.getD_cons_succ, -List.getD_eq_getElem?_getD]
       refine hK _ ?_
       clear K hK
       refine awpS_ret ?_
       refine RetOK_of ?_
       simp [hG, List.getD_cons_zero, List.getD_cons_succ, -List.getD_eq_getElem?_getD]
       exact ((checkE_rows hd hp hl).trans (firstNZ_zero fun j hj => hn j (by omega))).symm

set_option maxRecDepth 100000 in
theorem partitionR_c (e : Enc) : PC Try.prog 17 [.agg 4 (encF e)] (.tup 2 (fun j => [ints (if checkE e = 0 then classesE e else []), .int .i64 (if checkE e = 0 then 0 else 1)].getD j .any)) := by
 refine PC_introS T_ok Try.func17 rfl (by simp [Try.ntmps17]) fun G hG hR => ?_
 simp only [Try.ntmps17, Try.results17] at hG ⊢
 simp only [argEnv, Nat.zero_add, Nat.reduceAdd]
 refine awpS_seq ?_
 refine awpS_reg T_ok fun K hK => ?_
 simp [hG, List.getD_cons_zero, List.getD_cons_succ, -List.getD_eq_getElem?_getD]
 refine ⟨Cond.mk (by simp [-List.getD_eq_getElem?_getD]), hK _ ?_⟩
 clear K hK
 refine awpS_seq ?_
 refine awpS_seq ?_
 refine awpS_regL ?_
 refine awpL_reg T_ok 1 fun K hK => ?_
 simp [hG, List.getD_cons_zero, List.getD_cons_succ, -List.getD_eq_getElem?_getD]
 refine hK _ ?_
 clear K hK
 refine awpL_call cal41 rfl rfl (fun _ => rfl) (fun hg => checkR_c e) (fun hg => ?_) (fun hg => ?_) fun K hK => ?_
 · simp [hG, List.getD_cons_zero, List.getD_cons_succ, -List.getD_eq_getElem?_getD]
 · simp [hG, List.getD_cons_zero, List.getD_cons_succ, -List.getD_eq_getElem?_getD]
 simp [hG, List.getD_cons_zero, List.getD_cons_succ, -List.getD_eq_getElem?_getD]
 refine hK _ ?_
 clear K hK
 refine awpL_reg T_ok 1 fun K hK => ?_
 simp [hG, List.getD_cons_zero, List.getD_cons_succ, -List.getD_eq_getElem?_getD]
 refine hK _ ?_
 clear K hK
 refine awpL_nil ?_
 refine awpS_cond rfl (fun hb12 => ?_) (fun hb12 => ?_)
 ·
  try simp [-List.getD_eq_getElem?_getD] at hb12
  refine awpS_seq ?_
  refine awpS_reg T_ok fun K hK => ?_
  simp [hG, List.getD_cons_zero, List.getD_cons_succ, -List.getD_eq_getElem?_getD]
  refine hK _ ?_
  clear K hK
  refine awpS_ret ?_
  refine RetOK_of ?_
  simp [hG, List.getD_cons_zero, List.getD_cons_succ, -List.getD_eq_getElem?_getD]
  simp [hb12]
 ·
  try simp [-List.getD_eq_getElem?_getD] at hb12
  have hv : checkE e = 0 := hb12
  have hl64 := rows_len hv
  have hcl := (classesE_ok hv).1
  have hrg := (classesE_ok hv).2
  refine awpS_skip ?_
  refine awpS_seq ?_
  refine awpS_regL ?_
  refine awpL_reg T_ok 2 fun K hK => ?_
  simp [hG, List.getD_cons_zero, List.getD_cons_succ, -List.getD_eq_getElem?_getD]
  refine hK _ ?_
  clear K hK
  refine awpL_call cal42 rfl rfl (fun _ => rfl) (fun hg => equivalent_c e e hv hv rfl) (fun hg => ?_) (fun hg => ?_) fun K hK => ?_
  · simp [hG, List.getD_cons_zero, List.getD_cons_succ, -List.getD_eq_getElem?_getD]
  · simp [hG, List.getD_cons_zero, List.getD_cons_succ, -List.getD_eq_getElem?_getD]
  simp [hG, List.getD_cons_zero, List.getD_cons_succ, -List.getD_eq_getElem?_getD]
  refine hK _ ?_
  clear K hK
  refine awpL_reg T_ok 1 fun K hK => ?_
  simp [hG, List.getD_cons_zero, List.getD_cons_succ, -List.getD_eq_getElem?_getD]
  refine hK _ ?_
  clear K hK
  refine awpL_nil ?_
  refine awpS_seq ?_
  refine awpS_reg T_ok fun K hK => ?_
  simp [hG, List.getD_cons_zero, List.getD_cons_succ, -List.getD_eq_getElem?_getD]
  refine hK _ ?_
  clear K hK
  refine awpS_seq ?_
  refine awpS_reg T_ok fun K hK => ?_
  simp [hG, List.getD_cons_zero, List.getD_cons_succ, -List.getD_eq_getElem?_getD]
  refine hK _ ?_
  clear K hK
  refine awpS_seq ?_
  refine awpS_seq ?_
  refine awpS_reg T_ok fun K hK => ?_
  simp [hG, List.getD_cons_zero, List.getD_cons_succ, -List.getD_eq_getElem?_getD]
  refine hK _ ?_
  clear K hK
  refine awpS_block ?_
  refine awpS_loop (α := Nat) (fun s => ⟨[(1, .ptr (0, 0) 0 0), (4, rowsB (eqR e e)), (5, .sl (1, 0) 0 s), (6, .int .i64 (cntGo 0 ((classesE e).take s))), (7, .int .i64 s)], [(0, .one (.arr 1 4 (fun _ => encF e))), (1, .one (.arr s 1 (fun j _ => .int .i64 ((classesE e).getD j 0))))], 2⟩) (fun s => s ≤ e.rows.length) (fun s => e.rows.length - s) (0) (Nat.zero_le _) ?_ ?_
  ·
   refine wk_of (id) (fun _ => false) (fun _ => false) ?_ ?_ rfl (Nat.zero_le _) (fun k hk => absurd hk (Nat.not_lt_zero _))
   · simp [hG, List.getD_cons_zero, List.getD_cons_succ, -List.getD_eq_getElem?_getD]; rfl
   · simp [hG, List.getD_cons_zero, List.getD_cons_succ, -List.getD_eq_getElem?_getD]
  ·
   rintro s hs
   have hcb := cntGo_take (l := classesE e) (k := s)
   refine awpS_seq ?_
   refine awpS_seq ?_
   refine awpS_reg T_ok fun K hK => ?_
   simp [hG, List.getD_cons_zero, List.getD_cons_succ, -List.getD_eq_getElem?_getD]
   refine hK _ ?_
   clear K hK
   refine awpS_cond rfl (fun hb21 => ?_) (fun hb21 => ?_)
   ·
    try simp [-List.getD_eq_getElem?_getD] at hb21
    refine awpS_skip ?_
    refine awpS_seq ?_
    refine awpS_block ?_
    refine awpS_seq ?_
    refine awpS_reg T_ok fun K hK => ?_
    simp [hG, List.getD_cons_zero, List.getD_cons_succ, -List.getD_eq_getElem?_getD]
    refine hK _ ?_
    clear K hK
    refine awpS_seq ?_
    refine awpS_seq ?_
    refine awpS_reg T_ok fun K hK => ?_
    simp [hG, List.getD_cons_zero, List.getD_cons_succ, -List.getD_eq_getElem?_getD]
    refine hK _ ?_
    clear K hK
    refine awpS_block ?_
    refine awpS_loop (α := Nat × Int) (fun p => ⟨[(1, .ptr (0, 0) 0 0), (4, rowsB (eqR e e)), (5, .sl (1, 0) 0 s), (6, .int .i64 (cntGo 0 ((classesE e).take s))), (7, .int .i64 s), (8, .int .i64 p.2), (9, .int .i64 p.1)], [(0, .one (.arr 1 4 (fun _ => encF e))), (1, .one (.arr s 1 (fun j _ => .int .i64 ((classesE e).getD j 0))))], 2⟩) (fun p => p.1 ≤ s ∧ (p.2 = -1 ∧ (∀ t, t < p.1 → (classesE e).getD t 0 ≠ (classesE e).getD s 0) ∨ 0 ≤ p.2 ∧ Seen (classesE e) s p.2)) (fun p => s - p.1) ((0, -1)) (⟨Nat.zero_le _, .inl ⟨rfl, fun t ht => absurd ht (Nat.not_lt_zero _)⟩⟩) ?_ ?_
    ·
     refine wk_of (id) (fun _ => false) (fun _ => false) ?_ ?_ rfl (Nat.zero_le _) (fun k hk => absurd hk (Nat.not_lt_zero _))
     · simp [hG, List.getD_cons_zero, List.getD_cons_succ, -List.getD_eq_getElem?_getD]
     · simp [hG, List.getD_cons_zero, List.getD_cons_succ, -List.getD_eq_getElem?_getD]
    ·
     rintro ⟨t, c⟩ ⟨ht, hc⟩
     simp only at ht hc
     refine awpS_seq ?_
     refine awpS_seq ?_
     refine awpS_reg T_ok fun K hK => ?_
     simp [hG, List.getD_cons_zero, List.getD_cons_succ, -List.getD_eq_getElem?_getD]
     refine ⟨Cond.mk (by simp [-List.getD_eq_getElem?_getD]), hK _ ?_⟩
     clear K hK
     refine awpS_cond rfl (fun hb30 => ?_) (fun hb30 => ?_)
     ·
      try simp [-List.getD_eq_getElem?_getD] at hb30
      have hqr : ((eqR e e).getD s []).length = e.rows.length := (by rw [eqR_row (by omega)]; simp)
      have hqt := eqR_at (a := e) (b := e) (s := s) (t := t) (by omega) (by omega)
      have hsm := classes_same hv (s := s) (t := t) (by omega) (by omega)
      refine awpS_skip ?_
      refine awpS_seq ?_
      refine awpS_block ?_
      refine awpS_seq ?_
      refine awpS_reg T_ok fun K hK => ?_
      simp [hG, List.getD_cons_zero, List.getD_cons_succ, -List.getD_eq_getElem?_getD]
      refine ⟨Cond.mk (by omega), hK _ ?_⟩
      clear K hK
      refine awpS_cond rfl (fun hb39 => ?_) (fun hb39 => ?_)
      ·
       try simp [-List.getD_eq_getElem?_getD] at hb39
       refine awpS_reg T_ok fun K hK => ?_
       simp [hG, List.getD_cons_zero, List.getD_cons_succ, -List.getD_eq_getElem?_getD]
       refine ⟨Cond.mk (by omega), hK _ ?_⟩
       clear K hK
       refine awpS_nil ?_
       refine blockQ_norm (thenQ_norm ?_)
       refine awpS_reg T_ok fun K hK => ?_
       simp [hG, List.getD_cons_zero, List.getD_cons_succ, -List.getD_eq_getElem?_getD]
       refine ⟨Cond.mk (by omega), hK _ ?_⟩
       clear K hK
       refine awpS_nil ?_
       refine round_end ((t + 1, (classesE e).getD t 0)) (⟨by simp only; omega, .inr ⟨(RG_at hrg (by omega)).1, hsm.2 (by rw [hqt] at hb39; simpa using hb39) ▸ rfl, t, by omega, hsm.2 (by rw [hqt] at hb39; simpa using hb39) |>.symm⟩⟩) (by simp only; omega) ?_
       refine wk_of (id) (fun _ => false) (fun _ => false) ?_ ?_ rfl (Nat.zero_le _) (fun k hk => absurd hk (Nat.not_lt_zero _))
       · simp [hG, List.getD_cons_zero, List.getD_cons_succ, -List.getD_eq_getElem?_getD]
       · simp [hG, List.getD_cons_zero, List.getD_cons_succ, -List.getD_eq_getElem?_getD]
      ·
       try simp [-List.getD_eq_getElem?_getD] at hb39
       refine awpS_skip ?_
       refine awpS_nil ?_
       refine blockQ_norm (thenQ_norm ?_)
       refine awpS_reg T_ok fun K hK => ?_
       simp [hG, List.getD_cons_zero, List.getD_cons_succ, -List.getD_eq_getElem?_getD]
       refine ⟨Cond.mk (by omega), hK _ ?_⟩
       clear K hK
       refine awpS_nil ?_
       refine round_end ((t + 1, c)) (⟨by simp only; omega, .inl ⟨(hc.resolve_right (by omega)).1, ne_step ((hc.resolve_right (by omega)).2) (fun h => by have := hsm.1 h; rw [hqt] at hb39; simp [this] at hb39)⟩⟩) (by simp only; omega) ?_
       refine wk_of (id) (fun _ => false) (fun _ => false) ?_ ?_ rfl (Nat.zero_le _) (fun k hk => absurd hk (Nat.not_lt_zero _))
       · simp [hG, List.getD_cons_zero, List.getD_cons_succ, -List.getD_eq_getElem?_getD]
       · simp [hG, List.getD_cons_zero, List.getD_cons_succ, -List.getD_eq_getElem?_getD]
     ·
      try simp [-List.getD_eq_getElem?_getD] at hb30
      refine awpS_exit ?_
      refine thenQ_exit (thenQ_exit ?_)
      refine blockQ_exit (thenQ_norm ?_)
      refine awpS_seq ?_
      refine awpS_seq ?_
      refine awpS_reg T_ok fun K hK => ?_
      simp [hG, List.getD_cons_zero, List.getD_cons_succ, -List.getD_eq_getElem?_getD]
      refine hK _ ?_
      clear K hK
      refine awpS_cond rfl (fun hb45 => ?_) (fun hb45 => ?_)
      ·
       try simp [-List.getD_eq_getElem?_getD] at hb45
       have hnw := RG_new hrg (s := s) (by omega) (fun t2 h2 => (hc.resolve_right (by omega)).2 t2 (by omega))
       refine awpS_seq ?_
       refine awpS_reg T_ok fun K hK => ?_
       simp [hG, List.getD_cons_zero, List.getD_cons_succ, -List.getD_eq_getElem?_getD]
       refine hK _ ?_
       clear K hK
       refine awpS_reg T_ok fun K hK => ?_
       simp [hG, List.getD_cons_zero, List.getD_cons_succ, -List.getD_eq_getElem?_getD]
       refine ⟨Cond.mk (by omega), hK _ ?_⟩
       clear K hK
       refine awpS_reg T_ok fun K hK => ?_
       simp [hG, List.getD_cons_zero, List.getD_cons_succ, -List.getD_eq_getElem?_getD]
       refine ⟨Cond.mk (by omega), hK _ ?_⟩
       clear K hK
       refine awpS_nil ?_
       refine blockQ_norm (thenQ_norm ?_)
       refine awpS_reg T_ok fun K hK => ?_
       simp [hG, List.getD_cons_zero, List.getD_cons_succ, -List.getD_eq_getElem?_getD]
       refine ⟨Cond.mk (by omega), hK _ ?_⟩
       clear K hK
       refine awpS_nil ?_
       refine round_end (s + 1) (by omega) (by omega) ?_
       refine wk_of (fun k => if k = 1 then 3 else k) (fun _ => false) (fun _ => false) ?_ ?_ rfl (Nat.zero_le _) (fun k hk => absurd hk (Nat.not_lt_zero _))
       · simp [hG, List.getD_cons_zero, List.getD_cons_succ, -List.getD_eq_getElem?_getD]; exact hnw.2.symm
       · simp [hG, List.getD_cons_zero, List.getD_cons_succ, -List.getD_eq_getElem?_getD]; exact fun i hi => app_last (F := fun j => (classesE e).getD j 0) hi hnw.1
      ·
       try simp [-List.getD_eq_getElem?_getD] at hb45
       have hod := RG_old hrg (s := s) (by omega) (hc.resolve_left (by omega)).2.2.choose_spec.1 (hc.resolve_left (by omega)).2.2.choose_spec.2
       have hce := (hc.resolve_left (by omega)).2.1
       refine awpS_skip ?_
       refine awpS_reg T_ok fun K hK => ?_
       simp [hG, List.getD_cons_zero, List.getD_cons_succ, -List.getD_eq_getElem?_getD]
       refine ⟨Cond.mk (by omega), hK _ ?_⟩
       clear K hK
       refine awpS_nil ?_
       refine blockQ_norm (thenQ_norm ?_)
       refine awpS_reg T_ok fun K hK => ?_
       simp [hG, List.getD_cons_zero, List.getD_cons_succ, -List.getD_eq_getElem?_getD]
       refine ⟨Cond.mk (by omega), hK _ ?_⟩
       clear K hK
       refine awpS_nil ?_
       refine round_end (s + 1) (by omega) (by omega) ?_
       refine wk_of (fun k => if k = 1 then 3 else k) (fun _ => false) (fun _ => false) ?_ ?_ rfl (Nat.zero_le _) (fun k hk => absurd hk (Nat.not_lt_zero _))
       · simp [hG, List.getD_cons_zero, List.getD_cons_succ, -List.getD_eq_getElem?_getD]; exact hod.symm
       · simp [hG, List.getD_cons_zero, List.getD_cons_succ, -List.getD_eq_getElem?_getD]; exact fun i hi => app_last (F := fun j => (classesE e).getD j 0) hi hce.symm
   ·
    try simp [-List.getD_eq_getElem?_getD] at hb21
    obtain rfl : s = e.rows.length := (by omega)
    refine awpS_exit ?_
    refine thenQ_exit (thenQ_exit ?_)
    refine blockQ_exit (thenQ_norm ?_)
    refine awpS_seq ?_
    refine awpS_reg T_ok fun K hK => ?_
    simp [hG, List.getD_cons_zero, List.getD_cons_succ, -List.getD_eq_getElem?_getD]
    refine hK _ ?_
    clear K hK
    refine awpS_ret ?_
    refine RetOK_of ?_
    simp [hG, List.getD_cons_zero, List.getD_cons_succ, -List.getD_eq_getElem?_getD]
    simp [hv, List.getD_cons_zero, List.getD_cons_succ, -List.getD_eq_getElem?_getD]; omega

end Go.Proofs.Ytmjkbidnghcfnaa
