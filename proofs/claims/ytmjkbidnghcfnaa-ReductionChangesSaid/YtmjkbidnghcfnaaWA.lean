/-
 Walks: small functions of this seat.
-/
import Derived.Test.YtmjkbidnghcfnaaLT
import Derived.Test.YtmjkbidnghcfnaaLZ
import Derived.Test.YtmjkbidnghcfnaaPB
import Derived.Test.YtmjkbidnghcfnaaLC1
namespace Go.Proofs.Ytmjkbidnghcfnaa
set_option linter.unusedSimpArgs false
set_option linter.unusedVariables false
open Go Go.Lift Go.Proofs


theorem idxp (s : List UInt8) (b : UInt8) : PX Try.prog 87 [.str s, .int .u8 b.toNat] (.int .i64 (idxB s b)) := indexByte_px (fn := Try.f87) (by kernel_rfl) (by decide +kernel) (by decide +kernel) (by kernel_rfl) (by kernel_rfl) s b

set_option maxRecDepth 100000 in
theorem place_c (l : List Int) (n : Int) (hl : l.length ≤ 1000000) : PC Try.prog 44 [ints l, .int .i64 n] (.int .i64 (placeI l n)) := by
 refine PC_introS T_ok Try.func44 rfl (by simp [Try.ntmps44]) fun G hG hR => ?_
 simp only [Try.ntmps44, Try.results44] at hG ⊢
 simp only [argEnv, Nat.zero_add, Nat.reduceAdd]
 refine awpS_seq ?_
 refine awpS_reg T_ok fun K hK => ?_
 simp [hG, List.getD_cons_zero, List.getD_cons_succ, -List.getD_eq_getElem?_getD]
 refine hK _ ?_
 clear K hK
 refine awpS_seq ?_
 refine awpS_seq ?_
 refine awpS_reg T_ok fun K hK => ?_
 simp [hG, List.getD_cons_zero, List.getD_cons_succ, -List.getD_eq_getElem?_getD]
 refine hK _ ?_
 clear K hK
 refine awpS_block ?_
 refine awpS_loop (α := Nat) (fun k => ⟨[(0, ints l), (1, .int .i64 n), (5, .int .i64 k)], [], 0⟩) (fun k => k ≤ l.length ∧ ∀ j, j < k → l.getD j 0 ≠ n) (fun k => l.length - k) (0) (⟨Nat.zero_le _, fun j hj => absurd hj (Nat.not_lt_zero _)⟩) ?_ ?_
 ·
  refine wk_of (id) (fun _ => false) (fun _ => false) ?_ ?_ rfl (Nat.zero_le _) (fun k hk => absurd hk (Nat.not_lt_zero _))
  · simp [hG, List.getD_cons_zero, List.getD_cons_succ, -List.getD_eq_getElem?_getD]
  · simp [hG, List.getD_cons_zero, List.getD_cons_succ, -List.getD_eq_getElem?_getD]
 ·
  rintro k ⟨hk, hn⟩
  refine awpS_seq ?_
  refine awpS_seq ?_
  refine awpS_reg T_ok fun K hK => ?_
  simp [hG, List.getD_cons_zero, List.getD_cons_succ, -List.getD_eq_getElem?_getD]
  refine hK _ ?_
  clear K hK
  refine awpS_cond rfl (fun hb9 => ?_) (fun hb9 => ?_)
  ·
   try simp [-List.getD_eq_getElem?_getD] at hb9
   refine awpS_skip ?_
   refine awpS_seq ?_
   refine awpS_block ?_
   refine awpS_seq ?_
   refine awpS_reg T_ok fun K hK => ?_
   simp [hG, List.getD_cons_zero, List.getD_cons_succ, -List.getD_eq_getElem?_getD]
   refine ⟨Cond.mk (by omega), hK _ ?_⟩
   clear K hK
   refine awpS_cond rfl (fun hb17 => ?_) (fun hb17 => ?_)
   ·
    try simp [-List.getD_eq_getElem?_getD] at hb17
    refine awpS_seq ?_
    refine awpS_reg T_ok fun K hK => ?_
    simp [hG, List.getD_cons_zero, List.getD_cons_succ, -List.getD_eq_getElem?_getD]
    refine hK _ ?_
    clear K hK
    refine awpS_ret ?_
    refine blockQ_ret (thenQ_ret ?_)
    refine thenQ_ret (thenQ_ret ?_)
    refine blockQ_ret (thenQ_ret ?_)
    refine RetOK_of ?_
    simp [hG, List.getD_cons_zero, List.getD_cons_succ, -List.getD_eq_getElem?_getD]
    rw [placeI_some l n k (by omega) hn (by simpa using hb17)]
   ·
    try simp [-List.getD_eq_getElem?_getD] at hb17
    refine awpS_skip ?_
    refine awpS_nil ?_
    refine blockQ_norm (thenQ_norm ?_)
    refine awpS_reg T_ok fun K hK => ?_
    simp [hG, List.getD_cons_zero, List.getD_cons_succ, -List.getD_eq_getElem?_getD]
    refine ⟨Cond.mk (by omega), hK _ ?_⟩
    clear K hK
    refine awpS_nil ?_
    refine round_end (k + 1) (⟨by omega, placeI_step hn (by simpa using hb17)⟩) (by omega) ?_
    refine wk_of (id) (fun _ => false) (fun _ => false) ?_ ?_ rfl (Nat.zero_le _) (fun k hk => absurd hk (Nat.not_lt_zero _))
    · simp [hG, List.getD_cons_zero, List.getD_cons_succ, -List.getD_eq_getElem?_getD]
    · simp [hG, List.getD_cons_zero, List.getD_cons_succ, -List.getD_eq_getElem?_getD]
  ·
   try simp [-List.getD_eq_getElem?_getD] at hb9
   refine awpS_exit ?_
   refine thenQ_exit (thenQ_exit ?_)
   refine blockQ_exit (thenQ_norm ?_)
   refine awpS_seq ?_
   refine awpS_reg T_ok fun K hK => ?_
   simp [hG, List.getD_cons_zero, List.getD_cons_succ, -List.getD_eq_getElem?_getD]
   refine hK _ ?_
   clear K hK
   refine awpS_ret ?_
   refine RetOK_of ?_
   simp [hG, List.getD_cons_zero, List.getD_cons_succ, -List.getD_eq_getElem?_getD]
   rw [placeI_none l n (fun j hj => hn j (by omega))]

set_option maxRecDepth 100000 in
theorem equal_c (a b : List Int) (ha : a.length ≤ 1000000) (hb : b.length ≤ 1000000) : PC Try.prog 22 [ints a, ints b] (.bool (decide (a = b))) := by
 refine PC_introS T_ok Try.func22 rfl (by simp [Try.ntmps22]) fun G hG hR => ?_
 simp only [Try.ntmps22, Try.results22] at hG ⊢
 simp only [argEnv, Nat.zero_add, Nat.reduceAdd]
 refine awpS_seq ?_
 refine awpS_reg T_ok fun K hK => ?_
 simp [hG, List.getD_cons_zero, List.getD_cons_succ, -List.getD_eq_getElem?_getD]
 refine hK _ ?_
 clear K hK
 refine awpS_seq ?_
 refine awpS_seq ?_
 refine awpS_reg T_ok fun K hK => ?_
 simp [hG, List.getD_cons_zero, List.getD_cons_succ, -List.getD_eq_getElem?_getD]
 refine hK _ ?_
 clear K hK
 refine awpS_cond rfl (fun hb10 => ?_) (fun hb10 => ?_)
 ·
  try simp [-List.getD_eq_getElem?_getD] at hb10
  refine awpS_seq ?_
  refine awpS_reg T_ok fun K hK => ?_
  simp [hG, List.getD_cons_zero, List.getD_cons_succ, -List.getD_eq_getElem?_getD]
  refine hK _ ?_
  clear K hK
  refine awpS_ret ?_
  refine RetOK_of ?_
  simp [hG, List.getD_cons_zero, List.getD_cons_succ, -List.getD_eq_getElem?_getD]
  exact fun h => by rw [h] at hb10; exact hb10 rfl
 ·
  try simp [-List.getD_eq_getElem?_getD] at hb10
  refine awpS_skip ?_
  refine awpS_seq ?_
  refine awpS_seq ?_
  refine awpS_reg T_ok fun K hK => ?_
  simp [hG, List.getD_cons_zero, List.getD_cons_succ, -List.getD_eq_getElem?_getD]
  refine hK _ ?_
  clear K hK
  refine awpS_block ?_
  refine awpS_loop (α := Nat) (fun k => ⟨[(0, ints a), (1, ints b), (12, .int .i64 a.length), (13, .int .i64 k)], [], 0⟩) (fun k => a.length = b.length ∧ k ≤ a.length ∧ ∀ j, j < k → a.getD j 0 = b.getD j 0) (fun k => a.length - k) (0) (⟨by omega, Nat.zero_le _, fun j hj => absurd hj (Nat.not_lt_zero _)⟩) ?_ ?_
  ·
   refine wk_of (id) (fun _ => false) (fun _ => false) ?_ ?_ rfl (Nat.zero_le _) (fun k hk => absurd hk (Nat.not_lt_zero _))
   · simp [hG, List.getD_cons_zero, List.getD_cons_succ, -List.getD_eq_getElem?_getD]
   · simp [hG, List.getD_cons_zero, List.getD_cons_succ, -List.getD_eq_getElem?_getD]
  ·
   rintro k ⟨hab, hk, hn⟩
   refine awpS_seq ?_
   refine awpS_reg T_ok fun K hK => ?_
   simp [hG, List.getD_cons_zero, List.getD_cons_succ, -List.getD_eq_getElem?_getD]
   refine hK _ ?_
   clear K hK
   refine awpS_seq ?_
   refine awpS_cond rfl (fun hb14 => ?_) (fun hb14 => ?_)
   ·
    try simp [-List.getD_eq_getElem?_getD] at hb14
    refine awpS_skip ?_
    refine awpS_seq ?_
    refine awpS_block ?_
    refine awpS_seq ?_
    refine awpS_reg T_ok fun K hK => ?_
    simp [hG, List.getD_cons_zero, List.getD_cons_succ, -List.getD_eq_getElem?_getD]
    refine hK _ ?_
    clear K hK
    refine awpS_seq ?_
    refine awpS_draw hR mixed [] ⟨[], [], []⟩ fun mu0 => ?_
    refine awpA_tk T_ok [0, 1, 2, 3, 4, 5, 6, 7, 8] [] (fuel := 0) [8, 7, 6, 5, 4, 3, 2, 1, 0] (by decide +kernel) (by decide +kernel) rfl rfl fun K hK => ?_
    simp [hG, List.getD_cons_zero, List.getD_cons_succ, -List.getD_eq_getElem?_getD]
    refine ⟨Cond.mk (by omega), hK _ ?_⟩
    clear K hK
    refine awpA_done (by decide +kernel) ?_
    refine awpS_cond rfl (fun hb24 => ?_) (fun hb24 => ?_)
    ·
     try simp [-List.getD_eq_getElem?_getD] at hb24
     refine awpS_seq ?_
     refine awpS_reg T_ok fun K hK => ?_
     simp [hG, List.getD_cons_zero, List.getD_cons_succ, -List.getD_eq_getElem?_getD]
     refine hK _ ?_
     clear K hK
     refine awpS_ret ?_
     refine blockQ_ret (thenQ_ret ?_)
     refine thenQ_ret (thenQ_ret ?_)
     refine blockQ_ret (thenQ_ret ?_)
     refine RetOK_of ?_
     simp [hG, List.getD_cons_zero, List.getD_cons_succ, -List.getD_eq_getElem?_getD]
     exact getD_ne hb24
    ·
     try simp [-List.getD_eq_getElem?_getD] at hb24
     refine awpS_skip ?_
     refine awpS_nil ?_
     refine blockQ_norm (thenQ_norm ?_)
     refine awpS_reg T_ok fun K hK => ?_
     simp [hG, List.getD_cons_zero, List.getD_cons_succ, -List.getD_eq_getElem?_getD]
     refine ⟨Cond.mk (by omega), hK _ ?_⟩
     clear K hK
     refine awpS_nil ?_
     refine round_end (k + 1) (⟨hab, by omega, getD_step hn (by simpa using hb24)⟩) (by omega) ?_
     refine wk_of (id) (fun _ => false) (fun _ => false) ?_ ?_ rfl (Nat.zero_le _) (fun k hk => absurd hk (Nat.not_lt_zero _))
     · simp [hG, List.getD_cons_zero, List.getD_cons_succ, -List.getD_eq_getElem?_getD]
     · simp [hG, List.getD_cons_zero, List.getD_cons_succ, -List.getD_eq_getElem?_getD]
   ·
    try simp [-List.getD_eq_getElem?_getD] at hb14
    refine awpS_exit ?_
    refine thenQ_exit (thenQ_exit ?_)
    refine blockQ_exit (thenQ_norm ?_)
    refine awpS_seq ?_
    refine awpS_reg T_ok fun K hK => ?_
    simp [hG, List.getD_cons_zero, List.getD_cons_succ, -List.getD_eq_getElem?_getD]
    refine hK _ ?_
    clear K hK
    refine awpS_ret ?_
    refine RetOK_of ?_
    simp [hG, List.getD_cons_zero, List.getD_cons_succ, -List.getD_eq_getElem?_getD]
    exact eq_of_getD (by omega) (fun j hj => hn j (by omega))

set_option maxRecDepth 100000 in
theorem known_c (q : Int) : PC Try.prog 65 [.int .i64 q] (.bool (decide (1 ≤ q ∧ q ≤ 16))) := by
 refine PC_introS T_ok Try.func65 rfl (by simp [Try.ntmps65]) fun G hG hR => ?_
 simp only [Try.ntmps65, Try.results65] at hG ⊢
 simp only [argEnv, Nat.zero_add, Nat.reduceAdd]
 refine awpS_seq ?_
 refine awpS_reg T_ok fun K hK => ?_
 simp [hG, List.getD_cons_zero, List.getD_cons_succ, -List.getD_eq_getElem?_getD]
 refine hK _ ?_
 clear K hK
 refine awpS_seq ?_
 refine awpS_reg T_ok fun K hK => ?_
 simp [hG, List.getD_cons_zero, List.getD_cons_succ, -List.getD_eq_getElem?_getD]
 refine ⟨Cond.mk (by simp [-List.getD_eq_getElem?_getD]), hK _ ?_⟩
 clear K hK
 refine awpS_ret ?_
 refine RetOK_of ?_
 simp [hG, List.getD_cons_zero, List.getD_cons_succ, -List.getD_eq_getElem?_getD]

set_option maxRecDepth 100000 in
theorem idx0_c (s : List UInt8) (b : UInt8) : PC Try.prog 75 [.str s, .int .u8 b.toNat] (.int .i64 (idxB s b)) := by
 refine PC_introS T_ok Try.func75 rfl (by simp [Try.ntmps75]) fun G hG hR => ?_
 simp only [Try.ntmps75, Try.results75] at hG ⊢
 simp only [argEnv, Nat.zero_add, Nat.reduceAdd]
 refine awpS_seq ?_
 refine awpS_reg T_ok fun K hK => ?_
 simp [hG, List.getD_cons_zero, List.getD_cons_succ, -List.getD_eq_getElem?_getD]
 refine hK _ ?_
 clear K hK
 refine awpS_seq ?_
 refine awpS_regL ?_
 refine awpL_reg T_ok 2 fun K hK => ?_
 simp [hG, List.getD_cons_zero, List.getD_cons_succ, -List.getD_eq_getElem?_getD]
 refine hK _ ?_
 clear K hK
 refine awpL_px (idxp s b) rfl rfl rfl ?_ ?_ fun K hK => ?_
 · simp [hG, List.getD_cons_zero, List.getD_cons_succ, -List.getD_eq_getElem?_getD]
 · simp [hG, List.getD_cons_zero, List.getD_cons_succ, -List.getD_eq_getElem?_getD]
 simp [hG, List.getD_cons_zero, List.getD_cons_succ, -List.getD_eq_getElem?_getD]
 refine hK _ ?_
 clear K hK
 refine awpL_reg T_ok 1 fun K hK => ?_
 simp [hG, List.getD_cons_zero, List.getD_cons_succ, -List.getD_eq_getElem?_getD]
 refine hK _ ?_
 clear K hK
 refine awpL_nil ?_
 refine awpS_ret ?_
 refine RetOK_of ?_
 simp [hG, List.getD_cons_zero, List.getD_cons_succ, -List.getD_eq_getElem?_getD]

set_option maxRecDepth 100000 in
theorem idx_c (s : List UInt8) (b : UInt8) : PC Try.prog 66 [.str s, .int .u8 b.toNat] (.int .i64 (idxB s b)) := by
 refine PC_introS T_ok Try.func66 rfl (by simp [Try.ntmps66]) fun G hG hR => ?_
 simp only [Try.ntmps66, Try.results66] at hG ⊢
 simp only [argEnv, Nat.zero_add, Nat.reduceAdd]
 refine awpS_seq ?_
 refine awpS_reg T_ok fun K hK => ?_
 simp [hG, List.getD_cons_zero, List.getD_cons_succ, -List.getD_eq_getElem?_getD]
 refine hK _ ?_
 clear K hK
 refine awpS_seq ?_
 refine awpS_regL ?_
 refine awpL_reg T_ok 2 fun K hK => ?_
 simp [hG, List.getD_cons_zero, List.getD_cons_succ, -List.getD_eq_getElem?_getD]
 refine hK _ ?_
 clear K hK
 refine awpL_call cal75 rfl rfl (fun _ => rfl) (fun hg => idx0_c s b) (fun hg => ?_) (fun hg => ?_) fun K hK => ?_
 · simp [hG, List.getD_cons_zero, List.getD_cons_succ, -List.getD_eq_getElem?_getD]
 · simp [hG, List.getD_cons_zero, List.getD_cons_succ, -List.getD_eq_getElem?_getD]
 simp [hG, List.getD_cons_zero, List.getD_cons_succ, -List.getD_eq_getElem?_getD]
 refine hK _ ?_
 clear K hK
 refine awpL_reg T_ok 1 fun K hK => ?_
 simp [hG, List.getD_cons_zero, List.getD_cons_succ, -List.getD_eq_getElem?_getD]
 refine hK _ ?_
 clear K hK
 refine awpL_nil ?_
 refine awpS_ret ?_
 refine RetOK_of ?_
 simp [hG, List.getD_cons_zero, List.getD_cons_succ, -List.getD_eq_getElem?_getD]

set_option maxRecDepth 100000 in
theorem wcheck_c (q : Int) (w : List UInt8) : PC Try.prog 45 [.int .i64 q, .str w] (.int .i64 (wordCheck q w)) := by
 refine PC_introS T_ok Try.func45 rfl (by simp [Try.ntmps45]) fun G hG hR => ?_
 simp only [Try.ntmps45, Try.results45] at hG ⊢
 simp only [argEnv, Nat.zero_add, Nat.reduceAdd]
 refine awpS_seq ?_
 refine awpS_reg T_ok fun K hK => ?_
 simp [hG, List.getD_cons_zero, List.getD_cons_succ, -List.getD_eq_getElem?_getD]
 refine hK _ ?_
 clear K hK
 refine awpS_seq ?_
 refine awpS_block ?_
 refine awpS_seq ?_
 refine awpS_regL ?_
 refine awpL_reg T_ok 1 fun K hK => ?_
 simp [hG, List.getD_cons_zero, List.getD_cons_succ, -List.getD_eq_getElem?_getD]
 refine hK _ ?_
 clear K hK
 refine awpL_call cal65 rfl rfl (fun _ => rfl) (fun hg => known_c q) (fun hg => ?_) (fun hg => ?_) fun K hK => ?_
 · simp [hG, List.getD_cons_zero, List.getD_cons_succ, -List.getD_eq_getElem?_getD]
 · simp [hG, List.getD_cons_zero, List.getD_cons_succ, -List.getD_eq_getElem?_getD]
 simp [hG, List.getD_cons_zero, List.getD_cons_succ, -List.getD_eq_getElem?_getD]
 refine hK _ ?_
 clear K hK
 refine awpL_reg T_ok 2 fun K hK => ?_
 simp [hG, List.getD_cons_zero, List.getD_cons_succ, -List.getD_eq_getElem?_getD]
 refine hK _ ?_
 clear K hK
 refine awpL_nil ?_
 refine awpS_cond rfl (fun hb6 => ?_) (fun hb6 => ?_)
 ·
  try simp [-List.getD_eq_getElem?_getD] at hb6
  refine awpS_seq ?_
  refine awpS_reg T_ok fun K hK => ?_
  simp [hG, List.getD_cons_zero, List.getD_cons_succ, -List.getD_eq_getElem?_getD]
  refine hK _ ?_
  clear K hK
  refine awpS_ret ?_
  refine blockQ_ret (thenQ_ret ?_)
  refine RetOK_of ?_
  simp [hG, List.getD_cons_zero, List.getD_cons_succ, -List.getD_eq_getElem?_getD]
  exact (wordCheck_bad (by omega)).symm
 ·
  try simp [-List.getD_eq_getElem?_getD] at hb6
  refine awpS_seq ?_
  refine awpS_reg T_ok fun K hK => ?_
  simp [hG, List.getD_cons_zero, List.getD_cons_succ, -List.getD_eq_getElem?_getD]
  refine hK _ ?_
  clear K hK
  refine awpS_cond rfl (fun hb10 => ?_) (fun hb10 => ?_)
  ·
   try simp [-List.getD_eq_getElem?_getD] at hb10
   refine awpS_seq ?_
   refine awpS_reg T_ok fun K hK => ?_
   simp [hG, List.getD_cons_zero, List.getD_cons_succ, -List.getD_eq_getElem?_getD]
   refine hK _ ?_
   clear K hK
   refine awpS_ret ?_
   refine blockQ_ret (thenQ_ret ?_)
   refine RetOK_of ?_
   simp [hG, List.getD_cons_zero, List.getD_cons_succ, -List.getD_eq_getElem?_getD]
   exact (wordCheck_long hb6 (by omega)).symm
  ·
   try simp [-List.getD_eq_getElem?_getD] at hb10
   refine awpS_skip ?_
   refine awpS_nil ?_
   refine blockQ_norm (thenQ_norm ?_)
   refine awpS_seq ?_
   refine awpS_seq ?_
   refine awpS_reg T_ok fun K hK => ?_
   simp [hG, List.getD_cons_zero, List.getD_cons_succ, -List.getD_eq_getElem?_getD]
   refine hK _ ?_
   clear K hK
   refine awpS_block ?_
   refine awpS_loop (α := Nat) (fun k => ⟨[(0, .int .i64 q), (1, .str w), (15, .int .i64 w.length), (16, .int .i64 k)], [], 0⟩) (fun k => (1 ≤ q ∧ q ≤ 16) ∧ w.length ≤ 65536 ∧ k ≤ w.length ∧ ∀ j, j < k → 0 ≤ idxB (letters.take q.toNat) (w.getD j 0)) (fun k => w.length - k) (0) (⟨by simpa using hb6, by omega, Nat.zero_le _, fun j hj => absurd hj (Nat.not_lt_zero _)⟩) ?_ ?_
   ·
    refine wk_of (id) (fun _ => false) (fun _ => false) ?_ ?_ rfl (Nat.zero_le _) (fun k hk => absurd hk (Nat.not_lt_zero _))
    · simp [hG, List.getD_cons_zero, List.getD_cons_succ, -List.getD_eq_getElem?_getD]
    · simp [hG, List.getD_cons_zero, List.getD_cons_succ, -List.getD_eq_getElem?_getD]
   ·
    rintro k ⟨hq, hl, hk, hn⟩
    refine awpS_seq ?_
    refine awpS_reg T_ok fun K hK => ?_
    simp [hG, List.getD_cons_zero, List.getD_cons_succ, -List.getD_eq_getElem?_getD]
    refine hK _ ?_
    clear K hK
    refine awpS_seq ?_
    refine awpS_cond rfl (fun hb17 => ?_) (fun hb17 => ?_)
    ·
     try simp [-List.getD_eq_getElem?_getD] at hb17
     refine awpS_skip ?_
     refine awpS_seq ?_
     refine awpS_block ?_
     refine awpS_seq ?_
     refine awpS_reg T_ok fun K hK => ?_
     simp [hG, List.getD_cons_zero, List.getD_cons_succ, -List.getD_eq_getElem?_getD]
     refine hK _ ?_
     clear K hK
     refine awpS_seq ?_
     refine awpS_draw hR mixed [] ⟨[], [], []⟩ fun mu0 => ?_
     refine awpA_tk T_ok [0, 1, 2, 3, 4] [] (fuel := 2) [4, 3, 2, 1, 0] (by decide +kernel) (by decide +kernel) rfl rfl fun K hK => ?_
     simp [hG, List.getD_cons_zero, List.getD_cons_succ, -List.getD_eq_getElem?_getD]
     refine ⟨Cond.mk (by simp [-List.getD_eq_getElem?_getD]; omega), hK _ ?_⟩
     clear K hK
     refine awpA_only (fuel := 1) (i := 5) (by decide +kernel) ?_
     refine awpO_call cal66 rfl rfl rfl (fun _ => rfl) (fun hg => idx_c (letters.take q.toNat) (w.getD k 0)) (fun hg => ?_) (fun hg => ?_) fun K hK => ?_
     · simp [hG, List.getD_cons_zero, List.getD_cons_succ, -List.getD_eq_getElem?_getD]
     · simp [hG]; rfl
     simp [hG, List.getD_cons_zero, List.getD_cons_succ, -List.getD_eq_getElem?_getD]
     refine hK _ ?_
     clear K hK
     refine awpA_tk T_ok [6] [] (fuel := 0) [6, 5, 4, 3, 2, 1, 0] (by decide +kernel) (by decide +kernel) rfl rfl fun K hK => ?_
     simp [hG, List.getD_cons_zero, List.getD_cons_succ, -List.getD_eq_getElem?_getD]
     refine hK _ ?_
     clear K hK
     refine awpA_done (by decide +kernel) ?_
     refine awpS_cond rfl (fun hb25 => ?_) (fun hb25 => ?_)
     ·
      try simp [-List.getD_eq_getElem?_getD] at hb25
      refine awpS_seq ?_
      refine awpS_reg T_ok fun K hK => ?_
      simp [hG, List.getD_cons_zero, List.getD_cons_succ, -List.getD_eq_getElem?_getD]
      refine hK _ ?_
      clear K hK
      refine awpS_ret ?_
      refine blockQ_ret (thenQ_ret ?_)
      refine thenQ_ret (thenQ_ret ?_)
      refine blockQ_ret (thenQ_ret ?_)
      refine RetOK_of ?_
      simp [hG, List.getD_cons_zero, List.getD_cons_succ, -List.getD_eq_getElem?_getD]
      exact (wordCheck_not hq hl hb17 hb25).symm
     ·
      try simp [-List.getD_eq_getElem?_getD] at hb25
      refine awpS_skip ?_
      refine awpS_nil ?_
      refine blockQ_norm (thenQ_norm ?_)
      refine awpS_reg T_ok fun K hK => ?_
      simp [hG, List.getD_cons_zero, List.getD_cons_succ, -List.getD_eq_getElem?_getD]
      refine ⟨Cond.mk (by omega), hK _ ?_⟩
      clear K hK
      refine awpS_nil ?_
      refine round_end (k + 1) (⟨hq, hl, by omega, step_all hn (by omega)⟩) (by omega) ?_
      refine wk_of (id) (fun _ => false) (fun _ => false) ?_ ?_ rfl (Nat.zero_le _) (fun k hk => absurd hk (Nat.not_lt_zero _))
      · simp [hG, List.getD_cons_zero, List.getD_cons_succ, -List.getD_eq_getElem?_getD]
      · simp [hG, List.getD_cons_zero, List.getD_cons_succ, -List.getD_eq_getElem?_getD]
    ·
     try simp [-List.getD_eq_getElem?_getD] at hb17
     refine awpS_exit ?_
     refine thenQ_exit (thenQ_exit ?_)
     refine blockQ_exit (thenQ_norm ?_)
     refine awpS_seq ?_
     refine awpS_reg T_ok fun K hK => ?_
     simp [hG, List.getD_cons_zero, List.getD_cons_succ, -List.getD_eq_getElem?_getD]
     refine hK _ ?_
     clear K hK
     refine awpS_ret ?_
     refine RetOK_of ?_
     simp [hG, List.getD_cons_zero, List.getD_cons_succ, -List.getD_eq_getElem?_getD]
     exact (wordCheck_ok hq hl (fun j hj => hn j (by omega))).symm

set_option maxRecDepth 100000 in
theorem check_c (e : Enc) : PC Try.prog 25 [.agg 4 (encF e)] (.int .i64 (checkE e)) := by
 refine PC_introS T_ok Try.func25 rfl (by simp [Try.ntmps25]) fun G hG hR => ?_
 simp only [Try.ntmps25, Try.results25] at hG ⊢
 simp only [argEnv, Nat.zero_add, Nat.reduceAdd]
 refine awpS_seq ?_
 refine awpS_reg T_ok fun K hK => ?_
 simp [hG, List.getD_cons_zero, List.getD_cons_succ, -List.getD_eq_getElem?_getD]
 refine ⟨Cond.mk (by simp [-List.getD_eq_getElem?_getD]), hK _ ?_⟩
 clear K hK
 refine awpS_seq ?_
 refine awpS_block ?_
 refine awpS_seq ?_
 refine awpS_reg T_ok fun K hK => ?_
 simp [hG, List.getD_cons_zero, List.getD_cons_succ, -List.getD_eq_getElem?_getD]
 refine ⟨Cond.mk (by simp [-List.getD_eq_getElem?_getD]), hK _ ?_⟩
 clear K hK
 refine awpS_cond rfl (fun hb7 => ?_) (fun hb7 => ?_)
 ·
  try simp [-List.getD_eq_getElem?_getD] at hb7
  refine awpS_seq ?_
  refine awpS_reg T_ok fun K hK => ?_
  simp [hG, List.getD_cons_zero, List.getD_cons_succ, -List.getD_eq_getElem?_getD]
  refine hK _ ?_
  clear K hK
  refine awpS_ret ?_
  refine blockQ_ret (thenQ_ret ?_)
  refine RetOK_of ?_
  simp [hG, List.getD_cons_zero, List.getD_cons_succ, -List.getD_eq_getElem?_getD]
  exact (checkE_letters (by omega)).symm
 ·
  try simp [-List.getD_eq_getElem?_getD] at hb7
  refine awpS_seq ?_
  refine awpS_reg T_ok fun K hK => ?_
  simp [hG, List.getD_cons_zero, List.getD_cons_succ, -List.getD_eq_getElem?_getD]
  refine ⟨Cond.mk (by simp [-List.getD_eq_getElem?_getD]), hK _ ?_⟩
  clear K hK
  refine awpS_cond rfl (fun hb16 => ?_) (fun hb16 => ?_)
  ·
   try simp [-List.getD_eq_getElem?_getD] at hb16
   refine awpS_seq ?_
   refine awpS_reg T_ok fun K hK => ?_
   simp [hG, List.getD_cons_zero, List.getD_cons_succ, -List.getD_eq_getElem?_getD]
   refine hK _ ?_
   clear K hK
   refine awpS_ret ?_
   refine blockQ_ret (thenQ_ret ?_)
   refine RetOK_of ?_
   simp [hG, List.getD_cons_zero, List.getD_cons_succ, -List.getD_eq_getElem?_getD]
   exact (checkE_range hb7 (by omega)).symm
  ·
   try simp [-List.getD_eq_getElem?_getD] at hb16
   refine awpS_seq ?_
   refine awpS_reg T_ok fun K hK => ?_
   simp [hG, List.getD_cons_zero, List.getD_cons_succ, -List.getD_eq_getElem?_getD]
   refine hK _ ?_
   clear K hK
   refine awpS_cond rfl (fun hb35 => ?_) (fun hb35 => ?_)
   ·
    try simp [-List.getD_eq_getElem?_getD] at hb35
    refine awpS_seq ?_
    refine awpS_reg T_ok fun K hK => ?_
    simp [hG, List.getD_cons_zero, List.getD_cons_succ, -List.getD_eq_getElem?_getD]
    refine hK _ ?_
    clear K hK
    refine awpS_ret ?_
    refine blockQ_ret (thenQ_ret ?_)
    refine RetOK_of ?_
    simp [hG, List.getD_cons_zero, List.getD_cons_succ, -List.getD_eq_getElem?_getD]
    exact (checkE_empty ⟨by omega, by omega, by omega⟩ (by rw [hb35]; rfl)).symm
   ·
    try simp [-List.getD_eq_getElem?_getD] at hb35
    refine awpS_seq ?_
    refine awpS_reg T_ok fun K hK => ?_
    simp [hG, List.getD_cons_zero, List.getD_cons_succ, -List.getD_eq_getElem?_getD]
    refine hK _ ?_
    clear K hK
    refine awpS_cond rfl (fun hb40 => ?_) (fun hb40 => ?_)
    ·
     try simp [-List.getD_eq_getElem?_getD] at hb40
     refine awpS_seq ?_
     refine awpS_reg T_ok fun K hK => ?_
     simp [hG, List.getD_cons_zero, List.getD_cons_succ, -List.getD_eq_getElem?_getD]
     refine hK _ ?_
     clear K hK
     refine awpS_ret ?_
     refine blockQ_ret (thenQ_ret ?_)
     refine RetOK_of ?_
     simp [hG, List.getD_cons_zero, List.getD_cons_succ, -List.getD_eq_getElem?_getD]
     exact (checkE_limit ⟨by omega, by omega, by omega⟩ (by omega)).symm
    ·
     try simp [-List.getD_eq_getElem?_getD] at hb40
     refine awpS_skip ?_
     refine awpS_nil ?_
     refine blockQ_norm (thenQ_norm ?_)
     refine awpS_seq ?_
     refine awpS_seq ?_
     refine awpS_reg T_ok fun K hK => ?_
     simp [hG, List.getD_cons_zero, List.getD_cons_succ, -List.getD_eq_getElem?_getD]
     refine hK _ ?_
     clear K hK
     refine awpS_block ?_
     refine awpS_loop (α := Nat) (fun k => ⟨[(1, .ptr (0, 0) 0 0), (46, rowsC e.rows), (47, .int .i64 e.rows.length), (48, .int .i64 k)], [(0, .one (.arr 1 4 (fun _ => encF e)))], 1⟩) (fun k => Dims e ∧ 0 < e.rows.length ∧ e.rows.length ≤ 64 ∧ k ≤ e.rows.length ∧ ∀ j, j < k → rowCheck e (e.rows.getD j []) = 0) (fun k => e.rows.length - k) (0) (⟨⟨by omega, by omega, by omega⟩, List.length_pos_iff.2 hb35, by omega, Nat.zero_le _, fun j hj => absurd hj (Nat.not_lt_zero _)⟩) ?_ ?_
     ·
      refine wk_of (id) (fun _ => false) (fun _ => false) ?_ ?_ rfl (Nat.zero_le _) (fun k hk => absurd hk (Nat.not_lt_zero _))
      · simp [hG, List.getD_cons_zero, List.getD_cons_succ, -List.getD_eq_getElem?_getD]
      · simp [hG, List.getD_cons_zero, List.getD_cons_succ, -List.getD_eq_getElem?_getD]
     ·
      rintro k ⟨hd, hp, hl, hk, hn⟩
      refine awpS_seq ?_
      refine awpS_reg T_ok fun K hK => ?_
      simp [hG, List.getD_cons_zero, List.getD_cons_succ, -List.getD_eq_getElem?_getD]
      refine hK _ ?_
      clear K hK
      refine awpS_seq ?_
      refine awpS_cond rfl (fun hb49 => ?_) (fun hb49 => ?_)
      ·
       try simp [-List.getD_eq_getElem?_getD] at hb49
       refine awpS_skip ?_
       refine awpS_seq ?_
       refine awpS_block ?_
       refine awpS_seq ?_
       refine awpS_reg T_ok fun K hK => ?_
       simp [hG, List.getD_cons_zero, List.getD_cons_succ, -List.getD_eq_getElem?_getD]
       refine ⟨Cond.mk (by omega), hK _ ?_⟩
       clear K hK
       refine awpS_seq ?_
       refine awpS_seq ?_
       refine awpS_reg T_ok fun K hK => ?_
       simp [hG, List.getD_cons_zero, List.getD_cons_succ, -List.getD_eq_getElem?_getD]
       refine hK _ ?_
       clear K hK
       refine awpS_cond rfl (fun hb56 => ?_) (fun hb56 => ?_)
       ·
        try simp [-List.getD_eq_getElem?_getD] at hb56
        refine awpS_seq ?_
        refine awpS_reg T_ok fun K hK => ?_
        simp [hG, List.getD_cons_zero, List.getD_cons_succ, -List.getD_eq_getElem?_getD]
        refine hK _ ?_
        clear K hK
        refine awpS_ret ?_
        refine blockQ_ret (thenQ_ret ?_)
        refine thenQ_ret (thenQ_ret ?_)
        refine blockQ_ret (thenQ_ret ?_)
        refine RetOK_of ?_
        simp [hG, List.getD_cons_zero, List.getD_cons_succ, -List.getD_eq_getElem?_getD]
        exact (checkE_row hd hp hl hb49 hn (rowCheck_len hb56) (by decide)).symm
       ·
        try simp [-List.getD_eq_getElem?_getD] at hb56
        refine awpS_skip ?_
        refine awpS_seq ?_
        refine awpS_reg T_ok fun K hK => ?_
        simp [hG, List.getD_cons_zero, List.getD_cons_succ, -List.getD_eq_getElem?_getD]
        refine hK _ ?_
        clear K hK
        refine awpS_block ?_
        refine awpS_loop (α := Nat) (fun i => ⟨[(1, .ptr (0, 0) 0 0), (46, rowsC e.rows), (47, .int .i64 e.rows.length), (48, .int .i64 k), (57, cells (e.rows.getD k [])), (58, .int .i64 (e.rows.getD k []).length), (59, .int .i64 i)], [(0, .one (.arr 1 4 (fun _ => encF e)))], 1⟩) (fun i => i ≤ (e.rows.getD k []).length ∧ ∀ j, j < i → cellCheck e ((e.rows.getD k []).getD j dc) = 0) (fun i => (e.rows.getD k []).length - i) (0) (⟨Nat.zero_le _, fun j hj => absurd hj (Nat.not_lt_zero _)⟩) ?_ ?_
        ·
         refine wk_of (id) (fun _ => false) (fun _ => false) ?_ ?_ rfl (Nat.zero_le _) (fun k hk => absurd hk (Nat.not_lt_zero _))
         · simp [hG, List.getD_cons_zero, List.getD_cons_succ, -List.getD_eq_getElem?_getD]
         · simp [hG, List.getD_cons_zero, List.getD_cons_succ, -List.getD_eq_getElem?_getD]
        ·
         rintro i ⟨hi, hm⟩
         refine awpS_seq ?_
         refine awpS_reg T_ok fun K hK => ?_
         simp [hG, List.getD_cons_zero, List.getD_cons_succ, -List.getD_eq_getElem?_getD]
         refine hK _ ?_
         clear K hK
         refine awpS_seq ?_
         refine awpS_cond rfl (fun hb60 => ?_) (fun hb60 => ?_)
         ·
          try simp [-List.getD_eq_getElem?_getD] at hb60
          refine awpS_skip ?_
          refine awpS_seq ?_
          refine awpS_block ?_
          refine awpS_seq ?_
          refine awpS_reg T_ok fun K hK => ?_
          simp [hG, List.getD_cons_zero, List.getD_cons_succ, -List.getD_eq_getElem?_getD]
          refine ⟨Cond.mk (by simp [-List.getD_eq_getElem?_getD]; omega), hK _ ?_⟩
          clear K hK
          refine awpS_seq ?_
          refine awpS_seq ?_
          refine awpS_reg T_ok fun K hK => ?_
          simp [hG, List.getD_cons_zero, List.getD_cons_succ, -List.getD_eq_getElem?_getD]
          refine ⟨Cond.mk (by simp [-List.getD_eq_getElem?_getD]), hK _ ?_⟩
          clear K hK
          refine awpS_cond rfl (fun hb73 => ?_) (fun hb73 => ?_)
          ·
           try simp [-List.getD_eq_getElem?_getD] at hb73
           refine awpS_seq ?_
           refine awpS_reg T_ok fun K hK => ?_
           simp [hG, List.getD_cons_zero, List.getD_cons_succ, -List.getD_eq_getElem?_getD]
           refine hK _ ?_
           clear K hK
           refine awpS_ret ?_
           refine blockQ_ret (thenQ_ret ?_)
           refine thenQ_ret (thenQ_ret ?_)
           refine blockQ_ret (thenQ_ret ?_)
           refine blockQ_ret (thenQ_ret ?_)
           refine thenQ_ret (thenQ_ret ?_)
           refine blockQ_ret (thenQ_ret ?_)
           refine RetOK_of ?_
           simp [hG, List.getD_cons_zero, List.getD_cons_succ, -List.getD_eq_getElem?_getD]
           exact (checkE_row hd hp hl hb49 hn (rowCheck_cell hb56 hb60 hm (cellCheck_to hb73) (by decide)) (by decide)).symm
          ·
           try simp [-List.getD_eq_getElem?_getD] at hb73
           refine awpS_skip ?_
           refine awpS_seq ?_
           refine awpS_regL ?_
           refine awpL_reg T_ok 11 fun K hK => ?_
           simp [hG, List.getD_cons_zero, List.getD_cons_succ, -List.getD_eq_getElem?_getD]
           refine ⟨Cond.mk (by simp [-List.getD_eq_getElem?_getD]), hK _ ?_⟩
           clear K hK
           refine awpL_call cal45 rfl rfl (fun _ => rfl) (fun hg => wcheck_c e.letters ((e.rows.getD k []).getD i dc).word) (fun hg => ?_) (fun hg => ?_) fun K hK => ?_
           · first | (simp [hG, List.getD_cons_zero, List.getD_cons_succ, -List.getD_eq_getElem?_getD]; done) | (simp [-List.getD_eq_getElem?_getD] at hg; done) | (simp [-List.getD_eq_getElem?_getD] at hg; simp [hG, List.getD_cons_zero, List.getD_cons_succ, -List.getD_eq_getElem?_getD]; first | omega | exact hg | (simp_all [-List.getD_eq_getElem?_getD]; done) | (simp_all [-List.getD_eq_getElem?_getD]; first | exact ⟨rfl, rfl⟩ | exact rfl))
           · first | (simp [hG, List.getD_cons_zero, List.getD_cons_succ, -List.getD_eq_getElem?_getD]; done) | (simp [-List.getD_eq_getElem?_getD] at hg; done) | (simp [-List.getD_eq_getElem?_getD] at hg; simp [hG, List.getD_cons_zero, List.getD_cons_succ, -List.getD_eq_getElem?_getD]; first | omega | exact hg | (simp_all [-List.getD_eq_getElem?_getD]; done) | (simp_all [-List.getD_eq_getElem?_getD]; first | exact ⟨rfl, rfl⟩ | exact rfl))
           simp [hG, List.getD_cons_zero, List.getD_cons_succ, -List.getD_eq_getElem?_getD]
           refine hK _ ?_
           clear K hK
           refine awpL_reg T_ok 2 fun K hK => ?_
           simp [hG, List.getD_cons_zero, List.getD_cons_succ, -List.getD_eq_getElem?_getD]
           refine ⟨Cond.mk (by simp [-List.getD_eq_getElem?_getD]), hK _ ?_⟩
           clear K hK
           refine awpL_nil ?_
           refine awpS_cond rfl (fun hb87 => ?_) (fun hb87 => ?_)
           ·
            try simp [-List.getD_eq_getElem?_getD] at hb87
            refine awpS_seq ?_
            refine awpS_reg T_ok fun K hK => ?_
            simp [hG, List.getD_cons_zero, List.getD_cons_succ, -List.getD_eq_getElem?_getD]
            refine hK _ ?_
            clear K hK
            refine awpS_ret ?_
            refine blockQ_ret (thenQ_ret ?_)
            refine thenQ_ret (thenQ_ret ?_)
            refine blockQ_ret (thenQ_ret ?_)
            refine blockQ_ret (thenQ_ret ?_)
            refine thenQ_ret (thenQ_ret ?_)
            refine blockQ_ret (thenQ_ret ?_)
            refine RetOK_of ?_
            simp [hG, List.getD_cons_zero, List.getD_cons_succ, -List.getD_eq_getElem?_getD]
            exact (checkE_row hd hp hl hb49 hn (rowCheck_cell hb56 hb60 hm (cellCheck_word hb73 hb87) (by decide)) (by decide)).symm
           ·
            try simp [-List.getD_eq_getElem?_getD] at hb87
            refine awpS_skip ?_
            refine awpS_nil ?_
            refine blockQ_norm (thenQ_norm ?_)
            refine awpS_reg T_ok fun K hK => ?_
            simp [hG, List.getD_cons_zero, List.getD_cons_succ, -List.getD_eq_getElem?_getD]
            refine ⟨Cond.mk (by omega), hK _ ?_⟩
            clear K hK
            refine awpS_nil ?_
            refine round_end (i + 1) (⟨by omega, step_all hm (cellCheck_ok hb73 hb87)⟩) (by omega) ?_
            refine wk_of (id) (fun _ => false) (fun _ => false) ?_ ?_ rfl (Nat.zero_le _) (fun k hk => absurd hk (Nat.not_lt_zero _))
            · simp [hG, List.getD_cons_zero, List.getD_cons_succ, -List.getD_eq_getElem?_getD]
            · simp [hG, List.getD_cons_zero, List.getD_cons_succ, -List.getD_eq_getElem?_getD]
         ·
          try simp [-List.getD_eq_getElem?_getD] at hb60
          refine awpS_exit ?_
          refine thenQ_exit (thenQ_exit ?_)
          refine blockQ_exit (thenQ_norm ?_)
          refine awpS_nil ?_
          refine blockQ_norm (thenQ_norm ?_)
          refine awpS_reg T_ok fun K hK => ?_
          simp [hG, List.getD_cons_zero, List.getD_cons_succ, -List.getD_eq_getElem?_getD]
          refine ⟨Cond.mk (by omega), hK _ ?_⟩
          clear K hK
          refine awpS_nil ?_
          refine round_end (k + 1) (⟨hd, hp, hl, by omega, step_all hn (rowCheck_ok hb56 (fun j hj => hm j (by omega)))⟩) (by omega) ?_
          refine wk_of (id) (fun _ => false) (fun _ => false) ?_ ?_ rfl (Nat.zero_le _) (fun k hk => absurd hk (Nat.not_lt_zero _))
          · simp [hG, List.getD_cons_zero, List.getD_cons_succ, -List.getD_eq_getElem?_getD]
          · simp [hG, List.getD_cons_zero, List.getD_cons_succ, -List.getD_eq_getElem?_getD]
      ·
       try simp [-List.getD_eq_getElem?_getD] at hb49
       refine awpS_exit ?_
       refine thenQ_exit (thenQ_exit ?_)
       refine blockQ_exit (thenQ_norm ?_)
       refine awpS_seq ?_
       refine awpS_reg T_ok fun K hK => ?_
       simp [hG, List.getD_cons_zero, List.getD_cons_succ, -List.getD_eq_getElem?_getD]
       refine hK _ ?_
       clear K hK
       refine awpS_ret ?_
       refine RetOK_of ?_
       simp [hG, List.getD_cons_zero, List.getD_cons_succ, -List.getD_eq_getElem?_getD]
       exact ((checkE_rows hd hp hl).trans (firstNZ_zero fun j hj => hn j (by omega))).symm

end Go.Proofs.Ytmjkbidnghcfnaa
