/-
 Walks: the shares of the reference; what is too great; lists and rounds compared.
-/
import Derived.Test.YthpdkmoedpcboaaWC
import Derived.Test.YthpdkmoedpcboaaVE
namespace Go.Proofs.Ythpdkmoedpcboaa
set_option linter.unusedSimpArgs false
set_option linter.unusedVariables false
open Go Go.Lift Go.Proofs
section
variable {g : Gr} {v : List Int} {m : Int} {x : Spl}
theorem wtB_yes (h : ∀ j, j < x.parts.length → 1 ≤ wtI g v m x j) (h2 : m * wtI g v m x (x.parts.length - 1) ≤ psV g v (x.parts.getD (x.parts.length - 1) [])) : wtB g v m x = true := by
 unfold wtB
 rw [Bool.and_eq_true, decide_eq_true_eq]
 refine ⟨List.all_eq_true.2 fun n hn => ?_, h2⟩
 unfold wtL wtA at hn
 obtain ⟨j, hj, rfl⟩ := List.mem_map.1 hn
 exact decide_eq_true (h j (List.mem_range.1 hj))
end
def greatV (v : List Int) : Bool := (v.any fun n => decide (12 < n ∧ n ≤ 4096)) || decide (8 < v.length)
theorem spl_ext {a b : Spl} (h1 : a.st = b.st) (h2 : a.parts = b.parts) : a = b := by
 cases a; cases b; simp only at h1 h2; subst h1 h2; rfl
theorem list_ext {α : Type} {d : α} {a b : List α} (hl : a.length = b.length) (h : ∀ j, j < a.length → a.getD j d = b.getD j d) : a = b := by
 refine List.ext_getElem hl fun j h1 h2 => ?_
 have := h j h1
 simpa [List.getD, h1, h2] using this
set_option maxRecDepth 100000 in
theorem sameL_c (a b : List Int) (ha : a.length ≤ maxLen) : PC Try.prog 15 [ints a, ints b] (.bool (decide (a = b))) := by
 have hML : maxLen = 9223372036854775807 := by decide
 refine PC_introS T_ok Try.func15 rfl (by simp [Try.ntmps15]) fun G hG hR => ?_
 simp only [Try.ntmps15, Try.results15] at hG ⊢
 simp only [argEnv, Nat.zero_add, Nat.reduceAdd]
 refine awpS_seq ?_
 refine awpS_reg T_ok fun K hK => ?_
 simp [hG, List.getD_cons_zero, List.getD_cons_succ, -List.getD_eq_getElem?_getD]
 refine hK _ ?_
 clear K hK
 refine awpS_seq ?_
 refine awpS_seq ?_
 refine awpS_reg T_ok fun K hK => ?_
 simp [hG, List.getD_cons_zero, List.getD_cons_succ, -List.getD_eq_getElem?_getD]
 refine hK _ ?_
 clear K hK
 refine awpS_cond rfl (fun hb10 => ?_) (fun hb10 => ?_)
 ·
  try simp [-List.getD_eq_getElem?_getD] at hb10
  refine awpS_seq ?_
  refine awpS_reg T_ok fun K hK => ?_
  simp [hG, List.getD_cons_zero, List.getD_cons_succ, -List.getD_eq_getElem?_getD]
  refine hK _ ?_
  clear K hK
  refine awpS_ret ?_
  refine RetOK_of ?_
  simp [hG, List.getD_cons_zero, List.getD_cons_succ, -List.getD_eq_getElem?_getD]
  intro h; rw [h] at hb10; omega
 ·
  try simp [-List.getD_eq_getElem?_getD] at hb10
  refine awpS_skip ?_
  refine awpS_seq ?_
  refine awpS_seq ?_
  refine awpS_reg T_ok fun K hK => ?_
  simp [hG, List.getD_cons_zero, List.getD_cons_succ, -List.getD_eq_getElem?_getD]
  refine hK _ ?_
  clear K hK
  refine awpS_block ?_
  refine awpS_loop (α := Nat) (fun k => ⟨[(0, ints a), (1, ints b), (5, .int .i64 k)], [], 0⟩) (fun k => a.length = b.length ∧ k ≤ a.length ∧ ∀ j, j < k → a.getD j 0 = b.getD j 0) (fun k => a.length - k) (0) (⟨by omega, Nat.zero_le _, fun j hj => absurd hj (Nat.not_lt_zero _)⟩) ?_ ?_
  ·
   refine wk_of (id) (fun _ => false) (fun _ => false) ?_ ?_ rfl (Nat.zero_le _) (fun k hk => absurd hk (Nat.not_lt_zero _))
   · simp [hG, List.getD_cons_zero, List.getD_cons_succ, -List.getD_eq_getElem?_getD]
   · simp [hG, List.getD_cons_zero, List.getD_cons_succ, -List.getD_eq_getElem?_getD]
  ·
   rintro k ⟨h3, hk, hn⟩
   refine awpS_seq ?_
   refine awpS_seq ?_
   refine awpS_reg T_ok fun K hK => ?_
   simp [hG, List.getD_cons_zero, List.getD_cons_succ, -List.getD_eq_getElem?_getD]
   refine hK _ ?_
   clear K hK
   refine awpS_cond rfl (fun hb14 => ?_) (fun hb14 => ?_)
   ·
    try simp [-List.getD_eq_getElem?_getD] at hb14
    refine awpS_skip ?_
    refine awpS_seq ?_
    refine awpS_block ?_
    refine awpS_seq ?_
    refine awpS_draw hR mixed [] ⟨[], [], []⟩ fun mu0 => ?_
    refine awpA_tk T_ok [0, 1, 2, 3, 4, 5, 6, 7, 8] [] (fuel := 0) [8, 7, 6, 5, 4, 3, 2, 1, 0] (by decide +kernel) (by decide +kernel) rfl rfl fun K hK => ?_
    simp [hG, List.getD_cons_zero, List.getD_cons_succ, -List.getD_eq_getElem?_getD]
    refine ⟨Cond.mk (by omega), hK _ ?_⟩
    clear K hK
    refine awpA_done (by decide +kernel) ?_
    refine awpS_cond rfl (fun hb25 => ?_) (fun hb25 => ?_)
    ·
     try simp [-List.getD_eq_getElem?_getD] at hb25
     refine awpS_seq ?_
     refine awpS_reg T_ok fun K hK => ?_
     simp [hG, List.getD_cons_zero, List.getD_cons_succ, -List.getD_eq_getElem?_getD]
     refine hK _ ?_
     clear K hK
     refine awpS_ret ?_
     refine blockQ_ret (thenQ_ret ?_)
     refine thenQ_ret (thenQ_ret ?_)
     refine blockQ_ret (thenQ_ret ?_)
     refine RetOK_of ?_
     simp [hG, List.getD_cons_zero, List.getD_cons_succ, -List.getD_eq_getElem?_getD]
     intro h; rw [h] at hb25; exact hb25 rfl
    ·
     try simp [-List.getD_eq_getElem?_getD] at hb25
     refine awpS_skip ?_
     refine awpS_nil ?_
     refine blockQ_norm (thenQ_norm ?_)
     refine awpS_reg T_ok fun K hK => ?_
     simp [hG, List.getD_cons_zero, List.getD_cons_succ, -List.getD_eq_getElem?_getD]
     refine ⟨Cond.mk (by omega), hK _ ?_⟩
     clear K hK
     refine awpS_nil ?_
     refine round_end (k + 1) (⟨h3, by omega, step_all hn hb25⟩) (by omega) ?_
     refine wk_of (id) (fun _ => false) (fun _ => false) ?_ ?_ rfl (Nat.zero_le _) (fun k hk => absurd hk (Nat.not_lt_zero _))
     · simp [hG, List.getD_cons_zero, List.getD_cons_succ, -List.getD_eq_getElem?_getD]
     · simp [hG, List.getD_cons_zero, List.getD_cons_succ, -List.getD_eq_getElem?_getD]
   ·
    try simp [-List.getD_eq_getElem?_getD] at hb14
    refine awpS_exit ?_
    refine thenQ_exit (thenQ_exit ?_)
    refine blockQ_exit (thenQ_norm ?_)
    refine awpS_seq ?_
    refine awpS_reg T_ok fun K hK => ?_
    simp [hG, List.getD_cons_zero, List.getD_cons_succ, -List.getD_eq_getElem?_getD]
    refine hK _ ?_
    clear K hK
    refine awpS_ret ?_
    refine RetOK_of ?_
    simp [hG, List.getD_cons_zero, List.getD_cons_succ, -List.getD_eq_getElem?_getD]
    exact intsEq h3 fun j hj => hn j (by omega)

set_option maxRecDepth 100000 in
theorem greatV_c (v : List Int) (hl : v.length ≤ maxLen) : PC Try.prog 7 [ints v] (.bool (greatV v)) := by
 have hML : maxLen = 9223372036854775807 := by decide
 refine PC_introS T_ok Try.func7 rfl (by simp [Try.ntmps7]) fun G hG hR => ?_
 simp only [Try.ntmps7, Try.results7] at hG ⊢
 simp only [argEnv, Nat.zero_add, Nat.reduceAdd]
 refine awpS_seq ?_
 refine awpS_reg T_ok fun K hK => ?_
 simp [hG, List.getD_cons_zero, List.getD_cons_succ, -List.getD_eq_getElem?_getD, pureOp]
 refine hK _ ?_
 clear K hK
 refine awpS_seq ?_
 refine awpS_seq ?_
 refine awpS_reg T_ok fun K hK => ?_
 simp [hG, List.getD_cons_zero, List.getD_cons_succ, -List.getD_eq_getElem?_getD, pureOp]
 refine hK _ ?_
 clear K hK
 refine awpS_block ?_
 refine awpS_loop (α := Nat) (fun i => ⟨[(0, ints v), (3, .int .i64 i)], [], 0⟩) (fun i => i ≤ v.length ∧ ∀ j, j < i → decide (12 < v.getD j 0 ∧ v.getD j 0 ≤ 4096) = false) (fun i => v.length - i) (0) (⟨Nat.zero_le _, fun j hj => absurd hj (Nat.not_lt_zero _)⟩) ?_ ?_
 ·
  refine wk_of (id) (fun _ => false) (fun _ => false) ?_ ?_ rfl (Nat.zero_le _) (fun k hk => absurd hk (Nat.not_lt_zero _))
  · simp [hG, List.getD_cons_zero, List.getD_cons_succ, -List.getD_eq_getElem?_getD, pureOp]
  · simp [hG, List.getD_cons_zero, List.getD_cons_succ, -List.getD_eq_getElem?_getD, pureOp]
 ·
  rintro i ⟨hi, hn⟩
  refine awpS_seq ?_
  refine awpS_seq ?_
  refine awpS_reg T_ok fun K hK => ?_
  simp [hG, List.getD_cons_zero, List.getD_cons_succ, -List.getD_eq_getElem?_getD, pureOp]
  refine hK _ ?_
  clear K hK
  refine awpS_cond rfl (fun hb7 => ?_) (fun hb7 => ?_)
  ·
   try simp [-List.getD_eq_getElem?_getD] at hb7
   refine awpS_skip ?_
   refine awpS_seq ?_
   refine awpS_block ?_
   refine awpS_seq ?_
   refine awpS_reg T_ok fun K hK => ?_
   simp [hG, List.getD_cons_zero, List.getD_cons_succ, -List.getD_eq_getElem?_getD, pureOp]
   refine ⟨Cond.mk (by omega), hK _ ?_⟩
   clear K hK
   refine awpS_cond rfl (fun hb21 => ?_) (fun hb21 => ?_)
   ·
    try simp [-List.getD_eq_getElem?_getD] at hb21
    refine awpS_seq ?_
    refine awpS_reg T_ok fun K hK => ?_
    simp [hG, List.getD_cons_zero, List.getD_cons_succ, -List.getD_eq_getElem?_getD, pureOp]
    refine hK _ ?_
    clear K hK
    refine awpS_ret ?_
    refine blockQ_ret (thenQ_ret ?_)
    refine thenQ_ret (thenQ_ret ?_)
    refine blockQ_ret (thenQ_ret ?_)
    refine RetOK_of ?_
    simp [hG, List.getD_cons_zero, List.getD_cons_succ, -List.getD_eq_getElem?_getD, pureOp]
    unfold greatV; rw [any_hit (f := fun n => decide (12 < n ∧ n ≤ 4096)) (d := (0 : Int)) (i := i) (by omega) (decide_eq_true (by omega))]; rfl
   ·
    try simp [-List.getD_eq_getElem?_getD] at hb21
    refine awpS_skip ?_
    refine awpS_nil ?_
    refine blockQ_norm (thenQ_norm ?_)
    refine awpS_reg T_ok fun K hK => ?_
    simp [hG, List.getD_cons_zero, List.getD_cons_succ, -List.getD_eq_getElem?_getD, pureOp]
    refine ⟨Cond.mk (by omega), hK _ ?_⟩
    clear K hK
    refine awpS_nil ?_
    refine round_end (i + 1) (⟨by omega, step_all hn (decide_eq_false (by omega))⟩) (by omega) ?_
    refine wk_of (id) (fun _ => false) (fun _ => false) ?_ ?_ rfl (Nat.zero_le _) (fun k hk => absurd hk (Nat.not_lt_zero _))
    · simp [hG, List.getD_cons_zero, List.getD_cons_succ, -List.getD_eq_getElem?_getD, pureOp]
    · simp [hG, List.getD_cons_zero, List.getD_cons_succ, -List.getD_eq_getElem?_getD, pureOp]
  ·
   try simp [-List.getD_eq_getElem?_getD] at hb7
   refine awpS_exit ?_
   refine thenQ_exit (thenQ_exit ?_)
   refine blockQ_exit (thenQ_norm ?_)
   refine awpS_seq ?_
   refine awpS_reg T_ok fun K hK => ?_
   simp [hG, List.getD_cons_zero, List.getD_cons_succ, -List.getD_eq_getElem?_getD, pureOp]
   refine hK _ ?_
   clear K hK
   refine awpS_ret ?_
   refine RetOK_of ?_
   simp [hG, List.getD_cons_zero, List.getD_cons_succ, -List.getD_eq_getElem?_getD, pureOp]
   unfold greatV; rw [any_miss (f := fun n => decide (12 < n ∧ n ≤ 4096)) (d := (0 : Int)) (fun j hj => hn j (by omega)), Bool.false_or]; congr 1; simp only [eq_iff_iff]; omega

end Go.Proofs.Ythpdkmoedpcboaa
