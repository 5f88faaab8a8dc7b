/-
 Walks: numerals, keys of sets.
-/
import Derived.Test.YtdojahjhijkbhaaGreatDoorQM
import Derived.Test.YtdojahjhijkbhaaGreatDoorVB
namespace Go.Proofs.YtdojahjhijkbhaaGreatDoor
set_option linter.unusedSimpArgs false
set_option linter.unusedVariables false
open Go Go.Lift Go.Proofs

theorem key_ne {x : List Int} {k : Nat} (hk : 0 < k) (h : k ≤ x.length) : keyS (x.take k) ≠ [] := by
 obtain ⟨j, rfl⟩ : ∃ j, k = j + 1 := ⟨k - 1, by omega⟩
 rw [keyS_succ (by omega)]
 simp
theorem key_take {x : List Int} {k : Nat} (h : k ≤ x.length) : (keyS (x.take k)).length ≤ 3 * x.length := by
 have h1 := keyS_len (x.take k)
 rw [List.length_take] at h1
 omega
set_option maxRecDepth 100000 in
theorem small_c (n : Int) (h : 0 ≤ n ∧ n < 100) : PC Tryz.prog 123 [.int .i64 n] (.str (itoa2 n)) := by
 refine PC_introS T_ok Tryz.func123 rfl (by simp [Tryz.ntmps123]) fun G hG hR => ?_
 simp only [Tryz.ntmps123, Tryz.results123] at hG ⊢
 simp only [argEnv, Nat.zero_add, Nat.reduceAdd]
 refine awpS_seq ?_
 refine awpS_reg T_ok fun K hK => ?_
 simp [hG, List.getD_cons_zero, List.getD_cons_succ, -List.getD_eq_getElem?_getD]
 refine hK _ ?_
 clear K hK
 refine awpS_seq ?_
 refine awpS_seq ?_
 refine awpS_reg T_ok fun K hK => ?_
 simp [hG, List.getD_cons_zero, List.getD_cons_succ, -List.getD_eq_getElem?_getD]
 refine hK _ ?_
 clear K hK
 refine awpS_cond rfl (fun hb4 => ?_) (fun hb4 => ?_)
 ·
  try simp [-List.getD_eq_getElem?_getD] at hb4
  refine awpS_seq ?_
  refine awpS_reg T_ok fun K hK => ?_
  simp [hG, List.getD_cons_zero, List.getD_cons_succ, -List.getD_eq_getElem?_getD]
  refine ⟨Cond.mk (by simp [-List.getD_eq_getElem?_getD]; omega), hK _ ?_⟩
  clear K hK
  refine awpS_ret ?_
  refine RetOK_of ?_
  simp [hG, List.getD_cons_zero, List.getD_cons_succ, -List.getD_eq_getElem?_getD]
  obtain ⟨m, rfl⟩ : ∃ m : Nat, n = m := ⟨n.toNat, by omega⟩; have hm : m < 10 := (by omega); clear h hb4; revert m; decide
 ·
  try simp [-List.getD_eq_getElem?_getD] at hb4
  refine awpS_skip ?_
  refine awpS_seq ?_
  refine awpS_reg T_ok fun K hK => ?_
  simp [hG, List.getD_cons_zero, List.getD_cons_succ, -List.getD_eq_getElem?_getD]
  refine ⟨Cond.mk (by simp [-List.getD_eq_getElem?_getD]; omega), hK _ ?_⟩
  clear K hK
  refine awpS_ret ?_
  refine RetOK_of ?_
  simp [hG, List.getD_cons_zero, List.getD_cons_succ, -List.getD_eq_getElem?_getD]
  obtain ⟨m, rfl⟩ : ∃ m : Nat, n = m := ⟨n.toNat, by omega⟩; have hm : m < 100 := (by omega); have hm2 : 10 ≤ m := (by omega); clear h hb4; revert m; decide +kernel

set_option maxRecDepth 100000 in
theorem formatInt_c (n : Int) (h : 0 ≤ n ∧ n < 100) : PC Tryz.prog 99 [.int .i64 n, .int .i64 10] (.str (itoa2 n)) := by
 refine PC_introS T_ok Tryz.func99 rfl (by simp [Tryz.ntmps99]) fun G hG hR => ?_
 simp only [Tryz.ntmps99, Tryz.results99] at hG ⊢
 simp only [argEnv, Nat.zero_add, Nat.reduceAdd]
 refine awpS_seq ?_
 refine awpS_reg T_ok fun K hK => ?_
 simp [hG, List.getD_cons_zero, List.getD_cons_succ, -List.getD_eq_getElem?_getD]
 refine hK _ ?_
 clear K hK
 refine awpS_seq ?_
 refine awpS_seq ?_
 refine awpS_reg T_ok fun K hK => ?_
 simp [hG, List.getD_cons_zero, List.getD_cons_succ, -List.getD_eq_getElem?_getD]
 refine hK _ ?_
 clear K hK
 refine awpS_cond rfl (fun hb11 => ?_) (fun hb11 => ?_)
 ·
  try simp [-List.getD_eq_getElem?_getD] at hb11
  refine awpS_seq ?_
  refine awpS_seq ?_
  refine awpS_reg T_ok fun K hK => ?_
  simp [hG, List.getD_cons_zero, List.getD_cons_succ, -List.getD_eq_getElem?_getD]
  refine ⟨Cond.mk (by simp [-List.getD_eq_getElem?_getD]), hK _ ?_⟩
  clear K hK
  refine awpS_cond rfl (fun hb17 => ?_) (fun hb17 => ?_)
  ·
   try simp [-List.getD_eq_getElem?_getD] at hb17
   refine awpS_seq ?_
   refine awpS_regL ?_
   refine awpL_reg T_ok 1 fun K hK => ?_
   simp [hG, List.getD_cons_zero, List.getD_cons_succ, -List.getD_eq_getElem?_getD]
   refine hK _ ?_
   clear K hK
   refine awpL_call cal123 rfl rfl (fun _ => rfl) (fun hg => small_c n h) (fun hg => ?_) (fun hg => ?_) fun K hK => ?_
   · simp [hG, List.getD_cons_zero, List.getD_cons_succ, -List.getD_eq_getElem?_getD]
   · simp [hG, List.getD_cons_zero, List.getD_cons_succ, -List.getD_eq_getElem?_getD]
   simp [hG, List.getD_cons_zero, List.getD_cons_succ, -List.getD_eq_getElem?_getD]
   refine hK _ ?_
   clear K hK
   refine awpL_reg T_ok 1 fun K hK => ?_
   simp [hG, List.getD_cons_zero, List.getD_cons_succ, -List.getD_eq_getElem?_getD]
   refine hK _ ?_
   clear K hK
   refine awpL_nil ?_
   refine awpS_ret ?_
   refine RetOK_of ?_
   simp [hG, List.getD_cons_zero, List.getD_cons_succ, -List.getD_eq_getElem?_getD]
  ·
   exact absurd hb17 (by simp; omega)
 ·
  exact absurd hb11 (by simp)

set_option maxRecDepth 100000 in
theorem itoaI_c (n : Int) (h : 0 ≤ n ∧ n < 100) : PC Tryz.prog 82 [.int .i64 n] (.str (itoa2 n)) := by
 refine PC_introS T_ok Tryz.func82 rfl (by simp [Tryz.ntmps82]) fun G hG hR => ?_
 simp only [Tryz.ntmps82, Tryz.results82] at hG ⊢
 simp only [argEnv, Nat.zero_add, Nat.reduceAdd]
 refine awpS_seq ?_
 refine awpS_reg T_ok fun K hK => ?_
 simp [hG, List.getD_cons_zero, List.getD_cons_succ, -List.getD_eq_getElem?_getD]
 refine hK _ ?_
 clear K hK
 refine awpS_seq ?_
 refine awpS_regL ?_
 refine awpL_reg T_ok 1 fun K hK => ?_
 simp [hG, List.getD_cons_zero, List.getD_cons_succ, -List.getD_eq_getElem?_getD]
 refine hK _ ?_
 clear K hK
 refine awpL_call cal99 rfl rfl (fun _ => rfl) (fun hg => formatInt_c n h) (fun hg => ?_) (fun hg => ?_) fun K hK => ?_
 · simp [hG, List.getD_cons_zero, List.getD_cons_succ, -List.getD_eq_getElem?_getD]
 · simp [hG, List.getD_cons_zero, List.getD_cons_succ, -List.getD_eq_getElem?_getD]
 simp [hG, List.getD_cons_zero, List.getD_cons_succ, -List.getD_eq_getElem?_getD]
 refine hK _ ?_
 clear K hK
 refine awpL_reg T_ok 1 fun K hK => ?_
 simp [hG, List.getD_cons_zero, List.getD_cons_succ, -List.getD_eq_getElem?_getD]
 refine hK _ ?_
 clear K hK
 refine awpL_nil ?_
 refine awpS_ret ?_
 refine RetOK_of ?_
 simp [hG, List.getD_cons_zero, List.getD_cons_succ, -List.getD_eq_getElem?_getD]

set_option maxRecDepth 100000 in
theorem itoa_c (n : Int) (h : 0 ≤ n ∧ n < 100) : PC Tryz.prog 52 [.int .i64 n] (.str (itoa2 n)) := by
 refine PC_introS T_ok Tryz.func52 rfl (by simp [Tryz.ntmps52]) fun G hG hR => ?_
 simp only [Tryz.ntmps52, Tryz.results52] at hG ⊢
 simp only [argEnv, Nat.zero_add, Nat.reduceAdd]
 refine awpS_seq ?_
 refine awpS_reg T_ok fun K hK => ?_
 simp [hG, List.getD_cons_zero, List.getD_cons_succ, -List.getD_eq_getElem?_getD]
 refine hK _ ?_
 clear K hK
 refine awpS_seq ?_
 refine awpS_regL ?_
 refine awpL_reg T_ok 1 fun K hK => ?_
 simp [hG, List.getD_cons_zero, List.getD_cons_succ, -List.getD_eq_getElem?_getD]
 refine hK _ ?_
 clear K hK
 refine awpL_call cal82 rfl rfl (fun _ => rfl) (fun hg => itoaI_c n h) (fun hg => ?_) (fun hg => ?_) fun K hK => ?_
 · simp [hG, List.getD_cons_zero, List.getD_cons_succ, -List.getD_eq_getElem?_getD]
 · simp [hG, List.getD_cons_zero, List.getD_cons_succ, -List.getD_eq_getElem?_getD]
 simp [hG, List.getD_cons_zero, List.getD_cons_succ, -List.getD_eq_getElem?_getD]
 refine hK _ ?_
 clear K hK
 refine awpL_reg T_ok 1 fun K hK => ?_
 simp [hG, List.getD_cons_zero, List.getD_cons_succ, -List.getD_eq_getElem?_getD]
 refine hK _ ?_
 clear K hK
 refine awpL_nil ?_
 refine awpS_ret ?_
 refine RetOK_of ?_
 simp [hG, List.getD_cons_zero, List.getD_cons_succ, -List.getD_eq_getElem?_getD]

set_option maxRecDepth 100000 in
theorem key_c (x : List Int) (hx : Small x) (hl : x.length ≤ 1000) : PC Tryz.prog 89 [ints x] (.str (keyS x)) := by
 refine PC_introS T_ok Tryz.func89 rfl (by simp [Tryz.ntmps89]) fun G hG hR => ?_
 simp only [Tryz.ntmps89, Tryz.results89] at hG ⊢
 simp only [argEnv, Nat.zero_add, Nat.reduceAdd]
 refine awpS_seq ?_
 refine awpS_reg T_ok fun K hK => ?_
 simp [hG, List.getD_cons_zero, List.getD_cons_succ, -List.getD_eq_getElem?_getD, keyS_nil, List.take_zero]
 refine hK _ ?_
 clear K hK
 refine awpS_seq ?_
 refine awpS_reg T_ok fun K hK => ?_
 simp [hG, List.getD_cons_zero, List.getD_cons_succ, -List.getD_eq_getElem?_getD, keyS_nil, List.take_zero]
 refine hK _ ?_
 clear K hK
 refine awpS_seq ?_
 refine awpS_seq ?_
 refine awpS_reg T_ok fun K hK => ?_
 simp [hG, List.getD_cons_zero, List.getD_cons_succ, -List.getD_eq_getElem?_getD, keyS_nil, List.take_zero]
 refine hK _ ?_
 clear K hK
 refine awpS_block ?_
 refine awpS_loop (α := Nat) (fun k => ⟨[(3, .ptr (0, 0) 0 0), (6, ints x), (7, .int .i64 x.length), (8, .int .i64 k)], [(0, .typ 68 (.arr 1 2 (fun _ j => bF (selfQ (posB k)) (bufA (posB k) 1 (keyS (x.take k)).length) j))), (1, .typ 5 (.arr (keyS (x.take k)).length 1 (byF (keyS (x.take k)))))], 2⟩) (fun k => k ≤ x.length) (fun k => x.length - k) (0) (Nat.zero_le _) ?_ ?_
 ·
  refine wk_of (fun k => k) (fun _ => false) (fun k => k == 1) ?_ ?_ rfl (Nat.zero_le _) (fun k hk => absurd hk (Nat.not_lt_zero _))
  · simp [hG, List.getD_cons_zero, List.getD_cons_succ, -List.getD_eq_getElem?_getD, keyS_nil, List.take_zero]
  · simp [hG, List.getD_cons_zero, List.getD_cons_succ, -List.getD_eq_getElem?_getD]; rfl
 ·
  rintro k hk
  refine awpS_seq ?_
  refine awpS_reg T_ok fun K hK => ?_
  simp [hG, List.getD_cons_zero, List.getD_cons_succ, -List.getD_eq_getElem?_getD, keyS_nil, List.take_zero]
  refine hK _ ?_
  clear K hK
  refine awpS_seq ?_
  refine awpS_cond rfl (fun hb9 => ?_) (fun hb9 => ?_)
  ·
   try simp [-List.getD_eq_getElem?_getD] at hb9
   have hkl : k < x.length := (by omega)
   have hE := keyS_succ hkl
   have hi2 := itoa2_len (a := x.getD k 0)
   refine awpS_skip ?_
   refine awpS_seq ?_
   refine awpS_block ?_
   refine awpS_seq ?_
   refine awpS_reg T_ok fun K hK => ?_
   simp [hG, List.getD_cons_zero, List.getD_cons_succ, -List.getD_eq_getElem?_getD, keyS_nil, List.take_zero]
   refine ⟨Cond.mk (by omega), hK _ ?_⟩
   clear K hK
   refine awpS_regL ?_
   refine awpL_reg T_ok 1 fun K hK => ?_
   simp [hG, List.getD_cons_zero, List.getD_cons_succ, -List.getD_eq_getElem?_getD, keyS_nil, List.take_zero]
   refine hK _ ?_
   clear K hK
   refine awpL_call cal52 rfl rfl (fun _ => rfl) (fun hg => itoa_c (x.getD k 0) (hx _ (getD_mem (by omega)))) (fun hg => ?_) (fun hg => ?_) fun K hK => ?_
   · simp [hG, List.getD_cons_zero, List.getD_cons_succ, -List.getD_eq_getElem?_getD, keyS_nil, List.take_zero]
   · simp [hG, List.getD_cons_zero, List.getD_cons_succ, -List.getD_eq_getElem?_getD, keyS_nil, List.take_zero]
   simp [hG, List.getD_cons_zero, List.getD_cons_succ, -List.getD_eq_getElem?_getD, keyS_nil, List.take_zero]
   refine hK _ ?_
   clear K hK
   refine awpL_reg T_ok 1 fun K hK => ?_
   simp [hG, List.getD_cons_zero, List.getD_cons_succ, -List.getD_eq_getElem?_getD, keyS_nil, List.take_zero]
   refine ⟨Cond.mk (by omega), hK _ ?_⟩
   clear K hK
   refine awpL_fc cal50 [0, 1] (fun _ => false) (writeK_c (posB k) (keyS (x.take k)) (itoa2 (x.getD k 0) ++ [32]) (by have := key_take (x := x) hk; have := (itoa2_len (a := x.getD k 0)).1; simp only [List.length_append, List.length_singleton]; omega)) rfl rfl rfl (by simp) (.inl fun _ => rfl) ?_ ?_ ?_ fun K hK x hI hno => ?_
   · simp [hG, List.getD_cons_zero, List.getD_cons_succ, -List.getD_eq_getElem?_getD, keyS_nil, List.take_zero]
   · simp [hG, List.getD_cons_zero, List.getD_cons_succ, -List.getD_eq_getElem?_getD, keyS_nil, List.take_zero]
   · simp [hG, List.getD_cons_zero, List.getD_cons_succ, -List.getD_eq_getElem?_getD]; cases hp : posB k with
     | true => exact .inl rfl
     | false => rw [posB_no hp]; exact .inr ⟨rfl, rfl⟩
   simp [hG, List.getD_cons_zero, List.getD_cons_succ, -List.getD_eq_getElem?_getD, keyS_nil, List.take_zero]
   refine hK _ ?_
   clear K hK
   refine awpL_nil ?_
   refine awpS_nil ?_
   refine blockQ_norm (thenQ_norm ?_)
   refine awpS_reg T_ok fun K hK => ?_
   simp [hG, List.getD_cons_zero, List.getD_cons_succ, -List.getD_eq_getElem?_getD, keyS_nil, List.take_zero]
   refine ⟨Cond.mk (by omega), hK _ ?_⟩
   clear K hK
   refine awpS_nil ?_
   refine round_end (k + 1) (by omega) (by omega) ?_
   refine wk_of (fun k => if k = 1 then 2 else k) (fun _ => false) (fun _ => false) ?_ ?_ rfl (Nat.zero_le _) (fun k hk => absurd hk (Nat.not_lt_zero _))
   · simp [hG, List.getD_cons_zero, List.getD_cons_succ, -List.getD_eq_getElem?_getD, keyS_nil, List.take_zero]
   · rw [hE]; simp [hG, List.getD_cons_zero, List.getD_cons_succ, -List.getD_eq_getElem?_getD]
  ·
   try simp [-List.getD_eq_getElem?_getD] at hb9
   obtain rfl : k = x.length := (by omega)
   refine awpS_exit ?_
   refine thenQ_exit (thenQ_exit ?_)
   refine blockQ_exit (thenQ_norm ?_)
   refine awpS_seq ?_
   by_cases hsp : posB x.length = true
   ·
    have hwne := key_ne (posB_yes hsp) (Nat.le_refl x.length)
    refine awpS_regL ?_
    refine awpL_fc cal36 [0, 1] (fun _ => false) (stringB (S := 2) (off := 0) (hin := [(0, .typ 68 (.arr 1 2 (fun _ j => bF (selfQ true) (.sl (1, 0) 0 ((keyS (x.take x.length))).length) j))), (1, .typ 5 (.arr ((keyS (x.take x.length))).length 1 (byF ((keyS (x.take x.length))))))]) (nin := 2) (l := (keyS (x.take x.length))) (id := (1, 0)) rfl (by omega) rfl rfl rfl (Nat.le_refl _) hwne (fun i hi => rfl) (by have := key_take (x := x) (Nat.le_refl _); omega)) rfl rfl rfl (by simp) (.inl fun _ => rfl) ?_ ?_ ?_ fun K hK x hI hno => ?_
    · simp [hG, List.getD_cons_zero, List.getD_cons_succ, -List.getD_eq_getElem?_getD, keyS_nil, List.take_zero, hsp]
    · simp [hG, List.getD_cons_zero, List.getD_cons_succ, -List.getD_eq_getElem?_getD, keyS_nil, List.take_zero, hsp]
    · simp [hG, List.getD_cons_zero, List.getD_cons_succ, -List.getD_eq_getElem?_getD, keyS_nil, List.take_zero, hsp]
    simp [hG, List.getD_cons_zero, List.getD_cons_succ, -List.getD_eq_getElem?_getD, keyS_nil, List.take_zero, hsp]
    refine hK _ ?_
    clear K hK
    refine awpL_reg T_ok 1 fun K hK => ?_
    simp [hG, List.getD_cons_zero, List.getD_cons_succ, -List.getD_eq_getElem?_getD, keyS_nil, List.take_zero, hsp]
    refine hK _ ?_
    clear K hK
    refine awpL_nil ?_
    refine awpS_ret ?_
    refine RetOK_of ?_
    simp [hG, List.getD_cons_zero, List.getD_cons_succ, -List.getD_eq_getElem?_getD, keyS_nil, List.take_zero, hsp]
   ·
    have hl0 := posB_no (by simpa using hsp)
    refine awpS_regL ?_
    refine awpL_fc cal36 [0] (fun _ => false) (stringNilB (S := 2) (off := 0) (hin := [(0, .typ 68 (.arr 1 2 (fun _ j => bF (selfQ false) .nils j)))]) (nin := 1) rfl (by omega) rfl) rfl rfl rfl (by simp) (.inl fun _ => rfl) ?_ ?_ ?_ fun K hK x hI hno => ?_
    · simp [hG, List.getD_cons_zero, List.getD_cons_succ, -List.getD_eq_getElem?_getD, keyS_nil, List.take_zero, hsp]
    · simp [hG, List.getD_cons_zero, List.getD_cons_succ, -List.getD_eq_getElem?_getD, keyS_nil, List.take_zero, hsp]
    · simp [hG, List.getD_cons_zero, List.getD_cons_succ, -List.getD_eq_getElem?_getD, keyS_nil, List.take_zero, hsp]
    simp [hG, List.getD_cons_zero, List.getD_cons_succ, -List.getD_eq_getElem?_getD, keyS_nil, List.take_zero, hsp]
    refine hK _ ?_
    clear K hK
    refine awpL_reg T_ok 1 fun K hK => ?_
    simp [hG, List.getD_cons_zero, List.getD_cons_succ, -List.getD_eq_getElem?_getD, keyS_nil, List.take_zero, hsp]
    refine hK _ ?_
    clear K hK
    refine awpL_nil ?_
    refine awpS_ret ?_
    refine RetOK_of ?_
    simp [hG, List.getD_cons_zero, List.getD_cons_succ, -List.getD_eq_getElem?_getD, keyS_nil, List.take_zero, hsp]
    obtain rfl := List.length_eq_zero_iff.1 hl0; rfl

end Go.Proofs.YtdojahjhijkbhaaGreatDoor
