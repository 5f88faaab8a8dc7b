/-
  Walks: parts that divide a list, by the program.
-/
import Derived.Test.YthpdkmoedpcboaaWD
namespace Go.Proofs.Ythpdkmoedpcboaa
set_option linter.unusedSimpArgs false
set_option linter.unusedVariables false
open Go Go.Lift Go.Proofs

def SortedI (l : List Int) : Prop := ∀ i, i + 1 < l.length → l.getD i 0 ≤ l.getD (i + 1) 0
open Classical in
noncomputable def sortedB (l : List Int) : Bool := decide (SortedI l)
theorem sorted_next {l : List Int} {v : Nat} (hv : 2 ≤ v) (hn : ∀ j, v ≤ j + 1 → j + 1 < l.length → l.getD j 0 ≤ l.getD (j + 1) 0) (h : l.getD (v - 2) 0 ≤ l.getD (v - 1) 0) : ∀ j, v - 1 ≤ j + 1 → j + 1 < l.length → l.getD j 0 ≤ l.getD (j + 1) 0 := fun j h1 h2 => by
  by_cases e : v ≤ j + 1
  · exact hn j e h2
  · obtain rfl : j = v - 2 := by omega
    rw [show v - 2 + 1 = v - 1 by omega]; exact h
open Classical in
theorem sorted_no {l : List Int} {v : Nat} (hv : 2 ≤ v) (hl : v ≤ l.length) (h : l.getD (v - 1) 0 < l.getD (v - 2) 0) : sortedB l = false := decide_eq_false fun hs => by
  have := hs (v - 2) (by omega)
  rw [show v - 2 + 1 = v - 1 by omega] at this
  omega
open Classical in
theorem sorted_yes {l : List Int} {v : Nat} (hv : v ≤ 1) (hn : ∀ j, v ≤ j + 1 → j + 1 < l.length → l.getD j 0 ≤ l.getD (j + 1) 0) : sortedB l = true := decide_eq_true fun i hi => hn i (by omega) hi
theorem sortAny_c (l : List Int) (hl : l.length ≤ 1000000) :
    FC1 Try.prog 52 [.sl (0, 0) 0 l.length] [(0, .one (.arr l.length 1 (fun i _ => .int .i64 (l.getD i 0))))] 1 .any [(0, .one (.arr l.length 1 (fun i _ => .int .i64 ((srtI l).getD i 0))))] 1 := by
  rcases Nat.eq_zero_or_pos l.length with h | h
  · obtain rfl := List.length_eq_zero_iff.1 h
    have e : srtI [] = [] := List.length_eq_zero_iff.1 (by rw [srtI_len]; rfl)
    rw [e]
    exact sortI0_c
  · exact sortI_pos l h hl
def flA (L : List (List Int)) (i : Nat) : List Int := (L.take i).flatten
theorem flA_zero {L : List (List Int)} : flA L 0 = [] := rfl
theorem flA_succ {L : List (List Int)} {i : Nat} (h : i < L.length) : flA L (i + 1) = flA L i ++ L.getD i [] := by
  unfold flA
  rw [List.take_add_one, List.getElem?_eq_getElem h, List.flatten_append]
  simp [List.getD, h]
theorem flA_all {L : List (List Int)} : flA L L.length = L.flatten := by unfold flA; rw [List.take_length]
theorem flA_len {L : List (List Int)} (h : ∀ p ∈ L, p.length ≤ 1024) : ∀ i, i ≤ L.length → (flA L i).length ≤ i * 1024
  | 0, _ => Nat.le_refl _
  | i + 1, hi => by
    have h1 := flA_len h i (by omega)
    have h2 := h _ (getD_mem (d := []) (show i < L.length by omega))
    rw [flA_succ (by omega), List.length_append]
    omega
theorem app_list {K P : List Int} {q : Nat} (hq : q < K.length + P.length) : app (fun p _ => AVal.int .i64 (K.getD p 0)) K.length (fun i _ => AVal.int .i64 (P.getD i 0)) q 0 = .int .i64 ((K ++ P).getD q 0) := by
  unfold app
  by_cases h : q < K.length
  · rw [if_pos h]; simp [List.getD, List.getElem?_append_left h]
  · rw [if_neg h]; simp [List.getD, List.getElem?_append_right (Nat.le_of_not_lt h)]
noncomputable def divB (L : List (List Int)) (l : List Int) : Bool := (L.all fun p => !decide (p = []) && sortedB p) && (decide (1 < L.length) && decide (srtI L.flatten = l))
theorem div_no {L : List (List Int)} {l : List Int} {i : Nat} (hi : i < L.length) (h : L.getD i [] = [] ∨ sortedB (L.getD i []) = false) : divB L l = false := by
  unfold divB
  rw [Bool.and_eq_false_iff]
  refine .inl (List.all_eq_false.2 ⟨L.getD i [], getD_mem hi, ?_⟩)
  rcases h with h | h
  · rw [h]; simp
  · rw [h]; simp
theorem div_at {L : List (List Int)} {l : List Int} (h : ∀ j, j < L.length → L.getD j [] ≠ [] ∧ sortedB (L.getD j []) = true) : divB L l = (decide (1 < L.length) && decide (srtI L.flatten = l)) := by
  unfold divB
  rw [List.all_eq_true.2, Bool.true_and]
  intro p hp
  obtain ⟨j, hj, rfl⟩ := List.mem_iff_getElem.1 hp
  have := h j hj
  simp only [List.getD, List.getElem?_eq_getElem hj, Option.getD_some] at this
  simp [this]
set_option maxRecDepth 100000 in
theorem less_c (x y : Int) : PC Try.prog 66 [.int .i64 x, .int .i64 y] (.bool (decide (x < y))) := by
  refine PC_introS T_ok Try.func66 rfl (by simp [Try.ntmps66]) fun G hG hR => ?_
  simp only [Try.ntmps66, Try.results66] at hG ⊢
  simp only [argEnv, Nat.zero_add, Nat.reduceAdd]
  refine awpS_seq ?_
  refine awpS_reg T_ok fun K hK => ?_
  simp [hG, List.getD_cons_zero, List.getD_cons_succ, -List.getD_eq_getElem?_getD]
  refine hK _ ?_
  clear K hK
  refine awpS_seq ?_
  refine awpS_regL ?_
  refine awpL_reg T_ok 1 fun K hK => ?_
  simp [hG, List.getD_cons_zero, List.getD_cons_succ, -List.getD_eq_getElem?_getD]
  refine hK _ ?_
  clear K hK
  refine awpL_call cal85 rfl rfl (fun _ => rfl) (fun hg => nanI_c x) (fun hg => ?_) (fun hg => ?_) fun K hK => ?_
  · simp [hG, List.getD_cons_zero, List.getD_cons_succ, -List.getD_eq_getElem?_getD]
  · simp [hG, List.getD_cons_zero, List.getD_cons_succ, -List.getD_eq_getElem?_getD]
  simp [hG, List.getD_cons_zero, List.getD_cons_succ, -List.getD_eq_getElem?_getD]
  refine hK _ ?_
  clear K hK
  refine awpL_reg T_ok 2 fun K hK => ?_
  simp [hG, List.getD_cons_zero, List.getD_cons_succ, -List.getD_eq_getElem?_getD]
  refine ⟨Cond.mk (by exact trivial), hK _ ?_⟩
  clear K hK
  refine awpL_call cal85 rfl rfl (fun _ => rfl) (fun hg => nanI_c y) (fun hg => ?_) (fun hg => ?_) fun K hK => ?_
  · first | (simp [hG, List.getD_cons_zero, List.getD_cons_succ, -List.getD_eq_getElem?_getD]; done) | (simp [-List.getD_eq_getElem?_getD] at hg; done) | (simp [-List.getD_eq_getElem?_getD] at hg; simp [hG, List.getD_cons_zero, List.getD_cons_succ, -List.getD_eq_getElem?_getD]; first | omega | exact hg | (simp_all [-List.getD_eq_getElem?_getD]; done) | (simp_all [-List.getD_eq_getElem?_getD]; first | exact ⟨rfl, rfl⟩ | exact rfl))
  · first | (simp [hG, List.getD_cons_zero, List.getD_cons_succ, -List.getD_eq_getElem?_getD]; done) | (simp [-List.getD_eq_getElem?_getD] at hg; done) | (simp [-List.getD_eq_getElem?_getD] at hg; simp [hG, List.getD_cons_zero, List.getD_cons_succ, -List.getD_eq_getElem?_getD]; first | omega | exact hg | (simp_all [-List.getD_eq_getElem?_getD]; done) | (simp_all [-List.getD_eq_getElem?_getD]; first | exact ⟨rfl, rfl⟩ | exact rfl))
  simp [hG, List.getD_cons_zero, List.getD_cons_succ, -List.getD_eq_getElem?_getD]
  refine hK _ ?_
  clear K hK
  refine awpL_reg T_ok 8 fun K hK => ?_
  simp [hG, List.getD_cons_zero, List.getD_cons_succ, -List.getD_eq_getElem?_getD]
  refine ⟨Cond.mk (by simp [-List.getD_eq_getElem?_getD]), hK _ ?_⟩
  clear K hK
  refine awpL_nil ?_
  refine awpS_ret ?_
  refine RetOK_of ?_
  simp [hG, List.getD_cons_zero, List.getD_cons_succ, -List.getD_eq_getElem?_getD]

set_option maxRecDepth 100000 in
theorem isSorted_c (l : List Int) (hl : l.length ≤ 1000000) : PC Try.prog 51 [ints l] (.bool (sortedB l)) := by
  refine PC_introS T_ok Try.func51 rfl (by simp [Try.ntmps51]) fun G hG hR => ?_
  simp only [Try.ntmps51, Try.results51] at hG ⊢
  simp only [argEnv, Nat.zero_add, Nat.reduceAdd]
  refine awpS_seq ?_
  refine awpS_reg T_ok fun K hK => ?_
  simp [hG, List.getD_cons_zero, List.getD_cons_succ, -List.getD_eq_getElem?_getD]
  refine hK _ ?_
  clear K hK
  refine awpS_seq ?_
  refine awpS_seq ?_
  refine awpS_reg T_ok fun K hK => ?_
  simp [hG, List.getD_cons_zero, List.getD_cons_succ, -List.getD_eq_getElem?_getD]
  refine ⟨Cond.mk (by omega), hK _ ?_⟩
  clear K hK
  refine awpS_block ?_
  refine awpS_loop (α := Nat) (fun v => ⟨[(0, ints l), (3, .int .i64 ((v : Int) - 1))], [], 0⟩) (fun v => v ≤ l.length ∧ ∀ j, v ≤ j + 1 → j + 1 < l.length → l.getD j 0 ≤ l.getD (j + 1) 0) (fun v => v) (l.length) (⟨Nat.le_refl _, fun j h1 h2 => absurd h2 (by omega)⟩) ?_ ?_
  ·
    refine wk_of (id) (fun _ => false) (fun _ => false) ?_ ?_ rfl (Nat.zero_le _) (fun k hk => absurd hk (Nat.not_lt_zero _))
    · simp [hG, List.getD_cons_zero, List.getD_cons_succ, -List.getD_eq_getElem?_getD]
    · simp [hG, List.getD_cons_zero, List.getD_cons_succ, -List.getD_eq_getElem?_getD]
  ·
    rintro v ⟨hv, hn⟩
    refine awpS_seq ?_
    refine awpS_seq ?_
    refine awpS_reg T_ok fun K hK => ?_
    simp [hG, List.getD_cons_zero, List.getD_cons_succ, -List.getD_eq_getElem?_getD]
    refine hK _ ?_
    clear K hK
    refine awpS_cond rfl (fun hb8 => ?_) (fun hb8 => ?_)
    ·
      try simp [-List.getD_eq_getElem?_getD] at hb8
      refine awpS_skip ?_
      refine awpS_seq ?_
      refine awpS_block ?_
      refine awpS_seq ?_
      refine awpS_draw hR mixed [] ⟨[], [], []⟩ fun mu0 => ?_
      refine awpA_tk T_ok [0, 1, 2, 3, 4, 5, 6, 7, 8] [] (fuel := 1) [8, 7, 6, 5, 4, 3, 2, 1, 0] (by decide +kernel) (by decide +kernel) rfl rfl fun K hK => ?_
      simp [hG, List.getD_cons_zero, List.getD_cons_succ, -List.getD_eq_getElem?_getD]
      refine ⟨Cond.mk (by omega), hK _ ?_⟩
      clear K hK
      refine awpA_only (fuel := 0) (i := 9) (by decide +kernel) ?_
      refine awpO_call cal66 rfl rfl rfl (fun _ => rfl) (fun hg => less_c (l.getD (v - 1) 0) (l.getD (v - 2) 0)) (fun hg => ?_) (fun hg => ?_) fun K hK => ?_
      · simp [hG, List.getD_cons_zero, List.getD_cons_succ, -List.getD_eq_getElem?_getD]
      · simp [hG, List.getD_cons_zero, List.getD_cons_succ, -List.getD_eq_getElem?_getD]; rw [Nat.sub_sub]
      simp [hG, List.getD_cons_zero, List.getD_cons_succ, -List.getD_eq_getElem?_getD]
      refine hK _ ?_
      clear K hK
      refine awpA_done (by decide +kernel) ?_
      refine awpS_cond rfl (fun hb20 => ?_) (fun hb20 => ?_)
      ·
        try simp [-List.getD_eq_getElem?_getD] at hb20
        refine awpS_seq ?_
        refine awpS_reg T_ok fun K hK => ?_
        simp [hG, List.getD_cons_zero, List.getD_cons_succ, -List.getD_eq_getElem?_getD]
        refine hK _ ?_
        clear K hK
        refine awpS_ret ?_
        refine blockQ_ret (thenQ_ret ?_)
        refine thenQ_ret (thenQ_ret ?_)
        refine blockQ_ret (thenQ_ret ?_)
        refine RetOK_of ?_
        simp [hG, List.getD_cons_zero, List.getD_cons_succ, -List.getD_eq_getElem?_getD]
        exact sorted_no (by omega) hv hb20
      ·
        try simp [-List.getD_eq_getElem?_getD] at hb20
        refine awpS_skip ?_
        refine awpS_nil ?_
        refine blockQ_norm (thenQ_norm ?_)
        refine awpS_reg T_ok fun K hK => ?_
        simp [hG, List.getD_cons_zero, List.getD_cons_succ, -List.getD_eq_getElem?_getD]
        refine ⟨Cond.mk (by omega), hK _ ?_⟩
        clear K hK
        refine awpS_nil ?_
        refine round_end ((v - 1)) (⟨by omega, sorted_next (by omega) hn hb20⟩) (by omega) ?_
        refine wk_of (id) (fun _ => false) (fun _ => false) ?_ ?_ rfl (Nat.zero_le _) (fun k hk => absurd hk (Nat.not_lt_zero _))
        · simp [hG, List.getD_cons_zero, List.getD_cons_succ, -List.getD_eq_getElem?_getD]; omega
        · simp [hG, List.getD_cons_zero, List.getD_cons_succ, -List.getD_eq_getElem?_getD]
    ·
      try simp [-List.getD_eq_getElem?_getD] at hb8
      refine awpS_exit ?_
      refine thenQ_exit (thenQ_exit ?_)
      refine blockQ_exit (thenQ_norm ?_)
      refine awpS_seq ?_
      refine awpS_reg T_ok fun K hK => ?_
      simp [hG, List.getD_cons_zero, List.getD_cons_succ, -List.getD_eq_getElem?_getD]
      refine hK _ ?_
      clear K hK
      refine awpS_ret ?_
      refine RetOK_of ?_
      simp [hG, List.getD_cons_zero, List.getD_cons_succ, -List.getD_eq_getElem?_getD]
      exact sorted_yes (by omega) hn

set_option maxRecDepth 100000 in
theorem divC_c (L : List (List Int)) (l : List Int) (hn : L.length ≤ 900) (hp : ∀ p ∈ L, p.length ≤ 1024) : PC Try.prog 31 [rowsI L, ints l] (.bool (divB L l)) := by
  refine PC_introS T_ok Try.func31 rfl (by simp [Try.ntmps31]) fun G hG hR => ?_
  simp only [Try.ntmps31, Try.results31] at hG ⊢
  simp only [argEnv, Nat.zero_add, Nat.reduceAdd]
  refine awpS_seq ?_
  refine awpS_reg T_ok fun K hK => ?_
  simp [hG, List.getD_cons_zero, List.getD_cons_succ, -List.getD_eq_getElem?_getD, pureOp]
  refine hK _ ?_
  clear K hK
  refine awpS_seq ?_
  refine awpS_reg T_ok fun K hK => ?_
  simp [hG, List.getD_cons_zero, List.getD_cons_succ, -List.getD_eq_getElem?_getD, pureOp]
  refine hK _ ?_
  clear K hK
  refine awpS_seq ?_
  refine awpS_seq ?_
  refine awpS_reg T_ok fun K hK => ?_
  simp [hG, List.getD_cons_zero, List.getD_cons_succ, -List.getD_eq_getElem?_getD, pureOp]
  refine hK _ ?_
  clear K hK
  refine awpS_block ?_
  refine awpS_loop (α := Nat) (fun i => ⟨[(0, rowsI L), (1, ints l), (5, .sl (0, 0) 0 (flA L i).length), (8, rowsI L), (9, .int .i64 L.length), (10, .int .i64 i)], [(0, .one (.arr (flA L i).length 1 (fun p _ => .int .i64 ((flA L i).getD p 0))))], 1⟩) (fun i => i ≤ L.length ∧ ∀ j, j < i → L.getD j [] ≠ [] ∧ sortedB (L.getD j []) = true) (fun i => L.length - i) (0) (⟨Nat.zero_le _, fun j hj => absurd hj (Nat.not_lt_zero _)⟩) ?_ ?_
  ·
    refine wk_of (id) (fun _ => false) (fun k => k == 0) ?_ ?_ rfl (Nat.zero_le _) (fun k hk => absurd hk (Nat.not_lt_zero _))
    · rw [flA_zero]; simp [hG, List.getD_cons_zero, List.getD_cons_succ, -List.getD_eq_getElem?_getD]
    · rw [flA_zero]; simp [hG, List.getD_cons_zero, List.getD_cons_succ, -List.getD_eq_getElem?_getD]
  ·
    rintro i ⟨hi, hn2⟩
    refine awpS_seq ?_
    refine awpS_reg T_ok fun K hK => ?_
    simp [hG, List.getD_cons_zero, List.getD_cons_succ, -List.getD_eq_getElem?_getD, pureOp]
    refine hK _ ?_
    clear K hK
    refine awpS_seq ?_
    refine awpS_cond rfl (fun hb11 => ?_) (fun hb11 => ?_)
    ·
      try simp [-List.getD_eq_getElem?_getD] at hb11
      have hil : i < L.length := (by omega)
      have hpl := hp _ (getD_mem (d := ([] : List Int)) hil)
      have hfs := flA_succ hil
      have hfl := flA_len hp i (by omega)
      refine awpS_skip ?_
      refine awpS_seq ?_
      refine awpS_block ?_
      refine awpS_seq ?_
      refine awpS_reg T_ok fun K hK => ?_
      simp [hG, List.getD_cons_zero, List.getD_cons_succ, -List.getD_eq_getElem?_getD, pureOp]
      refine ⟨Cond.mk (by omega), hK _ ?_⟩
      clear K hK
      refine awpS_seq ?_
      refine awpS_seq ?_
      refine awpS_regL ?_
      refine awpL_reg T_ok 5 fun K hK => ?_
      simp [hG, List.getD_cons_zero, List.getD_cons_succ, -List.getD_eq_getElem?_getD, pureOp]
      refine hK _ ?_
      clear K hK
      refine awpL_call cal51 rfl rfl (fun _ => rfl) (fun hg => isSorted_c (L.getD i []) (by omega)) (fun hg => ?_) (fun hg => ?_) fun K hK => ?_
      · first | (simp [hG, List.getD_cons_zero, List.getD_cons_succ, -List.getD_eq_getElem?_getD, pureOp]; done) | (simp [-List.getD_eq_getElem?_getD] at hg; done) | (simp [-List.getD_eq_getElem?_getD] at hg; simp [hG, List.getD_cons_zero, List.getD_cons_succ, -List.getD_eq_getElem?_getD, pureOp]; first | omega | exact hg | (simp_all [-List.getD_eq_getElem?_getD]; done) | (simp_all [-List.getD_eq_getElem?_getD]; first | exact ⟨rfl, rfl⟩ | exact rfl))
      · first | (simp [hG, List.getD_cons_zero, List.getD_cons_succ, -List.getD_eq_getElem?_getD, pureOp]; done) | (simp [-List.getD_eq_getElem?_getD] at hg; done) | (simp [-List.getD_eq_getElem?_getD] at hg; simp [hG, List.getD_cons_zero, List.getD_cons_succ, -List.getD_eq_getElem?_getD, pureOp]; first | omega | exact hg | (simp_all [-List.getD_eq_getElem?_getD]; done) | (simp_all [-List.getD_eq_getElem?_getD]; first | exact ⟨rfl, rfl⟩ | exact rfl))
      simp [hG, List.getD_cons_zero, List.getD_cons_succ, -List.getD_eq_getElem?_getD, pureOp]
      refine hK _ ?_
      clear K hK
      refine awpL_reg T_ok 2 fun K hK => ?_
      simp [hG, List.getD_cons_zero, List.getD_cons_succ, -List.getD_eq_getElem?_getD, pureOp]
      refine hK _ ?_
      clear K hK
      refine awpL_nil ?_
      refine awpS_cond rfl (fun hb21 => ?_) (fun hb21 => ?_)
      ·
        try simp [-List.getD_eq_getElem?_getD] at hb21
        refine awpS_seq ?_
        refine awpS_reg T_ok fun K hK => ?_
        simp [hG, List.getD_cons_zero, List.getD_cons_succ, -List.getD_eq_getElem?_getD, pureOp]
        refine hK _ ?_
        clear K hK
        refine awpS_ret ?_
        refine blockQ_ret (thenQ_ret ?_)
        refine thenQ_ret (thenQ_ret ?_)
        refine blockQ_ret (thenQ_ret ?_)
        refine RetOK_of ?_
        simp [hG, List.getD_cons_zero, List.getD_cons_succ, -List.getD_eq_getElem?_getD, pureOp]
        exact div_no (by omega) hb21
      ·
        try simp [-List.getD_eq_getElem?_getD] at hb21
        refine awpS_skip ?_
        refine awpS_reg T_ok fun K hK => ?_
        simp [hG, List.getD_cons_zero, List.getD_cons_succ, -List.getD_eq_getElem?_getD, pureOp]
        refine ⟨Cond.mk (by omega), hK _ ?_⟩
        clear K hK
        refine awpS_nil ?_
        refine blockQ_norm (thenQ_norm ?_)
        refine awpS_reg T_ok fun K hK => ?_
        simp [hG, List.getD_cons_zero, List.getD_cons_succ, -List.getD_eq_getElem?_getD, pureOp]
        refine ⟨Cond.mk (by omega), hK _ ?_⟩
        clear K hK
        refine awpS_nil ?_
        refine round_end (i + 1) (⟨by omega, step_all hn2 hb21⟩) (by omega) ?_
        refine wk_of (fun k => if k = 0 then 1 else k) (fun _ => false) (fun _ => false) ?_ ?_ rfl (Nat.zero_le _) (fun k hk => absurd hk (Nat.not_lt_zero _))
        · rw [hfs]; simp [hG, List.getD_cons_zero, List.getD_cons_succ, -List.getD_eq_getElem?_getD]
        · rw [hfs]; simp [hG, List.getD_cons_zero, List.getD_cons_succ, -List.getD_eq_getElem?_getD]; exact fun q hq => app_list hq
    ·
      try simp [-List.getD_eq_getElem?_getD] at hb11
      obtain rfl : i = L.length := (by omega)
      have hfl := flA_len hp L.length (Nat.le_refl _)
      have hfa := flA_all (L := L)
      refine awpS_exit ?_
      refine thenQ_exit (thenQ_exit ?_)
      refine blockQ_exit (thenQ_norm ?_)
      refine awpS_seq ?_
      refine awpS_regL ?_
      refine awpL_reg T_ok 1 fun K hK => ?_
      simp [hG, List.getD_cons_zero, List.getD_cons_succ, -List.getD_eq_getElem?_getD, pureOp]
      refine hK _ ?_
      clear K hK
      refine awpL_fc cal52 [0] (fun _ => false) (sortAny_c (flA L L.length) (by omega)) rfl rfl rfl (by simp) (.inl fun _ => rfl) ?_ ?_ ?_ fun K hK x hI hno => ?_
      · simp [hG, List.getD_cons_zero, List.getD_cons_succ, -List.getD_eq_getElem?_getD, pureOp]
      · simp [hG, List.getD_cons_zero, List.getD_cons_succ, -List.getD_eq_getElem?_getD, pureOp]
      · simp [hG, List.getD_cons_zero, List.getD_cons_succ, -List.getD_eq_getElem?_getD, pureOp]
      simp [hG, List.getD_cons_zero, List.getD_cons_succ, -List.getD_eq_getElem?_getD, pureOp]
      refine hK _ ?_
      clear K hK
      refine awpL_nil ?_
      refine awpS_seq ?_
      refine awpS_regL ?_
      refine awpL_reg T_ok 6 fun K hK => ?_
      simp [hG, List.getD_cons_zero, List.getD_cons_succ, -List.getD_eq_getElem?_getD, pureOp]
      refine hK _ ?_
      clear K hK
      refine awpL_callB (mem [0]) cal18 (by simp [flat]) rfl rfl (fun _ => rfl) (fun hg => equalI_c (srtI L.flatten) l (by rw [srtI_len, ← flA_all]; omega)) (fun hg => ?_) (fun hg => ?_) fun K hK => ?_
      · first | (simp [hG, List.getD_cons_zero, List.getD_cons_succ, -List.getD_eq_getElem?_getD, pureOp]; done) | (simp [-List.getD_eq_getElem?_getD] at hg; done) | (simp [-List.getD_eq_getElem?_getD] at hg; simp [hG, List.getD_cons_zero, List.getD_cons_succ, -List.getD_eq_getElem?_getD, pureOp]; first | omega | exact hg | (simp_all [-List.getD_eq_getElem?_getD]; done) | (simp_all [-List.getD_eq_getElem?_getD]; first | exact ⟨rfl, rfl⟩ | exact rfl))
      · simp [hG, List.getD_cons_zero, List.getD_cons_succ, -List.getD_eq_getElem?_getD]; exact ⟨by rw [srtI_len, ← flA_all], by rw [srtI_len, ← flA_all]; exact Nat.le_refl _, fun q hq => by rw [flA_all]⟩
      simp [hG, List.getD_cons_zero, List.getD_cons_succ, -List.getD_eq_getElem?_getD, pureOp]
      refine hK _ ?_
      clear K hK
      refine awpL_reg T_ok 2 fun K hK => ?_
      simp [hG, List.getD_cons_zero, List.getD_cons_succ, -List.getD_eq_getElem?_getD, pureOp]
      refine hK _ ?_
      clear K hK
      refine awpL_nil ?_
      refine awpS_ret ?_
      refine RetOK_of ?_
      simp [hG, List.getD_cons_zero, List.getD_cons_succ, -List.getD_eq_getElem?_getD, pureOp]
      rw [div_at (fun j hj => hn2 j (by omega))]; congr 1; simp only [decide_eq_decide]; omega

end Go.Proofs.Ythpdkmoedpcboaa
