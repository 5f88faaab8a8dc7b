/-
  Walks: strings.Join.
-/
import Derived.Test.YtdojahjhijkbhaaGreatDoorVD
import Derived.Test.YtdojahjhijkbhaaGreatDoorLSB
namespace Go.Proofs.YtdojahjhijkbhaaGreatDoor
set_option linter.unusedSimpArgs false
set_option linter.unusedVariables false
open Go Go.Lift Go.Proofs

/-- how many bytes are asked for. -/
def jN (l : List (List UInt8)) (k : Nat) : Nat := (l.length - 1) + ((l.take k).map List.length).sum
theorem jN_succ {l : List (List UInt8)} {k : Nat} (h : k < l.length) : jN l (k + 1) = jN l k + (l.getD k []).length := by
  unfold jN
  rw [List.take_succ_eq_append_getElem h, List.map_append, List.sum_append, getD_get h]
  simp
  omega
theorem jN_le {l : List (List UInt8)} (hl : l.length ≤ 1000) (hw : ∀ w ∈ l, w.length ≤ 100) : ∀ k, jN l k ≤ 1000 + 100 * k
  | 0 => by unfold jN; simp; omega
  | k + 1 => by
    have h1 := jN_le hl hw k
    by_cases h : k < l.length
    · rw [jN_succ h]
      have := hw _ (getD_mem (d := []) h)
      omega
    · have : jN l (k + 1) = jN l k := by unfold jN; rw [List.take_of_length_le (by omega), List.take_of_length_le (by omega)]
      omega
theorem join_step {l : List (List UInt8)} {k : Nat} (h : 1 + k < l.length) : joinB 32 (l.take (k + 1 + 1)) = joinB 32 (l.take (k + 1)) ++ [32] ++ l.getD (1 + k) [] := by
  have h2 : k + 1 < l.length := by omega
  rw [List.take_succ_eq_append_getElem h2, joinB_succ (by intro e; have h3 : (l.take (k + 1)).length = 0 := (by rw [e]; rfl); rw [List.length_take] at h3; omega), Nat.add_comm 1 k, getD_get h2]
  simp
theorem join_all {l : List (List UInt8)} (h : 1 ≤ l.length) : l.take (l.length - 1 + 1) = l := List.take_of_length_le (by omega)
theorem join_first {l : List (List UInt8)} (h : 1 ≤ l.length) : joinB 32 (l.take (0 + 1)) = l.getD 0 [] := by
  cases l with
  | nil => simp at h
  | cons x r => rfl
theorem join_one {l : List (List UInt8)} (h : (l.length : Int) = 1) : l.getD 0 [] = joinB 32 l := by
  have h1 := join_first (l := l) (by omega)
  rw [List.take_of_length_le (by omega)] at h1
  exact h1.symm
theorem join_ne {l : List (List UInt8)} (h : 2 ≤ l.length) : joinB 32 l ≠ [] := by
  have h1 := join_step (l := l) (k := l.length - 2) (by omega)
  rw [List.take_of_length_le (by omega)] at h1
  rw [h1]
  simp
theorem join_le {l : List (List UInt8)} (hl : l.length ≤ 1000) (hw : ∀ w ∈ l, w.length ≤ 100) : (joinB 32 l).length ≤ 101000 := by
  have := joinB_len (c := 32) (l := l) (n := 100) hw
  omega
set_option maxRecDepth 100000 in
theorem growK_c (n : Nat) (hn : n ≤ 1000000) : FC1 Tryz.prog 98 [.ptr (0, 0) 0 0, .int .i64 (n : Int)] [(0, .typ 68 (.arr 1 2 (fun _ j => bF (.ptr (0, 0) 0 0) .nils j)))] 1 (.tup 0 (fun _ => .any)) [(0, .typ 68 (.arr 1 2 (fun _ j => bF (.ptr (0, 0) 0 0) (.sl (1, 0) 0 (([] : List UInt8)).length) j))), (1, .typ 5 (.arr (([] : List UInt8)).length 1 (byF (([] : List UInt8)))))] 2 := by
  refine FC_introS T_ok Tryz.func98 rfl (by simp [Tryz.ntmps98]) fun G hG hR => ?_
  simp only [Tryz.ntmps98, Tryz.results98] at hG ⊢
  simp only [argEnv, Nat.zero_add, Nat.reduceAdd]
  refine awpS_seq ?_
  refine awpS_draw hR mixed [] ⟨[], [], []⟩ fun mu0 => ?_
  refine awpA_tk T_ok [0, 1, 2, 3, 6, 9, 10, 11, 12, 13] [] (fuel := 6) [13, 12, 11, 10, 9, 6, 3, 2, 1, 0] (by decide +kernel) (by decide +kernel) rfl rfl fun K hK => ?_
  simp [hG, List.getD_cons_zero, List.getD_cons_succ, -List.getD_eq_getElem?_getD]
  refine hK _ ?_
  clear K hK
  refine awpA_only (fuel := 5) (i := 4) (by decide +kernel) ?_
  refine awpO_reg T_ok rfl ?_ fun K hK => ?_
  · simp [hG, List.getD_cons_zero, List.getD_cons_succ, -List.getD_eq_getElem?_getD]; try exact trivial
  simp [hG, List.getD_cons_zero, List.getD_cons_succ, -List.getD_eq_getElem?_getD]
  refine hK _ ?_
  clear K hK
  refine awpA_tk T_ok [5, 7] [] (fuel := 3) [7, 5, 4, 13, 12, 11, 10, 9, 6, 3, 2, 1, 0] (by decide +kernel) (by decide +kernel) rfl rfl fun K hK => ?_
  simp [hG, List.getD_cons_zero, List.getD_cons_succ, -List.getD_eq_getElem?_getD]
  refine ⟨Cond.mk (by omega), hK _ ?_⟩
  clear K hK
  refine awpA_only (fuel := 2) (i := 8) (by decide +kernel) ?_
  refine awpO_mnz (fn := Tryz.f122) (ps := #[3]) (t := 45) (e := 5) Tryz.func122 (by decide +kernel) (by kernel_rfl) (by kernel_rfl) (by kernel_rfl) Tryz.underlying45 n (by omega) rfl rfl rfl rfl (by simp) (by simp) fun K hK => ?_
  simp [hG, List.getD_cons_zero, List.getD_cons_succ, -List.getD_eq_getElem?_getD]
  refine hK _ ?_
  clear K hK
  refine awpA_tk T_ok [14, 15] [] (fuel := 0) [15, 14, 8, 7, 5, 4, 13, 12, 11, 10, 9, 6, 3, 2, 1, 0] (by decide +kernel) (by decide +kernel) rfl rfl fun K hK => ?_
  simp [hG, List.getD_cons_zero, List.getD_cons_succ, -List.getD_eq_getElem?_getD]
  refine ⟨Cond.mk (by omega), hK _ ?_⟩
  clear K hK
  refine awpA_done (by decide +kernel) ?_
  refine awpS_seq ?_
  refine awpS_reg T_ok fun K hK => ?_
  simp [hG, List.getD_cons_zero, List.getD_cons_succ, -List.getD_eq_getElem?_getD]
  refine hK _ ?_
  clear K hK
  refine awpS_reg T_ok fun K hK => ?_
  simp [hG, List.getD_cons_zero, List.getD_cons_succ, -List.getD_eq_getElem?_getD]
  refine hK _ ?_
  clear K hK
  refine awpS_nil ?_
  refine RetF_of (()) (id) (fun _ => false) (fun _ => false) trivial ?_ ?_ (by rfl) (by simp) (fun k _ => ⟨rfl, rfl⟩)
  · simp [hG, List.getD_cons_zero, List.getD_cons_succ, -List.getD_eq_getElem?_getD]
  · simp [hG, List.getD_cons_zero, List.getD_cons_succ, -List.getD_eq_getElem?_getD]

set_option maxRecDepth 100000 in
theorem growB_c (n : Nat) (h1 : 1 ≤ n) (hn : n ≤ 1000000) : FC1 Tryz.prog 81 [.ptr (0, 0) 0 0, .int .i64 (n : Int)] [(0, .typ 68 (.arr 1 2 (fun _ j => bF (selfQ false) .nils j)))] 1 (.tup 0 (fun _ => .any)) [(0, .typ 68 (.arr 1 2 (fun _ j => bF (.ptr (0, 0) 0 0) (.sl (1, 0) 0 (([] : List UInt8)).length) j))), (1, .typ 5 (.arr (([] : List UInt8)).length 1 (byF (([] : List UInt8)))))] 2 := by
  refine FC_introS T_ok Tryz.func81 rfl (by simp [Tryz.ntmps81]) fun G hG hR => ?_
  simp only [Tryz.ntmps81, Tryz.results81] at hG ⊢
  simp only [argEnv, Nat.zero_add, Nat.reduceAdd]
  refine awpS_seq ?_
  refine awpS_regL ?_
  refine awpL_reg T_ok 1 fun K hK => ?_
  simp [hG, List.getD_cons_zero, List.getD_cons_succ, -List.getD_eq_getElem?_getD]
  refine hK _ ?_
  clear K hK
  refine awpL_fc cal80 [0] (fun _ => false) (copyCheckB (hin := [(0, .typ 68 (.arr 1 2 (fun _ j => bF (selfQ false) .nils j)))]) (nin := 1) rfl rfl bcells (by omega) blies (.inl rfl)) rfl rfl rfl (by simp) (.inl fun _ => rfl) ?_ ?_ ?_ fun K hK x hI hno => ?_
  · simp [hG, List.getD_cons_zero, List.getD_cons_succ, -List.getD_eq_getElem?_getD]
  · simp [hG, List.getD_cons_zero, List.getD_cons_succ, -List.getD_eq_getElem?_getD]
  · simp [hG, List.getD_cons_zero, List.getD_cons_succ, -List.getD_eq_getElem?_getD]
  simp [hG, List.getD_cons_zero, List.getD_cons_succ, -List.getD_eq_getElem?_getD]
  refine hK _ ?_
  clear K hK
  refine awpL_nil ?_
  refine awpS_seq ?_
  refine awpS_seq ?_
  refine awpS_reg T_ok fun K hK => ?_
  simp [hG, List.getD_cons_zero, List.getD_cons_succ, -List.getD_eq_getElem?_getD]
  refine hK _ ?_
  clear K hK
  refine awpS_cond rfl (fun hb7 => ?_) (fun hb7 => ?_)
  ·
    exact absurd hb7 (by simp)
  ·
    try simp [-List.getD_eq_getElem?_getD] at hb7
    refine awpS_skip ?_
    refine awpS_seq ?_
    refine awpS_draw hR mixed [] ⟨[], [], []⟩ fun mu0 => ?_
    refine awpA_tk T_ok [0, 1, 2, 3, 5, 6, 7, 8, 9, 11] [] (fuel := 3) [11, 9, 8, 7, 6, 5, 3, 2, 1, 0] (by decide +kernel) (by decide +kernel) rfl rfl fun K hK => ?_
    simp [hG, List.getD_cons_zero, List.getD_cons_succ, -List.getD_eq_getElem?_getD]
    refine hK _ ?_
    clear K hK
    refine awpA_only (fuel := 2) (i := 4) (by decide +kernel) ?_
    refine awpO_reg T_ok rfl ?_ fun K hK => ?_
    · simp [hG, List.getD_cons_zero, List.getD_cons_succ, -List.getD_eq_getElem?_getD]; try exact trivial
    simp [hG, List.getD_cons_zero, List.getD_cons_succ, -List.getD_eq_getElem?_getD]
    refine hK _ ?_
    clear K hK
    refine awpA_tk T_ok [10, 12] [] (fuel := 0) [12, 10, 4, 11, 9, 8, 7, 6, 5, 3, 2, 1, 0] (by decide +kernel) (by decide +kernel) rfl rfl fun K hK => ?_
    simp [hG, List.getD_cons_zero, List.getD_cons_succ, -List.getD_eq_getElem?_getD]
    refine hK _ ?_
    clear K hK
    refine awpA_done (by decide +kernel) ?_
    refine awpS_cond rfl (fun hb21 => ?_) (fun hb21 => ?_)
    ·
      try simp [-List.getD_eq_getElem?_getD] at hb21
      refine awpS_regL ?_
      refine awpL_reg T_ok 2 fun K hK => ?_
      simp [hG, List.getD_cons_zero, List.getD_cons_succ, -List.getD_eq_getElem?_getD]
      refine hK _ ?_
      clear K hK
      refine awpL_fc cal98 [0] (fun _ => false) (growK_c n hn) rfl rfl rfl (by simp) (.inl fun _ => rfl) ?_ ?_ ?_ fun K hK x hI hno => ?_
      · simp [hG, List.getD_cons_zero, List.getD_cons_succ, -List.getD_eq_getElem?_getD]
      · simp [hG, List.getD_cons_zero, List.getD_cons_succ, -List.getD_eq_getElem?_getD]
      · simp [hG, List.getD_cons_zero, List.getD_cons_succ, -List.getD_eq_getElem?_getD]
      simp [hG, List.getD_cons_zero, List.getD_cons_succ, -List.getD_eq_getElem?_getD]
      refine hK _ ?_
      clear K hK
      refine awpL_nil ?_
      refine awpS_nil ?_
      refine RetF_of (()) (id) (fun _ => false) (fun _ => false) trivial ?_ ?_ (by rfl) (by simp) (fun k _ => ⟨rfl, rfl⟩)
      · simp [hG, List.getD_cons_zero, List.getD_cons_succ, -List.getD_eq_getElem?_getD]
      · simp [hG, List.getD_cons_zero, List.getD_cons_succ, -List.getD_eq_getElem?_getD]
    ·
      exact absurd hb21 (by simp; omega)

set_option maxRecDepth 100000 in
theorem join_c (l : List (List UInt8)) (hl : l.length ≤ 1000) (hw : ∀ w ∈ l, w.length ≤ 100) : PC Tryz.prog 51 [strs l, .str [32]] (.str (joinB 32 l)) := by
  refine PC_introS T_ok Tryz.func51 rfl (by simp [Tryz.ntmps51]) fun G hG hR => ?_
  simp only [Tryz.ntmps51, Tryz.results51] at hG ⊢
  simp only [argEnv, Nat.zero_add, Nat.reduceAdd]
  refine awpS_seq ?_
  refine awpS_reg T_ok fun K hK => ?_
  simp [hG, List.getD_cons_zero, List.getD_cons_succ, -List.getD_eq_getElem?_getD]
  refine hK _ ?_
  clear K hK
  refine awpS_seq ?_
  refine awpS_seq ?_
  refine awpS_reg T_ok fun K hK => ?_
  simp [hG, List.getD_cons_zero, List.getD_cons_succ, -List.getD_eq_getElem?_getD]
  refine hK _ ?_
  clear K hK
  refine awpS_block ?_
  refine awpS_seq ?_
  refine awpS_reg T_ok fun K hK => ?_
  simp [hG, List.getD_cons_zero, List.getD_cons_succ, -List.getD_eq_getElem?_getD]
  refine hK _ ?_
  clear K hK
  refine awpS_cond rfl (fun hb13 => ?_) (fun hb13 => ?_)
  ·
    try simp [-List.getD_eq_getElem?_getD] at hb13
    refine awpS_seq ?_
    refine awpS_reg T_ok fun K hK => ?_
    simp [hG, List.getD_cons_zero, List.getD_cons_succ, -List.getD_eq_getElem?_getD]
    refine hK _ ?_
    clear K hK
    refine awpS_ret ?_
    refine blockQ_ret (thenQ_ret ?_)
    refine RetOK_of ?_
    simp [hG, List.getD_cons_zero, List.getD_cons_succ, -List.getD_eq_getElem?_getD]
    rw [hb13]; rfl
  ·
    try simp [-List.getD_eq_getElem?_getD] at hb13
    refine awpS_seq ?_
    refine awpS_reg T_ok fun K hK => ?_
    simp [hG, List.getD_cons_zero, List.getD_cons_succ, -List.getD_eq_getElem?_getD]
    refine hK _ ?_
    clear K hK
    refine awpS_cond rfl (fun hb15 => ?_) (fun hb15 => ?_)
    ·
      try simp [-List.getD_eq_getElem?_getD] at hb15
      refine awpS_seq ?_
      refine awpS_reg T_ok fun K hK => ?_
      simp [hG, List.getD_cons_zero, List.getD_cons_succ, -List.getD_eq_getElem?_getD]
      refine ⟨Cond.mk (by omega), hK _ ?_⟩
      clear K hK
      refine awpS_ret ?_
      refine blockQ_ret (thenQ_ret ?_)
      refine RetOK_of ?_
      simp [hG, List.getD_cons_zero, List.getD_cons_succ, -List.getD_eq_getElem?_getD]
      exact join_one hb15
    ·
      try simp [-List.getD_eq_getElem?_getD] at hb15
      have hl2 : 2 ≤ l.length := (by have := List.length_pos_iff.2 hb13; omega)
      refine awpS_skip ?_
      refine awpS_nil ?_
      refine blockQ_norm (thenQ_norm ?_)
      refine awpS_seq ?_
      refine awpS_reg T_ok fun K hK => ?_
      simp [hG, List.getD_cons_zero, List.getD_cons_succ, -List.getD_eq_getElem?_getD]
      refine hK _ ?_
      clear K hK
      refine awpS_seq ?_
      refine awpS_seq ?_
      refine awpS_reg T_ok fun K hK => ?_
      simp [hG, List.getD_cons_zero, List.getD_cons_succ, -List.getD_eq_getElem?_getD]
      refine hK _ ?_
      clear K hK
      refine awpS_cond rfl (fun hb22 => ?_) (fun hb22 => ?_)
      ·
        try simp [-List.getD_eq_getElem?_getD] at hb22
        refine awpS_seq ?_
        refine awpS_seq ?_
        refine awpS_reg T_ok fun K hK => ?_
        simp [hG, List.getD_cons_zero, List.getD_cons_succ, -List.getD_eq_getElem?_getD]
        refine ⟨Cond.mk (by omega), hK _ ?_⟩
        clear K hK
        refine awpS_cond rfl (fun hb29 => ?_) (fun hb29 => ?_)
        ·
          have h1 := of_decide_eq_true hb29; have h2 : 2 ≤ (9223372036854775807 : Int) / ((l.length : Int) - 1) := Int.le_ediv_of_mul_le (by omega) (by omega); omega
        ·
          try simp [-List.getD_eq_getElem?_getD] at hb29
          refine awpS_skip ?_
          refine awpS_reg T_ok fun K hK => ?_
          simp [hG, List.getD_cons_zero, List.getD_cons_succ, -List.getD_eq_getElem?_getD]
          refine ⟨Cond.mk (by omega), hK _ ?_⟩
          clear K hK
          refine awpS_seq ?_
          refine awpS_seq ?_
          refine awpS_reg T_ok fun K hK => ?_
          simp [hG, List.getD_cons_zero, List.getD_cons_succ, -List.getD_eq_getElem?_getD]
          refine hK _ ?_
          clear K hK
          refine awpS_block ?_
          refine awpS_loop (α := Nat) (fun k => ⟨[(0, strs l), (1, .str [32]), (5, .int .i64 (jN l k : Nat)), (39, strs l), (40, .int .i64 l.length), (41, .int .i64 k)], [], 0⟩) (fun k => k ≤ l.length) (fun k => l.length - k) (0) (Nat.zero_le _) ?_ ?_
          ·
            refine wk_of (id) (fun _ => false) (fun _ => false) ?_ ?_ rfl (Nat.zero_le _) (fun k hk => absurd hk (Nat.not_lt_zero _))
            · simp [hG, List.getD_cons_zero, List.getD_cons_succ, -List.getD_eq_getElem?_getD]; unfold jN; simp; omega
            · simp [hG, List.getD_cons_zero, List.getD_cons_succ, -List.getD_eq_getElem?_getD]
          ·
            rintro k hk
            refine awpS_seq ?_
            refine awpS_reg T_ok fun K hK => ?_
            simp [hG, List.getD_cons_zero, List.getD_cons_succ, -List.getD_eq_getElem?_getD]
            refine hK _ ?_
            clear K hK
            refine awpS_seq ?_
            refine awpS_cond rfl (fun hb42 => ?_) (fun hb42 => ?_)
            ·
              try simp [-List.getD_eq_getElem?_getD] at hb42
              have hwk := hw _ (getD_mem (d := []) (show k < l.length by omega))
              have hjb := jN_le hl hw k
              have hjs := jN_succ (l := l) (k := k) (by omega)
              refine awpS_skip ?_
              refine awpS_seq ?_
              refine awpS_block ?_
              refine awpS_seq ?_
              refine awpS_reg T_ok fun K hK => ?_
              simp [hG, List.getD_cons_zero, List.getD_cons_succ, -List.getD_eq_getElem?_getD]
              refine ⟨Cond.mk (by omega), hK _ ?_⟩
              clear K hK
              refine awpS_seq ?_
              refine awpS_seq ?_
              refine awpS_reg T_ok fun K hK => ?_
              simp [hG, List.getD_cons_zero, List.getD_cons_succ, -List.getD_eq_getElem?_getD]
              refine ⟨Cond.mk (by omega), hK _ ?_⟩
              clear K hK
              refine awpS_cond rfl (fun hb49 => ?_) (fun hb49 => ?_)
              ·
                have h1 := of_decide_eq_true hb49; omega
              ·
                try simp [-List.getD_eq_getElem?_getD] at hb49
                refine awpS_skip ?_
                refine awpS_reg T_ok fun K hK => ?_
                simp [hG, List.getD_cons_zero, List.getD_cons_succ, -List.getD_eq_getElem?_getD]
                refine ⟨Cond.mk (by omega), hK _ ?_⟩
                clear K hK
                refine awpS_nil ?_
                refine blockQ_norm (thenQ_norm ?_)
                refine awpS_reg T_ok fun K hK => ?_
                simp [hG, List.getD_cons_zero, List.getD_cons_succ, -List.getD_eq_getElem?_getD]
                refine ⟨Cond.mk (by omega), hK _ ?_⟩
                clear K hK
                refine awpS_nil ?_
                refine round_end (k + 1) (by omega) (by omega) ?_
                refine wk_of (id) (fun _ => false) (fun _ => false) ?_ ?_ rfl (Nat.zero_le _) (fun k hk => absurd hk (Nat.not_lt_zero _))
                · simp [hG, List.getD_cons_zero, List.getD_cons_succ, -List.getD_eq_getElem?_getD]; omega
                · simp [hG, List.getD_cons_zero, List.getD_cons_succ, -List.getD_eq_getElem?_getD]
            ·
              try simp [-List.getD_eq_getElem?_getD] at hb42
              obtain rfl : k = l.length := (by omega)
              have hjb := jN_le hl hw l.length
              refine awpS_exit ?_
              refine thenQ_exit (thenQ_exit ?_)
              refine blockQ_exit (thenQ_norm ?_)
              refine awpS_seq ?_
              refine awpS_reg T_ok fun K hK => ?_
              simp [hG, List.getD_cons_zero, List.getD_cons_succ, -List.getD_eq_getElem?_getD]
              refine hK _ ?_
              clear K hK
              refine awpS_seq ?_
              refine awpS_regL ?_
              refine awpL_reg T_ok 1 fun K hK => ?_
              simp [hG, List.getD_cons_zero, List.getD_cons_succ, -List.getD_eq_getElem?_getD]
              refine hK _ ?_
              clear K hK
              refine awpL_fc cal81 [0] (fun _ => false) (growB_c (jN l l.length) (by unfold jN; omega) (by omega)) rfl rfl rfl (by simp) (.inl fun _ => rfl) ?_ ?_ ?_ fun K hK x hI hno => ?_
              · simp [hG, List.getD_cons_zero, List.getD_cons_succ, -List.getD_eq_getElem?_getD]
              · simp [hG, List.getD_cons_zero, List.getD_cons_succ, -List.getD_eq_getElem?_getD]
              · simp [hG, List.getD_cons_zero, List.getD_cons_succ, -List.getD_eq_getElem?_getD]
              simp [hG, List.getD_cons_zero, List.getD_cons_succ, -List.getD_eq_getElem?_getD]
              refine hK _ ?_
              clear K hK
              refine awpL_nil ?_
              refine awpS_seq ?_
              refine awpS_regL ?_
              refine awpL_reg T_ok 3 fun K hK => ?_
              simp [hG, List.getD_cons_zero, List.getD_cons_succ, -List.getD_eq_getElem?_getD]
              refine ⟨Cond.mk (by omega), hK _ ?_⟩
              clear K hK
              refine awpL_fc cal50 [0, 1] (fun _ => false) (writeK_c true ([] : List UInt8) (l.getD 0 []) (by have := hw _ (getD_mem (d := []) (show 0 < l.length by omega)); simp only [List.length_nil]; omega)) rfl rfl rfl (by simp) (.inl fun _ => rfl) ?_ ?_ ?_ fun K hK x hI hno => ?_
              · simp [hG, List.getD_cons_zero, List.getD_cons_succ, -List.getD_eq_getElem?_getD]
              · simp [hG, List.getD_cons_zero, List.getD_cons_succ, -List.getD_eq_getElem?_getD]
              · simp [hG, List.getD_cons_zero, List.getD_cons_succ, -List.getD_eq_getElem?_getD]
              simp [hG, List.getD_cons_zero, List.getD_cons_succ, -List.getD_eq_getElem?_getD]
              refine hK _ ?_
              clear K hK
              refine awpL_nil ?_
              refine awpS_seq ?_
              refine awpS_seq ?_
              refine awpS_reg T_ok fun K hK => ?_
              simp [hG, List.getD_cons_zero, List.getD_cons_succ, -List.getD_eq_getElem?_getD]
              refine ⟨Cond.mk (by simp [-List.getD_eq_getElem?_getD]; omega), hK _ ?_⟩
              clear K hK
              refine awpS_block ?_
              refine awpS_loop (α := Nat) (fun k => ⟨[(0, strs l), (1, .str [32]), (8, .ptr (0, 0) 0 0), (63, .vsl (l.length - 1) 1 (fun i _ => .str (l.getD (1 + i) []))), (64, .int .i64 (l.length - 1 : Nat)), (65, .int .i64 k)], [(0, .typ 68 (.arr 1 2 (fun _ j => bF (.ptr (0, 0) 0 0) (.sl (1, 0) 0 ((joinB 32 (l.take (k + 1)))).length) j))), (1, .typ 5 (.arr ((joinB 32 (l.take (k + 1)))).length 1 (byF ((joinB 32 (l.take (k + 1)))))))], 2⟩) (fun k => k ≤ l.length - 1) (fun k => l.length - 1 - k) (0) (Nat.zero_le _) ?_ ?_
              ·
                refine wk_of (fun k => if k = 1 then 2 else k) (fun _ => false) (fun _ => false) ?_ ?_ rfl (Nat.zero_le _) (fun k hk => absurd hk (Nat.not_lt_zero _))
                · simp [hG, List.getD_cons_zero, List.getD_cons_succ, -List.getD_eq_getElem?_getD]; exact fun i hi => rfl
                · rw [join_first (by omega)]; simp [hG, List.getD_cons_zero, List.getD_cons_succ, -List.getD_eq_getElem?_getD]
              ·
                rintro k hk
                refine awpS_seq ?_
                refine awpS_reg T_ok fun K hK => ?_
                simp [hG, List.getD_cons_zero, List.getD_cons_succ, -List.getD_eq_getElem?_getD]
                refine hK _ ?_
                clear K hK
                refine awpS_seq ?_
                refine awpS_cond rfl (fun hb66 => ?_) (fun hb66 => ?_)
                ·
                  try simp [-List.getD_eq_getElem?_getD] at hb66
                  have hjl := joinB_len (c := 32) (l := l.take (k + 1)) (n := 100) (fun w hh => hw w (List.mem_of_mem_take hh))
                  have htl : (l.take (k + 1)).length ≤ 1000 := (by rw [List.length_take]; omega)
                  have hwk := hw _ (getD_mem (d := []) (show 1 + k < l.length by omega))
                  have hE := join_step (l := l) (k := k) (by omega)
                  refine awpS_skip ?_
                  refine awpS_seq ?_
                  refine awpS_block ?_
                  refine awpS_seq ?_
                  refine awpS_reg T_ok fun K hK => ?_
                  simp [hG, List.getD_cons_zero, List.getD_cons_succ, -List.getD_eq_getElem?_getD]
                  refine ⟨Cond.mk (by omega), hK _ ?_⟩
                  clear K hK
                  refine awpS_seq ?_
                  refine awpS_regL ?_
                  refine awpL_reg T_ok 1 fun K hK => ?_
                  simp [hG, List.getD_cons_zero, List.getD_cons_succ, -List.getD_eq_getElem?_getD]
                  refine hK _ ?_
                  clear K hK
                  refine awpL_fc cal50 [0, 1] (fun _ => false) (writeK_c true (joinB 32 (l.take (k + 1))) [32] (by simp only [List.length_singleton]; omega)) rfl rfl rfl (by simp) (.inl fun _ => rfl) ?_ ?_ ?_ fun K hK x hI hno => ?_
                  · simp [hG, List.getD_cons_zero, List.getD_cons_succ, -List.getD_eq_getElem?_getD]
                  · simp [hG, List.getD_cons_zero, List.getD_cons_succ, -List.getD_eq_getElem?_getD]
                  · simp [hG, List.getD_cons_zero, List.getD_cons_succ, -List.getD_eq_getElem?_getD]
                  simp [hG, List.getD_cons_zero, List.getD_cons_succ, -List.getD_eq_getElem?_getD]
                  refine hK _ ?_
                  clear K hK
                  refine awpL_nil ?_
                  refine awpS_regL ?_
                  refine awpL_reg T_ok 1 fun K hK => ?_
                  simp [hG, List.getD_cons_zero, List.getD_cons_succ, -List.getD_eq_getElem?_getD]
                  refine hK _ ?_
                  clear K hK
                  refine awpL_fc cal50 [0, 2] (fun _ => false) (writeK_c true ((joinB 32 (l.take (k + 1))) ++ [32]) (l.getD (1 + k) []) (by simp only [List.length_append, List.length_singleton]; omega)) rfl rfl rfl (by simp) (.inl fun _ => rfl) ?_ ?_ ?_ fun K hK x hI hno => ?_
                  · simp [hG, List.getD_cons_zero, List.getD_cons_succ, -List.getD_eq_getElem?_getD]
                  · simp [hG, List.getD_cons_zero, List.getD_cons_succ, -List.getD_eq_getElem?_getD]
                  · simp [hG, List.getD_cons_zero, List.getD_cons_succ, -List.getD_eq_getElem?_getD]
                  simp [hG, List.getD_cons_zero, List.getD_cons_succ, -List.getD_eq_getElem?_getD]
                  refine hK _ ?_
                  clear K hK
                  refine awpL_nil ?_
                  refine awpS_nil ?_
                  refine blockQ_norm (thenQ_norm ?_)
                  refine awpS_reg T_ok fun K hK => ?_
                  simp [hG, List.getD_cons_zero, List.getD_cons_succ, -List.getD_eq_getElem?_getD]
                  refine ⟨Cond.mk (by omega), hK _ ?_⟩
                  clear K hK
                  refine awpS_nil ?_
                  refine round_end (k + 1) (by omega) (by omega) ?_
                  refine wk_of (fun k => if k = 1 then 3 else k) (fun _ => false) (fun _ => false) ?_ ?_ rfl (Nat.zero_le _) (fun k hk => absurd hk (Nat.not_lt_zero _))
                  · simp [hG, List.getD_cons_zero, List.getD_cons_succ, -List.getD_eq_getElem?_getD]
                  · rw [hE]; simp [hG, List.getD_cons_zero, List.getD_cons_succ, -List.getD_eq_getElem?_getD]
                ·
                  try simp [-List.getD_eq_getElem?_getD] at hb66
                  obtain rfl : k = l.length - 1 := (by omega)
                  have hE := join_all (l := l) (by omega)
                  refine awpS_exit ?_
                  refine thenQ_exit (thenQ_exit ?_)
                  refine blockQ_exit (thenQ_norm ?_)
                  refine awpS_seq ?_
                  refine awpS_regL ?_
                  refine awpL_fc cal36 [0, 1] (fun _ => false) (stringB (S := 2) (off := 0) (hin := [(0, .typ 68 (.arr 1 2 (fun _ j => bF (.ptr (0, 0) 0 0) (.sl (1, 0) 0 (joinB 32 l).length) j))), (1, .typ 5 (.arr (joinB 32 l).length 1 (byF (joinB 32 l))))]) (nin := 2) (l := joinB 32 l) (id := (1, 0)) rfl (by omega) rfl rfl rfl (Nat.le_refl _) (join_ne hl2) (fun i hi => rfl) (by have := join_le hl hw; omega)) rfl rfl rfl (by simp) (.inl fun _ => rfl) ?_ ?_ ?_ fun K hK x hI hno => ?_
                  · simp [hG, List.getD_cons_zero, List.getD_cons_succ, -List.getD_eq_getElem?_getD]
                  · simp [hG, List.getD_cons_zero, List.getD_cons_succ, -List.getD_eq_getElem?_getD]
                  · rw [hE]; simp [hG, List.getD_cons_zero, List.getD_cons_succ, -List.getD_eq_getElem?_getD]
                  simp [hG, List.getD_cons_zero, List.getD_cons_succ, -List.getD_eq_getElem?_getD]
                  refine hK _ ?_
                  clear K hK
                  refine awpL_reg T_ok 1 fun K hK => ?_
                  simp [hG, List.getD_cons_zero, List.getD_cons_succ, -List.getD_eq_getElem?_getD]
                  refine hK _ ?_
                  clear K hK
                  refine awpL_nil ?_
                  refine awpS_ret ?_
                  refine RetOK_of ?_
                  simp [hG, List.getD_cons_zero, List.getD_cons_succ, -List.getD_eq_getElem?_getD]
      ·
        exact absurd hb22 (by simp)

end Go.Proofs.YtdojahjhijkbhaaGreatDoor
