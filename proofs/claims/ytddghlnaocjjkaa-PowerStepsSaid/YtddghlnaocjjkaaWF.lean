/-
  Walk: higher graphs.
-/
import Derived.Test.YtddghlnaocjjkaaWE
namespace Go.Proofs.Ytddghlnaocjjkaa
set_option linter.unusedSimpArgs false
set_option linter.unusedVariables false
open Go Go.Lift Go.Proofs

theorem last_at {p : List Int} {k : Nat} {m : Int} (h : p.length = k + 1 ∧ ∀ x ∈ p, 0 ≤ x ∧ x < m) : p.getLastD 0 = p.getD k 0 ∧ 0 ≤ p.getD k 0 ∧ p.getD k 0 < m := by
  have h1 : k < p.length := by omega
  refine ⟨?_, h.2 _ (getD_mem h1)⟩
  rw [List.getLastD_eq_getLast?, List.getLast?_eq_getElem?, h.1]
  simp [List.getD]
theorem pth0_len {g : Gr} : (pth g 0).length = g.edges.length := by simp [pth]
theorem pth0_at {g : Gr} {i : Nat} (h : i < g.edges.length) : (pth g 0).getD i [] = [(i : Int)] := by simp [pth, List.getD, h]
theorem app_rowX {H : Heap} {σ : Lift.Id → Lift.Id} {fz : Nat → Bool} {vz : Lift.Id → Bool} {nx : Nat} {X : List (List Int)} {r : List Int} {j : Nat} {v : AVal} {w : Nat → Nat → AVal} (hj : j < X.length + 1) (hv : VLe H σ fz vz nx (ints r) v) :
    VLe H σ fz vz nx (ints ((X ++ [r]).getD j [])) (app (fun q _ => ints (X.getD q [])) X.length (fun i k => if i = 0 ∧ k = 0 then v else w i k) j 0) := by
  unfold app
  by_cases h : j < X.length
  · rw [if_pos h]
    have : (X ++ [r]).getD j [] = X.getD j [] := by simp [List.getD, List.getElem?_append_left h]
    rw [this]; exact Clo.le _ Clo_ints
  · obtain rfl : j = X.length := by omega
    rw [if_neg h, Nat.sub_self]
    have : (X ++ [r]).getD X.length [] = r := by simp [List.getD]
    rw [this]
    simp only [and_self, if_true]
    exact hv
theorem app_int {l : List Int} {v : Int} {w : Nat → Nat → AVal} {i : Nat} (h : i < l.length + 1) : app (fun i _ => .int .i64 (l.getD i 0)) l.length (fun i j => if i = 0 ∧ j = 0 then .int .i64 v else w i j) i 0 = .int .i64 ((l ++ [v]).getD i 0) := by
  unfold app
  by_cases h2 : i < l.length
  · rw [if_pos h2]; simp [List.getD, List.getElem?_append_left h2]
  · obtain rfl : i = l.length := by omega
    rw [if_neg h2, Nat.sub_self]; simp [List.getD]
theorem tail_at {p : List Int} {q : Nat} : p.getD (1 + q) 0 = p.tail.getD q 0 := by
  cases p <;> simp [List.getD, Nat.add_comm]
theorem hi_len {g : Gr} {n : Nat} : (hiE g n).length = (pth g n).length := by simp [hiE]
def hiAt (g : Gr) (n s : Nat) : List Edge := (hiE g n).take s
theorem hiAt_zero {g : Gr} {n : Nat} : hiAt g n 0 = [] := by simp [hiAt]
theorem hiAt_len {g : Gr} {n s : Nat} : (hiAt g n s).length ≤ s := by unfold hiAt; rw [List.length_take]; omega
theorem hi_succ {g : Gr} {n s : Nat} (h : s < (pth g n).length) : hiAt g n (s + 1) = hiAt g n s ++ [hiEd g n ((pth g n).getD s [])] := by
  unfold hiAt
  rw [List.take_succ_eq_append_getElem (by rw [hi_len]; exact h), getD_get h]
  simp [hiE]
theorem hi_all {g : Gr} {n : Nat} : hiAt g n (pth g n).length = hiE g n := List.take_of_length_le (by rw [hi_len]; omega)
theorem hi_bad {g : Gr} {n k : Nat} (hk : k < n) (h : 64 < (pth g k).length) : hiBad g n = true := List.any_eq_true.2 ⟨k, List.mem_range.2 hk, decide_eq_true h⟩
theorem hi_fine {g : Gr} {n : Nat} (h : ∀ j, j < n → (pth g j).length ≤ 64) : hiBad g n = false := List.any_eq_false.2 fun k hk => by
  have := h k (List.mem_range.1 hk)
  simp; omega
theorem hi_mk {g : Gr} {n : Int} {k : Nat} (hv : gcheck g = 0) (hn : 0 ≤ n ∧ n ≤ 16) (h0 : n ≠ 0) (hk : n.toNat = k + 1) (hb : hiBad g n.toNat = false) (hl : ¬ 1024 < (pth g (k + 1)).length) :
    hiN g n = mkN g.labels (pth g k).length (hiE g (k + 1)) ∧ hiX g n = mkX g.labels (pth g k).length (hiE g (k + 1)) := by
  have hN : hiN g n = mkN g.labels (pth g k).length (hiE g (k + 1)) := by
    unfold hiN
    rw [if_neg (by omega), if_neg (by omega), if_neg h0, hb, if_neg (by simp), hk, if_neg hl, Nat.add_sub_cancel]
  refine ⟨hN, ?_⟩
  unfold hiX
  by_cases h : hiN g n = 0
  · rw [if_neg (by simpa using h), if_neg h0, hk, Nat.add_sub_cancel]
  · rw [if_pos h, mk_no rfl (by rw [← hN]; exact h)]
set_option maxRecDepth 100000 in
theorem higher_c (g : Gr) (n : Int) : PC Try.prog 14 [.agg 3 (grF g), .int .i64 n] (.tup 2 (fun j => [.agg 3 (grF (hiX g n)), .int .i64 (hiN g n)].getD j .any)) := by
  refine PC_introS T_ok Try.func14 rfl (by simp [Try.ntmps14]) fun G hG hR => ?_
  simp only [Try.ntmps14, Try.results14] at hG ⊢
  simp only [argEnv, Nat.zero_add, Nat.reduceAdd]
  refine awpS_seq ?_
  refine awpS_reg T_ok fun K hK => ?_
  simp [hG, List.getD_cons_zero, List.getD_cons_succ, -List.getD_eq_getElem?_getD, pthAt_zero, hiAt_zero]
  first | refine hK _ ?_ | refine ⟨Cond.mk (by first | omega | (simp [-List.getD_eq_getElem?_getD]; done) | (simp [-List.getD_eq_getElem?_getD]; omega) | (simp [-List.getD_eq_getElem?_getD]; repeat (first | intro _ | exact And.intro ‹_› ‹_› | apply And.intro | assumption | omega | exact decide_eq_true (by assumption)))), hK _ ?_⟩
  clear K hK
  refine awpS_seq ?_
  refine awpS_seq ?_
  refine awpS_regL ?_
  refine awpL_reg T_ok 1 fun K hK => ?_
  simp [hG, List.getD_cons_zero, List.getD_cons_succ, -List.getD_eq_getElem?_getD, pthAt_zero, hiAt_zero]
  first | refine hK _ ?_ | refine ⟨Cond.mk (by first | omega | (simp [-List.getD_eq_getElem?_getD]; done) | (simp [-List.getD_eq_getElem?_getD]; omega) | (simp [-List.getD_eq_getElem?_getD]; repeat (first | intro _ | exact And.intro ‹_› ‹_› | apply And.intro | assumption | omega | exact decide_eq_true (by assumption)))), hK _ ?_⟩
  clear K hK
  refine awpL_call cal35 rfl rfl (fun _ => rfl) (fun hg => checkC_c g) (fun hg => ?_) (fun hg => ?_) fun K hK => ?_
  · simp [hG, List.getD_cons_zero, List.getD_cons_succ, -List.getD_eq_getElem?_getD, pthAt_zero, hiAt_zero]
  · simp [hG, List.getD_cons_zero, List.getD_cons_succ, -List.getD_eq_getElem?_getD, pthAt_zero, hiAt_zero]
  simp [hG, List.getD_cons_zero, List.getD_cons_succ, -List.getD_eq_getElem?_getD, pthAt_zero, hiAt_zero]
  refine hK _ ?_
  clear K hK
  refine awpL_reg T_ok 1 fun K hK => ?_
  simp [hG, List.getD_cons_zero, List.getD_cons_succ, -List.getD_eq_getElem?_getD, pthAt_zero, hiAt_zero]
  first | refine hK _ ?_ | refine ⟨Cond.mk (by first | omega | (simp [-List.getD_eq_getElem?_getD]; done) | (simp [-List.getD_eq_getElem?_getD]; omega) | (simp [-List.getD_eq_getElem?_getD]; repeat (first | intro _ | exact And.intro ‹_› ‹_› | apply And.intro | assumption | omega | exact decide_eq_true (by assumption)))), hK _ ?_⟩
  clear K hK
  refine awpL_nil ?_
  refine awpS_cond rfl (fun hb24 => ?_) (fun hb24 => ?_)
  ·
    try simp [-List.getD_eq_getElem?_getD] at hb24
    refine awpS_seq ?_
    refine awpS_reg T_ok fun K hK => ?_
    simp [hG, List.getD_cons_zero, List.getD_cons_succ, -List.getD_eq_getElem?_getD, pthAt_zero, hiAt_zero]
    first | refine hK _ ?_ | refine ⟨Cond.mk (by first | omega | (simp [-List.getD_eq_getElem?_getD]; done) | (simp [-List.getD_eq_getElem?_getD]; omega) | (simp [-List.getD_eq_getElem?_getD]; repeat (first | intro _ | exact And.intro ‹_› ‹_› | apply And.intro | assumption | omega | exact decide_eq_true (by assumption)))), hK _ ?_⟩
    clear K hK
    refine awpS_ret ?_
    refine RetOK_of ?_
    simp [hG, List.getD_cons_zero, List.getD_cons_succ, -List.getD_eq_getElem?_getD, pthAt_zero, hiAt_zero]
    have hN : hiN g n = 1 := (by unfold hiN; rw [if_pos hb24]); rw [hi_no hN (by omega), hN]; simp
  ·
    try simp [-List.getD_eq_getElem?_getD] at hb24
    have hv : gcheck g = 0 := (by simpa using hb24)
    have hz := (gcheck_valid hv).1
    have hed := hz.ed
    refine awpS_skip ?_
    refine awpS_seq ?_
    refine awpS_seq ?_
    refine awpS_reg T_ok fun K hK => ?_
    simp [hG, List.getD_cons_zero, List.getD_cons_succ, -List.getD_eq_getElem?_getD, pthAt_zero, hiAt_zero]
    first | refine hK _ ?_ | refine ⟨Cond.mk (by first | omega | (simp [-List.getD_eq_getElem?_getD]; done) | (simp [-List.getD_eq_getElem?_getD]; omega) | (simp [-List.getD_eq_getElem?_getD]; repeat (first | intro _ | exact And.intro ‹_› ‹_› | apply And.intro | assumption | omega | exact decide_eq_true (by assumption)))), hK _ ?_⟩
    clear K hK
    refine awpS_cond rfl (fun hb31 => ?_) (fun hb31 => ?_)
    ·
      try simp [-List.getD_eq_getElem?_getD] at hb31
      refine awpS_seq ?_
      refine awpS_reg T_ok fun K hK => ?_
      simp [hG, List.getD_cons_zero, List.getD_cons_succ, -List.getD_eq_getElem?_getD, pthAt_zero, hiAt_zero]
      first | refine hK _ ?_ | refine ⟨Cond.mk (by first | omega | (simp [-List.getD_eq_getElem?_getD]; done) | (simp [-List.getD_eq_getElem?_getD]; omega) | (simp [-List.getD_eq_getElem?_getD]; repeat (first | intro _ | exact And.intro ‹_› ‹_› | apply And.intro | assumption | omega | exact decide_eq_true (by assumption)))), hK _ ?_⟩
      clear K hK
      refine awpS_ret ?_
      refine RetOK_of ?_
      simp [hG, List.getD_cons_zero, List.getD_cons_succ, -List.getD_eq_getElem?_getD, pthAt_zero, hiAt_zero]
      have hN : hiN g n = 2 := (by unfold hiN; rw [if_neg (by omega), if_pos (by omega)]); rw [hi_no hN (by omega), hN]; simp
    ·
      try simp [-List.getD_eq_getElem?_getD] at hb31
      refine awpS_skip ?_
      refine awpS_seq ?_
      refine awpS_seq ?_
      refine awpS_reg T_ok fun K hK => ?_
      simp [hG, List.getD_cons_zero, List.getD_cons_succ, -List.getD_eq_getElem?_getD, pthAt_zero, hiAt_zero]
      first | refine hK _ ?_ | refine ⟨Cond.mk (by first | omega | (simp [-List.getD_eq_getElem?_getD]; done) | (simp [-List.getD_eq_getElem?_getD]; omega) | (simp [-List.getD_eq_getElem?_getD]; repeat (first | intro _ | exact And.intro ‹_› ‹_› | apply And.intro | assumption | omega | exact decide_eq_true (by assumption)))), hK _ ?_⟩
      clear K hK
      refine awpS_cond rfl (fun hb34 => ?_) (fun hb34 => ?_)
      ·
        try simp [-List.getD_eq_getElem?_getD] at hb34
        refine awpS_seq ?_
        refine awpS_reg T_ok fun K hK => ?_
        simp [hG, List.getD_cons_zero, List.getD_cons_succ, -List.getD_eq_getElem?_getD, pthAt_zero, hiAt_zero]
        first | refine hK _ ?_ | refine ⟨Cond.mk (by first | omega | (simp [-List.getD_eq_getElem?_getD]; done) | (simp [-List.getD_eq_getElem?_getD]; omega) | (simp [-List.getD_eq_getElem?_getD]; repeat (first | intro _ | exact And.intro ‹_› ‹_› | apply And.intro | assumption | omega | exact decide_eq_true (by assumption)))), hK _ ?_⟩
        clear K hK
        refine awpS_seq ?_
        refine awpS_regL ?_
        refine awpL_reg T_ok 2 fun K hK => ?_
        simp [hG, List.getD_cons_zero, List.getD_cons_succ, -List.getD_eq_getElem?_getD, pthAt_zero, hiAt_zero]
        first | refine hK _ ?_ | refine ⟨Cond.mk (by first | omega | (simp [-List.getD_eq_getElem?_getD]; done) | (simp [-List.getD_eq_getElem?_getD]; omega) | (simp [-List.getD_eq_getElem?_getD]; repeat (first | intro _ | exact And.intro ‹_› ‹_› | apply And.intro | assumption | omega | exact decide_eq_true (by assumption)))), hK _ ?_⟩
        clear K hK
        refine awpL_fc cal43 [] (fun _ => false) (cloneE_c g.edges (by omega)) rfl rfl rfl (by simp) (.inl fun _ => rfl) ?_ ?_ ?_ fun K hK x hI hno => ?_
        · simp [hG, List.getD_cons_zero, List.getD_cons_succ, -List.getD_eq_getElem?_getD, pthAt_zero, hiAt_zero]
        · simp [hG, List.getD_cons_zero, List.getD_cons_succ, -List.getD_eq_getElem?_getD, pthAt_zero, hiAt_zero]
        · simp [hG, List.getD_cons_zero, List.getD_cons_succ, -List.getD_eq_getElem?_getD, pthAt_zero, hiAt_zero]
        simp [hG, List.getD_cons_zero, List.getD_cons_succ, -List.getD_eq_getElem?_getD, pthAt_zero, hiAt_zero]
        refine hK _ ?_
        clear K hK
        refine awpL_reg T_ok 2 fun K hK => ?_
        simp [hG, List.getD_cons_zero, List.getD_cons_succ, -List.getD_eq_getElem?_getD, pthAt_zero, hiAt_zero]
        first | refine hK _ ?_ | refine ⟨Cond.mk (by first | omega | (simp [-List.getD_eq_getElem?_getD]; done) | (simp [-List.getD_eq_getElem?_getD]; omega) | (simp [-List.getD_eq_getElem?_getD]; repeat (first | intro _ | exact And.intro ‹_› ‹_› | apply And.intro | assumption | omega | exact decide_eq_true (by assumption)))), hK _ ?_⟩
        clear K hK
        refine awpL_nil ?_
        refine awpS_seq ?_
        refine awpS_reg T_ok fun K hK => ?_
        simp [hG, List.getD_cons_zero, List.getD_cons_succ, -List.getD_eq_getElem?_getD, pthAt_zero, hiAt_zero]
        first | refine hK _ ?_ | refine ⟨Cond.mk (by first | omega | (simp [-List.getD_eq_getElem?_getD]; done) | (simp [-List.getD_eq_getElem?_getD]; omega) | (simp [-List.getD_eq_getElem?_getD]; repeat (first | intro _ | exact And.intro ‹_› ‹_› | apply And.intro | assumption | omega | exact decide_eq_true (by assumption)))), hK _ ?_⟩
        clear K hK
        refine awpS_ret ?_
        refine RetOK_of ?_
        simp [hG, List.getD_cons_zero, List.getD_cons_succ, -List.getD_eq_getElem?_getD, pthAt_zero, hiAt_zero]
        obtain rfl : n = 0 := (by omega); have hN : hiN g 0 = 0 := (by unfold hiN; rw [if_neg (by omega), if_neg (by omega), if_pos rfl]); have hX : hiX g 0 = g := (by unfold hiX; rw [if_neg (by omega), if_pos rfl]); rw [hX, hN]; simp
      ·
        try simp [-List.getD_eq_getElem?_getD] at hb34
        refine awpS_skip ?_
        refine awpS_seq ?_
        refine awpS_reg T_ok fun K hK => ?_
        simp [hG, List.getD_cons_zero, List.getD_cons_succ, -List.getD_eq_getElem?_getD, pthAt_zero, hiAt_zero]
        first | refine hK _ ?_ | refine ⟨Cond.mk (by first | omega | (simp [-List.getD_eq_getElem?_getD]; done) | (simp [-List.getD_eq_getElem?_getD]; omega) | (simp [-List.getD_eq_getElem?_getD]; repeat (first | intro _ | exact And.intro ‹_› ‹_› | apply And.intro | assumption | omega | exact decide_eq_true (by assumption)))), hK _ ?_⟩
        clear K hK
        refine awpS_seq ?_
        refine awpS_seq ?_
        refine awpS_reg T_ok fun K hK => ?_
        simp [hG, List.getD_cons_zero, List.getD_cons_succ, -List.getD_eq_getElem?_getD, pthAt_zero, hiAt_zero]
        first | refine hK _ ?_ | refine ⟨Cond.mk (by first | omega | (simp [-List.getD_eq_getElem?_getD]; done) | (simp [-List.getD_eq_getElem?_getD]; omega) | (simp [-List.getD_eq_getElem?_getD]; repeat (first | intro _ | exact And.intro ‹_› ‹_› | apply And.intro | assumption | omega | exact decide_eq_true (by assumption)))), hK _ ?_⟩
        clear K hK
        refine awpS_block ?_
        refine awpS_loop (α := Nat) (fun k => ⟨[(1, .int .i64 n), (2, .ptr (0, 0) 0 0), (4, .ptr (1, 0) 0 0), (7, .sl (2, 0) 0 k), (43, .int .i64 g.edges.length), (44, .int .i64 k)], [(0, .one (.arr 1 3 (fun _ => grF g))), (1, .one (.arr 1 3 (fun _ j => [.int .i64 0, .int .i64 0, .nils].getD j .any))), (2, .one (.arr k 1 (fun q _ => ints [(q : Int)])))], 3⟩) (fun k => k ≤ g.edges.length) (fun k => g.edges.length - k) (0) (Nat.zero_le _) ?_ ?_
        ·
          refine wk_of (id) (fun _ => false) (fun k => k == 2) ?_ ?_ rfl (Nat.zero_le _) (fun k hk => absurd hk (Nat.not_lt_zero _))
          · simp [hG, List.getD_cons_zero, List.getD_cons_succ, -List.getD_eq_getElem?_getD, pthAt_zero, hiAt_zero]
          · simp [hG, List.getD_cons_zero, List.getD_cons_succ, -List.getD_eq_getElem?_getD, pthAt_zero, hiAt_zero]
        ·
          rintro k hk
          refine awpS_seq ?_
          refine awpS_reg T_ok fun K hK => ?_
          simp [hG, List.getD_cons_zero, List.getD_cons_succ, -List.getD_eq_getElem?_getD, pthAt_zero, hiAt_zero]
          first | refine hK _ ?_ | refine ⟨Cond.mk (by first | omega | (simp [-List.getD_eq_getElem?_getD]; done) | (simp [-List.getD_eq_getElem?_getD]; omega) | (simp [-List.getD_eq_getElem?_getD]; repeat (first | intro _ | exact And.intro ‹_› ‹_› | apply And.intro | assumption | omega | exact decide_eq_true (by assumption)))), hK _ ?_⟩
          clear K hK
          refine awpS_seq ?_
          refine awpS_cond rfl (fun hb45 => ?_) (fun hb45 => ?_)
          ·
            try simp [-List.getD_eq_getElem?_getD] at hb45
            refine awpS_skip ?_
            refine awpS_seq ?_
            refine awpS_block ?_
            refine awpS_seq ?_
            refine awpS_reg T_ok fun K hK => ?_
            simp [hG, List.getD_cons_zero, List.getD_cons_succ, -List.getD_eq_getElem?_getD, pthAt_zero, hiAt_zero]
            first | refine hK _ ?_ | refine ⟨Cond.mk (by first | omega | (simp [-List.getD_eq_getElem?_getD]; done) | (simp [-List.getD_eq_getElem?_getD]; omega) | (simp [-List.getD_eq_getElem?_getD]; repeat (first | intro _ | exact And.intro ‹_› ‹_› | apply And.intro | assumption | omega | exact decide_eq_true (by assumption)))), hK _ ?_⟩
            clear K hK
            refine awpS_reg T_ok fun K hK => ?_
            simp [hG, List.getD_cons_zero, List.getD_cons_succ, -List.getD_eq_getElem?_getD, pthAt_zero, hiAt_zero]
            first | refine hK _ ?_ | refine ⟨Cond.mk (by first | omega | (simp [-List.getD_eq_getElem?_getD]; done) | (simp [-List.getD_eq_getElem?_getD]; omega) | (simp [-List.getD_eq_getElem?_getD]; repeat (first | intro _ | exact And.intro ‹_› ‹_› | apply And.intro | assumption | omega | exact decide_eq_true (by assumption)))), hK _ ?_⟩
            clear K hK
            refine awpS_nil ?_
            refine blockQ_norm (thenQ_norm ?_)
            refine awpS_reg T_ok fun K hK => ?_
            simp [hG, List.getD_cons_zero, List.getD_cons_succ, -List.getD_eq_getElem?_getD, pthAt_zero, hiAt_zero]
            first | refine hK _ ?_ | refine ⟨Cond.mk (by first | omega | (simp [-List.getD_eq_getElem?_getD]; done) | (simp [-List.getD_eq_getElem?_getD]; omega) | (simp [-List.getD_eq_getElem?_getD]; repeat (first | intro _ | exact And.intro ‹_› ‹_› | apply And.intro | assumption | omega | exact decide_eq_true (by assumption)))), hK _ ?_⟩
            clear K hK
            refine awpS_nil ?_
            refine round_end (k + 1) (by omega) (by omega) ?_
            refine wk_of (fun k => if k = 2 then 5 else k) (fun k => k == 3) (fun _ => false) ?_ ?_ rfl (Nat.zero_le _) (fun k hk => absurd hk (Nat.not_lt_zero _))
            · simp [hG, List.getD_cons_zero, List.getD_cons_succ, -List.getD_eq_getElem?_getD, pthAt_zero, hiAt_zero]
            · simp [hG, List.getD_cons_zero, List.getD_cons_succ, -List.getD_eq_getElem?_getD]; refine fun j hj => app_rowI (F := fun q => [(q : Int)]) hj ?_; simp
          ·
            try simp [-List.getD_eq_getElem?_getD] at hb45
            refine awpS_exit ?_
            refine thenQ_exit (thenQ_exit ?_)
            refine blockQ_exit (thenQ_norm ?_)
            refine awpS_seq ?_
            refine awpS_reg T_ok fun K hK => ?_
            simp [hG, List.getD_cons_zero, List.getD_cons_succ, -List.getD_eq_getElem?_getD, pthAt_zero, hiAt_zero]
            first | refine hK _ ?_ | refine ⟨Cond.mk (by first | omega | (simp [-List.getD_eq_getElem?_getD]; done) | (simp [-List.getD_eq_getElem?_getD]; omega) | (simp [-List.getD_eq_getElem?_getD]; repeat (first | intro _ | exact And.intro ‹_› ‹_› | apply And.intro | assumption | omega | exact decide_eq_true (by assumption)))), hK _ ?_⟩
            clear K hK
            refine awpS_block ?_
            refine awpS_loop (α := Nat) (fun k => ⟨[(1, .int .i64 n), (2, .ptr (0, 0) 0 0), (4, .ptr (1, 0) 0 0), (7, rowsI (pth g k)), (9, .int .i64 (k + 1))], [(0, .one (.arr 1 3 (fun _ => grF g))), (1, .one (.arr 1 3 (fun _ j => [.int .i64 0, .int .i64 0, .nils].getD j .any)))], 2⟩) (fun k => k < n.toNat ∧ ∀ j, j < k → (pth g j).length ≤ 64) (fun k => n.toNat - k) (0) (⟨by omega, fun j hj => absurd hj (Nat.not_lt_zero _)⟩) ?_ ?_
            ·
              refine wk_of (id) (fun k => k == 2) (fun _ => false) ?_ ?_ rfl (Nat.zero_le _) (fun k hk => absurd hk (Nat.not_lt_zero _))
              · simp [hG, List.getD_cons_zero, List.getD_cons_succ, -List.getD_eq_getElem?_getD]; rw [pth0_len]; exact ⟨by omega, by omega, fun q hq => by rw [pth0_at hq]; exact Clo.le _ Clo_ints⟩
              · simp [hG, List.getD_cons_zero, List.getD_cons_succ, -List.getD_eq_getElem?_getD, pthAt_zero, hiAt_zero]
            ·
              rintro k ⟨hk, hle⟩
              refine awpS_seq ?_
              refine awpS_block ?_
              refine awpS_seq ?_
              refine awpS_seq ?_
              refine awpS_reg T_ok fun K hK => ?_
              simp [hG, List.getD_cons_zero, List.getD_cons_succ, -List.getD_eq_getElem?_getD, pthAt_zero, hiAt_zero]
              first | refine hK _ ?_ | refine ⟨Cond.mk (by first | omega | (simp [-List.getD_eq_getElem?_getD]; done) | (simp [-List.getD_eq_getElem?_getD]; omega) | (simp [-List.getD_eq_getElem?_getD]; repeat (first | intro _ | exact And.intro ‹_› ‹_› | apply And.intro | assumption | omega | exact decide_eq_true (by assumption)))), hK _ ?_⟩
              clear K hK
              refine awpS_cond rfl (fun hb57 => ?_) (fun hb57 => ?_)
              ·
                try simp [-List.getD_eq_getElem?_getD] at hb57
                refine awpS_seq ?_
                refine awpS_reg T_ok fun K hK => ?_
                simp [hG, List.getD_cons_zero, List.getD_cons_succ, -List.getD_eq_getElem?_getD, pthAt_zero, hiAt_zero]
                first | refine hK _ ?_ | refine ⟨Cond.mk (by first | omega | (simp [-List.getD_eq_getElem?_getD]; done) | (simp [-List.getD_eq_getElem?_getD]; omega) | (simp [-List.getD_eq_getElem?_getD]; repeat (first | intro _ | exact And.intro ‹_› ‹_› | apply And.intro | assumption | omega | exact decide_eq_true (by assumption)))), hK _ ?_⟩
                clear K hK
                refine awpS_ret ?_
                refine blockQ_ret (thenQ_ret ?_)
                refine thenQ_ret (thenQ_ret ?_)
                refine blockQ_ret (thenQ_ret ?_)
                refine RetOK_of ?_
                simp [hG, List.getD_cons_zero, List.getD_cons_succ, -List.getD_eq_getElem?_getD, pthAt_zero, hiAt_zero]
                have hN : hiN g n = 4 := (by unfold hiN; rw [if_neg (by omega), if_neg (by omega), if_neg (by omega), if_pos (hi_bad (k := k) (by omega) (by omega))]); rw [hi_no hN (by omega), hN]; simp
              ·
                try simp [-List.getD_eq_getElem?_getD] at hb57
                have hpl : (pth g k).length ≤ 64 := (by omega)
                refine awpS_skip ?_
                refine awpS_seq ?_
                refine awpS_reg T_ok fun K hK => ?_
                simp [hG, List.getD_cons_zero, List.getD_cons_succ, -List.getD_eq_getElem?_getD, pthAt_zero, hiAt_zero]
                first | refine hK _ ?_ | refine ⟨Cond.mk (by first | omega | (simp [-List.getD_eq_getElem?_getD]; done) | (simp [-List.getD_eq_getElem?_getD]; omega) | (simp [-List.getD_eq_getElem?_getD]; repeat (first | intro _ | exact And.intro ‹_› ‹_› | apply And.intro | assumption | omega | exact decide_eq_true (by assumption)))), hK _ ?_⟩
                clear K hK
                refine awpS_seq ?_
                refine awpS_seq ?_
                refine awpS_reg T_ok fun K hK => ?_
                simp [hG, List.getD_cons_zero, List.getD_cons_succ, -List.getD_eq_getElem?_getD, pthAt_zero, hiAt_zero]
                first | refine hK _ ?_ | refine ⟨Cond.mk (by first | omega | (simp [-List.getD_eq_getElem?_getD]; done) | (simp [-List.getD_eq_getElem?_getD]; omega) | (simp [-List.getD_eq_getElem?_getD]; repeat (first | intro _ | exact And.intro ‹_› ‹_› | apply And.intro | assumption | omega | exact decide_eq_true (by assumption)))), hK _ ?_⟩
                clear K hK
                refine awpS_block ?_
                refine awpS_loop (α := Nat) (fun i => ⟨[(1, .int .i64 n), (2, .ptr (0, 0) 0 0), (4, .ptr (1, 0) 0 0), (7, rowsI (pth g k)), (9, .int .i64 (k + 1)), (10, .sl (2, 0) 0 (pthAt g k i 0).length), (59, rowsI (pth g k)), (60, .int .i64 (pth g k).length), (61, .int .i64 i)], [(0, .one (.arr 1 3 (fun _ => grF g))), (1, .one (.arr 1 3 (fun _ j => [.int .i64 0, .int .i64 0, .nils].getD j .any))), (2, .one (.arr (pthAt g k i 0).length 1 (fun q _ => ints ((pthAt g k i 0).getD q []))))], 3⟩) (fun i => i ≤ (pth g k).length) (fun i => (pth g k).length - i) (0) (Nat.zero_le _) ?_ ?_
                ·
                  refine wk_of (id) (fun _ => false) (fun k => k == 2) ?_ ?_ rfl (Nat.zero_le _) (fun k hk => absurd hk (Nat.not_lt_zero _))
                  · simp [hG, List.getD_cons_zero, List.getD_cons_succ, -List.getD_eq_getElem?_getD, pthAt_zero, hiAt_zero]
                  · simp [hG, List.getD_cons_zero, List.getD_cons_succ, -List.getD_eq_getElem?_getD, pthAt_zero, hiAt_zero]
                ·
                  rintro i hi
                  refine awpS_seq ?_
                  refine awpS_reg T_ok fun K hK => ?_
                  simp [hG, List.getD_cons_zero, List.getD_cons_succ, -List.getD_eq_getElem?_getD, pthAt_zero, hiAt_zero]
                  first | refine hK _ ?_ | refine ⟨Cond.mk (by first | omega | (simp [-List.getD_eq_getElem?_getD]; done) | (simp [-List.getD_eq_getElem?_getD]; omega) | (simp [-List.getD_eq_getElem?_getD]; repeat (first | intro _ | exact And.intro ‹_› ‹_› | apply And.intro | assumption | omega | exact decide_eq_true (by assumption)))), hK _ ?_⟩
                  clear K hK
                  refine awpS_seq ?_
                  refine awpS_cond rfl (fun hb62 => ?_) (fun hb62 => ?_)
                  ·
                    try simp [-List.getD_eq_getElem?_getD] at hb62
                    have hrw := pth_row (getD_mem (d := []) (show i < (pth g k).length by omega))
                    have hla := last_at hrw
                    refine awpS_skip ?_
                    refine awpS_seq ?_
                    refine awpS_block ?_
                    refine awpS_seq ?_
                    refine awpS_reg T_ok fun K hK => ?_
                    simp [hG, List.getD_cons_zero, List.getD_cons_succ, -List.getD_eq_getElem?_getD, pthAt_zero, hiAt_zero]
                    first | refine hK _ ?_ | refine ⟨Cond.mk (by first | omega | (simp [-List.getD_eq_getElem?_getD]; done) | (simp [-List.getD_eq_getElem?_getD]; omega) | (simp [-List.getD_eq_getElem?_getD]; repeat (first | intro _ | exact And.intro ‹_› ‹_› | apply And.intro | assumption | omega | exact decide_eq_true (by assumption)))), hK _ ?_⟩
                    clear K hK
                    refine awpS_seq ?_
                    refine awpS_reg T_ok fun K hK => ?_
                    simp [hG, List.getD_cons_zero, List.getD_cons_succ, -List.getD_eq_getElem?_getD, pthAt_zero, hiAt_zero]
                    first | refine hK _ ?_ | refine ⟨Cond.mk (by first | omega | (simp [-List.getD_eq_getElem?_getD]; done) | (simp [-List.getD_eq_getElem?_getD]; omega) | (simp [-List.getD_eq_getElem?_getD]; repeat (first | intro _ | exact And.intro ‹_› ‹_› | apply And.intro | assumption | omega | exact decide_eq_true (by assumption)))), hK _ ?_⟩
                    clear K hK
                    refine awpS_block ?_
                    refine awpS_loop (α := Nat) (fun m => ⟨[(1, .int .i64 n), (2, .ptr (0, 0) 0 0), (4, .ptr (1, 0) 0 0), (7, rowsI (pth g k)), (9, .int .i64 (k + 1)), (10, .sl (2, 0) 0 (pthAt g k i m).length), (12, ints ((pth g k).getD i [])), (59, rowsI (pth g k)), (60, .int .i64 (pth g k).length), (61, .int .i64 i), (66, edgesC g.edges), (67, .int .i64 g.edges.length), (68, .int .i64 m)], [(0, .one (.arr 1 3 (fun _ => grF g))), (1, .one (.arr 1 3 (fun _ j => [.int .i64 0, .int .i64 0, .nils].getD j .any))), (2, .one (.arr (pthAt g k i m).length 1 (fun q _ => ints ((pthAt g k i m).getD q []))))], 3⟩) (fun m => m ≤ g.edges.length) (fun m => g.edges.length - m) (0) (Nat.zero_le _) ?_ ?_
                    ·
                      refine wk_of (id) (fun _ => false) (fun _ => false) ?_ ?_ rfl (Nat.zero_le _) (fun k hk => absurd hk (Nat.not_lt_zero _))
                      · simp [hG, List.getD_cons_zero, List.getD_cons_succ, -List.getD_eq_getElem?_getD, pthAt_zero, hiAt_zero]
                      · simp [hG, List.getD_cons_zero, List.getD_cons_succ, -List.getD_eq_getElem?_getD, pthAt_zero, hiAt_zero]
                    ·
                      rintro m hm
                      refine awpS_seq ?_
                      refine awpS_reg T_ok fun K hK => ?_
                      simp [hG, List.getD_cons_zero, List.getD_cons_succ, -List.getD_eq_getElem?_getD, pthAt_zero, hiAt_zero]
                      first | refine hK _ ?_ | refine ⟨Cond.mk (by first | omega | (simp [-List.getD_eq_getElem?_getD]; done) | (simp [-List.getD_eq_getElem?_getD]; omega) | (simp [-List.getD_eq_getElem?_getD]; repeat (first | intro _ | exact And.intro ‹_› ‹_› | apply And.intro | assumption | omega | exact decide_eq_true (by assumption)))), hK _ ?_⟩
                      clear K hK
                      refine awpS_seq ?_
                      refine awpS_cond rfl (fun hb69 => ?_) (fun hb69 => ?_)
                      ·
                        try simp [-List.getD_eq_getElem?_getD] at hb69
                        have hxl := pthAt_len (g := g) (k := k) (i := i) (m := m) hed hpl (by omega) (by omega)
                        refine awpS_skip ?_
                        refine awpS_seq ?_
                        refine awpS_block ?_
                        refine awpS_seq ?_
                        refine awpS_reg T_ok fun K hK => ?_
                        simp [hG, List.getD_cons_zero, List.getD_cons_succ, -List.getD_eq_getElem?_getD, pthAt_zero, hiAt_zero]
                        first | refine hK _ ?_ | refine ⟨Cond.mk (by first | omega | (simp [-List.getD_eq_getElem?_getD]; done) | (simp [-List.getD_eq_getElem?_getD]; omega) | (simp [-List.getD_eq_getElem?_getD]; repeat (first | intro _ | exact And.intro ‹_› ‹_› | apply And.intro | assumption | omega | exact decide_eq_true (by assumption)))), hK _ ?_⟩
                        clear K hK
                        refine awpS_seq ?_
                        refine awpS_draw hR mixed [] ⟨[], [], []⟩ fun mu0 => ?_
                        refine awpA_tk T_ok [0, 1, 2, 3, 4, 5, 6, 7, 8, 9, 10, 11, 12] [] (fuel := 0) [12, 11, 10, 9, 8, 7, 6, 5, 4, 3, 2, 1, 0] (by decide +kernel) (by decide +kernel) rfl rfl fun K hK => ?_
                        simp [hG, List.getD_cons_zero, List.getD_cons_succ, -List.getD_eq_getElem?_getD, pthAt_zero, hiAt_zero]
                        first | refine hK _ ?_ | refine ⟨Cond.mk (by first | omega | (simp [-List.getD_eq_getElem?_getD]; done) | (simp [-List.getD_eq_getElem?_getD]; omega) | (simp [-List.getD_eq_getElem?_getD]; repeat (first | intro _ | exact And.intro ‹_› ‹_› | apply And.intro | assumption | omega | exact decide_eq_true (by assumption)))), hK _ ?_⟩
                        clear K hK
                        refine awpA_done (by decide +kernel) ?_
                        refine awpS_cond rfl (fun hb85 => ?_) (fun hb85 => ?_)
                        ·
                          try simp [-List.getD_eq_getElem?_getD] at hb85
                          refine awpS_regL ?_
                          refine awpL_reg T_ok 2 fun K hK => ?_
                          simp [hG, List.getD_cons_zero, List.getD_cons_succ, -List.getD_eq_getElem?_getD, pthAt_zero, hiAt_zero]
                          first | refine hK _ ?_ | refine ⟨Cond.mk (by first | omega | (simp [-List.getD_eq_getElem?_getD]; done) | (simp [-List.getD_eq_getElem?_getD]; omega) | (simp [-List.getD_eq_getElem?_getD]; repeat (first | intro _ | exact And.intro ‹_› ‹_› | apply And.intro | assumption | omega | exact decide_eq_true (by assumption)))), hK _ ?_⟩
                          clear K hK
                          refine awpL_fc cal44 [] (fun _ => false) (cloneI_c ((pth g k).getD i []) (by omega)) rfl rfl rfl (by simp) (.inl fun _ => rfl) ?_ ?_ ?_ fun K hK x hI hno => ?_
                          · simp [hG, List.getD_cons_zero, List.getD_cons_succ, -List.getD_eq_getElem?_getD, pthAt_zero, hiAt_zero]
                          · simp [hG, List.getD_cons_zero, List.getD_cons_succ, -List.getD_eq_getElem?_getD, pthAt_zero, hiAt_zero]
                          · simp [hG, List.getD_cons_zero, List.getD_cons_succ, -List.getD_eq_getElem?_getD, pthAt_zero, hiAt_zero]
                          simp [hG, List.getD_cons_zero, List.getD_cons_succ, -List.getD_eq_getElem?_getD, pthAt_zero, hiAt_zero]
                          refine hK _ ?_
                          clear K hK
                          refine awpL_reg T_ok 6 fun K hK => ?_
                          simp [hG, List.getD_cons_zero, List.getD_cons_succ, -List.getD_eq_getElem?_getD, pthAt_zero, hiAt_zero]
                          first | refine hK _ ?_ | refine ⟨Cond.mk (by first | omega | (simp [-List.getD_eq_getElem?_getD]; done) | (simp [-List.getD_eq_getElem?_getD]; omega) | (simp [-List.getD_eq_getElem?_getD]; repeat (first | intro _ | exact And.intro ‹_› ‹_› | apply And.intro | assumption | omega | exact decide_eq_true (by assumption)))), hK _ ?_⟩
                          clear K hK
                          refine awpL_nil ?_
                          refine awpS_nil ?_
                          refine blockQ_norm (thenQ_norm ?_)
                          refine awpS_reg T_ok fun K hK => ?_
                          simp [hG, List.getD_cons_zero, List.getD_cons_succ, -List.getD_eq_getElem?_getD, pthAt_zero, hiAt_zero]
                          first | refine hK _ ?_ | refine ⟨Cond.mk (by first | omega | (simp [-List.getD_eq_getElem?_getD]; done) | (simp [-List.getD_eq_getElem?_getD]; omega) | (simp [-List.getD_eq_getElem?_getD]; repeat (first | intro _ | exact And.intro ‹_› ‹_› | apply And.intro | assumption | omega | exact decide_eq_true (by assumption)))), hK _ ?_⟩
                          clear K hK
                          refine awpS_nil ?_
                          refine round_end (m + 1) (by omega) (by omega) ?_
                          refine wk_of (fun k => if k = 2 then 8 else k) (fun k => k == 6) (fun _ => false) ?_ ?_ rfl (Nat.zero_le _) (fun k hk => absurd hk (Nat.not_lt_zero _))
                          · rw [pthAt_succ, if_pos (by rw [hla.1]; exact hb85)]; simp [hG, List.getD_cons_zero, List.getD_cons_succ, -List.getD_eq_getElem?_getD]
                          · rw [pthAt_succ, if_pos (by rw [hla.1]; exact hb85)]; simp [hG, List.getD_cons_zero, List.getD_cons_succ, -List.getD_eq_getElem?_getD]; refine fun j hj => app_rowX hj ?_; simp [-List.getD_eq_getElem?_getD]; exact fun q hq => app_int hq
                        ·
                          try simp [-List.getD_eq_getElem?_getD] at hb85
                          refine awpS_skip ?_
                          refine awpS_nil ?_
                          refine blockQ_norm (thenQ_norm ?_)
                          refine awpS_reg T_ok fun K hK => ?_
                          simp [hG, List.getD_cons_zero, List.getD_cons_succ, -List.getD_eq_getElem?_getD, pthAt_zero, hiAt_zero]
                          first | refine hK _ ?_ | refine ⟨Cond.mk (by first | omega | (simp [-List.getD_eq_getElem?_getD]; done) | (simp [-List.getD_eq_getElem?_getD]; omega) | (simp [-List.getD_eq_getElem?_getD]; repeat (first | intro _ | exact And.intro ‹_› ‹_› | apply And.intro | assumption | omega | exact decide_eq_true (by assumption)))), hK _ ?_⟩
                          clear K hK
                          refine awpS_nil ?_
                          refine round_end (m + 1) (by omega) (by omega) ?_
                          refine wk_of (id) (fun _ => false) (fun _ => false) ?_ ?_ rfl (Nat.zero_le _) (fun k hk => absurd hk (Nat.not_lt_zero _))
                          · rw [pthAt_succ, if_neg (by rw [hla.1]; exact hb85), List.append_nil]; simp [hG, List.getD_cons_zero, List.getD_cons_succ, -List.getD_eq_getElem?_getD]
                          · rw [pthAt_succ, if_neg (by rw [hla.1]; exact hb85), List.append_nil]; simp [hG, List.getD_cons_zero, List.getD_cons_succ, -List.getD_eq_getElem?_getD]
                      ·
                        try simp [-List.getD_eq_getElem?_getD] at hb69
                        obtain rfl : m = g.edges.length := (by omega)
                        have hpn := pthAt_next (g := g) (k := k) (i := i) (by omega)
                        refine awpS_exit ?_
                        refine thenQ_exit (thenQ_exit ?_)
                        refine blockQ_exit (thenQ_norm ?_)
                        refine awpS_nil ?_
                        refine blockQ_norm (thenQ_norm ?_)
                        refine awpS_reg T_ok fun K hK => ?_
                        simp [hG, List.getD_cons_zero, List.getD_cons_succ, -List.getD_eq_getElem?_getD, pthAt_zero, hiAt_zero]
                        first | refine hK _ ?_ | refine ⟨Cond.mk (by first | omega | (simp [-List.getD_eq_getElem?_getD]; done) | (simp [-List.getD_eq_getElem?_getD]; omega) | (simp [-List.getD_eq_getElem?_getD]; repeat (first | intro _ | exact And.intro ‹_› ‹_› | apply And.intro | assumption | omega | exact decide_eq_true (by assumption)))), hK _ ?_⟩
                        clear K hK
                        refine awpS_nil ?_
                        refine round_end (i + 1) (by omega) (by omega) ?_
                        refine wk_of (id) (fun _ => false) (fun _ => false) ?_ ?_ rfl (Nat.zero_le _) (fun k hk => absurd hk (Nat.not_lt_zero _))
                        · rw [← hpn]; simp [hG, List.getD_cons_zero, List.getD_cons_succ, -List.getD_eq_getElem?_getD]
                        · rw [← hpn]; simp [hG, List.getD_cons_zero, List.getD_cons_succ, -List.getD_eq_getElem?_getD]
                  ·
                    try simp [-List.getD_eq_getElem?_getD] at hb62
                    obtain rfl : i = (pth g k).length := (by omega)
                    have hpa := pthAt_all (g := g) (k := k)
                    have hpb := pthAt_len (g := g) (k := k) (i := (pth g k).length) (m := 0) hed hpl hpl (Nat.zero_le _)
                    rw [hpa] at hpb
                    refine awpS_exit ?_
                    refine thenQ_exit (thenQ_exit ?_)
                    refine blockQ_exit (thenQ_norm ?_)
                    refine awpS_seq ?_
                    refine awpS_seq ?_
                    refine awpS_reg T_ok fun K hK => ?_
                    simp [hG, List.getD_cons_zero, List.getD_cons_succ, -List.getD_eq_getElem?_getD, pthAt_zero, hiAt_zero]
                    first | refine hK _ ?_ | refine ⟨Cond.mk (by first | omega | (simp [-List.getD_eq_getElem?_getD]; done) | (simp [-List.getD_eq_getElem?_getD]; omega) | (simp [-List.getD_eq_getElem?_getD]; repeat (first | intro _ | exact And.intro ‹_› ‹_› | apply And.intro | assumption | omega | exact decide_eq_true (by assumption)))), hK _ ?_⟩
                    clear K hK
                    refine awpS_cond rfl (fun hb98 => ?_) (fun hb98 => ?_)
                    ·
                      try simp [-List.getD_eq_getElem?_getD] at hb98
                      refine awpS_seq ?_
                      refine awpS_reg T_ok fun K hK => ?_
                      simp [hG, List.getD_cons_zero, List.getD_cons_succ, -List.getD_eq_getElem?_getD, pthAt_zero, hiAt_zero]
                      first | refine hK _ ?_ | refine ⟨Cond.mk (by first | omega | (simp [-List.getD_eq_getElem?_getD]; done) | (simp [-List.getD_eq_getElem?_getD]; omega) | (simp [-List.getD_eq_getElem?_getD]; repeat (first | intro _ | exact And.intro ‹_› ‹_› | apply And.intro | assumption | omega | exact decide_eq_true (by assumption)))), hK _ ?_⟩
                      clear K hK
                      refine awpS_exit ?_
                      refine blockQ_exit (thenQ_norm ?_)
                      refine awpS_reg T_ok fun K hK => ?_
                      simp [hG, List.getD_cons_zero, List.getD_cons_succ, -List.getD_eq_getElem?_getD, pthAt_zero, hiAt_zero]
                      first | refine hK _ ?_ | refine ⟨Cond.mk (by first | omega | (simp [-List.getD_eq_getElem?_getD]; done) | (simp [-List.getD_eq_getElem?_getD]; omega) | (simp [-List.getD_eq_getElem?_getD]; repeat (first | intro _ | exact And.intro ‹_› ‹_› | apply And.intro | assumption | omega | exact decide_eq_true (by assumption)))), hK _ ?_⟩
                      clear K hK
                      refine awpS_nil ?_
                      refine round_end (k + 1) (⟨by omega, fun j hj => (Nat.lt_or_ge j k).elim (hle j) fun h => by rw [show j = k by omega]; exact hpl⟩) (by omega) ?_
                      refine wk_of (id) (fun k => k == 2) (fun _ => false) ?_ ?_ rfl (Nat.zero_le _) (fun k hk => absurd hk (Nat.not_lt_zero _))
                      · simp [hG, List.getD_cons_zero, List.getD_cons_succ, -List.getD_eq_getElem?_getD]; rw [hpa]; exact ⟨rfl, Nat.le_refl _, fun q hq => Clo.le _ Clo_ints⟩
                      · simp [hG, List.getD_cons_zero, List.getD_cons_succ, -List.getD_eq_getElem?_getD, pthAt_zero, hiAt_zero]
                    ·
                      try simp [-List.getD_eq_getElem?_getD] at hb98
                      have hkn : n.toNat = k + 1 := (by omega)
                      refine awpS_skip ?_
                      refine awpS_seq ?_
                      refine awpS_wk (st2 := ⟨[(1, .int .i64 n), (2, .ptr (0, 0) 0 0), (4, .ptr (1, 0) 0 0), (7, rowsI (pth g k)), (9, .int .i64 (k + 1)), (10, rowsI (pth g (k + 1)))], [(0, .one (.arr 1 3 (fun _ => grF g))), (1, .one (.arr 1 3 (fun _ j => [.int .i64 0, .int .i64 0, .nils].getD j .any)))], 2⟩) ?_ ?_
                      ·
                        refine wk_of (id) (fun k => k == 2) (fun _ => false) ?_ ?_ rfl (Nat.zero_le _) (fun k hk => absurd hk (Nat.not_lt_zero _))
                        · simp [hG, List.getD_cons_zero, List.getD_cons_succ, -List.getD_eq_getElem?_getD]; rw [hpa]; exact ⟨rfl, Nat.le_refl _, fun q hq => Clo.le _ Clo_ints⟩
                        · simp [hG, List.getD_cons_zero, List.getD_cons_succ, -List.getD_eq_getElem?_getD, pthAt_zero, hiAt_zero]
                      refine awpS_reg T_ok fun K hK => ?_
                      simp [hG, List.getD_cons_zero, List.getD_cons_succ, -List.getD_eq_getElem?_getD, pthAt_zero, hiAt_zero]
                      first | refine hK _ ?_ | refine ⟨Cond.mk (by first | omega | (simp [-List.getD_eq_getElem?_getD]; done) | (simp [-List.getD_eq_getElem?_getD]; omega) | (simp [-List.getD_eq_getElem?_getD]; repeat (first | intro _ | exact And.intro ‹_› ‹_› | apply And.intro | assumption | omega | exact decide_eq_true (by assumption)))), hK _ ?_⟩
                      clear K hK
                      refine awpS_seq ?_
                      refine awpS_seq ?_
                      refine awpS_reg T_ok fun K hK => ?_
                      simp [hG, List.getD_cons_zero, List.getD_cons_succ, -List.getD_eq_getElem?_getD, pthAt_zero, hiAt_zero]
                      first | refine hK _ ?_ | refine ⟨Cond.mk (by first | omega | (simp [-List.getD_eq_getElem?_getD]; done) | (simp [-List.getD_eq_getElem?_getD]; omega) | (simp [-List.getD_eq_getElem?_getD]; repeat (first | intro _ | exact And.intro ‹_› ‹_› | apply And.intro | assumption | omega | exact decide_eq_true (by assumption)))), hK _ ?_⟩
                      clear K hK
                      refine awpS_block ?_
                      refine awpS_loop (α := Nat) (fun s => ⟨[(1, .int .i64 n), (2, .ptr (0, 0) 0 0), (4, .ptr (1, 0) 0 0), (7, rowsI (pth g k)), (9, .int .i64 (k + 1)), (10, rowsI (pth g (k + 1))), (15, .ptr (2, 0) 0 0), (105, rowsI (pth g (k + 1))), (106, .int .i64 (pth g (k + 1)).length), (107, .int .i64 s)], [(0, .one (.arr 1 3 (fun _ => grF g))), (1, .one (.arr 1 3 (fun _ j => [.int .i64 0, .int .i64 0, .nils].getD j .any))), (2, .one (.arr 1 3 (fun _ j => [.int .i64 g.labels, .int .i64 ((pth g k).length : Int), .sl (3, 0) 0 (hiAt g (k + 1) s).length].getD j .any))), (3, .one (.arr (hiAt g (k + 1) s).length 3 (fun q j => edgeF ((hiAt g (k + 1) s).getD q de) j)))], 4⟩) (fun s => s ≤ (pth g (k + 1)).length) (fun s => (pth g (k + 1)).length - s) (0) (Nat.zero_le _) ?_ ?_
                      ·
                        refine wk_of (id) (fun _ => false) (fun k => k == 3) ?_ ?_ rfl (Nat.zero_le _) (fun k hk => absurd hk (Nat.not_lt_zero _))
                        · simp [hG, List.getD_cons_zero, List.getD_cons_succ, -List.getD_eq_getElem?_getD, pthAt_zero, hiAt_zero]
                        · simp [hG, List.getD_cons_zero, List.getD_cons_succ, -List.getD_eq_getElem?_getD, pthAt_zero, hiAt_zero]
                      ·
                        rintro s hs
                        refine awpS_seq ?_
                        refine awpS_reg T_ok fun K hK => ?_
                        simp [hG, List.getD_cons_zero, List.getD_cons_succ, -List.getD_eq_getElem?_getD, pthAt_zero, hiAt_zero]
                        first | refine hK _ ?_ | refine ⟨Cond.mk (by first | omega | (simp [-List.getD_eq_getElem?_getD]; done) | (simp [-List.getD_eq_getElem?_getD]; omega) | (simp [-List.getD_eq_getElem?_getD]; repeat (first | intro _ | exact And.intro ‹_› ‹_› | apply And.intro | assumption | omega | exact decide_eq_true (by assumption)))), hK _ ?_⟩
                        clear K hK
                        refine awpS_seq ?_
                        refine awpS_cond rfl (fun hb108 => ?_) (fun hb108 => ?_)
                        ·
                          try simp [-List.getD_eq_getElem?_getD] at hb108
                          have hil := hiAt_len (g := g) (n := k + 1) (s := s)
                          have hps : (pth g (k + 1)).getD s [] ∈ (pth g (k + 1)) := getD_mem (by omega)
                          have hrs := pth_row hps
                          have hpt := plc_at (by rw [hkn]; exact pth_take hps : ((pth g (k + 1)).getD s []).take n.toNat ∈ (pth g k))
                          have hpd := plc_at (pth_drop hps)
                          have hgl := hrs.2 _ (getD_mem (d := 0) (show n.toNat < ((pth g (k + 1)).getD s []).length by omega))
                          refine awpS_skip ?_
                          refine awpS_seq ?_
                          refine awpS_block ?_
                          refine awpS_seq ?_
                          refine awpS_reg T_ok fun K hK => ?_
                          simp [hG, List.getD_cons_zero, List.getD_cons_succ, -List.getD_eq_getElem?_getD, pthAt_zero, hiAt_zero]
                          first | refine hK _ ?_ | refine ⟨Cond.mk (by first | omega | (simp [-List.getD_eq_getElem?_getD]; done) | (simp [-List.getD_eq_getElem?_getD]; omega) | (simp [-List.getD_eq_getElem?_getD]; repeat (first | intro _ | exact And.intro ‹_› ‹_› | apply And.intro | assumption | omega | exact decide_eq_true (by assumption)))), hK _ ?_⟩
                          clear K hK
                          refine awpS_seq ?_
                          refine awpS_regL ?_
                          refine awpL_reg T_ok 4 fun K hK => ?_
                          simp [hG, List.getD_cons_zero, List.getD_cons_succ, -List.getD_eq_getElem?_getD, pthAt_zero, hiAt_zero]
                          first | refine hK _ ?_ | refine ⟨Cond.mk (by first | omega | (simp [-List.getD_eq_getElem?_getD]; done) | (simp [-List.getD_eq_getElem?_getD]; omega) | (simp [-List.getD_eq_getElem?_getD]; repeat (first | intro _ | exact And.intro ‹_› ‹_› | apply And.intro | assumption | omega | exact decide_eq_true (by assumption)))), hK _ ?_⟩
                          clear K hK
                          refine awpL_call cal45 rfl rfl (fun _ => rfl) (fun hg => bsearchL_c (pth g k) (((pth g (k + 1)).getD s []).take n.toNat) (plc (pth g k) (((pth g (k + 1)).getD s []).take n.toNat)) (by omega) (fun p hp => by have := (pth_row hp).1; omega) pth_asc hpt.1 hpt.2) (fun hg => ?_) (fun hg => ?_) fun K hK => ?_
                          · simp [hG, List.getD_cons_zero, List.getD_cons_succ, -List.getD_eq_getElem?_getD, pthAt_zero, hiAt_zero]
                          · simp [hG, List.getD_cons_zero, List.getD_cons_succ, -List.getD_eq_getElem?_getD]; exact ⟨by omega, fun q hq => (take_all (by omega)).symm⟩
                          simp [hG, List.getD_cons_zero, List.getD_cons_succ, -List.getD_eq_getElem?_getD, pthAt_zero, hiAt_zero]
                          refine hK _ ?_
                          clear K hK
                          refine awpL_reg T_ok 5 fun K hK => ?_
                          simp [hG, List.getD_cons_zero, List.getD_cons_succ, -List.getD_eq_getElem?_getD, pthAt_zero, hiAt_zero]
                          first | refine hK _ ?_ | refine ⟨Cond.mk (by first | omega | (simp [-List.getD_eq_getElem?_getD]; done) | (simp [-List.getD_eq_getElem?_getD]; omega) | (simp [-List.getD_eq_getElem?_getD]; repeat (first | intro _ | exact And.intro ‹_› ‹_› | apply And.intro | assumption | omega | exact decide_eq_true (by assumption)))), hK _ ?_⟩
                          clear K hK
                          refine awpL_nil ?_
                          refine awpS_seq ?_
                          refine awpS_regL ?_
                          refine awpL_reg T_ok 3 fun K hK => ?_
                          simp [hG, List.getD_cons_zero, List.getD_cons_succ, -List.getD_eq_getElem?_getD, pthAt_zero, hiAt_zero]
                          first | refine hK _ ?_ | refine ⟨Cond.mk (by first | omega | (simp [-List.getD_eq_getElem?_getD]; done) | (simp [-List.getD_eq_getElem?_getD]; omega) | (simp [-List.getD_eq_getElem?_getD]; repeat (first | intro _ | exact And.intro ‹_› ‹_› | apply And.intro | assumption | omega | exact decide_eq_true (by assumption)))), hK _ ?_⟩
                          clear K hK
                          refine awpL_call cal45 rfl rfl (fun _ => rfl) (fun hg => bsearchL_c (pth g k) (((pth g (k + 1)).getD s []).drop 1) (plc (pth g k) (((pth g (k + 1)).getD s []).drop 1)) (by omega) (fun p hp => by have := (pth_row hp).1; omega) pth_asc hpd.1 hpd.2) (fun hg => ?_) (fun hg => ?_) fun K hK => ?_
                          · simp [hG, List.getD_cons_zero, List.getD_cons_succ, -List.getD_eq_getElem?_getD, pthAt_zero, hiAt_zero]
                          · simp [hG, List.getD_cons_zero, List.getD_cons_succ, -List.getD_eq_getElem?_getD]; exact fun q hq => tail_at
                          simp [hG, List.getD_cons_zero, List.getD_cons_succ, -List.getD_eq_getElem?_getD, pthAt_zero, hiAt_zero]
                          refine hK _ ?_
                          clear K hK
                          refine awpL_reg T_ok 5 fun K hK => ?_
                          simp [hG, List.getD_cons_zero, List.getD_cons_succ, -List.getD_eq_getElem?_getD, pthAt_zero, hiAt_zero]
                          first | refine hK _ ?_ | refine ⟨Cond.mk (by first | omega | (simp [-List.getD_eq_getElem?_getD]; done) | (simp [-List.getD_eq_getElem?_getD]; omega) | (simp [-List.getD_eq_getElem?_getD]; repeat (first | intro _ | exact And.intro ‹_› ‹_› | apply And.intro | assumption | omega | exact decide_eq_true (by assumption)))), hK _ ?_⟩
                          clear K hK
                          refine awpL_nil ?_
                          refine awpS_draw hR mixed [(15, (3, 0)), (17, (2, 0))] ⟨[], [], []⟩ fun mu0 => ?_
                          refine awpA_tk T_ok [0, 2, 3, 4, 5, 6, 7, 8, 9, 10, 11, 12, 13] [(3, 0)] (fuel := 5) [13, 12, 11, 10, 9, 8, 7, 6, 5, 4, 3, 2, 0] (by decide +kernel) (by decide +kernel) rfl rfl fun K hK => ?_
                          simp [hG, List.getD_cons_zero, List.getD_cons_succ, -List.getD_eq_getElem?_getD, pthAt_zero, hiAt_zero]
                          first | refine hK _ ?_ | refine ⟨Cond.mk (by first | omega | (simp [-List.getD_eq_getElem?_getD]; done) | (simp [-List.getD_eq_getElem?_getD]; omega) | (simp [-List.getD_eq_getElem?_getD]; repeat (first | intro _ | exact And.intro ‹_› ‹_› | apply And.intro | assumption | omega | exact decide_eq_true (by assumption)))), hK _ ?_⟩
                          clear K hK
                          refine awpA_tk T_ok [1] [] (fuel := 4) [1, 13, 12, 11, 10, 9, 8, 7, 6, 5, 4, 3, 2, 0] (by decide +kernel) (by decide +kernel) rfl rfl fun K hK => ?_
                          simp [hG, List.getD_cons_zero, List.getD_cons_succ, -List.getD_eq_getElem?_getD, pthAt_zero, hiAt_zero]
                          first | refine hK _ ?_ | refine ⟨Cond.mk (by first | omega | (simp [-List.getD_eq_getElem?_getD]; done) | (simp [-List.getD_eq_getElem?_getD]; omega) | (simp [-List.getD_eq_getElem?_getD]; repeat (first | intro _ | exact And.intro ‹_› ‹_› | apply And.intro | assumption | omega | exact decide_eq_true (by assumption)))), hK _ ?_⟩
                          clear K hK
                          refine awpA_only (fuel := 3) (i := 14) (by decide +kernel) ?_
                          refine awpO_reg T_ok rfl ?_ fun K hK => ?_
                          · simp [hG, List.getD_cons_zero, List.getD_cons_succ, -List.getD_eq_getElem?_getD, pthAt_zero, hiAt_zero]
                          simp [hG, List.getD_cons_zero, List.getD_cons_succ, -List.getD_eq_getElem?_getD, pthAt_zero, hiAt_zero]
                          first | refine hK _ ?_ | refine ⟨Cond.mk (by first | omega | (simp [-List.getD_eq_getElem?_getD]; done) | (simp [-List.getD_eq_getElem?_getD]; omega) | (simp [-List.getD_eq_getElem?_getD]; repeat (first | intro _ | exact And.intro ‹_› ‹_› | apply And.intro | assumption | omega | exact decide_eq_true (by assumption)))), hK _ ?_⟩
                          clear K hK
                          refine awpA_only (fuel := 2) (i := 15) (by decide +kernel) ?_
                          refine awpO_reg T_ok rfl ?_ fun K hK => ?_
                          · simp [hG, List.getD_cons_zero, List.getD_cons_succ, -List.getD_eq_getElem?_getD, pthAt_zero, hiAt_zero]
                          simp [hG, List.getD_cons_zero, List.getD_cons_succ, -List.getD_eq_getElem?_getD, pthAt_zero, hiAt_zero]
                          first | refine hK _ ?_ | refine ⟨Cond.mk (by first | omega | (simp [-List.getD_eq_getElem?_getD]; done) | (simp [-List.getD_eq_getElem?_getD]; omega) | (simp [-List.getD_eq_getElem?_getD]; repeat (first | intro _ | exact And.intro ‹_› ‹_› | apply And.intro | assumption | omega | exact decide_eq_true (by assumption)))), hK _ ?_⟩
                          clear K hK
                          refine awpA_tk T_ok [16] [] (fuel := 1) [16, 15, 14, 1, 13, 12, 11, 10, 9, 8, 7, 6, 5, 4, 3, 2, 0] (by decide +kernel) (by decide +kernel) rfl rfl fun K hK => ?_
                          simp [hG, List.getD_cons_zero, List.getD_cons_succ, -List.getD_eq_getElem?_getD, pthAt_zero, hiAt_zero]
                          first | refine hK _ ?_ | refine ⟨Cond.mk (by first | omega | (simp [-List.getD_eq_getElem?_getD]; done) | (simp [-List.getD_eq_getElem?_getD]; omega) | (simp [-List.getD_eq_getElem?_getD]; repeat (first | intro _ | exact And.intro ‹_› ‹_› | apply And.intro | assumption | omega | exact decide_eq_true (by assumption)))), hK _ ?_⟩
                          clear K hK
                          refine awpA_only (fuel := 0) (i := 17) (by decide +kernel) ?_
                          refine awpO_reg T_ok rfl ?_ fun K hK => ?_
                          · simp [hG, List.getD_cons_zero, List.getD_cons_succ, -List.getD_eq_getElem?_getD, pthAt_zero, hiAt_zero]
                          simp [hG, List.getD_cons_zero, List.getD_cons_succ, -List.getD_eq_getElem?_getD, pthAt_zero, hiAt_zero]
                          first | refine hK _ ?_ | refine ⟨Cond.mk (by first | omega | (simp [-List.getD_eq_getElem?_getD]; done) | (simp [-List.getD_eq_getElem?_getD]; omega) | (simp [-List.getD_eq_getElem?_getD]; repeat (first | intro _ | exact And.intro ‹_› ‹_› | apply And.intro | assumption | omega | exact decide_eq_true (by assumption)))), hK _ ?_⟩
                          clear K hK
                          refine awpA_done (by decide +kernel) ?_
                          refine awpS_nil ?_
                          refine blockQ_norm (thenQ_norm ?_)
                          refine awpS_reg T_ok fun K hK => ?_
                          simp [hG, List.getD_cons_zero, List.getD_cons_succ, -List.getD_eq_getElem?_getD, pthAt_zero, hiAt_zero]
                          first | refine hK _ ?_ | refine ⟨Cond.mk (by first | omega | (simp [-List.getD_eq_getElem?_getD]; done) | (simp [-List.getD_eq_getElem?_getD]; omega) | (simp [-List.getD_eq_getElem?_getD]; repeat (first | intro _ | exact And.intro ‹_› ‹_› | apply And.intro | assumption | omega | exact decide_eq_true (by assumption)))), hK _ ?_⟩
                          clear K hK
                          refine awpS_nil ?_
                          refine round_end (s + 1) (by omega) (by omega) ?_
                          refine wk_of (fun k => if k = 3 then 5 else k) (fun _ => false) (fun _ => false) ?_ ?_ rfl (Nat.zero_le _) (fun k hk => absurd hk (Nat.not_lt_zero _))
                          · simp [hG, List.getD_cons_zero, List.getD_cons_succ, -List.getD_eq_getElem?_getD, pthAt_zero, hiAt_zero]
                          · rw [hi_succ (by omega)]; simp [hG, List.getD_cons_zero, List.getD_cons_succ, -List.getD_eq_getElem?_getD]; exact fun q hq => ⟨app_edge (v := hiEd g (k + 1) ((pth g (k + 1)).getD s [])) (j := 0) (by simpa using hq) (by decide) (fun j hj => by rcases lt3 hj with rfl | rfl | rfl <;> simp [hiEd, hkn]), app_edge (v := hiEd g (k + 1) ((pth g (k + 1)).getD s [])) (j := 1) (by simpa using hq) (by decide) (fun j hj => by rcases lt3 hj with rfl | rfl | rfl <;> simp [hiEd, hkn]), app_edge (v := hiEd g (k + 1) ((pth g (k + 1)).getD s [])) (j := 2) (by simpa using hq) (by decide) (fun j hj => by rcases lt3 hj with rfl | rfl | rfl <;> simp [hiEd, hkn])⟩
                        ·
                          try simp [-List.getD_eq_getElem?_getD] at hb108
                          obtain rfl : s = (pth g (k + 1)).length := (by omega)
                          have hal := hi_all (g := g) (n := k + 1)
                          refine awpS_exit ?_
                          refine thenQ_exit (thenQ_exit ?_)
                          refine blockQ_exit (thenQ_norm ?_)
                          refine awpS_seq ?_
                          refine awpS_seq ?_
                          refine awpS_reg T_ok fun K hK => ?_
                          simp [hG, List.getD_cons_zero, List.getD_cons_succ, -List.getD_eq_getElem?_getD, pthAt_zero, hiAt_zero]
                          first | refine hK _ ?_ | refine ⟨Cond.mk (by first | omega | (simp [-List.getD_eq_getElem?_getD]; done) | (simp [-List.getD_eq_getElem?_getD]; omega) | (simp [-List.getD_eq_getElem?_getD]; repeat (first | intro _ | exact And.intro ‹_› ‹_› | apply And.intro | assumption | omega | exact decide_eq_true (by assumption)))), hK _ ?_⟩
                          clear K hK
                          refine awpS_cond rfl (fun hb147 => ?_) (fun hb147 => ?_)
                          ·
                            try simp [-List.getD_eq_getElem?_getD] at hb147
                            refine awpS_seq ?_
                            refine awpS_reg T_ok fun K hK => ?_
                            simp [hG, List.getD_cons_zero, List.getD_cons_succ, -List.getD_eq_getElem?_getD, pthAt_zero, hiAt_zero]
                            first | refine hK _ ?_ | refine ⟨Cond.mk (by first | omega | (simp [-List.getD_eq_getElem?_getD]; done) | (simp [-List.getD_eq_getElem?_getD]; omega) | (simp [-List.getD_eq_getElem?_getD]; repeat (first | intro _ | exact And.intro ‹_› ‹_› | apply And.intro | assumption | omega | exact decide_eq_true (by assumption)))), hK _ ?_⟩
                            clear K hK
                            refine awpS_ret ?_
                            refine blockQ_ret (thenQ_ret ?_)
                            refine thenQ_ret (thenQ_ret ?_)
                            refine blockQ_ret (thenQ_ret ?_)
                            refine RetOK_of ?_
                            simp [hG, List.getD_cons_zero, List.getD_cons_succ, -List.getD_eq_getElem?_getD, pthAt_zero, hiAt_zero]
                            have hN : hiN g n = 4 := (by unfold hiN; rw [if_neg (by omega), if_neg (by omega), if_neg (by omega), if_neg (by rw [hi_fine fun j hj => (Nat.lt_or_ge j k).elim (hle j) fun h => by rw [show j = k by omega]; exact hpl]; simp), if_pos (by rw [hal, hi_len] at hb147; rw [hkn]; omega)]); rw [hi_no hN (by omega), hN]; simp
                          ·
                            try simp [-List.getD_eq_getElem?_getD] at hb147
                            have hll : (pth g (k + 1)).length ≤ 1024 := (by rw [hal, hi_len] at hb147; omega)
                            refine awpS_skip ?_
                            refine awpS_seq ?_
                            refine awpS_wk (st2 := ⟨[(2, .ptr (0, 0) 0 0), (4, .ptr (1, 0) 0 0), (15, .ptr (2, 0) 0 0)], [(0, .one (.arr 1 3 (fun _ => grF g))), (1, .one (.arr 1 3 (fun _ j => [.int .i64 0, .int .i64 0, .nils].getD j .any))), (2, .one (.arr 1 3 (fun _ => grF ⟨g.labels, ((pth g k).length : Int), hiE g (k + 1)⟩)))], 3⟩) ?_ ?_
                            ·
                              refine wk_of (id) (fun k => k == 3) (fun _ => false) ?_ ?_ rfl (Nat.zero_le _) (fun k hk => absurd hk (Nat.not_lt_zero _))
                              · simp [hG, List.getD_cons_zero, List.getD_cons_succ, -List.getD_eq_getElem?_getD, pthAt_zero, hiAt_zero]
                              · rw [hal]; simp [hG, List.getD_cons_zero, List.getD_cons_succ, -List.getD_eq_getElem?_getD]
                            refine awpS_regL ?_
                            refine awpL_reg T_ok 6 fun K hK => ?_
                            simp [hG, List.getD_cons_zero, List.getD_cons_succ, -List.getD_eq_getElem?_getD, pthAt_zero, hiAt_zero]
                            first | refine hK _ ?_ | refine ⟨Cond.mk (by first | omega | (simp [-List.getD_eq_getElem?_getD]; done) | (simp [-List.getD_eq_getElem?_getD]; omega) | (simp [-List.getD_eq_getElem?_getD]; repeat (first | intro _ | exact And.intro ‹_› ‹_› | apply And.intro | assumption | omega | exact decide_eq_true (by assumption)))), hK _ ?_⟩
                            clear K hK
                            refine awpL_call cal47 rfl rfl (fun _ => rfl) (fun hg => makeN_c g.labels (pth g k).length (hiE g (k + 1)) (by rw [hi_len]; omega) (hiE_nodup (by omega))) (fun hg => ?_) (fun hg => ?_) fun K hK => ?_
                            · simp [hG, List.getD_cons_zero, List.getD_cons_succ, -List.getD_eq_getElem?_getD, pthAt_zero, hiAt_zero]
                            · simp [hG, List.getD_cons_zero, List.getD_cons_succ, -List.getD_eq_getElem?_getD, pthAt_zero, hiAt_zero]
                            simp [hG, List.getD_cons_zero, List.getD_cons_succ, -List.getD_eq_getElem?_getD, pthAt_zero, hiAt_zero]
                            refine hK _ ?_
                            clear K hK
                            refine awpL_reg T_ok 4 fun K hK => ?_
                            simp [hG, List.getD_cons_zero, List.getD_cons_succ, -List.getD_eq_getElem?_getD, pthAt_zero, hiAt_zero]
                            first | refine hK _ ?_ | refine ⟨Cond.mk (by first | omega | (simp [-List.getD_eq_getElem?_getD]; done) | (simp [-List.getD_eq_getElem?_getD]; omega) | (simp [-List.getD_eq_getElem?_getD]; repeat (first | intro _ | exact And.intro ‹_› ‹_› | apply And.intro | assumption | omega | exact decide_eq_true (by assumption)))), hK _ ?_⟩
                            clear K hK
                            refine awpL_nil ?_
                            refine awpS_ret ?_
                            refine blockQ_ret (thenQ_ret ?_)
                            refine thenQ_ret (thenQ_ret ?_)
                            refine blockQ_ret (thenQ_ret ?_)
                            refine RetOK_of ?_
                            simp [hG, List.getD_cons_zero, List.getD_cons_succ, -List.getD_eq_getElem?_getD, pthAt_zero, hiAt_zero]
                            obtain ⟨hN, hX⟩ := hi_mk hv hb31 hb34 hkn (hi_fine fun j hj => (Nat.lt_or_ge j k).elim (hle j) fun h => by rw [show j = k by omega]; exact hpl) (by omega); rw [hN, hX]; simp

end Go.Proofs.Ytddghlnaocjjkaa
