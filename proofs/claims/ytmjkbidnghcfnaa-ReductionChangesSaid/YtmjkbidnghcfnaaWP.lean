/-
  Walks: Relabel, permutations.
-/
import Derived.Test.YtmjkbidnghcfnaaWN
import Derived.Test.YtmjkbidnghcfnaaDL
namespace Go.Proofs.Ytmjkbidnghcfnaa
set_option linter.unusedSimpArgs false
set_option linter.unusedVariables false
open Go Go.Lift Go.Proofs

theorem relX_err {e : Enc} {L : List (List Int)} {n : Int} (h : relCheck e L = n) (hn : n ≠ 0) : relX e L = ⟨0, 0, 0, []⟩ := by
  unfold relX; rw [h, if_neg hn]
theorem relX_ok {e : Enc} {L : List (List Int)} (h : relCheck e L = 0) : relX e L = relE e L := by
  unfold relX; rw [if_pos h]
theorem rel_mis {e : Enc} {L : List (List Int)} (hv : checkE e = 0) (h : ¬ (L.length : Int) = e.rows.length ∨ L.any (badRow e) = true) : relCheck e L = 11 := by
  unfold relCheck; rw [if_neg (by simpa using hv), if_pos h]
theorem relc_rows {e : Enc} {L : List (List Int)} (hv : checkE e = 0) (h1 : (L.length : Int) = e.rows.length) (h2 : L.any (badRow e) = false) : relCheck e L = firstNZ (relRow e.inputs) L := by
  unfold relCheck
  rw [if_neg (by simpa using hv), if_neg]
  rintro (h | h)
  · exact h h1
  · rw [h2] at h; cases h
theorem relRow_hit {m n : Int} {x : List Int} {i : Nat} (hi : i < x.length) (h0 : ∀ j, j < i → relCell m x j = 0) (hn : relCell m x i = n) (hne : n ≠ 0) : relRow m x = n := by
  unfold relRow
  have hg : ∀ j, j < x.length → (List.range x.length).getD j 0 = j := fun j hj => range_at hj
  have := firstNZ_hit (f := relCell m x) (d := 0) (l := List.range x.length) (k := i) (fun j hj => by rw [hg j (by omega)]; exact h0 j hj) (by simpa using hi) (by rw [hg i hi, hn]; exact hne)
  rw [this, hg i hi, hn]
theorem relRow_zero {m : Int} {x : List Int} (h0 : ∀ j, j < x.length → relCell m x j = 0) : relRow m x = 0 := by
  unfold relRow
  refine firstNZ_zero (d := 0) fun j hj => ?_
  have hj' : j < x.length := by simpa using hj
  rw [range_at hj']; exact h0 j hj'
theorem rel_hit {e : Enc} {L : List (List Int)} {n : Int} {k : Nat} (hv : checkE e = 0) (h1 : (L.length : Int) = e.rows.length) (h2 : L.any (badRow e) = false) (hk : k < L.length) (h0 : ∀ j, j < k → relRow e.inputs (L.getD j []) = 0) (hn : relRow e.inputs (L.getD k []) = n) (hne : n ≠ 0) : relCheck e L = n := by
  rw [relc_rows hv h1 h2, firstNZ_hit (d := []) h0 hk (by rw [hn]; exact hne), hn]
theorem rel_zero {e : Enc} {L : List (List Int)} (hv : checkE e = 0) (h1 : (L.length : Int) = e.rows.length) (h2 : L.any (badRow e) = false) (h0 : ∀ j, j < L.length → relRow e.inputs (L.getD j []) = 0) : relCheck e L = 0 := by
  rw [relc_rows hv h1 h2, firstNZ_zero (d := []) h0]
theorem relCell_range {m : Int} {x : List Int} {i : Nat} (h : x.getD i 0 < 0 ∨ m ≤ x.getD i 0) : relCell m x i = 2 := by unfold relCell; rw [if_pos h]
theorem relCell_twice {m : Int} {x : List Int} {i : Nat} (h : 0 ≤ x.getD i 0 ∧ x.getD i 0 < m) (h2 : x.getD i 0 ∈ x.take i) : relCell m x i = 7 := by unfold relCell; rw [if_neg (by omega), if_pos h2]
theorem relCell_ok {m : Int} {x : List Int} {i : Nat} (h : 0 ≤ x.getD i 0 ∧ x.getD i 0 < m) (h2 : ¬ x.getD i 0 ∈ x.take i) : relCell m x i = 0 := by unfold relCell; rw [if_neg (by omega), if_neg h2]
theorem relRow_in {m : Int} {x : List Int} (h : relRow m x = 0) {i : Nat} (hi : i < x.length) : 0 ≤ x.getD i 0 ∧ x.getD i 0 < m := by
  have := firstNZ_all h i (List.mem_range.2 hi)
  unfold relCell at this
  split at this
  · cases this
  · omega
theorem good_row {e : Enc} {L : List (List Int)} (h2 : L.any (badRow e) = false) {k : Nat} (hk : k < L.length) : ((L.getD k []).length : Int) = e.inputs := by
  have := List.any_eq_false.1 h2 _ (getD_mem (d := []) hk)
  simpa [badRow] using this
theorem app_rowC {H : Heap} {σ : Lift.Id → Lift.Id} {fz : Nat → Bool} {vz : Lift.Id → Bool} {nx : Nat} {F : Nat → List Cell} {m j : Nat} {v : AVal} {w : Nat → Nat → AVal} (hj : j < m + 1) (hv : VLe H σ fz vz nx (cells (F m)) v) :
    VLe H σ fz vz nx (cells (F j)) (app (fun q _ => cells (F q)) m (fun i j => if i = 0 ∧ j = 0 then v else w i j) j 0) := by
  unfold app
  by_cases e : j < m
  · rw [if_pos e]; exact Clo.le _ Clo_cells
  · obtain rfl : j = m := by omega
    rw [if_neg e, Nat.sub_self]; exact hv
theorem app_rowI {H : Heap} {σ : Lift.Id → Lift.Id} {fz : Nat → Bool} {vz : Lift.Id → Bool} {nx : Nat} {F : Nat → List Int} {m j : Nat} {v : AVal} {w : Nat → Nat → AVal} (hj : j < m + 1) (hv : VLe H σ fz vz nx (ints (F m)) v) :
    VLe H σ fz vz nx (ints (F j)) (app (fun q _ => ints (F q)) m (fun i j => if i = 0 ∧ j = 0 then v else w i j) j 0) := by
  unfold app
  by_cases e : j < m
  · rw [if_pos e]; exact Clo.le _ Clo_ints
  · obtain rfl : j = m := by omega
    rw [if_neg e, Nat.sub_self]; exact hv
theorem cell_set {A : List Cell} {t q j : Nat} {c : Cell} (ht : t < A.length) : (if q = t then cellF c j else cellF (A.getD q dc) j) = cellF ((A.set t c).getD q dc) j := by
  rw [getD_setL]
  by_cases h : q = t
  · rw [if_pos h, if_pos ⟨h, ht⟩]
  · rw [if_neg h, if_neg (fun e => h e.1)]
theorem repl_dc {n q : Nat} : (List.replicate n dc).getD q dc = dc := by
  simp only [List.getD_eq_getElem?_getD, List.getElem?_replicate]
  split <;> rfl
theorem pick_in {l : List UInt8} {T n : Nat} (h : T < l.length) : ((l.getD (min T l.length) 0).toNat : Int) % (n : Int) = (pickAt l T n : Nat) := by
  rw [Nat.min_eq_left (by omega)]
  unfold pickAt
  rw [if_pos h]
  simp
theorem pick_out {l : List UInt8} {T n : Nat} (h : l.length ≤ T) : (0 : Int) = (pickAt l T n : Nat) := by
  unfold pickAt
  rw [if_neg (by omega)]
  rfl
theorem app_oneJ {l : List Int} {v : Int} {g : Nat → Nat → AVal} {i j : Nat} (hj : l.length = j) (h : i < j + 1) : app (fun i _ => .int .i64 (l.getD i 0)) j (fun i k => if i = 0 ∧ k = 0 then .int .i64 v else g i k) i 0 = .int .i64 ((l ++ [v]).getD i 0) := by
  subst hj; exact app_one h
theorem permL_len {e : Enc} {l : List UInt8} {s : Nat} : (permL e l s).length = e.inputs.toNat := (takenL_ok (l := l) (t := s * e.inputs.toNat) (n := e.inputs.toNat) e.inputs.toNat (Nat.le_refl _)).1
theorem permsL_len {e : Enc} {l : List UInt8} : (permsL e l).length = e.rows.length := by simp [permsL]
set_option maxRecDepth 100000 in
theorem indexI_c (l : List Int) (v : Int) (hl : l.length ≤ 1000000) : PC Try.prog 69 [ints l, .int .i64 v] (.int .i64 (placeI l v)) := by
  refine PC_introS T_ok Try.func69 rfl (by simp [Try.ntmps69]) fun G hG hR => ?_
  simp only [Try.ntmps69, Try.results69] at hG ⊢
  simp only [argEnv, Nat.zero_add, Nat.reduceAdd]
  refine awpS_seq ?_
  refine awpS_reg T_ok fun K hK => ?_
  simp [hG, List.getD_cons_zero, List.getD_cons_succ, -List.getD_eq_getElem?_getD]
  refine hK _ ?_
  clear K hK
  refine awpS_seq ?_
  refine awpS_seq ?_
  refine awpS_reg T_ok fun K hK => ?_
  simp [hG, List.getD_cons_zero, List.getD_cons_succ, -List.getD_eq_getElem?_getD]
  refine hK _ ?_
  clear K hK
  refine awpS_block ?_
  refine awpS_loop (α := Nat) (fun k => ⟨[(0, ints l), (1, .int .i64 v), (7, .int .i64 l.length), (8, .int .i64 k)], [], 0⟩) (fun k => k ≤ l.length ∧ ∀ j, j < k → l.getD j 0 ≠ v) (fun k => l.length - k) (0) (⟨Nat.zero_le _, fun j hj => absurd hj (Nat.not_lt_zero _)⟩) ?_ ?_
  ·
    refine wk_of (id) (fun _ => false) (fun _ => false) ?_ ?_ rfl (Nat.zero_le _) (fun k hk => absurd hk (Nat.not_lt_zero _))
    · simp [hG, List.getD_cons_zero, List.getD_cons_succ, -List.getD_eq_getElem?_getD]
    · simp [hG, List.getD_cons_zero, List.getD_cons_succ, -List.getD_eq_getElem?_getD]
  ·
    rintro k ⟨hk, hn⟩
    refine awpS_seq ?_
    refine awpS_reg T_ok fun K hK => ?_
    simp [hG, List.getD_cons_zero, List.getD_cons_succ, -List.getD_eq_getElem?_getD]
    refine hK _ ?_
    clear K hK
    refine awpS_seq ?_
    refine awpS_cond rfl (fun hb9 => ?_) (fun hb9 => ?_)
    ·
      try simp [-List.getD_eq_getElem?_getD] at hb9
      refine awpS_skip ?_
      refine awpS_seq ?_
      refine awpS_block ?_
      refine awpS_seq ?_
      refine awpS_reg T_ok fun K hK => ?_
      simp [hG, List.getD_cons_zero, List.getD_cons_succ, -List.getD_eq_getElem?_getD]
      refine hK _ ?_
      clear K hK
      refine awpS_seq ?_
      refine awpS_reg T_ok fun K hK => ?_
      simp [hG, List.getD_cons_zero, List.getD_cons_succ, -List.getD_eq_getElem?_getD]
      refine ⟨Cond.mk (by omega), hK _ ?_⟩
      clear K hK
      refine awpS_cond rfl (fun hb16 => ?_) (fun hb16 => ?_)
      ·
        try simp [-List.getD_eq_getElem?_getD] at hb16
        refine awpS_seq ?_
        refine awpS_reg T_ok fun K hK => ?_
        simp [hG, List.getD_cons_zero, List.getD_cons_succ, -List.getD_eq_getElem?_getD]
        refine hK _ ?_
        clear K hK
        refine awpS_ret ?_
        refine blockQ_ret (thenQ_ret ?_)
        refine thenQ_ret (thenQ_ret ?_)
        refine blockQ_ret (thenQ_ret ?_)
        refine RetOK_of ?_
        simp [hG, List.getD_cons_zero, List.getD_cons_succ, -List.getD_eq_getElem?_getD]
        exact (placeI_some l v k hb9 hn hb16.symm).symm
      ·
        try simp [-List.getD_eq_getElem?_getD] at hb16
        refine awpS_skip ?_
        refine awpS_nil ?_
        refine blockQ_norm (thenQ_norm ?_)
        refine awpS_reg T_ok fun K hK => ?_
        simp [hG, List.getD_cons_zero, List.getD_cons_succ, -List.getD_eq_getElem?_getD]
        refine ⟨Cond.mk (by omega), hK _ ?_⟩
        clear K hK
        refine awpS_nil ?_
        refine round_end (k + 1) (⟨by omega, step_all hn (fun e => hb16 e.symm)⟩) (by omega) ?_
        refine wk_of (id) (fun _ => false) (fun _ => false) ?_ ?_ rfl (Nat.zero_le _) (fun k hk => absurd hk (Nat.not_lt_zero _))
        · simp [hG, List.getD_cons_zero, List.getD_cons_succ, -List.getD_eq_getElem?_getD]
        · simp [hG, List.getD_cons_zero, List.getD_cons_succ, -List.getD_eq_getElem?_getD]
    ·
      try simp [-List.getD_eq_getElem?_getD] at hb9
      refine awpS_exit ?_
      refine thenQ_exit (thenQ_exit ?_)
      refine blockQ_exit (thenQ_norm ?_)
      refine awpS_seq ?_
      refine awpS_reg T_ok fun K hK => ?_
      simp [hG, List.getD_cons_zero, List.getD_cons_succ, -List.getD_eq_getElem?_getD]
      refine hK _ ?_
      clear K hK
      refine awpS_ret ?_
      refine RetOK_of ?_
      simp [hG, List.getD_cons_zero, List.getD_cons_succ, -List.getD_eq_getElem?_getD]
      exact (placeI_none l v fun j hj => hn j (by omega)).symm

set_option maxRecDepth 100000 in
theorem containsI_c (l : List Int) (v : Int) (hl : l.length ≤ 1000000) : PC Try.prog 53 [ints l, .int .i64 v] (.bool (decide (v ∈ l))) := by
  refine PC_introS T_ok Try.func53 rfl (by simp [Try.ntmps53]) fun G hG hR => ?_
  simp only [Try.ntmps53, Try.results53] at hG ⊢
  simp only [argEnv, Nat.zero_add, Nat.reduceAdd]
  refine awpS_seq ?_
  refine awpS_reg T_ok fun K hK => ?_
  simp [hG, List.getD_cons_zero, List.getD_cons_succ, -List.getD_eq_getElem?_getD]
  refine hK _ ?_
  clear K hK
  refine awpS_seq ?_
  refine awpS_regL ?_
  refine awpL_reg T_ok 2 fun K hK => ?_
  simp [hG, List.getD_cons_zero, List.getD_cons_succ, -List.getD_eq_getElem?_getD]
  refine hK _ ?_
  clear K hK
  refine awpL_call cal69 rfl rfl (fun _ => rfl) (fun hg => indexI_c l v hl) (fun hg => ?_) (fun hg => ?_) fun K hK => ?_
  · simp [hG, List.getD_cons_zero, List.getD_cons_succ, -List.getD_eq_getElem?_getD]
  · simp [hG, List.getD_cons_zero, List.getD_cons_succ, -List.getD_eq_getElem?_getD]
  simp [hG, List.getD_cons_zero, List.getD_cons_succ, -List.getD_eq_getElem?_getD]
  refine hK _ ?_
  clear K hK
  refine awpL_reg T_ok 2 fun K hK => ?_
  simp [hG, List.getD_cons_zero, List.getD_cons_succ, -List.getD_eq_getElem?_getD]
  refine hK _ ?_
  clear K hK
  refine awpL_nil ?_
  refine awpS_ret ?_
  refine RetOK_of ?_
  simp [hG, List.getD_cons_zero, List.getD_cons_succ, -List.getD_eq_getElem?_getD]
  simp [placeI_mem]

set_option maxRecDepth 100000 in
theorem indexR_c (l : List (List Int)) (q : (List Int) → Bool) (hfn hn : Nat) (hc : Nat → AVal) (hl : l.length ≤ 1000000) (hcal : Callable Try.prog hfn) (hclo : ∀ j, Clo (hc j)) (hp : ∀ x ∈ l, PC Try.prog hfn (ints x :: (List.range' 0 hn).map hc) (.bool (q x))) : PC Try.prog 54 [rowsI l, .fn hfn hn hc] (.int .i64 (placeG l q)) := by
  have hV : ∀ {h : Heap} {σ : Lift.Id → Lift.Id} {fz : Nat → Bool} {vz : Lift.Id → Bool} {nx j : Nat}, VLe h σ fz vz nx (hc j) (hc j) := fun {h σ fz vz nx j} => Clo.le _ (hclo j)
  have hV2 : ∀ {h : Heap} {σ : Lift.Id → Lift.Id} {fz : Nat → Bool} {vz : Lift.Id → Bool} {nx : Nat}, VLe h σ fz vz nx (.fn hfn hn hc) (.fn hfn hn hc) := fun {h σ fz vz nx} => Clo.le _ fun j _ => hclo j
  refine PC_introS T_ok Try.func54 rfl (by simp [Try.ntmps54]) fun G hG hR => ?_
  simp only [Try.ntmps54, Try.results54] at hG ⊢
  simp only [argEnv, Nat.zero_add, Nat.reduceAdd]
  refine awpS_seq ?_
  refine awpS_reg T_ok fun K hK => ?_
  simp [hG, List.getD_cons_zero, List.getD_cons_succ, -List.getD_eq_getElem?_getD, hV, hV2]
  refine hK _ ?_
  clear K hK
  refine awpS_seq ?_
  refine awpS_seq ?_
  refine awpS_reg T_ok fun K hK => ?_
  simp [hG, List.getD_cons_zero, List.getD_cons_succ, -List.getD_eq_getElem?_getD, hV, hV2]
  refine hK _ ?_
  clear K hK
  refine awpS_block ?_
  refine awpS_loop (α := Nat) (fun i => ⟨[(0, rowsI l), (1, .fn hfn hn hc), (7, .int .i64 l.length), (8, .int .i64 i)], [], 0⟩) (fun i => i ≤ l.length ∧ ∀ j, j < i → q (l.getD j []) = false) (fun i => l.length - i) (0) (⟨Nat.zero_le _, fun j hj => absurd hj (Nat.not_lt_zero _)⟩) ?_ ?_
  ·
    refine wk_of (id) (fun _ => false) (fun _ => false) ?_ ?_ rfl (Nat.zero_le _) (fun k hk => absurd hk (Nat.not_lt_zero _))
    · simp [hG, List.getD_cons_zero, List.getD_cons_succ, -List.getD_eq_getElem?_getD, hV, hV2]
    · simp [hG, List.getD_cons_zero, List.getD_cons_succ, -List.getD_eq_getElem?_getD, hV, hV2]
  ·
    rintro i ⟨hi, hn0⟩
    refine awpS_seq ?_
    refine awpS_reg T_ok fun K hK => ?_
    simp [hG, List.getD_cons_zero, List.getD_cons_succ, -List.getD_eq_getElem?_getD, hV, hV2]
    refine hK _ ?_
    clear K hK
    refine awpS_seq ?_
    refine awpS_cond rfl (fun hb9 => ?_) (fun hb9 => ?_)
    ·
      try simp [-List.getD_eq_getElem?_getD] at hb9
      refine awpS_skip ?_
      refine awpS_seq ?_
      refine awpS_block ?_
      refine awpS_seq ?_
      refine awpS_reg T_ok fun K hK => ?_
      simp [hG, List.getD_cons_zero, List.getD_cons_succ, -List.getD_eq_getElem?_getD, hV, hV2]
      refine hK _ ?_
      clear K hK
      refine awpS_seq ?_
      refine awpS_regL ?_
      refine awpL_reg T_ok 5 fun K hK => ?_
      simp [hG, List.getD_cons_zero, List.getD_cons_succ, -List.getD_eq_getElem?_getD, hV, hV2]
      refine ⟨Cond.mk (by omega), hK _ ?_⟩
      clear K hK
      refine awpL_call hcal rfl rfl (fun _ => rfl) (fun hg => hp _ (getD_mem (d := []) (by simpa using hb9))) (fun hg => ?_) (fun hg => ?_) fun K hK => ?_
      · simp [hG, List.getD_cons_zero, List.getD_cons_succ, -List.getD_eq_getElem?_getD, hV, hV2]
      · simp [hG, List.getD_cons_zero, List.getD_cons_succ, -List.getD_eq_getElem?_getD]; first | exact argsLe_caps fun j _ => hclo j | exact ⟨Clo.le _ Clo_ints, argsLe_caps fun j _ => hclo j⟩
      simp [hG, List.getD_cons_zero, List.getD_cons_succ, -List.getD_eq_getElem?_getD, hV, hV2]
      refine hK _ ?_
      clear K hK
      refine awpL_nil ?_
      refine awpS_cond rfl (fun hb16 => ?_) (fun hb16 => ?_)
      ·
        try simp [-List.getD_eq_getElem?_getD] at hb16
        refine awpS_seq ?_
        refine awpS_reg T_ok fun K hK => ?_
        simp [hG, List.getD_cons_zero, List.getD_cons_succ, -List.getD_eq_getElem?_getD, hV, hV2]
        refine hK _ ?_
        clear K hK
        refine awpS_ret ?_
        refine blockQ_ret (thenQ_ret ?_)
        refine thenQ_ret (thenQ_ret ?_)
        refine blockQ_ret (thenQ_ret ?_)
        refine RetOK_of ?_
        simp [hG, List.getD_cons_zero, List.getD_cons_succ, -List.getD_eq_getElem?_getD, hV, hV2]
        exact (placeG_at (by simpa using hb9) hb16 hn0).symm
      ·
        try simp [-List.getD_eq_getElem?_getD] at hb16
        refine awpS_skip ?_
        refine awpS_nil ?_
        refine blockQ_norm (thenQ_norm ?_)
        refine awpS_reg T_ok fun K hK => ?_
        simp [hG, List.getD_cons_zero, List.getD_cons_succ, -List.getD_eq_getElem?_getD, hV, hV2]
        refine ⟨Cond.mk (by omega), hK _ ?_⟩
        clear K hK
        refine awpS_nil ?_
        refine round_end (i + 1) (⟨by omega, fun j hj => (Nat.lt_succ_iff_lt_or_eq.1 hj).elim (hn0 j) fun e => by rw [e]; exact hb16⟩) (by omega) ?_
        refine wk_of (id) (fun _ => false) (fun _ => false) ?_ ?_ rfl (Nat.zero_le _) (fun k hk => absurd hk (Nat.not_lt_zero _))
        · simp [hG, List.getD_cons_zero, List.getD_cons_succ, -List.getD_eq_getElem?_getD, hV, hV2]
        · simp [hG, List.getD_cons_zero, List.getD_cons_succ, -List.getD_eq_getElem?_getD, hV, hV2]
    ·
      try simp [-List.getD_eq_getElem?_getD] at hb9
      refine awpS_exit ?_
      refine thenQ_exit (thenQ_exit ?_)
      refine blockQ_exit (thenQ_norm ?_)
      refine awpS_seq ?_
      refine awpS_reg T_ok fun K hK => ?_
      simp [hG, List.getD_cons_zero, List.getD_cons_succ, -List.getD_eq_getElem?_getD, hV, hV2]
      refine hK _ ?_
      clear K hK
      refine awpS_ret ?_
      refine RetOK_of ?_
      simp [hG, List.getD_cons_zero, List.getD_cons_succ, -List.getD_eq_getElem?_getD, hV, hV2]
      exact (placeG_none fun j hj => hn0 j (by omega)).symm

set_option maxRecDepth 100000 in
theorem containsR_c (l : List (List Int)) (q : (List Int) → Bool) (hfn hn : Nat) (hc : Nat → AVal) (hl : l.length ≤ 1000000) (hcal : Callable Try.prog hfn) (hclo : ∀ j, Clo (hc j)) (hp : ∀ x ∈ l, PC Try.prog hfn (ints x :: (List.range' 0 hn).map hc) (.bool (q x))) : PC Try.prog 30 [rowsI l, .fn hfn hn hc] (.bool (l.any q)) := by
  have hV : ∀ {h : Heap} {σ : Lift.Id → Lift.Id} {fz : Nat → Bool} {vz : Lift.Id → Bool} {nx j : Nat}, VLe h σ fz vz nx (hc j) (hc j) := fun {h σ fz vz nx j} => Clo.le _ (hclo j)
  have hV2 : ∀ {h : Heap} {σ : Lift.Id → Lift.Id} {fz : Nat → Bool} {vz : Lift.Id → Bool} {nx : Nat}, VLe h σ fz vz nx (.fn hfn hn hc) (.fn hfn hn hc) := fun {h σ fz vz nx} => Clo.le _ fun j _ => hclo j
  refine PC_introS T_ok Try.func30 rfl (by simp [Try.ntmps30]) fun G hG hR => ?_
  simp only [Try.ntmps30, Try.results30] at hG ⊢
  simp only [argEnv, Nat.zero_add, Nat.reduceAdd]
  refine awpS_seq ?_
  refine awpS_reg T_ok fun K hK => ?_
  simp [hG, List.getD_cons_zero, List.getD_cons_succ, -List.getD_eq_getElem?_getD, hV, hV2]
  refine hK _ ?_
  clear K hK
  refine awpS_seq ?_
  refine awpS_regL ?_
  refine awpL_reg T_ok 2 fun K hK => ?_
  simp [hG, List.getD_cons_zero, List.getD_cons_succ, -List.getD_eq_getElem?_getD, hV, hV2]
  refine hK _ ?_
  clear K hK
  refine awpL_call cal54 rfl rfl (fun _ => rfl) (fun hg => indexR_c l q hfn hn hc hl hcal hclo hp) (fun hg => ?_) (fun hg => ?_) fun K hK => ?_
  · simp [hG, List.getD_cons_zero, List.getD_cons_succ, -List.getD_eq_getElem?_getD, hV, hV2]
  · simp [hG, List.getD_cons_zero, List.getD_cons_succ, -List.getD_eq_getElem?_getD, hV, hV2]
  simp [hG, List.getD_cons_zero, List.getD_cons_succ, -List.getD_eq_getElem?_getD, hV, hV2]
  refine hK _ ?_
  clear K hK
  refine awpL_reg T_ok 2 fun K hK => ?_
  simp [hG, List.getD_cons_zero, List.getD_cons_succ, -List.getD_eq_getElem?_getD, hV, hV2]
  refine hK _ ?_
  clear K hK
  refine awpL_nil ?_
  refine awpS_ret ?_
  refine RetOK_of ?_
  simp [hG, List.getD_cons_zero, List.getD_cons_succ, -List.getD_eq_getElem?_getD, hV, hV2]
  rw [← placeG_any]

set_option maxRecDepth 100000 in
theorem badRow_c (e : Enc) (x : List Int) : PC Try.prog 52 [ints x, .vptr 4 (encF e) 0] (.bool (badRow e x)) := by
  refine PC_introS T_ok Try.func52 rfl (by simp [Try.ntmps52]) fun G hG hR => ?_
  simp only [Try.ntmps52, Try.results52] at hG ⊢
  simp only [argEnv, Nat.zero_add, Nat.reduceAdd]
  refine awpS_seq ?_
  refine awpS_reg T_ok fun K hK => ?_
  simp [hG, List.getD_cons_zero, List.getD_cons_succ, -List.getD_eq_getElem?_getD]
  refine hK _ ?_
  clear K hK
  refine awpS_seq ?_
  refine awpS_reg T_ok fun K hK => ?_
  simp [hG, List.getD_cons_zero, List.getD_cons_succ, -List.getD_eq_getElem?_getD]
  refine hK _ ?_
  clear K hK
  refine awpS_ret ?_
  refine RetOK_of ?_
  simp [hG, List.getD_cons_zero, List.getD_cons_succ, -List.getD_eq_getElem?_getD]
  simp [badRow]

set_option maxRecDepth 100000 in
theorem relabel_c (e : Enc) (L : List (List Int)) (hL : L.length ≤ 1000000) (hr : ∀ x ∈ L, x.length ≤ 1000000) : PC Try.prog 29 [.agg 4 (encF e), rowsI L] (.tup 2 (fun j => [.agg 4 (encF (relX e L)), .int .i64 (relCheck e L)].getD j .any)) := by
  refine PC_introS T_ok Try.func29 rfl (by simp [Try.ntmps29]) fun G hG hR => ?_
  simp only [Try.ntmps29, Try.results29] at hG ⊢
  simp only [argEnv, Nat.zero_add, Nat.reduceAdd]
  refine awpS_seq ?_
  refine awpS_reg T_ok fun K hK => ?_
  simp [hG, List.getD_cons_zero, List.getD_cons_succ, -List.getD_eq_getElem?_getD]
  refine ⟨Cond.mk (by simp [-List.getD_eq_getElem?_getD]), hK _ ?_⟩
  clear K hK
  refine awpS_seq ?_
  refine awpS_seq ?_
  refine awpS_regL ?_
  refine awpL_reg T_ok 1 fun K hK => ?_
  simp [hG, List.getD_cons_zero, List.getD_cons_succ, -List.getD_eq_getElem?_getD]
  refine hK _ ?_
  clear K hK
  refine awpL_call cal25 rfl rfl (fun _ => rfl) (fun hg => check_c e) (fun hg => ?_) (fun hg => ?_) fun K hK => ?_
  · simp [hG, List.getD_cons_zero, List.getD_cons_succ, -List.getD_eq_getElem?_getD]
  · simp [hG, List.getD_cons_zero, List.getD_cons_succ, -List.getD_eq_getElem?_getD]
  simp [hG, List.getD_cons_zero, List.getD_cons_succ, -List.getD_eq_getElem?_getD]
  refine hK _ ?_
  clear K hK
  refine awpL_reg T_ok 1 fun K hK => ?_
  simp [hG, List.getD_cons_zero, List.getD_cons_succ, -List.getD_eq_getElem?_getD]
  refine hK _ ?_
  clear K hK
  refine awpL_nil ?_
  refine awpS_cond rfl (fun hb18 => ?_) (fun hb18 => ?_)
  ·
    try simp [-List.getD_eq_getElem?_getD] at hb18
    refine awpS_seq ?_
    refine awpS_reg T_ok fun K hK => ?_
    simp [hG, List.getD_cons_zero, List.getD_cons_succ, -List.getD_eq_getElem?_getD]
    refine ⟨Cond.mk (by simp [-List.getD_eq_getElem?_getD]), hK _ ?_⟩
    clear K hK
    refine awpS_ret ?_
    refine RetOK_of ?_
    simp [hG, List.getD_cons_zero, List.getD_cons_succ, -List.getD_eq_getElem?_getD]
    have hN : relCheck e L = 1 := (by unfold relCheck; rw [if_pos (by simpa using hb18)]); rw [relX_err hN (by omega), hN]; simp
  ·
    try simp [-List.getD_eq_getElem?_getD] at hb18
    have hv : checkE e = 0 := (by simpa using hb18)
    have hl64 := rows_len hv
    have hin := (checkE_valid hv).1.inputs
    refine awpS_skip ?_
    refine awpS_seq ?_
    refine awpS_seq ?_
    refine awpS_regL ?_
    refine awpL_reg T_ok 9 fun K hK => ?_
    simp [hG, List.getD_cons_zero, List.getD_cons_succ, -List.getD_eq_getElem?_getD]
    refine ⟨Cond.mk (by simp [-List.getD_eq_getElem?_getD]), hK _ ?_⟩
    clear K hK
    refine awpL_callB (mem [0]) cal30 (by simp [flat]) rfl rfl (fun _ => rfl) (fun hg => containsR_c L (badRow e) 52 1 (fun _ => .vptr 4 (encF e) 0) hL cal52 (fun _ => by simp) fun x _ => badRow_c e x) (fun hg => ?_) (fun hg => ?_) fun K hK => ?_
    · first | (simp [hG, List.getD_cons_zero, List.getD_cons_succ, -List.getD_eq_getElem?_getD]; done) | (simp [-List.getD_eq_getElem?_getD] at hg; done) | (simp [-List.getD_eq_getElem?_getD] at hg; simp [hG, List.getD_cons_zero, List.getD_cons_succ, -List.getD_eq_getElem?_getD]; first | omega | exact hg | (simp_all [-List.getD_eq_getElem?_getD]; done) | (simp_all [-List.getD_eq_getElem?_getD]; first | exact ⟨rfl, rfl⟩ | exact rfl))
    · first | (simp [hG, List.getD_cons_zero, List.getD_cons_succ, -List.getD_eq_getElem?_getD]; done) | (simp [-List.getD_eq_getElem?_getD] at hg; done) | (simp [-List.getD_eq_getElem?_getD] at hg; simp [hG, List.getD_cons_zero, List.getD_cons_succ, -List.getD_eq_getElem?_getD]; first | omega | exact hg | (simp_all [-List.getD_eq_getElem?_getD]; done) | (simp_all [-List.getD_eq_getElem?_getD]; first | exact ⟨rfl, rfl⟩ | exact rfl))
    simp [hG, List.getD_cons_zero, List.getD_cons_succ, -List.getD_eq_getElem?_getD]
    refine hK _ ?_
    clear K hK
    refine awpL_reg T_ok 1 fun K hK => ?_
    simp [hG, List.getD_cons_zero, List.getD_cons_succ, -List.getD_eq_getElem?_getD]
    refine hK _ ?_
    clear K hK
    refine awpL_nil ?_
    refine awpS_cond rfl (fun hb30 => ?_) (fun hb30 => ?_)
    ·
      try simp [-List.getD_eq_getElem?_getD] at hb30
      refine awpS_seq ?_
      refine awpS_reg T_ok fun K hK => ?_
      simp [hG, List.getD_cons_zero, List.getD_cons_succ, -List.getD_eq_getElem?_getD]
      refine ⟨Cond.mk (by simp [-List.getD_eq_getElem?_getD]), hK _ ?_⟩
      clear K hK
      refine awpS_ret ?_
      refine RetOK_of ?_
      simp [hG, List.getD_cons_zero, List.getD_cons_succ, -List.getD_eq_getElem?_getD]
      have hN : relCheck e L = 11 := rel_mis hv (hb30.imp id fun ⟨x, hx, hbx⟩ => List.any_eq_true.2 ⟨x, hx, hbx⟩); rw [relX_err hN (by omega), hN]; simp
    ·
      try simp [-List.getD_eq_getElem?_getD] at hb30
      have hll := hb30.1
      have hbad : L.any (badRow e) = false := List.any_eq_false.2 fun x hx => (by rw [hb30.2 x hx]; exact Bool.false_ne_true)
      refine awpS_skip ?_
      refine awpS_seq ?_
      refine awpS_seq ?_
      refine awpS_reg T_ok fun K hK => ?_
      simp [hG, List.getD_cons_zero, List.getD_cons_succ, -List.getD_eq_getElem?_getD]
      refine hK _ ?_
      clear K hK
      refine awpS_block ?_
      refine awpS_loop (α := Nat) (fun k => ⟨[(1, rowsI L), (2, .ptr (0, 0) 0 0), (4, .ptr (1, 0) 0 0), (32, rowsI L), (33, .int .i64 L.length), (34, .int .i64 k)], [(0, .one (.arr 1 4 (fun _ => encF e))), (1, .one (.arr 1 4 (fun _ m => [AVal.int IntKind.i64 0, AVal.int IntKind.i64 0, AVal.int IntKind.i64 0, AVal.nils].getD m AVal.any)))], 2⟩) (fun k => k ≤ L.length ∧ ∀ j, j < k → relRow e.inputs (L.getD j []) = 0) (fun k => L.length - k) (0) (⟨Nat.zero_le _, fun j hj => absurd hj (Nat.not_lt_zero _)⟩) ?_ ?_
      ·
        refine wk_of (id) (fun _ => false) (fun _ => false) ?_ ?_ rfl (Nat.zero_le _) (fun k hk => absurd hk (Nat.not_lt_zero _))
        · simp [hG, List.getD_cons_zero, List.getD_cons_succ, -List.getD_eq_getElem?_getD]
        · simp [hG, List.getD_cons_zero, List.getD_cons_succ, -List.getD_eq_getElem?_getD]
      ·
        rintro k ⟨hk, hrows⟩
        refine awpS_seq ?_
        refine awpS_reg T_ok fun K hK => ?_
        simp [hG, List.getD_cons_zero, List.getD_cons_succ, -List.getD_eq_getElem?_getD]
        refine hK _ ?_
        clear K hK
        refine awpS_seq ?_
        refine awpS_cond rfl (fun hb35 => ?_) (fun hb35 => ?_)
        ·
          try simp [-List.getD_eq_getElem?_getD] at hb35
          have hxl := hr _ (getD_mem (d := []) (show k < L.length by omega))
          refine awpS_skip ?_
          refine awpS_seq ?_
          refine awpS_block ?_
          refine awpS_seq ?_
          refine awpS_reg T_ok fun K hK => ?_
          simp [hG, List.getD_cons_zero, List.getD_cons_succ, -List.getD_eq_getElem?_getD]
          refine ⟨Cond.mk (by omega), hK _ ?_⟩
          clear K hK
          refine awpS_seq ?_
          refine awpS_reg T_ok fun K hK => ?_
          simp [hG, List.getD_cons_zero, List.getD_cons_succ, -List.getD_eq_getElem?_getD]
          refine hK _ ?_
          clear K hK
          refine awpS_block ?_
          refine awpS_loop (α := Nat) (fun i => ⟨[(1, rowsI L), (2, .ptr (0, 0) 0 0), (4, .ptr (1, 0) 0 0), (7, ints (L.getD k [])), (32, rowsI L), (33, .int .i64 L.length), (34, .int .i64 k), (38, ints (L.getD k [])), (39, .int .i64 (L.getD k []).length), (40, .int .i64 i)], [(0, .one (.arr 1 4 (fun _ => encF e))), (1, .one (.arr 1 4 (fun _ m => [AVal.int IntKind.i64 0, AVal.int IntKind.i64 0, AVal.int IntKind.i64 0, AVal.nils].getD m AVal.any)))], 2⟩) (fun i => i ≤ (L.getD k []).length ∧ ∀ j, j < i → relCell e.inputs (L.getD k []) j = 0) (fun i => (L.getD k []).length - i) (0) (⟨Nat.zero_le _, fun j hj => absurd hj (Nat.not_lt_zero _)⟩) ?_ ?_
          ·
            refine wk_of (id) (fun _ => false) (fun _ => false) ?_ ?_ rfl (Nat.zero_le _) (fun k hk => absurd hk (Nat.not_lt_zero _))
            · simp [hG, List.getD_cons_zero, List.getD_cons_succ, -List.getD_eq_getElem?_getD]
            · simp [hG, List.getD_cons_zero, List.getD_cons_succ, -List.getD_eq_getElem?_getD]
          ·
            rintro i ⟨hi, hcells⟩
            refine awpS_seq ?_
            refine awpS_reg T_ok fun K hK => ?_
            simp [hG, List.getD_cons_zero, List.getD_cons_succ, -List.getD_eq_getElem?_getD]
            refine hK _ ?_
            clear K hK
            refine awpS_seq ?_
            refine awpS_cond rfl (fun hb41 => ?_) (fun hb41 => ?_)
            ·
              try simp [-List.getD_eq_getElem?_getD] at hb41
              refine awpS_skip ?_
              refine awpS_seq ?_
              refine awpS_block ?_
              refine awpS_seq ?_
              refine awpS_reg T_ok fun K hK => ?_
              simp [hG, List.getD_cons_zero, List.getD_cons_succ, -List.getD_eq_getElem?_getD]
              refine ⟨Cond.mk (by omega), hK _ ?_⟩
              clear K hK
              refine awpS_seq ?_
              refine awpS_seq ?_
              refine awpS_reg T_ok fun K hK => ?_
              simp [hG, List.getD_cons_zero, List.getD_cons_succ, -List.getD_eq_getElem?_getD]
              refine ⟨Cond.mk (by simp [-List.getD_eq_getElem?_getD]), hK _ ?_⟩
              clear K hK
              refine awpS_cond rfl (fun hb52 => ?_) (fun hb52 => ?_)
              ·
                try simp [-List.getD_eq_getElem?_getD] at hb52
                refine awpS_seq ?_
                refine awpS_reg T_ok fun K hK => ?_
                simp [hG, List.getD_cons_zero, List.getD_cons_succ, -List.getD_eq_getElem?_getD]
                refine ⟨Cond.mk (by simp [-List.getD_eq_getElem?_getD]), hK _ ?_⟩
                clear K hK
                refine awpS_ret ?_
                refine blockQ_ret (thenQ_ret ?_)
                refine thenQ_ret (thenQ_ret ?_)
                refine blockQ_ret (thenQ_ret ?_)
                refine blockQ_ret (thenQ_ret ?_)
                refine thenQ_ret (thenQ_ret ?_)
                refine blockQ_ret (thenQ_ret ?_)
                refine RetOK_of ?_
                simp [hG, List.getD_cons_zero, List.getD_cons_succ, -List.getD_eq_getElem?_getD]
                have hN := rel_hit hv hll hbad (k := k) (by omega) hrows (relRow_hit (i := i) (by omega) hcells (relCell_range hb52) (by omega)) (by omega); rw [relX_err hN (by omega), hN]; simp
              ·
                try simp [-List.getD_eq_getElem?_getD] at hb52
                have hrg : 0 ≤ (L.getD k []).getD i 0 ∧ (L.getD k []).getD i 0 < e.inputs := (by omega)
                refine awpS_skip ?_
                refine awpS_seq ?_
                refine awpS_regL ?_
                refine awpL_reg T_ok 4 fun K hK => ?_
                simp [hG, List.getD_cons_zero, List.getD_cons_succ, -List.getD_eq_getElem?_getD]
                refine ⟨Cond.mk (by omega), hK _ ?_⟩
                clear K hK
                refine awpL_call cal53 rfl rfl (fun _ => rfl) (fun hg => containsI_c ((L.getD k []).take i) ((L.getD k []).getD i 0) (by rw [List.length_take]; omega)) (fun hg => ?_) (fun hg => ?_) fun K hK => ?_
                · simp [hG, List.getD_cons_zero, List.getD_cons_succ, -List.getD_eq_getElem?_getD]
                · simp [hG, List.getD_cons_zero, List.getD_cons_succ, -List.getD_eq_getElem?_getD]; exact ⟨by omega, fun q hq => by rw [take_getD (by omega)]; rfl⟩
                simp [hG, List.getD_cons_zero, List.getD_cons_succ, -List.getD_eq_getElem?_getD]
                refine hK _ ?_
                clear K hK
                refine awpL_nil ?_
                refine awpS_cond rfl (fun hb58 => ?_) (fun hb58 => ?_)
                ·
                  try simp [-List.getD_eq_getElem?_getD] at hb58
                  refine awpS_seq ?_
                  refine awpS_reg T_ok fun K hK => ?_
                  simp [hG, List.getD_cons_zero, List.getD_cons_succ, -List.getD_eq_getElem?_getD]
                  refine ⟨Cond.mk (by simp [-List.getD_eq_getElem?_getD]), hK _ ?_⟩
                  clear K hK
                  refine awpS_ret ?_
                  refine blockQ_ret (thenQ_ret ?_)
                  refine thenQ_ret (thenQ_ret ?_)
                  refine blockQ_ret (thenQ_ret ?_)
                  refine blockQ_ret (thenQ_ret ?_)
                  refine thenQ_ret (thenQ_ret ?_)
                  refine blockQ_ret (thenQ_ret ?_)
                  refine RetOK_of ?_
                  simp [hG, List.getD_cons_zero, List.getD_cons_succ, -List.getD_eq_getElem?_getD]
                  have hN := rel_hit hv hll hbad (k := k) (by omega) hrows (relRow_hit (i := i) (by omega) hcells (relCell_twice hrg hb58) (by omega)) (by omega); rw [relX_err hN (by omega), hN]; simp
                ·
                  try simp [-List.getD_eq_getElem?_getD] at hb58
                  refine awpS_skip ?_
                  refine awpS_nil ?_
                  refine blockQ_norm (thenQ_norm ?_)
                  refine awpS_reg T_ok fun K hK => ?_
                  simp [hG, List.getD_cons_zero, List.getD_cons_succ, -List.getD_eq_getElem?_getD]
                  refine ⟨Cond.mk (by omega), hK _ ?_⟩
                  clear K hK
                  refine awpS_nil ?_
                  refine round_end (i + 1) (⟨by omega, fun j hj => (Nat.lt_succ_iff_lt_or_eq.1 hj).elim (hcells j) fun e => by rw [e]; exact relCell_ok hrg hb58⟩) (by omega) ?_
                  refine wk_of (id) (fun _ => false) (fun _ => false) ?_ ?_ rfl (Nat.zero_le _) (fun k hk => absurd hk (Nat.not_lt_zero _))
                  · simp [hG, List.getD_cons_zero, List.getD_cons_succ, -List.getD_eq_getElem?_getD]
                  · simp [hG, List.getD_cons_zero, List.getD_cons_succ, -List.getD_eq_getElem?_getD]
            ·
              try simp [-List.getD_eq_getElem?_getD] at hb41
              obtain rfl : i = (L.getD k []).length := (by omega)
              have hrz := relRow_zero (m := e.inputs) hcells
              refine awpS_exit ?_
              refine thenQ_exit (thenQ_exit ?_)
              refine blockQ_exit (thenQ_norm ?_)
              refine awpS_nil ?_
              refine blockQ_norm (thenQ_norm ?_)
              refine awpS_reg T_ok fun K hK => ?_
              simp [hG, List.getD_cons_zero, List.getD_cons_succ, -List.getD_eq_getElem?_getD]
              refine ⟨Cond.mk (by omega), hK _ ?_⟩
              clear K hK
              refine awpS_nil ?_
              refine round_end (k + 1) (⟨by omega, fun j hj => (Nat.lt_succ_iff_lt_or_eq.1 hj).elim (hrows j) fun e => by rw [e]; exact hrz⟩) (by omega) ?_
              refine wk_of (id) (fun _ => false) (fun _ => false) ?_ ?_ rfl (Nat.zero_le _) (fun k hk => absurd hk (Nat.not_lt_zero _))
              · simp [hG, List.getD_cons_zero, List.getD_cons_succ, -List.getD_eq_getElem?_getD]
              · simp [hG, List.getD_cons_zero, List.getD_cons_succ, -List.getD_eq_getElem?_getD]
        ·
          try simp [-List.getD_eq_getElem?_getD] at hb35
          obtain rfl : k = L.length := (by omega)
          have hN := rel_zero hv hll hbad hrows
          refine awpS_exit ?_
          refine thenQ_exit (thenQ_exit ?_)
          refine blockQ_exit (thenQ_norm ?_)
          refine awpS_seq ?_
          refine awpS_reg T_ok fun K hK => ?_
          simp [hG, List.getD_cons_zero, List.getD_cons_succ, -List.getD_eq_getElem?_getD]
          refine hK _ ?_
          clear K hK
          refine awpS_seq ?_
          refine awpS_seq ?_
          refine awpS_reg T_ok fun K hK => ?_
          simp [hG, List.getD_cons_zero, List.getD_cons_succ, -List.getD_eq_getElem?_getD]
          refine hK _ ?_
          clear K hK
          refine awpS_block ?_
          refine awpS_loop (α := Nat) (fun s => ⟨[(1, rowsI L), (2, .ptr (0, 0) 0 0), (4, .ptr (1, 0) 0 0), (10, .sl (2, 0) 0 s), (63, rowsC e.rows), (64, .int .i64 e.rows.length), (65, .int .i64 s)], [(0, .one (.arr 1 4 (fun _ => encF e))), (1, .one (.arr 1 4 (fun _ m => [AVal.int IntKind.i64 0, AVal.int IntKind.i64 0, AVal.int IntKind.i64 0, AVal.nils].getD m AVal.any))), (2, .one (.arr s 1 (fun q _ => cells (relCells e L q))))], 3⟩) (fun s => s ≤ e.rows.length) (fun s => e.rows.length - s) (0) (Nat.zero_le _) ?_ ?_
          ·
            refine wk_of (id) (fun _ => false) (fun k => k == 2) ?_ ?_ rfl (Nat.zero_le _) (fun k hk => absurd hk (Nat.not_lt_zero _))
            · simp [hG, List.getD_cons_zero, List.getD_cons_succ, -List.getD_eq_getElem?_getD]
            · simp [hG, List.getD_cons_zero, List.getD_cons_succ, -List.getD_eq_getElem?_getD]
          ·
            rintro s hs
            refine awpS_seq ?_
            refine awpS_reg T_ok fun K hK => ?_
            simp [hG, List.getD_cons_zero, List.getD_cons_succ, -List.getD_eq_getElem?_getD]
            refine hK _ ?_
            clear K hK
            refine awpS_seq ?_
            refine awpS_cond rfl (fun hb66 => ?_) (fun hb66 => ?_)
            ·
              try simp [-List.getD_eq_getElem?_getD] at hb66
              have hsr := row_len hv (k := s) (by omega)
              have hre := row_eq hv (k := s) (by omega)
              have hgr := good_row hbad (k := s) (by omega)
              refine awpS_skip ?_
              refine awpS_seq ?_
              refine awpS_block ?_
              refine awpS_seq ?_
              refine awpS_reg T_ok fun K hK => ?_
              simp [hG, List.getD_cons_zero, List.getD_cons_succ, -List.getD_eq_getElem?_getD]
              refine ⟨Cond.mk (by omega), hK _ ?_⟩
              clear K hK
              refine awpS_seq ?_
              refine awpS_reg T_ok fun K hK => ?_
              simp [hG, List.getD_cons_zero, List.getD_cons_succ, -List.getD_eq_getElem?_getD]
              refine ⟨Cond.mk (by omega), hK _ ?_⟩
              clear K hK
              refine awpS_seq ?_
              refine awpS_seq ?_
              refine awpS_reg T_ok fun K hK => ?_
              simp [hG, List.getD_cons_zero, List.getD_cons_succ, -List.getD_eq_getElem?_getD]
              refine hK _ ?_
              clear K hK
              refine awpS_block ?_
              refine awpS_loop (α := Nat) (fun i => ⟨[(1, rowsI L), (2, .ptr (0, 0) 0 0), (4, .ptr (1, 0) 0 0), (10, .sl (2, 0) 0 s), (11, .int .i64 s), (12, cells (e.rows.getD s [])), (13, .sl (3, 0) 0 (e.rows.getD s []).length), (63, rowsC e.rows), (64, .int .i64 e.rows.length), (65, .int .i64 s), (73, cells (e.rows.getD s [])), (74, .int .i64 (e.rows.getD s []).length), (75, .int .i64 i)], [(0, .one (.arr 1 4 (fun _ => encF e))), (1, .one (.arr 1 4 (fun _ m => [AVal.int IntKind.i64 0, AVal.int IntKind.i64 0, AVal.int IntKind.i64 0, AVal.nils].getD m AVal.any))), (2, .one (.arr s 1 (fun q _ => cells (relCells e L q)))), (3, .one (.arr (e.rows.getD s []).length 2 (fun q j => cellF ((scat (L.getD s []) (e.rows.getD s []) dc (e.rows.getD s []).length (i)).getD q dc) j)))], 4⟩) (fun i => i ≤ (e.rows.getD s []).length) (fun i => (e.rows.getD s []).length - i) (0) (Nat.zero_le _) ?_ ?_
              ·
                refine wk_of (id) (fun _ => false) (fun _ => false) ?_ ?_ rfl (Nat.zero_le _) (fun k hk => absurd hk (Nat.not_lt_zero _))
                · simp [hG, List.getD_cons_zero, List.getD_cons_succ, -List.getD_eq_getElem?_getD]
                · simp [hG, List.getD_cons_zero, List.getD_cons_succ, -List.getD_eq_getElem?_getD]; exact fun q hq => (by show 0 = ((List.replicate _ dc).getD q dc).to ∧ ((List.replicate _ dc).getD q dc).word = []; rw [repl_dc]; exact ⟨rfl, rfl⟩)
              ·
                rintro i hi
                refine awpS_seq ?_
                refine awpS_reg T_ok fun K hK => ?_
                simp [hG, List.getD_cons_zero, List.getD_cons_succ, -List.getD_eq_getElem?_getD]
                refine hK _ ?_
                clear K hK
                refine awpS_seq ?_
                refine awpS_cond rfl (fun hb76 => ?_) (fun hb76 => ?_)
                ·
                  try simp [-List.getD_eq_getElem?_getD] at hb76
                  have hto := relRow_in (hrows s (by omega)) (i := i) (by omega)
                  have hsc : (scat (L.getD s []) (e.rows.getD s []) dc (e.rows.getD s []).length (i + 1)) = (scat (L.getD s []) (e.rows.getD s []) dc (e.rows.getD s []).length (i)).set ((L.getD s []).getD i 0).toNat ((e.rows.getD s []).getD i dc) := rfl
                  refine awpS_skip ?_
                  refine awpS_seq ?_
                  refine awpS_block ?_
                  refine awpS_seq ?_
                  refine awpS_reg T_ok fun K hK => ?_
                  simp [hG, List.getD_cons_zero, List.getD_cons_succ, -List.getD_eq_getElem?_getD]
                  refine ⟨Cond.mk (by simp [-List.getD_eq_getElem?_getD]; omega), hK _ ?_⟩
                  clear K hK
                  refine awpS_draw hR mixed [(10, (3, 0))] ⟨[], [], []⟩ fun mu0 => ?_
                  refine awpA_tk T_ok [0, 1, 2, 3, 4, 5, 6, 7, 8, 9] [] (fuel := 1) [9, 8, 7, 6, 5, 4, 3, 2, 1, 0] (by decide +kernel) (by decide +kernel) rfl rfl fun K hK => ?_
                  simp [hG, List.getD_cons_zero, List.getD_cons_succ, -List.getD_eq_getElem?_getD]
                  refine ⟨Cond.mk (by omega), hK _ ?_⟩
                  clear K hK
                  refine awpA_only (fuel := 0) (i := 10) (by decide +kernel) ?_
                  refine awpO_reg T_ok rfl ?_ fun K hK => ?_
                  · simp [hG, List.getD_cons_zero, List.getD_cons_succ, -List.getD_eq_getElem?_getD]
                  simp [hG, List.getD_cons_zero, List.getD_cons_succ, -List.getD_eq_getElem?_getD]
                  refine ⟨Cond.mk (by omega), hK _ ?_⟩
                  clear K hK
                  refine awpA_done (by decide +kernel) ?_
                  refine awpS_nil ?_
                  refine blockQ_norm (thenQ_norm ?_)
                  refine awpS_reg T_ok fun K hK => ?_
                  simp [hG, List.getD_cons_zero, List.getD_cons_succ, -List.getD_eq_getElem?_getD]
                  refine ⟨Cond.mk (by omega), hK _ ?_⟩
                  clear K hK
                  refine awpS_nil ?_
                  refine round_end (i + 1) (by omega) (by omega) ?_
                  refine wk_of (id) (fun _ => false) (fun _ => false) ?_ ?_ rfl (Nat.zero_le _) (fun k hk => absurd hk (Nat.not_lt_zero _))
                  · simp [hG, List.getD_cons_zero, List.getD_cons_succ, -List.getD_eq_getElem?_getD]
                  · simp [hG, List.getD_cons_zero, List.getD_cons_succ, -List.getD_eq_getElem?_getD]; exact fun q hq => ⟨cell_set (j := 0) (by rw [scat_len]; omega), cell_set (j := 1) (by rw [scat_len]; omega)⟩
                ·
                  try simp [-List.getD_eq_getElem?_getD] at hb76
                  obtain rfl : i = (e.rows.getD s []).length := (by omega)
                  refine awpS_exit ?_
                  refine thenQ_exit (thenQ_exit ?_)
                  refine blockQ_exit (thenQ_norm ?_)
                  refine awpS_reg T_ok fun K hK => ?_
                  simp [hG, List.getD_cons_zero, List.getD_cons_succ, -List.getD_eq_getElem?_getD]
                  refine ⟨Cond.mk (by omega), hK _ ?_⟩
                  clear K hK
                  refine awpS_nil ?_
                  refine blockQ_norm (thenQ_norm ?_)
                  refine awpS_reg T_ok fun K hK => ?_
                  simp [hG, List.getD_cons_zero, List.getD_cons_succ, -List.getD_eq_getElem?_getD]
                  refine ⟨Cond.mk (by omega), hK _ ?_⟩
                  clear K hK
                  refine awpS_nil ?_
                  refine round_end (s + 1) (by omega) (by omega) ?_
                  refine wk_of (fun k => if k = 2 then 5 else k) (fun k => k == 3) (fun _ => false) ?_ ?_ rfl (Nat.zero_le _) (fun k hk => absurd hk (Nat.not_lt_zero _))
                  · simp [hG, List.getD_cons_zero, List.getD_cons_succ, -List.getD_eq_getElem?_getD]
                  · simp [hG, List.getD_cons_zero, List.getD_cons_succ, -List.getD_eq_getElem?_getD]; refine fun j hj => app_rowC (F := relCells e L) hj ?_; simp [-List.getD_eq_getElem?_getD]; exact ⟨relCells_len.symm, Nat.le_of_eq relCells_len, fun q hq => ⟨rfl, rfl⟩⟩
            ·
              try simp [-List.getD_eq_getElem?_getD] at hb66
              obtain rfl : s = e.rows.length := (by omega)
              refine awpS_exit ?_
              refine thenQ_exit (thenQ_exit ?_)
              refine blockQ_exit (thenQ_norm ?_)
              refine awpS_seq ?_
              refine awpS_wk (st2 := ⟨[(2, .ptr (0, 0) 0 0), (4, .ptr (1, 0) 0 0), (10, rowsC (relE e L).rows)], [(0, .one (.arr 1 4 (fun _ => encF e))), (1, .one (.arr 1 4 (fun _ m => [AVal.int IntKind.i64 0, AVal.int IntKind.i64 0, AVal.int IntKind.i64 0, AVal.nils].getD m AVal.any)))], 2⟩) ?_ ?_
              ·
                refine wk_of (id) (fun k => k == 2) (fun _ => false) ?_ ?_ rfl (Nat.zero_le _) (fun k hk => absurd hk (Nat.not_lt_zero _))
                · simp [hG, List.getD_cons_zero, List.getD_cons_succ, -List.getD_eq_getElem?_getD]; exact fun q hq => (by rw [relE_row hq]; exact Clo.le _ Clo_cells)
                · simp [hG, List.getD_cons_zero, List.getD_cons_succ, -List.getD_eq_getElem?_getD]
              refine awpS_regL ?_
              refine awpL_reg T_ok 2 fun K hK => ?_
              simp [hG, List.getD_cons_zero, List.getD_cons_succ, -List.getD_eq_getElem?_getD]
              refine hK _ ?_
              clear K hK
              refine awpL_call cal40 rfl rfl (fun _ => rfl) (fun hg => with_c e (relE e L).rows) (fun hg => ?_) (fun hg => ?_) fun K hK => ?_
              · simp [hG, List.getD_cons_zero, List.getD_cons_succ, -List.getD_eq_getElem?_getD]
              · simp [hG, List.getD_cons_zero, List.getD_cons_succ, -List.getD_eq_getElem?_getD]
              simp [hG, List.getD_cons_zero, List.getD_cons_succ, -List.getD_eq_getElem?_getD]
              refine hK _ ?_
              clear K hK
              refine awpL_reg T_ok 2 fun K hK => ?_
              simp [hG, List.getD_cons_zero, List.getD_cons_succ, -List.getD_eq_getElem?_getD]
              refine ⟨Cond.mk (by simp [-List.getD_eq_getElem?_getD]), hK _ ?_⟩
              clear K hK
              refine awpL_nil ?_
              refine awpS_ret ?_
              refine RetOK_of ?_
              simp [hG, List.getD_cons_zero, List.getD_cons_succ, -List.getD_eq_getElem?_getD]
              rw [relX_ok hN, hN]; simp; exact ⟨rfl, rfl, rfl⟩

set_option maxRecDepth 100000 in
theorem permutations_c (e : Enc) (l : List UInt8) (hv : checkE e = 0) (hl : l.length ≤ 9223372036854775807) : PC Try.prog 28 [.agg 4 (encF e), Lift.bytes l] (rowsI (permsL e l)) := by
  have hin := (checkE_valid hv).1.inputs
  have hl64 := rows_len hv
  refine PC_introS T_ok Try.func28 rfl (by simp [Try.ntmps28]) fun G hG hR => ?_
  simp only [Try.ntmps28, Try.results28] at hG ⊢
  simp only [argEnv, Nat.zero_add, Nat.reduceAdd]
  refine awpS_seq ?_
  refine awpS_reg T_ok fun K hK => ?_
  simp [hG, List.getD_cons_zero, List.getD_cons_succ, -List.getD_eq_getElem?_getD]
  refine ⟨Cond.mk (by simp [-List.getD_eq_getElem?_getD]), hK _ ?_⟩
  clear K hK
  refine awpS_seq ?_
  refine awpS_reg T_ok fun K hK => ?_
  simp [hG, List.getD_cons_zero, List.getD_cons_succ, -List.getD_eq_getElem?_getD]
  refine hK _ ?_
  clear K hK
  refine awpS_seq ?_
  refine awpS_reg T_ok fun K hK => ?_
  simp [hG, List.getD_cons_zero, List.getD_cons_succ, -List.getD_eq_getElem?_getD]
  refine hK _ ?_
  clear K hK
  refine awpS_seq ?_
  refine awpS_seq ?_
  refine awpS_reg T_ok fun K hK => ?_
  simp [hG, List.getD_cons_zero, List.getD_cons_succ, -List.getD_eq_getElem?_getD]
  refine hK _ ?_
  clear K hK
  refine awpS_block ?_
  refine awpS_loop (α := Nat) (fun s => ⟨[(1, Lift.bytes l), (2, .ptr (0, 0) 0 0), (5, .sl (1, 0) 0 s), (6, .int .i64 (min (s * e.inputs.toNat) l.length : Nat)), (13, .int .i64 e.rows.length), (14, .int .i64 s)], [(0, .one (.arr 1 4 (fun _ => encF e))), (1, .one (.arr s 1 (fun q _ => ints (permL e l q))))], 2⟩) (fun s => s ≤ e.rows.length) (fun s => e.rows.length - s) (0) (Nat.zero_le _) ?_ ?_
  ·
    refine wk_of (id) (fun _ => false) (fun k => k == 1) ?_ ?_ rfl (Nat.zero_le _) (fun k hk => absurd hk (Nat.not_lt_zero _))
    · simp [hG, List.getD_cons_zero, List.getD_cons_succ, -List.getD_eq_getElem?_getD]
    · simp [hG, List.getD_cons_zero, List.getD_cons_succ, -List.getD_eq_getElem?_getD]
  ·
    rintro s hs
    refine awpS_seq ?_
    refine awpS_reg T_ok fun K hK => ?_
    simp [hG, List.getD_cons_zero, List.getD_cons_succ, -List.getD_eq_getElem?_getD]
    refine hK _ ?_
    clear K hK
    refine awpS_seq ?_
    refine awpS_cond rfl (fun hb15 => ?_) (fun hb15 => ?_)
    ·
      try simp [-List.getD_eq_getElem?_getD] at hb15
      refine awpS_skip ?_
      refine awpS_seq ?_
      refine awpS_block ?_
      refine awpS_seq ?_
      refine awpS_reg T_ok fun K hK => ?_
      simp [hG, List.getD_cons_zero, List.getD_cons_succ, -List.getD_eq_getElem?_getD]
      refine hK _ ?_
      clear K hK
      refine awpS_seq ?_
      refine awpS_seq ?_
      refine awpS_reg T_ok fun K hK => ?_
      simp [hG, List.getD_cons_zero, List.getD_cons_succ, -List.getD_eq_getElem?_getD]
      refine hK _ ?_
      clear K hK
      refine awpS_block ?_
      refine awpS_loop (α := Nat) (fun i => ⟨[(1, Lift.bytes l), (2, .ptr (0, 0) 0 0), (5, .sl (1, 0) 0 s), (6, .int .i64 (min (s * e.inputs.toNat) l.length : Nat)), (7, .sl (2, 0) 0 i), (8, .nils), (13, .int .i64 e.rows.length), (14, .int .i64 s), (17, .int .i64 e.inputs), (18, .int .i64 i)], [(0, .one (.arr 1 4 (fun _ => encF e))), (1, .one (.arr s 1 (fun q _ => ints (permL e l q)))), (2, .one (.arr i 1 (fun q _ => .int .i64 (q : Nat))))], 3⟩) (fun i => i ≤ e.inputs.toNat) (fun i => e.inputs.toNat - i) (0) (Nat.zero_le _) ?_ ?_
      ·
        refine wk_of (id) (fun _ => false) (fun k => k == 2) ?_ ?_ rfl (Nat.zero_le _) (fun k hk => absurd hk (Nat.not_lt_zero _))
        · simp [hG, List.getD_cons_zero, List.getD_cons_succ, -List.getD_eq_getElem?_getD]
        · simp [hG, List.getD_cons_zero, List.getD_cons_succ, -List.getD_eq_getElem?_getD]
      ·
        rintro i hi
        refine awpS_seq ?_
        refine awpS_reg T_ok fun K hK => ?_
        simp [hG, List.getD_cons_zero, List.getD_cons_succ, -List.getD_eq_getElem?_getD]
        refine hK _ ?_
        clear K hK
        refine awpS_seq ?_
        refine awpS_cond rfl (fun hb19 => ?_) (fun hb19 => ?_)
        ·
          try simp [-List.getD_eq_getElem?_getD] at hb19
          refine awpS_skip ?_
          refine awpS_seq ?_
          refine awpS_block ?_
          refine awpS_seq ?_
          refine awpS_reg T_ok fun K hK => ?_
          simp [hG, List.getD_cons_zero, List.getD_cons_succ, -List.getD_eq_getElem?_getD]
          refine hK _ ?_
          clear K hK
          refine awpS_reg T_ok fun K hK => ?_
          simp [hG, List.getD_cons_zero, List.getD_cons_succ, -List.getD_eq_getElem?_getD]
          refine ⟨Cond.mk (by omega), hK _ ?_⟩
          clear K hK
          refine awpS_nil ?_
          refine blockQ_norm (thenQ_norm ?_)
          refine awpS_reg T_ok fun K hK => ?_
          simp [hG, List.getD_cons_zero, List.getD_cons_succ, -List.getD_eq_getElem?_getD]
          refine ⟨Cond.mk (by omega), hK _ ?_⟩
          clear K hK
          refine awpS_nil ?_
          refine round_end (i + 1) (by omega) (by omega) ?_
          refine wk_of (fun k => if k = 2 then 4 else k) (fun _ => false) (fun _ => false) ?_ ?_ rfl (Nat.zero_le _) (fun k hk => absurd hk (Nat.not_lt_zero _))
          · simp [hG, List.getD_cons_zero, List.getD_cons_succ, -List.getD_eq_getElem?_getD]
          · simp [hG, List.getD_cons_zero, List.getD_cons_succ, -List.getD_eq_getElem?_getD]; exact fun q hq => app_last (F := fun q => (q : Int)) hq rfl
        ·
          try simp [-List.getD_eq_getElem?_getD] at hb19
          obtain rfl : i = e.inputs.toNat := (by omega)
          refine awpS_exit ?_
          refine thenQ_exit (thenQ_exit ?_)
          refine blockQ_exit (thenQ_norm ?_)
          refine awpS_seq ?_
          refine awpS_block ?_
          refine awpS_loop (α := Nat) (fun j => ⟨[(1, Lift.bytes l), (2, .ptr (0, 0) 0 0), (5, .sl (1, 0) 0 s), (6, .int .i64 (min (s * e.inputs.toNat + j) l.length : Nat)), (7, .sl (2, 0) 0 (e.inputs.toNat - j)), (8, .sl (3, 0) 0 j), (13, .int .i64 e.rows.length), (14, .int .i64 s)], [(0, .one (.arr 1 4 (fun _ => encF e))), (1, .one (.arr s 1 (fun q _ => ints (permL e l q)))), (2, .one (.arr (e.inputs.toNat - j) 1 (fun q _ => .int .i64 ((takenL l (s * e.inputs.toNat) e.inputs.toNat j).2.getD q 0)))), (3, .one (.arr (j) 1 (fun q _ => .int .i64 ((takenL l (s * e.inputs.toNat) e.inputs.toNat j).1.getD q 0))))], 4⟩) (fun j => j ≤ e.inputs.toNat) (fun j => e.inputs.toNat - j) (0) (Nat.zero_le _) ?_ ?_
          ·
            refine wk_of (id) (fun _ => false) (fun k => k == 3) ?_ ?_ rfl (Nat.zero_le _) (fun k hk => absurd hk (Nat.not_lt_zero _))
            · simp [hG, List.getD_cons_zero, List.getD_cons_succ, -List.getD_eq_getElem?_getD]
            · simp [hG, List.getD_cons_zero, List.getD_cons_succ, -List.getD_eq_getElem?_getD]; exact fun i hi => (upI_at (by omega)).symm
          ·
            rintro j hj
            refine awpS_seq ?_
            refine awpS_seq ?_
            refine awpS_reg T_ok fun K hK => ?_
            simp [hG, List.getD_cons_zero, List.getD_cons_succ, -List.getD_eq_getElem?_getD]
            refine hK _ ?_
            clear K hK
            refine awpS_cond rfl (fun hb28 => ?_) (fun hb28 => ?_)
            ·
              try simp [-List.getD_eq_getElem?_getD] at hb28
              have hjm : j < e.inputs.toNat := (by omega)
              have htk := takenL_ok (l := l) (t := s * e.inputs.toNat) (n := e.inputs.toNat) j (by omega)
              have hT : takenL l (s * e.inputs.toNat) e.inputs.toNat (j + 1) = ((takenL l (s * e.inputs.toNat) e.inputs.toNat j).1 ++ [(takenL l (s * e.inputs.toNat) e.inputs.toNat j).2.getD (pickAt l (s * e.inputs.toNat + j) (e.inputs.toNat - j)) 0], (takenL l (s * e.inputs.toNat) e.inputs.toNat j).2.eraseIdx (pickAt l (s * e.inputs.toNat + j) (e.inputs.toNat - j))) := (by simp only [takenL]; rw [htk.2.1])
              have hpl := pickAt_lt (l := l) (t := s * e.inputs.toNat + j) (n := e.inputs.toNat - j) (by omega)
              refine awpS_skip ?_
              refine awpS_block ?_
              refine awpS_seq ?_
              refine awpS_reg T_ok fun K hK => ?_
              simp [hG, List.getD_cons_zero, List.getD_cons_succ, -List.getD_eq_getElem?_getD]
              refine hK _ ?_
              clear K hK
              refine awpS_seq ?_
              refine awpS_seq ?_
              refine awpS_reg T_ok fun K hK => ?_
              simp [hG, List.getD_cons_zero, List.getD_cons_succ, -List.getD_eq_getElem?_getD]
              refine hK _ ?_
              clear K hK
              refine awpS_cond rfl (fun hb32 => ?_) (fun hb32 => ?_)
              ·
                try simp [-List.getD_eq_getElem?_getD] at hb32
                have hk6 : min (s * e.inputs.toNat + j) l.length + 1 = min (s * e.inputs.toNat + j + 1) l.length := (by omega)
                refine awpS_seq ?_
                refine awpS_reg T_ok fun K hK => ?_
                simp [hG, List.getD_cons_zero, List.getD_cons_succ, -List.getD_eq_getElem?_getD]
                first | refine hK _ ?_ | refine ⟨Cond.mk (by have hb8 := (l.getD (min (s * e.inputs.toNat + j) l.length) 0).toNat_lt; clear hK; simp [-List.getD_eq_getElem?_getD]; repeat (first | omega | exact trivial | apply And.intro)), hK _ ?_⟩
                clear K hK
                refine awpS_reg T_ok fun K hK => ?_
                simp [hG, List.getD_cons_zero, List.getD_cons_succ, -List.getD_eq_getElem?_getD]
                refine ⟨Cond.mk (by omega), hK _ ?_⟩
                clear K hK
                refine awpS_seq ?_
                refine awpS_wk (st2 := ⟨[(1, Lift.bytes l), (2, .ptr (0, 0) 0 0), (5, .sl (1, 0) 0 s), (6, .int .i64 (min (s * e.inputs.toNat + j + 1) l.length : Nat)), (7, .sl (2, 0) 0 (e.inputs.toNat - j)), (8, .sl (3, 0) 0 j), (10, .int .i64 (pickAt l (s * e.inputs.toNat + j) (e.inputs.toNat - j) : Nat)), (13, .int .i64 e.rows.length), (14, .int .i64 s)], [(0, .one (.arr 1 4 (fun _ => encF e))), (1, .one (.arr s 1 (fun q _ => ints (permL e l q)))), (2, .one (.arr (e.inputs.toNat - j) 1 (fun q _ => .int .i64 ((takenL l (s * e.inputs.toNat) e.inputs.toNat j).2.getD q 0)))), (3, .one (.arr (j) 1 (fun q _ => .int .i64 ((takenL l (s * e.inputs.toNat) e.inputs.toNat j).1.getD q 0))))], 4⟩) ?_ ?_
                ·
                  refine wk_of (id) (fun _ => false) (fun _ => false) ?_ ?_ rfl (Nat.zero_le _) (fun k hk => absurd hk (Nat.not_lt_zero _))
                  · simp [hG, List.getD_cons_zero, List.getD_cons_succ, -List.getD_eq_getElem?_getD]; first | exact ⟨by omega, pick_in (by omega)⟩ | exact ⟨by omega, pick_out (by omega)⟩
                  · simp [hG, List.getD_cons_zero, List.getD_cons_succ, -List.getD_eq_getElem?_getD]
                refine awpS_reg T_ok fun K hK => ?_
                simp [hG, List.getD_cons_zero, List.getD_cons_succ, -List.getD_eq_getElem?_getD]
                refine ⟨Cond.mk (by omega), hK _ ?_⟩
                clear K hK
                refine awpS_regL ?_
                refine awpL_reg T_ok 4 fun K hK => ?_
                simp [hG, List.getD_cons_zero, List.getD_cons_succ, -List.getD_eq_getElem?_getD]
                refine ⟨Cond.mk (by omega), hK _ ?_⟩
                clear K hK
                refine awpL_fc cal51 [2] (fun _ => false) (delete_c (takenL l (s * e.inputs.toNat) e.inputs.toNat j).2 (pickAt l (s * e.inputs.toNat + j) (e.inputs.toNat - j)) (by omega)) rfl rfl rfl (by simp) (.inl fun _ => rfl) ?_ ?_ ?_ fun K hK x hI hno => ?_
                · simp [hG, List.getD_cons_zero, List.getD_cons_succ, -List.getD_eq_getElem?_getD]
                · simp [hG, List.getD_cons_zero, List.getD_cons_succ, -List.getD_eq_getElem?_getD]; exact htk.2.1.symm
                · simp [hG, List.getD_cons_zero, List.getD_cons_succ, -List.getD_eq_getElem?_getD]; exact Nat.le_of_eq htk.2.1
                simp [hG, List.getD_cons_zero, List.getD_cons_succ, -List.getD_eq_getElem?_getD]
                refine hK _ ?_
                clear K hK
                refine awpL_reg T_ok 1 fun K hK => ?_
                simp [hG, List.getD_cons_zero, List.getD_cons_succ, -List.getD_eq_getElem?_getD]
                refine hK _ ?_
                clear K hK
                refine awpL_nil ?_
                refine awpS_nil ?_
                refine blockQ_norm (thenQ_norm ?_)
                refine awpS_nil ?_
                refine round_end (j + 1) (by omega) (by omega) ?_
                refine wk_of (fun k => if k = 3 then 5 else k) (fun _ => false) (fun _ => false) ?_ ?_ rfl (Nat.zero_le _) (fun k hk => absurd hk (Nat.not_lt_zero _))
                · simp [hG, List.getD_cons_zero, List.getD_cons_succ, -List.getD_eq_getElem?_getD]; have h21 := htk.2.1; exact ⟨by omega, by omega⟩
                · rw [hT]; simp [hG, List.getD_cons_zero, List.getD_cons_succ, -List.getD_eq_getElem?_getD]; exact ⟨by have h21 := htk.2.1; omega, fun i hi => app_oneJ htk.1 hi⟩
              ·
                try simp [-List.getD_eq_getElem?_getD] at hb32
                have hk6 : min (s * e.inputs.toNat + j) l.length = min (s * e.inputs.toNat + j + 1) l.length := (by omega)
                refine awpS_skip ?_
                refine awpS_seq ?_
                refine awpS_wk (st2 := ⟨[(1, Lift.bytes l), (2, .ptr (0, 0) 0 0), (5, .sl (1, 0) 0 s), (6, .int .i64 (min (s * e.inputs.toNat + j + 1) l.length : Nat)), (7, .sl (2, 0) 0 (e.inputs.toNat - j)), (8, .sl (3, 0) 0 j), (10, .int .i64 (pickAt l (s * e.inputs.toNat + j) (e.inputs.toNat - j) : Nat)), (13, .int .i64 e.rows.length), (14, .int .i64 s)], [(0, .one (.arr 1 4 (fun _ => encF e))), (1, .one (.arr s 1 (fun q _ => ints (permL e l q)))), (2, .one (.arr (e.inputs.toNat - j) 1 (fun q _ => .int .i64 ((takenL l (s * e.inputs.toNat) e.inputs.toNat j).2.getD q 0)))), (3, .one (.arr (j) 1 (fun q _ => .int .i64 ((takenL l (s * e.inputs.toNat) e.inputs.toNat j).1.getD q 0))))], 4⟩) ?_ ?_
                ·
                  refine wk_of (id) (fun _ => false) (fun _ => false) ?_ ?_ rfl (Nat.zero_le _) (fun k hk => absurd hk (Nat.not_lt_zero _))
                  · simp [hG, List.getD_cons_zero, List.getD_cons_succ, -List.getD_eq_getElem?_getD]; first | exact ⟨by omega, pick_in (by omega)⟩ | exact ⟨by omega, pick_out (by omega)⟩
                  · simp [hG, List.getD_cons_zero, List.getD_cons_succ, -List.getD_eq_getElem?_getD]
                refine awpS_reg T_ok fun K hK => ?_
                simp [hG, List.getD_cons_zero, List.getD_cons_succ, -List.getD_eq_getElem?_getD]
                refine ⟨Cond.mk (by omega), hK _ ?_⟩
                clear K hK
                refine awpS_regL ?_
                refine awpL_reg T_ok 4 fun K hK => ?_
                simp [hG, List.getD_cons_zero, List.getD_cons_succ, -List.getD_eq_getElem?_getD]
                refine ⟨Cond.mk (by omega), hK _ ?_⟩
                clear K hK
                refine awpL_fc cal51 [2] (fun _ => false) (delete_c (takenL l (s * e.inputs.toNat) e.inputs.toNat j).2 (pickAt l (s * e.inputs.toNat + j) (e.inputs.toNat - j)) (by omega)) rfl rfl rfl (by simp) (.inl fun _ => rfl) ?_ ?_ ?_ fun K hK x hI hno => ?_
                · simp [hG, List.getD_cons_zero, List.getD_cons_succ, -List.getD_eq_getElem?_getD]
                · simp [hG, List.getD_cons_zero, List.getD_cons_succ, -List.getD_eq_getElem?_getD]; exact htk.2.1.symm
                · simp [hG, List.getD_cons_zero, List.getD_cons_succ, -List.getD_eq_getElem?_getD]; exact Nat.le_of_eq htk.2.1
                simp [hG, List.getD_cons_zero, List.getD_cons_succ, -List.getD_eq_getElem?_getD]
                refine hK _ ?_
                clear K hK
                refine awpL_reg T_ok 1 fun K hK => ?_
                simp [hG, List.getD_cons_zero, List.getD_cons_succ, -List.getD_eq_getElem?_getD]
                refine hK _ ?_
                clear K hK
                refine awpL_nil ?_
                refine awpS_nil ?_
                refine blockQ_norm (thenQ_norm ?_)
                refine awpS_nil ?_
                refine round_end (j + 1) (by omega) (by omega) ?_
                refine wk_of (fun k => if k = 3 then 5 else k) (fun _ => false) (fun _ => false) ?_ ?_ rfl (Nat.zero_le _) (fun k hk => absurd hk (Nat.not_lt_zero _))
                · simp [hG, List.getD_cons_zero, List.getD_cons_succ, -List.getD_eq_getElem?_getD]; have h21 := htk.2.1; exact ⟨by omega, by omega⟩
                · rw [hT]; simp [hG, List.getD_cons_zero, List.getD_cons_succ, -List.getD_eq_getElem?_getD]; exact ⟨by have h21 := htk.2.1; omega, fun i hi => app_oneJ htk.1 hi⟩
            ·
              try simp [-List.getD_eq_getElem?_getD] at hb28
              obtain rfl : j = e.inputs.toNat := (by omega)
              refine awpS_exit ?_
              refine thenQ_exit (thenQ_exit ?_)
              refine blockQ_exit (thenQ_norm ?_)
              refine awpS_reg T_ok fun K hK => ?_
              simp [hG, List.getD_cons_zero, List.getD_cons_succ, -List.getD_eq_getElem?_getD]
              refine ⟨Cond.mk (by omega), hK _ ?_⟩
              clear K hK
              refine awpS_nil ?_
              refine blockQ_norm (thenQ_norm ?_)
              refine awpS_reg T_ok fun K hK => ?_
              simp [hG, List.getD_cons_zero, List.getD_cons_succ, -List.getD_eq_getElem?_getD]
              refine ⟨Cond.mk (by omega), hK _ ?_⟩
              clear K hK
              refine awpS_nil ?_
              refine round_end (s + 1) (by omega) (by omega) ?_
              refine wk_of (fun k => if k = 1 then 5 else k) (fun k => k == 3) (fun _ => false) ?_ ?_ rfl (Nat.zero_le _) (fun k hk => absurd hk (Nat.not_lt_zero _))
              · simp [hG, List.getD_cons_zero, List.getD_cons_succ, -List.getD_eq_getElem?_getD]; rw [Nat.add_mul, Nat.one_mul]
              · simp [hG, List.getD_cons_zero, List.getD_cons_succ, -List.getD_eq_getElem?_getD]; refine fun i hi => app_rowI (F := permL e l) hi ?_; simp [-List.getD_eq_getElem?_getD]; exact ⟨permL_len.symm, Nat.le_of_eq permL_len, fun q hq => rfl⟩
    ·
      try simp [-List.getD_eq_getElem?_getD] at hb15
      obtain rfl : s = e.rows.length := (by omega)
      refine awpS_exit ?_
      refine thenQ_exit (thenQ_exit ?_)
      refine blockQ_exit (thenQ_norm ?_)
      refine awpS_seq ?_
      refine awpS_reg T_ok fun K hK => ?_
      simp [hG, List.getD_cons_zero, List.getD_cons_succ, -List.getD_eq_getElem?_getD]
      refine hK _ ?_
      clear K hK
      refine awpS_ret ?_
      refine RetOK_of ?_
      simp [hG, List.getD_cons_zero, List.getD_cons_succ, -List.getD_eq_getElem?_getD]
      exact ⟨permsL_len.symm, Nat.le_of_eq permsL_len, fun i hi => by rw [permsL_at (by rw [← permsL_len (e := e) (l := l)]; exact hi)]; exact Clo.le _ Clo_ints⟩

end Go.Proofs.Ytmjkbidnghcfnaa
