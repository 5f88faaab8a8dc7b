/-
  Walks: slices.Compact of edges that may repeat, graph.Make of any edges, Recode.
-/
import Derived.Test.YtddghlnaocjjkaaPD
import Derived.Test.YtddghlnaocjjkaaWE
namespace Go.Proofs.Ytddghlnaocjjkaa
set_option linter.unusedSimpArgs false
set_option linter.unusedVariables false
open Go Go.Lift Go.Proofs

theorem ddL_short {α : Type} [DecidableEq α] {d : α} {l : List α} (h : l.length < 2) : ddL d l = l := ddL_none fun j hj h1 => by omega
theorem edge_ne {a b : Edge} (h : a.frm = b.frm → a.lab = b.lab → ¬ a.to = b.to) : a ≠ b := fun e => h (by rw [e]) (by rw [e]) (by rw [e])
theorem clr_end {l : List Edge} {m i j : Nat} {f : Nat → Nat → AVal} (hm : m = l.length) (hi : i < l.length) (hj : j < 3) (hf : ∀ i j, f i j = edgeF (ddG de l m i) j) : clr f (ddAt de l m).length (l.length - (ddAt de l m).length) (fun j => [AVal.int .i64 0, .int .i64 0, .int .i64 0].getD j .any) i j = edgeF ((ddL de l).getD i de) j := by
  subst hm
  unfold clr ddL
  have hle := dd_len (d := de) (l := l) (k := l.length)
  by_cases h : (ddAt de l l.length).length ≤ i
  · rw [if_pos (by omega), show (ddAt de l l.length).getD i de = de by simp [List.getD, List.getElem?_eq_none h]]
    rcases lt3 hj with rfl | rfl | rfl <;> rfl
  · rw [if_neg (by omega), hf]
    unfold ddG; rw [if_pos (by omega)]
theorem wr_dd {l : List Edge} {m i j : Nat} (h : l.getD m de ≠ l.getD (m - 1) de) (hj : j < 3) {v : Nat → AVal} (hv : ∀ j, j < 3 → v j = edgeF (l.getD m de) j) : wr (fun i j => edgeF (ddG de l m i) j) (ddAt de l m).length 0 3 v i j = edgeF (ddG de l (m + 1) i) j := by
  unfold wr
  rw [ddG_put h]
  by_cases h1 : i = (ddAt de l m).length
  · rw [if_pos ⟨h1, by omega, by omega⟩, if_pos h1]; exact hv j hj
  · rw [if_neg (fun e => h1 e.1), if_neg h1]
/-- where an element is of which q holds. -/
def placeG {α : Type} (l : List α) (q : α → Bool) : Int := if l.any q then (l.findIdx q : Nat) else -1
theorem placeG_at {α : Type} {d : α} {l : List α} {q : α → Bool} {i : Nat} (hi : i < l.length) (hq : q (l.getD i d) = true) (hn : ∀ j, j < i → q (l.getD j d) = false) : placeG l q = i := by
  unfold placeG
  rw [if_pos (List.any_eq_true.2 ⟨l[i], List.getElem_mem hi, by rw [← getD_get (d := d)]; exact hq⟩)]
  have : l.findIdx q = i := (List.findIdx_eq hi).2 ⟨by rw [← getD_get (d := d)]; exact hq, fun j hj => by rw [← getD_get (d := d)]; exact hn j hj⟩
  rw [this]
theorem placeG_none {α : Type} {d : α} {l : List α} {q : α → Bool} (hn : ∀ j, j < l.length → q (l.getD j d) = false) : placeG l q = -1 := by
  unfold placeG
  rw [if_neg]
  intro h
  obtain ⟨x, hx, hq⟩ := List.any_eq_true.1 h
  obtain ⟨j, hj, rfl⟩ := List.mem_iff_getElem.1 hx
  have := hn j hj
  rw [getD_get hj] at this
  rw [this] at hq; cases hq
theorem placeG_any {α : Type} {l : List α} {q : α → Bool} : decide (0 ≤ placeG l q) = l.any q := by
  unfold placeG
  split
  · rename_i h; rw [h]; simp
  · rename_i h; simp only [Bool.not_eq_true] at h; rw [h]; simp
/-- edges of which the first i have other labels. -/
def recG (g : Gr) (l : List Int) (i q : Nat) : Edge := if q < i then recE1 l (g.edges.getD q de) else g.edges.getD q de
theorem recG_own {g : Gr} {l : List Int} {i : Nat} : recG g l i i = g.edges.getD i de := if_neg (by omega)
theorem recE_at {g : Gr} {l : List Int} {q : Nat} (h : q < g.edges.length) : (recE g l).getD q de = recE1 l (g.edges.getD q de) := by
  simp [recE, List.getD, h]
theorem recG_put {g : Gr} {l : List Int} {i q : Nat} : (recG g l i q).frm = (recG g l (i + 1) q).frm ∧ (if q = i then AVal.int IntKind.i64 (l.getD (recG g l i i).lab.toNat 0) else AVal.int IntKind.i64 (recG g l i q).lab) = AVal.int IntKind.i64 (recG g l (i + 1) q).lab ∧ (recG g l i q).to = (recG g l (i + 1) q).to := by
  unfold recG
  by_cases h : q = i
  · subst h
    rw [if_pos rfl, if_neg (Nat.lt_irrefl _), if_pos (Nat.lt_succ_self _)]; exact ⟨rfl, rfl, rfl⟩
  · rw [if_neg h]
    by_cases h2 : q < i
    · rw [if_pos h2, if_pos (by omega)]; exact ⟨rfl, rfl, rfl⟩
    · rw [if_neg h2, if_neg (by omega)]; exact ⟨rfl, rfl, rfl⟩
theorem recG_all {g : Gr} {l : List Int} : g.edges.length = (recE g l).length ∧ (recE g l).length ≤ g.edges.length ∧ ∀ q, q < (recE g l).length → (recG g l g.edges.length q).frm = ((recE g l).getD q de).frm ∧ (recG g l g.edges.length q).lab = ((recE g l).getD q de).lab ∧ (recG g l g.edges.length q).to = ((recE g l).getD q de).to := by
  have hl : (recE g l).length = g.edges.length := by simp [recE]
  refine ⟨hl.symm, Nat.le_of_eq hl, fun q hq => ?_⟩
  rw [hl] at hq
  rw [recE_at hq]
  unfold recG
  rw [if_pos hq]; exact ⟨rfl, rfl, rfl⟩
set_option maxRecDepth 100000 in
theorem compactF_c (l : List Edge) (hl : l.length ≤ 1000000) : FC1 Try.prog 70 [.sl (0, 0) 0 l.length] [(0, .one (.arr l.length 3 (fun i j => edgeF (l.getD i de) j)))] 1 (.sl (0, 0) 0 (ddL de l).length) [(0, .one (.arr l.length 3 (fun i j => edgeF ((ddL de l).getD i de) j)))] 1 := by
  refine FC_introS T_ok Try.func70 rfl (by simp [Try.ntmps70]) fun G hG hR => ?_
  simp only [Try.ntmps70, Try.results70] at hG ⊢
  simp only [argEnv, Nat.zero_add, Nat.reduceAdd]
  refine awpS_seq ?_
  refine awpS_reg T_ok fun K hK => ?_
  simp [hG, List.getD_cons_zero, List.getD_cons_succ, -List.getD_eq_getElem?_getD]
  refine hK _ ?_
  clear K hK
  refine awpS_seq ?_
  refine awpS_seq ?_
  refine awpS_reg T_ok fun K hK => ?_
  simp [hG, List.getD_cons_zero, List.getD_cons_succ, -List.getD_eq_getElem?_getD]
  refine hK _ ?_
  clear K hK
  refine awpS_cond rfl (fun hb8 => ?_) (fun hb8 => ?_)
  ·
    try simp [-List.getD_eq_getElem?_getD] at hb8
    refine awpS_seq ?_
    refine awpS_reg T_ok fun K hK => ?_
    simp [hG, List.getD_cons_zero, List.getD_cons_succ, -List.getD_eq_getElem?_getD]
    refine hK _ ?_
    clear K hK
    refine awpS_ret ?_
    refine RetF_of (()) (id) (fun _ => false) (fun _ => false) trivial ?_ ?_ (by rfl) (by simp) (fun k _ => ⟨rfl, rfl⟩)
    · rw [ddL_short (by omega)]; simp [hG]
    · rw [ddL_short (by omega)]; simp [hG]
  ·
    try simp [-List.getD_eq_getElem?_getD] at hb8
    refine awpS_skip ?_
    refine awpS_seq ?_
    refine awpS_seq ?_
    refine awpS_reg T_ok fun K hK => ?_
    simp [hG, List.getD_cons_zero, List.getD_cons_succ, -List.getD_eq_getElem?_getD]
    refine hK _ ?_
    clear K hK
    refine awpS_block ?_
    refine awpS_loop (α := Nat) (fun k => ⟨[(0, .sl (0, 0) 0 l.length), (3, .int .i64 k)], [(0, .one (.arr l.length 3 (fun i j => edgeF (l.getD i de) j)))], 1⟩) (fun k => 1 ≤ k ∧ k ≤ l.length ∧ ∀ j, j < k → 1 ≤ j → l.getD j de ≠ l.getD (j - 1) de) (fun k => l.length - k) (1) (⟨Nat.le_refl _, by omega, fun j hj h1 => by omega⟩) ?_ ?_
    ·
      refine wk_of (id) (fun _ => false) (fun _ => false) ?_ ?_ rfl (by simp) (fun k hk => by first | exact ⟨rfl, rfl⟩ | (revert k; decide) | (obtain rfl : k = 0 := (by omega); exact ⟨rfl, rfl⟩) | (have hk2 : k = 0 ∨ k = 1 := (by omega); rcases hk2 with rfl | rfl <;> exact ⟨rfl, rfl⟩))
      · simp [hG, List.getD_cons_zero, List.getD_cons_succ, -List.getD_eq_getElem?_getD]
      · simp [hG, List.getD_cons_zero, List.getD_cons_succ, -List.getD_eq_getElem?_getD]
    ·
      rintro k ⟨hk1, hk, hn⟩
      refine awpS_seq ?_
      refine awpS_seq ?_
      refine awpS_reg T_ok fun K hK => ?_
      simp [hG, List.getD_cons_zero, List.getD_cons_succ, -List.getD_eq_getElem?_getD]
      refine hK _ ?_
      clear K hK
      refine awpS_cond rfl (fun hb13 => ?_) (fun hb13 => ?_)
      ·
        try simp [-List.getD_eq_getElem?_getD] at hb13
        refine awpS_skip ?_
        refine awpS_seq ?_
        refine awpS_block ?_
        refine awpS_seq ?_
        refine awpS_draw hR mixed [] ⟨[], [], []⟩ fun mu0 => ?_
        refine awpA_tk T_ok [0, 1, 2, 3, 4, 5, 6, 7, 8, 9] [] (fuel := 0) [9, 8, 7, 6, 5, 4, 3, 2, 1, 0] (by decide +kernel) (by decide +kernel) rfl rfl fun K hK => ?_
        simp [hG, List.getD_cons_zero, List.getD_cons_succ, -List.getD_eq_getElem?_getD]
        refine ⟨Cond.mk (by omega), hK _ ?_⟩
        clear K hK
        refine awpA_done (by decide +kernel) ?_
        refine awpS_cond rfl (fun hb25 => ?_) (fun hb25 => ?_)
        ·
          try simp [-List.getD_eq_getElem?_getD] at hb25
          have heq : l.getD k de = l.getD (k - 1) de := edge_ext hb25.1 hb25.2.1 hb25.2.2
          have hdf := dd_full (d := de) hk hn
          have hdk : (ddAt de l k).length = k := (by rw [hdf, List.length_take]; omega)
          have hde := dd_eq (d := de) (l := l) (k := k) (by omega) heq
          refine awpS_seq ?_
          refine awpS_reg T_ok fun K hK => ?_
          simp [hG, List.getD_cons_zero, List.getD_cons_succ, -List.getD_eq_getElem?_getD]
          refine ⟨Cond.mk (by omega), hK _ ?_⟩
          clear K hK
          refine awpS_seq ?_
          refine awpS_seq ?_
          refine awpS_reg T_ok fun K hK => ?_
          simp [hG, List.getD_cons_zero, List.getD_cons_succ, -List.getD_eq_getElem?_getD]
          refine hK _ ?_
          clear K hK
          refine awpS_block ?_
          refine awpS_loop (α := Nat) (fun u => ⟨[(0, .sl (0, 0) 0 l.length), (3, .int .i64 (ddAt de l (k + u)).length), (4, .sl (0, 0) k (l.length - k)), (5, .int .i64 u)], [(0, .one (.arr l.length 3 (fun i j => edgeF (ddG de l (k + u) i) j)))], 1⟩) (fun u => 1 ≤ u ∧ k + u ≤ l.length ∧ (ddAt de l (k + u)).length + 1 ≤ k + u) (fun u => l.length - k - u) (1) (⟨Nat.le_refl _, by omega, by rw [hde]; omega⟩) ?_ ?_
          ·
            refine wk_of (id) (fun _ => false) (fun _ => false) ?_ ?_ rfl (by simp) (fun k hk => by first | exact ⟨rfl, rfl⟩ | (revert k; decide) | (obtain rfl : k = 0 := (by omega); exact ⟨rfl, rfl⟩) | (have hk2 : k = 0 ∨ k = 1 := (by omega); rcases hk2 with rfl | rfl <;> exact ⟨rfl, rfl⟩))
            · simp [hG, List.getD_cons_zero, List.getD_cons_succ, -List.getD_eq_getElem?_getD]; rw [hde, hdk]
            · simp [hG, List.getD_cons_zero, List.getD_cons_succ, -List.getD_eq_getElem?_getD]; intro i hi; have e := ddG_full (d := de) (l := l) (k := k) (i := i) hk hn; rw [ddG_skip (by omega) heq, e]; exact ⟨rfl, rfl, rfl⟩
          ·
            rintro u ⟨hu1, hu, hdl⟩
            refine awpS_seq ?_
            refine awpS_seq ?_
            refine awpS_reg T_ok fun K hK => ?_
            simp [hG, List.getD_cons_zero, List.getD_cons_succ, -List.getD_eq_getElem?_getD]
            refine hK _ ?_
            clear K hK
            refine awpS_cond rfl (fun hb32 => ?_) (fun hb32 => ?_)
            ·
              try simp [-List.getD_eq_getElem?_getD] at hb32
              have hg1 := ddG_old (d := de) (l := l) (m := k + u) (i := k + u) (by omega)
              have hg2 := ddG_old (d := de) (l := l) (m := k + u) (i := k + (u - 1)) (by omega)
              refine awpS_skip ?_
              refine awpS_seq ?_
              refine awpS_block ?_
              refine awpS_seq ?_
              refine awpS_draw hR mixed [] ⟨[], [], []⟩ fun mu0 => ?_
              refine awpA_tk T_ok [0, 1, 2, 3, 4, 5, 6, 7, 8, 9] [] (fuel := 0) [9, 8, 7, 6, 5, 4, 3, 2, 1, 0] (by decide +kernel) (by decide +kernel) rfl rfl fun K hK => ?_
              simp [hG, List.getD_cons_zero, List.getD_cons_succ, -List.getD_eq_getElem?_getD]
              refine ⟨Cond.mk (by omega), hK _ ?_⟩
              clear K hK
              refine awpA_done (by decide +kernel) ?_
              refine awpS_cond rfl (fun hb44 => ?_) (fun hb44 => ?_)
              ·
                try simp [-List.getD_eq_getElem?_getD] at hb44
                have hnx : l.getD (k + u) de ≠ l.getD (k + u - 1) de := (by rw [show k + u - 1 = k + (u - 1) by omega, ← hg1, ← hg2]; intro e; rw [e] at hb44; simp at hb44)
                have hds := dd_ne hnx
                refine awpS_seq ?_
                refine awpS_reg T_ok fun K hK => ?_
                simp [hG, List.getD_cons_zero, List.getD_cons_succ, -List.getD_eq_getElem?_getD]
                refine ⟨Cond.mk (by omega), hK _ ?_⟩
                clear K hK
                refine awpS_reg T_ok fun K hK => ?_
                simp [hG, List.getD_cons_zero, List.getD_cons_succ, -List.getD_eq_getElem?_getD]
                refine ⟨Cond.mk (by omega), hK _ ?_⟩
                clear K hK
                refine awpS_nil ?_
                refine blockQ_norm (thenQ_norm ?_)
                refine awpS_reg T_ok fun K hK => ?_
                simp [hG, List.getD_cons_zero, List.getD_cons_succ, -List.getD_eq_getElem?_getD]
                refine ⟨Cond.mk (by omega), hK _ ?_⟩
                clear K hK
                refine awpS_nil ?_
                refine round_end (u + 1) (⟨by omega, by omega, by rw [show k + (u + 1) = k + u + 1 by omega, hds, List.length_append, List.length_singleton]; omega⟩) (by omega) ?_
                refine wk_of (id) (fun _ => false) (fun _ => false) ?_ ?_ rfl (by simp) (fun k hk => by first | exact ⟨rfl, rfl⟩ | (revert k; decide) | (obtain rfl : k = 0 := (by omega); exact ⟨rfl, rfl⟩) | (have hk2 : k = 0 ∨ k = 1 := (by omega); rcases hk2 with rfl | rfl <;> exact ⟨rfl, rfl⟩))
                · rw [show k + (u + 1) = k + u + 1 by omega, hds]; simp [hG, List.getD_cons_zero, List.getD_cons_succ, -List.getD_eq_getElem?_getD]
                · simp [hG, List.getD_cons_zero, List.getD_cons_succ, -List.getD_eq_getElem?_getD]; intro i hi; rw [show k + (u + 1) = k + u + 1 by omega, ddG_put hnx, hg1]; by_cases h : i = (ddAt de l (k + u)).length <;> simp [h]
              ·
                try simp [-List.getD_eq_getElem?_getD] at hb44
                have heq2 : l.getD (k + u) de = l.getD (k + u - 1) de := (by rw [show k + u - 1 = k + (u - 1) by omega, ← hg1, ← hg2]; exact edge_ext hb44.1 hb44.2.1 hb44.2.2)
                have hdq := dd_eq (d := de) (l := l) (k := k + u) (by omega) heq2
                refine awpS_skip ?_
                refine awpS_nil ?_
                refine blockQ_norm (thenQ_norm ?_)
                refine awpS_reg T_ok fun K hK => ?_
                simp [hG, List.getD_cons_zero, List.getD_cons_succ, -List.getD_eq_getElem?_getD]
                refine ⟨Cond.mk (by omega), hK _ ?_⟩
                clear K hK
                refine awpS_nil ?_
                refine round_end (u + 1) (⟨by omega, by omega, by rw [show k + (u + 1) = k + u + 1 by omega, hdq]; omega⟩) (by omega) ?_
                refine wk_of (id) (fun _ => false) (fun _ => false) ?_ ?_ rfl (by simp) (fun k hk => by first | exact ⟨rfl, rfl⟩ | (revert k; decide) | (obtain rfl : k = 0 := (by omega); exact ⟨rfl, rfl⟩) | (have hk2 : k = 0 ∨ k = 1 := (by omega); rcases hk2 with rfl | rfl <;> exact ⟨rfl, rfl⟩))
                · rw [show k + (u + 1) = k + u + 1 by omega, hdq]; simp [hG, List.getD_cons_zero, List.getD_cons_succ, -List.getD_eq_getElem?_getD]
                · simp [hG, List.getD_cons_zero, List.getD_cons_succ, -List.getD_eq_getElem?_getD]; intro i hi; rw [show k + (u + 1) = k + u + 1 by omega, ddG_skip (by omega) heq2]; exact ⟨rfl, rfl, rfl⟩
            ·
              try simp [-List.getD_eq_getElem?_getD] at hb32
              refine awpS_exit ?_
              refine thenQ_exit (thenQ_exit ?_)
              refine blockQ_exit (thenQ_norm ?_)
              refine awpS_seq ?_
              refine awpS_reg T_ok fun K hK => ?_
              simp [hG, List.getD_cons_zero, List.getD_cons_succ, -List.getD_eq_getElem?_getD]
              refine ⟨Cond.mk (by simp [-List.getD_eq_getElem?_getD]; omega), hK _ ?_⟩
              clear K hK
              refine awpS_seq ?_
              refine awpS_reg T_ok fun K hK => ?_
              simp [hG, List.getD_cons_zero, List.getD_cons_succ, -List.getD_eq_getElem?_getD]
              refine ⟨Cond.mk (by omega), hK _ ?_⟩
              clear K hK
              refine awpS_ret ?_
              refine blockQ_ret (thenQ_ret ?_)
              refine thenQ_ret (thenQ_ret ?_)
              refine blockQ_ret (thenQ_ret ?_)
              refine RetF_of (()) (id) (fun _ => false) (fun _ => false) trivial ?_ ?_ (by rfl) (by simp) (fun k _ => ⟨rfl, rfl⟩)
              · simp [hG, List.getD_cons_zero, List.getD_cons_succ, -List.getD_eq_getElem?_getD]; unfold ddL; rw [show k + u = l.length by omega]
              · simp [hG, List.getD_cons_zero, List.getD_cons_succ, -List.getD_eq_getElem?_getD]; exact fun i hi => ⟨clr_end (j := 0) (by omega) hi (by decide) (fun _ _ => rfl), clr_end (j := 1) (by omega) hi (by decide) (fun _ _ => rfl), clr_end (j := 2) (by omega) hi (by decide) (fun _ _ => rfl)⟩
        ·
          try simp [-List.getD_eq_getElem?_getD] at hb25
          have hneq := edge_ne hb25
          refine awpS_skip ?_
          refine awpS_nil ?_
          refine blockQ_norm (thenQ_norm ?_)
          refine awpS_reg T_ok fun K hK => ?_
          simp [hG, List.getD_cons_zero, List.getD_cons_succ, -List.getD_eq_getElem?_getD]
          refine ⟨Cond.mk (by omega), hK _ ?_⟩
          clear K hK
          refine awpS_nil ?_
          refine round_end (k + 1) (⟨by omega, by omega, fun j hj h1 => (Nat.lt_or_ge j k).elim (fun h => hn j h h1) fun h => by rw [show j = k by omega]; exact hneq⟩) (by omega) ?_
          refine wk_of (id) (fun _ => false) (fun _ => false) ?_ ?_ rfl (by simp) (fun k hk => by first | exact ⟨rfl, rfl⟩ | (revert k; decide) | (obtain rfl : k = 0 := (by omega); exact ⟨rfl, rfl⟩) | (have hk2 : k = 0 ∨ k = 1 := (by omega); rcases hk2 with rfl | rfl <;> exact ⟨rfl, rfl⟩))
          · simp [hG, List.getD_cons_zero, List.getD_cons_succ, -List.getD_eq_getElem?_getD]
          · simp [hG, List.getD_cons_zero, List.getD_cons_succ, -List.getD_eq_getElem?_getD]
      ·
        try simp [-List.getD_eq_getElem?_getD] at hb13
        refine awpS_exit ?_
        refine thenQ_exit (thenQ_exit ?_)
        refine blockQ_exit (thenQ_norm ?_)
        refine awpS_seq ?_
        refine awpS_reg T_ok fun K hK => ?_
        simp [hG, List.getD_cons_zero, List.getD_cons_succ, -List.getD_eq_getElem?_getD]
        refine hK _ ?_
        clear K hK
        refine awpS_ret ?_
        refine RetF_of (()) (id) (fun _ => false) (fun _ => false) trivial ?_ ?_ (by rfl) (by simp) (fun k _ => ⟨rfl, rfl⟩)
        · rw [ddL_none fun j hj h1 => hn j (by omega) h1]; simp [hG]
        · rw [ddL_none fun j hj h1 => hn j (by omega) h1]; simp [hG]

set_option maxRecDepth 100000 in
theorem makeG_c (labels states : Int) (l : List Edge) (hl : l.length ≤ 1000000) : PC Try.prog 47 [.int .i64 labels, .int .i64 states, edgesC l] (.tup 2 (fun j => [.agg 3 (grF (mkX labels states l)), .int .i64 (mkN labels states l)].getD j .any)) := by
  refine PC_introS T_ok Try.func47 rfl (by simp [Try.ntmps47]) fun G hG hR => ?_
  simp only [Try.ntmps47, Try.results47] at hG ⊢
  simp only [argEnv, Nat.zero_add, Nat.reduceAdd]
  refine awpS_seq ?_
  refine awpS_reg T_ok fun K hK => ?_
  simp [hG, List.getD_cons_zero, List.getD_cons_succ, -List.getD_eq_getElem?_getD]
  refine hK _ ?_
  clear K hK
  refine awpS_seq ?_
  refine awpS_regL ?_
  refine awpL_reg T_ok 1 fun K hK => ?_
  simp [hG, List.getD_cons_zero, List.getD_cons_succ, -List.getD_eq_getElem?_getD]
  refine hK _ ?_
  clear K hK
  refine awpL_fc cal43 [] (fun _ => false) (cloneE_c l (by omega)) rfl rfl rfl (by simp) (.inl fun _ => rfl) ?_ ?_ ?_ fun K hK x hI hno => ?_
  · simp [hG, List.getD_cons_zero, List.getD_cons_succ, -List.getD_eq_getElem?_getD]
  · simp [hG, List.getD_cons_zero, List.getD_cons_succ, -List.getD_eq_getElem?_getD]
  · simp [hG, List.getD_cons_zero, List.getD_cons_succ, -List.getD_eq_getElem?_getD]
  simp [hG, List.getD_cons_zero, List.getD_cons_succ, -List.getD_eq_getElem?_getD]
  refine hK _ ?_
  clear K hK
  refine awpL_reg T_ok 1 fun K hK => ?_
  simp [hG, List.getD_cons_zero, List.getD_cons_succ, -List.getD_eq_getElem?_getD]
  refine hK _ ?_
  clear K hK
  refine awpL_nil ?_
  refine awpS_seq ?_
  refine awpS_regL ?_
  refine awpL_reg T_ok 1 fun K hK => ?_
  simp [hG, List.getD_cons_zero, List.getD_cons_succ, -List.getD_eq_getElem?_getD]
  refine hK _ ?_
  clear K hK
  refine awpL_call cal65 rfl rfl (fun _ => rfl) (fun hg => by_c) (fun hg => ?_) (fun hg => ?_) fun K hK => ?_
  · simp [hG, List.getD_cons_zero, List.getD_cons_succ, -List.getD_eq_getElem?_getD]
  · simp [hG, List.getD_cons_zero, List.getD_cons_succ, -List.getD_eq_getElem?_getD]
  simp [hG, List.getD_cons_zero, List.getD_cons_succ, -List.getD_eq_getElem?_getD]
  refine hK _ ?_
  clear K hK
  refine awpL_fc cal69 [1] (fun _ => false) (sortE_c l (by omega)) rfl rfl rfl (by simp) (.inl fun _ => rfl) ?_ ?_ ?_ fun K hK x hI hno => ?_
  · simp [hG, List.getD_cons_zero, List.getD_cons_succ, -List.getD_eq_getElem?_getD]
  · simp [hG, List.getD_cons_zero, List.getD_cons_succ, -List.getD_eq_getElem?_getD]
  · simp [hG, List.getD_cons_zero, List.getD_cons_succ, -List.getD_eq_getElem?_getD]
  have hxl := hI.1.length_eq
  have hxe := dd_norm hI.1 hI.2
  simp [hG, List.getD_cons_zero, List.getD_cons_succ, -List.getD_eq_getElem?_getD]
  refine hK _ ?_
  clear K hK
  refine awpL_nil ?_
  refine awpS_seq ?_
  refine awpS_wk (st2 := ⟨[(0, .int .i64 labels), (1, .int .i64 states), (6, .ptr (0, 0) 0 0), (8, .sl (1, 0) 0 x.length)], [(0, .one (.arr 1 3 (fun _ j => [.int .i64 0, .int .i64 0, .nils].getD j .any))), (1, .one (.arr x.length 3 (fun i j => edgeF (x.getD i de) j)))], 2⟩) ?_ ?_
  ·
    refine wk_of (id) (fun _ => false) (fun _ => false) ?_ ?_ rfl (Nat.zero_le _) (fun k hk => absurd hk (Nat.not_lt_zero _))
    · simp [hG, List.getD_cons_zero, List.getD_cons_succ, -List.getD_eq_getElem?_getD]; omega
    · simp [hG, List.getD_cons_zero, List.getD_cons_succ, -List.getD_eq_getElem?_getD]; omega
  refine awpS_regL ?_
  refine awpL_reg T_ok 3 fun K hK => ?_
  simp [hG, List.getD_cons_zero, List.getD_cons_succ, -List.getD_eq_getElem?_getD]
  refine hK _ ?_
  clear K hK
  refine awpL_fc cal70 [1] (fun _ => false) (compactF_c x (by omega)) rfl rfl rfl (by simp) (.inl fun _ => rfl) ?_ ?_ ?_ fun K hK x hI hno => ?_
  · simp [hG, List.getD_cons_zero, List.getD_cons_succ, -List.getD_eq_getElem?_getD]
  · simp [hG, List.getD_cons_zero, List.getD_cons_succ, -List.getD_eq_getElem?_getD]
  · simp [hG, List.getD_cons_zero, List.getD_cons_succ, -List.getD_eq_getElem?_getD]
  simp only [hxe]
  simp [hG, List.getD_cons_zero, List.getD_cons_succ, -List.getD_eq_getElem?_getD]
  refine hK _ ?_
  clear K hK
  refine awpL_reg T_ok 3 fun K hK => ?_
  simp [hG, List.getD_cons_zero, List.getD_cons_succ, -List.getD_eq_getElem?_getD]
  refine ⟨Cond.mk (by omega), hK _ ?_⟩
  clear K hK
  refine awpL_nil ?_
  refine awpS_seq ?_
  refine awpS_seq ?_
  refine awpS_regL ?_
  refine awpL_reg T_ok 1 fun K hK => ?_
  simp [hG, List.getD_cons_zero, List.getD_cons_succ, -List.getD_eq_getElem?_getD]
  refine hK _ ?_
  clear K hK
  refine awpL_callB (mem [1]) cal35 (by simp [flat]) rfl rfl (fun _ => rfl) (fun hg => checkC_c ⟨labels, states, normE l⟩) (fun hg => ?_) (fun hg => ?_) fun K hK => ?_
  · simp [hG, List.getD_cons_zero, List.getD_cons_succ, -List.getD_eq_getElem?_getD]
  · simp [hG, List.getD_cons_zero, List.getD_cons_succ, -List.getD_eq_getElem?_getD]; have := norm_len (l := l); omega
  simp [hG, List.getD_cons_zero, List.getD_cons_succ, -List.getD_eq_getElem?_getD]
  refine hK _ ?_
  clear K hK
  refine awpL_reg T_ok 1 fun K hK => ?_
  simp [hG, List.getD_cons_zero, List.getD_cons_succ, -List.getD_eq_getElem?_getD]
  refine hK _ ?_
  clear K hK
  refine awpL_nil ?_
  refine awpS_seq ?_
  refine awpS_reg T_ok fun K hK => ?_
  simp [hG, List.getD_cons_zero, List.getD_cons_succ, -List.getD_eq_getElem?_getD]
  refine hK _ ?_
  clear K hK
  refine awpS_cond rfl (fun hb24 => ?_) (fun hb24 => ?_)
  ·
    try simp [-List.getD_eq_getElem?_getD] at hb24
    refine awpS_seq ?_
    refine awpS_reg T_ok fun K hK => ?_
    simp [hG, List.getD_cons_zero, List.getD_cons_succ, -List.getD_eq_getElem?_getD]
    refine ⟨Cond.mk (by omega), hK _ ?_⟩
    clear K hK
    refine awpS_ret ?_
    refine RetOK_of ?_
    simp [hG, List.getD_cons_zero, List.getD_cons_succ, -List.getD_eq_getElem?_getD]
    rw [mk_no (m := mkN labels states l) rfl hb24]; simp; exact rfl
  ·
    try simp [-List.getD_eq_getElem?_getD] at hb24
    refine awpS_skip ?_
    refine awpS_seq ?_
    refine awpS_reg T_ok fun K hK => ?_
    simp [hG, List.getD_cons_zero, List.getD_cons_succ, -List.getD_eq_getElem?_getD]
    refine ⟨Cond.mk (by omega), hK _ ?_⟩
    clear K hK
    refine awpS_ret ?_
    refine RetOK_of ?_
    simp [hG, List.getD_cons_zero, List.getD_cons_succ, -List.getD_eq_getElem?_getD]
    rw [mk_ok hb24]; simp; exact ⟨by have := norm_len (l := l); omega, hb24.symm⟩

set_option maxRecDepth 100000 in
theorem indexG_c (l : List Int) (q : Int → Bool) (hfn hn : Nat) (hc : Nat → AVal) (hl : l.length ≤ 1000000) (hcal : Callable Try.prog hfn) (hclo : ∀ j, Clo (hc j)) (hp : ∀ x ∈ l, PC Try.prog hfn (.int .i64 x :: (List.range' 0 hn).map hc) (.bool (q x))) : PC Try.prog 73 [ints l, .fn hfn hn hc] (.int .i64 (placeG l q)) := by
  have hV : ∀ {h : Heap} {σ : Lift.Id → Lift.Id} {fz : Nat → Bool} {vz : Lift.Id → Bool} {nx j : Nat}, VLe h σ fz vz nx (hc j) (hc j) := fun {h σ fz vz nx j} => Clo.le _ (hclo j)
  have hV2 : ∀ {h : Heap} {σ : Lift.Id → Lift.Id} {fz : Nat → Bool} {vz : Lift.Id → Bool} {nx : Nat}, VLe h σ fz vz nx (.fn hfn hn hc) (.fn hfn hn hc) := fun {h σ fz vz nx} => Clo.le _ fun j _ => hclo j
  refine PC_introS T_ok Try.func73 rfl (by simp [Try.ntmps73]) fun G hG hR => ?_
  simp only [Try.ntmps73, Try.results73] at hG ⊢
  simp only [argEnv, Nat.zero_add, Nat.reduceAdd]
  refine awpS_seq ?_
  refine awpS_reg T_ok fun K hK => ?_
  simp [hG, List.getD_cons_zero, List.getD_cons_succ, -List.getD_eq_getElem?_getD, hV, hV2]
  refine hK _ ?_
  clear K hK
  refine awpS_seq ?_
  refine awpS_seq ?_
  refine awpS_reg T_ok fun K hK => ?_
  simp [hG, List.getD_cons_zero, List.getD_cons_succ, -List.getD_eq_getElem?_getD, hV, hV2]
  refine hK _ ?_
  clear K hK
  refine awpS_block ?_
  refine awpS_loop (α := Nat) (fun i => ⟨[(0, ints l), (1, .fn hfn hn hc), (7, .int .i64 l.length), (8, .int .i64 i)], [], 0⟩) (fun i => i ≤ l.length ∧ ∀ j, j < i → q (l.getD j 0) = false) (fun i => l.length - i) (0) (⟨Nat.zero_le _, fun j hj => absurd hj (Nat.not_lt_zero _)⟩) ?_ ?_
  ·
    refine wk_of (id) (fun _ => false) (fun _ => false) ?_ ?_ rfl (Nat.zero_le _) (fun k hk => absurd hk (Nat.not_lt_zero _))
    · simp [hG, List.getD_cons_zero, List.getD_cons_succ, -List.getD_eq_getElem?_getD, hV, hV2]
    · simp [hG, List.getD_cons_zero, List.getD_cons_succ, -List.getD_eq_getElem?_getD, hV, hV2]
  ·
    rintro i ⟨hi, hn0⟩
    refine awpS_seq ?_
    refine awpS_reg T_ok fun K hK => ?_
    simp [hG, List.getD_cons_zero, List.getD_cons_succ, -List.getD_eq_getElem?_getD, hV, hV2]
    refine hK _ ?_
    clear K hK
    refine awpS_seq ?_
    refine awpS_cond rfl (fun hb9 => ?_) (fun hb9 => ?_)
    ·
      try simp [-List.getD_eq_getElem?_getD] at hb9
      refine awpS_skip ?_
      refine awpS_seq ?_
      refine awpS_block ?_
      refine awpS_seq ?_
      refine awpS_reg T_ok fun K hK => ?_
      simp [hG, List.getD_cons_zero, List.getD_cons_succ, -List.getD_eq_getElem?_getD, hV, hV2]
      refine hK _ ?_
      clear K hK
      refine awpS_seq ?_
      refine awpS_regL ?_
      refine awpL_reg T_ok 5 fun K hK => ?_
      simp [hG, List.getD_cons_zero, List.getD_cons_succ, -List.getD_eq_getElem?_getD, hV, hV2]
      refine ⟨Cond.mk (by omega), hK _ ?_⟩
      clear K hK
      refine awpL_call hcal rfl rfl (fun _ => rfl) (fun hg => hp _ (getD_mem (d := 0) (by simpa using hb9))) (fun hg => ?_) (fun hg => ?_) fun K hK => ?_
      · simp [hG, List.getD_cons_zero, List.getD_cons_succ, -List.getD_eq_getElem?_getD, hV, hV2]
      · simp [hG, List.getD_cons_zero, List.getD_cons_succ, -List.getD_eq_getElem?_getD]; first | exact argsLe_caps fun j _ => hclo j | exact ⟨Clo.le _ Clo_ints, argsLe_caps fun j _ => hclo j⟩
      simp [hG, List.getD_cons_zero, List.getD_cons_succ, -List.getD_eq_getElem?_getD, hV, hV2]
      refine hK _ ?_
      clear K hK
      refine awpL_nil ?_
      refine awpS_cond rfl (fun hb16 => ?_) (fun hb16 => ?_)
      ·
        try simp [-List.getD_eq_getElem?_getD] at hb16
        refine awpS_seq ?_
        refine awpS_reg T_ok fun K hK => ?_
        simp [hG, List.getD_cons_zero, List.getD_cons_succ, -List.getD_eq_getElem?_getD, hV, hV2]
        refine hK _ ?_
        clear K hK
        refine awpS_ret ?_
        refine blockQ_ret (thenQ_ret ?_)
        refine thenQ_ret (thenQ_ret ?_)
        refine blockQ_ret (thenQ_ret ?_)
        refine RetOK_of ?_
        simp [hG, List.getD_cons_zero, List.getD_cons_succ, -List.getD_eq_getElem?_getD, hV, hV2]
        exact (placeG_at (by simpa using hb9) hb16 hn0).symm
      ·
        try simp [-List.getD_eq_getElem?_getD] at hb16
        refine awpS_skip ?_
        refine awpS_nil ?_
        refine blockQ_norm (thenQ_norm ?_)
        refine awpS_reg T_ok fun K hK => ?_
        simp [hG, List.getD_cons_zero, List.getD_cons_succ, -List.getD_eq_getElem?_getD, hV, hV2]
        refine ⟨Cond.mk (by omega), hK _ ?_⟩
        clear K hK
        refine awpS_nil ?_
        refine round_end (i + 1) (⟨by omega, fun j hj => (Nat.lt_succ_iff_lt_or_eq.1 hj).elim (hn0 j) fun e => by rw [e]; exact hb16⟩) (by omega) ?_
        refine wk_of (id) (fun _ => false) (fun _ => false) ?_ ?_ rfl (Nat.zero_le _) (fun k hk => absurd hk (Nat.not_lt_zero _))
        · simp [hG, List.getD_cons_zero, List.getD_cons_succ, -List.getD_eq_getElem?_getD, hV, hV2]
        · simp [hG, List.getD_cons_zero, List.getD_cons_succ, -List.getD_eq_getElem?_getD, hV, hV2]
    ·
      try simp [-List.getD_eq_getElem?_getD] at hb9
      refine awpS_exit ?_
      refine thenQ_exit (thenQ_exit ?_)
      refine blockQ_exit (thenQ_norm ?_)
      refine awpS_seq ?_
      refine awpS_reg T_ok fun K hK => ?_
      simp [hG, List.getD_cons_zero, List.getD_cons_succ, -List.getD_eq_getElem?_getD, hV, hV2]
      refine hK _ ?_
      clear K hK
      refine awpS_ret ?_
      refine RetOK_of ?_
      simp [hG, List.getD_cons_zero, List.getD_cons_succ, -List.getD_eq_getElem?_getD, hV, hV2]
      exact (placeG_none fun j hj => hn0 j (by omega)).symm

set_option maxRecDepth 100000 in
theorem containsG_c (l : List Int) (q : Int → Bool) (hfn hn : Nat) (hc : Nat → AVal) (hl : l.length ≤ 1000000) (hcal : Callable Try.prog hfn) (hclo : ∀ j, Clo (hc j)) (hp : ∀ x ∈ l, PC Try.prog hfn (.int .i64 x :: (List.range' 0 hn).map hc) (.bool (q x))) : PC Try.prog 55 [ints l, .fn hfn hn hc] (.bool (l.any q)) := by
  have hV : ∀ {h : Heap} {σ : Lift.Id → Lift.Id} {fz : Nat → Bool} {vz : Lift.Id → Bool} {nx j : Nat}, VLe h σ fz vz nx (hc j) (hc j) := fun {h σ fz vz nx j} => Clo.le _ (hclo j)
  have hV2 : ∀ {h : Heap} {σ : Lift.Id → Lift.Id} {fz : Nat → Bool} {vz : Lift.Id → Bool} {nx : Nat}, VLe h σ fz vz nx (.fn hfn hn hc) (.fn hfn hn hc) := fun {h σ fz vz nx} => Clo.le _ fun j _ => hclo j
  refine PC_introS T_ok Try.func55 rfl (by simp [Try.ntmps55]) fun G hG hR => ?_
  simp only [Try.ntmps55, Try.results55] at hG ⊢
  simp only [argEnv, Nat.zero_add, Nat.reduceAdd]
  refine awpS_seq ?_
  refine awpS_reg T_ok fun K hK => ?_
  simp [hG, List.getD_cons_zero, List.getD_cons_succ, -List.getD_eq_getElem?_getD, hV, hV2]
  refine hK _ ?_
  clear K hK
  refine awpS_seq ?_
  refine awpS_regL ?_
  refine awpL_reg T_ok 2 fun K hK => ?_
  simp [hG, List.getD_cons_zero, List.getD_cons_succ, -List.getD_eq_getElem?_getD, hV, hV2]
  refine hK _ ?_
  clear K hK
  refine awpL_call cal73 rfl rfl (fun _ => rfl) (fun hg => indexG_c l q hfn hn hc hl hcal hclo hp) (fun hg => ?_) (fun hg => ?_) fun K hK => ?_
  · simp [hG, List.getD_cons_zero, List.getD_cons_succ, -List.getD_eq_getElem?_getD, hV, hV2]
  · simp [hG, List.getD_cons_zero, List.getD_cons_succ, -List.getD_eq_getElem?_getD, hV, hV2]
  simp [hG, List.getD_cons_zero, List.getD_cons_succ, -List.getD_eq_getElem?_getD, hV, hV2]
  refine hK _ ?_
  clear K hK
  refine awpL_reg T_ok 2 fun K hK => ?_
  simp [hG, List.getD_cons_zero, List.getD_cons_succ, -List.getD_eq_getElem?_getD, hV, hV2]
  refine hK _ ?_
  clear K hK
  refine awpL_nil ?_
  refine awpS_ret ?_
  refine RetOK_of ?_
  simp [hG, List.getD_cons_zero, List.getD_cons_succ, -List.getD_eq_getElem?_getD, hV, hV2]
  rw [← placeG_any]

set_option maxRecDepth 100000 in
theorem recode1_c (labels n : Int) : PC Try.prog 56 [.int .i64 n, .vptr 1 (fun _ => .int .i64 labels) 0] (.bool (outB labels n)) := by
  refine PC_introS T_ok Try.func56 rfl (by simp [Try.ntmps56]) fun G hG hR => ?_
  simp only [Try.ntmps56, Try.results56] at hG ⊢
  simp only [argEnv, Nat.zero_add, Nat.reduceAdd]
  refine awpS_seq ?_
  refine awpS_reg T_ok fun K hK => ?_
  simp [hG, List.getD_cons_zero, List.getD_cons_succ, -List.getD_eq_getElem?_getD]
  refine hK _ ?_
  clear K hK
  refine awpS_seq ?_
  refine awpS_reg T_ok fun K hK => ?_
  simp [hG, List.getD_cons_zero, List.getD_cons_succ, -List.getD_eq_getElem?_getD]
  refine ⟨Cond.mk (by simp [-List.getD_eq_getElem?_getD]), hK _ ?_⟩
  clear K hK
  refine awpS_ret ?_
  refine RetOK_of ?_
  simp [hG, List.getD_cons_zero, List.getD_cons_succ, -List.getD_eq_getElem?_getD]
  simp [outB]

set_option maxRecDepth 100000 in
theorem recode_c (g : Gr) (labels : Int) (l : List Int) (hl : l.length ≤ 1000000) : PC Try.prog 24 [.agg 3 (grF g), .int .i64 labels, ints l] (.tup 2 (fun j => [.agg 3 (grF (recX g labels l)), .int .i64 (recN g labels l)].getD j .any)) := by
  refine PC_introS T_ok Try.func24 rfl (by simp [Try.ntmps24]) fun G hG hR => ?_
  simp only [Try.ntmps24, Try.results24] at hG ⊢
  simp only [argEnv, Nat.zero_add, Nat.reduceAdd]
  refine awpS_seq ?_
  refine awpS_reg T_ok fun K hK => ?_
  simp [hG, List.getD_cons_zero, List.getD_cons_succ, -List.getD_eq_getElem?_getD]
  refine ⟨Cond.mk (by simp [-List.getD_eq_getElem?_getD]), hK _ ?_⟩
  clear K hK
  refine awpS_seq ?_
  refine awpS_block ?_
  refine awpS_seq ?_
  refine awpS_regL ?_
  refine awpL_reg T_ok 1 fun K hK => ?_
  simp [hG, List.getD_cons_zero, List.getD_cons_succ, -List.getD_eq_getElem?_getD]
  refine hK _ ?_
  clear K hK
  refine awpL_call cal35 rfl rfl (fun _ => rfl) (fun hg => checkC_c g) (fun hg => ?_) (fun hg => ?_) fun K hK => ?_
  · simp [hG, List.getD_cons_zero, List.getD_cons_succ, -List.getD_eq_getElem?_getD]
  · simp [hG, List.getD_cons_zero, List.getD_cons_succ, -List.getD_eq_getElem?_getD]
  simp [hG, List.getD_cons_zero, List.getD_cons_succ, -List.getD_eq_getElem?_getD]
  refine hK _ ?_
  clear K hK
  refine awpL_reg T_ok 2 fun K hK => ?_
  simp [hG, List.getD_cons_zero, List.getD_cons_succ, -List.getD_eq_getElem?_getD]
  refine hK _ ?_
  clear K hK
  refine awpL_nil ?_
  refine awpS_cond rfl (fun hb10 => ?_) (fun hb10 => ?_)
  ·
    try simp [-List.getD_eq_getElem?_getD] at hb10
    refine awpS_seq ?_
    refine awpS_reg T_ok fun K hK => ?_
    simp [hG, List.getD_cons_zero, List.getD_cons_succ, -List.getD_eq_getElem?_getD]
    refine ⟨Cond.mk (by simp [-List.getD_eq_getElem?_getD]), hK _ ?_⟩
    clear K hK
    refine awpS_ret ?_
    refine blockQ_ret (thenQ_ret ?_)
    refine RetOK_of ?_
    simp [hG, List.getD_cons_zero, List.getD_cons_succ, -List.getD_eq_getElem?_getD]
    have hN : recN g labels l = 1 := (by unfold recN; rw [if_pos hb10]); rw [rec_no hN (by omega), hN]; simp
  ·
    try simp [-List.getD_eq_getElem?_getD] at hb10
    have hv : gcheck g = 0 := (by simpa using hb10)
    have hz := (gcheck_valid hv).1
    have hed := hz.ed
    have hlb := hz.lab
    refine awpS_seq ?_
    refine awpS_reg T_ok fun K hK => ?_
    simp [hG, List.getD_cons_zero, List.getD_cons_succ, -List.getD_eq_getElem?_getD]
    refine ⟨Cond.mk (by simp [-List.getD_eq_getElem?_getD]), hK _ ?_⟩
    clear K hK
    refine awpS_cond rfl (fun hb15 => ?_) (fun hb15 => ?_)
    ·
      try simp [-List.getD_eq_getElem?_getD] at hb15
      refine awpS_seq ?_
      refine awpS_reg T_ok fun K hK => ?_
      simp [hG, List.getD_cons_zero, List.getD_cons_succ, -List.getD_eq_getElem?_getD]
      refine ⟨Cond.mk (by simp [-List.getD_eq_getElem?_getD]), hK _ ?_⟩
      clear K hK
      refine awpS_ret ?_
      refine blockQ_ret (thenQ_ret ?_)
      refine RetOK_of ?_
      simp [hG, List.getD_cons_zero, List.getD_cons_succ, -List.getD_eq_getElem?_getD]
      have hN : recN g labels l = 2 := (by unfold recN; rw [if_neg (by omega), if_pos (by omega)]); rw [rec_no hN (by omega), hN]; simp
    ·
      try simp [-List.getD_eq_getElem?_getD] at hb15
      refine awpS_seq ?_
      refine awpS_reg T_ok fun K hK => ?_
      simp [hG, List.getD_cons_zero, List.getD_cons_succ, -List.getD_eq_getElem?_getD]
      refine hK _ ?_
      clear K hK
      refine awpS_cond rfl (fun hb23 => ?_) (fun hb23 => ?_)
      ·
        try simp [-List.getD_eq_getElem?_getD] at hb23
        refine awpS_seq ?_
        refine awpS_reg T_ok fun K hK => ?_
        simp [hG, List.getD_cons_zero, List.getD_cons_succ, -List.getD_eq_getElem?_getD]
        refine ⟨Cond.mk (by simp [-List.getD_eq_getElem?_getD]), hK _ ?_⟩
        clear K hK
        refine awpS_ret ?_
        refine blockQ_ret (thenQ_ret ?_)
        refine RetOK_of ?_
        simp [hG, List.getD_cons_zero, List.getD_cons_succ, -List.getD_eq_getElem?_getD]
        have hN : recN g labels l = 11 := (by unfold recN; rw [if_neg (by omega), if_neg (by omega), if_pos (by omega)]); rw [rec_no hN (by omega), hN]; simp
      ·
        try simp [-List.getD_eq_getElem?_getD] at hb23
        refine awpS_seq ?_
        refine awpS_regL ?_
        refine awpL_reg T_ok 2 fun K hK => ?_
        simp [hG, List.getD_cons_zero, List.getD_cons_succ, -List.getD_eq_getElem?_getD]
        refine hK _ ?_
        clear K hK
        refine awpL_callB (mem [1]) cal55 (by simp [flat]) rfl rfl (fun _ => rfl) (fun hg => containsG_c l (outB labels) 56 1 (fun _ => .vptr 1 (fun _ => .int .i64 labels) 0) (by omega) cal56 (fun _ => by simp) fun i _ => recode1_c labels i) (fun hg => ?_) (fun hg => ?_) fun K hK => ?_
        · simp [hG, List.getD_cons_zero, List.getD_cons_succ, -List.getD_eq_getElem?_getD]
        · simp [hG, List.getD_cons_zero, List.getD_cons_succ, -List.getD_eq_getElem?_getD]
        simp [hG, List.getD_cons_zero, List.getD_cons_succ, -List.getD_eq_getElem?_getD]
        refine hK _ ?_
        clear K hK
        refine awpL_reg T_ok 1 fun K hK => ?_
        simp [hG, List.getD_cons_zero, List.getD_cons_succ, -List.getD_eq_getElem?_getD]
        refine hK _ ?_
        clear K hK
        refine awpL_nil ?_
        refine awpS_cond rfl (fun hb30 => ?_) (fun hb30 => ?_)
        ·
          try simp [-List.getD_eq_getElem?_getD] at hb30
          refine awpS_seq ?_
          refine awpS_reg T_ok fun K hK => ?_
          simp [hG, List.getD_cons_zero, List.getD_cons_succ, -List.getD_eq_getElem?_getD]
          refine ⟨Cond.mk (by simp [-List.getD_eq_getElem?_getD]), hK _ ?_⟩
          clear K hK
          refine awpS_ret ?_
          refine blockQ_ret (thenQ_ret ?_)
          refine RetOK_of ?_
          simp [hG, List.getD_cons_zero, List.getD_cons_succ, -List.getD_eq_getElem?_getD]
          have hN : recN g labels l = 2 := (by unfold recN; rw [if_neg (by omega), if_neg (by omega), if_neg (by omega), if_pos (List.any_eq_true.2 hb30)]); rw [rec_no hN (by omega), hN]; simp
        ·
          try simp [-List.getD_eq_getElem?_getD] at hb30
          refine awpS_skip ?_
          refine awpS_nil ?_
          refine blockQ_norm (thenQ_norm ?_)
          refine awpS_seq ?_
          refine awpS_regL ?_
          refine awpL_reg T_ok 2 fun K hK => ?_
          simp [hG, List.getD_cons_zero, List.getD_cons_succ, -List.getD_eq_getElem?_getD]
          refine hK _ ?_
          clear K hK
          refine awpL_fc cal43 [] (fun _ => false) (cloneE_c g.edges (by omega)) rfl rfl rfl (by simp) (.inl fun _ => rfl) ?_ ?_ ?_ fun K hK x hI hno => ?_
          · simp [hG, List.getD_cons_zero, List.getD_cons_succ, -List.getD_eq_getElem?_getD]
          · simp [hG, List.getD_cons_zero, List.getD_cons_succ, -List.getD_eq_getElem?_getD]
          · simp [hG, List.getD_cons_zero, List.getD_cons_succ, -List.getD_eq_getElem?_getD]
          simp [hG, List.getD_cons_zero, List.getD_cons_succ, -List.getD_eq_getElem?_getD]
          refine hK _ ?_
          clear K hK
          refine awpL_reg T_ok 1 fun K hK => ?_
          simp [hG, List.getD_cons_zero, List.getD_cons_succ, -List.getD_eq_getElem?_getD]
          refine hK _ ?_
          clear K hK
          refine awpL_nil ?_
          refine awpS_seq ?_
          refine awpS_seq ?_
          refine awpS_reg T_ok fun K hK => ?_
          simp [hG, List.getD_cons_zero, List.getD_cons_succ, -List.getD_eq_getElem?_getD]
          refine hK _ ?_
          clear K hK
          refine awpS_block ?_
          refine awpS_loop (α := Nat) (fun i => ⟨[(2, ints l), (3, .ptr (0, 0) 0 0), (4, .ptr (1, 0) 0 0), (6, .ptr (2, 0) 0 0), (8, .sl (3, 0) 0 g.edges.length), (39, .int .i64 g.edges.length), (40, .int .i64 i)], [(0, .one (.arr 1 3 (fun _ => grF g))), (1, .one (.arr 1 1 (fun _ _ => .int .i64 labels))), (2, .one (.arr 1 3 (fun _ j => [.int .i64 0, .int .i64 0, .nils].getD j .any))), (3, .one (.arr g.edges.length 3 (fun q j => edgeF (recG g l i q) j)))], 4⟩) (fun i => i ≤ g.edges.length) (fun i => g.edges.length - i) (0) (Nat.zero_le _) ?_ ?_
          ·
            refine wk_of (id) (fun _ => false) (fun _ => false) ?_ ?_ rfl (Nat.zero_le _) (fun k hk => absurd hk (Nat.not_lt_zero _))
            · simp [hG, List.getD_cons_zero, List.getD_cons_succ, -List.getD_eq_getElem?_getD]
            · simp [hG, List.getD_cons_zero, List.getD_cons_succ, -List.getD_eq_getElem?_getD]; exact fun q hq => by rw [show recG g l 0 q = g.edges.getD q de from if_neg (by omega)]; exact ⟨rfl, rfl, rfl⟩
          ·
            rintro i hi
            refine awpS_seq ?_
            refine awpS_reg T_ok fun K hK => ?_
            simp [hG, List.getD_cons_zero, List.getD_cons_succ, -List.getD_eq_getElem?_getD]
            refine hK _ ?_
            clear K hK
            refine awpS_seq ?_
            refine awpS_cond rfl (fun hb41 => ?_) (fun hb41 => ?_)
            ·
              try simp [-List.getD_eq_getElem?_getD] at hb41
              have heb := edge_box hv (k := i) (by omega)
              have hgi := recG_own (g := g) (l := l) (i := i)
              rw [← hgi] at heb
              refine awpS_skip ?_
              refine awpS_seq ?_
              refine awpS_block ?_
              refine awpS_seq ?_
              refine awpS_reg T_ok fun K hK => ?_
              simp [hG, List.getD_cons_zero, List.getD_cons_succ, -List.getD_eq_getElem?_getD]
              refine hK _ ?_
              clear K hK
              refine awpS_reg T_ok fun K hK => ?_
              simp [hG, List.getD_cons_zero, List.getD_cons_succ, -List.getD_eq_getElem?_getD]
              refine ⟨Cond.mk (by omega), hK _ ?_⟩
              clear K hK
              refine awpS_nil ?_
              refine blockQ_norm (thenQ_norm ?_)
              refine awpS_reg T_ok fun K hK => ?_
              simp [hG, List.getD_cons_zero, List.getD_cons_succ, -List.getD_eq_getElem?_getD]
              refine ⟨Cond.mk (by omega), hK _ ?_⟩
              clear K hK
              refine awpS_nil ?_
              refine round_end (i + 1) (by omega) (by omega) ?_
              refine wk_of (id) (fun _ => false) (fun _ => false) ?_ ?_ rfl (Nat.zero_le _) (fun k hk => absurd hk (Nat.not_lt_zero _))
              · simp [hG, List.getD_cons_zero, List.getD_cons_succ, -List.getD_eq_getElem?_getD]
              · simp [hG, List.getD_cons_zero, List.getD_cons_succ, -List.getD_eq_getElem?_getD]; exact fun q hq => recG_put
            ·
              try simp [-List.getD_eq_getElem?_getD] at hb41
              refine awpS_exit ?_
              refine thenQ_exit (thenQ_exit ?_)
              refine blockQ_exit (thenQ_norm ?_)
              refine awpS_seq ?_
              refine awpS_wk (st2 := ⟨[(2, ints l), (3, .ptr (0, 0) 0 0), (4, .ptr (1, 0) 0 0), (6, .ptr (2, 0) 0 0), (8, edgesC (recE g l))], [(0, .one (.arr 1 3 (fun _ => grF g))), (1, .one (.arr 1 1 (fun _ _ => .int .i64 labels))), (2, .one (.arr 1 3 (fun _ j => [.int .i64 0, .int .i64 0, .nils].getD j .any)))], 3⟩) ?_ ?_
              ·
                refine wk_of (id) (fun k => k == 3) (fun _ => false) ?_ ?_ rfl (Nat.zero_le _) (fun k hk => absurd hk (Nat.not_lt_zero _))
                · obtain rfl : i = g.edges.length := (by omega); simp [hG, List.getD_cons_zero, List.getD_cons_succ, -List.getD_eq_getElem?_getD]; exact recG_all
                · simp [hG, List.getD_cons_zero, List.getD_cons_succ, -List.getD_eq_getElem?_getD]
              refine awpS_regL ?_
              refine awpL_reg T_ok 4 fun K hK => ?_
              simp [hG, List.getD_cons_zero, List.getD_cons_succ, -List.getD_eq_getElem?_getD]
              refine hK _ ?_
              clear K hK
              refine awpL_call cal47 rfl rfl (fun _ => rfl) (fun hg => makeG_c labels g.states (recE g l) (by unfold recE; rw [List.length_map]; omega)) (fun hg => ?_) (fun hg => ?_) fun K hK => ?_
              · simp [hG, List.getD_cons_zero, List.getD_cons_succ, -List.getD_eq_getElem?_getD]
              · simp [hG, List.getD_cons_zero, List.getD_cons_succ, -List.getD_eq_getElem?_getD]
              simp [hG, List.getD_cons_zero, List.getD_cons_succ, -List.getD_eq_getElem?_getD]
              refine hK _ ?_
              clear K hK
              refine awpL_reg T_ok 4 fun K hK => ?_
              simp [hG, List.getD_cons_zero, List.getD_cons_succ, -List.getD_eq_getElem?_getD]
              refine ⟨Cond.mk (by omega), hK _ ?_⟩
              clear K hK
              refine awpL_nil ?_
              refine awpS_ret ?_
              refine RetOK_of ?_
              simp [hG, List.getD_cons_zero, List.getD_cons_succ, -List.getD_eq_getElem?_getD]
              obtain ⟨hN, hX⟩ := rec_mk hv (by omega) (by omega) (List.any_eq_false.2 fun n hn => by rw [hb30 n hn]; simp); rw [hN, hX]; simp

end Go.Proofs.Ytddghlnaocjjkaa
