/-
  Walks: the reference's higher graphs.
-/
import Derived.Test.YtddghlnaocjjkaaWK
import Derived.Test.YtddghlnaocjjkaaWF
namespace Go.Proofs.Ytddghlnaocjjkaa
set_option linter.unusedSimpArgs false
set_option linter.unusedVariables false
open Go Go.Lift Go.Proofs

theorem moves_no {a b : List Int} {e : Int} {i : Nat} (hl : b.length = a.length) (hi : 1 ≤ i ∧ i < a.length) (h : a.getD i 0 ≠ b.getD (i - 1) 0) : b ≠ a.drop 1 ++ [e] := fun he => by
  apply h
  rw [he]
  have : (a.drop 1).length = a.length - 1 := List.length_drop
  simp only [List.getD_eq_getElem?_getD]
  rw [List.getElem?_append_left (by omega), List.getElem?_drop, show 1 + (i - 1) = i by omega]
theorem moves_end {a b : List Int} {e : Int} (hl : b.length = a.length) (ha : 1 ≤ a.length) (h : ∀ j, j < a.length → 1 ≤ j → a.getD j 0 = b.getD (j - 1) 0) : b.getD (b.length - 1) 0 = e ↔ b = a.drop 1 ++ [e] := by
  have hd : (a.drop 1).length = a.length - 1 := List.length_drop
  constructor
  · intro he
    apply List.ext_getElem?
    intro k
    by_cases hk : k < a.length - 1
    · have := h (k + 1) (by omega) (by omega)
      rw [Nat.add_sub_cancel] at this
      rw [List.getElem?_append_left (by omega), List.getElem?_drop, Nat.add_comm 1 k]
      rw [List.getD_eq_getElem?_getD, List.getD_eq_getElem?_getD, List.getElem?_eq_getElem (show k + 1 < a.length by omega), List.getElem?_eq_getElem (show k < b.length by omega)] at this
      rw [List.getElem?_eq_getElem (show k + 1 < a.length by omega), List.getElem?_eq_getElem (show k < b.length by omega)]
      simpa using this.symm
    · by_cases hk2 : k = a.length - 1
      · subst hk2
        rw [List.getElem?_append_right (by omega), hd, Nat.sub_self]
        rw [hl, List.getD_eq_getElem?_getD, List.getElem?_eq_getElem (show a.length - 1 < b.length by omega)] at he
        rw [List.getElem?_eq_getElem (show a.length - 1 < b.length by omega)]
        simpa using he
      · rw [List.getElem?_eq_none (by omega), List.getElem?_eq_none (by rw [List.length_append, hd, List.length_singleton]; omega)]
  · intro he
    have : b.length - 1 = (a.drop 1).length := by omega
    rw [this, he, List.getD_eq_getElem?_getD, List.getElem?_append_right (Nat.le_refl _), Nat.sub_self]
    rfl
theorem last_lt {p : List Int} {k : Nat} {m : Int} (h : p.length = k + 1 ∧ ∀ x ∈ p, 0 ≤ x ∧ x < m) : p.getLastD 0 = p.getD k 0 ∧ 0 ≤ p.getD k 0 ∧ p.getD k 0 < m := last_at h
/-- the edges so far. -/
def hxAt (g : Gr) (K i m : Nat) : List Edge := (pthAt g K i m).map (hiEd g (K + 1))
def hxTo (g : Gr) (K i m : Nat) : List Int := ((pth g K).getD i []).tail ++ [(m : Int)]
def hxKAt (g : Gr) (K i m k : Nat) : List Edge := hxAt g K i m ++ (if plc (pth g K) (hxTo g K i m) < k then [hiEd g (K + 1) ((pth g K).getD i [] ++ [(m : Int)])] else [])
theorem hx_zero {g : Gr} {K : Nat} : hxAt g K 0 0 = [] := by simp [hxAt, pthAt_zero]
theorem hx_len {g : Gr} {K i m : Nat} : (hxAt g K i m).length = (pthAt g K i m).length := by simp [hxAt]
theorem hxK_len {g : Gr} {K i m k : Nat} : (hxKAt g K i m k).length ≤ (pthAt g K i m).length + 1 := by
  unfold hxKAt
  rw [List.length_append, hx_len]
  split <;> simp
theorem hxK_zero {g : Gr} {K i m : Nat} : hxKAt g K i m 0 = hxAt g K i m := by unfold hxKAt; rw [if_neg (Nat.not_lt_zero _), List.append_nil]
theorem hx_skip {g : Gr} {K i m : Nat} (h : ¬ (g.edges.getD (((pth g K).getD i []).getLastD 0).toNat de).to = (g.edges.getD m de).frm) : hxAt g K i (m + 1) = hxAt g K i m := by
  unfold hxAt; rw [pthAt_succ, if_neg h, List.append_nil]
theorem hx_next {g : Gr} {K i : Nat} (hi : i < (pth g K).length) : hxAt g K i g.edges.length = hxAt g K (i + 1) 0 := by unfold hxAt; rw [pthAt_next hi]
theorem hx_all {g : Gr} {K : Nat} : hxAt g K (pth g K).length 0 = hiE g (K + 1) := by unfold hxAt; rw [pthAt_all]; rfl
theorem hxTo_in {g : Gr} {K i m : Nat} (hi : i < (pth g K).length) (hm : m < g.edges.length) (h : (g.edges.getD (((pth g K).getD i []).getLastD 0).toNat de).to = (g.edges.getD m de).frm) : hxTo g K i m ∈ pth g K := by
  have h1 : (pth g K).getD i [] ++ [(m : Int)] ∈ pth g (K + 1) := pth_mem.2 ⟨_, getD_mem hi, m, hm, h, rfl⟩
  have h2 := pth_drop h1
  have h3 := (pth_row (getD_mem (d := []) hi)).1
  unfold hxTo
  rw [← List.drop_one]
  rwa [List.drop_append_of_le_length (by omega)] at h2
theorem hxK_all {g : Gr} {K i m : Nat} (hi : i < (pth g K).length) (hm : m < g.edges.length) (h : (g.edges.getD (((pth g K).getD i []).getLastD 0).toNat de).to = (g.edges.getD m de).frm) : hxKAt g K i m (pth g K).length = hxAt g K i (m + 1) := by
  unfold hxKAt
  rw [if_pos (plc_at (hxTo_in hi hm h)).1]
  unfold hxAt
  rw [pthAt_succ, if_pos h, List.map_append]; rfl
theorem asc_inj {B : List (List Int)} (h : AscL B) {i j : Nat} (hi : i < B.length) (hj : j < B.length) (e : B.getD i [] = B.getD j []) : i = j := by
  rcases Nat.lt_trichotomy i j with h1 | h1 | h1
  · have := ascL_at h h1 hj; rw [e, cmpLL_self] at this; omega
  · exact h1
  · have := ascL_at h h1 hi; rw [e, cmpLL_self] at this; omega
theorem plc_eq {B : List (List Int)} (h : AscL B) {i : Nat} {x : List Int} (hi : i < B.length) (e : B.getD i [] = x) : plc B x = i := by
  have hx : x ∈ B := by rw [← e]; exact getD_mem hi
  have := plc_at hx
  exact asc_inj h this.1 hi (this.2.trans e.symm)
theorem hxK_miss {g : Gr} {K i m k : Nat} (hi : i < (pth g K).length) (hm : m < g.edges.length) (h : (g.edges.getD (((pth g K).getD i []).getLastD 0).toNat de).to = (g.edges.getD m de).frm) (hk : (pth g K).getD k [] ≠ hxTo g K i m) : hxKAt g K i m (k + 1) = hxKAt g K i m k := by
  have h1 := plc_at (hxTo_in hi hm h)
  have : plc (pth g K) (hxTo g K i m) ≠ k := fun e => hk (by rw [← e]; exact h1.2)
  unfold hxKAt
  by_cases h2 : plc (pth g K) (hxTo g K i m) < k
  · rw [if_pos h2, if_pos (by omega)]
  · rw [if_neg h2, if_neg (by omega)]
theorem hxK_hit {g : Gr} {K i m k : Nat} (hi : i < (pth g K).length) (hm : m < g.edges.length) (h : (g.edges.getD (((pth g K).getD i []).getLastD 0).toNat de).to = (g.edges.getD m de).frm) (hk : k < (pth g K).length) (he : (pth g K).getD k [] = hxTo g K i m) : hxKAt g K i m (k + 1) = hxKAt g K i m k ++ [⟨i, (g.edges.getD m de).lab, k⟩] := by
  have h1 : plc (pth g K) (hxTo g K i m) = k := plc_eq pth_asc hk he
  have hp := (pth_row (getD_mem (d := []) hi)).1
  unfold hxKAt
  rw [if_pos (by omega), if_neg (by omega), List.append_nil]
  congr 2
  unfold hiEd
  rw [Nat.add_sub_cancel, List.take_append_of_le_length (by omega), List.take_of_length_le (by omega), plc_eq pth_asc hi rfl, List.drop_append_of_le_length (by omega)]
  congr 1
  · rw [List.getD_eq_getElem?_getD (l := _ ++ _), List.getElem?_append_right (by omega), hp, Nat.sub_self]; simp
  · rw [List.drop_one]
    show ((plc (pth g K) (hxTo g K i m) : Nat) : Int) = _
    rw [h1]
set_option maxRecDepth 100000 in
theorem pathsR_c (g : Gr) (n : Int) (hv : gcheck g = 0) (hn : 1 ≤ n ∧ n ≤ 16) : PC Try.prog 48 [.agg 3 (grF g), .int .i64 n] (.tup 2 (fun j => [rowsI (if hiBad g n.toNat then [] else pth g (n.toNat - 1)), .bool (!hiBad g n.toNat)].getD j .any)) := by
  have hz := (gcheck_valid hv).1
  have hed := hz.ed
  refine PC_introS T_ok Try.func48 rfl (by simp [Try.ntmps48]) fun G hG hR => ?_
  simp only [Try.ntmps48, Try.results48] at hG ⊢
  simp only [argEnv, Nat.zero_add, Nat.reduceAdd]
  refine awpS_seq ?_
  refine awpS_reg T_ok fun K hK => ?_
  simp [hG, List.getD_cons_zero, List.getD_cons_succ, -List.getD_eq_getElem?_getD, pthAt_zero]
  first | refine hK _ ?_ | refine ⟨Cond.mk (by first | omega | (simp [-List.getD_eq_getElem?_getD]; done) | (simp [-List.getD_eq_getElem?_getD]; omega) | (simp [-List.getD_eq_getElem?_getD]; repeat (first | intro _ | exact And.intro ‹_› ‹_› | apply And.intro | assumption | omega | exact decide_eq_true (by assumption)))), hK _ ?_⟩
  clear K hK
  refine awpS_seq ?_
  refine awpS_reg T_ok fun K hK => ?_
  simp [hG, List.getD_cons_zero, List.getD_cons_succ, -List.getD_eq_getElem?_getD, pthAt_zero]
  first | refine hK _ ?_ | refine ⟨Cond.mk (by first | omega | (simp [-List.getD_eq_getElem?_getD]; done) | (simp [-List.getD_eq_getElem?_getD]; omega) | (simp [-List.getD_eq_getElem?_getD]; repeat (first | intro _ | exact And.intro ‹_› ‹_› | apply And.intro | assumption | omega | exact decide_eq_true (by assumption)))), hK _ ?_⟩
  clear K hK
  refine awpS_seq ?_
  refine awpS_seq ?_
  refine awpS_reg T_ok fun K hK => ?_
  simp [hG, List.getD_cons_zero, List.getD_cons_succ, -List.getD_eq_getElem?_getD, pthAt_zero]
  first | refine hK _ ?_ | refine ⟨Cond.mk (by first | omega | (simp [-List.getD_eq_getElem?_getD]; done) | (simp [-List.getD_eq_getElem?_getD]; omega) | (simp [-List.getD_eq_getElem?_getD]; repeat (first | intro _ | exact And.intro ‹_› ‹_› | apply And.intro | assumption | omega | exact decide_eq_true (by assumption)))), hK _ ?_⟩
  clear K hK
  refine awpS_block ?_
  refine awpS_loop (α := Nat) (fun k => ⟨[(1, .int .i64 n), (2, .ptr (0, 0) 0 0), (6, .sl (1, 0) 0 k), (7, .int .i64 k)], [(0, .one (.arr 1 3 (fun _ => grF g))), (1, .one (.arr k 1 (fun q _ => ints [(q : Int)])))], 2⟩) (fun k => k ≤ g.edges.length) (fun k => g.edges.length - k) (0) (Nat.zero_le _) ?_ ?_
  ·
    refine wk_of (id) (fun _ => false) (fun _ => false) ?_ ?_ rfl (Nat.zero_le _) (fun k hk => absurd hk (Nat.not_lt_zero _))
    · simp [hG, List.getD_cons_zero, List.getD_cons_succ, -List.getD_eq_getElem?_getD, pthAt_zero]
    · simp [hG, List.getD_cons_zero, List.getD_cons_succ, -List.getD_eq_getElem?_getD, pthAt_zero]
  ·
    rintro k hk
    refine awpS_seq ?_
    refine awpS_seq ?_
    refine awpS_reg T_ok fun K hK => ?_
    simp [hG, List.getD_cons_zero, List.getD_cons_succ, -List.getD_eq_getElem?_getD, pthAt_zero]
    first | refine hK _ ?_ | refine ⟨Cond.mk (by first | omega | (simp [-List.getD_eq_getElem?_getD]; done) | (simp [-List.getD_eq_getElem?_getD]; omega) | (simp [-List.getD_eq_getElem?_getD]; repeat (first | intro _ | exact And.intro ‹_› ‹_› | apply And.intro | assumption | omega | exact decide_eq_true (by assumption)))), hK _ ?_⟩
    clear K hK
    refine awpS_cond rfl (fun hb18 => ?_) (fun hb18 => ?_)
    ·
      try simp [-List.getD_eq_getElem?_getD] at hb18
      refine awpS_skip ?_
      refine awpS_seq ?_
      refine awpS_block ?_
      refine awpS_reg T_ok fun K hK => ?_
      simp [hG, List.getD_cons_zero, List.getD_cons_succ, -List.getD_eq_getElem?_getD, pthAt_zero]
      first | refine hK _ ?_ | refine ⟨Cond.mk (by first | omega | (simp [-List.getD_eq_getElem?_getD]; done) | (simp [-List.getD_eq_getElem?_getD]; omega) | (simp [-List.getD_eq_getElem?_getD]; repeat (first | intro _ | exact And.intro ‹_› ‹_› | apply And.intro | assumption | omega | exact decide_eq_true (by assumption)))), hK _ ?_⟩
      clear K hK
      refine awpS_nil ?_
      refine blockQ_norm (thenQ_norm ?_)
      refine awpS_reg T_ok fun K hK => ?_
      simp [hG, List.getD_cons_zero, List.getD_cons_succ, -List.getD_eq_getElem?_getD, pthAt_zero]
      first | refine hK _ ?_ | refine ⟨Cond.mk (by first | omega | (simp [-List.getD_eq_getElem?_getD]; done) | (simp [-List.getD_eq_getElem?_getD]; omega) | (simp [-List.getD_eq_getElem?_getD]; repeat (first | intro _ | exact And.intro ‹_› ‹_› | apply And.intro | assumption | omega | exact decide_eq_true (by assumption)))), hK _ ?_⟩
      clear K hK
      refine awpS_nil ?_
      refine round_end (k + 1) (by omega) (by omega) ?_
      refine wk_of (fun k => if k = 1 then 4 else k) (fun k => k == 2) (fun _ => false) ?_ ?_ rfl (Nat.zero_le _) (fun k hk => absurd hk (Nat.not_lt_zero _))
      · simp [hG, List.getD_cons_zero, List.getD_cons_succ, -List.getD_eq_getElem?_getD, pthAt_zero]
      · simp [hG, List.getD_cons_zero, List.getD_cons_succ, -List.getD_eq_getElem?_getD]; refine fun j hj => app_rowI (F := fun q => [(q : Int)]) hj ?_; simp
    ·
      try simp [-List.getD_eq_getElem?_getD] at hb18
      refine awpS_exit ?_
      refine thenQ_exit (thenQ_exit ?_)
      refine blockQ_exit (thenQ_norm ?_)
      refine awpS_seq ?_
      refine awpS_seq ?_
      refine awpS_reg T_ok fun K hK => ?_
      simp [hG, List.getD_cons_zero, List.getD_cons_succ, -List.getD_eq_getElem?_getD, pthAt_zero]
      first | refine hK _ ?_ | refine ⟨Cond.mk (by first | omega | (simp [-List.getD_eq_getElem?_getD]; done) | (simp [-List.getD_eq_getElem?_getD]; omega) | (simp [-List.getD_eq_getElem?_getD]; repeat (first | intro _ | exact And.intro ‹_› ‹_› | apply And.intro | assumption | omega | exact decide_eq_true (by assumption)))), hK _ ?_⟩
      clear K hK
      refine awpS_block ?_
      refine awpS_loop (α := Nat) (fun k => ⟨[(1, .int .i64 n), (2, .ptr (0, 0) 0 0), (6, rowsI (pth g k)), (8, .int .i64 (k + 1))], [(0, .one (.arr 1 3 (fun _ => grF g)))], 1⟩) (fun k => k < n.toNat ∧ ∀ j, j < k → (pth g j).length ≤ 64) (fun k => n.toNat - k) (0) (⟨by omega, fun j hj => absurd hj (Nat.not_lt_zero _)⟩) ?_ ?_
      ·
        refine wk_of (id) (fun k => k == 1) (fun _ => false) ?_ ?_ rfl (Nat.zero_le _) (fun k hk => absurd hk (Nat.not_lt_zero _))
        · simp [hG, List.getD_cons_zero, List.getD_cons_succ, -List.getD_eq_getElem?_getD]; rw [pth0_len]; exact ⟨by omega, by omega, fun q hq => by rw [pth0_at hq]; exact Clo.le _ Clo_ints⟩
        · simp [hG, List.getD_cons_zero, List.getD_cons_succ, -List.getD_eq_getElem?_getD, pthAt_zero]
      ·
        rintro k ⟨hk, hle⟩
        refine awpS_seq ?_
        refine awpS_seq ?_
        refine awpS_reg T_ok fun K hK => ?_
        simp [hG, List.getD_cons_zero, List.getD_cons_succ, -List.getD_eq_getElem?_getD, pthAt_zero]
        first | refine hK _ ?_ | refine ⟨Cond.mk (by first | omega | (simp [-List.getD_eq_getElem?_getD]; done) | (simp [-List.getD_eq_getElem?_getD]; omega) | (simp [-List.getD_eq_getElem?_getD]; repeat (first | intro _ | exact And.intro ‹_› ‹_› | apply And.intro | assumption | omega | exact decide_eq_true (by assumption)))), hK _ ?_⟩
        clear K hK
        refine awpS_cond rfl (fun hb28 => ?_) (fun hb28 => ?_)
        ·
          try simp [-List.getD_eq_getElem?_getD] at hb28
          refine awpS_skip ?_
          refine awpS_seq ?_
          refine awpS_block ?_
          refine awpS_seq ?_
          refine awpS_seq ?_
          refine awpS_reg T_ok fun K hK => ?_
          simp [hG, List.getD_cons_zero, List.getD_cons_succ, -List.getD_eq_getElem?_getD, pthAt_zero]
          first | refine hK _ ?_ | refine ⟨Cond.mk (by first | omega | (simp [-List.getD_eq_getElem?_getD]; done) | (simp [-List.getD_eq_getElem?_getD]; omega) | (simp [-List.getD_eq_getElem?_getD]; repeat (first | intro _ | exact And.intro ‹_› ‹_› | apply And.intro | assumption | omega | exact decide_eq_true (by assumption)))), hK _ ?_⟩
          clear K hK
          refine awpS_cond rfl (fun hb33 => ?_) (fun hb33 => ?_)
          ·
            try simp [-List.getD_eq_getElem?_getD] at hb33
            refine awpS_seq ?_
            refine awpS_reg T_ok fun K hK => ?_
            simp [hG, List.getD_cons_zero, List.getD_cons_succ, -List.getD_eq_getElem?_getD, pthAt_zero]
            first | refine hK _ ?_ | refine ⟨Cond.mk (by first | omega | (simp [-List.getD_eq_getElem?_getD]; done) | (simp [-List.getD_eq_getElem?_getD]; omega) | (simp [-List.getD_eq_getElem?_getD]; repeat (first | intro _ | exact And.intro ‹_› ‹_› | apply And.intro | assumption | omega | exact decide_eq_true (by assumption)))), hK _ ?_⟩
            clear K hK
            refine awpS_ret ?_
            refine blockQ_ret (thenQ_ret ?_)
            refine thenQ_ret (thenQ_ret ?_)
            refine blockQ_ret (thenQ_ret ?_)
            refine RetOK_of ?_
            simp [hG, List.getD_cons_zero, List.getD_cons_succ, -List.getD_eq_getElem?_getD, pthAt_zero]
            have hB := hi_bad (g := g) (n := n.toNat) hk (by omega); rw [hB]; simp
          ·
            try simp [-List.getD_eq_getElem?_getD] at hb33
            have hpl : (pth g k).length ≤ 64 := (by omega)
            refine awpS_skip ?_
            refine awpS_seq ?_
            refine awpS_seq ?_
            refine awpS_reg T_ok fun K hK => ?_
            simp [hG, List.getD_cons_zero, List.getD_cons_succ, -List.getD_eq_getElem?_getD, pthAt_zero]
            first | refine hK _ ?_ | refine ⟨Cond.mk (by first | omega | (simp [-List.getD_eq_getElem?_getD]; done) | (simp [-List.getD_eq_getElem?_getD]; omega) | (simp [-List.getD_eq_getElem?_getD]; repeat (first | intro _ | exact And.intro ‹_› ‹_› | apply And.intro | assumption | omega | exact decide_eq_true (by assumption)))), hK _ ?_⟩
            clear K hK
            refine awpS_cond rfl (fun hb36 => ?_) (fun hb36 => ?_)
            ·
              try simp [-List.getD_eq_getElem?_getD] at hb36
              refine awpS_exit ?_
              refine blockQ_exit_ne (by decide) (thenQ_exit ?_)
              refine thenQ_exit (thenQ_exit ?_)
              refine blockQ_exit (thenQ_norm ?_)
              refine awpS_seq ?_
              refine awpS_reg T_ok fun K hK => ?_
              simp [hG, List.getD_cons_zero, List.getD_cons_succ, -List.getD_eq_getElem?_getD, pthAt_zero]
              first | refine hK _ ?_ | refine ⟨Cond.mk (by first | omega | (simp [-List.getD_eq_getElem?_getD]; done) | (simp [-List.getD_eq_getElem?_getD]; omega) | (simp [-List.getD_eq_getElem?_getD]; repeat (first | intro _ | exact And.intro ‹_› ‹_› | apply And.intro | assumption | omega | exact decide_eq_true (by assumption)))), hK _ ?_⟩
              clear K hK
              refine awpS_ret ?_
              refine RetOK_of ?_
              simp [hG, List.getD_cons_zero, List.getD_cons_succ, -List.getD_eq_getElem?_getD, pthAt_zero]
              have hB := hi_fine (g := g) (n := n.toNat) (fun j hj => (Nat.lt_or_ge j k).elim (hle j) fun h => by rw [show j = k by omega]; exact hpl); rw [hB, show n.toNat - 1 = k by omega]; simp
            ·
              try simp [-List.getD_eq_getElem?_getD] at hb36
              refine awpS_skip ?_
              refine awpS_seq ?_
              refine awpS_reg T_ok fun K hK => ?_
              simp [hG, List.getD_cons_zero, List.getD_cons_succ, -List.getD_eq_getElem?_getD, pthAt_zero]
              first | refine hK _ ?_ | refine ⟨Cond.mk (by first | omega | (simp [-List.getD_eq_getElem?_getD]; done) | (simp [-List.getD_eq_getElem?_getD]; omega) | (simp [-List.getD_eq_getElem?_getD]; repeat (first | intro _ | exact And.intro ‹_› ‹_› | apply And.intro | assumption | omega | exact decide_eq_true (by assumption)))), hK _ ?_⟩
              clear K hK
              refine awpS_seq ?_
              refine awpS_seq ?_
              refine awpS_reg T_ok fun K hK => ?_
              simp [hG, List.getD_cons_zero, List.getD_cons_succ, -List.getD_eq_getElem?_getD, pthAt_zero]
              first | refine hK _ ?_ | refine ⟨Cond.mk (by first | omega | (simp [-List.getD_eq_getElem?_getD]; done) | (simp [-List.getD_eq_getElem?_getD]; omega) | (simp [-List.getD_eq_getElem?_getD]; repeat (first | intro _ | exact And.intro ‹_› ‹_› | apply And.intro | assumption | omega | exact decide_eq_true (by assumption)))), hK _ ?_⟩
              clear K hK
              refine awpS_block ?_
              refine awpS_loop (α := Nat) (fun i => ⟨[(1, .int .i64 n), (2, .ptr (0, 0) 0 0), (6, rowsI (pth g k)), (8, .int .i64 (k + 1)), (9, .sl (1, 0) 0 (pthAt g k i 0).length), (10, .int .i64 i)], [(0, .one (.arr 1 3 (fun _ => grF g))), (1, .one (.arr (pthAt g k i 0).length 1 (fun q _ => ints ((pthAt g k i 0).getD q []))))], 2⟩) (fun i => i ≤ (pth g k).length) (fun i => (pth g k).length - i) (0) (Nat.zero_le _) ?_ ?_
              ·
                refine wk_of (id) (fun _ => false) (fun _ => false) ?_ ?_ rfl (Nat.zero_le _) (fun k hk => absurd hk (Nat.not_lt_zero _))
                · simp [hG, List.getD_cons_zero, List.getD_cons_succ, -List.getD_eq_getElem?_getD, pthAt_zero]
                · simp [hG, List.getD_cons_zero, List.getD_cons_succ, -List.getD_eq_getElem?_getD, pthAt_zero]
              ·
                rintro i hi
                refine awpS_seq ?_
                refine awpS_seq ?_
                refine awpS_reg T_ok fun K hK => ?_
                simp [hG, List.getD_cons_zero, List.getD_cons_succ, -List.getD_eq_getElem?_getD, pthAt_zero]
                first | refine hK _ ?_ | refine ⟨Cond.mk (by first | omega | (simp [-List.getD_eq_getElem?_getD]; done) | (simp [-List.getD_eq_getElem?_getD]; omega) | (simp [-List.getD_eq_getElem?_getD]; repeat (first | intro _ | exact And.intro ‹_› ‹_› | apply And.intro | assumption | omega | exact decide_eq_true (by assumption)))), hK _ ?_⟩
                clear K hK
                refine awpS_cond rfl (fun hb41 => ?_) (fun hb41 => ?_)
                ·
                  try simp [-List.getD_eq_getElem?_getD] at hb41
                  have hrw := pth_row (getD_mem (d := []) (show i < (pth g k).length by omega))
                  have hla := last_at hrw
                  refine awpS_skip ?_
                  refine awpS_seq ?_
                  refine awpS_block ?_
                  refine awpS_seq ?_
                  refine awpS_draw hR mixed [] ⟨[13], [], []⟩ fun mu0 => ?_
                  refine awpA_tk T_ok [0, 1, 2, 3, 4, 5, 6, 7, 8, 9, 10, 11] [] (fuel := 2) [11, 10, 9, 8, 7, 6, 5, 4, 3, 2, 1, 0] (by decide +kernel) (by decide +kernel) rfl rfl fun K hK => ?_
                  simp [hG, List.getD_cons_zero, List.getD_cons_succ, -List.getD_eq_getElem?_getD, pthAt_zero]
                  first | refine hK _ ?_ | refine ⟨Cond.mk (by first | omega | (simp [-List.getD_eq_getElem?_getD]; done) | (simp [-List.getD_eq_getElem?_getD]; omega) | (simp [-List.getD_eq_getElem?_getD]; repeat (first | intro _ | exact And.intro ‹_› ‹_› | apply And.intro | assumption | omega | exact decide_eq_true (by assumption)))), hK _ ?_⟩
                  clear K hK
                  refine awpA_only (fuel := 1) (i := 12) (by decide +kernel) ?_
                  refine awpO_reg T_ok rfl ?_ fun K hK => ?_
                  · simp [hG, List.getD_cons_zero, List.getD_cons_succ, -List.getD_eq_getElem?_getD, pthAt_zero]
                  simp [hG, List.getD_cons_zero, List.getD_cons_succ, -List.getD_eq_getElem?_getD, pthAt_zero]
                  first | refine hK _ ?_ | refine ⟨Cond.mk (by first | omega | (simp [-List.getD_eq_getElem?_getD]; done) | (simp [-List.getD_eq_getElem?_getD]; omega) | (simp [-List.getD_eq_getElem?_getD]; repeat (first | intro _ | exact And.intro ‹_› ‹_› | apply And.intro | assumption | omega | exact decide_eq_true (by assumption)))), hK _ ?_⟩
                  clear K hK
                  refine awpA_only (fuel := 0) (i := 13) (by decide +kernel) ?_
                  refine awpO_reg T_ok rfl ?_ fun K hK => ?_
                  · simp [hG, List.getD_cons_zero, List.getD_cons_succ, -List.getD_eq_getElem?_getD, pthAt_zero]
                  simp [hG, List.getD_cons_zero, List.getD_cons_succ, -List.getD_eq_getElem?_getD, pthAt_zero]
                  first | refine hK _ ?_ | refine ⟨Cond.mk (by first | omega | (simp [-List.getD_eq_getElem?_getD]; done) | (simp [-List.getD_eq_getElem?_getD]; omega) | (simp [-List.getD_eq_getElem?_getD]; repeat (first | intro _ | exact And.intro ‹_› ‹_› | apply And.intro | assumption | omega | exact decide_eq_true (by assumption)))), hK _ ?_⟩
                  clear K hK
                  refine awpA_done (by decide +kernel) ?_
                  refine awpS_seq ?_
                  refine awpS_reg T_ok fun K hK => ?_
                  simp [hG, List.getD_cons_zero, List.getD_cons_succ, -List.getD_eq_getElem?_getD, pthAt_zero]
                  first | refine hK _ ?_ | refine ⟨Cond.mk (by first | omega | (simp [-List.getD_eq_getElem?_getD]; done) | (simp [-List.getD_eq_getElem?_getD]; omega) | (simp [-List.getD_eq_getElem?_getD]; repeat (first | intro _ | exact And.intro ‹_› ‹_› | apply And.intro | assumption | omega | exact decide_eq_true (by assumption)))), hK _ ?_⟩
                  clear K hK
                  refine awpS_block ?_
                  refine awpS_loop (α := Nat) (fun m => ⟨[(1, .int .i64 n), (2, .ptr (0, 0) 0 0), (6, rowsI (pth g k)), (8, .int .i64 (k + 1)), (9, .sl (1, 0) 0 (pthAt g k i m).length), (10, .int .i64 i), (11, .ptr (2, 0) 0 0), (12, .int .i64 m)], [(0, .one (.arr 1 3 (fun _ => grF g))), (1, .one (.arr (pthAt g k i m).length 1 (fun q _ => ints ((pthAt g k i m).getD q [])))), (2, .one (.arr 1 3 (fun _ => edgeF (g.edges.getD (((pth g k).getD i []).getD k 0).toNat de))))], 3⟩) (fun m => m ≤ g.edges.length) (fun m => g.edges.length - m) (0) (Nat.zero_le _) ?_ ?_
                  ·
                    refine wk_of (id) (fun _ => false) (fun _ => false) ?_ ?_ rfl (Nat.zero_le _) (fun k hk => absurd hk (Nat.not_lt_zero _))
                    · simp [hG, List.getD_cons_zero, List.getD_cons_succ, -List.getD_eq_getElem?_getD, pthAt_zero]
                    · simp [hG, List.getD_cons_zero, List.getD_cons_succ, -List.getD_eq_getElem?_getD, pthAt_zero]
                  ·
                    rintro m hm
                    refine awpS_seq ?_
                    refine awpS_seq ?_
                    refine awpS_reg T_ok fun K hK => ?_
                    simp [hG, List.getD_cons_zero, List.getD_cons_succ, -List.getD_eq_getElem?_getD, pthAt_zero]
                    first | refine hK _ ?_ | refine ⟨Cond.mk (by first | omega | (simp [-List.getD_eq_getElem?_getD]; done) | (simp [-List.getD_eq_getElem?_getD]; omega) | (simp [-List.getD_eq_getElem?_getD]; repeat (first | intro _ | exact And.intro ‹_› ‹_› | apply And.intro | assumption | omega | exact decide_eq_true (by assumption)))), hK _ ?_⟩
                    clear K hK
                    refine awpS_cond rfl (fun hb60 => ?_) (fun hb60 => ?_)
                    ·
                      try simp [-List.getD_eq_getElem?_getD] at hb60
                      have hxl := pthAt_len (g := g) (k := k) (i := i) (m := m) hed hpl (by omega) (by omega)
                      refine awpS_skip ?_
                      refine awpS_seq ?_
                      refine awpS_block ?_
                      refine awpS_seq ?_
                      refine awpS_draw hR mixed [] ⟨[], [], []⟩ fun mu0 => ?_
                      refine awpA_tk T_ok [0, 1, 2, 3, 4, 5, 6, 7, 8] [] (fuel := 0) [8, 7, 6, 5, 4, 3, 2, 1, 0] (by decide +kernel) (by decide +kernel) rfl rfl fun K hK => ?_
                      simp [hG, List.getD_cons_zero, List.getD_cons_succ, -List.getD_eq_getElem?_getD, pthAt_zero]
                      first | refine hK _ ?_ | refine ⟨Cond.mk (by first | omega | (simp [-List.getD_eq_getElem?_getD]; done) | (simp [-List.getD_eq_getElem?_getD]; omega) | (simp [-List.getD_eq_getElem?_getD]; repeat (first | intro _ | exact And.intro ‹_› ‹_› | apply And.intro | assumption | omega | exact decide_eq_true (by assumption)))), hK _ ?_⟩
                      clear K hK
                      refine awpA_done (by decide +kernel) ?_
                      refine awpS_cond rfl (fun hb71 => ?_) (fun hb71 => ?_)
                      ·
                        try simp [-List.getD_eq_getElem?_getD] at hb71
                        refine awpS_reg T_ok fun K hK => ?_
                        simp [hG, List.getD_cons_zero, List.getD_cons_succ, -List.getD_eq_getElem?_getD, pthAt_zero]
                        first | refine hK _ ?_ | refine ⟨Cond.mk (by first | omega | (simp [-List.getD_eq_getElem?_getD]; done) | (simp [-List.getD_eq_getElem?_getD]; omega) | (simp [-List.getD_eq_getElem?_getD]; repeat (first | intro _ | exact And.intro ‹_› ‹_› | apply And.intro | assumption | omega | exact decide_eq_true (by assumption)))), hK _ ?_⟩
                        clear K hK
                        refine awpS_nil ?_
                        refine blockQ_norm (thenQ_norm ?_)
                        refine awpS_reg T_ok fun K hK => ?_
                        simp [hG, List.getD_cons_zero, List.getD_cons_succ, -List.getD_eq_getElem?_getD, pthAt_zero]
                        first | refine hK _ ?_ | refine ⟨Cond.mk (by first | omega | (simp [-List.getD_eq_getElem?_getD]; done) | (simp [-List.getD_eq_getElem?_getD]; omega) | (simp [-List.getD_eq_getElem?_getD]; repeat (first | intro _ | exact And.intro ‹_› ‹_› | apply And.intro | assumption | omega | exact decide_eq_true (by assumption)))), hK _ ?_⟩
                        clear K hK
                        refine awpS_nil ?_
                        refine round_end (m + 1) (by omega) (by omega) ?_
                        refine wk_of (fun k => if k = 1 then 8 else k) (fun k => k == 6) (fun _ => false) ?_ ?_ rfl (Nat.zero_le _) (fun k hk => absurd hk (Nat.not_lt_zero _))
                        · rw [pthAt_succ, if_pos (by rw [hla.1]; exact hb71.symm)]; simp [hG, List.getD_cons_zero, List.getD_cons_succ, -List.getD_eq_getElem?_getD]
                        · rw [pthAt_succ, if_pos (by rw [hla.1]; exact hb71.symm)]; simp [hG, List.getD_cons_zero, List.getD_cons_succ, -List.getD_eq_getElem?_getD]; refine fun j hj => app_rowX hj ?_; simp [-List.getD_eq_getElem?_getD]; exact fun q hq => app_int hq
                      ·
                        try simp [-List.getD_eq_getElem?_getD] at hb71
                        refine awpS_skip ?_
                        refine awpS_nil ?_
                        refine blockQ_norm (thenQ_norm ?_)
                        refine awpS_reg T_ok fun K hK => ?_
                        simp [hG, List.getD_cons_zero, List.getD_cons_succ, -List.getD_eq_getElem?_getD, pthAt_zero]
                        first | refine hK _ ?_ | refine ⟨Cond.mk (by first | omega | (simp [-List.getD_eq_getElem?_getD]; done) | (simp [-List.getD_eq_getElem?_getD]; omega) | (simp [-List.getD_eq_getElem?_getD]; repeat (first | intro _ | exact And.intro ‹_› ‹_› | apply And.intro | assumption | omega | exact decide_eq_true (by assumption)))), hK _ ?_⟩
                        clear K hK
                        refine awpS_nil ?_
                        refine round_end (m + 1) (by omega) (by omega) ?_
                        refine wk_of (id) (fun _ => false) (fun _ => false) ?_ ?_ rfl (Nat.zero_le _) (fun k hk => absurd hk (Nat.not_lt_zero _))
                        · rw [pthAt_succ, if_neg (by rw [hla.1]; exact fun h => hb71 h.symm), List.append_nil]; simp [hG, List.getD_cons_zero, List.getD_cons_succ, -List.getD_eq_getElem?_getD]
                        · rw [pthAt_succ, if_neg (by rw [hla.1]; exact fun h => hb71 h.symm), List.append_nil]; simp [hG, List.getD_cons_zero, List.getD_cons_succ, -List.getD_eq_getElem?_getD]
                    ·
                      try simp [-List.getD_eq_getElem?_getD] at hb60
                      obtain rfl : m = g.edges.length := (by omega)
                      have hpn := pthAt_next (g := g) (k := k) (i := i) (by omega)
                      refine awpS_exit ?_
                      refine thenQ_exit (thenQ_exit ?_)
                      refine blockQ_exit (thenQ_norm ?_)
                      refine awpS_nil ?_
                      refine blockQ_norm (thenQ_norm ?_)
                      refine awpS_reg T_ok fun K hK => ?_
                      simp [hG, List.getD_cons_zero, List.getD_cons_succ, -List.getD_eq_getElem?_getD, pthAt_zero]
                      first | refine hK _ ?_ | refine ⟨Cond.mk (by first | omega | (simp [-List.getD_eq_getElem?_getD]; done) | (simp [-List.getD_eq_getElem?_getD]; omega) | (simp [-List.getD_eq_getElem?_getD]; repeat (first | intro _ | exact And.intro ‹_› ‹_› | apply And.intro | assumption | omega | exact decide_eq_true (by assumption)))), hK _ ?_⟩
                      clear K hK
                      refine awpS_nil ?_
                      refine round_end (i + 1) (by omega) (by omega) ?_
                      refine wk_of (id) (fun _ => false) (fun _ => false) ?_ ?_ rfl (Nat.zero_le _) (fun k hk => absurd hk (Nat.not_lt_zero _))
                      · rw [← hpn]; simp [hG, List.getD_cons_zero, List.getD_cons_succ, -List.getD_eq_getElem?_getD]
                      · rw [← hpn]; simp [hG, List.getD_cons_zero, List.getD_cons_succ, -List.getD_eq_getElem?_getD]
                ·
                  try simp [-List.getD_eq_getElem?_getD] at hb41
                  obtain rfl : i = (pth g k).length := (by omega)
                  have hpa := pthAt_all (g := g) (k := k)
                  have hpb := pthAt_len (g := g) (k := k) (i := (pth g k).length) (m := 0) hed hpl hpl (Nat.zero_le _)
                  rw [hpa] at hpb
                  refine awpS_exit ?_
                  refine thenQ_exit (thenQ_exit ?_)
                  refine blockQ_exit (thenQ_norm ?_)
                  refine awpS_reg T_ok fun K hK => ?_
                  simp [hG, List.getD_cons_zero, List.getD_cons_succ, -List.getD_eq_getElem?_getD, pthAt_zero]
                  first | refine hK _ ?_ | refine ⟨Cond.mk (by first | omega | (simp [-List.getD_eq_getElem?_getD]; done) | (simp [-List.getD_eq_getElem?_getD]; omega) | (simp [-List.getD_eq_getElem?_getD]; repeat (first | intro _ | exact And.intro ‹_› ‹_› | apply And.intro | assumption | omega | exact decide_eq_true (by assumption)))), hK _ ?_⟩
                  clear K hK
                  refine awpS_nil ?_
                  refine blockQ_norm (thenQ_norm ?_)
                  refine awpS_reg T_ok fun K hK => ?_
                  simp [hG, List.getD_cons_zero, List.getD_cons_succ, -List.getD_eq_getElem?_getD, pthAt_zero]
                  first | refine hK _ ?_ | refine ⟨Cond.mk (by first | omega | (simp [-List.getD_eq_getElem?_getD]; done) | (simp [-List.getD_eq_getElem?_getD]; omega) | (simp [-List.getD_eq_getElem?_getD]; repeat (first | intro _ | exact And.intro ‹_› ‹_› | apply And.intro | assumption | omega | exact decide_eq_true (by assumption)))), hK _ ?_⟩
                  clear K hK
                  refine awpS_nil ?_
                  refine round_end (k + 1) (⟨by omega, fun j hj => (Nat.lt_or_ge j k).elim (hle j) fun h => by rw [show j = k by omega]; exact hpl⟩) (by omega) ?_
                  refine wk_of (id) (fun k => k == 1) (fun _ => false) ?_ ?_ rfl (Nat.zero_le _) (fun k hk => absurd hk (Nat.not_lt_zero _))
                  · simp [hG, List.getD_cons_zero, List.getD_cons_succ, -List.getD_eq_getElem?_getD]; rw [hpa]; exact ⟨rfl, Nat.le_refl _, fun q hq => Clo.le _ Clo_ints⟩
                  · simp [hG, List.getD_cons_zero, List.getD_cons_succ, -List.getD_eq_getElem?_getD, pthAt_zero]
        ·
          exact absurd hb28 (by simp; omega)

set_option maxRecDepth 100000 in
theorem movesR_c (a b : List Int) (e : Int) (hl : b.length = a.length) (ha : 1 ≤ a.length ∧ a.length ≤ 1000000) : PC Try.prog 49 [ints a, .int .i64 e, ints b] (.bool (decide (b = a.drop 1 ++ [e]))) := by
  refine PC_introS T_ok Try.func49 rfl (by simp [Try.ntmps49]) fun G hG hR => ?_
  simp only [Try.ntmps49, Try.results49] at hG ⊢
  simp only [argEnv, Nat.zero_add, Nat.reduceAdd]
  refine awpS_seq ?_
  refine awpS_reg T_ok fun K hK => ?_
  simp [hG, List.getD_cons_zero, List.getD_cons_succ, -List.getD_eq_getElem?_getD]
  first | refine hK _ ?_ | refine ⟨Cond.mk (by first | omega | (simp [-List.getD_eq_getElem?_getD]; done) | (simp [-List.getD_eq_getElem?_getD]; omega) | (simp [-List.getD_eq_getElem?_getD]; repeat (first | intro _ | exact And.intro ‹_› ‹_› | apply And.intro | assumption | omega | exact decide_eq_true (by assumption)))), hK _ ?_⟩
  clear K hK
  refine awpS_seq ?_
  refine awpS_seq ?_
  refine awpS_reg T_ok fun K hK => ?_
  simp [hG, List.getD_cons_zero, List.getD_cons_succ, -List.getD_eq_getElem?_getD]
  first | refine hK _ ?_ | refine ⟨Cond.mk (by first | omega | (simp [-List.getD_eq_getElem?_getD]; done) | (simp [-List.getD_eq_getElem?_getD]; omega) | (simp [-List.getD_eq_getElem?_getD]; repeat (first | intro _ | exact And.intro ‹_› ‹_› | apply And.intro | assumption | omega | exact decide_eq_true (by assumption)))), hK _ ?_⟩
  clear K hK
  refine awpS_block ?_
  refine awpS_loop (α := Nat) (fun i => ⟨[(0, ints a), (1, .int .i64 e), (2, ints b), (7, .int .i64 i)], [], 0⟩) (fun i => 1 ≤ i ∧ i ≤ a.length ∧ ∀ j, j < i → 1 ≤ j → a.getD j 0 = b.getD (j - 1) 0) (fun i => a.length - i) (1) (⟨Nat.le_refl _, by omega, fun j hj h1 => by omega⟩) ?_ ?_
  ·
    refine wk_of (id) (fun _ => false) (fun _ => false) ?_ ?_ rfl (Nat.zero_le _) (fun k hk => absurd hk (Nat.not_lt_zero _))
    · simp [hG, List.getD_cons_zero, List.getD_cons_succ, -List.getD_eq_getElem?_getD]
    · simp [hG, List.getD_cons_zero, List.getD_cons_succ, -List.getD_eq_getElem?_getD]
  ·
    rintro i ⟨h1, hi, hn⟩
    refine awpS_seq ?_
    refine awpS_seq ?_
    refine awpS_reg T_ok fun K hK => ?_
    simp [hG, List.getD_cons_zero, List.getD_cons_succ, -List.getD_eq_getElem?_getD]
    first | refine hK _ ?_ | refine ⟨Cond.mk (by first | omega | (simp [-List.getD_eq_getElem?_getD]; done) | (simp [-List.getD_eq_getElem?_getD]; omega) | (simp [-List.getD_eq_getElem?_getD]; repeat (first | intro _ | exact And.intro ‹_› ‹_› | apply And.intro | assumption | omega | exact decide_eq_true (by assumption)))), hK _ ?_⟩
    clear K hK
    refine awpS_cond rfl (fun hb11 => ?_) (fun hb11 => ?_)
    ·
      try simp [-List.getD_eq_getElem?_getD] at hb11
      refine awpS_skip ?_
      refine awpS_seq ?_
      refine awpS_block ?_
      refine awpS_seq ?_
      refine awpS_draw hR mixed [] ⟨[], [], []⟩ fun mu0 => ?_
      refine awpA_tk T_ok [0, 1, 2, 3, 4, 5, 6, 7, 8, 9] [] (fuel := 0) [9, 8, 7, 6, 5, 4, 3, 2, 1, 0] (by decide +kernel) (by decide +kernel) rfl rfl fun K hK => ?_
      simp [hG, List.getD_cons_zero, List.getD_cons_succ, -List.getD_eq_getElem?_getD]
      first | refine hK _ ?_ | refine ⟨Cond.mk (by first | omega | (simp [-List.getD_eq_getElem?_getD]; done) | (simp [-List.getD_eq_getElem?_getD]; omega) | (simp [-List.getD_eq_getElem?_getD]; repeat (first | intro _ | exact And.intro ‹_› ‹_› | apply And.intro | assumption | omega | exact decide_eq_true (by assumption)))), hK _ ?_⟩
      clear K hK
      refine awpA_done (by decide +kernel) ?_
      refine awpS_cond rfl (fun hb23 => ?_) (fun hb23 => ?_)
      ·
        try simp [-List.getD_eq_getElem?_getD] at hb23
        refine awpS_seq ?_
        refine awpS_reg T_ok fun K hK => ?_
        simp [hG, List.getD_cons_zero, List.getD_cons_succ, -List.getD_eq_getElem?_getD]
        first | refine hK _ ?_ | refine ⟨Cond.mk (by first | omega | (simp [-List.getD_eq_getElem?_getD]; done) | (simp [-List.getD_eq_getElem?_getD]; omega) | (simp [-List.getD_eq_getElem?_getD]; repeat (first | intro _ | exact And.intro ‹_› ‹_› | apply And.intro | assumption | omega | exact decide_eq_true (by assumption)))), hK _ ?_⟩
        clear K hK
        refine awpS_ret ?_
        refine blockQ_ret (thenQ_ret ?_)
        refine thenQ_ret (thenQ_ret ?_)
        refine blockQ_ret (thenQ_ret ?_)
        refine RetOK_of ?_
        simp [hG, List.getD_cons_zero, List.getD_cons_succ, -List.getD_eq_getElem?_getD]
        rw [← List.drop_one]; exact moves_no hl ⟨h1, by omega⟩ hb23
      ·
        try simp [-List.getD_eq_getElem?_getD] at hb23
        refine awpS_skip ?_
        refine awpS_nil ?_
        refine blockQ_norm (thenQ_norm ?_)
        refine awpS_reg T_ok fun K hK => ?_
        simp [hG, List.getD_cons_zero, List.getD_cons_succ, -List.getD_eq_getElem?_getD]
        first | refine hK _ ?_ | refine ⟨Cond.mk (by first | omega | (simp [-List.getD_eq_getElem?_getD]; done) | (simp [-List.getD_eq_getElem?_getD]; omega) | (simp [-List.getD_eq_getElem?_getD]; repeat (first | intro _ | exact And.intro ‹_› ‹_› | apply And.intro | assumption | omega | exact decide_eq_true (by assumption)))), hK _ ?_⟩
        clear K hK
        refine awpS_nil ?_
        refine round_end (i + 1) (⟨by omega, by omega, fun j hj hj1 => (Nat.lt_or_ge j i).elim (fun h => hn j h hj1) fun h => by rw [show j = i by omega]; exact hb23⟩) (by omega) ?_
        refine wk_of (id) (fun _ => false) (fun _ => false) ?_ ?_ rfl (Nat.zero_le _) (fun k hk => absurd hk (Nat.not_lt_zero _))
        · simp [hG, List.getD_cons_zero, List.getD_cons_succ, -List.getD_eq_getElem?_getD]
        · simp [hG, List.getD_cons_zero, List.getD_cons_succ, -List.getD_eq_getElem?_getD]
    ·
      try simp [-List.getD_eq_getElem?_getD] at hb11
      refine awpS_exit ?_
      refine thenQ_exit (thenQ_exit ?_)
      refine blockQ_exit (thenQ_norm ?_)
      refine awpS_seq ?_
      refine awpS_reg T_ok fun K hK => ?_
      simp [hG, List.getD_cons_zero, List.getD_cons_succ, -List.getD_eq_getElem?_getD]
      first | refine hK _ ?_ | refine ⟨Cond.mk (by first | omega | (simp [-List.getD_eq_getElem?_getD]; done) | (simp [-List.getD_eq_getElem?_getD]; omega) | (simp [-List.getD_eq_getElem?_getD]; repeat (first | intro _ | exact And.intro ‹_› ‹_› | apply And.intro | assumption | omega | exact decide_eq_true (by assumption)))), hK _ ?_⟩
      clear K hK
      refine awpS_ret ?_
      refine RetOK_of ?_
      simp [hG, List.getD_cons_zero, List.getD_cons_succ, -List.getD_eq_getElem?_getD]
      obtain rfl : i = a.length := (by omega); rw [← List.drop_one]; exact moves_end hl ha.1 hn

set_option maxRecDepth 100000 in
theorem higherR_c (g : Gr) (n : Int) : PC Try.prog 15 [.agg 3 (grF g), .int .i64 n] (.tup 2 (fun j => [.agg 3 (grF (hiX g n)), .int .i64 (hiN g n)].getD j .any)) := by
  refine PC_introS T_ok Try.func15 rfl (by simp [Try.ntmps15]) fun G hG hR => ?_
  simp only [Try.ntmps15, Try.results15] at hG ⊢
  simp only [argEnv, Nat.zero_add, Nat.reduceAdd]
  refine awpS_seq ?_
  refine awpS_reg T_ok fun K hK => ?_
  simp [hG, List.getD_cons_zero, List.getD_cons_succ, -List.getD_eq_getElem?_getD, hx_zero, hxK_zero]
  first | refine hK _ ?_ | refine ⟨Cond.mk (by first | omega | (simp [-List.getD_eq_getElem?_getD]; done) | (simp [-List.getD_eq_getElem?_getD]; omega) | (simp [-List.getD_eq_getElem?_getD]; repeat (first | intro _ | exact And.intro ‹_› ‹_› | apply And.intro | assumption | omega | exact decide_eq_true (by assumption)))), hK _ ?_⟩
  clear K hK
  refine awpS_seq ?_
  refine awpS_seq ?_
  refine awpS_regL ?_
  refine awpL_reg T_ok 1 fun K hK => ?_
  simp [hG, List.getD_cons_zero, List.getD_cons_succ, -List.getD_eq_getElem?_getD, hx_zero, hxK_zero]
  first | refine hK _ ?_ | refine ⟨Cond.mk (by first | omega | (simp [-List.getD_eq_getElem?_getD]; done) | (simp [-List.getD_eq_getElem?_getD]; omega) | (simp [-List.getD_eq_getElem?_getD]; repeat (first | intro _ | exact And.intro ‹_› ‹_› | apply And.intro | assumption | omega | exact decide_eq_true (by assumption)))), hK _ ?_⟩
  clear K hK
  refine awpL_call cal17 rfl rfl (fun _ => rfl) (fun hg => check_c g) (fun hg => ?_) (fun hg => ?_) fun K hK => ?_
  · simp [hG, List.getD_cons_zero, List.getD_cons_succ, -List.getD_eq_getElem?_getD, hx_zero, hxK_zero]
  · simp [hG, List.getD_cons_zero, List.getD_cons_succ, -List.getD_eq_getElem?_getD, hx_zero, hxK_zero]
  simp [hG, List.getD_cons_zero, List.getD_cons_succ, -List.getD_eq_getElem?_getD, hx_zero, hxK_zero]
  refine hK _ ?_
  clear K hK
  refine awpL_reg T_ok 1 fun K hK => ?_
  simp [hG, List.getD_cons_zero, List.getD_cons_succ, -List.getD_eq_getElem?_getD, hx_zero, hxK_zero]
  first | refine hK _ ?_ | refine ⟨Cond.mk (by first | omega | (simp [-List.getD_eq_getElem?_getD]; done) | (simp [-List.getD_eq_getElem?_getD]; omega) | (simp [-List.getD_eq_getElem?_getD]; repeat (first | intro _ | exact And.intro ‹_› ‹_› | apply And.intro | assumption | omega | exact decide_eq_true (by assumption)))), hK _ ?_⟩
  clear K hK
  refine awpL_nil ?_
  refine awpS_cond rfl (fun hb14 => ?_) (fun hb14 => ?_)
  ·
    try simp [-List.getD_eq_getElem?_getD] at hb14
    refine awpS_seq ?_
    refine awpS_reg T_ok fun K hK => ?_
    simp [hG, List.getD_cons_zero, List.getD_cons_succ, -List.getD_eq_getElem?_getD, hx_zero, hxK_zero]
    first | refine hK _ ?_ | refine ⟨Cond.mk (by first | omega | (simp [-List.getD_eq_getElem?_getD]; done) | (simp [-List.getD_eq_getElem?_getD]; omega) | (simp [-List.getD_eq_getElem?_getD]; repeat (first | intro _ | exact And.intro ‹_› ‹_› | apply And.intro | assumption | omega | exact decide_eq_true (by assumption)))), hK _ ?_⟩
    clear K hK
    refine awpS_ret ?_
    refine RetOK_of ?_
    simp [hG, List.getD_cons_zero, List.getD_cons_succ, -List.getD_eq_getElem?_getD, hx_zero, hxK_zero]
    have hN : hiN g n = 1 := (by unfold hiN; rw [if_pos hb14]); rw [hi_no hN (by omega), hN]; simp
  ·
    try simp [-List.getD_eq_getElem?_getD] at hb14
    have hv : gcheck g = 0 := (by simpa using hb14)
    have hz := (gcheck_valid hv).1
    have hed := hz.ed
    refine awpS_skip ?_
    refine awpS_seq ?_
    refine awpS_seq ?_
    refine awpS_reg T_ok fun K hK => ?_
    simp [hG, List.getD_cons_zero, List.getD_cons_succ, -List.getD_eq_getElem?_getD, hx_zero, hxK_zero]
    first | refine hK _ ?_ | refine ⟨Cond.mk (by first | omega | (simp [-List.getD_eq_getElem?_getD]; done) | (simp [-List.getD_eq_getElem?_getD]; omega) | (simp [-List.getD_eq_getElem?_getD]; repeat (first | intro _ | exact And.intro ‹_› ‹_› | apply And.intro | assumption | omega | exact decide_eq_true (by assumption)))), hK _ ?_⟩
    clear K hK
    refine awpS_cond rfl (fun hb21 => ?_) (fun hb21 => ?_)
    ·
      try simp [-List.getD_eq_getElem?_getD] at hb21
      refine awpS_seq ?_
      refine awpS_reg T_ok fun K hK => ?_
      simp [hG, List.getD_cons_zero, List.getD_cons_succ, -List.getD_eq_getElem?_getD, hx_zero, hxK_zero]
      first | refine hK _ ?_ | refine ⟨Cond.mk (by first | omega | (simp [-List.getD_eq_getElem?_getD]; done) | (simp [-List.getD_eq_getElem?_getD]; omega) | (simp [-List.getD_eq_getElem?_getD]; repeat (first | intro _ | exact And.intro ‹_› ‹_› | apply And.intro | assumption | omega | exact decide_eq_true (by assumption)))), hK _ ?_⟩
      clear K hK
      refine awpS_ret ?_
      refine RetOK_of ?_
      simp [hG, List.getD_cons_zero, List.getD_cons_succ, -List.getD_eq_getElem?_getD, hx_zero, hxK_zero]
      have hN : hiN g n = 2 := (by unfold hiN; rw [if_neg (by omega), if_pos (by omega)]); rw [hi_no hN (by omega), hN]; simp
    ·
      try simp [-List.getD_eq_getElem?_getD] at hb21
      refine awpS_skip ?_
      refine awpS_seq ?_
      refine awpS_seq ?_
      refine awpS_reg T_ok fun K hK => ?_
      simp [hG, List.getD_cons_zero, List.getD_cons_succ, -List.getD_eq_getElem?_getD, hx_zero, hxK_zero]
      first | refine hK _ ?_ | refine ⟨Cond.mk (by first | omega | (simp [-List.getD_eq_getElem?_getD]; done) | (simp [-List.getD_eq_getElem?_getD]; omega) | (simp [-List.getD_eq_getElem?_getD]; repeat (first | intro _ | exact And.intro ‹_› ‹_› | apply And.intro | assumption | omega | exact decide_eq_true (by assumption)))), hK _ ?_⟩
      clear K hK
      refine awpS_cond rfl (fun hb24 => ?_) (fun hb24 => ?_)
      ·
        try simp [-List.getD_eq_getElem?_getD] at hb24
        refine awpS_seq ?_
        refine awpS_reg T_ok fun K hK => ?_
        simp [hG, List.getD_cons_zero, List.getD_cons_succ, -List.getD_eq_getElem?_getD, hx_zero, hxK_zero]
        first | refine hK _ ?_ | refine ⟨Cond.mk (by first | omega | (simp [-List.getD_eq_getElem?_getD]; done) | (simp [-List.getD_eq_getElem?_getD]; omega) | (simp [-List.getD_eq_getElem?_getD]; repeat (first | intro _ | exact And.intro ‹_› ‹_› | apply And.intro | assumption | omega | exact decide_eq_true (by assumption)))), hK _ ?_⟩
        clear K hK
        refine awpS_ret ?_
        refine RetOK_of ?_
        simp [hG, List.getD_cons_zero, List.getD_cons_succ, -List.getD_eq_getElem?_getD, hx_zero, hxK_zero]
        obtain rfl : n = 0 := (by omega); have hN : hiN g 0 = 0 := (by unfold hiN; rw [if_neg (by omega), if_neg (by omega), if_pos rfl]); have hX : hiX g 0 = g := (by unfold hiX; rw [if_neg (by omega), if_pos rfl]); rw [hX, hN]; simp
      ·
        try simp [-List.getD_eq_getElem?_getD] at hb24
        refine awpS_skip ?_
        refine awpS_seq ?_
        refine awpS_regL ?_
        refine awpL_reg T_ok 2 fun K hK => ?_
        simp [hG, List.getD_cons_zero, List.getD_cons_succ, -List.getD_eq_getElem?_getD, hx_zero, hxK_zero]
        first | refine hK _ ?_ | refine ⟨Cond.mk (by first | omega | (simp [-List.getD_eq_getElem?_getD]; done) | (simp [-List.getD_eq_getElem?_getD]; omega) | (simp [-List.getD_eq_getElem?_getD]; repeat (first | intro _ | exact And.intro ‹_› ‹_› | apply And.intro | assumption | omega | exact decide_eq_true (by assumption)))), hK _ ?_⟩
        clear K hK
        refine awpL_call cal48 rfl rfl (fun _ => rfl) (fun hg => pathsR_c g n hv (by omega)) (fun hg => ?_) (fun hg => ?_) fun K hK => ?_
        · simp [hG, List.getD_cons_zero, List.getD_cons_succ, -List.getD_eq_getElem?_getD, hx_zero, hxK_zero]
        · simp [hG, List.getD_cons_zero, List.getD_cons_succ, -List.getD_eq_getElem?_getD, hx_zero, hxK_zero]
        simp [hG, List.getD_cons_zero, List.getD_cons_succ, -List.getD_eq_getElem?_getD, hx_zero, hxK_zero]
        refine hK _ ?_
        clear K hK
        refine awpL_reg T_ok 5 fun K hK => ?_
        simp [hG, List.getD_cons_zero, List.getD_cons_succ, -List.getD_eq_getElem?_getD, hx_zero, hxK_zero]
        first | refine hK _ ?_ | refine ⟨Cond.mk (by first | omega | (simp [-List.getD_eq_getElem?_getD]; done) | (simp [-List.getD_eq_getElem?_getD]; omega) | (simp [-List.getD_eq_getElem?_getD]; repeat (first | intro _ | exact And.intro ‹_› ‹_› | apply And.intro | assumption | omega | exact decide_eq_true (by assumption)))), hK _ ?_⟩
        clear K hK
        refine awpL_nil ?_
        refine awpS_seq ?_
        refine awpS_seq ?_
        refine awpS_reg T_ok fun K hK => ?_
        simp [hG, List.getD_cons_zero, List.getD_cons_succ, -List.getD_eq_getElem?_getD, hx_zero, hxK_zero]
        first | refine hK _ ?_ | refine ⟨Cond.mk (by first | omega | (simp [-List.getD_eq_getElem?_getD]; done) | (simp [-List.getD_eq_getElem?_getD]; omega) | (simp [-List.getD_eq_getElem?_getD]; repeat (first | intro _ | exact And.intro ‹_› ‹_› | apply And.intro | assumption | omega | exact decide_eq_true (by assumption)))), hK _ ?_⟩
        clear K hK
        refine awpS_cond rfl (fun hb33 => ?_) (fun hb33 => ?_)
        ·
          try simp [-List.getD_eq_getElem?_getD] at hb33
          refine awpS_seq ?_
          refine awpS_reg T_ok fun K hK => ?_
          simp [hG, List.getD_cons_zero, List.getD_cons_succ, -List.getD_eq_getElem?_getD, hx_zero, hxK_zero]
          first | refine hK _ ?_ | refine ⟨Cond.mk (by first | omega | (simp [-List.getD_eq_getElem?_getD]; done) | (simp [-List.getD_eq_getElem?_getD]; omega) | (simp [-List.getD_eq_getElem?_getD]; repeat (first | intro _ | exact And.intro ‹_› ‹_› | apply And.intro | assumption | omega | exact decide_eq_true (by assumption)))), hK _ ?_⟩
          clear K hK
          refine awpS_ret ?_
          refine RetOK_of ?_
          simp [hG, List.getD_cons_zero, List.getD_cons_succ, -List.getD_eq_getElem?_getD, hx_zero, hxK_zero]
          have hN : hiN g n = 4 := (by unfold hiN; rw [if_neg (by omega), if_neg (by omega), if_neg (by omega), if_pos (by simpa using hb33)]); rw [hi_no hN (by omega), hN]; simp
        ·
          try simp [-List.getD_eq_getElem?_getD] at hb33
          have hbad : hiBad g n.toNat = false := (by simpa using hb33)
          obtain ⟨K, hK⟩ : ∃ K, n.toNat = K + 1 := ⟨n.toNat - 1, by omega⟩
          have hpl : (pth g K).length ≤ 64 := Nat.le_of_not_lt fun h => by have := hi_bad (g := g) (n := n.toNat) (k := K) (by omega) h; rw [hbad] at this; cases this
          have hKn : n.toNat - 1 = K := (by omega)
          refine awpS_skip ?_
          refine awpS_seq ?_
          refine awpS_wk (st2 := ⟨[(1, .int .i64 n), (2, .ptr (0, 0) 0 0), (4, .ptr (1, 0) 0 0), (6, rowsI (pth g K))], [(0, .one (.arr 1 3 (fun _ => grF g))), (1, .one (.arr 1 3 (fun _ j => [.int .i64 0, .int .i64 0, .nils].getD j .any)))], 2⟩) ?_ ?_
          ·
            refine wk_of (id) (fun _ => false) (fun _ => false) ?_ ?_ rfl (Nat.zero_le _) (fun k hk => absurd hk (Nat.not_lt_zero _))
            · simp [hG, List.getD_cons_zero, List.getD_cons_succ, -List.getD_eq_getElem?_getD]; rw [hbad, hKn]; simp
            · simp [hG, List.getD_cons_zero, List.getD_cons_succ, -List.getD_eq_getElem?_getD, hx_zero, hxK_zero]
          refine awpS_reg T_ok fun K hK => ?_
          simp [hG, List.getD_cons_zero, List.getD_cons_succ, -List.getD_eq_getElem?_getD, hx_zero, hxK_zero]
          first | refine hK _ ?_ | refine ⟨Cond.mk (by first | omega | (simp [-List.getD_eq_getElem?_getD]; done) | (simp [-List.getD_eq_getElem?_getD]; omega) | (simp [-List.getD_eq_getElem?_getD]; repeat (first | intro _ | exact And.intro ‹_› ‹_› | apply And.intro | assumption | omega | exact decide_eq_true (by assumption)))), hK _ ?_⟩
          clear K hK
          refine awpS_seq ?_
          refine awpS_seq ?_
          refine awpS_reg T_ok fun K hK => ?_
          simp [hG, List.getD_cons_zero, List.getD_cons_succ, -List.getD_eq_getElem?_getD, hx_zero, hxK_zero]
          first | refine hK _ ?_ | refine ⟨Cond.mk (by first | omega | (simp [-List.getD_eq_getElem?_getD]; done) | (simp [-List.getD_eq_getElem?_getD]; omega) | (simp [-List.getD_eq_getElem?_getD]; repeat (first | intro _ | exact And.intro ‹_› ‹_› | apply And.intro | assumption | omega | exact decide_eq_true (by assumption)))), hK _ ?_⟩
          clear K hK
          refine awpS_block ?_
          refine awpS_loop (α := Nat) (fun i => ⟨[(1, .int .i64 n), (2, .ptr (0, 0) 0 0), (4, .ptr (1, 0) 0 0), (6, rowsI (pth g K)), (8, .sl (2, 0) 0 (hxAt g K i 0).length), (9, .int .i64 i)], [(0, .one (.arr 1 3 (fun _ => grF g))), (1, .one (.arr 1 3 (fun _ j => [.int .i64 0, .int .i64 0, .nils].getD j .any))), (2, .one (.arr (hxAt g K i 0).length 3 (fun q j => edgeF ((hxAt g K i 0).getD q de) j)))], 3⟩) (fun i => i ≤ (pth g K).length) (fun i => (pth g K).length - i) (0) (Nat.zero_le _) ?_ ?_
          ·
            refine wk_of (id) (fun _ => false) (fun _ => false) ?_ ?_ rfl (Nat.zero_le _) (fun k hk => absurd hk (Nat.not_lt_zero _))
            · simp [hG, List.getD_cons_zero, List.getD_cons_succ, -List.getD_eq_getElem?_getD, hx_zero, hxK_zero]
            · simp [hG, List.getD_cons_zero, List.getD_cons_succ, -List.getD_eq_getElem?_getD, hx_zero, hxK_zero]
          ·
            rintro i hi
            refine awpS_seq ?_
            refine awpS_seq ?_
            refine awpS_reg T_ok fun K hK => ?_
            simp [hG, List.getD_cons_zero, List.getD_cons_succ, -List.getD_eq_getElem?_getD, hx_zero, hxK_zero]
            first | refine hK _ ?_ | refine ⟨Cond.mk (by first | omega | (simp [-List.getD_eq_getElem?_getD]; done) | (simp [-List.getD_eq_getElem?_getD]; omega) | (simp [-List.getD_eq_getElem?_getD]; repeat (first | intro _ | exact And.intro ‹_› ‹_› | apply And.intro | assumption | omega | exact decide_eq_true (by assumption)))), hK _ ?_⟩
            clear K hK
            refine awpS_cond rfl (fun hb39 => ?_) (fun hb39 => ?_)
            ·
              try simp [-List.getD_eq_getElem?_getD] at hb39
              have hil : i < (pth g K).length := (by omega)
              have hrw := pth_row (getD_mem (d := []) hil)
              have hla := last_at hrw
              refine awpS_skip ?_
              refine awpS_seq ?_
              refine awpS_block ?_
              refine awpS_seq ?_
              refine awpS_reg T_ok fun K hK => ?_
              simp [hG, List.getD_cons_zero, List.getD_cons_succ, -List.getD_eq_getElem?_getD, hx_zero, hxK_zero]
              first | refine hK _ ?_ | refine ⟨Cond.mk (by first | omega | (simp [-List.getD_eq_getElem?_getD]; done) | (simp [-List.getD_eq_getElem?_getD]; omega) | (simp [-List.getD_eq_getElem?_getD]; repeat (first | intro _ | exact And.intro ‹_› ‹_› | apply And.intro | assumption | omega | exact decide_eq_true (by assumption)))), hK _ ?_⟩
              clear K hK
              refine awpS_block ?_
              refine awpS_loop (α := Nat) (fun m => ⟨[(1, .int .i64 n), (2, .ptr (0, 0) 0 0), (4, .ptr (1, 0) 0 0), (6, rowsI (pth g K)), (8, .sl (2, 0) 0 (hxAt g K i m).length), (9, .int .i64 i), (10, .int .i64 m)], [(0, .one (.arr 1 3 (fun _ => grF g))), (1, .one (.arr 1 3 (fun _ j => [.int .i64 0, .int .i64 0, .nils].getD j .any))), (2, .one (.arr (hxAt g K i m).length 3 (fun q j => edgeF ((hxAt g K i m).getD q de) j)))], 3⟩) (fun m => m ≤ g.edges.length) (fun m => g.edges.length - m) (0) (Nat.zero_le _) ?_ ?_
              ·
                refine wk_of (id) (fun _ => false) (fun _ => false) ?_ ?_ rfl (Nat.zero_le _) (fun k hk => absurd hk (Nat.not_lt_zero _))
                · simp [hG, List.getD_cons_zero, List.getD_cons_succ, -List.getD_eq_getElem?_getD, hx_zero, hxK_zero]
                · simp [hG, List.getD_cons_zero, List.getD_cons_succ, -List.getD_eq_getElem?_getD, hx_zero, hxK_zero]
              ·
                rintro m hm
                refine awpS_seq ?_
                refine awpS_seq ?_
                refine awpS_reg T_ok fun K hK => ?_
                simp [hG, List.getD_cons_zero, List.getD_cons_succ, -List.getD_eq_getElem?_getD, hx_zero, hxK_zero]
                first | refine hK _ ?_ | refine ⟨Cond.mk (by first | omega | (simp [-List.getD_eq_getElem?_getD]; done) | (simp [-List.getD_eq_getElem?_getD]; omega) | (simp [-List.getD_eq_getElem?_getD]; repeat (first | intro _ | exact And.intro ‹_› ‹_› | apply And.intro | assumption | omega | exact decide_eq_true (by assumption)))), hK _ ?_⟩
                clear K hK
                refine awpS_cond rfl (fun hb46 => ?_) (fun hb46 => ?_)
                ·
                  try simp [-List.getD_eq_getElem?_getD] at hb46
                  have hml : m < g.edges.length := (by omega)
                  have hla2 : 0 ≤ ((pth g K).getD i []).getD (n.toNat - 1) 0 ∧ ((pth g K).getD i []).getD (n.toNat - 1) 0 < g.edges.length := (by rw [hKn]; exact hla.2)
                  have hxl := pthAt_len (g := g) (k := K) (i := i) (m := m) hed hpl (by omega) (by omega)
                  refine awpS_skip ?_
                  refine awpS_seq ?_
                  refine awpS_block ?_
                  refine awpS_seq ?_
                  refine awpS_seq ?_
                  refine awpS_draw hR mixed [] ⟨[], [], []⟩ fun mu0 => ?_
                  refine awpA_tk T_ok [0, 1, 2, 3, 4, 5, 6, 7, 8, 9, 10, 11, 12, 13, 14, 15, 16, 17, 18, 19] [] (fuel := 0) [19, 18, 17, 16, 15, 14, 13, 12, 11, 10, 9, 8, 7, 6, 5, 4, 3, 2, 1, 0] (by decide +kernel) (by decide +kernel) rfl rfl fun K hK => ?_
                  simp [hG, List.getD_cons_zero, List.getD_cons_succ, -List.getD_eq_getElem?_getD, hx_zero, hxK_zero]
                  first | refine hK _ ?_ | refine ⟨Cond.mk (by first | omega | (simp [-List.getD_eq_getElem?_getD]; done) | (simp [-List.getD_eq_getElem?_getD]; omega) | (simp [-List.getD_eq_getElem?_getD]; repeat (first | intro _ | exact And.intro ‹_› ‹_› | apply And.intro | assumption | omega | exact decide_eq_true (by assumption)))), hK _ ?_⟩
                  clear K hK
                  refine awpA_done (by decide +kernel) ?_
                  refine awpS_cond rfl (fun hb68 => ?_) (fun hb68 => ?_)
                  ·
                    try simp [-List.getD_eq_getElem?_getD] at hb68
                    rw [hKn] at hb68
                    have hsk := hx_skip (g := g) (K := K) (i := i) (m := m) (by rw [hla.1]; exact fun h => hb68 h.symm)
                    refine awpS_exit ?_
                    refine blockQ_exit (thenQ_norm ?_)
                    refine awpS_reg T_ok fun K hK => ?_
                    simp [hG, List.getD_cons_zero, List.getD_cons_succ, -List.getD_eq_getElem?_getD, hx_zero, hxK_zero]
                    first | refine hK _ ?_ | refine ⟨Cond.mk (by first | omega | (simp [-List.getD_eq_getElem?_getD]; done) | (simp [-List.getD_eq_getElem?_getD]; omega) | (simp [-List.getD_eq_getElem?_getD]; repeat (first | intro _ | exact And.intro ‹_› ‹_› | apply And.intro | assumption | omega | exact decide_eq_true (by assumption)))), hK _ ?_⟩
                    clear K hK
                    refine awpS_nil ?_
                    refine round_end (m + 1) (by omega) (by omega) ?_
                    refine wk_of (id) (fun _ => false) (fun _ => false) ?_ ?_ rfl (Nat.zero_le _) (fun k hk => absurd hk (Nat.not_lt_zero _))
                    · rw [hsk]; simp [hG, List.getD_cons_zero, List.getD_cons_succ, -List.getD_eq_getElem?_getD]
                    · rw [hsk]; simp [hG, List.getD_cons_zero, List.getD_cons_succ, -List.getD_eq_getElem?_getD]
                  ·
                    try simp [-List.getD_eq_getElem?_getD] at hb68
                    rw [hKn] at hb68
                    have hco : (g.edges.getD (((pth g K).getD i []).getLastD 0).toNat de).to = (g.edges.getD m de).frm := (by rw [hla.1]; exact hb68.symm)
                    refine awpS_skip ?_
                    refine awpS_seq ?_
                    refine awpS_reg T_ok fun K hK => ?_
                    simp [hG, List.getD_cons_zero, List.getD_cons_succ, -List.getD_eq_getElem?_getD, hx_zero, hxK_zero]
                    first | refine hK _ ?_ | refine ⟨Cond.mk (by first | omega | (simp [-List.getD_eq_getElem?_getD]; done) | (simp [-List.getD_eq_getElem?_getD]; omega) | (simp [-List.getD_eq_getElem?_getD]; repeat (first | intro _ | exact And.intro ‹_› ‹_› | apply And.intro | assumption | omega | exact decide_eq_true (by assumption)))), hK _ ?_⟩
                    clear K hK
                    refine awpS_block ?_
                    refine awpS_loop (α := Nat) (fun k => ⟨[(1, .int .i64 n), (2, .ptr (0, 0) 0 0), (4, .ptr (1, 0) 0 0), (6, rowsI (pth g K)), (8, .sl (2, 0) 0 (hxKAt g K i m k).length), (9, .int .i64 i), (10, .int .i64 m), (11, .int .i64 k)], [(0, .one (.arr 1 3 (fun _ => grF g))), (1, .one (.arr 1 3 (fun _ j => [.int .i64 0, .int .i64 0, .nils].getD j .any))), (2, .one (.arr (hxKAt g K i m k).length 3 (fun q j => edgeF ((hxKAt g K i m k).getD q de) j)))], 3⟩) (fun k => k ≤ (pth g K).length) (fun k => (pth g K).length - k) (0) (Nat.zero_le _) ?_ ?_
                    ·
                      refine wk_of (id) (fun _ => false) (fun _ => false) ?_ ?_ rfl (Nat.zero_le _) (fun k hk => absurd hk (Nat.not_lt_zero _))
                      · simp [hG, List.getD_cons_zero, List.getD_cons_succ, -List.getD_eq_getElem?_getD, hx_zero, hxK_zero]
                      · simp [hG, List.getD_cons_zero, List.getD_cons_succ, -List.getD_eq_getElem?_getD, hx_zero, hxK_zero]
                    ·
                      rintro k hk
                      refine awpS_seq ?_
                      refine awpS_seq ?_
                      refine awpS_reg T_ok fun K hK => ?_
                      simp [hG, List.getD_cons_zero, List.getD_cons_succ, -List.getD_eq_getElem?_getD, hx_zero, hxK_zero]
                      first | refine hK _ ?_ | refine ⟨Cond.mk (by first | omega | (simp [-List.getD_eq_getElem?_getD]; done) | (simp [-List.getD_eq_getElem?_getD]; omega) | (simp [-List.getD_eq_getElem?_getD]; repeat (first | intro _ | exact And.intro ‹_› ‹_› | apply And.intro | assumption | omega | exact decide_eq_true (by assumption)))), hK _ ?_⟩
                      clear K hK
                      refine awpS_cond rfl (fun hb72 => ?_) (fun hb72 => ?_)
                      ·
                        try simp [-List.getD_eq_getElem?_getD] at hb72
                        have hkl : k < (pth g K).length := (by omega)
                        have hrk := pth_row (getD_mem (d := []) hkl)
                        have hkn := hxK_len (g := g) (K := K) (i := i) (m := m) (k := k)
                        refine awpS_skip ?_
                        refine awpS_seq ?_
                        refine awpS_block ?_
                        refine awpS_seq ?_
                        refine awpS_draw hR mixed [] ⟨[], [], []⟩ fun mu0 => ?_
                        refine awpA_tk T_ok [0, 1, 2, 3, 4, 5, 6, 7, 8] [] (fuel := 1) [8, 7, 6, 5, 4, 3, 2, 1, 0] (by decide +kernel) (by decide +kernel) rfl rfl fun K hK => ?_
                        simp [hG, List.getD_cons_zero, List.getD_cons_succ, -List.getD_eq_getElem?_getD, hx_zero, hxK_zero]
                        first | refine hK _ ?_ | refine ⟨Cond.mk (by first | omega | (simp [-List.getD_eq_getElem?_getD]; done) | (simp [-List.getD_eq_getElem?_getD]; omega) | (simp [-List.getD_eq_getElem?_getD]; repeat (first | intro _ | exact And.intro ‹_› ‹_› | apply And.intro | assumption | omega | exact decide_eq_true (by assumption)))), hK _ ?_⟩
                        clear K hK
                        refine awpA_only (fuel := 0) (i := 9) (by decide +kernel) ?_
                        refine awpO_call cal49 rfl rfl rfl (fun _ => rfl) (fun hg => movesR_c ((pth g K).getD i []) ((pth g K).getD k []) m (by rw [hrw.1, hrk.1]) (by omega)) (fun hg => ?_) (fun hg => ?_) fun K hK => ?_
                        · simp [hG, List.getD_cons_zero, List.getD_cons_succ, -List.getD_eq_getElem?_getD, hx_zero, hxK_zero]
                        · simp [hG, List.getD_cons_zero, List.getD_cons_succ, -List.getD_eq_getElem?_getD, hx_zero, hxK_zero]
                        simp [hG, List.getD_cons_zero, List.getD_cons_succ, -List.getD_eq_getElem?_getD, hx_zero, hxK_zero]
                        refine hK _ ?_
                        clear K hK
                        refine awpA_done (by decide +kernel) ?_
                        refine awpS_cond rfl (fun hb84 => ?_) (fun hb84 => ?_)
                        ·
                          try simp [-List.getD_eq_getElem?_getD] at hb84
                          have hkh := hxK_hit hil hml hco hkl hb84
                          refine awpS_reg T_ok fun K hK => ?_
                          simp [hG, List.getD_cons_zero, List.getD_cons_succ, -List.getD_eq_getElem?_getD, hx_zero, hxK_zero]
                          first | refine hK _ ?_ | refine ⟨Cond.mk (by first | omega | (simp [-List.getD_eq_getElem?_getD]; done) | (simp [-List.getD_eq_getElem?_getD]; omega) | (simp [-List.getD_eq_getElem?_getD]; repeat (first | intro _ | exact And.intro ‹_› ‹_› | apply And.intro | assumption | omega | exact decide_eq_true (by assumption)))), hK _ ?_⟩
                          clear K hK
                          refine awpS_nil ?_
                          refine blockQ_norm (thenQ_norm ?_)
                          refine awpS_reg T_ok fun K hK => ?_
                          simp [hG, List.getD_cons_zero, List.getD_cons_succ, -List.getD_eq_getElem?_getD, hx_zero, hxK_zero]
                          first | refine hK _ ?_ | refine ⟨Cond.mk (by first | omega | (simp [-List.getD_eq_getElem?_getD]; done) | (simp [-List.getD_eq_getElem?_getD]; omega) | (simp [-List.getD_eq_getElem?_getD]; repeat (first | intro _ | exact And.intro ‹_› ‹_› | apply And.intro | assumption | omega | exact decide_eq_true (by assumption)))), hK _ ?_⟩
                          clear K hK
                          refine awpS_nil ?_
                          refine round_end (k + 1) (by omega) (by omega) ?_
                          refine wk_of (fun k => if k = 2 then 4 else k) (fun _ => false) (fun _ => false) ?_ ?_ rfl (Nat.zero_le _) (fun k hk => absurd hk (Nat.not_lt_zero _))
                          · rw [hkh]; simp [hG, List.getD_cons_zero, List.getD_cons_succ, -List.getD_eq_getElem?_getD]
                          · rw [hkh]; simp [hG, List.getD_cons_zero, List.getD_cons_succ, -List.getD_eq_getElem?_getD]; exact fun q hq => app_edge3 (by simpa using hq) (fun j hj => by rcases lt3 hj with rfl | rfl | rfl <;> simp)
                        ·
                          try simp [-List.getD_eq_getElem?_getD] at hb84
                          have hkm := hxK_miss hil hml hco hb84
                          refine awpS_skip ?_
                          refine awpS_nil ?_
                          refine blockQ_norm (thenQ_norm ?_)
                          refine awpS_reg T_ok fun K hK => ?_
                          simp [hG, List.getD_cons_zero, List.getD_cons_succ, -List.getD_eq_getElem?_getD, hx_zero, hxK_zero]
                          first | refine hK _ ?_ | refine ⟨Cond.mk (by first | omega | (simp [-List.getD_eq_getElem?_getD]; done) | (simp [-List.getD_eq_getElem?_getD]; omega) | (simp [-List.getD_eq_getElem?_getD]; repeat (first | intro _ | exact And.intro ‹_› ‹_› | apply And.intro | assumption | omega | exact decide_eq_true (by assumption)))), hK _ ?_⟩
                          clear K hK
                          refine awpS_nil ?_
                          refine round_end (k + 1) (by omega) (by omega) ?_
                          refine wk_of (id) (fun _ => false) (fun _ => false) ?_ ?_ rfl (Nat.zero_le _) (fun k hk => absurd hk (Nat.not_lt_zero _))
                          · rw [hkm]; simp [hG, List.getD_cons_zero, List.getD_cons_succ, -List.getD_eq_getElem?_getD]
                          · rw [hkm]; simp [hG, List.getD_cons_zero, List.getD_cons_succ, -List.getD_eq_getElem?_getD]
                      ·
                        try simp [-List.getD_eq_getElem?_getD] at hb72
                        obtain rfl : k = (pth g K).length := (by omega)
                        have hka := hxK_all hil hml hco
                        refine awpS_exit ?_
                        refine thenQ_exit (thenQ_exit ?_)
                        refine blockQ_exit (thenQ_norm ?_)
                        refine awpS_nil ?_
                        refine blockQ_norm (thenQ_norm ?_)
                        refine awpS_reg T_ok fun K hK => ?_
                        simp [hG, List.getD_cons_zero, List.getD_cons_succ, -List.getD_eq_getElem?_getD, hx_zero, hxK_zero]
                        first | refine hK _ ?_ | refine ⟨Cond.mk (by first | omega | (simp [-List.getD_eq_getElem?_getD]; done) | (simp [-List.getD_eq_getElem?_getD]; omega) | (simp [-List.getD_eq_getElem?_getD]; repeat (first | intro _ | exact And.intro ‹_› ‹_› | apply And.intro | assumption | omega | exact decide_eq_true (by assumption)))), hK _ ?_⟩
                        clear K hK
                        refine awpS_nil ?_
                        refine round_end (m + 1) (by omega) (by omega) ?_
                        refine wk_of (id) (fun _ => false) (fun _ => false) ?_ ?_ rfl (Nat.zero_le _) (fun k hk => absurd hk (Nat.not_lt_zero _))
                        · rw [← hka]; simp [hG, List.getD_cons_zero, List.getD_cons_succ, -List.getD_eq_getElem?_getD]
                        · rw [← hka]; simp [hG, List.getD_cons_zero, List.getD_cons_succ, -List.getD_eq_getElem?_getD]
                ·
                  try simp [-List.getD_eq_getElem?_getD] at hb46
                  obtain rfl : m = g.edges.length := (by omega)
                  have hpn := hx_next (g := g) (K := K) (i := i) hil
                  refine awpS_exit ?_
                  refine thenQ_exit (thenQ_exit ?_)
                  refine blockQ_exit (thenQ_norm ?_)
                  refine awpS_nil ?_
                  refine blockQ_norm (thenQ_norm ?_)
                  refine awpS_reg T_ok fun K hK => ?_
                  simp [hG, List.getD_cons_zero, List.getD_cons_succ, -List.getD_eq_getElem?_getD, hx_zero, hxK_zero]
                  first | refine hK _ ?_ | refine ⟨Cond.mk (by first | omega | (simp [-List.getD_eq_getElem?_getD]; done) | (simp [-List.getD_eq_getElem?_getD]; omega) | (simp [-List.getD_eq_getElem?_getD]; repeat (first | intro _ | exact And.intro ‹_› ‹_› | apply And.intro | assumption | omega | exact decide_eq_true (by assumption)))), hK _ ?_⟩
                  clear K hK
                  refine awpS_nil ?_
                  refine round_end (i + 1) (by omega) (by omega) ?_
                  refine wk_of (id) (fun _ => false) (fun _ => false) ?_ ?_ rfl (Nat.zero_le _) (fun k hk => absurd hk (Nat.not_lt_zero _))
                  · rw [← hpn]; simp [hG, List.getD_cons_zero, List.getD_cons_succ, -List.getD_eq_getElem?_getD]
                  · rw [← hpn]; simp [hG, List.getD_cons_zero, List.getD_cons_succ, -List.getD_eq_getElem?_getD]
            ·
              try simp [-List.getD_eq_getElem?_getD] at hb39
              obtain rfl : i = (pth g K).length := (by omega)
              have hpa := hx_all (g := g) (K := K)
              have hpb := pthAt_len (g := g) (k := K) (i := (pth g K).length) (m := 0) hed hpl hpl (Nat.zero_le _)
              rw [← hx_len, hpa, hi_len] at hpb
              refine awpS_exit ?_
              refine thenQ_exit (thenQ_exit ?_)
              refine blockQ_exit (thenQ_norm ?_)
              refine awpS_seq ?_
              refine awpS_seq ?_
              refine awpS_reg T_ok fun K hK => ?_
              simp [hG, List.getD_cons_zero, List.getD_cons_succ, -List.getD_eq_getElem?_getD, hx_zero, hxK_zero]
              first | refine hK _ ?_ | refine ⟨Cond.mk (by first | omega | (simp [-List.getD_eq_getElem?_getD]; done) | (simp [-List.getD_eq_getElem?_getD]; omega) | (simp [-List.getD_eq_getElem?_getD]; repeat (first | intro _ | exact And.intro ‹_› ‹_› | apply And.intro | assumption | omega | exact decide_eq_true (by assumption)))), hK _ ?_⟩
              clear K hK
              refine awpS_cond rfl (fun hb99 => ?_) (fun hb99 => ?_)
              ·
                try simp [-List.getD_eq_getElem?_getD] at hb99
                refine awpS_seq ?_
                refine awpS_reg T_ok fun K hK => ?_
                simp [hG, List.getD_cons_zero, List.getD_cons_succ, -List.getD_eq_getElem?_getD, hx_zero, hxK_zero]
                first | refine hK _ ?_ | refine ⟨Cond.mk (by first | omega | (simp [-List.getD_eq_getElem?_getD]; done) | (simp [-List.getD_eq_getElem?_getD]; omega) | (simp [-List.getD_eq_getElem?_getD]; repeat (first | intro _ | exact And.intro ‹_› ‹_› | apply And.intro | assumption | omega | exact decide_eq_true (by assumption)))), hK _ ?_⟩
                clear K hK
                refine awpS_ret ?_
                refine RetOK_of ?_
                simp [hG, List.getD_cons_zero, List.getD_cons_succ, -List.getD_eq_getElem?_getD, hx_zero, hxK_zero]
                have hN : hiN g n = 4 := (by unfold hiN; rw [if_neg (by omega), if_neg (by omega), if_neg (by omega), if_neg (by rw [hbad]; simp), if_pos (by rw [hpa, hi_len] at hb99; rw [hK]; omega)]); rw [hi_no hN (by omega), hN]; simp
              ·
                try simp [-List.getD_eq_getElem?_getD] at hb99
                refine awpS_skip ?_
                refine awpS_seq ?_
                refine awpS_wk (st2 := ⟨[(1, .int .i64 n), (2, .ptr (0, 0) 0 0), (4, .ptr (1, 0) 0 0), (6, rowsI (pth g K)), (8, edgesC (hiE g (K + 1)))], [(0, .one (.arr 1 3 (fun _ => grF g))), (1, .one (.arr 1 3 (fun _ j => [.int .i64 0, .int .i64 0, .nils].getD j .any)))], 2⟩) ?_ ?_
                ·
                  refine wk_of (id) (fun k => k == 2) (fun _ => false) ?_ ?_ rfl (Nat.zero_le _) (fun k hk => absurd hk (Nat.not_lt_zero _))
                  · rw [hpa]; simp [hG, List.getD_cons_zero, List.getD_cons_succ, -List.getD_eq_getElem?_getD]
                  · simp [hG, List.getD_cons_zero, List.getD_cons_succ, -List.getD_eq_getElem?_getD, hx_zero, hxK_zero]
                refine awpS_regL ?_
                refine awpL_reg T_ok 5 fun K hK => ?_
                simp [hG, List.getD_cons_zero, List.getD_cons_succ, -List.getD_eq_getElem?_getD, hx_zero, hxK_zero]
                first | refine hK _ ?_ | refine ⟨Cond.mk (by first | omega | (simp [-List.getD_eq_getElem?_getD]; done) | (simp [-List.getD_eq_getElem?_getD]; omega) | (simp [-List.getD_eq_getElem?_getD]; repeat (first | intro _ | exact And.intro ‹_› ‹_› | apply And.intro | assumption | omega | exact decide_eq_true (by assumption)))), hK _ ?_⟩
                clear K hK
                refine awpL_call cal42 rfl rfl (fun _ => rfl) (fun hg => makeR_c g.labels (pth g K).length (hiE g (K + 1)) (by rw [hi_len]; omega)) (fun hg => ?_) (fun hg => ?_) fun K hK => ?_
                · simp [hG, List.getD_cons_zero, List.getD_cons_succ, -List.getD_eq_getElem?_getD, hx_zero, hxK_zero]
                · simp [hG, List.getD_cons_zero, List.getD_cons_succ, -List.getD_eq_getElem?_getD, hx_zero, hxK_zero]
                simp [hG, List.getD_cons_zero, List.getD_cons_succ, -List.getD_eq_getElem?_getD, hx_zero, hxK_zero]
                refine hK _ ?_
                clear K hK
                refine awpL_reg T_ok 4 fun K hK => ?_
                simp [hG, List.getD_cons_zero, List.getD_cons_succ, -List.getD_eq_getElem?_getD, hx_zero, hxK_zero]
                first | refine hK _ ?_ | refine ⟨Cond.mk (by first | omega | (simp [-List.getD_eq_getElem?_getD]; done) | (simp [-List.getD_eq_getElem?_getD]; omega) | (simp [-List.getD_eq_getElem?_getD]; repeat (first | intro _ | exact And.intro ‹_› ‹_› | apply And.intro | assumption | omega | exact decide_eq_true (by assumption)))), hK _ ?_⟩
                clear K hK
                refine awpL_nil ?_
                refine awpS_ret ?_
                refine RetOK_of ?_
                simp [hG, List.getD_cons_zero, List.getD_cons_succ, -List.getD_eq_getElem?_getD, hx_zero, hxK_zero]
                obtain ⟨hN, hX⟩ := hi_mk hv hb21 hb24 hK hbad (by rw [hpa, hi_len] at hb99; omega); rw [hN, hX]; simp

end Go.Proofs.Ytddghlnaocjjkaa
