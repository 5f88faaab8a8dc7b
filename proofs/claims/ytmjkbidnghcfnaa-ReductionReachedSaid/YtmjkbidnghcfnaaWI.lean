/-
  Walks: the reference's Reach.
-/
import Derived.Test.YtmjkbidnghcfnaaWH
namespace Go.Proofs.Ytmjkbidnghcfnaa
set_option linter.unusedSimpArgs false
set_option linter.unusedVariables false
open Go Go.Lift Go.Proofs

/-- what Reach returns. -/
def reachR (e : Enc) (s : Int) : AVal := if checkE e = 0 then (if 0 ≤ s ∧ s < (e.rows.length : Int) then .tup 3 (fun j => [.agg 4 (encF (reachE e s.toNat)), ints (ordE e s.toNat), .int .i64 0].getD j .any)
  else .tup 3 (fun j => [.agg 4 (encF ⟨0, 0, 0, []⟩), .nils, .int .i64 25].getD j .any)) else .tup 3 (fun j => [.agg 4 (encF ⟨0, 0, 0, []⟩), .nils, .int .i64 1].getD j .any)
@[simp] theorem reachE_rows {e : Enc} {s : Nat} : (reachE e s).rows = (ordE e s).map (rrow e (ordE e s)) := rfl
@[simp] theorem reachE_letters {e : Enc} {s : Nat} : (reachE e s).letters = e.letters := rfl
@[simp] theorem reachE_block {e : Enc} {s : Nat} : (reachE e s).block = e.block := rfl
@[simp] theorem reachE_inputs {e : Enc} {s : Nat} : (reachE e s).inputs = e.inputs := rfl
theorem first_row {e : Enc} {s : Int} (h : 0 ≤ s) {w : Nat → AVal} : (ordAt e s.toNat 0).length ≤ 1 ∧ ∀ i, i < (ordAt e s.toNat 0).length → (if i = 0 then AVal.int IntKind.i64 s else w i) = .int .i64 ((ordAt e s.toNat 0).getD i 0) := by
  refine ⟨Nat.le_refl _, fun i hi => ?_⟩
  obtain rfl : i = 0 := by
    have : i < 1 := hi
    omega
  show AVal.int _ s = .int _ ((s.toNat : Nat) : Int)
  rw [Int.toNat_of_nonneg h]
theorem ordRow_new {e : Enc} {L : List Int} {x i : Nat} (h : placeI (ordRow e L x i) (cellAt e x i).to < 0) : ordRow e L x (i + 1) = ordRow e L x i ++ [(cellAt e x i).to] := by
  rw [ordRow_succ]
  exact if_neg fun hm => by have := placeI_mem.2 hm; omega
theorem ordRow_old {e : Enc} {L : List Int} {x i : Nat} (h : 0 ≤ placeI (ordRow e L x i) (cellAt e x i).to) : ordRow e L x (i + 1) = ordRow e L x i := by
  rw [ordRow_succ]
  exact if_pos (placeI_mem.1 h)
theorem app_rowF {H : Heap} {σ : Lift.Id → Lift.Id} {fz : Nat → Bool} {vz : Lift.Id → Bool} {nx : Nat} {F : Nat → List Cell} {m j : Nat} {v : AVal} {w : Nat → Nat → AVal} (hj : j < m + 1) (hv : VLe H σ fz vz nx (cells (F m)) v) :
    VLe H σ fz vz nx (cells (F j)) (app (fun q _ => cells (F q)) m (fun i j => if i = 0 ∧ j = 0 then v else w i j) j 0) := by
  unfold app
  by_cases e : j < m
  · rw [if_pos e]; exact Clo.le _ Clo_cells
  · obtain rfl : j = m := by omega
    rw [if_neg e, Nat.sub_self]; exact hv
theorem map_getD {f : Int → List Cell} {L : List Int} {i : Nat} (h : i < L.length) : (L.map f).getD i [] = f (L.getD i 0) := by
  rw [getD_get (by rw [List.length_map]; exact h), getD_get h, List.getElem_map]
set_option maxRecDepth 100000 in
theorem reachRef_c (e : Enc) (s : Int) : PC Try.prog 20 [.agg 4 (encF e), .int .i64 s] (reachR e s) := by
  refine PC_introS T_ok Try.func20 rfl (by simp [Try.ntmps20]) fun G hG hR => ?_
  simp only [Try.ntmps20, Try.results20] at hG ⊢
  simp only [argEnv, Nat.zero_add, Nat.reduceAdd]
  refine awpS_seq ?_
  refine awpS_reg T_ok fun K hK => ?_
  simp [hG, List.getD_cons_zero, List.getD_cons_succ, -List.getD_eq_getElem?_getD]
  first | refine hK _ ?_ | refine ⟨Cond.mk (by first | omega | (simp [-List.getD_eq_getElem?_getD]; done) | (simp [-List.getD_eq_getElem?_getD]; omega) | (simp [-List.getD_eq_getElem?_getD]; repeat (first | intro _ | exact And.intro ‹_› ‹_› | apply And.intro | assumption | omega | exact decide_eq_true (by assumption)))), hK _ ?_⟩
  clear K hK
  refine awpS_seq ?_
  refine awpS_seq ?_
  refine awpS_regL ?_
  refine awpL_reg T_ok 1 fun K hK => ?_
  simp [hG, List.getD_cons_zero, List.getD_cons_succ, -List.getD_eq_getElem?_getD]
  first | refine hK _ ?_ | refine ⟨Cond.mk (by first | omega | (simp [-List.getD_eq_getElem?_getD]; done) | (simp [-List.getD_eq_getElem?_getD]; omega) | (simp [-List.getD_eq_getElem?_getD]; repeat (first | intro _ | exact And.intro ‹_› ‹_› | apply And.intro | assumption | omega | exact decide_eq_true (by assumption)))), hK _ ?_⟩
  clear K hK
  refine awpL_call cal41 rfl rfl (fun _ => rfl) (fun hg => checkR_c e) (fun hg => ?_) (fun hg => ?_) fun K hK => ?_
  · simp [hG, List.getD_cons_zero, List.getD_cons_succ, -List.getD_eq_getElem?_getD]
  · simp [hG, List.getD_cons_zero, List.getD_cons_succ, -List.getD_eq_getElem?_getD]
  simp [hG, List.getD_cons_zero, List.getD_cons_succ, -List.getD_eq_getElem?_getD]
  refine hK _ ?_
  clear K hK
  refine awpL_reg T_ok 1 fun K hK => ?_
  simp [hG, List.getD_cons_zero, List.getD_cons_succ, -List.getD_eq_getElem?_getD]
  first | refine hK _ ?_ | refine ⟨Cond.mk (by first | omega | (simp [-List.getD_eq_getElem?_getD]; done) | (simp [-List.getD_eq_getElem?_getD]; omega) | (simp [-List.getD_eq_getElem?_getD]; repeat (first | intro _ | exact And.intro ‹_› ‹_› | apply And.intro | assumption | omega | exact decide_eq_true (by assumption)))), hK _ ?_⟩
  clear K hK
  refine awpL_nil ?_
  refine awpS_cond rfl (fun hb18 => ?_) (fun hb18 => ?_)
  ·
    try simp [-List.getD_eq_getElem?_getD] at hb18
    refine awpS_seq ?_
    refine awpS_reg T_ok fun K hK => ?_
    simp [hG, List.getD_cons_zero, List.getD_cons_succ, -List.getD_eq_getElem?_getD]
    first | refine hK _ ?_ | refine ⟨Cond.mk (by first | omega | (simp [-List.getD_eq_getElem?_getD]; done) | (simp [-List.getD_eq_getElem?_getD]; omega) | (simp [-List.getD_eq_getElem?_getD]; repeat (first | intro _ | exact And.intro ‹_› ‹_› | apply And.intro | assumption | omega | exact decide_eq_true (by assumption)))), hK _ ?_⟩
    clear K hK
    refine awpS_ret ?_
    refine RetOK_of ?_
    simp [hG, List.getD_cons_zero, List.getD_cons_succ, -List.getD_eq_getElem?_getD]
    simp [reachR, hb18]
  ·
    try simp [-List.getD_eq_getElem?_getD] at hb18
    have hv : checkE e = 0 := hb18
    have hl64 := rows_len hv
    have hin := (checkE_valid hv).1.inputs
    refine awpS_skip ?_
    refine awpS_seq ?_
    refine awpS_seq ?_
    refine awpS_reg T_ok fun K hK => ?_
    simp [hG, List.getD_cons_zero, List.getD_cons_succ, -List.getD_eq_getElem?_getD]
    first | refine hK _ ?_ | refine ⟨Cond.mk (by first | omega | (simp [-List.getD_eq_getElem?_getD]; done) | (simp [-List.getD_eq_getElem?_getD]; omega) | (simp [-List.getD_eq_getElem?_getD]; repeat (first | intro _ | exact And.intro ‹_› ‹_› | apply And.intro | assumption | omega | exact decide_eq_true (by assumption)))), hK _ ?_⟩
    clear K hK
    refine awpS_cond rfl (fun hb28 => ?_) (fun hb28 => ?_)
    ·
      try simp [-List.getD_eq_getElem?_getD] at hb28
      refine awpS_seq ?_
      refine awpS_reg T_ok fun K hK => ?_
      simp [hG, List.getD_cons_zero, List.getD_cons_succ, -List.getD_eq_getElem?_getD]
      first | refine hK _ ?_ | refine ⟨Cond.mk (by first | omega | (simp [-List.getD_eq_getElem?_getD]; done) | (simp [-List.getD_eq_getElem?_getD]; omega) | (simp [-List.getD_eq_getElem?_getD]; repeat (first | intro _ | exact And.intro ‹_› ‹_› | apply And.intro | assumption | omega | exact decide_eq_true (by assumption)))), hK _ ?_⟩
      clear K hK
      refine awpS_ret ?_
      refine RetOK_of ?_
      simp [hG, List.getD_cons_zero, List.getD_cons_succ, -List.getD_eq_getElem?_getD]
      rw [reachR, if_pos hv, if_neg (by omega)]; simp
    ·
      try simp [-List.getD_eq_getElem?_getD] at hb28
      have hs0 : 0 ≤ s ∧ s < (e.rows.length : Int) := (by omega)
      have hsl : s.toNat < e.rows.length := (by omega)
      refine awpS_skip ?_
      refine awpS_seq ?_
      refine awpS_reg T_ok fun K hK => ?_
      simp [hG, List.getD_cons_zero, List.getD_cons_succ, -List.getD_eq_getElem?_getD]
      first | refine hK _ ?_ | refine ⟨Cond.mk (by first | omega | (simp [-List.getD_eq_getElem?_getD]; done) | (simp [-List.getD_eq_getElem?_getD]; omega) | (simp [-List.getD_eq_getElem?_getD]; repeat (first | intro _ | exact And.intro ‹_› ‹_› | apply And.intro | assumption | omega | exact decide_eq_true (by assumption)))), hK _ ?_⟩
      clear K hK
      refine awpS_seq ?_
      refine awpS_seq ?_
      refine awpS_reg T_ok fun K hK => ?_
      simp [hG, List.getD_cons_zero, List.getD_cons_succ, -List.getD_eq_getElem?_getD]
      first | refine hK _ ?_ | refine ⟨Cond.mk (by first | omega | (simp [-List.getD_eq_getElem?_getD]; done) | (simp [-List.getD_eq_getElem?_getD]; omega) | (simp [-List.getD_eq_getElem?_getD]; repeat (first | intro _ | exact And.intro ‹_› ‹_› | apply And.intro | assumption | omega | exact decide_eq_true (by assumption)))), hK _ ?_⟩
      clear K hK
      refine awpS_block ?_
      refine awpS_loop (α := Nat) (fun k => ⟨[(1, .int .i64 s), (2, .ptr (0, 0) 0 0), (4, .ptr (1, 0) 0 0), (7, .sl (2, 0) 0 (ordAt e s.toNat k).length), (8, .int .i64 k)], [(0, .one (.arr 1 4 (fun _ => encF e))), (1, .one (.arr 1 4 (fun _ m => [AVal.int IntKind.i64 0, AVal.int IntKind.i64 0, AVal.int IntKind.i64 0, AVal.nils].getD m AVal.any))), (2, .one (.arr (ordAt e s.toNat k).length 1 (fun j _ => .int .i64 ((ordAt e s.toNat k).getD j 0))))], 3⟩) (fun k => k ≤ (ordAt e s.toNat k).length) (fun k => e.rows.length - k) (0) (Nat.zero_le _) ?_ ?_
      ·
        refine wk_of (id) (fun _ => false) (fun _ => false) ?_ ?_ rfl (Nat.zero_le _) (fun k hk => absurd hk (Nat.not_lt_zero _))
        · simp [hG, List.getD_cons_zero, List.getD_cons_succ, -List.getD_eq_getElem?_getD]; rfl
        · simp [hG, List.getD_cons_zero, List.getD_cons_succ, -List.getD_eq_getElem?_getD]; exact first_row hs0.1
      ·
        rintro k hk
        have hol := (ordAt_ok hv hsl k).len
        refine awpS_seq ?_
        refine awpS_seq ?_
        refine awpS_reg T_ok fun K hK => ?_
        simp [hG, List.getD_cons_zero, List.getD_cons_succ, -List.getD_eq_getElem?_getD]
        first | refine hK _ ?_ | refine ⟨Cond.mk (by first | omega | (simp [-List.getD_eq_getElem?_getD]; done) | (simp [-List.getD_eq_getElem?_getD]; omega) | (simp [-List.getD_eq_getElem?_getD]; repeat (first | intro _ | exact And.intro ‹_› ‹_› | apply And.intro | assumption | omega | exact decide_eq_true (by assumption)))), hK _ ?_⟩
        clear K hK
        refine awpS_cond rfl (fun hb35 => ?_) (fun hb35 => ?_)
        ·
          try simp [-List.getD_eq_getElem?_getD] at hb35
          have hxk := (ordAt_ok hv hsl k).lt _ (getD_mem (d := 0) (show k < (ordAt e s.toNat k).length by omega))
          refine awpS_skip ?_
          refine awpS_seq ?_
          refine awpS_block ?_
          refine awpS_seq ?_
          refine awpS_reg T_ok fun K hK => ?_
          simp [hG, List.getD_cons_zero, List.getD_cons_succ, -List.getD_eq_getElem?_getD]
          first | refine hK _ ?_ | refine ⟨Cond.mk (by first | omega | (simp [-List.getD_eq_getElem?_getD]; done) | (simp [-List.getD_eq_getElem?_getD]; omega) | (simp [-List.getD_eq_getElem?_getD]; repeat (first | intro _ | exact And.intro ‹_› ‹_› | apply And.intro | assumption | omega | exact decide_eq_true (by assumption)))), hK _ ?_⟩
          clear K hK
          refine awpS_block ?_
          refine awpS_loop (α := Nat) (fun i => ⟨[(1, .int .i64 s), (2, .ptr (0, 0) 0 0), (4, .ptr (1, 0) 0 0), (7, .sl (2, 0) 0 (ordRow e (ordAt e s.toNat k) ((ordAt e s.toNat k).getD k 0).toNat i).length), (8, .int .i64 k), (9, .int .i64 i)], [(0, .one (.arr 1 4 (fun _ => encF e))), (1, .one (.arr 1 4 (fun _ m => [AVal.int IntKind.i64 0, AVal.int IntKind.i64 0, AVal.int IntKind.i64 0, AVal.nils].getD m AVal.any))), (2, .one (.arr (ordRow e (ordAt e s.toNat k) ((ordAt e s.toNat k).getD k 0).toNat i).length 1 (fun j _ => .int .i64 ((ordRow e (ordAt e s.toNat k) ((ordAt e s.toNat k).getD k 0).toNat i).getD j 0))))], 3⟩) (fun i => i ≤ e.inputs.toNat) (fun i => e.inputs.toNat - i) (0) (Nat.zero_le _) ?_ ?_
          ·
            refine wk_of (id) (fun _ => false) (fun _ => false) ?_ ?_ rfl (Nat.zero_le _) (fun k hk => absurd hk (Nat.not_lt_zero _))
            · simp [hG, List.getD_cons_zero, List.getD_cons_succ, -List.getD_eq_getElem?_getD]
            · simp [hG, List.getD_cons_zero, List.getD_cons_succ, -List.getD_eq_getElem?_getD]
          ·
            rintro i hi
            have hor := (ordRow_ok hv (x := ((ordAt e s.toNat k).getD k 0).toNat) (by omega) (ordAt_ok hv hsl k) i hi)
            have horl := hor.len
            have hkl := (ordRow_pre (e := e) (L := ordAt e s.toNat k) (x := ((ordAt e s.toNat k).getD k 0).toNat) i).length_le
            refine awpS_seq ?_
            refine awpS_seq ?_
            refine awpS_reg T_ok fun K hK => ?_
            simp [hG, List.getD_cons_zero, List.getD_cons_succ, -List.getD_eq_getElem?_getD]
            first | refine hK _ ?_ | refine ⟨Cond.mk (by first | omega | (simp [-List.getD_eq_getElem?_getD]; done) | (simp [-List.getD_eq_getElem?_getD]; omega) | (simp [-List.getD_eq_getElem?_getD]; repeat (first | intro _ | exact And.intro ‹_› ‹_› | apply And.intro | assumption | omega | exact decide_eq_true (by assumption)))), hK _ ?_⟩
            clear K hK
            refine awpS_cond rfl (fun hb41 => ?_) (fun hb41 => ?_)
            ·
              try simp [-List.getD_eq_getElem?_getD] at hb41
              have hri := row_i hv (s := ((ordAt e s.toNat k).getD k 0).toNat) (by omega) (i := i) (by omega)
              have hto := cell_to hv (s := ((ordAt e s.toNat k).getD k 0).toNat) (by omega) hri
              have hgt : (ordRow e (ordAt e s.toNat k) ((ordAt e s.toNat k).getD k 0).toNat i).getD k 0 = (ordAt e s.toNat k).getD k 0 := pre_getD (ordRow_pre i) (by omega)
              refine awpS_skip ?_
              refine awpS_seq ?_
              refine awpS_block ?_
              refine awpS_seq ?_
              refine awpS_draw hR mixed [] ⟨[], [], []⟩ fun mu0 => ?_
              refine awpA_tk T_ok [0, 1, 2, 3, 4, 5, 6, 7, 8, 9, 10, 11, 12] [] (fuel := 0) [12, 11, 10, 9, 8, 7, 6, 5, 4, 3, 2, 1, 0] (by decide +kernel) (by decide +kernel) rfl rfl fun K hK => ?_
              simp [hG, List.getD_cons_zero, List.getD_cons_succ, -List.getD_eq_getElem?_getD]
              first | refine hK _ ?_ | refine ⟨Cond.mk (by rw [hgt]; exact ⟨by omega, hxk, hri⟩), hK _ ?_⟩
              clear K hK
              refine awpA_done (by decide +kernel) ?_
              refine awpS_seq ?_
              refine awpS_regL ?_
              refine awpL_reg T_ok 2 fun K hK => ?_
              simp [hG, List.getD_cons_zero, List.getD_cons_succ, -List.getD_eq_getElem?_getD]
              first | refine hK _ ?_ | refine ⟨Cond.mk (by first | omega | (simp [-List.getD_eq_getElem?_getD]; done) | (simp [-List.getD_eq_getElem?_getD]; omega) | (simp [-List.getD_eq_getElem?_getD]; repeat (first | intro _ | exact And.intro ‹_› ‹_› | apply And.intro | assumption | omega | exact decide_eq_true (by assumption)))), hK _ ?_⟩
              clear K hK
              refine awpL_callB (mem [2]) cal44 (by simp [flat]) rfl rfl (fun _ => rfl) (fun hg => place_c (ordRow e (ordAt e s.toNat k) ((ordAt e s.toNat k).getD k 0).toNat i) (cellAt e ((ordAt e s.toNat k).getD k 0).toNat i).to (by omega)) (fun hg => ?_) (fun hg => ?_) fun K hK => ?_
              · simp [hG, List.getD_cons_zero, List.getD_cons_succ, -List.getD_eq_getElem?_getD]
              · simp [hG, List.getD_cons_zero, List.getD_cons_succ, -List.getD_eq_getElem?_getD]; rw [hgt]; rfl
              simp [hG, List.getD_cons_zero, List.getD_cons_succ, -List.getD_eq_getElem?_getD]
              refine hK _ ?_
              clear K hK
              refine awpL_reg T_ok 1 fun K hK => ?_
              simp [hG, List.getD_cons_zero, List.getD_cons_succ, -List.getD_eq_getElem?_getD]
              first | refine hK _ ?_ | refine ⟨Cond.mk (by first | omega | (simp [-List.getD_eq_getElem?_getD]; done) | (simp [-List.getD_eq_getElem?_getD]; omega) | (simp [-List.getD_eq_getElem?_getD]; repeat (first | intro _ | exact And.intro ‹_› ‹_› | apply And.intro | assumption | omega | exact decide_eq_true (by assumption)))), hK _ ?_⟩
              clear K hK
              refine awpL_nil ?_
              refine awpS_cond rfl (fun hb59 => ?_) (fun hb59 => ?_)
              ·
                try simp [-List.getD_eq_getElem?_getD] at hb59
                have hE := ordRow_new hb59
                refine awpS_reg T_ok fun K hK => ?_
                simp [hG, List.getD_cons_zero, List.getD_cons_succ, -List.getD_eq_getElem?_getD]
                first | refine hK _ ?_ | refine ⟨Cond.mk (by first | omega | (simp [-List.getD_eq_getElem?_getD]; done) | (simp [-List.getD_eq_getElem?_getD]; omega) | (simp [-List.getD_eq_getElem?_getD]; repeat (first | intro _ | exact And.intro ‹_› ‹_› | apply And.intro | assumption | omega | exact decide_eq_true (by assumption)))), hK _ ?_⟩
                clear K hK
                refine awpS_nil ?_
                refine blockQ_norm (thenQ_norm ?_)
                refine awpS_reg T_ok fun K hK => ?_
                simp [hG, List.getD_cons_zero, List.getD_cons_succ, -List.getD_eq_getElem?_getD]
                first | refine hK _ ?_ | refine ⟨Cond.mk (by first | omega | (simp [-List.getD_eq_getElem?_getD]; done) | (simp [-List.getD_eq_getElem?_getD]; omega) | (simp [-List.getD_eq_getElem?_getD]; repeat (first | intro _ | exact And.intro ‹_› ‹_› | apply And.intro | assumption | omega | exact decide_eq_true (by assumption)))), hK _ ?_⟩
                clear K hK
                refine awpS_nil ?_
                refine round_end (i + 1) (by omega) (by omega) ?_
                refine wk_of (fun k => if k = 2 then 4 else k) (fun _ => false) (fun _ => false) ?_ ?_ rfl (Nat.zero_le _) (fun k hk => absurd hk (Nat.not_lt_zero _))
                · simp [hG, hE, -List.getD_eq_getElem?_getD]
                · simp [hG, hE, List.getD_cons_zero, List.getD_cons_succ, -List.getD_eq_getElem?_getD]; exact fun q hq => by rw [hgt]; exact app_one hq
              ·
                try simp [-List.getD_eq_getElem?_getD] at hb59
                have hE := ordRow_old hb59
                refine awpS_skip ?_
                refine awpS_nil ?_
                refine blockQ_norm (thenQ_norm ?_)
                refine awpS_reg T_ok fun K hK => ?_
                simp [hG, List.getD_cons_zero, List.getD_cons_succ, -List.getD_eq_getElem?_getD]
                first | refine hK _ ?_ | refine ⟨Cond.mk (by first | omega | (simp [-List.getD_eq_getElem?_getD]; done) | (simp [-List.getD_eq_getElem?_getD]; omega) | (simp [-List.getD_eq_getElem?_getD]; repeat (first | intro _ | exact And.intro ‹_› ‹_› | apply And.intro | assumption | omega | exact decide_eq_true (by assumption)))), hK _ ?_⟩
                clear K hK
                refine awpS_nil ?_
                refine round_end (i + 1) (by omega) (by omega) ?_
                refine wk_of (id) (fun _ => false) (fun _ => false) ?_ ?_ rfl (Nat.zero_le _) (fun k hk => absurd hk (Nat.not_lt_zero _))
                · simp [hG, hE, -List.getD_eq_getElem?_getD]
                · simp [hG, hE, List.getD_cons_zero, List.getD_cons_succ, -List.getD_eq_getElem?_getD]
            ·
              try simp [-List.getD_eq_getElem?_getD] at hb41
              obtain rfl : i = e.inputs.toNat := (by omega)
              have hE : ordAt e s.toNat (k + 1) = ordRow e (ordAt e s.toNat k) ((ordAt e s.toNat k).getD k 0).toNat e.inputs.toNat := if_pos (by omega)
              refine awpS_exit ?_
              refine thenQ_exit (thenQ_exit ?_)
              refine blockQ_exit (thenQ_norm ?_)
              refine awpS_nil ?_
              refine blockQ_norm (thenQ_norm ?_)
              refine awpS_reg T_ok fun K hK => ?_
              simp [hG, List.getD_cons_zero, List.getD_cons_succ, -List.getD_eq_getElem?_getD]
              first | refine hK _ ?_ | refine ⟨Cond.mk (by first | omega | (simp [-List.getD_eq_getElem?_getD]; done) | (simp [-List.getD_eq_getElem?_getD]; omega) | (simp [-List.getD_eq_getElem?_getD]; repeat (first | intro _ | exact And.intro ‹_› ‹_› | apply And.intro | assumption | omega | exact decide_eq_true (by assumption)))), hK _ ?_⟩
              clear K hK
              refine awpS_nil ?_
              refine round_end (k + 1) (by rw [hE]; have := (ordRow_pre (e := e) (L := ordAt e s.toNat k) (x := ((ordAt e s.toNat k).getD k 0).toNat) e.inputs.toNat).length_le; omega) (by omega) ?_
              refine wk_of (id) (fun _ => false) (fun _ => false) ?_ ?_ rfl (Nat.zero_le _) (fun k hk => absurd hk (Nat.not_lt_zero _))
              · simp [hG, hE, -List.getD_eq_getElem?_getD]
              · simp [hG, hE, List.getD_cons_zero, List.getD_cons_succ, -List.getD_eq_getElem?_getD]
        ·
          try simp [-List.getD_eq_getElem?_getD] at hb35
          have hen : ordE e s.toNat = ordAt e s.toNat k := ordAt_end (by omega) (by omega)
          have hoe := ordE_ok hv hsl
          have hoel := hoe.len
          refine awpS_exit ?_
          refine thenQ_exit (thenQ_exit ?_)
          refine blockQ_exit (thenQ_norm ?_)
          refine awpS_seq ?_
          refine awpS_wk (st2 := ⟨[(1, .int .i64 s), (2, .ptr (0, 0) 0 0), (4, .ptr (1, 0) 0 0), (7, ints (ordE e s.toNat))], [(0, .one (.arr 1 4 (fun _ => encF e))), (1, .one (.arr 1 4 (fun _ m => [AVal.int IntKind.i64 0, AVal.int IntKind.i64 0, AVal.int IntKind.i64 0, AVal.nils].getD m AVal.any)))], 2⟩) ?_ ?_
          ·
            refine wk_of (id) (fun k => k == 2) (fun _ => false) ?_ ?_ rfl (Nat.zero_le _) (fun k hk => absurd hk (Nat.not_lt_zero _))
            · simp [hG, List.getD_cons_zero, List.getD_cons_succ, -List.getD_eq_getElem?_getD]; rw [hen]; exact ⟨rfl, Nat.le_refl _, fun _ _ => rfl⟩
            · simp [hG, List.getD_cons_zero, List.getD_cons_succ, -List.getD_eq_getElem?_getD]
          refine awpS_reg T_ok fun K hK => ?_
          simp [hG, List.getD_cons_zero, List.getD_cons_succ, -List.getD_eq_getElem?_getD]
          first | refine hK _ ?_ | refine ⟨Cond.mk (by first | omega | (simp [-List.getD_eq_getElem?_getD]; done) | (simp [-List.getD_eq_getElem?_getD]; omega) | (simp [-List.getD_eq_getElem?_getD]; repeat (first | intro _ | exact And.intro ‹_› ‹_› | apply And.intro | assumption | omega | exact decide_eq_true (by assumption)))), hK _ ?_⟩
          clear K hK
          refine awpS_seq ?_
          refine awpS_seq ?_
          refine awpS_reg T_ok fun K hK => ?_
          simp [hG, List.getD_cons_zero, List.getD_cons_succ, -List.getD_eq_getElem?_getD]
          first | refine hK _ ?_ | refine ⟨Cond.mk (by first | omega | (simp [-List.getD_eq_getElem?_getD]; done) | (simp [-List.getD_eq_getElem?_getD]; omega) | (simp [-List.getD_eq_getElem?_getD]; repeat (first | intro _ | exact And.intro ‹_› ‹_› | apply And.intro | assumption | omega | exact decide_eq_true (by assumption)))), hK _ ?_⟩
          clear K hK
          refine awpS_block ?_
          refine awpS_loop (α := Nat) (fun m => ⟨[(1, .int .i64 s), (2, .ptr (0, 0) 0 0), (4, .ptr (1, 0) 0 0), (7, ints (ordE e s.toNat)), (11, .ptr (2, 0) 0 0), (12, .int .i64 m)], [(0, .one (.arr 1 4 (fun _ => encF e))), (1, .one (.arr 1 4 (fun _ m => [AVal.int IntKind.i64 0, AVal.int IntKind.i64 0, AVal.int IntKind.i64 0, AVal.nils].getD m AVal.any))), (2, .one (.arr 1 4 (fun _ c4 => [AVal.int IntKind.i64 e.letters, AVal.int IntKind.i64 e.block, AVal.int IntKind.i64 e.inputs, .sl (3, 0) 0 m].getD c4 AVal.any))), (3, .one (.arr m 1 (fun q _ => cells (rrow e (ordE e s.toNat) ((ordE e s.toNat).getD q 0)))))], 4⟩) (fun m => m ≤ (ordE e s.toNat).length) (fun m => (ordE e s.toNat).length - m) (0) (Nat.zero_le _) ?_ ?_
          ·
            refine wk_of (id) (fun _ => false) (fun k => k == 3) ?_ ?_ rfl (Nat.zero_le _) (fun k hk => absurd hk (Nat.not_lt_zero _))
            · simp [hG, List.getD_cons_zero, List.getD_cons_succ, -List.getD_eq_getElem?_getD]
            · simp [hG, List.getD_cons_zero, List.getD_cons_succ, -List.getD_eq_getElem?_getD]
          ·
            rintro m hm
            refine awpS_seq ?_
            refine awpS_seq ?_
            refine awpS_reg T_ok fun K hK => ?_
            simp [hG, List.getD_cons_zero, List.getD_cons_succ, -List.getD_eq_getElem?_getD]
            first | refine hK _ ?_ | refine ⟨Cond.mk (by first | omega | (simp [-List.getD_eq_getElem?_getD]; done) | (simp [-List.getD_eq_getElem?_getD]; omega) | (simp [-List.getD_eq_getElem?_getD]; repeat (first | intro _ | exact And.intro ‹_› ‹_› | apply And.intro | assumption | omega | exact decide_eq_true (by assumption)))), hK _ ?_⟩
            clear K hK
            refine awpS_cond rfl (fun hb74 => ?_) (fun hb74 => ?_)
            ·
              try simp [-List.getD_eq_getElem?_getD] at hb74
              have hxm := hoe.lt _ (getD_mem (d := 0) (show m < (ordE e s.toNat).length by omega))
              refine awpS_skip ?_
              refine awpS_seq ?_
              refine awpS_block ?_
              refine awpS_seq ?_
              refine awpS_reg T_ok fun K hK => ?_
              simp [hG, List.getD_cons_zero, List.getD_cons_succ, -List.getD_eq_getElem?_getD]
              first | refine hK _ ?_ | refine ⟨Cond.mk (by first | omega | (simp [-List.getD_eq_getElem?_getD]; done) | (simp [-List.getD_eq_getElem?_getD]; omega) | (simp [-List.getD_eq_getElem?_getD]; repeat (first | intro _ | exact And.intro ‹_› ‹_› | apply And.intro | assumption | omega | exact decide_eq_true (by assumption)))), hK _ ?_⟩
              clear K hK
              refine awpS_seq ?_
              refine awpS_seq ?_
              refine awpS_reg T_ok fun K hK => ?_
              simp [hG, List.getD_cons_zero, List.getD_cons_succ, -List.getD_eq_getElem?_getD]
              first | refine hK _ ?_ | refine ⟨Cond.mk (by first | omega | (simp [-List.getD_eq_getElem?_getD]; done) | (simp [-List.getD_eq_getElem?_getD]; omega) | (simp [-List.getD_eq_getElem?_getD]; repeat (first | intro _ | exact And.intro ‹_› ‹_› | apply And.intro | assumption | omega | exact decide_eq_true (by assumption)))), hK _ ?_⟩
              clear K hK
              refine awpS_block ?_
              refine awpS_loop (α := Nat) (fun i => ⟨[(1, .int .i64 s), (2, .ptr (0, 0) 0 0), (4, .ptr (1, 0) 0 0), (7, ints (ordE e s.toNat)), (11, .ptr (2, 0) 0 0), (12, .int .i64 m), (13, .sl (4, 0) 0 i), (14, .int .i64 i)], [(0, .one (.arr 1 4 (fun _ => encF e))), (1, .one (.arr 1 4 (fun _ m => [AVal.int IntKind.i64 0, AVal.int IntKind.i64 0, AVal.int IntKind.i64 0, AVal.nils].getD m AVal.any))), (2, .one (.arr 1 4 (fun _ c4 => [AVal.int IntKind.i64 e.letters, AVal.int IntKind.i64 e.block, AVal.int IntKind.i64 e.inputs, .sl (3, 0) 0 m].getD c4 AVal.any))), (3, .one (.arr m 1 (fun q _ => cells (rrow e (ordE e s.toNat) ((ordE e s.toNat).getD q 0))))), (4, .one (.arr i 2 (fun q j => cellF ((rrow e (ordE e s.toNat) ((ordE e s.toNat).getD m 0)).getD q dc) j)))], 5⟩) (fun i => i ≤ e.inputs.toNat) (fun i => e.inputs.toNat - i) (0) (Nat.zero_le _) ?_ ?_
              ·
                refine wk_of (id) (fun _ => false) (fun _ => false) ?_ ?_ rfl (Nat.zero_le _) (fun k hk => absurd hk (Nat.not_lt_zero _))
                · simp [hG, List.getD_cons_zero, List.getD_cons_succ, -List.getD_eq_getElem?_getD]
                · simp [hG, List.getD_cons_zero, List.getD_cons_succ, -List.getD_eq_getElem?_getD]
              ·
                rintro i hi
                refine awpS_seq ?_
                refine awpS_seq ?_
                refine awpS_reg T_ok fun K hK => ?_
                simp [hG, List.getD_cons_zero, List.getD_cons_succ, -List.getD_eq_getElem?_getD]
                first | refine hK _ ?_ | refine ⟨Cond.mk (by first | omega | (simp [-List.getD_eq_getElem?_getD]; done) | (simp [-List.getD_eq_getElem?_getD]; omega) | (simp [-List.getD_eq_getElem?_getD]; repeat (first | intro _ | exact And.intro ‹_› ‹_› | apply And.intro | assumption | omega | exact decide_eq_true (by assumption)))), hK _ ?_⟩
                clear K hK
                refine awpS_cond rfl (fun hb81 => ?_) (fun hb81 => ?_)
                ·
                  try simp [-List.getD_eq_getElem?_getD] at hb81
                  have hri := row_i hv (s := ((ordE e s.toNat).getD m 0).toNat) (by omega) (i := i) (by omega)
                  refine awpS_skip ?_
                  refine awpS_seq ?_
                  refine awpS_block ?_
                  refine awpS_seq ?_
                  refine awpS_draw hR mixed [] ⟨[12], [], []⟩ fun mu0 => ?_
                  refine awpA_tk T_ok [0, 1, 2, 3, 4, 5, 6, 7, 8, 9, 10] [] (fuel := 2) [10, 9, 8, 7, 6, 5, 4, 3, 2, 1, 0] (by decide +kernel) (by decide +kernel) rfl rfl fun K hK => ?_
                  simp [hG, List.getD_cons_zero, List.getD_cons_succ, -List.getD_eq_getElem?_getD]
                  first | refine hK _ ?_ | refine ⟨Cond.mk (by first | omega | (simp [-List.getD_eq_getElem?_getD]; done) | (simp [-List.getD_eq_getElem?_getD]; omega) | (simp [-List.getD_eq_getElem?_getD]; repeat (first | intro _ | exact And.intro ‹_› ‹_› | apply And.intro | assumption | omega | exact decide_eq_true (by assumption)))), hK _ ?_⟩
                  clear K hK
                  refine awpA_only (fuel := 1) (i := 11) (by decide +kernel) ?_
                  refine awpO_reg T_ok rfl ?_ fun K hK => ?_
                  · simp [hG, List.getD_cons_zero, List.getD_cons_succ, -List.getD_eq_getElem?_getD]
                  simp [hG, List.getD_cons_zero, List.getD_cons_succ, -List.getD_eq_getElem?_getD]
                  first | refine hK _ ?_ | refine ⟨Cond.mk (by first | omega | (simp [-List.getD_eq_getElem?_getD]; done) | (simp [-List.getD_eq_getElem?_getD]; omega) | (simp [-List.getD_eq_getElem?_getD]; repeat (first | intro _ | exact And.intro ‹_› ‹_› | apply And.intro | assumption | omega | exact decide_eq_true (by assumption)))), hK _ ?_⟩
                  clear K hK
                  refine awpA_only (fuel := 0) (i := 12) (by decide +kernel) ?_
                  refine awpO_reg T_ok rfl ?_ fun K hK => ?_
                  · simp [hG, List.getD_cons_zero, List.getD_cons_succ, -List.getD_eq_getElem?_getD]
                  simp [hG, List.getD_cons_zero, List.getD_cons_succ, -List.getD_eq_getElem?_getD]
                  first | refine hK _ ?_ | refine ⟨Cond.mk (by first | omega | (simp [-List.getD_eq_getElem?_getD]; done) | (simp [-List.getD_eq_getElem?_getD]; omega) | (simp [-List.getD_eq_getElem?_getD]; repeat (first | intro _ | exact And.intro ‹_› ‹_› | apply And.intro | assumption | omega | exact decide_eq_true (by assumption)))), hK _ ?_⟩
                  clear K hK
                  refine awpA_done (by decide +kernel) ?_
                  refine awpS_draw hR mixed [(9, (4, 0))] ⟨[], [], []⟩ fun mu0 => ?_
                  refine awpA_tk T_ok [0] [] (fuel := 10) [0] (by decide +kernel) (by decide +kernel) rfl rfl fun K hK => ?_
                  simp [hG, List.getD_cons_zero, List.getD_cons_succ, -List.getD_eq_getElem?_getD]
                  first | refine hK _ ?_ | refine ⟨Cond.mk (by first | omega | (simp [-List.getD_eq_getElem?_getD]; done) | (simp [-List.getD_eq_getElem?_getD]; omega) | (simp [-List.getD_eq_getElem?_getD]; repeat (first | intro _ | exact And.intro ‹_› ‹_› | apply And.intro | assumption | omega | exact decide_eq_true (by assumption)))), hK _ ?_⟩
                  clear K hK
                  refine awpA_tk T_ok [1, 2, 3, 5, 6] [(4, 0)] (fuel := 5) [6, 5, 3, 2, 1, 0] (by decide +kernel) (by decide +kernel) rfl rfl fun K hK => ?_
                  simp [hG, List.getD_cons_zero, List.getD_cons_succ, -List.getD_eq_getElem?_getD]
                  first | refine hK _ ?_ | refine ⟨Cond.mk (by first | omega | (simp [-List.getD_eq_getElem?_getD]; done) | (simp [-List.getD_eq_getElem?_getD]; omega) | (simp [-List.getD_eq_getElem?_getD]; repeat (first | intro _ | exact And.intro ‹_› ‹_› | apply And.intro | assumption | omega | exact decide_eq_true (by assumption)))), hK _ ?_⟩
                  clear K hK
                  refine awpA_only (fuel := 4) (i := 4) (by decide +kernel) ?_
                  refine awpO_call cal44 rfl rfl rfl (fun _ => rfl) (fun hg => place_c (ordE e s.toNat) ((e.rows.getD ((ordE e s.toNat).getD m 0).toNat []).getD i dc).to (by omega)) (fun hg => ?_) (fun hg => ?_) fun K hK => ?_
                  · simp [hG, List.getD_cons_zero, List.getD_cons_succ, -List.getD_eq_getElem?_getD]
                  · simp [hG, List.getD_cons_zero, List.getD_cons_succ, -List.getD_eq_getElem?_getD]
                  simp [hG, List.getD_cons_zero, List.getD_cons_succ, -List.getD_eq_getElem?_getD]
                  refine hK _ ?_
                  clear K hK
                  refine awpA_tk T_ok [7] [(4, 0)] (fuel := 3) [7, 4, 6, 5, 3, 2, 1, 0] (by decide +kernel) (by decide +kernel) rfl rfl fun K hK => ?_
                  simp [hG, List.getD_cons_zero, List.getD_cons_succ, -List.getD_eq_getElem?_getD]
                  first | refine hK _ ?_ | refine ⟨Cond.mk (by first | omega | (simp [-List.getD_eq_getElem?_getD]; done) | (simp [-List.getD_eq_getElem?_getD]; omega) | (simp [-List.getD_eq_getElem?_getD]; repeat (first | intro _ | exact And.intro ‹_› ‹_› | apply And.intro | assumption | omega | exact decide_eq_true (by assumption)))), hK _ ?_⟩
                  clear K hK
                  refine awpA_only (fuel := 2) (i := 8) (by decide +kernel) ?_
                  refine awpO_reg T_ok rfl ?_ fun K hK => ?_
                  · simp [hG, List.getD_cons_zero, List.getD_cons_succ, -List.getD_eq_getElem?_getD]
                  simp [hG, List.getD_cons_zero, List.getD_cons_succ, -List.getD_eq_getElem?_getD]
                  first | refine hK _ ?_ | refine ⟨Cond.mk (by first | omega | (simp [-List.getD_eq_getElem?_getD]; done) | (simp [-List.getD_eq_getElem?_getD]; omega) | (simp [-List.getD_eq_getElem?_getD]; repeat (first | intro _ | exact And.intro ‹_› ‹_› | apply And.intro | assumption | omega | exact decide_eq_true (by assumption)))), hK _ ?_⟩
                  clear K hK
                  refine awpA_only (fuel := 1) (i := 9) (by decide +kernel) ?_
                  refine awpO_reg T_ok rfl ?_ fun K hK => ?_
                  · simp [hG, List.getD_cons_zero, List.getD_cons_succ, -List.getD_eq_getElem?_getD]
                  simp [hG, List.getD_cons_zero, List.getD_cons_succ, -List.getD_eq_getElem?_getD]
                  first | refine hK _ ?_ | refine ⟨Cond.mk (by first | omega | (simp [-List.getD_eq_getElem?_getD]; done) | (simp [-List.getD_eq_getElem?_getD]; omega) | (simp [-List.getD_eq_getElem?_getD]; repeat (first | intro _ | exact And.intro ‹_› ‹_› | apply And.intro | assumption | omega | exact decide_eq_true (by assumption)))), hK _ ?_⟩
                  clear K hK
                  refine awpA_tk T_ok [10] [] (fuel := 0) [10, 9, 8, 7, 4, 6, 5, 3, 2, 1, 0] (by decide +kernel) (by decide +kernel) rfl rfl fun K hK => ?_
                  simp [hG, List.getD_cons_zero, List.getD_cons_succ, -List.getD_eq_getElem?_getD]
                  first | refine hK _ ?_ | refine ⟨Cond.mk (by first | omega | (simp [-List.getD_eq_getElem?_getD]; done) | (simp [-List.getD_eq_getElem?_getD]; omega) | (simp [-List.getD_eq_getElem?_getD]; repeat (first | intro _ | exact And.intro ‹_› ‹_› | apply And.intro | assumption | omega | exact decide_eq_true (by assumption)))), hK _ ?_⟩
                  clear K hK
                  refine awpA_done (by decide +kernel) ?_
                  refine awpS_nil ?_
                  refine blockQ_norm (thenQ_norm ?_)
                  refine awpS_reg T_ok fun K hK => ?_
                  simp [hG, List.getD_cons_zero, List.getD_cons_succ, -List.getD_eq_getElem?_getD]
                  first | refine hK _ ?_ | refine ⟨Cond.mk (by first | omega | (simp [-List.getD_eq_getElem?_getD]; done) | (simp [-List.getD_eq_getElem?_getD]; omega) | (simp [-List.getD_eq_getElem?_getD]; repeat (first | intro _ | exact And.intro ‹_› ‹_› | apply And.intro | assumption | omega | exact decide_eq_true (by assumption)))), hK _ ?_⟩
                  clear K hK
                  refine awpS_nil ?_
                  refine round_end (i + 1) (by omega) (by omega) ?_
                  refine wk_of (fun k => if k = 4 then 7 else k) (fun _ => false) (fun _ => false) ?_ ?_ rfl (Nat.zero_le _) (fun k hk => absurd hk (Nat.not_lt_zero _))
                  · simp [hG, List.getD_cons_zero, List.getD_cons_succ, -List.getD_eq_getElem?_getD]
                  · simp [hG, List.getD_cons_zero, List.getD_cons_succ, -List.getD_eq_getElem?_getD]; exact fun q hq => ⟨app_cells (F := fun q => (rrow e (ordE e s.toNat) ((ordE e s.toNat).getD m 0)).getD q dc) (j := 0) hq (by decide) (fun j hj => (by show _ = cellF ((rrow e (ordE e s.toNat) ((ordE e s.toNat).getD m 0)).getD i dc) j; rw [rrow_at hri]; rcases lt2 hj with rfl | rfl <;> rfl)), app_cells (F := fun q => (rrow e (ordE e s.toNat) ((ordE e s.toNat).getD m 0)).getD q dc) (j := 1) hq (by decide) (fun j hj => (by show _ = cellF ((rrow e (ordE e s.toNat) ((ordE e s.toNat).getD m 0)).getD i dc) j; rw [rrow_at hri]; rcases lt2 hj with rfl | rfl <;> rfl))⟩
                ·
                  try simp [-List.getD_eq_getElem?_getD] at hb81
                  obtain rfl : i = e.inputs.toNat := (by omega)
                  have hre := row_eq hv (k := ((ordE e s.toNat).getD m 0).toNat) (by omega)
                  refine awpS_exit ?_
                  refine thenQ_exit (thenQ_exit ?_)
                  refine blockQ_exit (thenQ_norm ?_)
                  refine awpS_reg T_ok fun K hK => ?_
                  simp [hG, List.getD_cons_zero, List.getD_cons_succ, -List.getD_eq_getElem?_getD]
                  first | refine hK _ ?_ | refine ⟨Cond.mk (by first | omega | (simp [-List.getD_eq_getElem?_getD]; done) | (simp [-List.getD_eq_getElem?_getD]; omega) | (simp [-List.getD_eq_getElem?_getD]; repeat (first | intro _ | exact And.intro ‹_› ‹_› | apply And.intro | assumption | omega | exact decide_eq_true (by assumption)))), hK _ ?_⟩
                  clear K hK
                  refine awpS_nil ?_
                  refine blockQ_norm (thenQ_norm ?_)
                  refine awpS_reg T_ok fun K hK => ?_
                  simp [hG, List.getD_cons_zero, List.getD_cons_succ, -List.getD_eq_getElem?_getD]
                  first | refine hK _ ?_ | refine ⟨Cond.mk (by first | omega | (simp [-List.getD_eq_getElem?_getD]; done) | (simp [-List.getD_eq_getElem?_getD]; omega) | (simp [-List.getD_eq_getElem?_getD]; repeat (first | intro _ | exact And.intro ‹_› ‹_› | apply And.intro | assumption | omega | exact decide_eq_true (by assumption)))), hK _ ?_⟩
                  clear K hK
                  refine awpS_nil ?_
                  refine round_end (m + 1) (by omega) (by omega) ?_
                  refine wk_of (fun k => if k = 3 then 6 else k) (fun k => k == 4) (fun _ => false) ?_ ?_ rfl (Nat.zero_le _) (fun k hk => absurd hk (Nat.not_lt_zero _))
                  · simp [hG, List.getD_cons_zero, List.getD_cons_succ, -List.getD_eq_getElem?_getD]
                  · simp [hG, List.getD_cons_zero, List.getD_cons_succ, -List.getD_eq_getElem?_getD]; refine fun j hj => app_rowF (F := fun q => rrow e (ordE e s.toNat) ((ordE e s.toNat).getD q 0)) hj ?_; simp [-List.getD_eq_getElem?_getD]; rw [rrow_len]; omega
            ·
              try simp [-List.getD_eq_getElem?_getD] at hb74
              obtain rfl : m = (ordE e s.toNat).length := (by omega)
              refine awpS_exit ?_
              refine thenQ_exit (thenQ_exit ?_)
              refine blockQ_exit (thenQ_norm ?_)
              refine awpS_seq ?_
              refine awpS_reg T_ok fun K hK => ?_
              simp [hG, List.getD_cons_zero, List.getD_cons_succ, -List.getD_eq_getElem?_getD]
              first | refine hK _ ?_ | refine ⟨Cond.mk (by first | omega | (simp [-List.getD_eq_getElem?_getD]; done) | (simp [-List.getD_eq_getElem?_getD]; omega) | (simp [-List.getD_eq_getElem?_getD]; repeat (first | intro _ | exact And.intro ‹_› ‹_› | apply And.intro | assumption | omega | exact decide_eq_true (by assumption)))), hK _ ?_⟩
              clear K hK
              refine awpS_ret ?_
              refine RetOK_of ?_
              simp [hG, List.getD_cons_zero, List.getD_cons_succ, -List.getD_eq_getElem?_getD]
              rw [reachR, if_pos hv, if_pos hs0]; simp [List.getD_cons_zero, List.getD_cons_succ, -List.getD_eq_getElem?_getD]; exact fun i hi => by rw [map_getD hi]; exact Clo.le _ Clo_cells

end Go.Proofs.Ytmjkbidnghcfnaa
