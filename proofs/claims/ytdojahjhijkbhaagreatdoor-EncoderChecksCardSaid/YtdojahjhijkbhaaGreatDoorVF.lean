/-
  Walks: graph.Step, its end.
-/
import Derived.Test.YtdojahjhijkbhaaGreatDoorVE
namespace Go.Proofs.YtdojahjhijkbhaaGreatDoor
set_option linter.unusedSimpArgs false
set_option linter.unusedVariables false
open Go Go.Lift Go.Proofs

theorem sortAny_c (l : List Int) (hl : l.length ≤ 1000000) :
    FC1 Tryz.prog 62 [.sl (0, 0) 0 l.length] [(0, .one (.arr l.length 1 (fun i _ => .int .i64 (l.getD i 0))))] 1 .any [(0, .one (.arr l.length 1 (fun i _ => .int .i64 ((srtI l).getD i 0))))] 1 := by
  rcases Nat.eq_zero_or_pos l.length with h | h
  · obtain rfl := List.length_eq_zero_iff.1 h
    have e : srtI [] = [] := List.length_eq_zero_iff.1 (by rw [srtI_len]; rfl)
    rw [e]
    exact sortI0_c
  · exact sortI_pos l h hl
set_option maxRecDepth 100000 in
theorem step_c (g : Gr) (L : List Int) (k : Int) (hv : gcheck g = 0) (hc : L.Pairwise (· < ·)) (hr : ∀ x ∈ L, 0 ≤ x ∧ x < g.states) (hk : 0 ≤ k ∧ k < g.labels) (hl : L.length ≤ 64) : PC Tryz.prog 26 [.agg 3 (grF g), ints L, .int .i64 k] (.tup 2 (fun j => [ints (stepL g k L), .int .i64 0].getD j .any)) := by
  have hed := (gcheck_valid hv).1.ed
  refine PC_introS T_ok Tryz.func26 rfl (by simp [Tryz.ntmps26]) fun G hG hR => ?_
  simp only [Tryz.ntmps26, Tryz.results26] at hG ⊢
  simp only [argEnv, Nat.zero_add, Nat.reduceAdd]
  refine awpS_seq ?_
  refine awpS_reg T_ok fun K hK => ?_
  simp [hG, List.getD_cons_zero, List.getD_cons_succ, -List.getD_eq_getElem?_getD, tgts_zero]
  refine ⟨Cond.mk (by simp [-List.getD_eq_getElem?_getD]), hK _ ?_⟩
  clear K hK
  refine awpS_seq ?_
  refine awpS_seq ?_
  refine awpS_regL ?_
  refine awpL_reg T_ok 1 fun K hK => ?_
  simp [hG, List.getD_cons_zero, List.getD_cons_succ, -List.getD_eq_getElem?_getD, tgts_zero]
  refine hK _ ?_
  clear K hK
  refine awpL_call cal24 rfl rfl (fun _ => rfl) (fun hg => checkC_c g) (fun hg => ?_) (fun hg => ?_) fun K hK => ?_
  · simp [hG, List.getD_cons_zero, List.getD_cons_succ, -List.getD_eq_getElem?_getD, tgts_zero]
  · simp [hG, List.getD_cons_zero, List.getD_cons_succ, -List.getD_eq_getElem?_getD, tgts_zero]
  simp [hG, List.getD_cons_zero, List.getD_cons_succ, -List.getD_eq_getElem?_getD, tgts_zero]
  refine hK _ ?_
  clear K hK
  refine awpL_reg T_ok 1 fun K hK => ?_
  simp [hG, List.getD_cons_zero, List.getD_cons_succ, -List.getD_eq_getElem?_getD, tgts_zero]
  refine hK _ ?_
  clear K hK
  refine awpL_nil ?_
  refine awpS_cond rfl (fun hb16 => ?_) (fun hb16 => ?_)
  ·
    simp [hv] at hb16
  ·
    try simp [-List.getD_eq_getElem?_getD] at hb16
    refine awpS_skip ?_
    refine awpS_seq ?_
    refine awpS_seq ?_
    refine awpS_regL ?_
    refine awpL_reg T_ok 2 fun K hK => ?_
    simp [hG, List.getD_cons_zero, List.getD_cons_succ, -List.getD_eq_getElem?_getD, tgts_zero]
    refine hK _ ?_
    clear K hK
    refine awpL_call cal60 rfl rfl (fun _ => rfl) (fun hg => checkSet_c g L hc hr hl) (fun hg => ?_) (fun hg => ?_) fun K hK => ?_
    · simp [hG, List.getD_cons_zero, List.getD_cons_succ, -List.getD_eq_getElem?_getD, tgts_zero]
    · simp [hG, List.getD_cons_zero, List.getD_cons_succ, -List.getD_eq_getElem?_getD, tgts_zero]
    simp [hG, List.getD_cons_zero, List.getD_cons_succ, -List.getD_eq_getElem?_getD, tgts_zero]
    refine hK _ ?_
    clear K hK
    refine awpL_reg T_ok 1 fun K hK => ?_
    simp [hG, List.getD_cons_zero, List.getD_cons_succ, -List.getD_eq_getElem?_getD, tgts_zero]
    refine hK _ ?_
    clear K hK
    refine awpL_nil ?_
    refine awpS_seq ?_
    refine awpS_reg T_ok fun K hK => ?_
    simp [hG, List.getD_cons_zero, List.getD_cons_succ, -List.getD_eq_getElem?_getD, tgts_zero]
    refine hK _ ?_
    clear K hK
    refine awpS_cond rfl (fun hb21 => ?_) (fun hb21 => ?_)
    ·
      simp at hb21
    ·
      try simp [-List.getD_eq_getElem?_getD] at hb21
      refine awpS_skip ?_
      refine awpS_seq ?_
      refine awpS_seq ?_
      refine awpS_reg T_ok fun K hK => ?_
      simp [hG, List.getD_cons_zero, List.getD_cons_succ, -List.getD_eq_getElem?_getD, tgts_zero]
      refine ⟨Cond.mk (by simp [-List.getD_eq_getElem?_getD]), hK _ ?_⟩
      clear K hK
      refine awpS_cond rfl (fun hb30 => ?_) (fun hb30 => ?_)
      ·
        exact absurd hb30 (by simp; omega)
      ·
        try simp [-List.getD_eq_getElem?_getD] at hb30
        refine awpS_skip ?_
        refine awpS_seq ?_
        refine awpS_reg T_ok fun K hK => ?_
        simp [hG, List.getD_cons_zero, List.getD_cons_succ, -List.getD_eq_getElem?_getD, tgts_zero]
        refine hK _ ?_
        clear K hK
        refine awpS_seq ?_
        refine awpS_seq ?_
        refine awpS_reg T_ok fun K hK => ?_
        simp [hG, List.getD_cons_zero, List.getD_cons_succ, -List.getD_eq_getElem?_getD, tgts_zero]
        refine hK _ ?_
        clear K hK
        refine awpS_block ?_
        refine awpS_loop (α := Nat) (fun i => ⟨[(1, ints L), (3, .vptr 3 (grF g) 0), (5, .vptr 1 (fun _ => .int .i64 k) 0), (9, .ptr (0, 0) 0 0), (31, ints L), (32, .int .i64 L.length), (33, .int .i64 i)], [(0, .one (.arr 1 1 (fun _ _ => .sl (1, 0) 0 ((tgts g k L i)).length))), (1, .one (.arr ((tgts g k L i)).length 1 (fun p _ => .int .i64 (((tgts g k L i)).getD p 0))))], 2⟩) (fun i => i ≤ L.length) (fun i => L.length - i) (0) (Nat.zero_le _) ?_ ?_
        ·
          refine wk_of (fun k => if k = 0 then 2 else k) (fun k => k == 0 || k == 1) (fun k => k == 1) ?_ ?_ rfl (Nat.zero_le _) (fun k hk => absurd hk (Nat.not_lt_zero _))
          · simp [hG, List.getD_cons_zero, List.getD_cons_succ, -List.getD_eq_getElem?_getD, tgts_zero]
          · simp [hG, List.getD_cons_zero, List.getD_cons_succ, -List.getD_eq_getElem?_getD, tgts_zero]
        ·
          rintro i hi
          refine awpS_seq ?_
          refine awpS_reg T_ok fun K hK => ?_
          simp [hG, List.getD_cons_zero, List.getD_cons_succ, -List.getD_eq_getElem?_getD, tgts_zero]
          refine hK _ ?_
          clear K hK
          refine awpS_seq ?_
          refine awpS_cond rfl (fun hb34 => ?_) (fun hb34 => ?_)
          ·
            try simp [-List.getD_eq_getElem?_getD] at hb34
            have htl := tgts_len (g := g) (k := k) (L := L) (i := i) hed (by omega)
            have hts := tgts_succ (g := g) (k := k) (L := L) (i := i) (by omega)
            refine awpS_skip ?_
            refine awpS_seq ?_
            refine awpS_block ?_
            refine awpS_seq ?_
            refine awpS_reg T_ok fun K hK => ?_
            simp [hG, List.getD_cons_zero, List.getD_cons_succ, -List.getD_eq_getElem?_getD, tgts_zero]
            refine ⟨Cond.mk (by omega), hK _ ?_⟩
            clear K hK
            refine awpS_seq ?_
            refine awpS_regL ?_
            refine awpL_reg T_ok 2 fun K hK => ?_
            simp [hG, List.getD_cons_zero, List.getD_cons_succ, -List.getD_eq_getElem?_getD, tgts_zero]
            refine hK _ ?_
            clear K hK
            refine awpL_call cal61 rfl rfl (fun _ => rfl) (fun hg => leaving_c g (L.getD i 0)) (fun hg => ?_) (fun hg => ?_) fun K hK => ?_
            · simp [hG, List.getD_cons_zero, List.getD_cons_succ, -List.getD_eq_getElem?_getD, tgts_zero]
            · simp [hG, List.getD_cons_zero, List.getD_cons_succ, -List.getD_eq_getElem?_getD, tgts_zero]
            simp [hG, List.getD_cons_zero, List.getD_cons_succ, -List.getD_eq_getElem?_getD, tgts_zero]
            refine hK _ ?_
            clear K hK
            refine awpL_nil ?_
            refine awpS_block ?_
            refine awpS_wk (st2 := ⟨[(1, ints L), (3, .vptr 3 (grF g) 0), (5, .vptr 1 (fun _ => .int .i64 k) 0), (9, .ptr (0, 0) 0 0), (31, ints L), (32, .int .i64 L.length), (33, .int .i64 i), (39, .fn 86 2 (fun j => [.vptr 3 (grF g) 0, .vptr 1 (fun _ => .int .i64 (L.getD i 0)) 0].getD j .any))], [(0, .one (.arr 1 1 (fun _ _ => .sl (1, 0) 0 ((tgts g k L i)).length))), (1, .one (.arr ((tgts g k L i)).length 1 (fun p _ => .int .i64 (((tgts g k L i)).getD p 0))))], 2⟩) ?_ ?_
            ·
              refine wk_of (id) (fun _ => false) (fun _ => false) ?_ ?_ rfl (Nat.zero_le _) (fun k hk => absurd hk (Nat.not_lt_zero _))
              · simp [hG, List.getD_cons_zero, List.getD_cons_succ, -List.getD_eq_getElem?_getD, tgts_zero]
              · simp [hG, List.getD_cons_zero, List.getD_cons_succ, -List.getD_eq_getElem?_getD, tgts_zero]
            refine awpS_range hR [5, 9] [0, 1] (fun _ => false) cal86 rfl trivial (fun l rec vs hok => by rw [hG] at hok; exact leavingIt_c g k (L.getD i 0) (tgts g k L i) (by omega) hed l rec vs hok) (by simp) (.inl fun _ => rfl) (fun l vs => ?_) ?_ fun K hK x hI hno => ?_
            · simp [hG, List.getD_cons_zero, List.getD_cons_succ, -List.getD_eq_getElem?_getD]; exact ⟨Clo.le _ (fun j hj => ⟨one_grF, Clo_grF⟩), Clo.le _ (fun j hj => ⟨rfl, trivial⟩), trivial⟩
            · simp [hG, List.getD_cons_zero, List.getD_cons_succ, -List.getD_eq_getElem?_getD, tgts_zero]
            simp [hG, List.getD_cons_zero, List.getD_cons_succ, -List.getD_eq_getElem?_getD, tgts_zero]
            refine hK _ ?_
            clear K hK
            refine awpS_nil ?_
            refine blockQ_norm (thenQ_norm ?_)
            refine awpS_nil ?_
            refine blockQ_norm (thenQ_norm ?_)
            refine awpS_reg T_ok fun K hK => ?_
            simp [hG, List.getD_cons_zero, List.getD_cons_succ, -List.getD_eq_getElem?_getD, tgts_zero]
            refine ⟨Cond.mk (by omega), hK _ ?_⟩
            clear K hK
            refine awpS_nil ?_
            refine round_end (i + 1) (by omega) (by omega) ?_
            refine wk_of (fun k => if k = 1 then 2 else k) (fun _ => false) (fun _ => false) ?_ ?_ rfl (Nat.zero_le _) (fun k hk => absurd hk (Nat.not_lt_zero _))
            · simp [hG, List.getD_cons_zero, List.getD_cons_succ, -List.getD_eq_getElem?_getD, tgts_zero]
            · rw [hts]; simp [hG, List.getD_cons_zero, List.getD_cons_succ, -List.getD_eq_getElem?_getD]
          ·
            try simp [-List.getD_eq_getElem?_getD] at hb34
            obtain rfl : i = L.length := (by omega)
            have htl := tgts_len (g := g) (k := k) (L := L) (i := L.length) hed hl
            refine awpS_exit ?_
            refine thenQ_exit (thenQ_exit ?_)
            refine blockQ_exit (thenQ_norm ?_)
            refine awpS_seq ?_
            refine awpS_regL ?_
            refine awpL_reg T_ok 1 fun K hK => ?_
            simp [hG, List.getD_cons_zero, List.getD_cons_succ, -List.getD_eq_getElem?_getD, tgts_zero]
            refine hK _ ?_
            clear K hK
            refine awpL_fc cal62 [1] (fun _ => false) (sortAny_c (tgts g k L L.length) (by omega)) rfl rfl rfl (by simp) (.inl fun _ => rfl) ?_ ?_ ?_ fun K hK x hI hno => ?_
            · simp [hG, List.getD_cons_zero, List.getD_cons_succ, -List.getD_eq_getElem?_getD, tgts_zero]
            · simp [hG, List.getD_cons_zero, List.getD_cons_succ, -List.getD_eq_getElem?_getD, tgts_zero]
            · simp [hG, List.getD_cons_zero, List.getD_cons_succ, -List.getD_eq_getElem?_getD, tgts_zero]
            simp [hG, List.getD_cons_zero, List.getD_cons_succ, -List.getD_eq_getElem?_getD, tgts_zero]
            refine hK _ ?_
            clear K hK
            refine awpL_nil ?_
            refine awpS_seq ?_
            refine awpS_wk (st2 := ⟨[(9, .ptr (0, 0) 0 0)], [(0, .one (.arr 1 1 (fun _ _ => .sl (1, 0) 0 ((srtI (tgts g k L L.length))).length))), (1, .one (.arr ((srtI (tgts g k L L.length))).length 1 (fun p _ => .int .i64 (((srtI (tgts g k L L.length))).getD p 0))))], 2⟩) ?_ ?_
            ·
              refine wk_of (id) (fun _ => false) (fun _ => false) ?_ ?_ rfl (Nat.zero_le _) (fun k hk => absurd hk (Nat.not_lt_zero _))
              · simp [hG, List.getD_cons_zero, List.getD_cons_succ, -List.getD_eq_getElem?_getD]
              · rw [srtI_len]; simp [hG, List.getD_cons_zero, List.getD_cons_succ, -List.getD_eq_getElem?_getD]
            refine awpS_regL ?_
            refine awpL_reg T_ok 1 fun K hK => ?_
            simp [hG, List.getD_cons_zero, List.getD_cons_succ, -List.getD_eq_getElem?_getD, tgts_zero]
            refine hK _ ?_
            clear K hK
            refine awpL_fc cal63 [1] (fun _ => false) (compactI_c (srtI (tgts g k L L.length)) (by rw [srtI_len]; omega)) rfl rfl rfl (by simp) (.inl fun _ => rfl) ?_ ?_ ?_ fun K hK x hI hno => ?_
            · simp [hG, List.getD_cons_zero, List.getD_cons_succ, -List.getD_eq_getElem?_getD, tgts_zero]
            · simp [hG, List.getD_cons_zero, List.getD_cons_succ, -List.getD_eq_getElem?_getD, tgts_zero]
            · simp [hG, List.getD_cons_zero, List.getD_cons_succ, -List.getD_eq_getElem?_getD, tgts_zero]
            simp [hG, List.getD_cons_zero, List.getD_cons_succ, -List.getD_eq_getElem?_getD, tgts_zero]
            refine hK _ ?_
            clear K hK
            refine awpL_reg T_ok 2 fun K hK => ?_
            simp [hG, List.getD_cons_zero, List.getD_cons_succ, -List.getD_eq_getElem?_getD, tgts_zero]
            refine hK _ ?_
            clear K hK
            refine awpL_nil ?_
            refine awpS_ret ?_
            refine RetOK_of ?_
            simp [hG, List.getD_cons_zero, List.getD_cons_succ, -List.getD_eq_getElem?_getD, tgts_zero]
            exact ⟨rfl, dd_len, fun _ _ => rfl⟩

end Go.Proofs.YtdojahjhijkbhaaGreatDoor
