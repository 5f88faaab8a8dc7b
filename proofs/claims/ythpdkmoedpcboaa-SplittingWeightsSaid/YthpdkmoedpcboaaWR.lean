/-
  Walk: the law of weights.
-/
import Derived.Test.YthpdkmoedpcboaaWQ
namespace Go.Proofs.Ythpdkmoedpcboaa
set_option linter.unusedSimpArgs false
set_option linter.unusedVariables false
open Go Go.Lift Go.Proofs
section
variable {g : Gr} {v : List Int} {m : Int}
theorem cls_no (h : cNo g v m ≠ 0) : cLs g v m = [] := by
  by_cases hb : baseN g v m = 0
  · by_cases hc : cRd g v m g.states.toNat = []
    · exact (cNo_2 hb hc).2
    · exact absurd (cNo_3 hb hc).1 h
  · exact (cNo_1 hb).2
theorem cls_ok (h : cNo g v m = 0) : cLs g v m = cRd g v m g.states.toNat ∧ Rd g v m (cLs g v m) := by
  by_cases hb : baseN g v m = 0
  · by_cases hc : cRd g v m g.states.toNat = []
    · rw [(cNo_2 hb hc).1] at h; cases h
    · have e := (cNo_3 hb hc).2
      rw [e]
      exact ⟨rfl, cRd_ok (vecN_zero (eigN_zero (baseN_zero hb).1).1).1 (Nat.le_refl _), cRd_round hb hc⟩
  · exact absurd ((cNo_1 hb).1 ▸ h) hb
theorem apl_04 {l : List Spl} (hr : Rd g v m l) : aplN g v m l = 0 ∨ aplN g v m l = 4 := by
  by_cases h : 64 < offA g l g.states.toNat ∨ 1024 < (edA g l g.edges.length).length
  · exact .inr (apl_2 hr.rd h).2.2.2
  · exact .inl (apl_3 hr.rd h).2.2.2
theorem apl_z {l : List Spl} (hr : Rd g v m l) (h : aplN g v m l = 0) : aplG g v m l = splG g l ∧ aplW g v m l = hvA g v m l g.states.toNat ∧ aplP g v m l = parA g l g.states.toNat ∧ offA g l g.states.toNat ≤ 64 ∧ (edA g l g.edges.length).length ≤ 1024 := by
  by_cases hc : 64 < offA g l g.states.toNat ∨ 1024 < (edA g l g.edges.length).length
  · rw [(apl_2 hr.rd hc).2.2.2] at h; cases h
  · obtain ⟨e1, e2, e3, _⟩ := apl_3 hr.rd hc
    exact ⟨e1, e2, e3, by omega, by omega⟩
theorem wsA_box {p w : List Int} (hw : ∀ n ∈ w, 1 ≤ n ∧ n ≤ 4096) {s : Nat} : ∀ k, 0 ≤ wsA p w k s ∧ wsA p w k s ≤ k * 4096
  | 0 => by simp [wsA]
  | k + 1 => by
    have h1 := wsA_box (p := p) hw (s := s) k
    rw [wsA_succ]
    have h2 : 0 ≤ w.getD k 0 ∧ w.getD k 0 ≤ 4096 := by
      by_cases hk : k < w.length
      · have := hw _ (getD_mem (d := 0) hk); omega
      · simp [List.getD, List.getElem?_eq_none (Nat.le_of_not_lt hk)]
    split <;> omega
theorem parA_step {l : List Spl} {n k : Nat} (h0 : 0 < k) (hk : k < (parA g l n).length) : (parA g l n).getD (k - 1) 0 ≤ (parA g l n).getD k 0 := by
  have := List.pairwise_iff_getElem.1 (parA_asc (g := g) (l := l) n) (k - 1) k (by omega) hk (by omega)
  rwa [getD_get hk, getD_get (show k - 1 < (parA g l n).length by omega)]
end
set_option maxRecDepth 100000 in
set_option maxHeartbeats 1000000 in
theorem weightsLaw_c (g : Gr) (hge : g.edges.length ≤ maxLen) (v : List Int) (hvl : v.length ≤ maxLen) (m : Int) : PC Try.prog 4 [.agg 3 (grF g), ints v, .int .i64 m] (.bool true) := by
  have hML : maxLen = 9223372036854775807 := by decide
  refine PC_introS T_ok Try.func4 rfl (by simp [Try.ntmps4]) fun G hG hR => ?_
  simp only [Try.ntmps4, Try.results4] at hG ⊢
  simp only [argEnv, Nat.zero_add, Nat.reduceAdd]
  refine awpS_seq ?_
  refine awpS_reg T_ok fun K hK => ?_
  simp [hG, List.getD_cons_zero, List.getD_cons_succ, -List.getD_eq_getElem?_getD, pureOp]
  refine ⟨Cond.mk (by exact trivial), hK _ ?_⟩
  clear K hK
  refine awpS_seq ?_
  refine awpS_seq ?_
  refine awpS_regL ?_
  refine awpL_reg T_ok 1 fun K hK => ?_
  simp [hG, List.getD_cons_zero, List.getD_cons_succ, -List.getD_eq_getElem?_getD, pureOp]
  refine hK _ ?_
  clear K hK
  refine awpL_call cal6 rfl rfl (fun _ => rfl) (fun hg => great9_c g) (fun hg => ?_) (fun hg => ?_) fun K hK => ?_
  · simp [hG, List.getD_cons_zero, List.getD_cons_succ, -List.getD_eq_getElem?_getD, pureOp]
  · simp [hG, List.getD_cons_zero, List.getD_cons_succ, -List.getD_eq_getElem?_getD, pureOp]
  simp [hG, List.getD_cons_zero, List.getD_cons_succ, -List.getD_eq_getElem?_getD, pureOp]
  refine hK _ ?_
  clear K hK
  refine awpL_reg T_ok 2 fun K hK => ?_
  simp [hG, List.getD_cons_zero, List.getD_cons_succ, -List.getD_eq_getElem?_getD, pureOp]
  refine hK _ ?_
  clear K hK
  refine awpL_call cal7 rfl rfl (fun _ => rfl) (fun hg => greatV_c v hvl) (fun hg => ?_) (fun hg => ?_) fun K hK => ?_
  · first | (simp [hG, List.getD_cons_zero, List.getD_cons_succ, -List.getD_eq_getElem?_getD, pureOp]; done) | (simp [-List.getD_eq_getElem?_getD] at hg; done) | (simp [-List.getD_eq_getElem?_getD] at hg; simp [hG, List.getD_cons_zero, List.getD_cons_succ, -List.getD_eq_getElem?_getD, pureOp]; first | omega | exact hg | (simp_all [-List.getD_eq_getElem?_getD]; done) | (simp_all [-List.getD_eq_getElem?_getD]; first | exact ⟨rfl, rfl⟩ | exact rfl))
  · first | (simp [hG, List.getD_cons_zero, List.getD_cons_succ, -List.getD_eq_getElem?_getD, pureOp]; done) | (simp [-List.getD_eq_getElem?_getD] at hg; done) | (simp [-List.getD_eq_getElem?_getD] at hg; simp [hG, List.getD_cons_zero, List.getD_cons_succ, -List.getD_eq_getElem?_getD, pureOp]; first | omega | exact hg | (simp_all [-List.getD_eq_getElem?_getD]; done) | (simp_all [-List.getD_eq_getElem?_getD]; first | exact ⟨rfl, rfl⟩ | exact rfl))
  simp [hG, List.getD_cons_zero, List.getD_cons_succ, -List.getD_eq_getElem?_getD, pureOp]
  refine hK _ ?_
  clear K hK
  refine awpL_reg T_ok 1 fun K hK => ?_
  simp [hG, List.getD_cons_zero, List.getD_cons_succ, -List.getD_eq_getElem?_getD, pureOp]
  refine hK _ ?_
  clear K hK
  refine awpL_nil ?_
  refine awpS_cond rfl (fun hb21 => ?_) (fun hb21 => ?_)
  ·
    try simp [-List.getD_eq_getElem?_getD] at hb21
    refine awpS_seq ?_
    refine awpS_regL ?_
    refine awpL_call cal9 rfl rfl (fun _ => rfl) (fun hg => awake_c) (fun hg => ?_) (fun hg => ?_) fun K hK => ?_
    · simp [hG, List.getD_cons_zero, List.getD_cons_succ, -List.getD_eq_getElem?_getD, pureOp]
    · simp [hG, List.getD_cons_zero, List.getD_cons_succ, -List.getD_eq_getElem?_getD, pureOp]
    simp [hG, List.getD_cons_zero, List.getD_cons_succ, -List.getD_eq_getElem?_getD, pureOp]
    refine hK _ ?_
    clear K hK
    refine awpL_reg T_ok 1 fun K hK => ?_
    simp [hG, List.getD_cons_zero, List.getD_cons_succ, -List.getD_eq_getElem?_getD, pureOp]
    refine hK _ ?_
    clear K hK
    refine awpL_nil ?_
    refine awpS_ret ?_
    refine RetOK_of ?_
    simp [hG, List.getD_cons_zero, List.getD_cons_succ, -List.getD_eq_getElem?_getD, pureOp]
  ·
    try simp [-List.getD_eq_getElem?_getD] at hb21
    refine awpS_skip ?_
    refine awpS_seq ?_
    refine awpS_regL ?_
    refine awpL_reg T_ok 3 fun K hK => ?_
    simp [hG, List.getD_cons_zero, List.getD_cons_succ, -List.getD_eq_getElem?_getD, pureOp]
    refine hK _ ?_
    clear K hK
    refine awpL_call cal16 rfl rfl (fun _ => rfl) (fun hg => chooseR_c g v m) (fun hg => ?_) (fun hg => ?_) fun K hK => ?_
    · simp [hG, List.getD_cons_zero, List.getD_cons_succ, -List.getD_eq_getElem?_getD, pureOp]
    · simp [hG, List.getD_cons_zero, List.getD_cons_succ, -List.getD_eq_getElem?_getD, pureOp]
    simp [hG, List.getD_cons_zero, List.getD_cons_succ, -List.getD_eq_getElem?_getD, pureOp]
    refine hK _ ?_
    clear K hK
    refine awpL_reg T_ok 5 fun K hK => ?_
    simp [hG, List.getD_cons_zero, List.getD_cons_succ, -List.getD_eq_getElem?_getD, pureOp]
    refine hK _ ?_
    clear K hK
    refine awpL_nil ?_
    refine awpS_seq ?_
    refine awpS_seq ?_
    refine awpS_reg T_ok fun K hK => ?_
    simp [hG, List.getD_cons_zero, List.getD_cons_succ, -List.getD_eq_getElem?_getD, pureOp]
    refine hK _ ?_
    clear K hK
    refine awpS_cond rfl (fun hb31 => ?_) (fun hb31 => ?_)
    ·
      try simp [-List.getD_eq_getElem?_getD] at hb31
      refine awpS_seq ?_
      refine awpS_regL ?_
      refine awpL_reg T_ok 4 fun K hK => ?_
      simp [hG, List.getD_cons_zero, List.getD_cons_succ, -List.getD_eq_getElem?_getD, pureOp]
      refine hK _ ?_
      clear K hK
      refine awpL_call cal9 rfl rfl (fun _ => rfl) (fun hg => awake_c) (fun hg => ?_) (fun hg => ?_) fun K hK => ?_
      · first | (simp [hG, List.getD_cons_zero, List.getD_cons_succ, -List.getD_eq_getElem?_getD, pureOp]; done) | (simp [-List.getD_eq_getElem?_getD] at hg; done) | (simp [-List.getD_eq_getElem?_getD] at hg; simp [hG, List.getD_cons_zero, List.getD_cons_succ, -List.getD_eq_getElem?_getD, pureOp]; first | omega | exact hg | (simp_all [-List.getD_eq_getElem?_getD]; done) | (simp_all [-List.getD_eq_getElem?_getD]; first | exact ⟨rfl, rfl⟩ | exact rfl))
      · first | (simp [hG, List.getD_cons_zero, List.getD_cons_succ, -List.getD_eq_getElem?_getD, pureOp]; done) | (simp [-List.getD_eq_getElem?_getD] at hg; done) | (simp [-List.getD_eq_getElem?_getD] at hg; simp [hG, List.getD_cons_zero, List.getD_cons_succ, -List.getD_eq_getElem?_getD, pureOp]; first | omega | exact hg | (simp_all [-List.getD_eq_getElem?_getD]; done) | (simp_all [-List.getD_eq_getElem?_getD]; first | exact ⟨rfl, rfl⟩ | exact rfl))
      simp [hG, List.getD_cons_zero, List.getD_cons_succ, -List.getD_eq_getElem?_getD, pureOp]
      refine hK _ ?_
      clear K hK
      refine awpL_reg T_ok 2 fun K hK => ?_
      simp [hG, List.getD_cons_zero, List.getD_cons_succ, -List.getD_eq_getElem?_getD, pureOp]
      refine hK _ ?_
      clear K hK
      refine awpL_nil ?_
      refine awpS_ret ?_
      refine RetOK_of ?_
      simp [hG, List.getD_cons_zero, List.getD_cons_succ, -List.getD_eq_getElem?_getD, pureOp]
      exact cls_no hb31
    ·
      try simp [-List.getD_eq_getElem?_getD] at hb31
      obtain ⟨hcl, hRd⟩ := cls_ok hb31
      have hr := hRd.ok
      refine awpS_skip ?_
      refine awpS_seq ?_
      refine awpS_regL ?_
      refine awpL_reg T_ok 4 fun K hK => ?_
      simp [hG, List.getD_cons_zero, List.getD_cons_succ, -List.getD_eq_getElem?_getD, pureOp]
      refine hK _ ?_
      clear K hK
      refine awpL_call cal10 rfl rfl (fun _ => rfl) (fun hg => applyC_c g v m (cLs g v m) hr) (fun hg => ?_) (fun hg => ?_) fun K hK => ?_
      · simp [hG, List.getD_cons_zero, List.getD_cons_succ, -List.getD_eq_getElem?_getD, pureOp]
      · simp [hG, List.getD_cons_zero, List.getD_cons_succ, -List.getD_eq_getElem?_getD, pureOp]
      simp [hG, List.getD_cons_zero, List.getD_cons_succ, -List.getD_eq_getElem?_getD, pureOp]
      refine hK _ ?_
      clear K hK
      refine awpL_reg T_ok 10 fun K hK => ?_
      simp [hG, List.getD_cons_zero, List.getD_cons_succ, -List.getD_eq_getElem?_getD, pureOp]
      refine ⟨Cond.mk (by exact trivial), hK _ ?_⟩
      clear K hK
      refine awpL_nil ?_
      refine awpS_seq ?_
      refine awpS_seq ?_
      refine awpS_reg T_ok fun K hK => ?_
      simp [hG, List.getD_cons_zero, List.getD_cons_succ, -List.getD_eq_getElem?_getD, pureOp]
      refine hK _ ?_
      clear K hK
      refine awpS_cond rfl (fun hb49 => ?_) (fun hb49 => ?_)
      ·
        try simp [-List.getD_eq_getElem?_getD] at hb49
        have h04 := apl_04 hRd
        refine awpS_seq ?_
        refine awpS_regL ?_
        refine awpL_reg T_ok 3 fun K hK => ?_
        simp [hG, List.getD_cons_zero, List.getD_cons_succ, -List.getD_eq_getElem?_getD, pureOp]
        refine hK _ ?_
        clear K hK
        refine awpL_call cal9 rfl rfl (fun _ => rfl) (fun hg => awake_c) (fun hg => ?_) (fun hg => ?_) fun K hK => ?_
        · first | (simp [hG, List.getD_cons_zero, List.getD_cons_succ, -List.getD_eq_getElem?_getD, pureOp]; done) | (simp [-List.getD_eq_getElem?_getD] at hg; done) | (simp [-List.getD_eq_getElem?_getD] at hg; simp [hG, List.getD_cons_zero, List.getD_cons_succ, -List.getD_eq_getElem?_getD, pureOp]; first | omega | exact hg | (simp_all [-List.getD_eq_getElem?_getD]; done) | (simp_all [-List.getD_eq_getElem?_getD]; first | exact ⟨rfl, rfl⟩ | exact rfl))
        · first | (simp [hG, List.getD_cons_zero, List.getD_cons_succ, -List.getD_eq_getElem?_getD, pureOp]; done) | (simp [-List.getD_eq_getElem?_getD] at hg; done) | (simp [-List.getD_eq_getElem?_getD] at hg; simp [hG, List.getD_cons_zero, List.getD_cons_succ, -List.getD_eq_getElem?_getD, pureOp]; first | omega | exact hg | (simp_all [-List.getD_eq_getElem?_getD]; done) | (simp_all [-List.getD_eq_getElem?_getD]; first | exact ⟨rfl, rfl⟩ | exact rfl))
        simp [hG, List.getD_cons_zero, List.getD_cons_succ, -List.getD_eq_getElem?_getD, pureOp]
        refine hK _ ?_
        clear K hK
        refine awpL_reg T_ok 2 fun K hK => ?_
        simp [hG, List.getD_cons_zero, List.getD_cons_succ, -List.getD_eq_getElem?_getD, pureOp]
        refine hK _ ?_
        clear K hK
        refine awpL_nil ?_
        refine awpS_ret ?_
        refine RetOK_of ?_
        simp [hG, List.getD_cons_zero, List.getD_cons_succ, -List.getD_eq_getElem?_getD, pureOp]
        exact (h04.resolve_left hb49)
      ·
        try simp [-List.getD_eq_getElem?_getD] at hb49
        obtain ⟨e1, e2, e3, hof, hed2⟩ := apl_z hRd hb49
        rw [e1, e2, e3]
        have hSt : (splG g (cLs g v m)).states = (offA g (cLs g v m) g.states.toNat : Nat) := rfl
        have hpl := parA_len (g := g) (l := (cLs g v m)) g.states.toNat
        have hwl := hvA_len (g := g) (v := v) (m := m) (l := (cLs g v m)) g.states.toNat
        have hst := (gcheck_valid hRd.gv).1.st
        have hed := (gcheck_valid hRd.gv).1.ed
        have hvls := hRd.vl
        have hE := (baseN_zero (hRd.eig hof hed2)).1
        have hmore := cRd_more hRd.base (by rw [← hcl]; exact hr)
        rw [← hcl] at hmore
        have hwm := hRd.hv_mem
        refine awpS_skip ?_
        refine awpS_seq ?_
        refine awpS_seq ?_
        refine awpS_regL ?_
        refine awpL_reg T_ok 3 fun K hK => ?_
        simp [hG, List.getD_cons_zero, List.getD_cons_succ, -List.getD_eq_getElem?_getD, pureOp]
        refine hK _ ?_
        clear K hK
        refine awpL_call cal17 rfl rfl (fun _ => rfl) (fun hg => eigC_c (splG g (cLs g v m)) (hvA g v m (cLs g v m) g.states.toNat) m) (fun hg => ?_) (fun hg => ?_) fun K hK => ?_
        · simp [hG, List.getD_cons_zero, List.getD_cons_succ, -List.getD_eq_getElem?_getD, pureOp]
        · simp [hG, List.getD_cons_zero, List.getD_cons_succ, -List.getD_eq_getElem?_getD, pureOp]
        simp [hG, List.getD_cons_zero, List.getD_cons_succ, -List.getD_eq_getElem?_getD, pureOp]
        refine hK _ ?_
        clear K hK
        refine awpL_reg T_ok 25 fun K hK => ?_
        simp [hG, List.getD_cons_zero, List.getD_cons_succ, -List.getD_eq_getElem?_getD, pureOp]
        refine ⟨Cond.mk (by omega), hK _ ?_⟩
        clear K hK
        refine awpL_nil ?_
        refine awpS_cond rfl (fun hb83 => ?_) (fun hb83 => ?_)
        ·
          exfalso; simp [-List.getD_eq_getElem?_getD] at hb83; omega
        ·
          try simp [-List.getD_eq_getElem?_getD] at hb83
          refine awpS_skip ?_
          refine awpS_seq ?_
          refine awpS_reg T_ok fun K hK => ?_
          simp [hG, List.getD_cons_zero, List.getD_cons_succ, -List.getD_eq_getElem?_getD, pureOp]
          refine ⟨Cond.mk (by omega), hK _ ?_⟩
          clear K hK
          refine awpS_seq ?_
          refine awpS_seq ?_
          refine awpS_reg T_ok fun K hK => ?_
          simp [hG, List.getD_cons_zero, List.getD_cons_succ, -List.getD_eq_getElem?_getD, pureOp]
          refine hK _ ?_
          clear K hK
          refine awpS_block ?_
          refine awpS_loop (α := Nat) (fun k => ⟨[(1, ints v), (10, ints (hvA g v m (cLs g v m) g.states.toNat)), (11, ints (parA g (cLs g v m) g.states.toNat)), (13, .sl (1, 0) 0 v.length), (87, ints (parA g (cLs g v m) g.states.toNat)), (88, .int .i64 (parA g (cLs g v m) g.states.toNat).length), (89, .int .i64 (k : Nat))], [(0, .one (.arr 1 3 (fun _ => grF g))), (1, .one (.arr v.length 1 (fun s _ => .int .i64 (wsA (parA g (cLs g v m) g.states.toNat) (hvA g v m (cLs g v m) g.states.toNat) k s))))], 2⟩) (fun k => k ≤ (parA g (cLs g v m) g.states.toNat).length) (fun k => (parA g (cLs g v m) g.states.toNat).length - k) (0) (Nat.zero_le _) ?_ ?_
          ·
            refine wk_of (fun k => if k = 1 then 2 else k) (fun _ => false) (fun _ => false) ?_ ?_ rfl (Nat.zero_le _) (fun k hk => absurd hk (Nat.not_lt_zero _))
            · simp [hG, List.getD_cons_zero, List.getD_cons_succ, -List.getD_eq_getElem?_getD, pureOp]
            · simp [hG, List.getD_cons_zero, List.getD_cons_succ, -List.getD_eq_getElem?_getD]; exact fun i _ => rfl
          ·
            rintro k hk0
            refine awpS_seq ?_
            refine awpS_reg T_ok fun K hK => ?_
            simp [hG, List.getD_cons_zero, List.getD_cons_succ, -List.getD_eq_getElem?_getD, pureOp]
            refine hK _ ?_
            clear K hK
            refine awpS_seq ?_
            refine awpS_cond rfl (fun hb90 => ?_) (fun hb90 => ?_)
            ·
              try simp [-List.getD_eq_getElem?_getD] at hb90
              have hk : k < (parA g (cLs g v m) g.states.toNat).length := (by omega)
              have hpm := parA_mem (getD_mem (d := (0 : Int)) hk)
              have hps := fun h0 => parA_step (k := k) h0 hk
              have hw1 := hwm _ (getD_mem (d := (0 : Int)) (show k < (hvA g v m (cLs g v m) g.states.toNat).length by omega))
              have hwb := wsA_box (p := (parA g (cLs g v m) g.states.toNat)) hwm (s := ((parA g (cLs g v m) g.states.toNat).getD k 0).toNat) k
              refine awpS_skip ?_
              refine awpS_seq ?_
              refine awpS_block ?_
              refine awpS_seq ?_
              refine awpS_reg T_ok fun K hK => ?_
              simp [hG, List.getD_cons_zero, List.getD_cons_succ, -List.getD_eq_getElem?_getD, pureOp]
              refine ⟨Cond.mk (by omega), hK _ ?_⟩
              clear K hK
              refine awpS_seq ?_
              refine awpS_seq ?_
              refine awpS_reg T_ok fun K hK => ?_
              simp [hG, List.getD_cons_zero, List.getD_cons_succ, -List.getD_eq_getElem?_getD, pureOp]
              refine ⟨Cond.mk (by omega), hK _ ?_⟩
              clear K hK
              refine awpS_cond rfl (fun hb121 => ?_) (fun hb121 => ?_)
              ·
                exfalso; simp [-List.getD_eq_getElem?_getD] at hb121; omega
              ·
                try simp [-List.getD_eq_getElem?_getD] at hb121
                refine awpS_skip ?_
                refine awpS_draw hR mixed [] ⟨[10], [], []⟩ fun mu0 => ?_
                refine awpA_tk T_ok [0, 1, 2, 3, 4, 5, 6, 7, 8, 9] [] (fuel := 1) [9, 8, 7, 6, 5, 4, 3, 2, 1, 0] (by decide +kernel) (by decide +kernel) rfl rfl fun K hK => ?_
                simp [hG, List.getD_cons_zero, List.getD_cons_succ, -List.getD_eq_getElem?_getD, pureOp]
                refine ⟨Cond.mk (by omega), hK _ ?_⟩
                clear K hK
                refine awpA_only (fuel := 0) (i := 10) (by decide +kernel) ?_
                refine awpO_reg T_ok rfl ?_ fun K hK => ?_
                · simp [hG, List.getD_cons_zero, List.getD_cons_succ, -List.getD_eq_getElem?_getD, pureOp]; try exact trivial
                simp [hG, List.getD_cons_zero, List.getD_cons_succ, -List.getD_eq_getElem?_getD, pureOp]
                refine ⟨Cond.mk (by omega), hK _ ?_⟩
                clear K hK
                refine awpA_done (by decide +kernel) ?_
                refine awpS_nil ?_
                refine blockQ_norm (thenQ_norm ?_)
                refine awpS_reg T_ok fun K hK => ?_
                simp [hG, List.getD_cons_zero, List.getD_cons_succ, -List.getD_eq_getElem?_getD, pureOp]
                refine ⟨Cond.mk (by omega), hK _ ?_⟩
                clear K hK
                refine awpS_nil ?_
                refine round_end (k + 1) (by omega) (by omega) ?_
                refine wk_of (id) (fun _ => false) (fun _ => false) ?_ ?_ rfl (Nat.zero_le _) (fun k hk => absurd hk (Nat.not_lt_zero _))
                · simp [hG, List.getD_cons_zero, List.getD_cons_succ, -List.getD_eq_getElem?_getD, pureOp]
                · simp [hG, List.getD_cons_zero, List.getD_cons_succ, -List.getD_eq_getElem?_getD]; exact fun s hs => by rw [wsA_succ]; by_cases h : s = ((parA g (cLs g v m) g.states.toNat).getD k 0).toNat; (rw [if_pos h, if_pos (by omega), h]); (rw [if_neg h, if_neg (by omega), Int.add_zero])
            ·
              try simp [-List.getD_eq_getElem?_getD] at hb90
              obtain rfl : k = (parA g (cLs g v m) g.states.toNat).length := (by omega)
              have hfin : ∀ q, q < v.length → wsA (parA g (cLs g v m) g.states.toNat) (hvA g v m (cLs g v m) g.states.toNat) (parA g (cLs g v m) g.states.toNat).length q = v.getD q 0 := fun q hq => by rw [hpl, hRd.ws _ (Nat.le_refl _), if_pos (by omega)]
              refine awpS_exit ?_
              refine thenQ_exit (thenQ_exit ?_)
              refine blockQ_exit (thenQ_norm ?_)
              refine awpS_seq ?_
              refine awpS_regL ?_
              refine awpL_reg T_ok 2 fun K hK => ?_
              simp [hG, List.getD_cons_zero, List.getD_cons_succ, -List.getD_eq_getElem?_getD, pureOp]
              refine hK _ ?_
              clear K hK
              refine awpL_callB (mem [1]) cal18 (by simp [flat]) rfl rfl (fun _ => rfl) (fun hg => equalI_c v v (by omega)) (fun hg => ?_) (fun hg => ?_) fun K hK => ?_
              · simp [hG, List.getD_cons_zero, List.getD_cons_succ, -List.getD_eq_getElem?_getD, pureOp]
              · simp [hG, List.getD_cons_zero, List.getD_cons_succ, -List.getD_eq_getElem?_getD]; exact fun q hq => hfin q hq
              simp [hG, List.getD_cons_zero, List.getD_cons_succ, -List.getD_eq_getElem?_getD, pureOp]
              refine hK _ ?_
              clear K hK
              refine awpL_reg T_ok 1 fun K hK => ?_
              simp [hG, List.getD_cons_zero, List.getD_cons_succ, -List.getD_eq_getElem?_getD, pureOp]
              refine hK _ ?_
              clear K hK
              refine awpL_call cal9 rfl rfl (fun _ => rfl) (fun hg => awake_c) (fun hg => ?_) (fun hg => ?_) fun K hK => ?_
              · first | (simp [hG, List.getD_cons_zero, List.getD_cons_succ, -List.getD_eq_getElem?_getD, pureOp]; done) | (simp [-List.getD_eq_getElem?_getD] at hg; done) | (simp [-List.getD_eq_getElem?_getD] at hg; simp [hG, List.getD_cons_zero, List.getD_cons_succ, -List.getD_eq_getElem?_getD, pureOp]; first | omega | exact hg | (simp_all [-List.getD_eq_getElem?_getD]; done) | (simp_all [-List.getD_eq_getElem?_getD]; first | exact ⟨rfl, rfl⟩ | exact rfl))
              · first | (simp [hG, List.getD_cons_zero, List.getD_cons_succ, -List.getD_eq_getElem?_getD, pureOp]; done) | (simp [-List.getD_eq_getElem?_getD] at hg; done) | (simp [-List.getD_eq_getElem?_getD] at hg; simp [hG, List.getD_cons_zero, List.getD_cons_succ, -List.getD_eq_getElem?_getD, pureOp]; first | omega | exact hg | (simp_all [-List.getD_eq_getElem?_getD]; done) | (simp_all [-List.getD_eq_getElem?_getD]; first | exact ⟨rfl, rfl⟩ | exact rfl))
              simp [hG, List.getD_cons_zero, List.getD_cons_succ, -List.getD_eq_getElem?_getD, pureOp]
              refine hK _ ?_
              clear K hK
              refine awpL_reg T_ok 2 fun K hK => ?_
              simp [hG, List.getD_cons_zero, List.getD_cons_succ, -List.getD_eq_getElem?_getD, pureOp]
              refine hK _ ?_
              clear K hK
              refine awpL_nil ?_
              refine awpS_ret ?_
              refine RetOK_of ?_
              simp [hG, List.getD_cons_zero, List.getD_cons_succ, -List.getD_eq_getElem?_getD, pureOp]

end Go.Proofs.Ythpdkmoedpcboaa
