/-
  Walk: the law ReductionChanges.
-/
import Derived.Test.YtmjkbidnghcfnaaWT
import Derived.Test.YtmjkbidnghcfnaaWY
import Derived.Test.YtmjkbidnghcfnaaXA
import Derived.Test.YtmjkbidnghcfnaaXB
import Derived.Test.YtmjkbidnghcfnaaWN
namespace Go.Proofs.Ytmjkbidnghcfnaa
set_option linter.unusedSimpArgs false
set_option linter.unusedVariables false
open Go Go.Lift Go.Proofs

theorem fit_of {e : Enc} (hv : checkE e = 0) : e.rows.length ≤ 1000000 ∧ ∀ r ∈ e.rows, r.length ≤ 1000000 := by
  have h := rows_len hv
  refine ⟨by omega, fun r hr => ?_⟩
  obtain ⟨k, hk, rfl⟩ := List.mem_iff_getElem.1 hr
  have := row_len hv hk
  rw [getD_get hk] at this
  omega
theorem fit_nil : (⟨0, 0, 0, []⟩ : Enc).rows.length ≤ 1000000 ∧ ∀ r ∈ (⟨0, 0, 0, []⟩ : Enc).rows, r.length ≤ 1000000 := ⟨by simp, by intro r hr; cases hr⟩
theorem relX_fit {e : Enc} {L : List (List Int)} : (relX e L).rows.length ≤ 1000000 ∧ ∀ r ∈ (relX e L).rows, r.length ≤ 1000000 := by
  by_cases h : relCheck e L = 0
  · have hv : checkE e = 0 := Classical.byContradiction fun hn => by
      unfold relCheck at h; rw [if_pos hn] at h; cases h
    rw [relX_ok h]
    have hl := rows_len hv
    refine ⟨by rw [relE_len]; omega, fun r hr => ?_⟩
    obtain ⟨k, hk, rfl⟩ := List.mem_iff_getElem.1 hr
    have h1 := relE_rows_at hk
    rw [getD_get hk] at h1
    rw [h1, relCells_len]
    have := row_len hv (k := k) (by rwa [relE_len] at hk)
    omega
  · rw [relX_err rfl h]; exact fit_nil
theorem srtX_fit {e : Enc} : (srtX e).rows.length ≤ 1000000 ∧ ∀ r ∈ (srtX e).rows, r.length ≤ 1000000 := by
  by_cases h : checkE e = 0
  · rw [srtR_ok h]; exact fit_of (srt_valid h)
  · rw [srtR_no h]; exact fit_nil
theorem sameLs_len {a b : Enc} {s t : Int} (hl : checkE a = 0 → checkE b = 0 → a.rows.length + b.rows.length ≤ 64) : (sameLs a b s t).length ≤ 1000000 := by
  by_cases hN : sameNs a b s t = 0
  · rw [(same_ok hN).1]
    have hN' := hN
    unfold sameNs at hN'
    split at hN'
    · cases hN'
    · rename_i h1
      split at hN'
      · cases hN'
      · rename_i h2
        split at hN'
        · cases hN'
        · rename_i h3
          have hva : checkE a = 0 := Classical.byContradiction fun h => h1 (.inl h)
          have hvb : checkE b = 0 := Classical.byContradiction fun h => h1 (.inr h)
          have hm := Classical.byContradiction fun h => h2 h
          have hll := hl hva hvb
          have hT := same_table hva hvb hm hll (s := s) (t := t) ⟨by omega, by omega⟩ ⟨by omega, by omega⟩
          cases hb : apB a b (a.rows.length + b.rows.length) s.toNat t.toNat with
          | false => rw [hT.1 hb]; simp
          | true => obtain ⟨d, hd, _, h4⟩ := hT.2 hb; rw [hd]; simp only [Option.getD_some]; omega
  · rw [(same_err rfl hN).1]; simp
theorem small_six {e : Enc} (h1 : great e = false) (hv : checkE e = 0) : e.rows.length ≤ 6 := by
  have hl := rows_len hv
  refine Classical.byContradiction fun hc => ?_
  have h2 : great e = true := great_yes (.inl (.inl ⟨by omega, by omega⟩))
  rw [h1] at h2; cases h2
set_option maxRecDepth 100000 in
theorem longI_c (x : List Int) : PC Try.prog 31 [ints x] (.bool (decide (8 < x.length))) := by
  refine PC_introS T_ok Try.func31 rfl (by simp [Try.ntmps31]) fun G hG hR => ?_
  simp only [Try.ntmps31, Try.results31] at hG ⊢
  simp only [argEnv, Nat.zero_add, Nat.reduceAdd]
  refine awpS_seq ?_
  refine awpS_reg T_ok fun K hK => ?_
  simp [hG, List.getD_cons_zero, List.getD_cons_succ, -List.getD_eq_getElem?_getD]
  refine hK _ ?_
  clear K hK
  refine awpS_seq ?_
  refine awpS_reg T_ok fun K hK => ?_
  simp [hG, List.getD_cons_zero, List.getD_cons_succ, -List.getD_eq_getElem?_getD]
  refine hK _ ?_
  clear K hK
  refine awpS_ret ?_
  refine RetOK_of ?_
  simp [hG, List.getD_cons_zero, List.getD_cons_succ, -List.getD_eq_getElem?_getD]
  omega

set_option maxRecDepth 100000 in
theorem changesLaw_c (a b : Enc) (s t : Int) (L : List (List Int)) (hL : L.length ≤ maxLen) : PC Try.prog 9 [.agg 4 (encF a), .agg 4 (encF b), .int .i64 s, .int .i64 t, rowsI L] (.bool true) := by
  refine PC_introS T_ok Try.func9 rfl (by simp [Try.ntmps9]) fun G hG hR => ?_
  simp only [Try.ntmps9, Try.results9] at hG ⊢
  simp only [argEnv, Nat.zero_add, Nat.reduceAdd]
  refine awpS_seq ?_
  refine awpS_reg T_ok fun K hK => ?_
  simp [hG, List.getD_cons_zero, List.getD_cons_succ, -List.getD_eq_getElem?_getD]
  refine ⟨Cond.mk (by simp [-List.getD_eq_getElem?_getD]), hK _ ?_⟩
  clear K hK
  refine awpS_seq ?_
  refine awpS_seq ?_
  refine awpS_regL ?_
  refine awpL_reg T_ok 1 fun K hK => ?_
  simp [hG, List.getD_cons_zero, List.getD_cons_succ, -List.getD_eq_getElem?_getD]
  refine hK _ ?_
  clear K hK
  refine awpL_call cal16 rfl rfl (fun _ => rfl) (fun hg => great_c a) (fun hg => ?_) (fun hg => ?_) fun K hK => ?_
  · simp [hG, List.getD_cons_zero, List.getD_cons_succ, -List.getD_eq_getElem?_getD]
  · simp [hG, List.getD_cons_zero, List.getD_cons_succ, -List.getD_eq_getElem?_getD]
  simp [hG, List.getD_cons_zero, List.getD_cons_succ, -List.getD_eq_getElem?_getD]
  refine hK _ ?_
  clear K hK
  refine awpL_reg T_ok 2 fun K hK => ?_
  simp [hG, List.getD_cons_zero, List.getD_cons_succ, -List.getD_eq_getElem?_getD]
  refine ⟨Cond.mk (by simp [-List.getD_eq_getElem?_getD]), hK _ ?_⟩
  clear K hK
  refine awpL_call cal16 rfl rfl (fun _ => rfl) (fun hg => great_c b) (fun hg => ?_) (fun hg => ?_) fun K hK => ?_
  · first | (simp [hG, List.getD_cons_zero, List.getD_cons_succ, -List.getD_eq_getElem?_getD]; done) | (simp [-List.getD_eq_getElem?_getD] at hg; done) | (simp [-List.getD_eq_getElem?_getD] at hg; simp [hG, List.getD_cons_zero, List.getD_cons_succ, -List.getD_eq_getElem?_getD]; first | omega | exact hg | (simp_all [-List.getD_eq_getElem?_getD]; done) | (simp_all [-List.getD_eq_getElem?_getD]; first | exact ⟨rfl, rfl⟩ | exact rfl))
  · first | (simp [hG, List.getD_cons_zero, List.getD_cons_succ, -List.getD_eq_getElem?_getD]; done) | (simp [-List.getD_eq_getElem?_getD] at hg; done) | (simp [-List.getD_eq_getElem?_getD] at hg; simp [hG, List.getD_cons_zero, List.getD_cons_succ, -List.getD_eq_getElem?_getD]; first | omega | exact hg | (simp_all [-List.getD_eq_getElem?_getD]; done) | (simp_all [-List.getD_eq_getElem?_getD]; first | exact ⟨rfl, rfl⟩ | exact rfl))
  simp [hG, List.getD_cons_zero, List.getD_cons_succ, -List.getD_eq_getElem?_getD]
  refine hK _ ?_
  clear K hK
  refine awpL_reg T_ok 8 fun K hK => ?_
  simp [hG, List.getD_cons_zero, List.getD_cons_succ, -List.getD_eq_getElem?_getD]
  refine ⟨Cond.mk (by simp [-List.getD_eq_getElem?_getD]), hK _ ?_⟩
  clear K hK
  refine awpL_call cal30 rfl rfl (fun _ => rfl) (fun hg => containsR_c L (fun x => decide (8 < x.length)) 31 0 (fun _ => .any) (by simp_all; omega) cal31 (fun _ => by simp) fun x _ => longI_c x) (fun hg => ?_) (fun hg => ?_) fun K hK => ?_
  · first | (simp [hG, List.getD_cons_zero, List.getD_cons_succ, -List.getD_eq_getElem?_getD]; done) | (simp [-List.getD_eq_getElem?_getD] at hg; done) | (simp [-List.getD_eq_getElem?_getD] at hg; simp [hG, List.getD_cons_zero, List.getD_cons_succ, -List.getD_eq_getElem?_getD]; first | omega | exact hg | (simp_all [-List.getD_eq_getElem?_getD]; done) | (simp_all [-List.getD_eq_getElem?_getD]; first | exact ⟨rfl, rfl⟩ | exact rfl))
  · first | (simp [hG, List.getD_cons_zero, List.getD_cons_succ, -List.getD_eq_getElem?_getD]; done) | (simp [-List.getD_eq_getElem?_getD] at hg; done) | (simp [-List.getD_eq_getElem?_getD] at hg; simp [hG, List.getD_cons_zero, List.getD_cons_succ, -List.getD_eq_getElem?_getD]; first | omega | exact hg | (simp_all [-List.getD_eq_getElem?_getD]; done) | (simp_all [-List.getD_eq_getElem?_getD]; first | exact ⟨rfl, rfl⟩ | exact rfl))
  simp [hG, List.getD_cons_zero, List.getD_cons_succ, -List.getD_eq_getElem?_getD]
  refine hK _ ?_
  clear K hK
  refine awpL_reg T_ok 1 fun K hK => ?_
  simp [hG, List.getD_cons_zero, List.getD_cons_succ, -List.getD_eq_getElem?_getD]
  refine hK _ ?_
  clear K hK
  refine awpL_nil ?_
  refine awpS_cond rfl (fun hb39 => ?_) (fun hb39 => ?_)
  ·
    try simp [-List.getD_eq_getElem?_getD] at hb39
    refine awpS_seq ?_
    refine awpS_regL ?_
    refine awpL_call cal12 rfl rfl (fun _ => rfl) (fun hg => awake_c) (fun hg => ?_) (fun hg => ?_) fun K hK => ?_
    · simp [hG, List.getD_cons_zero, List.getD_cons_succ, -List.getD_eq_getElem?_getD]
    · simp [hG, List.getD_cons_zero, List.getD_cons_succ, -List.getD_eq_getElem?_getD]
    simp [hG, List.getD_cons_zero, List.getD_cons_succ, -List.getD_eq_getElem?_getD]
    refine hK _ ?_
    clear K hK
    refine awpL_reg T_ok 1 fun K hK => ?_
    simp [hG, List.getD_cons_zero, List.getD_cons_succ, -List.getD_eq_getElem?_getD]
    refine hK _ ?_
    clear K hK
    refine awpL_nil ?_
    refine awpS_ret ?_
    refine RetOK_of ?_
    simp [hG, List.getD_cons_zero, List.getD_cons_succ, -List.getD_eq_getElem?_getD]
  ·
    try simp [-List.getD_eq_getElem?_getD] at hb39
    have hl : checkE a = 0 → checkE b = 0 → a.rows.length + b.rows.length ≤ 64 := fun h1 h2 => (by have := small_six hb39.1.1.1 h1; have := small_six hb39.1.1.2 h2; omega)
    have hLl : L.length ≤ 1000000 := (by omega)
    have hLr : ∀ x ∈ L, x.length ≤ 1000000 := fun x hx => (by have := hb39.2 x hx; omega)
    refine awpS_skip ?_
    refine awpS_seq ?_
    refine awpS_regL ?_
    refine awpL_reg T_ok 4 fun K hK => ?_
    simp [hG, List.getD_cons_zero, List.getD_cons_succ, -List.getD_eq_getElem?_getD]
    refine hK _ ?_
    clear K hK
    refine awpL_call cal27 rfl rfl (fun _ => rfl) (fun hg => same_c a b s t) (fun hg => ?_) (fun hg => ?_) fun K hK => ?_
    · simp [hG, List.getD_cons_zero, List.getD_cons_succ, -List.getD_eq_getElem?_getD]
    · simp [hG, List.getD_cons_zero, List.getD_cons_succ, -List.getD_eq_getElem?_getD]
    simp [hG, List.getD_cons_zero, List.getD_cons_succ, -List.getD_eq_getElem?_getD]
    refine hK _ ?_
    clear K hK
    refine awpL_reg T_ok 7 fun K hK => ?_
    simp [hG, List.getD_cons_zero, List.getD_cons_succ, -List.getD_eq_getElem?_getD]
    refine hK _ ?_
    clear K hK
    refine awpL_nil ?_
    refine awpS_seq ?_
    refine awpS_regL ?_
    refine awpL_reg T_ok 4 fun K hK => ?_
    simp [hG, List.getD_cons_zero, List.getD_cons_succ, -List.getD_eq_getElem?_getD]
    refine hK _ ?_
    clear K hK
    refine awpL_call cal32 rfl rfl (fun _ => rfl) (fun hg => sameRf_c a b s t hl) (fun hg => ?_) (fun hg => ?_) fun K hK => ?_
    · simp [hG, List.getD_cons_zero, List.getD_cons_succ, -List.getD_eq_getElem?_getD]
    · simp [hG, List.getD_cons_zero, List.getD_cons_succ, -List.getD_eq_getElem?_getD]
    simp [hG, List.getD_cons_zero, List.getD_cons_succ, -List.getD_eq_getElem?_getD]
    refine hK _ ?_
    clear K hK
    refine awpL_reg T_ok 7 fun K hK => ?_
    simp [hG, List.getD_cons_zero, List.getD_cons_succ, -List.getD_eq_getElem?_getD]
    refine hK _ ?_
    clear K hK
    refine awpL_nil ?_
    refine awpS_seq ?_
    refine awpS_regL ?_
    refine awpL_reg T_ok 2 fun K hK => ?_
    simp [hG, List.getD_cons_zero, List.getD_cons_succ, -List.getD_eq_getElem?_getD]
    refine hK _ ?_
    clear K hK
    refine awpL_call cal29 rfl rfl (fun _ => rfl) (fun hg => relabel_c a L hLl hLr) (fun hg => ?_) (fun hg => ?_) fun K hK => ?_
    · simp [hG, List.getD_cons_zero, List.getD_cons_succ, -List.getD_eq_getElem?_getD]
    · simp [hG, List.getD_cons_zero, List.getD_cons_succ, -List.getD_eq_getElem?_getD]
    simp [hG, List.getD_cons_zero, List.getD_cons_succ, -List.getD_eq_getElem?_getD]
    refine hK _ ?_
    clear K hK
    refine awpL_reg T_ok 6 fun K hK => ?_
    simp [hG, List.getD_cons_zero, List.getD_cons_succ, -List.getD_eq_getElem?_getD]
    refine ⟨Cond.mk (by simp [-List.getD_eq_getElem?_getD]), hK _ ?_⟩
    clear K hK
    refine awpL_nil ?_
    refine awpS_seq ?_
    refine awpS_regL ?_
    refine awpL_reg T_ok 2 fun K hK => ?_
    simp [hG, List.getD_cons_zero, List.getD_cons_succ, -List.getD_eq_getElem?_getD]
    refine hK _ ?_
    clear K hK
    refine awpL_call cal33 rfl rfl (fun _ => rfl) (fun hg => relabelR_c a L hLl hLr) (fun hg => ?_) (fun hg => ?_) fun K hK => ?_
    · simp [hG, List.getD_cons_zero, List.getD_cons_succ, -List.getD_eq_getElem?_getD]
    · simp [hG, List.getD_cons_zero, List.getD_cons_succ, -List.getD_eq_getElem?_getD]
    simp [hG, List.getD_cons_zero, List.getD_cons_succ, -List.getD_eq_getElem?_getD]
    refine hK _ ?_
    clear K hK
    refine awpL_reg T_ok 6 fun K hK => ?_
    simp [hG, List.getD_cons_zero, List.getD_cons_succ, -List.getD_eq_getElem?_getD]
    refine ⟨Cond.mk (by simp [-List.getD_eq_getElem?_getD]), hK _ ?_⟩
    clear K hK
    refine awpL_nil ?_
    refine awpS_seq ?_
    refine awpS_regL ?_
    refine awpL_reg T_ok 1 fun K hK => ?_
    simp [hG, List.getD_cons_zero, List.getD_cons_succ, -List.getD_eq_getElem?_getD]
    refine hK _ ?_
    clear K hK
    refine awpL_call cal34 rfl rfl (fun _ => rfl) (fun hg => sort_c a) (fun hg => ?_) (fun hg => ?_) fun K hK => ?_
    · simp [hG, List.getD_cons_zero, List.getD_cons_succ, -List.getD_eq_getElem?_getD]
    · simp [hG, List.getD_cons_zero, List.getD_cons_succ, -List.getD_eq_getElem?_getD]
    simp [hG, List.getD_cons_zero, List.getD_cons_succ, -List.getD_eq_getElem?_getD]
    refine hK _ ?_
    clear K hK
    refine awpL_reg T_ok 6 fun K hK => ?_
    simp [hG, List.getD_cons_zero, List.getD_cons_succ, -List.getD_eq_getElem?_getD]
    refine ⟨Cond.mk (by simp [-List.getD_eq_getElem?_getD]), hK _ ?_⟩
    clear K hK
    refine awpL_nil ?_
    refine awpS_seq ?_
    refine awpS_regL ?_
    refine awpL_reg T_ok 1 fun K hK => ?_
    simp [hG, List.getD_cons_zero, List.getD_cons_succ, -List.getD_eq_getElem?_getD]
    refine hK _ ?_
    clear K hK
    refine awpL_call cal35 rfl rfl (fun _ => rfl) (fun hg => sortR_c a) (fun hg => ?_) (fun hg => ?_) fun K hK => ?_
    · simp [hG, List.getD_cons_zero, List.getD_cons_succ, -List.getD_eq_getElem?_getD]
    · simp [hG, List.getD_cons_zero, List.getD_cons_succ, -List.getD_eq_getElem?_getD]
    simp [hG, List.getD_cons_zero, List.getD_cons_succ, -List.getD_eq_getElem?_getD]
    refine hK _ ?_
    clear K hK
    refine awpL_reg T_ok 6 fun K hK => ?_
    simp [hG, List.getD_cons_zero, List.getD_cons_succ, -List.getD_eq_getElem?_getD]
    refine ⟨Cond.mk (by simp [-List.getD_eq_getElem?_getD]), hK _ ?_⟩
    clear K hK
    refine awpL_nil ?_
    refine awpS_seq ?_
    refine awpS_regL ?_
    refine awpL_reg T_ok 2 fun K hK => ?_
    simp [hG, List.getD_cons_zero, List.getD_cons_succ, -List.getD_eq_getElem?_getD]
    refine hK _ ?_
    clear K hK
    refine awpL_call cal22 rfl rfl (fun _ => rfl) (fun hg => equal_c (sameLs a b s t) (sameLs a b s t) (sameLs_len hl) (sameLs_len hl)) (fun hg => ?_) (fun hg => ?_) fun K hK => ?_
    · simp [hG, List.getD_cons_zero, List.getD_cons_succ, -List.getD_eq_getElem?_getD]
    · simp [hG, List.getD_cons_zero, List.getD_cons_succ, -List.getD_eq_getElem?_getD]
    simp [hG, List.getD_cons_zero, List.getD_cons_succ, -List.getD_eq_getElem?_getD]
    refine hK _ ?_
    clear K hK
    refine awpL_reg T_ok 13 fun K hK => ?_
    simp [hG, List.getD_cons_zero, List.getD_cons_succ, -List.getD_eq_getElem?_getD]
    refine ⟨Cond.mk (by simp [-List.getD_eq_getElem?_getD]), hK _ ?_⟩
    clear K hK
    refine awpL_call cal23 rfl rfl (fun _ => rfl) (fun hg => sameEnc_c (relX a L) relX_fit.1 relX_fit.2) (fun hg => ?_) (fun hg => ?_) fun K hK => ?_
    · first | (simp [hG, List.getD_cons_zero, List.getD_cons_succ, -List.getD_eq_getElem?_getD]; done) | (simp [-List.getD_eq_getElem?_getD] at hg; done) | (simp [-List.getD_eq_getElem?_getD] at hg; simp [hG, List.getD_cons_zero, List.getD_cons_succ, -List.getD_eq_getElem?_getD]; first | omega | exact hg | (simp_all [-List.getD_eq_getElem?_getD]; done) | (simp_all [-List.getD_eq_getElem?_getD]; first | exact ⟨rfl, rfl⟩ | exact rfl))
    · first | (simp [hG, List.getD_cons_zero, List.getD_cons_succ, -List.getD_eq_getElem?_getD]; done) | (simp [-List.getD_eq_getElem?_getD] at hg; done) | (simp [-List.getD_eq_getElem?_getD] at hg; simp [hG, List.getD_cons_zero, List.getD_cons_succ, -List.getD_eq_getElem?_getD]; first | omega | exact hg | (simp_all [-List.getD_eq_getElem?_getD]; done) | (simp_all [-List.getD_eq_getElem?_getD]; first | exact ⟨rfl, rfl⟩ | exact rfl))
    simp [hG, List.getD_cons_zero, List.getD_cons_succ, -List.getD_eq_getElem?_getD]
    refine hK _ ?_
    clear K hK
    refine awpL_reg T_ok 9 fun K hK => ?_
    simp [hG, List.getD_cons_zero, List.getD_cons_succ, -List.getD_eq_getElem?_getD]
    refine ⟨Cond.mk (by simp [-List.getD_eq_getElem?_getD]), hK _ ?_⟩
    clear K hK
    refine awpL_call cal23 rfl rfl (fun _ => rfl) (fun hg => sameEnc_c (srtX a) srtX_fit.1 srtX_fit.2) (fun hg => ?_) (fun hg => ?_) fun K hK => ?_
    · first | (simp [hG, List.getD_cons_zero, List.getD_cons_succ, -List.getD_eq_getElem?_getD]; done) | (simp [-List.getD_eq_getElem?_getD] at hg; done) | (simp [-List.getD_eq_getElem?_getD] at hg; simp [hG, List.getD_cons_zero, List.getD_cons_succ, -List.getD_eq_getElem?_getD]; first | omega | exact hg | (simp_all [-List.getD_eq_getElem?_getD]; done) | (simp_all [-List.getD_eq_getElem?_getD]; first | exact ⟨rfl, rfl⟩ | exact rfl))
    · first | (simp [hG, List.getD_cons_zero, List.getD_cons_succ, -List.getD_eq_getElem?_getD]; done) | (simp [-List.getD_eq_getElem?_getD] at hg; done) | (simp [-List.getD_eq_getElem?_getD] at hg; simp [hG, List.getD_cons_zero, List.getD_cons_succ, -List.getD_eq_getElem?_getD]; first | omega | exact hg | (simp_all [-List.getD_eq_getElem?_getD]; done) | (simp_all [-List.getD_eq_getElem?_getD]; first | exact ⟨rfl, rfl⟩ | exact rfl))
    simp [hG, List.getD_cons_zero, List.getD_cons_succ, -List.getD_eq_getElem?_getD]
    refine hK _ ?_
    clear K hK
    refine awpL_reg T_ok 7 fun K hK => ?_
    simp [hG, List.getD_cons_zero, List.getD_cons_succ, -List.getD_eq_getElem?_getD]
    refine ⟨Cond.mk (by simp [-List.getD_eq_getElem?_getD]), hK _ ?_⟩
    clear K hK
    refine awpL_call cal12 rfl rfl (fun _ => rfl) (fun hg => awake_c) (fun hg => ?_) (fun hg => ?_) fun K hK => ?_
    · first | (simp [hG, List.getD_cons_zero, List.getD_cons_succ, -List.getD_eq_getElem?_getD]; done) | (simp [-List.getD_eq_getElem?_getD] at hg; done) | (simp [-List.getD_eq_getElem?_getD] at hg; simp [hG, List.getD_cons_zero, List.getD_cons_succ, -List.getD_eq_getElem?_getD]; first | omega | exact hg | (simp_all [-List.getD_eq_getElem?_getD]; done) | (simp_all [-List.getD_eq_getElem?_getD]; first | exact ⟨rfl, rfl⟩ | exact rfl))
    · first | (simp [hG, List.getD_cons_zero, List.getD_cons_succ, -List.getD_eq_getElem?_getD]; done) | (simp [-List.getD_eq_getElem?_getD] at hg; done) | (simp [-List.getD_eq_getElem?_getD] at hg; simp [hG, List.getD_cons_zero, List.getD_cons_succ, -List.getD_eq_getElem?_getD]; first | omega | exact hg | (simp_all [-List.getD_eq_getElem?_getD]; done) | (simp_all [-List.getD_eq_getElem?_getD]; first | exact ⟨rfl, rfl⟩ | exact rfl))
    simp [hG, List.getD_cons_zero, List.getD_cons_succ, -List.getD_eq_getElem?_getD]
    refine hK _ ?_
    clear K hK
    refine awpL_reg T_ok 2 fun K hK => ?_
    simp [hG, List.getD_cons_zero, List.getD_cons_succ, -List.getD_eq_getElem?_getD]
    refine hK _ ?_
    clear K hK
    refine awpL_nil ?_
    refine awpS_ret ?_
    refine RetOK_of ?_
    simp [hG, List.getD_cons_zero, List.getD_cons_succ, -List.getD_eq_getElem?_getD]

end Go.Proofs.Ytmjkbidnghcfnaa
