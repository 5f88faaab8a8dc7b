/-
  Walks: the iterator of what is reached, and Reach.
-/
import Derived.Test.YtmjkbidnghcfnaaWI
import Derived.Test.YtmjkbidnghcfnaaPJ
namespace Go.Proofs.Ytmjkbidnghcfnaa
set_option linter.unusedSimpArgs false
set_option linter.unusedVariables false
open Go Go.Lift Go.Proofs

@[simp] theorem VLe_yld2 {h : Heap} {σ : Lift.Id → Lift.Id} {fz : Nat → Bool} {vz : Lift.Id → Bool} {nx l : Nat} {vs : Array Value} {f f' : Nat → AVal} : VLe h σ fz vz nx (.yld l vs 2 f) (.yld l vs 2 f') = (VLe h σ fz vz nx (f 0) (f' 0) ∧ VLe h σ fz vz nx (f 1) (f' 1)) := by
  apply propext
  constructor
  · rintro ⟨_, _, _, h⟩
    exact ⟨h 0 (by omega), h 1 (by omega)⟩
  · rintro ⟨h0, h1⟩
    refine ⟨rfl, rfl, rfl, fun j hj => ?_⟩
    match j, hj with
    | 0, _ => exact h0
    | 1, _ => exact h1
theorem plc_upd {K : List Int} {x : Int} (h : x ∉ K) (hx : 0 ≤ x) {i : Nat} : (if i = x.toNat then AVal.int IntKind.i64 (K.length : Int) else .int .i64 (plc K i)) = .int .i64 (plc (K ++ [x]) i) := by
  rw [plc_add h]
  by_cases e : i = x.toNat
  · rw [if_pos e, if_pos (by omega)]
  · rw [if_neg e, if_neg (by omega)]
theorem ordRow_in0 {e : Enc} {L : List Int} {x i : Nat} (h0 : 0 ≤ ((e.rows.getD x []).getD i dc).to) (h : inL (ordRow e L x i) ((e.rows.getD x []).getD i dc).to.toNat = false) : ordRow e L x (i + 1) = ordRow e L x i ++ [((e.rows.getD x []).getD i dc).to] := by
  rw [ordRow_succ]
  exact if_neg fun hm => by have := (inL_iff h0).2 hm; rw [h] at this; cases this
theorem ordRow_in1 {e : Enc} {L : List Int} {x i : Nat} (h0 : 0 ≤ ((e.rows.getD x []).getD i dc).to) (h : inL (ordRow e L x i) ((e.rows.getD x []).getD i dc).to.toNat = true) : ordRow e L x (i + 1) = ordRow e L x i := by
  rw [ordRow_succ]
  exact if_pos ((inL_iff h0).1 h)
theorem in_first {e : Enc} {s i : Nat} : (if i = s then AVal.bool true else .bool false) = .bool (inL (ordAt e s 0) i) := by
  unfold inL
  by_cases h : i = s
  · subst h; simp [ordAt]
  · rw [if_neg h, decide_eq_false]
    intro hm
    have : (i : Int) = (s : Int) := by simpa [ordAt] using hm
    omega
set_option maxRecDepth 100000 in
theorem addR_y (e : Enc) (K : List Int) (x : Int) (hl : e.rows.length ≤ 64) (hK : K.length ≤ 64) (hx : 0 ≤ x ∧ x < (e.rows.length : Int)) (hn : x ∉ K) {l : Nat} {rec : Loop} {vs : Array Value} (hok : RecOK rec [7, 8] vs #[36] (rngA Try.f19.body 0) (rngB Try.f19.body 0) 85) : YC Try.prog l rec vs ([.int .i64 x] ++ [.ptr (0, 0) 0 0, .ptr (1, 0) 0 0]) [(0, .one (.arr 1 1 (fun _ _ => .sl (3, 0) 0 (K).length))), (1, .one (.arr 1 1 (fun _ _ => .sl (2, 0) 0 e.rows.length))), (2, .one (.arr e.rows.length 1 (fun j _ => .int .i64 (plc (K) j)))), (3, .one (.arr (K).length 1 (fun j _ => .int .i64 ((K).getD j 0))))] 4 (fun _ : Unit => True) (fun _ : Unit => .bool true) (fun _ : Unit => [(0, .one (.arr 1 1 (fun _ _ => .sl (4, 0) 0 (K ++ [x]).length))), (1, .one (.arr 1 1 (fun _ _ => .sl (2, 0) 0 e.rows.length))), (2, .one (.arr e.rows.length 1 (fun j _ => .int .i64 (plc (K ++ [x]) j)))), (4, .one (.arr (K ++ [x]).length 1 (fun j _ => .int .i64 ((K ++ [x]).getD j 0))))]) (fun _ : Unit => 5) := by
  refine YC_introS hok rfl rfl rfl (by simp) rfl fun G hG hR => ?_
  show AwpS _ _ _ _ _ ⟨[(36, .int .i64 x), (7, .ptr (0, 0) 0 0), (8, .ptr (1, 0) 0 0)], [(0, .one (.arr 1 1 (fun _ _ => .sl (3, 0) 0 (K).length))), (1, .one (.arr 1 1 (fun _ _ => .sl (2, 0) 0 e.rows.length))), (2, .one (.arr e.rows.length 1 (fun j _ => .int .i64 (plc (K) j)))), (3, .one (.arr (K).length 1 (fun j _ => .int .i64 ((K).getD j 0))))], 4⟩
  refine awpS_reg T_ok fun K hK => ?_
  simp [hG, List.getD_cons_zero, List.getD_cons_succ, -List.getD_eq_getElem?_getD]
  first | refine hK _ ?_ | refine ⟨Cond.mk (by first | omega | (simp [-List.getD_eq_getElem?_getD]; done) | (simp [-List.getD_eq_getElem?_getD]; omega) | (simp [-List.getD_eq_getElem?_getD]; repeat (first | intro _ | exact And.intro ‹_› ‹_› | apply And.intro | assumption | omega | exact decide_eq_true (by assumption)))), hK _ ?_⟩
  clear K hK
  refine awpS_nil ?_
  refine ⟨rfl, fun G hG hR => ?_⟩
  refine awpS_block ?_
  refine awpS_seq ?_
  refine awpS_reg T_ok fun K hK => ?_
  simp [hG, List.getD_cons_zero, List.getD_cons_succ, -List.getD_eq_getElem?_getD]
  first | refine hK _ ?_ | refine ⟨Cond.mk (by first | omega | (simp [-List.getD_eq_getElem?_getD]; done) | (simp [-List.getD_eq_getElem?_getD]; omega) | (simp [-List.getD_eq_getElem?_getD]; repeat (first | intro _ | exact And.intro ‹_› ‹_› | apply And.intro | assumption | omega | exact decide_eq_true (by assumption)))), hK _ ?_⟩
  clear K hK
  refine awpS_reg T_ok fun K hK => ?_
  simp [hG, List.getD_cons_zero, List.getD_cons_succ, -List.getD_eq_getElem?_getD]
  first | refine hK _ ?_ | refine ⟨Cond.mk (by first | omega | (simp [-List.getD_eq_getElem?_getD]; done) | (simp [-List.getD_eq_getElem?_getD]; omega) | (simp [-List.getD_eq_getElem?_getD]; repeat (first | intro _ | exact And.intro ‹_› ‹_› | apply And.intro | assumption | omega | exact decide_eq_true (by assumption)))), hK _ ?_⟩
  clear K hK
  refine awpS_nil ?_
  refine blockQ_norm (thenQ_norm ?_)
  refine awpS_nil ?_
  refine ⟨rfl, RetY_of (()) (fun k => if k = 4 then 5 else k) (fun _ => false) (fun _ => false) trivial ?_ (by rfl) (by simp) (fun k hk => ⟨if_neg (by omega), rfl⟩)⟩
  · simp [hG, List.getD_cons_zero, List.getD_cons_succ, -List.getD_eq_getElem?_getD]; exact ⟨fun i _ => plc_upd hn hx.1, fun i hi => app_one hi⟩

set_option maxRecDepth 100000 in
theorem reachedIt_c (e : Enc) (s : Nat) (hv : checkE e = 0) (hs : s < e.rows.length) (l : Nat) (rec : Loop) (vs : Array Value) (hok : RecOK rec [7, 8] vs #[36] (rngA Try.f19.body 0) (rngB Try.f19.body 0) 85) : FCY Try.prog 64 l rec [.yld l vs 2 (fun j => [.ptr (0, 0) 0 0, .ptr (1, 0) 0 0].getD j .any), .vptr 4 (encF e) 0, .vptr 1 (fun _ => .int .i64 (s : Int)) 0] [(0, .one (.arr 1 1 (fun _ _ => .nils))), (1, .one (.arr 1 1 (fun _ _ => .sl (2, 0) 0 e.rows.length))), (2, .one (.arr e.rows.length 1 (fun _ _ => .int .i64 0)))] 3 (fun _ : Unit => True) (fun _ : Unit => .any) (fun _ : Unit => [(0, .one (.arr 1 1 (fun _ _ => .sl (3, 0) 0 (ordE e s).length))), (1, .one (.arr 1 1 (fun _ _ => .sl (2, 0) 0 e.rows.length))), (2, .one (.arr e.rows.length 1 (fun j _ => .int .i64 (plc (ordE e s) j)))), (3, .one (.arr (ordE e s).length 1 (fun j _ => .int .i64 ((ordE e s).getD j 0))))]) (fun _ : Unit => 4) := by
  have hl64 := rows_len hv
  have hin := (checkE_valid hv).1.inputs
  refine FCY_introS T_ok Try.func64 rfl (by simp [Try.ntmps64]) fun G hG hR hrec => ?_
  simp only [Try.ntmps64, Try.results64] at hG ⊢
  simp only [argEnv, Nat.zero_add, Nat.reduceAdd]
  refine awpS_seq ?_
  refine awpS_reg T_ok fun K hK => ?_
  simp [hG, List.getD_cons_zero, List.getD_cons_succ, -List.getD_eq_getElem?_getD]
  first | refine hK _ ?_ | refine ⟨Cond.mk (by first | omega | (simp [-List.getD_eq_getElem?_getD]; done) | (simp [-List.getD_eq_getElem?_getD]; omega) | (simp [-List.getD_eq_getElem?_getD]; repeat (first | intro _ | exact And.intro ‹_› ‹_› | apply And.intro | assumption | omega | exact decide_eq_true (by assumption)))), hK _ ?_⟩
  clear K hK
  refine awpS_seq ?_
  refine awpS_reg T_ok fun K hK => ?_
  simp [hG, List.getD_cons_zero, List.getD_cons_succ, -List.getD_eq_getElem?_getD]
  first | refine hK _ ?_ | refine ⟨Cond.mk (by first | omega | (simp [-List.getD_eq_getElem?_getD]; done) | (simp [-List.getD_eq_getElem?_getD]; omega) | (simp [-List.getD_eq_getElem?_getD]; repeat (first | intro _ | exact And.intro ‹_› ‹_› | apply And.intro | assumption | omega | exact decide_eq_true (by assumption)))), hK _ ?_⟩
  clear K hK
  refine awpS_seq ?_
  refine awpS_reg T_ok fun K hK => ?_
  simp [hG, List.getD_cons_zero, List.getD_cons_succ, -List.getD_eq_getElem?_getD]
  first | refine hK _ ?_ | refine ⟨Cond.mk (by first | omega | (simp [-List.getD_eq_getElem?_getD]; done) | (simp [-List.getD_eq_getElem?_getD]; omega) | (simp [-List.getD_eq_getElem?_getD]; repeat (first | intro _ | exact And.intro ‹_› ‹_› | apply And.intro | assumption | omega | exact decide_eq_true (by assumption)))), hK _ ?_⟩
  clear K hK
  refine awpS_block ?_
  refine awpS_loop (α := Nat × Nat × List Int) (fun p => ⟨[(0, .yld l vs 2 (fun j => [.ptr (0, 0) 0 0, .ptr (1, 0) 0 0].getD j .any)), (1, .vptr 4 (encF e) 0), (2, .vptr 1 (fun _ => .int .i64 (s : Int)) 0), (4, .sl (4, 0) 0 e.rows.length), (5, .sl (5, 0) p.2.1 (p.2.2.length - p.2.1))], [(0, .one (.arr 1 1 (fun _ _ => .sl (3, 0) 0 ((ordAt e s p.1).take p.1).length))), (1, .one (.arr 1 1 (fun _ _ => .sl (2, 0) 0 e.rows.length))), (2, .one (.arr e.rows.length 1 (fun j _ => .int .i64 (plc ((ordAt e s p.1).take p.1) j)))), (3, .one (.arr ((ordAt e s p.1).take p.1).length 1 (fun j _ => .int .i64 (((ordAt e s p.1).take p.1).getD j 0)))), (4, .one (.arr e.rows.length 1 (fun j _ => .bool (inL (ordAt e s p.1) j)))), (5, .one (.arr p.2.2.length 1 (fun j _ => .int .i64 (p.2.2.getD j 0))))], 6⟩) (fun p => QOK (ordAt e s p.1) p.1 p.2.1 p.2.2) (fun p => e.rows.length - p.1) ((0, 0, [(s : Int)])) (⟨Nat.zero_le _, Nat.zero_le _, rfl⟩) ?_ ?_
  ·
    refine wk_of (fun k => if k = 4 then 3 else if k = 5 then 4 else k) (fun _ => false) (fun k => k == 3) ?_ ?_ rfl (by simp) (fun k hk => by first | exact ⟨rfl, rfl⟩ | (revert k; decide) | (obtain rfl : k = 0 := (by omega); exact ⟨rfl, rfl⟩) | (have hk2 : k = 0 ∨ k = 1 := (by omega); rcases hk2 with rfl | rfl <;> exact ⟨rfl, rfl⟩))
    · simp [hG, List.getD_cons_zero, List.getD_cons_succ, -List.getD_eq_getElem?_getD]
    · simp [hG, List.getD_cons_zero, List.getD_cons_succ, -List.getD_eq_getElem?_getD]; exact fun i _ => in_first
  ·
    rintro ⟨k, lo, Q⟩ hq
    simp only at hq
    have hqn := hq.len
    have hqle := hq.le
    have hol := (ordAt_ok hv hs k).len
    refine awpS_seq ?_
    refine awpS_seq ?_
    refine awpS_reg T_ok fun K hK => ?_
    simp [hG, List.getD_cons_zero, List.getD_cons_succ, -List.getD_eq_getElem?_getD]
    first | refine hK _ ?_ | refine ⟨Cond.mk (by first | omega | (simp [-List.getD_eq_getElem?_getD]; done) | (simp [-List.getD_eq_getElem?_getD]; omega) | (simp [-List.getD_eq_getElem?_getD]; repeat (first | intro _ | exact And.intro ‹_› ‹_› | apply And.intro | assumption | omega | exact decide_eq_true (by assumption)))), hK _ ?_⟩
    clear K hK
    refine awpS_cond rfl (fun hb20 => ?_) (fun hb20 => ?_)
    ·
      try simp [-List.getD_eq_getElem?_getD] at hb20
      have hkl : k < (ordAt e s k).length := (by omega)
      have hxk := (ordAt_ok hv hs k).lt _ (getD_mem (d := 0) hkl)
      have hnb := not_before (ordAt_ok hv hs k).nodup hkl
      have hhd := hq.head hkl
      have hsn := take_snoc hkl
      have hpop := hq.pop hkl
      have hre := row_eq hv (k := ((ordAt e s k).getD k 0).toNat) (by omega)
      refine awpS_skip ?_
      refine awpS_block ?_
      refine awpS_seq ?_
      refine awpS_reg T_ok fun K hK => ?_
      simp [hG, List.getD_cons_zero, List.getD_cons_succ, -List.getD_eq_getElem?_getD]
      first | refine hK _ ?_ | refine ⟨Cond.mk (by first | omega | (simp [-List.getD_eq_getElem?_getD]; done) | (simp [-List.getD_eq_getElem?_getD]; omega) | (simp [-List.getD_eq_getElem?_getD]; repeat (first | intro _ | exact And.intro ‹_› ‹_› | apply And.intro | assumption | omega | exact decide_eq_true (by assumption)))), hK _ ?_⟩
      clear K hK
      refine awpS_seq ?_
      refine awpS_reg T_ok fun K hK => ?_
      simp [hG, List.getD_cons_zero, List.getD_cons_succ, -List.getD_eq_getElem?_getD]
      first | refine hK _ ?_ | refine ⟨Cond.mk (by first | omega | (simp [-List.getD_eq_getElem?_getD]; done) | (simp [-List.getD_eq_getElem?_getD]; omega) | (simp [-List.getD_eq_getElem?_getD]; repeat (first | intro _ | exact And.intro ‹_› ‹_› | apply And.intro | assumption | omega | exact decide_eq_true (by assumption)))), hK _ ?_⟩
      clear K hK
      refine awpS_seq ?_
      refine awpS_seq ?_
      refine awpS_regL ?_
      refine awpL_reg T_ok 2 fun K hK => ?_
      simp [hG, List.getD_cons_zero, List.getD_cons_succ, -List.getD_eq_getElem?_getD]
      first | refine hK _ ?_ | refine ⟨Cond.mk (by first | omega | (simp [-List.getD_eq_getElem?_getD]; done) | (simp [-List.getD_eq_getElem?_getD]; omega) | (simp [-List.getD_eq_getElem?_getD]; repeat (first | intro _ | exact And.intro ‹_› ‹_› | apply And.intro | assumption | omega | exact decide_eq_true (by assumption)))), hK _ ?_⟩
      clear K hK
      refine awpL_yield hrec hR [0, 1, 2, 3] (fun _ => false) (addR_y e ((ordAt e s k).take k) ((ordAt e s k).getD k 0) hl64 (by rw [List.length_take]; omega) hxk hnb hok) rfl (by rw [hok.params]; rfl) rfl rfl rfl (by simp) (.inl fun _ => rfl) ?_ ?_ ?_ fun K hK x hI hno => ?_
      · simp [hG, List.getD_cons_zero, List.getD_cons_succ, -List.getD_eq_getElem?_getD]
      · simp [hG, List.getD_cons_zero, List.getD_cons_succ, -List.getD_eq_getElem?_getD]; exact ⟨hhd, ⟨by decide, rfl, rfl⟩, ⟨by decide, rfl, rfl⟩, trivial⟩
      · simp [hG, List.getD_cons_zero, List.getD_cons_succ, -List.getD_eq_getElem?_getD]
      simp [hG, List.getD_cons_zero, List.getD_cons_succ, -List.getD_eq_getElem?_getD]
      refine hK _ ?_
      clear K hK
      refine awpL_reg T_ok 1 fun K hK => ?_
      simp [hG, List.getD_cons_zero, List.getD_cons_succ, -List.getD_eq_getElem?_getD]
      first | refine hK _ ?_ | refine ⟨Cond.mk (by first | omega | (simp [-List.getD_eq_getElem?_getD]; done) | (simp [-List.getD_eq_getElem?_getD]; omega) | (simp [-List.getD_eq_getElem?_getD]; repeat (first | intro _ | exact And.intro ‹_› ‹_› | apply And.intro | assumption | omega | exact decide_eq_true (by assumption)))), hK _ ?_⟩
      clear K hK
      refine awpL_nil ?_
      refine awpS_cond rfl (fun hb29 => ?_) (fun hb29 => ?_)
      ·
        simp at hb29
      ·
        try simp [-List.getD_eq_getElem?_getD] at hb29
        refine awpS_skip ?_
        refine awpS_seq ?_
        refine awpS_reg T_ok fun K hK => ?_
        simp [hG, List.getD_cons_zero, List.getD_cons_succ, -List.getD_eq_getElem?_getD]
        first | refine hK _ ?_ | refine ⟨Cond.mk (by first | omega | (simp [-List.getD_eq_getElem?_getD]; done) | (simp [-List.getD_eq_getElem?_getD]; omega) | (simp [-List.getD_eq_getElem?_getD]; repeat (first | intro _ | exact And.intro ‹_› ‹_› | apply And.intro | assumption | omega | exact decide_eq_true (by assumption)))), hK _ ?_⟩
        clear K hK
        refine awpS_block ?_
        refine awpS_loop (α := Nat × Nat × List Int) (fun p => ⟨[(0, .yld l vs 2 (fun j => [.ptr (0, 0) 0 0, .ptr (1, 0) 0 0].getD j .any)), (1, .vptr 4 (encF e) 0), (2, .vptr 1 (fun _ => .int .i64 (s : Int)) 0), (4, .sl (4, 0) 0 e.rows.length), (5, .sl (5, 0) p.2.1 (p.2.2.length - p.2.1)), (34, cells (e.rows.getD ((ordAt e s k).getD k 0).toNat [])), (35, .int .i64 (e.rows.getD ((ordAt e s k).getD k 0).toNat []).length), (36, .int .i64 p.1)], [(0, .one (.arr 1 1 (fun _ _ => .sl (3, 0) 0 ((ordAt e s k).take (k + 1)).length))), (1, .one (.arr 1 1 (fun _ _ => .sl (2, 0) 0 e.rows.length))), (2, .one (.arr e.rows.length 1 (fun j _ => .int .i64 (plc ((ordAt e s k).take (k + 1)) j)))), (3, .one (.arr ((ordAt e s k).take (k + 1)).length 1 (fun j _ => .int .i64 (((ordAt e s k).take (k + 1)).getD j 0)))), (4, .one (.arr e.rows.length 1 (fun j _ => .bool (inL (ordRow e (ordAt e s k) ((ordAt e s k).getD k 0).toNat p.1) j)))), (5, .one (.arr p.2.2.length 1 (fun j _ => .int .i64 (p.2.2.getD j 0))))], 6⟩) (fun p => QOK (ordRow e (ordAt e s k) ((ordAt e s k).getD k 0).toNat p.1) (k + 1) p.2.1 p.2.2 ∧ p.1 ≤ e.inputs.toNat) (fun p => e.inputs.toNat - p.1) ((0, lo + 1, Q)) (⟨hpop, Nat.zero_le _⟩) ?_ ?_
        ·
          refine wk_of (fun k => if k = 3 then 6 else k) (fun _ => false) (fun _ => false) ?_ ?_ rfl (by simp) (fun k hk => by first | exact ⟨rfl, rfl⟩ | (revert k; decide) | (obtain rfl : k = 0 := (by omega); exact ⟨rfl, rfl⟩) | (have hk2 : k = 0 ∨ k = 1 := (by omega); rcases hk2 with rfl | rfl <;> exact ⟨rfl, rfl⟩))
          · simp [hG, List.getD_cons_zero, List.getD_cons_succ, -List.getD_eq_getElem?_getD]; rw [hhd]; exact ⟨by omega, Clo.le _ Clo_cells, rfl⟩
          · simp [hG, hsn, List.getD_cons_zero, List.getD_cons_succ, -List.getD_eq_getElem?_getD]
        ·
          rintro ⟨i, lo2, Q2⟩ ⟨hq2, hi⟩
          simp only at hq2 hi
          have hqn2 := hq2.len
          have hqle2 := hq2.le
          have horl := (ordRow_ok hv (x := ((ordAt e s k).getD k 0).toNat) (by omega) (ordAt_ok hv hs k) i hi).len
          refine awpS_seq ?_
          refine awpS_reg T_ok fun K hK => ?_
          simp [hG, List.getD_cons_zero, List.getD_cons_succ, -List.getD_eq_getElem?_getD]
          first | refine hK _ ?_ | refine ⟨Cond.mk (by first | omega | (simp [-List.getD_eq_getElem?_getD]; done) | (simp [-List.getD_eq_getElem?_getD]; omega) | (simp [-List.getD_eq_getElem?_getD]; repeat (first | intro _ | exact And.intro ‹_› ‹_› | apply And.intro | assumption | omega | exact decide_eq_true (by assumption)))), hK _ ?_⟩
          clear K hK
          refine awpS_seq ?_
          refine awpS_cond rfl (fun hb37 => ?_) (fun hb37 => ?_)
          ·
            try simp [-List.getD_eq_getElem?_getD] at hb37
            have hii : i < e.inputs.toNat := (by omega)
            have hto : 0 ≤ (cellAt e ((ordAt e s k).getD k 0).toNat i).to ∧ (cellAt e ((ordAt e s k).getD k 0).toNat i).to < (e.rows.length : Int) := cell_to hv (s := ((ordAt e s k).getD k 0).toNat) (by omega) (by omega)
            unfold cellAt at hto
            refine awpS_skip ?_
            refine awpS_seq ?_
            refine awpS_block ?_
            refine awpS_seq ?_
            refine awpS_reg T_ok fun K hK => ?_
            simp [hG, List.getD_cons_zero, List.getD_cons_succ, -List.getD_eq_getElem?_getD]
            first | refine hK _ ?_ | refine ⟨Cond.mk (by first | omega | (simp [-List.getD_eq_getElem?_getD]; done) | (simp [-List.getD_eq_getElem?_getD]; omega) | (simp [-List.getD_eq_getElem?_getD]; repeat (first | intro _ | exact And.intro ‹_› ‹_› | apply And.intro | assumption | omega | exact decide_eq_true (by assumption)))), hK _ ?_⟩
            clear K hK
            refine awpS_seq ?_
            refine awpS_reg T_ok fun K hK => ?_
            simp [hG, List.getD_cons_zero, List.getD_cons_succ, -List.getD_eq_getElem?_getD]
            first | refine hK _ ?_ | refine ⟨Cond.mk (by first | omega | (simp [-List.getD_eq_getElem?_getD]; done) | (simp [-List.getD_eq_getElem?_getD]; omega) | (simp [-List.getD_eq_getElem?_getD]; repeat (first | intro _ | exact And.intro ‹_› ‹_› | apply And.intro | assumption | omega | exact decide_eq_true (by assumption)))), hK _ ?_⟩
            clear K hK
            refine awpS_cond rfl (fun hb45 => ?_) (fun hb45 => ?_)
            ·
              try simp [-List.getD_eq_getElem?_getD] at hb45
              have hE := ordRow_in0 (e := e) hto.1 hb45
              refine awpS_seq ?_
              refine awpS_reg T_ok fun K hK => ?_
              simp [hG, List.getD_cons_zero, List.getD_cons_succ, -List.getD_eq_getElem?_getD]
              first | refine hK _ ?_ | refine ⟨Cond.mk (by first | omega | (simp [-List.getD_eq_getElem?_getD]; done) | (simp [-List.getD_eq_getElem?_getD]; omega) | (simp [-List.getD_eq_getElem?_getD]; repeat (first | intro _ | exact And.intro ‹_› ‹_› | apply And.intro | assumption | omega | exact decide_eq_true (by assumption)))), hK _ ?_⟩
              clear K hK
              refine awpS_reg T_ok fun K hK => ?_
              simp [hG, List.getD_cons_zero, List.getD_cons_succ, -List.getD_eq_getElem?_getD]
              first | refine hK _ ?_ | refine ⟨Cond.mk (by first | omega | (simp [-List.getD_eq_getElem?_getD]; done) | (simp [-List.getD_eq_getElem?_getD]; omega) | (simp [-List.getD_eq_getElem?_getD]; repeat (first | intro _ | exact And.intro ‹_› ‹_› | apply And.intro | assumption | omega | exact decide_eq_true (by assumption)))), hK _ ?_⟩
              clear K hK
              refine awpS_nil ?_
              refine blockQ_norm (thenQ_norm ?_)
              refine awpS_reg T_ok fun K hK => ?_
              simp [hG, List.getD_cons_zero, List.getD_cons_succ, -List.getD_eq_getElem?_getD]
              first | refine hK _ ?_ | refine ⟨Cond.mk (by first | omega | (simp [-List.getD_eq_getElem?_getD]; done) | (simp [-List.getD_eq_getElem?_getD]; omega) | (simp [-List.getD_eq_getElem?_getD]; repeat (first | intro _ | exact And.intro ‹_› ‹_› | apply And.intro | assumption | omega | exact decide_eq_true (by assumption)))), hK _ ?_⟩
              clear K hK
              refine awpS_nil ?_
              refine round_end ((i + 1, 0, Q2.drop lo2 ++ [(cellAt e ((ordAt e s k).getD k 0).toNat i).to])) (⟨by simp only; unfold cellAt; rw [hE]; exact hq2.push, by simp only; omega⟩) (by simp only; omega) ?_
              refine wk_of (fun k => if k = 5 then 8 else k) (fun _ => false) (fun _ => false) ?_ ?_ rfl (by simp) (fun k hk => by first | exact ⟨rfl, rfl⟩ | (revert k; decide) | (obtain rfl : k = 0 := (by omega); exact ⟨rfl, rfl⟩) | (have hk2 : k = 0 ∨ k = 1 := (by omega); rcases hk2 with rfl | rfl <;> exact ⟨rfl, rfl⟩))
              · simp [hG, List.getD_cons_zero, List.getD_cons_succ, -List.getD_eq_getElem?_getD]
              · simp [hG, hE, List.getD_cons_zero, List.getD_cons_succ, -List.getD_eq_getElem?_getD]; exact ⟨fun j _ => inL_upd hto.1, fun q hq => app_drop hq⟩
            ·
              try simp [-List.getD_eq_getElem?_getD] at hb45
              have hE := ordRow_in1 (e := e) hto.1 hb45
              refine awpS_skip ?_
              refine awpS_nil ?_
              refine blockQ_norm (thenQ_norm ?_)
              refine awpS_reg T_ok fun K hK => ?_
              simp [hG, List.getD_cons_zero, List.getD_cons_succ, -List.getD_eq_getElem?_getD]
              first | refine hK _ ?_ | refine ⟨Cond.mk (by first | omega | (simp [-List.getD_eq_getElem?_getD]; done) | (simp [-List.getD_eq_getElem?_getD]; omega) | (simp [-List.getD_eq_getElem?_getD]; repeat (first | intro _ | exact And.intro ‹_› ‹_› | apply And.intro | assumption | omega | exact decide_eq_true (by assumption)))), hK _ ?_⟩
              clear K hK
              refine awpS_nil ?_
              refine round_end ((i + 1, lo2, Q2)) (⟨by simp only; rw [hE]; exact hq2, by simp only; omega⟩) (by simp only; omega) ?_
              refine wk_of (id) (fun _ => false) (fun _ => false) ?_ ?_ rfl (by simp) (fun k hk => by first | exact ⟨rfl, rfl⟩ | (revert k; decide) | (obtain rfl : k = 0 := (by omega); exact ⟨rfl, rfl⟩) | (have hk2 : k = 0 ∨ k = 1 := (by omega); rcases hk2 with rfl | rfl <;> exact ⟨rfl, rfl⟩))
              · simp [hG, List.getD_cons_zero, List.getD_cons_succ, -List.getD_eq_getElem?_getD]
              · simp [hG, hE, List.getD_cons_zero, List.getD_cons_succ, -List.getD_eq_getElem?_getD]
          ·
            try simp [-List.getD_eq_getElem?_getD] at hb37
            obtain rfl : i = e.inputs.toNat := (by omega)
            have hE : ordAt e s (k + 1) = ordRow e (ordAt e s k) ((ordAt e s k).getD k 0).toNat e.inputs.toNat := if_pos hkl
            have hT : (ordAt e s (k + 1)).take (k + 1) = (ordAt e s k).take (k + 1) := take_pre (ordAt_pre k) (by omega)
            refine awpS_exit ?_
            refine thenQ_exit (thenQ_exit ?_)
            refine blockQ_exit (thenQ_norm ?_)
            refine awpS_nil ?_
            refine blockQ_norm (thenQ_norm ?_)
            refine awpS_nil ?_
            refine round_end ((k + 1, lo2, Q2)) (by simp only; rw [hE]; exact hq2) (by simp only; omega) ?_
            refine wk_of (id) (fun _ => false) (fun _ => false) ?_ ?_ rfl (by simp) (fun k hk => by first | exact ⟨rfl, rfl⟩ | (revert k; decide) | (obtain rfl : k = 0 := (by omega); exact ⟨rfl, rfl⟩) | (have hk2 : k = 0 ∨ k = 1 := (by omega); rcases hk2 with rfl | rfl <;> exact ⟨rfl, rfl⟩))
            · simp [hG, List.getD_cons_zero, List.getD_cons_succ, -List.getD_eq_getElem?_getD]
            · rw [hT, hE]; simp [hG, List.getD_cons_zero, List.getD_cons_succ, -List.getD_eq_getElem?_getD]
    ·
      try simp [-List.getD_eq_getElem?_getD] at hb20
      have hkn : k = (ordAt e s k).length := (by have := hq.le2; omega)
      have hen : ordE e s = ordAt e s k := ordAt_end (by omega) (by omega)
      have hta : (ordAt e s k).take k = ordAt e s k := List.take_of_length_le (by omega)
      refine awpS_exit ?_
      refine thenQ_exit (thenQ_exit ?_)
      refine blockQ_exit (thenQ_norm ?_)
      refine awpS_nil ?_
      refine RetF_of (()) (id) (fun _ => false) (fun _ => false) trivial ?_ ?_ (by rfl) (by simp) (fun k hk => ⟨rfl, rfl⟩)
      · simp [hG, List.getD_cons_zero, List.getD_cons_succ, -List.getD_eq_getElem?_getD]
      · rw [hen, hta]; simp [hG, List.getD_cons_zero, List.getD_cons_succ, -List.getD_eq_getElem?_getD]; omega

end Go.Proofs.Ytmjkbidnghcfnaa
