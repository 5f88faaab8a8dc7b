/- Parts of the proof: VF VG VH. -/
import Derived.Test.YtoafgeobhhlplaaZU09
import Derived.Test.YtoafgeobhhlplaaZU14
import Derived.Test.YtoafgeobhhlplaaZU15
namespace Go.Proofs.Ytoafgeobhhlplaa
set_option linter.unusedSimpArgs false
set_option linter.unusedVariables false
open Go Go.Lift Go.Proofs
def ownA (W : List Wd) (v : Wd) (j i : Nat) : Bool := decide (j < i) && stB W j v
def othA (W : List Wd) (v : Wd) (j i : Nat) : Bool := (List.range i).any fun y => decide (y ≠ j) && stB W y v
@[simp] theorem ownA_zero {W : List Wd} {v : Wd} {j : Nat} : ownA W v j 0 = false := by unfold ownA; simp
@[simp] theorem othA_zero {W : List Wd} {v : Wd} {j : Nat} : othA W v j 0 = false := rfl
theorem othA_succ {W : List Wd} {v : Wd} {j i : Nat} : othA W v j (i + 1) = (othA W v j i || (decide (i ≠ j) && stB W i v)) := by unfold othA; rw [List.range_succ, List.any_append]; simp
theorem own_yes {W : List Wd} {v : Wd} {j i : Nat} (h : rd W (W.getD i []) v = true) : ownA W v j (i + 1) = (ownA W v j i || decide ((i : Int) = (j : Int))) ∧ othA W v j (i + 1) = (othA W v j i || !decide ((i : Int) = (j : Int))) := by
  have hs : stB W i v = true := h
  constructor
  · unfold ownA
    rcases Nat.lt_trichotomy j i with h1 | h1 | h1
    · simp [h1, show j < i + 1 by omega, show ¬ (i : Int) = (j : Int) by omega]
    · subst h1; simp [hs]
    · simp [show ¬ j < i by omega, show ¬ j < i + 1 by omega, show ¬ (i : Int) = (j : Int) by omega]
  · rw [othA_succ, hs, Bool.and_true]
    congr 1
    by_cases e : i = j
    · simp [e]
    · simp [e, show ¬ (i : Int) = (j : Int) by omega]
theorem own_not {W : List Wd} {v : Wd} {j i : Nat} (h : rd W (W.getD i []) v = false) : ownA W v j (i + 1) = ownA W v j i ∧ othA W v j (i + 1) = othA W v j i := by
  have hs : stB W i v = false := h
  constructor
  · unfold ownA
    by_cases e : j = i
    · subst e; simp [hs]
    · rw [show decide (j < i + 1) = decide (j < i) from decide_eq_decide.2 (by omega)]
  · rw [othA_succ, hs, Bool.and_false, Bool.or_false]
theorem own_all {W : List Wd} {v : Wd} {j : Nat} (hj : j < W.length) : ownA W v j W.length = stB W j v ∧ othA W v j W.length = (othF W v j).isSome := by
  constructor
  · unfold ownA; simp [hj]
  · rw [Bool.eq_iff_iff, oth_iff]
    unfold othA
    rw [List.any_eq_true]
    constructor
    · rintro ⟨y, hy, h⟩
      rw [Bool.and_eq_true, decide_eq_true_eq] at h
      exact ⟨y, List.mem_range.1 hy, h.1, h.2⟩
    · rintro ⟨y, hy, h1, h2⟩
      exact ⟨y, List.mem_range.2 hy, by rw [Bool.and_eq_true, decide_eq_true_eq]; exact ⟨h1, h2⟩⟩
def cerN (W : List Wd) (d : Nat) (w : Wd) : Int := match cerF W d w with
  | some i => i
  | none => -1
theorem cerN_at {W : List Wd} {d : Nat} {w : Wd} {i : Nat} (hi : i < W.length) (h : cerB W d w i = true) (hn : ∀ j, j < i → cerB W d w j = false) : cerN W d w = i := by unfold cerN; rw [cer_at hi h hn]
theorem cerN_no {W : List Wd} {d : Nat} {w : Wd} (hn : ∀ j, j < W.length → cerB W d w j = false) : cerN W d w = -1 := by unfold cerN; rw [cer_no hn]
theorem cerN_neg {W : List Wd} {d : Nat} {w : Wd} (h : cerN W d w < 0) : cerF W d w = none := by
  unfold cerN at h
  split at h
  · omega
  · assumption
theorem cerN_pos {W : List Wd} {d : Nat} {w : Wd} (h : ¬ cerN W d w < 0) : ∃ i, i < W.length ∧ cerN W d w = i ∧ cerF W d w = some i := by
  cases hc : cerF W d w with
  | some i => exact ⟨i, (cer_some hc).1, by unfold cerN; rw [hc], rfl⟩
  | none => exact absurd (show cerN W d w < 0 by unfold cerN; rw [hc]; decide) h
theorem cerB_short {W : List Wd} {d : Nat} {w : Wd} {i : Nat} (h : ¬ ((W.getD i []).length + d ≤ w.length ∧ W.getD i [] <+: w)) : cerB W d w i = false := by
  unfold cerB
  by_cases h1 : (W.getD i []).length + d ≤ w.length
  · rw [decide_eq_false (fun h2 => h ⟨h1, h2⟩)]; simp
  · rw [decide_eq_false h1]; simp
theorem cerB_long {W : List Wd} {d : Nat} {w : Wd} {i : Nat} (h1 : (W.getD i []).length + d ≤ w.length) (h2 : W.getD i [] <+: w) (hi : i < W.length) : cerB W d w i = (ownA W (w.take ((W.getD i []).length + d)) i W.length && !othA W (w.take ((W.getD i []).length + d)) i W.length) := by
  unfold cerB
  rw [decide_eq_true h1, decide_eq_true h2, (own_all hi).1, (own_all hi).2]; simp
set_option maxRecDepth 100000 in
theorem bodyCe_y (j k : Int) (a b : Bool) {l : Nat} {rec : Loop} {vs : Array Value} (hok : RecOK rec [7, 9, 10] vs #[41] (rngA Try.f50.body 0) (rngB Try.f50.body 0) 61) : YC Try.prog l rec vs ([.int .i64 k] ++ [.ptr (0, 0) 0 0, .ptr (1, 0) 0 0, .ptr (2, 0) 0 0]) [(0, .one (.arr 1 1 (fun _ _ => .int .i64 j))), (1, .one (.arr 1 1 (fun _ _ => .bool (a)))), (2, .one (.arr 1 1 (fun _ _ => .bool (b))))] 3 (fun _ : Unit => True) (fun _ : Unit => .bool true) (fun _ : Unit => [(0, .one (.arr 1 1 (fun _ _ => .int .i64 j))), (1, .one (.arr 1 1 (fun _ _ => .bool (a || decide (k = j))))), (2, .one (.arr 1 1 (fun _ _ => .bool (b || !decide (k = j)))))]) (fun _ : Unit => 3) := by
 refine YC_introS hok rfl rfl (by simp [nobH, nobO]) rfl (by simp) rfl fun G hG hR => ?_
 show AwpS _ _ _ _ _ ⟨[(41, .int .i64 k), (7, .ptr (0, 0) 0 0), (9, .ptr (1, 0) 0 0), (10, .ptr (2, 0) 0 0)], [(0, .one (.arr 1 1 (fun _ _ => .int .i64 j))), (1, .one (.arr 1 1 (fun _ _ => .bool (a)))), (2, .one (.arr 1 1 (fun _ _ => .bool (b))))], 3⟩
 refine zrP ?_
 refine zn ?_
 refine ⟨rfl, fun G hG hR => ?_⟩
 refine zb ?_
 refine awpS_drawR rfl mixed [(12, (1, 0)), (13, (2, 0))] ⟨[], [], []⟩ fun mu0 => ?_
 refine zaP [0, 1, 2, 3, 4, 5] [] 8 [5, 4, 3, 2, 1, 0] ?_
 refine zaP [6, 7, 8, 9, 10, 11] [(1, 0)] 2 [11, 10, 9, 8, 7, 6, 5, 4, 3, 2, 1, 0] ?_
 refine awpA_only (fuel := 1) (i := 12) (by decide +kernel) ?_
 refine zoP ?_
 refine awpA_only (fuel := 0) (i := 13) (by decide +kernel) ?_
 refine zoP ?_
 refine awpA_done (by decide +kernel) ?_
 refine zn (zbn (zn ?_))
 refine ⟨rfl, RetY_of (()) (id) (fun _ => false) (fun _ => false) trivial ?_ (by rfl) (by simp) (fun k hk => ⟨rfl, rfl⟩)⟩
 simp [hG, List.getD_cons_zero, List.getD_cons_succ, -List.getD_eq_getElem?_getD, pureOp]
set_option maxRecDepth 100000 in
theorem startsC_c (l : Nat) (rec : Loop) (vs : Array Value) (hok : RecOK rec [7, 9, 10] vs #[41] (rngA Try.f50.body 0) (rngB Try.f50.body 0) 61) (c : Cd) (hl : c.ws.length ≤ maxLen) (hv : CdOK c) (w : List UInt8) (hw : w.length ≤ 1000000) (j : Nat) : FCY Try.prog 72 l rec [.yld l vs 3 (fun j => [.ptr (0, 0) 0 0, .ptr (1, 0) 0 0, .ptr (2, 0) 0 0].getD j .any), .vptr 2 (cdF c) 0, .vptr 1 (fun _ => .str w) 0] [(0, .one (.arr 1 1 (fun _ _ => .int .i64 (j : Nat)))), (1, .one (.arr 1 1 (fun _ _ => .bool (false)))), (2, .one (.arr 1 1 (fun _ _ => .bool (false))))] 3 (fun _ : Unit => True) (fun _ : Unit => .any) (fun _ : Unit => [(0, .one (.arr 1 1 (fun _ _ => .int .i64 (j : Nat)))), (1, .one (.arr 1 1 (fun _ _ => .bool (ownA c.ws w j c.ws.length)))), (2, .one (.arr 1 1 (fun _ _ => .bool (othA c.ws w j c.ws.length))))]) (fun _ : Unit => 3) := by
 have hML : maxLen = 9223372036854775807 := by decide
 have hWn := hv.n
 refine FCY_introS T_ok (by simp [nobH, nobO]) Try.func72 rfl (by simp [Try.ntmps72]) fun G hG hR hrec => ?_
 simp only [Try.ntmps72, Try.results72] at hG ⊢
 simp only [argEnv, Nat.zero_add, Nat.reduceAdd]
 refine zs (zL (zl 2 ?_ (h := by intro c K h; simp [hG, List.getD_cons_zero, List.getD_cons_succ, -List.getD_eq_getElem?_getD, pureOp, ownA_zero, othA_zero]; first | exact z1 c h | exact ⟨.mk c, h⟩)))
 refine zf cal73 [] (begins_c c w) (fun x hI hno => ?_) (a := by simp [hG, List.getD_cons_zero, List.getD_cons_succ, -List.getD_eq_getElem?_getD, pureOp, ownA_zero, othA_zero]) (b := by simp [hG, List.getD_cons_zero, List.getD_cons_succ, -List.getD_eq_getElem?_getD, pureOp, ownA_zero, othA_zero]) (c := by simp [hG, List.getD_cons_zero, List.getD_cons_succ, -List.getD_eq_getElem?_getD, pureOp, ownA_zero, othA_zero]) (h := by intro K h x hI hno; simp [hG, List.getD_cons_zero, List.getD_cons_succ, -List.getD_eq_getElem?_getD, pureOp, ownA_zero, othA_zero]; exact h x hI hno)
 refine zl 1 ?_ (h := by intro c K h; simp [hG, List.getD_cons_zero, List.getD_cons_succ, -List.getD_eq_getElem?_getD, pureOp, ownA_zero, othA_zero]; first | exact z1 c h | exact ⟨.mk c, h⟩)
 refine zN (zs (zs (zr ?_ (h := by intro c K h; simp [hG, List.getD_cons_zero, List.getD_cons_succ, -List.getD_eq_getElem?_getD, pureOp, ownA_zero, othA_zero]; first | exact z1 c h | exact ⟨.mk c, h⟩))))
 refine zb ?_
 refine awpS_loop (α := Nat × List (Int × Bool)) (fun x => ⟨[(0, .yld l vs 3 (fun j => [.ptr (0, 0) 0 0, .ptr (1, 0) 0 0, .ptr (2, 0) 0 0].getD j .any)), (1, .vptr 2 (cdF c) 0), (2, .vptr 1 (fun _ => .str w) 0), (4, .fn 86 4 (fun j => [.vptr 1 (fun _ => .str w) 0, .ptr (3, 0) 0 0, .vptr 2 (cdF c) 0, .ptr (5, 0) 0 0].getD j .any)), (5, .int .i64 (x.1 : Nat))], [(0, .one (.arr 1 1 (fun _ _ => .int .i64 (j : Nat)))), (1, .one (.arr 1 1 (fun _ _ => .bool (false)))), (2, .one (.arr 1 1 (fun _ _ => .bool (false)))), (3, .one (.arr 1 1 (fun _ _ => .map (4, 0)))), (4, .one (.mp (mpE intK boolV (x.2)))), (5, .one (.arr 1 1 (fun _ _ => .fn 86 4 (fun j => [.vptr 1 (fun _ => .str w) 0, .ptr (3, 0) 0 0, .vptr 2 (cdF c) 0, .ptr (5, 0) 0 0].getD j .any))))], 6⟩) (fun x => x.1 ≤ w.length ∧ Memo c.ws w x.2) (fun x => x.1) ((w.length, [])) (⟨Nat.le_refl _, memo_nil⟩) ?_ ?_
 · refine wk_of (id) (fun _ => false) (fun _ => false) ?_ ?_ rfl (by simp) (fun k hk => by first | exact ⟨rfl, rfl⟩ | (revert k; decide) | (obtain rfl : k = 0 := (by omega); exact ⟨rfl, rfl⟩) | (have hk2 : k = 0 ∨ k = 1 := (by omega); rcases hk2 with rfl | rfl <;> exact ⟨rfl, rfl⟩))
   · simp [hG, List.getD_cons_zero, List.getD_cons_succ, -List.getD_eq_getElem?_getD, pureOp, ownA_zero, othA_zero]
   simp [hG, List.getD_cons_zero, List.getD_cons_succ, -List.getD_eq_getElem?_getD, pureOp, ownA_zero, othA_zero]
 rintro ⟨k, m⟩ ⟨hk, hm⟩
 refine zs (zs (zr ?_ (h := by intro c K h; simp [hG, List.getD_cons_zero, List.getD_cons_succ, -List.getD_eq_getElem?_getD, pureOp, ownA_zero, othA_zero]; first | exact z1 c h | exact ⟨.mk c, h⟩)))
 refine zy (fun hb14 => ?_) fun hb14 => ?_
 · refine zk (zs (zb (zL (zl 2 ?_ (h := by intro c K h; simp [hG, List.getD_cons_zero, List.getD_cons_succ, -List.getD_eq_getElem?_getD, pureOp, ownA_zero, othA_zero]; first | exact z1 c h | exact ⟨.mk c, h⟩)))))
   refine zf cal86 [3, 4, 5] (is_all hl hv hw (w.length - k) k m (by omega) hm) (fun m2 hI hno => ?_) (a := by simp [hG, List.getD_cons_zero, List.getD_cons_succ, -List.getD_eq_getElem?_getD, pureOp, ownA_zero, othA_zero]) (b := by simp [hG, List.range'_succ, List.range'_zero, List.getD_cons_zero, List.getD_cons_succ, -List.getD_eq_getElem?_getD]) (c := by simp [hG, List.getD_cons_zero, List.getD_cons_succ, -List.getD_eq_getElem?_getD, pureOp, ownA_zero, othA_zero]) (h := by intro K h m2 hI hno; simp [hG, List.getD_cons_zero, List.getD_cons_succ, -List.getD_eq_getElem?_getD, pureOp, ownA_zero, othA_zero]; exact h m2 hI hno)
   refine zN (zn (zbn (zr ?_ (h := by intro c K h; simp [hG, List.getD_cons_zero, List.getD_cons_succ, -List.getD_eq_getElem?_getD, pureOp, ownA_zero, othA_zero]; first | exact z1 c h | exact ⟨.mk c, h⟩))))
   refine zn ?_
   refine round_end ((k - 1, m2)) (⟨by omega, hI⟩) (by omega) ?_
   refine wk_of (id) (fun _ => false) (fun _ => false) ?_ ?_ rfl (by simp) (fun k hk => by first | exact ⟨rfl, rfl⟩ | (revert k; decide) | (obtain rfl : k = 0 := (by omega); exact ⟨rfl, rfl⟩) | (have hk2 : k = 0 ∨ k = 1 := (by omega); rcases hk2 with rfl | rfl <;> exact ⟨rfl, rfl⟩))
   · simp [hG, List.getD_cons_zero, List.getD_cons_succ, -List.getD_eq_getElem?_getD]; omega
   simp [hG, List.getD_cons_zero, List.getD_cons_succ, -List.getD_eq_getElem?_getD, pureOp, ownA_zero, othA_zero]
 obtain rfl : k = 0 := (by omega)
 refine zx (ztx (zbx (zs (zr ?_ (h := by intro c K h; simp [hG, List.getD_cons_zero, List.getD_cons_succ, -List.getD_eq_getElem?_getD, pureOp, ownA_zero, othA_zero]; first | exact z1 c h | exact ⟨.mk c, h⟩)))))
 refine zb ?_
 refine awpS_loop (α := Nat × List (Int × Bool)) (fun x => ⟨[(0, .yld l vs 3 (fun j => [.ptr (0, 0) 0 0, .ptr (1, 0) 0 0, .ptr (2, 0) 0 0].getD j .any)), (1, .vptr 2 (cdF c) 0), (2, .vptr 1 (fun _ => .str w) 0), (4, .fn 86 4 (fun j => [.vptr 1 (fun _ => .str w) 0, .ptr (3, 0) 0 0, .vptr 2 (cdF c) 0, .ptr (5, 0) 0 0].getD j .any)), (21, strs c.ws), (22, .int .i64 c.ws.length), (23, .int .i64 (x.1 : Nat))], [(0, .one (.arr 1 1 (fun _ _ => .int .i64 (j : Nat)))), (1, .one (.arr 1 1 (fun _ _ => .bool (ownA c.ws w j x.1)))), (2, .one (.arr 1 1 (fun _ _ => .bool (othA c.ws w j x.1)))), (3, .one (.arr 1 1 (fun _ _ => .map (4, 0)))), (4, .one (.mp (mpE intK boolV (x.2)))), (5, .one (.arr 1 1 (fun _ _ => .fn 86 4 (fun j => [.vptr 1 (fun _ => .str w) 0, .ptr (3, 0) 0 0, .vptr 2 (cdF c) 0, .ptr (5, 0) 0 0].getD j .any))))], 6⟩) (fun x => x.1 ≤ c.ws.length ∧ Memo c.ws w x.2) (fun x => c.ws.length - x.1) ((0, m)) (⟨Nat.zero_le _, hm⟩) ?_ ?_
 · refine wk_of (id) (fun _ => false) (fun _ => false) ?_ ?_ rfl (by simp) (fun k hk => by first | exact ⟨rfl, rfl⟩ | (revert k; decide) | (obtain rfl : k = 0 := (by omega); exact ⟨rfl, rfl⟩) | (have hk2 : k = 0 ∨ k = 1 := (by omega); rcases hk2 with rfl | rfl <;> exact ⟨rfl, rfl⟩))
   · simp [hG, List.getD_cons_zero, List.getD_cons_succ, -List.getD_eq_getElem?_getD, pureOp, ownA_zero, othA_zero]
   simp [hG, List.getD_cons_zero, List.getD_cons_succ, -List.getD_eq_getElem?_getD, pureOp, ownA_zero, othA_zero]
 rintro ⟨i, m⟩ ⟨hi, hm⟩
 refine zs (zr ?_ (h := by intro c K h; simp [hG, List.getD_cons_zero, List.getD_cons_succ, -List.getD_eq_getElem?_getD, pureOp, ownA_zero, othA_zero]; first | exact z1 c h | exact ⟨.mk c, h⟩))
 refine zs (zy (fun hb24 => ?_) fun hb24 => ?_)
 · refine zk (zs (zb (zs (zr ?_ (h := by intro c K h; simp [hG, List.getD_cons_zero, List.getD_cons_succ, -List.getD_eq_getElem?_getD, pureOp, ownA_zero, othA_zero]; first | exact z1 c h | exact ⟨.mk c, h⟩)))))
   refine zs ?_
   by_cases hA : w <+: (c.ws.getD i [])
   · have hps := own_yes (j := j) (rdA hA)
     refine zL (zl 2 ?_ (h := by intro c K h; simp [hG, List.getD_cons_zero, List.getD_cons_succ, -List.getD_eq_getElem?_getD, pureOp, ownA_zero, othA_zero, hA]; first | exact z1 c h | exact ⟨.mk c, h⟩))
     refine zc cal27 (preW_c (c.ws.getD i []) w) ?_ (a := fun hg => by simp [hG, List.getD_cons_zero, List.getD_cons_succ, -List.getD_eq_getElem?_getD, pureOp, ownA_zero, othA_zero, hA]) (b := fun hg => by simp [hG, List.getD_cons_zero, List.getD_cons_succ, -List.getD_eq_getElem?_getD, pureOp, ownA_zero, othA_zero, hA]) (h := by intro K h; simp [hG, List.getD_cons_zero, List.getD_cons_succ, -List.getD_eq_getElem?_getD, pureOp, ownA_zero, othA_zero, hA]; exact h)
     refine zl 3 ?_ (h := by intro c K h; simp [hG, List.getD_cons_zero, List.getD_cons_succ, -List.getD_eq_getElem?_getD, pureOp, ownA_zero, othA_zero, hA]; first | exact z1 c h | exact ⟨.mk c, h⟩)
     refine zc cal27 (preW_c w (c.ws.getD i [])) ?_ (a := fun hg => by first | (simp [hG, List.getD_cons_zero, List.getD_cons_succ, -List.getD_eq_getElem?_getD, pureOp, ownA_zero, othA_zero, hA]; done) | (simp [-List.getD_eq_getElem?_getD] at hg; done) | (simp [-List.getD_eq_getElem?_getD] at hg; simp [hG, List.getD_cons_zero, List.getD_cons_succ, -List.getD_eq_getElem?_getD, pureOp, ownA_zero, othA_zero, hA]; first | omega | exact hg | (simp_all [-List.getD_eq_getElem?_getD]; done) | (simp_all [-List.getD_eq_getElem?_getD]; first | exact ⟨rfl, rfl⟩ | exact rfl))) (b := fun hg => by first | (simp [hG, List.getD_cons_zero, List.getD_cons_succ, -List.getD_eq_getElem?_getD, pureOp, ownA_zero, othA_zero, hA]; done) | (simp [-List.getD_eq_getElem?_getD] at hg; done) | (simp [-List.getD_eq_getElem?_getD] at hg; simp [hG, List.getD_cons_zero, List.getD_cons_succ, -List.getD_eq_getElem?_getD, pureOp, ownA_zero, othA_zero, hA]; first | omega | exact hg | (simp_all [-List.getD_eq_getElem?_getD]; done) | (simp_all [-List.getD_eq_getElem?_getD]; first | exact ⟨rfl, rfl⟩ | exact rfl))) (h := by intro K h; simp [hG, List.getD_cons_zero, List.getD_cons_succ, -List.getD_eq_getElem?_getD, pureOp, ownA_zero, othA_zero, hA]; exact h)
     refine zl 4 ?_ (h := by intro c K h; simp [hG, List.getD_cons_zero, List.getD_cons_succ, -List.getD_eq_getElem?_getD, pureOp, ownA_zero, othA_zero, hA]; first | exact z1 c h | exact ⟨.mk c, h⟩)
     refine awpL_not (.bool true) rfl (fun K hK => ?_) (by intro c hc; cases hc)
     simp [hG, List.getD_cons_zero, List.getD_cons_succ, -List.getD_eq_getElem?_getD, pureOp, ownA_zero, othA_zero, hA]
     refine hK _ ?_
     clear K hK
     refine zl 5 ?_ (h := by intro c K h; simp [hG, List.getD_cons_zero, List.getD_cons_succ, -List.getD_eq_getElem?_getD, pureOp, ownA_zero, othA_zero, hA]; first | exact z1 c h | exact ⟨.mk c, h⟩)
     refine awpL_yield hrec hR [0, 1, 2] (fun _ => false) (bodyCe_y (j : Int) (i : Int) (ownA c.ws w j i) (othA c.ws w j i) hok) rfl (by rw [hok.params]; rfl) rfl rfl rfl (by simp) (.inl fun _ => rfl) ?_ ?_ ?_ fun K hK x hI hno => ?_
     · simp [hG, List.getD_cons_zero, List.getD_cons_succ, -List.getD_eq_getElem?_getD, pureOp, ownA_zero, othA_zero, hA]
     · simp [hG, List.range'_succ, List.range'_zero, List.getD_cons_zero, List.getD_cons_succ, -List.getD_eq_getElem?_getD]
     · simp [hG, List.getD_cons_zero, List.getD_cons_succ, -List.getD_eq_getElem?_getD, pureOp, ownA_zero, othA_zero, hA]
     simp [hG, List.getD_cons_zero, List.getD_cons_succ, -List.getD_eq_getElem?_getD, pureOp, ownA_zero, othA_zero, hA]
     refine hK _ ?_
     clear K hK
     refine zl 2 ?_ (h := by intro c K h; simp [hG, List.getD_cons_zero, List.getD_cons_succ, -List.getD_eq_getElem?_getD, pureOp, ownA_zero, othA_zero, hA]; first | exact z1 c h | exact ⟨.mk c, h⟩)
     refine zN ?_
     refine awpS_cond rfl (fun hb47 => ?_) (fun hb47 => ?_)
     · simp at hb47
     try simp [-List.getD_eq_getElem?_getD] at hb47
     refine zk (zn (zbn (zr ?_ (h := by intro c K h; simp [hG, List.getD_cons_zero, List.getD_cons_succ, -List.getD_eq_getElem?_getD, pureOp, ownA_zero, othA_zero, hA]; first | exact z1 c h | exact ⟨.mk c, h⟩))))
     refine zn ?_
     refine round_end ((i + 1, m)) (⟨by omega, hm⟩) (by omega) ?_
     refine wk_of (id) (fun _ => false) (fun _ => false) ?_ ?_ rfl (by simp) (fun k hk => by first | exact ⟨rfl, rfl⟩ | (revert k; decide) | (obtain rfl : k = 0 := (by omega); exact ⟨rfl, rfl⟩) | (have hk2 : k = 0 ∨ k = 1 := (by omega); rcases hk2 with rfl | rfl <;> exact ⟨rfl, rfl⟩))
     · simp [hG, List.getD_cons_zero, List.getD_cons_succ, -List.getD_eq_getElem?_getD, pureOp, ownA_zero, othA_zero, hA]
     rw [hps.1, hps.2]; simp [hG, List.getD_cons_zero, List.getD_cons_succ, -List.getD_eq_getElem?_getD]
   by_cases hB : (c.ws.getD i []) <+: w
   · have hbl := hB.length_le
     by_cases hZ : rd c.ws [] (w.drop (c.ws.getD i []).length) = true
     · have hps := own_yes (j := j) ((rdB0 hA hB).trans hZ)
       refine zL (zl 2 ?_ (h := by intro c K h; simp [hG, List.getD_cons_zero, List.getD_cons_succ, -List.getD_eq_getElem?_getD, pureOp, ownA_zero, othA_zero, hA, hB, hZ]; first | exact z1 c h | exact ⟨.mk c, h⟩))
       refine zc cal27 (preW_c (c.ws.getD i []) w) ?_ (a := fun hg => by simp [hG, List.getD_cons_zero, List.getD_cons_succ, -List.getD_eq_getElem?_getD, pureOp, ownA_zero, othA_zero, hA, hB, hZ]) (b := fun hg => by simp [hG, List.getD_cons_zero, List.getD_cons_succ, -List.getD_eq_getElem?_getD, pureOp, ownA_zero, othA_zero, hA, hB, hZ]) (h := by intro K h; simp [hG, List.getD_cons_zero, List.getD_cons_succ, -List.getD_eq_getElem?_getD, pureOp, ownA_zero, othA_zero, hA, hB, hZ]; exact h)
       refine zl 3 ?_ (h := by intro c K h; simp [hG, List.getD_cons_zero, List.getD_cons_succ, -List.getD_eq_getElem?_getD, pureOp, ownA_zero, othA_zero, hA, hB, hZ]; first | exact z1 c h | exact ⟨.mk c, h⟩)
       refine zc cal27 (preW_c w (c.ws.getD i [])) ?_ (a := fun hg => by first | (simp [hG, List.getD_cons_zero, List.getD_cons_succ, -List.getD_eq_getElem?_getD, pureOp, ownA_zero, othA_zero, hA, hB, hZ]; done) | (simp [-List.getD_eq_getElem?_getD] at hg; done) | (simp [-List.getD_eq_getElem?_getD] at hg; simp [hG, List.getD_cons_zero, List.getD_cons_succ, -List.getD_eq_getElem?_getD, pureOp, ownA_zero, othA_zero, hA, hB, hZ]; first | omega | exact hg | (simp_all [-List.getD_eq_getElem?_getD]; done) | (simp_all [-List.getD_eq_getElem?_getD]; first | exact ⟨rfl, rfl⟩ | exact rfl))) (b := fun hg => by first | (simp [hG, List.getD_cons_zero, List.getD_cons_succ, -List.getD_eq_getElem?_getD, pureOp, ownA_zero, othA_zero, hA, hB, hZ]; done) | (simp [-List.getD_eq_getElem?_getD] at hg; done) | (simp [-List.getD_eq_getElem?_getD] at hg; simp [hG, List.getD_cons_zero, List.getD_cons_succ, -List.getD_eq_getElem?_getD, pureOp, ownA_zero, othA_zero, hA, hB, hZ]; first | omega | exact hg | (simp_all [-List.getD_eq_getElem?_getD]; done) | (simp_all [-List.getD_eq_getElem?_getD]; first | exact ⟨rfl, rfl⟩ | exact rfl))) (h := by intro K h; simp [hG, List.getD_cons_zero, List.getD_cons_succ, -List.getD_eq_getElem?_getD, pureOp, ownA_zero, othA_zero, hA, hB, hZ]; exact h)
       refine zl 4 ?_ (h := by intro c K h; simp [hG, List.getD_cons_zero, List.getD_cons_succ, -List.getD_eq_getElem?_getD, pureOp, ownA_zero, othA_zero, hA, hB, hZ]; first | exact z1 c h | exact ⟨.mk c, h⟩)
       refine awpL_fcg cal86 [3, 4, 5] (fun _ => false) (is_all hl hv hw (w.length - (c.ws.getD i []).length) (c.ws.getD i []).length m (by omega) hm) rfl rfl rfl rfl (by simp) (.inl fun _ => rfl) ?_ ?_ ?_ fun K hK m2 hI hno => ?_
       · simp [hG, List.getD_cons_zero, List.getD_cons_succ, -List.getD_eq_getElem?_getD, pureOp, ownA_zero, othA_zero, hA, hB, hZ]
       · simp [hG, List.range'_succ, List.range'_zero, List.getD_cons_zero, List.getD_cons_succ, -List.getD_eq_getElem?_getD]
       · simp [hG, List.getD_cons_zero, List.getD_cons_succ, -List.getD_eq_getElem?_getD, pureOp, ownA_zero, othA_zero, hA, hB, hZ]
       have hm2 := hI
       simp [hG, List.getD_cons_zero, List.getD_cons_succ, -List.getD_eq_getElem?_getD, pureOp, ownA_zero, othA_zero, hA, hB, hZ]
       refine hK _ ?_
       clear K hK
       refine zl 5 ?_ (h := by intro c K h; simp [hG, List.getD_cons_zero, List.getD_cons_succ, -List.getD_eq_getElem?_getD, pureOp, ownA_zero, othA_zero, hA, hB, hZ]; first | exact z1 c h | exact ⟨.mk c, h⟩)
       refine awpL_yield hrec hR [0, 1, 2] (fun _ => false) (bodyCe_y (j : Int) (i : Int) (ownA c.ws w j i) (othA c.ws w j i) hok) rfl (by rw [hok.params]; rfl) rfl rfl rfl (by simp) (.inl fun _ => rfl) ?_ ?_ ?_ fun K hK x hI hno => ?_
       · simp [hG, List.getD_cons_zero, List.getD_cons_succ, -List.getD_eq_getElem?_getD, pureOp, ownA_zero, othA_zero, hA, hB, hZ]
       · simp [hG, List.range'_succ, List.range'_zero, List.getD_cons_zero, List.getD_cons_succ, -List.getD_eq_getElem?_getD]
       · simp [hG, List.getD_cons_zero, List.getD_cons_succ, -List.getD_eq_getElem?_getD, pureOp, ownA_zero, othA_zero, hA, hB, hZ]
       simp [hG, List.getD_cons_zero, List.getD_cons_succ, -List.getD_eq_getElem?_getD, pureOp, ownA_zero, othA_zero, hA, hB, hZ]
       refine hK _ ?_
       clear K hK
       refine zl 2 ?_ (h := by intro c K h; simp [hG, List.getD_cons_zero, List.getD_cons_succ, -List.getD_eq_getElem?_getD, pureOp, ownA_zero, othA_zero, hA, hB, hZ]; first | exact z1 c h | exact ⟨.mk c, h⟩)
       refine zN ?_
       refine awpS_cond rfl (fun hb47 => ?_) (fun hb47 => ?_)
       · simp at hb47
       try simp [-List.getD_eq_getElem?_getD] at hb47
       refine zk (zn (zbn (zr ?_ (h := by intro c K h; simp [hG, List.getD_cons_zero, List.getD_cons_succ, -List.getD_eq_getElem?_getD, pureOp, ownA_zero, othA_zero, hA, hB, hZ]; first | exact z1 c h | exact ⟨.mk c, h⟩))))
       refine zn ?_
       refine round_end ((i + 1, m2)) (⟨by omega, hm2⟩) (by omega) ?_
       refine wk_of (id) (fun _ => false) (fun _ => false) ?_ ?_ rfl (by simp) (fun k hk => by first | exact ⟨rfl, rfl⟩ | (revert k; decide) | (obtain rfl : k = 0 := (by omega); exact ⟨rfl, rfl⟩) | (have hk2 : k = 0 ∨ k = 1 := (by omega); rcases hk2 with rfl | rfl <;> exact ⟨rfl, rfl⟩))
       · simp [hG, List.getD_cons_zero, List.getD_cons_succ, -List.getD_eq_getElem?_getD, pureOp, ownA_zero, othA_zero, hA, hB, hZ]
       rw [hps.1, hps.2]; simp [hG, List.getD_cons_zero, List.getD_cons_succ, -List.getD_eq_getElem?_getD]
     have hps := own_not (j := j) ((rdB0 hA hB).trans (by simpa using hZ))
     refine zL (zl 2 ?_ (h := by intro c K h; simp [hG, List.getD_cons_zero, List.getD_cons_succ, -List.getD_eq_getElem?_getD, pureOp, ownA_zero, othA_zero, hA, hB, hZ]; first | exact z1 c h | exact ⟨.mk c, h⟩))
     refine zc cal27 (preW_c (c.ws.getD i []) w) ?_ (a := fun hg => by simp [hG, List.getD_cons_zero, List.getD_cons_succ, -List.getD_eq_getElem?_getD, pureOp, ownA_zero, othA_zero, hA, hB, hZ]) (b := fun hg => by simp [hG, List.getD_cons_zero, List.getD_cons_succ, -List.getD_eq_getElem?_getD, pureOp, ownA_zero, othA_zero, hA, hB, hZ]) (h := by intro K h; simp [hG, List.getD_cons_zero, List.getD_cons_succ, -List.getD_eq_getElem?_getD, pureOp, ownA_zero, othA_zero, hA, hB, hZ]; exact h)
     refine zl 3 ?_ (h := by intro c K h; simp [hG, List.getD_cons_zero, List.getD_cons_succ, -List.getD_eq_getElem?_getD, pureOp, ownA_zero, othA_zero, hA, hB, hZ]; first | exact z1 c h | exact ⟨.mk c, h⟩)
     refine zc cal27 (preW_c w (c.ws.getD i [])) ?_ (a := fun hg => by first | (simp [hG, List.getD_cons_zero, List.getD_cons_succ, -List.getD_eq_getElem?_getD, pureOp, ownA_zero, othA_zero, hA, hB, hZ]; done) | (simp [-List.getD_eq_getElem?_getD] at hg; done) | (simp [-List.getD_eq_getElem?_getD] at hg; simp [hG, List.getD_cons_zero, List.getD_cons_succ, -List.getD_eq_getElem?_getD, pureOp, ownA_zero, othA_zero, hA, hB, hZ]; first | omega | exact hg | (simp_all [-List.getD_eq_getElem?_getD]; done) | (simp_all [-List.getD_eq_getElem?_getD]; first | exact ⟨rfl, rfl⟩ | exact rfl))) (b := fun hg => by first | (simp [hG, List.getD_cons_zero, List.getD_cons_succ, -List.getD_eq_getElem?_getD, pureOp, ownA_zero, othA_zero, hA, hB, hZ]; done) | (simp [-List.getD_eq_getElem?_getD] at hg; done) | (simp [-List.getD_eq_getElem?_getD] at hg; simp [hG, List.getD_cons_zero, List.getD_cons_succ, -List.getD_eq_getElem?_getD, pureOp, ownA_zero, othA_zero, hA, hB, hZ]; first | omega | exact hg | (simp_all [-List.getD_eq_getElem?_getD]; done) | (simp_all [-List.getD_eq_getElem?_getD]; first | exact ⟨rfl, rfl⟩ | exact rfl))) (h := by intro K h; simp [hG, List.getD_cons_zero, List.getD_cons_succ, -List.getD_eq_getElem?_getD, pureOp, ownA_zero, othA_zero, hA, hB, hZ]; exact h)
     refine zl 4 ?_ (h := by intro c K h; simp [hG, List.getD_cons_zero, List.getD_cons_succ, -List.getD_eq_getElem?_getD, pureOp, ownA_zero, othA_zero, hA, hB, hZ]; first | exact z1 c h | exact ⟨.mk c, h⟩)
     refine awpL_fcg cal86 [3, 4, 5] (fun _ => false) (is_all hl hv hw (w.length - (c.ws.getD i []).length) (c.ws.getD i []).length m (by omega) hm) rfl rfl rfl rfl (by simp) (.inl fun _ => rfl) ?_ ?_ ?_ fun K hK m2 hI hno => ?_
     · simp [hG, List.getD_cons_zero, List.getD_cons_succ, -List.getD_eq_getElem?_getD, pureOp, ownA_zero, othA_zero, hA, hB, hZ]
     · simp [hG, List.range'_succ, List.range'_zero, List.getD_cons_zero, List.getD_cons_succ, -List.getD_eq_getElem?_getD]
     · simp [hG, List.getD_cons_zero, List.getD_cons_succ, -List.getD_eq_getElem?_getD, pureOp, ownA_zero, othA_zero, hA, hB, hZ]
     have hm2 := hI
     simp [hG, List.getD_cons_zero, List.getD_cons_succ, -List.getD_eq_getElem?_getD, pureOp, ownA_zero, othA_zero, hA, hB, hZ]
     refine hK _ ?_
     clear K hK
     refine zl 5 ?_ (h := by intro c K h; simp [hG, List.getD_cons_zero, List.getD_cons_succ, -List.getD_eq_getElem?_getD, pureOp, ownA_zero, othA_zero, hA, hB, hZ]; first | exact z1 c h | exact ⟨.mk c, h⟩)
     refine awpL_not (.bool true) rfl (fun K hK => ?_) (by intro c hc; cases hc)
     simp [hG, List.getD_cons_zero, List.getD_cons_succ, -List.getD_eq_getElem?_getD, pureOp, ownA_zero, othA_zero, hA, hB, hZ]
     refine hK _ ?_
     clear K hK
     refine zl 2 ?_ (h := by intro c K h; simp [hG, List.getD_cons_zero, List.getD_cons_succ, -List.getD_eq_getElem?_getD, pureOp, ownA_zero, othA_zero, hA, hB, hZ]; first | exact z1 c h | exact ⟨.mk c, h⟩)
     refine zN ?_
     refine awpS_cond rfl (fun hb47 => ?_) (fun hb47 => ?_)
     · simp at hb47
     try simp [-List.getD_eq_getElem?_getD] at hb47
     refine zk (zn (zbn (zr ?_ (h := by intro c K h; simp [hG, List.getD_cons_zero, List.getD_cons_succ, -List.getD_eq_getElem?_getD, pureOp, ownA_zero, othA_zero, hA, hB, hZ]; first | exact z1 c h | exact ⟨.mk c, h⟩))))
     refine zn ?_
     refine round_end ((i + 1, m2)) (⟨by omega, hm2⟩) (by omega) ?_
     refine wk_of (id) (fun _ => false) (fun _ => false) ?_ ?_ rfl (by simp) (fun k hk => by first | exact ⟨rfl, rfl⟩ | (revert k; decide) | (obtain rfl : k = 0 := (by omega); exact ⟨rfl, rfl⟩) | (have hk2 : k = 0 ∨ k = 1 := (by omega); rcases hk2 with rfl | rfl <;> exact ⟨rfl, rfl⟩))
     · simp [hG, List.getD_cons_zero, List.getD_cons_succ, -List.getD_eq_getElem?_getD, pureOp, ownA_zero, othA_zero, hA, hB, hZ]
     rw [hps.1, hps.2]; simp [hG, List.getD_cons_zero, List.getD_cons_succ, -List.getD_eq_getElem?_getD]
   have hps := own_not (j := j) (rdN hA hB)
   refine zL (zl 2 ?_ (h := by intro c K h; simp [hG, List.getD_cons_zero, List.getD_cons_succ, -List.getD_eq_getElem?_getD, pureOp, ownA_zero, othA_zero, hA, hB]; first | exact z1 c h | exact ⟨.mk c, h⟩))
   refine zc cal27 (preW_c (c.ws.getD i []) w) ?_ (a := fun hg => by simp [hG, List.getD_cons_zero, List.getD_cons_succ, -List.getD_eq_getElem?_getD, pureOp, ownA_zero, othA_zero, hA, hB]) (b := fun hg => by simp [hG, List.getD_cons_zero, List.getD_cons_succ, -List.getD_eq_getElem?_getD, pureOp, ownA_zero, othA_zero, hA, hB]) (h := by intro K h; simp [hG, List.getD_cons_zero, List.getD_cons_succ, -List.getD_eq_getElem?_getD, pureOp, ownA_zero, othA_zero, hA, hB]; exact h)
   refine zl 3 ?_ (h := by intro c K h; simp [hG, List.getD_cons_zero, List.getD_cons_succ, -List.getD_eq_getElem?_getD, pureOp, ownA_zero, othA_zero, hA, hB]; first | exact z1 c h | exact ⟨.mk c, h⟩)
   refine zc cal27 (preW_c w (c.ws.getD i [])) ?_ (a := fun hg => by first | (simp [hG, List.getD_cons_zero, List.getD_cons_succ, -List.getD_eq_getElem?_getD, pureOp, ownA_zero, othA_zero, hA, hB]; done) | (simp [-List.getD_eq_getElem?_getD] at hg; done) | (simp [-List.getD_eq_getElem?_getD] at hg; simp [hG, List.getD_cons_zero, List.getD_cons_succ, -List.getD_eq_getElem?_getD, pureOp, ownA_zero, othA_zero, hA, hB]; first | omega | exact hg | (simp_all [-List.getD_eq_getElem?_getD]; done) | (simp_all [-List.getD_eq_getElem?_getD]; first | exact ⟨rfl, rfl⟩ | exact rfl))) (b := fun hg => by first | (simp [hG, List.getD_cons_zero, List.getD_cons_succ, -List.getD_eq_getElem?_getD, pureOp, ownA_zero, othA_zero, hA, hB]; done) | (simp [-List.getD_eq_getElem?_getD] at hg; done) | (simp [-List.getD_eq_getElem?_getD] at hg; simp [hG, List.getD_cons_zero, List.getD_cons_succ, -List.getD_eq_getElem?_getD, pureOp, ownA_zero, othA_zero, hA, hB]; first | omega | exact hg | (simp_all [-List.getD_eq_getElem?_getD]; done) | (simp_all [-List.getD_eq_getElem?_getD]; first | exact ⟨rfl, rfl⟩ | exact rfl))) (h := by intro K h; simp [hG, List.getD_cons_zero, List.getD_cons_succ, -List.getD_eq_getElem?_getD, pureOp, ownA_zero, othA_zero, hA, hB]; exact h)
   refine zl 4 ?_ (h := by intro c K h; simp [hG, List.getD_cons_zero, List.getD_cons_succ, -List.getD_eq_getElem?_getD, pureOp, ownA_zero, othA_zero, hA, hB]; first | exact z1 c h | exact ⟨.mk c, h⟩)
   refine awpL_not (.bool true) rfl (fun K hK => ?_) (by intro c hc; cases hc)
   simp [hG, List.getD_cons_zero, List.getD_cons_succ, -List.getD_eq_getElem?_getD, pureOp, ownA_zero, othA_zero, hA, hB]
   refine hK _ ?_
   clear K hK
   refine zl 5 ?_ (h := by intro c K h; simp [hG, List.getD_cons_zero, List.getD_cons_succ, -List.getD_eq_getElem?_getD, pureOp, ownA_zero, othA_zero, hA, hB]; first | exact z1 c h | exact ⟨.mk c, h⟩)
   refine awpL_not (.bool true) rfl (fun K hK => ?_) (by intro c hc; cases hc)
   simp [hG, List.getD_cons_zero, List.getD_cons_succ, -List.getD_eq_getElem?_getD, pureOp, ownA_zero, othA_zero, hA, hB]
   refine hK _ ?_
   clear K hK
   refine zl 2 ?_ (h := by intro c K h; simp [hG, List.getD_cons_zero, List.getD_cons_succ, -List.getD_eq_getElem?_getD, pureOp, ownA_zero, othA_zero, hA, hB]; first | exact z1 c h | exact ⟨.mk c, h⟩)
   refine zN ?_
   refine awpS_cond rfl (fun hb47 => ?_) (fun hb47 => ?_)
   · simp at hb47
   try simp [-List.getD_eq_getElem?_getD] at hb47
   refine zk (zn (zbn (zr ?_ (h := by intro c K h; simp [hG, List.getD_cons_zero, List.getD_cons_succ, -List.getD_eq_getElem?_getD, pureOp, ownA_zero, othA_zero, hA, hB]; first | exact z1 c h | exact ⟨.mk c, h⟩))))
   refine zn ?_
   refine round_end ((i + 1, m)) (⟨by omega, hm⟩) (by omega) ?_
   refine wk_of (id) (fun _ => false) (fun _ => false) ?_ ?_ rfl (by simp) (fun k hk => by first | exact ⟨rfl, rfl⟩ | (revert k; decide) | (obtain rfl : k = 0 := (by omega); exact ⟨rfl, rfl⟩) | (have hk2 : k = 0 ∨ k = 1 := (by omega); rcases hk2 with rfl | rfl <;> exact ⟨rfl, rfl⟩))
   · simp [hG, List.getD_cons_zero, List.getD_cons_succ, -List.getD_eq_getElem?_getD, pureOp, ownA_zero, othA_zero, hA, hB]
   rw [hps.1, hps.2]; simp [hG, List.getD_cons_zero, List.getD_cons_succ, -List.getD_eq_getElem?_getD]
 obtain rfl : i = c.ws.length := (by omega)
 refine zx (ztx (zbx (zn ?_)))
 refine RetF_of (()) (id) (fun _ => false) (fun _ => false) trivial ?_ ?_ (by rfl) (by simp) (fun k hk => ⟨rfl, rfl⟩)
 · simp [hG, List.getD_cons_zero, List.getD_cons_succ, -List.getD_eq_getElem?_getD, pureOp, ownA_zero, othA_zero]
 simp [hG, List.getD_cons_zero, List.getD_cons_succ, -List.getD_eq_getElem?_getD]
set_option maxRecDepth 100000 in
theorem certain_c (c : Cd) (hl : c.ws.length ≤ maxLen) (hv : CdOK c) (d : Nat) (hd : d ≤ 4096) (w : List UInt8) (hw : w.length ≤ 1000000) : PC Try.prog 50 [.agg 2 (cdF c), .int .i64 (d : Nat), .str w] (.int .i64 (cerN c.ws d w)) := by
 have hML : maxLen = 9223372036854775807 := by decide
 have hWn := hv.n
 refine zp Try.func50 fun G hG hR => ?_
 refine zs (zrP ?_)
 refine zs (zs (zrP ?_))
 refine zb ?_
 refine awpS_loop (α := Nat) (fun i => ⟨[(1, .int .i64 (d : Nat)), (2, .str w), (3, .vptr 2 (cdF c) 0), (13, strs c.ws), (14, .int .i64 c.ws.length), (15, .int .i64 (i : Nat))], [], 0⟩) (fun i => i ≤ c.ws.length ∧ ∀ j, j < i → cerB c.ws d w j = false) (fun i => c.ws.length - i) (0) (⟨Nat.zero_le _, fun j hj => absurd hj (Nat.not_lt_zero _)⟩) ?_ ?_
 · exact zwP (id) (fun k => k == 0) (fun _ => false)
 rintro i ⟨hi, hn⟩
 refine zs (zrP ?_)
 refine zs (zy (fun hb16 => ?_) fun hb16 => ?_)
 · have hxl := hv.len _ (W_mem hb16)
   refine zk (zs (zb (zs (zrP ?_))))
   refine zs (zs (zL (zlP 10 ?_)))
   refine zcP cal27 (preW_c w (c.ws.getD i [])) ?_
   refine zlP 2 ?_
   refine zN (zy (fun hb32 => ?_) fun hb32 => ?_)
   · have hcb : cerB c.ws d w i = false := cerB_short (by intro hh; simp_all; omega)
     refine zx (zbx (zrP ?_))
     refine zn ?_
     refine round_end (i + 1) (⟨by omega, step_all hn hcb⟩) (by omega) ?_
     exact ziP
   have hcb := cerB_long (W := c.ws) (d := d) (w := w) (i := i) (by omega) (by simp_all) hb16
   refine zk (zs (zrP ?_))
   refine zs (zs ?_)
   refine awpS_draw hR mixed [] ⟨[], [], []⟩ fun mu0 => ?_
   refine zaP [0, 1, 2, 3, 4, 5, 6] [] 1 [6, 5, 4, 3, 2, 1, 0] ?_
   refine awpA_only (fuel := 0) (i := 7) (by decide +kernel) ?_
   refine zeP cal48 (starts_c c (w.take ((c.ws.getD i []).length + d))) ?_
   refine awpA_done (by decide +kernel) ?_
   refine zb ?_
   refine awpS_range hR [7, 9, 10] [0, 1, 2] (fun _ => false) cal72 rfl trivial (fun l rec vs hok => by rw [hG] at hok; exact startsC_c l rec vs hok c hl hv (w.take ((c.ws.getD i []).length + d)) (by rw [List.length_take]; omega) i) (by simp) (.inl fun _ => rfl) (fun l vs => ?_) ?_ fun K hK x hI hno => ?_
   · simp [hG, List.getD_cons_zero, List.getD_cons_succ, -List.getD_eq_getElem?_getD]; exact ⟨Clo.le _ (fun j hj => ⟨one_cdF, Clo_cdF⟩), Clo.le _ (fun j hj => ⟨rfl, trivial⟩), trivial⟩
   · simp [hG, List.getD_cons_zero, List.getD_cons_succ, -List.getD_eq_getElem?_getD, pureOp]
   simp [hG, List.getD_cons_zero, List.getD_cons_succ, -List.getD_eq_getElem?_getD, pureOp]
   refine hK _ ?_
   clear K hK
   refine zn (zbn (zs (zrP ?_)))
   refine zy (fun hb58 => ?_) fun hb58 => ?_
   · refine zs (zrP ?_)
     refine zt (zbt (ztt (zbt ?_)))
     refine RetOK_of ?_
     simp [hG, List.getD_cons_zero, List.getD_cons_succ, -List.getD_eq_getElem?_getD, pureOp]
     exact (cerN_at hb16 (by rw [hcb]; simpa using hb58) hn).symm
   refine zk (zn (zbn (zrP ?_)))
   refine zn ?_
   refine round_end (i + 1) (⟨by omega, step_all hn (by rw [hcb]; simpa using hb58)⟩) (by omega) ?_
   exact ziP
 obtain rfl : i = c.ws.length := (by omega)
 refine zx (ztx (zbx (zs (zrP ?_))))
 refine zt ?_
 refine RetOK_of ?_
 simp [hG, List.getD_cons_zero, List.getD_cons_succ, -List.getD_eq_getElem?_getD, pureOp]
 exact (cerN_no hn).symm
theorem re_1 {c : Cd} {d : Int} {w : Wd} (h : ckN c w ≠ 0) : reN c d w = ckN c w ∧ reL c d w = [] ∧ reM c d w = 0 := by
  have e : reN c d w = ckN c w := if_pos h
  unfold reL reM
  rw [e]
  exact ⟨rfl, if_neg h, if_neg h⟩
theorem re_2 {c : Cd} {d : Int} {w : Wd} (h : ckN c w = 0) (h2 : d < 0 ∨ 4096 < d) : reN c d w = 2 ∧ reL c d w = [] ∧ reM c d w = 0 := by
  have e : reN c d w = 2 := by unfold reN; rw [if_neg (fun k => k h), if_pos h2]
  unfold reL reM
  rw [e]
  exact ⟨rfl, if_neg (by decide), if_neg (by decide)⟩
theorem re_3 {c : Cd} {d : Nat} {w : Wd} (h : ckN c w = 0) (h2 : d ≤ 4096) {k : Nat} (hv : CdOK c) (hn : ∀ j, j < k → cerF c.ws d (w.drop (rdS c.ws d w j).2) ≠ none) (he : cerF c.ws d (w.drop (rdS c.ws d w k).2) = none) : reN c d w = 0 ∧ reL c d w = (rdS c.ws d w k).1 ∧ reM c d w = (rdS c.ws d w k).2 := by
  have e : reN c d w = 0 := by unfold reN; rw [if_neg (fun k => k h), if_neg (by omega)]
  unfold reL reM
  rw [e, if_pos rfl, if_pos rfl, Int.toNat_natCast, rdR_end hv.ne hn he]
  exact ⟨rfl, rfl, rfl⟩
theorem rdS_len {W : List Wd} {d : Nat} {w : Wd} : ∀ k, (rdS W d w k).1.length ≤ k
  | 0 => Nat.le_refl _
  | k + 1 => by
    have ih := rdS_len (W := W) (d := d) (w := w) k
    cases h : cerF W d (w.drop (rdS W d w k).2) with
    | none => rw [rdS_none h]; omega
    | some i => rw [rdS_some h]; simp; omega
theorem rdS_zero {W : List Wd} {d : Nat} {w : Wd} : rdS W d w 0 = ([], 0) := rfl
set_option maxRecDepth 100000 in
theorem read_c (c : Cd) (hl : c.ws.length ≤ maxLen) (d : Int) (w : List UInt8) : PC Try.prog 21 [.agg 2 (cdF c), .int .i64 d, .str w] (.tup 3 (fun j => [ints (reL c d w), .int .i64 (reM c d w), .int .i64 (reN c d w)].getD j .any)) := by
 have hML : maxLen = 9223372036854775807 := by decide
 refine zp Try.func21 fun G hG hR => ?_
 refine zs (zr ?_ (h := by intro c K h; simp [hG, List.getD_cons_zero, List.getD_cons_succ, -List.getD_eq_getElem?_getD, pureOp, rdS_zero]; first | exact z1 c h | exact ⟨.mk c, h⟩))
 refine zs (zs (zL (zl 2 ?_ (h := by intro c K h; simp [hG, List.getD_cons_zero, List.getD_cons_succ, -List.getD_eq_getElem?_getD, pureOp, rdS_zero]; first | exact z1 c h | exact ⟨.mk c, h⟩))))
 refine zc cal47 (checkW_c c hl w) ?_ (a := fun hg => by simp [hG, List.getD_cons_zero, List.getD_cons_succ, -List.getD_eq_getElem?_getD, pureOp, rdS_zero]) (b := fun hg => by simp [hG, List.getD_cons_zero, List.getD_cons_succ, -List.getD_eq_getElem?_getD, pureOp, rdS_zero]) (h := by intro K h; simp [hG, List.getD_cons_zero, List.getD_cons_succ, -List.getD_eq_getElem?_getD, pureOp, rdS_zero]; exact h)
 refine zl 1 ?_ (h := by intro c K h; simp [hG, List.getD_cons_zero, List.getD_cons_succ, -List.getD_eq_getElem?_getD, pureOp, rdS_zero]; first | exact z1 c h | exact ⟨.mk c, h⟩)
 refine zN (zs (zr ?_ (h := by intro c K h; simp [hG, List.getD_cons_zero, List.getD_cons_succ, -List.getD_eq_getElem?_getD, pureOp, rdS_zero]; first | exact z1 c h | exact ⟨.mk c, h⟩)))
 refine zy (fun hb17 => ?_) fun hb17 => ?_
 · refine zs (zr ?_ (h := by intro c K h; simp [hG, List.getD_cons_zero, List.getD_cons_succ, -List.getD_eq_getElem?_getD, pureOp, rdS_zero]; first | exact z1 c h | exact ⟨.mk c, h⟩))
   refine zt ?_
   refine RetOK_of ?_
   simp [hG, List.getD_cons_zero, List.getD_cons_succ, -List.getD_eq_getElem?_getD, pureOp, rdS_zero]
   obtain ⟨h1, h2, h3⟩ := re_1 (d := d) hb17; rw [h1, h2, h3]; exact ⟨rfl, rfl, rfl⟩
 have hck : ckN c w = 0 := (by simpa using hb17)
 have hw : w.length ≤ 1000000 := ck_len hck
 have hv := cd_ok (ck_code hck)
 refine zk (zs (zs (zr ?_ (h := by intro c K h; simp [hG, List.getD_cons_zero, List.getD_cons_succ, -List.getD_eq_getElem?_getD, pureOp, rdS_zero]; first | exact z1 c h | exact ⟨.mk c, h⟩))))
 refine zy (fun hb24 => ?_) fun hb24 => ?_
 · refine zs (zr ?_ (h := by intro c K h; simp [hG, List.getD_cons_zero, List.getD_cons_succ, -List.getD_eq_getElem?_getD, pureOp, rdS_zero]; first | exact z1 c h | exact ⟨.mk c, h⟩))
   refine zt ?_
   refine RetOK_of ?_
   simp [hG, List.getD_cons_zero, List.getD_cons_succ, -List.getD_eq_getElem?_getD, pureOp, rdS_zero]
   obtain ⟨h1, h2, h3⟩ := re_2 (d := d) hck (by omega); rw [h1, h2, h3]; exact ⟨rfl, rfl, rfl⟩
 obtain ⟨e, rfl⟩ : ∃ e : Nat, d = (e : Int) := ⟨d.toNat, by omega⟩
 refine zk (zs (zr ?_ (h := by intro c K h; simp [hG, List.getD_cons_zero, List.getD_cons_succ, -List.getD_eq_getElem?_getD, pureOp, rdS_zero]; first | exact z1 c h | exact ⟨.mk c, h⟩)))
 refine zs (zr ?_ (h := by intro c K h; simp [hG, List.getD_cons_zero, List.getD_cons_succ, -List.getD_eq_getElem?_getD, pureOp, rdS_zero]; first | exact z1 c h | exact ⟨.mk c, h⟩))
 refine zb ?_
 refine awpS_loop (α := Nat) (fun k => ⟨[(1, .int .i64 (e : Nat)), (2, .str w), (3, .vptr 2 (cdF c) 0), (10, .sl (0, 0) 0 (rdS c.ws e w k).1.length), (11, .int .i64 ((rdS c.ws e w k).2 : Nat))], [(0, .one (.arr (rdS c.ws e w k).1.length 1 (fun p _ => .int .i64 ((rdS c.ws e w k).1.getD p 0))))], 1⟩) (fun k => ∀ j, j < k → cerF c.ws e (w.drop (rdS c.ws e w j).2) ≠ none) (fun k => w.length + 1 - k) (0) (fun j hj => absurd hj (Nat.not_lt_zero _)) ?_ ?_
 · exact zw (fun k => if k = 0 then 1 else k) (fun k => k == 0) (fun k => k == 0) (e := by simp [hG, List.getD_cons_zero, List.getD_cons_succ, -List.getD_eq_getElem?_getD, pureOp, rdS_zero]) (h := by simp [hG, List.getD_cons_zero, List.getD_cons_succ, -List.getD_eq_getElem?_getD, pureOp, rdS_zero])
 rintro k hn
 have hcnt := rdS_count hv.ne k hn
 have hbx := rdS_box (W := c.ws) (d := e) (w := w) k
 refine zb (zs ?_)
 refine awpS_draw hR mixed [] ⟨[], [], []⟩ fun mu0 => ?_
 refine za [0, 1, 2, 3, 4] [] 2 [4, 3, 2, 1, 0] ?_ (h := by intro c K h; simp [hG, List.getD_cons_zero, List.getD_cons_succ, -List.getD_eq_getElem?_getD, pureOp, rdS_zero]; first | exact z1 c h | exact ⟨.mk c, h⟩)
 refine awpA_only (fuel := 1) (i := 5) (by decide +kernel) ?_
 refine ze cal50 (certain_c c hl hv e (by omega) (w.drop (rdS c.ws e w k).2) (by rw [List.length_drop]; omega)) ?_ (a := fun hg => by simp [hG, List.getD_cons_zero, List.getD_cons_succ, -List.getD_eq_getElem?_getD, pureOp, rdS_zero]) (b := fun hg => by simp [hG, List.getD_cons_zero, List.getD_cons_succ, -List.getD_eq_getElem?_getD, pureOp, rdS_zero]) (h := by intro K h; simp [hG, List.getD_cons_zero, List.getD_cons_succ, -List.getD_eq_getElem?_getD, pureOp, rdS_zero]; exact h)
 refine za [6] [] 0 [6, 5, 4, 3, 2, 1, 0] ?_ (h := by intro c K h; simp [hG, List.getD_cons_zero, List.getD_cons_succ, -List.getD_eq_getElem?_getD, pureOp, rdS_zero]; first | exact z1 c h | exact ⟨.mk c, h⟩)
 refine awpA_done (by decide +kernel) ?_
 refine zs (zs (zr ?_ (h := by intro c K h; simp [hG, List.getD_cons_zero, List.getD_cons_succ, -List.getD_eq_getElem?_getD, pureOp, rdS_zero]; first | exact z1 c h | exact ⟨.mk c, h⟩)))
 refine zy (fun hb32 => ?_) fun hb32 => ?_
 · have hcf := cerN_neg hb32
   refine zs (zr ?_ (h := by intro c K h; simp [hG, List.getD_cons_zero, List.getD_cons_succ, -List.getD_eq_getElem?_getD, pureOp, rdS_zero]; first | exact z1 c h | exact ⟨.mk c, h⟩))
   refine zt (zbt (ztt (zbt ?_)))
   refine RetOK_of ?_
   simp [hG, List.getD_cons_zero, List.getD_cons_succ, -List.getD_eq_getElem?_getD, pureOp, rdS_zero]
   obtain ⟨h1, h2, h3⟩ := re_3 hck (by omega) hv hn hcf; rw [h1, h2, h3]; exact ⟨⟨rfl, Nat.le_refl _, fun _ _ => rfl⟩, rfl, rfl⟩
 obtain ⟨i, hiw, hci, hcf⟩ := cerN_pos (W := c.ws) (d := e) (w := w.drop (rdS c.ws e w k).2) (by omega)
 have hrs := rdS_some hcf
 have hxl := hv.len _ (W_mem hiw)
 have hlen := rdS_len (W := c.ws) (d := e) (w := w) k
 rw [hci]
 refine zk ?_
 refine awpS_draw hR mixed [] ⟨[], [3], []⟩ fun mu0 => ?_
 refine za [0, 1, 4, 5, 6, 7, 8, 9, 10, 11] [] 4 [11, 10, 9, 8, 7, 6, 5, 4, 1, 0] ?_ (h := by intro c K h; simp [hG, List.getD_cons_zero, List.getD_cons_succ, -List.getD_eq_getElem?_getD, pureOp, rdS_zero]; first | exact z1 c h | exact ⟨.mk c, h⟩)
 refine awpA_only (fuel := 3) (i := 2) (by decide +kernel) ?_
 refine zo ?_ (hw := by simp [hG, List.getD_cons_zero, List.getD_cons_succ, -List.getD_eq_getElem?_getD, pureOp, rdS_zero]; (try exact trivial)) (h := by intro c K h; simp [hG, List.getD_cons_zero, List.getD_cons_succ, -List.getD_eq_getElem?_getD, pureOp, rdS_zero]; first | exact z1 c h | exact ⟨.mk c, h⟩)
 refine awpA_only (fuel := 2) (i := 3) (by decide +kernel) ?_
 refine zo ?_ (hw := by simp [hG, List.getD_cons_zero, List.getD_cons_succ, -List.getD_eq_getElem?_getD, pureOp, rdS_zero]; (try exact trivial)) (h := by intro c K h; simp [hG, List.getD_cons_zero, List.getD_cons_succ, -List.getD_eq_getElem?_getD, pureOp, rdS_zero]; first | exact z1 c h | exact ⟨.mk c, h⟩)
 refine za [12, 13] [] 0 [13, 12, 3, 2, 11, 10, 9, 8, 7, 6, 5, 4, 1, 0] ?_ (h := by intro c K h; simp [hG, List.getD_cons_zero, List.getD_cons_succ, -List.getD_eq_getElem?_getD, pureOp, rdS_zero]; first | exact z1 c h | exact ⟨.mk c, h⟩)
 refine awpA_done (by decide +kernel) ?_
 refine zn (zbn (zn ?_))
 refine round_end (k + 1) (step_all hn (by rw [hcf]; simp)) (by omega) ?_
 exact zw (fun k => if k = 0 then 2 else k) (fun _ => false) (fun _ => false) (e := by rw [hrs]; simp [hG, List.getD_cons_zero, List.getD_cons_succ, -List.getD_eq_getElem?_getD]) (h := by rw [hrs]; simp [hG, List.getD_cons_zero, List.getD_cons_succ, -List.getD_eq_getElem?_getD]; exact fun i hi => app_oneI rfl hi)
def bgT (W : List Wd) (w : Wd) (i p : Nat) : Bool := decide (i ≤ p) && rd W [] (w.drop p)
def bgK (W : List Wd) (u : Wd) (k : Nat) : Bool := (List.range k).any fun x => rd W (W.getD x []) u
def tbT (W : List Wd) (w : Wd) (i k p : Nat) : Bool := if p = i then bgK W (w.drop i) k else bgT W w (i + 1) p
section
variable {W : List Wd} {w u : Wd} {i k p : Nat}
@[simp] theorem bgK_zero : bgK W u 0 = false := rfl
theorem bgK_succ : bgK W u (k + 1) = (bgK W u k || rd W (W.getD k []) u) := by unfold bgK; rw [List.range_succ, List.any_append]; simp
theorem bgK_yes (h : rd W (W.getD k []) u = true) : bgK W u (k + 1) = true := by rw [bgK_succ, h, Bool.or_true]
theorem bgK_not (h : rd W (W.getD k []) u = false) : bgK W u (k + 1) = bgK W u k := by rw [bgK_succ, h, Bool.or_false]
theorem bgK_all (hW : ∀ x ∈ W, x ≠ []) (hu : u ≠ []) : bgK W u W.length = rd W [] u := by
  rw [Bool.eq_iff_iff, rd_first hW hu]
  unfold bgK
  rw [List.any_eq_true]
  constructor
  · rintro ⟨y, hy, h⟩
    exact ⟨_, W_mem (List.mem_range.1 hy), h⟩
  · rintro ⟨x, hx, h⟩
    obtain ⟨y, hy, rfl⟩ := W_at hx
    exact ⟨y, List.mem_range.2 hy, h⟩
theorem bgT_first : bgT W w w.length p = decide (w.length ≤ p) := by
  unfold bgT
  by_cases h : w.length ≤ p
  · rw [List.drop_eq_nil_of_le h]; simp
  · rw [decide_eq_false h]; rfl
theorem tbT_zero : tbT W w i 0 p = bgT W w (i + 1) p := by
  unfold tbT
  by_cases h : p = i
  · rw [if_pos h, h]; unfold bgT; rw [decide_eq_false (by omega)]; rfl
  · rw [if_neg h]
theorem tbT_all (hW : ∀ x ∈ W, x ≠ []) (hi : i < w.length) : tbT W w i W.length p = bgT W w i p := by
  unfold tbT
  by_cases h : p = i
  · rw [if_pos h, h, bgK_all hW (fun e => by have := congrArg List.length e; rw [List.length_drop] at this; simp only [List.length_nil] at this; omega)]
    unfold bgT; simp
  · rw [if_neg h]
    unfold bgT
    congr 1
    exact decide_eq_decide.2 (by omega)
theorem tbT_yes (h : rd W (W.getD k []) (w.drop i) = true) : tbT W w i (k + 1) p = if p = i then true else tbT W w i k p := by
  unfold tbT
  by_cases e : p = i
  · rw [if_pos e, if_pos e, bgK_yes h]
  · rw [if_neg e, if_neg e, if_neg e]
theorem tbT_not (h : rd W (W.getD k []) (w.drop i) = false) : tbT W w i (k + 1) p = tbT W w i k p := by
  unfold tbT; rw [bgK_not h]
theorem tbT_at {n : Nat} (hn : 0 < n) : tbT W w i k (i + n) = rd W [] (w.drop (i + n)) := by
  unfold tbT bgT
  rw [if_neg (by omega), decide_eq_true (by omega), Bool.true_and]
theorem tb_in (hp : p < w.length + 1) : (if p = w.length then AVal.bool true else AVal.bool false) = AVal.bool (bgT W w w.length p) := by
  rw [bgT_first]
  by_cases h : p = w.length
  · rw [if_pos h, decide_eq_true (by omega)]
  · rw [if_neg h, decide_eq_false (by omega)]
theorem tb_st (h : ∀ p, tbT W w i (k + 1) p = if p = i then true else tbT W w i k p) : (if p = i then AVal.bool true else AVal.bool (tbT W w i k p)) = AVal.bool (tbT W w i (k + 1) p) := by
  rw [h p]; split <;> rfl
theorem bgT_end : bgT W w 0 0 = rd W [] w := by unfold bgT; simp
theorem othN_at {x y : Nat} {v : Wd} (hy : y < W.length) (hne : y ≠ x) (h : stB W y v = true) (hn : ∀ j, j < y → j ≠ x → stB W j v = false) : othN W v x = y := by unfold othN; rw [oth_at hy hne h hn]
theorem othN_no {x : Nat} {v : Wd} (hn : ∀ j, j < W.length → j ≠ x → stB W j v = false) : othN W v x = -1 := by unfold othN; rw [oth_no hn]
theorem othN_pos {x : Nat} {v : Wd} : decide (0 ≤ othN W v x) = (othF W v x).isSome := by
  unfold othN
  cases othF W v x with
  | none => rfl
  | some y => simp
theorem othN_neg {x : Nat} {v : Wd} : decide (othN W v x < 0) = !(othF W v x).isSome := by
  unfold othN
  cases othF W v x with
  | none => rfl
  | some y => simp
end
set_option maxRecDepth 100000 in
theorem pfxR_c (w u : List UInt8) : PC Try.prog 44 [.str w, .str u] (.bool (decide (u <+: w))) := by
 refine zp Try.func44 fun G hG hR => ?_
 refine zs (zrP ?_)
 refine zs (zrP ?_)
 refine zt ?_
 refine RetOK_of ?_
 simp [hG, List.getD_cons_zero, List.getD_cons_succ, -List.getD_eq_getElem?_getD, pureOp]
 exact preS_eq
set_option maxRecDepth 100000 in
theorem begR_c (c : Cd) (hl : c.ws.length ≤ maxLen) (hv : CdOK c) (w : List UInt8) (hw : w.length ≤ 1000000) : PC Try.prog 74 [.agg 2 (cdF c), .str w] (.bool (rd c.ws [] w)) := by
 have hML : maxLen = 9223372036854775807 := by decide
 have hWn := hv.n
 refine zp Try.func74 fun G hG hR => ?_
 refine zs (zrP ?_)
 refine zs (zrP ?_)
 refine zs (zrP ?_)
 refine zs (zs (zrP ?_))
 refine zb ?_
 refine awpS_loop (α := Nat) (fun i => ⟨[(1, .str w), (2, .vptr 2 (cdF c) 0), (5, .sl (0, 0) 0 (w.length + 1)), (6, .int .i64 ((i : Nat) - 1 : Int))], [(0, .one (.arr (w.length + 1) 1 (fun p _ => .bool (bgT c.ws w i p))))], 1⟩) (fun i => i ≤ w.length) (fun i => i) (w.length) (Nat.le_refl _) ?_ ?_
 · exact zwP (fun k => if k = 0 then 1 else k) (fun k => k == 0) (fun _ => false) (h := by simp [hG, List.getD_cons_zero, List.getD_cons_succ, -List.getD_eq_getElem?_getD]; exact fun p hp => tb_in hp)
 rintro i0 hi
 refine zs (zs (zrP ?_))
 refine zy (fun hb21 => ?_) fun hb21 => ?_
 · obtain ⟨i, rfl⟩ : ∃ k, i0 = k + 1 := ⟨i0 - 1, by omega⟩
   have hi1 : ((i + 1 : Nat) : Int) - 1 = (i : Int) := (by omega)
   rw [hi1]
   refine zk (zs (zb (zs (zrP ?_))))
   refine zs (zrP ?_)
   refine zb ?_
   refine awpS_loop (α := Nat) (fun j => ⟨[(1, .str w), (2, .vptr 2 (cdF c) 0), (5, .sl (0, 0) 0 (w.length + 1)), (6, .int .i64 (i : Nat)), (7, .str (w.drop i)), (8, .int .i64 (j : Nat))], [(0, .one (.arr (w.length + 1) 1 (fun p _ => .bool (tbT c.ws w i j p))))], 1⟩) (fun j => j ≤ c.ws.length) (fun j => c.ws.length - j) (0) (Nat.zero_le _) ?_ ?_
   · exact ziP (h := by simp [hG, List.getD_cons_zero, List.getD_cons_succ, -List.getD_eq_getElem?_getD]; exact fun p _ => tbT_zero.symm)
   rintro j hj
   refine zs (zs (zrP ?_))
   refine zy (fun hb31 => ?_) fun hb31 => ?_
   · refine zk (zs (zb (zs ?_)))
     by_cases hA : (w.drop i) <+: (c.ws.getD j [])
     · have hps := @tbT_yes c.ws w i j (h := rdA hA)
       refine zL (zl 6 ?_ (h := by intro c K h; simp [hG, List.getD_cons_zero, List.getD_cons_succ, -List.getD_eq_getElem?_getD, pureOp, hA]; first | exact z1 c h | exact ⟨.mk c, h⟩))
       refine zc cal44 (pfxR_c (c.ws.getD j []) (w.drop i)) ?_ (a := fun hg => by simp [hG, List.getD_cons_zero, List.getD_cons_succ, -List.getD_eq_getElem?_getD, pureOp, hA]) (b := fun hg => by simp [hG, List.getD_cons_zero, List.getD_cons_succ, -List.getD_eq_getElem?_getD, pureOp, hA]) (h := by intro K h; simp [hG, List.getD_cons_zero, List.getD_cons_succ, -List.getD_eq_getElem?_getD, pureOp, hA]; exact h)
       refine zl 7 ?_ (h := by intro c K h; simp [hG, List.getD_cons_zero, List.getD_cons_succ, -List.getD_eq_getElem?_getD, pureOp, hA]; first | exact z1 c h | exact ⟨.mk c, h⟩)
       refine zc cal44 (pfxR_c (w.drop i) (c.ws.getD j [])) ?_ (a := fun hg => by first | (simp [hG, List.getD_cons_zero, List.getD_cons_succ, -List.getD_eq_getElem?_getD, pureOp, hA]; done) | (simp [-List.getD_eq_getElem?_getD] at hg; done) | (simp [-List.getD_eq_getElem?_getD] at hg; simp [hG, List.getD_cons_zero, List.getD_cons_succ, -List.getD_eq_getElem?_getD, pureOp, hA]; first | omega | exact hg | (simp_all [-List.getD_eq_getElem?_getD]; done) | (simp_all [-List.getD_eq_getElem?_getD]; first | exact ⟨rfl, rfl⟩ | exact rfl))) (b := fun hg => by first | (simp [hG, List.getD_cons_zero, List.getD_cons_succ, -List.getD_eq_getElem?_getD, pureOp, hA]; done) | (simp [-List.getD_eq_getElem?_getD] at hg; done) | (simp [-List.getD_eq_getElem?_getD] at hg; simp [hG, List.getD_cons_zero, List.getD_cons_succ, -List.getD_eq_getElem?_getD, pureOp, hA]; first | omega | exact hg | (simp_all [-List.getD_eq_getElem?_getD]; done) | (simp_all [-List.getD_eq_getElem?_getD]; first | exact ⟨rfl, rfl⟩ | exact rfl))) (h := by intro K h; simp [hG, List.getD_cons_zero, List.getD_cons_succ, -List.getD_eq_getElem?_getD, pureOp, hA]; exact h)
       refine zl 14 ?_ (h := by intro c K h; simp [hG, List.getD_cons_zero, List.getD_cons_succ, -List.getD_eq_getElem?_getD, pureOp, hA]; first | exact z1 c h | exact ⟨.mk c, h⟩)
       refine zN ?_
       refine awpS_cond rfl (fun hb62 => ?_) (fun hb62 => ?_)
       · try simp [-List.getD_eq_getElem?_getD] at hb62
         refine zr ?_ (h := by intro c K h; simp [hG, List.getD_cons_zero, List.getD_cons_succ, -List.getD_eq_getElem?_getD, pureOp, hA]; first | exact z1 c h | exact ⟨.mk c, h⟩)
         refine zn (zbn (zr ?_ (h := by intro c K h; simp [hG, List.getD_cons_zero, List.getD_cons_succ, -List.getD_eq_getElem?_getD, pureOp, hA]; first | exact z1 c h | exact ⟨.mk c, h⟩)))
         refine zn ?_
         refine round_end (j + 1) (by omega) (by omega) ?_
         exact zi (e := by simp [hG, List.getD_cons_zero, List.getD_cons_succ, -List.getD_eq_getElem?_getD, pureOp, hA]) (h := by simp [hG, List.getD_cons_zero, List.getD_cons_succ, -List.getD_eq_getElem?_getD]; exact fun p _ => tb_st hps)
       simp at hb62
     by_cases hB : (c.ws.getD j []) <+: (w.drop i)
     · have hbl := hB.length_le
       rw [List.length_drop] at hbl
       have hxp := List.length_pos_iff.2 (hv.ne _ (W_mem hb31))
       have htt := tbT_at (W := c.ws) (w := w) (i := i) (k := j) hxp
       have hcast : ((i : Int) + ((c.ws.getD j []).length : Int)).toNat = i + (c.ws.getD j []).length := by omega
       refine zL (zl 6 ?_ (h := by intro c K h; simp [hG, List.getD_cons_zero, List.getD_cons_succ, -List.getD_eq_getElem?_getD, pureOp, hA, hB]; first | exact z1 c h | exact ⟨.mk c, h⟩))
       refine zc cal44 (pfxR_c (c.ws.getD j []) (w.drop i)) ?_ (a := fun hg => by simp [hG, List.getD_cons_zero, List.getD_cons_succ, -List.getD_eq_getElem?_getD, pureOp, hA, hB]) (b := fun hg => by simp [hG, List.getD_cons_zero, List.getD_cons_succ, -List.getD_eq_getElem?_getD, pureOp, hA, hB]) (h := by intro K h; simp [hG, List.getD_cons_zero, List.getD_cons_succ, -List.getD_eq_getElem?_getD, pureOp, hA, hB]; exact h)
       refine zl 7 ?_ (h := by intro c K h; simp [hG, List.getD_cons_zero, List.getD_cons_succ, -List.getD_eq_getElem?_getD, pureOp, hA, hB]; first | exact z1 c h | exact ⟨.mk c, h⟩)
       refine zc cal44 (pfxR_c (w.drop i) (c.ws.getD j [])) ?_ (a := fun hg => by first | (simp [hG, List.getD_cons_zero, List.getD_cons_succ, -List.getD_eq_getElem?_getD, pureOp, hA, hB]; done) | (simp [-List.getD_eq_getElem?_getD] at hg; done) | (simp [-List.getD_eq_getElem?_getD] at hg; simp [hG, List.getD_cons_zero, List.getD_cons_succ, -List.getD_eq_getElem?_getD, pureOp, hA, hB]; first | omega | exact hg | (simp_all [-List.getD_eq_getElem?_getD]; done) | (simp_all [-List.getD_eq_getElem?_getD]; first | exact ⟨rfl, rfl⟩ | exact rfl))) (b := fun hg => by first | (simp [hG, List.getD_cons_zero, List.getD_cons_succ, -List.getD_eq_getElem?_getD, pureOp, hA, hB]; done) | (simp [-List.getD_eq_getElem?_getD] at hg; done) | (simp [-List.getD_eq_getElem?_getD] at hg; simp [hG, List.getD_cons_zero, List.getD_cons_succ, -List.getD_eq_getElem?_getD, pureOp, hA, hB]; first | omega | exact hg | (simp_all [-List.getD_eq_getElem?_getD]; done) | (simp_all [-List.getD_eq_getElem?_getD]; first | exact ⟨rfl, rfl⟩ | exact rfl))) (h := by intro K h; simp [hG, List.getD_cons_zero, List.getD_cons_succ, -List.getD_eq_getElem?_getD, pureOp, hA, hB]; exact h)
       refine zl 14 ?_ (h := by intro c K h; simp [hG, List.getD_cons_zero, List.getD_cons_succ, -List.getD_eq_getElem?_getD, pureOp, hA, hB]; first | exact z1 c h | exact ⟨.mk c, h⟩)
       refine zN (zy (fun hb62 => ?_) fun hb62 => ?_)
       · refine zr ?_ (h := by intro c K h; simp [hG, List.getD_cons_zero, List.getD_cons_succ, -List.getD_eq_getElem?_getD, pureOp, hA, hB]; first | exact z1 c h | exact ⟨.mk c, h⟩)
         refine zn (zbn (zr ?_ (h := by intro c K h; simp [hG, List.getD_cons_zero, List.getD_cons_succ, -List.getD_eq_getElem?_getD, pureOp, hA, hB]; first | exact z1 c h | exact ⟨.mk c, h⟩)))
         refine zn ?_
         refine round_end (j + 1) (by omega) (by omega) ?_
         exact zi (e := by simp [hG, List.getD_cons_zero, List.getD_cons_succ, -List.getD_eq_getElem?_getD, pureOp, hA, hB]) (h := by simp [hG, List.getD_cons_zero, List.getD_cons_succ, -List.getD_eq_getElem?_getD]; exact fun p _ => tb_st fun p => tbT_yes ((rdB hA hB).trans (by rw [← htt, ← hcast]; exact hb62)))
       refine zk (zn (zbn (zr ?_ (h := by intro c K h; simp [hG, List.getD_cons_zero, List.getD_cons_succ, -List.getD_eq_getElem?_getD, pureOp, hA, hB]; first | exact z1 c h | exact ⟨.mk c, h⟩))))
       refine zn ?_
       refine round_end (j + 1) (by omega) (by omega) ?_
       exact zi (e := by simp [hG, List.getD_cons_zero, List.getD_cons_succ, -List.getD_eq_getElem?_getD, pureOp, hA, hB]) (h := by simp [hG, List.getD_cons_zero, List.getD_cons_succ, -List.getD_eq_getElem?_getD]; exact fun p _ => (tbT_not ((rdB hA hB).trans (by rw [← htt, ← hcast]; exact hb62))).symm)
     have hps := @tbT_not c.ws w i j (h := rdN hA hB)
     refine zL (zl 6 ?_ (h := by intro c K h; simp [hG, List.getD_cons_zero, List.getD_cons_succ, -List.getD_eq_getElem?_getD, pureOp, hA, hB]; first | exact z1 c h | exact ⟨.mk c, h⟩))
     refine zc cal44 (pfxR_c (c.ws.getD j []) (w.drop i)) ?_ (a := fun hg => by simp [hG, List.getD_cons_zero, List.getD_cons_succ, -List.getD_eq_getElem?_getD, pureOp, hA, hB]) (b := fun hg => by simp [hG, List.getD_cons_zero, List.getD_cons_succ, -List.getD_eq_getElem?_getD, pureOp, hA, hB]) (h := by intro K h; simp [hG, List.getD_cons_zero, List.getD_cons_succ, -List.getD_eq_getElem?_getD, pureOp, hA, hB]; exact h)
     refine zl 7 ?_ (h := by intro c K h; simp [hG, List.getD_cons_zero, List.getD_cons_succ, -List.getD_eq_getElem?_getD, pureOp, hA, hB]; first | exact z1 c h | exact ⟨.mk c, h⟩)
     refine zc cal44 (pfxR_c (w.drop i) (c.ws.getD j [])) ?_ (a := fun hg => by first | (simp [hG, List.getD_cons_zero, List.getD_cons_succ, -List.getD_eq_getElem?_getD, pureOp, hA, hB]; done) | (simp [-List.getD_eq_getElem?_getD] at hg; done) | (simp [-List.getD_eq_getElem?_getD] at hg; simp [hG, List.getD_cons_zero, List.getD_cons_succ, -List.getD_eq_getElem?_getD, pureOp, hA, hB]; first | omega | exact hg | (simp_all [-List.getD_eq_getElem?_getD]; done) | (simp_all [-List.getD_eq_getElem?_getD]; first | exact ⟨rfl, rfl⟩ | exact rfl))) (b := fun hg => by first | (simp [hG, List.getD_cons_zero, List.getD_cons_succ, -List.getD_eq_getElem?_getD, pureOp, hA, hB]; done) | (simp [-List.getD_eq_getElem?_getD] at hg; done) | (simp [-List.getD_eq_getElem?_getD] at hg; simp [hG, List.getD_cons_zero, List.getD_cons_succ, -List.getD_eq_getElem?_getD, pureOp, hA, hB]; first | omega | exact hg | (simp_all [-List.getD_eq_getElem?_getD]; done) | (simp_all [-List.getD_eq_getElem?_getD]; first | exact ⟨rfl, rfl⟩ | exact rfl))) (h := by intro K h; simp [hG, List.getD_cons_zero, List.getD_cons_succ, -List.getD_eq_getElem?_getD, pureOp, hA, hB]; exact h)
     refine zl 14 ?_ (h := by intro c K h; simp [hG, List.getD_cons_zero, List.getD_cons_succ, -List.getD_eq_getElem?_getD, pureOp, hA, hB]; first | exact z1 c h | exact ⟨.mk c, h⟩)
     refine zN ?_
     refine awpS_cond rfl (fun hb62 => ?_) (fun hb62 => ?_)
     · simp at hb62
     try simp [-List.getD_eq_getElem?_getD] at hb62
     refine zk (zn (zbn (zr ?_ (h := by intro c K h; simp [hG, List.getD_cons_zero, List.getD_cons_succ, -List.getD_eq_getElem?_getD, pureOp, hA, hB]; first | exact z1 c h | exact ⟨.mk c, h⟩))))
     refine zn ?_
     refine round_end (j + 1) (by omega) (by omega) ?_
     exact zi (e := by simp [hG, List.getD_cons_zero, List.getD_cons_succ, -List.getD_eq_getElem?_getD, pureOp, hA, hB]) (h := by simp [hG, List.getD_cons_zero, List.getD_cons_succ, -List.getD_eq_getElem?_getD]; exact fun p _ => (hps p).symm)
   obtain rfl : j = c.ws.length := (by omega)
   refine zx (ztx (zbx (zn (zbn (zrP ?_)))))
   refine zn ?_
   refine round_end (i) (by omega) (by omega) ?_
   exact ziP (h := by simp [hG, List.getD_cons_zero, List.getD_cons_succ, -List.getD_eq_getElem?_getD]; exact fun p _ => tbT_all hv.ne (by omega))
 obtain rfl : i0 = 0 := (by omega)
 refine zx (ztx (zbx (zs (zrP ?_))))
 refine zt ?_
 refine RetOK_of ?_
 simp [hG, List.getD_cons_zero, List.getD_cons_succ, -List.getD_eq_getElem?_getD, pureOp]
 exact bgT_end
end Go.Proofs.Ytoafgeobhhlplaa
