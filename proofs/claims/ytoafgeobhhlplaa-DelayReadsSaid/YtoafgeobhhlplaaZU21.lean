/- Parts of the proof: VU. -/
import Derived.Test.YtoafgeobhhlplaaZU08
import Derived.Test.YtoafgeobhhlplaaZU14
import Derived.Test.YtoafgeobhhlplaaZU20
namespace Go.Proofs.Ytoafgeobhhlplaa
set_option linter.unusedSimpArgs false
set_option linter.unusedVariables false
open Go Go.Lift Go.Proofs
def stopC (b : Bool) : Option Code := if b then some .ret else none
@[simp] theorem stop_true : stopC true = some .ret := rfl
@[simp] theorem stop_false : stopC false = none := rfl
@[simp] theorem stop_isNone {b : Bool} : (stopC b).isNone = !b := by cases b <;> rfl
def bxO (o : Option (Nat × Wd)) : Int := match o with
  | some p => (p.1 : Int)
  | none => -1
def bwO (o : Option (Nat × Wd)) : Wd := match o with
  | some p => p.2
  | none => []
@[simp] theorem bxO_none : bxO none = -1 := rfl
@[simp] theorem bwO_none : bwO none = [] := rfl
@[simp] theorem bxO_some {b : Nat} {w : Wd} : bxO (some (b, w)) = b := rfl
@[simp] theorem bwO_some {b : Nat} {w : Wd} : bwO (some (b, w)) = w := rfl
theorem bxO_neg {o : Option (Nat × Wd)} : bxO o < 0 ↔ o = none := by
  cases o with
  | none => simp
  | some p => simp [bxO]
theorem wtU_yes {W : List Wd} {q d k : Nat} {o : Option (Nat × Wd)} (h : (fstW W q k d).isSome = true) (h2 : bxO o < 0 ∨ lessW (W.getD k [] ++ (fstW W q k d).getD []) (bwO o)) : wtU W q d k o = some (k, W.getD k [] ++ (fstW W q k d).getD []) := by
  obtain ⟨u, hu⟩ := Option.isSome_iff_exists.1 h
  rw [hu] at h2 ⊢
  cases o with
  | none => exact wtU_first hu
  | some p =>
    rcases h2 with h2 | h2
    · exact absurd (bxO_neg.1 h2) (by simp)
    · exact wtU_less hu h2
theorem wtU_not {W : List Wd} {q d k : Nat} {o : Option (Nat × Wd)} (h : ¬ ((fstW W q k d).isSome = true ∧ (bxO o < 0 ∨ lessW (W.getD k [] ++ (fstW W q k d).getD []) (bwO o)))) : wtU W q d k o = o := by
  cases hu : fstW W q k d with
  | none => exact wtU_none hu
  | some u =>
    rw [hu] at h
    cases o with
    | none => exact absurd ⟨rfl, .inl (by decide)⟩ h
    | some p => exact wtU_keep hu fun hl => h ⟨rfl, .inr hl⟩
section
variable {c : Cd} {n : Int}
theorem ws_err (h : bdN c n ≠ 0) : wsW c n = [] ∧ wsX c n = 0 ∧ wsY c n = 0 ∧ wsB c n = false := by
  unfold wsW wsX wsY wsB
  rw [if_neg h, if_neg h, if_neg h, decide_eq_false h]
  exact ⟨rfl, rfl, rfl, rfl⟩
theorem ws_out {e : Nat} (h : bdN c (e : Int) = 0) (h2 : wtF c.ws c.q.toNat e = none) : wsW c e = [] ∧ wsX c e = 0 ∧ wsY c e = 0 ∧ wsB c e = false := by
  unfold wsW wsX wsY wsB
  rw [if_pos h, if_pos h, if_pos h, Int.toNat_natCast, h2]
  exact ⟨rfl, rfl, rfl, by simp⟩
theorem ws_at {e bx : Nat} {w : Wd} (h : bdN c (e : Int) = 0) (h2 : wtF c.ws c.q.toNat e = some (bx, w)) : wsW c e = w ∧ wsX c e = bx ∧ wsY c e = othN c.ws w bx ∧ wsB c e = true := by
  unfold wsW wsX wsY wsB
  rw [if_pos h, if_pos h, if_pos h, Int.toNat_natCast, h2, decide_eq_true h]
  exact ⟨rfl, rfl, rfl, rfl⟩
theorem wt_oth (hv : CdOK c) {e bx : Nat} {w : Wd} (h : wtF c.ws c.q.toNat e = some (bx, w)) : (othF c.ws w bx).isSome = true ∧ w.length ≤ 32 + e ∧ bx < c.ws.length := by
  obtain ⟨h1, u, rfl, h2, h3⟩ := wtA_some hv.lt h
  have h4 := opB_iff.2 h2
  unfold opB at h4
  rw [Bool.and_eq_true] at h4
  have := hv.len _ (W_mem h1)
  exact ⟨h4.2, by rw [List.length_append]; omega, h1⟩
theorem fst_len {W : List Wd} {q i n : Nat} (hW : ∀ w ∈ W, LtOK q w) : ((fstW W q i n).getD []).length ≤ n := by
  cases h : fstW W q i n with
  | none => exact Nat.zero_le _
  | some u => have := (fst_some hW h).2; show u.length ≤ n; omega
theorem wtA_zero {W : List Wd} {q d : Nat} : wtA W q d 0 = none := rfl
theorem bd_zero3 (h : bdN c n = 0) : cdN c = 0 ∧ 0 ≤ n ∧ n ≤ 4096 := by
  unfold bdN at h
  split at h
  · cases h
  · rename_i h1
    split at h
    · cases h
    · exact ⟨Classical.not_not.1 h1, by omega, by omega⟩
end
set_option maxRecDepth 100000 in
theorem bodyW_y (w : List UInt8) (bx k : Nat) {l : Nat} {rec : Loop} {vs : Array Value} (hok : RecOK rec [4, 5, 6, 7, 8, 11, 12] vs #[63] (rngA Try.f24.body 0) (rngB Try.f24.body 0) 70) : YC Try.prog l rec vs ([.int .i64 (k : Nat)] ++ [.ptr (1, 0) 0 0, .ptr (2, 0) 0 0, .ptr (3, 0) 0 0, .ptr (4, 0) 0 0, .ptr (5, 0) 0 0, .ptr (6, 0) 0 0, .ptr (7, 0) 0 0]) ((0, .one (.ob (lpP l rec none))) :: [(1, .one (.arr 1 1 (fun _ _ => .str []))), (2, .one (.arr 1 1 (fun _ _ => .int .i64 0))), (3, .one (.arr 1 1 (fun _ _ => .int .i64 0))), (4, .one (.arr 1 1 (fun _ _ => .bool false))), (5, .one (.arr 1 1 (fun _ _ => .int .i64 0))), (6, .one (.arr 1 1 (fun _ _ => .int .i64 ((bx : Nat))))), (7, .one (.arr 1 1 (fun _ _ => .str (w))))]) 8 (fun _ : Unit => True) (fun _ : Unit => .bool (stopC (decide (k ≠ bx))).isNone) (fun _ : Unit => (0, .one (.ob (lpP l rec (stopC (decide (k ≠ bx)))))) :: [(1, .one (.arr 1 1 (fun _ _ => .str (if (decide (k ≠ bx)) = true then w else [])))), (2, .one (.arr 1 1 (fun _ _ => .int .i64 (if (decide (k ≠ bx)) = true then (bx : Int) else 0)))), (3, .one (.arr 1 1 (fun _ _ => .int .i64 (if (decide (k ≠ bx)) = true then (k : Int) else 0)))), (4, .one (.arr 1 1 (fun _ _ => .bool (decide (k ≠ bx))))), (5, .one (.arr 1 1 (fun _ _ => .int .i64 0))), (6, .one (.arr 1 1 (fun _ _ => .int .i64 (bx : Nat)))), (7, .one (.arr 1 1 (fun _ _ => .str w)))]) (fun _ : Unit => 8) := by
 refine YC_introJ hok rfl rfl rfl (by simp) rfl (by simp) (by simp) (by decide) fun G hG hR => ?_
 show AwpS _ _ _ _ _ ⟨[(63, .int .i64 (k : Nat)), (4, .ptr (1, 0) 0 0), (5, .ptr (2, 0) 0 0), (6, .ptr (3, 0) 0 0), (7, .ptr (4, 0) 0 0), (8, .ptr (5, 0) 0 0), (11, .ptr (6, 0) 0 0), (12, .ptr (7, 0) 0 0)], [(1, .one (.arr 1 1 (fun _ _ => .str []))), (2, .one (.arr 1 1 (fun _ _ => .int .i64 0))), (3, .one (.arr 1 1 (fun _ _ => .int .i64 0))), (4, .one (.arr 1 1 (fun _ _ => .bool false))), (5, .one (.arr 1 1 (fun _ _ => .int .i64 0))), (6, .one (.arr 1 1 (fun _ _ => .int .i64 ((bx : Nat))))), (7, .one (.arr 1 1 (fun _ _ => .str (w))))], 8⟩
 refine zrP ?_
 refine zn ?_
 refine ⟨rfl, fun G hG hR => ?_⟩
 refine zb (zs (zrP ?_))
 refine zy (fun hb66 => ?_) fun hb66 => ?_
 · have hd : (decide (k ≠ bx)) = true := decide_eq_true (by omega)
   refine zs ?_
   refine awpS_drawR rfl mixed [(3, (1, 0)), (4, (2, 0)), (5, (3, 0)), (6, (4, 0)), (7, (5, 0))] ⟨[], [], []⟩ fun mu0 => ?_
   refine zaP [0] [] 7 [0] ?_
   refine zaP [1] [(1, 0)] 6 [1, 0] ?_
   refine zaP [2] [(1, 0), (2, 0)] 5 [2, 1, 0] ?_
   refine awpA_only (fuel := 4) (i := 3) (by decide +kernel) ?_
   refine zoP ?_
   refine awpA_only (fuel := 3) (i := 4) (by decide +kernel) ?_
   refine zoP ?_
   refine awpA_only (fuel := 2) (i := 5) (by decide +kernel) ?_
   refine zoP ?_
   refine awpA_only (fuel := 1) (i := 6) (by decide +kernel) ?_
   refine zoP ?_
   refine awpA_only (fuel := 0) (i := 7) (by decide +kernel) ?_
   refine zoP ?_
   refine awpA_done (by decide +kernel) ?_
   refine zt (zbt ?_)
   refine RetYJ_of (()) (id) (fun _ => false) (fun _ => false) trivial (by rw [hd]; rfl) ?_ (by rfl) (by simp) (fun k _ => ⟨rfl, rfl⟩)
   simp [hG, hd, pureOp, List.getD_cons_zero, List.getD_cons_succ, -List.getD_eq_getElem?_getD]
 have hd : (decide (k ≠ bx)) = false := decide_eq_false (by omega)
 refine zk (zn (zbn (zn ?_)))
 refine RetYJ_of (()) (id) (fun _ => false) (fun _ => false) trivial (by rw [hd]; rfl) ?_ (by rfl) (by simp) (fun k _ => ⟨rfl, rfl⟩)
 simp [hG, hd, pureOp, List.getD_cons_zero, List.getD_cons_succ, -List.getD_eq_getElem?_getD]
set_option maxRecDepth 100000 in
set_option maxHeartbeats 1000000 in
theorem startsW_c (l : Nat) (rec : Loop) (vs : Array Value) (hok : RecOK rec [4, 5, 6, 7, 8, 11, 12] vs #[63] (rngA Try.f24.body 0) (rngB Try.f24.body 0) 70) (c : Cd) (hl : c.ws.length ≤ maxLen) (hv : CdOK c) (w : List UInt8) (hw : w.length ≤ 1000000) (bx : Nat) : FC1 Try.prog 72 [.yld l vs 7 (fun j => [.ptr (1, 0) 0 0, .ptr (2, 0) 0 0, .ptr (3, 0) 0 0, .ptr (4, 0) 0 0, .ptr (5, 0) 0 0, .ptr (6, 0) 0 0, .ptr (7, 0) 0 0].getD j .any), .vptr 2 (cdF c) 0, .vptr 1 (fun _ => .str w) 0] [(0, .one (.ob (lpP l rec (none)))), (1, .one (.arr 1 1 (fun _ _ => .str []))), (2, .one (.arr 1 1 (fun _ _ => .int .i64 0))), (3, .one (.arr 1 1 (fun _ _ => .int .i64 0))), (4, .one (.arr 1 1 (fun _ _ => .bool false))), (5, .one (.arr 1 1 (fun _ _ => .int .i64 0))), (6, .one (.arr 1 1 (fun _ _ => .int .i64 ((bx : Nat))))), (7, .one (.arr 1 1 (fun _ _ => .str (w))))] 8 (.tup 0 (fun _ => .any)) [(0, .one (.ob (lpP l rec (stopC (othF c.ws w bx).isSome)))), (1, .one (.arr 1 1 (fun _ _ => .str (if (othF c.ws w bx).isSome = true then w else [])))), (2, .one (.arr 1 1 (fun _ _ => .int .i64 (if (othF c.ws w bx).isSome = true then (bx : Int) else 0)))), (3, .one (.arr 1 1 (fun _ _ => .int .i64 (if (othF c.ws w bx).isSome = true then (othN c.ws w bx) else 0)))), (4, .one (.arr 1 1 (fun _ _ => .bool (othF c.ws w bx).isSome))), (5, .one (.arr 1 1 (fun _ _ => .int .i64 0))), (6, .one (.arr 1 1 (fun _ _ => .int .i64 (bx : Nat)))), (7, .one (.arr 1 1 (fun _ _ => .str w)))] 8 := by
 have hML : maxLen = 9223372036854775807 := by decide
 have hWn := hv.n
 refine FC_introS T_ok Try.func72 rfl (by simp [Try.ntmps72]) fun G hG hR => ?_
 simp only [Try.ntmps72, Try.results72] at hG ⊢
 simp only [argEnv, Nat.zero_add, Nat.reduceAdd]
 refine zs (zL (zlP 2 ?_))
 refine zfP cal73 [] (begins_c c w) (fun x hI hno => ?_)
 refine zlP 1 ?_
 refine zN (zs (zs (zrP ?_)))
 refine zb ?_
 refine awpS_loop (α := Nat × List (Int × Bool)) (fun x => ⟨[(0, .yld l vs 7 (fun j => [.ptr (1, 0) 0 0, .ptr (2, 0) 0 0, .ptr (3, 0) 0 0, .ptr (4, 0) 0 0, .ptr (5, 0) 0 0, .ptr (6, 0) 0 0, .ptr (7, 0) 0 0].getD j .any)), (1, .vptr 2 (cdF c) 0), (2, .vptr 1 (fun _ => .str w) 0), (4, .fn 86 4 (fun j => [.vptr 1 (fun _ => .str w) 0, .ptr (8, 0) 0 0, .vptr 2 (cdF c) 0, .ptr (10, 0) 0 0].getD j .any)), (5, .int .i64 (x.1 : Nat))], [(0, .one (.ob (lpP l rec (none)))), (1, .one (.arr 1 1 (fun _ _ => .str []))), (2, .one (.arr 1 1 (fun _ _ => .int .i64 0))), (3, .one (.arr 1 1 (fun _ _ => .int .i64 0))), (4, .one (.arr 1 1 (fun _ _ => .bool false))), (5, .one (.arr 1 1 (fun _ _ => .int .i64 0))), (6, .one (.arr 1 1 (fun _ _ => .int .i64 ((bx : Nat))))), (7, .one (.arr 1 1 (fun _ _ => .str (w)))), (8, .one (.arr 1 1 (fun _ _ => .map (9, 0)))), (9, .one (.mp (mpE intK boolV (x.2)))), (10, .one (.arr 1 1 (fun _ _ => .fn 86 4 (fun j => [.vptr 1 (fun _ => .str w) 0, .ptr (8, 0) 0 0, .vptr 2 (cdF c) 0, .ptr (10, 0) 0 0].getD j .any))))], 11⟩) (fun x => x.1 ≤ w.length ∧ Memo c.ws w x.2) (fun x => x.1) ((w.length, [])) (⟨Nat.le_refl _, memo_nil⟩) ?_ ?_
 · refine wk_of (id) (fun _ => false) (fun _ => false) ?_ ?_ rfl (by simp) (fun k hk => by first | exact ⟨rfl, rfl⟩ | (revert k; decide) | (obtain rfl : k = 0 := (by omega); exact ⟨rfl, rfl⟩) | (have hk2 : k = 0 ∨ k = 1 := (by omega); rcases hk2 with rfl | rfl <;> exact ⟨rfl, rfl⟩))
   · simp [hG, List.getD_cons_zero, List.getD_cons_succ, -List.getD_eq_getElem?_getD, pureOp]
   simp [hG, List.getD_cons_zero, List.getD_cons_succ, -List.getD_eq_getElem?_getD, pureOp]
 rintro ⟨k, m⟩ ⟨hk, hm⟩
 refine zs (zs (zrP ?_))
 refine zy (fun hb14 => ?_) fun hb14 => ?_
 · refine zk (zs (zb (zL (zlP 2 ?_))))
   refine zfP cal86 [8, 9, 10] (is_all hl hv hw (w.length - k) k m (by omega) hm) (fun m2 hI hno => ?_) (b := by simp [hG, List.range'_succ, List.range'_zero, List.getD_cons_zero, List.getD_cons_succ, -List.getD_eq_getElem?_getD])
   refine zN (zn (zbn (zrP ?_)))
   refine zn ?_
   refine round_end ((k - 1, m2)) (⟨by omega, hI⟩) (by omega) ?_
   refine wk_of (id) (fun _ => false) (fun _ => false) ?_ ?_ rfl (by simp) (fun k hk => by first | exact ⟨rfl, rfl⟩ | (revert k; decide) | (obtain rfl : k = 0 := (by omega); exact ⟨rfl, rfl⟩) | (have hk2 : k = 0 ∨ k = 1 := (by omega); rcases hk2 with rfl | rfl <;> exact ⟨rfl, rfl⟩))
   · simp [hG, List.getD_cons_zero, List.getD_cons_succ, -List.getD_eq_getElem?_getD]; omega
   simp [hG, List.getD_cons_zero, List.getD_cons_succ, -List.getD_eq_getElem?_getD, pureOp]
 obtain rfl : k = 0 := (by omega)
 refine zx (ztx (zbx (zs (zrP ?_))))
 refine zb ?_
 refine awpS_loop (α := Nat × List (Int × Bool)) (fun x => ⟨[(0, .yld l vs 7 (fun j => [.ptr (1, 0) 0 0, .ptr (2, 0) 0 0, .ptr (3, 0) 0 0, .ptr (4, 0) 0 0, .ptr (5, 0) 0 0, .ptr (6, 0) 0 0, .ptr (7, 0) 0 0].getD j .any)), (1, .vptr 2 (cdF c) 0), (2, .vptr 1 (fun _ => .str w) 0), (4, .fn 86 4 (fun j => [.vptr 1 (fun _ => .str w) 0, .ptr (8, 0) 0 0, .vptr 2 (cdF c) 0, .ptr (10, 0) 0 0].getD j .any)), (21, strs c.ws), (22, .int .i64 c.ws.length), (23, .int .i64 (x.1 : Nat))], [(0, .one (.ob (lpP l rec (none)))), (1, .one (.arr 1 1 (fun _ _ => .str []))), (2, .one (.arr 1 1 (fun _ _ => .int .i64 0))), (3, .one (.arr 1 1 (fun _ _ => .int .i64 0))), (4, .one (.arr 1 1 (fun _ _ => .bool false))), (5, .one (.arr 1 1 (fun _ _ => .int .i64 0))), (6, .one (.arr 1 1 (fun _ _ => .int .i64 ((bx : Nat))))), (7, .one (.arr 1 1 (fun _ _ => .str (w)))), (8, .one (.arr 1 1 (fun _ _ => .map (9, 0)))), (9, .one (.mp (mpE intK boolV (x.2)))), (10, .one (.arr 1 1 (fun _ _ => .fn 86 4 (fun j => [.vptr 1 (fun _ => .str w) 0, .ptr (8, 0) 0 0, .vptr 2 (cdF c) 0, .ptr (10, 0) 0 0].getD j .any))))], 11⟩) (fun x => x.1 ≤ c.ws.length ∧ Memo c.ws w x.2 ∧ ∀ j, j < x.1 → j ≠ bx → stB c.ws j w = false) (fun x => c.ws.length - x.1) ((0, m)) (⟨Nat.zero_le _, hm, fun j hj => absurd hj (Nat.not_lt_zero _)⟩) ?_ ?_
 · refine wk_of (id) (fun _ => false) (fun _ => false) ?_ ?_ rfl (by simp) (fun k hk => by first | exact ⟨rfl, rfl⟩ | (revert k; decide) | (obtain rfl : k = 0 := (by omega); exact ⟨rfl, rfl⟩) | (have hk2 : k = 0 ∨ k = 1 := (by omega); rcases hk2 with rfl | rfl <;> exact ⟨rfl, rfl⟩))
   · simp [hG, List.getD_cons_zero, List.getD_cons_succ, -List.getD_eq_getElem?_getD, pureOp]
   simp [hG, List.getD_cons_zero, List.getD_cons_succ, -List.getD_eq_getElem?_getD, pureOp]
 rintro ⟨i, m⟩ ⟨hi, hm, hn⟩
 refine zs (zrP ?_)
 refine zs (zy (fun hb24 => ?_) fun hb24 => ?_)
 · have hil : i < c.ws.length := (by omega)
   refine zk (zs (zb (zs (zrP ?_))))
   refine zs ?_
   by_cases hA : w <+: (c.ws.getD i [])
   · have hst : stB c.ws i w = true := rdA hA
     refine zL (zl 2 ?_ (h := by intro c K h; simp [hG, List.getD_cons_zero, List.getD_cons_succ, -List.getD_eq_getElem?_getD, pureOp, hA]; first | exact z1 c h | exact ⟨.mk c, h⟩))
     refine zc cal27 (preW_c (c.ws.getD i []) w) ?_ (a := fun hg => by simp [hG, List.getD_cons_zero, List.getD_cons_succ, -List.getD_eq_getElem?_getD, pureOp, hA]) (b := fun hg => by simp [hG, List.getD_cons_zero, List.getD_cons_succ, -List.getD_eq_getElem?_getD, pureOp, hA]) (h := by intro K h; simp [hG, List.getD_cons_zero, List.getD_cons_succ, -List.getD_eq_getElem?_getD, pureOp, hA]; exact h)
     refine zl 3 ?_ (h := by intro c K h; simp [hG, List.getD_cons_zero, List.getD_cons_succ, -List.getD_eq_getElem?_getD, pureOp, hA]; first | exact z1 c h | exact ⟨.mk c, h⟩)
     refine zc cal27 (preW_c w (c.ws.getD i [])) ?_ (a := fun hg => by first | (simp [hG, List.getD_cons_zero, List.getD_cons_succ, -List.getD_eq_getElem?_getD, pureOp, hA]; done) | (simp [-List.getD_eq_getElem?_getD] at hg; done) | (simp [-List.getD_eq_getElem?_getD] at hg; simp [hG, List.getD_cons_zero, List.getD_cons_succ, -List.getD_eq_getElem?_getD, pureOp, hA]; first | omega | exact hg | (simp_all [-List.getD_eq_getElem?_getD]; done) | (simp_all [-List.getD_eq_getElem?_getD]; first | exact ⟨rfl, rfl⟩ | exact rfl))) (b := fun hg => by first | (simp [hG, List.getD_cons_zero, List.getD_cons_succ, -List.getD_eq_getElem?_getD, pureOp, hA]; done) | (simp [-List.getD_eq_getElem?_getD] at hg; done) | (simp [-List.getD_eq_getElem?_getD] at hg; simp [hG, List.getD_cons_zero, List.getD_cons_succ, -List.getD_eq_getElem?_getD, pureOp, hA]; first | omega | exact hg | (simp_all [-List.getD_eq_getElem?_getD]; done) | (simp_all [-List.getD_eq_getElem?_getD]; first | exact ⟨rfl, rfl⟩ | exact rfl))) (h := by intro K h; simp [hG, List.getD_cons_zero, List.getD_cons_succ, -List.getD_eq_getElem?_getD, pureOp, hA]; exact h)
     refine zl 4 ?_ (h := by intro c K h; simp [hG, List.getD_cons_zero, List.getD_cons_succ, -List.getD_eq_getElem?_getD, pureOp, hA]; first | exact z1 c h | exact ⟨.mk c, h⟩)
     refine awpL_not (.bool true) rfl (fun K hK => ?_) (by intro c hc; cases hc)
     simp [hG, List.getD_cons_zero, List.getD_cons_succ, -List.getD_eq_getElem?_getD, pureOp, hA]
     refine hK _ ?_
     clear K hK
     refine zl 5 ?_ (h := by intro c K h; simp [hG, List.getD_cons_zero, List.getD_cons_succ, -List.getD_eq_getElem?_getD, pureOp, hA]; first | exact z1 c h | exact ⟨.mk c, h⟩)
     refine awpL_yieldP 0 hR [0, 1, 2, 3, 4, 5, 6, 7] (fun _ => false) (bodyW_y w bx i hok) rfl rfl (by rw [hok.params]; rfl) rfl rfl rfl (by simp) (.inl fun _ => rfl) ?_ ?_ ?_ fun K hK x hI hno => ?_
     · simp [hG, List.getD_cons_zero, List.getD_cons_succ, -List.getD_eq_getElem?_getD, pureOp, hA]
     · simp [hG, List.range'_succ, List.range'_zero, List.getD_cons_zero, List.getD_cons_succ, -List.getD_eq_getElem?_getD]
     · simp [hG, List.getD_cons_zero, List.getD_cons_succ, -List.getD_eq_getElem?_getD, pureOp, hA]
     simp [hG, List.getD_cons_zero, List.getD_cons_succ, -List.getD_eq_getElem?_getD, pureOp, hA]
     refine hK _ ?_
     clear K hK
     refine zl 2 ?_ (h := by intro c K h; simp [hG, List.getD_cons_zero, List.getD_cons_succ, -List.getD_eq_getElem?_getD, pureOp, hA]; first | exact z1 c h | exact ⟨.mk c, h⟩)
     refine zN (zy (fun hb47 => ?_) fun hb47 => ?_)
     · have hne : i ≠ bx := (by simpa using hb47)
       have hd : decide (i ≠ bx) = true := decide_eq_true hne
       have hfo := oth_at hil hne hst hn
       have hfy : othN c.ws w bx = (i : Int) := (by unfold othN; rw [hfo])
       refine zt (zbt (ztt (zbt ?_)))
       refine RetF_of (()) (id) (fun _ => false) (fun _ => false) trivial ?_ ?_ (by rfl) (by simp) (fun k _ => ⟨rfl, rfl⟩)
       · simp [hG, List.getD_cons_zero, List.getD_cons_succ, -List.getD_eq_getElem?_getD, pureOp, hA]
       rw [hfy, hfo]; simp [hG, hb47, pureOp, List.getD_cons_zero, List.getD_cons_succ, -List.getD_eq_getElem?_getD]
     refine zk (zn (zbn (zr ?_ (h := by intro c K h; simp [hG, List.getD_cons_zero, List.getD_cons_succ, -List.getD_eq_getElem?_getD, pureOp, hA]; first | exact z1 c h | exact ⟨.mk c, h⟩))))
     refine zn ?_
     refine round_end ((i + 1, m)) (⟨by omega, hm, step_all hn (fun hne => absurd (by simpa using hb47) hne)⟩) (by omega) ?_
     refine wk_of (id) (fun _ => false) (fun _ => false) ?_ ?_ rfl (by simp) (fun k hk => by first | exact ⟨rfl, rfl⟩ | (revert k; decide) | (obtain rfl : k = 0 := (by omega); exact ⟨rfl, rfl⟩) | (have hk2 : k = 0 ∨ k = 1 := (by omega); rcases hk2 with rfl | rfl <;> exact ⟨rfl, rfl⟩))
     · simp [hG, List.getD_cons_zero, List.getD_cons_succ, -List.getD_eq_getElem?_getD, pureOp, hA]
     simp [hG, hb47, pureOp, List.getD_cons_zero, List.getD_cons_succ, -List.getD_eq_getElem?_getD]
   by_cases hB : (c.ws.getD i []) <+: w
   · have hbl := hB.length_le
     by_cases hZ : rd c.ws [] (w.drop (c.ws.getD i []).length) = true
     · have hst : stB c.ws i w = true := (rdB0 hA hB).trans hZ
       refine zL (zl 2 ?_ (h := by intro c K h; simp [hG, List.getD_cons_zero, List.getD_cons_succ, -List.getD_eq_getElem?_getD, pureOp, hA, hB, hZ]; first | exact z1 c h | exact ⟨.mk c, h⟩))
       refine zc cal27 (preW_c (c.ws.getD i []) w) ?_ (a := fun hg => by simp [hG, List.getD_cons_zero, List.getD_cons_succ, -List.getD_eq_getElem?_getD, pureOp, hA, hB, hZ]) (b := fun hg => by simp [hG, List.getD_cons_zero, List.getD_cons_succ, -List.getD_eq_getElem?_getD, pureOp, hA, hB, hZ]) (h := by intro K h; simp [hG, List.getD_cons_zero, List.getD_cons_succ, -List.getD_eq_getElem?_getD, pureOp, hA, hB, hZ]; exact h)
       refine zl 3 ?_ (h := by intro c K h; simp [hG, List.getD_cons_zero, List.getD_cons_succ, -List.getD_eq_getElem?_getD, pureOp, hA, hB, hZ]; first | exact z1 c h | exact ⟨.mk c, h⟩)
       refine zc cal27 (preW_c w (c.ws.getD i [])) ?_ (a := fun hg => by first | (simp [hG, List.getD_cons_zero, List.getD_cons_succ, -List.getD_eq_getElem?_getD, pureOp, hA, hB, hZ]; done) | (simp [-List.getD_eq_getElem?_getD] at hg; done) | (simp [-List.getD_eq_getElem?_getD] at hg; simp [hG, List.getD_cons_zero, List.getD_cons_succ, -List.getD_eq_getElem?_getD, pureOp, hA, hB, hZ]; first | omega | exact hg | (simp_all [-List.getD_eq_getElem?_getD]; done) | (simp_all [-List.getD_eq_getElem?_getD]; first | exact ⟨rfl, rfl⟩ | exact rfl))) (b := fun hg => by first | (simp [hG, List.getD_cons_zero, List.getD_cons_succ, -List.getD_eq_getElem?_getD, pureOp, hA, hB, hZ]; done) | (simp [-List.getD_eq_getElem?_getD] at hg; done) | (simp [-List.getD_eq_getElem?_getD] at hg; simp [hG, List.getD_cons_zero, List.getD_cons_succ, -List.getD_eq_getElem?_getD, pureOp, hA, hB, hZ]; first | omega | exact hg | (simp_all [-List.getD_eq_getElem?_getD]; done) | (simp_all [-List.getD_eq_getElem?_getD]; first | exact ⟨rfl, rfl⟩ | exact rfl))) (h := by intro K h; simp [hG, List.getD_cons_zero, List.getD_cons_succ, -List.getD_eq_getElem?_getD, pureOp, hA, hB, hZ]; exact h)
       refine zl 4 ?_ (h := by intro c K h; simp [hG, List.getD_cons_zero, List.getD_cons_succ, -List.getD_eq_getElem?_getD, pureOp, hA, hB, hZ]; first | exact z1 c h | exact ⟨.mk c, h⟩)
       refine awpL_fcg cal86 [8, 9, 10] (fun _ => false) (is_all hl hv hw (w.length - (c.ws.getD i []).length) (c.ws.getD i []).length m (by omega) hm) rfl rfl rfl rfl (by simp) (.inl fun _ => rfl) ?_ ?_ ?_ fun K hK m2 hI hno => ?_
       · simp [hG, List.getD_cons_zero, List.getD_cons_succ, -List.getD_eq_getElem?_getD, pureOp, hA, hB, hZ]
       · simp [hG, List.range'_succ, List.range'_zero, List.getD_cons_zero, List.getD_cons_succ, -List.getD_eq_getElem?_getD]
       · simp [hG, List.getD_cons_zero, List.getD_cons_succ, -List.getD_eq_getElem?_getD, pureOp, hA, hB, hZ]
       have hm2 := hI
       simp [hG, List.getD_cons_zero, List.getD_cons_succ, -List.getD_eq_getElem?_getD, pureOp, hA, hB, hZ]
       refine hK _ ?_
       clear K hK
       refine zl 5 ?_ (h := by intro c K h; simp [hG, List.getD_cons_zero, List.getD_cons_succ, -List.getD_eq_getElem?_getD, pureOp, hA, hB, hZ]; first | exact z1 c h | exact ⟨.mk c, h⟩)
       refine awpL_yieldP 0 hR [0, 1, 2, 3, 4, 5, 6, 7] (fun _ => false) (bodyW_y w bx i hok) rfl rfl (by rw [hok.params]; rfl) rfl rfl rfl (by simp) (.inl fun _ => rfl) ?_ ?_ ?_ fun K hK x hI hno => ?_
       · simp [hG, List.getD_cons_zero, List.getD_cons_succ, -List.getD_eq_getElem?_getD, pureOp, hA, hB, hZ]
       · simp [hG, List.range'_succ, List.range'_zero, List.getD_cons_zero, List.getD_cons_succ, -List.getD_eq_getElem?_getD]
       · simp [hG, List.getD_cons_zero, List.getD_cons_succ, -List.getD_eq_getElem?_getD, pureOp, hA, hB, hZ]
       simp [hG, List.getD_cons_zero, List.getD_cons_succ, -List.getD_eq_getElem?_getD, pureOp, hA, hB, hZ]
       refine hK _ ?_
       clear K hK
       refine zl 2 ?_ (h := by intro c K h; simp [hG, List.getD_cons_zero, List.getD_cons_succ, -List.getD_eq_getElem?_getD, pureOp, hA, hB, hZ]; first | exact z1 c h | exact ⟨.mk c, h⟩)
       refine zN (zy (fun hb47 => ?_) fun hb47 => ?_)
       · have hne : i ≠ bx := (by simpa using hb47)
         have hd : decide (i ≠ bx) = true := decide_eq_true hne
         have hfo := oth_at hil hne hst hn
         have hfy : othN c.ws w bx = (i : Int) := (by unfold othN; rw [hfo])
         refine zt (zbt (ztt (zbt ?_)))
         refine RetF_of (()) (id) (fun _ => false) (fun _ => false) trivial ?_ ?_ (by rfl) (by simp) (fun k _ => ⟨rfl, rfl⟩)
         · simp [hG, List.getD_cons_zero, List.getD_cons_succ, -List.getD_eq_getElem?_getD, pureOp, hA, hB, hZ]
         rw [hfy, hfo]; simp [hG, hb47, pureOp, List.getD_cons_zero, List.getD_cons_succ, -List.getD_eq_getElem?_getD]
       refine zk (zn (zbn (zr ?_ (h := by intro c K h; simp [hG, List.getD_cons_zero, List.getD_cons_succ, -List.getD_eq_getElem?_getD, pureOp, hA, hB, hZ]; first | exact z1 c h | exact ⟨.mk c, h⟩))))
       refine zn ?_
       refine round_end ((i + 1, m2)) (⟨by omega, hm2, step_all hn (fun hne => absurd (by simpa using hb47) hne)⟩) (by omega) ?_
       refine wk_of (id) (fun _ => false) (fun _ => false) ?_ ?_ rfl (by simp) (fun k hk => by first | exact ⟨rfl, rfl⟩ | (revert k; decide) | (obtain rfl : k = 0 := (by omega); exact ⟨rfl, rfl⟩) | (have hk2 : k = 0 ∨ k = 1 := (by omega); rcases hk2 with rfl | rfl <;> exact ⟨rfl, rfl⟩))
       · simp [hG, List.getD_cons_zero, List.getD_cons_succ, -List.getD_eq_getElem?_getD, pureOp, hA, hB, hZ]
       simp [hG, hb47, pureOp, List.getD_cons_zero, List.getD_cons_succ, -List.getD_eq_getElem?_getD]
     have hst : stB c.ws i w = false := (rdB0 hA hB).trans (by simpa using hZ)
     refine zL (zl 2 ?_ (h := by intro c K h; simp [hG, List.getD_cons_zero, List.getD_cons_succ, -List.getD_eq_getElem?_getD, pureOp, hA, hB, hZ]; first | exact z1 c h | exact ⟨.mk c, h⟩))
     refine zc cal27 (preW_c (c.ws.getD i []) w) ?_ (a := fun hg => by simp [hG, List.getD_cons_zero, List.getD_cons_succ, -List.getD_eq_getElem?_getD, pureOp, hA, hB, hZ]) (b := fun hg => by simp [hG, List.getD_cons_zero, List.getD_cons_succ, -List.getD_eq_getElem?_getD, pureOp, hA, hB, hZ]) (h := by intro K h; simp [hG, List.getD_cons_zero, List.getD_cons_succ, -List.getD_eq_getElem?_getD, pureOp, hA, hB, hZ]; exact h)
     refine zl 3 ?_ (h := by intro c K h; simp [hG, List.getD_cons_zero, List.getD_cons_succ, -List.getD_eq_getElem?_getD, pureOp, hA, hB, hZ]; first | exact z1 c h | exact ⟨.mk c, h⟩)
     refine zc cal27 (preW_c w (c.ws.getD i [])) ?_ (a := fun hg => by first | (simp [hG, List.getD_cons_zero, List.getD_cons_succ, -List.getD_eq_getElem?_getD, pureOp, hA, hB, hZ]; done) | (simp [-List.getD_eq_getElem?_getD] at hg; done) | (simp [-List.getD_eq_getElem?_getD] at hg; simp [hG, List.getD_cons_zero, List.getD_cons_succ, -List.getD_eq_getElem?_getD, pureOp, hA, hB, hZ]; first | omega | exact hg | (simp_all [-List.getD_eq_getElem?_getD]; done) | (simp_all [-List.getD_eq_getElem?_getD]; first | exact ⟨rfl, rfl⟩ | exact rfl))) (b := fun hg => by first | (simp [hG, List.getD_cons_zero, List.getD_cons_succ, -List.getD_eq_getElem?_getD, pureOp, hA, hB, hZ]; done) | (simp [-List.getD_eq_getElem?_getD] at hg; done) | (simp [-List.getD_eq_getElem?_getD] at hg; simp [hG, List.getD_cons_zero, List.getD_cons_succ, -List.getD_eq_getElem?_getD, pureOp, hA, hB, hZ]; first | omega | exact hg | (simp_all [-List.getD_eq_getElem?_getD]; done) | (simp_all [-List.getD_eq_getElem?_getD]; first | exact ⟨rfl, rfl⟩ | exact rfl))) (h := by intro K h; simp [hG, List.getD_cons_zero, List.getD_cons_succ, -List.getD_eq_getElem?_getD, pureOp, hA, hB, hZ]; exact h)
     refine zl 4 ?_ (h := by intro c K h; simp [hG, List.getD_cons_zero, List.getD_cons_succ, -List.getD_eq_getElem?_getD, pureOp, hA, hB, hZ]; first | exact z1 c h | exact ⟨.mk c, h⟩)
     refine awpL_fcg cal86 [8, 9, 10] (fun _ => false) (is_all hl hv hw (w.length - (c.ws.getD i []).length) (c.ws.getD i []).length m (by omega) hm) rfl rfl rfl rfl (by simp) (.inl fun _ => rfl) ?_ ?_ ?_ fun K hK m2 hI hno => ?_
     · simp [hG, List.getD_cons_zero, List.getD_cons_succ, -List.getD_eq_getElem?_getD, pureOp, hA, hB, hZ]
     · simp [hG, List.range'_succ, List.range'_zero, List.getD_cons_zero, List.getD_cons_succ, -List.getD_eq_getElem?_getD]
     · simp [hG, List.getD_cons_zero, List.getD_cons_succ, -List.getD_eq_getElem?_getD, pureOp, hA, hB, hZ]
     have hm2 := hI
     simp [hG, List.getD_cons_zero, List.getD_cons_succ, -List.getD_eq_getElem?_getD, pureOp, hA, hB, hZ]
     refine hK _ ?_
     clear K hK
     refine zl 5 ?_ (h := by intro c K h; simp [hG, List.getD_cons_zero, List.getD_cons_succ, -List.getD_eq_getElem?_getD, pureOp, hA, hB, hZ]; first | exact z1 c h | exact ⟨.mk c, h⟩)
     refine awpL_not (.bool true) rfl (fun K hK => ?_) (by intro c hc; cases hc)
     simp [hG, List.getD_cons_zero, List.getD_cons_succ, -List.getD_eq_getElem?_getD, pureOp, hA, hB, hZ]
     refine hK _ ?_
     clear K hK
     refine zl 2 ?_ (h := by intro c K h; simp [hG, List.getD_cons_zero, List.getD_cons_succ, -List.getD_eq_getElem?_getD, pureOp, hA, hB, hZ]; first | exact z1 c h | exact ⟨.mk c, h⟩)
     refine zN ?_
     refine awpS_cond rfl (fun hb47 => ?_) (fun hb47 => ?_)
     · simp at hb47
     try simp [-List.getD_eq_getElem?_getD] at hb47
     refine zk (zn (zbn (zr ?_ (h := by intro c K h; simp [hG, List.getD_cons_zero, List.getD_cons_succ, -List.getD_eq_getElem?_getD, pureOp, hA, hB, hZ]; first | exact z1 c h | exact ⟨.mk c, h⟩))))
     refine zn ?_
     refine round_end ((i + 1, m2)) (⟨by omega, hm2, step_all hn (fun _ => hst)⟩) (by omega) ?_
     refine wk_of (id) (fun _ => false) (fun _ => false) ?_ ?_ rfl (by simp) (fun k hk => by first | exact ⟨rfl, rfl⟩ | (revert k; decide) | (obtain rfl : k = 0 := (by omega); exact ⟨rfl, rfl⟩) | (have hk2 : k = 0 ∨ k = 1 := (by omega); rcases hk2 with rfl | rfl <;> exact ⟨rfl, rfl⟩))
     · simp [hG, List.getD_cons_zero, List.getD_cons_succ, -List.getD_eq_getElem?_getD, pureOp, hA, hB, hZ]
     simp [hG, List.getD_cons_zero, List.getD_cons_succ, -List.getD_eq_getElem?_getD, pureOp, hA, hB, hZ]
   have hst : stB c.ws i w = false := rdN hA hB
   refine zL (zl 2 ?_ (h := by intro c K h; simp [hG, List.getD_cons_zero, List.getD_cons_succ, -List.getD_eq_getElem?_getD, pureOp, hA, hB]; first | exact z1 c h | exact ⟨.mk c, h⟩))
   refine zc cal27 (preW_c (c.ws.getD i []) w) ?_ (a := fun hg => by simp [hG, List.getD_cons_zero, List.getD_cons_succ, -List.getD_eq_getElem?_getD, pureOp, hA, hB]) (b := fun hg => by simp [hG, List.getD_cons_zero, List.getD_cons_succ, -List.getD_eq_getElem?_getD, pureOp, hA, hB]) (h := by intro K h; simp [hG, List.getD_cons_zero, List.getD_cons_succ, -List.getD_eq_getElem?_getD, pureOp, hA, hB]; exact h)
   refine zl 3 ?_ (h := by intro c K h; simp [hG, List.getD_cons_zero, List.getD_cons_succ, -List.getD_eq_getElem?_getD, pureOp, hA, hB]; first | exact z1 c h | exact ⟨.mk c, h⟩)
   refine zc cal27 (preW_c w (c.ws.getD i [])) ?_ (a := fun hg => by first | (simp [hG, List.getD_cons_zero, List.getD_cons_succ, -List.getD_eq_getElem?_getD, pureOp, hA, hB]; done) | (simp [-List.getD_eq_getElem?_getD] at hg; done) | (simp [-List.getD_eq_getElem?_getD] at hg; simp [hG, List.getD_cons_zero, List.getD_cons_succ, -List.getD_eq_getElem?_getD, pureOp, hA, hB]; first | omega | exact hg | (simp_all [-List.getD_eq_getElem?_getD]; done) | (simp_all [-List.getD_eq_getElem?_getD]; first | exact ⟨rfl, rfl⟩ | exact rfl))) (b := fun hg => by first | (simp [hG, List.getD_cons_zero, List.getD_cons_succ, -List.getD_eq_getElem?_getD, pureOp, hA, hB]; done) | (simp [-List.getD_eq_getElem?_getD] at hg; done) | (simp [-List.getD_eq_getElem?_getD] at hg; simp [hG, List.getD_cons_zero, List.getD_cons_succ, -List.getD_eq_getElem?_getD, pureOp, hA, hB]; first | omega | exact hg | (simp_all [-List.getD_eq_getElem?_getD]; done) | (simp_all [-List.getD_eq_getElem?_getD]; first | exact ⟨rfl, rfl⟩ | exact rfl))) (h := by intro K h; simp [hG, List.getD_cons_zero, List.getD_cons_succ, -List.getD_eq_getElem?_getD, pureOp, hA, hB]; exact h)
   refine zl 4 ?_ (h := by intro c K h; simp [hG, List.getD_cons_zero, List.getD_cons_succ, -List.getD_eq_getElem?_getD, pureOp, hA, hB]; first | exact z1 c h | exact ⟨.mk c, h⟩)
   refine awpL_not (.bool true) rfl (fun K hK => ?_) (by intro c hc; cases hc)
   simp [hG, List.getD_cons_zero, List.getD_cons_succ, -List.getD_eq_getElem?_getD, pureOp, hA, hB]
   refine hK _ ?_
   clear K hK
   refine zl 5 ?_ (h := by intro c K h; simp [hG, List.getD_cons_zero, List.getD_cons_succ, -List.getD_eq_getElem?_getD, pureOp, hA, hB]; first | exact z1 c h | exact ⟨.mk c, h⟩)
   refine awpL_not (.bool true) rfl (fun K hK => ?_) (by intro c hc; cases hc)
   simp [hG, List.getD_cons_zero, List.getD_cons_succ, -List.getD_eq_getElem?_getD, pureOp, hA, hB]
   refine hK _ ?_
   clear K hK
   refine zl 2 ?_ (h := by intro c K h; simp [hG, List.getD_cons_zero, List.getD_cons_succ, -List.getD_eq_getElem?_getD, pureOp, hA, hB]; first | exact z1 c h | exact ⟨.mk c, h⟩)
   refine zN ?_
   refine awpS_cond rfl (fun hb47 => ?_) (fun hb47 => ?_)
   · simp at hb47
   try simp [-List.getD_eq_getElem?_getD] at hb47
   refine zk (zn (zbn (zr ?_ (h := by intro c K h; simp [hG, List.getD_cons_zero, List.getD_cons_succ, -List.getD_eq_getElem?_getD, pureOp, hA, hB]; first | exact z1 c h | exact ⟨.mk c, h⟩))))
   refine zn ?_
   refine round_end ((i + 1, m)) (⟨by omega, hm, step_all hn (fun _ => hst)⟩) (by omega) ?_
   refine wk_of (id) (fun _ => false) (fun _ => false) ?_ ?_ rfl (by simp) (fun k hk => by first | exact ⟨rfl, rfl⟩ | (revert k; decide) | (obtain rfl : k = 0 := (by omega); exact ⟨rfl, rfl⟩) | (have hk2 : k = 0 ∨ k = 1 := (by omega); rcases hk2 with rfl | rfl <;> exact ⟨rfl, rfl⟩))
   · simp [hG, List.getD_cons_zero, List.getD_cons_succ, -List.getD_eq_getElem?_getD, pureOp, hA, hB]
   simp [hG, List.getD_cons_zero, List.getD_cons_succ, -List.getD_eq_getElem?_getD, pureOp, hA, hB]
 obtain rfl : i = c.ws.length := (by omega)
 refine zx (ztx (zbx (zn ?_)))
 refine RetF_of (()) (id) (fun _ => false) (fun _ => false) trivial ?_ ?_ (by rfl) (by simp) (fun k _ => ⟨rfl, rfl⟩)
 · simp [hG, List.getD_cons_zero, List.getD_cons_succ, -List.getD_eq_getElem?_getD, pureOp]
 rw [oth_no hn]; simp [hG, pureOp, List.getD_cons_zero, List.getD_cons_succ, -List.getD_eq_getElem?_getD]
set_option maxRecDepth 100000 in
set_option maxHeartbeats 1000000 in
theorem witness_c (c : Cd) (hl : c.ws.length ≤ maxLen) (n : Int) : PC Try.prog 24 [.agg 2 (cdF c), .int .i64 n] (.tup 5 (fun j => [.str (wsW c n), .int .i64 (wsX c n), .int .i64 (wsY c n), .bool (wsB c n), .int .i64 (bdN c n)].getD j .any)) := by
 have hML : maxLen = 9223372036854775807 := by decide
 refine zp Try.func24 fun G hG hR => ?_
 refine zs (zr ?_ (h := by intro c K h; simp [hG, List.getD_cons_zero, List.getD_cons_succ, -List.getD_eq_getElem?_getD, pureOp, wtA_zero, bxO_none, bwO_none, bxO_some, bwO_some]; first | exact z1 c h | exact ⟨.mk c, h⟩))
 refine zs (zs (zL (zl 2 ?_ (h := by intro c K h; simp [hG, List.getD_cons_zero, List.getD_cons_succ, -List.getD_eq_getElem?_getD, pureOp, wtA_zero, bxO_none, bwO_none, bxO_some, bwO_some]; first | exact z1 c h | exact ⟨.mk c, h⟩))))
 refine zc cal46 (number_c c hl n) ?_ (a := fun hg => by simp [hG, List.getD_cons_zero, List.getD_cons_succ, -List.getD_eq_getElem?_getD, pureOp, wtA_zero, bxO_none, bwO_none, bxO_some, bwO_some]) (b := fun hg => by simp [hG, List.getD_cons_zero, List.getD_cons_succ, -List.getD_eq_getElem?_getD, pureOp, wtA_zero, bxO_none, bwO_none, bxO_some, bwO_some]) (h := by intro K h; simp [hG, List.getD_cons_zero, List.getD_cons_succ, -List.getD_eq_getElem?_getD, pureOp, wtA_zero, bxO_none, bwO_none, bxO_some, bwO_some]; exact h)
 refine zl 1 ?_ (h := by intro c K h; simp [hG, List.getD_cons_zero, List.getD_cons_succ, -List.getD_eq_getElem?_getD, pureOp, wtA_zero, bxO_none, bwO_none, bxO_some, bwO_some]; first | exact z1 c h | exact ⟨.mk c, h⟩)
 refine zN (zs (zr ?_ (h := by intro c K h; simp [hG, List.getD_cons_zero, List.getD_cons_succ, -List.getD_eq_getElem?_getD, pureOp, wtA_zero, bxO_none, bwO_none, bxO_some, bwO_some]; first | exact z1 c h | exact ⟨.mk c, h⟩)))
 refine zy (fun hb22 => ?_) fun hb22 => ?_
 · refine zs (zr ?_ (h := by intro c K h; simp [hG, List.getD_cons_zero, List.getD_cons_succ, -List.getD_eq_getElem?_getD, pureOp, wtA_zero, bxO_none, bwO_none, bxO_some, bwO_some]; first | exact z1 c h | exact ⟨.mk c, h⟩))
   refine zt ?_
   refine RetOK_of ?_
   simp [hG, List.getD_cons_zero, List.getD_cons_succ, -List.getD_eq_getElem?_getD, pureOp, wtA_zero, bxO_none, bwO_none, bxO_some, bwO_some]
   obtain ⟨h1, h2, h3, h4⟩ := ws_err hb22; rw [h1, h2, h3, h4]; simp
 have hb0 : bdN c n = 0 := (by simpa using hb22)
 obtain ⟨ho, hn0, hn1⟩ := (bd_zero3 hb0)
 have hv := cd_ok ho
 obtain ⟨e, rfl⟩ : ∃ e : Nat, n = (e : Int) := ⟨n.toNat, by omega⟩
 have he : e ≤ 4096 := (by omega)
 refine zk (zs (zL (zl 1 ?_ (h := by intro c K h; simp [hG, List.getD_cons_zero, List.getD_cons_succ, -List.getD_eq_getElem?_getD, pureOp, wtA_zero, bxO_none, bwO_none, bxO_some, bwO_some]; first | exact z1 c h | exact ⟨.mk c, h⟩))))
 refine zf cal39 [] (newRaces_c c hv) (fun m hI hno => ?_) (a := by simp [hG, List.getD_cons_zero, List.getD_cons_succ, -List.getD_eq_getElem?_getD, pureOp, wtA_zero, bxO_none, bwO_none, bxO_some, bwO_some]) (b := by simp [hG, List.range'_succ, List.range'_zero, List.getD_cons_zero, List.getD_cons_succ, -List.getD_eq_getElem?_getD]) (c := by simp [hG, List.getD_cons_zero, List.getD_cons_succ, -List.getD_eq_getElem?_getD, pureOp, wtA_zero, bxO_none, bwO_none, bxO_some, bwO_some]) (h := by intro K h m hI hno; simp [hG, List.getD_cons_zero, List.getD_cons_succ, -List.getD_eq_getElem?_getD, pureOp, wtA_zero, bxO_none, bwO_none, bxO_some, bwO_some]; exact h m hI hno)
 refine zl 2 ?_ (h := by intro c K h; simp [hG, List.getD_cons_zero, List.getD_cons_succ, -List.getD_eq_getElem?_getD, pureOp, wtA_zero, bxO_none, bwO_none, bxO_some, bwO_some]; first | exact z1 c h | exact ⟨.mk c, h⟩)
 refine zN (zs (zr ?_ (h := by intro c K h; simp [hG, List.getD_cons_zero, List.getD_cons_succ, -List.getD_eq_getElem?_getD, pureOp, wtA_zero, bxO_none, bwO_none, bxO_some, bwO_some]; first | exact z1 c h | exact ⟨.mk c, h⟩)))
 refine zs (zs (zr ?_ (h := by intro c K h; simp [hG, List.getD_cons_zero, List.getD_cons_succ, -List.getD_eq_getElem?_getD, pureOp, wtA_zero, bxO_none, bwO_none, bxO_some, bwO_some]; first | exact z1 c h | exact ⟨.mk c, h⟩)))
 refine zb ?_
 refine awpS_loop (α := Nat) (fun i => ⟨[(1, .int .i64 (e : Nat)), (2, .vptr 2 (cdF c) 0), (4, .ptr (2, 0) 0 0), (5, .ptr (3, 0) 0 0), (6, .ptr (4, 0) 0 0), (7, .ptr (5, 0) 0 0), (8, .ptr (6, 0) 0 0), (10, .ptr (1, 0) 0 0), (11, .ptr (7, 0) 0 0), (12, .ptr (8, 0) 0 0), (27, strs c.ws), (28, .int .i64 c.ws.length), (29, .int .i64 (i : Nat))], [(0, .one (.mp (mpE rcK intV m))), (1, .one (.arr 1 3 (fun _ => rvF c (.map (0, 0))))), (2, .one (.arr 1 1 (fun _ _ => .str []))), (3, .one (.arr 1 1 (fun _ _ => .int .i64 0))), (4, .one (.arr 1 1 (fun _ _ => .int .i64 0))), (5, .one (.arr 1 1 (fun _ _ => .bool false))), (6, .one (.arr 1 1 (fun _ _ => .int .i64 0))), (7, .one (.arr 1 1 (fun _ _ => .int .i64 (bxO (wtA c.ws c.q.toNat e i))))), (8, .one (.arr 1 1 (fun _ _ => .str (bwO (wtA c.ws c.q.toNat e i)))))], 9⟩) (fun i => i ≤ c.ws.length) (fun i => c.ws.length - i) (0) (Nat.zero_le _) ?_ ?_
 · exact zw (fun k => if k = 0 then 6 else if k = 1 then 7 else if k ≤ 6 then k - 1 else k + 1) (fun k => k == 0) (fun _ => false) (e := by simp [hG, List.getD_cons_zero, List.getD_cons_succ, -List.getD_eq_getElem?_getD, pureOp, wtA_zero, bxO_none, bwO_none, bxO_some, bwO_some]) (h := by simp [hG, List.getD_cons_zero, List.getD_cons_succ, -List.getD_eq_getElem?_getD, pureOp, wtA_zero, bxO_none, bwO_none, bxO_some, bwO_some])
 rintro i hi
 have hRO := hI
 refine zs (zr ?_ (h := by intro c K h; simp [hG, List.getD_cons_zero, List.getD_cons_succ, -List.getD_eq_getElem?_getD, pureOp, wtA_zero, bxO_none, bwO_none, bxO_some, bwO_some]; first | exact z1 c h | exact ⟨.mk c, h⟩))
 refine zs (zy (fun hb30 => ?_) fun hb30 => ?_)
 · have hxl := hv.len _ (W_mem hb30)
   have hfl := fst_len (i := i) (n := e) hv.lt
   refine zk (zs (zb (zs (zr ?_ (h := by intro c K h; simp [hG, List.getD_cons_zero, List.getD_cons_succ, -List.getD_eq_getElem?_getD, pureOp, wtA_zero, bxO_none, bwO_none, bxO_some, bwO_some]; first | exact z1 c h | exact ⟨.mk c, h⟩)))))
   refine zs (zL (zl 3 ?_ (h := by intro c K h; simp [hG, List.getD_cons_zero, List.getD_cons_succ, -List.getD_eq_getElem?_getD, pureOp, wtA_zero, bxO_none, bwO_none, bxO_some, bwO_some]; first | exact z1 c h | exact ⟨.mk c, h⟩)))
   refine zf cal52 [0] (first_c c hv i hb30 e he m hRO) (fun x hI hno => ?_) (a := by simp [hG, List.getD_cons_zero, List.getD_cons_succ, -List.getD_eq_getElem?_getD, pureOp, wtA_zero, bxO_none, bwO_none, bxO_some, bwO_some]) (b := by simp [hG, List.range'_succ, List.range'_zero, List.getD_cons_zero, List.getD_cons_succ, -List.getD_eq_getElem?_getD]) (c := by simp [hG, List.getD_cons_zero, List.getD_cons_succ, -List.getD_eq_getElem?_getD, pureOp, wtA_zero, bxO_none, bwO_none, bxO_some, bwO_some]) (h := by intro K h x hI hno; simp [hG, List.getD_cons_zero, List.getD_cons_succ, -List.getD_eq_getElem?_getD, pureOp, wtA_zero, bxO_none, bwO_none, bxO_some, bwO_some]; exact h x hI hno)
   refine zl 5 ?_ (h := by intro c K h; simp [hG, List.getD_cons_zero, List.getD_cons_succ, -List.getD_eq_getElem?_getD, pureOp, wtA_zero, bxO_none, bwO_none, bxO_some, bwO_some]; first | exact z1 c h | exact ⟨.mk c, h⟩)
   refine zN (zs (zL (zl 9 ?_ (h := by intro c K h; simp [hG, List.getD_cons_zero, List.getD_cons_succ, -List.getD_eq_getElem?_getD, pureOp, wtA_zero, bxO_none, bwO_none, bxO_some, bwO_some]; first | exact z1 c h | exact ⟨.mk c, h⟩))))
   refine zc cal53 (lessD_c ((c.ws.getD i []) ++ ((fstW c.ws c.q.toNat i e).getD [])) (bwO (wtA c.ws c.q.toNat e i))) ?_ (a := fun hg => by first | (simp [hG, List.getD_cons_zero, List.getD_cons_succ, -List.getD_eq_getElem?_getD, pureOp, wtA_zero, bxO_none, bwO_none, bxO_some, bwO_some]; done) | (simp [-List.getD_eq_getElem?_getD] at hg; done) | (simp [-List.getD_eq_getElem?_getD] at hg; simp [hG, List.getD_cons_zero, List.getD_cons_succ, -List.getD_eq_getElem?_getD, pureOp, wtA_zero, bxO_none, bwO_none, bxO_some, bwO_some]; first | omega | exact hg | (simp_all [-List.getD_eq_getElem?_getD]; done) | (simp_all [-List.getD_eq_getElem?_getD]; first | exact ⟨rfl, rfl⟩ | exact rfl))) (b := fun hg => by first | (simp [hG, List.getD_cons_zero, List.getD_cons_succ, -List.getD_eq_getElem?_getD, pureOp, wtA_zero, bxO_none, bwO_none, bxO_some, bwO_some]; done) | (simp [-List.getD_eq_getElem?_getD] at hg; done) | (simp [-List.getD_eq_getElem?_getD] at hg; simp [hG, List.getD_cons_zero, List.getD_cons_succ, -List.getD_eq_getElem?_getD, pureOp, wtA_zero, bxO_none, bwO_none, bxO_some, bwO_some]; first | omega | exact hg | (simp_all [-List.getD_eq_getElem?_getD]; done) | (simp_all [-List.getD_eq_getElem?_getD]; first | exact ⟨rfl, rfl⟩ | exact rfl))) (h := by intro K h; simp [hG, List.getD_cons_zero, List.getD_cons_succ, -List.getD_eq_getElem?_getD, pureOp, wtA_zero, bxO_none, bwO_none, bxO_some, bwO_some]; exact h)
   refine zl 2 ?_ (h := by intro c K h; simp [hG, List.getD_cons_zero, List.getD_cons_succ, -List.getD_eq_getElem?_getD, pureOp, wtA_zero, bxO_none, bwO_none, bxO_some, bwO_some]; first | exact z1 c h | exact ⟨.mk c, h⟩)
   refine zN (zy (fun hb52 => ?_) fun hb52 => ?_)
   · have hps := wtU_yes hb52.1 hb52.2
     refine zr ?_ (h := by intro c K h; simp [hG, List.getD_cons_zero, List.getD_cons_succ, -List.getD_eq_getElem?_getD, pureOp, wtA_zero, bxO_none, bwO_none, bxO_some, bwO_some]; first | exact z1 c h | exact ⟨.mk c, h⟩)
     refine zn (zbn (zr ?_ (h := by intro c K h; simp [hG, List.getD_cons_zero, List.getD_cons_succ, -List.getD_eq_getElem?_getD, pureOp, wtA_zero, bxO_none, bwO_none, bxO_some, bwO_some]; first | exact z1 c h | exact ⟨.mk c, h⟩)))
     refine zn ?_
     refine round_end (i + 1) (by omega) (by omega) ?_
     exact zi (e := by simp [hG, List.getD_cons_zero, List.getD_cons_succ, -List.getD_eq_getElem?_getD, pureOp, wtA_zero, bxO_none, bwO_none, bxO_some, bwO_some]) (h := by rw [wtA_succ, hps]; simp [hG, pureOp, List.getD_cons_zero, List.getD_cons_succ, -List.getD_eq_getElem?_getD])
   have hps := wtU_not (W := c.ws) (q := c.q.toNat) (d := e) (k := i) (o := (wtA c.ws c.q.toNat e i)) (fun h => by have h2 := hb52 h.1; rcases h.2 with h3 | h3; (exact absurd h3 (by omega)); exact h2.2 h3)
   refine zk (zn (zbn (zr ?_ (h := by intro c K h; simp [hG, List.getD_cons_zero, List.getD_cons_succ, -List.getD_eq_getElem?_getD, pureOp, wtA_zero, bxO_none, bwO_none, bxO_some, bwO_some]; first | exact z1 c h | exact ⟨.mk c, h⟩))))
   refine zn ?_
   refine round_end (i + 1) (by omega) (by omega) ?_
   exact zi (e := by simp [hG, List.getD_cons_zero, List.getD_cons_succ, -List.getD_eq_getElem?_getD, pureOp, wtA_zero, bxO_none, bwO_none, bxO_some, bwO_some]) (h := by rw [wtA_succ, hps]; simp [hG, pureOp, List.getD_cons_zero, List.getD_cons_succ, -List.getD_eq_getElem?_getD])
 obtain rfl : i = c.ws.length := (by omega)
 refine zx (ztx (zbx (zs (zs (zr ?_ (h := by intro c K h; simp [hG, List.getD_cons_zero, List.getD_cons_succ, -List.getD_eq_getElem?_getD, pureOp, wtA_zero, bxO_none, bwO_none, bxO_some, bwO_some]; first | exact z1 c h | exact ⟨.mk c, h⟩))))))
 refine zy (fun hb59 => ?_) fun hb59 => ?_
 · have hwn := bxO_neg.1 hb59
   refine zs (zr ?_ (h := by intro c K h; simp [hG, List.getD_cons_zero, List.getD_cons_succ, -List.getD_eq_getElem?_getD, pureOp, wtA_zero, bxO_none, bwO_none, bxO_some, bwO_some]; first | exact z1 c h | exact ⟨.mk c, h⟩))
   refine zt ?_
   refine RetOK_of ?_
   simp [hG, List.getD_cons_zero, List.getD_cons_succ, -List.getD_eq_getElem?_getD, pureOp, wtA_zero, bxO_none, bwO_none, bxO_some, bwO_some]
   obtain ⟨h1, h2, h3, h4⟩ := ws_out hb0 hwn; rw [h1, h2, h3, h4, hb0]; simp
 obtain ⟨p, hw⟩ : ∃ p, wtA c.ws c.q.toNat e c.ws.length = some p := Option.ne_none_iff_exists'.1 (fun h => by rw [h] at hb59; simp at hb59)
 obtain ⟨bx, w⟩ := p
 rw [hw]
 obtain ⟨hoth, hwl, hbl⟩ := wt_oth hv hw
 refine zk (zs (zs (zL (zl 2 ?_ (h := by intro c K h; simp [hG, List.getD_cons_zero, List.getD_cons_succ, -List.getD_eq_getElem?_getD, pureOp, wtA_zero, bxO_none, bwO_none, bxO_some, bwO_some]; first | exact z1 c h | exact ⟨.mk c, h⟩)))))
 refine zc cal48 (starts_c c w) ?_ (a := fun hg => by simp [hG, List.getD_cons_zero, List.getD_cons_succ, -List.getD_eq_getElem?_getD, pureOp, wtA_zero, bxO_none, bwO_none, bxO_some, bwO_some]) (b := fun hg => by simp [hG, List.getD_cons_zero, List.getD_cons_succ, -List.getD_eq_getElem?_getD, pureOp, wtA_zero, bxO_none, bwO_none, bxO_some, bwO_some]) (h := by intro K h; simp [hG, List.getD_cons_zero, List.getD_cons_succ, -List.getD_eq_getElem?_getD, pureOp, wtA_zero, bxO_none, bwO_none, bxO_some, bwO_some]; exact h)
 refine zN (zb ?_)
 refine awpS_wk (st2 := ⟨[(4, .ptr (0, 0) 0 0), (5, .ptr (1, 0) 0 0), (6, .ptr (2, 0) 0 0), (7, .ptr (3, 0) 0 0), (8, .ptr (4, 0) 0 0), (11, .ptr (5, 0) 0 0), (12, .ptr (6, 0) 0 0), (62, .fn 72 2 (fun j => [.vptr 2 (cdF c) 0, .vptr 1 (fun _ => .str w) 0].getD j .any))], [(0, .one (.arr 1 1 (fun _ _ => .str []))), (1, .one (.arr 1 1 (fun _ _ => .int .i64 0))), (2, .one (.arr 1 1 (fun _ _ => .int .i64 0))), (3, .one (.arr 1 1 (fun _ _ => .bool false))), (4, .one (.arr 1 1 (fun _ _ => .int .i64 0))), (5, .one (.arr 1 1 (fun _ _ => .int .i64 ((bx : Nat))))), (6, .one (.arr 1 1 (fun _ _ => .str (w))))], 7⟩) ?_ ?_
 · exact zw (fun k => k + 2) (fun _ => false) (fun _ => false) (e := by simp [hG, List.getD_cons_zero, List.getD_cons_succ, -List.getD_eq_getElem?_getD, pureOp, wtA_zero, bxO_none, bwO_none, bxO_some, bwO_some]) (h := by simp [hG, List.getD_cons_zero, List.getD_cons_succ, -List.getD_eq_getElem?_getD, pureOp, wtA_zero, bxO_none, bwO_none, bxO_some, bwO_some])
 refine awpS_rangeJ hR [4, 5, 6, 7, 8, 11, 12] [0, 1, 2, 3, 4, 5, 6] (fun _ => false) cal72 rfl trivial (fun l rec vs hok => by rw [hG] at hok; exact FCY_of (startsW_c l rec vs hok c hl hv w (by omega) bx)) (by simp) (by simp) (.inl fun _ => rfl) (fun l rec vs => ?_) (fun l rec => ?_) fun K hK hKr hKe x hI hno => ?_
 · simp [hG, List.range'_succ, List.range'_zero, List.getD_cons_zero, List.getD_cons_succ, -List.getD_eq_getElem?_getD]
 · simp [hG, List.getD_cons_zero, List.getD_cons_succ, -List.getD_eq_getElem?_getD, pureOp, wtA_zero, bxO_none, bwO_none, bxO_some, bwO_some]
 by_cases hJ : (othF c.ws w bx).isSome = true
 · simp [hG, List.getD_cons_zero, List.getD_cons_succ, -List.getD_eq_getElem?_getD, pureOp, wtA_zero, bxO_none, bwO_none, bxO_some, bwO_some, hJ]
   refine hKr _ ?_
   clear K hK hKr hKe
   refine zbt ?_
   refine RetOK_of ?_
   simp [hG, List.getD_cons_zero, List.getD_cons_succ, -List.getD_eq_getElem?_getD, pureOp, wtA_zero, bxO_none, bwO_none, bxO_some, bwO_some, hJ]
   obtain ⟨h1, h2, h3, h4⟩ := ws_at hb0 hw; rw [h1, h2, h3, h4, hb0]; simp
 simp [hG, List.getD_cons_zero, List.getD_cons_succ, -List.getD_eq_getElem?_getD, pureOp, wtA_zero, bxO_none, bwO_none, bxO_some, bwO_some, hJ]
 refine hK _ ?_
 clear K hK hKr hKe
 refine zn (zbn (zs (zr ?_ (h := by intro c K h; simp [hG, List.getD_cons_zero, List.getD_cons_succ, -List.getD_eq_getElem?_getD, pureOp, wtA_zero, bxO_none, bwO_none, bxO_some, bwO_some]; first | exact z1 c h | exact ⟨.mk c, h⟩))))
 refine zt ?_
 refine RetOK_of ?_
 simp [hG, List.getD_cons_zero, List.getD_cons_succ, -List.getD_eq_getElem?_getD, pureOp, wtA_zero, bxO_none, bwO_none, bxO_some, bwO_some]
 exact absurd hoth hJ
end Go.Proofs.Ytoafgeobhhlplaa
