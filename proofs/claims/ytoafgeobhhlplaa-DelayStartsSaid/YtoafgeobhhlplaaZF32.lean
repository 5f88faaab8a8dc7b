/- Parts of the proof: VE. -/
import Derived.Test.YtoafgeobhhlplaaZF22
import Derived.Test.YtoafgeobhhlplaaZF26
import Derived.Test.YtoafgeobhhlplaaZF31
namespace Go.Proofs.Ytoafgeobhhlplaa
set_option linter.unusedSimpArgs false
set_option linter.unusedVariables false
open Go Go.Lift Go.Proofs
theorem app_oneI {K : List Int} {x : Int} {w : Nat → Nat → AVal} {i : Nat} (hw : w 0 0 = .int .i64 x) (hi : i < K.length + 1) : app (fun p _ => .int .i64 (K.getD p 0)) K.length w i 0 = .int .i64 ((K ++ [x]).getD i 0) := by
  unfold app
  by_cases h : i < K.length
  · rw [if_pos h]; simp [List.getD, List.getElem?_append_left h]
  · obtain rfl : i = K.length := by omega
    rw [if_neg h, Nat.sub_self, hw]; simp [List.getD]
theorem pre_yes {W : List Wd} {v : Wd} {i : Nat} (h : rd W (W.getD i []) v = true) : preA W v (i + 1) = preA W v i ++ [(i : Int)] := by rw [preA_succ, if_pos (show stB W i v = true from h)]
theorem pre_not {W : List Wd} {v : Wd} {i : Nat} (h : rd W (W.getD i []) v = false) : preA W v (i + 1) = preA W v i := by rw [preA_succ, if_neg (by unfold stB; rw [h]; simp), List.append_nil]
@[simp] theorem preA_zero {W : List Wd} {v : Wd} : preA W v 0 = [] := rfl
theorem rdB0 {W : List Wd} {x w : Wd} (hA : ¬ w <+: x) (hB : x <+: w) : rd W x w = rd W [] (w.drop x.length) := by rw [rd_dec, decide_eq_false hA, decide_eq_true hB]; simp
theorem ck_code {c : Cd} {w : Wd} (h : ckN c w = 0) : cdN c = 0 := by
  unfold ckN at h
  split at h
  · cases h
  · rename_i h2; simpa using h2
@[simp] theorem VLe_yld {h : Heap} {σ : Lift.Id → Lift.Id} {fz : Nat → Bool} {vz : Lift.Id → Bool} {x l l' n n' : Nat} {vs vs' : Array Value} {f f' : Nat → AVal} : VLe h σ fz vz x (.yld l vs n f) (.yld l' vs' n' f') = (l' = l ∧ vs' = vs ∧ n' = n ∧ ∀ j, j < n → VLe h σ fz vz x (f j) (f' j)) := rfl
set_option maxRecDepth 100000 in
theorem begins_c (c : Cd) (w : List UInt8) : FC1 Try.prog 73 [.agg 2 (cdF c), .str w] [] 0 (.fn 86 4 (fun j => [.vptr 1 (fun _ => .str w) 0, .ptr (0, 0) 0 0, .vptr 2 (cdF c) 0, .ptr (2, 0) 0 0].getD j .any)) [(0, .one (.arr 1 1 (fun _ _ => .map (1, 0)))), (1, .one (.mp (mpE intK boolV (([] : List (Int × Bool)))))), (2, .one (.arr 1 1 (fun _ _ => .fn 86 4 (fun j => [.vptr 1 (fun _ => .str w) 0, .ptr (0, 0) 0 0, .vptr 2 (cdF c) 0, .ptr (2, 0) 0 0].getD j .any))))] 3 := by
 refine FC_introS T_ok Try.func73 rfl (by simp [Try.ntmps73]) fun G hG hR => ?_
 simp only [Try.ntmps73, Try.results73] at hG ⊢
 simp only [argEnv, Nat.zero_add, Nat.reduceAdd]
 refine zs (zr ?_)
 refine zs (zr ?_)
 refine zs (zr ?_)
 refine zs (zr ?_)
 refine zs (zr ?_)
 refine zt ?_
 refine RetF_of (()) (fun k => if k = 0 then 3 else if k = 1 then 2 else if k = 2 then 4 else k) (fun k => k == 0 || k == 1) (fun _ => false) trivial ?_ ?_ (by rfl) (by simp) (fun k hk => absurd hk (Nat.not_lt_zero _))
 · simp [hG, List.getD_cons_zero, List.getD_cons_succ, -List.getD_eq_getElem?_getD]
 simp [hG, List.getD_cons_zero, List.getD_cons_succ, -List.getD_eq_getElem?_getD]
set_option maxRecDepth 100000 in
theorem starts_c (c : Cd) (w : List UInt8) : PC Try.prog 48 [.agg 2 (cdF c), .str w] (.fn 72 2 (fun j => [.vptr 2 (cdF c) 0, .vptr 1 (fun _ => .str w) 0].getD j .any)) := by
 refine zp Try.func48 fun G hG hR => ?_
 refine zs (zr ?_)
 refine zs (zr ?_)
 refine zt ?_
 exact zR
set_option maxRecDepth 100000 in
theorem preB_y (q : Int) (K : List Int) (hK : K.length ≤ 100000) {l : Nat} {rec : Loop} {vs : Array Value} (hok : RecOK rec [7] vs #[18] (rngA Try.f19.body 0) (rngB Try.f19.body 0) 24) : YC Try.prog l rec vs ([.int .i64 q] ++ [.ptr (0, 0) 0 0]) [(0, .one (.arr 1 1 (fun _ _ => .sl (1, 0) 0 (K).length))), (1, .one (.arr (K).length 1 (fun p _ => .int .i64 ((K).getD p 0))))] 2 (fun _ : Unit => True) (fun _ : Unit => .bool true) (fun _ : Unit => [(0, .one (.arr 1 1 (fun _ _ => .sl (2, 0) 0 ((K ++ [q])).length))), (2, .one (.arr ((K ++ [q])).length 1 (fun p _ => .int .i64 (((K ++ [q])).getD p 0))))]) (fun _ : Unit => 3) := by
 refine YC_introS hok rfl rfl (by simp [nobH, nobO]) rfl (by simp) rfl fun G hG hR => ?_
 show AwpS _ _ _ _ _ ⟨[(18, .int .i64 q), (7, .ptr (0, 0) 0 0)], [(0, .one (.arr 1 1 (fun _ _ => .sl (1, 0) 0 (K).length))), (1, .one (.arr (K).length 1 (fun p _ => .int .i64 ((K).getD p 0))))], 2⟩
 refine zr ?_
 refine zn ?_
 refine ⟨rfl, fun G hG hR => ?_⟩
 refine zb (zr ?_)
 refine zn (zbn (zn ?_))
 refine ⟨rfl, RetY_of (()) (fun k => if k = 2 then 3 else k) (fun _ => false) (fun _ => false) trivial ?_ (by rfl) (by simp) (fun k hk => ⟨if_neg (by omega), rfl⟩)⟩
 simp [hG, List.getD_cons_zero, List.getD_cons_succ, -List.getD_eq_getElem?_getD]; exact fun i hi => app_oneI rfl hi
set_option maxRecDepth 100000 in
theorem startsP_c (l : Nat) (rec : Loop) (vs : Array Value) (hok : RecOK rec [7] vs #[18] (rngA Try.f19.body 0) (rngB Try.f19.body 0) 24) (c : Cd) (hl : c.ws.length ≤ maxLen) (hv : CdOK c) (w : List UInt8) (hw : w.length ≤ 1000000) : FCY Try.prog 72 l rec [.yld l vs 1 (fun j => [.ptr (0, 0) 0 0].getD j .any), .vptr 2 (cdF c) 0, .vptr 1 (fun _ => .str w) 0] [(0, .one (.arr 1 1 (fun _ _ => .sl (1, 0) 0 (([] : List Int)).length))), (1, .one (.arr (([] : List Int)).length 1 (fun p _ => .int .i64 ((([] : List Int)).getD p 0))))] 2 (fun _ : Unit => True) (fun _ : Unit => .any) (fun _ : Unit => [(0, .one (.arr 1 1 (fun _ _ => .sl (2, 0) 0 ((preL c.ws w)).length))), (2, .one (.arr ((preL c.ws w)).length 1 (fun p _ => .int .i64 (((preL c.ws w)).getD p 0))))]) (fun _ : Unit => 3) := by
 have hML : maxLen = 9223372036854775807 := by decide
 have hWn := hv.n
 refine FCY_introS T_ok (by simp [nobH, nobO]) Try.func72 rfl (by simp [Try.ntmps72]) fun G hG hR hrec => ?_
 simp only [Try.ntmps72, Try.results72] at hG ⊢
 simp only [argEnv, Nat.zero_add, Nat.reduceAdd]
 refine zs (zL (zl 2 ?_ (h := by intro c K h; simp [hG, List.getD_cons_zero, List.getD_cons_succ, -List.getD_eq_getElem?_getD, pureOp, preA_zero]; first | exact z1 c h | exact ⟨.mk c, h⟩)))
 refine zf cal73 [] (begins_c c w) (fun x hI hno => ?_) (a := by simp [hG, List.getD_cons_zero, List.getD_cons_succ, -List.getD_eq_getElem?_getD, pureOp, preA_zero]) (b := by simp [hG, List.getD_cons_zero, List.getD_cons_succ, -List.getD_eq_getElem?_getD, pureOp, preA_zero]) (c := by simp [hG, List.getD_cons_zero, List.getD_cons_succ, -List.getD_eq_getElem?_getD, pureOp, preA_zero]) (h := by intro K h x hI hno; simp [hG, List.getD_cons_zero, List.getD_cons_succ, -List.getD_eq_getElem?_getD, pureOp, preA_zero]; exact h x hI hno)
 refine zl 1 ?_ (h := by intro c K h; simp [hG, List.getD_cons_zero, List.getD_cons_succ, -List.getD_eq_getElem?_getD, pureOp, preA_zero]; first | exact z1 c h | exact ⟨.mk c, h⟩)
 refine zN (zs (zs (zr ?_ (h := by intro c K h; simp [hG, List.getD_cons_zero, List.getD_cons_succ, -List.getD_eq_getElem?_getD, pureOp, preA_zero]; first | exact z1 c h | exact ⟨.mk c, h⟩))))
 refine zb ?_
 refine awpS_loop (α := Nat × List (Int × Bool)) (fun x => ⟨[(0, .yld l vs 1 (fun j => [.ptr (0, 0) 0 0].getD j .any)), (1, .vptr 2 (cdF c) 0), (2, .vptr 1 (fun _ => .str w) 0), (4, .fn 86 4 (fun j => [.vptr 1 (fun _ => .str w) 0, .ptr (2, 0) 0 0, .vptr 2 (cdF c) 0, .ptr (4, 0) 0 0].getD j .any)), (5, .int .i64 (x.1 : Nat))], [(0, .one (.arr 1 1 (fun _ _ => .sl (1, 0) 0 (([] : List Int)).length))), (1, .one (.arr (([] : List Int)).length 1 (fun p _ => .int .i64 ((([] : List Int)).getD p 0)))), (2, .one (.arr 1 1 (fun _ _ => .map (3, 0)))), (3, .one (.mp (mpE intK boolV (x.2)))), (4, .one (.arr 1 1 (fun _ _ => .fn 86 4 (fun j => [.vptr 1 (fun _ => .str w) 0, .ptr (2, 0) 0 0, .vptr 2 (cdF c) 0, .ptr (4, 0) 0 0].getD j .any))))], 5⟩) (fun x => x.1 ≤ w.length ∧ Memo c.ws w x.2) (fun x => x.1) ((w.length, [])) (⟨Nat.le_refl _, memo_nil⟩) ?_ ?_
 · refine wk_of (id) (fun _ => false) (fun _ => false) ?_ ?_ rfl (by simp) (fun k hk => by first | exact ⟨rfl, rfl⟩ | (revert k; decide) | (obtain rfl : k = 0 := (by omega); exact ⟨rfl, rfl⟩) | (have hk2 : k = 0 ∨ k = 1 := (by omega); rcases hk2 with rfl | rfl <;> exact ⟨rfl, rfl⟩))
   · simp [hG, List.getD_cons_zero, List.getD_cons_succ, -List.getD_eq_getElem?_getD, pureOp, preA_zero]
   simp [hG, List.getD_cons_zero, List.getD_cons_succ, -List.getD_eq_getElem?_getD, pureOp, preA_zero]
 rintro ⟨k, m⟩ ⟨hk, hm⟩
 refine zs (zs (zr ?_ (h := by intro c K h; simp [hG, List.getD_cons_zero, List.getD_cons_succ, -List.getD_eq_getElem?_getD, pureOp, preA_zero]; first | exact z1 c h | exact ⟨.mk c, h⟩)))
 refine zy (fun hb14 => ?_) fun hb14 => ?_
 · refine zk (zs (zb (zL (zl 2 ?_ (h := by intro c K h; simp [hG, List.getD_cons_zero, List.getD_cons_succ, -List.getD_eq_getElem?_getD, pureOp, preA_zero]; first | exact z1 c h | exact ⟨.mk c, h⟩)))))
   refine zf cal86 [2, 3, 4] (is_all hl hv hw (w.length - k) k m (by omega) hm) (fun m2 hI hno => ?_) (a := by simp [hG, List.getD_cons_zero, List.getD_cons_succ, -List.getD_eq_getElem?_getD, pureOp, preA_zero]) (b := by simp [hG, List.range'_succ, List.range'_zero, List.getD_cons_zero, List.getD_cons_succ, -List.getD_eq_getElem?_getD]) (c := by simp [hG, List.getD_cons_zero, List.getD_cons_succ, -List.getD_eq_getElem?_getD, pureOp, preA_zero]) (h := by intro K h m2 hI hno; simp [hG, List.getD_cons_zero, List.getD_cons_succ, -List.getD_eq_getElem?_getD, pureOp, preA_zero]; exact h m2 hI hno)
   refine zN (zn (zbn (zr ?_ (h := by intro c K h; simp [hG, List.getD_cons_zero, List.getD_cons_succ, -List.getD_eq_getElem?_getD, pureOp, preA_zero]; first | exact z1 c h | exact ⟨.mk c, h⟩))))
   refine zn ?_
   refine round_end ((k - 1, m2)) (⟨by omega, hI⟩) (by omega) ?_
   refine wk_of (id) (fun _ => false) (fun _ => false) ?_ ?_ rfl (by simp) (fun k hk => by first | exact ⟨rfl, rfl⟩ | (revert k; decide) | (obtain rfl : k = 0 := (by omega); exact ⟨rfl, rfl⟩) | (have hk2 : k = 0 ∨ k = 1 := (by omega); rcases hk2 with rfl | rfl <;> exact ⟨rfl, rfl⟩))
   · simp [hG, List.getD_cons_zero, List.getD_cons_succ, -List.getD_eq_getElem?_getD]; omega
   simp [hG, List.getD_cons_zero, List.getD_cons_succ, -List.getD_eq_getElem?_getD, pureOp, preA_zero]
 obtain rfl : k = 0 := (by omega)
 refine zx (ztx (zbx (zs (zr ?_ (h := by intro c K h; simp [hG, List.getD_cons_zero, List.getD_cons_succ, -List.getD_eq_getElem?_getD, pureOp, preA_zero]; first | exact z1 c h | exact ⟨.mk c, h⟩)))))
 refine zb ?_
 refine awpS_loop (α := Nat × List (Int × Bool)) (fun x => ⟨[(0, .yld l vs 1 (fun j => [.ptr (0, 0) 0 0].getD j .any)), (1, .vptr 2 (cdF c) 0), (2, .vptr 1 (fun _ => .str w) 0), (4, .fn 86 4 (fun j => [.vptr 1 (fun _ => .str w) 0, .ptr (2, 0) 0 0, .vptr 2 (cdF c) 0, .ptr (4, 0) 0 0].getD j .any)), (21, strs c.ws), (22, .int .i64 c.ws.length), (23, .int .i64 (x.1 : Nat))], [(0, .one (.arr 1 1 (fun _ _ => .sl (5, 0) 0 ((preA c.ws w x.1)).length))), (5, .one (.arr ((preA c.ws w x.1)).length 1 (fun p _ => .int .i64 (((preA c.ws w x.1)).getD p 0)))), (2, .one (.arr 1 1 (fun _ _ => .map (3, 0)))), (3, .one (.mp (mpE intK boolV (x.2)))), (4, .one (.arr 1 1 (fun _ _ => .fn 86 4 (fun j => [.vptr 1 (fun _ => .str w) 0, .ptr (2, 0) 0 0, .vptr 2 (cdF c) 0, .ptr (4, 0) 0 0].getD j .any))))], 6⟩) (fun x => x.1 ≤ c.ws.length ∧ Memo c.ws w x.2) (fun x => c.ws.length - x.1) ((0, m)) (⟨Nat.zero_le _, hm⟩) ?_ ?_
 · refine wk_of (fun k => if k = 5 then 1 else k) (fun _ => false) (fun _ => false) ?_ ?_ rfl (by simp) (fun k hk => by first | exact ⟨rfl, rfl⟩ | (revert k; decide) | (obtain rfl : k = 0 := (by omega); exact ⟨rfl, rfl⟩) | (have hk2 : k = 0 ∨ k = 1 := (by omega); rcases hk2 with rfl | rfl <;> exact ⟨rfl, rfl⟩))
   · simp [hG, List.getD_cons_zero, List.getD_cons_succ, -List.getD_eq_getElem?_getD, pureOp, preA_zero]
   simp [hG, List.getD_cons_zero, List.getD_cons_succ, -List.getD_eq_getElem?_getD, pureOp, preA_zero]
 rintro ⟨i, m⟩ ⟨hi, hm⟩
 refine zs (zr ?_ (h := by intro c K h; simp [hG, List.getD_cons_zero, List.getD_cons_succ, -List.getD_eq_getElem?_getD, pureOp, preA_zero]; first | exact z1 c h | exact ⟨.mk c, h⟩))
 refine zs (zy (fun hb24 => ?_) fun hb24 => ?_)
 · have hpl := preA_len (W := c.ws) (v := w) (n := i)
   refine zk (zs (zb (zs (zr ?_ (h := by intro c K h; simp [hG, List.getD_cons_zero, List.getD_cons_succ, -List.getD_eq_getElem?_getD, pureOp, preA_zero]; first | exact z1 c h | exact ⟨.mk c, h⟩)))))
   refine zs ?_
   by_cases hA : w <+: (c.ws.getD i [])
   · have hps := pre_yes (rdA hA)
     refine zL (zl 2 ?_ (h := by intro c K h; simp [hG, List.getD_cons_zero, List.getD_cons_succ, -List.getD_eq_getElem?_getD, pureOp, preA_zero, hA]; first | exact z1 c h | exact ⟨.mk c, h⟩))
     refine zc cal27 (preW_c (c.ws.getD i []) w) ?_ (a := fun hg => by simp [hG, List.getD_cons_zero, List.getD_cons_succ, -List.getD_eq_getElem?_getD, pureOp, preA_zero, hA]) (b := fun hg => by simp [hG, List.getD_cons_zero, List.getD_cons_succ, -List.getD_eq_getElem?_getD, pureOp, preA_zero, hA]) (h := by intro K h; simp [hG, List.getD_cons_zero, List.getD_cons_succ, -List.getD_eq_getElem?_getD, pureOp, preA_zero, hA]; exact h)
     refine zl 3 ?_ (h := by intro c K h; simp [hG, List.getD_cons_zero, List.getD_cons_succ, -List.getD_eq_getElem?_getD, pureOp, preA_zero, hA]; first | exact z1 c h | exact ⟨.mk c, h⟩)
     refine zc cal27 (preW_c w (c.ws.getD i [])) ?_ (a := fun hg => by first | (simp [hG, List.getD_cons_zero, List.getD_cons_succ, -List.getD_eq_getElem?_getD, pureOp, preA_zero, hA]; done) | (simp [-List.getD_eq_getElem?_getD] at hg; done) | (simp [-List.getD_eq_getElem?_getD] at hg; simp [hG, List.getD_cons_zero, List.getD_cons_succ, -List.getD_eq_getElem?_getD, pureOp, preA_zero, hA]; first | omega | exact hg | (simp_all [-List.getD_eq_getElem?_getD]; done) | (simp_all [-List.getD_eq_getElem?_getD]; first | exact ⟨rfl, rfl⟩ | exact rfl))) (b := fun hg => by first | (simp [hG, List.getD_cons_zero, List.getD_cons_succ, -List.getD_eq_getElem?_getD, pureOp, preA_zero, hA]; done) | (simp [-List.getD_eq_getElem?_getD] at hg; done) | (simp [-List.getD_eq_getElem?_getD] at hg; simp [hG, List.getD_cons_zero, List.getD_cons_succ, -List.getD_eq_getElem?_getD, pureOp, preA_zero, hA]; first | omega | exact hg | (simp_all [-List.getD_eq_getElem?_getD]; done) | (simp_all [-List.getD_eq_getElem?_getD]; first | exact ⟨rfl, rfl⟩ | exact rfl))) (h := by intro K h; simp [hG, List.getD_cons_zero, List.getD_cons_succ, -List.getD_eq_getElem?_getD, pureOp, preA_zero, hA]; exact h)
     refine zl 4 ?_ (h := by intro c K h; simp [hG, List.getD_cons_zero, List.getD_cons_succ, -List.getD_eq_getElem?_getD, pureOp, preA_zero, hA]; first | exact z1 c h | exact ⟨.mk c, h⟩)
     refine awpL_not (.bool true) rfl (fun K hK => ?_) (by intro c hc; cases hc)
     simp [hG, List.getD_cons_zero, List.getD_cons_succ, -List.getD_eq_getElem?_getD, pureOp, preA_zero, hA]
     refine hK _ ?_
     clear K hK
     refine zl 5 ?_ (h := by intro c K h; simp [hG, List.getD_cons_zero, List.getD_cons_succ, -List.getD_eq_getElem?_getD, pureOp, preA_zero, hA]; first | exact z1 c h | exact ⟨.mk c, h⟩)
     refine awpL_yield hrec hR [0, 5] (fun _ => false) (preB_y i (preA c.ws w i) (by omega) hok) rfl (by rw [hok.params]; rfl) rfl rfl rfl (by simp) (.inl fun _ => rfl) ?_ ?_ ?_ fun K hK x hI hno => ?_
     · simp [hG, List.getD_cons_zero, List.getD_cons_succ, -List.getD_eq_getElem?_getD, pureOp, preA_zero, hA]
     · simp [hG, List.getD_cons_zero, List.getD_cons_succ, -List.getD_eq_getElem?_getD, pureOp, preA_zero, hA]
     · simp [hG, List.getD_cons_zero, List.getD_cons_succ, -List.getD_eq_getElem?_getD, pureOp, preA_zero, hA]
     simp [hG, List.getD_cons_zero, List.getD_cons_succ, -List.getD_eq_getElem?_getD, pureOp, preA_zero, hA]
     refine hK _ ?_
     clear K hK
     refine zl 2 ?_ (h := by intro c K h; simp [hG, List.getD_cons_zero, List.getD_cons_succ, -List.getD_eq_getElem?_getD, pureOp, preA_zero, hA]; first | exact z1 c h | exact ⟨.mk c, h⟩)
     refine zN ?_
     refine awpS_cond rfl (fun hb47 => ?_) (fun hb47 => ?_)
     · simp at hb47
     try simp [-List.getD_eq_getElem?_getD] at hb47
     refine zk (zn (zbn (zr ?_ (h := by intro c K h; simp [hG, List.getD_cons_zero, List.getD_cons_succ, -List.getD_eq_getElem?_getD, pureOp, preA_zero, hA]; first | exact z1 c h | exact ⟨.mk c, h⟩))))
     refine zn ?_
     refine round_end ((i + 1, m)) (⟨by omega, hm⟩) (by omega) ?_
     refine wk_of (fun k => if k = 5 then 6 else k) (fun _ => false) (fun _ => false) ?_ ?_ rfl (by simp) (fun k hk => by first | exact ⟨rfl, rfl⟩ | (revert k; decide) | (obtain rfl : k = 0 := (by omega); exact ⟨rfl, rfl⟩) | (have hk2 : k = 0 ∨ k = 1 := (by omega); rcases hk2 with rfl | rfl <;> exact ⟨rfl, rfl⟩))
     · simp [hG, List.getD_cons_zero, List.getD_cons_succ, -List.getD_eq_getElem?_getD, pureOp, preA_zero, hA]
     rw [hps]; simp [hG, List.getD_cons_zero, List.getD_cons_succ, -List.getD_eq_getElem?_getD]
   by_cases hB : (c.ws.getD i []) <+: w
   · have hbl := hB.length_le
     by_cases hZ : rd c.ws [] (w.drop (c.ws.getD i []).length) = true
     · have hps := pre_yes ((rdB0 hA hB).trans hZ)
       refine zL (zl 2 ?_ (h := by intro c K h; simp [hG, List.getD_cons_zero, List.getD_cons_succ, -List.getD_eq_getElem?_getD, pureOp, preA_zero, hA, hB, hZ]; first | exact z1 c h | exact ⟨.mk c, h⟩))
       refine zc cal27 (preW_c (c.ws.getD i []) w) ?_ (a := fun hg => by simp [hG, List.getD_cons_zero, List.getD_cons_succ, -List.getD_eq_getElem?_getD, pureOp, preA_zero, hA, hB, hZ]) (b := fun hg => by simp [hG, List.getD_cons_zero, List.getD_cons_succ, -List.getD_eq_getElem?_getD, pureOp, preA_zero, hA, hB, hZ]) (h := by intro K h; simp [hG, List.getD_cons_zero, List.getD_cons_succ, -List.getD_eq_getElem?_getD, pureOp, preA_zero, hA, hB, hZ]; exact h)
       refine zl 3 ?_ (h := by intro c K h; simp [hG, List.getD_cons_zero, List.getD_cons_succ, -List.getD_eq_getElem?_getD, pureOp, preA_zero, hA, hB, hZ]; first | exact z1 c h | exact ⟨.mk c, h⟩)
       refine zc cal27 (preW_c w (c.ws.getD i [])) ?_ (a := fun hg => by first | (simp [hG, List.getD_cons_zero, List.getD_cons_succ, -List.getD_eq_getElem?_getD, pureOp, preA_zero, hA, hB, hZ]; done) | (simp [-List.getD_eq_getElem?_getD] at hg; done) | (simp [-List.getD_eq_getElem?_getD] at hg; simp [hG, List.getD_cons_zero, List.getD_cons_succ, -List.getD_eq_getElem?_getD, pureOp, preA_zero, hA, hB, hZ]; first | omega | exact hg | (simp_all [-List.getD_eq_getElem?_getD]; done) | (simp_all [-List.getD_eq_getElem?_getD]; first | exact ⟨rfl, rfl⟩ | exact rfl))) (b := fun hg => by first | (simp [hG, List.getD_cons_zero, List.getD_cons_succ, -List.getD_eq_getElem?_getD, pureOp, preA_zero, hA, hB, hZ]; done) | (simp [-List.getD_eq_getElem?_getD] at hg; done) | (simp [-List.getD_eq_getElem?_getD] at hg; simp [hG, List.getD_cons_zero, List.getD_cons_succ, -List.getD_eq_getElem?_getD, pureOp, preA_zero, hA, hB, hZ]; first | omega | exact hg | (simp_all [-List.getD_eq_getElem?_getD]; done) | (simp_all [-List.getD_eq_getElem?_getD]; first | exact ⟨rfl, rfl⟩ | exact rfl))) (h := by intro K h; simp [hG, List.getD_cons_zero, List.getD_cons_succ, -List.getD_eq_getElem?_getD, pureOp, preA_zero, hA, hB, hZ]; exact h)
       refine zl 4 ?_ (h := by intro c K h; simp [hG, List.getD_cons_zero, List.getD_cons_succ, -List.getD_eq_getElem?_getD, pureOp, preA_zero, hA, hB, hZ]; first | exact z1 c h | exact ⟨.mk c, h⟩)
       refine awpL_fcg cal86 [2, 3, 4] (fun _ => false) (is_all hl hv hw (w.length - (c.ws.getD i []).length) (c.ws.getD i []).length m (by omega) hm) rfl rfl rfl rfl (by simp) (.inl fun _ => rfl) ?_ ?_ ?_ fun K hK m2 hI hno => ?_
       · simp [hG, List.getD_cons_zero, List.getD_cons_succ, -List.getD_eq_getElem?_getD, pureOp, preA_zero, hA, hB, hZ]
       · simp [hG, List.range'_succ, List.range'_zero, List.getD_cons_zero, List.getD_cons_succ, -List.getD_eq_getElem?_getD]
       · simp [hG, List.getD_cons_zero, List.getD_cons_succ, -List.getD_eq_getElem?_getD, pureOp, preA_zero, hA, hB, hZ]
       have hm2 := hI
       simp [hG, List.getD_cons_zero, List.getD_cons_succ, -List.getD_eq_getElem?_getD, pureOp, preA_zero, hA, hB, hZ]
       refine hK _ ?_
       clear K hK
       refine zl 5 ?_ (h := by intro c K h; simp [hG, List.getD_cons_zero, List.getD_cons_succ, -List.getD_eq_getElem?_getD, pureOp, preA_zero, hA, hB, hZ]; first | exact z1 c h | exact ⟨.mk c, h⟩)
       refine awpL_yield hrec hR [0, 5] (fun _ => false) (preB_y i (preA c.ws w i) (by omega) hok) rfl (by rw [hok.params]; rfl) rfl rfl rfl (by simp) (.inl fun _ => rfl) ?_ ?_ ?_ fun K hK x hI hno => ?_
       · simp [hG, List.getD_cons_zero, List.getD_cons_succ, -List.getD_eq_getElem?_getD, pureOp, preA_zero, hA, hB, hZ]
       · simp [hG, List.getD_cons_zero, List.getD_cons_succ, -List.getD_eq_getElem?_getD, pureOp, preA_zero, hA, hB, hZ]
       · simp [hG, List.getD_cons_zero, List.getD_cons_succ, -List.getD_eq_getElem?_getD, pureOp, preA_zero, hA, hB, hZ]
       simp [hG, List.getD_cons_zero, List.getD_cons_succ, -List.getD_eq_getElem?_getD, pureOp, preA_zero, hA, hB, hZ]
       refine hK _ ?_
       clear K hK
       refine zl 2 ?_ (h := by intro c K h; simp [hG, List.getD_cons_zero, List.getD_cons_succ, -List.getD_eq_getElem?_getD, pureOp, preA_zero, hA, hB, hZ]; first | exact z1 c h | exact ⟨.mk c, h⟩)
       refine zN ?_
       refine awpS_cond rfl (fun hb47 => ?_) (fun hb47 => ?_)
       · simp at hb47
       try simp [-List.getD_eq_getElem?_getD] at hb47
       refine zk (zn (zbn (zr ?_ (h := by intro c K h; simp [hG, List.getD_cons_zero, List.getD_cons_succ, -List.getD_eq_getElem?_getD, pureOp, preA_zero, hA, hB, hZ]; first | exact z1 c h | exact ⟨.mk c, h⟩))))
       refine zn ?_
       refine round_end ((i + 1, m2)) (⟨by omega, hm2⟩) (by omega) ?_
       refine wk_of (fun k => if k = 5 then 6 else k) (fun _ => false) (fun _ => false) ?_ ?_ rfl (by simp) (fun k hk => by first | exact ⟨rfl, rfl⟩ | (revert k; decide) | (obtain rfl : k = 0 := (by omega); exact ⟨rfl, rfl⟩) | (have hk2 : k = 0 ∨ k = 1 := (by omega); rcases hk2 with rfl | rfl <;> exact ⟨rfl, rfl⟩))
       · simp [hG, List.getD_cons_zero, List.getD_cons_succ, -List.getD_eq_getElem?_getD, pureOp, preA_zero, hA, hB, hZ]
       rw [hps]; simp [hG, List.getD_cons_zero, List.getD_cons_succ, -List.getD_eq_getElem?_getD]
     have hps := pre_not ((rdB0 hA hB).trans (by simpa using hZ))
     refine zL (zl 2 ?_ (h := by intro c K h; simp [hG, List.getD_cons_zero, List.getD_cons_succ, -List.getD_eq_getElem?_getD, pureOp, preA_zero, hA, hB, hZ]; first | exact z1 c h | exact ⟨.mk c, h⟩))
     refine zc cal27 (preW_c (c.ws.getD i []) w) ?_ (a := fun hg => by simp [hG, List.getD_cons_zero, List.getD_cons_succ, -List.getD_eq_getElem?_getD, pureOp, preA_zero, hA, hB, hZ]) (b := fun hg => by simp [hG, List.getD_cons_zero, List.getD_cons_succ, -List.getD_eq_getElem?_getD, pureOp, preA_zero, hA, hB, hZ]) (h := by intro K h; simp [hG, List.getD_cons_zero, List.getD_cons_succ, -List.getD_eq_getElem?_getD, pureOp, preA_zero, hA, hB, hZ]; exact h)
     refine zl 3 ?_ (h := by intro c K h; simp [hG, List.getD_cons_zero, List.getD_cons_succ, -List.getD_eq_getElem?_getD, pureOp, preA_zero, hA, hB, hZ]; first | exact z1 c h | exact ⟨.mk c, h⟩)
     refine zc cal27 (preW_c w (c.ws.getD i [])) ?_ (a := fun hg => by first | (simp [hG, List.getD_cons_zero, List.getD_cons_succ, -List.getD_eq_getElem?_getD, pureOp, preA_zero, hA, hB, hZ]; done) | (simp [-List.getD_eq_getElem?_getD] at hg; done) | (simp [-List.getD_eq_getElem?_getD] at hg; simp [hG, List.getD_cons_zero, List.getD_cons_succ, -List.getD_eq_getElem?_getD, pureOp, preA_zero, hA, hB, hZ]; first | omega | exact hg | (simp_all [-List.getD_eq_getElem?_getD]; done) | (simp_all [-List.getD_eq_getElem?_getD]; first | exact ⟨rfl, rfl⟩ | exact rfl))) (b := fun hg => by first | (simp [hG, List.getD_cons_zero, List.getD_cons_succ, -List.getD_eq_getElem?_getD, pureOp, preA_zero, hA, hB, hZ]; done) | (simp [-List.getD_eq_getElem?_getD] at hg; done) | (simp [-List.getD_eq_getElem?_getD] at hg; simp [hG, List.getD_cons_zero, List.getD_cons_succ, -List.getD_eq_getElem?_getD, pureOp, preA_zero, hA, hB, hZ]; first | omega | exact hg | (simp_all [-List.getD_eq_getElem?_getD]; done) | (simp_all [-List.getD_eq_getElem?_getD]; first | exact ⟨rfl, rfl⟩ | exact rfl))) (h := by intro K h; simp [hG, List.getD_cons_zero, List.getD_cons_succ, -List.getD_eq_getElem?_getD, pureOp, preA_zero, hA, hB, hZ]; exact h)
     refine zl 4 ?_ (h := by intro c K h; simp [hG, List.getD_cons_zero, List.getD_cons_succ, -List.getD_eq_getElem?_getD, pureOp, preA_zero, hA, hB, hZ]; first | exact z1 c h | exact ⟨.mk c, h⟩)
     refine awpL_fcg cal86 [2, 3, 4] (fun _ => false) (is_all hl hv hw (w.length - (c.ws.getD i []).length) (c.ws.getD i []).length m (by omega) hm) rfl rfl rfl rfl (by simp) (.inl fun _ => rfl) ?_ ?_ ?_ fun K hK m2 hI hno => ?_
     · simp [hG, List.getD_cons_zero, List.getD_cons_succ, -List.getD_eq_getElem?_getD, pureOp, preA_zero, hA, hB, hZ]
     · simp [hG, List.range'_succ, List.range'_zero, List.getD_cons_zero, List.getD_cons_succ, -List.getD_eq_getElem?_getD]
     · simp [hG, List.getD_cons_zero, List.getD_cons_succ, -List.getD_eq_getElem?_getD, pureOp, preA_zero, hA, hB, hZ]
     have hm2 := hI
     simp [hG, List.getD_cons_zero, List.getD_cons_succ, -List.getD_eq_getElem?_getD, pureOp, preA_zero, hA, hB, hZ]
     refine hK _ ?_
     clear K hK
     refine zl 5 ?_ (h := by intro c K h; simp [hG, List.getD_cons_zero, List.getD_cons_succ, -List.getD_eq_getElem?_getD, pureOp, preA_zero, hA, hB, hZ]; first | exact z1 c h | exact ⟨.mk c, h⟩)
     refine awpL_not (.bool true) rfl (fun K hK => ?_) (by intro c hc; cases hc)
     simp [hG, List.getD_cons_zero, List.getD_cons_succ, -List.getD_eq_getElem?_getD, pureOp, preA_zero, hA, hB, hZ]
     refine hK _ ?_
     clear K hK
     refine zl 2 ?_ (h := by intro c K h; simp [hG, List.getD_cons_zero, List.getD_cons_succ, -List.getD_eq_getElem?_getD, pureOp, preA_zero, hA, hB, hZ]; first | exact z1 c h | exact ⟨.mk c, h⟩)
     refine zN ?_
     refine awpS_cond rfl (fun hb47 => ?_) (fun hb47 => ?_)
     · simp at hb47
     try simp [-List.getD_eq_getElem?_getD] at hb47
     refine zk (zn (zbn (zr ?_ (h := by intro c K h; simp [hG, List.getD_cons_zero, List.getD_cons_succ, -List.getD_eq_getElem?_getD, pureOp, preA_zero, hA, hB, hZ]; first | exact z1 c h | exact ⟨.mk c, h⟩))))
     refine zn ?_
     refine round_end ((i + 1, m2)) (⟨by omega, hm2⟩) (by omega) ?_
     refine wk_of (id) (fun _ => false) (fun _ => false) ?_ ?_ rfl (by simp) (fun k hk => by first | exact ⟨rfl, rfl⟩ | (revert k; decide) | (obtain rfl : k = 0 := (by omega); exact ⟨rfl, rfl⟩) | (have hk2 : k = 0 ∨ k = 1 := (by omega); rcases hk2 with rfl | rfl <;> exact ⟨rfl, rfl⟩))
     · simp [hG, List.getD_cons_zero, List.getD_cons_succ, -List.getD_eq_getElem?_getD, pureOp, preA_zero, hA, hB, hZ]
     rw [hps]; simp [hG, List.getD_cons_zero, List.getD_cons_succ, -List.getD_eq_getElem?_getD]
   have hps := pre_not (rdN hA hB)
   refine zL (zl 2 ?_ (h := by intro c K h; simp [hG, List.getD_cons_zero, List.getD_cons_succ, -List.getD_eq_getElem?_getD, pureOp, preA_zero, hA, hB]; first | exact z1 c h | exact ⟨.mk c, h⟩))
   refine zc cal27 (preW_c (c.ws.getD i []) w) ?_ (a := fun hg => by simp [hG, List.getD_cons_zero, List.getD_cons_succ, -List.getD_eq_getElem?_getD, pureOp, preA_zero, hA, hB]) (b := fun hg => by simp [hG, List.getD_cons_zero, List.getD_cons_succ, -List.getD_eq_getElem?_getD, pureOp, preA_zero, hA, hB]) (h := by intro K h; simp [hG, List.getD_cons_zero, List.getD_cons_succ, -List.getD_eq_getElem?_getD, pureOp, preA_zero, hA, hB]; exact h)
   refine zl 3 ?_ (h := by intro c K h; simp [hG, List.getD_cons_zero, List.getD_cons_succ, -List.getD_eq_getElem?_getD, pureOp, preA_zero, hA, hB]; first | exact z1 c h | exact ⟨.mk c, h⟩)
   refine zc cal27 (preW_c w (c.ws.getD i [])) ?_ (a := fun hg => by first | (simp [hG, List.getD_cons_zero, List.getD_cons_succ, -List.getD_eq_getElem?_getD, pureOp, preA_zero, hA, hB]; done) | (simp [-List.getD_eq_getElem?_getD] at hg; done) | (simp [-List.getD_eq_getElem?_getD] at hg; simp [hG, List.getD_cons_zero, List.getD_cons_succ, -List.getD_eq_getElem?_getD, pureOp, preA_zero, hA, hB]; first | omega | exact hg | (simp_all [-List.getD_eq_getElem?_getD]; done) | (simp_all [-List.getD_eq_getElem?_getD]; first | exact ⟨rfl, rfl⟩ | exact rfl))) (b := fun hg => by first | (simp [hG, List.getD_cons_zero, List.getD_cons_succ, -List.getD_eq_getElem?_getD, pureOp, preA_zero, hA, hB]; done) | (simp [-List.getD_eq_getElem?_getD] at hg; done) | (simp [-List.getD_eq_getElem?_getD] at hg; simp [hG, List.getD_cons_zero, List.getD_cons_succ, -List.getD_eq_getElem?_getD, pureOp, preA_zero, hA, hB]; first | omega | exact hg | (simp_all [-List.getD_eq_getElem?_getD]; done) | (simp_all [-List.getD_eq_getElem?_getD]; first | exact ⟨rfl, rfl⟩ | exact rfl))) (h := by intro K h; simp [hG, List.getD_cons_zero, List.getD_cons_succ, -List.getD_eq_getElem?_getD, pureOp, preA_zero, hA, hB]; exact h)
   refine zl 4 ?_ (h := by intro c K h; simp [hG, List.getD_cons_zero, List.getD_cons_succ, -List.getD_eq_getElem?_getD, pureOp, preA_zero, hA, hB]; first | exact z1 c h | exact ⟨.mk c, h⟩)
   refine awpL_not (.bool true) rfl (fun K hK => ?_) (by intro c hc; cases hc)
   simp [hG, List.getD_cons_zero, List.getD_cons_succ, -List.getD_eq_getElem?_getD, pureOp, preA_zero, hA, hB]
   refine hK _ ?_
   clear K hK
   refine zl 5 ?_ (h := by intro c K h; simp [hG, List.getD_cons_zero, List.getD_cons_succ, -List.getD_eq_getElem?_getD, pureOp, preA_zero, hA, hB]; first | exact z1 c h | exact ⟨.mk c, h⟩)
   refine awpL_not (.bool true) rfl (fun K hK => ?_) (by intro c hc; cases hc)
   simp [hG, List.getD_cons_zero, List.getD_cons_succ, -List.getD_eq_getElem?_getD, pureOp, preA_zero, hA, hB]
   refine hK _ ?_
   clear K hK
   refine zl 2 ?_ (h := by intro c K h; simp [hG, List.getD_cons_zero, List.getD_cons_succ, -List.getD_eq_getElem?_getD, pureOp, preA_zero, hA, hB]; first | exact z1 c h | exact ⟨.mk c, h⟩)
   refine zN ?_
   refine awpS_cond rfl (fun hb47 => ?_) (fun hb47 => ?_)
   · simp at hb47
   try simp [-List.getD_eq_getElem?_getD] at hb47
   refine zk (zn (zbn (zr ?_ (h := by intro c K h; simp [hG, List.getD_cons_zero, List.getD_cons_succ, -List.getD_eq_getElem?_getD, pureOp, preA_zero, hA, hB]; first | exact z1 c h | exact ⟨.mk c, h⟩))))
   refine zn ?_
   refine round_end ((i + 1, m)) (⟨by omega, hm⟩) (by omega) ?_
   refine wk_of (id) (fun _ => false) (fun _ => false) ?_ ?_ rfl (by simp) (fun k hk => by first | exact ⟨rfl, rfl⟩ | (revert k; decide) | (obtain rfl : k = 0 := (by omega); exact ⟨rfl, rfl⟩) | (have hk2 : k = 0 ∨ k = 1 := (by omega); rcases hk2 with rfl | rfl <;> exact ⟨rfl, rfl⟩))
   · simp [hG, List.getD_cons_zero, List.getD_cons_succ, -List.getD_eq_getElem?_getD, pureOp, preA_zero, hA, hB]
   rw [hps]; simp [hG, List.getD_cons_zero, List.getD_cons_succ, -List.getD_eq_getElem?_getD]
 obtain rfl : i = c.ws.length := (by omega)
 refine zx (ztx (zbx (zn ?_)))
 refine RetF_of (()) (fun k => if k = 2 then 5 else k) (fun _ => false) (fun _ => false) trivial ?_ ?_ (by rfl) (by simp) (fun k hk => ⟨if_neg (by omega), rfl⟩)
 · simp [hG, List.getD_cons_zero, List.getD_cons_succ, -List.getD_eq_getElem?_getD, pureOp, preA_zero]
 simp [hG, List.getD_cons_zero, List.getD_cons_succ, -List.getD_eq_getElem?_getD]; exact ⟨rfl, Nat.le_refl _, fun _ _ => rfl⟩
set_option maxRecDepth 100000 in
theorem prefixes_c (c : Cd) (hl : c.ws.length ≤ maxLen) (w : List UInt8) : PC Try.prog 19 [.agg 2 (cdF c), .str w] (.tup 2 (fun j => [ints (pfL c w), .int .i64 (ckN c w)].getD j .any)) := by
 refine zp Try.func19 fun G hG hR => ?_
 refine zs (zrP ?_)
 refine zs (zs (zL (zlP 2 ?_)))
 refine zcP cal47 (checkW_c c hl w) ?_
 refine zlP 1 ?_
 refine zN (zs (zrP ?_))
 refine zy (fun hb13 => ?_) fun hb13 => ?_
 · refine zs (zrP ?_)
   refine zt ?_
   refine RetOK_of ?_
   simp [hG, List.getD_cons_zero, List.getD_cons_succ, -List.getD_eq_getElem?_getD, pureOp]
   unfold pfL; rw [if_neg hb13]
 have hck : ckN c w = 0 := (by simpa using hb13)
 have hw : w.length ≤ 1000000 := ck_len hck
 have hv := cd_ok (ck_code hck)
 refine zk (zs (zrP ?_))
 refine zs (zs (zL (zlP 2 ?_)))
 refine zcP cal48 (starts_c c w) ?_
 refine zN (zb ?_)
 refine awpS_wk (st2 := ⟨[(7, .ptr (0, 0) 0 0), (17, .fn 72 2 (fun j => [.vptr 2 (cdF c) 0, .vptr 1 (fun _ => .str w) 0].getD j .any))], [(0, .one (.arr 1 1 (fun _ _ => .sl (1, 0) 0 (([] : List Int)).length))), (1, .one (.arr (([] : List Int)).length 1 (fun p _ => .int .i64 ((([] : List Int)).getD p 0))))], 2⟩) ?_ ?_
 · exact zwP (fun k => if k = 0 then 1 else k + 5) (fun k => k == 0) (fun k => k == 1)
 refine awpS_range hR [7] [0, 1] (fun _ => false) cal72 rfl trivial (fun l rec vs hok => by rw [hG] at hok; exact startsP_c l rec vs hok c hl hv w hw) (by simp) (.inl fun _ => rfl) (fun l vs => ?_) ?_ fun K hK x hI hno => ?_
 · simp [hG, List.getD_cons_zero, List.getD_cons_succ, -List.getD_eq_getElem?_getD]; exact ⟨Clo.le _ (fun j hj => ⟨one_cdF, Clo_cdF⟩), Clo.le _ (fun j hj => ⟨rfl, trivial⟩), trivial⟩
 · simp [hG, List.getD_cons_zero, List.getD_cons_succ, -List.getD_eq_getElem?_getD, pureOp]
 simp [hG, List.getD_cons_zero, List.getD_cons_succ, -List.getD_eq_getElem?_getD, pureOp]
 refine hK _ ?_
 clear K hK
 refine zn (zbn (zs (zrP ?_)))
 refine zt ?_
 refine RetOK_of ?_
 simp [hG, List.getD_cons_zero, List.getD_cons_succ, -List.getD_eq_getElem?_getD, pureOp]
 unfold pfL; rw [if_pos hck, hck]; exact ⟨⟨rfl, Nat.le_refl _, fun _ _ => rfl⟩, rfl⟩
end Go.Proofs.Ytoafgeobhhlplaa
