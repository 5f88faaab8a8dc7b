/- Parts of the proof: YD. -/
import Derived.Test.YthpdkmoedpcboaaGreatPO15
import Derived.Test.YthpdkmoedpcboaaGreatPO39
import Derived.Test.YthpdkmoedpcboaaGreatPO40
namespace Go.Proofs.YthpdkmoedpcboaaGreat
set_option linter.unusedSimpArgs false
set_option linter.unusedVariables false
open Go Go.Lift Go.Proofs
theorem sortS_c (l : List (List UInt8)) (hl : l.length ≤ 1000000) :
    FC1 Tryz.prog 83 [.sl (0, 0) 0 l.length] [(0, .one (.arr l.length 1 (fun i _ => .str (l.getD i []))))] 1 .any [(0, .one (.arr l.length 1 (fun i _ => .str ((srtS l).getD i []))))] 1 := by
  rcases Nat.eq_zero_or_pos l.length with h | h
  · obtain rfl := List.length_eq_zero_iff.1 h
    have e : srtS [] = [] := List.length_eq_zero_iff.1 (by rw [srtS_len]; rfl)
    rw [e]
    exact sortS0_c
  · exact sortS_pos l h hl
theorem app_oneS {K : List (List UInt8)} {x : List UInt8} {w : Nat → Nat → AVal} {i : Nat} (hw : w 0 0 = .str x) (hi : i < K.length + 1) : app (fun p _ => .str (K.getD p [])) K.length w i 0 = .str ((K ++ [x]).getD i []) := by
  unfold app
  by_cases h : i < K.length
  · rw [if_pos h]; simp [List.getD, List.getElem?_append_left h]
  · obtain rfl : i = K.length := by omega
    rw [if_neg h, Nat.sub_self, hw]; simp [List.getD]
def ordS (m : List (List UInt8 × List Int)) (o : List Nat) : List (List UInt8) := o.map fun i => (m.getD i dp2).1
theorem ordS_nil {m : List (List UInt8 × List Int)} : ordS m [] = [] := rfl
theorem ordS_snoc {m : List (List UInt8 × List Int)} {o : List Nat} {i : Nat} : ordS m (o ++ [i]) = ordS m o ++ [(m.getD i dp2).1] := by simp [ordS]
theorem ordS_len {m : List (List UInt8 × List Int)} {o : List Nat} : (ordS m o).length = o.length := List.length_map ..
theorem ordS_perm {m : List (List UInt8 × List Int)} {o : List Nat} (h : o.Perm (List.range m.length)) : (ordS m o).Perm (m.map (·.1)) := by
  have := (getD_perm (d := dp2) h).map (·.1)
  rwa [List.map_map] at this
set_option maxRecDepth 100000 in
theorem appB_y (w : List UInt8) (K : List (List UInt8)) (hK : K.length ≤ 100000) {l : Nat} {rec : Loop} {vs : Array Value} (hok : RecOK rec [2] vs #[7] (rngA Tryz.f123.body 0) (rngB Tryz.f123.body 0) 13) : YC Tryz.prog l rec vs ([.str w] ++ [.ptr (0, 0) 0 0]) [(0, .one (.arr 1 1 (fun _ _ => .sl (1, 0) 0 (K).length))), (1, .one (.arr (K).length 1 (fun p _ => .str ((K).getD p []))))] 2 (fun _ : Unit => True) (fun _ : Unit => .bool true) (fun _ : Unit => [(0, .one (.arr 1 1 (fun _ _ => .sl (2, 0) 0 ((K ++ [w])).length))), (2, .one (.arr ((K ++ [w])).length 1 (fun p _ => .str (((K ++ [w])).getD p []))))]) (fun _ : Unit => 3) := by
 refine YC_introS hok rfl rfl (by simp [nobH, nobO]) rfl (by simp) rfl fun G hG hR => ?_
 show AwpS _ _ _ _ _ ⟨[(7, .str w), (2, .ptr (0, 0) 0 0)], [(0, .one (.arr 1 1 (fun _ _ => .sl (1, 0) 0 (K).length))), (1, .one (.arr (K).length 1 (fun p _ => .str ((K).getD p []))))], 2⟩
 refine zr ?_
 refine zn ?_
 refine ⟨rfl, fun G hG hR => ?_⟩
 refine zb (zr ?_)
 refine zn (zbn (zn ?_))
 refine ⟨rfl, RetY_of (()) (fun k => if k = 2 then 3 else k) (fun _ => false) (fun _ => false) trivial ?_ (by rfl) (by simp) (fun k hk => ⟨if_neg (by omega), rfl⟩)⟩
 simp [hG, List.getD_cons_zero, List.getD_cons_succ, -List.getD_eq_getElem?_getD]; exact fun i hi => app_oneS rfl hi
set_option maxRecDepth 100000 in
theorem keysIt_c (m : List (List UInt8 × List Int)) (hm : m.length ≤ 70000) (l : Nat) (rec : Loop) (vs : Array Value) (hok : RecOK rec [2] vs #[7] (rngA Tryz.f123.body 0) (rngB Tryz.f123.body 0) 13) : FCY Tryz.prog 84 l rec [.yld l vs 1 (fun j => [.ptr (0, 0) 0 0].getD j .any), .ptr (3, 0) 0 0] [(0, .one (.arr 1 1 (fun _ _ => .sl (1, 0) 0 (([] : List (List UInt8))).length))), (1, .one (.arr (([] : List (List UInt8))).length 1 (fun p _ => .str ((([] : List (List UInt8))).getD p [])))), (2, .one (.mp (mpE strK ints m))), (3, .one (.arr 1 1 (fun _ _ => .map (2, 0))))] 4 (fun o : List Nat => o.Perm (List.range m.length)) (fun o : List Nat => .any) (fun o : List Nat => [(0, .one (.arr 1 1 (fun _ _ => .sl (4, 0) 0 ((ordS m o)).length))), (4, .one (.arr ((ordS m o)).length 1 (fun p _ => .str (((ordS m o)).getD p [])))), (2, .one (.mp (mpE strK ints m))), (3, .one (.arr 1 1 (fun _ _ => .map (2, 0))))]) (fun o : List Nat => 5) := by
 refine FCY_introS T_ok (by simp [nobH, nobO]) Tryz.func84 rfl (by simp [Tryz.ntmps84]) fun G hG hR hrec => ?_
 simp only [Tryz.ntmps84, Tryz.results84] at hG ⊢
 simp only [argEnv, Nat.zero_add, Nat.reduceAdd]
 refine zs (zL (zl 1 ?_ (h := by intro c K h; simp [hG, List.getD_cons_zero, List.getD_cons_succ, -List.getD_eq_getElem?_getD, ordS_nil]; first | exact z1 c h | exact ⟨.mk c, h⟩)))
 refine awpL_range (id := (2, 0)) Tryz.underlying81 rfl rfl rfl rfl trivial fun K hK q hq => ?_
 simp [hG, List.getD_cons_zero, List.getD_cons_succ, -List.getD_eq_getElem?_getD, ordS_nil]
 refine hK _ ?_
 clear K hK
 refine zN (zb ?_)
 refine awpS_loop (α := List Nat × List Nat) (fun z => ⟨[(0, .yld l vs 1 (fun j => [.ptr (0, 0) 0 0].getD j .any)), (5, .ptr (5, 0) 0 0)], [(0, .one (.arr 1 1 (fun _ _ => .sl (4, 0) 0 ((ordS m z.1)).length))), (4, .one (.arr ((ordS m z.1)).length 1 (fun p _ => .str (((ordS m z.1)).getD p [])))), (2, .one (.mi q (mpE strK ints m))), (3, .one (.arr 1 1 (fun _ _ => .map (2, 0)))), (5, .one (.ob (itP q z.2 none)))], 6⟩) (fun z => (z.1 ++ z.2).Perm (List.range m.length)) (fun z => z.2.length) (([], List.range m.length)) (List.Perm.refl _) ?_ ?_
 · refine wk_of (fun k => if k = 4 then 1 else if k = 5 then 4 else k) (fun _ => false) (fun _ => false) ?_ ?_ rfl (by simp) (fun k hk => by first | exact ⟨rfl, rfl⟩ | (revert k; decide) | (obtain rfl : k = 0 := (by omega); exact ⟨rfl, rfl⟩) | (have hk2 : k = 0 ∨ k = 1 := (by omega); rcases hk2 with rfl | rfl <;> exact ⟨rfl, rfl⟩))
   · simp [hG, List.getD_cons_zero, List.getD_cons_succ, -List.getD_eq_getElem?_getD, ordS_nil]
   simp [hG, List.getD_cons_zero, List.getD_cons_succ, -List.getD_eq_getElem?_getD, ordS_nil]
 rintro ⟨done, left⟩ hz
 simp only at hz
 have hdl := done_len hz
 refine zs (zL ?_)
 refine awpL_next (id := (2, 0)) (by decide) rfl rfl rfl rfl rfl trivial fun K hK c hc => ?_
 simp [hG, List.getD_cons_zero, List.getD_cons_succ, -List.getD_eq_getElem?_getD, ordS_nil]
 refine hK _ ?_
 clear K hK
 refine zl 1 ?_ (h := by intro c K h; simp [hG, List.getD_cons_zero, List.getD_cons_succ, -List.getD_eq_getElem?_getD, ordS_nil]; first | exact z1 c h | exact ⟨.mk c, h⟩)
 refine zN (zs (zy (fun hb7 => ?_) fun hb7 => ?_))
 · rw [length_mpE] at hc
   obtain ⟨i, rfl, hil, hci⟩ := nx_some hc hb7
   have hst := left_step hz hil
   refine zk (zb (zs (zL ?_)))
   refine awpL_entry (id := (2, 0)) rfl rfl rfl rfl rfl trivial fun K hK => ?_; rw [enF_sl hci]
   simp [hG, List.getD_cons_zero, List.getD_cons_succ, -List.getD_eq_getElem?_getD, ordS_nil]
   refine hK _ ?_
   clear K hK
   refine zl 2 ?_ (h := by intro c K h; simp [hG, List.getD_cons_zero, List.getD_cons_succ, -List.getD_eq_getElem?_getD, ordS_nil]; first | exact z1 c h | exact ⟨.mk c, h⟩)
   refine zN (zs (zL (zl 2 ?_ (h := by intro c K h; simp [hG, List.getD_cons_zero, List.getD_cons_succ, -List.getD_eq_getElem?_getD, ordS_nil]; first | exact z1 c h | exact ⟨.mk c, h⟩))))
   refine awpL_yield hrec hR [0, 4] (fun _ => false) (appB_y (m.getD i dp2).1 (ordS m done) (by rw [ordS_len]; omega) hok) rfl (by rw [hok.params]; rfl) rfl rfl rfl (by simp) (.inl fun _ => rfl) ?_ ?_ ?_ fun K hK x hI hno => ?_
   · simp [hG, List.getD_cons_zero, List.getD_cons_succ, -List.getD_eq_getElem?_getD, ordS_nil]
   · simp [hG, List.getD_cons_zero, List.getD_cons_succ, -List.getD_eq_getElem?_getD]
   · simp [hG, List.getD_cons_zero, List.getD_cons_succ, -List.getD_eq_getElem?_getD, ordS_nil]
   simp [hG, List.getD_cons_zero, List.getD_cons_succ, -List.getD_eq_getElem?_getD, ordS_nil]
   refine hK _ ?_
   clear K hK
   refine zl 1 ?_ (h := by intro c K h; simp [hG, List.getD_cons_zero, List.getD_cons_succ, -List.getD_eq_getElem?_getD, ordS_nil]; first | exact z1 c h | exact ⟨.mk c, h⟩)
   refine zN ?_
   refine awpS_cond rfl (fun hb13 => ?_) (fun hb13 => ?_)
   · simp at hb13
   try simp [-List.getD_eq_getElem?_getD] at hb13
   refine zk (zn (zbn (zn ?_)))
   refine round_end ((done ++ [i], left.erase i)) (hst.1) (hst.2) ?_
   refine wk_of (fun k => if k = 4 then 6 else k) (fun _ => false) (fun _ => false) ?_ ?_ rfl (by simp) (fun k hk => by first | exact ⟨rfl, rfl⟩ | (revert k; decide) | (obtain rfl : k = 0 := (by omega); exact ⟨rfl, rfl⟩) | (have hk2 : k = 0 ∨ k = 1 := (by omega); rcases hk2 with rfl | rfl <;> exact ⟨rfl, rfl⟩))
   · simp [hG, List.getD_cons_zero, List.getD_cons_succ, -List.getD_eq_getElem?_getD, ordS_nil]
   rw [ordS_snoc]; simp [hG, List.getD_cons_zero, List.getD_cons_succ, -List.getD_eq_getElem?_getD]
 obtain rfl := nx_none hc (by simpa using hb7)
 rw [List.append_nil] at hz
 refine zx (ztx (zbx (zn ?_)))
 refine RetF_of (done) (id) (fun _ => false) (fun _ => false) hz ?_ ?_ (by rfl) (by simp) (fun k hk => ⟨rfl, rfl⟩)
 · simp [hG, List.getD_cons_zero, List.getD_cons_succ, -List.getD_eq_getElem?_getD, ordS_nil]
 simp [hG, List.getD_cons_zero, List.getD_cons_succ, -List.getD_eq_getElem?_getD]
set_option maxRecDepth 100000 in
theorem keys0_c (m : List (List UInt8 × List Int)) : FC1 Tryz.prog 50 [.map (0, 0)] [(0, .one (.mp (mpE strK ints m)))] 1 (.fn 84 1 (fun _ => .ptr (1, 0) 0 0)) [(0, .one (.mp (mpE strK ints m))), (1, .one (.arr 1 1 (fun _ _ => .map (0, 0))))] 2 := by
 refine FC_introS T_ok Tryz.func50 rfl (by simp [Tryz.ntmps50]) fun G hG hR => ?_
 simp only [Tryz.ntmps50, Tryz.results50] at hG ⊢
 simp only [argEnv, Nat.zero_add, Nat.reduceAdd]
 refine zs (zr ?_)
 refine zs (zr ?_)
 refine zt ?_
 refine RetF_of (()) (id) (fun _ => false) (fun _ => false) trivial ?_ ?_ (by rfl) (by simp) (fun k hk => ⟨rfl, rfl⟩)
 · simp [hG, List.getD_cons_zero, List.getD_cons_succ, -List.getD_eq_getElem?_getD]
 simp [hG, List.getD_cons_zero, List.getD_cons_succ, -List.getD_eq_getElem?_getD]
set_option maxRecDepth 100000 in
theorem appendSeq_c (m : List (List UInt8 × List Int)) (hm : m.length ≤ 70000) : FC Tryz.prog 123 [.nils, .fn 84 1 (fun _ => .ptr (1, 0) 0 0)] [(0, .one (.mp (mpE strK ints m))), (1, .one (.arr 1 1 (fun _ _ => .map (0, 0))))] 2 (fun o : List Nat => o.Perm (List.range m.length)) (fun o : List Nat => .sl (2, 0) 0 (ordS m o).length) (fun o : List Nat => [(0, .one (.mp (mpE strK ints m))), (1, .one (.arr 1 1 (fun _ _ => .map (0, 0)))), (2, .one (.arr ((ordS m o)).length 1 (fun p _ => .str (((ordS m o)).getD p []))))]) (fun o : List Nat => 3) := by
 refine FC_introS T_ok Tryz.func123 rfl (by simp [Tryz.ntmps123]) fun G hG hR => ?_
 simp only [Tryz.ntmps123, Tryz.results123] at hG ⊢
 simp only [argEnv, Nat.zero_add, Nat.reduceAdd]
 refine zs (zr ?_)
 refine zs (zs (zr ?_))
 refine zb ?_
 refine awpS_wk (st2 := ⟨[(2, .ptr (2, 0) 0 0), (6, .fn 84 1 (fun _ => .ptr (1, 0) 0 0))], [(0, .one (.mp (mpE strK ints m))), (1, .one (.arr 1 1 (fun _ _ => .map (0, 0)))), (2, .one (.arr 1 1 (fun _ _ => .sl (3, 0) 0 (([] : List (List UInt8))).length))), (3, .one (.arr (([] : List (List UInt8))).length 1 (fun p _ => .str ((([] : List (List UInt8))).getD p []))))], 4⟩) ?_ ?_
 · refine wk_of (id) (fun _ => false) (fun k => k == 3) ?_ ?_ rfl (by simp) (fun k hk => by first | exact ⟨rfl, rfl⟩ | (revert k; decide) | (obtain rfl : k = 0 := (by omega); exact ⟨rfl, rfl⟩) | (have hk2 : k = 0 ∨ k = 1 := (by omega); rcases hk2 with rfl | rfl <;> exact ⟨rfl, rfl⟩))
   · simp [hG, List.getD_cons_zero, List.getD_cons_succ, -List.getD_eq_getElem?_getD]
   simp [hG, List.getD_cons_zero, List.getD_cons_succ, -List.getD_eq_getElem?_getD]
 refine awpS_range hR [2] [2, 3, 0, 1] (fun _ => false) cal84 rfl trivial (fun l rec vs hok => by rw [hG] at hok; exact keysIt_c m hm l rec vs hok) (by simp) (.inl fun _ => rfl) (fun l vs => ?_) ?_ fun K hK o hI hno => ?_
 · simp [hG, List.getD_cons_zero, List.getD_cons_succ, -List.getD_eq_getElem?_getD]
 · simp [hG, List.getD_cons_zero, List.getD_cons_succ, -List.getD_eq_getElem?_getD]
 simp [hG, List.getD_cons_zero, List.getD_cons_succ, -List.getD_eq_getElem?_getD]
 refine hK _ ?_
 clear K hK
 refine zn (zbn (zs (zr ?_)))
 refine zt ?_
 refine RetF_of (o) (fun k => if k = 2 then 4 else k) (fun _ => false) (fun _ => false) hI ?_ ?_ (by rfl) (by simp) (fun k hk => ⟨if_neg (by omega), rfl⟩)
 · simp [hG, List.getD_cons_zero, List.getD_cons_succ, -List.getD_eq_getElem?_getD]
 simp [hG, List.getD_cons_zero, List.getD_cons_succ, -List.getD_eq_getElem?_getD]
set_option maxRecDepth 100000 in
theorem collect_c (m : List (List UInt8 × List Int)) (hm : m.length ≤ 70000) : FC Tryz.prog 82 [.fn 84 1 (fun _ => .ptr (1, 0) 0 0)] [(0, .one (.mp (mpE strK ints m))), (1, .one (.arr 1 1 (fun _ _ => .map (0, 0))))] 2 (fun o : List Nat => o.Perm (List.range m.length)) (fun o : List Nat => .sl (2, 0) 0 (ordS m o).length) (fun o : List Nat => [(0, .one (.mp (mpE strK ints m))), (1, .one (.arr 1 1 (fun _ _ => .map (0, 0)))), (2, .one (.arr ((ordS m o)).length 1 (fun p _ => .str (((ordS m o)).getD p []))))]) (fun o : List Nat => 3) := by
 refine FC_introS T_ok Tryz.func82 rfl (by simp [Tryz.ntmps82]) fun G hG hR => ?_
 simp only [Tryz.ntmps82, Tryz.results82] at hG ⊢
 simp only [argEnv, Nat.zero_add, Nat.reduceAdd]
 refine zs (zr ?_)
 refine zs (zL (zl 1 ?_))
 refine zf cal123 [0, 1] (appendSeq_c m hm) (fun o hI hno => ?_)
 have hperm := hI
 refine zl 1 ?_
 refine zN (zt ?_)
 refine RetF_of (o) (id) (fun _ => false) (fun _ => false) hperm ?_ ?_ (by rfl) (by simp) (fun k hk => ⟨rfl, rfl⟩)
 · simp [hG, List.getD_cons_zero, List.getD_cons_succ, -List.getD_eq_getElem?_getD]
 simp [hG, List.getD_cons_zero, List.getD_cons_succ, -List.getD_eq_getElem?_getD]
set_option maxRecDepth 100000 in
theorem sortedS_c (m : List (List UInt8 × List Int)) (hm : m.length ≤ 70000) : FC1 Tryz.prog 49 [.fn 84 1 (fun _ => .ptr (1, 0) 0 0)] [(0, .one (.mp (mpE strK ints m))), (1, .one (.arr 1 1 (fun _ _ => .map (0, 0))))] 2 (strs (srtS (m.map (·.1)))) [] 2 := by
 refine FC_introS T_ok Tryz.func49 rfl (by simp [Tryz.ntmps49]) fun G hG hR => ?_
 simp only [Tryz.ntmps49, Tryz.results49] at hG ⊢
 simp only [argEnv, Nat.zero_add, Nat.reduceAdd]
 refine zs (zr ?_)
 refine zs (zL (zl 1 ?_))
 refine awpL_fc cal82 [0, 1] (fun _ => false) (collect_c m hm) rfl rfl rfl (by simp) (.inl fun _ => rfl) ?_ ?_ ?_ fun K hK o hI hno => ?_
 · simp [hG, List.getD_cons_zero, List.getD_cons_succ, -List.getD_eq_getElem?_getD]
 · simp [hG, List.getD_cons_zero, List.getD_cons_succ, -List.getD_eq_getElem?_getD]
 · simp [hG, List.getD_cons_zero, List.getD_cons_succ, -List.getD_eq_getElem?_getD]
 have hperm := ordS_perm hI
 have hol := hperm.length_eq
 rw [List.length_map] at hol
 simp [hG, List.getD_cons_zero, List.getD_cons_succ, -List.getD_eq_getElem?_getD]
 refine hK _ ?_
 clear K hK
 refine zl 1 ?_
 refine zN (zs (zL (zl 1 ?_)))
 refine zf cal83 [2] (sortS_c (ordS m o) (by omega)) (fun x hI hno => ?_)
 refine zN (zs (zr ?_))
 refine zt ?_
 refine RetF_of (()) (id) (fun k => k == 2) (fun _ => false) trivial ?_ ?_ (by rfl) (by simp) (fun k hk => ⟨rfl, rfl⟩)
 · rw [srtS_eq hperm.symm]; simp [hG, List.getD_cons_zero, List.getD_cons_succ, -List.getD_eq_getElem?_getD]; exact ⟨srtS_len.symm, Nat.le_of_eq srtS_len⟩
 simp [hG, List.getD_cons_zero, List.getD_cons_succ, -List.getD_eq_getElem?_getD]
set_option maxRecDepth 100000 in
theorem words_c (g : Gr) (n : Nat) (hv : gcheck g = 0) (hlab : g.labels ≤ 3) (hn : n ≤ 5) : PC Tryz.prog 20 [.agg 3 (grF g), .int .i64 (n : Nat)] (.tup 2 (fun j => [strs (wordsL g n), .int .i64 0].getD j .any)) := by
 refine zp Tryz.func20 fun G hG hR => ?_
 refine zs (zr ?_)
 refine zs (zs (zL (zl 2 ?_)))
 refine zc cal46 (lengths_c g n hv (by omega) (by omega)) ?_
 refine zl 1 ?_
 refine zN (zs (zr ?_))
 refine awpS_cond rfl (fun hb13 => ?_) (fun hb13 => ?_)
 · simp at hb13
 try simp [-List.getD_eq_getElem?_getD] at hb13
 refine zk (zs ?_)
 refine awpS_draw hR mixed [] ⟨[], [], []⟩ fun mu0 => ?_
 refine za [0, 1, 3] [] 7 [3, 1, 0] ?_
 refine awpA_only (fuel := 6) (i := 2) (by decide +kernel) ?_
 refine ze cal48 (states_c g hv) ?_
 refine awpA_only (fuel := 5) (i := 4) (by decide +kernel) ?_
 refine awpO_fc cal47 [] (fun _ => false) (listW_c g (iotaL g.states.toNat) n hv SetOK.all hlab hn) rfl (.inr rfl) rfl rfl rfl (by simp) (.inl fun _ => rfl) ?_ ?_ ?_ fun K hK m hI hno => ?_
 · simp [hG, List.getD_cons_zero, List.getD_cons_succ, -List.getD_eq_getElem?_getD]
 · simp [hG, List.getD_cons_zero, List.getD_cons_succ, -List.getD_eq_getElem?_getD]
 · simp [hG, List.getD_cons_zero, List.getD_cons_succ, -List.getD_eq_getElem?_getD]
 have hm := hI
 have hkw : wordsL g n = srtS (m.map (·.1)) := (by unfold wordsL; rw [← wrdM_fst]; exact (srtS_eq (hm.map (·.1))).symm)
 have hml := m_len hlab hn hm
 have h243 : 3 ^ n ≤ 243 := (by rcases (show n = 0 ∨ n = 1 ∨ n = 2 ∨ n = 3 ∨ n = 4 ∨ n = 5 by omega) with rfl | rfl | rfl | rfl | rfl | rfl <;> decide)
 simp [hG, List.getD_cons_zero, List.getD_cons_succ, -List.getD_eq_getElem?_getD]
 refine hK _ ?_
 clear K hK
 refine za [5, 6, 7, 8, 9] [] 0 [9, 8, 7, 6, 5, 4, 2, 3, 1, 0] ?_
 refine awpA_done (by decide +kernel) ?_
 refine zs (zs (zr ?_))
 refine awpS_cond rfl (fun hb24 => ?_) (fun hb24 => ?_)
 · simp at hb24
 try simp [-List.getD_eq_getElem?_getD] at hb24
 refine zk (zs (zL (zl 1 ?_)))
 refine zf cal50 [1] (keys0_c m) (fun x hI hno => ?_)
 refine zf cal49 [1, 2] (sortedS_c m (by omega)) (fun x hI hno => ?_)
 refine zl 2 ?_
 refine zN (zt ?_)
 refine RetOK_of ?_
 simp [hG, List.getD_cons_zero, List.getD_cons_succ, -List.getD_eq_getElem?_getD]
 rw [hkw]; exact Clo.le _ Clo_strs
end Go.Proofs.YthpdkmoedpcboaaGreat
