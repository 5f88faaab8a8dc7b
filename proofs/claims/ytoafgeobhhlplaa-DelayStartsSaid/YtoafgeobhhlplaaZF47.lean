/- Parts of the proof: VV VW. -/
import Derived.Test.YtoafgeobhhlplaaZF22
import Derived.Test.YtoafgeobhhlplaaZF34
import Derived.Test.YtoafgeobhhlplaaZF36
import Derived.Test.YtoafgeobhhlplaaZF44
import Derived.Test.YtoafgeobhhlplaaZF46
namespace Go.Proofs.Ytoafgeobhhlplaa
set_option linter.unusedSimpArgs false
set_option linter.unusedVariables false
open Go Go.Lift Go.Proofs
theorem dlD_pos {c : Cd} : 0 ≤ dlD c := by
  unfold dlD; split <;> omega
theorem dlB_ar {c : Cd} (h : dlB c = true) : arN c = 0 ∧ cdN c = 0 := by
  unfold dlB at h
  rw [Bool.and_eq_true, decide_eq_true_eq] at h
  exact ⟨if_pos h.1, h.1⟩
theorem wo_zero {c : Cd} (h : dlB c = true ∧ dlD c ≠ 0) (hd : dlD c ≤ 100) : bdN c (dlD c - 1) = arN c ∧ arN c = 0 := by
  obtain ⟨h1, h2⟩ := dlB_ar h.1
  have := dlD_pos (c := c)
  refine ⟨?_, h1⟩
  rw [h1]
  unfold bdN
  rw [if_neg (fun k => k h2), if_neg (by omega)]
theorem wo_no {c : Cd} (h : ¬ (dlB c = true ∧ dlD c ≠ 0)) : woW c = [] ∧ woB c = false := by
  unfold woW woB; rw [if_neg h, if_neg h]; exact ⟨rfl, rfl⟩
theorem wo_yes {c : Cd} (h : dlB c = true ∧ dlD c ≠ 0) : woW c = wsW c (dlD c - 1) ∧ woB c = wsB c (dlD c - 1) := by
  unfold woW woB; rw [if_pos h, if_pos h]; exact ⟨rfl, rfl⟩
set_option maxRecDepth 100000 in
theorem worst_c (c : Cd) (hl : c.ws.length ≤ maxLen) (hd : dlD c ≤ 100) : PC Try.prog 16 [.agg 2 (cdF c)] (.tup 3 (fun j => [.str (woW c), .bool (woB c), .int .i64 (arN c)].getD j .any)) := by
 have hML : maxLen = 9223372036854775807 := by decide
 have hdr := dlD_pos (c := c)
 refine zp Try.func16 fun G hG hR => ?_
 refine zs (zrP ?_)
 refine zs (zL (zlP 1 ?_))
 refine zcP cal12 (delay_c c hl) ?_
 refine zlP 7 ?_
 refine zN (zs (zs (zrP ?_)))
 refine zy (fun hb26 => ?_) fun hb26 => ?_
 · refine zs (zrP ?_)
   refine zt ?_
   refine RetOK_of ?_
   simp [hG, List.getD_cons_zero, List.getD_cons_succ, -List.getD_eq_getElem?_getD, pureOp]
   obtain ⟨h1, h2⟩ := wo_no (c := c) (fun k => by have := dlB_ar k.1; simp_all); rw [h1, h2]; simp
 refine zk (zs (zL (zlP 3 ?_)))
 refine zcP cal24 (witness_c c hl (dlD c - 1)) ?_
 refine zlP 11 ?_
 refine zN (zs (zrP ?_))
 refine zt ?_
 refine RetOK_of ?_
 simp [hG, List.getD_cons_zero, List.getD_cons_succ, -List.getD_eq_getElem?_getD, pureOp]
 have hy : dlB c = true ∧ dlD c ≠ 0 := (by simp_all); obtain ⟨h1, h2⟩ := wo_yes hy; obtain ⟨h3, h4⟩ := wo_zero hy hd; rw [h1, h2, h3]; first | exact ⟨rfl, rfl, rfl⟩ | exact ⟨rfl, rfl, h4⟩ | simp [h4]
end Go.Proofs.Ytoafgeobhhlplaa
namespace Go.Proofs.Ytoafgeobhhlplaa
set_option linter.unusedSimpArgs false
set_option linter.unusedVariables false
open Go Go.Lift Go.Proofs
theorem intsEq {a b : List Int} (h : a.length = b.length) (hn : ∀ j, j < a.length → a.getD j 0 = b.getD j 0) : a = b := by
  apply List.ext_getElem h
  intro i h1 h2
  have := hn i h1
  rwa [getD_get h1, getD_get h2] at this
def twoW : Wd := [48, 48, 48, 49, 48, 48, 49, 48]
theorem tw1 : dlD two = 2 := by unfold dlD; rw [if_pos two_ok, two_dl]; rfl
theorem tw2 : dlB two = true := by unfold dlB; rw [two_dl, decide_eq_true two_ok]; rfl
theorem tw3 : arN two = 0 := if_pos two_ok
theorem th1 : dlD thr = 0 := by unfold dlD; rw [if_pos thr_ok, thr_dl]; rfl
theorem th2 : dlB thr = false := by unfold dlB; rw [thr_dl, decide_eq_true thr_ok]; rfl
theorem th3 : arN thr = 0 := if_pos thr_ok
theorem tw_bd : bdN two 1 = 0 := by unfold bdN; rw [if_neg (fun k => k two_ok), if_neg (by omega)]
theorem tw4 : woW two = [48, 48] := by
  rw [(wo_yes ⟨tw2, by rw [tw1]; decide⟩).1, tw1]
  exact (ws_at (e := 1) tw_bd two_wt).1
theorem tw5 : woB two = true := by
  rw [(wo_yes ⟨tw2, by rw [tw1]; decide⟩).2, tw1]
  exact (ws_at (e := 1) tw_bd two_wt).2.2.2
theorem tw_ck : ckN two twoW = 0 := (if_neg (fun k => k two_ok)).trans two_ck
theorem tw6 : reN two 2 twoW = 0 := by unfold reN; rw [if_neg (fun k => k tw_ck), if_neg (by omega)]
theorem tw7 : reL two 2 twoW = [0, 1] := by unfold reL; rw [if_pos tw6]; exact congrArg Prod.fst two_re
theorem tw8 : reM two 2 twoW = 4 := by unfold reM; rw [if_pos tw6]; exact congrArg (fun p : List Int × Nat => ((p.2 : Nat) : Int)) two_re
set_option maxRecDepth 100000 in
theorem equalI_c (a b : List Int) (ha : a.length ≤ 1000000) : PC Try.prog 23 [ints a, ints b] (.bool (decide (a = b))) := by
 refine zp Try.func23 fun G hG hR => ?_
 refine zs (zr ?_)
 refine zs (zs (zr ?_))
 refine zy (fun hb10 => ?_) fun hb10 => ?_
 · refine zs (zr ?_)
   refine zt ?_
   refine RetOK_of ?_
   simp [hG, List.getD_cons_zero, List.getD_cons_succ, -List.getD_eq_getElem?_getD]
   intro h; rw [h] at hb10; omega
 refine zk (zs (zs (zr ?_)))
 refine zb ?_
 refine awpS_loop (α := Nat) (fun k => ⟨[(0, ints a), (1, ints b), (12, .int .i64 a.length), (13, .int .i64 k)], [], 0⟩) (fun k => a.length = b.length ∧ k ≤ a.length ∧ ∀ j, j < k → a.getD j 0 = b.getD j 0) (fun k => a.length - k) (0) (⟨by omega, Nat.zero_le _, fun j hj => absurd hj (Nat.not_lt_zero _)⟩) ?_ ?_
 · exact zi
 rintro k ⟨h3, hk, hn⟩
 refine zs (zr ?_)
 refine zs (zy (fun hb14 => ?_) fun hb14 => ?_)
 · refine zk (zs (zb (zs (zr ?_))))
   refine zs ?_
   refine awpS_draw hR mixed [] ⟨[], [], []⟩ fun mu0 => ?_
   refine za [0, 1, 2, 3, 4, 5, 6, 7, 8] [] 0 [8, 7, 6, 5, 4, 3, 2, 1, 0] ?_
   refine awpA_done (by decide +kernel) ?_
   refine zy (fun hb24 => ?_) fun hb24 => ?_
   · refine zs (zr ?_)
     refine zt (zbt (ztt (zbt ?_)))
     refine RetOK_of ?_
     simp [hG, List.getD_cons_zero, List.getD_cons_succ, -List.getD_eq_getElem?_getD]
     intro h; rw [h] at hb24; exact hb24 rfl
   refine zk (zn (zbn (zr ?_)))
   refine zn ?_
   refine round_end (k + 1) (⟨h3, by omega, step_all hn hb24⟩) (by omega) ?_
   exact zi
 refine zx (ztx (zbx (zs (zr ?_))))
 refine zt ?_
 refine RetOK_of ?_
 simp [hG, List.getD_cons_zero, List.getD_cons_succ, -List.getD_eq_getElem?_getD]
 exact intsEq h3 fun j hj => hn j (by omega)
set_option maxRecDepth 100000 in
theorem indexI_c (l : List Int) (v : Int) (hl : l.length ≤ 1000000) : PC Try.prog 56 [ints l, .int .i64 v] (.int .i64 (placeI l v)) := by
 refine zp Try.func56 fun G hG hR => ?_
 refine zs (zr ?_)
 refine zs (zs (zr ?_))
 refine zb ?_
 refine awpS_loop (α := Nat) (fun i => ⟨[(0, ints l), (1, .int .i64 v), (7, .int .i64 l.length), (8, .int .i64 i)], [], 0⟩) (fun i => i ≤ l.length ∧ ∀ j, j < i → l.getD j 0 ≠ v) (fun i => l.length - i) (0) (⟨Nat.zero_le _, fun j hj => absurd hj (Nat.not_lt_zero _)⟩) ?_ ?_
 · exact zi
 rintro i ⟨hi, hn⟩
 refine zs (zr ?_)
 refine zs (zy (fun hb9 => ?_) fun hb9 => ?_)
 · refine zk (zs (zb (zs (zr ?_))))
   refine zs (zr ?_)
   refine zy (fun hb16 => ?_) fun hb16 => ?_
   · refine zs (zr ?_)
     refine zt (zbt (ztt (zbt ?_)))
     refine RetOK_of ?_
     simp [hG, List.getD_cons_zero, List.getD_cons_succ, -List.getD_eq_getElem?_getD]
     exact (placeI_some l v i (by omega) hn hb16.symm).symm
   refine zk (zn (zbn (zr ?_)))
   refine zn ?_
   refine round_end (i + 1) (⟨by omega, step_all hn (fun h => hb16 h.symm)⟩) (by omega) ?_
   exact zi
 refine zx (ztx (zbx (zs (zr ?_))))
 refine zt ?_
 refine RetOK_of ?_
 simp [hG, List.getD_cons_zero, List.getD_cons_succ, -List.getD_eq_getElem?_getD]
 exact (placeI_none l v fun j hj => hn j (by omega)).symm
set_option maxRecDepth 100000 in
theorem containsI_c (l : List Int) (v : Int) (hl : l.length ≤ 1000000) : PC Try.prog 28 [ints l, .int .i64 v] (.bool (hasI l v)) := by
 refine zp Try.func28 fun G hG hR => ?_
 refine zs (zr ?_)
 refine zs (zL (zl 2 ?_))
 refine zc cal56 (indexI_c l v hl) ?_
 refine zl 2 ?_
 refine zN (zt ?_)
 refine RetOK_of ?_
 simp [hG, List.getD_cons_zero, List.getD_cons_succ, -List.getD_eq_getElem?_getD]
 rw [← hasI_place]
set_option maxRecDepth 100000 in
theorem lessI_c (a b : Int) : PC Try.prog 60 [.int .i64 a, .int .i64 b] (.bool (decide (a < b))) := by
 refine zp Try.func60 fun G hG hR => ?_
 refine zs (zrP ?_)
 refine zs (zL (zlP 1 ?_))
 refine zcP cal78 (nanI_c a) ?_
 refine zlP 2 ?_
 refine zcP cal78 (nanI_c b) ?_
 refine zlP 8 ?_
 refine zN (zt ?_)
 exact zRP
set_option maxRecDepth 100000 in
set_option maxHeartbeats 1000000 in
theorem awake_c  : PC Try.prog 11 [] (.bool true) := by
 have hML : maxLen = 9223372036854775807 := by decide
 refine zp Try.func11 fun G hG hR => ?_
 refine zs (zr ?_ (h := by intro c K h; simp [hG, List.getD_cons_zero, List.getD_cons_succ, -List.getD_eq_getElem?_getD, pureOp, tw1, tw2, tw3, tw4, tw5, tw6, tw7, tw8, th1, th2, th3]; first | exact z1 c h | exact ⟨.mk c, h⟩))
 refine zs (zr ?_ (h := by intro c K h; simp [hG, List.getD_cons_zero, List.getD_cons_succ, -List.getD_eq_getElem?_getD, pureOp, tw1, tw2, tw3, tw4, tw5, tw6, tw7, tw8, th1, th2, th3]; first | exact z1 c h | exact ⟨.mk c, h⟩))
 refine zs ?_
 refine awpS_wk (st2 := ⟨[(1, .ptr (0, 0) 0 0)], [(0, .one (.arr 1 2 (fun _ => cdF two)))], 1⟩) ?_ ?_
 · exact zw (fun k => if k = 0 then 1 else k + 10) (fun k => k == 0) (fun _ => false) (e := by simp [hG, List.getD_cons_zero, List.getD_cons_succ, -List.getD_eq_getElem?_getD, pureOp, tw1, tw2, tw3, tw4, tw5, tw6, tw7, tw8, th1, th2, th3]) (h := by simp [hG, two,  pureOp, List.getD_cons_zero, List.getD_cons_succ, -List.getD_eq_getElem?_getD])
 refine zL (zl 1 ?_ (h := by intro c K h; simp [hG, List.getD_cons_zero, List.getD_cons_succ, -List.getD_eq_getElem?_getD, pureOp, tw1, tw2, tw3, tw4, tw5, tw6, tw7, tw8, th1, th2, th3]; first | exact z1 c h | exact ⟨.mk c, h⟩))
 refine zc cal12 (delay_c two (by decide)) ?_ (a := fun hg => by simp [hG, List.getD_cons_zero, List.getD_cons_succ, -List.getD_eq_getElem?_getD, pureOp, tw1, tw2, tw3, tw4, tw5, tw6, tw7, tw8, th1, th2, th3]) (b := fun hg => by simp [hG, List.getD_cons_zero, List.getD_cons_succ, -List.getD_eq_getElem?_getD, pureOp, tw1, tw2, tw3, tw4, tw5, tw6, tw7, tw8, th1, th2, th3]) (h := by intro K h; simp [hG, List.getD_cons_zero, List.getD_cons_succ, -List.getD_eq_getElem?_getD, pureOp, tw1, tw2, tw3, tw4, tw5, tw6, tw7, tw8, th1, th2, th3]; exact h)
 refine zl 7 ?_ (h := by intro c K h; simp [hG, List.getD_cons_zero, List.getD_cons_succ, -List.getD_eq_getElem?_getD, pureOp, tw1, tw2, tw3, tw4, tw5, tw6, tw7, tw8, th1, th2, th3]; first | exact z1 c h | exact ⟨.mk c, h⟩)
 refine zN (zs (zL (zl 1 ?_ (h := by intro c K h; simp [hG, List.getD_cons_zero, List.getD_cons_succ, -List.getD_eq_getElem?_getD, pureOp, tw1, tw2, tw3, tw4, tw5, tw6, tw7, tw8, th1, th2, th3]; first | exact z1 c h | exact ⟨.mk c, h⟩))))
 refine zc cal16 (worst_c two (by decide) (by rw [tw1]; decide)) ?_ (a := fun hg => by simp [hG, List.getD_cons_zero, List.getD_cons_succ, -List.getD_eq_getElem?_getD, pureOp, tw1, tw2, tw3, tw4, tw5, tw6, tw7, tw8, th1, th2, th3]) (b := fun hg => by simp [hG, List.getD_cons_zero, List.getD_cons_succ, -List.getD_eq_getElem?_getD, pureOp, tw1, tw2, tw3, tw4, tw5, tw6, tw7, tw8, th1, th2, th3]) (h := by intro K h; simp [hG, List.getD_cons_zero, List.getD_cons_succ, -List.getD_eq_getElem?_getD, pureOp, tw1, tw2, tw3, tw4, tw5, tw6, tw7, tw8, th1, th2, th3]; exact h)
 refine zl 7 ?_ (h := by intro c K h; simp [hG, List.getD_cons_zero, List.getD_cons_succ, -List.getD_eq_getElem?_getD, pureOp, tw1, tw2, tw3, tw4, tw5, tw6, tw7, tw8, th1, th2, th3]; first | exact z1 c h | exact ⟨.mk c, h⟩)
 refine zN (zs (zL (zl 1 ?_ (h := by intro c K h; simp [hG, List.getD_cons_zero, List.getD_cons_succ, -List.getD_eq_getElem?_getD, pureOp, tw1, tw2, tw3, tw4, tw5, tw6, tw7, tw8, th1, th2, th3]; first | exact z1 c h | exact ⟨.mk c, h⟩))))
 refine zc cal21 (read_c two (by decide) 2 twoW) ?_ (a := fun hg => by simp [hG, List.getD_cons_zero, List.getD_cons_succ, -List.getD_eq_getElem?_getD, pureOp, tw1, tw2, tw3, tw4, tw5, tw6, tw7, tw8, th1, th2, th3]) (b := fun hg => by simp [hG, List.getD_cons_zero, List.getD_cons_succ, -List.getD_eq_getElem?_getD]; rfl) (h := by intro K h; simp [hG, List.getD_cons_zero, List.getD_cons_succ, -List.getD_eq_getElem?_getD, pureOp, tw1, tw2, tw3, tw4, tw5, tw6, tw7, tw8, th1, th2, th3]; exact h)
 refine zl 7 ?_ (h := by intro c K h; simp [hG, List.getD_cons_zero, List.getD_cons_succ, -List.getD_eq_getElem?_getD, pureOp, tw1, tw2, tw3, tw4, tw5, tw6, tw7, tw8, th1, th2, th3]; first | exact z1 c h | exact ⟨.mk c, h⟩)
 refine zN (zs (zL (zl 2 ?_ (h := by intro c K h; simp [hG, List.getD_cons_zero, List.getD_cons_succ, -List.getD_eq_getElem?_getD, pureOp, tw1, tw2, tw3, tw4, tw5, tw6, tw7, tw8, th1, th2, th3]; first | exact z1 c h | exact ⟨.mk c, h⟩))))
 refine awpL_wk (st2 := ⟨[(2, .int .i64 2), (3, .bool true), (4, .int .i64 0), (5, .str [48, 48]), (6, .bool true), (7, .int .i64 0), (8, ints [0, 1]), (9, .int .i64 4), (10, .int .i64 0), (36, .agg 2 (cdF thr))], [], 0⟩) ?_ ?_
 · exact zw (id) (fun k => true) (fun _ => false) (e := by simp [hG, thr,  pureOp, List.getD_cons_zero, List.getD_cons_succ, -List.getD_eq_getElem?_getD]) (h := by simp [hG, List.getD_cons_zero, List.getD_cons_succ, -List.getD_eq_getElem?_getD, pureOp, tw1, tw2, tw3, tw4, tw5, tw6, tw7, tw8, th1, th2, th3])
 refine zc cal12 (delay_c thr (by decide)) ?_ (a := fun hg => by simp [hG, List.getD_cons_zero, List.getD_cons_succ, -List.getD_eq_getElem?_getD, pureOp, tw1, tw2, tw3, tw4, tw5, tw6, tw7, tw8, th1, th2, th3]) (b := fun hg => by simp [hG, List.getD_cons_zero, List.getD_cons_succ, -List.getD_eq_getElem?_getD, pureOp, tw1, tw2, tw3, tw4, tw5, tw6, tw7, tw8, th1, th2, th3]) (h := by intro K h; simp [hG, List.getD_cons_zero, List.getD_cons_succ, -List.getD_eq_getElem?_getD, pureOp, tw1, tw2, tw3, tw4, tw5, tw6, tw7, tw8, th1, th2, th3]; exact h)
 refine zl 7 ?_ (h := by intro c K h; simp [hG, List.getD_cons_zero, List.getD_cons_succ, -List.getD_eq_getElem?_getD, pureOp, tw1, tw2, tw3, tw4, tw5, tw6, tw7, tw8, th1, th2, th3]; first | exact z1 c h | exact ⟨.mk c, h⟩)
 refine zN (zs (zL (zl 23 ?_ (h := by intro c K h; simp [hG, List.getD_cons_zero, List.getD_cons_succ, -List.getD_eq_getElem?_getD, pureOp, tw1, tw2, tw3, tw4, tw5, tw6, tw7, tw8, th1, th2, th3]; first | exact z1 c h | exact ⟨.mk c, h⟩))))
 refine awpL_callB (mem [0]) cal23 (by simp [flat]) rfl rfl (fun _ => rfl) (fun hg => equalI_c [0, 1] [0, 1] (by decide)) (fun hg => ?_) (fun hg => ?_) fun K hK => ?_
 · first | (simp [hG, List.getD_cons_zero, List.getD_cons_succ, -List.getD_eq_getElem?_getD, pureOp, tw1, tw2, tw3, tw4, tw5, tw6, tw7, tw8, th1, th2, th3]; done) | (simp [-List.getD_eq_getElem?_getD] at hg; done) | (simp [-List.getD_eq_getElem?_getD] at hg; simp [hG, List.getD_cons_zero, List.getD_cons_succ, -List.getD_eq_getElem?_getD, pureOp, tw1, tw2, tw3, tw4, tw5, tw6, tw7, tw8, th1, th2, th3]; first | omega | exact hg | (simp_all [-List.getD_eq_getElem?_getD]; done) | (simp_all [-List.getD_eq_getElem?_getD]; first | exact ⟨rfl, rfl⟩ | exact rfl))
 · first | (simp [hG, List.getD_cons_zero, List.getD_cons_succ, -List.getD_eq_getElem?_getD, pureOp, tw1, tw2, tw3, tw4, tw5, tw6, tw7, tw8, th1, th2, th3]; done) | (simp [-List.getD_eq_getElem?_getD] at hg; done) | (simp [-List.getD_eq_getElem?_getD] at hg; simp [hG, List.getD_cons_zero, List.getD_cons_succ, -List.getD_eq_getElem?_getD, pureOp, tw1, tw2, tw3, tw4, tw5, tw6, tw7, tw8, th1, th2, th3]; first | omega | exact hg | (simp_all [-List.getD_eq_getElem?_getD]; done) | (simp_all [-List.getD_eq_getElem?_getD]; first | exact ⟨rfl, rfl⟩ | exact rfl))
 simp [hG, List.getD_cons_zero, List.getD_cons_succ, -List.getD_eq_getElem?_getD, pureOp, tw1, tw2, tw3, tw4, tw5, tw6, tw7, tw8, th1, th2, th3]
 refine hK _ ?_
 clear K hK
 refine zl 10 ?_ (h := by intro c K h; simp [hG, List.getD_cons_zero, List.getD_cons_succ, -List.getD_eq_getElem?_getD, pureOp, tw1, tw2, tw3, tw4, tw5, tw6, tw7, tw8, th1, th2, th3]; first | exact z1 c h | exact ⟨.mk c, h⟩)
 refine zN (zt ?_)
 refine RetOK_of ?_
 simp [hG, List.getD_cons_zero, List.getD_cons_succ, -List.getD_eq_getElem?_getD, pureOp, tw1, tw2, tw3, tw4, tw5, tw6, tw7, tw8, th1, th2, th3]
end Go.Proofs.Ytoafgeobhhlplaa
