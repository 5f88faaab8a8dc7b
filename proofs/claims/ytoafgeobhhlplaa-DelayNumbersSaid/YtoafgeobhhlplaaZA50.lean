/- Law DelayNumbers of chapter 35: Delay, Bounded and Worst return the results of the reference for any code of the law's sizes and any number. No condition. -/
import Derived.Test.YtoafgeobhhlplaaRows
import Derived.Test.YtoafgeobhhlplaaZA11
import Derived.Test.YtoafgeobhhlplaaZA12
import Derived.Test.YtoafgeobhhlplaaZA20
import Derived.Test.YtoafgeobhhlplaaZA21
import Derived.Test.YtoafgeobhhlplaaZA32
import Derived.Test.YtoafgeobhhlplaaZA34
import Derived.Test.YtoafgeobhhlplaaZA49
namespace Go.Proofs.Ytoafgeobhhlplaa
set_option linter.unusedSimpArgs false
set_option linter.unusedVariables false
open Go Go.Lift Go.Proofs
theorem intsEq {a b : List Int} (h : a.length = b.length) (hn : ∀ j, j < a.length → a.getD j 0 = b.getD j 0) : a = b := by
  apply List.ext_getElem h
  intro i h1 h2
  have := hn i h1
  rwa [getD_get h1, getD_get h2] at this
def twoW : Wd := [48, 48, 48, 49, 48, 48, 49, 48]
theorem tw1 : dlD two = 2 := by unfold dlD; rw [if_pos two_ok, two_dl]; rfl
theorem tw2 : dlB two = true := by unfold dlB; rw [two_dl, decide_eq_true two_ok]; rfl
theorem tw3 : arN two = 0 := if_pos two_ok
theorem th1 : dlD thr = 0 := by unfold dlD; rw [if_pos thr_ok, thr_dl]; rfl
theorem th2 : dlB thr = false := by unfold dlB; rw [thr_dl, decide_eq_true thr_ok]; rfl
theorem th3 : arN thr = 0 := if_pos thr_ok
theorem tw_bd : bdN two 1 = 0 := by unfold bdN; rw [if_neg (fun k => k two_ok), if_neg (by omega)]
theorem tw4 : woW two = [48, 48] := by
  rw [(wo_yes ⟨tw2, by rw [tw1]; decide⟩).1, tw1]
  exact (ws_at (e := 1) tw_bd two_wt).1
theorem tw5 : woB two = true := by
  rw [(wo_yes ⟨tw2, by rw [tw1]; decide⟩).2, tw1]
  exact (ws_at (e := 1) tw_bd two_wt).2.2.2
theorem tw_ck : ckN two twoW = 0 := (if_neg (fun k => k two_ok)).trans two_ck
theorem tw6 : reN two 2 twoW = 0 := by unfold reN; rw [if_neg (fun k => k tw_ck), if_neg (by omega)]
theorem tw7 : reL two 2 twoW = [0, 1] := by unfold reL; rw [if_pos tw6]; exact congrArg Prod.fst two_re
theorem tw8 : reM two 2 twoW = 4 := by unfold reM; rw [if_pos tw6]; exact congrArg (fun p : List Int × Nat => ((p.2 : Nat) : Int)) two_re
set_option maxRecDepth 100000 in
theorem equalI_c (a b : List Int) (ha : a.length ≤ 1000000) : PC Try.prog 23 [ints a, ints b] (.bool (decide (a = b))) := by
 refine zp Try.func23 fun G hG hR => ?_
 refine zs (zr ?_)
 refine zs (zs (zr ?_))
 refine zy (fun hb10 => ?_) fun hb10 => ?_
 · refine zs (zr ?_)
   refine zt ?_
   refine RetOK_of ?_
   simp [hG, List.getD_cons_zero, List.getD_cons_succ, -List.getD_eq_getElem?_getD]
   intro h; rw [h] at hb10; omega
 refine zk (zs (zs (zr ?_)))
 refine zb ?_
 refine awpS_loop (α := Nat) (fun k => ⟨[(0, ints a), (1, ints b), (12, .int .i64 a.length), (13, .int .i64 k)], [], 0⟩) (fun k => a.length = b.length ∧ k ≤ a.length ∧ ∀ j, j < k → a.getD j 0 = b.getD j 0) (fun k => a.length - k) (0) (⟨by omega, Nat.zero_le _, fun j hj => absurd hj (Nat.not_lt_zero _)⟩) ?_ ?_
 · exact zi
 rintro k ⟨h3, hk, hn⟩
 refine zs (zr ?_)
 refine zs (zy (fun hb14 => ?_) fun hb14 => ?_)
 · refine zk (zs (zb (zs (zr ?_))))
   refine zs ?_
   refine awpS_draw hR mixed [] ⟨[], [], []⟩ fun mu0 => ?_
   refine za [0, 1, 2, 3, 4, 5, 6, 7, 8] [] 0 [8, 7, 6, 5, 4, 3, 2, 1, 0] ?_
   refine awpA_done (by decide +kernel) ?_
   refine zy (fun hb24 => ?_) fun hb24 => ?_
   · refine zs (zr ?_)
     refine zt (zbt (ztt (zbt ?_)))
     refine RetOK_of ?_
     simp [hG, List.getD_cons_zero, List.getD_cons_succ, -List.getD_eq_getElem?_getD]
     intro h; rw [h] at hb24; exact hb24 rfl
   refine zk (zn (zbn (zr ?_)))
   refine zn ?_
   refine round_end (k + 1) (⟨h3, by omega, step_all hn hb24⟩) (by omega) ?_
   exact zi
 refine zx (ztx (zbx (zs (zr ?_))))
 refine zt ?_
 refine RetOK_of ?_
 simp [hG, List.getD_cons_zero, List.getD_cons_succ, -List.getD_eq_getElem?_getD]
 exact intsEq h3 fun j hj => hn j (by omega)
set_option maxRecDepth 100000 in
set_option maxHeartbeats 1000000 in
theorem awake_c  : PC Try.prog 11 [] (.bool true) := by
 have hML : maxLen = 9223372036854775807 := by decide
 refine zp Try.func11 fun G hG hR => ?_
 refine zs (zr ?_ (h := by intro c K h; simp [hG, List.getD_cons_zero, List.getD_cons_succ, -List.getD_eq_getElem?_getD, pureOp, tw1, tw2, tw3, tw4, tw5, tw6, tw7, tw8, th1, th2, th3]; first | exact z1 c h | exact ⟨.mk c, h⟩))
 refine zs (zr ?_ (h := by intro c K h; simp [hG, List.getD_cons_zero, List.getD_cons_succ, -List.getD_eq_getElem?_getD, pureOp, tw1, tw2, tw3, tw4, tw5, tw6, tw7, tw8, th1, th2, th3]; first | exact z1 c h | exact ⟨.mk c, h⟩))
 refine zs ?_
 refine awpS_wk (st2 := ⟨[(1, .ptr (0, 0) 0 0)], [(0, .one (.arr 1 2 (fun _ => cdF two)))], 1⟩) ?_ ?_
 · exact zw (fun k => if k = 0 then 1 else k + 10) (fun k => k == 0) (fun _ => false) (e := by simp [hG, List.getD_cons_zero, List.getD_cons_succ, -List.getD_eq_getElem?_getD, pureOp, tw1, tw2, tw3, tw4, tw5, tw6, tw7, tw8, th1, th2, th3]) (h := by simp [hG, two,  pureOp, List.getD_cons_zero, List.getD_cons_succ, -List.getD_eq_getElem?_getD])
 refine zL (zl 1 ?_ (h := by intro c K h; simp [hG, List.getD_cons_zero, List.getD_cons_succ, -List.getD_eq_getElem?_getD, pureOp, tw1, tw2, tw3, tw4, tw5, tw6, tw7, tw8, th1, th2, th3]; first | exact z1 c h | exact ⟨.mk c, h⟩))
 refine zc cal12 (delay_c two (by decide)) ?_ (a := fun hg => by simp [hG, List.getD_cons_zero, List.getD_cons_succ, -List.getD_eq_getElem?_getD, pureOp, tw1, tw2, tw3, tw4, tw5, tw6, tw7, tw8, th1, th2, th3]) (b := fun hg => by simp [hG, List.getD_cons_zero, List.getD_cons_succ, -List.getD_eq_getElem?_getD, pureOp, tw1, tw2, tw3, tw4, tw5, tw6, tw7, tw8, th1, th2, th3]) (h := by intro K h; simp [hG, List.getD_cons_zero, List.getD_cons_succ, -List.getD_eq_getElem?_getD, pureOp, tw1, tw2, tw3, tw4, tw5, tw6, tw7, tw8, th1, th2, th3]; exact h)
 refine zl 7 ?_ (h := by intro c K h; simp [hG, List.getD_cons_zero, List.getD_cons_succ, -List.getD_eq_getElem?_getD, pureOp, tw1, tw2, tw3, tw4, tw5, tw6, tw7, tw8, th1, th2, th3]; first | exact z1 c h | exact ⟨.mk c, h⟩)
 refine zN (zs (zL (zl 1 ?_ (h := by intro c K h; simp [hG, List.getD_cons_zero, List.getD_cons_succ, -List.getD_eq_getElem?_getD, pureOp, tw1, tw2, tw3, tw4, tw5, tw6, tw7, tw8, th1, th2, th3]; first | exact z1 c h | exact ⟨.mk c, h⟩))))
 refine zc cal16 (worst_c two (by decide) (by rw [tw1]; decide)) ?_ (a := fun hg => by simp [hG, List.getD_cons_zero, List.getD_cons_succ, -List.getD_eq_getElem?_getD, pureOp, tw1, tw2, tw3, tw4, tw5, tw6, tw7, tw8, th1, th2, th3]) (b := fun hg => by simp [hG, List.getD_cons_zero, List.getD_cons_succ, -List.getD_eq_getElem?_getD, pureOp, tw1, tw2, tw3, tw4, tw5, tw6, tw7, tw8, th1, th2, th3]) (h := by intro K h; simp [hG, List.getD_cons_zero, List.getD_cons_succ, -List.getD_eq_getElem?_getD, pureOp, tw1, tw2, tw3, tw4, tw5, tw6, tw7, tw8, th1, th2, th3]; exact h)
 refine zl 7 ?_ (h := by intro c K h; simp [hG, List.getD_cons_zero, List.getD_cons_succ, -List.getD_eq_getElem?_getD, pureOp, tw1, tw2, tw3, tw4, tw5, tw6, tw7, tw8, th1, th2, th3]; first | exact z1 c h | exact ⟨.mk c, h⟩)
 refine zN (zs (zL (zl 1 ?_ (h := by intro c K h; simp [hG, List.getD_cons_zero, List.getD_cons_succ, -List.getD_eq_getElem?_getD, pureOp, tw1, tw2, tw3, tw4, tw5, tw6, tw7, tw8, th1, th2, th3]; first | exact z1 c h | exact ⟨.mk c, h⟩))))
 refine zc cal21 (read_c two (by decide) 2 twoW) ?_ (a := fun hg => by simp [hG, List.getD_cons_zero, List.getD_cons_succ, -List.getD_eq_getElem?_getD, pureOp, tw1, tw2, tw3, tw4, tw5, tw6, tw7, tw8, th1, th2, th3]) (b := fun hg => by simp [hG, List.getD_cons_zero, List.getD_cons_succ, -List.getD_eq_getElem?_getD]; rfl) (h := by intro K h; simp [hG, List.getD_cons_zero, List.getD_cons_succ, -List.getD_eq_getElem?_getD, pureOp, tw1, tw2, tw3, tw4, tw5, tw6, tw7, tw8, th1, th2, th3]; exact h)
 refine zl 7 ?_ (h := by intro c K h; simp [hG, List.getD_cons_zero, List.getD_cons_succ, -List.getD_eq_getElem?_getD, pureOp, tw1, tw2, tw3, tw4, tw5, tw6, tw7, tw8, th1, th2, th3]; first | exact z1 c h | exact ⟨.mk c, h⟩)
 refine zN (zs (zL (zl 2 ?_ (h := by intro c K h; simp [hG, List.getD_cons_zero, List.getD_cons_succ, -List.getD_eq_getElem?_getD, pureOp, tw1, tw2, tw3, tw4, tw5, tw6, tw7, tw8, th1, th2, th3]; first | exact z1 c h | exact ⟨.mk c, h⟩))))
 refine awpL_wk (st2 := ⟨[(2, .int .i64 2), (3, .bool true), (4, .int .i64 0), (5, .str [48, 48]), (6, .bool true), (7, .int .i64 0), (8, ints [0, 1]), (9, .int .i64 4), (10, .int .i64 0), (36, .agg 2 (cdF thr))], [], 0⟩) ?_ ?_
 · exact zw (id) (fun k => true) (fun _ => false) (e := by simp [hG, thr,  pureOp, List.getD_cons_zero, List.getD_cons_succ, -List.getD_eq_getElem?_getD]) (h := by simp [hG, List.getD_cons_zero, List.getD_cons_succ, -List.getD_eq_getElem?_getD, pureOp, tw1, tw2, tw3, tw4, tw5, tw6, tw7, tw8, th1, th2, th3])
 refine zc cal12 (delay_c thr (by decide)) ?_ (a := fun hg => by simp [hG, List.getD_cons_zero, List.getD_cons_succ, -List.getD_eq_getElem?_getD, pureOp, tw1, tw2, tw3, tw4, tw5, tw6, tw7, tw8, th1, th2, th3]) (b := fun hg => by simp [hG, List.getD_cons_zero, List.getD_cons_succ, -List.getD_eq_getElem?_getD, pureOp, tw1, tw2, tw3, tw4, tw5, tw6, tw7, tw8, th1, th2, th3]) (h := by intro K h; simp [hG, List.getD_cons_zero, List.getD_cons_succ, -List.getD_eq_getElem?_getD, pureOp, tw1, tw2, tw3, tw4, tw5, tw6, tw7, tw8, th1, th2, th3]; exact h)
 refine zl 7 ?_ (h := by intro c K h; simp [hG, List.getD_cons_zero, List.getD_cons_succ, -List.getD_eq_getElem?_getD, pureOp, tw1, tw2, tw3, tw4, tw5, tw6, tw7, tw8, th1, th2, th3]; first | exact z1 c h | exact ⟨.mk c, h⟩)
 refine zN (zs (zL (zl 23 ?_ (h := by intro c K h; simp [hG, List.getD_cons_zero, List.getD_cons_succ, -List.getD_eq_getElem?_getD, pureOp, tw1, tw2, tw3, tw4, tw5, tw6, tw7, tw8, th1, th2, th3]; first | exact z1 c h | exact ⟨.mk c, h⟩))))
 refine awpL_callB (mem [0]) cal23 (by simp [flat]) rfl rfl (fun _ => rfl) (fun hg => equalI_c [0, 1] [0, 1] (by decide)) (fun hg => ?_) (fun hg => ?_) fun K hK => ?_
 · first | (simp [hG, List.getD_cons_zero, List.getD_cons_succ, -List.getD_eq_getElem?_getD, pureOp, tw1, tw2, tw3, tw4, tw5, tw6, tw7, tw8, th1, th2, th3]; done) | (simp [-List.getD_eq_getElem?_getD] at hg; done) | (simp [-List.getD_eq_getElem?_getD] at hg; simp [hG, List.getD_cons_zero, List.getD_cons_succ, -List.getD_eq_getElem?_getD, pureOp, tw1, tw2, tw3, tw4, tw5, tw6, tw7, tw8, th1, th2, th3]; first | omega | exact hg | (simp_all [-List.getD_eq_getElem?_getD]; done) | (simp_all [-List.getD_eq_getElem?_getD]; first | exact ⟨rfl, rfl⟩ | exact rfl))
 · first | (simp [hG, List.getD_cons_zero, List.getD_cons_succ, -List.getD_eq_getElem?_getD, pureOp, tw1, tw2, tw3, tw4, tw5, tw6, tw7, tw8, th1, th2, th3]; done) | (simp [-List.getD_eq_getElem?_getD] at hg; done) | (simp [-List.getD_eq_getElem?_getD] at hg; simp [hG, List.getD_cons_zero, List.getD_cons_succ, -List.getD_eq_getElem?_getD, pureOp, tw1, tw2, tw3, tw4, tw5, tw6, tw7, tw8, th1, th2, th3]; first | omega | exact hg | (simp_all [-List.getD_eq_getElem?_getD]; done) | (simp_all [-List.getD_eq_getElem?_getD]; first | exact ⟨rfl, rfl⟩ | exact rfl))
 simp [hG, List.getD_cons_zero, List.getD_cons_succ, -List.getD_eq_getElem?_getD, pureOp, tw1, tw2, tw3, tw4, tw5, tw6, tw7, tw8, th1, th2, th3]
 refine hK _ ?_
 clear K hK
 refine zl 10 ?_ (h := by intro c K h; simp [hG, List.getD_cons_zero, List.getD_cons_succ, -List.getD_eq_getElem?_getD, pureOp, tw1, tw2, tw3, tw4, tw5, tw6, tw7, tw8, th1, th2, th3]; first | exact z1 c h | exact ⟨.mk c, h⟩)
 refine zN (zt ?_)
 refine RetOK_of ?_
 simp [hG, List.getD_cons_zero, List.getD_cons_succ, -List.getD_eq_getElem?_getD, pureOp, tw1, tw2, tw3, tw4, tw5, tw6, tw7, tw8, th1, th2, th3]
end Go.Proofs.Ytoafgeobhhlplaa
namespace Go.Proofs.Ytoafgeobhhlplaa
set_option linter.unusedSimpArgs false
set_option linter.unusedVariables false
open Go Go.Lift Go.Proofs
set_option maxRecDepth 100000 in
set_option maxHeartbeats 1000000 in
theorem numbersLaw_c (c : Cd) (hl : c.ws.length ≤ maxLen) (n : Int) : PC Try.prog 3 [.agg 2 (cdF c), .int .i64 n] (.bool true) := by
 refine zp Try.func3 fun G hG hR => ?_
 refine zs (zrP ?_)
 refine zs (zs (zL (zlP 1 ?_)))
 refine zcP cal10 (great_c c hl) ?_
 refine zN (zy (fun hb22 => ?_) fun hb22 => ?_)
 · refine zs (zL ?_)
   refine zcP cal11 awake_c ?_
   refine zlP 1 ?_
   refine zN (zt ?_)
   exact zRP
 refine zk (zs (zL (zlP 1 ?_)))
 refine zcP cal12 (delay_c c hl) ?_
 refine zlP 7 ?_
 refine zN (zs (zL (zlP 1 ?_)))
 refine zcP cal13 (refDelay_c c hl) ?_
 refine zlP 7 ?_
 refine zN (zs (zL (zlP 2 ?_)))
 refine zcP cal14 (bounded_c c hl n) ?_
 refine zlP 5 ?_
 refine zN (zs (zL (zlP 2 ?_)))
 refine zcP cal15 (refBounded_c c hl n) ?_
 refine zlP 5 ?_
 refine zN (zs (zs (zrP ?_)))
 refine awpS_cond rfl (fun hb70 => ?_) (fun hb70 => ?_)
 · simp at hb70
 try simp [-List.getD_eq_getElem?_getD] at hb70
 refine zk (zs (zs (zrP ?_)))
 refine zy (fun hb72 => ?_) fun hb72 => ?_
 · refine zs (zL ?_)
   refine zcP cal11 awake_c ?_
   refine zlP 1 ?_
   refine zN (zt ?_)
   exact zRP
 have hd10 : dlD c ≤ 100 := (by omega)
 refine zk (zs (zL (zlP 1 ?_)))
 refine zcP cal16 (worst_c c hl hd10) ?_
 refine zlP 7 ?_
 refine zN (zs (zL (zlP 1 ?_)))
 refine zcP cal17 (refWorst_c c hl hd10) ?_
 refine zlP 7 ?_
 refine zN (zs (zL (zlP 14 ?_)))
 refine zcP cal11 awake_c ?_
 refine zlP 2 ?_
 refine zN (zt ?_)
 exact zRP
end Go.Proofs.Ytoafgeobhhlplaa
namespace Go.Proofs.Ytoafgeobhhlplaa
set_option linter.unusedSimpArgs false
set_option linter.unusedVariables false
open Go Go.Lift Go.RowKit Go.ChangeShapes Go.WideShapes Go.ChangeAt
theorem Try.own : ownKnob Try.prog.godebug = none := by kernel_rfl
theorem Try.laidOut : laidOutB Try.prog = true := by kernel_rfl
theorem rqI : Reads Try.prog 3 1 (fun (n : Int) _ => .int .i64 n) (fun n => (Lit.int .i64 n).wf = true) := reads_int Try.underlying3 (by kernel_rfl)
theorem rqW : Reads Try.prog 9 1 (fun (s : List UInt8) _ => .str s) (fun s => s.length ≤ maxLen) := reads_string Try.underlying9 (by kernel_rfl)
theorem rqWs : Reads Try.prog 22 1 (fun (l : List (List UInt8)) _ => strs l) (fun l => l.length ≤ maxLen) :=
  (reads_slice [] Try.underlying22 (by kernel_rfl) (by decide) rqW).as id (fun _ _ _ => rfl) (fun _ h => h.1)
theorem rqC : Reads Try.prog 24 2 cdF (fun c => c.ws.length ≤ maxLen) :=
  (reads_struct (f := _) (I := _) Try.underlying24 (by kernel_rfl) (readsF_cons rfl rqI (readsF_cons rfl rqWs readsF_nil))).as (fun p => (⟨p.1, p.2.1⟩ : Cd)) (fun a j hj => by
    match j, hj with
    | 0, _ => rfl
    | 1, _ => rfl) (fun _ h => h.2.1)
end Go.Proofs.Ytoafgeobhhlplaa
namespace Go.Proofs.Ytoafgeobhhlplaa
set_option linter.unusedSimpArgs false
set_option linter.unusedVariables false
open Go Go.Lift Go.RowKit Go.ChangeShapes Go.WideShapes Go.ChangeAt
set_option maxRecDepth 100000 in
theorem numbersLaw_lifted (os : Os) (started : os.Started) (H : Type) (enc : TypeId × Value → H) :
    ReturnsInHanded {} Try.checked os 3 .any (Rows.delayNumbersSpec.pre6 enc Try.prog Try.f3 Rows.delayNumbersRow.domain false) (Rows.delayNumbersSpec.post enc Try.prog Try.f3 false true false false) := by
  refine returnsInHanded_of_change (C := Try.checked) Try.own started (by kernel_rfl) Try.func3
    (ChangeSpec.witness6 (enc := enc) (C := Try.checked) false ⟨#[], #[.agg #[.int .i64 0, .slice none 0 0], .int .i64 0], []⟩ 8 (by kernel_rfl) (by kernel_rfl) (by kernel_rfl) (by kernel_rfl)) ?_
  intro W base args ds gs before hval0 hW _ _
  have hval : ∀ (j : Nat) t v, Try.f3.params[j]? = some t → args[j]? = some v → Value.okWide Try.prog W .any base t v := hval0
  have hW' := hW
  obtain ⟨p, q, hA0, hV, rfl, _, _⟩ := hW
  have hA : DataW.TrodAll enc Try.prog W 0 (fun _ => true) true Try.f3.params.toList args.toList ds p := hA0
  rw [Try.params3] at hA hval
  obtain ⟨al, rfl⟩ : ∃ al : List Value, args = al.toArray := ⟨args.toList, by simp⟩
  simp only at hA
  obtain ⟨v0, al0, d0, ds0, p0, q0, rfl, rfl, rfl, h0, hA⟩ := trodAll_cons hA
  obtain ⟨v1, al1, d1, ds1, p1, q1, rfl, rfl, rfl, h1, hA⟩ := trodAll_cons hA
  obtain ⟨rfl, rfl, rfl⟩ := trodAll_nil hA
  obtain ⟨rfl, rfl⟩ := trodVars_none hV
  obtain ⟨x0, w0, r0⟩ := arg_struct Try.underlying24 rqC (hval 0 24 v0 rfl rfl) h0
  obtain ⟨x1, w1, r1⟩ := arg_int Try.underlying3 rqI (hval 1 3 v1 rfl rfl) h1
  refine (numbersLaw_c x0 w0 x1 (fun _ => False) W [v0, v1] (fun _ h => h.elim) ⟨r0, r1, trivial⟩).mono fun r W' ⟨v, hr, hk, hv⟩ => ?_
  subst hr
  have hv' : v = .bool true := hv
  subst hv'
  exact ⟨_, rfl, law_post Try.laidOut (by kernel_rfl) rfl rfl rfl Try.underlying4 hW' hk⟩
theorem numbersLaw_holds : Rows.DelayNumbersSaid :=
  OpenClaim.holds_of_wide 3 Try.f3 rfl rfl rfl rfl rfl rfl rfl ⟨rfl, rfl, rfl, rfl, rfl⟩ rfl rfl rfl rfl rfl (by kernel_rfl) Try.func3 (by kernel_rfl)
    (of_decide_eq_true (by kernel_rfl)) (by unfold Func.isWrapper; first | (rw [if_pos (by decide +kernel)]; kernel_rfl) | (rw [if_neg (by decide +kernel)]; exact ⟨rfl, rfl⟩))
    (fun os started H enc _ => numbersLaw_lifted os started H enc)
#print axioms numbersLaw_holds
end Go.Proofs.Ytoafgeobhhlplaa
