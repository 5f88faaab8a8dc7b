/- Parts of the proof: VV. -/
import Derived.Test.YtoafgeobhhlplaaZC23
import Derived.Test.YtoafgeobhhlplaaZC35
import Derived.Test.YtoafgeobhhlplaaZC37
import Derived.Test.YtoafgeobhhlplaaZC45
import Derived.Test.YtoafgeobhhlplaaZC47
namespace Go.Proofs.Ytoafgeobhhlplaa
set_option linter.unusedSimpArgs false
set_option linter.unusedVariables false
open Go Go.Lift Go.Proofs
theorem dlD_pos {c : Cd} : 0 ≤ dlD c := by
  unfold dlD; split <;> omega
theorem dlB_ar {c : Cd} (h : dlB c = true) : arN c = 0 ∧ cdN c = 0 := by
  unfold dlB at h
  rw [Bool.and_eq_true, decide_eq_true_eq] at h
  exact ⟨if_pos h.1, h.1⟩
theorem wo_zero {c : Cd} (h : dlB c = true ∧ dlD c ≠ 0) (hd : dlD c ≤ 100) : bdN c (dlD c - 1) = arN c ∧ arN c = 0 := by
  obtain ⟨h1, h2⟩ := dlB_ar h.1
  have := dlD_pos (c := c)
  refine ⟨?_, h1⟩
  rw [h1]
  unfold bdN
  rw [if_neg (fun k => k h2), if_neg (by omega)]
theorem wo_no {c : Cd} (h : ¬ (dlB c = true ∧ dlD c ≠ 0)) : woW c = [] ∧ woB c = false := by
  unfold woW woB; rw [if_neg h, if_neg h]; exact ⟨rfl, rfl⟩
theorem wo_yes {c : Cd} (h : dlB c = true ∧ dlD c ≠ 0) : woW c = wsW c (dlD c - 1) ∧ woB c = wsB c (dlD c - 1) := by
  unfold woW woB; rw [if_pos h, if_pos h]; exact ⟨rfl, rfl⟩
set_option maxRecDepth 100000 in
theorem worst_c (c : Cd) (hl : c.ws.length ≤ maxLen) (hd : dlD c ≤ 100) : PC Try.prog 16 [.agg 2 (cdF c)] (.tup 3 (fun j => [.str (woW c), .bool (woB c), .int .i64 (arN c)].getD j .any)) := by
 have hML : maxLen = 9223372036854775807 := by decide
 have hdr := dlD_pos (c := c)
 refine zp Try.func16 fun G hG hR => ?_
 refine zs (zrP ?_)
 refine zs (zL (zlP 1 ?_))
 refine zcP cal12 (delay_c c hl) ?_
 refine zlP 7 ?_
 refine zN (zs (zs (zrP ?_)))
 refine zy (fun hb26 => ?_) fun hb26 => ?_
 · refine zs (zrP ?_)
   refine zt ?_
   refine RetOK_of ?_
   simp [hG, List.getD_cons_zero, List.getD_cons_succ, -List.getD_eq_getElem?_getD, pureOp]
   obtain ⟨h1, h2⟩ := wo_no (c := c) (fun k => by have := dlB_ar k.1; simp_all); rw [h1, h2]; simp
 refine zk (zs (zL (zlP 3 ?_)))
 refine zcP cal24 (witness_c c hl (dlD c - 1)) ?_
 refine zlP 11 ?_
 refine zN (zs (zrP ?_))
 refine zt ?_
 refine RetOK_of ?_
 simp [hG, List.getD_cons_zero, List.getD_cons_succ, -List.getD_eq_getElem?_getD, pureOp]
 have hy : dlB c = true ∧ dlD c ≠ 0 := (by simp_all); obtain ⟨h1, h2⟩ := wo_yes hy; obtain ⟨h3, h4⟩ := wo_zero hy hd; rw [h1, h2, h3]; first | exact ⟨rfl, rfl, rfl⟩ | exact ⟨rfl, rfl, h4⟩ | simp [h4]
end Go.Proofs.Ytoafgeobhhlplaa
