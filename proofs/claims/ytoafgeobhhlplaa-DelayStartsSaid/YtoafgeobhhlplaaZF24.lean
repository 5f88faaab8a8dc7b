/- Parts of the proof: VB. -/
import Derived.Test.YtoafgeobhhlplaaZF22
import Derived.Test.YtoafgeobhhlplaaZF23
namespace Go.Proofs.Ytoafgeobhhlplaa
set_option linter.unusedSimpArgs false
set_option linter.unusedVariables false
open Go Go.Lift Go.Proofs
theorem orL_hit {l : List Int} {k : Nat} (hk : k < l.length) (hn : ∀ j, j < k → l.getD j 0 = 0) (h : ¬ l.getD k 0 = 0) : orL l = l.getD k 0 := by
  have e : (l.find? fun x => decide (x ≠ 0)) = some (l.getD k 0) := by
    rw [List.find?_eq_some_iff_getElem]
    refine ⟨by simpa using h, k, hk, (getD_get hk).symm, fun j hj => ?_⟩
    have := hn j hj
    rw [getD_get (show j < l.length by omega)] at this
    simp [this]
  unfold orL; rw [e]; rfl
theorem orL_none {l : List Int} (hn : ∀ j, j < l.length → l.getD j 0 = 0) : orL l = 0 := by
  have e : (l.find? fun x => decide (x ≠ 0)) = none := by
    rw [List.find?_eq_none]
    intro x hx
    obtain ⟨j, hj, rfl⟩ := List.mem_iff_getElem.1 hx
    have := hn j hj
    rw [getD_get hj] at this
    simp [this]
  unfold orL; rw [e]; rfl
theorem preS_eq {s p : List UInt8} : (decide (p.length ≤ s.length) && decide (s.take p.length = p)) = decide (p <+: s) := by
  rw [Bool.eq_iff_iff, Bool.and_eq_true, decide_eq_true_eq, decide_eq_true_eq, decide_eq_true_eq, List.prefix_iff_eq_take]
  constructor
  · rintro ⟨_, h⟩; exact h.symm
  · intro h
    refine ⟨?_, h.symm⟩
    have := congrArg List.length h
    rw [List.length_take] at this
    omega
set_option maxRecDepth 100000 in
theorem orI_c (l : List Int) (hl : l.length ≤ 1000) : PC Try.prog 83 [ints l] (.int .i64 (orL l)) := by
 refine zp Try.func83 fun G hG hR => ?_
 refine zs (zr ?_)
 refine zs (zr ?_)
 refine zs (zs (zr ?_))
 refine zb ?_
 refine awpS_loop (α := Nat) (fun k => ⟨[(3, .int .i64 0), (6, ints l), (7, .int .i64 l.length), (8, .int .i64 (k : Nat))], [], 0⟩) (fun k => k ≤ l.length ∧ ∀ j, j < k → l.getD j 0 = 0) (fun k => l.length - k) (0) (⟨Nat.zero_le _, fun j hj => absurd hj (Nat.not_lt_zero _)⟩) ?_ ?_
 · exact zi
 rintro k ⟨hk, hn⟩
 refine zs (zr ?_)
 refine zs (zy (fun hb9 => ?_) fun hb9 => ?_)
 · refine zk (zs (zb (zs (zr ?_))))
   refine zs (zr ?_)
   refine zy (fun hb14 => ?_) fun hb14 => ?_
   · refine zs (zr ?_)
     refine zt (zbt (ztt (zbt ?_)))
     refine RetOK_of ?_
     simp [hG, List.getD_cons_zero, List.getD_cons_succ, -List.getD_eq_getElem?_getD]
     exact (orL_hit (by omega) hn hb14).symm
   refine zk (zn (zbn (zr ?_)))
   refine zn ?_
   refine round_end (k + 1) (⟨by omega, step_all hn hb14⟩) (by omega) ?_
   exact zi
 refine zx (ztx (zbx (zs (zr ?_))))
 refine zt ?_
 refine RetOK_of ?_
 simp [hG, List.getD_cons_zero, List.getD_cons_succ, -List.getD_eq_getElem?_getD]
 exact (orL_none fun j hj => hn j (by omega)).symm
set_option maxRecDepth 100000 in
theorem before_c (a b : List UInt8) (ha : a.length ≤ 1000000) (hb : b.length ≤ 1000000) : PC Try.prog 65 [.str a, .str b] (.int .i64 (orL [if a.length < b.length then -1 else if b.length < a.length then 1 else 0, cmpS a b])) := by
 refine zp Try.func65 fun G hG hR => ?_
 refine zs (zr ?_)
 refine zs (zL (zl 4 ?_))
 refine zc cal84 (cmpI_c (a.length : Int) (b.length : Int)) ?_
 refine zl 2 ?_
 refine zc cal85 (cmpW_c a b) ?_
 refine zl 1 ?_
 refine awpL_callB (mem [0]) cal83 (by simp [flat]) rfl rfl (fun _ => rfl) (fun hg => orI_c [if a.length < b.length then -1 else if b.length < a.length then 1 else 0, cmpS a b] (by simp)) (fun hg => ?_) (fun hg => ?_) fun K hK => ?_
 · simp [hG, List.getD_cons_zero, List.getD_cons_succ, -List.getD_eq_getElem?_getD]
 · simp [hG, List.getD_cons_zero, List.getD_cons_succ, -List.getD_eq_getElem?_getD]
 simp [hG, List.getD_cons_zero, List.getD_cons_succ, -List.getD_eq_getElem?_getD]
 refine hK _ ?_
 clear K hK
 refine zl 1 ?_
 refine zN (zt ?_)
 exact zR
set_option maxRecDepth 100000 in
theorem preS_c (s p : List UInt8) : PC Try.prog 55 [.str s, .str p] (.bool (decide (p <+: s))) := by
 refine zp Try.func55 fun G hG hR => ?_
 refine zs (zrP ?_)
 refine zs (zrP ?_)
 refine zt ?_
 refine RetOK_of ?_
 simp [hG, List.getD_cons_zero, List.getD_cons_succ, -List.getD_eq_getElem?_getD, pureOp]
 exact preS_eq
set_option maxRecDepth 100000 in
theorem preW_c (s p : List UInt8) : PC Try.prog 27 [.str s, .str p] (.bool (decide (p <+: s))) := by
 refine zp Try.func27 fun G hG hR => ?_
 refine zs (zr ?_)
 refine zs (zL (zl 2 ?_))
 refine zc cal55 (preS_c s p) ?_
 refine zl 1 ?_
 refine zN (zt ?_)
 exact zR
set_option maxRecDepth 100000 in
theorem check_c (c : Cd) (hl : c.ws.length ≤ maxLen) : PC Try.prog 38 [.agg 2 (cdF c)] (.int .i64 (cdN c)) := by
 have hML : maxLen = 9223372036854775807 := by decide
 refine zp Try.func38 fun G hG hR => ?_
 refine zs (zrP ?_)
 refine zs (zb (zs (zrP ?_)))
 refine zy (fun hb5 => ?_) fun hb5 => ?_
 · refine zs (zrP ?_)
   refine zt (zbt ?_)
   refine RetOK_of ?_
   simp [hG, List.getD_cons_zero, List.getD_cons_succ, -List.getD_eq_getElem?_getD, pureOp]
   exact (cd_1 (by omega)).symm
 have hq : 2 ≤ c.q ∧ c.q ≤ 16 := (by omega)
 refine zs (zrP ?_)
 refine zy (fun hb14 => ?_) fun hb14 => ?_
 · refine zs (zrP ?_)
   refine zt (zbt ?_)
   refine RetOK_of ?_
   simp [hG, List.getD_cons_zero, List.getD_cons_succ, -List.getD_eq_getElem?_getD, pureOp]
   exact (cd_2 hq (by rw [hb14]; rfl)).symm
 have h0 : c.ws.length ≠ 0 := (fun h => hb14 (List.length_eq_zero_iff.1 h))
 refine zs (zrP ?_)
 refine zy (fun hb19 => ?_) fun hb19 => ?_
 · refine zs (zrP ?_)
   refine zt (zbt ?_)
   refine RetOK_of ?_
   simp [hG, List.getD_cons_zero, List.getD_cons_succ, -List.getD_eq_getElem?_getD, pureOp]
   exact (cd_3 hq (by omega)).symm
 have h64 : c.ws.length ≤ 64 := (by omega)
 refine zk (zn (zbn (zs (zs (zrP ?_)))))
 refine zb ?_
 refine awpS_loop (α := Nat) (fun i => ⟨[(1, .ptr (0, 0) 0 0), (25, strs c.ws), (26, .int .i64 c.ws.length), (27, .int .i64 (i : Nat))], [(0, .one (.arr 1 2 (fun _ => cdF c)))], 1⟩) (fun i => i ≤ c.ws.length ∧ ∀ j, j < i → cdE c j = 0) (fun i => c.ws.length - i) (0) (⟨Nat.zero_le _, fun j hj => absurd hj (Nat.not_lt_zero _)⟩) ?_ ?_
 · exact ziP
 rintro i ⟨hi, hn⟩
 refine zs (zrP ?_)
 refine zs (zy (fun hb28 => ?_) fun hb28 => ?_)
 · have hil : i < c.ws.length := (by omega)
   refine zk (zs (zb (zs (zrP ?_))))
   refine zb (zs (zrP ?_))
   refine zy (fun hb32 => ?_) fun hb32 => ?_
   · refine zs (zrP ?_)
     refine zt (zbt (zbt (ztt (zbt ?_))))
     refine RetOK_of ?_
     simp [hG, List.getD_cons_zero, List.getD_cons_succ, -List.getD_eq_getElem?_getD, pureOp]
     have hE := cdE_1 (c := c) (i := i) (by rw [hb32]; rfl); rw [cd_4 hq h0 h64 hil hn (by rw [hE]; decide), hE]
   have hne : (c.ws.getD i []).length ≠ 0 := (fun h => hb32 (List.length_eq_zero_iff.1 h))
   refine zs (zrP ?_)
   refine zy (fun hb35 => ?_) fun hb35 => ?_
   · refine zs (zrP ?_)
     refine zt (zbt (zbt (ztt (zbt ?_))))
     refine RetOK_of ?_
     simp [hG, List.getD_cons_zero, List.getD_cons_succ, -List.getD_eq_getElem?_getD, pureOp]
     have hE := cdE_2 hne (by omega); rw [cd_4 hq h0 h64 hil hn (by rw [hE]; decide), hE]
   have h32 : (c.ws.getD i []).length ≤ 32 := (by omega)
   have hpl : (c.ws.getD (i - 1) []).length ≤ 32 := (by rcases Nat.eq_zero_or_pos i with h | h; (subst h; exact h32); exact (cdE_zero (hn (i - 1) (by omega))).2.1)
   have hbe := before_neg (a := c.ws.getD (i - 1) []) (b := (c.ws.getD i [])) (by omega) (by omega)
   refine zs (zL (zlP 3 ?_))
   refine zcP cal64 (wcheck_c c.q (c.ws.getD i [])) ?_
   refine zlP 2 ?_
   refine zN (zy (fun hb39 => ?_) fun hb39 => ?_)
   · refine zs (zrP ?_)
     refine zt (zbt (zbt (ztt (zbt ?_))))
     refine RetOK_of ?_
     simp [hG, List.getD_cons_zero, List.getD_cons_succ, -List.getD_eq_getElem?_getD, pureOp]
     have hE := cdE_3 hne h32 (by simpa using hb39); rw [cd_4 hq h0 h64 hil hn (by rw [hE]; decide), hE]
   refine zs (zL (zlP 10 ?_))
   refine zcP cal65 (before_c (c.ws.getD (i - 1) []) (c.ws.getD i []) (by omega) (by omega)) ?_
   refine zlP 3 ?_
   refine zN (zy (fun hb45 => ?_) fun hb45 => ?_)
   · have hE := cdE_4 hne h32 (by simpa using hb39) hb45.1 (fun h => by have := hbe.2 h; omega)
     refine zs (zrP ?_)
     refine zt (zbt (zbt (ztt (zbt ?_))))
     refine RetOK_of ?_
     simp [hG, List.getD_cons_zero, List.getD_cons_succ, -List.getD_eq_getElem?_getD, pureOp]
     rw [cd_4 hq h0 h64 hil hn (by rw [hE]; decide), hE]
   have hE := cdE_5 hne h32 (by simpa using hb39) (fun h => hbe.1 (by have := hb45 h; omega))
   refine zk (zn (zbn (zn (zbn (zrP ?_)))))
   refine zn ?_
   refine round_end (i + 1) (⟨by omega, step_all hn hE⟩) (by omega) ?_
   exact ziP
 obtain rfl : i = c.ws.length := (by omega)
 refine zx (ztx (zbx (zs (zrP ?_))))
 refine zt ?_
 refine RetOK_of ?_
 simp [hG, List.getD_cons_zero, List.getD_cons_succ, -List.getD_eq_getElem?_getD, pureOp]
 exact (cd_5 hq h0 h64 hn).symm
end Go.Proofs.Ytoafgeobhhlplaa
