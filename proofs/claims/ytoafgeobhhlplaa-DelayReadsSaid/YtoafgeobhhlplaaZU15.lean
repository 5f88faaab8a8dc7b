/- Parts of the proof: VB VC VD VE. -/
import Derived.Test.YtoafgeobhhlplaaZU08
import Derived.Test.YtoafgeobhhlplaaZU09
import Derived.Test.YtoafgeobhhlplaaZU14
namespace Go.Proofs.Ytoafgeobhhlplaa
set_option linter.unusedSimpArgs false
set_option linter.unusedVariables false
open Go Go.Lift Go.Proofs
theorem orL_hit {l : List Int} {k : Nat} (hk : k < l.length) (hn : ∀ j, j < k → l.getD j 0 = 0) (h : ¬ l.getD k 0 = 0) : orL l = l.getD k 0 := by
  have e : (l.find? fun x => decide (x ≠ 0)) = some (l.getD k 0) := by
    rw [List.find?_eq_some_iff_getElem]
    refine ⟨by simpa using h, k, hk, (getD_get hk).symm, fun j hj => ?_⟩
    have := hn j hj
    rw [getD_get (show j < l.length by omega)] at this
    simp [this]
  unfold orL; rw [e]; rfl
theorem orL_none {l : List Int} (hn : ∀ j, j < l.length → l.getD j 0 = 0) : orL l = 0 := by
  have e : (l.find? fun x => decide (x ≠ 0)) = none := by
    rw [List.find?_eq_none]
    intro x hx
    obtain ⟨j, hj, rfl⟩ := List.mem_iff_getElem.1 hx
    have := hn j hj
    rw [getD_get hj] at this
    simp [this]
  unfold orL; rw [e]; rfl
theorem preS_eq {s p : List UInt8} : (decide (p.length ≤ s.length) && decide (s.take p.length = p)) = decide (p <+: s) := by
  rw [Bool.eq_iff_iff, Bool.and_eq_true, decide_eq_true_eq, decide_eq_true_eq, decide_eq_true_eq, List.prefix_iff_eq_take]
  constructor
  · rintro ⟨_, h⟩; exact h.symm
  · intro h
    refine ⟨?_, h.symm⟩
    have := congrArg List.length h
    rw [List.length_take] at this
    omega
set_option maxRecDepth 100000 in
theorem orI_c (l : List Int) (hl : l.length ≤ 1000) : PC Try.prog 83 [ints l] (.int .i64 (orL l)) := by
 refine zp Try.func83 fun G hG hR => ?_
 refine zs (zr ?_)
 refine zs (zr ?_)
 refine zs (zs (zr ?_))
 refine zb ?_
 refine awpS_loop (α := Nat) (fun k => ⟨[(3, .int .i64 0), (6, ints l), (7, .int .i64 l.length), (8, .int .i64 (k : Nat))], [], 0⟩) (fun k => k ≤ l.length ∧ ∀ j, j < k → l.getD j 0 = 0) (fun k => l.length - k) (0) (⟨Nat.zero_le _, fun j hj => absurd hj (Nat.not_lt_zero _)⟩) ?_ ?_
 · exact zi
 rintro k ⟨hk, hn⟩
 refine zs (zr ?_)
 refine zs (zy (fun hb9 => ?_) fun hb9 => ?_)
 · refine zk (zs (zb (zs (zr ?_))))
   refine zs (zr ?_)
   refine zy (fun hb14 => ?_) fun hb14 => ?_
   · refine zs (zr ?_)
     refine zt (zbt (ztt (zbt ?_)))
     refine RetOK_of ?_
     simp [hG, List.getD_cons_zero, List.getD_cons_succ, -List.getD_eq_getElem?_getD]
     exact (orL_hit (by omega) hn hb14).symm
   refine zk (zn (zbn (zr ?_)))
   refine zn ?_
   refine round_end (k + 1) (⟨by omega, step_all hn hb14⟩) (by omega) ?_
   exact zi
 refine zx (ztx (zbx (zs (zr ?_))))
 refine zt ?_
 refine RetOK_of ?_
 simp [hG, List.getD_cons_zero, List.getD_cons_succ, -List.getD_eq_getElem?_getD]
 exact (orL_none fun j hj => hn j (by omega)).symm
set_option maxRecDepth 100000 in
theorem before_c (a b : List UInt8) (ha : a.length ≤ 1000000) (hb : b.length ≤ 1000000) : PC Try.prog 65 [.str a, .str b] (.int .i64 (orL [if a.length < b.length then -1 else if b.length < a.length then 1 else 0, cmpS a b])) := by
 refine zp Try.func65 fun G hG hR => ?_
 refine zs (zr ?_)
 refine zs (zL (zl 4 ?_))
 refine zc cal84 (cmpI_c (a.length : Int) (b.length : Int)) ?_
 refine zl 2 ?_
 refine zc cal85 (cmpW_c a b) ?_
 refine zl 1 ?_
 refine awpL_callB (mem [0]) cal83 (by simp [flat]) rfl rfl (fun _ => rfl) (fun hg => orI_c [if a.length < b.length then -1 else if b.length < a.length then 1 else 0, cmpS a b] (by simp)) (fun hg => ?_) (fun hg => ?_) fun K hK => ?_
 · simp [hG, List.getD_cons_zero, List.getD_cons_succ, -List.getD_eq_getElem?_getD]
 · simp [hG, List.getD_cons_zero, List.getD_cons_succ, -List.getD_eq_getElem?_getD]
 simp [hG, List.getD_cons_zero, List.getD_cons_succ, -List.getD_eq_getElem?_getD]
 refine hK _ ?_
 clear K hK
 refine zl 1 ?_
 refine zN (zt ?_)
 exact zR
set_option maxRecDepth 100000 in
theorem preS_c (s p : List UInt8) : PC Try.prog 55 [.str s, .str p] (.bool (decide (p <+: s))) := by
 refine zp Try.func55 fun G hG hR => ?_
 refine zs (zrP ?_)
 refine zs (zrP ?_)
 refine zt ?_
 refine RetOK_of ?_
 simp [hG, List.getD_cons_zero, List.getD_cons_succ, -List.getD_eq_getElem?_getD, pureOp]
 exact preS_eq
set_option maxRecDepth 100000 in
theorem preW_c (s p : List UInt8) : PC Try.prog 27 [.str s, .str p] (.bool (decide (p <+: s))) := by
 refine zp Try.func27 fun G hG hR => ?_
 refine zs (zr ?_)
 refine zs (zL (zl 2 ?_))
 refine zc cal55 (preS_c s p) ?_
 refine zl 1 ?_
 refine zN (zt ?_)
 exact zR
set_option maxRecDepth 100000 in
theorem check_c (c : Cd) (hl : c.ws.length ≤ maxLen) : PC Try.prog 38 [.agg 2 (cdF c)] (.int .i64 (cdN c)) := by
 have hML : maxLen = 9223372036854775807 := by decide
 refine zp Try.func38 fun G hG hR => ?_
 refine zs (zrP ?_)
 refine zs (zb (zs (zrP ?_)))
 refine zy (fun hb5 => ?_) fun hb5 => ?_
 · refine zs (zrP ?_)
   refine zt (zbt ?_)
   refine RetOK_of ?_
   simp [hG, List.getD_cons_zero, List.getD_cons_succ, -List.getD_eq_getElem?_getD, pureOp]
   exact (cd_1 (by omega)).symm
 have hq : 2 ≤ c.q ∧ c.q ≤ 16 := (by omega)
 refine zs (zrP ?_)
 refine zy (fun hb14 => ?_) fun hb14 => ?_
 · refine zs (zrP ?_)
   refine zt (zbt ?_)
   refine RetOK_of ?_
   simp [hG, List.getD_cons_zero, List.getD_cons_succ, -List.getD_eq_getElem?_getD, pureOp]
   exact (cd_2 hq (by rw [hb14]; rfl)).symm
 have h0 : c.ws.length ≠ 0 := (fun h => hb14 (List.length_eq_zero_iff.1 h))
 refine zs (zrP ?_)
 refine zy (fun hb19 => ?_) fun hb19 => ?_
 · refine zs (zrP ?_)
   refine zt (zbt ?_)
   refine RetOK_of ?_
   simp [hG, List.getD_cons_zero, List.getD_cons_succ, -List.getD_eq_getElem?_getD, pureOp]
   exact (cd_3 hq (by omega)).symm
 have h64 : c.ws.length ≤ 64 := (by omega)
 refine zk (zn (zbn (zs (zs (zrP ?_)))))
 refine zb ?_
 refine awpS_loop (α := Nat) (fun i => ⟨[(1, .ptr (0, 0) 0 0), (25, strs c.ws), (26, .int .i64 c.ws.length), (27, .int .i64 (i : Nat))], [(0, .one (.arr 1 2 (fun _ => cdF c)))], 1⟩) (fun i => i ≤ c.ws.length ∧ ∀ j, j < i → cdE c j = 0) (fun i => c.ws.length - i) (0) (⟨Nat.zero_le _, fun j hj => absurd hj (Nat.not_lt_zero _)⟩) ?_ ?_
 · exact ziP
 rintro i ⟨hi, hn⟩
 refine zs (zrP ?_)
 refine zs (zy (fun hb28 => ?_) fun hb28 => ?_)
 · have hil : i < c.ws.length := (by omega)
   refine zk (zs (zb (zs (zrP ?_))))
   refine zb (zs (zrP ?_))
   refine zy (fun hb32 => ?_) fun hb32 => ?_
   · refine zs (zrP ?_)
     refine zt (zbt (zbt (ztt (zbt ?_))))
     refine RetOK_of ?_
     simp [hG, List.getD_cons_zero, List.getD_cons_succ, -List.getD_eq_getElem?_getD, pureOp]
     have hE := cdE_1 (c := c) (i := i) (by rw [hb32]; rfl); rw [cd_4 hq h0 h64 hil hn (by rw [hE]; decide), hE]
   have hne : (c.ws.getD i []).length ≠ 0 := (fun h => hb32 (List.length_eq_zero_iff.1 h))
   refine zs (zrP ?_)
   refine zy (fun hb35 => ?_) fun hb35 => ?_
   · refine zs (zrP ?_)
     refine zt (zbt (zbt (ztt (zbt ?_))))
     refine RetOK_of ?_
     simp [hG, List.getD_cons_zero, List.getD_cons_succ, -List.getD_eq_getElem?_getD, pureOp]
     have hE := cdE_2 hne (by omega); rw [cd_4 hq h0 h64 hil hn (by rw [hE]; decide), hE]
   have h32 : (c.ws.getD i []).length ≤ 32 := (by omega)
   have hpl : (c.ws.getD (i - 1) []).length ≤ 32 := (by rcases Nat.eq_zero_or_pos i with h | h; (subst h; exact h32); exact (cdE_zero (hn (i - 1) (by omega))).2.1)
   have hbe := before_neg (a := c.ws.getD (i - 1) []) (b := (c.ws.getD i [])) (by omega) (by omega)
   refine zs (zL (zlP 3 ?_))
   refine zcP cal64 (wcheck_c c.q (c.ws.getD i [])) ?_
   refine zlP 2 ?_
   refine zN (zy (fun hb39 => ?_) fun hb39 => ?_)
   · refine zs (zrP ?_)
     refine zt (zbt (zbt (ztt (zbt ?_))))
     refine RetOK_of ?_
     simp [hG, List.getD_cons_zero, List.getD_cons_succ, -List.getD_eq_getElem?_getD, pureOp]
     have hE := cdE_3 hne h32 (by simpa using hb39); rw [cd_4 hq h0 h64 hil hn (by rw [hE]; decide), hE]
   refine zs (zL (zlP 10 ?_))
   refine zcP cal65 (before_c (c.ws.getD (i - 1) []) (c.ws.getD i []) (by omega) (by omega)) ?_
   refine zlP 3 ?_
   refine zN (zy (fun hb45 => ?_) fun hb45 => ?_)
   · have hE := cdE_4 hne h32 (by simpa using hb39) hb45.1 (fun h => by have := hbe.2 h; omega)
     refine zs (zrP ?_)
     refine zt (zbt (zbt (ztt (zbt ?_))))
     refine RetOK_of ?_
     simp [hG, List.getD_cons_zero, List.getD_cons_succ, -List.getD_eq_getElem?_getD, pureOp]
     rw [cd_4 hq h0 h64 hil hn (by rw [hE]; decide), hE]
   have hE := cdE_5 hne h32 (by simpa using hb39) (fun h => hbe.1 (by have := hb45 h; omega))
   refine zk (zn (zbn (zn (zbn (zrP ?_)))))
   refine zn ?_
   refine round_end (i + 1) (⟨by omega, step_all hn hE⟩) (by omega) ?_
   exact ziP
 obtain rfl : i = c.ws.length := (by omega)
 refine zx (ztx (zbx (zs (zrP ?_))))
 refine zt ?_
 refine RetOK_of ?_
 simp [hG, List.getD_cons_zero, List.getD_cons_succ, -List.getD_eq_getElem?_getD, pureOp]
 exact (cd_5 hq h0 h64 hn).symm
def placeG {α : Type} (l : List α) (q : α → Bool) : Int := if l.any q then (l.findIdx q : Nat) else -1
theorem placeG_at {α : Type} {d : α} {l : List α} {q : α → Bool} {i : Nat} (hi : i < l.length) (hq : q (l.getD i d) = true) (hn : ∀ j, j < i → q (l.getD j d) = false) : placeG l q = i := by
  unfold placeG
  rw [if_pos (List.any_eq_true.2 ⟨l[i], List.getElem_mem hi, by rw [← getD_get (d := d)]; exact hq⟩)]
  have : l.findIdx q = i := (List.findIdx_eq hi).2 ⟨by rw [← getD_get (d := d)]; exact hq, fun j hj => by rw [← getD_get (d := d)]; exact hn j hj⟩
  rw [this]
theorem placeG_none {α : Type} {d : α} {l : List α} {q : α → Bool} (hn : ∀ j, j < l.length → q (l.getD j d) = false) : placeG l q = -1 := by
  unfold placeG
  rw [if_neg]
  intro h
  obtain ⟨x, hx, hq⟩ := List.any_eq_true.1 h
  obtain ⟨j, hj, rfl⟩ := List.mem_iff_getElem.1 hx
  have := hn j hj
  rw [getD_get hj] at this
  rw [this] at hq; cases hq
theorem placeG_any {α : Type} {l : List α} {q : α → Bool} : decide (0 ≤ placeG l q) = l.any q := by
  unfold placeG
  split
  · rename_i h; rw [h]; simp
  · rename_i h; simp only [Bool.not_eq_true] at h; rw [h]; simp
theorem lessW_len {a b : Wd} (h : a.length ≠ b.length) : decide (lessW a b) = decide (a.length < b.length) := by
  refine decide_eq_decide.2 ?_
  unfold lessW; omega
theorem lessW_lex {a b : Wd} (h : a.length = b.length) : decide (lessW a b) = Op.bytesLess a b := by
  rw [less_dec]
  refine decide_eq_decide.2 ?_
  unfold lessW
  constructor
  · rintro (h2 | h2)
    · omega
    · exact h2.2
  · intro h2; exact .inr ⟨h, h2⟩
def big33 (w : Wd) : Bool := decide (8 < w.length ∧ w.length ≤ 32 ∨ 33 < w.length)
def big6 (w : Wd) : Bool := decide (6 < w.length ∧ w.length ≤ 32)
def g33 (c : Cd) : Bool := decide (8 < c.ws.length ∧ c.ws.length ≤ 64 ∨ 65 < c.ws.length) || c.ws.any big33
theorem g33_yes {c : Cd} (h : 8 < c.ws.length ∧ c.ws.length ≤ 64 ∨ 65 < c.ws.length) : g33 c = true := by unfold g33; rw [decide_eq_true h]; rfl
theorem g33_hit {c : Cd} {i : Nat} (hi : i < c.ws.length) (h : big33 (c.ws.getD i []) = true) : g33 c = true := by
  unfold g33
  rw [Bool.or_eq_true]
  exact .inr (List.any_eq_true.2 ⟨_, W_mem hi, h⟩)
theorem g33_no {c : Cd} (h : ¬ (8 < c.ws.length ∧ c.ws.length ≤ 64 ∨ 65 < c.ws.length)) (hn : ∀ j, j < c.ws.length → big33 (c.ws.getD j []) = false) : g33 c = false := by
  unfold g33
  rw [decide_eq_false h, Bool.false_or, List.any_eq_false]
  intro w hw
  obtain ⟨j, hj, rfl⟩ := W_at hw
  rw [hn j hj]; simp
theorem bigC_eq {c : Cd} : bigC c = ((g33 c || decide (6 < c.ws.length ∧ c.ws.length ≤ 64)) || c.ws.any big6) := by
  rw [Bool.eq_iff_iff]
  unfold bigC g33
  simp only [Bool.or_eq_true, decide_eq_true_eq, List.any_eq_true]
  constructor
  · rintro (h | ⟨w, hw, h⟩)
    · rcases h with h | h
      · exact .inl (.inr h)
      · exact .inl (.inl (.inl (.inr h)))
    · rcases h with h | h
      · exact .inr ⟨w, hw, decide_eq_true h⟩
      · exact .inl (.inl (.inr ⟨w, hw, decide_eq_true (.inr h)⟩))
  · rintro (((h | ⟨w, hw, h⟩) | h) | ⟨w, hw, h⟩)
    · left; omega
    · right; exact ⟨w, hw, by have := of_decide_eq_true h; omega⟩
    · left; omega
    · right; exact ⟨w, hw, by have := of_decide_eq_true h; omega⟩
set_option maxRecDepth 100000 in
theorem lessR_c (a b : List UInt8) : PC Try.prog 69 [.str a, .str b] (.bool (decide (lessW a b))) := by
 refine zp Try.func69 fun G hG hR => ?_
 refine zs (zr ?_)
 refine zs (zs (zr ?_))
 refine zy (fun hb9 => ?_) fun hb9 => ?_
 · refine zs (zr ?_)
   refine zt ?_
   refine RetOK_of ?_
   simp [hG, List.getD_cons_zero, List.getD_cons_succ, -List.getD_eq_getElem?_getD]
   exact (decide_eq_decide.1 (lessW_len (by omega))).symm
 refine zk (zs (zr ?_))
 refine zt ?_
 refine RetOK_of ?_
 simp [hG, List.getD_cons_zero, List.getD_cons_succ, -List.getD_eq_getElem?_getD]
 rw [lessW_lex (by omega)]
set_option maxRecDepth 100000 in
theorem checkR33_c (c : Cd) (hl : c.ws.length ≤ maxLen) : PC Try.prog 41 [.agg 2 (cdF c)] (.int .i64 (cdN c)) := by
 have hML : maxLen = 9223372036854775807 := by decide
 refine zp Try.func41 fun G hG hR => ?_
 refine zs (zrP ?_)
 refine zs (zs (zrP ?_))
 refine zy (fun hb12 => ?_) fun hb12 => ?_
 · refine zs (zrP ?_)
   refine zt ?_
   refine RetOK_of ?_
   simp [hG, List.getD_cons_zero, List.getD_cons_succ, -List.getD_eq_getElem?_getD, pureOp]
   exact (cd_1 (by omega)).symm
 have hq : 2 ≤ c.q ∧ c.q ≤ 16 := (by omega)
 refine zk (zs (zs (zrP ?_)))
 refine zy (fun hb16 => ?_) fun hb16 => ?_
 · refine zs (zrP ?_)
   refine zt ?_
   refine RetOK_of ?_
   simp [hG, List.getD_cons_zero, List.getD_cons_succ, -List.getD_eq_getElem?_getD, pureOp]
   exact (cd_2 hq (by rw [hb16]; rfl)).symm
 have h0 : c.ws.length ≠ 0 := (fun h => hb16 (List.length_eq_zero_iff.1 h))
 refine zk (zs (zs (zrP ?_)))
 refine zy (fun hb20 => ?_) fun hb20 => ?_
 · refine zs (zrP ?_)
   refine zt ?_
   refine RetOK_of ?_
   simp [hG, List.getD_cons_zero, List.getD_cons_succ, -List.getD_eq_getElem?_getD, pureOp]
   exact (cd_3 hq (by omega)).symm
 have h64 : c.ws.length ≤ 64 := (by omega)
 refine zk (zs (zs (zrP ?_)))
 refine zb ?_
 refine awpS_loop (α := Nat) (fun i => ⟨[(1, .ptr (0, 0) 0 0), (3, .int .i64 (i : Nat))], [(0, .one (.arr 1 2 (fun _ => cdF c)))], 1⟩) (fun i => i ≤ c.ws.length ∧ ∀ j, j < i → cdE c j = 0) (fun i => c.ws.length - i) (0) (⟨Nat.zero_le _, fun j hj => absurd hj (Nat.not_lt_zero _)⟩) ?_ ?_
 · exact ziP
 rintro i ⟨hi, hn⟩
 refine zs (zs (zrP ?_))
 refine zy (fun hb25 => ?_) fun hb25 => ?_
 · have hil : i < c.ws.length := (by omega)
   refine zk (zs (zb (zs (zrP ?_))))
   refine zs (zs (zrP ?_))
   refine zy (fun hb34 => ?_) fun hb34 => ?_
   · refine zs (zrP ?_)
     refine zt (zbt (ztt (zbt ?_)))
     refine RetOK_of ?_
     simp [hG, List.getD_cons_zero, List.getD_cons_succ, -List.getD_eq_getElem?_getD, pureOp]
     have hE := cdE_1 (c := c) (i := i) (by rw [hb34]; rfl); rw [cd_4 hq h0 h64 hil hn (by rw [hE]; decide), hE]
   have hne : (c.ws.getD i []).length ≠ 0 := (fun h => hb34 (List.length_eq_zero_iff.1 h))
   refine zk (zs (zs (zrP ?_)))
   refine zy (fun hb37 => ?_) fun hb37 => ?_
   · refine zs (zrP ?_)
     refine zt (zbt (ztt (zbt ?_)))
     refine RetOK_of ?_
     simp [hG, List.getD_cons_zero, List.getD_cons_succ, -List.getD_eq_getElem?_getD, pureOp]
     have hE := cdE_2 hne (by omega); rw [cd_4 hq h0 h64 hil hn (by rw [hE]; decide), hE]
   have h32 : (c.ws.getD i []).length ≤ 32 := (by omega)
   refine zk (zs (zs (zL (zlP 3 ?_))))
   refine zcP cal31 (wcheckR_c c.q (c.ws.getD i [])) ?_
   refine zlP 1 ?_
   refine zN (zy (fun hb42 => ?_) fun hb42 => ?_)
   · refine zs (zrP ?_)
     refine zt (zbt (ztt (zbt ?_)))
     refine RetOK_of ?_
     simp [hG, List.getD_cons_zero, List.getD_cons_succ, -List.getD_eq_getElem?_getD, pureOp]
     have hE := cdE_3 hne h32 (by simpa using hb42); rw [cd_4 hq h0 h64 hil hn (by rw [hE]; decide), hE]
   refine zk (zs (zL (zlP 10 ?_)))
   refine zcP cal69 (lessR_c (c.ws.getD (i - 1) []) (c.ws.getD i [])) ?_
   refine zlP 2 ?_
   refine zN (zy (fun hb55 => ?_) fun hb55 => ?_)
   · have hE := cdE_4 hne h32 (by simpa using hb42) hb55.1 hb55.2
     refine zs (zrP ?_)
     refine zt (zbt (ztt (zbt ?_)))
     refine RetOK_of ?_
     simp [hG, List.getD_cons_zero, List.getD_cons_succ, -List.getD_eq_getElem?_getD, pureOp]
     rw [cd_4 hq h0 h64 hil hn (by rw [hE]; decide), hE]
   have hE := cdE_5 hne h32 (by simpa using hb42) hb55
   refine zk (zn (zbn (zrP ?_)))
   refine zn ?_
   refine round_end (i + 1) (⟨by omega, step_all hn hE⟩) (by omega) ?_
   exact ziP
 obtain rfl : i = c.ws.length := (by omega)
 refine zx (ztx (zbx (zs (zrP ?_))))
 refine zt ?_
 refine RetOK_of ?_
 simp [hG, List.getD_cons_zero, List.getD_cons_succ, -List.getD_eq_getElem?_getD, pureOp]
 exact (cd_5 hq h0 h64 hn).symm
set_option maxRecDepth 100000 in
theorem great33_c (c : Cd) (hl : c.ws.length ≤ maxLen) : PC Try.prog 35 [.agg 2 (cdF c)] (.bool (g33 c)) := by
 have hML : maxLen = 9223372036854775807 := by decide
 refine zp Try.func35 fun G hG hR => ?_
 refine zs (zrP ?_)
 refine zs (zs (zrP ?_))
 refine zy (fun hb19 => ?_) fun hb19 => ?_
 · refine zs (zrP ?_)
   refine zt ?_
   refine RetOK_of ?_
   simp [hG, List.getD_cons_zero, List.getD_cons_succ, -List.getD_eq_getElem?_getD, pureOp]
   exact g33_yes (by omega)
 refine zk (zs (zs (zrP ?_)))
 refine zb ?_
 refine awpS_loop (α := Nat) (fun i => ⟨[(1, .ptr (0, 0) 0 0), (3, .int .i64 (i : Nat))], [(0, .one (.arr 1 2 (fun _ => cdF c)))], 1⟩) (fun i => i ≤ c.ws.length ∧ ∀ j, j < i → big33 (c.ws.getD j []) = false) (fun i => c.ws.length - i) (0) (⟨Nat.zero_le _, fun j hj => absurd hj (Nat.not_lt_zero _)⟩) ?_ ?_
 · exact ziP
 rintro i ⟨hi, hn⟩
 refine zs (zs (zrP ?_))
 refine zy (fun hb24 => ?_) fun hb24 => ?_
 · have hil : i < c.ws.length := (by omega)
   refine zk (zs (zb (zs (zrP ?_))))
   refine zy (fun hb51 => ?_) fun hb51 => ?_
   · have hbg : big33 (c.ws.getD i []) = true := decide_eq_true (by omega)
     refine zs (zrP ?_)
     refine zt (zbt (ztt (zbt ?_)))
     refine RetOK_of ?_
     simp [hG, List.getD_cons_zero, List.getD_cons_succ, -List.getD_eq_getElem?_getD, pureOp]
     exact g33_hit hil hbg
   have hbg : big33 (c.ws.getD i []) = false := decide_eq_false (by omega)
   refine zk (zn (zbn (zrP ?_)))
   refine zn ?_
   refine round_end (i + 1) (⟨by omega, step_all hn hbg⟩) (by omega) ?_
   exact ziP
 obtain rfl : i = c.ws.length := (by omega)
 refine zx (ztx (zbx (zs (zrP ?_))))
 refine zt ?_
 refine RetOK_of ?_
 simp [hG, List.getD_cons_zero, List.getD_cons_succ, -List.getD_eq_getElem?_getD, pureOp]
 exact g33_no (by omega) hn
set_option maxRecDepth 100000 in
theorem indexFS_c (l : List (List UInt8)) (q : (List UInt8) → Bool) (hfn hn : Nat) (hc : Nat → AVal) (hl : l.length ≤ maxLen) (hcal : Callable Try.prog hfn) (hclo : ∀ j, Clo (hc j)) (hp : ∀ x ∈ l, PC Try.prog hfn (.str x :: (List.range' 0 hn).map hc) (.bool (q x))) : PC Try.prog 63 [strs l, .fn hfn hn hc] (.int .i64 (placeG l q)) := by
 have hML : maxLen = 9223372036854775807 := by decide
 have hV : ∀ {h : Heap} {σ : Lift.Id → Lift.Id} {fz : Nat → Bool} {vz : Lift.Id → Bool} {nx j : Nat}, VLe h σ fz vz nx (hc j) (hc j) := fun {h σ fz vz nx j} => Clo.le _ (hclo j)
 have hV2 : ∀ {h : Heap} {σ : Lift.Id → Lift.Id} {fz : Nat → Bool} {vz : Lift.Id → Bool} {nx : Nat}, VLe h σ fz vz nx (.fn hfn hn hc) (.fn hfn hn hc) := fun {h σ fz vz nx} => Clo.le _ fun j _ => hclo j
 refine zp Try.func63 fun G hG hR => ?_
 refine zs (zr ?_ (h := by intro c K h; simp [hG, List.getD_cons_zero, List.getD_cons_succ, -List.getD_eq_getElem?_getD, hV, hV2]; first | exact z1 c h | exact ⟨.mk c, h⟩))
 refine zs (zs (zr ?_ (h := by intro c K h; simp [hG, List.getD_cons_zero, List.getD_cons_succ, -List.getD_eq_getElem?_getD, hV, hV2]; first | exact z1 c h | exact ⟨.mk c, h⟩)))
 refine zb ?_
 refine awpS_loop (α := Nat) (fun i => ⟨[(0, strs l), (1, .fn hfn hn hc), (7, .int .i64 l.length), (8, .int .i64 i)], [], 0⟩) (fun i => i ≤ l.length ∧ ∀ j, j < i → q (l.getD j []) = false) (fun i => l.length - i) (0) (⟨Nat.zero_le _, fun j hj => absurd hj (Nat.not_lt_zero _)⟩) ?_ ?_
 · exact zi (e := by simp [hG, List.getD_cons_zero, List.getD_cons_succ, -List.getD_eq_getElem?_getD, hV, hV2]) (h := by simp [hG, List.getD_cons_zero, List.getD_cons_succ, -List.getD_eq_getElem?_getD, hV, hV2])
 rintro i ⟨hi, hn0⟩
 refine zs (zr ?_ (h := by intro c K h; simp [hG, List.getD_cons_zero, List.getD_cons_succ, -List.getD_eq_getElem?_getD, hV, hV2]; first | exact z1 c h | exact ⟨.mk c, h⟩))
 refine zs (zy (fun hb9 => ?_) fun hb9 => ?_)
 · refine zk (zs (zb (zs (zr ?_ (h := by intro c K h; simp [hG, List.getD_cons_zero, List.getD_cons_succ, -List.getD_eq_getElem?_getD, hV, hV2]; first | exact z1 c h | exact ⟨.mk c, h⟩)))))
   refine zs (zL (zl 5 ?_ (h := by intro c K h; simp [hG, List.getD_cons_zero, List.getD_cons_succ, -List.getD_eq_getElem?_getD, hV, hV2]; first | exact z1 c h | exact ⟨.mk c, h⟩)))
   refine zc hcal (hp _ (getD_mem (d := []) (by simpa using hb9))) ?_ (a := fun hg => by simp [hG, List.getD_cons_zero, List.getD_cons_succ, -List.getD_eq_getElem?_getD, hV, hV2]) (b := fun hg => by simp [hG, List.getD_cons_zero, List.getD_cons_succ, -List.getD_eq_getElem?_getD]; first | exact argsLe_caps fun j _ => hclo j | exact ⟨Clo.le _ Clo_strs, argsLe_caps fun j _ => hclo j⟩) (h := by intro K h; simp [hG, List.getD_cons_zero, List.getD_cons_succ, -List.getD_eq_getElem?_getD, hV, hV2]; exact h)
   refine zN (zy (fun hb16 => ?_) fun hb16 => ?_)
   · refine zs (zr ?_ (h := by intro c K h; simp [hG, List.getD_cons_zero, List.getD_cons_succ, -List.getD_eq_getElem?_getD, hV, hV2]; first | exact z1 c h | exact ⟨.mk c, h⟩))
     refine zt (zbt (ztt (zbt ?_)))
     refine RetOK_of ?_
     simp [hG, List.getD_cons_zero, List.getD_cons_succ, -List.getD_eq_getElem?_getD, hV, hV2]
     exact (placeG_at (by simpa using hb9) hb16 hn0).symm
   refine zk (zn (zbn (zr ?_ (h := by intro c K h; simp [hG, List.getD_cons_zero, List.getD_cons_succ, -List.getD_eq_getElem?_getD, hV, hV2]; first | exact z1 c h | exact ⟨.mk c, h⟩))))
   refine zn ?_
   refine round_end (i + 1) (⟨by omega, fun j hj => (Nat.lt_succ_iff_lt_or_eq.1 hj).elim (hn0 j) fun e => by rw [e]; exact hb16⟩) (by omega) ?_
   exact zi (e := by simp [hG, List.getD_cons_zero, List.getD_cons_succ, -List.getD_eq_getElem?_getD, hV, hV2]) (h := by simp [hG, List.getD_cons_zero, List.getD_cons_succ, -List.getD_eq_getElem?_getD, hV, hV2])
 refine zx (ztx (zbx (zs (zr ?_ (h := by intro c K h; simp [hG, List.getD_cons_zero, List.getD_cons_succ, -List.getD_eq_getElem?_getD, hV, hV2]; first | exact z1 c h | exact ⟨.mk c, h⟩)))))
 refine zt ?_
 refine RetOK_of ?_
 simp [hG, List.getD_cons_zero, List.getD_cons_succ, -List.getD_eq_getElem?_getD, hV, hV2]
 exact (placeG_none fun j hj => hn0 j (by omega)).symm
set_option maxRecDepth 100000 in
theorem containsFS_c (l : List (List UInt8)) (q : (List UInt8) → Bool) (hfn hn : Nat) (hc : Nat → AVal) (hl : l.length ≤ maxLen) (hcal : Callable Try.prog hfn) (hclo : ∀ j, Clo (hc j)) (hp : ∀ x ∈ l, PC Try.prog hfn (.str x :: (List.range' 0 hn).map hc) (.bool (q x))) : PC Try.prog 36 [strs l, .fn hfn hn hc] (.bool (l.any q)) := by
 have hML : maxLen = 9223372036854775807 := by decide
 have hV : ∀ {h : Heap} {σ : Lift.Id → Lift.Id} {fz : Nat → Bool} {vz : Lift.Id → Bool} {nx j : Nat}, VLe h σ fz vz nx (hc j) (hc j) := fun {h σ fz vz nx j} => Clo.le _ (hclo j)
 have hV2 : ∀ {h : Heap} {σ : Lift.Id → Lift.Id} {fz : Nat → Bool} {vz : Lift.Id → Bool} {nx : Nat}, VLe h σ fz vz nx (.fn hfn hn hc) (.fn hfn hn hc) := fun {h σ fz vz nx} => Clo.le _ fun j _ => hclo j
 refine zp Try.func36 fun G hG hR => ?_
 refine zs (zr ?_ (h := by intro c K h; simp [hG, List.getD_cons_zero, List.getD_cons_succ, -List.getD_eq_getElem?_getD, hV, hV2]; first | exact z1 c h | exact ⟨.mk c, h⟩))
 refine zs (zL (zl 2 ?_ (h := by intro c K h; simp [hG, List.getD_cons_zero, List.getD_cons_succ, -List.getD_eq_getElem?_getD, hV, hV2]; first | exact z1 c h | exact ⟨.mk c, h⟩)))
 refine zc cal63 (indexFS_c l q hfn hn hc hl hcal hclo hp) ?_ (a := fun hg => by simp [hG, List.getD_cons_zero, List.getD_cons_succ, -List.getD_eq_getElem?_getD, hV, hV2]) (b := fun hg => by simp [hG, List.getD_cons_zero, List.getD_cons_succ, -List.getD_eq_getElem?_getD, hV, hV2]) (h := by intro K h; simp [hG, List.getD_cons_zero, List.getD_cons_succ, -List.getD_eq_getElem?_getD, hV, hV2]; exact h)
 refine zl 2 ?_ (h := by intro c K h; simp [hG, List.getD_cons_zero, List.getD_cons_succ, -List.getD_eq_getElem?_getD, hV, hV2]; first | exact z1 c h | exact ⟨.mk c, h⟩)
 refine zN (zt ?_)
 refine RetOK_of ?_
 simp [hG, List.getD_cons_zero, List.getD_cons_succ, -List.getD_eq_getElem?_getD, hV, hV2]
 rw [← placeG_any]
set_option maxRecDepth 100000 in
theorem great1_c (w : List UInt8) : PC Try.prog 37 [.str w] (.bool (big6 w)) := by
 refine zp Try.func37 fun G hG hR => ?_
 refine zs (zrP ?_)
 refine zs (zrP ?_)
 refine zt ?_
 refine RetOK_of ?_
 simp [hG, List.getD_cons_zero, List.getD_cons_succ, -List.getD_eq_getElem?_getD, pureOp]
 unfold big6; rw [Bool.eq_iff_iff]; simp only [Bool.and_eq_true, decide_eq_true_eq]; omega
set_option maxRecDepth 100000 in
theorem great_c (c : Cd) (hl : c.ws.length ≤ maxLen) : PC Try.prog 10 [.agg 2 (cdF c)] (.bool (bigC c)) := by
 refine zp Try.func10 fun G hG hR => ?_
 refine zs (zrP ?_)
 refine zs (zL (zlP 1 ?_))
 refine zcP cal35 (great33_c c hl) ?_
 refine zlP 15 ?_
 refine zcP cal36 (containsFS_c c.ws big6 37 0 (fun _ => .any) hl cal37 (fun _ => trivial) fun x _ => great1_c x) ?_
 refine zlP 2 ?_
 refine zN (zt ?_)
 refine RetOK_of ?_
 simp [hG, List.getD_cons_zero, List.getD_cons_succ, -List.getD_eq_getElem?_getD, pureOp]
 rw [bigC_eq]; congr 2; rw [Bool.eq_iff_iff]; simp only [Bool.and_eq_true, decide_eq_true_eq]; omega
def fineC (c : Cd) : Bool := (!bigC c && decide (cdN c = 0)) && decide (0 < c.ws.length)
theorem fine_iff {c : Cd} : fineC c = true ↔ bigC c = false ∧ cdN c = 0 := by
  unfold fineC
  simp only [Bool.and_eq_true, Bool.not_eq_true', decide_eq_true_eq]
  exact ⟨fun h => h.1, fun h => ⟨h, (cd_ok h.2).n.1⟩⟩
def lngB (w : Wd) (n : Int) : Bool := (decide (n < (w.length : Int)) && decide ((w.length : Int) ≤ 65536)) || decide (65544 < (w.length : Int))
@[simp] theorem luK3 {β : Type} {ev : β → AVal} {l : List (Int × β)} {k : Int} : luK T 3 (mpE intK ev l) 0 (.int .i64 k) = some ((alFind l 0 k).map fun p => (p.1, ev p.2)) := luK_intK (by simp)
@[simp high] theorem HLe_ib {h : Heap} {σ : Lift.Id → Lift.Id} {fz : Nat → Bool} {vz : Lift.Id → Bool} {nx : Nat} {l2 l : List (Int × Bool)} (e : l2 = l) : HLe h σ fz vz nx (.mp (mpE intK boolV l2)) (some (.mp (mpE intK boolV l))) = True := eq_true (HLe_mpE (ek := intK) (ev := boolV) (fun _ => trivial) (fun _ => trivial) e)
@[simp] theorem ren_mpI {σ : Nat → Nat} {l : List (Int × Bool)} : List.map (fun p => (ren σ p.1, ren σ p.2)) (mpE intK boolV l) = mpE intK boolV l := by
  conv => rhs; rw [← List.map_id (mpE intK boolV l)]
  refine List.map_congr_left fun p hp => ?_
  obtain ⟨q, _, rfl⟩ := List.mem_map.1 hp
  rfl
@[simp] theorem putK_ib {l : List (Int × Bool)} {k : Int} {v : Bool} : putK (mpE intK boolV l) ((alFind l 0 k).map fun p => (p.1, boolV p.2)) (.int .i64 k) (.bool v) = mpE intK boolV (alPut l k v) := putK_mpE (ek := intK) (ev := boolV) l k v
def Memo (W : List Wd) (w : Wd) (m : List (Int × Bool)) : Prop := ∀ k b, alGet m k = some b → b = rd W [] (w.drop k.toNat)
theorem memo_nil {W : List Wd} {w : Wd} : Memo W w [] := fun k b h => by cases h
theorem get_put {β : Type} : ∀ {m : List (Int × β)} {k j : Int} {v : β}, alGet (alPut m k v) j = if j = k then some v else alGet m j
  | [], k, j, v => rfl
  | (a, b) :: m, k, j, v => by
    simp only [alPut]
    by_cases h : k = a
    · subst h
      rw [if_pos rfl]
      simp only [alGet]
      by_cases h2 : j = k
      · rw [if_pos h2, if_pos h2]
      · rw [if_neg h2, if_neg h2, if_neg h2]
    · rw [if_neg h]
      simp only [alGet]
      rw [get_put (m := m)]
      by_cases h3 : j = a
      · rw [if_pos h3, if_neg (by omega), if_pos h3]
      · rw [if_neg h3, if_neg h3]
theorem memo_put {W : List Wd} {w : Wd} {m : List (Int × Bool)} (h : Memo W w m) {k : Nat} {b : Bool} (hb : b = rd W [] (w.drop k)) : Memo W w (alPut m (k : Int) b) := fun j x hx => by
  rw [get_put] at hx
  by_cases e : j = (k : Int)
  · rw [if_pos e] at hx
    cases hx
    rw [e, hb]; rfl
  · rw [if_neg e] at hx
    exact h j x hx
theorem rd_yes {W : List Wd} {u : Wd} {i : Nat} (hi : i < W.length) (h : rd W (W.getD i []) u = true) : rd W [] u = true := rd_of_word (W_mem hi) h
theorem rd_no {W : List Wd} {u : Wd} (hW : ∀ x ∈ W, x ≠ []) (hu : u ≠ []) (h : ∀ j, j < W.length → rd W (W.getD j []) u = false) : rd W [] u = false := by
  rw [Bool.eq_false_iff]
  intro h2
  obtain ⟨x, hx, h3⟩ := (rd_first hW hu).1 h2
  obtain ⟨j, hj, rfl⟩ := W_at hx
  rw [h j hj] at h3; cases h3
theorem rd_dec {W : List Wd} {x u : Wd} : rd W x u = (decide (u <+: x) || (decide (x <+: u) && rd W [] (u.drop x.length))) := by
  rw [Bool.eq_iff_iff, rd_pre]
  simp
theorem memo_at {W : List Wd} {w : Wd} {m : List (Int × Bool)} (h : Memo W w m) {k : Nat} (hs : (alGet m (k : Int)).isSome = true) : (alGet m (k : Int)).getD false = rd W [] (w.drop k) := by
  obtain ⟨b, hb⟩ := Option.isSome_iff_exists.1 hs
  rw [hb]
  exact h _ b hb
theorem rdA {W : List Wd} {x u : Wd} (hA : u <+: x) : rd W x u = true := by rw [rd_dec, decide_eq_true hA]; rfl
theorem rdN {W : List Wd} {x u : Wd} (hA : ¬ u <+: x) (hB : ¬ x <+: u) : rd W x u = false := by rw [rd_dec, decide_eq_false hA, decide_eq_false hB]; rfl
theorem rdB {W : List Wd} {x w : Wd} {k : Nat} (hA : ¬ w.drop k <+: x) (hB : x <+: w.drop k) : rd W x (w.drop k) = rd W [] (w.drop (k + x.length)) := by rw [rd_dec, decide_eq_false hA, decide_eq_true hB, List.drop_drop]; simp
set_option maxRecDepth 100000 in
theorem fine_c (c : Cd) (hl : c.ws.length ≤ maxLen) : PC Try.prog 26 [.agg 2 (cdF c)] (.bool (fineC c)) := by
 have hML : maxLen = 9223372036854775807 := by decide
 refine zp Try.func26 fun G hG hR => ?_
 refine zs (zrP ?_)
 refine zs (zL (zlP 1 ?_))
 refine zcP cal10 (great_c c hl) ?_
 refine zlP 3 ?_
 refine zcP cal38 (check_c c hl) ?_
 refine zlP 9 ?_
 refine zN (zt ?_)
 refine RetOK_of ?_
 simp [hG, List.getD_cons_zero, List.getD_cons_succ, -List.getD_eq_getElem?_getD, pureOp]
 rfl
set_option maxRecDepth 100000 in
theorem long_c (w : List UInt8) (n : Int) : PC Try.prog 18 [.str w, .int .i64 n] (.bool (lngB w n)) := by
 refine zp Try.func18 fun G hG hR => ?_
 refine zs (zrP ?_)
 refine zs (zrP ?_)
 refine zt ?_
 refine RetOK_of ?_
 simp [hG, List.getD_cons_zero, List.getD_cons_succ, -List.getD_eq_getElem?_getD, pureOp]
 rfl
set_option maxRecDepth 100000 in
theorem checkW_c (c : Cd) (hl : c.ws.length ≤ maxLen) (w : List UInt8) : PC Try.prog 47 [.agg 2 (cdF c), .str w] (.int .i64 (ckN c w)) := by
 refine zp Try.func47 fun G hG hR => ?_
 refine zs (zrP ?_)
 refine zs (zs (zL (zlP 1 ?_)))
 refine zcP cal38 (check_c c hl) ?_
 refine zlP 1 ?_
 refine zN (zy (fun hb7 => ?_) fun hb7 => ?_)
 · refine zs (zrP ?_)
   refine zt ?_
   refine RetOK_of ?_
   simp [hG, List.getD_cons_zero, List.getD_cons_succ, -List.getD_eq_getElem?_getD, pureOp]
   exact (if_pos hb7).symm
 refine zk (zs (zL (zlP 3 ?_)))
 refine zcP cal64 (wcheck_c c.q w) ?_
 refine zlP 1 ?_
 refine zN (zt ?_)
 refine RetOK_of ?_
 simp [hG, List.getD_cons_zero, List.getD_cons_succ, -List.getD_eq_getElem?_getD, pureOp]
 exact (if_neg (by simpa using hb7)).symm
set_option maxRecDepth 100000 in
theorem number_c (c : Cd) (hl : c.ws.length ≤ maxLen) (n : Int) : PC Try.prog 46 [.agg 2 (cdF c), .int .i64 n] (.int .i64 (bdN c n)) := by
 refine zp Try.func46 fun G hG hR => ?_
 refine zs (zrP ?_)
 refine zs (zs (zL (zlP 1 ?_)))
 refine zcP cal38 (check_c c hl) ?_
 refine zlP 1 ?_
 refine zN (zy (fun hb7 => ?_) fun hb7 => ?_)
 · refine zs (zrP ?_)
   refine zt ?_
   refine RetOK_of ?_
   simp [hG, List.getD_cons_zero, List.getD_cons_succ, -List.getD_eq_getElem?_getD, pureOp]
   exact (if_pos hb7).symm
 refine zk (zs (zs (zrP ?_)))
 refine zy (fun hb13 => ?_) fun hb13 => ?_
 · refine zs (zrP ?_)
   refine zt ?_
   refine RetOK_of ?_
   simp [hG, List.getD_cons_zero, List.getD_cons_succ, -List.getD_eq_getElem?_getD, pureOp]
   unfold bdN; rw [if_neg (by simpa using hb7), if_pos (by omega)]
 refine zk (zs (zrP ?_))
 refine zt ?_
 refine RetOK_of ?_
 simp [hG, List.getD_cons_zero, List.getD_cons_succ, -List.getD_eq_getElem?_getD, pureOp]
 unfold bdN; rw [if_neg (by simpa using hb7), if_neg (by omega)]
def BegC (c : Cd) (w : Wd) (k : Nat) : Prop := ∀ (at0 : Nat) (m : List (Int × Bool)), at0 + k = w.length → Memo c.ws w m → FC Try.prog 86 [.int .i64 (at0 : Nat), .vptr 1 (fun _ => .str w) 0, .ptr (0, 0) 0 0, .vptr 2 (cdF c) 0, .ptr (2, 0) 0 0] [(0, .one (.arr 1 1 (fun _ _ => .map (1, 0)))), (1, .one (.mp (mpE intK boolV (m)))), (2, .one (.arr 1 1 (fun _ _ => .fn 86 4 (fun j => [.vptr 1 (fun _ => .str w) 0, .ptr (0, 0) 0 0, .vptr 2 (cdF c) 0, .ptr (2, 0) 0 0].getD j .any))))] 3 (fun m2 : List (Int × Bool) => Memo c.ws w m2) (fun _ => .bool (rd c.ws [] (w.drop at0))) (fun m2 => [(0, .one (.arr 1 1 (fun _ _ => .map (1, 0)))), (1, .one (.mp (mpE intK boolV (m2)))), (2, .one (.arr 1 1 (fun _ _ => .fn 86 4 (fun j => [.vptr 1 (fun _ => .str w) 0, .ptr (0, 0) 0 0, .vptr 2 (cdF c) 0, .ptr (2, 0) 0 0].getD j .any))))]) (fun _ => 3)
set_option maxRecDepth 100000 in
theorem is_c (c : Cd) (hl : c.ws.length ≤ maxLen) (hv : CdOK c) (w : List UInt8) (hw : w.length ≤ 1000000) (k0 : Nat) (ih : ∀ k, k < k0 → BegC c w k) (at0 : Nat) (m : List (Int × Bool)) (ha : at0 + k0 = w.length) (hm : Memo c.ws w m) : FC Try.prog 86 [.int .i64 (at0 : Nat), .vptr 1 (fun _ => .str w) 0, .ptr (0, 0) 0 0, .vptr 2 (cdF c) 0, .ptr (2, 0) 0 0] [(0, .one (.arr 1 1 (fun _ _ => .map (1, 0)))), (1, .one (.mp (mpE intK boolV (m)))), (2, .one (.arr 1 1 (fun _ _ => .fn 86 4 (fun j => [.vptr 1 (fun _ => .str w) 0, .ptr (0, 0) 0 0, .vptr 2 (cdF c) 0, .ptr (2, 0) 0 0].getD j .any))))] 3 (fun m2 : List (Int × Bool) => Memo c.ws w m2) (fun m2 : List (Int × Bool) => .bool (rd c.ws [] (w.drop at0))) (fun m2 : List (Int × Bool) => [(0, .one (.arr 1 1 (fun _ _ => .map (1, 0)))), (1, .one (.mp (mpE intK boolV (m2)))), (2, .one (.arr 1 1 (fun _ _ => .fn 86 4 (fun j => [.vptr 1 (fun _ => .str w) 0, .ptr (0, 0) 0 0, .vptr 2 (cdF c) 0, .ptr (2, 0) 0 0].getD j .any))))]) (fun m2 : List (Int × Bool) => 3) := by
 have hML : maxLen = 9223372036854775807 := by decide
 refine FC_introS T_ok Try.func86 rfl (by simp [Try.ntmps86]) fun G hG hR => ?_
 simp only [Try.ntmps86, Try.results86] at hG ⊢
 simp only [argEnv, Nat.zero_add, Nat.reduceAdd]
 refine zs (zrP ?_)
 refine zs (zs (zrP ?_))
 refine zy (fun hb14 => ?_) fun hb14 => ?_
 · refine zs (zrP ?_)
   refine zt ?_
   refine RetF_of (m) (id) (fun _ => false) (fun _ => false) hm ?_ ?_ (by rfl) (by simp) (fun k _ => ⟨rfl, rfl⟩)
   · simp [hG, List.getD_cons_zero, List.getD_cons_succ, -List.getD_eq_getElem?_getD]; rw [List.drop_eq_nil_of_le (by omega)]; exact rd_nil
   simp [hG, List.getD_cons_zero, List.getD_cons_succ, -List.getD_eq_getElem?_getD, pureOp]
 refine zk (zs (zrP ?_))
 refine zs (zs (zrP ?_))
 refine zy (fun hb21 => ?_) fun hb21 => ?_
 · refine zs (zrP ?_)
   refine zt ?_
   refine RetF_of (m) (id) (fun _ => false) (fun _ => false) hm ?_ ?_ (by rfl) (by simp) (fun k _ => ⟨rfl, rfl⟩)
   · simp [hG, List.getD_cons_zero, List.getD_cons_succ, -List.getD_eq_getElem?_getD]; exact memo_at hm hb21
   simp [hG, List.getD_cons_zero, List.getD_cons_succ, -List.getD_eq_getElem?_getD, pureOp]
 refine zk (zs (zs (zrP ?_)))
 refine zb ?_
 refine awpS_loop (α := Nat × List (Int × Bool)) (fun x => ⟨[(0, .int .i64 (at0 : Nat)), (1, .vptr 1 (fun _ => .str w) 0), (2, .ptr (0, 0) 0 0), (3, .vptr 2 (cdF c) 0), (4, .ptr (2, 0) 0 0), (7, .bool false), (24, strs c.ws), (25, .int .i64 c.ws.length), (26, .int .i64 (x.1 : Nat))], [(0, .one (.arr 1 1 (fun _ _ => .map (1, 0)))), (1, .one (.mp (mpE intK boolV (x.2)))), (2, .one (.arr 1 1 (fun _ _ => .fn 86 4 (fun j => [.vptr 1 (fun _ => .str w) 0, .ptr (0, 0) 0 0, .vptr 2 (cdF c) 0, .ptr (2, 0) 0 0].getD j .any))))], 3⟩) (fun x => x.1 ≤ c.ws.length ∧ Memo c.ws w x.2 ∧ ∀ j, j < x.1 → rd c.ws (c.ws.getD j []) (w.drop at0) = false) (fun x => c.ws.length - x.1) ((0, m)) (⟨Nat.zero_le _, hm, fun j hj => absurd hj (Nat.not_lt_zero _)⟩) ?_ ?_
 · refine wk_of (id) (fun _ => false) (fun _ => false) ?_ ?_ rfl (by simp) (fun k hk => by first | exact ⟨rfl, rfl⟩ | (revert k; decide) | (obtain rfl : k = 0 := (by omega); exact ⟨rfl, rfl⟩) | (have hk2 : k = 0 ∨ k = 1 := (by omega); rcases hk2 with rfl | rfl <;> exact ⟨rfl, rfl⟩))
   · simp [hG, hb21, List.getD_cons_zero, List.getD_cons_succ, -List.getD_eq_getElem?_getD]
   simp [hG, List.getD_cons_zero, List.getD_cons_succ, -List.getD_eq_getElem?_getD, pureOp]
 rintro ⟨i, m2⟩ ⟨hi, hm2, hn⟩
 refine zs (zrP ?_)
 refine zs (zy (fun hb27 => ?_) fun hb27 => ?_)
 · refine zk (zs (zb (zs (zrP ?_))))
   refine zs ?_
   by_cases hA : (w.drop at0) <+: (c.ws.getD i [])
   · refine zL (zl 4 ?_ (h := by intro c K h; simp [hG, List.getD_cons_zero, List.getD_cons_succ, -List.getD_eq_getElem?_getD, pureOp, hA]; first | exact z1 c h | exact ⟨.mk c, h⟩))
     refine zc cal27 (preW_c (c.ws.getD i []) (w.drop at0)) ?_ (a := fun hg => by simp [hG, List.getD_cons_zero, List.getD_cons_succ, -List.getD_eq_getElem?_getD, pureOp, hA]) (b := fun hg => by simp [hG, List.getD_cons_zero, List.getD_cons_succ, -List.getD_eq_getElem?_getD, pureOp, hA]) (h := by intro K h; simp [hG, List.getD_cons_zero, List.getD_cons_succ, -List.getD_eq_getElem?_getD, pureOp, hA]; exact h)
     refine zl 5 ?_ (h := by intro c K h; simp [hG, List.getD_cons_zero, List.getD_cons_succ, -List.getD_eq_getElem?_getD, pureOp, hA]; first | exact z1 c h | exact ⟨.mk c, h⟩)
     refine zc cal27 (preW_c (w.drop at0) (c.ws.getD i [])) ?_ (a := fun hg => by first | (simp [hG, List.getD_cons_zero, List.getD_cons_succ, -List.getD_eq_getElem?_getD, pureOp, hA]; done) | (simp [-List.getD_eq_getElem?_getD] at hg; done) | (simp [-List.getD_eq_getElem?_getD] at hg; simp [hG, List.getD_cons_zero, List.getD_cons_succ, -List.getD_eq_getElem?_getD, pureOp, hA]; first | omega | exact hg | (simp_all [-List.getD_eq_getElem?_getD]; done) | (simp_all [-List.getD_eq_getElem?_getD]; first | exact ⟨rfl, rfl⟩ | exact rfl))) (b := fun hg => by first | (simp [hG, List.getD_cons_zero, List.getD_cons_succ, -List.getD_eq_getElem?_getD, pureOp, hA]; done) | (simp [-List.getD_eq_getElem?_getD] at hg; done) | (simp [-List.getD_eq_getElem?_getD] at hg; simp [hG, List.getD_cons_zero, List.getD_cons_succ, -List.getD_eq_getElem?_getD, pureOp, hA]; first | omega | exact hg | (simp_all [-List.getD_eq_getElem?_getD]; done) | (simp_all [-List.getD_eq_getElem?_getD]; first | exact ⟨rfl, rfl⟩ | exact rfl))) (h := by intro K h; simp [hG, List.getD_cons_zero, List.getD_cons_succ, -List.getD_eq_getElem?_getD, pureOp, hA]; exact h)
     refine zl 6 ?_ (h := by intro c K h; simp [hG, List.getD_cons_zero, List.getD_cons_succ, -List.getD_eq_getElem?_getD, pureOp, hA]; first | exact z1 c h | exact ⟨.mk c, h⟩)
     refine awpL_not (.bool true) rfl (fun K hK => ?_) (by intro c hc; cases hc)
     simp [hG, List.getD_cons_zero, List.getD_cons_succ, -List.getD_eq_getElem?_getD, pureOp, hA]
     refine hK _ ?_
     clear K hK
     refine zl 2 ?_ (h := by intro c K h; simp [hG, List.getD_cons_zero, List.getD_cons_succ, -List.getD_eq_getElem?_getD, pureOp, hA]; first | exact z1 c h | exact ⟨.mk c, h⟩)
     refine zN ?_
     refine awpS_cond rfl (fun hb49 => ?_) (fun hb49 => ?_)
     · try simp [-List.getD_eq_getElem?_getD] at hb49
       refine zs (zr ?_ (h := by intro c K h; simp [hG, List.getD_cons_zero, List.getD_cons_succ, -List.getD_eq_getElem?_getD, pureOp, hA]; first | exact z1 c h | exact ⟨.mk c, h⟩))
       refine zx ?_
       refine blockQ_exit_ne (by decide) (thenQ_exit ?_)
       refine ztx (zbx (zs (zr ?_ (h := by intro c K h; simp [hG, List.getD_cons_zero, List.getD_cons_succ, -List.getD_eq_getElem?_getD, pureOp, hA]; first | exact z1 c h | exact ⟨.mk c, h⟩))))
       refine zs (zr ?_ (h := by intro c K h; simp [hG, List.getD_cons_zero, List.getD_cons_succ, -List.getD_eq_getElem?_getD, pureOp, hA]; first | exact z1 c h | exact ⟨.mk c, h⟩))
       refine zt ?_
       refine RetF_of (alPut m2 (at0 : Int) true) (id) (fun _ => false) (fun _ => false) (memo_put hm2 (rd_yes hb27 (rdA hA)).symm) ?_ ?_ (by rfl) (by simp) (fun k _ => ⟨rfl, rfl⟩)
       · simp [hG, List.getD_cons_zero, List.getD_cons_succ, -List.getD_eq_getElem?_getD]; exact rd_yes hb27 (rdA hA)
       simp [hG, List.getD_cons_zero, List.getD_cons_succ, -List.getD_eq_getElem?_getD, pureOp, hA]
     simp at hb49
   by_cases hB : (c.ws.getD i []) <+: (w.drop at0)
   · have hbl := hB.length_le
     rw [List.length_drop] at hbl
     have hxp := List.length_pos_iff.2 (hv.ne _ (W_mem hb27))
     refine zL (zl 4 ?_ (h := by intro c K h; simp [hG, List.getD_cons_zero, List.getD_cons_succ, -List.getD_eq_getElem?_getD, pureOp, hA, hB]; first | exact z1 c h | exact ⟨.mk c, h⟩))
     refine zc cal27 (preW_c (c.ws.getD i []) (w.drop at0)) ?_ (a := fun hg => by simp [hG, List.getD_cons_zero, List.getD_cons_succ, -List.getD_eq_getElem?_getD, pureOp, hA, hB]) (b := fun hg => by simp [hG, List.getD_cons_zero, List.getD_cons_succ, -List.getD_eq_getElem?_getD, pureOp, hA, hB]) (h := by intro K h; simp [hG, List.getD_cons_zero, List.getD_cons_succ, -List.getD_eq_getElem?_getD, pureOp, hA, hB]; exact h)
     refine zl 5 ?_ (h := by intro c K h; simp [hG, List.getD_cons_zero, List.getD_cons_succ, -List.getD_eq_getElem?_getD, pureOp, hA, hB]; first | exact z1 c h | exact ⟨.mk c, h⟩)
     refine zc cal27 (preW_c (w.drop at0) (c.ws.getD i [])) ?_ (a := fun hg => by first | (simp [hG, List.getD_cons_zero, List.getD_cons_succ, -List.getD_eq_getElem?_getD, pureOp, hA, hB]; done) | (simp [-List.getD_eq_getElem?_getD] at hg; done) | (simp [-List.getD_eq_getElem?_getD] at hg; simp [hG, List.getD_cons_zero, List.getD_cons_succ, -List.getD_eq_getElem?_getD, pureOp, hA, hB]; first | omega | exact hg | (simp_all [-List.getD_eq_getElem?_getD]; done) | (simp_all [-List.getD_eq_getElem?_getD]; first | exact ⟨rfl, rfl⟩ | exact rfl))) (b := fun hg => by first | (simp [hG, List.getD_cons_zero, List.getD_cons_succ, -List.getD_eq_getElem?_getD, pureOp, hA, hB]; done) | (simp [-List.getD_eq_getElem?_getD] at hg; done) | (simp [-List.getD_eq_getElem?_getD] at hg; simp [hG, List.getD_cons_zero, List.getD_cons_succ, -List.getD_eq_getElem?_getD, pureOp, hA, hB]; first | omega | exact hg | (simp_all [-List.getD_eq_getElem?_getD]; done) | (simp_all [-List.getD_eq_getElem?_getD]; first | exact ⟨rfl, rfl⟩ | exact rfl))) (h := by intro K h; simp [hG, List.getD_cons_zero, List.getD_cons_succ, -List.getD_eq_getElem?_getD, pureOp, hA, hB]; exact h)
     refine zl 6 ?_ (h := by intro c K h; simp [hG, List.getD_cons_zero, List.getD_cons_succ, -List.getD_eq_getElem?_getD, pureOp, hA, hB]; first | exact z1 c h | exact ⟨.mk c, h⟩)
     refine awpL_fcg cal86 [0, 1, 2] (fun _ => false) (ih (k0 - (c.ws.getD i []).length) (by omega) (at0 + (c.ws.getD i []).length) m2 (by omega) hm2) rfl rfl rfl rfl (by simp) (.inl fun _ => rfl) ?_ ?_ ?_ fun K hK m3 hI hno => ?_
     · simp [hG, List.getD_cons_zero, List.getD_cons_succ, -List.getD_eq_getElem?_getD, pureOp, hA, hB]
     · simp [hG, List.range'_succ, List.range'_zero, List.getD_cons_zero, List.getD_cons_succ, -List.getD_eq_getElem?_getD]
     · simp [hG, List.getD_cons_zero, List.getD_cons_succ, -List.getD_eq_getElem?_getD, pureOp, hA, hB]
     simp [hG, List.getD_cons_zero, List.getD_cons_succ, -List.getD_eq_getElem?_getD, pureOp, hA, hB]
     refine hK _ ?_
     clear K hK
     refine zl 2 ?_ (h := by intro c K h; simp [hG, List.getD_cons_zero, List.getD_cons_succ, -List.getD_eq_getElem?_getD, pureOp, hA, hB]; first | exact z1 c h | exact ⟨.mk c, h⟩)
     refine zN (zy (fun hb49 => ?_) fun hb49 => ?_)
     · refine zs (zr ?_ (h := by intro c K h; simp [hG, List.getD_cons_zero, List.getD_cons_succ, -List.getD_eq_getElem?_getD, pureOp, hA, hB]; first | exact z1 c h | exact ⟨.mk c, h⟩))
       refine zx ?_
       refine blockQ_exit_ne (by decide) (thenQ_exit ?_)
       refine ztx (zbx (zs (zr ?_ (h := by intro c K h; simp [hG, List.getD_cons_zero, List.getD_cons_succ, -List.getD_eq_getElem?_getD, pureOp, hA, hB]; first | exact z1 c h | exact ⟨.mk c, h⟩))))
       refine zs (zr ?_ (h := by intro c K h; simp [hG, List.getD_cons_zero, List.getD_cons_succ, -List.getD_eq_getElem?_getD, pureOp, hA, hB]; first | exact z1 c h | exact ⟨.mk c, h⟩))
       refine zt ?_
       refine RetF_of (alPut m3 (at0 : Int) true) (id) (fun _ => false) (fun _ => false) (memo_put hI (rd_yes hb27 ((rdB hA hB).trans hb49)).symm) ?_ ?_ (by rfl) (by simp) (fun k _ => ⟨rfl, rfl⟩)
       · simp [hG, List.getD_cons_zero, List.getD_cons_succ, -List.getD_eq_getElem?_getD]; exact rd_yes hb27 ((rdB hA hB).trans hb49)
       simp [hG, List.getD_cons_zero, List.getD_cons_succ, -List.getD_eq_getElem?_getD, pureOp, hA, hB]
     refine zk (zn (zbn (zr ?_ (h := by intro c K h; simp [hG, List.getD_cons_zero, List.getD_cons_succ, -List.getD_eq_getElem?_getD, pureOp, hA, hB]; first | exact z1 c h | exact ⟨.mk c, h⟩))))
     refine zn ?_
     refine round_end ((i + 1, m3)) (⟨by omega, hI, step_all hn (by rw [rdB hA hB]; exact hb49)⟩) (by omega) ?_
     refine wk_of (id) (fun _ => false) (fun _ => false) ?_ ?_ rfl (by simp) (fun k hk => by first | exact ⟨rfl, rfl⟩ | (revert k; decide) | (obtain rfl : k = 0 := (by omega); exact ⟨rfl, rfl⟩) | (have hk2 : k = 0 ∨ k = 1 := (by omega); rcases hk2 with rfl | rfl <;> exact ⟨rfl, rfl⟩))
     · simp [hG, List.getD_cons_zero, List.getD_cons_succ, -List.getD_eq_getElem?_getD, pureOp, hA, hB]
     simp [hG, List.getD_cons_zero, List.getD_cons_succ, -List.getD_eq_getElem?_getD, pureOp, hA, hB]
   refine zL (zl 4 ?_ (h := by intro c K h; simp [hG, List.getD_cons_zero, List.getD_cons_succ, -List.getD_eq_getElem?_getD, pureOp, hA, hB]; first | exact z1 c h | exact ⟨.mk c, h⟩))
   refine zc cal27 (preW_c (c.ws.getD i []) (w.drop at0)) ?_ (a := fun hg => by simp [hG, List.getD_cons_zero, List.getD_cons_succ, -List.getD_eq_getElem?_getD, pureOp, hA, hB]) (b := fun hg => by simp [hG, List.getD_cons_zero, List.getD_cons_succ, -List.getD_eq_getElem?_getD, pureOp, hA, hB]) (h := by intro K h; simp [hG, List.getD_cons_zero, List.getD_cons_succ, -List.getD_eq_getElem?_getD, pureOp, hA, hB]; exact h)
   refine zl 5 ?_ (h := by intro c K h; simp [hG, List.getD_cons_zero, List.getD_cons_succ, -List.getD_eq_getElem?_getD, pureOp, hA, hB]; first | exact z1 c h | exact ⟨.mk c, h⟩)
   refine zc cal27 (preW_c (w.drop at0) (c.ws.getD i [])) ?_ (a := fun hg => by first | (simp [hG, List.getD_cons_zero, List.getD_cons_succ, -List.getD_eq_getElem?_getD, pureOp, hA, hB]; done) | (simp [-List.getD_eq_getElem?_getD] at hg; done) | (simp [-List.getD_eq_getElem?_getD] at hg; simp [hG, List.getD_cons_zero, List.getD_cons_succ, -List.getD_eq_getElem?_getD, pureOp, hA, hB]; first | omega | exact hg | (simp_all [-List.getD_eq_getElem?_getD]; done) | (simp_all [-List.getD_eq_getElem?_getD]; first | exact ⟨rfl, rfl⟩ | exact rfl))) (b := fun hg => by first | (simp [hG, List.getD_cons_zero, List.getD_cons_succ, -List.getD_eq_getElem?_getD, pureOp, hA, hB]; done) | (simp [-List.getD_eq_getElem?_getD] at hg; done) | (simp [-List.getD_eq_getElem?_getD] at hg; simp [hG, List.getD_cons_zero, List.getD_cons_succ, -List.getD_eq_getElem?_getD, pureOp, hA, hB]; first | omega | exact hg | (simp_all [-List.getD_eq_getElem?_getD]; done) | (simp_all [-List.getD_eq_getElem?_getD]; first | exact ⟨rfl, rfl⟩ | exact rfl))) (h := by intro K h; simp [hG, List.getD_cons_zero, List.getD_cons_succ, -List.getD_eq_getElem?_getD, pureOp, hA, hB]; exact h)
   refine zl 6 ?_ (h := by intro c K h; simp [hG, List.getD_cons_zero, List.getD_cons_succ, -List.getD_eq_getElem?_getD, pureOp, hA, hB]; first | exact z1 c h | exact ⟨.mk c, h⟩)
   refine awpL_not (.bool true) rfl (fun K hK => ?_) (by intro c hc; cases hc)
   simp [hG, List.getD_cons_zero, List.getD_cons_succ, -List.getD_eq_getElem?_getD, pureOp, hA, hB]
   refine hK _ ?_
   clear K hK
   refine zl 2 ?_ (h := by intro c K h; simp [hG, List.getD_cons_zero, List.getD_cons_succ, -List.getD_eq_getElem?_getD, pureOp, hA, hB]; first | exact z1 c h | exact ⟨.mk c, h⟩)
   refine zN ?_
   refine awpS_cond rfl (fun hb49 => ?_) (fun hb49 => ?_)
   · simp at hb49
   try simp [-List.getD_eq_getElem?_getD] at hb49
   refine zk (zn (zbn (zr ?_ (h := by intro c K h; simp [hG, List.getD_cons_zero, List.getD_cons_succ, -List.getD_eq_getElem?_getD, pureOp, hA, hB]; first | exact z1 c h | exact ⟨.mk c, h⟩))))
   refine zn ?_
   refine round_end ((i + 1, m2)) (⟨by omega, hm2, step_all hn (rdN hA hB)⟩) (by omega) ?_
   refine wk_of (id) (fun _ => false) (fun _ => false) ?_ ?_ rfl (by simp) (fun k hk => by first | exact ⟨rfl, rfl⟩ | (revert k; decide) | (obtain rfl : k = 0 := (by omega); exact ⟨rfl, rfl⟩) | (have hk2 : k = 0 ∨ k = 1 := (by omega); rcases hk2 with rfl | rfl <;> exact ⟨rfl, rfl⟩))
   · simp [hG, List.getD_cons_zero, List.getD_cons_succ, -List.getD_eq_getElem?_getD, pureOp, hA, hB]
   simp [hG, List.getD_cons_zero, List.getD_cons_succ, -List.getD_eq_getElem?_getD, pureOp, hA, hB]
 obtain rfl : i = c.ws.length := (by omega)
 refine zx (ztx (zbx (zs (zrP ?_))))
 refine zs (zrP ?_)
 refine zt ?_
 refine RetF_of (alPut m2 (at0 : Int) false) (id) (fun _ => false) (fun _ => false) (memo_put hm2 (rd_no hv.ne (fun e => by have := congrArg List.length e; rw [List.length_drop] at this; simp only [List.length_nil] at this; omega) hn).symm) ?_ ?_ (by rfl) (by simp) (fun k _ => ⟨rfl, rfl⟩)
 · simp [hG, List.getD_cons_zero, List.getD_cons_succ, -List.getD_eq_getElem?_getD]; exact rd_no hv.ne (fun e => by have := congrArg List.length e; rw [List.length_drop] at this; simp only [List.length_nil] at this; omega) hn
 simp [hG, List.getD_cons_zero, List.getD_cons_succ, -List.getD_eq_getElem?_getD, pureOp]
theorem is_all {c : Cd} (hl : c.ws.length ≤ maxLen) (hv : CdOK c) {w : List UInt8} (hw : w.length ≤ 1000000) (k : Nat) : BegC c w k := Nat.strongRecOn k fun k ih at0 m ha hm => is_c c hl hv w hw k ih at0 m ha hm
theorem app_oneI {K : List Int} {x : Int} {w : Nat → Nat → AVal} {i : Nat} (hw : w 0 0 = .int .i64 x) (hi : i < K.length + 1) : app (fun p _ => .int .i64 (K.getD p 0)) K.length w i 0 = .int .i64 ((K ++ [x]).getD i 0) := by
  unfold app
  by_cases h : i < K.length
  · rw [if_pos h]; simp [List.getD, List.getElem?_append_left h]
  · obtain rfl : i = K.length := by omega
    rw [if_neg h, Nat.sub_self, hw]; simp [List.getD]
theorem pre_yes {W : List Wd} {v : Wd} {i : Nat} (h : rd W (W.getD i []) v = true) : preA W v (i + 1) = preA W v i ++ [(i : Int)] := by rw [preA_succ, if_pos (show stB W i v = true from h)]
theorem pre_not {W : List Wd} {v : Wd} {i : Nat} (h : rd W (W.getD i []) v = false) : preA W v (i + 1) = preA W v i := by rw [preA_succ, if_neg (by unfold stB; rw [h]; simp), List.append_nil]
@[simp] theorem preA_zero {W : List Wd} {v : Wd} : preA W v 0 = [] := rfl
theorem rdB0 {W : List Wd} {x w : Wd} (hA : ¬ w <+: x) (hB : x <+: w) : rd W x w = rd W [] (w.drop x.length) := by rw [rd_dec, decide_eq_false hA, decide_eq_true hB]; simp
theorem ck_code {c : Cd} {w : Wd} (h : ckN c w = 0) : cdN c = 0 := by
  unfold ckN at h
  split at h
  · cases h
  · rename_i h2; simpa using h2
@[simp] theorem VLe_yld {h : Heap} {σ : Lift.Id → Lift.Id} {fz : Nat → Bool} {vz : Lift.Id → Bool} {x l l' n n' : Nat} {vs vs' : Array Value} {f f' : Nat → AVal} : VLe h σ fz vz x (.yld l vs n f) (.yld l' vs' n' f') = (l' = l ∧ vs' = vs ∧ n' = n ∧ ∀ j, j < n → VLe h σ fz vz x (f j) (f' j)) := rfl
set_option maxRecDepth 100000 in
theorem begins_c (c : Cd) (w : List UInt8) : FC1 Try.prog 73 [.agg 2 (cdF c), .str w] [] 0 (.fn 86 4 (fun j => [.vptr 1 (fun _ => .str w) 0, .ptr (0, 0) 0 0, .vptr 2 (cdF c) 0, .ptr (2, 0) 0 0].getD j .any)) [(0, .one (.arr 1 1 (fun _ _ => .map (1, 0)))), (1, .one (.mp (mpE intK boolV (([] : List (Int × Bool)))))), (2, .one (.arr 1 1 (fun _ _ => .fn 86 4 (fun j => [.vptr 1 (fun _ => .str w) 0, .ptr (0, 0) 0 0, .vptr 2 (cdF c) 0, .ptr (2, 0) 0 0].getD j .any))))] 3 := by
 refine FC_introS T_ok Try.func73 rfl (by simp [Try.ntmps73]) fun G hG hR => ?_
 simp only [Try.ntmps73, Try.results73] at hG ⊢
 simp only [argEnv, Nat.zero_add, Nat.reduceAdd]
 refine zs (zr ?_)
 refine zs (zr ?_)
 refine zs (zr ?_)
 refine zs (zr ?_)
 refine zs (zr ?_)
 refine zt ?_
 refine RetF_of (()) (fun k => if k = 0 then 3 else if k = 1 then 2 else if k = 2 then 4 else k) (fun k => k == 0 || k == 1) (fun _ => false) trivial ?_ ?_ (by rfl) (by simp) (fun k hk => absurd hk (Nat.not_lt_zero _))
 · simp [hG, List.getD_cons_zero, List.getD_cons_succ, -List.getD_eq_getElem?_getD]
 simp [hG, List.getD_cons_zero, List.getD_cons_succ, -List.getD_eq_getElem?_getD]
set_option maxRecDepth 100000 in
theorem starts_c (c : Cd) (w : List UInt8) : PC Try.prog 48 [.agg 2 (cdF c), .str w] (.fn 72 2 (fun j => [.vptr 2 (cdF c) 0, .vptr 1 (fun _ => .str w) 0].getD j .any)) := by
 refine zp Try.func48 fun G hG hR => ?_
 refine zs (zr ?_)
 refine zs (zr ?_)
 refine zt ?_
 exact zR
set_option maxRecDepth 100000 in
theorem preB_y (q : Int) (K : List Int) (hK : K.length ≤ 100000) {l : Nat} {rec : Loop} {vs : Array Value} (hok : RecOK rec [7] vs #[18] (rngA Try.f19.body 0) (rngB Try.f19.body 0) 24) : YC Try.prog l rec vs ([.int .i64 q] ++ [.ptr (0, 0) 0 0]) [(0, .one (.arr 1 1 (fun _ _ => .sl (1, 0) 0 (K).length))), (1, .one (.arr (K).length 1 (fun p _ => .int .i64 ((K).getD p 0))))] 2 (fun _ : Unit => True) (fun _ : Unit => .bool true) (fun _ : Unit => [(0, .one (.arr 1 1 (fun _ _ => .sl (2, 0) 0 ((K ++ [q])).length))), (2, .one (.arr ((K ++ [q])).length 1 (fun p _ => .int .i64 (((K ++ [q])).getD p 0))))]) (fun _ : Unit => 3) := by
 refine YC_introS hok rfl rfl (by simp [nobH, nobO]) rfl (by simp) rfl fun G hG hR => ?_
 show AwpS _ _ _ _ _ ⟨[(18, .int .i64 q), (7, .ptr (0, 0) 0 0)], [(0, .one (.arr 1 1 (fun _ _ => .sl (1, 0) 0 (K).length))), (1, .one (.arr (K).length 1 (fun p _ => .int .i64 ((K).getD p 0))))], 2⟩
 refine zr ?_
 refine zn ?_
 refine ⟨rfl, fun G hG hR => ?_⟩
 refine zb (zr ?_)
 refine zn (zbn (zn ?_))
 refine ⟨rfl, RetY_of (()) (fun k => if k = 2 then 3 else k) (fun _ => false) (fun _ => false) trivial ?_ (by rfl) (by simp) (fun k hk => ⟨if_neg (by omega), rfl⟩)⟩
 simp [hG, List.getD_cons_zero, List.getD_cons_succ, -List.getD_eq_getElem?_getD]; exact fun i hi => app_oneI rfl hi
set_option maxRecDepth 100000 in
theorem startsP_c (l : Nat) (rec : Loop) (vs : Array Value) (hok : RecOK rec [7] vs #[18] (rngA Try.f19.body 0) (rngB Try.f19.body 0) 24) (c : Cd) (hl : c.ws.length ≤ maxLen) (hv : CdOK c) (w : List UInt8) (hw : w.length ≤ 1000000) : FCY Try.prog 72 l rec [.yld l vs 1 (fun j => [.ptr (0, 0) 0 0].getD j .any), .vptr 2 (cdF c) 0, .vptr 1 (fun _ => .str w) 0] [(0, .one (.arr 1 1 (fun _ _ => .sl (1, 0) 0 (([] : List Int)).length))), (1, .one (.arr (([] : List Int)).length 1 (fun p _ => .int .i64 ((([] : List Int)).getD p 0))))] 2 (fun _ : Unit => True) (fun _ : Unit => .any) (fun _ : Unit => [(0, .one (.arr 1 1 (fun _ _ => .sl (2, 0) 0 ((preL c.ws w)).length))), (2, .one (.arr ((preL c.ws w)).length 1 (fun p _ => .int .i64 (((preL c.ws w)).getD p 0))))]) (fun _ : Unit => 3) := by
 have hML : maxLen = 9223372036854775807 := by decide
 have hWn := hv.n
 refine FCY_introS T_ok (by simp [nobH, nobO]) Try.func72 rfl (by simp [Try.ntmps72]) fun G hG hR hrec => ?_
 simp only [Try.ntmps72, Try.results72] at hG ⊢
 simp only [argEnv, Nat.zero_add, Nat.reduceAdd]
 refine zs (zL (zl 2 ?_ (h := by intro c K h; simp [hG, List.getD_cons_zero, List.getD_cons_succ, -List.getD_eq_getElem?_getD, pureOp, preA_zero]; first | exact z1 c h | exact ⟨.mk c, h⟩)))
 refine zf cal73 [] (begins_c c w) (fun x hI hno => ?_) (a := by simp [hG, List.getD_cons_zero, List.getD_cons_succ, -List.getD_eq_getElem?_getD, pureOp, preA_zero]) (b := by simp [hG, List.getD_cons_zero, List.getD_cons_succ, -List.getD_eq_getElem?_getD, pureOp, preA_zero]) (c := by simp [hG, List.getD_cons_zero, List.getD_cons_succ, -List.getD_eq_getElem?_getD, pureOp, preA_zero]) (h := by intro K h x hI hno; simp [hG, List.getD_cons_zero, List.getD_cons_succ, -List.getD_eq_getElem?_getD, pureOp, preA_zero]; exact h x hI hno)
 refine zl 1 ?_ (h := by intro c K h; simp [hG, List.getD_cons_zero, List.getD_cons_succ, -List.getD_eq_getElem?_getD, pureOp, preA_zero]; first | exact z1 c h | exact ⟨.mk c, h⟩)
 refine zN (zs (zs (zr ?_ (h := by intro c K h; simp [hG, List.getD_cons_zero, List.getD_cons_succ, -List.getD_eq_getElem?_getD, pureOp, preA_zero]; first | exact z1 c h | exact ⟨.mk c, h⟩))))
 refine zb ?_
 refine awpS_loop (α := Nat × List (Int × Bool)) (fun x => ⟨[(0, .yld l vs 1 (fun j => [.ptr (0, 0) 0 0].getD j .any)), (1, .vptr 2 (cdF c) 0), (2, .vptr 1 (fun _ => .str w) 0), (4, .fn 86 4 (fun j => [.vptr 1 (fun _ => .str w) 0, .ptr (2, 0) 0 0, .vptr 2 (cdF c) 0, .ptr (4, 0) 0 0].getD j .any)), (5, .int .i64 (x.1 : Nat))], [(0, .one (.arr 1 1 (fun _ _ => .sl (1, 0) 0 (([] : List Int)).length))), (1, .one (.arr (([] : List Int)).length 1 (fun p _ => .int .i64 ((([] : List Int)).getD p 0)))), (2, .one (.arr 1 1 (fun _ _ => .map (3, 0)))), (3, .one (.mp (mpE intK boolV (x.2)))), (4, .one (.arr 1 1 (fun _ _ => .fn 86 4 (fun j => [.vptr 1 (fun _ => .str w) 0, .ptr (2, 0) 0 0, .vptr 2 (cdF c) 0, .ptr (4, 0) 0 0].getD j .any))))], 5⟩) (fun x => x.1 ≤ w.length ∧ Memo c.ws w x.2) (fun x => x.1) ((w.length, [])) (⟨Nat.le_refl _, memo_nil⟩) ?_ ?_
 · refine wk_of (id) (fun _ => false) (fun _ => false) ?_ ?_ rfl (by simp) (fun k hk => by first | exact ⟨rfl, rfl⟩ | (revert k; decide) | (obtain rfl : k = 0 := (by omega); exact ⟨rfl, rfl⟩) | (have hk2 : k = 0 ∨ k = 1 := (by omega); rcases hk2 with rfl | rfl <;> exact ⟨rfl, rfl⟩))
   · simp [hG, List.getD_cons_zero, List.getD_cons_succ, -List.getD_eq_getElem?_getD, pureOp, preA_zero]
   simp [hG, List.getD_cons_zero, List.getD_cons_succ, -List.getD_eq_getElem?_getD, pureOp, preA_zero]
 rintro ⟨k, m⟩ ⟨hk, hm⟩
 refine zs (zs (zr ?_ (h := by intro c K h; simp [hG, List.getD_cons_zero, List.getD_cons_succ, -List.getD_eq_getElem?_getD, pureOp, preA_zero]; first | exact z1 c h | exact ⟨.mk c, h⟩)))
 refine zy (fun hb14 => ?_) fun hb14 => ?_
 · refine zk (zs (zb (zL (zl 2 ?_ (h := by intro c K h; simp [hG, List.getD_cons_zero, List.getD_cons_succ, -List.getD_eq_getElem?_getD, pureOp, preA_zero]; first | exact z1 c h | exact ⟨.mk c, h⟩)))))
   refine zf cal86 [2, 3, 4] (is_all hl hv hw (w.length - k) k m (by omega) hm) (fun m2 hI hno => ?_) (a := by simp [hG, List.getD_cons_zero, List.getD_cons_succ, -List.getD_eq_getElem?_getD, pureOp, preA_zero]) (b := by simp [hG, List.range'_succ, List.range'_zero, List.getD_cons_zero, List.getD_cons_succ, -List.getD_eq_getElem?_getD]) (c := by simp [hG, List.getD_cons_zero, List.getD_cons_succ, -List.getD_eq_getElem?_getD, pureOp, preA_zero]) (h := by intro K h m2 hI hno; simp [hG, List.getD_cons_zero, List.getD_cons_succ, -List.getD_eq_getElem?_getD, pureOp, preA_zero]; exact h m2 hI hno)
   refine zN (zn (zbn (zr ?_ (h := by intro c K h; simp [hG, List.getD_cons_zero, List.getD_cons_succ, -List.getD_eq_getElem?_getD, pureOp, preA_zero]; first | exact z1 c h | exact ⟨.mk c, h⟩))))
   refine zn ?_
   refine round_end ((k - 1, m2)) (⟨by omega, hI⟩) (by omega) ?_
   refine wk_of (id) (fun _ => false) (fun _ => false) ?_ ?_ rfl (by simp) (fun k hk => by first | exact ⟨rfl, rfl⟩ | (revert k; decide) | (obtain rfl : k = 0 := (by omega); exact ⟨rfl, rfl⟩) | (have hk2 : k = 0 ∨ k = 1 := (by omega); rcases hk2 with rfl | rfl <;> exact ⟨rfl, rfl⟩))
   · simp [hG, List.getD_cons_zero, List.getD_cons_succ, -List.getD_eq_getElem?_getD]; omega
   simp [hG, List.getD_cons_zero, List.getD_cons_succ, -List.getD_eq_getElem?_getD, pureOp, preA_zero]
 obtain rfl : k = 0 := (by omega)
 refine zx (ztx (zbx (zs (zr ?_ (h := by intro c K h; simp [hG, List.getD_cons_zero, List.getD_cons_succ, -List.getD_eq_getElem?_getD, pureOp, preA_zero]; first | exact z1 c h | exact ⟨.mk c, h⟩)))))
 refine zb ?_
 refine awpS_loop (α := Nat × List (Int × Bool)) (fun x => ⟨[(0, .yld l vs 1 (fun j => [.ptr (0, 0) 0 0].getD j .any)), (1, .vptr 2 (cdF c) 0), (2, .vptr 1 (fun _ => .str w) 0), (4, .fn 86 4 (fun j => [.vptr 1 (fun _ => .str w) 0, .ptr (2, 0) 0 0, .vptr 2 (cdF c) 0, .ptr (4, 0) 0 0].getD j .any)), (21, strs c.ws), (22, .int .i64 c.ws.length), (23, .int .i64 (x.1 : Nat))], [(0, .one (.arr 1 1 (fun _ _ => .sl (5, 0) 0 ((preA c.ws w x.1)).length))), (5, .one (.arr ((preA c.ws w x.1)).length 1 (fun p _ => .int .i64 (((preA c.ws w x.1)).getD p 0)))), (2, .one (.arr 1 1 (fun _ _ => .map (3, 0)))), (3, .one (.mp (mpE intK boolV (x.2)))), (4, .one (.arr 1 1 (fun _ _ => .fn 86 4 (fun j => [.vptr 1 (fun _ => .str w) 0, .ptr (2, 0) 0 0, .vptr 2 (cdF c) 0, .ptr (4, 0) 0 0].getD j .any))))], 6⟩) (fun x => x.1 ≤ c.ws.length ∧ Memo c.ws w x.2) (fun x => c.ws.length - x.1) ((0, m)) (⟨Nat.zero_le _, hm⟩) ?_ ?_
 · refine wk_of (fun k => if k = 5 then 1 else k) (fun _ => false) (fun _ => false) ?_ ?_ rfl (by simp) (fun k hk => by first | exact ⟨rfl, rfl⟩ | (revert k; decide) | (obtain rfl : k = 0 := (by omega); exact ⟨rfl, rfl⟩) | (have hk2 : k = 0 ∨ k = 1 := (by omega); rcases hk2 with rfl | rfl <;> exact ⟨rfl, rfl⟩))
   · simp [hG, List.getD_cons_zero, List.getD_cons_succ, -List.getD_eq_getElem?_getD, pureOp, preA_zero]
   simp [hG, List.getD_cons_zero, List.getD_cons_succ, -List.getD_eq_getElem?_getD, pureOp, preA_zero]
 rintro ⟨i, m⟩ ⟨hi, hm⟩
 refine zs (zr ?_ (h := by intro c K h; simp [hG, List.getD_cons_zero, List.getD_cons_succ, -List.getD_eq_getElem?_getD, pureOp, preA_zero]; first | exact z1 c h | exact ⟨.mk c, h⟩))
 refine zs (zy (fun hb24 => ?_) fun hb24 => ?_)
 · have hpl := preA_len (W := c.ws) (v := w) (n := i)
   refine zk (zs (zb (zs (zr ?_ (h := by intro c K h; simp [hG, List.getD_cons_zero, List.getD_cons_succ, -List.getD_eq_getElem?_getD, pureOp, preA_zero]; first | exact z1 c h | exact ⟨.mk c, h⟩)))))
   refine zs ?_
   by_cases hA : w <+: (c.ws.getD i [])
   · have hps := pre_yes (rdA hA)
     refine zL (zl 2 ?_ (h := by intro c K h; simp [hG, List.getD_cons_zero, List.getD_cons_succ, -List.getD_eq_getElem?_getD, pureOp, preA_zero, hA]; first | exact z1 c h | exact ⟨.mk c, h⟩))
     refine zc cal27 (preW_c (c.ws.getD i []) w) ?_ (a := fun hg => by simp [hG, List.getD_cons_zero, List.getD_cons_succ, -List.getD_eq_getElem?_getD, pureOp, preA_zero, hA]) (b := fun hg => by simp [hG, List.getD_cons_zero, List.getD_cons_succ, -List.getD_eq_getElem?_getD, pureOp, preA_zero, hA]) (h := by intro K h; simp [hG, List.getD_cons_zero, List.getD_cons_succ, -List.getD_eq_getElem?_getD, pureOp, preA_zero, hA]; exact h)
     refine zl 3 ?_ (h := by intro c K h; simp [hG, List.getD_cons_zero, List.getD_cons_succ, -List.getD_eq_getElem?_getD, pureOp, preA_zero, hA]; first | exact z1 c h | exact ⟨.mk c, h⟩)
     refine zc cal27 (preW_c w (c.ws.getD i [])) ?_ (a := fun hg => by first | (simp [hG, List.getD_cons_zero, List.getD_cons_succ, -List.getD_eq_getElem?_getD, pureOp, preA_zero, hA]; done) | (simp [-List.getD_eq_getElem?_getD] at hg; done) | (simp [-List.getD_eq_getElem?_getD] at hg; simp [hG, List.getD_cons_zero, List.getD_cons_succ, -List.getD_eq_getElem?_getD, pureOp, preA_zero, hA]; first | omega | exact hg | (simp_all [-List.getD_eq_getElem?_getD]; done) | (simp_all [-List.getD_eq_getElem?_getD]; first | exact ⟨rfl, rfl⟩ | exact rfl))) (b := fun hg => by first | (simp [hG, List.getD_cons_zero, List.getD_cons_succ, -List.getD_eq_getElem?_getD, pureOp, preA_zero, hA]; done) | (simp [-List.getD_eq_getElem?_getD] at hg; done) | (simp [-List.getD_eq_getElem?_getD] at hg; simp [hG, List.getD_cons_zero, List.getD_cons_succ, -List.getD_eq_getElem?_getD, pureOp, preA_zero, hA]; first | omega | exact hg | (simp_all [-List.getD_eq_getElem?_getD]; done) | (simp_all [-List.getD_eq_getElem?_getD]; first | exact ⟨rfl, rfl⟩ | exact rfl))) (h := by intro K h; simp [hG, List.getD_cons_zero, List.getD_cons_succ, -List.getD_eq_getElem?_getD, pureOp, preA_zero, hA]; exact h)
     refine zl 4 ?_ (h := by intro c K h; simp [hG, List.getD_cons_zero, List.getD_cons_succ, -List.getD_eq_getElem?_getD, pureOp, preA_zero, hA]; first | exact z1 c h | exact ⟨.mk c, h⟩)
     refine awpL_not (.bool true) rfl (fun K hK => ?_) (by intro c hc; cases hc)
     simp [hG, List.getD_cons_zero, List.getD_cons_succ, -List.getD_eq_getElem?_getD, pureOp, preA_zero, hA]
     refine hK _ ?_
     clear K hK
     refine zl 5 ?_ (h := by intro c K h; simp [hG, List.getD_cons_zero, List.getD_cons_succ, -List.getD_eq_getElem?_getD, pureOp, preA_zero, hA]; first | exact z1 c h | exact ⟨.mk c, h⟩)
     refine awpL_yield hrec hR [0, 5] (fun _ => false) (preB_y i (preA c.ws w i) (by omega) hok) rfl (by rw [hok.params]; rfl) rfl rfl rfl (by simp) (.inl fun _ => rfl) ?_ ?_ ?_ fun K hK x hI hno => ?_
     · simp [hG, List.getD_cons_zero, List.getD_cons_succ, -List.getD_eq_getElem?_getD, pureOp, preA_zero, hA]
     · simp [hG, List.getD_cons_zero, List.getD_cons_succ, -List.getD_eq_getElem?_getD, pureOp, preA_zero, hA]
     · simp [hG, List.getD_cons_zero, List.getD_cons_succ, -List.getD_eq_getElem?_getD, pureOp, preA_zero, hA]
     simp [hG, List.getD_cons_zero, List.getD_cons_succ, -List.getD_eq_getElem?_getD, pureOp, preA_zero, hA]
     refine hK _ ?_
     clear K hK
     refine zl 2 ?_ (h := by intro c K h; simp [hG, List.getD_cons_zero, List.getD_cons_succ, -List.getD_eq_getElem?_getD, pureOp, preA_zero, hA]; first | exact z1 c h | exact ⟨.mk c, h⟩)
     refine zN ?_
     refine awpS_cond rfl (fun hb47 => ?_) (fun hb47 => ?_)
     · simp at hb47
     try simp [-List.getD_eq_getElem?_getD] at hb47
     refine zk (zn (zbn (zr ?_ (h := by intro c K h; simp [hG, List.getD_cons_zero, List.getD_cons_succ, -List.getD_eq_getElem?_getD, pureOp, preA_zero, hA]; first | exact z1 c h | exact ⟨.mk c, h⟩))))
     refine zn ?_
     refine round_end ((i + 1, m)) (⟨by omega, hm⟩) (by omega) ?_
     refine wk_of (fun k => if k = 5 then 6 else k) (fun _ => false) (fun _ => false) ?_ ?_ rfl (by simp) (fun k hk => by first | exact ⟨rfl, rfl⟩ | (revert k; decide) | (obtain rfl : k = 0 := (by omega); exact ⟨rfl, rfl⟩) | (have hk2 : k = 0 ∨ k = 1 := (by omega); rcases hk2 with rfl | rfl <;> exact ⟨rfl, rfl⟩))
     · simp [hG, List.getD_cons_zero, List.getD_cons_succ, -List.getD_eq_getElem?_getD, pureOp, preA_zero, hA]
     rw [hps]; simp [hG, List.getD_cons_zero, List.getD_cons_succ, -List.getD_eq_getElem?_getD]
   by_cases hB : (c.ws.getD i []) <+: w
   · have hbl := hB.length_le
     by_cases hZ : rd c.ws [] (w.drop (c.ws.getD i []).length) = true
     · have hps := pre_yes ((rdB0 hA hB).trans hZ)
       refine zL (zl 2 ?_ (h := by intro c K h; simp [hG, List.getD_cons_zero, List.getD_cons_succ, -List.getD_eq_getElem?_getD, pureOp, preA_zero, hA, hB, hZ]; first | exact z1 c h | exact ⟨.mk c, h⟩))
       refine zc cal27 (preW_c (c.ws.getD i []) w) ?_ (a := fun hg => by simp [hG, List.getD_cons_zero, List.getD_cons_succ, -List.getD_eq_getElem?_getD, pureOp, preA_zero, hA, hB, hZ]) (b := fun hg => by simp [hG, List.getD_cons_zero, List.getD_cons_succ, -List.getD_eq_getElem?_getD, pureOp, preA_zero, hA, hB, hZ]) (h := by intro K h; simp [hG, List.getD_cons_zero, List.getD_cons_succ, -List.getD_eq_getElem?_getD, pureOp, preA_zero, hA, hB, hZ]; exact h)
       refine zl 3 ?_ (h := by intro c K h; simp [hG, List.getD_cons_zero, List.getD_cons_succ, -List.getD_eq_getElem?_getD, pureOp, preA_zero, hA, hB, hZ]; first | exact z1 c h | exact ⟨.mk c, h⟩)
       refine zc cal27 (preW_c w (c.ws.getD i [])) ?_ (a := fun hg => by first | (simp [hG, List.getD_cons_zero, List.getD_cons_succ, -List.getD_eq_getElem?_getD, pureOp, preA_zero, hA, hB, hZ]; done) | (simp [-List.getD_eq_getElem?_getD] at hg; done) | (simp [-List.getD_eq_getElem?_getD] at hg; simp [hG, List.getD_cons_zero, List.getD_cons_succ, -List.getD_eq_getElem?_getD, pureOp, preA_zero, hA, hB, hZ]; first | omega | exact hg | (simp_all [-List.getD_eq_getElem?_getD]; done) | (simp_all [-List.getD_eq_getElem?_getD]; first | exact ⟨rfl, rfl⟩ | exact rfl))) (b := fun hg => by first | (simp [hG, List.getD_cons_zero, List.getD_cons_succ, -List.getD_eq_getElem?_getD, pureOp, preA_zero, hA, hB, hZ]; done) | (simp [-List.getD_eq_getElem?_getD] at hg; done) | (simp [-List.getD_eq_getElem?_getD] at hg; simp [hG, List.getD_cons_zero, List.getD_cons_succ, -List.getD_eq_getElem?_getD, pureOp, preA_zero, hA, hB, hZ]; first | omega | exact hg | (simp_all [-List.getD_eq_getElem?_getD]; done) | (simp_all [-List.getD_eq_getElem?_getD]; first | exact ⟨rfl, rfl⟩ | exact rfl))) (h := by intro K h; simp [hG, List.getD_cons_zero, List.getD_cons_succ, -List.getD_eq_getElem?_getD, pureOp, preA_zero, hA, hB, hZ]; exact h)
       refine zl 4 ?_ (h := by intro c K h; simp [hG, List.getD_cons_zero, List.getD_cons_succ, -List.getD_eq_getElem?_getD, pureOp, preA_zero, hA, hB, hZ]; first | exact z1 c h | exact ⟨.mk c, h⟩)
       refine awpL_fcg cal86 [2, 3, 4] (fun _ => false) (is_all hl hv hw (w.length - (c.ws.getD i []).length) (c.ws.getD i []).length m (by omega) hm) rfl rfl rfl rfl (by simp) (.inl fun _ => rfl) ?_ ?_ ?_ fun K hK m2 hI hno => ?_
       · simp [hG, List.getD_cons_zero, List.getD_cons_succ, -List.getD_eq_getElem?_getD, pureOp, preA_zero, hA, hB, hZ]
       · simp [hG, List.range'_succ, List.range'_zero, List.getD_cons_zero, List.getD_cons_succ, -List.getD_eq_getElem?_getD]
       · simp [hG, List.getD_cons_zero, List.getD_cons_succ, -List.getD_eq_getElem?_getD, pureOp, preA_zero, hA, hB, hZ]
       have hm2 := hI
       simp [hG, List.getD_cons_zero, List.getD_cons_succ, -List.getD_eq_getElem?_getD, pureOp, preA_zero, hA, hB, hZ]
       refine hK _ ?_
       clear K hK
       refine zl 5 ?_ (h := by intro c K h; simp [hG, List.getD_cons_zero, List.getD_cons_succ, -List.getD_eq_getElem?_getD, pureOp, preA_zero, hA, hB, hZ]; first | exact z1 c h | exact ⟨.mk c, h⟩)
       refine awpL_yield hrec hR [0, 5] (fun _ => false) (preB_y i (preA c.ws w i) (by omega) hok) rfl (by rw [hok.params]; rfl) rfl rfl rfl (by simp) (.inl fun _ => rfl) ?_ ?_ ?_ fun K hK x hI hno => ?_
       · simp [hG, List.getD_cons_zero, List.getD_cons_succ, -List.getD_eq_getElem?_getD, pureOp, preA_zero, hA, hB, hZ]
       · simp [hG, List.getD_cons_zero, List.getD_cons_succ, -List.getD_eq_getElem?_getD, pureOp, preA_zero, hA, hB, hZ]
       · simp [hG, List.getD_cons_zero, List.getD_cons_succ, -List.getD_eq_getElem?_getD, pureOp, preA_zero, hA, hB, hZ]
       simp [hG, List.getD_cons_zero, List.getD_cons_succ, -List.getD_eq_getElem?_getD, pureOp, preA_zero, hA, hB, hZ]
       refine hK _ ?_
       clear K hK
       refine zl 2 ?_ (h := by intro c K h; simp [hG, List.getD_cons_zero, List.getD_cons_succ, -List.getD_eq_getElem?_getD, pureOp, preA_zero, hA, hB, hZ]; first | exact z1 c h | exact ⟨.mk c, h⟩)
       refine zN ?_
       refine awpS_cond rfl (fun hb47 => ?_) (fun hb47 => ?_)
       · simp at hb47
       try simp [-List.getD_eq_getElem?_getD] at hb47
       refine zk (zn (zbn (zr ?_ (h := by intro c K h; simp [hG, List.getD_cons_zero, List.getD_cons_succ, -List.getD_eq_getElem?_getD, pureOp, preA_zero, hA, hB, hZ]; first | exact z1 c h | exact ⟨.mk c, h⟩))))
       refine zn ?_
       refine round_end ((i + 1, m2)) (⟨by omega, hm2⟩) (by omega) ?_
       refine wk_of (fun k => if k = 5 then 6 else k) (fun _ => false) (fun _ => false) ?_ ?_ rfl (by simp) (fun k hk => by first | exact ⟨rfl, rfl⟩ | (revert k; decide) | (obtain rfl : k = 0 := (by omega); exact ⟨rfl, rfl⟩) | (have hk2 : k = 0 ∨ k = 1 := (by omega); rcases hk2 with rfl | rfl <;> exact ⟨rfl, rfl⟩))
       · simp [hG, List.getD_cons_zero, List.getD_cons_succ, -List.getD_eq_getElem?_getD, pureOp, preA_zero, hA, hB, hZ]
       rw [hps]; simp [hG, List.getD_cons_zero, List.getD_cons_succ, -List.getD_eq_getElem?_getD]
     have hps := pre_not ((rdB0 hA hB).trans (by simpa using hZ))
     refine zL (zl 2 ?_ (h := by intro c K h; simp [hG, List.getD_cons_zero, List.getD_cons_succ, -List.getD_eq_getElem?_getD, pureOp, preA_zero, hA, hB, hZ]; first | exact z1 c h | exact ⟨.mk c, h⟩))
     refine zc cal27 (preW_c (c.ws.getD i []) w) ?_ (a := fun hg => by simp [hG, List.getD_cons_zero, List.getD_cons_succ, -List.getD_eq_getElem?_getD, pureOp, preA_zero, hA, hB, hZ]) (b := fun hg => by simp [hG, List.getD_cons_zero, List.getD_cons_succ, -List.getD_eq_getElem?_getD, pureOp, preA_zero, hA, hB, hZ]) (h := by intro K h; simp [hG, List.getD_cons_zero, List.getD_cons_succ, -List.getD_eq_getElem?_getD, pureOp, preA_zero, hA, hB, hZ]; exact h)
     refine zl 3 ?_ (h := by intro c K h; simp [hG, List.getD_cons_zero, List.getD_cons_succ, -List.getD_eq_getElem?_getD, pureOp, preA_zero, hA, hB, hZ]; first | exact z1 c h | exact ⟨.mk c, h⟩)
     refine zc cal27 (preW_c w (c.ws.getD i [])) ?_ (a := fun hg => by first | (simp [hG, List.getD_cons_zero, List.getD_cons_succ, -List.getD_eq_getElem?_getD, pureOp, preA_zero, hA, hB, hZ]; done) | (simp [-List.getD_eq_getElem?_getD] at hg; done) | (simp [-List.getD_eq_getElem?_getD] at hg; simp [hG, List.getD_cons_zero, List.getD_cons_succ, -List.getD_eq_getElem?_getD, pureOp, preA_zero, hA, hB, hZ]; first | omega | exact hg | (simp_all [-List.getD_eq_getElem?_getD]; done) | (simp_all [-List.getD_eq_getElem?_getD]; first | exact ⟨rfl, rfl⟩ | exact rfl))) (b := fun hg => by first | (simp [hG, List.getD_cons_zero, List.getD_cons_succ, -List.getD_eq_getElem?_getD, pureOp, preA_zero, hA, hB, hZ]; done) | (simp [-List.getD_eq_getElem?_getD] at hg; done) | (simp [-List.getD_eq_getElem?_getD] at hg; simp [hG, List.getD_cons_zero, List.getD_cons_succ, -List.getD_eq_getElem?_getD, pureOp, preA_zero, hA, hB, hZ]; first | omega | exact hg | (simp_all [-List.getD_eq_getElem?_getD]; done) | (simp_all [-List.getD_eq_getElem?_getD]; first | exact ⟨rfl, rfl⟩ | exact rfl))) (h := by intro K h; simp [hG, List.getD_cons_zero, List.getD_cons_succ, -List.getD_eq_getElem?_getD, pureOp, preA_zero, hA, hB, hZ]; exact h)
     refine zl 4 ?_ (h := by intro c K h; simp [hG, List.getD_cons_zero, List.getD_cons_succ, -List.getD_eq_getElem?_getD, pureOp, preA_zero, hA, hB, hZ]; first | exact z1 c h | exact ⟨.mk c, h⟩)
     refine awpL_fcg cal86 [2, 3, 4] (fun _ => false) (is_all hl hv hw (w.length - (c.ws.getD i []).length) (c.ws.getD i []).length m (by omega) hm) rfl rfl rfl rfl (by simp) (.inl fun _ => rfl) ?_ ?_ ?_ fun K hK m2 hI hno => ?_
     · simp [hG, List.getD_cons_zero, List.getD_cons_succ, -List.getD_eq_getElem?_getD, pureOp, preA_zero, hA, hB, hZ]
     · simp [hG, List.range'_succ, List.range'_zero, List.getD_cons_zero, List.getD_cons_succ, -List.getD_eq_getElem?_getD]
     · simp [hG, List.getD_cons_zero, List.getD_cons_succ, -List.getD_eq_getElem?_getD, pureOp, preA_zero, hA, hB, hZ]
     have hm2 := hI
     simp [hG, List.getD_cons_zero, List.getD_cons_succ, -List.getD_eq_getElem?_getD, pureOp, preA_zero, hA, hB, hZ]
     refine hK _ ?_
     clear K hK
     refine zl 5 ?_ (h := by intro c K h; simp [hG, List.getD_cons_zero, List.getD_cons_succ, -List.getD_eq_getElem?_getD, pureOp, preA_zero, hA, hB, hZ]; first | exact z1 c h | exact ⟨.mk c, h⟩)
     refine awpL_not (.bool true) rfl (fun K hK => ?_) (by intro c hc; cases hc)
     simp [hG, List.getD_cons_zero, List.getD_cons_succ, -List.getD_eq_getElem?_getD, pureOp, preA_zero, hA, hB, hZ]
     refine hK _ ?_
     clear K hK
     refine zl 2 ?_ (h := by intro c K h; simp [hG, List.getD_cons_zero, List.getD_cons_succ, -List.getD_eq_getElem?_getD, pureOp, preA_zero, hA, hB, hZ]; first | exact z1 c h | exact ⟨.mk c, h⟩)
     refine zN ?_
     refine awpS_cond rfl (fun hb47 => ?_) (fun hb47 => ?_)
     · simp at hb47
     try simp [-List.getD_eq_getElem?_getD] at hb47
     refine zk (zn (zbn (zr ?_ (h := by intro c K h; simp [hG, List.getD_cons_zero, List.getD_cons_succ, -List.getD_eq_getElem?_getD, pureOp, preA_zero, hA, hB, hZ]; first | exact z1 c h | exact ⟨.mk c, h⟩))))
     refine zn ?_
     refine round_end ((i + 1, m2)) (⟨by omega, hm2⟩) (by omega) ?_
     refine wk_of (id) (fun _ => false) (fun _ => false) ?_ ?_ rfl (by simp) (fun k hk => by first | exact ⟨rfl, rfl⟩ | (revert k; decide) | (obtain rfl : k = 0 := (by omega); exact ⟨rfl, rfl⟩) | (have hk2 : k = 0 ∨ k = 1 := (by omega); rcases hk2 with rfl | rfl <;> exact ⟨rfl, rfl⟩))
     · simp [hG, List.getD_cons_zero, List.getD_cons_succ, -List.getD_eq_getElem?_getD, pureOp, preA_zero, hA, hB, hZ]
     rw [hps]; simp [hG, List.getD_cons_zero, List.getD_cons_succ, -List.getD_eq_getElem?_getD]
   have hps := pre_not (rdN hA hB)
   refine zL (zl 2 ?_ (h := by intro c K h; simp [hG, List.getD_cons_zero, List.getD_cons_succ, -List.getD_eq_getElem?_getD, pureOp, preA_zero, hA, hB]; first | exact z1 c h | exact ⟨.mk c, h⟩))
   refine zc cal27 (preW_c (c.ws.getD i []) w) ?_ (a := fun hg => by simp [hG, List.getD_cons_zero, List.getD_cons_succ, -List.getD_eq_getElem?_getD, pureOp, preA_zero, hA, hB]) (b := fun hg => by simp [hG, List.getD_cons_zero, List.getD_cons_succ, -List.getD_eq_getElem?_getD, pureOp, preA_zero, hA, hB]) (h := by intro K h; simp [hG, List.getD_cons_zero, List.getD_cons_succ, -List.getD_eq_getElem?_getD, pureOp, preA_zero, hA, hB]; exact h)
   refine zl 3 ?_ (h := by intro c K h; simp [hG, List.getD_cons_zero, List.getD_cons_succ, -List.getD_eq_getElem?_getD, pureOp, preA_zero, hA, hB]; first | exact z1 c h | exact ⟨.mk c, h⟩)
   refine zc cal27 (preW_c w (c.ws.getD i [])) ?_ (a := fun hg => by first | (simp [hG, List.getD_cons_zero, List.getD_cons_succ, -List.getD_eq_getElem?_getD, pureOp, preA_zero, hA, hB]; done) | (simp [-List.getD_eq_getElem?_getD] at hg; done) | (simp [-List.getD_eq_getElem?_getD] at hg; simp [hG, List.getD_cons_zero, List.getD_cons_succ, -List.getD_eq_getElem?_getD, pureOp, preA_zero, hA, hB]; first | omega | exact hg | (simp_all [-List.getD_eq_getElem?_getD]; done) | (simp_all [-List.getD_eq_getElem?_getD]; first | exact ⟨rfl, rfl⟩ | exact rfl))) (b := fun hg => by first | (simp [hG, List.getD_cons_zero, List.getD_cons_succ, -List.getD_eq_getElem?_getD, pureOp, preA_zero, hA, hB]; done) | (simp [-List.getD_eq_getElem?_getD] at hg; done) | (simp [-List.getD_eq_getElem?_getD] at hg; simp [hG, List.getD_cons_zero, List.getD_cons_succ, -List.getD_eq_getElem?_getD, pureOp, preA_zero, hA, hB]; first | omega | exact hg | (simp_all [-List.getD_eq_getElem?_getD]; done) | (simp_all [-List.getD_eq_getElem?_getD]; first | exact ⟨rfl, rfl⟩ | exact rfl))) (h := by intro K h; simp [hG, List.getD_cons_zero, List.getD_cons_succ, -List.getD_eq_getElem?_getD, pureOp, preA_zero, hA, hB]; exact h)
   refine zl 4 ?_ (h := by intro c K h; simp [hG, List.getD_cons_zero, List.getD_cons_succ, -List.getD_eq_getElem?_getD, pureOp, preA_zero, hA, hB]; first | exact z1 c h | exact ⟨.mk c, h⟩)
   refine awpL_not (.bool true) rfl (fun K hK => ?_) (by intro c hc; cases hc)
   simp [hG, List.getD_cons_zero, List.getD_cons_succ, -List.getD_eq_getElem?_getD, pureOp, preA_zero, hA, hB]
   refine hK _ ?_
   clear K hK
   refine zl 5 ?_ (h := by intro c K h; simp [hG, List.getD_cons_zero, List.getD_cons_succ, -List.getD_eq_getElem?_getD, pureOp, preA_zero, hA, hB]; first | exact z1 c h | exact ⟨.mk c, h⟩)
   refine awpL_not (.bool true) rfl (fun K hK => ?_) (by intro c hc; cases hc)
   simp [hG, List.getD_cons_zero, List.getD_cons_succ, -List.getD_eq_getElem?_getD, pureOp, preA_zero, hA, hB]
   refine hK _ ?_
   clear K hK
   refine zl 2 ?_ (h := by intro c K h; simp [hG, List.getD_cons_zero, List.getD_cons_succ, -List.getD_eq_getElem?_getD, pureOp, preA_zero, hA, hB]; first | exact z1 c h | exact ⟨.mk c, h⟩)
   refine zN ?_
   refine awpS_cond rfl (fun hb47 => ?_) (fun hb47 => ?_)
   · simp at hb47
   try simp [-List.getD_eq_getElem?_getD] at hb47
   refine zk (zn (zbn (zr ?_ (h := by intro c K h; simp [hG, List.getD_cons_zero, List.getD_cons_succ, -List.getD_eq_getElem?_getD, pureOp, preA_zero, hA, hB]; first | exact z1 c h | exact ⟨.mk c, h⟩))))
   refine zn ?_
   refine round_end ((i + 1, m)) (⟨by omega, hm⟩) (by omega) ?_
   refine wk_of (id) (fun _ => false) (fun _ => false) ?_ ?_ rfl (by simp) (fun k hk => by first | exact ⟨rfl, rfl⟩ | (revert k; decide) | (obtain rfl : k = 0 := (by omega); exact ⟨rfl, rfl⟩) | (have hk2 : k = 0 ∨ k = 1 := (by omega); rcases hk2 with rfl | rfl <;> exact ⟨rfl, rfl⟩))
   · simp [hG, List.getD_cons_zero, List.getD_cons_succ, -List.getD_eq_getElem?_getD, pureOp, preA_zero, hA, hB]
   rw [hps]; simp [hG, List.getD_cons_zero, List.getD_cons_succ, -List.getD_eq_getElem?_getD]
 obtain rfl : i = c.ws.length := (by omega)
 refine zx (ztx (zbx (zn ?_)))
 refine RetF_of (()) (fun k => if k = 2 then 5 else k) (fun _ => false) (fun _ => false) trivial ?_ ?_ (by rfl) (by simp) (fun k hk => ⟨if_neg (by omega), rfl⟩)
 · simp [hG, List.getD_cons_zero, List.getD_cons_succ, -List.getD_eq_getElem?_getD, pureOp, preA_zero]
 simp [hG, List.getD_cons_zero, List.getD_cons_succ, -List.getD_eq_getElem?_getD]; exact ⟨rfl, Nat.le_refl _, fun _ _ => rfl⟩
set_option maxRecDepth 100000 in
theorem prefixes_c (c : Cd) (hl : c.ws.length ≤ maxLen) (w : List UInt8) : PC Try.prog 19 [.agg 2 (cdF c), .str w] (.tup 2 (fun j => [ints (pfL c w), .int .i64 (ckN c w)].getD j .any)) := by
 refine zp Try.func19 fun G hG hR => ?_
 refine zs (zrP ?_)
 refine zs (zs (zL (zlP 2 ?_)))
 refine zcP cal47 (checkW_c c hl w) ?_
 refine zlP 1 ?_
 refine zN (zs (zrP ?_))
 refine zy (fun hb13 => ?_) fun hb13 => ?_
 · refine zs (zrP ?_)
   refine zt ?_
   refine RetOK_of ?_
   simp [hG, List.getD_cons_zero, List.getD_cons_succ, -List.getD_eq_getElem?_getD, pureOp]
   unfold pfL; rw [if_neg hb13]
 have hck : ckN c w = 0 := (by simpa using hb13)
 have hw : w.length ≤ 1000000 := ck_len hck
 have hv := cd_ok (ck_code hck)
 refine zk (zs (zrP ?_))
 refine zs (zs (zL (zlP 2 ?_)))
 refine zcP cal48 (starts_c c w) ?_
 refine zN (zb ?_)
 refine awpS_wk (st2 := ⟨[(7, .ptr (0, 0) 0 0), (17, .fn 72 2 (fun j => [.vptr 2 (cdF c) 0, .vptr 1 (fun _ => .str w) 0].getD j .any))], [(0, .one (.arr 1 1 (fun _ _ => .sl (1, 0) 0 (([] : List Int)).length))), (1, .one (.arr (([] : List Int)).length 1 (fun p _ => .int .i64 ((([] : List Int)).getD p 0))))], 2⟩) ?_ ?_
 · exact zwP (fun k => if k = 0 then 1 else k + 5) (fun k => k == 0) (fun k => k == 1)
 refine awpS_range hR [7] [0, 1] (fun _ => false) cal72 rfl trivial (fun l rec vs hok => by rw [hG] at hok; exact startsP_c l rec vs hok c hl hv w hw) (by simp) (.inl fun _ => rfl) (fun l vs => ?_) ?_ fun K hK x hI hno => ?_
 · simp [hG, List.getD_cons_zero, List.getD_cons_succ, -List.getD_eq_getElem?_getD]; exact ⟨Clo.le _ (fun j hj => ⟨one_cdF, Clo_cdF⟩), Clo.le _ (fun j hj => ⟨rfl, trivial⟩), trivial⟩
 · simp [hG, List.getD_cons_zero, List.getD_cons_succ, -List.getD_eq_getElem?_getD, pureOp]
 simp [hG, List.getD_cons_zero, List.getD_cons_succ, -List.getD_eq_getElem?_getD, pureOp]
 refine hK _ ?_
 clear K hK
 refine zn (zbn (zs (zrP ?_)))
 refine zt ?_
 refine RetOK_of ?_
 simp [hG, List.getD_cons_zero, List.getD_cons_succ, -List.getD_eq_getElem?_getD, pureOp]
 unfold pfL; rw [if_pos hck, hck]; exact ⟨⟨rfl, Nat.le_refl _, fun _ _ => rfl⟩, rfl⟩
end Go.Proofs.Ytoafgeobhhlplaa
