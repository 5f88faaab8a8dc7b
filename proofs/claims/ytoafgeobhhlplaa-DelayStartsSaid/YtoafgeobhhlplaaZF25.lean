/- Parts of the proof: VC. -/
import Derived.Test.YtoafgeobhhlplaaZF22
import Derived.Test.YtoafgeobhhlplaaZF24
namespace Go.Proofs.Ytoafgeobhhlplaa
set_option linter.unusedSimpArgs false
set_option linter.unusedVariables false
open Go Go.Lift Go.Proofs
def placeG {α : Type} (l : List α) (q : α → Bool) : Int := if l.any q then (l.findIdx q : Nat) else -1
theorem placeG_at {α : Type} {d : α} {l : List α} {q : α → Bool} {i : Nat} (hi : i < l.length) (hq : q (l.getD i d) = true) (hn : ∀ j, j < i → q (l.getD j d) = false) : placeG l q = i := by
  unfold placeG
  rw [if_pos (List.any_eq_true.2 ⟨l[i], List.getElem_mem hi, by rw [← getD_get (d := d)]; exact hq⟩)]
  have : l.findIdx q = i := (List.findIdx_eq hi).2 ⟨by rw [← getD_get (d := d)]; exact hq, fun j hj => by rw [← getD_get (d := d)]; exact hn j hj⟩
  rw [this]
theorem placeG_none {α : Type} {d : α} {l : List α} {q : α → Bool} (hn : ∀ j, j < l.length → q (l.getD j d) = false) : placeG l q = -1 := by
  unfold placeG
  rw [if_neg]
  intro h
  obtain ⟨x, hx, hq⟩ := List.any_eq_true.1 h
  obtain ⟨j, hj, rfl⟩ := List.mem_iff_getElem.1 hx
  have := hn j hj
  rw [getD_get hj] at this
  rw [this] at hq; cases hq
theorem placeG_any {α : Type} {l : List α} {q : α → Bool} : decide (0 ≤ placeG l q) = l.any q := by
  unfold placeG
  split
  · rename_i h; rw [h]; simp
  · rename_i h; simp only [Bool.not_eq_true] at h; rw [h]; simp
theorem lessW_len {a b : Wd} (h : a.length ≠ b.length) : decide (lessW a b) = decide (a.length < b.length) := by
  refine decide_eq_decide.2 ?_
  unfold lessW; omega
theorem lessW_lex {a b : Wd} (h : a.length = b.length) : decide (lessW a b) = Op.bytesLess a b := by
  rw [less_dec]
  refine decide_eq_decide.2 ?_
  unfold lessW
  constructor
  · rintro (h2 | h2)
    · omega
    · exact h2.2
  · intro h2; exact .inr ⟨h, h2⟩
def big33 (w : Wd) : Bool := decide (8 < w.length ∧ w.length ≤ 32 ∨ 33 < w.length)
def big6 (w : Wd) : Bool := decide (6 < w.length ∧ w.length ≤ 32)
def g33 (c : Cd) : Bool := decide (8 < c.ws.length ∧ c.ws.length ≤ 64 ∨ 65 < c.ws.length) || c.ws.any big33
theorem g33_yes {c : Cd} (h : 8 < c.ws.length ∧ c.ws.length ≤ 64 ∨ 65 < c.ws.length) : g33 c = true := by unfold g33; rw [decide_eq_true h]; rfl
theorem g33_hit {c : Cd} {i : Nat} (hi : i < c.ws.length) (h : big33 (c.ws.getD i []) = true) : g33 c = true := by
  unfold g33
  rw [Bool.or_eq_true]
  exact .inr (List.any_eq_true.2 ⟨_, W_mem hi, h⟩)
theorem g33_no {c : Cd} (h : ¬ (8 < c.ws.length ∧ c.ws.length ≤ 64 ∨ 65 < c.ws.length)) (hn : ∀ j, j < c.ws.length → big33 (c.ws.getD j []) = false) : g33 c = false := by
  unfold g33
  rw [decide_eq_false h, Bool.false_or, List.any_eq_false]
  intro w hw
  obtain ⟨j, hj, rfl⟩ := W_at hw
  rw [hn j hj]; simp
theorem bigC_eq {c : Cd} : bigC c = ((g33 c || decide (6 < c.ws.length ∧ c.ws.length ≤ 64)) || c.ws.any big6) := by
  rw [Bool.eq_iff_iff]
  unfold bigC g33
  simp only [Bool.or_eq_true, decide_eq_true_eq, List.any_eq_true]
  constructor
  · rintro (h | ⟨w, hw, h⟩)
    · rcases h with h | h
      · exact .inl (.inr h)
      · exact .inl (.inl (.inl (.inr h)))
    · rcases h with h | h
      · exact .inr ⟨w, hw, decide_eq_true h⟩
      · exact .inl (.inl (.inr ⟨w, hw, decide_eq_true (.inr h)⟩))
  · rintro (((h | ⟨w, hw, h⟩) | h) | ⟨w, hw, h⟩)
    · left; omega
    · right; exact ⟨w, hw, by have := of_decide_eq_true h; omega⟩
    · left; omega
    · right; exact ⟨w, hw, by have := of_decide_eq_true h; omega⟩
set_option maxRecDepth 100000 in
theorem great33_c (c : Cd) (hl : c.ws.length ≤ maxLen) : PC Try.prog 35 [.agg 2 (cdF c)] (.bool (g33 c)) := by
 have hML : maxLen = 9223372036854775807 := by decide
 refine zp Try.func35 fun G hG hR => ?_
 refine zs (zrP ?_)
 refine zs (zs (zrP ?_))
 refine zy (fun hb19 => ?_) fun hb19 => ?_
 · refine zs (zrP ?_)
   refine zt ?_
   refine RetOK_of ?_
   simp [hG, List.getD_cons_zero, List.getD_cons_succ, -List.getD_eq_getElem?_getD, pureOp]
   exact g33_yes (by omega)
 refine zk (zs (zs (zrP ?_)))
 refine zb ?_
 refine awpS_loop (α := Nat) (fun i => ⟨[(1, .ptr (0, 0) 0 0), (3, .int .i64 (i : Nat))], [(0, .one (.arr 1 2 (fun _ => cdF c)))], 1⟩) (fun i => i ≤ c.ws.length ∧ ∀ j, j < i → big33 (c.ws.getD j []) = false) (fun i => c.ws.length - i) (0) (⟨Nat.zero_le _, fun j hj => absurd hj (Nat.not_lt_zero _)⟩) ?_ ?_
 · exact ziP
 rintro i ⟨hi, hn⟩
 refine zs (zs (zrP ?_))
 refine zy (fun hb24 => ?_) fun hb24 => ?_
 · have hil : i < c.ws.length := (by omega)
   refine zk (zs (zb (zs (zrP ?_))))
   refine zy (fun hb51 => ?_) fun hb51 => ?_
   · have hbg : big33 (c.ws.getD i []) = true := decide_eq_true (by omega)
     refine zs (zrP ?_)
     refine zt (zbt (ztt (zbt ?_)))
     refine RetOK_of ?_
     simp [hG, List.getD_cons_zero, List.getD_cons_succ, -List.getD_eq_getElem?_getD, pureOp]
     exact g33_hit hil hbg
   have hbg : big33 (c.ws.getD i []) = false := decide_eq_false (by omega)
   refine zk (zn (zbn (zrP ?_)))
   refine zn ?_
   refine round_end (i + 1) (⟨by omega, step_all hn hbg⟩) (by omega) ?_
   exact ziP
 obtain rfl : i = c.ws.length := (by omega)
 refine zx (ztx (zbx (zs (zrP ?_))))
 refine zt ?_
 refine RetOK_of ?_
 simp [hG, List.getD_cons_zero, List.getD_cons_succ, -List.getD_eq_getElem?_getD, pureOp]
 exact g33_no (by omega) hn
set_option maxRecDepth 100000 in
theorem indexFS_c (l : List (List UInt8)) (q : (List UInt8) → Bool) (hfn hn : Nat) (hc : Nat → AVal) (hl : l.length ≤ maxLen) (hcal : Callable Try.prog hfn) (hclo : ∀ j, Clo (hc j)) (hp : ∀ x ∈ l, PC Try.prog hfn (.str x :: (List.range' 0 hn).map hc) (.bool (q x))) : PC Try.prog 63 [strs l, .fn hfn hn hc] (.int .i64 (placeG l q)) := by
 have hML : maxLen = 9223372036854775807 := by decide
 have hV : ∀ {h : Heap} {σ : Lift.Id → Lift.Id} {fz : Nat → Bool} {vz : Lift.Id → Bool} {nx j : Nat}, VLe h σ fz vz nx (hc j) (hc j) := fun {h σ fz vz nx j} => Clo.le _ (hclo j)
 have hV2 : ∀ {h : Heap} {σ : Lift.Id → Lift.Id} {fz : Nat → Bool} {vz : Lift.Id → Bool} {nx : Nat}, VLe h σ fz vz nx (.fn hfn hn hc) (.fn hfn hn hc) := fun {h σ fz vz nx} => Clo.le _ fun j _ => hclo j
 refine zp Try.func63 fun G hG hR => ?_
 refine zs (zr ?_ (h := by intro c K h; simp [hG, List.getD_cons_zero, List.getD_cons_succ, -List.getD_eq_getElem?_getD, hV, hV2]; first | exact z1 c h | exact ⟨.mk c, h⟩))
 refine zs (zs (zr ?_ (h := by intro c K h; simp [hG, List.getD_cons_zero, List.getD_cons_succ, -List.getD_eq_getElem?_getD, hV, hV2]; first | exact z1 c h | exact ⟨.mk c, h⟩)))
 refine zb ?_
 refine awpS_loop (α := Nat) (fun i => ⟨[(0, strs l), (1, .fn hfn hn hc), (7, .int .i64 l.length), (8, .int .i64 i)], [], 0⟩) (fun i => i ≤ l.length ∧ ∀ j, j < i → q (l.getD j []) = false) (fun i => l.length - i) (0) (⟨Nat.zero_le _, fun j hj => absurd hj (Nat.not_lt_zero _)⟩) ?_ ?_
 · exact zi (e := by simp [hG, List.getD_cons_zero, List.getD_cons_succ, -List.getD_eq_getElem?_getD, hV, hV2]) (h := by simp [hG, List.getD_cons_zero, List.getD_cons_succ, -List.getD_eq_getElem?_getD, hV, hV2])
 rintro i ⟨hi, hn0⟩
 refine zs (zr ?_ (h := by intro c K h; simp [hG, List.getD_cons_zero, List.getD_cons_succ, -List.getD_eq_getElem?_getD, hV, hV2]; first | exact z1 c h | exact ⟨.mk c, h⟩))
 refine zs (zy (fun hb9 => ?_) fun hb9 => ?_)
 · refine zk (zs (zb (zs (zr ?_ (h := by intro c K h; simp [hG, List.getD_cons_zero, List.getD_cons_succ, -List.getD_eq_getElem?_getD, hV, hV2]; first | exact z1 c h | exact ⟨.mk c, h⟩)))))
   refine zs (zL (zl 5 ?_ (h := by intro c K h; simp [hG, List.getD_cons_zero, List.getD_cons_succ, -List.getD_eq_getElem?_getD, hV, hV2]; first | exact z1 c h | exact ⟨.mk c, h⟩)))
   refine zc hcal (hp _ (getD_mem (d := []) (by simpa using hb9))) ?_ (a := fun hg => by simp [hG, List.getD_cons_zero, List.getD_cons_succ, -List.getD_eq_getElem?_getD, hV, hV2]) (b := fun hg => by simp [hG, List.getD_cons_zero, List.getD_cons_succ, -List.getD_eq_getElem?_getD]; first | exact argsLe_caps fun j _ => hclo j | exact ⟨Clo.le _ Clo_strs, argsLe_caps fun j _ => hclo j⟩) (h := by intro K h; simp [hG, List.getD_cons_zero, List.getD_cons_succ, -List.getD_eq_getElem?_getD, hV, hV2]; exact h)
   refine zN (zy (fun hb16 => ?_) fun hb16 => ?_)
   · refine zs (zr ?_ (h := by intro c K h; simp [hG, List.getD_cons_zero, List.getD_cons_succ, -List.getD_eq_getElem?_getD, hV, hV2]; first | exact z1 c h | exact ⟨.mk c, h⟩))
     refine zt (zbt (ztt (zbt ?_)))
     refine RetOK_of ?_
     simp [hG, List.getD_cons_zero, List.getD_cons_succ, -List.getD_eq_getElem?_getD, hV, hV2]
     exact (placeG_at (by simpa using hb9) hb16 hn0).symm
   refine zk (zn (zbn (zr ?_ (h := by intro c K h; simp [hG, List.getD_cons_zero, List.getD_cons_succ, -List.getD_eq_getElem?_getD, hV, hV2]; first | exact z1 c h | exact ⟨.mk c, h⟩))))
   refine zn ?_
   refine round_end (i + 1) (⟨by omega, fun j hj => (Nat.lt_succ_iff_lt_or_eq.1 hj).elim (hn0 j) fun e => by rw [e]; exact hb16⟩) (by omega) ?_
   exact zi (e := by simp [hG, List.getD_cons_zero, List.getD_cons_succ, -List.getD_eq_getElem?_getD, hV, hV2]) (h := by simp [hG, List.getD_cons_zero, List.getD_cons_succ, -List.getD_eq_getElem?_getD, hV, hV2])
 refine zx (ztx (zbx (zs (zr ?_ (h := by intro c K h; simp [hG, List.getD_cons_zero, List.getD_cons_succ, -List.getD_eq_getElem?_getD, hV, hV2]; first | exact z1 c h | exact ⟨.mk c, h⟩)))))
 refine zt ?_
 refine RetOK_of ?_
 simp [hG, List.getD_cons_zero, List.getD_cons_succ, -List.getD_eq_getElem?_getD, hV, hV2]
 exact (placeG_none fun j hj => hn0 j (by omega)).symm
set_option maxRecDepth 100000 in
theorem containsFS_c (l : List (List UInt8)) (q : (List UInt8) → Bool) (hfn hn : Nat) (hc : Nat → AVal) (hl : l.length ≤ maxLen) (hcal : Callable Try.prog hfn) (hclo : ∀ j, Clo (hc j)) (hp : ∀ x ∈ l, PC Try.prog hfn (.str x :: (List.range' 0 hn).map hc) (.bool (q x))) : PC Try.prog 36 [strs l, .fn hfn hn hc] (.bool (l.any q)) := by
 have hML : maxLen = 9223372036854775807 := by decide
 have hV : ∀ {h : Heap} {σ : Lift.Id → Lift.Id} {fz : Nat → Bool} {vz : Lift.Id → Bool} {nx j : Nat}, VLe h σ fz vz nx (hc j) (hc j) := fun {h σ fz vz nx j} => Clo.le _ (hclo j)
 have hV2 : ∀ {h : Heap} {σ : Lift.Id → Lift.Id} {fz : Nat → Bool} {vz : Lift.Id → Bool} {nx : Nat}, VLe h σ fz vz nx (.fn hfn hn hc) (.fn hfn hn hc) := fun {h σ fz vz nx} => Clo.le _ fun j _ => hclo j
 refine zp Try.func36 fun G hG hR => ?_
 refine zs (zr ?_ (h := by intro c K h; simp [hG, List.getD_cons_zero, List.getD_cons_succ, -List.getD_eq_getElem?_getD, hV, hV2]; first | exact z1 c h | exact ⟨.mk c, h⟩))
 refine zs (zL (zl 2 ?_ (h := by intro c K h; simp [hG, List.getD_cons_zero, List.getD_cons_succ, -List.getD_eq_getElem?_getD, hV, hV2]; first | exact z1 c h | exact ⟨.mk c, h⟩)))
 refine zc cal63 (indexFS_c l q hfn hn hc hl hcal hclo hp) ?_ (a := fun hg => by simp [hG, List.getD_cons_zero, List.getD_cons_succ, -List.getD_eq_getElem?_getD, hV, hV2]) (b := fun hg => by simp [hG, List.getD_cons_zero, List.getD_cons_succ, -List.getD_eq_getElem?_getD, hV, hV2]) (h := by intro K h; simp [hG, List.getD_cons_zero, List.getD_cons_succ, -List.getD_eq_getElem?_getD, hV, hV2]; exact h)
 refine zl 2 ?_ (h := by intro c K h; simp [hG, List.getD_cons_zero, List.getD_cons_succ, -List.getD_eq_getElem?_getD, hV, hV2]; first | exact z1 c h | exact ⟨.mk c, h⟩)
 refine zN (zt ?_)
 refine RetOK_of ?_
 simp [hG, List.getD_cons_zero, List.getD_cons_succ, -List.getD_eq_getElem?_getD, hV, hV2]
 rw [← placeG_any]
set_option maxRecDepth 100000 in
theorem great1_c (w : List UInt8) : PC Try.prog 37 [.str w] (.bool (big6 w)) := by
 refine zp Try.func37 fun G hG hR => ?_
 refine zs (zrP ?_)
 refine zs (zrP ?_)
 refine zt ?_
 refine RetOK_of ?_
 simp [hG, List.getD_cons_zero, List.getD_cons_succ, -List.getD_eq_getElem?_getD, pureOp]
 unfold big6; rw [Bool.eq_iff_iff]; simp only [Bool.and_eq_true, decide_eq_true_eq]; omega
set_option maxRecDepth 100000 in
theorem great_c (c : Cd) (hl : c.ws.length ≤ maxLen) : PC Try.prog 10 [.agg 2 (cdF c)] (.bool (bigC c)) := by
 refine zp Try.func10 fun G hG hR => ?_
 refine zs (zrP ?_)
 refine zs (zL (zlP 1 ?_))
 refine zcP cal35 (great33_c c hl) ?_
 refine zlP 15 ?_
 refine zcP cal36 (containsFS_c c.ws big6 37 0 (fun _ => .any) hl cal37 (fun _ => trivial) fun x _ => great1_c x) ?_
 refine zlP 2 ?_
 refine zN (zt ?_)
 refine RetOK_of ?_
 simp [hG, List.getD_cons_zero, List.getD_cons_succ, -List.getD_eq_getElem?_getD, pureOp]
 rw [bigC_eq]; congr 2; rw [Bool.eq_iff_iff]; simp only [Bool.and_eq_true, decide_eq_true_eq]; omega
end Go.Proofs.Ytoafgeobhhlplaa
