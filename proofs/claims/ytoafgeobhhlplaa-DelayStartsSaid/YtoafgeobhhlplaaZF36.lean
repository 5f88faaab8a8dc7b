/- Parts of the proof: VK. -/
import Derived.Test.YtoafgeobhhlplaaZF22
import Derived.Test.YtoafgeobhhlplaaZF34
import Derived.Test.YtoafgeobhhlplaaZF35
namespace Go.Proofs.Ytoafgeobhhlplaa
set_option linter.unusedSimpArgs false
set_option linter.unusedVariables false
open Go Go.Lift Go.Proofs
theorem app_oneS {K : List Wd} {x : Wd} {w : Nat → Nat → AVal} {i : Nat} (hw : w 0 0 = .str x) (hi : i < K.length + 1) : app (fun p _ => .str (K.getD p [])) K.length w i 0 = .str ((K ++ [x]).getD i []) := by
  unfold app
  by_cases h : i < K.length
  · rw [if_pos h]; simp [List.getD, List.getElem?_append_left h]
  · obtain rfl : i = K.length := by omega
    rw [if_neg h, Nat.sub_self, hw]; simp [List.getD]
theorem app_oneR {K : List Rc} {x : Rc} {w : Nat → Nat → AVal} {i j : Nat} (hw : w 0 j = rcF x j) (hi : i < K.length + 1) : app (fun p => rcF (K.getD p dRc)) K.length w i j = rcF ((K ++ [x]).getD i dRc) j := by
  unfold app
  by_cases h : i < K.length
  · rw [if_pos h]; simp [List.getD, List.getElem?_append_left h]
  · obtain rfl : i = K.length := by omega
    rw [if_neg h, Nat.sub_self, hw]; simp [List.getD]
def rvF (c : Cd) (m : AVal) (j : Nat) : AVal := match j with
  | 0 => .int .i64 c.q
  | 1 => strs c.ws
  | _ => m
@[simp] theorem rvF0 {c : Cd} {m : AVal} : rvF c m 0 = .int .i64 c.q := rfl
@[simp] theorem rvF1 {c : Cd} {m : AVal} : rvF c m 1 = strs c.ws := rfl
@[simp] theorem rvF2 {c : Cd} {m : AVal} : rvF c m 2 = m := rfl
def rcK (x : Rc) : AVal := aggL [.str x.1, .str x.2]
@[simp] theorem aggL_rc {a b : Wd} : aggL [.str a, .str b] = rcK (a, b) := rfl
theorem kEq_rc (a b : Rc) : kEq T 68 (rcK a) (rcK b) = some (decide (a = b)) := by
  have : kEq T 68 (rcK a) (rcK b) = some (decide (a.1 = b.1) && (decide (a.2 = b.2) && true)) := by
    simp [rcK, aggL]
  rw [this]
  congr 1
  rw [Bool.eq_iff_iff]
  simp only [Bool.and_eq_true, decide_eq_true_eq, Bool.and_true]
  obtain ⟨a1, a2⟩ := a
  obtain ⟨b1, b2⟩ := b
  simp
theorem luK_congr2 {l : List (AVal × AVal)} {f g : Nat → AVal} (h : f 0 = g 0 ∧ f 1 = g 1) : ∀ i, luK T 68 l i (.agg 2 f) = luK T 68 l i (.agg 2 g) := by
  obtain ⟨h0, h1⟩ := h
  induction l with
  | nil => intro i; rfl
  | cons p l ih =>
    intro i
    obtain ⟨a, v⟩ := p
    have hk : kEq T 68 (.agg 2 f) a = kEq T 68 (.agg 2 g) a := by
      cases a <;> simp [h0, h1]
    simp only [luK, hk, ih (i + 1)]
def luKx := luK
theorem luK_rc {β : Type} {ev : β → AVal} {l : List (Rc × β)} {f : Nat → AVal} {e : Rc} (h0 : f 0 = .str e.1) (h1 : f 1 = .str e.2) : luK T 68 (mpE rcK ev l) 0 (.agg 2 f) = some ((alFind l 0 e).map fun p => (p.1, ev p.2)) := by
  rw [← luK_mpE (ek := rcK) (ev := ev) kEq_rc l 0 e]
  exact luK_congr2 ⟨h0, h1⟩ 0
@[simp] theorem luKrc {β : Type} {ev : β → AVal} {l : List (Rc × β)} {f : Nat → AVal} : luK T 68 (mpE rcK ev l) 0 (.agg 2 f) = (match f 0, f 1 with
    | .str a, .str b => some ((alFind l 0 ((a, b) : Rc)).map fun p => (p.1, ev p.2))
    | _, _ => luKx T 68 (mpE rcK ev l) 0 (.agg 2 f)) := by
  split
  · rename_i a b h0 h1
    exact luK_rc (e := (a, b)) h0 h1
  · rfl
@[simp] theorem putK_rcI {l : List (Rc × Int)} {k : Rc} {v : Int} : putK (mpE rcK intV l) ((alFind l 0 k).map fun p => (p.1, intV p.2)) (rcK k) (.int .i64 v) = mpE rcK intV (alPut l k v) := putK_mpE (ek := rcK) (ev := intV) l k v
@[simp high] theorem HLe_rcI {h : Heap} {σ : Lift.Id → Lift.Id} {fz : Nat → Bool} {vz : Lift.Id → Bool} {nx : Nat} {l2 l : List (Rc × Int)} (e : l2 = l) : HLe h σ fz vz nx (.mp (mpE rcK intV l2)) (some (.mp (mpE rcK intV l))) = True := eq_true (HLe_mpE (ek := rcK) (ev := intV) (fun a => by
  intro j hj
  match j, hj with
  | 0, _ => exact trivial
  | 1, _ => exact trivial) (fun _ => trivial) e)
set_option maxRecDepth 100000 in
theorem rests_c (c : Cd) (hv : CdOK c) (s : List UInt8) (l : UInt8) : PC Try.prog 68 [.agg 2 (cdF c), .str s, .int .u8 l.toNat] (strs (rst c.ws s l)) := by
 have hWn := hv.n
 refine zp Try.func68 fun G hG hR => ?_
 refine zs (zr ?_ (h := by intro c K h; simp [hG, List.getD_cons_zero, List.getD_cons_succ, -List.getD_eq_getElem?_getD, pureOp, rstA_zero]; first | exact z1 c h | exact ⟨.mk c, h⟩))
 refine zs (zs (zr ?_ (h := by intro c K h; simp [hG, List.getD_cons_zero, List.getD_cons_succ, -List.getD_eq_getElem?_getD, pureOp, rstA_zero]; first | exact z1 c h | exact ⟨.mk c, h⟩)))
 refine zy (fun hb11 => ?_) fun hb11 => ?_
 · obtain ⟨h, t, rfl⟩ : ∃ h t, s = h :: t := (by cases s with | nil => exact absurd rfl hb11 | cons h t => exact ⟨h, t, rfl⟩)
   refine zs (zs (zr ?_ (h := by intro c K h; simp [hG, List.getD_cons_zero, List.getD_cons_succ, -List.getD_eq_getElem?_getD, pureOp, rstA_zero]; first | exact z1 c h | exact ⟨.mk c, h⟩)))
   refine zy (fun hb15 => ?_) fun hb15 => ?_
   · refine zs (zr ?_ (h := by intro c K h; simp [hG, List.getD_cons_zero, List.getD_cons_succ, -List.getD_eq_getElem?_getD, pureOp, rstA_zero]; first | exact z1 c h | exact ⟨.mk c, h⟩))
     refine zt ?_
     refine RetOK_of ?_
     simp [hG, List.getD_cons_zero, List.getD_cons_succ, -List.getD_eq_getElem?_getD, pureOp, rstA_zero]
     exact if_neg (fun e => hb15 (by rw [e]))
   refine zk (zs (zr ?_ (h := by intro c K h; simp [hG, List.getD_cons_zero, List.getD_cons_succ, -List.getD_eq_getElem?_getD, pureOp, rstA_zero]; first | exact z1 c h | exact ⟨.mk c, h⟩)))
   refine zt ?_
   refine RetOK_of ?_
   simp [hG, List.getD_cons_zero, List.getD_cons_succ, -List.getD_eq_getElem?_getD, pureOp, rstA_zero]
   rw [show rst c.ws (h :: t) l = [t] from if_pos (UInt8.toNat_inj.1 (by omega))]; refine ⟨rfl, Nat.le_refl _, fun i hi => ?_⟩; obtain rfl : i = 0 := (by simpa using hi); rfl
 obtain rfl : s = [] := (by simpa using hb11)
 refine zk (zs (zr ?_ (h := by intro c K h; simp [hG, List.getD_cons_zero, List.getD_cons_succ, -List.getD_eq_getElem?_getD, pureOp, rstA_zero]; first | exact z1 c h | exact ⟨.mk c, h⟩)))
 refine zs (zs (zr ?_ (h := by intro c K h; simp [hG, List.getD_cons_zero, List.getD_cons_succ, -List.getD_eq_getElem?_getD, pureOp, rstA_zero]; first | exact z1 c h | exact ⟨.mk c, h⟩)))
 refine zb ?_
 refine awpS_loop (α := Nat) (fun i => ⟨[(2, .int .u8 l.toNat), (3, .vptr 2 (cdF c) 0), (7, .sl (0, 0) 0 (rstA c.ws l i).length), (20, strs c.ws), (21, .int .i64 c.ws.length), (22, .int .i64 (i : Nat))], [(0, .one (.arr (rstA c.ws l i).length 1 (fun p _ => .str ((rstA c.ws l i).getD p []))))], 1⟩) (fun i => i ≤ c.ws.length) (fun i => c.ws.length - i) (0) (Nat.zero_le _) ?_ ?_
 · exact zw (fun k => if k = 0 then 1 else k) (fun k => k == 0) (fun k => k == 0) (e := by simp [hG, List.getD_cons_zero, List.getD_cons_succ, -List.getD_eq_getElem?_getD, pureOp, rstA_zero]) (h := by simp [hG, List.getD_cons_zero, List.getD_cons_succ, -List.getD_eq_getElem?_getD, pureOp, rstA_zero])
 rintro i hi
 refine zs (zr ?_ (h := by intro c K h; simp [hG, List.getD_cons_zero, List.getD_cons_succ, -List.getD_eq_getElem?_getD, pureOp, rstA_zero]; first | exact z1 c h | exact ⟨.mk c, h⟩))
 refine zs (zy (fun hb23 => ?_) fun hb23 => ?_)
 · have hne := hv.ne _ (W_mem hb23)
   have hnl := List.length_pos_iff.2 hne
   have hrl := rstA_len (W := c.ws) (l := l) i
   refine zk (zs (zb (zs (zr ?_ (h := by intro c K h; simp [hG, List.getD_cons_zero, List.getD_cons_succ, -List.getD_eq_getElem?_getD, pureOp, rstA_zero]; first | exact z1 c h | exact ⟨.mk c, h⟩)))))
   refine zs (zr ?_ (h := by intro c K h; simp [hG, List.getD_cons_zero, List.getD_cons_succ, -List.getD_eq_getElem?_getD, pureOp, rstA_zero]; first | exact z1 c h | exact ⟨.mk c, h⟩))
   refine zy (fun hb29 => ?_) fun hb29 => ?_
   · have hps := rstA_yes hb23 ((head_at (l := l) hne).2 (by omega))
     refine zr ?_ (h := by intro c K h; simp [hG, List.getD_cons_zero, List.getD_cons_succ, -List.getD_eq_getElem?_getD, pureOp, rstA_zero]; first | exact z1 c h | exact ⟨.mk c, h⟩)
     refine zn (zbn (zr ?_ (h := by intro c K h; simp [hG, List.getD_cons_zero, List.getD_cons_succ, -List.getD_eq_getElem?_getD, pureOp, rstA_zero]; first | exact z1 c h | exact ⟨.mk c, h⟩)))
     refine zn ?_
     refine round_end (i + 1) (by omega) (by omega) ?_
     exact zw (fun k => if k = 0 then 2 else k) (fun _ => false) (fun _ => false) (e := by rw [hps]; simp [hG, List.getD_cons_zero, List.getD_cons_succ, -List.getD_eq_getElem?_getD]) (h := by rw [hps]; simp [hG, List.getD_cons_zero, List.getD_cons_succ, -List.getD_eq_getElem?_getD]; exact fun i hi => app_oneS rfl hi)
   have hps := rstA_not hb23 (fun h => by have := (head_at (l := l) hne).1 h; omega)
   refine zk (zn (zbn (zr ?_ (h := by intro c K h; simp [hG, List.getD_cons_zero, List.getD_cons_succ, -List.getD_eq_getElem?_getD, pureOp, rstA_zero]; first | exact z1 c h | exact ⟨.mk c, h⟩))))
   refine zn ?_
   refine round_end (i + 1) (by omega) (by omega) ?_
   exact zi (e := by rw [hps]; simp [hG, List.getD_cons_zero, List.getD_cons_succ, -List.getD_eq_getElem?_getD]) (h := by rw [hps]; simp [hG, List.getD_cons_zero, List.getD_cons_succ, -List.getD_eq_getElem?_getD])
 obtain rfl : i = c.ws.length := (by omega)
 refine zx (ztx (zbx (zs (zr ?_ (h := by intro c K h; simp [hG, List.getD_cons_zero, List.getD_cons_succ, -List.getD_eq_getElem?_getD, pureOp, rstA_zero]; first | exact z1 c h | exact ⟨.mk c, h⟩)))))
 refine zt ?_
 refine RetOK_of ?_
 simp [hG, List.getD_cons_zero, List.getD_cons_succ, -List.getD_eq_getElem?_getD, pureOp, rstA_zero]
 rw [← rstA_full]; exact ⟨rfl, Nat.le_refl _, fun _ _ => rfl⟩
set_option maxRecDepth 100000 in
theorem after_c (c : Cd) (hv : CdOK c) (p : Rc) (l : UInt8) (m : List (Rc × Int)) : FC1 Try.prog 67 [.agg 3 (rvF c (.map (0, 0))), .agg 2 (rcF p), .int .u8 l.toNat] [(0, .one (.mp (mpE rcK intV m)))] 1 (rcs (aft c.ws p l)) [(0, .one (.mp (mpE rcK intV m)))] 1 := by
 have hWn := hv.n
 have hal := rst_len (W := c.ws) (s := p.1) (l := l) hWn.1
 have hbl := rst_len (W := c.ws) (s := p.2) (l := l) hWn.1
 refine FC_introS T_ok Try.func67 rfl (by simp [Try.ntmps67]) fun G hG hR => ?_
 simp only [Try.ntmps67, Try.results67] at hG ⊢
 simp only [argEnv, Nat.zero_add, Nat.reduceAdd]
 refine zs (zr ?_ (h := by intro c K h; simp [hG, List.getD_cons_zero, List.getD_cons_succ, -List.getD_eq_getElem?_getD, pureOp, aftI_zero, aftJ_zero]; first | exact z1 c h | exact ⟨.mk c, h⟩))
 refine zs (zr ?_ (h := by intro c K h; simp [hG, List.getD_cons_zero, List.getD_cons_succ, -List.getD_eq_getElem?_getD, pureOp, aftI_zero, aftJ_zero]; first | exact z1 c h | exact ⟨.mk c, h⟩))
 refine zs (zs (zL (zl 5 ?_ (h := by intro c K h; simp [hG, List.getD_cons_zero, List.getD_cons_succ, -List.getD_eq_getElem?_getD, pureOp, aftI_zero, aftJ_zero]; first | exact z1 c h | exact ⟨.mk c, h⟩))))
 refine zc cal68 (rests_c c hv p.1 l) ?_ (a := fun hg => by simp [hG, List.getD_cons_zero, List.getD_cons_succ, -List.getD_eq_getElem?_getD, pureOp, aftI_zero, aftJ_zero]) (b := fun hg => by simp [hG, List.getD_cons_zero, List.getD_cons_succ, -List.getD_eq_getElem?_getD, pureOp, aftI_zero, aftJ_zero]) (h := by intro K h; simp [hG, List.getD_cons_zero, List.getD_cons_succ, -List.getD_eq_getElem?_getD, pureOp, aftI_zero, aftJ_zero]; exact h)
 refine zl 2 ?_ (h := by intro c K h; simp [hG, List.getD_cons_zero, List.getD_cons_succ, -List.getD_eq_getElem?_getD, pureOp, aftI_zero, aftJ_zero]; first | exact z1 c h | exact ⟨.mk c, h⟩)
 refine zN (zb ?_)
 refine awpS_loop (α := Nat) (fun i => ⟨[(2, .int .u8 l.toNat), (3, .vptr 3 (rvF c (.map (0, 0))) 0), (4, .vptr 2 (rcF p) 0), (7, .sl (1, 0) 0 (aftI (rst c.ws p.1 l) (rst c.ws p.2 l) i).length), (17, strs (rst c.ws p.1 l)), (18, .int .i64 (rst c.ws p.1 l).length), (19, .int .i64 (i : Nat))], [(0, .one (.mp (mpE rcK intV m))), (1, .one (.arr (aftI (rst c.ws p.1 l) (rst c.ws p.2 l) i).length 2 (fun y => rcF ((aftI (rst c.ws p.1 l) (rst c.ws p.2 l) i).getD y dRc))))], 2⟩) (fun i => i ≤ (rst c.ws p.1 l).length) (fun i => (rst c.ws p.1 l).length - i) (0) (Nat.zero_le _) ?_ ?_
 · refine wk_of (fun k => if k = 1 then 3 else k) (fun k => k == 1 || k == 2) (fun k => k == 1) ?_ ?_ rfl (by simp) (fun k hk => by first | exact ⟨rfl, rfl⟩ | (revert k; decide) | (obtain rfl : k = 0 := (by omega); exact ⟨rfl, rfl⟩) | (have hk2 : k = 0 ∨ k = 1 := (by omega); rcases hk2 with rfl | rfl <;> exact ⟨rfl, rfl⟩))
   · simp [hG, List.getD_cons_zero, List.getD_cons_succ, -List.getD_eq_getElem?_getD, pureOp, aftI_zero, aftJ_zero]
   simp [hG, List.getD_cons_zero, List.getD_cons_succ, -List.getD_eq_getElem?_getD, pureOp, aftI_zero, aftJ_zero]
 rintro i hi
 refine zs (zr ?_ (h := by intro c K h; simp [hG, List.getD_cons_zero, List.getD_cons_succ, -List.getD_eq_getElem?_getD, pureOp, aftI_zero, aftJ_zero]; first | exact z1 c h | exact ⟨.mk c, h⟩))
 refine zs (zy (fun hb20 => ?_) fun hb20 => ?_)
 · refine zk (zs (zb (zs (zr ?_ (h := by intro c K h; simp [hG, List.getD_cons_zero, List.getD_cons_succ, -List.getD_eq_getElem?_getD, pureOp, aftI_zero, aftJ_zero]; first | exact z1 c h | exact ⟨.mk c, h⟩)))))
   refine zs (zL (zl 5 ?_ (h := by intro c K h; simp [hG, List.getD_cons_zero, List.getD_cons_succ, -List.getD_eq_getElem?_getD, pureOp, aftI_zero, aftJ_zero]; first | exact z1 c h | exact ⟨.mk c, h⟩)))
   refine zc cal68 (rests_c c hv p.2 l) ?_ (a := fun hg => by simp [hG, List.getD_cons_zero, List.getD_cons_succ, -List.getD_eq_getElem?_getD, pureOp, aftI_zero, aftJ_zero]) (b := fun hg => by simp [hG, List.getD_cons_zero, List.getD_cons_succ, -List.getD_eq_getElem?_getD, pureOp, aftI_zero, aftJ_zero]) (h := by intro K h; simp [hG, List.getD_cons_zero, List.getD_cons_succ, -List.getD_eq_getElem?_getD, pureOp, aftI_zero, aftJ_zero]; exact h)
   refine zl 2 ?_ (h := by intro c K h; simp [hG, List.getD_cons_zero, List.getD_cons_succ, -List.getD_eq_getElem?_getD, pureOp, aftI_zero, aftJ_zero]; first | exact z1 c h | exact ⟨.mk c, h⟩)
   refine zN (zb ?_)
   refine awpS_loop (α := Nat) (fun j => ⟨[(2, .int .u8 l.toNat), (3, .vptr 3 (rvF c (.map (0, 0))) 0), (4, .vptr 2 (rcF p) 0), (7, .sl (1, 0) 0 (aftJ (rst c.ws p.1 l) (rst c.ws p.2 l) i j).length), (9, .str ((rst c.ws p.1 l).getD i [])), (17, strs (rst c.ws p.1 l)), (18, .int .i64 (rst c.ws p.1 l).length), (19, .int .i64 (i : Nat)), (28, strs (rst c.ws p.2 l)), (29, .int .i64 (rst c.ws p.2 l).length), (30, .int .i64 (j : Nat))], [(0, .one (.mp (mpE rcK intV m))), (1, .one (.arr (aftJ (rst c.ws p.1 l) (rst c.ws p.2 l) i j).length 2 (fun y => rcF ((aftJ (rst c.ws p.1 l) (rst c.ws p.2 l) i j).getD y dRc))))], 2⟩) (fun j => j ≤ (rst c.ws p.2 l).length) (fun j => (rst c.ws p.2 l).length - j) (0) (Nat.zero_le _) ?_ ?_
   · refine wk_of (id) (fun _ => false) (fun _ => false) ?_ ?_ rfl (by simp) (fun k hk => by first | exact ⟨rfl, rfl⟩ | (revert k; decide) | (obtain rfl : k = 0 := (by omega); exact ⟨rfl, rfl⟩) | (have hk2 : k = 0 ∨ k = 1 := (by omega); rcases hk2 with rfl | rfl <;> exact ⟨rfl, rfl⟩))
     · simp [hG, List.getD_cons_zero, List.getD_cons_succ, -List.getD_eq_getElem?_getD, pureOp, aftI_zero, aftJ_zero]
     simp [hG, List.getD_cons_zero, List.getD_cons_succ, -List.getD_eq_getElem?_getD, pureOp, aftI_zero, aftJ_zero]
   rintro j hj
   refine zs (zr ?_ (h := by intro c K h; simp [hG, List.getD_cons_zero, List.getD_cons_succ, -List.getD_eq_getElem?_getD, pureOp, aftI_zero, aftJ_zero]; first | exact z1 c h | exact ⟨.mk c, h⟩))
   refine zs (zy (fun hb31 => ?_) fun hb31 => ?_)
   · have hjs := aftJ_succ (A := (rst c.ws p.1 l)) (i := i) hb31
     have hjl := aftJ_len (A := (rst c.ws p.1 l)) (B := (rst c.ws p.2 l)) (i := i) (j := j)
     have hjm := Nat.mul_le_mul (show i ≤ 64 by omega) (show (rst c.ws p.2 l).length ≤ 64 by omega)
     refine zk (zs (zb (zs (zr ?_ (h := by intro c K h; simp [hG, List.getD_cons_zero, List.getD_cons_succ, -List.getD_eq_getElem?_getD, pureOp, aftI_zero, aftJ_zero]; first | exact z1 c h | exact ⟨.mk c, h⟩)))))
     refine zr ?_ (h := by intro c K h; simp [hG, List.getD_cons_zero, List.getD_cons_succ, -List.getD_eq_getElem?_getD, pureOp, aftI_zero, aftJ_zero]; first | exact z1 c h | exact ⟨.mk c, h⟩)
     refine zn (zbn (zr ?_ (h := by intro c K h; simp [hG, List.getD_cons_zero, List.getD_cons_succ, -List.getD_eq_getElem?_getD, pureOp, aftI_zero, aftJ_zero]; first | exact z1 c h | exact ⟨.mk c, h⟩)))
     refine zn ?_
     refine round_end (j + 1) (by omega) (by omega) ?_
     refine wk_of (fun k => if k = 1 then 3 else k) (fun _ => false) (fun _ => false) ?_ ?_ rfl (by simp) (fun k hk => by first | exact ⟨rfl, rfl⟩ | (revert k; decide) | (obtain rfl : k = 0 := (by omega); exact ⟨rfl, rfl⟩) | (have hk2 : k = 0 ∨ k = 1 := (by omega); rcases hk2 with rfl | rfl <;> exact ⟨rfl, rfl⟩))
     · rw [hjs]; simp [hG, List.getD_cons_zero, List.getD_cons_succ, -List.getD_eq_getElem?_getD]
     rw [hjs]; simp [hG, List.getD_cons_zero, List.getD_cons_succ, -List.getD_eq_getElem?_getD]; exact fun i hi => ⟨app_oneR (j := 0) rfl hi, app_oneR (j := 1) rfl hi⟩
   obtain rfl : j = (rst c.ws p.2 l).length := (by omega)
   have hjf := aftJ_full (B := (rst c.ws p.2 l)) hb20
   refine zx (ztx (zbx (zn (zbn (zr ?_ (h := by intro c K h; simp [hG, List.getD_cons_zero, List.getD_cons_succ, -List.getD_eq_getElem?_getD, pureOp, aftI_zero, aftJ_zero]; first | exact z1 c h | exact ⟨.mk c, h⟩))))))
   refine zn ?_
   refine round_end (i + 1) (by omega) (by omega) ?_
   refine wk_of (id) (fun _ => false) (fun _ => false) ?_ ?_ rfl (by simp) (fun k hk => by first | exact ⟨rfl, rfl⟩ | (revert k; decide) | (obtain rfl : k = 0 := (by omega); exact ⟨rfl, rfl⟩) | (have hk2 : k = 0 ∨ k = 1 := (by omega); rcases hk2 with rfl | rfl <;> exact ⟨rfl, rfl⟩))
   · rw [← hjf]; simp [hG, List.getD_cons_zero, List.getD_cons_succ, -List.getD_eq_getElem?_getD]
   rw [← hjf]; simp [hG, List.getD_cons_zero, List.getD_cons_succ, -List.getD_eq_getElem?_getD]
 obtain rfl : i = (rst c.ws p.1 l).length := (by omega)
 refine zx (ztx (zbx (zs (zr ?_ (h := by intro c K h; simp [hG, List.getD_cons_zero, List.getD_cons_succ, -List.getD_eq_getElem?_getD, pureOp, aftI_zero, aftJ_zero]; first | exact z1 c h | exact ⟨.mk c, h⟩)))))
 refine zt ?_
 refine RetF_of (()) (id) (fun k => k == 1) (fun _ => false) trivial ?_ ?_ (by rfl) (by simp) (fun k hk => ⟨rfl, rfl⟩)
 · simp [hG, List.getD_cons_zero, List.getD_cons_succ, -List.getD_eq_getElem?_getD]; rw [← aftI_full]; exact ⟨rfl, Nat.le_refl _, fun _ _ => ⟨rfl, rfl⟩⟩
 simp [hG, List.getD_cons_zero, List.getD_cons_succ, -List.getD_eq_getElem?_getD, pureOp, aftI_zero, aftJ_zero]
end Go.Proofs.Ytoafgeobhhlplaa
