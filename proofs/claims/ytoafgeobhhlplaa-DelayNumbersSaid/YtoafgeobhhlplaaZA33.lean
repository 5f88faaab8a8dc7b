/- Parts of the proof: VH. -/
import Derived.Test.YtoafgeobhhlplaaZA21
import Derived.Test.YtoafgeobhhlplaaZA32
namespace Go.Proofs.Ytoafgeobhhlplaa
set_option linter.unusedSimpArgs false
set_option linter.unusedVariables false
open Go Go.Lift Go.Proofs
def bgT (W : List Wd) (w : Wd) (i p : Nat) : Bool := decide (i ≤ p) && rd W [] (w.drop p)
def bgK (W : List Wd) (u : Wd) (k : Nat) : Bool := (List.range k).any fun x => rd W (W.getD x []) u
def tbT (W : List Wd) (w : Wd) (i k p : Nat) : Bool := if p = i then bgK W (w.drop i) k else bgT W w (i + 1) p
section
variable {W : List Wd} {w u : Wd} {i k p : Nat}
@[simp] theorem bgK_zero : bgK W u 0 = false := rfl
theorem bgK_succ : bgK W u (k + 1) = (bgK W u k || rd W (W.getD k []) u) := by unfold bgK; rw [List.range_succ, List.any_append]; simp
theorem bgK_yes (h : rd W (W.getD k []) u = true) : bgK W u (k + 1) = true := by rw [bgK_succ, h, Bool.or_true]
theorem bgK_not (h : rd W (W.getD k []) u = false) : bgK W u (k + 1) = bgK W u k := by rw [bgK_succ, h, Bool.or_false]
theorem bgK_all (hW : ∀ x ∈ W, x ≠ []) (hu : u ≠ []) : bgK W u W.length = rd W [] u := by
  rw [Bool.eq_iff_iff, rd_first hW hu]
  unfold bgK
  rw [List.any_eq_true]
  constructor
  · rintro ⟨y, hy, h⟩
    exact ⟨_, W_mem (List.mem_range.1 hy), h⟩
  · rintro ⟨x, hx, h⟩
    obtain ⟨y, hy, rfl⟩ := W_at hx
    exact ⟨y, List.mem_range.2 hy, h⟩
theorem bgT_first : bgT W w w.length p = decide (w.length ≤ p) := by
  unfold bgT
  by_cases h : w.length ≤ p
  · rw [List.drop_eq_nil_of_le h]; simp
  · rw [decide_eq_false h]; rfl
theorem tbT_zero : tbT W w i 0 p = bgT W w (i + 1) p := by
  unfold tbT
  by_cases h : p = i
  · rw [if_pos h, h]; unfold bgT; rw [decide_eq_false (by omega)]; rfl
  · rw [if_neg h]
theorem tbT_all (hW : ∀ x ∈ W, x ≠ []) (hi : i < w.length) : tbT W w i W.length p = bgT W w i p := by
  unfold tbT
  by_cases h : p = i
  · rw [if_pos h, h, bgK_all hW (fun e => by have := congrArg List.length e; rw [List.length_drop] at this; simp only [List.length_nil] at this; omega)]
    unfold bgT; simp
  · rw [if_neg h]
    unfold bgT
    congr 1
    exact decide_eq_decide.2 (by omega)
theorem tbT_yes (h : rd W (W.getD k []) (w.drop i) = true) : tbT W w i (k + 1) p = if p = i then true else tbT W w i k p := by
  unfold tbT
  by_cases e : p = i
  · rw [if_pos e, if_pos e, bgK_yes h]
  · rw [if_neg e, if_neg e, if_neg e]
theorem tbT_not (h : rd W (W.getD k []) (w.drop i) = false) : tbT W w i (k + 1) p = tbT W w i k p := by
  unfold tbT; rw [bgK_not h]
theorem tbT_at {n : Nat} (hn : 0 < n) : tbT W w i k (i + n) = rd W [] (w.drop (i + n)) := by
  unfold tbT bgT
  rw [if_neg (by omega), decide_eq_true (by omega), Bool.true_and]
theorem tb_in (hp : p < w.length + 1) : (if p = w.length then AVal.bool true else AVal.bool false) = AVal.bool (bgT W w w.length p) := by
  rw [bgT_first]
  by_cases h : p = w.length
  · rw [if_pos h, decide_eq_true (by omega)]
  · rw [if_neg h, decide_eq_false (by omega)]
theorem tb_st (h : ∀ p, tbT W w i (k + 1) p = if p = i then true else tbT W w i k p) : (if p = i then AVal.bool true else AVal.bool (tbT W w i k p)) = AVal.bool (tbT W w i (k + 1) p) := by
  rw [h p]; split <;> rfl
theorem bgT_end : bgT W w 0 0 = rd W [] w := by unfold bgT; simp
theorem othN_at {x y : Nat} {v : Wd} (hy : y < W.length) (hne : y ≠ x) (h : stB W y v = true) (hn : ∀ j, j < y → j ≠ x → stB W j v = false) : othN W v x = y := by unfold othN; rw [oth_at hy hne h hn]
theorem othN_no {x : Nat} {v : Wd} (hn : ∀ j, j < W.length → j ≠ x → stB W j v = false) : othN W v x = -1 := by unfold othN; rw [oth_no hn]
theorem othN_pos {x : Nat} {v : Wd} : decide (0 ≤ othN W v x) = (othF W v x).isSome := by
  unfold othN
  cases othF W v x with
  | none => rfl
  | some y => simp
end
set_option maxRecDepth 100000 in
theorem pfxR_c (w u : List UInt8) : PC Try.prog 44 [.str w, .str u] (.bool (decide (u <+: w))) := by
 refine zp Try.func44 fun G hG hR => ?_
 refine zs (zrP ?_)
 refine zs (zrP ?_)
 refine zt ?_
 refine RetOK_of ?_
 simp [hG, List.getD_cons_zero, List.getD_cons_succ, -List.getD_eq_getElem?_getD, pureOp]
 exact preS_eq
set_option maxRecDepth 100000 in
theorem begR_c (c : Cd) (hl : c.ws.length ≤ maxLen) (hv : CdOK c) (w : List UInt8) (hw : w.length ≤ 1000000) : PC Try.prog 74 [.agg 2 (cdF c), .str w] (.bool (rd c.ws [] w)) := by
 have hML : maxLen = 9223372036854775807 := by decide
 have hWn := hv.n
 refine zp Try.func74 fun G hG hR => ?_
 refine zs (zrP ?_)
 refine zs (zrP ?_)
 refine zs (zrP ?_)
 refine zs (zs (zrP ?_))
 refine zb ?_
 refine awpS_loop (α := Nat) (fun i => ⟨[(1, .str w), (2, .vptr 2 (cdF c) 0), (5, .sl (0, 0) 0 (w.length + 1)), (6, .int .i64 ((i : Nat) - 1 : Int))], [(0, .one (.arr (w.length + 1) 1 (fun p _ => .bool (bgT c.ws w i p))))], 1⟩) (fun i => i ≤ w.length) (fun i => i) (w.length) (Nat.le_refl _) ?_ ?_
 · exact zwP (fun k => if k = 0 then 1 else k) (fun k => k == 0) (fun _ => false) (h := by simp [hG, List.getD_cons_zero, List.getD_cons_succ, -List.getD_eq_getElem?_getD]; exact fun p hp => tb_in hp)
 rintro i0 hi
 refine zs (zs (zrP ?_))
 refine zy (fun hb21 => ?_) fun hb21 => ?_
 · obtain ⟨i, rfl⟩ : ∃ k, i0 = k + 1 := ⟨i0 - 1, by omega⟩
   have hi1 : ((i + 1 : Nat) : Int) - 1 = (i : Int) := (by omega)
   rw [hi1]
   refine zk (zs (zb (zs (zrP ?_))))
   refine zs (zrP ?_)
   refine zb ?_
   refine awpS_loop (α := Nat) (fun j => ⟨[(1, .str w), (2, .vptr 2 (cdF c) 0), (5, .sl (0, 0) 0 (w.length + 1)), (6, .int .i64 (i : Nat)), (7, .str (w.drop i)), (8, .int .i64 (j : Nat))], [(0, .one (.arr (w.length + 1) 1 (fun p _ => .bool (tbT c.ws w i j p))))], 1⟩) (fun j => j ≤ c.ws.length) (fun j => c.ws.length - j) (0) (Nat.zero_le _) ?_ ?_
   · exact ziP (h := by simp [hG, List.getD_cons_zero, List.getD_cons_succ, -List.getD_eq_getElem?_getD]; exact fun p _ => tbT_zero.symm)
   rintro j hj
   refine zs (zs (zrP ?_))
   refine zy (fun hb31 => ?_) fun hb31 => ?_
   · refine zk (zs (zb (zs ?_)))
     by_cases hA : (w.drop i) <+: (c.ws.getD j [])
     · have hps := @tbT_yes c.ws w i j (h := rdA hA)
       refine zL (zl 6 ?_ (h := by intro c K h; simp [hG, List.getD_cons_zero, List.getD_cons_succ, -List.getD_eq_getElem?_getD, pureOp, hA]; first | exact z1 c h | exact ⟨.mk c, h⟩))
       refine zc cal44 (pfxR_c (c.ws.getD j []) (w.drop i)) ?_ (a := fun hg => by simp [hG, List.getD_cons_zero, List.getD_cons_succ, -List.getD_eq_getElem?_getD, pureOp, hA]) (b := fun hg => by simp [hG, List.getD_cons_zero, List.getD_cons_succ, -List.getD_eq_getElem?_getD, pureOp, hA]) (h := by intro K h; simp [hG, List.getD_cons_zero, List.getD_cons_succ, -List.getD_eq_getElem?_getD, pureOp, hA]; exact h)
       refine zl 7 ?_ (h := by intro c K h; simp [hG, List.getD_cons_zero, List.getD_cons_succ, -List.getD_eq_getElem?_getD, pureOp, hA]; first | exact z1 c h | exact ⟨.mk c, h⟩)
       refine zc cal44 (pfxR_c (w.drop i) (c.ws.getD j [])) ?_ (a := fun hg => by first | (simp [hG, List.getD_cons_zero, List.getD_cons_succ, -List.getD_eq_getElem?_getD, pureOp, hA]; done) | (simp [-List.getD_eq_getElem?_getD] at hg; done) | (simp [-List.getD_eq_getElem?_getD] at hg; simp [hG, List.getD_cons_zero, List.getD_cons_succ, -List.getD_eq_getElem?_getD, pureOp, hA]; first | omega | exact hg | (simp_all [-List.getD_eq_getElem?_getD]; done) | (simp_all [-List.getD_eq_getElem?_getD]; first | exact ⟨rfl, rfl⟩ | exact rfl))) (b := fun hg => by first | (simp [hG, List.getD_cons_zero, List.getD_cons_succ, -List.getD_eq_getElem?_getD, pureOp, hA]; done) | (simp [-List.getD_eq_getElem?_getD] at hg; done) | (simp [-List.getD_eq_getElem?_getD] at hg; simp [hG, List.getD_cons_zero, List.getD_cons_succ, -List.getD_eq_getElem?_getD, pureOp, hA]; first | omega | exact hg | (simp_all [-List.getD_eq_getElem?_getD]; done) | (simp_all [-List.getD_eq_getElem?_getD]; first | exact ⟨rfl, rfl⟩ | exact rfl))) (h := by intro K h; simp [hG, List.getD_cons_zero, List.getD_cons_succ, -List.getD_eq_getElem?_getD, pureOp, hA]; exact h)
       refine zl 14 ?_ (h := by intro c K h; simp [hG, List.getD_cons_zero, List.getD_cons_succ, -List.getD_eq_getElem?_getD, pureOp, hA]; first | exact z1 c h | exact ⟨.mk c, h⟩)
       refine zN ?_
       refine awpS_cond rfl (fun hb62 => ?_) (fun hb62 => ?_)
       · try simp [-List.getD_eq_getElem?_getD] at hb62
         refine zr ?_ (h := by intro c K h; simp [hG, List.getD_cons_zero, List.getD_cons_succ, -List.getD_eq_getElem?_getD, pureOp, hA]; first | exact z1 c h | exact ⟨.mk c, h⟩)
         refine zn (zbn (zr ?_ (h := by intro c K h; simp [hG, List.getD_cons_zero, List.getD_cons_succ, -List.getD_eq_getElem?_getD, pureOp, hA]; first | exact z1 c h | exact ⟨.mk c, h⟩)))
         refine zn ?_
         refine round_end (j + 1) (by omega) (by omega) ?_
         exact zi (e := by simp [hG, List.getD_cons_zero, List.getD_cons_succ, -List.getD_eq_getElem?_getD, pureOp, hA]) (h := by simp [hG, List.getD_cons_zero, List.getD_cons_succ, -List.getD_eq_getElem?_getD]; exact fun p _ => tb_st hps)
       simp at hb62
     by_cases hB : (c.ws.getD j []) <+: (w.drop i)
     · have hbl := hB.length_le
       rw [List.length_drop] at hbl
       have hxp := List.length_pos_iff.2 (hv.ne _ (W_mem hb31))
       have htt := tbT_at (W := c.ws) (w := w) (i := i) (k := j) hxp
       have hcast : ((i : Int) + ((c.ws.getD j []).length : Int)).toNat = i + (c.ws.getD j []).length := by omega
       refine zL (zl 6 ?_ (h := by intro c K h; simp [hG, List.getD_cons_zero, List.getD_cons_succ, -List.getD_eq_getElem?_getD, pureOp, hA, hB]; first | exact z1 c h | exact ⟨.mk c, h⟩))
       refine zc cal44 (pfxR_c (c.ws.getD j []) (w.drop i)) ?_ (a := fun hg => by simp [hG, List.getD_cons_zero, List.getD_cons_succ, -List.getD_eq_getElem?_getD, pureOp, hA, hB]) (b := fun hg => by simp [hG, List.getD_cons_zero, List.getD_cons_succ, -List.getD_eq_getElem?_getD, pureOp, hA, hB]) (h := by intro K h; simp [hG, List.getD_cons_zero, List.getD_cons_succ, -List.getD_eq_getElem?_getD, pureOp, hA, hB]; exact h)
       refine zl 7 ?_ (h := by intro c K h; simp [hG, List.getD_cons_zero, List.getD_cons_succ, -List.getD_eq_getElem?_getD, pureOp, hA, hB]; first | exact z1 c h | exact ⟨.mk c, h⟩)
       refine zc cal44 (pfxR_c (w.drop i) (c.ws.getD j [])) ?_ (a := fun hg => by first | (simp [hG, List.getD_cons_zero, List.getD_cons_succ, -List.getD_eq_getElem?_getD, pureOp, hA, hB]; done) | (simp [-List.getD_eq_getElem?_getD] at hg; done) | (simp [-List.getD_eq_getElem?_getD] at hg; simp [hG, List.getD_cons_zero, List.getD_cons_succ, -List.getD_eq_getElem?_getD, pureOp, hA, hB]; first | omega | exact hg | (simp_all [-List.getD_eq_getElem?_getD]; done) | (simp_all [-List.getD_eq_getElem?_getD]; first | exact ⟨rfl, rfl⟩ | exact rfl))) (b := fun hg => by first | (simp [hG, List.getD_cons_zero, List.getD_cons_succ, -List.getD_eq_getElem?_getD, pureOp, hA, hB]; done) | (simp [-List.getD_eq_getElem?_getD] at hg; done) | (simp [-List.getD_eq_getElem?_getD] at hg; simp [hG, List.getD_cons_zero, List.getD_cons_succ, -List.getD_eq_getElem?_getD, pureOp, hA, hB]; first | omega | exact hg | (simp_all [-List.getD_eq_getElem?_getD]; done) | (simp_all [-List.getD_eq_getElem?_getD]; first | exact ⟨rfl, rfl⟩ | exact rfl))) (h := by intro K h; simp [hG, List.getD_cons_zero, List.getD_cons_succ, -List.getD_eq_getElem?_getD, pureOp, hA, hB]; exact h)
       refine zl 14 ?_ (h := by intro c K h; simp [hG, List.getD_cons_zero, List.getD_cons_succ, -List.getD_eq_getElem?_getD, pureOp, hA, hB]; first | exact z1 c h | exact ⟨.mk c, h⟩)
       refine zN (zy (fun hb62 => ?_) fun hb62 => ?_)
       · refine zr ?_ (h := by intro c K h; simp [hG, List.getD_cons_zero, List.getD_cons_succ, -List.getD_eq_getElem?_getD, pureOp, hA, hB]; first | exact z1 c h | exact ⟨.mk c, h⟩)
         refine zn (zbn (zr ?_ (h := by intro c K h; simp [hG, List.getD_cons_zero, List.getD_cons_succ, -List.getD_eq_getElem?_getD, pureOp, hA, hB]; first | exact z1 c h | exact ⟨.mk c, h⟩)))
         refine zn ?_
         refine round_end (j + 1) (by omega) (by omega) ?_
         exact zi (e := by simp [hG, List.getD_cons_zero, List.getD_cons_succ, -List.getD_eq_getElem?_getD, pureOp, hA, hB]) (h := by simp [hG, List.getD_cons_zero, List.getD_cons_succ, -List.getD_eq_getElem?_getD]; exact fun p _ => tb_st fun p => tbT_yes ((rdB hA hB).trans (by rw [← htt, ← hcast]; exact hb62)))
       refine zk (zn (zbn (zr ?_ (h := by intro c K h; simp [hG, List.getD_cons_zero, List.getD_cons_succ, -List.getD_eq_getElem?_getD, pureOp, hA, hB]; first | exact z1 c h | exact ⟨.mk c, h⟩))))
       refine zn ?_
       refine round_end (j + 1) (by omega) (by omega) ?_
       exact zi (e := by simp [hG, List.getD_cons_zero, List.getD_cons_succ, -List.getD_eq_getElem?_getD, pureOp, hA, hB]) (h := by simp [hG, List.getD_cons_zero, List.getD_cons_succ, -List.getD_eq_getElem?_getD]; exact fun p _ => (tbT_not ((rdB hA hB).trans (by rw [← htt, ← hcast]; exact hb62))).symm)
     have hps := @tbT_not c.ws w i j (h := rdN hA hB)
     refine zL (zl 6 ?_ (h := by intro c K h; simp [hG, List.getD_cons_zero, List.getD_cons_succ, -List.getD_eq_getElem?_getD, pureOp, hA, hB]; first | exact z1 c h | exact ⟨.mk c, h⟩))
     refine zc cal44 (pfxR_c (c.ws.getD j []) (w.drop i)) ?_ (a := fun hg => by simp [hG, List.getD_cons_zero, List.getD_cons_succ, -List.getD_eq_getElem?_getD, pureOp, hA, hB]) (b := fun hg => by simp [hG, List.getD_cons_zero, List.getD_cons_succ, -List.getD_eq_getElem?_getD, pureOp, hA, hB]) (h := by intro K h; simp [hG, List.getD_cons_zero, List.getD_cons_succ, -List.getD_eq_getElem?_getD, pureOp, hA, hB]; exact h)
     refine zl 7 ?_ (h := by intro c K h; simp [hG, List.getD_cons_zero, List.getD_cons_succ, -List.getD_eq_getElem?_getD, pureOp, hA, hB]; first | exact z1 c h | exact ⟨.mk c, h⟩)
     refine zc cal44 (pfxR_c (w.drop i) (c.ws.getD j [])) ?_ (a := fun hg => by first | (simp [hG, List.getD_cons_zero, List.getD_cons_succ, -List.getD_eq_getElem?_getD, pureOp, hA, hB]; done) | (simp [-List.getD_eq_getElem?_getD] at hg; done) | (simp [-List.getD_eq_getElem?_getD] at hg; simp [hG, List.getD_cons_zero, List.getD_cons_succ, -List.getD_eq_getElem?_getD, pureOp, hA, hB]; first | omega | exact hg | (simp_all [-List.getD_eq_getElem?_getD]; done) | (simp_all [-List.getD_eq_getElem?_getD]; first | exact ⟨rfl, rfl⟩ | exact rfl))) (b := fun hg => by first | (simp [hG, List.getD_cons_zero, List.getD_cons_succ, -List.getD_eq_getElem?_getD, pureOp, hA, hB]; done) | (simp [-List.getD_eq_getElem?_getD] at hg; done) | (simp [-List.getD_eq_getElem?_getD] at hg; simp [hG, List.getD_cons_zero, List.getD_cons_succ, -List.getD_eq_getElem?_getD, pureOp, hA, hB]; first | omega | exact hg | (simp_all [-List.getD_eq_getElem?_getD]; done) | (simp_all [-List.getD_eq_getElem?_getD]; first | exact ⟨rfl, rfl⟩ | exact rfl))) (h := by intro K h; simp [hG, List.getD_cons_zero, List.getD_cons_succ, -List.getD_eq_getElem?_getD, pureOp, hA, hB]; exact h)
     refine zl 14 ?_ (h := by intro c K h; simp [hG, List.getD_cons_zero, List.getD_cons_succ, -List.getD_eq_getElem?_getD, pureOp, hA, hB]; first | exact z1 c h | exact ⟨.mk c, h⟩)
     refine zN ?_
     refine awpS_cond rfl (fun hb62 => ?_) (fun hb62 => ?_)
     · simp at hb62
     try simp [-List.getD_eq_getElem?_getD] at hb62
     refine zk (zn (zbn (zr ?_ (h := by intro c K h; simp [hG, List.getD_cons_zero, List.getD_cons_succ, -List.getD_eq_getElem?_getD, pureOp, hA, hB]; first | exact z1 c h | exact ⟨.mk c, h⟩))))
     refine zn ?_
     refine round_end (j + 1) (by omega) (by omega) ?_
     exact zi (e := by simp [hG, List.getD_cons_zero, List.getD_cons_succ, -List.getD_eq_getElem?_getD, pureOp, hA, hB]) (h := by simp [hG, List.getD_cons_zero, List.getD_cons_succ, -List.getD_eq_getElem?_getD]; exact fun p _ => (hps p).symm)
   obtain rfl : j = c.ws.length := (by omega)
   refine zx (ztx (zbx (zn (zbn (zrP ?_)))))
   refine zn ?_
   refine round_end (i) (by omega) (by omega) ?_
   exact ziP (h := by simp [hG, List.getD_cons_zero, List.getD_cons_succ, -List.getD_eq_getElem?_getD]; exact fun p _ => tbT_all hv.ne (by omega))
 obtain rfl : i0 = 0 := (by omega)
 refine zx (ztx (zbx (zs (zrP ?_))))
 refine zt ?_
 refine RetOK_of ?_
 simp [hG, List.getD_cons_zero, List.getD_cons_succ, -List.getD_eq_getElem?_getD, pureOp]
 exact bgT_end
end Go.Proofs.Ytoafgeobhhlplaa
