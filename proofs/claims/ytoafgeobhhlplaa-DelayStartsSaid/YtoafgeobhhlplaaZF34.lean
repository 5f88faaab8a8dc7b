/- Parts of the proof: VG. -/
import Derived.Test.YtoafgeobhhlplaaZF22
import Derived.Test.YtoafgeobhhlplaaZF33
namespace Go.Proofs.Ytoafgeobhhlplaa
set_option linter.unusedSimpArgs false
set_option linter.unusedVariables false
open Go Go.Lift Go.Proofs
theorem re_1 {c : Cd} {d : Int} {w : Wd} (h : ckN c w ≠ 0) : reN c d w = ckN c w ∧ reL c d w = [] ∧ reM c d w = 0 := by
  have e : reN c d w = ckN c w := if_pos h
  unfold reL reM
  rw [e]
  exact ⟨rfl, if_neg h, if_neg h⟩
theorem re_2 {c : Cd} {d : Int} {w : Wd} (h : ckN c w = 0) (h2 : d < 0 ∨ 4096 < d) : reN c d w = 2 ∧ reL c d w = [] ∧ reM c d w = 0 := by
  have e : reN c d w = 2 := by unfold reN; rw [if_neg (fun k => k h), if_pos h2]
  unfold reL reM
  rw [e]
  exact ⟨rfl, if_neg (by decide), if_neg (by decide)⟩
theorem re_3 {c : Cd} {d : Nat} {w : Wd} (h : ckN c w = 0) (h2 : d ≤ 4096) {k : Nat} (hv : CdOK c) (hn : ∀ j, j < k → cerF c.ws d (w.drop (rdS c.ws d w j).2) ≠ none) (he : cerF c.ws d (w.drop (rdS c.ws d w k).2) = none) : reN c d w = 0 ∧ reL c d w = (rdS c.ws d w k).1 ∧ reM c d w = (rdS c.ws d w k).2 := by
  have e : reN c d w = 0 := by unfold reN; rw [if_neg (fun k => k h), if_neg (by omega)]
  unfold reL reM
  rw [e, if_pos rfl, if_pos rfl, Int.toNat_natCast, rdR_end hv.ne hn he]
  exact ⟨rfl, rfl, rfl⟩
theorem rdS_len {W : List Wd} {d : Nat} {w : Wd} : ∀ k, (rdS W d w k).1.length ≤ k
  | 0 => Nat.le_refl _
  | k + 1 => by
    have ih := rdS_len (W := W) (d := d) (w := w) k
    cases h : cerF W d (w.drop (rdS W d w k).2) with
    | none => rw [rdS_none h]; omega
    | some i => rw [rdS_some h]; simp; omega
theorem rdS_zero {W : List Wd} {d : Nat} {w : Wd} : rdS W d w 0 = ([], 0) := rfl
set_option maxRecDepth 100000 in
theorem read_c (c : Cd) (hl : c.ws.length ≤ maxLen) (d : Int) (w : List UInt8) : PC Try.prog 21 [.agg 2 (cdF c), .int .i64 d, .str w] (.tup 3 (fun j => [ints (reL c d w), .int .i64 (reM c d w), .int .i64 (reN c d w)].getD j .any)) := by
 have hML : maxLen = 9223372036854775807 := by decide
 refine zp Try.func21 fun G hG hR => ?_
 refine zs (zr ?_ (h := by intro c K h; simp [hG, List.getD_cons_zero, List.getD_cons_succ, -List.getD_eq_getElem?_getD, pureOp, rdS_zero]; first | exact z1 c h | exact ⟨.mk c, h⟩))
 refine zs (zs (zL (zl 2 ?_ (h := by intro c K h; simp [hG, List.getD_cons_zero, List.getD_cons_succ, -List.getD_eq_getElem?_getD, pureOp, rdS_zero]; first | exact z1 c h | exact ⟨.mk c, h⟩))))
 refine zc cal47 (checkW_c c hl w) ?_ (a := fun hg => by simp [hG, List.getD_cons_zero, List.getD_cons_succ, -List.getD_eq_getElem?_getD, pureOp, rdS_zero]) (b := fun hg => by simp [hG, List.getD_cons_zero, List.getD_cons_succ, -List.getD_eq_getElem?_getD, pureOp, rdS_zero]) (h := by intro K h; simp [hG, List.getD_cons_zero, List.getD_cons_succ, -List.getD_eq_getElem?_getD, pureOp, rdS_zero]; exact h)
 refine zl 1 ?_ (h := by intro c K h; simp [hG, List.getD_cons_zero, List.getD_cons_succ, -List.getD_eq_getElem?_getD, pureOp, rdS_zero]; first | exact z1 c h | exact ⟨.mk c, h⟩)
 refine zN (zs (zr ?_ (h := by intro c K h; simp [hG, List.getD_cons_zero, List.getD_cons_succ, -List.getD_eq_getElem?_getD, pureOp, rdS_zero]; first | exact z1 c h | exact ⟨.mk c, h⟩)))
 refine zy (fun hb17 => ?_) fun hb17 => ?_
 · refine zs (zr ?_ (h := by intro c K h; simp [hG, List.getD_cons_zero, List.getD_cons_succ, -List.getD_eq_getElem?_getD, pureOp, rdS_zero]; first | exact z1 c h | exact ⟨.mk c, h⟩))
   refine zt ?_
   refine RetOK_of ?_
   simp [hG, List.getD_cons_zero, List.getD_cons_succ, -List.getD_eq_getElem?_getD, pureOp, rdS_zero]
   obtain ⟨h1, h2, h3⟩ := re_1 (d := d) hb17; rw [h1, h2, h3]; exact ⟨rfl, rfl, rfl⟩
 have hck : ckN c w = 0 := (by simpa using hb17)
 have hw : w.length ≤ 1000000 := ck_len hck
 have hv := cd_ok (ck_code hck)
 refine zk (zs (zs (zr ?_ (h := by intro c K h; simp [hG, List.getD_cons_zero, List.getD_cons_succ, -List.getD_eq_getElem?_getD, pureOp, rdS_zero]; first | exact z1 c h | exact ⟨.mk c, h⟩))))
 refine zy (fun hb24 => ?_) fun hb24 => ?_
 · refine zs (zr ?_ (h := by intro c K h; simp [hG, List.getD_cons_zero, List.getD_cons_succ, -List.getD_eq_getElem?_getD, pureOp, rdS_zero]; first | exact z1 c h | exact ⟨.mk c, h⟩))
   refine zt ?_
   refine RetOK_of ?_
   simp [hG, List.getD_cons_zero, List.getD_cons_succ, -List.getD_eq_getElem?_getD, pureOp, rdS_zero]
   obtain ⟨h1, h2, h3⟩ := re_2 (d := d) hck (by omega); rw [h1, h2, h3]; exact ⟨rfl, rfl, rfl⟩
 obtain ⟨e, rfl⟩ : ∃ e : Nat, d = (e : Int) := ⟨d.toNat, by omega⟩
 refine zk (zs (zr ?_ (h := by intro c K h; simp [hG, List.getD_cons_zero, List.getD_cons_succ, -List.getD_eq_getElem?_getD, pureOp, rdS_zero]; first | exact z1 c h | exact ⟨.mk c, h⟩)))
 refine zs (zr ?_ (h := by intro c K h; simp [hG, List.getD_cons_zero, List.getD_cons_succ, -List.getD_eq_getElem?_getD, pureOp, rdS_zero]; first | exact z1 c h | exact ⟨.mk c, h⟩))
 refine zb ?_
 refine awpS_loop (α := Nat) (fun k => ⟨[(1, .int .i64 (e : Nat)), (2, .str w), (3, .vptr 2 (cdF c) 0), (10, .sl (0, 0) 0 (rdS c.ws e w k).1.length), (11, .int .i64 ((rdS c.ws e w k).2 : Nat))], [(0, .one (.arr (rdS c.ws e w k).1.length 1 (fun p _ => .int .i64 ((rdS c.ws e w k).1.getD p 0))))], 1⟩) (fun k => ∀ j, j < k → cerF c.ws e (w.drop (rdS c.ws e w j).2) ≠ none) (fun k => w.length + 1 - k) (0) (fun j hj => absurd hj (Nat.not_lt_zero _)) ?_ ?_
 · exact zw (fun k => if k = 0 then 1 else k) (fun k => k == 0) (fun k => k == 0) (e := by simp [hG, List.getD_cons_zero, List.getD_cons_succ, -List.getD_eq_getElem?_getD, pureOp, rdS_zero]) (h := by simp [hG, List.getD_cons_zero, List.getD_cons_succ, -List.getD_eq_getElem?_getD, pureOp, rdS_zero])
 rintro k hn
 have hcnt := rdS_count hv.ne k hn
 have hbx := rdS_box (W := c.ws) (d := e) (w := w) k
 refine zb (zs ?_)
 refine awpS_draw hR mixed [] ⟨[], [], []⟩ fun mu0 => ?_
 refine za [0, 1, 2, 3, 4] [] 2 [4, 3, 2, 1, 0] ?_ (h := by intro c K h; simp [hG, List.getD_cons_zero, List.getD_cons_succ, -List.getD_eq_getElem?_getD, pureOp, rdS_zero]; first | exact z1 c h | exact ⟨.mk c, h⟩)
 refine awpA_only (fuel := 1) (i := 5) (by decide +kernel) ?_
 refine ze cal50 (certain_c c hl hv e (by omega) (w.drop (rdS c.ws e w k).2) (by rw [List.length_drop]; omega)) ?_ (a := fun hg => by simp [hG, List.getD_cons_zero, List.getD_cons_succ, -List.getD_eq_getElem?_getD, pureOp, rdS_zero]) (b := fun hg => by simp [hG, List.getD_cons_zero, List.getD_cons_succ, -List.getD_eq_getElem?_getD, pureOp, rdS_zero]) (h := by intro K h; simp [hG, List.getD_cons_zero, List.getD_cons_succ, -List.getD_eq_getElem?_getD, pureOp, rdS_zero]; exact h)
 refine za [6] [] 0 [6, 5, 4, 3, 2, 1, 0] ?_ (h := by intro c K h; simp [hG, List.getD_cons_zero, List.getD_cons_succ, -List.getD_eq_getElem?_getD, pureOp, rdS_zero]; first | exact z1 c h | exact ⟨.mk c, h⟩)
 refine awpA_done (by decide +kernel) ?_
 refine zs (zs (zr ?_ (h := by intro c K h; simp [hG, List.getD_cons_zero, List.getD_cons_succ, -List.getD_eq_getElem?_getD, pureOp, rdS_zero]; first | exact z1 c h | exact ⟨.mk c, h⟩)))
 refine zy (fun hb32 => ?_) fun hb32 => ?_
 · have hcf := cerN_neg hb32
   refine zs (zr ?_ (h := by intro c K h; simp [hG, List.getD_cons_zero, List.getD_cons_succ, -List.getD_eq_getElem?_getD, pureOp, rdS_zero]; first | exact z1 c h | exact ⟨.mk c, h⟩))
   refine zt (zbt (ztt (zbt ?_)))
   refine RetOK_of ?_
   simp [hG, List.getD_cons_zero, List.getD_cons_succ, -List.getD_eq_getElem?_getD, pureOp, rdS_zero]
   obtain ⟨h1, h2, h3⟩ := re_3 hck (by omega) hv hn hcf; rw [h1, h2, h3]; exact ⟨⟨rfl, Nat.le_refl _, fun _ _ => rfl⟩, rfl, rfl⟩
 obtain ⟨i, hiw, hci, hcf⟩ := cerN_pos (W := c.ws) (d := e) (w := w.drop (rdS c.ws e w k).2) (by omega)
 have hrs := rdS_some hcf
 have hxl := hv.len _ (W_mem hiw)
 have hlen := rdS_len (W := c.ws) (d := e) (w := w) k
 rw [hci]
 refine zk ?_
 refine awpS_draw hR mixed [] ⟨[], [3], []⟩ fun mu0 => ?_
 refine za [0, 1, 4, 5, 6, 7, 8, 9, 10, 11] [] 4 [11, 10, 9, 8, 7, 6, 5, 4, 1, 0] ?_ (h := by intro c K h; simp [hG, List.getD_cons_zero, List.getD_cons_succ, -List.getD_eq_getElem?_getD, pureOp, rdS_zero]; first | exact z1 c h | exact ⟨.mk c, h⟩)
 refine awpA_only (fuel := 3) (i := 2) (by decide +kernel) ?_
 refine zo ?_ (hw := by simp [hG, List.getD_cons_zero, List.getD_cons_succ, -List.getD_eq_getElem?_getD, pureOp, rdS_zero]; (try exact trivial)) (h := by intro c K h; simp [hG, List.getD_cons_zero, List.getD_cons_succ, -List.getD_eq_getElem?_getD, pureOp, rdS_zero]; first | exact z1 c h | exact ⟨.mk c, h⟩)
 refine awpA_only (fuel := 2) (i := 3) (by decide +kernel) ?_
 refine zo ?_ (hw := by simp [hG, List.getD_cons_zero, List.getD_cons_succ, -List.getD_eq_getElem?_getD, pureOp, rdS_zero]; (try exact trivial)) (h := by intro c K h; simp [hG, List.getD_cons_zero, List.getD_cons_succ, -List.getD_eq_getElem?_getD, pureOp, rdS_zero]; first | exact z1 c h | exact ⟨.mk c, h⟩)
 refine za [12, 13] [] 0 [13, 12, 3, 2, 11, 10, 9, 8, 7, 6, 5, 4, 1, 0] ?_ (h := by intro c K h; simp [hG, List.getD_cons_zero, List.getD_cons_succ, -List.getD_eq_getElem?_getD, pureOp, rdS_zero]; first | exact z1 c h | exact ⟨.mk c, h⟩)
 refine awpA_done (by decide +kernel) ?_
 refine zn (zbn (zn ?_))
 refine round_end (k + 1) (step_all hn (by rw [hcf]; simp)) (by omega) ?_
 exact zw (fun k => if k = 0 then 2 else k) (fun _ => false) (fun _ => false) (e := by rw [hrs]; simp [hG, List.getD_cons_zero, List.getD_cons_succ, -List.getD_eq_getElem?_getD]) (h := by rw [hrs]; simp [hG, List.getD_cons_zero, List.getD_cons_succ, -List.getD_eq_getElem?_getD]; exact fun i hi => app_oneI rfl hi)
end Go.Proofs.Ytoafgeobhhlplaa
