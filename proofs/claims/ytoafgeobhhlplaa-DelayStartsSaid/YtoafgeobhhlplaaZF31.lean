/- Parts of the proof: VD. -/
import Derived.Test.YtoafgeobhhlplaaZF22
import Derived.Test.YtoafgeobhhlplaaZF25
import Derived.Test.YtoafgeobhhlplaaZF28
import Derived.Test.YtoafgeobhhlplaaZF30
namespace Go.Proofs.Ytoafgeobhhlplaa
set_option linter.unusedSimpArgs false
set_option linter.unusedVariables false
open Go Go.Lift Go.Proofs
def fineC (c : Cd) : Bool := (!bigC c && decide (cdN c = 0)) && decide (0 < c.ws.length)
theorem fine_iff {c : Cd} : fineC c = true ↔ bigC c = false ∧ cdN c = 0 := by
  unfold fineC
  simp only [Bool.and_eq_true, Bool.not_eq_true', decide_eq_true_eq]
  exact ⟨fun h => h.1, fun h => ⟨h, (cd_ok h.2).n.1⟩⟩
@[simp] theorem luK3 {β : Type} {ev : β → AVal} {l : List (Int × β)} {k : Int} : luK T 3 (mpE intK ev l) 0 (.int .i64 k) = some ((alFind l 0 k).map fun p => (p.1, ev p.2)) := luK_intK (by simp)
@[simp high] theorem HLe_ib {h : Heap} {σ : Lift.Id → Lift.Id} {fz : Nat → Bool} {vz : Lift.Id → Bool} {nx : Nat} {l2 l : List (Int × Bool)} (e : l2 = l) : HLe h σ fz vz nx (.mp (mpE intK boolV l2)) (some (.mp (mpE intK boolV l))) = True := eq_true (HLe_mpE (ek := intK) (ev := boolV) (fun _ => trivial) (fun _ => trivial) e)
@[simp] theorem ren_mpI {σ : Nat → Nat} {l : List (Int × Bool)} : List.map (fun p => (ren σ p.1, ren σ p.2)) (mpE intK boolV l) = mpE intK boolV l := by
  conv => rhs; rw [← List.map_id (mpE intK boolV l)]
  refine List.map_congr_left fun p hp => ?_
  obtain ⟨q, _, rfl⟩ := List.mem_map.1 hp
  rfl
@[simp] theorem putK_ib {l : List (Int × Bool)} {k : Int} {v : Bool} : putK (mpE intK boolV l) ((alFind l 0 k).map fun p => (p.1, boolV p.2)) (.int .i64 k) (.bool v) = mpE intK boolV (alPut l k v) := putK_mpE (ek := intK) (ev := boolV) l k v
def Memo (W : List Wd) (w : Wd) (m : List (Int × Bool)) : Prop := ∀ k b, alGet m k = some b → b = rd W [] (w.drop k.toNat)
theorem memo_nil {W : List Wd} {w : Wd} : Memo W w [] := fun k b h => by cases h
theorem get_put {β : Type} : ∀ {m : List (Int × β)} {k j : Int} {v : β}, alGet (alPut m k v) j = if j = k then some v else alGet m j
  | [], k, j, v => rfl
  | (a, b) :: m, k, j, v => by
    simp only [alPut]
    by_cases h : k = a
    · subst h
      rw [if_pos rfl]
      simp only [alGet]
      by_cases h2 : j = k
      · rw [if_pos h2, if_pos h2]
      · rw [if_neg h2, if_neg h2, if_neg h2]
    · rw [if_neg h]
      simp only [alGet]
      rw [get_put (m := m)]
      by_cases h3 : j = a
      · rw [if_pos h3, if_neg (by omega), if_pos h3]
      · rw [if_neg h3, if_neg h3]
theorem memo_put {W : List Wd} {w : Wd} {m : List (Int × Bool)} (h : Memo W w m) {k : Nat} {b : Bool} (hb : b = rd W [] (w.drop k)) : Memo W w (alPut m (k : Int) b) := fun j x hx => by
  rw [get_put] at hx
  by_cases e : j = (k : Int)
  · rw [if_pos e] at hx
    cases hx
    rw [e, hb]; rfl
  · rw [if_neg e] at hx
    exact h j x hx
theorem rd_yes {W : List Wd} {u : Wd} {i : Nat} (hi : i < W.length) (h : rd W (W.getD i []) u = true) : rd W [] u = true := rd_of_word (W_mem hi) h
theorem rd_no {W : List Wd} {u : Wd} (hW : ∀ x ∈ W, x ≠ []) (hu : u ≠ []) (h : ∀ j, j < W.length → rd W (W.getD j []) u = false) : rd W [] u = false := by
  rw [Bool.eq_false_iff]
  intro h2
  obtain ⟨x, hx, h3⟩ := (rd_first hW hu).1 h2
  obtain ⟨j, hj, rfl⟩ := W_at hx
  rw [h j hj] at h3; cases h3
theorem rd_dec {W : List Wd} {x u : Wd} : rd W x u = (decide (u <+: x) || (decide (x <+: u) && rd W [] (u.drop x.length))) := by
  rw [Bool.eq_iff_iff, rd_pre]
  simp
theorem memo_at {W : List Wd} {w : Wd} {m : List (Int × Bool)} (h : Memo W w m) {k : Nat} (hs : (alGet m (k : Int)).isSome = true) : (alGet m (k : Int)).getD false = rd W [] (w.drop k) := by
  obtain ⟨b, hb⟩ := Option.isSome_iff_exists.1 hs
  rw [hb]
  exact h _ b hb
theorem rdA {W : List Wd} {x u : Wd} (hA : u <+: x) : rd W x u = true := by rw [rd_dec, decide_eq_true hA]; rfl
theorem rdN {W : List Wd} {x u : Wd} (hA : ¬ u <+: x) (hB : ¬ x <+: u) : rd W x u = false := by rw [rd_dec, decide_eq_false hA, decide_eq_false hB]; rfl
theorem rdB {W : List Wd} {x w : Wd} {k : Nat} (hA : ¬ w.drop k <+: x) (hB : x <+: w.drop k) : rd W x (w.drop k) = rd W [] (w.drop (k + x.length)) := by rw [rd_dec, decide_eq_false hA, decide_eq_true hB, List.drop_drop]; simp
set_option maxRecDepth 100000 in
theorem fine_c (c : Cd) (hl : c.ws.length ≤ maxLen) : PC Try.prog 26 [.agg 2 (cdF c)] (.bool (fineC c)) := by
 have hML : maxLen = 9223372036854775807 := by decide
 refine zp Try.func26 fun G hG hR => ?_
 refine zs (zrP ?_)
 refine zs (zL (zlP 1 ?_))
 refine zcP cal10 (great_c c hl) ?_
 refine zlP 3 ?_
 refine zcP cal38 (check_c c hl) ?_
 refine zlP 9 ?_
 refine zN (zt ?_)
 refine RetOK_of ?_
 simp [hG, List.getD_cons_zero, List.getD_cons_succ, -List.getD_eq_getElem?_getD, pureOp]
 rfl
set_option maxRecDepth 100000 in
theorem checkW_c (c : Cd) (hl : c.ws.length ≤ maxLen) (w : List UInt8) : PC Try.prog 47 [.agg 2 (cdF c), .str w] (.int .i64 (ckN c w)) := by
 refine zp Try.func47 fun G hG hR => ?_
 refine zs (zrP ?_)
 refine zs (zs (zL (zlP 1 ?_)))
 refine zcP cal38 (check_c c hl) ?_
 refine zlP 1 ?_
 refine zN (zy (fun hb7 => ?_) fun hb7 => ?_)
 · refine zs (zrP ?_)
   refine zt ?_
   refine RetOK_of ?_
   simp [hG, List.getD_cons_zero, List.getD_cons_succ, -List.getD_eq_getElem?_getD, pureOp]
   exact (if_pos hb7).symm
 refine zk (zs (zL (zlP 3 ?_)))
 refine zcP cal64 (wcheck_c c.q w) ?_
 refine zlP 1 ?_
 refine zN (zt ?_)
 refine RetOK_of ?_
 simp [hG, List.getD_cons_zero, List.getD_cons_succ, -List.getD_eq_getElem?_getD, pureOp]
 exact (if_neg (by simpa using hb7)).symm
set_option maxRecDepth 100000 in
theorem number_c (c : Cd) (hl : c.ws.length ≤ maxLen) (n : Int) : PC Try.prog 46 [.agg 2 (cdF c), .int .i64 n] (.int .i64 (bdN c n)) := by
 refine zp Try.func46 fun G hG hR => ?_
 refine zs (zrP ?_)
 refine zs (zs (zL (zlP 1 ?_)))
 refine zcP cal38 (check_c c hl) ?_
 refine zlP 1 ?_
 refine zN (zy (fun hb7 => ?_) fun hb7 => ?_)
 · refine zs (zrP ?_)
   refine zt ?_
   refine RetOK_of ?_
   simp [hG, List.getD_cons_zero, List.getD_cons_succ, -List.getD_eq_getElem?_getD, pureOp]
   exact (if_pos hb7).symm
 refine zk (zs (zs (zrP ?_)))
 refine zy (fun hb13 => ?_) fun hb13 => ?_
 · refine zs (zrP ?_)
   refine zt ?_
   refine RetOK_of ?_
   simp [hG, List.getD_cons_zero, List.getD_cons_succ, -List.getD_eq_getElem?_getD, pureOp]
   unfold bdN; rw [if_neg (by simpa using hb7), if_pos (by omega)]
 refine zk (zs (zrP ?_))
 refine zt ?_
 refine RetOK_of ?_
 simp [hG, List.getD_cons_zero, List.getD_cons_succ, -List.getD_eq_getElem?_getD, pureOp]
 unfold bdN; rw [if_neg (by simpa using hb7), if_neg (by omega)]
def BegC (c : Cd) (w : Wd) (k : Nat) : Prop := ∀ (at0 : Nat) (m : List (Int × Bool)), at0 + k = w.length → Memo c.ws w m → FC Try.prog 86 [.int .i64 (at0 : Nat), .vptr 1 (fun _ => .str w) 0, .ptr (0, 0) 0 0, .vptr 2 (cdF c) 0, .ptr (2, 0) 0 0] [(0, .one (.arr 1 1 (fun _ _ => .map (1, 0)))), (1, .one (.mp (mpE intK boolV (m)))), (2, .one (.arr 1 1 (fun _ _ => .fn 86 4 (fun j => [.vptr 1 (fun _ => .str w) 0, .ptr (0, 0) 0 0, .vptr 2 (cdF c) 0, .ptr (2, 0) 0 0].getD j .any))))] 3 (fun m2 : List (Int × Bool) => Memo c.ws w m2) (fun _ => .bool (rd c.ws [] (w.drop at0))) (fun m2 => [(0, .one (.arr 1 1 (fun _ _ => .map (1, 0)))), (1, .one (.mp (mpE intK boolV (m2)))), (2, .one (.arr 1 1 (fun _ _ => .fn 86 4 (fun j => [.vptr 1 (fun _ => .str w) 0, .ptr (0, 0) 0 0, .vptr 2 (cdF c) 0, .ptr (2, 0) 0 0].getD j .any))))]) (fun _ => 3)
set_option maxRecDepth 100000 in
theorem is_c (c : Cd) (hl : c.ws.length ≤ maxLen) (hv : CdOK c) (w : List UInt8) (hw : w.length ≤ 1000000) (k0 : Nat) (ih : ∀ k, k < k0 → BegC c w k) (at0 : Nat) (m : List (Int × Bool)) (ha : at0 + k0 = w.length) (hm : Memo c.ws w m) : FC Try.prog 86 [.int .i64 (at0 : Nat), .vptr 1 (fun _ => .str w) 0, .ptr (0, 0) 0 0, .vptr 2 (cdF c) 0, .ptr (2, 0) 0 0] [(0, .one (.arr 1 1 (fun _ _ => .map (1, 0)))), (1, .one (.mp (mpE intK boolV (m)))), (2, .one (.arr 1 1 (fun _ _ => .fn 86 4 (fun j => [.vptr 1 (fun _ => .str w) 0, .ptr (0, 0) 0 0, .vptr 2 (cdF c) 0, .ptr (2, 0) 0 0].getD j .any))))] 3 (fun m2 : List (Int × Bool) => Memo c.ws w m2) (fun m2 : List (Int × Bool) => .bool (rd c.ws [] (w.drop at0))) (fun m2 : List (Int × Bool) => [(0, .one (.arr 1 1 (fun _ _ => .map (1, 0)))), (1, .one (.mp (mpE intK boolV (m2)))), (2, .one (.arr 1 1 (fun _ _ => .fn 86 4 (fun j => [.vptr 1 (fun _ => .str w) 0, .ptr (0, 0) 0 0, .vptr 2 (cdF c) 0, .ptr (2, 0) 0 0].getD j .any))))]) (fun m2 : List (Int × Bool) => 3) := by
 have hML : maxLen = 9223372036854775807 := by decide
 refine FC_introS T_ok Try.func86 rfl (by simp [Try.ntmps86]) fun G hG hR => ?_
 simp only [Try.ntmps86, Try.results86] at hG ⊢
 simp only [argEnv, Nat.zero_add, Nat.reduceAdd]
 refine zs (zrP ?_)
 refine zs (zs (zrP ?_))
 refine zy (fun hb14 => ?_) fun hb14 => ?_
 · refine zs (zrP ?_)
   refine zt ?_
   refine RetF_of (m) (id) (fun _ => false) (fun _ => false) hm ?_ ?_ (by rfl) (by simp) (fun k _ => ⟨rfl, rfl⟩)
   · simp [hG, List.getD_cons_zero, List.getD_cons_succ, -List.getD_eq_getElem?_getD]; rw [List.drop_eq_nil_of_le (by omega)]; exact rd_nil
   simp [hG, List.getD_cons_zero, List.getD_cons_succ, -List.getD_eq_getElem?_getD, pureOp]
 refine zk (zs (zrP ?_))
 refine zs (zs (zrP ?_))
 refine zy (fun hb21 => ?_) fun hb21 => ?_
 · refine zs (zrP ?_)
   refine zt ?_
   refine RetF_of (m) (id) (fun _ => false) (fun _ => false) hm ?_ ?_ (by rfl) (by simp) (fun k _ => ⟨rfl, rfl⟩)
   · simp [hG, List.getD_cons_zero, List.getD_cons_succ, -List.getD_eq_getElem?_getD]; exact memo_at hm hb21
   simp [hG, List.getD_cons_zero, List.getD_cons_succ, -List.getD_eq_getElem?_getD, pureOp]
 refine zk (zs (zs (zrP ?_)))
 refine zb ?_
 refine awpS_loop (α := Nat × List (Int × Bool)) (fun x => ⟨[(0, .int .i64 (at0 : Nat)), (1, .vptr 1 (fun _ => .str w) 0), (2, .ptr (0, 0) 0 0), (3, .vptr 2 (cdF c) 0), (4, .ptr (2, 0) 0 0), (7, .bool false), (24, strs c.ws), (25, .int .i64 c.ws.length), (26, .int .i64 (x.1 : Nat))], [(0, .one (.arr 1 1 (fun _ _ => .map (1, 0)))), (1, .one (.mp (mpE intK boolV (x.2)))), (2, .one (.arr 1 1 (fun _ _ => .fn 86 4 (fun j => [.vptr 1 (fun _ => .str w) 0, .ptr (0, 0) 0 0, .vptr 2 (cdF c) 0, .ptr (2, 0) 0 0].getD j .any))))], 3⟩) (fun x => x.1 ≤ c.ws.length ∧ Memo c.ws w x.2 ∧ ∀ j, j < x.1 → rd c.ws (c.ws.getD j []) (w.drop at0) = false) (fun x => c.ws.length - x.1) ((0, m)) (⟨Nat.zero_le _, hm, fun j hj => absurd hj (Nat.not_lt_zero _)⟩) ?_ ?_
 · refine wk_of (id) (fun _ => false) (fun _ => false) ?_ ?_ rfl (by simp) (fun k hk => by first | exact ⟨rfl, rfl⟩ | (revert k; decide) | (obtain rfl : k = 0 := (by omega); exact ⟨rfl, rfl⟩) | (have hk2 : k = 0 ∨ k = 1 := (by omega); rcases hk2 with rfl | rfl <;> exact ⟨rfl, rfl⟩))
   · simp [hG, hb21, List.getD_cons_zero, List.getD_cons_succ, -List.getD_eq_getElem?_getD]
   simp [hG, List.getD_cons_zero, List.getD_cons_succ, -List.getD_eq_getElem?_getD, pureOp]
 rintro ⟨i, m2⟩ ⟨hi, hm2, hn⟩
 refine zs (zrP ?_)
 refine zs (zy (fun hb27 => ?_) fun hb27 => ?_)
 · refine zk (zs (zb (zs (zrP ?_))))
   refine zs ?_
   by_cases hA : (w.drop at0) <+: (c.ws.getD i [])
   · refine zL (zl 4 ?_ (h := by intro c K h; simp [hG, List.getD_cons_zero, List.getD_cons_succ, -List.getD_eq_getElem?_getD, pureOp, hA]; first | exact z1 c h | exact ⟨.mk c, h⟩))
     refine zc cal27 (preW_c (c.ws.getD i []) (w.drop at0)) ?_ (a := fun hg => by simp [hG, List.getD_cons_zero, List.getD_cons_succ, -List.getD_eq_getElem?_getD, pureOp, hA]) (b := fun hg => by simp [hG, List.getD_cons_zero, List.getD_cons_succ, -List.getD_eq_getElem?_getD, pureOp, hA]) (h := by intro K h; simp [hG, List.getD_cons_zero, List.getD_cons_succ, -List.getD_eq_getElem?_getD, pureOp, hA]; exact h)
     refine zl 5 ?_ (h := by intro c K h; simp [hG, List.getD_cons_zero, List.getD_cons_succ, -List.getD_eq_getElem?_getD, pureOp, hA]; first | exact z1 c h | exact ⟨.mk c, h⟩)
     refine zc cal27 (preW_c (w.drop at0) (c.ws.getD i [])) ?_ (a := fun hg => by first | (simp [hG, List.getD_cons_zero, List.getD_cons_succ, -List.getD_eq_getElem?_getD, pureOp, hA]; done) | (simp [-List.getD_eq_getElem?_getD] at hg; done) | (simp [-List.getD_eq_getElem?_getD] at hg; simp [hG, List.getD_cons_zero, List.getD_cons_succ, -List.getD_eq_getElem?_getD, pureOp, hA]; first | omega | exact hg | (simp_all [-List.getD_eq_getElem?_getD]; done) | (simp_all [-List.getD_eq_getElem?_getD]; first | exact ⟨rfl, rfl⟩ | exact rfl))) (b := fun hg => by first | (simp [hG, List.getD_cons_zero, List.getD_cons_succ, -List.getD_eq_getElem?_getD, pureOp, hA]; done) | (simp [-List.getD_eq_getElem?_getD] at hg; done) | (simp [-List.getD_eq_getElem?_getD] at hg; simp [hG, List.getD_cons_zero, List.getD_cons_succ, -List.getD_eq_getElem?_getD, pureOp, hA]; first | omega | exact hg | (simp_all [-List.getD_eq_getElem?_getD]; done) | (simp_all [-List.getD_eq_getElem?_getD]; first | exact ⟨rfl, rfl⟩ | exact rfl))) (h := by intro K h; simp [hG, List.getD_cons_zero, List.getD_cons_succ, -List.getD_eq_getElem?_getD, pureOp, hA]; exact h)
     refine zl 6 ?_ (h := by intro c K h; simp [hG, List.getD_cons_zero, List.getD_cons_succ, -List.getD_eq_getElem?_getD, pureOp, hA]; first | exact z1 c h | exact ⟨.mk c, h⟩)
     refine awpL_not (.bool true) rfl (fun K hK => ?_) (by intro c hc; cases hc)
     simp [hG, List.getD_cons_zero, List.getD_cons_succ, -List.getD_eq_getElem?_getD, pureOp, hA]
     refine hK _ ?_
     clear K hK
     refine zl 2 ?_ (h := by intro c K h; simp [hG, List.getD_cons_zero, List.getD_cons_succ, -List.getD_eq_getElem?_getD, pureOp, hA]; first | exact z1 c h | exact ⟨.mk c, h⟩)
     refine zN ?_
     refine awpS_cond rfl (fun hb49 => ?_) (fun hb49 => ?_)
     · try simp [-List.getD_eq_getElem?_getD] at hb49
       refine zs (zr ?_ (h := by intro c K h; simp [hG, List.getD_cons_zero, List.getD_cons_succ, -List.getD_eq_getElem?_getD, pureOp, hA]; first | exact z1 c h | exact ⟨.mk c, h⟩))
       refine zx ?_
       refine blockQ_exit_ne (by decide) (thenQ_exit ?_)
       refine ztx (zbx (zs (zr ?_ (h := by intro c K h; simp [hG, List.getD_cons_zero, List.getD_cons_succ, -List.getD_eq_getElem?_getD, pureOp, hA]; first | exact z1 c h | exact ⟨.mk c, h⟩))))
       refine zs (zr ?_ (h := by intro c K h; simp [hG, List.getD_cons_zero, List.getD_cons_succ, -List.getD_eq_getElem?_getD, pureOp, hA]; first | exact z1 c h | exact ⟨.mk c, h⟩))
       refine zt ?_
       refine RetF_of (alPut m2 (at0 : Int) true) (id) (fun _ => false) (fun _ => false) (memo_put hm2 (rd_yes hb27 (rdA hA)).symm) ?_ ?_ (by rfl) (by simp) (fun k _ => ⟨rfl, rfl⟩)
       · simp [hG, List.getD_cons_zero, List.getD_cons_succ, -List.getD_eq_getElem?_getD]; exact rd_yes hb27 (rdA hA)
       simp [hG, List.getD_cons_zero, List.getD_cons_succ, -List.getD_eq_getElem?_getD, pureOp, hA]
     simp at hb49
   by_cases hB : (c.ws.getD i []) <+: (w.drop at0)
   · have hbl := hB.length_le
     rw [List.length_drop] at hbl
     have hxp := List.length_pos_iff.2 (hv.ne _ (W_mem hb27))
     refine zL (zl 4 ?_ (h := by intro c K h; simp [hG, List.getD_cons_zero, List.getD_cons_succ, -List.getD_eq_getElem?_getD, pureOp, hA, hB]; first | exact z1 c h | exact ⟨.mk c, h⟩))
     refine zc cal27 (preW_c (c.ws.getD i []) (w.drop at0)) ?_ (a := fun hg => by simp [hG, List.getD_cons_zero, List.getD_cons_succ, -List.getD_eq_getElem?_getD, pureOp, hA, hB]) (b := fun hg => by simp [hG, List.getD_cons_zero, List.getD_cons_succ, -List.getD_eq_getElem?_getD, pureOp, hA, hB]) (h := by intro K h; simp [hG, List.getD_cons_zero, List.getD_cons_succ, -List.getD_eq_getElem?_getD, pureOp, hA, hB]; exact h)
     refine zl 5 ?_ (h := by intro c K h; simp [hG, List.getD_cons_zero, List.getD_cons_succ, -List.getD_eq_getElem?_getD, pureOp, hA, hB]; first | exact z1 c h | exact ⟨.mk c, h⟩)
     refine zc cal27 (preW_c (w.drop at0) (c.ws.getD i [])) ?_ (a := fun hg => by first | (simp [hG, List.getD_cons_zero, List.getD_cons_succ, -List.getD_eq_getElem?_getD, pureOp, hA, hB]; done) | (simp [-List.getD_eq_getElem?_getD] at hg; done) | (simp [-List.getD_eq_getElem?_getD] at hg; simp [hG, List.getD_cons_zero, List.getD_cons_succ, -List.getD_eq_getElem?_getD, pureOp, hA, hB]; first | omega | exact hg | (simp_all [-List.getD_eq_getElem?_getD]; done) | (simp_all [-List.getD_eq_getElem?_getD]; first | exact ⟨rfl, rfl⟩ | exact rfl))) (b := fun hg => by first | (simp [hG, List.getD_cons_zero, List.getD_cons_succ, -List.getD_eq_getElem?_getD, pureOp, hA, hB]; done) | (simp [-List.getD_eq_getElem?_getD] at hg; done) | (simp [-List.getD_eq_getElem?_getD] at hg; simp [hG, List.getD_cons_zero, List.getD_cons_succ, -List.getD_eq_getElem?_getD, pureOp, hA, hB]; first | omega | exact hg | (simp_all [-List.getD_eq_getElem?_getD]; done) | (simp_all [-List.getD_eq_getElem?_getD]; first | exact ⟨rfl, rfl⟩ | exact rfl))) (h := by intro K h; simp [hG, List.getD_cons_zero, List.getD_cons_succ, -List.getD_eq_getElem?_getD, pureOp, hA, hB]; exact h)
     refine zl 6 ?_ (h := by intro c K h; simp [hG, List.getD_cons_zero, List.getD_cons_succ, -List.getD_eq_getElem?_getD, pureOp, hA, hB]; first | exact z1 c h | exact ⟨.mk c, h⟩)
     refine awpL_fcg cal86 [0, 1, 2] (fun _ => false) (ih (k0 - (c.ws.getD i []).length) (by omega) (at0 + (c.ws.getD i []).length) m2 (by omega) hm2) rfl rfl rfl rfl (by simp) (.inl fun _ => rfl) ?_ ?_ ?_ fun K hK m3 hI hno => ?_
     · simp [hG, List.getD_cons_zero, List.getD_cons_succ, -List.getD_eq_getElem?_getD, pureOp, hA, hB]
     · simp [hG, List.range'_succ, List.range'_zero, List.getD_cons_zero, List.getD_cons_succ, -List.getD_eq_getElem?_getD]
     · simp [hG, List.getD_cons_zero, List.getD_cons_succ, -List.getD_eq_getElem?_getD, pureOp, hA, hB]
     simp [hG, List.getD_cons_zero, List.getD_cons_succ, -List.getD_eq_getElem?_getD, pureOp, hA, hB]
     refine hK _ ?_
     clear K hK
     refine zl 2 ?_ (h := by intro c K h; simp [hG, List.getD_cons_zero, List.getD_cons_succ, -List.getD_eq_getElem?_getD, pureOp, hA, hB]; first | exact z1 c h | exact ⟨.mk c, h⟩)
     refine zN (zy (fun hb49 => ?_) fun hb49 => ?_)
     · refine zs (zr ?_ (h := by intro c K h; simp [hG, List.getD_cons_zero, List.getD_cons_succ, -List.getD_eq_getElem?_getD, pureOp, hA, hB]; first | exact z1 c h | exact ⟨.mk c, h⟩))
       refine zx ?_
       refine blockQ_exit_ne (by decide) (thenQ_exit ?_)
       refine ztx (zbx (zs (zr ?_ (h := by intro c K h; simp [hG, List.getD_cons_zero, List.getD_cons_succ, -List.getD_eq_getElem?_getD, pureOp, hA, hB]; first | exact z1 c h | exact ⟨.mk c, h⟩))))
       refine zs (zr ?_ (h := by intro c K h; simp [hG, List.getD_cons_zero, List.getD_cons_succ, -List.getD_eq_getElem?_getD, pureOp, hA, hB]; first | exact z1 c h | exact ⟨.mk c, h⟩))
       refine zt ?_
       refine RetF_of (alPut m3 (at0 : Int) true) (id) (fun _ => false) (fun _ => false) (memo_put hI (rd_yes hb27 ((rdB hA hB).trans hb49)).symm) ?_ ?_ (by rfl) (by simp) (fun k _ => ⟨rfl, rfl⟩)
       · simp [hG, List.getD_cons_zero, List.getD_cons_succ, -List.getD_eq_getElem?_getD]; exact rd_yes hb27 ((rdB hA hB).trans hb49)
       simp [hG, List.getD_cons_zero, List.getD_cons_succ, -List.getD_eq_getElem?_getD, pureOp, hA, hB]
     refine zk (zn (zbn (zr ?_ (h := by intro c K h; simp [hG, List.getD_cons_zero, List.getD_cons_succ, -List.getD_eq_getElem?_getD, pureOp, hA, hB]; first | exact z1 c h | exact ⟨.mk c, h⟩))))
     refine zn ?_
     refine round_end ((i + 1, m3)) (⟨by omega, hI, step_all hn (by rw [rdB hA hB]; exact hb49)⟩) (by omega) ?_
     refine wk_of (id) (fun _ => false) (fun _ => false) ?_ ?_ rfl (by simp) (fun k hk => by first | exact ⟨rfl, rfl⟩ | (revert k; decide) | (obtain rfl : k = 0 := (by omega); exact ⟨rfl, rfl⟩) | (have hk2 : k = 0 ∨ k = 1 := (by omega); rcases hk2 with rfl | rfl <;> exact ⟨rfl, rfl⟩))
     · simp [hG, List.getD_cons_zero, List.getD_cons_succ, -List.getD_eq_getElem?_getD, pureOp, hA, hB]
     simp [hG, List.getD_cons_zero, List.getD_cons_succ, -List.getD_eq_getElem?_getD, pureOp, hA, hB]
   refine zL (zl 4 ?_ (h := by intro c K h; simp [hG, List.getD_cons_zero, List.getD_cons_succ, -List.getD_eq_getElem?_getD, pureOp, hA, hB]; first | exact z1 c h | exact ⟨.mk c, h⟩))
   refine zc cal27 (preW_c (c.ws.getD i []) (w.drop at0)) ?_ (a := fun hg => by simp [hG, List.getD_cons_zero, List.getD_cons_succ, -List.getD_eq_getElem?_getD, pureOp, hA, hB]) (b := fun hg => by simp [hG, List.getD_cons_zero, List.getD_cons_succ, -List.getD_eq_getElem?_getD, pureOp, hA, hB]) (h := by intro K h; simp [hG, List.getD_cons_zero, List.getD_cons_succ, -List.getD_eq_getElem?_getD, pureOp, hA, hB]; exact h)
   refine zl 5 ?_ (h := by intro c K h; simp [hG, List.getD_cons_zero, List.getD_cons_succ, -List.getD_eq_getElem?_getD, pureOp, hA, hB]; first | exact z1 c h | exact ⟨.mk c, h⟩)
   refine zc cal27 (preW_c (w.drop at0) (c.ws.getD i [])) ?_ (a := fun hg => by first | (simp [hG, List.getD_cons_zero, List.getD_cons_succ, -List.getD_eq_getElem?_getD, pureOp, hA, hB]; done) | (simp [-List.getD_eq_getElem?_getD] at hg; done) | (simp [-List.getD_eq_getElem?_getD] at hg; simp [hG, List.getD_cons_zero, List.getD_cons_succ, -List.getD_eq_getElem?_getD, pureOp, hA, hB]; first | omega | exact hg | (simp_all [-List.getD_eq_getElem?_getD]; done) | (simp_all [-List.getD_eq_getElem?_getD]; first | exact ⟨rfl, rfl⟩ | exact rfl))) (b := fun hg => by first | (simp [hG, List.getD_cons_zero, List.getD_cons_succ, -List.getD_eq_getElem?_getD, pureOp, hA, hB]; done) | (simp [-List.getD_eq_getElem?_getD] at hg; done) | (simp [-List.getD_eq_getElem?_getD] at hg; simp [hG, List.getD_cons_zero, List.getD_cons_succ, -List.getD_eq_getElem?_getD, pureOp, hA, hB]; first | omega | exact hg | (simp_all [-List.getD_eq_getElem?_getD]; done) | (simp_all [-List.getD_eq_getElem?_getD]; first | exact ⟨rfl, rfl⟩ | exact rfl))) (h := by intro K h; simp [hG, List.getD_cons_zero, List.getD_cons_succ, -List.getD_eq_getElem?_getD, pureOp, hA, hB]; exact h)
   refine zl 6 ?_ (h := by intro c K h; simp [hG, List.getD_cons_zero, List.getD_cons_succ, -List.getD_eq_getElem?_getD, pureOp, hA, hB]; first | exact z1 c h | exact ⟨.mk c, h⟩)
   refine awpL_not (.bool true) rfl (fun K hK => ?_) (by intro c hc; cases hc)
   simp [hG, List.getD_cons_zero, List.getD_cons_succ, -List.getD_eq_getElem?_getD, pureOp, hA, hB]
   refine hK _ ?_
   clear K hK
   refine zl 2 ?_ (h := by intro c K h; simp [hG, List.getD_cons_zero, List.getD_cons_succ, -List.getD_eq_getElem?_getD, pureOp, hA, hB]; first | exact z1 c h | exact ⟨.mk c, h⟩)
   refine zN ?_
   refine awpS_cond rfl (fun hb49 => ?_) (fun hb49 => ?_)
   · simp at hb49
   try simp [-List.getD_eq_getElem?_getD] at hb49
   refine zk (zn (zbn (zr ?_ (h := by intro c K h; simp [hG, List.getD_cons_zero, List.getD_cons_succ, -List.getD_eq_getElem?_getD, pureOp, hA, hB]; first | exact z1 c h | exact ⟨.mk c, h⟩))))
   refine zn ?_
   refine round_end ((i + 1, m2)) (⟨by omega, hm2, step_all hn (rdN hA hB)⟩) (by omega) ?_
   refine wk_of (id) (fun _ => false) (fun _ => false) ?_ ?_ rfl (by simp) (fun k hk => by first | exact ⟨rfl, rfl⟩ | (revert k; decide) | (obtain rfl : k = 0 := (by omega); exact ⟨rfl, rfl⟩) | (have hk2 : k = 0 ∨ k = 1 := (by omega); rcases hk2 with rfl | rfl <;> exact ⟨rfl, rfl⟩))
   · simp [hG, List.getD_cons_zero, List.getD_cons_succ, -List.getD_eq_getElem?_getD, pureOp, hA, hB]
   simp [hG, List.getD_cons_zero, List.getD_cons_succ, -List.getD_eq_getElem?_getD, pureOp, hA, hB]
 obtain rfl : i = c.ws.length := (by omega)
 refine zx (ztx (zbx (zs (zrP ?_))))
 refine zs (zrP ?_)
 refine zt ?_
 refine RetF_of (alPut m2 (at0 : Int) false) (id) (fun _ => false) (fun _ => false) (memo_put hm2 (rd_no hv.ne (fun e => by have := congrArg List.length e; rw [List.length_drop] at this; simp only [List.length_nil] at this; omega) hn).symm) ?_ ?_ (by rfl) (by simp) (fun k _ => ⟨rfl, rfl⟩)
 · simp [hG, List.getD_cons_zero, List.getD_cons_succ, -List.getD_eq_getElem?_getD]; exact rd_no hv.ne (fun e => by have := congrArg List.length e; rw [List.length_drop] at this; simp only [List.length_nil] at this; omega) hn
 simp [hG, List.getD_cons_zero, List.getD_cons_succ, -List.getD_eq_getElem?_getD, pureOp]
theorem is_all {c : Cd} (hl : c.ws.length ≤ maxLen) (hv : CdOK c) {w : List UInt8} (hw : w.length ≤ 1000000) (k : Nat) : BegC c w k := Nat.strongRecOn k fun k ih at0 m ha hm => is_c c hl hv w hw k ih at0 m ha hm
end Go.Proofs.Ytoafgeobhhlplaa
