/- Parts of the proof: VA. -/
import Derived.Test.YthpdkmoedpcboaaGreatPR10
import Derived.Test.YthpdkmoedpcboaaGreatPR12
import Derived.Test.YthpdkmoedpcboaaGreatPR13
import Derived.Test.YthpdkmoedpcboaaGreatPR15
import Derived.Test.YthpdkmoedpcboaaGreatPR16
namespace Go.Proofs.YthpdkmoedpcboaaGreat
set_option linter.unusedSimpArgs false
set_option linter.unusedVariables false
open Go Go.Lift Go.Proofs
@[simp] theorem VLe_fn_fn {h : Heap} {σ : Lift.Id → Lift.Id} {fz : Nat → Bool} {vz : Lift.Id → Bool} {y g n g' n' : Nat} {f f' : Nat → AVal} : VLe h σ fz vz y (.fn g n f) (.fn g' n' f') = (g' = g ∧ n' = n ∧ ∀ j, j < n → VLe h σ fz vz y (f j) (f' j)) := rfl
@[simp] theorem VLe_vptr_ptr {h : Heap} {σ : Lift.Id → Lift.Id} {fz : Nat → Bool} {vz : Lift.Id → Bool} {y s off k off' : Nat} {id : Lift.Id} {f : Nat → AVal} : VLe h σ fz vz y (.vptr s f off) (.ptr id k off') = (off' = off ∧ fz id.1 = true ∧ match lkH h id with
    | some (.arr N s' g) => s' = s ∧ k < N ∧ ∀ j, j < s → (f j).one = true ∧ VLe h σ fz vz y (f j) (g k j)
    | _ => False) := by
  simp only [VLe]
  cases lkH h id with
  | none => rfl
  | some o => cases o <;> rfl
set_option maxRecDepth 100000 in
theorem great9_c (g : Gr) : PC Tryz.prog 16 [.agg 3 (grF g)] (.bool (decide (great9 g))) := by
 refine zp Tryz.func16 fun G hG hR => ?_
 refine zs (zr ?_)
 refine zs (zr ?_)
 refine zt ?_
 refine RetOK_of ?_
 simp [hG, List.getD_cons_zero, List.getD_cons_succ, -List.getD_eq_getElem?_getD]
 rw [Bool.eq_iff_iff, decide_eq_true_iff (p := great9 g)]; unfold great9; simp
set_option maxRecDepth 100000 in
theorem nanI_c (n : Int) : PC Tryz.prog 166 [.int .i64 n] (.bool false) := by
 refine zp Tryz.func166 fun G hG hR => ?_
 refine zs (zr ?_)
 refine zs (zr ?_)
 refine zt ?_
 exact zR
set_option maxRecDepth 100000 in
theorem cmpI_c (a b : Int) : PC Tryz.prog 151 [.int .i64 a, .int .i64 b] (.int .i64 (if a < b then -1 else if b < a then 1 else 0)) := by
 refine zp Tryz.func151 fun G hG hR => ?_
 refine zs (zr ?_)
 refine zs (zL (zl 1 ?_))
 refine zc cal166 (nanI_c a) ?_
 refine zl 1 ?_
 refine zN (zs (zL (zl 1 ?_)))
 refine zc cal166 (nanI_c b) ?_
 refine zl 1 ?_
 refine zN (zs (zs (zr ?_)))
 refine awpS_cond rfl (fun hb11 => ?_) (fun hb11 => ?_)
 · simp at hb11
 try simp [-List.getD_eq_getElem?_getD] at hb11
 refine zk (zs (zs (zr ?_)))
 refine awpS_cond rfl (fun hb13 => ?_) (fun hb13 => ?_)
 · simp at hb13
 try simp [-List.getD_eq_getElem?_getD] at hb13
 refine zk (zs (zs (zr ?_)))
 refine zy (fun hb16 => ?_) fun hb16 => ?_
 · refine zs (zr ?_)
   refine zt ?_
   refine RetOK_of ?_
   simp [hG, List.getD_cons_zero, List.getD_cons_succ, -List.getD_eq_getElem?_getD]
   intro _; omega
 refine zk (zs (zs (zr ?_)))
 refine zy (fun hb19 => ?_) fun hb19 => ?_
 · refine zs (zr ?_)
   refine zt ?_
   refine RetOK_of ?_
   simp [hG, List.getD_cons_zero, List.getD_cons_succ, -List.getD_eq_getElem?_getD]
   rw [if_neg (by omega), if_pos hb19]
 refine zk (zs (zr ?_))
 refine zt ?_
 refine RetOK_of ?_
 simp [hG, List.getD_cons_zero, List.getD_cons_succ, -List.getD_eq_getElem?_getD]
 rw [if_neg (by omega), if_neg (by omega)]
set_option maxRecDepth 100000 in
theorem cmpL_c (a b : Edge) : PC Tryz.prog 120 [ints (trip a), ints (trip b)] (.int .i64 (cmpE a b)) := by
 refine zp Tryz.func120 fun G hG hR => ?_
 refine zs (zr ?_)
 refine zs (zs (zr ?_))
 refine zb ?_
 refine awpS_loop (α := Nat) (fun k => ⟨[(0, ints (trip a)), (1, ints (trip b)), (9, ints (trip a)), (10, .int .i64 3), (11, .int .i64 k)], [], 0⟩) (fun k => k ≤ 3 ∧ ∀ j, j < k → (trip a).getD j 0 = (trip b).getD j 0) (fun k => 3 - k) (0) (⟨by decide, fun j hj => absurd hj (Nat.not_lt_zero _)⟩) ?_ ?_
 · exact zi
 rintro k ⟨hk, hn⟩
 refine zs (zr ?_)
 refine zs (zy (fun hb12 => ?_) fun hb12 => ?_)
 · refine zk (zs (zb (zs (zr ?_))))
   refine zs (zs (zr ?_))
   refine awpS_cond rfl (fun hb19 => ?_) (fun hb19 => ?_)
   · exact absurd hb19 (by simp; omega)
   try simp [-List.getD_eq_getElem?_getD] at hb19
   refine zk (zs (zr ?_))
   refine zs (zL (zl 2 ?_))
   refine zc cal151 (cmpI_c ((trip a).getD k 0) ((trip b).getD k 0)) ?_
   refine zl 1 ?_
   refine zN (zs (zr ?_))
   refine awpS_cond rfl (fun hb28 => ?_) (fun hb28 => ?_)
   · simp only [Bool.not_eq_true', Bool.not_eq_false', decide_eq_false_iff_not, decide_eq_true_iff] at hb28
     refine zs (zr ?_)
     refine zt (zbt (ztt (zbt ?_)))
     refine RetOK_of ?_
     simp [hG, List.getD_cons_zero, List.getD_cons_succ, -List.getD_eq_getElem?_getD]
     exact cmpI_ne (by omega) hn hb28
   simp only [Bool.not_eq_true', Bool.not_eq_false', decide_eq_false_iff_not, decide_eq_true_iff] at hb28
   refine zk (zn (zbn (zr ?_)))
   refine zn ?_
   refine round_end (k + 1) (⟨by omega, step_all hn (cmpI_zero hb28)⟩) (by omega) ?_
   exact zi
 refine zx (ztx (zbx (zs (zs (zr ?_)))))
 refine awpS_cond rfl (fun hb35 => ?_) (fun hb35 => ?_)
 · simp at hb35
 try simp [-List.getD_eq_getElem?_getD] at hb35
 refine zk (zs (zr ?_))
 refine zt ?_
 refine RetOK_of ?_
 simp [hG, List.getD_cons_zero, List.getD_cons_succ, -List.getD_eq_getElem?_getD]
 exact (trip_same fun j hj => hn j (by omega)).symm
set_option maxRecDepth 100000 in
theorem list_c (a : Edge) : PC Tryz.prog 78 [.agg 3 (edgeF a)] (ints (trip a)) := by
 refine zp Tryz.func78 fun G hG hR => ?_
 refine zs (zr ?_)
 refine zs (zr ?_)
 refine zt ?_
 refine RetOK_of ?_
 simp [hG, List.getD_cons_zero, List.getD_cons_succ, -List.getD_eq_getElem?_getD]
 exact ⟨rfl, rfl, rfl⟩
set_option maxRecDepth 100000 in
theorem by_c  : PC Tryz.prog 77 [.fn 78 0 (fun _ => .any)] (.fn 119 1 (fun _ => .vptr 1 (fun _ => .fn 78 0 (fun _ => .any)) 0)) := by
 refine zp Tryz.func77 fun G hG hR => ?_
 refine zs (zr ?_)
 refine zs (zr ?_)
 refine zt ?_
 exact zR
set_option maxRecDepth 100000 in
theorem by1_c (a b : Edge) : PC Tryz.prog 119 [.agg 3 (edgeF a), .agg 3 (edgeF b), .vptr 1 (fun _ => .fn 78 0 (fun _ => .any)) 0] (.int .i64 (cmpE a b)) := by
 refine zp Tryz.func119 fun G hG hR => ?_
 refine zs (zr ?_)
 refine zs ?_
 refine awpS_draw hR mixed [] ⟨[], [], []⟩ fun mu0 => ?_
 refine za [0, 1, 3, 4] [] 4 [4, 3, 1, 0] ?_
 refine awpA_only (fuel := 3) (i := 2) (by decide +kernel) ?_
 refine ze cal78 (list_c a) ?_
 refine awpA_only (fuel := 2) (i := 5) (by decide +kernel) ?_
 refine ze cal78 (list_c b) ?_
 refine awpA_only (fuel := 1) (i := 6) (by decide +kernel) ?_
 refine ze cal120 (cmpL_c a b) ?_
 refine za [7] [] 0 [7, 6, 5, 2, 4, 3, 1, 0] ?_
 refine awpA_done (by decide +kernel) ?_
 refine zt ?_
 exact zR
set_option maxRecDepth 100000 in
theorem checkC_c (g : Gr) : PC Tryz.prog 66 [.agg 3 (grF g)] (.int .i64 (gcheck g)) := by
 refine zp Tryz.func66 fun G hG hR => ?_
 refine zs (zr ?_)
 refine zs (zb (zs (zr ?_)))
 refine zy (fun hb6 => ?_) fun hb6 => ?_
 · refine zs (zr ?_)
   refine zt (zbt ?_)
   refine RetOK_of ?_
   simp [hG, List.getD_cons_zero, List.getD_cons_succ, -List.getD_eq_getElem?_getD]
   exact (gcheck_labels (by omega)).symm
 refine zs (zr ?_)
 refine zy (fun hb15 => ?_) fun hb15 => ?_
 · refine zs (zr ?_)
   refine zt (zbt ?_)
   refine RetOK_of ?_
   simp [hG, List.getD_cons_zero, List.getD_cons_succ, -List.getD_eq_getElem?_getD]
   exact (gcheck_neg (by omega) (by omega)).symm
 refine zs (zr ?_)
 refine zy (fun hb19 => ?_) fun hb19 => ?_
 · refine zs (zr ?_)
   refine zt (zbt ?_)
   refine RetOK_of ?_
   simp [hG, List.getD_cons_zero, List.getD_cons_succ, -List.getD_eq_getElem?_getD]
   exact (gcheck_limit (by omega) (by omega) (by omega)).symm
 refine zk (zn (zbn (zs (zL ?_))))
 refine zc cal77 by_c ?_
 refine zl 1 ?_
 refine zN (zs (zs (zr ?_)))
 refine zb ?_
 refine awpS_loop (α := Nat) (fun k => ⟨[(1, .ptr (0, 0) 0 0), (3, .fn 119 1 (fun _ => .vptr 1 (fun _ => .fn 78 0 (fun _ => .any)) 0)), (31, edgesC g.edges), (32, .int .i64 g.edges.length), (33, .int .i64 k)], [(0, .one (.arr 1 3 (fun _ => grF g)))], 1⟩) (fun k => Sized g ∧ k ≤ g.edges.length ∧ ∀ j, j < k → edgeCheck g j = 0) (fun k => g.edges.length - k) (0) (⟨⟨by omega, by omega, by omega⟩, Nat.zero_le _, fun j hj => absurd hj (Nat.not_lt_zero _)⟩) ?_ ?_
 · exact zi
 rintro k ⟨hz, hk, hn⟩
 have hed := hz.ed
 refine zs (zr ?_)
 refine zs (zy (fun hb34 => ?_) fun hb34 => ?_)
 · refine zk (zs (zb (zs (zr ?_))))
   refine zs (zs (zr ?_))
   refine zy (fun hb62 => ?_) fun hb62 => ?_
   · refine zs (zr ?_)
     refine zt (zbt (ztt (zbt ?_)))
     refine RetOK_of ?_
     simp [hG, List.getD_cons_zero, List.getD_cons_succ, -List.getD_eq_getElem?_getD]
     exact (gcheck_bad hz hb34 hn (edgeCheck_out (by omega)) (by decide)).symm
   refine zk (zs ?_)
   refine awpS_draw hR mixed [] ⟨[], [], []⟩ fun mu0 => ?_
   refine za [0, 1, 2, 3, 4, 5, 6, 7, 8, 9, 10] [] 3 [10, 9, 8, 7, 6, 5, 4, 3, 2, 1, 0] ?_
   refine awpA_only (fuel := 2) (i := 11) (by decide +kernel) ?_
   refine ze cal119 (by1_c (g.edges.getD (k - 1) de) (g.edges.getD k de)) ?_ (b := fun hg => by simp [-List.getD_eq_getElem?_getD] at hg; simp [hG, List.getD_cons_zero, List.getD_cons_succ, -List.getD_eq_getElem?_getD]; exact ⟨rfl, rfl, rfl⟩)
   refine za [12, 13] [] 0 [13, 12, 11, 10, 9, 8, 7, 6, 5, 4, 3, 2, 1, 0] ?_
   refine awpA_done (by decide +kernel) ?_
   refine zy (fun hb76 => ?_) fun hb76 => ?_
   · refine zs (zr ?_)
     refine zt (zbt (ztt (zbt ?_)))
     refine RetOK_of ?_
     simp [hG, List.getD_cons_zero, List.getD_cons_succ, -List.getD_eq_getElem?_getD]
     exact (gcheck_bad hz hb34 hn (edgeCheck_ord (by omega) hb76) (by decide)).symm
   refine zk (zn (zbn (zr ?_)))
   refine zn ?_
   refine round_end (k + 1) (⟨hz, by omega, step_all hn (edgeCheck_ok (by omega) hb76)⟩) (by omega) ?_
   exact zi
 refine zx (ztx (zbx (zs (zr ?_))))
 refine zt ?_
 refine RetOK_of ?_
 simp [hG, List.getD_cons_zero, List.getD_cons_succ, -List.getD_eq_getElem?_getD]
 exact (gcheck_ok hz fun j hj => hn j (by omega)).symm
end Go.Proofs.YthpdkmoedpcboaaGreat
