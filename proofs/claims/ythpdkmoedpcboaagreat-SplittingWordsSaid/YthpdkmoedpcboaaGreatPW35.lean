/- Parts of the proof: VS. -/
import Derived.Test.YthpdkmoedpcboaaGreatPW17
import Derived.Test.YthpdkmoedpcboaaGreatPW33
import Derived.Test.YthpdkmoedpcboaaGreatPW34
namespace Go.Proofs.YthpdkmoedpcboaaGreat
set_option linter.unusedSimpArgs false
set_option linter.unusedVariables false
open Go Go.Lift Go.Proofs
def preI (L : List (List Int)) (k : Nat) : List Int := (L.take k).flatten
@[simp] theorem pre_zero (L : List (List Int)) : preI L 0 = [] := rfl
theorem pre_succ {L : List (List Int)} {k : Nat} (h : k < L.length) : preI L (k + 1) = preI L k ++ L.getD k [] := by
  unfold preI
  rw [List.take_succ_eq_append_getElem h, List.flatten_append, getD_get h]
  simp
theorem pre_le {L : List (List Int)} (hr : ∀ x ∈ L, x.length ≤ 1024) : ∀ k, k ≤ L.length → (preI L k).length ≤ 1024 * k
  | 0, _ => by simp [pre_zero]
  | k + 1, hk => by
    have h1 := pre_le hr k (by omega)
    have h : k < L.length := hk
    have := hr _ (getD_mem (d := []) h)
    rw [pre_succ h, List.length_append]
    omega
theorem pre_len {L : List (List Int)} (hL : L.length ≤ 100) (hr : ∀ x ∈ L, x.length ≤ 1024) : (preI L L.length).length ≤ 1000000 := by
  have h := pre_le hr L.length (Nat.le_refl _)
  omega
theorem app_ints (a b : List Int) : ∀ i, i < a.length + b.length → app (fun i _ => AVal.int .i64 (a.getD i 0)) a.length (fun i _ => .int .i64 (b.getD i 0)) i 0 = .int .i64 ((a ++ b).getD i 0) := by
  intro i h
  show (if i < a.length then AVal.int .i64 (a.getD i 0) else .int .i64 (b.getD (i - a.length) 0)) = .int .i64 ((a ++ b).getD i 0)
  by_cases h1 : i < a.length
  · rw [if_pos h1, List.getD_eq_getElem?_getD, List.getD_eq_getElem?_getD, List.getElem?_append_left h1]
  · rw [if_neg h1, List.getD_eq_getElem?_getD, List.getD_eq_getElem?_getD, List.getElem?_append_right (by omega)]
set_option maxRecDepth 100000 in
theorem growI_c (n : Nat) (hn : n ≤ 1000000) : FC1 Tryz.prog 114 [.nils, .int .i64 (n : Int)] [] 0 (.sl (0, 0) 0 0) [(0, .one (.arr 0 1 (fun _ _ => .any)))] 1 := by
 refine FC_introS T_ok Tryz.func114 rfl (by simp [Tryz.ntmps114]) fun G hG hR => ?_
 simp only [Tryz.ntmps114, Tryz.results114] at hG ⊢
 simp only [argEnv, Nat.zero_add, Nat.reduceAdd]
 refine zs (zr ?_)
 refine zs (zs (zr ?_))
 refine awpS_cond rfl (fun hb6 => ?_) (fun hb6 => ?_)
 · exact absurd hb6 (by simp)
 try simp [-List.getD_eq_getElem?_getD] at hb6
 refine zk (zs (zs (zr ?_)))
 refine zs (zr ?_)
 refine zy (fun hb16 => ?_) fun hb16 => ?_
 · have hn1 : 1 ≤ n := (by omega)
   refine zL (zl 3 ?_)
   refine awpL_sln T_ok rfl rfl (by decide) rfl (by simp) (by simp) fun K hK => ?_
   simp [hG, List.getD_cons_zero, List.getD_cons_succ, -List.getD_eq_getElem?_getD]
   refine hK _ ?_
   clear K hK
   refine zl 1 ?_
   refine awpL_amk (sz := 1) T_ok n hn1 hn rfl rfl (by rfl) (by decide) rfl rfl (by simp) (by simp) fun K hK => ?_
   simp [hG, List.getD_cons_zero, List.getD_cons_succ, -List.getD_eq_getElem?_getD]
   refine hK _ ?_
   clear K hK
   refine zl 4 ?_
   refine zN (zs (zr ?_))
   refine zt ?_
   refine RetF_of (()) (id) (fun _ => false) (fun _ => false) trivial ?_ ?_ (by rfl) (by simp) (fun k hk => absurd hk (Nat.not_lt_zero _))
   · simp [hG, List.getD_cons_zero, List.getD_cons_succ, -List.getD_eq_getElem?_getD]
   simp [hG, List.getD_cons_zero, List.getD_cons_succ, -List.getD_eq_getElem?_getD]
 refine zk (zs (zr ?_))
 refine zt ?_
 refine RetF_of (()) (id) (fun _ => false) (fun k => k == 0) trivial ?_ ?_ (by rfl) (by simp) (fun k hk => absurd hk (Nat.not_lt_zero _))
 · simp [hG, List.getD_cons_zero, List.getD_cons_succ, -List.getD_eq_getElem?_getD]
 simp [hG, List.getD_cons_zero, List.getD_cons_succ, -List.getD_eq_getElem?_getD]
set_option maxRecDepth 100000 in
theorem concat_c (L : List (List Int)) (hL : L.length ≤ 100) (hr : ∀ x ∈ L, x.length ≤ 1024) : FC1 Tryz.prog 73 [.sl (0, 0) 0 L.length] [(0, .one (.arr L.length 1 (fun i _ => ints (L.getD i []))))] 1 (ints (preI L L.length)) [] 1 := by
 refine FC_introS T_ok Tryz.func73 rfl (by simp [Tryz.ntmps73]) fun G hG hR => ?_
 simp only [Tryz.ntmps73, Tryz.results73] at hG ⊢
 simp only [argEnv, Nat.zero_add, Nat.reduceAdd]
 refine zs ?_
 refine awpS_wk (st2 := ⟨[(0, rowsI L)], [], 1⟩) ?_ ?_
 · refine wk_of (id) (fun _ => true) (fun _ => false) ?_ ?_ rfl (by simp) (fun k hk => by first | exact ⟨rfl, rfl⟩ | (revert k; decide) | (obtain rfl : k = 0 := (by omega); exact ⟨rfl, rfl⟩) | (have hk2 : k = 0 ∨ k = 1 := (by omega); rcases hk2 with rfl | rfl <;> exact ⟨rfl, rfl⟩))
   · simp [hG, List.getD_cons_zero, List.getD_cons_succ, -List.getD_eq_getElem?_getD]
   simp [hG, List.getD_cons_zero, List.getD_cons_succ, -List.getD_eq_getElem?_getD]
 refine zr ?_
 refine zs (zr ?_)
 refine zs (zs (zr ?_))
 refine zb ?_
 refine awpS_loop (α := Nat) (fun k => ⟨[(0, rowsI L), (3, .int .i64 ((preI L k).length : Nat)), (9, rowsI L), (10, .int .i64 L.length), (11, .int .i64 k)], [], 1⟩) (fun k => k ≤ L.length) (fun k => L.length - k) (0) (Nat.zero_le _) ?_ ?_
 · refine wk_of (id) (fun _ => false) (fun _ => false) ?_ ?_ rfl (by simp) (fun k hk => by first | exact ⟨rfl, rfl⟩ | (revert k; decide) | (obtain rfl : k = 0 := (by omega); exact ⟨rfl, rfl⟩) | (have hk2 : k = 0 ∨ k = 1 := (by omega); rcases hk2 with rfl | rfl <;> exact ⟨rfl, rfl⟩))
   · simp [hG, List.getD_cons_zero, List.getD_cons_succ, -List.getD_eq_getElem?_getD]
   simp [hG, List.getD_cons_zero, List.getD_cons_succ, -List.getD_eq_getElem?_getD]
 rintro k hk
 refine zs (zr ?_)
 refine zs (zy (fun hb12 => ?_) fun hb12 => ?_)
 · have hrk := hr _ (getD_mem (d := []) (show k < L.length by omega))
   have hE := pre_succ (L := L) (show k < L.length by omega)
   have hfl := pre_le hr k hk
   refine zk (zs (zb (zs (zr ?_))))
   refine zs (zr ?_)
   refine zs (zr ?_)
   refine awpS_cond rfl (fun hb20 => ?_) (fun hb20 => ?_)
   · exact absurd hb20 (by simp; omega)
   try simp [-List.getD_eq_getElem?_getD] at hb20
   refine zk (zn (zbn (zr ?_)))
   refine zn ?_
   refine round_end (k + 1) (by omega) (by omega) ?_
   refine wk_of (id) (fun _ => false) (fun _ => false) ?_ ?_ rfl (by simp) (fun k hk => by first | exact ⟨rfl, rfl⟩ | (revert k; decide) | (obtain rfl : k = 0 := (by omega); exact ⟨rfl, rfl⟩) | (have hk2 : k = 0 ∨ k = 1 := (by omega); rcases hk2 with rfl | rfl <;> exact ⟨rfl, rfl⟩))
   · rw [hE]; simp [hG, List.getD_cons_zero, List.getD_cons_succ, -List.getD_eq_getElem?_getD]
   simp [hG, List.getD_cons_zero, List.getD_cons_succ, -List.getD_eq_getElem?_getD]
 obtain rfl : k = L.length := (by omega)
 refine zx (ztx (zbx (zs (zL (zl 1 ?_)))))
 refine zf cal114 [] (growI_c (preI L L.length).length (pre_len hL hr)) (fun x hI hno => ?_)
 refine zl 1 ?_
 refine zN (zs (zs (zr ?_)))
 refine zb ?_
 refine awpS_loop (α := Nat) (fun k => ⟨[(0, rowsI L), (6, .sl (1, 0) 0 (preI L k).length), (25, rowsI L), (26, .int .i64 L.length), (27, .int .i64 k)], [(1, .one (.arr (preI L k).length 1 (fun i _ => .int .i64 ((preI L k).getD i 0))))], 2⟩) (fun k => k ≤ L.length) (fun k => L.length - k) (0) (Nat.zero_le _) ?_ ?_
 · refine wk_of (id) (fun _ => false) (fun _ => false) ?_ ?_ rfl (by simp) (fun k hk => by first | exact ⟨rfl, rfl⟩ | (revert k; decide) | (obtain rfl : k = 0 := (by omega); exact ⟨rfl, rfl⟩) | (have hk2 : k = 0 ∨ k = 1 := (by omega); rcases hk2 with rfl | rfl <;> exact ⟨rfl, rfl⟩))
   · simp [hG, List.getD_cons_zero, List.getD_cons_succ, -List.getD_eq_getElem?_getD]
   simp [hG, List.getD_cons_zero, List.getD_cons_succ, -List.getD_eq_getElem?_getD]
 rintro k hk
 refine zs (zr ?_)
 refine zs (zy (fun hb28 => ?_) fun hb28 => ?_)
 · have hrk := hr _ (getD_mem (d := []) (show k < L.length by omega))
   have hE := pre_succ (L := L) (show k < L.length by omega)
   have hfl := pre_le hr k hk
   refine zk (zs (zb (zs (zr ?_))))
   refine zr ?_
   refine zn (zbn (zr ?_))
   refine zn ?_
   refine round_end (k + 1) (by omega) (by omega) ?_
   refine wk_of (fun k => if k = 1 then 2 else k) (fun _ => false) (fun _ => false) ?_ ?_ rfl (by simp) (fun k hk => by first | exact ⟨rfl, rfl⟩ | (revert k; decide) | (obtain rfl : k = 0 := (by omega); exact ⟨rfl, rfl⟩) | (have hk2 : k = 0 ∨ k = 1 := (by omega); rcases hk2 with rfl | rfl <;> exact ⟨rfl, rfl⟩))
   · rw [hE]; simp [hG, List.getD_cons_zero, List.getD_cons_succ, -List.getD_eq_getElem?_getD]
   rw [hE]; simp [hG, List.getD_cons_zero, List.getD_cons_succ, -List.getD_eq_getElem?_getD]; exact app_ints _ _
 obtain rfl : k = L.length := (by omega)
 refine zx (ztx (zbx (zs (zr ?_))))
 refine zt ?_
 refine RetF_of (()) (id) (fun _ => true) (fun _ => false) trivial ?_ ?_ (by rfl) (by simp) (fun k _ => ⟨rfl, rfl⟩)
 · simp [hG, List.getD_cons_zero, List.getD_cons_succ, -List.getD_eq_getElem?_getD]
 simp [hG, List.getD_cons_zero, List.getD_cons_succ, -List.getD_eq_getElem?_getD]
end Go.Proofs.YthpdkmoedpcboaaGreat
