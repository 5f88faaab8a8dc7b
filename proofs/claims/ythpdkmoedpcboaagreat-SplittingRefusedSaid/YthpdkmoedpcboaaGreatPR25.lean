/- Parts of the proof: ZG. -/
import Derived.Test.YthpdkmoedpcboaaGreatPR10
import Derived.Test.YthpdkmoedpcboaaGreatPR15
import Derived.Test.YthpdkmoedpcboaaGreatPR16
import Derived.Test.YthpdkmoedpcboaaGreatPR21
import Derived.Test.YthpdkmoedpcboaaGreatPR24
namespace Go.Proofs.YthpdkmoedpcboaaGreat
set_option linter.unusedSimpArgs false
set_option linter.unusedVariables false
open Go Go.Lift Go.Proofs
theorem edge_ext {a b : Edge} (h1 : a.frm = b.frm) (h2 : a.lab = b.lab) (h3 : a.to = b.to) : a = b := by
  cases a; cases b; simp at h1 h2 h3; simp [h1, h2, h3]
theorem half_nat {i j : Nat} : (((i : Int) + (j : Int)) / 2).toNat = (i + j) / 2 := by omega
@[simp] theorem vecF_int {l : List Int} {d : Int} {i j : Nat} : vecF (fun (x : Int) (_ : Nat) => AVal.int .i64 x) d l i j = .int .i64 (l.getD i d) := rfl
@[simp] theorem vecF_ints {L : List (List Int)} {i j : Nat} : vecF (fun (x : List Int) (_ : Nat) => ints x) [] L i j = ints (L.getD i []) := rfl
set_option maxRecDepth 100000 in
theorem cloneE_c (l : List Edge) (hl : l.length ≤ 1000000) : FC1 Tryz.prog 36 [edgesC l] [] 0 (.sl (0, 0) 0 l.length) [(0, .one (.arr l.length 3 (fun i j => edgeF (l.getD i de) j)))] 1 := by
 refine FC_introS T_ok Tryz.func36 rfl (by simp [Tryz.ntmps36]) fun G hG hR => ?_
 simp only [Tryz.ntmps36, Tryz.results36] at hG ⊢
 simp only [argEnv, Nat.zero_add, Nat.reduceAdd]
 refine zs (zr ?_)
 refine zs (zs (zr ?_))
 refine awpS_condU rfl (fun hb4 => ?_) ?_
 · refine zs (zr ?_)
   refine zt ?_
   refine RetF_of (()) (id) (fun _ => false) (fun _ => true) trivial ?_ ?_ (by rfl) (by simp) (fun k hk => absurd hk (Nat.not_lt_zero _))
   · simp [hG]; exact hb4
   simp [hG]; exact hb4
 refine zk (zs (zr ?_))
 refine zt ?_
 refine RetF_of (()) (fun _ => 1) (fun _ => false) (fun _ => false) trivial ?_ ?_ (by rfl) (by simp) (fun k hk => absurd hk (Nat.not_lt_zero _))
 · simp [hG, List.getD_cons_zero, List.getD_cons_succ, -List.getD_eq_getElem?_getD]
 simp [hG, List.getD_cons_zero, List.getD_cons_succ, -List.getD_eq_getElem?_getD]
set_option maxRecDepth 100000 in
theorem insE0_c  : FC Tryz.prog 141 [.sl (0, 0) 0 0, .int .i64 0, .int .i64 0, .fn 119 1 (fun _ => .vptr 1 (fun _ => .fn 78 0 (fun _ => .any)) 0)] [(0, .one (.arr 0 3 (fun i j => edgeF (([] : List Edge).getD i de) j)))] 1 (fun x => x = ([] : List Edge)) (fun x => .any) (fun x => [(0, .one (.arr 0 3 (fun i j => edgeF (x.getD i de) j)))]) (fun x => 1) := by
 refine FC_introS T_ok Tryz.func141 rfl (by simp [Tryz.ntmps141]) fun G hG hR => ?_
 simp only [Tryz.ntmps141, Tryz.results141] at hG ⊢
 simp only [argEnv, Nat.zero_add, Nat.reduceAdd]
 refine zs (zr ?_)
 refine zb ?_
 refine awpS_loop (α := Unit) (fun u => ⟨[(0, .sl (0, 0) 0 0), (1, .int .i64 0), (2, .int .i64 0), (3, .fn 119 1 (fun _ => .vptr 1 (fun _ => .fn 78 0 (fun _ => .any)) 0)), (8, .int .i64 1)], [(0, .one (.arr 0 3 (fun i j => edgeF (([] : List Edge).getD i de) j)))], 1⟩) (fun u => True) (fun u => 0) (()) (trivial) ?_ ?_
 · refine wk_of (id) (fun _ => false) (fun _ => false) ?_ ?_ rfl (by simp) (fun k hk => by first | exact ⟨rfl, rfl⟩ | (revert k; decide) | (obtain rfl : k = 0 := (by omega); exact ⟨rfl, rfl⟩) | (have hk2 : k = 0 ∨ k = 1 := (by omega); rcases hk2 with rfl | rfl <;> exact ⟨rfl, rfl⟩))
   · simp [hG, List.getD_cons_zero, List.getD_cons_succ, -List.getD_eq_getElem?_getD]
   simp [hG, List.getD_cons_zero, List.getD_cons_succ, -List.getD_eq_getElem?_getD]
 rintro u hu
 refine zs (zs (zr ?_))
 refine awpS_cond rfl (fun hb14 => ?_) (fun hb14 => ?_)
 · simp at hb14
 try simp [-List.getD_eq_getElem?_getD] at hb14
 refine zx (ztx (zbx (zn ?_)))
 refine RetF_of ([]) (id) (fun _ => false) (fun _ => false) rfl ?_ ?_ (by rfl) (by simp) (fun k _ => ⟨rfl, rfl⟩)
 · simp [hG, List.getD_cons_zero, List.getD_cons_succ, -List.getD_eq_getElem?_getD]
 simp [hG, List.getD_cons_zero, List.getD_cons_succ, -List.getD_eq_getElem?_getD]
set_option maxRecDepth 100000 in
theorem pdqE0_c (m : Int) : FC Tryz.prog 117 [.sl (0, 0) 0 0, .int .i64 0, .int .i64 0, .int .i64 m, .fn 119 1 (fun _ => .vptr 1 (fun _ => .fn 78 0 (fun _ => .any)) 0)] [(0, .one (.arr 0 3 (fun i j => edgeF (([] : List Edge).getD i de) j)))] 1 (fun x => x = ([] : List Edge)) (fun x => .any) (fun x => [(0, .one (.arr 0 3 (fun i j => edgeF (x.getD i de) j)))]) (fun x => 1) := by
 refine FC_introS T_ok Tryz.func117 rfl (by simp [Tryz.ntmps117]) fun G hG hR => ?_
 simp only [Tryz.ntmps117, Tryz.results117] at hG ⊢
 simp only [argEnv, Nat.zero_add, Nat.reduceAdd]
 refine zs (zr ?_)
 refine zs (zr ?_)
 refine zb ?_
 refine awpS_loop (α := Unit) (fun u => ⟨[(0, .sl (0, 0) 0 0), (1, .int .i64 0), (2, .int .i64 0), (3, .int .i64 m), (4, .fn 119 1 (fun _ => .vptr 1 (fun _ => .fn 78 0 (fun _ => .any)) 0)), (10, .bool true), (11, .bool true)], [(0, .one (.arr 0 3 (fun i j => edgeF (([] : List Edge).getD i de) j)))], 1⟩) (fun u => True) (fun u => 0) (()) (trivial) ?_ ?_
 · refine wk_of (id) (fun _ => false) (fun _ => false) ?_ ?_ rfl (by simp) (fun k hk => by first | exact ⟨rfl, rfl⟩ | (revert k; decide) | (obtain rfl : k = 0 := (by omega); exact ⟨rfl, rfl⟩) | (have hk2 : k = 0 ∨ k = 1 := (by omega); rcases hk2 with rfl | rfl <;> exact ⟨rfl, rfl⟩))
   · simp [hG, List.getD_cons_zero, List.getD_cons_succ, -List.getD_eq_getElem?_getD]
   simp [hG, List.getD_cons_zero, List.getD_cons_succ, -List.getD_eq_getElem?_getD]
 rintro u hu
 refine zb (zs (zr ?_))
 refine zs (zs (zr ?_))
 refine awpS_cond rfl (fun hb25 => ?_) (fun hb25 => ?_)
 · try simp [-List.getD_eq_getElem?_getD] at hb25
   refine zs (zL (zl 4 ?_))
   refine zf cal141 [0] insE0_c (fun x hI hno => ?_)
   refine zN (zt (zbt (ztt (zbt ?_))))
   refine RetF_of ([]) (id) (fun _ => false) (fun _ => false) rfl ?_ ?_ (by rfl) (by simp) (fun k _ => ⟨rfl, rfl⟩)
   · simp [hG, List.getD_cons_zero, List.getD_cons_succ, -List.getD_eq_getElem?_getD]
   simp [hG, List.getD_cons_zero, List.getD_cons_succ, -List.getD_eq_getElem?_getD]
 simp at hb25
set_option maxRecDepth 100000 in
theorem sortE0_c  : FC Tryz.prog 76 [.sl (0, 0) 0 0, .fn 119 1 (fun _ => .vptr 1 (fun _ => .fn 78 0 (fun _ => .any)) 0)] [(0, .one (.arr 0 3 (fun i j => edgeF (([] : List Edge).getD i de) j)))] 1 (fun x => x = ([] : List Edge)) (fun x => .any) (fun x => [(0, .one (.arr 0 3 (fun i j => edgeF (x.getD i de) j)))]) (fun x => 1) := by
 refine FC_introS T_ok Tryz.func76 rfl (by simp [Tryz.ntmps76]) fun G hG hR => ?_
 simp only [Tryz.ntmps76, Tryz.results76] at hG ⊢
 simp only [argEnv, Nat.zero_add, Nat.reduceAdd]
 refine zs (zr ?_)
 refine zL (zl 4 ?_)
 refine zc cal118 (bitLen_c 0 (by decide)) ?_
 refine zl 1 ?_
 refine zf cal117 [0] (pdqE0_c (len8 0)) (fun x hI hno => ?_)
 refine zN (zn ?_)
 refine RetF_of ([]) (id) (fun _ => false) (fun _ => false) rfl ?_ ?_ (by rfl) (by simp) (fun k _ => ⟨rfl, rfl⟩)
 · simp [hG, List.getD_cons_zero, List.getD_cons_succ, -List.getD_eq_getElem?_getD]
 simp [hG, List.getD_cons_zero, List.getD_cons_succ, -List.getD_eq_getElem?_getD]
end Go.Proofs.YthpdkmoedpcboaaGreat
