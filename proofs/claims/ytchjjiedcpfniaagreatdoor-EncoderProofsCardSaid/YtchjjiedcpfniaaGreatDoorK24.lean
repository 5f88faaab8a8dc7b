/- Parts of the proof: ZG. -/
import Derived.Test.YtchjjiedcpfniaaGreatDoorK10
import Derived.Test.YtchjjiedcpfniaaGreatDoorK15
import Derived.Test.YtchjjiedcpfniaaGreatDoorK16
import Derived.Test.YtchjjiedcpfniaaGreatDoorK20
import Derived.Test.YtchjjiedcpfniaaGreatDoorK23
namespace Go.Proofs.YtchjjiedcpfniaaGreatDoor
set_option linter.unusedSimpArgs false
set_option linter.unusedVariables false
open Go Go.Lift Go.Proofs
theorem bw_zero {q l : Int} {n j : Nat} (hj : j < n) : (0 : Int) = (bwAt q n l 0 j : Nat) := by
  unfold bwAt; rw [if_neg (by omega)]; rfl
theorem bw_all {q l : Int} {n i j : Nat} (hi : n ≤ i) (hj : j < n) : ((bwAt q n l i j : Nat) : Int) = ((blockL q n l).getD j 0).toNat := by
  unfold bwAt; rw [if_pos (by omega), blockL_at hj]
theorem val_box {q : Int} {w : List UInt8} {k : Nat} (hq : 1 ≤ q ∧ q ≤ 16) (hup : q ^ w.length ≤ 256) (hk : k ≤ w.length) (hv : 0 ≤ valW q (w.take k) ∧ valW q (w.take k) < q ^ k) : 0 ≤ valW q (w.take k) * q ∧ valW q (w.take k) * q ≤ 4096 ∧ valW q (w.take k) ≤ 256 := by
  have h1 := pow_mono_le hq.1 hk
  refine ⟨Int.mul_nonneg hv.1 (by omega), ?_, by omega⟩
  have := Int.mul_le_mul (show valW q (w.take k) ≤ 256 by omega) hq.2 (by omega) (by omega)
  omega
theorem bw_set {q l : Int} {n i j : Nat} (hi : i < n) (hj : j < n) : (if j = n - 1 - i then AVal.int .u8 ((ltr (l / q ^ i % q)).toNat : Nat) else .int .u8 (bwAt q n l i j : Nat)) = .int .u8 (bwAt q n l (i + 1) j : Nat) := by
  unfold bwAt
  by_cases h : j = n - 1 - i
  · rw [if_pos h, if_pos (by omega)]
    have : n - 1 - j = i := by omega
    rw [this]
  · rw [if_neg h]
    by_cases h3 : n - i ≤ j
    · rw [if_pos h3, if_pos (by omega)]
    · rw [if_neg h3, if_neg (by omega)]
theorem edge_ext {a b : Edge} (h1 : a.frm = b.frm) (h2 : a.lab = b.lab) (h3 : a.to = b.to) : a = b := by
  cases a; cases b; simp at h1 h2 h3; simp [h1, h2, h3]
@[simp] theorem vecF_int {l : List Int} {d : Int} {i j : Nat} : vecF (fun (x : Int) (_ : Nat) => AVal.int .i64 x) d l i j = .int .i64 (l.getD i d) := rfl
@[simp] theorem vecF_ints {L : List (List Int)} {i j : Nat} : vecF (fun (x : List Int) (_ : Nat) => ints x) [] L i j = ints (L.getD i []) := rfl
set_option maxRecDepth 100000 in
theorem cloneE_c (l : List Edge) (hl : l.length ≤ 1000000) : FC1 Tryz.prog 58 [edgesC l] [] 0 (.sl (0, 0) 0 l.length) [(0, .one (.arr l.length 3 (fun i j => edgeF (l.getD i de) j)))] 1 := by
 refine FC_introS T_ok Tryz.func58 rfl (by simp [Tryz.ntmps58]) fun G hG hR => ?_
 simp only [Tryz.ntmps58, Tryz.results58] at hG ⊢
 simp only [argEnv, Nat.zero_add, Nat.reduceAdd]
 refine zs (zr ?_)
 refine zs (zs (zr ?_))
 refine awpS_condU rfl (fun hb4 => ?_) ?_
 · refine zs (zr ?_)
   refine zt ?_
   refine RetF_of (()) (id) (fun _ => false) (fun _ => true) trivial ?_ ?_ (by rfl) (by simp) (fun k hk => absurd hk (Nat.not_lt_zero _))
   · simp [hG]; exact hb4
   simp [hG]; exact hb4
 refine zk (zs (zr ?_))
 refine zt ?_
 refine RetF_of (()) (fun _ => 1) (fun _ => false) (fun _ => false) trivial ?_ ?_ (by rfl) (by simp) (fun k hk => absurd hk (Nat.not_lt_zero _))
 · simp [hG, List.getD_cons_zero, List.getD_cons_succ, -List.getD_eq_getElem?_getD]
 simp [hG, List.getD_cons_zero, List.getD_cons_succ, -List.getD_eq_getElem?_getD]
set_option maxRecDepth 100000 in
theorem insE0_c  : FC Tryz.prog 149 [.sl (0, 0) 0 0, .int .i64 0, .int .i64 0, .fn 89 1 (fun _ => .vptr 1 (fun _ => .fn 67 0 (fun _ => .any)) 0)] [(0, .one (.arr 0 3 (fun i j => edgeF (([] : List Edge).getD i de) j)))] 1 (fun x => x = ([] : List Edge)) (fun x => .any) (fun x => [(0, .one (.arr 0 3 (fun i j => edgeF (x.getD i de) j)))]) (fun x => 1) := by
 refine FC_introS T_ok Tryz.func149 rfl (by simp [Tryz.ntmps149]) fun G hG hR => ?_
 simp only [Tryz.ntmps149, Tryz.results149] at hG ⊢
 simp only [argEnv, Nat.zero_add, Nat.reduceAdd]
 refine zs (zr ?_)
 refine zb ?_
 refine awpS_loop (α := Unit) (fun u => ⟨[(0, .sl (0, 0) 0 0), (1, .int .i64 0), (2, .int .i64 0), (3, .fn 89 1 (fun _ => .vptr 1 (fun _ => .fn 67 0 (fun _ => .any)) 0)), (8, .int .i64 1)], [(0, .one (.arr 0 3 (fun i j => edgeF (([] : List Edge).getD i de) j)))], 1⟩) (fun u => True) (fun u => 0) (()) (trivial) ?_ ?_
 · refine wk_of (id) (fun _ => false) (fun _ => false) ?_ ?_ rfl (by simp) (fun k hk => by first | exact ⟨rfl, rfl⟩ | (revert k; decide) | (obtain rfl : k = 0 := (by omega); exact ⟨rfl, rfl⟩) | (have hk2 : k = 0 ∨ k = 1 := (by omega); rcases hk2 with rfl | rfl <;> exact ⟨rfl, rfl⟩))
   · simp [hG, List.getD_cons_zero, List.getD_cons_succ, -List.getD_eq_getElem?_getD]
   simp [hG, List.getD_cons_zero, List.getD_cons_succ, -List.getD_eq_getElem?_getD]
 rintro u hu
 refine zs (zs (zr ?_))
 refine awpS_cond rfl (fun hb14 => ?_) (fun hb14 => ?_)
 · simp at hb14
 try simp [-List.getD_eq_getElem?_getD] at hb14
 refine zx (ztx (zbx (zn ?_)))
 refine RetF_of ([]) (id) (fun _ => false) (fun _ => false) rfl ?_ ?_ (by rfl) (by simp) (fun k _ => ⟨rfl, rfl⟩)
 · simp [hG, List.getD_cons_zero, List.getD_cons_succ, -List.getD_eq_getElem?_getD]
 simp [hG, List.getD_cons_zero, List.getD_cons_succ, -List.getD_eq_getElem?_getD]
set_option maxRecDepth 100000 in
theorem pdqE0_c (m : Int) : FC Tryz.prog 143 [.sl (0, 0) 0 0, .int .i64 0, .int .i64 0, .int .i64 m, .fn 89 1 (fun _ => .vptr 1 (fun _ => .fn 67 0 (fun _ => .any)) 0)] [(0, .one (.arr 0 3 (fun i j => edgeF (([] : List Edge).getD i de) j)))] 1 (fun x => x = ([] : List Edge)) (fun x => .any) (fun x => [(0, .one (.arr 0 3 (fun i j => edgeF (x.getD i de) j)))]) (fun x => 1) := by
 refine FC_introS T_ok Tryz.func143 rfl (by simp [Tryz.ntmps143]) fun G hG hR => ?_
 simp only [Tryz.ntmps143, Tryz.results143] at hG ⊢
 simp only [argEnv, Nat.zero_add, Nat.reduceAdd]
 refine zs (zr ?_)
 refine zs (zr ?_)
 refine zb ?_
 refine awpS_loop (α := Unit) (fun u => ⟨[(0, .sl (0, 0) 0 0), (1, .int .i64 0), (2, .int .i64 0), (3, .int .i64 m), (4, .fn 89 1 (fun _ => .vptr 1 (fun _ => .fn 67 0 (fun _ => .any)) 0)), (10, .bool true), (11, .bool true)], [(0, .one (.arr 0 3 (fun i j => edgeF (([] : List Edge).getD i de) j)))], 1⟩) (fun u => True) (fun u => 0) (()) (trivial) ?_ ?_
 · refine wk_of (id) (fun _ => false) (fun _ => false) ?_ ?_ rfl (by simp) (fun k hk => by first | exact ⟨rfl, rfl⟩ | (revert k; decide) | (obtain rfl : k = 0 := (by omega); exact ⟨rfl, rfl⟩) | (have hk2 : k = 0 ∨ k = 1 := (by omega); rcases hk2 with rfl | rfl <;> exact ⟨rfl, rfl⟩))
   · simp [hG, List.getD_cons_zero, List.getD_cons_succ, -List.getD_eq_getElem?_getD]
   simp [hG, List.getD_cons_zero, List.getD_cons_succ, -List.getD_eq_getElem?_getD]
 rintro u hu
 refine zb (zs (zr ?_))
 refine zs (zs (zr ?_))
 refine awpS_cond rfl (fun hb25 => ?_) (fun hb25 => ?_)
 · try simp [-List.getD_eq_getElem?_getD] at hb25
   refine zs (zL (zl 4 ?_))
   refine zf cal149 [0] insE0_c (fun x hI hno => ?_)
   refine zN (zt (zbt (ztt (zbt ?_))))
   refine RetF_of ([]) (id) (fun _ => false) (fun _ => false) rfl ?_ ?_ (by rfl) (by simp) (fun k _ => ⟨rfl, rfl⟩)
   · simp [hG, List.getD_cons_zero, List.getD_cons_succ, -List.getD_eq_getElem?_getD]
   simp [hG, List.getD_cons_zero, List.getD_cons_succ, -List.getD_eq_getElem?_getD]
 simp at hb25
set_option maxRecDepth 100000 in
theorem sortE0_c  : FC Tryz.prog 119 [.sl (0, 0) 0 0, .fn 89 1 (fun _ => .vptr 1 (fun _ => .fn 67 0 (fun _ => .any)) 0)] [(0, .one (.arr 0 3 (fun i j => edgeF (([] : List Edge).getD i de) j)))] 1 (fun x => x = ([] : List Edge)) (fun x => .any) (fun x => [(0, .one (.arr 0 3 (fun i j => edgeF (x.getD i de) j)))]) (fun x => 1) := by
 refine FC_introS T_ok Tryz.func119 rfl (by simp [Tryz.ntmps119]) fun G hG hR => ?_
 simp only [Tryz.ntmps119, Tryz.results119] at hG ⊢
 simp only [argEnv, Nat.zero_add, Nat.reduceAdd]
 refine zs (zr ?_)
 refine zL (zl 4 ?_)
 refine zc cal70 (bitLen_c 0 (by decide)) ?_
 refine zl 1 ?_
 refine zf cal143 [0] (pdqE0_c (len8 0)) (fun x hI hno => ?_)
 refine zN (zn ?_)
 refine RetF_of ([]) (id) (fun _ => false) (fun _ => false) rfl ?_ ?_ (by rfl) (by simp) (fun k _ => ⟨rfl, rfl⟩)
 · simp [hG, List.getD_cons_zero, List.getD_cons_succ, -List.getD_eq_getElem?_getD]
 simp [hG, List.getD_cons_zero, List.getD_cons_succ, -List.getD_eq_getElem?_getD]
end Go.Proofs.YtchjjiedcpfniaaGreatDoor
