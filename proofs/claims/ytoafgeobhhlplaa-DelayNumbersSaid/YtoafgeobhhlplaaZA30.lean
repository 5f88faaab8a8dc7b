/- Parts of the proof: VE. -/
import Derived.Test.YtoafgeobhhlplaaZA21
import Derived.Test.YtoafgeobhhlplaaZA25
import Derived.Test.YtoafgeobhhlplaaZA29
namespace Go.Proofs.Ytoafgeobhhlplaa
set_option linter.unusedSimpArgs false
set_option linter.unusedVariables false
open Go Go.Lift Go.Proofs
theorem app_oneI {K : List Int} {x : Int} {w : Nat → Nat → AVal} {i : Nat} (hw : w 0 0 = .int .i64 x) (hi : i < K.length + 1) : app (fun p _ => .int .i64 (K.getD p 0)) K.length w i 0 = .int .i64 ((K ++ [x]).getD i 0) := by
  unfold app
  by_cases h : i < K.length
  · rw [if_pos h]; simp [List.getD, List.getElem?_append_left h]
  · obtain rfl : i = K.length := by omega
    rw [if_neg h, Nat.sub_self, hw]; simp [List.getD]
theorem rdB0 {W : List Wd} {x w : Wd} (hA : ¬ w <+: x) (hB : x <+: w) : rd W x w = rd W [] (w.drop x.length) := by rw [rd_dec, decide_eq_false hA, decide_eq_true hB]; simp
theorem ck_code {c : Cd} {w : Wd} (h : ckN c w = 0) : cdN c = 0 := by
  unfold ckN at h
  split at h
  · cases h
  · rename_i h2; simpa using h2
@[simp] theorem VLe_yld {h : Heap} {σ : Lift.Id → Lift.Id} {fz : Nat → Bool} {vz : Lift.Id → Bool} {x l l' n n' : Nat} {vs vs' : Array Value} {f f' : Nat → AVal} : VLe h σ fz vz x (.yld l vs n f) (.yld l' vs' n' f') = (l' = l ∧ vs' = vs ∧ n' = n ∧ ∀ j, j < n → VLe h σ fz vz x (f j) (f' j)) := rfl
set_option maxRecDepth 100000 in
theorem begins_c (c : Cd) (w : List UInt8) : FC1 Try.prog 73 [.agg 2 (cdF c), .str w] [] 0 (.fn 86 4 (fun j => [.vptr 1 (fun _ => .str w) 0, .ptr (0, 0) 0 0, .vptr 2 (cdF c) 0, .ptr (2, 0) 0 0].getD j .any)) [(0, .one (.arr 1 1 (fun _ _ => .map (1, 0)))), (1, .one (.mp (mpE intK boolV (([] : List (Int × Bool)))))), (2, .one (.arr 1 1 (fun _ _ => .fn 86 4 (fun j => [.vptr 1 (fun _ => .str w) 0, .ptr (0, 0) 0 0, .vptr 2 (cdF c) 0, .ptr (2, 0) 0 0].getD j .any))))] 3 := by
 refine FC_introS T_ok Try.func73 rfl (by simp [Try.ntmps73]) fun G hG hR => ?_
 simp only [Try.ntmps73, Try.results73] at hG ⊢
 simp only [argEnv, Nat.zero_add, Nat.reduceAdd]
 refine zs (zr ?_)
 refine zs (zr ?_)
 refine zs (zr ?_)
 refine zs (zr ?_)
 refine zs (zr ?_)
 refine zt ?_
 refine RetF_of (()) (fun k => if k = 0 then 3 else if k = 1 then 2 else if k = 2 then 4 else k) (fun k => k == 0 || k == 1) (fun _ => false) trivial ?_ ?_ (by rfl) (by simp) (fun k hk => absurd hk (Nat.not_lt_zero _))
 · simp [hG, List.getD_cons_zero, List.getD_cons_succ, -List.getD_eq_getElem?_getD]
 simp [hG, List.getD_cons_zero, List.getD_cons_succ, -List.getD_eq_getElem?_getD]
set_option maxRecDepth 100000 in
theorem starts_c (c : Cd) (w : List UInt8) : PC Try.prog 48 [.agg 2 (cdF c), .str w] (.fn 72 2 (fun j => [.vptr 2 (cdF c) 0, .vptr 1 (fun _ => .str w) 0].getD j .any)) := by
 refine zp Try.func48 fun G hG hR => ?_
 refine zs (zr ?_)
 refine zs (zr ?_)
 refine zt ?_
 exact zR
end Go.Proofs.Ytoafgeobhhlplaa
