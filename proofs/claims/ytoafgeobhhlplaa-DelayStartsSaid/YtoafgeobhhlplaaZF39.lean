/- Parts of the proof: VM. -/
import Derived.Test.YtoafgeobhhlplaaZF22
import Derived.Test.YtoafgeobhhlplaaZF38
namespace Go.Proofs.Ytoafgeobhhlplaa
set_option linter.unusedSimpArgs false
set_option linter.unusedVariables false
open Go Go.Lift Go.Proofs
def fvM (K : List Rc) : List (Rc × Int) := K.map fun x => (x, forever)
theorem fvM_get {x : Rc} : ∀ {K : List Rc}, alGet (fvM K) x = if x ∈ K then some forever else none
  | [] => rfl
  | a :: K => by
    show (if x = a then some forever else alGet (fvM K) x) = _
    rw [fvM_get]
    by_cases h : x = a
    · rw [if_pos h, if_pos (by rw [h]; exact List.mem_cons_self)]
    · rw [if_neg h]
      by_cases h2 : x ∈ K
      · rw [if_pos h2, if_pos (List.mem_cons_of_mem _ h2)]
      · rw [if_neg h2, if_neg (fun e => (List.mem_cons.1 e).elim h h2)]
theorem al_new {β : Type} {k : Rc} {v : β} : ∀ {m : List (Rc × β)}, alGet m k = none → alPut m k v = m ++ [(k, v)]
  | [], _ => rfl
  | (a, b) :: m, h => by
    simp only [alGet] at h
    by_cases hk : k = a
    · rw [if_pos hk] at h; cases h
    · rw [if_neg hk] at h
      simp only [alPut, if_neg hk, al_new h, List.cons_append]
theorem fvM_put {x : Rc} {K : List Rc} (h : x ∉ K) : alPut (fvM K) x 9223372036854775807 = fvM (addG K x) := by
  rw [al_new (by rw [fvM_get, if_neg h])]
  unfold addG fvM
  rw [if_neg h, List.map_append]; rfl
theorem fvM_in {x : Rc} {K : List Rc} (h : (alGet (fvM K) x).isSome = true) : x ∈ K := by
  rw [fvM_get] at h
  by_cases h2 : x ∈ K
  · exact h2
  · rw [if_neg h2] at h; cases h
theorem fvM_out {x : Rc} {K : List Rc} (h : alGet (fvM K) x = none) : x ∉ K := fun h2 => by rw [fvM_get, if_pos h2] at h; cases h
def adQ (K : List Rc) (A Q : List Rc) (x : Rc) : List Rc × List Rc := if x ∈ K then (A, Q) else ([], Q ++ [x])
theorem adQ_in {K A Q : List Rc} {x : Rc} (h : x ∈ K) : adQ K A Q x = (A, Q) := if_pos h
theorem adQ_out {K A Q : List Rc} {x : Rc} (h : x ∉ K) : adQ K A Q x = ([], Q ++ [x]) := if_neg h
theorem addG_in {K : List Rc} {x : Rc} (h : x ∈ K) : addG K x = K := if_pos h
theorem app_oneQ {A Q : List Rc} {x : Rc} {w : Nat → Nat → AVal} {i j : Nat} (hw : w 0 j = rcF x j) (hi : i < Q.length + 1) : app (fun y => rcF ((A ++ Q).getD (A.length + y) dRc)) Q.length w i j = rcF ((Q ++ [x]).getD i dRc) j := by
  have e : (fun y => rcF ((A ++ Q).getD (A.length + y) dRc)) = fun y => rcF (Q.getD y dRc) := by
    funext y
    congr 1
    simp only [List.getD_eq_getElem?_getD]
    rw [List.getElem?_append_right (by omega), Nat.add_sub_cancel_left]
  rw [e]
  exact app_oneR hw hi
set_option maxRecDepth 100000 in
theorem add_c (c : Cd) (K A Q : List Rc) (x : Rc) (hb : A.length + Q.length ≤ 5000000) : FC1 Try.prog 66 [.agg 2 (rcF x), .ptr (0, 0) 0 0, .ptr (1, 0) 0 0] [(0, .one (.arr 1 3 (fun _ => rvF c (.map (2, 0))))), (1, .one (.arr 1 1 (fun _ _ => .sl (3, 0) A.length Q.length))), (2, .one (.mp (mpE rcK intV (fvM K)))), (3, .one (.arr (A.length + Q.length) 2 (fun y => rcF ((A ++ Q).getD y dRc))))] 4 (.tup 0 (fun _ => .any)) [(0, .one (.arr 1 3 (fun _ => rvF c (.map (2, 0))))), (1, .one (.arr 1 1 (fun _ _ => .sl (4, 0) (adQ K A Q x).1.length (adQ K A Q x).2.length))), (2, .one (.mp (mpE rcK intV (fvM (addG K x))))), (4, .one (.arr ((adQ K A Q x).1.length + (adQ K A Q x).2.length) 2 (fun y => rcF (((adQ K A Q x).1 ++ (adQ K A Q x).2).getD y dRc))))] 5 := by
 refine FC_introS T_ok Try.func66 rfl (by simp [Try.ntmps66]) fun G hG hR => ?_
 simp only [Try.ntmps66, Try.results66] at hG ⊢
 simp only [argEnv, Nat.zero_add, Nat.reduceAdd]
 refine zs (zrP ?_)
 refine zs (zrP ?_)
 refine zs (zrP ?_)
 refine zy (fun hb14 => ?_) fun hb14 => ?_
 · have hx := fvM_out (by simpa using hb14)
   have hfp := fvM_put hx
   have had := adQ_out (A := A) (Q := Q) hx
   refine zs (zrP ?_)
   refine zrP ?_
   refine zn ?_
   refine RetF_of (()) (fun k => if k = 4 then 6 else k) (fun _ => false) (fun _ => false) trivial ?_ ?_ (by rfl) (by simp) (fun k hk => ⟨if_neg (by omega), rfl⟩)
   · simp [hG, List.getD_cons_zero, List.getD_cons_succ, -List.getD_eq_getElem?_getD, pureOp]
   rw [had, ← hfp]; simp [hG, pureOp, List.getD_cons_zero, List.getD_cons_succ, -List.getD_eq_getElem?_getD]; exact fun i hi => ⟨app_oneQ (j := 0) rfl hi, app_oneQ (j := 1) rfl hi⟩
 have hx := fvM_in (by simpa using hb14)
 have had := adQ_in (A := A) (Q := Q) hx
 have hag := addG_in hx
 refine zk (zn ?_)
 refine RetF_of (()) (fun k => if k = 4 then 3 else k) (fun _ => false) (fun _ => false) trivial ?_ ?_ (by rfl) (by simp) (fun k hk => ⟨if_neg (by omega), rfl⟩)
 · simp [hG, List.getD_cons_zero, List.getD_cons_succ, -List.getD_eq_getElem?_getD, pureOp]
 rw [had, hag]; simp [hG, pureOp, List.getD_cons_zero, List.getD_cons_succ, -List.getD_eq_getElem?_getD]
end Go.Proofs.Ytoafgeobhhlplaa
