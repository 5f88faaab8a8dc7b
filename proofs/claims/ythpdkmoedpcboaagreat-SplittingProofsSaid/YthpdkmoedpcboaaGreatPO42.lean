/- Parts of the proof: NM XB NO. -/
import Derived.Test.YthpdkmoedpcboaaGreatPO11
import Derived.Test.YthpdkmoedpcboaaGreatPO15
import Derived.Test.YthpdkmoedpcboaaGreatPO33
namespace Go.Proofs.YthpdkmoedpcboaaGreat
set_option linter.unusedSimpArgs false
set_option linter.unusedVariables false
open Go Go.Lift Go.Proofs
def nxC (g : Gr) (v : List Int) (m : Int) (s : Nat) : Int := min (v.getD s 0) (sumV g v s / m)
def nxtV (g : Gr) (v : List Int) (m : Int) : List Int := (List.range v.length).map (nxC g v m)
def gIt (g : Gr) (m : Int) (v : List Int) : Nat → List Int
  | 0 => v
  | k + 1 => nxtV g (gIt g m v k) m
def greV (g : Gr) (v : List Int) (m : Int) : List Int := gIt g m v (v.sum.toNat + 1)
theorem gIt_succ {g : Gr} {m : Int} {v : List Int} {k : Nat} : gIt g m v (k + 1) = nxtV g (gIt g m v k) m := rfl
theorem nxtV_len {g : Gr} {v : List Int} {m : Int} : (nxtV g v m).length = v.length := by simp [nxtV]
theorem nxtV_at {g : Gr} {v : List Int} {m : Int} {s : Nat} (h : s < v.length) : (nxtV g v m).getD s 0 = nxC g v m s := by simp [nxtV, List.getD, h]
theorem nxC_box {g : Gr} {v : List Int} {m : Int} {s : Nat} (hm : 1 ≤ m) (hb : BoxV v) : 0 ≤ nxC g v m s ∧ nxC g v m s ≤ v.getD s 0 := by
  have h1 := box_at hb s
  have h2 := (sumA_box hb (g := g) (s := s) g.edges.length).1
  have h3 : 0 ≤ sumV g v s / m := Int.ediv_nonneg h2 (by omega)
  unfold nxC
  omega
theorem nxtV_box {g : Gr} {v : List Int} {m : Int} (hm : 1 ≤ m) (hb : BoxV v) : BoxV (nxtV g v m) := fun n hn => by
  obtain ⟨s, hs, rfl⟩ := List.mem_map.1 hn
  have h1 := box_at hb s
  have h2 := nxC_box (g := g) (s := s) hm hb
  omega
theorem gIt_box {g : Gr} {v : List Int} {m : Int} (hm : 1 ≤ m) (hb : BoxV v) : ∀ k, BoxV (gIt g m v k) ∧ (gIt g m v k).length = v.length
  | 0 => ⟨hb, rfl⟩
  | k + 1 => by
    obtain ⟨h1, h2⟩ := gIt_box hm hb k
    exact ⟨nxtV_box hm h1, by rw [gIt_succ, nxtV_len, h2]⟩
theorem sum_lower : ∀ {a b : List Int}, a.length = b.length → (∀ s, s < b.length → a.getD s 0 ≤ b.getD s 0) → a.sum ≤ b.sum ∧ (a ≠ b → a.sum < b.sum)
  | [], [], _, _ => ⟨Int.le_refl _, fun h => absurd rfl h⟩
  | x :: a, y :: b, hl, h => by
    have h0 := h 0 (by simp)
    obtain ⟨h1, h2⟩ := sum_lower (a := a) (b := b) (by simpa using hl) fun s hs => by simpa using h (s + 1) (by simpa using hs)
    simp only [List.getD_cons_zero] at h0
    simp only [List.sum_cons]
    refine ⟨by omega, fun hne => ?_⟩
    by_cases e : a = b
    · have : x ≠ y := fun e2 => hne (by rw [e, e2])
      omega
    · have := h2 e
      omega
theorem sum_pos {a : List Int} (h : ∀ n ∈ a, 0 ≤ n) : 0 ≤ a.sum := by
  induction a with
  | nil => exact Int.le_refl _
  | cons x a ih =>
    have h1 := h x (List.mem_cons_self ..)
    have h2 := ih fun n hn => h n (List.mem_cons_of_mem _ hn)
    simp only [List.sum_cons]; omega
theorem nxtV_lower {g : Gr} {v : List Int} {m : Int} (hm : 1 ≤ m) (hb : BoxV v) : (nxtV g v m).sum ≤ v.sum ∧ (nxtV g v m ≠ v → (nxtV g v m).sum < v.sum) :=
  sum_lower nxtV_len fun s hs => by rw [nxtV_at hs]; exact (nxC_box hm hb).2
theorem gIt_meas {g : Gr} {v : List Int} {m : Int} (hm : 1 ≤ m) (hb : BoxV v) {k : Nat} (h : gIt g m v (k + 1) ≠ gIt g m v k) : (gIt g m v (k + 1)).sum.toNat < (gIt g m v k).sum.toNat := by
  have h1 := (nxtV_lower (g := g) hm (gIt_box hm hb (g := g) k).1).2 h
  have h2 := sum_pos fun n hn => ((gIt_box hm hb (g := g) (k + 1)).1 n hn).1
  show (nxtV g (gIt g m v k) m).sum.toNat < _
  have h3 : 0 ≤ (nxtV g (gIt g m v k) m).sum := h2
  omega
theorem gIt_stay {g : Gr} {v : List Int} {m : Int} {k : Nat} (h : gIt g m v (k + 1) = gIt g m v k) : ∀ d, gIt g m v (k + d) = gIt g m v k
  | 0 => rfl
  | d + 1 => by
    show nxtV g (gIt g m v (k + d)) m = _
    rw [gIt_stay h d]; exact h
theorem gIt_count {g : Gr} {v : List Int} {m : Int} (hm : 1 ≤ m) (hb : BoxV v) : ∀ k, (∀ j, j < k → gIt g m v (j + 1) ≠ gIt g m v j) → (gIt g m v k).sum.toNat + k ≤ v.sum.toNat
  | 0, _ => Nat.le_refl _
  | k + 1, h => by
    have h1 := gIt_count hm hb k fun j hj => h j (by omega)
    have h2 := gIt_meas hm hb (h k (by omega))
    omega
theorem gre_stop {g : Gr} {v : List Int} {m : Int} (hm : 1 ≤ m) (hb : BoxV v) {k : Nat} (hn : ∀ j, j < k → gIt g m v (j + 1) ≠ gIt g m v j) (h : gIt g m v (k + 1) = gIt g m v k) : greV g v m = gIt g m v k := by
  have h1 := gIt_count hm hb k hn
  have h2 := gIt_stay h (v.sum.toNat + 1 - k)
  rw [show k + (v.sum.toNat + 1 - k) = v.sum.toNat + 1 by omega] at h2
  exact h2
theorem gre_fix {g : Gr} {v : List Int} {m : Int} (hm : 1 ≤ m) (hb : BoxV v) : nxtV g (greV g v m) m = greV g v m := by
  refine Classical.byContradiction fun hc => ?_
  have key : ∀ k, k ≤ v.sum.toNat + 1 → ∀ j, j < k → gIt g m v (j + 1) ≠ gIt g m v j := fun k hk j hj e => by
    have h1 := gIt_stay e (v.sum.toNat + 1 - j)
    rw [show j + (v.sum.toNat + 1 - j) = v.sum.toNat + 1 by omega] at h1
    have h2 : greV g v m = gIt g m v j := h1
    rw [h2] at hc
    exact hc e
  have := gIt_count hm hb (v.sum.toNat + 1) (key _ (Nat.le_refl _))
  omega
theorem gre_box {g : Gr} {v : List Int} {m : Int} (hm : 1 ≤ m) (hb : BoxV v) : BoxV (greV g v m) ∧ (greV g v m).length = v.length := gIt_box hm hb _
theorem gIt_lower {g : Gr} {v : List Int} {m : Int} (hm : 1 ≤ m) (hb : BoxV v) : ∀ k, (gIt g m v k).sum ≤ v.sum
  | 0 => Int.le_refl _
  | k + 1 => Int.le_trans (nxtV_lower hm (gIt_box hm hb (g := g) k).1).1 (gIt_lower hm hb k)
theorem gre_lower {g : Gr} {v : List Int} {m : Int} (hm : 1 ≤ m) (hb : BoxV v) : (greV g v m).sum ≤ v.sum := gIt_lower hm hb _
def decV (v : List Int) (s : Nat) : List Int := v.set s (v.getD s 0 - 1)
def lwP (g : Gr) (m : Int) (v : List Int) (s : Nat) : Bool := decide (v.getD s 0 ≠ 0) && !((greV g (decV v s) m).all fun n => decide (n = 0))
theorem lwP_yes {g : Gr} {m : Int} {v : List Int} {s : Nat} (h0 : v.getD s 0 ≠ 0) (h1 : ((greV g (decV v s) m).all fun n => decide (n = 0)) = false) : lwP g m v s = true := by unfold lwP; rw [h1, decide_eq_true h0]; rfl
theorem lwP_no {g : Gr} {m : Int} {v : List Int} {s : Nat} (h : v.getD s 0 = 0 ∨ ((greV g (decV v s) m).all fun n => decide (n = 0)) = true) : lwP g m v s = false := by
  unfold lwP
  rcases h with h | h
  · rw [decide_eq_false (fun h2 => h2 h)]; rfl
  · rw [h]; exact Bool.and_false _
def lowI (g : Gr) (m : Int) (v : List Int) : Option Nat := (List.range v.length).find? (lwP g m v)
def lstI (g : Gr) (m : Int) (v : List Int) : Nat → List Int
  | 0 => v
  | k + 1 => match lowI g m (lstI g m v k) with
    | some s => greV g (decV (lstI g m v k) s) m
    | none => lstI g m v k
def lstV (g : Gr) (m : Int) (v : List Int) : List Int := lstI g m v (v.sum.toNat + 1)
theorem lstI_zero {g : Gr} {m : Int} {v : List Int} : lstI g m v 0 = v := rfl
theorem lstI_none {g : Gr} {m : Int} {v : List Int} {k : Nat} (h : lowI g m (lstI g m v k) = none) : lstI g m v (k + 1) = lstI g m v k := by
  show (match lowI g m (lstI g m v k) with | some s => _ | none => _) = _
  rw [h]
theorem lstI_some {g : Gr} {m : Int} {v : List Int} {k s : Nat} (h : lowI g m (lstI g m v k) = some s) : lstI g m v (k + 1) = greV g (decV (lstI g m v k) s) m := by
  show (match lowI g m (lstI g m v k) with | some s => _ | none => _) = _
  rw [h]
theorem decV_len {v : List Int} {s : Nat} : (decV v s).length = v.length := by simp [decV]
theorem decV_at {v : List Int} {s k : Nat} (hk : k < v.length) : (decV v s).getD k 0 = if k = s then v.getD s 0 - 1 else v.getD k 0 := by
  unfold decV
  rw [List.getD_eq_getElem?_getD, List.getElem?_set]
  by_cases h : k = s
  · subst h; simp [hk]
  · rw [if_neg h, if_neg (Ne.symm h), List.getD_eq_getElem?_getD]
theorem decV_box {v : List Int} {s : Nat} (hb : BoxV v) (hs : v.getD s 0 ≠ 0) : BoxV (decV v s) := fun n hn => by
  have h1 := box_at hb s
  rcases List.mem_or_eq_of_mem_set hn with h | rfl
  · exact hb n h
  · omega
theorem decV_sum : ∀ {v : List Int} {s : Nat}, s < v.length → (decV v s).sum = v.sum - 1
  | [], s, h => absurd h (Nat.not_lt_zero _)
  | x :: v, 0, _ => by simp [decV]; omega
  | x :: v, s + 1, h => by
    have := decV_sum (v := v) (s := s) (by simpa using h)
    simp only [decV, List.set_cons_succ, List.getD_cons_succ, List.sum_cons] at this ⊢
    omega
theorem lowI_some {g : Gr} {m : Int} {v : List Int} {s : Nat} (hs : s < v.length) (h0 : v.getD s 0 ≠ 0) (h1 : ((greV g (decV v s) m).all fun n => decide (n = 0)) = false) (hn : ∀ k, k < s → v.getD k 0 = 0 ∨ ((greV g (decV v k) m).all fun n => decide (n = 0)) = true) : lowI g m v = some s := by
  unfold lowI
  rw [List.find?_eq_some_iff_getElem]
  refine ⟨lwP_yes h0 h1, s, by simpa using hs, by simp, fun k hk => ?_⟩
  rw [List.getElem_range, lwP_no (hn k hk)]; rfl
theorem lowI_none {g : Gr} {m : Int} {v : List Int} (hn : ∀ k, k < v.length → v.getD k 0 = 0 ∨ ((greV g (decV v k) m).all fun n => decide (n = 0)) = true) : lowI g m v = none := by
  unfold lowI
  rw [List.find?_eq_none]
  intro k hk
  rw [lwP_no (hn k (List.mem_range.1 hk))]; simp
theorem lowI_in {g : Gr} {m : Int} {v : List Int} {s : Nat} (h : lowI g m v = some s) : s < v.length ∧ v.getD s 0 ≠ 0 ∧ ((greV g (decV v s) m).all fun n => decide (n = 0)) = false := by
  unfold lowI at h
  have h1 := List.find?_some h
  have h2 := List.mem_of_find?_eq_some h
  unfold lwP at h1
  simp only [Bool.and_eq_true, decide_eq_true_eq, Bool.not_eq_true'] at h1
  exact ⟨List.mem_range.1 h2, h1.1, h1.2⟩
theorem low_sum {g : Gr} {m : Int} {v : List Int} {s : Nat} (hm : 1 ≤ m) (hb : BoxV v) (h : lowI g m v = some s) : BoxV (greV g (decV v s) m) ∧ (greV g (decV v s) m).length = v.length ∧ (greV g (decV v s) m).sum.toNat < v.sum.toNat := by
  obtain ⟨h1, h2, _⟩ := lowI_in h
  have h3 := decV_box hb h2
  have h4 := gre_box (g := g) hm h3
  have h5 := gre_lower (g := g) hm h3
  have h6 := decV_sum h1
  have h7 := sum_pos fun n hn => (h4.1 n hn).1
  exact ⟨h4.1, h4.2.trans decV_len, by omega⟩
theorem lst_box {g : Gr} {m : Int} {v : List Int} (hm : 1 ≤ m) (hb : BoxV v) : ∀ k, BoxV (lstI g m v k) ∧ (lstI g m v k).length = v.length
  | 0 => ⟨hb, rfl⟩
  | k + 1 => by
    obtain ⟨h1, h2⟩ := lst_box (g := g) hm hb k
    cases h : lowI g m (lstI g m v k) with
    | none => rw [lstI_none h]; exact ⟨h1, h2⟩
    | some s => rw [lstI_some h]; have h3 := low_sum hm h1 h; exact ⟨h3.1, h3.2.1.trans h2⟩
theorem lst_stay {g : Gr} {m : Int} {v : List Int} {k : Nat} (h : lowI g m (lstI g m v k) = none) : ∀ d, lstI g m v (k + d) = lstI g m v k
  | 0 => rfl
  | d + 1 => by
    have h1 := lst_stay h d
    have h2 : lowI g m (lstI g m v (k + d)) = none := by rw [h1]; exact h
    rw [← Nat.add_assoc, lstI_none h2, h1]
theorem lst_count {g : Gr} {m : Int} {v : List Int} (hm : 1 ≤ m) (hb : BoxV v) : ∀ k, (∀ j, j < k → lowI g m (lstI g m v j) ≠ none) → (lstI g m v k).sum.toNat + k ≤ v.sum.toNat
  | 0, _ => Nat.le_refl _
  | k + 1, h => by
    have h1 := lst_count hm hb k fun j hj => h j (by omega)
    cases h2 : lowI g m (lstI g m v k) with
    | none => exact absurd h2 (h k (by omega))
    | some s =>
      have h3 := (low_sum hm (lst_box (g := g) hm hb k).1 h2).2.2
      rw [lstI_some h2]
      omega
theorem lst_stop {g : Gr} {m : Int} {v : List Int} (hm : 1 ≤ m) (hb : BoxV v) {k : Nat} (hn : ∀ j, j < k → lowI g m (lstI g m v j) ≠ none) (h : lowI g m (lstI g m v k) = none) : lstV g m v = lstI g m v k := by
  have h1 := lst_count hm hb k hn
  have h2 := lst_stay h (v.sum.toNat + 1 - k)
  rw [show k + (v.sum.toNat + 1 - k) = v.sum.toNat + 1 by omega] at h2
  exact h2
end Go.Proofs.YthpdkmoedpcboaaGreat
namespace Go.Proofs.YthpdkmoedpcboaaGreat
set_option linter.unusedSimpArgs false
set_option linter.unusedVariables false
open Go Go.Lift Go.Proofs
set_option maxRecDepth 100000 in
theorem sumsF_c (g : Gr) (v : List Int) (hv : gcheck g = 0) (hl : (v.length : Int) = g.states) (hbx : BoxV v) : FC1 Tryz.prog 89 [.agg 3 (grF g), ints v, .fn 90 0 (fun _ => .any)] [] 0 (.sl (0, 0) 0 g.states.toNat) [(0, .one (.arr g.states.toNat 1 (fun s _ => .int .i64 (sumV g v s))))] 1 := by
 have hst := (gcheck_valid hv).1.st
 have hed := (gcheck_valid hv).1.ed
 refine FC_introS T_ok Tryz.func89 rfl (by simp [Tryz.ntmps89]) fun G hG hR => ?_
 simp only [Tryz.ntmps89, Tryz.results89] at hG ⊢
 simp only [argEnv, Nat.zero_add, Nat.reduceAdd]
 refine zs (zr ?_)
 refine zs (zr ?_)
 refine zs (zs (zr ?_))
 refine zb ?_
 refine awpS_loop (α := Nat) (fun i => ⟨[(1, ints v), (2, .fn 90 0 (fun _ => .any)), (3, .ptr (0, 0) 0 0), (7, .sl (1, 0) 0 g.states.toNat), (14, edgesC g.edges), (15, .int .i64 g.edges.length), (16, .int .i64 i)], [(0, .one (.arr 1 3 (fun _ => grF g))), (1, .one (.arr g.states.toNat 1 (fun s _ => .int .i64 (sumA g v i s))))], 2⟩) (fun i => i ≤ g.edges.length) (fun i => g.edges.length - i) (0) (Nat.zero_le _) ?_ ?_
 · exact zi (h := by simp [hG, List.getD_cons_zero, List.getD_cons_succ, -List.getD_eq_getElem?_getD]; exact fun i _ => rfl)
 rintro i hi
 refine zs (zr ?_)
 refine zs (zy (fun hb17 => ?_) fun hb17 => ?_)
 · have heb := edge_in hv (getD_mem (d := de) (show i < g.edges.length by omega))
   have hsb := sumA_box hbx (g := g) (s := (g.edges.getD i de).frm.toNat) i
   have hvb := box_at hbx (g.edges.getD i de).to.toNat
   refine zk (zs (zb (zs (zr ?_))))
   refine awpS_draw hR mixed [] ⟨[16], [], []⟩ fun mu0 => ?_
   refine za [0, 1, 2, 3, 4, 5, 6, 7, 8, 9, 10, 11, 12, 13] [] 3 [13, 12, 11, 10, 9, 8, 7, 6, 5, 4, 3, 2, 1, 0] ?_
   refine awpA_only (fuel := 2) (i := 14) (by decide +kernel) ?_
   refine ze cal90 (plusC_c (sumA g v i (g.edges.getD i de).frm.toNat) (v.getD (g.edges.getD i de).to.toNat 0) (by omega) (by omega)) ?_
   refine za [15] [] 1 [15, 14, 13, 12, 11, 10, 9, 8, 7, 6, 5, 4, 3, 2, 1, 0] ?_
   refine awpA_only (fuel := 0) (i := 16) (by decide +kernel) ?_
   refine zo ?_
   refine awpA_done (by decide +kernel) ?_
   refine zn (zbn (zr ?_))
   refine zn ?_
   refine round_end (i + 1) (by omega) (by omega) ?_
   exact zi (h := by simp [hG, List.getD_cons_zero, List.getD_cons_succ, -List.getD_eq_getElem?_getD]; exact fun s hs => by rw [sumA_succ]; by_cases h : s = (g.edges.getD i de).frm.toNat; (rw [if_pos h, if_pos (by omega), h]); (rw [if_neg h, if_neg (by omega), Int.add_zero]))
 obtain rfl : i = g.edges.length := (by omega)
 refine zx (ztx (zbx (zs (zr ?_))))
 refine zt ?_
 refine RetF_of (()) (fun k => if k = 0 then 1 else 0) (fun _ => false) (fun _ => false) trivial ?_ ?_ (by rfl) (by simp) (fun k hk => absurd hk (Nat.not_lt_zero _))
 · simp [hG, List.getD_cons_zero, List.getD_cons_succ, -List.getD_eq_getElem?_getD]
 simp [hG, List.getD_cons_zero, List.getD_cons_succ, -List.getD_eq_getElem?_getD]; exact fun _ _ => rfl
set_option maxRecDepth 100000 in
set_option maxHeartbeats 1000000 in
theorem greatM_c (g : Gr) (v : List Int) (m : Int) (hv : gcheck g = 0) (hl : (v.length : Int) = g.states) (hbx : BoxV v) (hm : 1 ≤ m ∧ m ≤ 256) : PC Tryz.prog 128 [.agg 3 (grF g), ints v, .int .i64 m] (ints (greV g v m)) := by
 have hst := (gcheck_valid hv).1.st
 have hed := (gcheck_valid hv).1.ed
 refine zp Tryz.func128 fun G hG hR => ?_
 refine zs (zr ?_)
 refine zs (zL (zl 1 ?_))
 refine zf cal27 [] (cloneI_c v (by omega)) (fun x hI hno => ?_)
 refine zl 1 ?_
 refine zN (zb ?_)
 refine awpS_loop (α := Nat) (fun k => ⟨[(1, ints (gIt g m v k)), (2, .int .i64 m), (3, .ptr (0, 0) 0 0)], [(0, .one (.arr 1 3 (fun _ => grF g)))], 1⟩) (fun k => BoxV (gIt g m v k) ∧ ((gIt g m v k).length : Int) = g.states ∧ ∀ j, j < k → gIt g m v (j + 1) ≠ gIt g m v j) (fun k => (gIt g m v k).sum.toNat) (0) (⟨hbx, hl, fun j hj => absurd hj (Nat.not_lt_zero _)⟩) ?_ ?_
 · exact zw (id) (fun k => k == 1) (fun _ => false) (e := by simp [hG, List.getD_cons_zero, List.getD_cons_succ, -List.getD_eq_getElem?_getD]; exact ⟨rfl, Nat.le_refl _, fun q hq => rfl⟩)
 rintro k ⟨hbk, hlk, hn⟩
 refine zb (zs (zL (zl 2 ?_)))
 refine zf cal89 [] (sumsF_c g (gIt g m v k) hv hlk hbk) (fun x hI hno => ?_)
 refine zl 1 ?_
 refine zN (zs (zs (zr ?_)))
 refine zb ?_
 refine awpS_loop (α := Nat) (fun s => ⟨[(1, ints (gIt g m v k)), (2, .int .i64 m), (3, .ptr (0, 0) 0 0), (7, .sl (1, 0) 0 g.states.toNat), (15, .int .i64 (g.states.toNat : Nat)), (16, .int .i64 (s : Nat))], [(0, .one (.arr 1 3 (fun _ => grF g))), (1, .one (.arr g.states.toNat 1 (fun q _ => .int .i64 (if q < s then nxC g (gIt g m v k) m q else sumV g (gIt g m v k) q))))], 2⟩) (fun s => s ≤ g.states.toNat) (fun s => g.states.toNat - s) (0) (Nat.zero_le _) ?_ ?_
 · exact zi
 rintro s hs
 refine zs (zr ?_)
 refine zs (zy (fun hb17 => ?_) fun hb17 => ?_)
 · have hsn : (s : Int) < g.states := (by omega)
   have hsv := sumA_box hbk (g := g) (s := s) g.edges.length
   have hvs := box_at hbk s
   have hnc := nxC_box (g := g) (s := s) hm.1 hbk
   have hse : sumV g (gIt g m v k) s = sumA g (gIt g m v k) g.edges.length s := rfl
   refine zk (zs (zb (zs (zr ?_))))
   refine awpS_draw hR mixed [(14, (1, 0))] ⟨[], [], []⟩ fun mu0 => ?_
   refine za [0, 1, 2, 3, 4, 5, 6, 7, 8, 9, 10, 11, 12, 13] [] 1 [13, 12, 11, 10, 9, 8, 7, 6, 5, 4, 3, 2, 1, 0] ?_
   refine awpA_only (fuel := 0) (i := 14) (by decide +kernel) ?_
   refine zo ?_
   refine awpA_done (by decide +kernel) ?_
   refine zn (zbn (zr ?_))
   refine zn ?_
   refine round_end (s + 1) (by omega) (by omega) ?_
   exact zi (h := by simp [hG, List.getD_cons_zero, List.getD_cons_succ, -List.getD_eq_getElem?_getD]; exact fun q hq => by by_cases h : q = s; (subst h; rw [if_pos rfl, if_pos (by omega)]; unfold nxC; first | rfl | (congr 1; omega) | simp); (rw [if_neg h]; by_cases h2 : q < s; (rw [if_pos h2, if_pos (by omega)]); (rw [if_neg h2, if_neg (by omega)])))
 obtain rfl : s = g.states.toNat := (by omega)
 refine zx (ztx (zbx (zs (zs (zL (zl 2 ?_))))))
 refine awpL_callB (mem [1]) cal33 (by simp [flat]) rfl rfl (fun _ => rfl) (fun hg => equalI_c (nxtV g (gIt g m v k) m) (gIt g m v k) (by rw [nxtV_len]; omega)) (fun hg => ?_) (fun hg => ?_) fun K hK => ?_
 · simp [hG, List.getD_cons_zero, List.getD_cons_succ, -List.getD_eq_getElem?_getD]
 · simp [hG, List.getD_cons_zero, List.getD_cons_succ, -List.getD_eq_getElem?_getD]; refine ⟨by rw [nxtV_len]; omega, by rw [nxtV_len]; omega, fun q hq => ?_⟩; rw [nxtV_len] at hq; rw [if_pos (by omega), nxtV_at hq]
 simp [hG, List.getD_cons_zero, List.getD_cons_succ, -List.getD_eq_getElem?_getD]
 refine hK _ ?_
 clear K hK
 refine zN (zy (fun hb36 => ?_) fun hb36 => ?_)
 · refine zs (zr ?_)
   refine zt (zbt (ztt (zbt ?_)))
   refine RetOK_of ?_
   simp [hG, List.getD_cons_zero, List.getD_cons_succ, -List.getD_eq_getElem?_getD]
   rw [gre_stop hm.1 hbx hn hb36]; exact Clo.le _ Clo_ints
 have hne : gIt g m v (k + 1) ≠ gIt g m v k := hb36
 have hms := gIt_meas hm.1 hbx hne
 have hbx2 := gIt_box (g := g) hm.1 hbx (k + 1)
 refine zk (zr ?_)
 refine zn (zbn (zn ?_))
 refine round_end (k + 1) (⟨hbx2.1, by rw [hbx2.2]; exact hl, step_all hn hne⟩) (by omega) ?_
 exact zw (id) (fun k => k == 1) (fun _ => false) (e := by simp [hG, List.getD_cons_zero, List.getD_cons_succ, -List.getD_eq_getElem?_getD]; refine ⟨by rw [hbx2.2]; omega, by rw [hbx2.2]; omega, fun q hq => ?_⟩; rw [hbx2.2] at hq; rw [if_pos (by omega), gIt_succ, nxtV_at (by omega)])
end Go.Proofs.YthpdkmoedpcboaaGreat
namespace Go.Proofs.YthpdkmoedpcboaaGreat
set_option linter.unusedSimpArgs false
set_option linter.unusedVariables false
open Go Go.Lift Go.Proofs
def nzB (w : List Int) : Bool := !(w.all fun n => decide (n = 0))
def exC (b : Bool) : Option Code := if b then some (.exit 2) else none
@[simp] theorem exC_true : exC true = some (.exit 2) := rfl
@[simp] theorem exC_false : exC false = none := rfl
@[simp] theorem exC_isNone {b : Bool} : (exC b).isNone = !b := by cases b <;> rfl
def lstN (g : Gr) (m : Int) (v : List Int) : List Int := match lowI g m v with
  | some s => greV g (decV v s) m
  | none => v
theorem lstN_some {g : Gr} {m : Int} {v : List Int} {s : Nat} (h : lowI g m v = some s) : lstN g m v = greV g (decV v s) m := by unfold lstN; rw [h]
theorem lstN_none {g : Gr} {m : Int} {v : List Int} (h : lowI g m v = none) : lstN g m v = v := by unfold lstN; rw [h]
theorem lstI_next {g : Gr} {m : Int} {v : List Int} {k : Nat} : lstI g m v (k + 1) = lstN g m (lstI g m v k) := rfl
def bF (g : Gr) (m : Int) (v : List Int) : Nat → Bool
  | 0 => true
  | k + 1 => (lowI g m (lstI g m v k)).isSome
theorem bF_succ {g : Gr} {m : Int} {v : List Int} {k : Nat} : bF g m v (k + 1) = (lowI g m (lstI g m v k)).isSome := rfl
def bN (b : Bool) : Nat := if b then 1 else 0
theorem lst_exit {g : Gr} {m : Int} {v : List Int} (hm : 1 ≤ m) (hb : BoxV v) : ∀ {k : Nat}, (∀ j, j < k → bF g m v j = true) → bF g m v k = false → lstV g m v = lstI g m v k
  | 0, _, h => by cases h
  | k + 1, hn, h => by
    have h1 : lowI g m (lstI g m v k) = none := by
      rw [bF_succ] at h
      cases hl : lowI g m (lstI g m v k) with
      | none => rfl
      | some s => rw [hl] at h; cases h
    rw [lstI_next, lstN_none h1]
    refine lst_stop hm hb (fun j hj e => ?_) h1
    have := hn (j + 1) (by omega)
    rw [bF_succ, e] at this
    cases this
theorem lst_meas {g : Gr} {m : Int} {v : List Int} {k : Nat} (hm : 1 ≤ m) (hb : BoxV v) (h : bF g m v k = true) : (lstI g m v (k + 1)).sum.toNat + bN (bF g m v (k + 1)) < (lstI g m v k).sum.toNat + bN (bF g m v k) := by
  rw [h, bF_succ, lstI_next]
  cases hl : lowI g m (lstI g m v k) with
  | none => rw [lstN_none hl]; simp [bN]
  | some s =>
    have h3 := (low_sum hm (lst_box (g := g) hm hb k).1 hl).2.2
    rw [lstN_some hl]; simp [bN]; omega
def leaL (g : Gr) (v : List Int) (m : Int) : List Int := if eigN g v m = 0 then lstV g m v else []
theorem leaL_1 {g : Gr} {v : List Int} {m : Int} (h : eigN g v m ≠ 0) : leaL g v m = [] := if_neg h
theorem leaL_2 {g : Gr} {v : List Int} {m : Int} (h : eigN g v m = 0) : leaL g v m = lstV g m v := if_pos h
end Go.Proofs.YthpdkmoedpcboaaGreat
