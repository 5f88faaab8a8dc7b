/-
  A split is chosen: the least end, then the least beginning, such that the edges between them carry a multiple of m that is less than the weight of the state.
-/
import Derived.Test.YthpdkmoedpcboaaNC
namespace Go.Proofs.Ythpdkmoedpcboaa
set_option linter.unusedSimpArgs false
set_option linter.unusedVariables false
open Go Go.Lift

/-- the sum between two places of a list of edges. -/
def segS (g : Gr) (v : List Int) (o : List Int) (i j : Nat) : Int := psA g v o j - psA g v o i
def okC (g : Gr) (v : List Int) (m w : Int) (o : List Int) (i j : Nat) : Bool := decide (segS g v o i j % m = 0 ∧ 1 ≤ segS g v o i j / m ∧ segS g v o i j / m < w)
/-- the least beginning for an end. -/
def chI (g : Gr) (v : List Int) (m w : Int) (o : List Int) (j : Nat) : Option Nat := (List.range j).find? fun i => okC g v m w o i j
/-- the least end up to a place, and its beginning. -/
def chJ (g : Gr) (v : List Int) (m w : Int) (o : List Int) : Nat → Option (Nat × Nat)
  | 0 => none
  | j + 1 => match chJ g v m w o j with
    | some p => some p
    | none => (chI g v m w o (j + 1)).map fun i => (i, j + 1)
def prts (o : List Int) (i j : Nat) : List (List Int) := [(o.drop i).take (j - i), o.take i ++ o.drop j]
def chS (g : Gr) (v : List Int) (m : Int) (s : Nat) : Option Spl := (chJ g v m (v.getD s 0) (outR g s) (outR g s).length).map fun p => ⟨s, prts (outR g s) p.1 p.2⟩
/-- the round that is chosen for the first states. -/
def cRd (g : Gr) (v : List Int) (m : Int) : Nat → List Spl
  | 0 => []
  | s + 1 => cRd g v m s ++ if v.getD s 0 < 2 then [] else (chS g v m s).toList
def cNo (g : Gr) (v : List Int) (m : Int) : Int := if baseN g v m ≠ 0 then baseN g v m else if cRd g v m g.states.toNat = [] then 16 else 0
def cLs (g : Gr) (v : List Int) (m : Int) : List Spl := if baseN g v m = 0 then cRd g v m g.states.toNat else []
section
variable {g : Gr} {v : List Int} {m w : Int} {o : List Int} {i j s : Nat}
theorem cRd_zero : cRd g v m 0 = [] := rfl
theorem cRd_light (h : v.getD s 0 < 2) : cRd g v m (s + 1) = cRd g v m s := by
  show cRd g v m s ++ _ = _
  rw [if_pos h, List.append_nil]
theorem cRd_no (h : ¬ v.getD s 0 < 2) (h2 : chS g v m s = none) : cRd g v m (s + 1) = cRd g v m s := by
  show cRd g v m s ++ _ = _
  rw [if_neg h, h2]; exact List.append_nil _
theorem cRd_yes (h : ¬ v.getD s 0 < 2) {x : Spl} (h2 : chS g v m s = some x) : cRd g v m (s + 1) = cRd g v m s ++ [x] := by
  show cRd g v m s ++ _ = _
  rw [if_neg h, h2]; rfl
theorem cNo_1 (h : baseN g v m ≠ 0) : cNo g v m = baseN g v m ∧ cLs g v m = [] := ⟨if_pos h, if_neg h⟩
theorem cNo_2 (h : baseN g v m = 0) (h2 : cRd g v m g.states.toNat = []) : cNo g v m = 16 ∧ cLs g v m = [] := ⟨by unfold cNo; rw [if_neg (fun h3 => h3 h), if_pos h2], by unfold cLs; rw [if_pos h, h2]⟩
theorem cNo_3 (h : baseN g v m = 0) (h2 : cRd g v m g.states.toNat ≠ []) : cNo g v m = 0 ∧ cLs g v m = cRd g v m g.states.toNat := ⟨by unfold cNo; rw [if_neg (fun h3 => h3 h), if_neg h2], if_pos h⟩
theorem cRd_len : (cRd g v m s).length ≤ s := by
  induction s with
  | zero => exact Nat.le_refl _
  | succ s ih =>
    show (cRd g v m s ++ _).length ≤ _
    rw [List.length_append]
    split
    · simp; omega
    · cases chS g v m s <;> simp <;> omega
theorem chI_none (h : ∀ i, i < j → okC g v m w o i j = false) : chI g v m w o j = none := by
  unfold chI
  rw [List.find?_eq_none]
  intro i hi
  rw [h i (List.mem_range.1 hi)]
  simp
theorem chI_some (hi : i < j) (h : okC g v m w o i j = true) (hn : ∀ k, k < i → okC g v m w o k j = false) : chI g v m w o j = some i := by
  unfold chI
  rw [List.find?_eq_some_iff_getElem]
  refine ⟨h, i, by simpa using hi, by simp, fun k hk => ?_⟩
  simp [hn k hk]
theorem chJ_keep {p : Nat × Nat} (h : chJ g v m w o j = some p) : ∀ d, chJ g v m w o (j + d) = some p
  | 0 => h
  | d + 1 => by
    show (match chJ g v m w o (j + d) with | some p => some p | none => _) = _
    rw [chJ_keep h d]
theorem chJ_ok : ∀ {n : Nat} {p : Nat × Nat}, chJ g v m w o n = some p → p.1 < p.2 ∧ p.2 ≤ n ∧ okC g v m w o p.1 p.2 = true
  | 0, p, h => by cases h
  | n + 1, p, h => by
    cases h1 : chJ g v m w o n with
    | some q =>
      have h2 := chJ_keep h1 1
      rw [h2] at h
      obtain rfl := Option.some.inj h
      obtain ⟨h3, h4, h5⟩ := chJ_ok h1
      exact ⟨h3, by omega, h5⟩
    | none =>
      have h2 : chJ g v m w o (n + 1) = (chI g v m w o (n + 1)).map fun i => (i, n + 1) := by
        show (match chJ g v m w o n with | some p => some p | none => _) = _
        rw [h1]
      rw [h2] at h
      cases h3 : chI g v m w o (n + 1) with
      | none => rw [h3] at h; cases h
      | some i =>
        rw [h3] at h
        obtain rfl := Option.some.inj h
        unfold chI at h3
        have h4 := List.find?_some h3
        exact ⟨List.mem_range.1 (List.mem_of_find?_eq_some h3), Nat.le_refl _, h4⟩
end
/-- the weight of an edge: that of the state where it ends. -/
def wtE (g : Gr) (v : List Int) (k : Int) : Int := v.getD (g.edges.getD k.toNat de).to.toNat 0
theorem psA_sum {g : Gr} {v p : List Int} : ∀ q, q ≤ p.length → psA g v p q = ((p.take q).map (wtE g v)).sum
  | 0, _ => rfl
  | q + 1, h => by
    rw [psA_succ, psA_sum q (by omega), take_next (by omega), List.map_append, List.sum_append]
    simp [wtE]
theorem psV_sum {g : Gr} {v p : List Int} : psV g v p = (p.map (wtE g v)).sum := by
  unfold psV
  rw [psA_sum _ (Nat.le_refl _), List.take_length]
theorem segS_seg {g : Gr} {v o : List Int} {i j : Nat} (hi : i ≤ j) (hj : j ≤ o.length) : psV g v ((o.drop i).take (j - i)) = segS g v o i j := by
  unfold segS
  rw [psV_sum, psA_sum i (by omega), psA_sum j hj]
  have e : o.take j = o.take i ++ (o.drop i).take (j - i) := by rw [← List.take_append_drop i (o.take j), List.take_take, List.drop_take, Nat.min_eq_left hi]
  rw [e, List.map_append, List.sum_append]
  omega
theorem segS_rest {g : Gr} {v o : List Int} {i j : Nat} (hi : i ≤ j) (hj : j ≤ o.length) : psV g v (o.take i ++ o.drop j) = psV g v o - segS g v o i j := by
  unfold segS
  rw [psV_sum, psV_sum, psA_sum i (by omega), psA_sum j hj, List.map_append, List.sum_append]
  have e : (o.map (wtE g v)).sum = ((o.take j).map (wtE g v)).sum + ((o.drop j).map (wtE g v)).sum := by rw [← List.sum_append, ← List.map_append, List.take_append_drop]
  omega
theorem psV_out {g : Gr} {v : List Int} {s : Nat} : psV g v (outL g s) = sumV g v s := by
  rw [psV_sum]
  unfold outL sumV
  have key : ∀ i, ((outA g (s : Int) i).map (wtE g v)).sum = sumA g v i s := by
    intro i
    induction i with
    | zero => rfl
    | succ i ih =>
      rw [outA_succ, sumA_succ, List.map_append, List.sum_append, ih]
      split
      · simp [wtE]
      · simp
  exact key _
end Go.Proofs.Ythpdkmoedpcboaa
