/- Parts of the proof: NC NF. -/
import Derived.Test.YthpdkmoedpcboaaGreatPR11
namespace Go.Proofs.YthpdkmoedpcboaaGreat
set_option linter.unusedSimpArgs false
set_option linter.unusedVariables false
open Go Go.Lift
theorem take_next {l : List Int} {q : Nat} (h : q < l.length) : l.take (q + 1) = l.take q ++ [l.getD q 0] := by
  rw [List.take_add_one, List.getElem?_eq_getElem h]
  simp [List.getD, h]
def splO (l : List Spl) (s : Nat) : Option Spl := l.find? fun x => decide (x.st = (s : Int))
def prS (g : Gr) (l : List Spl) (s : Nat) : List (List Int) := match splO l s with
  | some x => x.parts
  | none => [outR g s]
def wsS (g : Gr) (v : List Int) (m : Int) (l : List Spl) (s : Nat) : List Int := match splO l s with
  | some x => wtL g v m x
  | none => [v.getD s 0]
theorem splO_hit {l : List Spl} {s k : Nat} (hk : k < l.length) (h : (l.getD k ds).st = s) (hn : ∀ j, j < k → (l.getD j ds).st ≠ s) : splO l s = some (l.getD k ds) := by
  unfold splO
  rw [List.find?_eq_some_iff_getElem]
  have e : l.getD k ds = l[k] := by simp [List.getD, hk]
  refine ⟨by simpa using h, k, hk, e.symm, fun j hj => ?_⟩
  have := hn j hj
  simp only [List.getD, List.getElem?_eq_getElem (show j < l.length by omega), Option.getD_some] at this
  simpa using this
theorem splO_none {l : List Spl} {s : Nat} (hn : ∀ j, j < l.length → (l.getD j ds).st ≠ s) : splO l s = none := by
  unfold splO
  rw [List.find?_eq_none]
  intro x hx
  obtain ⟨j, hj, rfl⟩ := List.mem_iff_getElem.1 hx
  have := hn j hj
  simp only [List.getD, List.getElem?_eq_getElem hj, Option.getD_some] at this
  simpa using this
theorem wsS_len {g : Gr} {v : List Int} {m : Int} {l : List Spl} {s : Nat} : (wsS g v m l s).length = (prS g l s).length := by
  unfold wsS prS
  cases splO l s with
  | none => rfl
  | some x => exact wtL_len
def offA (g : Gr) (l : List Spl) : Nat → Nat
  | 0 => 0
  | s + 1 => offA g l s + (prS g l s).length
theorem offA_zero {g : Gr} {l : List Spl} : offA g l 0 = 0 := rfl
theorem offA_succ {g : Gr} {l : List Spl} {s : Nat} : offA g l (s + 1) = offA g l s + (prS g l s).length := rfl
def parA (g : Gr) (l : List Spl) : Nat → List Int
  | 0 => []
  | s + 1 => parA g l s ++ List.replicate (prS g l s).length (s : Int)
def parP (g : Gr) (l : List Spl) (s i : Nat) : List Int := parA g l s ++ List.replicate i (s : Int)
def hvA (g : Gr) (v : List Int) (m : Int) (l : List Spl) : Nat → List Int
  | 0 => []
  | s + 1 => hvA g v m l s ++ wsS g v m l s
def hvP (g : Gr) (v : List Int) (m : Int) (l : List Spl) (s i : Nat) : List Int := hvA g v m l s ++ (wsS g v m l s).take i
section
variable {g : Gr} {v : List Int} {m : Int} {l : List Spl} {s i : Nat}
theorem parA_len : ∀ s, (parA g l s).length = offA g l s
  | 0 => rfl
  | s + 1 => by simp [parA, offA, parA_len s]
theorem parP_zero : parP g l s 0 = parA g l s := by simp [parP]
theorem parP_succ : parP g l s (i + 1) = parP g l s i ++ [(s : Int)] := by unfold parP; rw [List.replicate_succ', List.append_assoc]
theorem parP_all : parP g l s (prS g l s).length = parA g l (s + 1) := rfl
theorem parP_len : (parP g l s i).length = offA g l s + i := by simp [parP, parA_len]
theorem hvA_len : ∀ s, (hvA g v m l s).length = offA g l s
  | 0 => rfl
  | s + 1 => by simp [hvA, offA, hvA_len s, wsS_len]
theorem hvP_zero : hvP g v m l s 0 = hvA g v m l s := by simp [hvP]
theorem hvP_succ (h : i < (prS g l s).length) : hvP g v m l s (i + 1) = hvP g v m l s i ++ [(wsS g v m l s).getD i 0] := by
  have h2 : i < (wsS g v m l s).length := by rw [wsS_len]; exact h
  unfold hvP
  generalize wsS g v m l s = W at h2
  rw [List.take_add_one, List.getElem?_eq_getElem h2, List.append_assoc]
  simp [List.getD, h2]
theorem hvP_all : hvP g v m l s (prS g l s).length = hvA g v m l (s + 1) := by unfold hvP; rw [← wsS_len (v := v) (m := m), List.take_length]; rfl
theorem hvP_len (h : i ≤ (prS g l s).length) : (hvP g v m l s i).length = offA g l s + i := by
  unfold hvP
  rw [List.length_append, List.length_take, wsS_len, hvA_len]
  omega
end
def chL (g : Gr) (l : List Spl) (s : Nat) : List Int := (List.range (prS g l s).length).map fun j => ((offA g l s + j : Nat) : Int)
def chP (g : Gr) (l : List Spl) (s i : Nat) : List Int := (List.range i).map fun j => ((offA g l s + j : Nat) : Int)
theorem chP_zero {g : Gr} {l : List Spl} {s : Nat} : chP g l s 0 = [] := rfl
theorem chP_succ {g : Gr} {l : List Spl} {s i : Nat} : chP g l s (i + 1) = chP g l s i ++ [((offA g l s + i : Nat) : Int)] := by simp [chP, List.range_succ]
theorem chP_len {g : Gr} {l : List Spl} {s i : Nat} : (chP g l s i).length = i := by simp [chP]
theorem chP_all {g : Gr} {l : List Spl} {s : Nat} : chP g l s (prS g l s).length = chL g l s := rfl
def asgS (g : Gr) (l : List Spl) (s : Nat) : Nat → List (Int × Nat)
  | 0 => []
  | i + 1 => asgS g l s i ++ ((prS g l s).getD i []).map fun e => (e, offA g l s + i)
def asgA (g : Gr) (l : List Spl) : Nat → List (Int × Nat)
  | 0 => []
  | s + 1 => asgA g l s ++ asgS g l s (prS g l s).length
def asgP (g : Gr) (l : List Spl) (s i q : Nat) : List (Int × Nat) := asgA g l s ++ (asgS g l s i ++ (((prS g l s).getD i []).take q).map fun e => (e, offA g l s + i))
def ownL (a : List (Int × Nat)) (k : Nat) : Int := a.foldl (fun d p => if p.1 = (k : Int) then (p.2 : Int) else d) 0
theorem ownL_nil {k : Nat} : ownL [] k = 0 := rfl
theorem ownL_snoc {a : List (Int × Nat)} {p : Int × Nat} {k : Nat} : ownL (a ++ [p]) k = if p.1 = (k : Int) then (p.2 : Int) else ownL a k := by simp [ownL, List.foldl_append]
theorem asgP_zero {g : Gr} {l : List Spl} {s i : Nat} : asgP g l s i 0 = asgA g l s ++ asgS g l s i := by simp [asgP]
theorem asgP_succ {g : Gr} {l : List Spl} {s i q : Nat} (h : q < ((prS g l s).getD i []).length) : asgP g l s i (q + 1) = asgP g l s i q ++ [(((prS g l s).getD i []).getD q 0, offA g l s + i)] := by
  unfold asgP
  rw [take_next h, List.map_append, ← List.append_assoc, ← List.append_assoc, ← List.append_assoc]
  rfl
theorem asgP_all {g : Gr} {l : List Spl} {s i : Nat} : asgP g l s i ((prS g l s).getD i []).length = asgA g l s ++ asgS g l s (i + 1) := by
  unfold asgP
  rw [List.take_length]
  rfl
theorem asgA_succ {g : Gr} {l : List Spl} {s : Nat} : asgA g l (s + 1) = asgA g l s ++ asgS g l s (prS g l s).length := rfl
def ownE (g : Gr) (l : List Spl) (k : Nat) : Int := ownL (asgA g l g.states.toNat) k
def spE (g : Gr) (l : List Spl) (i : Nat) (c : Int) : Edge := ⟨ownE g l i, (g.edges.getD i de).lab, c⟩
def edA (g : Gr) (l : List Spl) : Nat → List Edge
  | 0 => []
  | i + 1 => edA g l i ++ (chL g l (g.edges.getD i de).to.toNat).map (spE g l i)
def edP (g : Gr) (l : List Spl) (i k : Nat) : List Edge := edA g l i ++ ((chL g l (g.edges.getD i de).to.toNat).take k).map (spE g l i)
theorem edP_zero {g : Gr} {l : List Spl} {i : Nat} : edP g l i 0 = edA g l i := by simp [edP]
theorem edP_succ {g : Gr} {l : List Spl} {i k : Nat} (h : k < (chL g l (g.edges.getD i de).to.toNat).length) : edP g l i (k + 1) = edP g l i k ++ [spE g l i ((chL g l (g.edges.getD i de).to.toNat).getD k 0)] := by
  unfold edP
  rw [take_next h, List.map_append, ← List.append_assoc]
  rfl
theorem edP_all {g : Gr} {l : List Spl} {i : Nat} : edP g l i (chL g l (g.edges.getD i de).to.toNat).length = edA g l (i + 1) := by
  unfold edP
  rw [List.take_length]
  rfl
end Go.Proofs.YthpdkmoedpcboaaGreat
namespace Go.Proofs.YthpdkmoedpcboaaGreat
set_option linter.unusedSimpArgs false
set_option linter.unusedVariables false
open Go Go.Lift
def segS (g : Gr) (v : List Int) (o : List Int) (i j : Nat) : Int := psA g v o j - psA g v o i
def okC (g : Gr) (v : List Int) (m w : Int) (o : List Int) (i j : Nat) : Bool := decide (segS g v o i j % m = 0 ∧ 1 ≤ segS g v o i j / m ∧ segS g v o i j / m < w)
def chI (g : Gr) (v : List Int) (m w : Int) (o : List Int) (j : Nat) : Option Nat := (List.range j).find? fun i => okC g v m w o i j
def chJ (g : Gr) (v : List Int) (m w : Int) (o : List Int) : Nat → Option (Nat × Nat)
  | 0 => none
  | j + 1 => match chJ g v m w o j with
    | some p => some p
    | none => (chI g v m w o (j + 1)).map fun i => (i, j + 1)
def prts (o : List Int) (i j : Nat) : List (List Int) := [(o.drop i).take (j - i), o.take i ++ o.drop j]
def chS (g : Gr) (v : List Int) (m : Int) (s : Nat) : Option Spl := (chJ g v m (v.getD s 0) (outR g s) (outR g s).length).map fun p => ⟨s, prts (outR g s) p.1 p.2⟩
def cRd (g : Gr) (v : List Int) (m : Int) : Nat → List Spl
  | 0 => []
  | s + 1 => cRd g v m s ++ if v.getD s 0 < 2 then [] else (chS g v m s).toList
def cNo (g : Gr) (v : List Int) (m : Int) : Int := if baseN g v m ≠ 0 then baseN g v m else if cRd g v m g.states.toNat = [] then 16 else 0
def cLs (g : Gr) (v : List Int) (m : Int) : List Spl := if baseN g v m = 0 then cRd g v m g.states.toNat else []
section
variable {g : Gr} {v : List Int} {m w : Int} {o : List Int} {i j s : Nat}
theorem cRd_zero : cRd g v m 0 = [] := rfl
theorem cRd_light (h : v.getD s 0 < 2) : cRd g v m (s + 1) = cRd g v m s := by
  show cRd g v m s ++ _ = _
  rw [if_pos h, List.append_nil]
theorem cRd_no (h : ¬ v.getD s 0 < 2) (h2 : chS g v m s = none) : cRd g v m (s + 1) = cRd g v m s := by
  show cRd g v m s ++ _ = _
  rw [if_neg h, h2]; exact List.append_nil _
theorem cRd_yes (h : ¬ v.getD s 0 < 2) {x : Spl} (h2 : chS g v m s = some x) : cRd g v m (s + 1) = cRd g v m s ++ [x] := by
  show cRd g v m s ++ _ = _
  rw [if_neg h, h2]; rfl
theorem cNo_1 (h : baseN g v m ≠ 0) : cNo g v m = baseN g v m ∧ cLs g v m = [] := ⟨if_pos h, if_neg h⟩
theorem cNo_2 (h : baseN g v m = 0) (h2 : cRd g v m g.states.toNat = []) : cNo g v m = 16 ∧ cLs g v m = [] := ⟨by unfold cNo; rw [if_neg (fun h3 => h3 h), if_pos h2], by unfold cLs; rw [if_pos h, h2]⟩
theorem cNo_3 (h : baseN g v m = 0) (h2 : cRd g v m g.states.toNat ≠ []) : cNo g v m = 0 ∧ cLs g v m = cRd g v m g.states.toNat := ⟨by unfold cNo; rw [if_neg (fun h3 => h3 h), if_neg h2], if_pos h⟩
theorem cRd_len : (cRd g v m s).length ≤ s := by
  induction s with
  | zero => exact Nat.le_refl _
  | succ s ih =>
    show (cRd g v m s ++ _).length ≤ _
    rw [List.length_append]
    split
    · simp; omega
    · cases chS g v m s <;> simp <;> omega
theorem chI_none (h : ∀ i, i < j → okC g v m w o i j = false) : chI g v m w o j = none := by
  unfold chI
  rw [List.find?_eq_none]
  intro i hi
  rw [h i (List.mem_range.1 hi)]
  simp
theorem chI_some (hi : i < j) (h : okC g v m w o i j = true) (hn : ∀ k, k < i → okC g v m w o k j = false) : chI g v m w o j = some i := by
  unfold chI
  rw [List.find?_eq_some_iff_getElem]
  refine ⟨h, i, by simpa using hi, by simp, fun k hk => ?_⟩
  simp [hn k hk]
theorem chJ_keep {p : Nat × Nat} (h : chJ g v m w o j = some p) : ∀ d, chJ g v m w o (j + d) = some p
  | 0 => h
  | d + 1 => by
    show (match chJ g v m w o (j + d) with | some p => some p | none => _) = _
    rw [chJ_keep h d]
theorem chJ_ok : ∀ {n : Nat} {p : Nat × Nat}, chJ g v m w o n = some p → p.1 < p.2 ∧ p.2 ≤ n ∧ okC g v m w o p.1 p.2 = true
  | 0, p, h => by cases h
  | n + 1, p, h => by
    cases h1 : chJ g v m w o n with
    | some q =>
      have h2 := chJ_keep h1 1
      rw [h2] at h
      obtain rfl := Option.some.inj h
      obtain ⟨h3, h4, h5⟩ := chJ_ok h1
      exact ⟨h3, by omega, h5⟩
    | none =>
      have h2 : chJ g v m w o (n + 1) = (chI g v m w o (n + 1)).map fun i => (i, n + 1) := by
        show (match chJ g v m w o n with | some p => some p | none => _) = _
        rw [h1]
      rw [h2] at h
      cases h3 : chI g v m w o (n + 1) with
      | none => rw [h3] at h; cases h
      | some i =>
        rw [h3] at h
        obtain rfl := Option.some.inj h
        unfold chI at h3
        have h4 := List.find?_some h3
        exact ⟨List.mem_range.1 (List.mem_of_find?_eq_some h3), Nat.le_refl _, h4⟩
end
def wtE (g : Gr) (v : List Int) (k : Int) : Int := v.getD (g.edges.getD k.toNat de).to.toNat 0
theorem psA_sum {g : Gr} {v p : List Int} : ∀ q, q ≤ p.length → psA g v p q = ((p.take q).map (wtE g v)).sum
  | 0, _ => rfl
  | q + 1, h => by
    rw [psA_succ, psA_sum q (by omega), take_next (by omega), List.map_append, List.sum_append]
    simp [wtE]
theorem psV_sum {g : Gr} {v p : List Int} : psV g v p = (p.map (wtE g v)).sum := by
  unfold psV
  rw [psA_sum _ (Nat.le_refl _), List.take_length]
theorem segS_seg {g : Gr} {v o : List Int} {i j : Nat} (hi : i ≤ j) (hj : j ≤ o.length) : psV g v ((o.drop i).take (j - i)) = segS g v o i j := by
  unfold segS
  rw [psV_sum, psA_sum i (by omega), psA_sum j hj]
  have e : o.take j = o.take i ++ (o.drop i).take (j - i) := by rw [← List.take_append_drop i (o.take j), List.take_take, List.drop_take, Nat.min_eq_left hi]
  rw [e, List.map_append, List.sum_append]
  omega
theorem segS_rest {g : Gr} {v o : List Int} {i j : Nat} (hi : i ≤ j) (hj : j ≤ o.length) : psV g v (o.take i ++ o.drop j) = psV g v o - segS g v o i j := by
  unfold segS
  rw [psV_sum, psV_sum, psA_sum i (by omega), psA_sum j hj, List.map_append, List.sum_append]
  have e : (o.map (wtE g v)).sum = ((o.take j).map (wtE g v)).sum + ((o.drop j).map (wtE g v)).sum := by rw [← List.sum_append, ← List.map_append, List.take_append_drop]
  omega
theorem psV_out {g : Gr} {v : List Int} {s : Nat} : psV g v (outL g s) = sumV g v s := by
  rw [psV_sum]
  unfold outL sumV
  have key : ∀ i, ((outA g (s : Int) i).map (wtE g v)).sum = sumA g v i s := by
    intro i
    induction i with
    | zero => rfl
    | succ i ih =>
      rw [outA_succ, sumA_succ, List.map_append, List.sum_append, ih]
      split
      · simp [wtE]
      · simp
  exact key _
end Go.Proofs.YthpdkmoedpcboaaGreat
