/-
  A round applied: the children of the states, their weights and parents, the child from which an edge starts, the edges of the split graph. In the order in which the program and the reference make them.
-/
import Derived.Test.YthpdkmoedpcboaaNB
namespace Go.Proofs.Ythpdkmoedpcboaa
set_option linter.unusedSimpArgs false
set_option linter.unusedVariables false
open Go Go.Lift

theorem take_next {l : List Int} {q : Nat} (h : q < l.length) : l.take (q + 1) = l.take q ++ [l.getD q 0] := by
  rw [List.take_add_one, List.getElem?_eq_getElem h]
  simp [List.getD, h]
/-- the split of a state. -/
def splO (l : List Spl) (s : Nat) : Option Spl := l.find? fun x => decide (x.st = (s : Int))
def prS (g : Gr) (l : List Spl) (s : Nat) : List (List Int) := match splO l s with
  | some x => x.parts
  | none => [outR g s]
def wsS (g : Gr) (v : List Int) (m : Int) (l : List Spl) (s : Nat) : List Int := match splO l s with
  | some x => wtL g v m x
  | none => [v.getD s 0]
theorem splO_hit {l : List Spl} {s k : Nat} (hk : k < l.length) (h : (l.getD k ds).st = s) (hn : ∀ j, j < k → (l.getD j ds).st ≠ s) : splO l s = some (l.getD k ds) := by
  unfold splO
  rw [List.find?_eq_some_iff_getElem]
  have e : l.getD k ds = l[k] := by simp [List.getD, hk]
  refine ⟨by simpa using h, k, hk, e.symm, fun j hj => ?_⟩
  have := hn j hj
  simp only [List.getD, List.getElem?_eq_getElem (show j < l.length by omega), Option.getD_some] at this
  simpa using this
theorem splO_none {l : List Spl} {s : Nat} (hn : ∀ j, j < l.length → (l.getD j ds).st ≠ s) : splO l s = none := by
  unfold splO
  rw [List.find?_eq_none]
  intro x hx
  obtain ⟨j, hj, rfl⟩ := List.mem_iff_getElem.1 hx
  have := hn j hj
  simp only [List.getD, List.getElem?_eq_getElem hj, Option.getD_some] at this
  simpa using this
theorem wsS_len {g : Gr} {v : List Int} {m : Int} {l : List Spl} {s : Nat} : (wsS g v m l s).length = (prS g l s).length := by
  unfold wsS prS
  cases splO l s with
  | none => rfl
  | some x => exact wtL_len
/-- how many children the first states have. -/
def offA (g : Gr) (l : List Spl) : Nat → Nat
  | 0 => 0
  | s + 1 => offA g l s + (prS g l s).length
theorem offA_zero {g : Gr} {l : List Spl} : offA g l 0 = 0 := rfl
theorem offA_succ {g : Gr} {l : List Spl} {s : Nat} : offA g l (s + 1) = offA g l s + (prS g l s).length := rfl
/-- the parents and the weights of the children of the first states, and of the first children of the next one. -/
def parA (g : Gr) (l : List Spl) : Nat → List Int
  | 0 => []
  | s + 1 => parA g l s ++ List.replicate (prS g l s).length (s : Int)
def parP (g : Gr) (l : List Spl) (s i : Nat) : List Int := parA g l s ++ List.replicate i (s : Int)
def hvA (g : Gr) (v : List Int) (m : Int) (l : List Spl) : Nat → List Int
  | 0 => []
  | s + 1 => hvA g v m l s ++ wsS g v m l s
def hvP (g : Gr) (v : List Int) (m : Int) (l : List Spl) (s i : Nat) : List Int := hvA g v m l s ++ (wsS g v m l s).take i
section
variable {g : Gr} {v : List Int} {m : Int} {l : List Spl} {s i : Nat}
theorem parA_len : ∀ s, (parA g l s).length = offA g l s
  | 0 => rfl
  | s + 1 => by simp [parA, offA, parA_len s]
theorem parP_zero : parP g l s 0 = parA g l s := by simp [parP]
theorem parP_succ : parP g l s (i + 1) = parP g l s i ++ [(s : Int)] := by unfold parP; rw [List.replicate_succ', List.append_assoc]
theorem parP_all : parP g l s (prS g l s).length = parA g l (s + 1) := rfl
theorem parP_len : (parP g l s i).length = offA g l s + i := by simp [parP, parA_len]
theorem hvA_len : ∀ s, (hvA g v m l s).length = offA g l s
  | 0 => rfl
  | s + 1 => by simp [hvA, offA, hvA_len s, wsS_len]
theorem hvP_zero : hvP g v m l s 0 = hvA g v m l s := by simp [hvP]
theorem hvP_succ (h : i < (prS g l s).length) : hvP g v m l s (i + 1) = hvP g v m l s i ++ [(wsS g v m l s).getD i 0] := by
  have h2 : i < (wsS g v m l s).length := by rw [wsS_len]; exact h
  unfold hvP
  generalize wsS g v m l s = W at h2
  rw [List.take_add_one, List.getElem?_eq_getElem h2, List.append_assoc]
  simp [List.getD, h2]
theorem hvP_all : hvP g v m l s (prS g l s).length = hvA g v m l (s + 1) := by unfold hvP; rw [← wsS_len (v := v) (m := m), List.take_length]; rfl
theorem hvP_len (h : i ≤ (prS g l s).length) : (hvP g v m l s i).length = offA g l s + i := by
  unfold hvP
  rw [List.length_append, List.length_take, wsS_len, hvA_len]
  omega
end
/-- the children of a state. -/
def chL (g : Gr) (l : List Spl) (s : Nat) : List Int := (List.range (prS g l s).length).map fun j => ((offA g l s + j : Nat) : Int)
def chP (g : Gr) (l : List Spl) (s i : Nat) : List Int := (List.range i).map fun j => ((offA g l s + j : Nat) : Int)
theorem chP_zero {g : Gr} {l : List Spl} {s : Nat} : chP g l s 0 = [] := rfl
theorem chP_succ {g : Gr} {l : List Spl} {s i : Nat} : chP g l s (i + 1) = chP g l s i ++ [((offA g l s + i : Nat) : Int)] := by simp [chP, List.range_succ]
theorem chP_len {g : Gr} {l : List Spl} {s i : Nat} : (chP g l s i).length = i := by simp [chP]
theorem chP_all {g : Gr} {l : List Spl} {s : Nat} : chP g l s (prS g l s).length = chL g l s := rfl
/-- which child each edge is given to: in order, the last one counts. -/
def asgS (g : Gr) (l : List Spl) (s : Nat) : Nat → List (Int × Nat)
  | 0 => []
  | i + 1 => asgS g l s i ++ ((prS g l s).getD i []).map fun e => (e, offA g l s + i)
def asgA (g : Gr) (l : List Spl) : Nat → List (Int × Nat)
  | 0 => []
  | s + 1 => asgA g l s ++ asgS g l s (prS g l s).length
def asgP (g : Gr) (l : List Spl) (s i q : Nat) : List (Int × Nat) := asgA g l s ++ (asgS g l s i ++ (((prS g l s).getD i []).take q).map fun e => (e, offA g l s + i))
def ownL (a : List (Int × Nat)) (k : Nat) : Int := a.foldl (fun d p => if p.1 = (k : Int) then (p.2 : Int) else d) 0
theorem ownL_nil {k : Nat} : ownL [] k = 0 := rfl
theorem ownL_snoc {a : List (Int × Nat)} {p : Int × Nat} {k : Nat} : ownL (a ++ [p]) k = if p.1 = (k : Int) then (p.2 : Int) else ownL a k := by simp [ownL, List.foldl_append]
theorem asgP_zero {g : Gr} {l : List Spl} {s i : Nat} : asgP g l s i 0 = asgA g l s ++ asgS g l s i := by simp [asgP]
theorem asgP_succ {g : Gr} {l : List Spl} {s i q : Nat} (h : q < ((prS g l s).getD i []).length) : asgP g l s i (q + 1) = asgP g l s i q ++ [(((prS g l s).getD i []).getD q 0, offA g l s + i)] := by
  unfold asgP
  rw [take_next h, List.map_append, ← List.append_assoc, ← List.append_assoc, ← List.append_assoc]
  rfl
theorem asgP_all {g : Gr} {l : List Spl} {s i : Nat} : asgP g l s i ((prS g l s).getD i []).length = asgA g l s ++ asgS g l s (i + 1) := by
  unfold asgP
  rw [List.take_length]
  rfl
theorem asgA_succ {g : Gr} {l : List Spl} {s : Nat} : asgA g l (s + 1) = asgA g l s ++ asgS g l s (prS g l s).length := rfl
def ownE (g : Gr) (l : List Spl) (k : Nat) : Int := ownL (asgA g l g.states.toNat) k
/-- the edges of the split graph: those of the first edges, and the first of the next one. -/
def spE (g : Gr) (l : List Spl) (i : Nat) (c : Int) : Edge := ⟨ownE g l i, (g.edges.getD i de).lab, c⟩
def edA (g : Gr) (l : List Spl) : Nat → List Edge
  | 0 => []
  | i + 1 => edA g l i ++ (chL g l (g.edges.getD i de).to.toNat).map (spE g l i)
def edP (g : Gr) (l : List Spl) (i k : Nat) : List Edge := edA g l i ++ ((chL g l (g.edges.getD i de).to.toNat).take k).map (spE g l i)
theorem edP_zero {g : Gr} {l : List Spl} {i : Nat} : edP g l i 0 = edA g l i := by simp [edP]
theorem edP_succ {g : Gr} {l : List Spl} {i k : Nat} (h : k < (chL g l (g.edges.getD i de).to.toNat).length) : edP g l i (k + 1) = edP g l i k ++ [spE g l i ((chL g l (g.edges.getD i de).to.toNat).getD k 0)] := by
  unfold edP
  rw [take_next h, List.map_append, ← List.append_assoc]
  rfl
theorem edP_all {g : Gr} {l : List Spl} {i : Nat} : edP g l i (chL g l (g.edges.getD i de).to.toNat).length = edA g l (i + 1) := by
  unfold edP
  rw [List.take_length]
  rfl
end Go.Proofs.Ythpdkmoedpcboaa
