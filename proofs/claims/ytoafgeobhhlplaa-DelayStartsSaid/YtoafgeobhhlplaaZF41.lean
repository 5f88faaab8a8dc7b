/- Parts of the proof: DO. -/
import Derived.Test.YtoafgeobhhlplaaZF40
namespace Go.Proofs.Ytoafgeobhhlplaa
set_option linter.unusedSimpArgs false
set_option linter.unusedVariables false
open Go Go.Lift
def idxB : Nat → List (Rc × List Rc) → List (Rc × (Nat × Nat))
  | _, [] => []
  | n, (y, l) :: B => (y, (n, l.length)) :: idxB (n + 1) B
def rowB (B : List (Rc × List Rc)) (i : Nat) : Option HObj := (B[i]?).map fun p => .arr p.2.length 2 (fun y => rcF (p.2.getD y dRc))
theorem idx_keys : ∀ {B : List (Rc × List Rc)} {n : Nat}, (idxB n B).map (·.1) = B.map (·.1)
  | [], _ => rfl
  | (y, l) :: B, n => by
    show y :: (idxB (n + 1) B).map (·.1) = y :: B.map (·.1)
    rw [idx_keys]
theorem idx_none {y : Rc} : ∀ {B : List (Rc × List Rc)} {n : Nat}, alGet (idxB n B) y = none ↔ alGet B y = none
  | [], _ => by simp [idxB, alGet]
  | (a, l) :: B, n => by
    show (if y = a then _ else alGet (idxB (n + 1) B) y) = none ↔ (if y = a then _ else alGet B y) = none
    by_cases h : y = a
    · rw [if_pos h, if_pos h]; simp
    · rw [if_neg h, if_neg h]; exact idx_none
theorem idx_some {y : Rc} {l : List Rc} : ∀ {B : List (Rc × List Rc)} {n : Nat}, alGet B y = some l → ∃ r, r < B.length ∧ B[r]? = some (y, l) ∧ alGet (idxB n B) y = some (n + r, l.length)
  | [], _, h => by cases h
  | (a, m) :: B, n, h => by
    simp only [alGet] at h
    by_cases e : y = a
    · rw [if_pos e] at h
      cases h
      refine ⟨0, by simp, by simp [e], ?_⟩
      show (if y = a then some (n, l.length) else _) = _
      rw [if_pos e]; rfl
    · rw [if_neg e] at h
      obtain ⟨r, h1, h2, h3⟩ := idx_some (n := n + 1) h
      refine ⟨r + 1, by simpa using h1, by simpa using h2, ?_⟩
      show (if y = a then _ else alGet (idxB (n + 1) B) y) = _
      rw [if_neg e, h3]
      congr 2; omega
theorem idx_new {y x : Rc} {B : List (Rc × List Rc)} (h : alGet B y = none) : bPut B y x = B ++ [(y, [x])] ∧ ∀ n, idxB n (bPut B y x) = alPut (idxB n B) y (n + B.length, 1) := by
  have e : bPut B y x = alPut B y [x] := by unfold bPut; rw [h]; rfl
  rw [e]
  clear e
  induction B with
  | nil => exact ⟨rfl, fun n => rfl⟩
  | cons p B ih =>
    obtain ⟨a, l⟩ := p
    simp only [alGet] at h
    by_cases e : y = a
    · rw [if_pos e] at h; cases h
    · rw [if_neg e] at h
      obtain ⟨h1, h2⟩ := ih h
      simp only [alPut, if_neg e]
      refine ⟨by rw [h1]; rfl, fun n => ?_⟩
      show (a, (n, l.length)) :: idxB (n + 1) (alPut B y [x]) = (if y = a then _ else (a, (n, l.length)) :: alPut (idxB (n + 1) B) y (n + (B.length + 1), 1))
      rw [if_neg e, h2, show n + 1 + B.length = n + (B.length + 1) by omega]
theorem idx_old {y x : Rc} {l : List Rc} {B : List (Rc × List Rc)} {r : Nat} (hb : (B.map (·.1)).Nodup) (h : alGet B y = some l) (hr : B[r]? = some (y, l)) : bPut B y x = B.set r (y, l ++ [x]) ∧ ∀ n, idxB n (bPut B y x) = alPut (idxB n B) y (n + r, l.length + 1) := by
  have e : bPut B y x = alPut B y (l ++ [x]) := by unfold bPut; rw [h]; rfl
  rw [e]
  clear e
  induction B generalizing r with
  | nil => cases h
  | cons p B ih =>
    obtain ⟨a, m⟩ := p
    rw [List.map_cons, List.nodup_cons] at hb
    simp only [alGet] at h
    by_cases e : y = a
    · subst e
      rw [if_pos rfl] at h
      cases h
      have hr0 : r = 0 := by
        rcases Nat.eq_zero_or_pos r with h0 | h0
        · exact h0
        · exfalso
          obtain ⟨k, rfl⟩ : ∃ k, r = k + 1 := ⟨r - 1, by omega⟩
          rw [List.getElem?_cons_succ] at hr
          exact hb.1 (List.mem_map.2 ⟨_, List.mem_of_getElem? hr, rfl⟩)
      subst hr0
      simp only [alPut, if_true]
      refine ⟨rfl, fun n => ?_⟩
      show (y, (n, (l ++ [x]).length)) :: idxB (n + 1) B = (if y = y then (y, (n + 0, l.length + 1)) :: idxB (n + 1) B else _)
      rw [if_pos rfl, List.length_append]; rfl
    · rw [if_neg e] at h
      obtain ⟨k, rfl⟩ : ∃ k, r = k + 1 := ⟨r - 1, by
        rcases Nat.eq_zero_or_pos r with h0 | h0
        · subst h0
          rw [List.getElem?_cons_zero] at hr
          injection hr with hr
          exact absurd (congrArg Prod.fst hr).symm e
        · omega⟩
      rw [List.getElem?_cons_succ] at hr
      obtain ⟨h1, h2⟩ := ih hb.2 h hr
      simp only [alPut, if_neg e]
      refine ⟨by rw [h1]; rfl, fun n => ?_⟩
      show (a, (n, m.length)) :: idxB (n + 1) (alPut B y (l ++ [x])) = (if y = a then _ else (a, (n, m.length)) :: alPut (idxB (n + 1) B) y (n + (k + 1), l.length + 1))
      rw [if_neg e, h2, show n + 1 + k = n + (k + 1) by omega]
end Go.Proofs.Ytoafgeobhhlplaa
