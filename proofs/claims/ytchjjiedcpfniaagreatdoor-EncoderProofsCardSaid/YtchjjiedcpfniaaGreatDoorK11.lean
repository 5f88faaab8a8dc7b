/- Parts of the proof: NA. -/
import Derived.Test.YtchjjiedcpfniaaGreatDoorK10
namespace Go.Proofs.YtchjjiedcpfniaaGreatDoor
set_option linter.unusedSimpArgs false
set_option linter.unusedVariables false
open Go Go.Lift
def sumA (g : Gr) (v : List Int) : Nat → Nat → Int
  | 0, _ => 0
  | i + 1, s => sumA g v i s + if (g.edges.getD i de).frm = (s : Int) then v.getD (g.edges.getD i de).to.toNat 0 else 0
def sumV (g : Gr) (v : List Int) (s : Nat) : Int := sumA g v g.edges.length s
theorem sumA_succ {g : Gr} {v : List Int} {i s : Nat} : sumA g v (i + 1) s = sumA g v i s + if (g.edges.getD i de).frm = (s : Int) then v.getD (g.edges.getD i de).to.toNat 0 else 0 := rfl
def badV (n : Int) : Bool := decide (n < 0 ∨ 4096 < n)
def BoxV (v : List Int) : Prop := ∀ n ∈ v, 0 ≤ n ∧ n ≤ 4096
theorem box_of {v : List Int} (h : v.any badV = false) : BoxV v := fun n hn => by
  have := List.any_eq_false.1 h n hn
  simp only [badV, decide_eq_true_eq] at this
  omega
theorem box_at {v : List Int} (h : BoxV v) (k : Nat) : 0 ≤ v.getD k 0 ∧ v.getD k 0 ≤ 4096 := by
  by_cases hk : k < v.length
  · exact h _ (getD_mem hk)
  · simp [List.getD, List.getElem?_eq_none (Nat.le_of_not_lt hk)]
theorem sumA_box {g : Gr} {v : List Int} (h : BoxV v) {s : Nat} : ∀ i, 0 ≤ sumA g v i s ∧ sumA g v i s ≤ i * 4096
  | 0 => by simp [sumA]
  | i + 1 => by
    have h1 := sumA_box h (g := g) (s := s) i
    have h2 := box_at h (g.edges.getD i de).to.toNat
    rw [sumA_succ]
    split <;> omega
def vecN (g : Gr) (v : List Int) (m : Int) : Int :=
  if gcheck g ≠ 0 then 1 else if m < 1 ∨ 256 < m then 2 else if (v.length : Int) ≠ g.states then 11 else if v.any badV = true then 2 else 0
theorem vecN_zero {g : Gr} {v : List Int} {m : Int} (h : vecN g v m = 0) : gcheck g = 0 ∧ (1 ≤ m ∧ m ≤ 256) ∧ (v.length : Int) = g.states ∧ BoxV v := by
  unfold vecN at h
  split at h
  · cases h
  · rename_i h1
    split at h
    · cases h
    · rename_i h2
      split at h
      · cases h
      · rename_i h3
        split at h
        · cases h
        · rename_i h4
          exact ⟨Classical.byContradiction h1, by omega, Classical.byContradiction h3, box_of (by simpa using h4)⟩
def lowS (g : Gr) (v : List Int) (m : Int) : Bool := (List.range g.states.toNat).any fun s => decide (sumV g v s < m * v.getD s 0)
def eigN (g : Gr) (v : List Int) (m : Int) : Int := if vecN g v m ≠ 0 then vecN g v m else if v.all (fun n => decide (n = 0)) = true then 5 else if lowS g v m = true then 23 else 0
def baseN (g : Gr) (v : List Int) (m : Int) : Int := if eigN g v m ≠ 0 then eigN g v m else if hasI v 0 = true then 2 else 0
theorem eigN_zero {g : Gr} {v : List Int} {m : Int} (h : eigN g v m = 0) : vecN g v m = 0 ∧ v.all (fun n => decide (n = 0)) = false ∧ lowS g v m = false := by
  unfold eigN at h
  split at h
  · rename_i h1; exact absurd h h1
  · rename_i h1
    split at h
    · cases h
    · rename_i h2
      split at h
      · cases h
      · rename_i h3
        exact ⟨Classical.byContradiction h1, by simpa using h2, by simpa using h3⟩
theorem baseN_zero {g : Gr} {v : List Int} {m : Int} (h : baseN g v m = 0) : eigN g v m = 0 ∧ ∀ n ∈ v, 1 ≤ n ∧ n ≤ 4096 := by
  unfold baseN at h
  split at h
  · rename_i h1; exact absurd h h1
  · rename_i h1
    split at h
    · cases h
    · rename_i h2
      have h3 : eigN g v m = 0 := Classical.byContradiction h1
      refine ⟨h3, fun n hn => ?_⟩
      have h4 := (vecN_zero (eigN_zero h3).1).2.2.2 n hn
      have h5 : ¬ n = 0 := fun e => h2 (decide_eq_true (e ▸ hn))
      omega
theorem low_yes {g : Gr} {v : List Int} {m : Int} {s : Nat} (hs : (s : Int) < g.states) (h : sumV g v s < m * v.getD s 0) : lowS g v m = true :=
  List.any_eq_true.2 ⟨s, List.mem_range.2 (by omega), by simpa using h⟩
theorem low_no {g : Gr} {v : List Int} {m : Int} (h : ∀ s : Nat, (s : Int) < g.states → ¬ sumV g v s < m * v.getD s 0) : lowS g v m = false :=
  List.any_eq_false.2 fun s hs => by
    have := List.mem_range.1 hs
    simpa using h s (by omega)
def sumsL (g : Gr) (v : List Int) : List Int := (List.range g.states.toNat).map (sumV g v)
theorem sumsL_len {g : Gr} {v : List Int} : (sumsL g v).length = g.states.toNat := by simp [sumsL]
theorem sumsL_at {g : Gr} {v : List Int} {s : Nat} (h : (s : Int) < g.states) : (sumsL g v).getD s 0 = sumV g v s := by simp [sumsL, List.getD, show s < g.states.toNat by omega]
theorem mulV_box {m x : Int} (hm : 1 ≤ m ∧ m ≤ 256) (hx : 0 ≤ x ∧ x ≤ 4096) : 0 ≤ m * x ∧ m * x ≤ 1048576 := by
  refine ⟨Int.mul_nonneg (by omega) hx.1, ?_⟩
  have h1 := Int.mul_le_mul_of_nonneg_right hm.2 hx.1
  have h2 := Int.mul_le_mul_of_nonneg_left hx.2 (show (0 : Int) ≤ 256 by omega)
  omega
theorem vecN_1 {g : Gr} {v : List Int} {m : Int} (h : gcheck g ≠ 0) : vecN g v m = 1 := if_pos h
theorem vecN_2 {g : Gr} {v : List Int} {m : Int} (h : gcheck g = 0) (h2 : m < 1 ∨ 256 < m) : vecN g v m = 2 := by unfold vecN; rw [if_neg (fun h3 => h3 h), if_pos h2]
theorem vecN_3 {g : Gr} {v : List Int} {m : Int} (h : gcheck g = 0) (h2 : 1 ≤ m ∧ m ≤ 256) (h3 : (v.length : Int) ≠ g.states) : vecN g v m = 11 := by unfold vecN; rw [if_neg (fun h3 => h3 h), if_neg (by omega), if_pos h3]
theorem vecN_4 {g : Gr} {v : List Int} {m : Int} (h : gcheck g = 0) (h2 : 1 ≤ m ∧ m ≤ 256) (h3 : (v.length : Int) = g.states) : vecN g v m = if v.any badV = true then 2 else 0 := by unfold vecN; rw [if_neg (fun h3 => h3 h), if_neg (by omega), if_neg (fun h4 => h4 h3)]
theorem eigN_1 {g : Gr} {v : List Int} {m : Int} (h : vecN g v m ≠ 0) : eigN g v m = vecN g v m := if_pos h
theorem eigN_2 {g : Gr} {v : List Int} {m : Int} (h : vecN g v m = 0) (h2 : (v.all fun n => decide (n = 0)) = true) : eigN g v m = 5 := by unfold eigN; rw [if_neg (fun h3 => h3 h), if_pos h2]
theorem eigN_3 {g : Gr} {v : List Int} {m : Int} (h : vecN g v m = 0) (h2 : (v.all fun n => decide (n = 0)) = false) : eigN g v m = if lowS g v m = true then 23 else 0 := by unfold eigN; rw [if_neg (fun h3 => h3 h), if_neg (by rw [h2]; simp)]
theorem baseN_1 {g : Gr} {v : List Int} {m : Int} (h : eigN g v m ≠ 0) : baseN g v m = eigN g v m := if_pos h
theorem baseN_2 {g : Gr} {v : List Int} {m : Int} (h : eigN g v m = 0) : baseN g v m = if hasI v 0 = true then 2 else 0 := by unfold baseN; rw [if_neg (fun h3 => h3 h)]
def outA (g : Gr) (s : Int) : Nat → List Int
  | 0 => []
  | i + 1 => outA g s i ++ if (g.edges.getD i de).frm = s then [(i : Int)] else []
def outL (g : Gr) (s : Int) : List Int := outA g s g.edges.length
theorem outA_zero {g : Gr} {s : Int} : outA g s 0 = [] := rfl
theorem outA_succ {g : Gr} {s : Int} {i : Nat} : outA g s (i + 1) = outA g s i ++ if (g.edges.getD i de).frm = s then [(i : Int)] else [] := rfl
theorem outA_len {g : Gr} {s : Int} : ∀ i, (outA g s i).length ≤ i
  | 0 => Nat.le_refl _
  | i + 1 => by
    have := outA_len (g := g) (s := s) i
    rw [outA_succ, List.length_append]
    split <;> simp <;> omega
theorem outA_mem {g : Gr} {s : Int} : ∀ {i : Nat} {k : Int}, k ∈ outA g s i ↔ ∃ j : Nat, j < i ∧ k = j ∧ (g.edges.getD j de).frm = s
  | 0, k => by simp [outA]
  | i + 1, k => by
    rw [outA_succ, List.mem_append, outA_mem]
    constructor
    · rintro (⟨j, h1, h2, h3⟩ | h)
      · exact ⟨j, by omega, h2, h3⟩
      · split at h
        · rename_i h2; exact ⟨i, by omega, List.mem_singleton.1 h, h2⟩
        · cases h
    · rintro ⟨j, h1, h2, h3⟩
      by_cases h : j < i
      · exact .inl ⟨j, h, h2, h3⟩
      · obtain rfl : j = i := by omega
        rw [if_pos h3]
        exact .inr (List.mem_singleton.2 h2)
def outN (g : Gr) (s : Int) : Int := if gcheck g ≠ 0 then 1 else if s < 0 ∨ g.states ≤ s then 25 else 0
def outR (g : Gr) (s : Int) : List Int := if outN g s = 0 then outL g s else []
theorem out_1 {g : Gr} {s : Int} (h : gcheck g ≠ 0) : outR g s = [] ∧ outN g s = 1 := by
  have : outN g s = 1 := if_pos h
  unfold outR; rw [this]; exact ⟨rfl, rfl⟩
theorem out_2 {g : Gr} {s : Int} (h : gcheck g = 0) (h2 : s < 0 ∨ g.states ≤ s) : outR g s = [] ∧ outN g s = 25 := by
  have : outN g s = 25 := by unfold outN; rw [if_neg (fun h3 => h3 h), if_pos h2]
  unfold outR; rw [this]; exact ⟨rfl, rfl⟩
theorem out_3 {g : Gr} {s : Int} (h : gcheck g = 0) (h2 : 0 ≤ s ∧ s < g.states) : outR g s = outL g s ∧ outN g s = 0 := by
  have : outN g s = 0 := by unfold outN; rw [if_neg (fun h3 => h3 h), if_neg (by omega)]
  unfold outR; rw [this]; exact ⟨rfl, rfl⟩
end Go.Proofs.YtchjjiedcpfniaaGreatDoor
