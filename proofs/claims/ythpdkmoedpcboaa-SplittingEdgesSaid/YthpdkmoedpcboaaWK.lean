/-
  For the walk of Apply: the split of a state as it is found; the children as they are made.
-/
import Derived.Test.YthpdkmoedpcboaaWJ
namespace Go.Proofs.Ythpdkmoedpcboaa
set_option linter.unusedSimpArgs false
set_option linter.unusedVariables false
open Go Go.Lift Go.Proofs
/-- the split of a state is the one that is found. -/
theorem place_split {l : List Spl} {s : Nat} : (∃ k, k < l.length ∧ placeG l (fun x => decide (x.st = (s : Int))) = k ∧ splO l s = some (l.getD k ds)) ∨ (placeG l (fun x => decide (x.st = (s : Int))) = -1 ∧ splO l s = none) := by
  unfold placeG
  by_cases h : (l.any fun x => decide (x.st = (s : Int))) = true
  · left
    rw [if_pos h]
    have hlt : l.findIdx (fun x => decide (x.st = (s : Int))) < l.length := List.findIdx_lt_length.2 (by
      obtain ⟨x, hx, hq⟩ := List.any_eq_true.1 h
      exact ⟨x, hx, hq⟩)
    refine ⟨_, hlt, rfl, splO_hit hlt ?_ fun j hj => ?_⟩
    · rw [getD_get hlt]
      simpa using List.findIdx_getElem (xs := l) (p := fun x => decide (x.st = (s : Int))) (w := hlt)
    · rw [getD_get (by omega)]
      have := List.not_of_lt_findIdx hj
      simpa using this
  · right
    rw [if_neg h]
    refine ⟨rfl, splO_none fun j hj e => h (List.any_eq_true.2 ⟨_, getD_mem (d := ds) hj, by simpa using e⟩)⟩
def chAt (g : Gr) (l : List Spl) (s j : Nat) : List Int := if j < s then chL g l j else []
def chAtP (g : Gr) (l : List Spl) (s i j : Nat) : List Int := if j < s then chL g l j else if j = s then chP g l s i else []
section
variable {g : Gr} {l : List Spl} {s i j : Nat}
theorem chAt_zero : chAt g l 0 j = [] := if_neg (Nat.not_lt_zero _)
theorem chAtP_zero : chAtP g l s 0 j = chAt g l s j := by
  unfold chAtP chAt
  rw [chP_zero]
  split <;> first | rfl | (split <;> rfl)
theorem chAtP_succ : chAtP g l s (i + 1) j = if j = s then chAtP g l s i s ++ [((offA g l s + i : Nat) : Int)] else chAtP g l s i j := by
  unfold chAtP
  by_cases h : j = s
  · subst h
    rw [if_neg (Nat.lt_irrefl _), if_pos rfl, if_pos rfl, if_neg (Nat.lt_irrefl _), if_pos rfl, chP_succ]
  · simp only [if_neg h]
theorem chAtP_all : chAtP g l s (prS g l s).length j = chAt g l (s + 1) j := by
  unfold chAtP chAt
  by_cases h : j < s
  · rw [if_pos h, if_pos (by omega)]
  · rw [if_neg h]
    by_cases h2 : j = s
    · subst h2; rw [if_pos rfl, if_pos (by omega), chP_all]
    · rw [if_neg h2, if_neg (by omega)]
theorem chAt_all (h : j < s) : chAt g l s j = chL g l j := if_pos h
end
theorem parA_zero {g : Gr} {l : List Spl} : parA g l 0 = [] := rfl
theorem hvA_zero {g : Gr} {v : List Int} {m : Int} {l : List Spl} : hvA g v m l 0 = [] := rfl
theorem asgA_zero {g : Gr} {l : List Spl} : asgA g l 0 = [] := rfl
theorem asgS_zero {g : Gr} {l : List Spl} {s : Nat} : asgS g l s 0 = [] := rfl
/-- the parts of a state have edges of the graph. -/
theorem prS_box {g : Gr} {v : List Int} {m : Int} {l : List Spl} (hr : RndOK l) (h : rndN g v m l = 0) {s : Nat} (hs : (s : Int) < g.states) : ∀ p ∈ prS g l s, ∀ e ∈ p, 0 ≤ e ∧ e < (g.edges.length : Int) := by
  intro p hp e he
  unfold prS at hp
  cases hsp : splO l s with
  | some x =>
    rw [hsp] at hp
    exact (rnd_spl hr h (splO_some hsp).1).1.box p hp e he
  | none =>
    rw [hsp] at hp
    have := List.mem_singleton.1 hp
    subst this
    have hv := (vecN_zero (eigN_zero (baseN_zero (rnd_zero h).1).1).1).1
    rw [(out_3 hv (by omega)).1] at he
    obtain ⟨j, hj, rfl, _⟩ := outA_mem.1 he
    omega
theorem prS_len {g : Gr} {l : List Spl} (hr : RndOK l) (hv : gcheck g = 0) {s : Nat} (hs : (s : Int) < g.states) : (prS g l s).length ≤ 900 ∧ ∀ p ∈ prS g l s, p.length ≤ 1024 := by
  unfold prS
  cases hsp : splO l s with
  | some x => exact ⟨hr.num x (splO_some hsp).1, hr.part x (splO_some hsp).1⟩
  | none =>
    refine ⟨by simp, fun p hp => ?_⟩
    have := List.mem_singleton.1 hp
    subst this
    rw [(out_3 hv (by omega)).1]
    have h1 := outA_len (g := g) (s := (s : Int)) g.edges.length
    have h2 := (gcheck_valid hv).1.ed
    unfold outL
    omega
end Go.Proofs.Ythpdkmoedpcboaa
