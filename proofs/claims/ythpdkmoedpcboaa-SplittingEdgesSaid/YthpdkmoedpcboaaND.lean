/-
  Facts about a round that is applied: the weights of the children of a state add up to its weight; each edge starts from the child in whose part it is.
-/
import Derived.Test.YthpdkmoedpcboaaNC
namespace Go.Proofs.Ythpdkmoedpcboaa
set_option linter.unusedSimpArgs false
set_option linter.unusedVariables false
open Go Go.Lift

theorem wtA_sum {g : Gr} {v : List Int} {m : Int} {x : Spl} : ∀ i, (wtA g v m x i).sum = v.getD x.st.toNat 0 - lfA g v m x i
  | 0 => by simp [wtA, lfA]
  | i + 1 => by
    rw [wtA_succ, List.sum_append, wtA_sum i, lfA_succ]
    simp only [List.sum_cons, List.sum_nil]
    omega
theorem wtL_sum {g : Gr} {v : List Int} {m : Int} {x : Spl} (h : 0 < x.parts.length) : (wtL g v m x).sum = v.getD x.st.toNat 0 := by
  unfold wtL
  rw [wtA_sum]
  have e : lfA g v m x x.parts.length = 0 := by
    have h1 : x.parts.length = (x.parts.length - 1) + 1 := by omega
    rw [h1, lfA_succ]
    have h2 : wtI g v m x (x.parts.length - 1) = lfA g v m x (x.parts.length - 1) := if_pos (by omega)
    rw [h2]; omega
  rw [e]; omega
theorem splO_some {l : List Spl} {s : Nat} {x : Spl} (h : splO l s = some x) : x ∈ l ∧ x.st = s := by
  unfold splO at h
  exact ⟨List.mem_of_find?_eq_some h, by simpa using List.find?_some h⟩
/-- WEIGHTS: those of the children of a state add up to its weight. -/
theorem wsS_sum {g : Gr} {v : List Int} {m : Int} {l : List Spl} {s : Nat} (h : ∀ x ∈ l, 0 < x.parts.length) : (wsS g v m l s).sum = v.getD s 0 := by
  unfold wsS
  cases hs : splO l s with
  | none => simp
  | some x =>
    obtain ⟨h1, h2⟩ := splO_some hs
    show (wtL g v m x).sum = _
    rw [wtL_sum (h x h1), h2, Int.toNat_natCast]
theorem ownF_out {k : Nat} : ∀ {a : List (Int × Nat)} {d : Int}, (∀ p ∈ a, p.1 ≠ (k : Int)) → a.foldl (fun d p => if p.1 = (k : Int) then (p.2 : Int) else d) d = d
  | [], d, _ => rfl
  | p :: a, d, h => by
    rw [List.foldl_cons, if_neg (h p (List.mem_cons_self ..))]
    exact ownF_out fun q hq => h q (List.mem_cons_of_mem _ hq)
theorem ownF_mem {k c : Nat} : ∀ {a : List (Int × Nat)} {d : Int}, (a.map (·.1)).Nodup → ((k : Int), c) ∈ a → a.foldl (fun d p => if p.1 = (k : Int) then (p.2 : Int) else d) d = c
  | p :: a, d, hn, h => by
    rw [List.map_cons, List.nodup_cons] at hn
    rw [List.foldl_cons]
    rcases List.mem_cons.1 h with h | h
    · subst h
      rw [if_pos rfl]
      exact ownF_out fun q hq e => hn.1 (List.mem_map.2 ⟨q, hq, e⟩)
    · exact ownF_mem hn.2 h
/-- each edge starts from the child that it is given to. -/
theorem ownL_mem {a : List (Int × Nat)} {k c : Nat} (hn : (a.map (·.1)).Nodup) (h : ((k : Int), c) ∈ a) : ownL a k = c := ownF_mem hn h
theorem asgS_mem {g : Gr} {l : List Spl} {s : Nat} : ∀ {i : Nat} {p : Int × Nat}, p ∈ asgS g l s i ↔ ∃ j, j < i ∧ p.1 ∈ (prS g l s).getD j [] ∧ p.2 = offA g l s + j
  | 0, p => by simp [asgS]
  | i + 1, p => by
    unfold asgS
    rw [List.mem_append, asgS_mem, List.mem_map]
    constructor
    · rintro (⟨j, h1, h2, h3⟩ | ⟨e, he, rfl⟩)
      · exact ⟨j, by omega, h2, h3⟩
      · exact ⟨i, by omega, he, rfl⟩
    · rintro ⟨j, h1, h2, h3⟩
      by_cases h : j < i
      · exact .inl ⟨j, h, h2, h3⟩
      · obtain rfl : j = i := by omega
        exact .inr ⟨p.1, h2, by rw [← h3]⟩
theorem asgA_mem {g : Gr} {l : List Spl} : ∀ {s : Nat} {p : Int × Nat}, p ∈ asgA g l s ↔ ∃ t, t < s ∧ p ∈ asgS g l t (prS g l t).length
  | 0, p => by simp [asgA]
  | s + 1, p => by
    rw [asgA_succ, List.mem_append, asgA_mem]
    constructor
    · rintro (⟨t, h1, h2⟩ | h)
      · exact ⟨t, by omega, h2⟩
      · exact ⟨s, by omega, h⟩
    · rintro ⟨t, h1, h2⟩
      by_cases h : t < s
      · exact .inl ⟨t, h, h2⟩
      · obtain rfl : t = s := by omega
        exact .inr h2
/-- the parents ascend. -/
theorem parA_mem {g : Gr} {l : List Spl} : ∀ {s : Nat} {x : Int}, x ∈ parA g l s → 0 ≤ x ∧ x < (s : Int)
  | 0, x, h => by cases h
  | s + 1, x, h => by
    unfold parA at h
    rcases List.mem_append.1 h with h | h
    · have := parA_mem h; omega
    · have := List.eq_of_mem_replicate h; omega
end Go.Proofs.Ythpdkmoedpcboaa
