/- Parts of the proof: NJ. -/
import Derived.Test.YthpdkmoedpcboaaGreatPO13
namespace Go.Proofs.YthpdkmoedpcboaaGreat
set_option linter.unusedSimpArgs false
set_option linter.unusedVariables false
open Go Go.Lift
section
variable {g : Gr} {v : List Int} {m w : Int} {o : List Int} {j : Nat}
def psL (g : Gr) (v o : List Int) (j : Nat) : List Int := (List.range (j + 1)).map (psA g v o)
theorem psL_len : (psL g v o j).length = j + 1 := by simp [psL]
theorem psL_at {i : Nat} (h : i ≤ j) : (psL g v o j).getD i 0 = psA g v o i := by simp [psL, List.getD, show i < j + 1 by omega]
theorem psL_succ : psL g v o (j + 1) = psL g v o j ++ [psA g v o (j + 1)] := by
  unfold psL
  rw [List.range_succ, List.map_append]; rfl
def plcS (g : Gr) (v : List Int) (m : Int) (o : List Int) (j r : Nat) : List Int := ((List.range (j + 1)).filter fun i => decide (psA g v o i % m = (r : Int))).map fun i : Nat => (i : Int)
theorem plcS_succ {r : Nat} : plcS g v m o (j + 1) r = if psA g v o (j + 1) % m = (r : Int) then plcS g v m o j r ++ [((j + 1 : Nat) : Int)] else plcS g v m o j r := by
  unfold plcS
  rw [List.range_succ, List.filter_append, List.map_append]
  by_cases h : psA g v o (j + 1) % m = (r : Int)
  · rw [if_pos h]; simp [h]
  · rw [if_neg h]; simp [h]
theorem plcS_zero {r : Nat} : plcS g v m o 0 r = if r = 0 then [0] else [] := by
  unfold plcS
  have e : psA g v o 0 % m = 0 := by show (0 : Int) % m = 0; simp
  by_cases h : r = 0
  · subst h; simp [e]
  · rw [if_neg h]
    simp [e]
    omega
theorem plcS_mem {r : Nat} {x : Int} : x ∈ plcS g v m o j r ↔ ∃ i : Nat, i ≤ j ∧ x = i ∧ psA g v o i % m = (r : Int) := by
  unfold plcS
  rw [List.mem_map]
  constructor
  · rintro ⟨i, hi, rfl⟩
    rw [List.mem_filter, List.mem_range, decide_eq_true_eq] at hi
    exact ⟨i, by omega, rfl, hi.2⟩
  · rintro ⟨i, h1, rfl, h3⟩
    exact ⟨i, by rw [List.mem_filter, List.mem_range, decide_eq_true_eq]; exact ⟨by omega, h3⟩, rfl⟩
theorem plcS_asc {r : Nat} : (plcS g v m o j r).Pairwise (· < ·) := by
  unfold plcS
  rw [List.pairwise_map]
  exact ((List.pairwise_lt_range).sublist List.filter_sublist).imp fun h => by omega
theorem plcS_len {r : Nat} : (plcS g v m o j r).length ≤ j + 1 := by
  unfold plcS
  rw [List.length_map]
  exact Nat.le_trans (List.length_filter_le _ _) (by simp)
def plMS (g : Gr) (v : List Int) (m : Int) (o : List Int) : Nat → List (Int × (Nat × Nat))
  | 0 => [(0, (0, 1))]
  | j + 1 => alPut (plMS g v m o j) (psA g v o (j + 1) % m) ((psA g v o (j + 1) % m).toNat, (plcS g v m o (j + 1) (psA g v o (j + 1) % m).toNat).length)
theorem plMS_succ : plMS g v m o (j + 1) = alPut (plMS g v m o j) (psA g v o (j + 1) % m) ((psA g v o (j + 1) % m).toNat, (plcS g v m o (j + 1) (psA g v o (j + 1) % m).toNat).length) := rfl
theorem plMS_get (hm : 1 ≤ m) : ∀ j (k : Int), alGet (plMS g v m o j) k = if 0 ≤ k ∧ plcS g v m o j k.toNat ≠ [] then some (k.toNat, (plcS g v m o j k.toNat).length) else none
  | 0, k => by
    rw [plcS_zero]
    show (if k = 0 then some (0, 1) else none) = _
    by_cases h : k = 0
    · subst h; simp
    · rw [if_neg h, if_neg]
      rintro ⟨h1, h2⟩
      rw [if_neg (by omega)] at h2
      exact h2 rfl
  | j + 1, k => by
    have hR : 0 ≤ psA g v o (j + 1) % m := Int.emod_nonneg _ (by omega)
    rw [plMS_succ, alGet_put, plMS_get hm j k]
    generalize hr : psA g v o (j + 1) % m = R at *
    by_cases h : k = R
    · subst h
      rw [if_pos rfl, if_pos]
      refine ⟨hR, ?_⟩
      rw [plcS_succ, if_pos (by omega)]
      simp
    · rw [if_neg h]
      by_cases h0 : 0 ≤ k
      · have e : plcS g v m o (j + 1) k.toNat = plcS g v m o j k.toNat := by rw [plcS_succ, if_neg (by omega)]
        rw [e]
      · rw [if_neg (fun h => h0 h.1), if_neg (fun h => h0 h.1)]
theorem plMS_keys : ∀ j, ((plMS g v m o j).map (·.1)).Nodup
  | 0 => by simp [plMS]
  | j + 1 => by
    rw [plMS_succ]
    have key : ∀ (l : List (Int × (Nat × Nat))) (k : Int) (b : Nat × Nat), (l.map (·.1)).Nodup → ((alPut l k b).map (·.1)).Nodup ∧ ∀ x, x ∈ (alPut l k b).map (·.1) → x = k ∨ x ∈ l.map (·.1) := by
      intro l k b
      induction l with
      | nil => intro _; exact ⟨by simp [alPut], fun x hx => .inl (by simpa [alPut] using hx)⟩
      | cons p l ih =>
        intro hn
        obtain ⟨a, c⟩ := p
        rw [List.map_cons, List.nodup_cons] at hn
        by_cases h : k = a
        · subst h
          simp only [alPut, if_true, List.map_cons]
          exact ⟨List.nodup_cons.2 hn, fun x hx => .inr hx⟩
        · simp only [alPut, if_neg h, List.map_cons]
          obtain ⟨h1, h2⟩ := ih hn.2
          refine ⟨List.nodup_cons.2 ⟨fun hx => ?_, h1⟩, fun x hx => ?_⟩
          · rcases h2 _ hx with h3 | h3
            · exact h h3.symm
            · exact hn.1 h3
          · rcases List.mem_cons.1 hx with h3 | h3
            · exact .inr (by rw [h3]; exact List.mem_cons_self ..)
            · exact (h2 x h3).imp id fun h4 => List.mem_cons_of_mem _ h4
    exact (key _ _ _ (plMS_keys j)).1
theorem plMS_row : ∀ j, 1 ≤ m → ∀ p ∈ plMS g v m o j, 0 ≤ p.1 ∧ p.2.1 = p.1.toNat
  | 0, _, p, hp => by
    have := List.mem_singleton.1 hp
    subst this; simp
  | j + 1, hm, p, hp => by
    rw [plMS_succ] at hp
    have key : ∀ (l : List (Int × (Nat × Nat))) (k : Int) (b : Nat × Nat), p ∈ alPut l k b → p = (k, b) ∨ p ∈ l := by
      intro l k b
      induction l with
      | nil => intro h; exact .inl (by simpa [alPut] using h)
      | cons q l ih =>
        obtain ⟨a, c⟩ := q
        intro h
        by_cases e : k = a
        · simp only [alPut, if_pos e] at h
          exact (List.mem_cons.1 h).imp id fun h2 => List.mem_cons_of_mem _ h2
        · simp only [alPut, if_neg e] at h
          rcases List.mem_cons.1 h with h2 | h2
          · exact .inr (by rw [h2]; exact List.mem_cons_self ..)
          · exact (ih h2).imp id fun h3 => List.mem_cons_of_mem _ h3
    rcases key _ _ _ hp with h | h
    · subst h
      exact ⟨Int.emod_nonneg _ (by omega), rfl⟩
    · exact plMS_row j hm p h
theorem plMS_some (hm : 1 ≤ m) {k : Int} (h : alGet (plMS g v m o j) k ≠ none) : alGet (plMS g v m o j) k = some (k.toNat, (plcS g v m o j k.toNat).length) := by
  rw [plMS_get hm] at h ⊢
  split
  · rfl
  · rename_i h2; rw [if_neg h2] at h; exact absurd rfl h
theorem plMS_none (hm : 1 ≤ m) {k : Int} (h0 : 0 ≤ k) (h : alGet (plMS g v m o j) k = none) : plcS g v m o j k.toNat = [] := by
  rw [plMS_get hm] at h
  by_cases h2 : plcS g v m o j k.toNat = []
  · exact h2
  · rw [if_pos ⟨h0, h2⟩] at h; cases h
theorem ok_res (hm : 1 ≤ m) {i : Nat} : segS g v o i j % m = 0 ↔ psA g v o i % m = psA g v o j % m := by
  unfold segS
  rw [← Int.emod_eq_emod_iff_emod_sub_eq_zero]
  exact eq_comm
theorem ok_in (hm : 1 ≤ m) {x : Int} (hx : x ∈ plcS g v m o j (psA g v o (j + 1) % m).toNat) : okC g v m w o x.toNat (j + 1) = decide (1 ≤ segS g v o x.toNat (j + 1) / m ∧ segS g v o x.toNat (j + 1) / m < w) := by
  obtain ⟨i, h1, rfl, h3⟩ := plcS_mem.1 hx
  have hR : 0 ≤ psA g v o (j + 1) % m := Int.emod_nonneg _ (by omega)
  have : segS g v o i (j + 1) % m = 0 := (ok_res hm).2 (by rw [h3]; omega)
  unfold okC
  rw [Int.toNat_natCast]
  simp [this]
theorem ok_mem (hm : 1 ≤ m) {i : Nat} (hi : i ≤ j) (h : okC g v m w o i (j + 1) = true) : (i : Int) ∈ plcS g v m o j (psA g v o (j + 1) % m).toNat := by
  have hR : 0 ≤ psA g v o (j + 1) % m := Int.emod_nonneg _ (by omega)
  unfold okC at h
  have h2 := (ok_res hm).1 (of_decide_eq_true h).1
  exact plcS_mem.2 ⟨i, hi, rfl, by rw [h2]; omega⟩
theorem chI_place (hm : 1 ≤ m) {q : Nat} (hq : q < (plcS g v m o j (psA g v o (j + 1) % m).toNat).length) (hn : ∀ k, k < q → okC g v m w o ((plcS g v m o j (psA g v o (j + 1) % m).toNat).getD k 0).toNat (j + 1) = false) (h : okC g v m w o ((plcS g v m o j (psA g v o (j + 1) % m).toNat).getD q 0).toNat (j + 1) = true) : chI g v m w o (j + 1) = some ((plcS g v m o j (psA g v o (j + 1) % m).toNat).getD q 0).toNat := by
  have hx := getD_mem (d := (0 : Int)) hq
  have hasc := plcS_asc (g := g) (v := v) (m := m) (o := o) (j := j) (r := (psA g v o (j + 1) % m).toNat)
  obtain ⟨i, h1, h2, h3⟩ := plcS_mem.1 hx
  refine chI_some (by omega) h fun k hk => ?_
  cases hok : okC g v m w o k (j + 1) with
  | false => rfl
  | true =>
    have hk2 := ok_mem hm (show k ≤ j by omega) hok
    obtain ⟨q2, hq2, he⟩ := List.mem_iff_getElem.1 hk2
    have hlt : q2 < q := by
      refine Classical.byContradiction fun hge => ?_
      rw [getD_get hq] at hk h2
      rcases Nat.lt_or_ge q q2 with h4 | h4
      · have := List.pairwise_iff_getElem.1 hasc q q2 hq hq2 h4
        omega
      · obtain rfl : q = q2 := by omega
        omega
    have := hn q2 hlt
    rw [getD_get hq2, he, Int.toNat_natCast, hok] at this
    cases this
theorem chI_never (hm : 1 ≤ m) (hn : ∀ k, k < (plcS g v m o j (psA g v o (j + 1) % m).toNat).length → okC g v m w o ((plcS g v m o j (psA g v o (j + 1) % m).toNat).getD k 0).toNat (j + 1) = false) : chI g v m w o (j + 1) = none := chI_none fun i hi => by
  cases hok : okC g v m w o i (j + 1) with
  | false => rfl
  | true =>
    have hk2 := ok_mem hm (show i ≤ j by omega) hok
    obtain ⟨q2, hq2, he⟩ := List.mem_iff_getElem.1 hk2
    have := hn q2 hq2
    rw [getD_get hq2, he, Int.toNat_natCast, hok] at this
    cases this
def fndS (g : Gr) (v : List Int) (m : Int) (s j : Nat) : Option Spl := (chI g v m (v.getD s 0) (outR g s) (j + 1)).map fun i => ⟨s, prts (outR g s) i (j + 1)⟩
theorem fnd_hit {s : Nat} (h : chJ g v m (v.getD s 0) (outR g s) j = none) (hj : j < (outR g s).length) {x : Spl} (hx : fndS g v m s j = some x) : chS g v m s = some x := by
  unfold fndS at hx
  cases hc : chI g v m (v.getD s 0) (outR g s) (j + 1) with
  | none => rw [hc] at hx; cases hx
  | some i =>
    rw [hc] at hx
    obtain rfl := Option.some.inj hx
    have h1 : chJ g v m (v.getD s 0) (outR g s) (j + 1) = some (i, j + 1) := by
      show (match chJ g v m (v.getD s 0) (outR g s) j with | some p => some p | none => _) = _
      rw [h]
      show ((chI g v m (v.getD s 0) (outR g s) (j + 1)).map _) = _
      rw [hc]; rfl
    have h2 := chJ_keep h1 ((outR g s).length - (j + 1))
    rw [show j + 1 + ((outR g s).length - (j + 1)) = (outR g s).length by omega] at h2
    unfold chS
    rw [h2]; rfl
theorem fnd_next {s : Nat} (h : chJ g v m (v.getD s 0) (outR g s) j = none) (hx : fndS g v m s j = none) : chJ g v m (v.getD s 0) (outR g s) (j + 1) = none := by
  unfold fndS at hx
  cases hc : chI g v m (v.getD s 0) (outR g s) (j + 1) with
  | some i => rw [hc] at hx; cases hx
  | none =>
    show (match chJ g v m (v.getD s 0) (outR g s) j with | some p => some p | none => _) = _
    rw [h]
    show ((chI g v m (v.getD s 0) (outR g s) (j + 1)).map _) = _
    rw [hc]; rfl
theorem fnd_end {s : Nat} (h : chJ g v m (v.getD s 0) (outR g s) (outR g s).length = none) : chS g v m s = none := by unfold chS; rw [h]; rfl
end
theorem psA_mono {g : Gr} {v p : List Int} (h : BoxV v) {i : Nat} : ∀ {j : Nat}, i ≤ j → psA g v p i ≤ psA g v p j
  | 0, hij => by obtain rfl := Nat.le_zero.1 hij; exact Int.le_refl _
  | j + 1, hij => by
    by_cases e : i = j + 1
    · subst e; exact Int.le_refl _
    · have h1 := psA_mono (g := g) (p := p) h (i := i) (j := j) (by omega)
      have h2 := box_at h (g.edges.getD (p.getD j 0).toNat de).to.toNat
      rw [psA_succ]
      omega
end Go.Proofs.YthpdkmoedpcboaaGreat
