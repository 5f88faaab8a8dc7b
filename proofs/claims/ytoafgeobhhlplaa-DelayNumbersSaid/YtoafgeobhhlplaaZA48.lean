/- Parts of the proof: DR. -/
import Derived.Test.YtoafgeobhhlplaaZA42
namespace Go.Proofs.Ytoafgeobhhlplaa
set_option linter.unusedSimpArgs false
set_option linter.unusedVariables false
open Go Go.Lift
section
variable {W : List Wd} {q x : Nat}
theorem lng_shut {k : Nat} {w : Wd} (h : opB W x w = false) : lngW W q x k w = none := by
  cases k <;> (unfold lngW; rw [if_neg (by rw [h]; decide)])
theorem lng_end {w : Wd} (h : opB W x w = true) : lngW W q x 0 w = some w := if_pos h
theorem lng_hit {k i : Nat} {w s : Wd} (h : opB W x w = true) (hi : i < q) (hn : ∀ j, j < i → lngW W q x k (w ++ [letters.getD j 0]) = none) (hs : lngW W q x k (w ++ [letters.getD i 0]) = some s) : lngW W q x (k + 1) w = some s := by
  unfold lngW
  rw [if_pos h]
  obtain ⟨d, rfl⟩ : ∃ d, q = i + (d + 1) := ⟨q - i - 1, by omega⟩
  rw [List.range_add, List.findSome?_append]
  have e : (List.range i).findSome? (fun j => lngW W (i + (d + 1)) x k (w ++ [letters.getD j 0])) = none := List.findSome?_eq_none_iff.2 fun j hj => hn j (List.mem_range.1 hj)
  rw [e, List.range_succ_eq_map]
  simp only [List.map_cons, List.findSome?_cons, Nat.add_zero, hs, Option.none_or]
theorem lng_miss {k : Nat} {w : Wd} (hn : ∀ j, j < q → lngW W q x k (w ++ [letters.getD j 0]) = none) : lngW W q x (k + 1) w = none := by
  unfold lngW
  split
  · exact List.findSome?_eq_none_iff.2 fun j hj => hn j (List.mem_range.1 hj)
  · rfl
def rxO (o : Option (Nat × Wd)) : Int := match o with
  | some p => (p.1 : Int)
  | none => 0
def ryO (o : Option (Nat × Wd)) : Wd := match o with
  | some p => p.2
  | none => []
theorem rwU_yes (hW : ∀ w ∈ W, LtOK q w) {d n k : Nat} {o : Option (Nat × Wd)} (hn : (W.getD k []).length = n) (h : (lngW W q k d (W.getD k [])).isSome = true) (h2 : o.isSome = false ∨ (lngW W q k d (W.getD k [])).getD [] < ryO o) : rwU W q d n k o = some (k, (lngW W q k d (W.getD k [])).getD []) := by
  rw [lng_fst hW] at h h2 ⊢
  cases hu : fstW W q k d with
  | none => rw [hu] at h; cases h
  | some u =>
    rw [hu] at h2
    cases o with
    | none => exact rwU_first hn hu
    | some p =>
      rcases h2 with h2 | h2
      · cases h2
      · exact rwU_less hn hu h2
theorem rwU_not (hW : ∀ w ∈ W, LtOK q w) {d n k : Nat} {o : Option (Nat × Wd)} (hn : (W.getD k []).length = n) (h : ¬ ((lngW W q k d (W.getD k [])).isSome = true ∧ (o.isSome = false ∨ (lngW W q k d (W.getD k [])).getD [] < ryO o))) : rwU W q d n k o = o := by
  rw [lng_fst hW] at h
  cases hu : fstW W q k d with
  | none => exact rwU_none hu
  | some u =>
    rw [hu] at h
    cases o with
    | none => exact absurd ⟨rfl, .inl rfl⟩ h
    | some p => exact rwU_keep hn hu fun hl => h ⟨rfl, .inr hl⟩
section
variable (hW : ∀ w ∈ W, LtOK q w) (hs : ∀ i j, i < j → j < W.length → (W.getD i []).length ≤ (W.getD j []).length) (hne : ∀ w ∈ W, w ≠ []) (hlen : ∀ w ∈ W, w.length ≤ 32)
include hW hs hne
theorem rw_fin {d m : Nat} {p : Nat × Wd} (hn : ∀ k, 1 ≤ k → k < m → rwA W q d k W.length = none) (h : rwA W q d m W.length = some p) : wtF W q d = some p := by
  obtain ⟨h1, h2⟩ := rw_same hW hs (d := d) (Nat.le_refl W.length)
  cases ht : wtF W q d with
  | none => rw [h1 m ht] at h; cases h
  | some r =>
    obtain ⟨b, w⟩ := r
    obtain ⟨h3, h4⟩ := h2 b w ht
    have hb := (wtA_some hW ht).1
    have hp := List.length_pos_iff.2 (hne _ (W_mem hb))
    rcases Nat.lt_trichotomy m (W.getD b []).length with h5 | h5 | h5
    · rw [h4 m h5] at h; cases h
    · rw [h5, h3] at h; rw [← h]
    · rw [hn _ hp h5] at h3; cases h3
include hlen
theorem rw_out {d : Nat} (hn : ∀ k, 1 ≤ k → k < 33 → rwA W q d k W.length = none) : wtF W q d = none := by
  obtain ⟨h1, h2⟩ := rw_same hW hs (d := d) (Nat.le_refl W.length)
  cases ht : wtF W q d with
  | none => rfl
  | some r =>
    obtain ⟨b, w⟩ := r
    obtain ⟨h3, h4⟩ := h2 b w ht
    have hb := (wtA_some hW ht).1
    have hp := List.length_pos_iff.2 (hne _ (W_mem hb))
    have := hlen _ (W_mem hb)
    rw [hn _ hp (by omega)] at h3; cases h3
end
end
theorem asc_len {c : Cd} (hv : CdOK c) (i j : Nat) (hij : i < j) (hj : j < c.ws.length) : (c.ws.getD i []).length ≤ (c.ws.getD j []).length := by
  have h := List.pairwise_iff_getElem.1 hv.asc i j (by omega) hj hij
  have e1 : c.ws.getD i [] = c.ws[i] := by rw [List.getD_eq_getElem?_getD, List.getElem?_eq_getElem (by omega)]; rfl
  have e2 : c.ws.getD j [] = c.ws[j] := by rw [List.getD_eq_getElem?_getD, List.getElem?_eq_getElem hj]; rfl
  rw [e1, e2]
  rcases h with h | h
  · omega
  · omega
end Go.Proofs.Ytoafgeobhhlplaa
