/- Parts of the proof: DD. -/
import Derived.Test.YtoafgeobhhlplaaZF16
namespace Go.Proofs.Ytoafgeobhhlplaa
set_option linter.unusedSimpArgs false
set_option linter.unusedVariables false
open Go Go.Lift
def stopN (W l : List Wd) (n : Nat) : Bool := decide (itN W l n = itN W l (n + 1))
def lenF (W l : List Wd) : Option Nat := if [] ∈ l then none else (List.range (l.length + 2)).find? (stopN W l)
def lenW (W : List Wd) : Option (List Nat) := (lenF W (restL W)).map fun n => itN W (restL W) n
def tgD (W : List Wd) (most : List Nat) (x y : Nat) : Nat :=
  if x ≠ y ∧ W.getD y [] <+: W.getD x [] then (W.getD y []).length + most.getD ((restL W).idxOf ((W.getD x []).drop (W.getD y []).length)) 0
  else if x ≠ y ∧ W.getD x [] <+: W.getD y [] then (W.getD x []).length + most.getD ((restL W).idxOf ((W.getD y []).drop (W.getD x []).length)) 0 else 0
def dUp (W : List Wd) (most : List Nat) (x y d : Nat) : Nat := if (W.getD x []).length ≤ tgD W most x y ∧ d < tgD W most x y - (W.getD x []).length + 1 then tgD W most x y - (W.getD x []).length + 1 else d
def dyA (W : List Wd) (most : List Nat) (x d : Nat) : Nat → Nat
  | 0 => d
  | y + 1 => dUp W most x y (dyA W most x d y)
def dxA (W : List Wd) (most : List Nat) : Nat → Nat
  | 0 => 0
  | x + 1 => dyA W most x (dxA W most x) W.length
def dlR (W : List Wd) : Option Nat := (lenW W).map fun most => dxA W most W.length
section
variable {W : List Wd}
theorem dUp_ge {most : List Nat} {x y d n : Nat} : n < dUp W most x y d ↔ n < d ∨ ((W.getD x []).length + n ≤ tgD W most x y) := by
  unfold dUp
  split
  · rename_i h; omega
  · rename_i h; omega
theorem dyA_ge {most : List Nat} {x d n : Nat} : ∀ k, n < dyA W most x d k ↔ n < d ∨ ∃ y, y < k ∧ (W.getD x []).length + n ≤ tgD W most x y
  | 0 => by simp [dyA]
  | k + 1 => by
    show n < dUp W most x k (dyA W most x d k) ↔ _
    rw [dUp_ge, dyA_ge k]
    constructor
    · rintro ((h | ⟨y, hy, h⟩) | h)
      · exact .inl h
      · exact .inr ⟨y, by omega, h⟩
      · exact .inr ⟨k, by omega, h⟩
    · rintro (h | ⟨y, hy, h⟩)
      · exact .inl (.inl h)
      · rcases Nat.lt_or_ge y k with h2 | h2
        · exact .inl (.inr ⟨y, h2, h⟩)
        · obtain rfl : y = k := by omega
          exact .inr h
theorem dxA_ge {most : List Nat} {n : Nat} : ∀ k, n < dxA W most k ↔ ∃ x, x < k ∧ ∃ y, y < W.length ∧ (W.getD x []).length + n ≤ tgD W most x y
  | 0 => by simp [dxA]
  | k + 1 => by
    show n < dyA W most k (dxA W most k) W.length ↔ _
    rw [dyA_ge, dxA_ge k]
    constructor
    · rintro (⟨x, hx, h⟩ | h)
      · exact ⟨x, by omega, h⟩
      · exact ⟨k, by omega, h⟩
    · rintro ⟨x, hx, h⟩
      rcases Nat.lt_or_ge x k with h2 | h2
      · exact .inl ⟨x, h2, h⟩
      · obtain rfl : x = k := by omega
        exact .inr h
def Mst (W : List Wd) (most : List Nat) : Prop := ∀ r ∈ restL W, Fr W (most.getD ((restL W).idxOf r) 0) r ∧ ∀ n, Fr W n r → n ≤ most.getD ((restL W).idxOf r) 0
theorem tgD_iff (hW : ∀ x ∈ W, x ≠ []) (hd : W.Nodup) {most : List Nat} (hm : Mst W most) {x : Nat} (hx : x < W.length) {n : Nat} : (∃ y, y < W.length ∧ (W.getD x []).length + n ≤ tgD W most x y) ↔ ∃ u, u.length = n ∧ opn W x u := by
  constructor
  · rintro ⟨y, hy, h⟩
    have hxp := List.length_pos_iff.2 (hW _ (W_mem hx))
    unfold tgD at h
    split at h
    · rename_i h1
      have hr := rest_ini hx hy h1.1 h1.2
      refine opn_in hx hy h1.1 h1.2 (Gn_less ?_ (hm _ hr).1)
      have := h1.2.length_le
      rw [List.length_drop]; omega
    · split at h
      · rename_i h1
        have hr := rest_ini hy hx (Ne.symm h1.1) h1.2
        exact opn_ov hx hy h1.1 h1.2 (Gn_less (by omega) (hm _ hr).1)
      · omega
  · rintro ⟨u, rfl, ho⟩
    obtain ⟨y, hy, hne, h⟩ := opn_cases hx ho
    refine ⟨y, hy, ?_⟩
    unfold tgD
    by_cases h1 : W.getD y [] <+: W.getD x []
    · rw [if_pos ⟨hne, h1⟩]
      have hr := rest_ini hx hy hne h1
      have hl := h1.length_le
      rcases h with ⟨_, h2⟩ | ⟨h2, _⟩
      · have := (hm _ hr).2 _ h2
        rw [List.length_drop] at this
        omega
      · exfalso
        have e : W.getD x [] = W.getD y [] := h2.eq_of_length_le h1.length_le
        rw [List.getD_eq_getElem?_getD, List.getElem?_eq_getElem hx, List.getD_eq_getElem?_getD, List.getElem?_eq_getElem hy] at e
        have hpw := List.pairwise_iff_getElem.1 hd
        rcases Nat.lt_trichotomy x y with h3 | h3 | h3
        · exact hpw x y hx hy h3 e
        · exact hne h3
        · exact hpw y x hy hx h3 e.symm
    · rw [if_neg (fun h2 => h1 h2.2)]
      rcases h with ⟨h2, _⟩ | ⟨h2, h3⟩
      · exact absurd h2 h1
      · rw [if_pos ⟨hne, h2⟩]
        have hr := rest_ini hy hx (Ne.symm hne) h2
        have := (hm _ hr).2 _ h3
        omega
theorem lenF_some {l : List Wd} {n : Nat} (h : lenF W l = some n) : [] ∉ l ∧ itN W l n = itN W l (n + 1) := by
  unfold lenF at h
  split at h
  · cases h
  · rename_i h1
    have := List.find?_some h
    exact ⟨h1, of_decide_eq_true this⟩
theorem lenF_none {l : List Wd} (h : lenF W l = none) (h0 : [] ∉ l) : ∀ n, n ≤ l.length + 1 → itN W l n ≠ itN W l (n + 1) := by
  unfold lenF at h
  rw [if_neg h0] at h
  intro n hn e
  have := List.find?_eq_none.1 h n (List.mem_range.2 (by omega))
  exact this (decide_eq_true e)
theorem bnd_max {P : Nat → Prop} (h0 : P 0) (hl : ∀ n m, n ≤ m → P m → P n) {N : Nat} (h : ¬ P N) : ∃ k, P k ∧ ∀ n, P n → n ≤ k := by
  induction N with
  | zero => exact absurd h0 h
  | succ N ih =>
    by_cases hN : P N
    · exact ⟨N, hN, fun n hn => Nat.not_lt.1 fun hlt => h (hl _ _ hlt hn)⟩
    · exact ih hN
theorem dlR_is (hW : ∀ x ∈ W, x ≠ []) (hd : W.Nodup) {d : Nat} (h : dlR W = some d) : DlIs W d := by
  unfold dlR lenW at h
  cases hf : lenF W (restL W) with
  | none => rw [hf] at h; cases h
  | some n =>
    rw [hf] at h
    obtain ⟨h0, hfix⟩ := lenF_some hf
    have hcl := rest_clsd h0
    have hm : Mst W (itN W (restL W) n) := fun r hr => by
      obtain ⟨_, h1, h2⟩ := plS_mem hr
      have h3 := it_sound hcl n _ h1
      rw [h2] at h3
      refine ⟨h3, fun k hk => ?_⟩
      have := fix_max hcl hW (now := itN W (restL W) n) hfix.symm k _ h1
      rw [h2] at this
      exact this hk
    have e : dxA W (itN W (restL W) n) W.length = d := by simpa using h
    subst e
    constructor
    · intro i u hi ho
      exact (dxA_ge _).2 ⟨i, hi, (tgD_iff hW hd hm hi).2 ⟨u, rfl, ho⟩⟩
    · intro k hk
      obtain ⟨x, hx, h1⟩ := (dxA_ge _).1 hk
      exact ⟨x, hx, (tgD_iff hW hd hm hx).1 h1⟩
theorem dlR_no (hW : ∀ x ∈ W, x ≠ []) (hn : 0 < W.length) (h : dlR W = none) : DlNo W := by
  unfold dlR lenW at h
  cases hf : lenF W (restL W) with
  | some n => rw [hf] at h; cases h
  | none =>
    by_cases h0 : [] ∈ restL W
    · refine no_end hW (rest_mem.1 h0) fun n => ?_
      obtain ⟨u, e, hr⟩ := rd_long hn hW n
      exact ⟨u, e, hr, hr⟩
    · refine Classical.byContradiction fun hno => ?_
      have hb : ∀ r, r ∈ restL W → ∃ k, Fr W k r ∧ ∀ n, Fr W n r → n ≤ k := fun r hr => by
        refine Classical.byContradiction fun hc => hno (no_end hW (rest_mem.1 hr) fun N => ?_)
        refine Classical.byContradiction fun hN => hc ?_
        exact bnd_max (P := fun n => Fr W n r) Gn_zero (fun n m h1 h2 => Gn_less h1 h2) hN
      let H : Wd → Nat := fun r => if hr : r ∈ restL W then (hb r hr).choose else 0
      have hH : ∀ r ∈ restL W, Fr W (H r) r ∧ ∀ n, Fr W n r → n ≤ H r := fun r hr => by
        have : H r = (hb r hr).choose := dif_pos hr
        rw [this]
        exact (hb r hr).choose_spec
      obtain ⟨k, hk, e⟩ := it_stop (rest_clsd h0) hW H hH
      exact lenF_none hf h0 k (by omega) e.symm
end
end Go.Proofs.Ytoafgeobhhlplaa
