/-
  Plain laws of this seat: digits as the reference looks for them.
-/
import Derived.Test.YtmjkbidnghcfnaaPG
namespace Go.Proofs.Ytmjkbidnghcfnaa
set_option linter.unusedSimpArgs false
set_option linter.unusedVariables false
open Go Go.Lift

theorem idxB_none (l : List UInt8) (n : UInt8) (h : ∀ j, j < l.length → l.getD j 0 ≠ n) : idxB l n = -1 := by
  unfold idxB
  have : l.idxOf? n = none := by
    rw [List.idxOf?_eq_none_iff]
    intro hm
    obtain ⟨j, hj, he⟩ := List.mem_iff_getElem.1 hm
    exact h j hj (by simp [List.getD, hj, he])
  rw [this]
theorem idxB_some (l : List UInt8) (n : UInt8) (k : Nat) (hk : k < l.length) (h : ∀ j, j < k → l.getD j 0 ≠ n) (he : l.getD k 0 = n) : idxB l n = k := by
  unfold idxB
  have : l.idxOf? n = some k := by
    rw [List.idxOf?, List.findIdx?_eq_some_iff_getElem]
    refine ⟨hk, by simpa [List.getD, hk] using he, fun j hj => ?_⟩
    have := h j hj
    have hj' : j < l.length := by omega
    simpa [List.getD, hj'] using this
  rw [this]
theorem first_at : ∀ (l : List UInt8) (n : UInt8), n ∈ l → ∃ k, k < l.length ∧ (∀ j, j < k → l.getD j 0 ≠ n) ∧ l.getD k 0 = n
  | x :: l, n, h => by
    by_cases e : x = n
    · exact ⟨0, by simp, fun j hj => absurd hj (Nat.not_lt_zero _), by simpa using e⟩
    · obtain ⟨k, h1, h2, h3⟩ := first_at l n ((List.mem_cons.1 h).resolve_left (Ne.symm e))
      refine ⟨k + 1, by simp; omega, fun j hj => ?_, by simpa using h3⟩
      cases j with
      | zero => simpa using e
      | succ j => simpa using h2 j (by omega)
theorem idxB_ge {l : List UInt8} {n : UInt8} : 0 ≤ idxB l n ↔ n ∈ l := by
  constructor
  · intro h
    by_cases hm : n ∈ l
    · exact hm
    · rw [idxB_none l n fun j hj e => hm (by rw [← e]; exact getD_mem hj)] at h; omega
  · intro hm
    obtain ⟨k, h1, h2, h3⟩ := first_at l n hm
    rw [idxB_some l n k h1 h2 h3]; omega
theorem take_getDB {l : List UInt8} {s t : Nat} (h : t < s) : (l.take s).getD t 0 = l.getD t 0 := by
  simp [List.getD, List.getElem?_take, h]
/-- a digit below q is one of the first q letters. -/
theorem idxB_take {l : List UInt8} {n : UInt8} {q : Nat} : 0 ≤ idxB (l.take q) n ↔ 0 ≤ idxB l n ∧ idxB l n < (q : Int) := by
  constructor
  · intro h
    obtain ⟨k, h1, h2, h3⟩ := first_at _ n (idxB_ge.1 h)
    rw [List.length_take] at h1
    have h4 := idxB_some l n k (by omega) (fun j hj => by rw [← take_getDB (s := q) (by omega)]; exact h2 j hj) (by rw [← take_getDB (s := q) (by omega)]; exact h3)
    rw [h4]; omega
  · rintro ⟨h, hq⟩
    obtain ⟨k, h1, h2, h3⟩ := first_at l n (idxB_ge.1 h)
    have h4 := idxB_some l n k h1 h2 h3
    rw [h4] at hq
    rw [idxB_ge]
    have : (l.take q).getD k 0 = n := by rw [take_getDB (by omega)]; exact h3
    rw [← this]
    exact getD_mem (by rw [List.length_take]; omega)
theorem digit_step {n : UInt8} {k : Nat} (h : ∀ j, j < k → letters.getD j 0 ≠ n) (hk : ¬ (letters.getD k 0).toNat = n.toNat) : ∀ j, j < k + 1 → letters.getD j 0 ≠ n := fun j hj => by
  rcases Nat.lt_succ_iff_lt_or_eq.1 hj with h1 | h1
  · exact h j h1
  · rw [h1]; exact fun e => hk (by rw [e])
theorem word_step {q : Int} {w : List UInt8} {k : Nat} (hn : ∀ j, j < k → 0 ≤ idxB (letters.take q.toNat) (w.getD j 0)) (h : 0 ≤ idxB letters (w.getD k 0)) (h2 : idxB letters (w.getD k 0) < q) : ∀ j, j < k + 1 → 0 ≤ idxB (letters.take q.toNat) (w.getD j 0) := fun j hj => by
  rcases Nat.lt_succ_iff_lt_or_eq.1 hj with h1 | h1
  · exact hn j h1
  · rw [h1]; exact idxB_take.2 ⟨h, by omega⟩
theorem word_bad {q : Int} {w : List UInt8} {k : Nat} (hq : 1 ≤ q ∧ q ≤ 16) (h : ¬ (0 ≤ idxB letters (w.getD k 0) ∧ idxB letters (w.getD k 0) < q)) : idxB (letters.take q.toNat) (w.getD k 0) < 0 := by
  apply Classical.byContradiction
  intro hc
  have := idxB_take.1 (Int.not_lt.1 hc)
  exact h ⟨this.1, by omega⟩
theorem wAt_le {e : Enc} (hv : checkE e = 0) {s i : Nat} (hs : s ≤ e.rows.length) (hi : i ≤ e.inputs.toNat) : (wAt e s i).length ≤ 20000 := by
  have hin := (checkE_valid hv).1.inputs
  have hl := rows_len hv
  have h := wAt_len (e := e) (n := e.inputs.toNat) (fun r hr => by
    have := (rowCheck_valid ((checkE_valid hv).2.2.2 r hr)).1
    omega) (s := s) (i := i) hs
  have h2 : s * e.inputs.toNat ≤ 64 * 256 := Nat.mul_le_mul (by omega) (by omega)
  omega
end Go.Proofs.Ytmjkbidnghcfnaa

namespace Go.Proofs.Ytmjkbidnghcfnaa
set_option linter.unusedSimpArgs false
set_option linter.unusedVariables false
open Go Go.Lift

theorem first_atI : ∀ (l : List Int) (n : Int), n ∈ l → ∃ k, k < l.length ∧ (∀ j, j < k → l.getD j 0 ≠ n) ∧ l.getD k 0 = n
  | x :: l, n, h => by
    by_cases e : x = n
    · exact ⟨0, by simp, fun j hj => absurd hj (Nat.not_lt_zero _), by simpa using e⟩
    · obtain ⟨k, h1, h2, h3⟩ := first_atI l n ((List.mem_cons.1 h).resolve_left (Ne.symm e))
      refine ⟨k + 1, by simp; omega, fun j hj => ?_, by simpa using h3⟩
      cases j with
      | zero => simpa using e
      | succ j => simpa using h2 j (by omega)
theorem placeI_left {K : List Int} {x y : Int} (h : y ∈ K) : placeI (K ++ [x]) y = placeI K y := by
  obtain ⟨k, h1, h2, h3⟩ := first_atI K y h
  have hg : ∀ j, j < K.length → (K ++ [x]).getD j 0 = K.getD j 0 := fun j hj => pre_getD (List.prefix_append _ _) hj
  rw [placeI_some K y k h1 h2 h3, placeI_some (K ++ [x]) y k (by rw [List.length_append]; omega) (fun j hj => by rw [hg j (by omega)]; exact h2 j hj) (by rw [hg k h1]; exact h3)]
theorem placeI_last {K : List Int} {x : Int} (h : x ∉ K) : placeI (K ++ [x]) x = K.length := by
  refine placeI_some _ _ K.length (by simp) (fun j hj => ?_) (by simp [List.getD])
  rw [pre_getD (List.prefix_append _ _) hj]
  exact fun e => h (by rw [← e]; exact getD_mem hj)
/-- the place of a state among the found ones, or 0. -/
def plc (K : List Int) (j : Nat) : Int := if (j : Int) ∈ K then placeI K j else 0
@[simp] theorem plc_nil {j : Nat} : plc [] j = 0 := rfl
theorem plc_add {K : List Int} {x : Int} (h : x ∉ K) {j : Nat} : plc (K ++ [x]) j = if (j : Int) = x then (K.length : Int) else plc K j := by
  unfold plc
  by_cases e : (j : Int) = x
  · rw [if_pos e, if_pos (by rw [e]; simp), e, placeI_last h]
  · rw [if_neg e]
    by_cases hm : (j : Int) ∈ K
    · rw [if_pos hm, if_pos (List.mem_append_left _ hm), placeI_left hm]
    · rw [if_neg hm, if_neg (by simp [hm, e])]
def plcs (n : Nat) (K : List Int) : List Int := (List.range n).map (plc K)
@[simp] theorem plcs_len {n : Nat} {K : List Int} : (plcs n K).length = n := by simp [plcs]
theorem plcs_at {n : Nat} {K : List Int} {j : Nat} (h : j < n) : (plcs n K).getD j 0 = plc K j := by
  rw [getD_get (by rw [plcs_len]; exact h)]; simp [plcs]
/-- whether a state is found. -/
def inL (L : List Int) (j : Nat) : Bool := decide ((j : Int) ∈ L)
theorem inL_iff {L : List Int} {x : Int} (h : 0 ≤ x) : inL L x.toNat = true ↔ x ∈ L := by
  unfold inL; rw [decide_eq_true_eq, Int.toNat_of_nonneg h]
theorem inL_upd {L : List Int} {x : Int} (h : 0 ≤ x) {j : Nat} : (if j = x.toNat then AVal.bool true else .bool (inL L j)) = .bool (inL (L ++ [x]) j) := by
  unfold inL
  by_cases e : j = x.toNat
  · rw [if_pos e]
    have : (j : Int) = x := by omega
    simp [this]
  · rw [if_neg e]
    have : ¬ (j : Int) = x := by omega
    simp [this]
/-- the queue holds what is found and not gone through. -/
structure QOK (L : List Int) (k lo : Nat) (Q : List Int) : Prop where
  le : lo ≤ Q.length
  le2 : k ≤ L.length
  eq : Q.drop lo = L.drop k
theorem QOK.len {L : List Int} {k lo : Nat} {Q : List Int} (h : QOK L k lo Q) : Q.length - lo = L.length - k := by
  have := congrArg List.length h.eq
  rwa [List.length_drop, List.length_drop] at this
theorem QOK.head {L : List Int} {k lo : Nat} {Q : List Int} (h : QOK L k lo Q) (hk : k < L.length) : Q.getD lo 0 = L.getD k 0 := by
  have h1 := h.len
  have h2 := congrArg (fun l => l.getD 0 0) h.eq
  simp only [List.getD_eq_getElem?_getD, List.getElem?_drop, Nat.add_zero] at h2
  simpa only [List.getD_eq_getElem?_getD] using h2
theorem QOK.pop {L : List Int} {k lo : Nat} {Q : List Int} (h : QOK L k lo Q) (hk : k < L.length) : QOK L (k + 1) (lo + 1) Q := by
  have h1 := h.len
  refine ⟨by omega, by omega, ?_⟩
  have h2 := congrArg (List.drop 1) h.eq
  rwa [List.drop_drop, List.drop_drop] at h2
theorem QOK.push {L : List Int} {k lo : Nat} {Q : List Int} (h : QOK L k lo Q) {x : Int} : QOK (L ++ [x]) k 0 (Q.drop lo ++ [x]) := by
  refine ⟨Nat.zero_le _, by rw [List.length_append]; have := h.le2; omega, ?_⟩
  rw [List.drop_zero, h.eq, List.drop_append_of_le_length h.le2]
theorem app_drop {Q : List Int} {lo : Nat} {x : Int} {w : Nat → Nat → AVal} {i : Nat} (h : i < Q.length - lo + 1) : app (fun i _ => .int .i64 (Q.getD (lo + i) 0)) (Q.length - lo) (fun i j => if i = 0 ∧ j = 0 then .int .i64 x else w i j) i 0 = .int .i64 ((Q.drop lo ++ [x]).getD i 0) := by
  rw [getD_app]
  unfold app
  rw [List.length_drop]
  by_cases h2 : i < Q.length - lo
  · rw [if_pos h2, if_pos h2]
    simp [List.getD_eq_getElem?_getD, List.getElem?_drop]
  · have : i - (Q.length - lo) = 0 := by omega
    rw [if_neg h2, if_neg h2, this]
    rfl
theorem take_snoc {L : List Int} {k : Nat} (h : k < L.length) : L.take (k + 1) = L.take k ++ [L.getD k 0] := by
  rw [List.take_succ_eq_append_getElem h, getD_get h]
theorem not_before {L : List Int} (hn : L.Nodup) {k : Nat} (h : k < L.length) : L.getD k 0 ∉ L.take k := by
  intro hm
  have h1 := hn
  rw [← List.take_append_drop k L, List.nodup_append] at h1
  refine h1.2.2 _ hm _ ?_ rfl
  rw [getD_get h]
  exact List.mem_drop_iff_getElem.2 ⟨0, by omega, by simp⟩
theorem take_pre {L M : List Int} (h : L <+: M) {k : Nat} (hk : k ≤ L.length) : M.take k = L.take k := by
  obtain ⟨N, rfl⟩ := h
  rw [List.take_append_of_le_length hk]
/-- the row of a state, told by places. -/
theorem rrow_plc {e : Enc} (hv : checkE e = 0) {s : Nat} (hs : s < e.rows.length) {x : Int} (hx : x ∈ ordE e s) : mrow e (plcs e.rows.length (ordE e s)) x.toNat = rrow e (ordE e s) x := by
  have hxl := (ordE_ok hv hs).lt x hx
  unfold mrow rrow
  apply List.map_congr_left
  intro c hc
  obtain ⟨i, hi, he⟩ := List.mem_iff_getElem.1 hc
  have hg : cellAt e x.toNat i = c := by unfold cellAt; rw [getD_get hi]; exact he
  have hto := cell_to hv (s := x.toNat) (by omega) hi
  rw [hg] at hto
  have hre := row_eq hv (k := x.toNat) (by omega)
  have hin := ordE_closed hv hs hx (j := i) (by omega)
  rw [hg] at hin
  unfold mcell
  rw [plcs_at (by omega)]
  unfold plc
  rw [Int.toNat_of_nonneg hto.1, if_pos hin]
theorem reach_rows {e : Enc} (hv : checkE e = 0) {s : Nat} (hs : s < e.rows.length) : (reachE e s).rows = (ordE e s).map fun x => mrow e (plcs e.rows.length (ordE e s)) x.toNat := by
  show (ordE e s).map _ = _
  apply List.map_congr_left
  intro x hx
  rw [rrow_plc hv hs hx]
end Go.Proofs.Ytmjkbidnghcfnaa
