/-
  Plain laws of this seat: the words in the order in which they are met; the encoder of the states that are reached.
-/
import Derived.Test.YtmjkbidnghcfnaaPG
namespace Go.Proofs.Ytmjkbidnghcfnaa
set_option linter.unusedSimpArgs false
set_option linter.unusedVariables false
open Go Go.Lift

theorem alPut_keys : ∀ (m : List (List UInt8 × Bool)) (k : List UInt8), (alPut m k true).map Prod.fst = if k ∈ m.map Prod.fst then m.map Prod.fst else m.map Prod.fst ++ [k]
  | [], k => by simp [alPut]
  | (a, b) :: m, k => by
    simp only [alPut]
    by_cases h : k = a
    · subst h; simp
    · rw [if_neg h, List.map_cons, alPut_keys m k]
      by_cases h2 : k ∈ m.map Prod.fst
      · rw [if_pos h2, if_pos (by simp only [List.map_cons, List.mem_cons]; exact .inr h2)]; rfl
      · rw [if_neg h2, if_neg (by simp only [List.map_cons, List.mem_cons]; exact fun h3 => h3.elim h h2)]; rfl
/-- the words of the first s rows, and of i cells of the next one. -/
def wAt (e : Enc) (s i : Nat) : List (List UInt8) := (putWords (putRows [] (e.rows.take s)) ((e.rows.getD s []).take i)).map Prod.fst
theorem wAt_zero {e : Enc} : wAt e 0 0 = [] := by simp [wAt, putWords, putRows]
theorem wAt_succ {e : Enc} {s i : Nat} (h : i < (e.rows.getD s []).length) : wAt e s (i + 1) = if ((e.rows.getD s []).getD i dc).word ∈ wAt e s i then wAt e s i else wAt e s i ++ [((e.rows.getD s []).getD i dc).word] := by
  unfold wAt
  rw [putWords_succ h, alPut_keys]
theorem wAt_next {e : Enc} {s i : Nat} (hs : s < e.rows.length) (hi : (e.rows.getD s []).length ≤ i) : wAt e s i = wAt e (s + 1) 0 := by
  unfold wAt
  rw [List.take_of_length_le hi, putRows_succ hs]
  simp [putWords]
theorem wAt_all {e : Enc} : (wAt e e.rows.length 0).length = (putRows [] e.rows).length := by
  unfold wAt
  rw [List.take_length]
  simp [putWords]
theorem wAt_len {e : Enc} {n : Nat} (h : ∀ r ∈ e.rows, r.length = n) {s i : Nat} (hs : s ≤ e.rows.length) : (wAt e s i).length ≤ s * n + i := by
  unfold wAt
  rw [List.length_map]
  have h1 := putRows_len (n := n) (e.rows.take s) [] fun r hr => h r (List.mem_of_mem_take hr)
  have h2 := putWords_len ((e.rows.getD s []).take i) (putRows [] (e.rows.take s))
  rw [List.length_take] at h1 h2
  have h3 : min s e.rows.length = s := Nat.min_eq_left hs
  rw [h3] at h1
  simp only [List.length_nil] at h1
  omega
/-- the row of a state, its cells leading to places in a list. -/
def rrow (e : Enc) (L : List Int) (x : Int) : List Cell := (e.rows.getD x.toNat []).map fun c => { c with to := placeI L c.to }
def reachE (e : Enc) (s : Nat) : Enc := { e with rows := (ordE e s).map (rrow e (ordE e s)) }
theorem rrow_len {e : Enc} {L : List Int} {x : Int} : (rrow e L x).length = (e.rows.getD x.toNat []).length := by simp [rrow]
theorem rrow_at {e : Enc} {L : List Int} {x : Int} {i : Nat} (h : i < (e.rows.getD x.toNat []).length) : (rrow e L x).getD i dc = { (e.rows.getD x.toNat []).getD i dc with to := placeI L ((e.rows.getD x.toNat []).getD i dc).to } := by
  unfold rrow
  have hl : i < ((e.rows.getD x.toNat []).map fun c => ({ c with to := placeI L c.to } : Cell)).length := by rw [List.length_map]; exact h
  rw [getD_get hl, getD_get h]
  simp only [List.getElem_map]
theorem placeI_at {L : List Int} (hn : L.Nodup) {k : Nat} (hk : k < L.length) : placeI L (L.getD k 0) = k :=
  placeI_some L _ k hk (fun j hj e => by
    rw [getD_get (show j < L.length by omega), getD_get hk] at e
    exact (List.pairwise_iff_getElem.1 (List.nodup_iff_pairwise_ne.1 hn) j k (by omega) hk hj) e) rfl
theorem placeI_mem {L : List Int} {x : Int} : 0 ≤ placeI L x ↔ x ∈ L := by
  constructor
  · intro h
    by_cases hm : x ∈ L
    · exact hm
    · rw [placeI_none L x fun j hj e => hm (by rw [← e]; exact getD_mem hj)] at h; omega
  · intro hm
    unfold placeI
    cases h : L.idxOf? x with
    | none => rw [List.idxOf?_eq_none_iff] at h; exact absurd hm h
    | some i => simp
end Go.Proofs.Ytmjkbidnghcfnaa
