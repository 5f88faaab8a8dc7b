/-
  Plain laws of this seat: the order in which states are reached.
-/
import Derived.Test.YtmjkbidnghcfnaaPF
namespace Go.Proofs.Ytmjkbidnghcfnaa
set_option linter.unusedSimpArgs false
set_option linter.unusedVariables false
open Go Go.Lift

/-- one more number, unless it is there. -/
def ordStep (L : List Int) (x : Int) : List Int := if x ∈ L then L else L ++ [x]
/-- the list behind i cells of the state x. -/
def ordRow (e : Enc) (L : List Int) (x : Nat) (i : Nat) : List Int := (List.range i).foldl (fun L j => ordStep L (cellAt e x j).to) L
def ordAt (e : Enc) (s : Nat) : Nat → List Int
  | 0 => [(s : Int)]
  | k + 1 => if k < (ordAt e s k).length then ordRow e (ordAt e s k) ((ordAt e s k).getD k 0).toNat e.inputs.toNat else ordAt e s k
/-- the states that are reached from s, in the order in which they are found. -/
def ordE (e : Enc) (s : Nat) : List Int := ordAt e s e.rows.length
@[simp] theorem ordRow_zero {e : Enc} {L : List Int} {x : Nat} : ordRow e L x 0 = L := rfl
theorem ordRow_succ {e : Enc} {L : List Int} {x i : Nat} : ordRow e L x (i + 1) = ordStep (ordRow e L x i) (cellAt e x i).to := by simp [ordRow, List.range_succ]
/-- a list of states, none of them twice. -/
structure OrdOK (e : Enc) (L : List Int) : Prop where
  nodup : L.Nodup
  lt : ∀ x ∈ L, 0 ≤ x ∧ x < (e.rows.length : Int)
theorem OrdOK.step {e : Enc} {L : List Int} (h : OrdOK e L) {x : Int} (hx : 0 ≤ x ∧ x < (e.rows.length : Int)) : OrdOK e (ordStep L x) := by
  unfold ordStep
  split
  · exact h
  · rename_i hn
    refine ⟨?_, fun y hy => ?_⟩
    · rw [List.nodup_append]
      refine ⟨h.nodup, by simp, fun a ha b hb e => ?_⟩
      have : b = x := by simpa using hb
      rw [e, this] at ha; exact hn ha
    · rcases List.mem_append.1 hy with h1 | h1
      · exact h.lt y h1
      · have : y = x := by simpa using h1
        rw [this]; exact hx
theorem ordStep_pre {L : List Int} {x : Int} : L <+: ordStep L x := by
  unfold ordStep; split
  · exact List.prefix_refl _
  · exact List.prefix_append _ _
theorem ordRow_pre {e : Enc} {L : List Int} {x : Nat} : ∀ i, L <+: ordRow e L x i
  | 0 => List.prefix_refl _
  | i + 1 => by rw [ordRow_succ]; exact (ordRow_pre i).trans ordStep_pre
theorem ordRow_ok {e : Enc} (hv : checkE e = 0) {L : List Int} {x : Nat} (hx : x < e.rows.length) (h : OrdOK e L) : ∀ i, i ≤ e.inputs.toNat → OrdOK e (ordRow e L x i)
  | 0, _ => h
  | i + 1, hi => by
    rw [ordRow_succ]
    exact (ordRow_ok hv hx h i (by omega)).step (cell_to hv hx (row_i hv hx (by omega)))
theorem ordAt_ok {e : Enc} (hv : checkE e = 0) {s : Nat} (hs : s < e.rows.length) : ∀ k, OrdOK e (ordAt e s k)
  | 0 => ⟨by simp [ordAt], fun x hx => by
    have : x = (s : Int) := by simpa [ordAt] using hx
    omega⟩
  | k + 1 => by
    have h := ordAt_ok hv hs k
    unfold ordAt
    split
    · rename_i hk
      have := h.lt _ (getD_mem (d := 0) hk)
      exact ordRow_ok hv (by omega) h _ (Nat.le_refl _)
    · exact h
theorem pre_getD {L M : List Int} (h : L <+: M) {k : Nat} (hk : k < L.length) : M.getD k 0 = L.getD k 0 := by
  obtain ⟨N, rfl⟩ := h
  simp only [List.getD_eq_getElem?_getD]; rw [List.getElem?_append_left hk]
theorem ordAt_pre {e : Enc} {s : Nat} : ∀ k, ordAt e s k <+: ordAt e s (k + 1) := fun k => by
  show _ <+: if _ then _ else _
  split
  · exact ordRow_pre _
  · exact List.prefix_refl _
theorem nodup_le : ∀ {n : Nat} {L : List Int}, L.Nodup → (∀ x ∈ L, 0 ≤ x ∧ x < (n : Int)) → L.length ≤ n
  | 0, [], _, _ => Nat.le_refl _
  | 0, x :: L, _, h => by have := h x List.mem_cons_self; omega
  | n + 1, L, hn, h => by
    by_cases hm : (n : Int) ∈ L
    · have h1 := nodup_le (n := n) (L := L.erase (n : Int)) (hn.erase _) fun x hx => by
        have h2 := h x (List.mem_of_mem_erase hx)
        have h3 : x ≠ (n : Int) := fun e => by rw [e] at hx; exact (hn.not_mem_erase) hx
        omega
      rw [List.length_erase_of_mem hm] at h1
      omega
    · have := nodup_le (n := n) hn fun x hx => by
        have h2 := h x hx
        have h3 : x ≠ (n : Int) := fun e => by rw [e] at hx; exact hm hx
        omega
      omega
theorem OrdOK.len {e : Enc} {L : List Int} (h : OrdOK e L) : L.length ≤ e.rows.length := nodup_le h.nodup h.lt
theorem ordAt_stay {e : Enc} {s k : Nat} (h : (ordAt e s k).length ≤ k) : ∀ j, ordAt e s (k + j) = ordAt e s k
  | 0 => rfl
  | j + 1 => by
    have ih := ordAt_stay h j
    show (if k + j < (ordAt e s (k + j)).length then _ else _) = _
    rw [ih, if_neg (by omega)]
    exact ih
/-- where the list is at its end, it is the whole. -/
theorem ordAt_end {e : Enc} {s k : Nat} (h : (ordAt e s k).length ≤ k) (hk : k ≤ e.rows.length) : ordE e s = ordAt e s k := by
  unfold ordE
  have := ordAt_stay h (e.rows.length - k)
  rwa [show k + (e.rows.length - k) = e.rows.length by omega] at this
theorem ordE_ok {e : Enc} (hv : checkE e = 0) {s : Nat} (hs : s < e.rows.length) : OrdOK e (ordE e s) := ordAt_ok hv hs _
theorem ordRow_mem {e : Enc} {L : List Int} {x : Nat} : ∀ i j, j < i → (cellAt e x j).to ∈ ordRow e L x i
  | i + 1, j, h => by
    rw [ordRow_succ]
    by_cases e2 : j = i
    · subst e2
      unfold ordStep; split
      · assumption
      · exact List.mem_append_right _ (by simp)
    · exact ordStep_pre.subset (ordRow_mem i j (by omega))
/-- whatever cells of found states lead to is found. -/
theorem ordAt_closed {e : Enc} {s : Nat} : ∀ k m, m < k → m < (ordAt e s k).length → ∀ j, j < e.inputs.toNat → (cellAt e ((ordAt e s k).getD m 0).toNat j).to ∈ ordAt e s k
  | k + 1, m, h, hm, j, hj => by
    by_cases hk : k < (ordAt e s k).length
    · have e1 : ordAt e s (k + 1) = ordRow e (ordAt e s k) ((ordAt e s k).getD k 0).toNat e.inputs.toNat := if_pos hk
      have e2 : (ordAt e s (k + 1)).getD m 0 = (ordAt e s k).getD m 0 := pre_getD (ordAt_pre k) (by omega)
      rw [e2]
      by_cases e3 : m = k
      · subst e3; rw [e1]; exact ordRow_mem _ j hj
      · exact (ordAt_pre k).subset (ordAt_closed k m (by omega) (by omega) j hj)
    · have e1 : ordAt e s (k + 1) = ordAt e s k := if_neg hk
      rw [e1] at hm ⊢
      exact ordAt_closed k m (by omega) hm j hj
theorem ordE_closed {e : Enc} (hv : checkE e = 0) {s : Nat} (hs : s < e.rows.length) {x : Int} (hx : x ∈ ordE e s) {j : Nat} (hj : j < e.inputs.toNat) : (cellAt e x.toNat j).to ∈ ordE e s := by
  have ho := ordE_ok hv hs
  obtain ⟨m, hm, rfl⟩ := List.mem_iff_getElem.1 hx
  have := ordAt_closed (e := e) (s := s) e.rows.length m (Nat.lt_of_lt_of_le hm ho.len) hm j hj
  rwa [show (ordAt e s e.rows.length).getD m 0 = (ordE e s)[m] from getD_get hm] at this
end Go.Proofs.Ytmjkbidnghcfnaa

namespace Go.Proofs.Ytmjkbidnghcfnaa
set_option linter.unusedSimpArgs false
set_option linter.unusedVariables false
open Go Go.Lift

theorem alPut_keys : ∀ (m : List (List UInt8 × Bool)) (k : List UInt8), (alPut m k true).map Prod.fst = if k ∈ m.map Prod.fst then m.map Prod.fst else m.map Prod.fst ++ [k]
  | [], k => by simp [alPut]
  | (a, b) :: m, k => by
    simp only [alPut]
    by_cases h : k = a
    · subst h; simp
    · rw [if_neg h, List.map_cons, alPut_keys m k]
      by_cases h2 : k ∈ m.map Prod.fst
      · rw [if_pos h2, if_pos (by simp only [List.map_cons, List.mem_cons]; exact .inr h2)]; rfl
      · rw [if_neg h2, if_neg (by simp only [List.map_cons, List.mem_cons]; exact fun h3 => h3.elim h h2)]; rfl
/-- the words of the first s rows, and of i cells of the next one. -/
def wAt (e : Enc) (s i : Nat) : List (List UInt8) := (putWords (putRows [] (e.rows.take s)) ((e.rows.getD s []).take i)).map Prod.fst
theorem wAt_zero {e : Enc} : wAt e 0 0 = [] := by simp [wAt, putWords, putRows]
theorem wAt_succ {e : Enc} {s i : Nat} (h : i < (e.rows.getD s []).length) : wAt e s (i + 1) = if ((e.rows.getD s []).getD i dc).word ∈ wAt e s i then wAt e s i else wAt e s i ++ [((e.rows.getD s []).getD i dc).word] := by
  unfold wAt
  rw [putWords_succ h, alPut_keys]
theorem wAt_next {e : Enc} {s i : Nat} (hs : s < e.rows.length) (hi : (e.rows.getD s []).length ≤ i) : wAt e s i = wAt e (s + 1) 0 := by
  unfold wAt
  rw [List.take_of_length_le hi, putRows_succ hs]
  simp [putWords]
theorem wAt_all {e : Enc} : (wAt e e.rows.length 0).length = (putRows [] e.rows).length := by
  unfold wAt
  rw [List.take_length]
  simp [putWords]
theorem wAt_len {e : Enc} {n : Nat} (h : ∀ r ∈ e.rows, r.length = n) {s i : Nat} (hs : s ≤ e.rows.length) : (wAt e s i).length ≤ s * n + i := by
  unfold wAt
  rw [List.length_map]
  have h1 := putRows_len (n := n) (e.rows.take s) [] fun r hr => h r (List.mem_of_mem_take hr)
  have h2 := putWords_len ((e.rows.getD s []).take i) (putRows [] (e.rows.take s))
  rw [List.length_take] at h1 h2
  have h3 : min s e.rows.length = s := Nat.min_eq_left hs
  rw [h3] at h1
  simp only [List.length_nil] at h1
  omega
/-- the row of a state, its cells leading to places in a list. -/
def rrow (e : Enc) (L : List Int) (x : Int) : List Cell := (e.rows.getD x.toNat []).map fun c => { c with to := placeI L c.to }
def reachE (e : Enc) (s : Nat) : Enc := { e with rows := (ordE e s).map (rrow e (ordE e s)) }
theorem rrow_len {e : Enc} {L : List Int} {x : Int} : (rrow e L x).length = (e.rows.getD x.toNat []).length := by simp [rrow]
theorem rrow_at {e : Enc} {L : List Int} {x : Int} {i : Nat} (h : i < (e.rows.getD x.toNat []).length) : (rrow e L x).getD i dc = { (e.rows.getD x.toNat []).getD i dc with to := placeI L ((e.rows.getD x.toNat []).getD i dc).to } := by
  unfold rrow
  have hl : i < ((e.rows.getD x.toNat []).map fun c => ({ c with to := placeI L c.to } : Cell)).length := by rw [List.length_map]; exact h
  rw [getD_get hl, getD_get h]
  simp only [List.getElem_map]
theorem placeI_at {L : List Int} (hn : L.Nodup) {k : Nat} (hk : k < L.length) : placeI L (L.getD k 0) = k :=
  placeI_some L _ k hk (fun j hj e => by
    rw [getD_get (show j < L.length by omega), getD_get hk] at e
    exact (List.pairwise_iff_getElem.1 (List.nodup_iff_pairwise_ne.1 hn) j k (by omega) hk hj) e) rfl
theorem placeI_mem {L : List Int} {x : Int} : 0 ≤ placeI L x ↔ x ∈ L := by
  constructor
  · intro h
    by_cases hm : x ∈ L
    · exact hm
    · rw [placeI_none L x fun j hj e => hm (by rw [← e]; exact getD_mem hj)] at h; omega
  · intro hm
    unfold placeI
    cases h : L.idxOf? x with
    | none => rw [List.idxOf?_eq_none_iff] at h; exact absurd hm h
    | some i => simp
end Go.Proofs.Ytmjkbidnghcfnaa
