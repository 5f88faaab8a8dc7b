/-
  Plain: relabelling, permutations.
-/
import Derived.Test.YtmjkbidnghcfnaaPM
namespace Go.Proofs.Ytmjkbidnghcfnaa
set_option linter.unusedVariables false
open Go Go.Lift

theorem getD_setL {α : Type} {l : List α} {i j : Nat} {v d : α} : (l.set i v).getD j d = if j = i ∧ i < l.length then v else l.getD j d := by
  simp only [List.getD_eq_getElem?_getD, List.getElem?_set]
  by_cases h : i = j
  · subst h
    by_cases h2 : i < l.length
    · simp [h2]
    · simp [h2, List.getElem?_eq_none (Nat.le_of_not_lt h2)]
  · rw [if_neg h, if_neg (fun e => h e.1.symm)]
/-- the elements of row, put where x says; behind i of them. -/
def scat {α : Type} (x : List Int) (row : List α) (d : α) (n : Nat) : Nat → List α
  | 0 => List.replicate n d
  | i + 1 => (scat x row d n i).set (x.getD i 0).toNat (row.getD i d)
@[simp] theorem scat_len {α : Type} {x : List Int} {row : List α} {d : α} {n : Nat} : ∀ i, (scat x row d n i).length = n
  | 0 => by simp [scat]
  | i + 1 => by simp [scat, scat_len i]
theorem scat_at {α : Type} {x : List Int} {row : List α} {d : α} {n : Nat} : ∀ i, (∀ a b, a < i → b < i → (x.getD a 0).toNat = (x.getD b 0).toNat → a = b) → (∀ a, a < i → (x.getD a 0).toNat < n) → ∀ j, j < i → (scat x row d n i).getD (x.getD j 0).toNat d = row.getD j d
  | 0, _, _, j, hj => absurd hj (Nat.not_lt_zero _)
  | i + 1, hi, hlt, j, hj => by
    show ((scat x row d n i).set (x.getD i 0).toNat (row.getD i d)).getD _ d = _
    rw [getD_setL, scat_len]
    by_cases h : (x.getD j 0).toNat = (x.getD i 0).toNat
    · have := hi j i hj (Nat.lt_succ_self _) h
      subst this
      rw [if_pos ⟨rfl, hlt j hj⟩]
    · rw [if_neg (fun e => h e.1)]
      have hji : j < i := by
        rcases Nat.lt_succ_iff_lt_or_eq.1 hj with h1 | h1
        · exact h1
        · rw [h1] at h; exact absurd rfl h
      exact scat_at i (fun a b ha hb => hi a b (by omega) (by omega)) (fun a ha => hlt a (by omega)) j hji

/-- a list of the numbers below n, each once. -/
structure PermOK (x : List Int) (n : Nat) : Prop where
  len : x.length = n
  lt : ∀ j, j < n → 0 ≤ x.getD j 0 ∧ x.getD j 0 < (n : Int)
  inj : ∀ a b, a < n → b < n → x.getD a 0 = x.getD b 0 → a = b
  surj : ∀ v, v < n → ∃ j, j < n ∧ x.getD j 0 = (v : Int)
theorem PermOK.scat {α : Type} {x : List Int} {n : Nat} (h : PermOK x n) {row : List α} {d : α} {j : Nat} (hj : j < n) : (scat x row d n n).getD (x.getD j 0).toNat d = row.getD j d :=
  scat_at n (fun a b ha hb e => h.inj a b ha hb (by have := h.lt a ha; have := h.lt b hb; omega)) (fun a ha => by have := h.lt a ha; omega) j hj
/-- the numbers in order. -/
def upI (n : Nat) : List Int := (List.range n).map fun (i : Nat) => (i : Int)
@[simp] theorem upI_len {n : Nat} : (upI n).length = n := by simp [upI]
theorem upI_at {n k : Nat} (h : k < n) : (upI n).getD k 0 = (k : Int) := by
  rw [getD_get (by rw [upI_len]; exact h)]; simp [upI]
/-- the inverse of a permutation. -/
def invL (x : List Int) : List Int := scat x (upI x.length) 0 x.length x.length
@[simp] theorem invL_len {x : List Int} : (invL x).length = x.length := by simp [invL]
theorem PermOK.inv_at {x : List Int} {n : Nat} (h : PermOK x n) {j : Nat} (hj : j < n) : (invL x).getD (x.getD j 0).toNat 0 = (j : Int) := by
  unfold invL
  rw [h.len, h.scat hj, upI_at hj]
theorem PermOK.inv {x : List Int} {n : Nat} (h : PermOK x n) : PermOK (invL x) n := by
  have key : ∀ v, v < n → ∃ j, j < n ∧ x.getD j 0 = (v : Int) ∧ (invL x).getD v 0 = (j : Int) := fun v hv => by
    obtain ⟨j, hj, he⟩ := h.surj v hv
    have := h.inv_at hj
    rw [he, Int.toNat_natCast] at this
    exact ⟨j, hj, he, this⟩
  refine ⟨by rw [invL_len, h.len], fun v hv => ?_, fun a b ha hb e => ?_, fun j hj => ?_⟩
  · obtain ⟨j, hj, _, he⟩ := key v hv
    rw [he]; omega
  · obtain ⟨j, hj, e1, e2⟩ := key a ha
    obtain ⟨k, hk, e3, e4⟩ := key b hb
    rw [e2, e4] at e
    have : j = k := by omega
    rw [this] at e1
    rw [e1] at e3
    omega
  · have h1 := h.lt j hj
    exact ⟨(x.getD j 0).toNat, by omega, h.inv_at hj⟩
theorem PermOK.of_perm {x : List Int} {n : Nat} (h : x.Perm (upI n)) : PermOK x n := by
  have hl : x.length = n := by rw [h.length_eq, upI_len]
  have hnd : (upI n).Nodup := by
    unfold upI
    rw [List.nodup_iff_pairwise_ne, List.pairwise_map]
    exact List.nodup_range.imp fun {a b} hne e => hne (by omega)
  have hx : x.Nodup := h.nodup_iff.2 hnd
  have hmem : ∀ v, v ∈ x ↔ 0 ≤ v ∧ v < (n : Int) := fun v => by
    rw [h.mem_iff]
    unfold upI
    rw [List.mem_map]
    constructor
    · rintro ⟨k, hk, rfl⟩
      have := List.mem_range.1 hk
      omega
    · intro hv
      exact ⟨v.toNat, List.mem_range.2 (by omega), by omega⟩
  refine ⟨hl, fun j hj => (hmem _).1 (getD_mem (by omega)), fun a b ha hb e => ?_, fun v hv => ?_⟩
  · have h1 := placeI_at hx (k := a) (by omega)
    have h2 := placeI_at hx (k := b) (by omega)
    rw [e, h2] at h1
    omega
  · obtain ⟨k, h1, _, h3⟩ := first_atI x v ((hmem _).2 (by omega))
    exact ⟨k, by omega, h3⟩

/-- why lists do not relabel. -/
def relCell (m : Int) (x : List Int) (i : Nat) : Int := if x.getD i 0 < 0 ∨ m ≤ x.getD i 0 then 2 else if x.getD i 0 ∈ x.take i then 7 else 0
def relRow (m : Int) (x : List Int) : Int := firstNZ (relCell m x) (List.range x.length)
def badRow (e : Enc) (x : List Int) : Bool := !decide ((x.length : Int) = e.inputs)
def relCheck (e : Enc) (L : List (List Int)) : Int := if checkE e ≠ 0 then 1 else if (L.length : Int) ≠ e.rows.length ∨ L.any (badRow e) = true then 11 else firstNZ (relRow e.inputs) L
/-- the cells of a state, relabelled. -/
def relCells (e : Enc) (L : List (List Int)) (s : Nat) : List Cell := scat (L.getD s []) (e.rows.getD s []) dc (e.rows.getD s []).length (e.rows.getD s []).length
def relE (e : Enc) (L : List (List Int)) : Enc := { e with rows := (List.range e.rows.length).map (relCells e L) }
def relX (e : Enc) (L : List (List Int)) : Enc := if relCheck e L = 0 then relE e L else ⟨0, 0, 0, []⟩
@[simp] theorem relE_len {e : Enc} {L : List (List Int)} : (relE e L).rows.length = e.rows.length := by simp [relE]
theorem relE_row {e : Enc} {L : List (List Int)} {s : Nat} (h : s < e.rows.length) : (relE e L).rows.getD s [] = relCells e L s := by
  rw [getD_get (by rw [relE_len]; exact h)]; simp [relE]
theorem relCells_len {e : Enc} {L : List (List Int)} {s : Nat} : (relCells e L s).length = (e.rows.getD s []).length := by simp [relCells]

theorem range_at {n k : Nat} (h : k < n) : (List.range n).getD k 0 = k := by
  rw [getD_get (by simpa using h)]; simp
/-- lists that relabel. -/
structure Perms (e : Enc) (L : List (List Int)) : Prop where
  len : L.length = e.rows.length
  row : ∀ s, s < e.rows.length → PermOK (L.getD s []) e.inputs.toNat
theorem relRow_ok {m : Nat} {x : List Int} (h : PermOK x m) : relRow m x = 0 := by
  unfold relRow
  refine firstNZ_of fun i hi => ?_
  have hi' : i < m := by rw [← h.len]; exact List.mem_range.1 hi
  unfold relCell
  have h1 := h.lt i hi'
  rw [if_neg (by omega), if_neg]
  intro hm
  obtain ⟨j, hj, he⟩ := List.mem_iff_getElem.1 hm
  have hj' : j < i := by simp only [List.length_take] at hj; omega
  have := h.inj j i (by omega) hi' (by rw [← take_getD hj', getD_get hj]; exact he)
  omega
theorem relCheck_ok {e : Enc} {L : List (List Int)} (hv : checkE e = 0) (h : Perms e L) : relCheck e L = 0 := by
  have hin := (checkE_valid hv).1.inputs
  have hrow : ∀ x ∈ L, PermOK x e.inputs.toNat := fun x hx => by
    obtain ⟨s, hs, rfl⟩ := List.mem_iff_getElem.1 hx
    have hs' : s < e.rows.length := by rw [← h.len]; exact hs
    have := h.row s hs'
    rwa [getD_get hs] at this
  unfold relCheck
  rw [if_neg (by simpa using hv), if_neg]
  · refine firstNZ_of fun x hx => ?_
    have := relRow_ok (hrow x hx)
    rwa [Int.toNat_of_nonneg (by omega)] at this
  · rintro (h1 | h1)
    · have := h.len; omega
    · obtain ⟨x, hx, hb⟩ := List.any_eq_true.1 h1
      have := (hrow x hx).len
      simp only [badRow, Bool.not_eq_true', decide_eq_false_iff_not] at hb
      omega
section
variable {e : Enc} {L : List (List Int)}
/-- a cell that is relabelled. -/
theorem rel_cell (hv : checkE e = 0) (h : Perms e L) {s i : Nat} (hs : s < e.rows.length) (hi : i < e.inputs.toNat) : cellAt (relE e L) s ((L.getD s []).getD i 0).toNat = cellAt e s i := by
  have hr := row_eq hv hs
  have hrl : (e.rows.getD s []).length = e.inputs.toNat := by omega
  unfold cellAt
  rw [relE_row hs]
  unfold relCells
  rw [hrl]
  exact (h.row s hs).scat hi
theorem rel_any (hv : checkE e = 0) (h : Perms e L) {s k : Nat} (hs : s < e.rows.length) (hk : k < e.inputs.toNat) : ∃ i, i < e.inputs.toNat ∧ (L.getD s []).getD i 0 = (k : Int) ∧ cellAt (relE e L) s k = cellAt e s i := by
  obtain ⟨i, hi, he⟩ := (h.row s hs).surj k hk
  refine ⟨i, hi, he, ?_⟩
  rw [← rel_cell hv h hs hi, he, Int.toNat_natCast]
theorem rel_valid (hv : checkE e = 0) (h : Perms e L) : checkE (relE e L) = 0 := by
  obtain ⟨hd, hp, hl, hr⟩ := checkE_valid hv
  rw [checkE_rows (e := relE e L) ⟨hd.letters, hd.block, hd.inputs⟩ (by rw [relE_len]; omega) (by rw [relE_len]; omega)]
  refine firstNZ_of fun r hr' => ?_
  obtain ⟨s, hs, rfl⟩ := List.mem_map.1 hr'
  have hs' : s < e.rows.length := List.mem_range.1 hs
  have hre := row_eq hv hs'
  unfold rowCheck
  rw [if_neg (by rw [relCells_len]; show ¬ _ ≠ e.inputs; omega)]
  refine firstNZ_of fun c hc => ?_
  obtain ⟨k, hk, he⟩ := List.mem_iff_getElem.1 hc
  have hk' : k < e.inputs.toNat := by rw [relCells_len] at hk; omega
  obtain ⟨i, hi, _, h2⟩ := rel_any hv h hs' hk'
  have hck : cellAt (relE e L) s k = c := by
    unfold cellAt
    rw [relE_row hs', getD_get hk]; exact he
  rw [hck] at h2
  have h4 := (rowCheck_valid (hr _ (getD_mem (d := []) hs'))).2 _ (getD_mem (d := dc) (show i < (e.rows.getD s []).length by omega))
  have h5 : (e.rows.getD s []).getD i dc = c := h2.symm
  rw [h5] at h4
  unfold cellCheck at h4 ⊢
  rw [relE_len]
  exact h4
/-- the inverse lists. -/
def invs (L : List (List Int)) : List (List Int) := L.map invL
theorem invs_at {s : Nat} (h : s < L.length) : (invs L).getD s [] = invL (L.getD s []) := by
  unfold invs
  rw [getD_get (by rw [List.length_map]; exact h), getD_get h, List.getElem_map]
theorem rel_inv (h : Perms e L) : Perms (relE e L) (invs L) := by
  refine ⟨by rw [relE_len]; unfold invs; rw [List.length_map]; exact h.len, fun s hs => ?_⟩
  rw [relE_len] at hs
  rw [invs_at (by rw [h.len]; exact hs)]
  exact (h.row s hs).inv
/-- relabelling can be undone. -/
theorem rel_again (hv : checkE e = 0) (h : Perms e L) : relE (relE e L) (invs L) = e := by
  have hv2 := rel_valid hv h
  have h2 := rel_inv h
  have hrows : (relE (relE e L) (invs L)).rows = e.rows := by
    apply List.ext_getElem
    · rw [relE_len, relE_len]
    · intro s hs1 hs
      have hs2 : s < (relE e L).rows.length := by rw [relE_len]; exact hs
      rw [← getD_get (d := []) hs1, ← getD_get (d := []) hs, relE_row hs2]
      have hr := row_eq hv hs
      apply List.ext_getElem
      · rw [relCells_len, relE_row hs, relCells_len]
      · intro j hj1 hj
        have hj' : j < e.inputs.toNat := by omega
        have hp := (h.row s hs)
        have hx := hp.lt j hj'
        have hc := rel_cell hv2 h2 (s := s) (i := ((L.getD s []).getD j 0).toNat) hs2 (by show _ < e.inputs.toNat; omega)
        rw [invs_at (by rw [h.len]; exact hs), hp.inv_at hj', Int.toNat_natCast, rel_cell hv h hs hj'] at hc
        rw [← getD_get (d := dc) hj1, ← getD_get (d := dc) hj]
        unfold cellAt at hc
        rw [relE_row hs2] at hc
        exact hc
  have h3 : relE (relE e L) (invs L) = { e with rows := (relE (relE e L) (invs L)).rows } := rfl
  rw [h3, hrows]
/-- the relabelled inputs. -/
def mapE (e : Enc) (L : List (List Int)) (s : Int) : List Int → List Int
  | [] => []
  | i :: r => (L.getD s.toNat []).getD i.toNat 0 :: mapE e L (cellAt e s.toNat i.toNat).to r
theorem mapE_snoc : ∀ {l : List Int} {s i : Int}, mapE e L s (l ++ [i]) = mapE e L s l ++ [(L.getD (runE e s l).2.toNat []).getD i.toNat 0]
  | [], s, i => rfl
  | x :: l, s, i => by
    simp only [List.cons_append, mapE, runE]
    rw [mapE_snoc (l := l)]
@[simp] theorem mapE_len : ∀ {l : List Int} {s : Int}, (mapE e L s l).length = l.length
  | [], _ => rfl
  | x :: l, s => by simp only [mapE, List.length_cons]; rw [mapE_len (l := l)]
theorem rel_run (hv : checkE e = 0) (h : Perms e L) : ∀ {l : List Int} {s : Int}, 0 ≤ s → s < (e.rows.length : Int) → (∀ i ∈ l, badI e i = false) → runE (relE e L) s (mapE e L s l) = runE e s l ∧ ∀ i ∈ mapE e L s l, badI (relE e L) i = false
  | [], s, _, _, _ => ⟨rfl, fun i hi => by cases hi⟩
  | i :: l, s, h0, h1, h2 => by
    have hi := bad_no.1 (h2 i (by simp))
    have hr := row_eq hv (k := s.toNat) (by omega)
    have hc := cell_to hv (s := s.toNat) (i := i.toNat) (by omega) (by omega)
    obtain ⟨k1, k2⟩ := rel_run hv h (l := l) hc.1 hc.2 (fun x hx => h2 x (by simp [hx]))
    have hp := (h.row s.toNat (by omega)).lt i.toNat (by omega)
    have hcell := rel_cell hv h (s := s.toNat) (i := i.toNat) (by omega) (by omega)
    simp only [mapE, runE]
    refine ⟨?_, fun y hy => ?_⟩
    · rw [hcell, k1]
    · rcases List.mem_cons.1 hy with e1 | e1
      · rw [e1]; exact bad_no.2 ⟨hp.1, by show _ < e.inputs; omega⟩
      · exact k2 y e1
end
/-- where the next number is taken from. -/
def pickAt (l : List UInt8) (t n : Nat) : Nat := if t < l.length then (l.getD t 0).toNat % n else 0
/-- j numbers are taken: what is taken, what is left. -/
def takenL (l : List UInt8) (t n : Nat) : Nat → List Int × List Int
  | 0 => ([], upI n)
  | j + 1 => ((takenL l t n j).1 ++ [(takenL l t n j).2.getD (pickAt l (t + j) (takenL l t n j).2.length) 0], (takenL l t n j).2.eraseIdx (pickAt l (t + j) (takenL l t n j).2.length))
theorem perm_erase {L : List Int} {i : Nat} (h : i < L.length) : (L[i] :: L.eraseIdx i).Perm L := by
  rw [List.eraseIdx_eq_take_drop_succ]
  refine List.perm_middle.symm.trans ?_
  rw [List.getElem_cons_drop, List.take_append_drop]
theorem pickAt_lt {l : List UInt8} {t n : Nat} (h : 0 < n) : pickAt l t n < n := by
  unfold pickAt; split
  · exact Nat.mod_lt _ h
  · exact h
theorem takenL_ok {l : List UInt8} {t n : Nat} : ∀ j, j ≤ n → (takenL l t n j).1.length = j ∧ (takenL l t n j).2.length = n - j ∧ ((takenL l t n j).1 ++ (takenL l t n j).2).Perm (upI n)
  | 0, _ => by simp [takenL]
  | j + 1, hj => by
    obtain ⟨h1, h2, h3⟩ := takenL_ok (l := l) (t := t) (n := n) j (by omega)
    have hp := pickAt_lt (l := l) (t := t + j) (n := (takenL l t n j).2.length) (by omega)
    simp only [takenL]
    refine ⟨by simp [h1], by rw [List.length_eraseIdx, if_pos hp, h2]; omega, ?_⟩
    refine List.Perm.trans ?_ h3
    rw [List.append_assoc]
    refine List.Perm.append_left _ ?_
    rw [getD_get hp]
    exact perm_erase hp
/-- what permutations makes. -/
def permL (e : Enc) (l : List UInt8) (s : Nat) : List Int := (takenL l (s * e.inputs.toNat) e.inputs.toNat e.inputs.toNat).1
def permsL (e : Enc) (l : List UInt8) : List (List Int) := (List.range e.rows.length).map (permL e l)
theorem permsL_at {e : Enc} {l : List UInt8} {s : Nat} (h : s < e.rows.length) : (permsL e l).getD s [] = permL e l s := by
  unfold permsL
  rw [getD_get (by simpa using h)]; simp
theorem perms_ok {e : Enc} {l : List UInt8} : Perms e (permsL e l) := by
  refine ⟨by simp [permsL], fun s hs => ?_⟩
  rw [permsL_at hs]
  obtain ⟨h1, h2, h3⟩ := takenL_ok (l := l) (t := s * e.inputs.toNat) (n := e.inputs.toNat) e.inputs.toNat (Nat.le_refl _)
  have : (takenL l (s * e.inputs.toNat) e.inputs.toNat e.inputs.toNat).2 = [] := List.length_eq_zero_iff.1 (by omega)
  rw [this, List.append_nil] at h3
  exact PermOK.of_perm h3
end Go.Proofs.Ytmjkbidnghcfnaa
