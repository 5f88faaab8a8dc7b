/-
  Plain: the encoder of the reached states; what is reached in it.
-/
import Derived.Test.YtmjkbidnghcfnaaPK
import Derived.Test.YtmjkbidnghcfnaaPI
namespace Go.Proofs.Ytmjkbidnghcfnaa
set_option linter.unusedVariables false
open Go Go.Lift

theorem placeI_get {L : List Int} (hn : L.Nodup) {x : Int} (hx : x ∈ L) : 0 ≤ placeI L x ∧ placeI L x < (L.length : Int) ∧ L.getD (placeI L x).toNat 0 = x := by
  obtain ⟨k, h1, _, h3⟩ := first_atI L x hx
  have := placeI_at hn h1
  rw [h3] at this
  rw [this]
  exact ⟨by omega, by omega, by simpa using h3⟩

section
variable {e : Enc}
/-- the first of what is reached. -/
theorem ordAt_first {s : Nat} : ∀ k, 0 < (ordAt e s k).length ∧ (ordAt e s k).getD 0 0 = (s : Int)
  | 0 => ⟨by simp [ordAt], by simp [ordAt]⟩
  | k + 1 => by
    obtain ⟨h1, h2⟩ := ordAt_first (s := s) k
    have hp := ordAt_pre (e := e) (s := s) k
    exact ⟨Nat.lt_of_lt_of_le h1 hp.length_le, by rw [pre_getD hp h1]; exact h2⟩
theorem ordE_pre {s : Nat} : ∀ j k, ordAt e s k <+: ordAt e s (k + j)
  | 0, k => List.prefix_refl _
  | j + 1, k => (ordE_pre j k).trans (ordAt_pre (k + j))
theorem ordAt_le (hv : checkE e = 0) {s : Nat} (hs : s < e.rows.length) (k : Nat) : ordAt e s k <+: ordE e s := by
  by_cases hk : k ≤ e.rows.length
  · have := ordE_pre (e := e) (s := s) (e.rows.length - k) k
    rw [show k + (e.rows.length - k) = e.rows.length by omega] at this
    exact this
  · have h1 := (ordE_ok hv hs).len
    have h2 := ordAt_stay (e := e) (s := s) (k := e.rows.length) h1 (k - e.rows.length)
    rw [show e.rows.length + (k - e.rows.length) = k by omega] at h2
    rw [h2]
    exact List.prefix_refl _
theorem ordE_own (hv : checkE e = 0) {s : Nat} (hs : s < e.rows.length) : ordAt e s (ordE e s).length = ordE e s := by
  have h1 := (ordAt_le hv hs (ordE e s).length).length_le
  have h2 := (ordE_ok hv hs).len
  exact (ordAt_end h1 h2).symm
theorem ordE_first (hv : checkE e = 0) {s : Nat} (hs : s < e.rows.length) : 0 < (ordE e s).length ∧ (ordE e s).getD 0 0 = (s : Int) := ordAt_first _

/-- a cell of the encoder of what is reached. -/
theorem reach_cell (hv : checkE e = 0) {s : Nat} (hs : s < e.rows.length) {x : Int} (hx : x ∈ ordE e s) {i : Nat} (hi : (i : Int) < e.inputs) :
    (cellAt (reachE e s) (placeI (ordE e s) x).toNat i).word = (cellAt e x.toNat i).word ∧ (cellAt (reachE e s) (placeI (ordE e s) x).toNat i).to = placeI (ordE e s) (cellAt e x.toNat i).to ∧ (cellAt e x.toNat i).to ∈ ordE e s := by
  have hok := ordE_ok hv hs
  obtain ⟨h1, h2, h3⟩ := placeI_get hok.nodup hx
  have hlt := hok.lt x hx
  have hr := row_i hv (s := x.toNat) (by omega) hi
  have hrow : (reachE e s).rows.getD (placeI (ordE e s) x).toNat [] = rrow e (ordE e s) x := by
    show ((ordE e s).map (rrow e (ordE e s))).getD _ [] = _
    have hk : (placeI (ordE e s) x).toNat < (ordE e s).length := by omega
    rw [getD_get (by rw [List.length_map]; exact hk), List.getElem_map]
    rw [getD_get hk] at h3
    rw [h3]
  unfold cellAt
  rw [hrow, rrow_at hr]
  exact ⟨rfl, rfl, ordE_closed hv hs hx (by omega)⟩
theorem reach_valid (hv : checkE e = 0) {s : Nat} (hs : s < e.rows.length) : checkE (reachE e s) = 0 := by
  obtain ⟨hd, hp, hl, hr⟩ := checkE_valid hv
  have hok := ordE_ok hv hs
  have hlen : (reachE e s).rows.length = (ordE e s).length := List.length_map ..
  have h1 := hok.len
  have h2 := (ordE_first hv hs).1
  rw [checkE_rows (e := reachE e s) ⟨hd.letters, hd.block, hd.inputs⟩ (by omega) (by omega)]
  refine firstNZ_of fun r hr' => ?_
  obtain ⟨x, hx, rfl⟩ := List.mem_map.1 hr'
  have hxl := hok.lt x hx
  unfold rowCheck
  rw [if_neg (by rw [rrow_len]; have := row_eq hv (k := x.toNat) (by omega); show ¬ _ ≠ e.inputs; omega)]
  refine firstNZ_of fun c hc' => ?_
  obtain ⟨c0, hc0, rfl⟩ := List.mem_map.1 hc'
  have h4 := (rowCheck_valid (hr _ (getD_mem (d := []) (show x.toNat < e.rows.length by omega)))).2 c0 hc0
  obtain ⟨i, hi, he⟩ := List.mem_iff_getElem.1 hc0
  have hg : cellAt e x.toNat i = c0 := by unfold cellAt; rw [getD_get hi]; exact he
  have hre := row_eq hv (k := x.toNat) (by omega)
  have hin := ordE_closed hv hs hx (j := i) (by omega)
  rw [hg] at hin
  obtain ⟨k1, k2, _⟩ := placeI_get hok.nodup hin
  unfold cellCheck at h4 ⊢
  split at h4
  · cases h4
  · split at h4
    · cases h4
    · rename_i g1 g2
      rw [if_neg (by show ¬ (placeI (ordE e s) c0.to < 0 ∨ _ ≤ placeI (ordE e s) c0.to); omega), if_neg (by exact g2)]
/-- what is written there. -/
theorem reach_run (hv : checkE e = 0) {s : Nat} (hs : s < e.rows.length) : ∀ {l : List Int} {x : Int}, x ∈ ordE e s → (∀ i ∈ l, badI e i = false) →
    runE (reachE e s) (placeI (ordE e s) x) l = ((runE e x l).1, placeI (ordE e s) (runE e x l).2) ∧ (runE e x l).2 ∈ ordE e s
  | [], x, hx, _ => ⟨rfl, hx⟩
  | i :: l, x, hx, h2 => by
    have hi := bad_no.1 (h2 i (by simp))
    obtain ⟨k1, k2, k3⟩ := reach_cell hv hs hx (i := i.toNat) (by omega)
    obtain ⟨h3, h4⟩ := reach_run hv hs (l := l) k3 (fun x hx => h2 x (by simp [hx]))
    simp only [runE]
    rw [k1, k2, h3]
    exact ⟨rfl, h4⟩

theorem ordStep_map {L K : List Int} (hn : L.Nodup) (hK : ∀ y ∈ K, y ∈ L) {x : Int} (hx : x ∈ L) : ordStep (K.map (placeI L)) (placeI L x) = (ordStep K x).map (placeI L) := by
  unfold ordStep
  have hiff : placeI L x ∈ K.map (placeI L) ↔ x ∈ K := by
    constructor
    · intro h
      obtain ⟨y, hy, he⟩ := List.mem_map.1 h
      have h1 := (placeI_get hn (hK y hy)).2.2
      have h2 := (placeI_get hn hx).2.2
      rw [he, h2] at h1
      rw [h1]; exact hy
    · intro h; exact List.mem_map.2 ⟨x, h, rfl⟩
  by_cases hm : x ∈ K
  · rw [if_pos (hiff.2 hm), if_pos hm]
  · rw [if_neg (fun h => hm (hiff.1 h)), if_neg hm]; simp
theorem ordRow_map (hv : checkE e = 0) {s : Nat} (hs : s < e.rows.length) {K : List Int} (hK : ∀ y ∈ K, y ∈ ordE e s) {x : Int} (hx : x ∈ ordE e s) : ∀ i, i ≤ e.inputs.toNat →
    ordRow (reachE e s) (K.map (placeI (ordE e s))) (placeI (ordE e s) x).toNat i = (ordRow e K x.toNat i).map (placeI (ordE e s)) ∧ ∀ y ∈ ordRow e K x.toNat i, y ∈ ordE e s
  | 0, _ => ⟨rfl, hK⟩
  | i + 1, hi => by
    obtain ⟨h1, h2⟩ := ordRow_map hv hs hK hx i (by omega)
    obtain ⟨k1, k2, k3⟩ := reach_cell hv hs hx (i := i) (by omega)
    rw [ordRow_succ, ordRow_succ, h1, k2, ordStep_map (ordE_ok hv hs).nodup h2 k3]
    refine ⟨rfl, fun y hy => ?_⟩
    unfold ordStep at hy
    split at hy
    · exact h2 y hy
    · rcases List.mem_append.1 hy with h4 | h4
      · exact h2 y h4
      · have : y = (cellAt e x.toNat i).to := by simpa using h4
        rw [this]; exact k3
theorem ordAt_map (hv : checkE e = 0) {s : Nat} (hs : s < e.rows.length) : ∀ k, ordAt (reachE e s) 0 k = (ordAt e s k).map (placeI (ordE e s))
  | 0 => by
    have h := ordE_first hv hs
    have h1 := placeI_at (ordE_ok hv hs).nodup h.1
    rw [h.2] at h1
    simp [ordAt, h1]
  | k + 1 => by
    have ih := ordAt_map hv hs k
    simp only [ordAt]
    rw [ih, List.length_map]
    by_cases hk : k < (ordAt e s k).length
    · rw [if_pos hk, if_pos hk]
      have hpre := ordAt_le hv hs k
      have hkL : k < (ordE e s).length := Nat.lt_of_lt_of_le hk hpre.length_le
      have hx : (ordAt e s k).getD k 0 ∈ ordE e s := hpre.subset (getD_mem hk)
      have hg : ((ordAt e s k).map (placeI (ordE e s))).getD k 0 = placeI (ordE e s) ((ordAt e s k).getD k 0) := by
        rw [getD_get (by rw [List.length_map]; exact hk), getD_get hk, List.getElem_map]
      rw [hg]
      exact (ordRow_map hv hs (fun y hy => hpre.subset hy) hx e.inputs.toNat (Nat.le_refl _)).1
    · rw [if_neg hk, if_neg hk]
/-- in the encoder of what is reached, the states are reached in their order. -/
theorem reach_ord (hv : checkE e = 0) {s : Nat} (hs : s < e.rows.length) : (ordE (reachE e s) 0).length = (ordE e s).length ∧ ∀ k, k < (ordE e s).length → (ordE (reachE e s) 0).getD k 0 = (k : Int) := by
  have hlen : (reachE e s).rows.length = (ordE e s).length := List.length_map ..
  have hE : ordE (reachE e s) 0 = (ordE e s).map (placeI (ordE e s)) := by
    show ordAt (reachE e s) 0 (reachE e s).rows.length = _
    rw [hlen, ordAt_map hv hs, ordE_own hv hs]
  rw [hE]
  refine ⟨List.length_map .., fun k hk => ?_⟩
  rw [getD_get (by rw [List.length_map]; exact hk), List.getElem_map, ← getD_get (d := 0) hk]
  exact placeI_at (ordE_ok hv hs).nodup hk
theorem reach_again (hv : checkE e = 0) {s : Nat} (hs : s < e.rows.length) : reachE (reachE e s) 0 = reachE e s := by
  have hv2 := reach_valid hv hs
  obtain ⟨h1, h2⟩ := reach_ord hv hs
  have hlen : (reachE e s).rows.length = (ordE e s).length := List.length_map ..
  have hp := (ordE_first hv hs).1
  have hok := ordE_ok hv2 (s := 0) (by omega)
  have hrows : (reachE (reachE e s) 0).rows = (reachE e s).rows := by
    show (ordE (reachE e s) 0).map (rrow (reachE e s) (ordE (reachE e s) 0)) = _
    apply List.ext_getElem
    · rw [List.length_map, h1, hlen]
    · intro k hk hk2
      have hkL : k < (ordE e s).length := by omega
      rw [List.getElem_map, ← getD_get (d := 0) (by omega), h2 k hkL]
      unfold rrow
      rw [Int.toNat_natCast, getD_get hk2]
      refine (List.map_congr_left (g := id) fun c hc => ?_).trans (List.map_id _)
      have hcc := (rowCheck_valid ((checkE_valid hv2).2.2.2 _ (List.getElem_mem hk2))).2 c hc
      unfold cellCheck at hcc
      split at hcc
      · cases hcc
      · have h3 := placeI_at hok.nodup (k := c.to.toNat) (by omega)
        rw [h2 c.to.toNat (by omega), Int.toNat_of_nonneg (by omega)] at h3
        show ({ c with to := _ } : Cell) = c
        rw [h3]
  have h3 : reachE (reachE e s) 0 = { reachE e s with rows := (reachE (reachE e s) 0).rows } := rfl
  rw [h3, hrows]
end
end Go.Proofs.Ytmjkbidnghcfnaa
