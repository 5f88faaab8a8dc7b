/-
  Plain: sums and products of graphs.
-/
import Derived.Test.YtddghlnaocjjkaaPE
namespace Go.Proofs.Ytddghlnaocjjkaa
set_option linter.unusedSimpArgs false
set_option linter.unusedVariables false
open Go Go.Lift

def chk2N (g h : Gr) : Int := if gcheck g ≠ 0 ∨ gcheck h ≠ 0 then 1 else if g.labels ≠ h.labels then 11 else 0
theorem chk2_ok {g h : Gr} (h0 : chk2N g h = 0) : gcheck g = 0 ∧ gcheck h = 0 ∧ g.labels = h.labels := by
  unfold chk2N at h0
  split at h0
  · cases h0
  · rename_i h1
    split at h0
    · cases h0
    · rename_i h2
      exact ⟨Classical.byContradiction fun e => h1 (.inl e), Classical.byContradiction fun e => h1 (.inr e), Classical.not_not.1 h2⟩
/-- an edge among the states behind those of the first graph. -/
def shiftE (S : Int) (x : Edge) : Edge := ⟨x.frm + S, x.lab, x.to + S⟩
def sumAt (g h : Gr) (m : Nat) : List Edge := g.edges ++ (h.edges.take m).map (shiftE g.states)
def sumL (g h : Gr) : List Edge := g.edges ++ h.edges.map (shiftE g.states)
def sumX (g h : Gr) : Gr := if chk2N g h = 0 then ⟨g.labels, g.states + h.states, sumL g h⟩ else ⟨0, 0, []⟩
theorem sumAt_zero {g h : Gr} : sumAt g h 0 = g.edges := by simp [sumAt]
theorem sumAt_succ {g h : Gr} {m : Nat} (hm : m < h.edges.length) : sumAt g h (m + 1) = sumAt g h m ++ [shiftE g.states (h.edges.getD m de)] := by
  unfold sumAt; rw [List.take_succ_eq_append_getElem hm, getD_get hm, List.map_append, ← List.append_assoc]; rfl
theorem sumAt_all {g h : Gr} : sumAt g h h.edges.length = sumL g h := by simp [sumAt, sumL]
theorem sumAt_len {g h : Gr} {m : Nat} : (sumAt g h m).length ≤ g.edges.length + m := by
  unfold sumAt; rw [List.length_append, List.length_map, List.length_take]; omega
theorem sumL_len {g h : Gr} : (sumL g h).length = g.edges.length + h.edges.length := by simp [sumL]
theorem sum_ok {g h : Gr} (h0 : chk2N g h = 0) (hs : g.states + h.states ≤ 64) (he : g.edges.length + h.edges.length ≤ 1024) : (sumL g h).Pairwise ltE ∧ gcheck ⟨g.labels, g.states + h.states, sumL g h⟩ = 0 := by
  obtain ⟨hv, hw, hl⟩ := chk2_ok h0
  have hz := (gcheck_valid hv).1
  have hy := (gcheck_valid hw).1
  have hlb := hz.lab
  have hst := hz.st
  have hst2 := hy.st
  have hasc : (sumL g h).Pairwise ltE := by
    unfold sumL
    refine List.pairwise_append.2 ⟨edges_asc hv, ?_, fun a ha b hb => ?_⟩
    · rw [List.pairwise_map]
      exact (edges_asc hw).imp fun h => by unfold ltE shiftE at *; simp only; omega
    · obtain ⟨y, hy, rfl⟩ := List.mem_map.1 hb
      have h1 := edge_in hv ha
      have h2 := edge_in hw hy
      unfold ltE shiftE; simp only; omega
  refine ⟨hasc, gcheck_make hlb (by omega) (by rw [sumL_len]; omega) hasc fun x hx => ?_⟩
  rcases List.mem_append.1 hx with hx | hx
  · have := edge_in hv hx; omega
  · obtain ⟨y, hy, rfl⟩ := List.mem_map.1 hx
    have := edge_in hw hy
    unfold shiftE; simp only; omega

/-- products. -/
def prEd (h : Gr) (x y : Edge) : Edge := ⟨x.frm * h.states + y.frm, x.lab, x.to * h.states + y.to⟩
def prRowA (h : Gr) (x : Edge) (m : Nat) : List Edge := (List.range m).flatMap fun j => if x.lab = (h.edges.getD j de).lab then [prEd h x (h.edges.getD j de)] else []
def prRow (h : Gr) (x : Edge) : List Edge := prRowA h x h.edges.length
def prAt (g h : Gr) (i m : Nat) : List Edge := (g.edges.take i).flatMap (prRow h) ++ prRowA h (g.edges.getD i de) m
def prodL (g h : Gr) : List Edge := g.edges.flatMap (prRow h)
theorem prAt_zero {g h : Gr} : prAt g h 0 0 = [] := by simp [prAt, prRowA]
theorem prRowA_succ {h : Gr} {x : Edge} {m : Nat} : prRowA h x (m + 1) = prRowA h x m ++ (if x.lab = (h.edges.getD m de).lab then [prEd h x (h.edges.getD m de)] else []) := by
  unfold prRowA; rw [List.range_succ, List.flatMap_append]; simp
theorem prRowA_len {h : Gr} {x : Edge} {m : Nat} : (prRowA h x m).length ≤ m := by
  induction m with
  | zero => simp [prRowA]
  | succ m ih => rw [prRowA_succ, List.length_append]; split <;> simp <;> omega
theorem prAt_succ {g h : Gr} {i m : Nat} : prAt g h i (m + 1) = prAt g h i m ++ (if (g.edges.getD i de).lab = (h.edges.getD m de).lab then [prEd h (g.edges.getD i de) (h.edges.getD m de)] else []) := by
  unfold prAt; rw [prRowA_succ, List.append_assoc]
theorem prAt_next {g h : Gr} {i : Nat} (hi : i < g.edges.length) : prAt g h i h.edges.length = prAt g h (i + 1) 0 := by
  unfold prAt
  rw [List.take_succ_eq_append_getElem hi, List.flatMap_append, ← getD_get (d := de) hi]
  simp [prRowA, prRow]
theorem prAt_all {g h : Gr} : prAt g h g.edges.length 0 = prodL g h := by simp [prAt, prRowA, prodL]
theorem prAt_len {g h : Gr} {i m : Nat} (hg : g.edges.length ≤ 30) (hh : h.edges.length ≤ 30) (hm : m ≤ h.edges.length) : (prAt g h i m).length ≤ 930 := by
  unfold prAt
  rw [List.length_append]
  have h1 := flat_len2 (f := prRow h) (m := 30) (fun x => Nat.le_trans prRowA_len hh) (g.edges.take i)
  rw [List.length_take] at h1
  have h2 := prRowA_len (h := h) (x := g.edges.getD i de) (m := m)
  have h3 : min i g.edges.length * 30 ≤ 30 * 30 := Nat.mul_le_mul (by omega) (Nat.le_refl _)
  omega
theorem prod_mem {g h : Gr} {z : Edge} (hz : z ∈ prodL g h) : ∃ x ∈ g.edges, ∃ y ∈ h.edges, x.lab = y.lab ∧ z = prEd h x y := by
  obtain ⟨x, hx, hz⟩ := List.mem_flatMap.1 hz
  obtain ⟨j, hj, hz⟩ := List.mem_flatMap.1 hz
  have hj := List.mem_range.1 hj
  split at hz
  · rename_i hl
    exact ⟨x, hx, _, getD_mem hj, hl, List.mem_singleton.1 hz⟩
  · cases hz
theorem pair_box {a b G H : Int} (ha : 0 ≤ a ∧ a < G) (hb : 0 ≤ b ∧ b < H) : 0 ≤ a * H + b ∧ a * H + b < G * H := by
  have h1 : 0 ≤ a * H := Int.mul_nonneg ha.1 (by omega)
  have h2 : (a + 1) * H ≤ G * H := Int.mul_le_mul_of_nonneg_right (by omega) (by omega)
  rw [Int.add_mul, Int.one_mul] at h2
  omega
/-- the product before its essential part is taken. -/
def prodA (g h : Gr) : Gr := ⟨g.labels, g.states * h.states, normE (prodL g h)⟩
theorem prod_valid {g h : Gr} (h0 : chk2N g h = 0) (hn : g.states * h.states ≤ 64) (hg : g.edges.length ≤ 30) (hh : h.edges.length ≤ 30) : gcheck (prodA g h) = 0 := by
  obtain ⟨hv, hw, hl⟩ := chk2_ok h0
  have hz := (gcheck_valid hv).1
  have hy := (gcheck_valid hw).1
  have hlen := norm_len (l := prodL g h)
  have hpl := prAt_len (g := g) (h := h) (i := g.edges.length) (m := 0) hg hh (Nat.zero_le _)
  rw [prAt_all] at hpl
  refine gcheck_make hz.lab ⟨Int.mul_nonneg hz.st.1 hy.st.1, hn⟩ (by omega) norm_asc fun z hzz => ?_
  obtain ⟨x, hx, y, hy, hxy, rfl⟩ := prod_mem (norm_mem.1 hzz)
  have h1 := edge_in hv hx
  have h2 := edge_in hw hy
  exact ⟨pair_box h1.1 h2.1, h1.2.1, pair_box h1.2.2 h2.2.2⟩
def prN (g h : Gr) : Int := if chk2N g h ≠ 0 then chk2N g h else if 64 < g.states * h.states then 4 else 0
def prX (g h : Gr) : Gr := if prN g h = 0 then keptG (prodA g h) (essL (prodA g h)) else ⟨0, 0, []⟩
/-- the pair with a number. -/
def nm (H s : Int) : List Int := [s / H, s % H]
def nmL (H : Int) (L : List Int) : List (List Int) := L.map (nm H)
def prK (g h : Gr) : List (List Int) := if prN g h = 0 then nmL h.states (essL (prodA g h)) else []
theorem nm_at {H i j : Nat} (hj : j < H) : nm (H : Int) ((i * H + j : Nat) : Int) = [(i : Int), (j : Int)] := by
  have hH : 0 < H := by omega
  have h1 : (i * H + j) / H = i := by rw [Nat.add_comm, Nat.add_mul_div_right _ _ hH, Nat.div_eq_of_lt hj, Nat.zero_add]
  have h2 : (i * H + j) % H = j := by rw [Nat.add_comm, Nat.add_mul_mod_self_right, Nat.mod_eq_of_lt hj]
  unfold nm
  rw [← Int.natCast_ediv, ← Int.natCast_emod, h1, h2]
theorem prX_no {g h : Gr} {m : Int} (hm : prN g h = m) (h0 : m ≠ 0) : prX g h = ⟨0, 0, []⟩ ∧ prK g h = [] := by
  unfold prX prK
  exact ⟨if_neg (by omega), if_neg (by omega)⟩
theorem prX_ok {g h : Gr} (hm : prN g h = 0) : prX g h = keptG (prodA g h) (essL (prodA g h)) ∧ prK g h = nmL h.states (essL (prodA g h)) := ⟨if_pos hm, if_pos hm⟩
end Go.Proofs.Ytddghlnaocjjkaa
