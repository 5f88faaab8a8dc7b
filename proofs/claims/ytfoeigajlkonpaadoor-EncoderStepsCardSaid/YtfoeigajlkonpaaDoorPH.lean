/-
  Plain: the states that a label leads to; powers, step by step.
-/
import Derived.Test.YtfoeigajlkonpaaDoorPE
import Derived.Test.YtfoeigajlkonpaaDoorSJ
namespace Go.Proofs.YtfoeigajlkonpaaDoor
set_option linter.unusedSimpArgs false
set_option linter.unusedVariables false
open Go Go.Lift

/-- where the first m edges lead from a state, by a label. -/
def tgt (g : Gr) (k s : Int) (m : Nat) : List Int := ((g.edges.take m).filter fun x => decide (x.frm = s) && decide (x.lab = k)).map Edge.to
def tgts (g : Gr) (k : Int) (L : List Int) (i : Nat) : List Int := (L.take i).flatMap fun s => tgt g k s g.edges.length
def stepL (g : Gr) (k : Int) (L : List Int) : List Int := ddL 0 (srtI (tgts g k L L.length))
theorem tgt_zero {g : Gr} {k s : Int} : tgt g k s 0 = [] := by simp [tgt]
theorem tgt_succ {g : Gr} {k s : Int} {m : Nat} (h : m < g.edges.length) : tgt g k s (m + 1) = if (g.edges.getD m de).frm = s then (if (g.edges.getD m de).lab = k then tgt g k s m ++ [(g.edges.getD m de).to] else tgt g k s m) else tgt g k s m := by
  unfold tgt
  rw [List.take_succ_eq_append_getElem h, List.filter_append, List.map_append, getD_get h]
  by_cases h1 : (g.edges[m]).frm = s <;> by_cases h2 : (g.edges[m]).lab = k <;> simp [h1, h2]
theorem tgt_len {g : Gr} {k s : Int} {m : Nat} : (tgt g k s m).length ≤ m := by
  unfold tgt
  rw [List.length_map]
  exact Nat.le_trans (List.length_filter_le _ _) (by rw [List.length_take]; omega)
theorem tgts_zero {g : Gr} {k : Int} {L : List Int} : tgts g k L 0 = [] := by simp [tgts]
theorem tgts_succ {g : Gr} {k : Int} {L : List Int} {i : Nat} (h : i < L.length) : tgts g k L (i + 1) = tgts g k L i ++ tgt g k (L.getD i 0) g.edges.length := by
  unfold tgts; rw [List.take_succ_eq_append_getElem h, List.flatMap_append, getD_get h]; simp
theorem tgts_len {g : Gr} {k : Int} {L : List Int} {i : Nat} (hed : g.edges.length ≤ 1024) (hi : i ≤ 64) : (tgts g k L i).length ≤ 65536 := by
  have h1 := flat_len2 (f := fun s => tgt g k s g.edges.length) (m := 1024) (fun s => Nat.le_trans tgt_len hed) (L.take i)
  rw [List.length_take] at h1
  have h3 : min i L.length * 1024 ≤ 64 * 1024 := Nat.mul_le_mul (by omega) (Nat.le_refl _)
  unfold tgts; omega
theorem tgts_mem {g : Gr} {k : Int} {L : List Int} {t : Int} : t ∈ tgts g k L L.length ↔ ∃ s ∈ L, ∃ x ∈ g.edges, x.frm = s ∧ x.lab = k ∧ x.to = t := by
  unfold tgts
  rw [List.take_length, List.mem_flatMap]
  constructor
  · rintro ⟨s, hs, ht⟩
    unfold tgt at ht
    rw [List.take_length] at ht
    obtain ⟨x, hx, rfl⟩ := List.mem_map.1 ht
    obtain ⟨hx, hc⟩ := List.mem_filter.1 hx
    simp at hc
    exact ⟨s, hs, x, hx, hc.1, hc.2, rfl⟩
  · rintro ⟨s, hs, x, hx, h1, h2, h3⟩
    refine ⟨s, hs, ?_⟩
    unfold tgt
    rw [List.take_length]
    exact List.mem_map.2 ⟨x, List.mem_filter.2 ⟨hx, by simp [h1, h2]⟩, h3⟩
theorem step_mem {g : Gr} {k : Int} {L : List Int} {t : Int} : t ∈ stepL g k L ↔ ∃ s ∈ L, ∃ x ∈ g.edges, x.frm = s ∧ x.lab = k ∧ x.to = t := by
  rw [← tgts_mem]
  unfold stepL ddL
  rw [dd_mem, ← srtI_mem (l := tgts g k L L.length)]
  constructor
  · rintro ⟨j, hj, rfl⟩; exact getD_mem hj
  · intro h
    obtain ⟨j, hj, e⟩ := List.mem_iff_getElem.1 h
    exact ⟨j, hj, by rw [getD_get hj]; exact e⟩
theorem step_asc {g : Gr} {k : Int} {L : List Int} : (stepL g k L).Pairwise (· < ·) := by
  unfold stepL ddL
  refine (dd_asc (R := (· < ·)) (fun a b c => Int.lt_trans) (fun j hj hne => ?_) (Nat.le_refl _)).1
  have := List.pairwise_iff_getElem.1 (srtI_asc (l := tgts g k L L.length)) j (j + 1) (by omega) hj (by omega)
  rw [← getD_get (d := 0) (show j < _ by omega), ← getD_get (d := 0) hj] at this
  omega
theorem ascI_ext : ∀ {l m : List Int}, l.Pairwise (· < ·) → m.Pairwise (· < ·) → (∀ x, x ∈ l ↔ x ∈ m) → l = m
  | [], [], _, _, _ => rfl
  | [], y :: m, _, _, h => absurd ((h y).2 List.mem_cons_self) (by simp)
  | x :: l, [], _, _, h => absurd ((h x).1 List.mem_cons_self) (by simp)
  | x :: l, y :: m, h1, h2, h => by
    have h1' := List.pairwise_cons.1 h1
    have h2' := List.pairwise_cons.1 h2
    have e : x = y := by
      rcases List.mem_cons.1 ((h x).1 List.mem_cons_self) with e | e
      · exact e
      · rcases List.mem_cons.1 ((h y).2 List.mem_cons_self) with e2 | e2
        · exact e2.symm
        · have := h2'.1 x e
          have := h1'.1 y e2
          omega
    subst e
    congr 1
    refine ascI_ext h1'.2 h2'.2 fun z => ⟨fun hz => ?_, fun hz => ?_⟩
    · rcases List.mem_cons.1 ((h z).1 (List.mem_cons_of_mem _ hz)) with e | e
      · subst e; have := h1'.1 z hz; omega
      · exact e
    · rcases List.mem_cons.1 ((h z).2 (List.mem_cons_of_mem _ hz)) with e | e
      · subst e; have := h2'.1 z hz; omega
      · exact e
theorem step_box {g : Gr} (hv : gcheck g = 0) {k : Int} {L : List Int} : ∀ t ∈ stepL g k L, 0 ≤ t ∧ t < g.states := fun t ht => by
  obtain ⟨s, _, x, hx, _, _, rfl⟩ := step_mem.1 ht
  exact (edge_in hv hx).2.2
theorem asc_short {L : List Int} {n : Int} (ha : L.Pairwise (· < ·)) (hb : ∀ x ∈ L, 0 ≤ x ∧ x < n) (hn : n ≤ 64) : L.length ≤ 64 := by
  have : L.length ≤ (iotaL n.toNat).length := by
    have hnd : L.Nodup := List.nodup_iff_pairwise_ne.2 (ha.imp fun h => by omega)
    refine (List.Nodup.length_le_of_subset hnd fun x hx => ?_)
    have := hb x hx
    exact List.mem_map.2 ⟨x.toNat, List.mem_range.2 (by omega), by omega⟩
  rw [iota_len] at this
  omega

/-- what is reached by j labels, whose number is v. -/
def Rj (g : Gr) (s : Nat) : Nat → Nat → List Int → Prop
  | 0, v, L => v = 0 ∧ L = [(s : Int)]
  | j + 1, v, L => v < (pwL g j).length ∧ L.Pairwise (· < ·) ∧ ∀ t : Int, t ∈ L ↔ ∃ u : Nat, t = (u : Int) ∧ bit (pwL g j) s v u = true
theorem bit_one {g : Gr} (hv : gcheck g = 0) {s k t : Nat} (hk : k < g.labels.toNat) : bit (stepsL g) s k t = true ↔ ∃ x ∈ g.edges, x.frm = s ∧ x.lab = k ∧ x.to = t := by
  unfold bit
  rw [stepsL_at hk]
  unfold stepB
  rw [List.any_eq_true]
  constructor
  · rintro ⟨x, hx, h⟩
    have := of_decide_eq_true h
    exact ⟨x, hx, this.2.1, this.1, this.2.2⟩
  · rintro ⟨x, hx, h1, h2, h3⟩
    exact ⟨x, hx, decide_eq_true ⟨h2, h1, h3⟩⟩
theorem Rj_step {g : Gr} (hv : gcheck g = 0) {s : Nat} (hs : (s : Int) < g.states) {j v k : Nat} {L : List Int} (hk : k < g.labels.toNat) (h : Rj g s j v L) : Rj g s (j + 1) (v * g.labels.toNat + k) (stepL g (k : Int) L) := by
  have hz := (gcheck_valid hv).1
  have hst := hz.st
  cases j with
  | zero =>
    obtain ⟨rfl, rfl⟩ := h
    refine ⟨?_, step_asc, fun t => ?_⟩
    · show 0 * g.labels.toNat + k < (stepsL g).length
      rw [stepsL_len]; omega
    · rw [step_mem, Nat.zero_mul, Nat.zero_add]
      show _ ↔ ∃ u : Nat, t = u ∧ bit (stepsL g) s k u = true
      constructor
      · rintro ⟨s', hs', x, hx, h1, h2, rfl⟩
        have hb := (edge_in hv hx).2.2
        refine ⟨x.to.toNat, by omega, (bit_one hv hk).2 ⟨x, hx, ?_, h2, by omega⟩⟩
        rw [h1]; exact List.mem_singleton.1 hs'
      · rintro ⟨u, rfl, hu⟩
        obtain ⟨x, hx, h1, h2, h3⟩ := (bit_one hv hk).1 hu
        exact ⟨s, List.mem_singleton.2 rfl, x, hx, h1, h2, h3⟩
  | succ j =>
    obtain ⟨h1, h2, h3⟩ := h
    have hsl : (stepsL g).length = g.labels.toNat := stepsL_len
    have hll : (pwL g (j + 1)).length = (pwL g j).length * (stepsL g).length := longer_len
    refine ⟨?_, step_asc, fun t => ?_⟩
    · rw [hll, hsl]
      have : (v + 1) * g.labels.toNat ≤ (pwL g j).length * g.labels.toNat := Nat.mul_le_mul_right _ h1
      rw [Nat.add_mul, Nat.one_mul] at this
      omega
    · have hbit : ∀ u, bit (pwL g (j + 1)) s (v * g.labels.toNat + k) u = true ↔ ∃ m : Nat, bit (pwL g j) s v m = true ∧ bit (stepsL g) m k u = true := fun u => by
        have e : (pwL g (j + 1)).getD (v * (stepsL g).length + k) r0 = thenR ((pwL g j).getD v r0) ((stepsL g).getD k r0) := longer_at h1 (by omega)
        rw [hsl] at e
        unfold bit
        rw [e]
        unfold thenR
        rw [List.any_eq_true]
        constructor
        · rintro ⟨m, _, hm⟩
          rw [Bool.and_eq_true] at hm
          exact ⟨m, hm⟩
        · rintro ⟨m, h4, h5⟩
          have := bit_sup hv (k := j) (s := s) (l := v) (t := m) h4
          exact ⟨m, List.mem_range.2 (by omega), by rw [Bool.and_eq_true]; exact ⟨h4, h5⟩⟩
      rw [step_mem]
      constructor
      · rintro ⟨s', hs', x, hx, h4, h5, rfl⟩
        obtain ⟨m, rfl, hm⟩ := (h3 s').1 hs'
        have hb := (edge_in hv hx).2.2
        exact ⟨x.to.toNat, by omega, (hbit _).2 ⟨m, hm, (bit_one hv hk).2 ⟨x, hx, h4, h5, by omega⟩⟩⟩
      · rintro ⟨u, rfl, hu⟩
        obtain ⟨m, hm, hu⟩ := (hbit u).1 hu
        obtain ⟨x, hx, h4, h5, h6⟩ := (bit_one hv hk).1 hu
        exact ⟨m, (h3 _).2 ⟨m, rfl, hm⟩, x, hx, h4, h5, h6⟩
theorem Rj_end {g : Gr} {s n v : Nat} {L : List Int} (hN : powN g (n : Int) = 0) (hn : 1 ≤ n) (h : Rj g s n v L) : (v : Int) < (powX g n).labels ∧ stepL (powX g n) (v : Int) [(s : Int)] = L := by
  obtain ⟨m, rfl⟩ : ∃ m, n = m + 1 := ⟨n - 1, by omega⟩
  obtain ⟨h1, h2, h3⟩ := h
  have hv := (pow_facts hN).1
  have hm : ((m + 1 : Nat) : Int).toNat - 1 = m := by omega
  rw [pow_ok hN, hm]
  refine ⟨by simp only; omega, ascI_ext step_asc h2 fun t => ?_⟩
  rw [step_mem, h3]
  constructor
  · rintro ⟨s', hs', x, hx, h4, h5, rfl⟩
    have hx' : x ∈ eAll g.states.toNat (pwL g (((m + 1 : Nat) : Int).toNat - 1)) g.states.toNat := hx
    rw [hm] at hx'
    obtain ⟨a, l, t, _, _, _, hb, rfl⟩ := eAll_mem.1 hx'
    have e1 : a = s := by have := List.mem_singleton.1 hs'; simp only at h4; omega
    have e2 : l = v := by simp only at h5; omega
    subst e1 e2
    exact ⟨t, rfl, hb⟩
  · rintro ⟨u, rfl, hu⟩
    have hsup := bit_sup hv hu
    refine ⟨s, List.mem_singleton.2 rfl, ⟨s, v, u⟩, ?_, rfl, rfl, rfl⟩
    show _ ∈ eAll g.states.toNat (pwL g (((m + 1 : Nat) : Int).toNat - 1)) g.states.toNat
    rw [hm]
    exact eAll_mem.2 ⟨s, v, u, hsup.1, hsup.2.1, hsup.2.2, hu, rfl⟩
end Go.Proofs.YtfoeigajlkonpaaDoor
