/- Parts of the proof: NH. -/
import Derived.Test.YtchjjiedcpfniaaGreatDoorK25
namespace Go.Proofs.YtchjjiedcpfniaaGreatDoor
set_option linter.unusedSimpArgs false
set_option linter.unusedVariables false
open Go Go.Lift Go.Proofs
section
variable {g : Gr} {v : List Int} {m : Int} {l : List Spl} {s : Nat}
structure Rd (g : Gr) (v : List Int) (m : Int) (l : List Spl) : Prop where
  ok : RndOK l
  rd : rndN g v m l = 0
theorem Rd.base (h : Rd g v m l) : baseN g v m = 0 := (rnd_zero h.rd).1
theorem Rd.gv (h : Rd g v m l) : gcheck g = 0 := (vecN_zero (eigN_zero (baseN_zero h.base).1).1).1
theorem Rd.mb (h : Rd g v m l) : 1 ≤ m ∧ m ≤ 256 := (vecN_zero (eigN_zero (baseN_zero h.base).1).1).2.1
theorem Rd.vl (h : Rd g v m l) : (v.length : Int) = g.states := (vecN_zero (eigN_zero (baseN_zero h.base).1).1).2.2.1
theorem Rd.box (h : Rd g v m l) : BoxV v := (vecN_zero (eigN_zero (baseN_zero h.base).1).1).2.2.2
theorem Rd.pos (h : Rd g v m l) (hs : s < g.states.toNat) : 1 ≤ v.getD s 0 ∧ v.getD s 0 ≤ 4096 := (baseN_zero h.base).2 _ (getD_mem (by have := h.vl; omega))
theorem Rd.perm (h : Rd g v m l) (hs : s < g.states.toNat) : (prS g l s).flatten.Perm (outL g s) := by
  have hv := h.gv
  unfold prS
  cases hsp : splO l s with
  | none =>
    show ([outR g s] : List (List Int)).flatten.Perm _
    rw [(out_3 hv (by omega)).1]; simp
  | some x =>
    obtain ⟨h1, h2⟩ := splO_some hsp
    obtain ⟨i, hi, rfl⟩ := List.mem_iff_getElem.1 h1
    have h3 := (spl_zero ((rnd_zero h.rd).2.2 i hi)).2.2.1
    rw [getD_get hi, h2, (out_3 hv (by omega)).1] at h3
    exact (div_ok h3).2.2
theorem Rd.num (h : Rd g v m l) (hs : s < g.states.toNat) : 1 ≤ (prS g l s).length := by
  unfold prS
  cases hsp : splO l s with
  | none => exact Nat.le_refl 1
  | some x =>
    exact (rnd_spl h.ok h.rd (splO_some hsp).1).2
theorem Rd.part (h : Rd g v m l) (hs : s < g.states.toNat) {i : Nat} (hi : i < (prS g l s).length) : 1 ≤ (wsS g v m l s).getD i 0 ∧ m * (wsS g v m l s).getD i 0 ≤ psV g v ((prS g l s).getD i []) := by
  have hv := h.gv
  have hm := h.mb
  cases hsp : splO l s with
  | none =>
    have e1 : prS g l s = [outR g s] := by unfold prS; rw [hsp]
    have e2 : wsS g v m l s = [v.getD s 0] := by unfold wsS; rw [hsp]
    rw [e1] at hi ⊢
    rw [e2]
    obtain rfl : i = 0 := by simp at hi; omega
    have := base_low h.base hs
    exact ⟨(h.pos hs).1, this⟩
  | some x =>
    have e1 : prS g l s = x.parts := by unfold prS; rw [hsp]
    have e2 : wsS g v m l s = wtL g v m x := by unfold wsS; rw [hsp]
    rw [e1] at hi ⊢
    rw [e2]
    obtain ⟨h1, h2⟩ := splO_some hsp
    obtain ⟨j, hj, rfl⟩ := List.mem_iff_getElem.1 h1
    have h3 := (spl_zero ((rnd_zero h.rd).2.2 j hj)).2.2.2
    rw [getD_get hj] at h3
    unfold wtB at h3
    rw [Bool.and_eq_true, decide_eq_true_eq] at h3
    have h4 := List.all_eq_true.1 h3.1 _ (getD_mem (d := (0 : Int)) (show i < (wtL g v m l[j]).length by rw [wtL_len]; exact hi))
    have h4 := of_decide_eq_true h4
    refine ⟨h4, ?_⟩
    have e3 : (wtL g v m l[j]).getD i 0 = wtI g v m l[j] i := wtA_at hi
    rw [e3]
    by_cases hl : i + 1 = l[j].parts.length
    · obtain rfl : i = l[j].parts.length - 1 := by omega
      exact h3.2
    · have e4 : wtI g v m l[j] i = psV g v (l[j].parts.getD i []) / m := if_neg hl
      rw [e4]
      exact Int.mul_ediv_self_le (by omega)
theorem Rd.le (h : Rd g v m l) (hs : s < g.states.toNat) {i : Nat} (hi : i < (prS g l s).length) : (wsS g v m l s).getD i 0 ≤ 4096 := by
  have hsum : (wsS g v m l s).sum = v.getD s 0 := wsS_sum fun x hx => (rnd_spl h.ok h.rd hx).2
  have hp := h.pos hs
  have hall : ∀ j, j < (wsS g v m l s).length → 1 ≤ (wsS g v m l s).getD j 0 := fun j hj => (h.part hs (by rw [wsS_len] at hj; exact hj)).1
  have hi2 : i < (wsS g v m l s).length := by rw [wsS_len]; exact hi
  generalize wsS g v m l s = W at *
  have key : ∀ (W : List Int) (i : Nat), i < W.length → (∀ j, j < W.length → 1 ≤ W.getD j 0) → W.getD i 0 ≤ W.sum := by
    intro W
    induction W with
    | nil => intro i hi; cases hi
    | cons a W ih =>
      intro i hi ha
      have hnn : 0 ≤ W.sum := by
        clear ih
        have hW : ∀ x ∈ W, 1 ≤ x := fun x hx => by
          obtain ⟨j, hj, rfl⟩ := List.mem_iff_getElem.1 hx
          have := ha (j + 1) (by simp; omega)
          simpa [List.getD, hj] using this
        clear ha hi
        induction W with
        | nil => exact Int.le_refl _
        | cons b W ih =>
          rw [List.sum_cons]
          have h1 := hW b (List.mem_cons_self ..)
          have h2 := ih fun x hx => hW x (List.mem_cons_of_mem _ hx)
          omega
      have h0 : 1 ≤ a := ha 0 (by simp)
      rw [List.sum_cons]
      cases i with
      | zero => simp; omega
      | succ i =>
        have h1 := ih i (by simp at hi; omega) fun j hj => by
          have := ha (j + 1) (by simp; omega)
          simpa using this
        simp only [List.getD_cons_succ]
        omega
  have := key W i hi2 hall
  omega
theorem asgS_fst : ∀ i, i ≤ (prS g l s).length → (asgS g l s i).map (·.1) = ((prS g l s).take i).flatten
  | 0, _ => rfl
  | i + 1, hi => by
    unfold asgS
    rw [List.map_append, asgS_fst i (by omega), List.take_add_one, List.getElem?_eq_getElem (show i < (prS g l s).length by omega), List.flatten_append, List.map_map]
    congr 1
    simp [List.getD, show i < (prS g l s).length by omega]
    exact List.map_id' _
theorem Rd.asg (h : Rd g v m l) : ∀ n, n ≤ g.states.toNat → ((asgA g l n).map (·.1)).Nodup ∧ ∀ k : Int, k ∈ (asgA g l n).map (·.1) ↔ ∃ j : Nat, j < g.edges.length ∧ k = j ∧ 0 ≤ (g.edges.getD j de).frm ∧ (g.edges.getD j de).frm < (n : Int)
  | 0, _ => by
    refine ⟨List.nodup_nil, fun k => ⟨fun h => (List.not_mem_nil h).elim, ?_⟩⟩
    rintro ⟨j, _, _, h1, h2⟩
    omega
  | n + 1, hn => by
    obtain ⟨h1, h2⟩ := h.asg n (by omega)
    have hp := h.perm (s := n) (by omega)
    have hpn : (prS g l n).flatten.Nodup := hp.nodup_iff.2 (asc_nodup (outA_asc _))
    have e : (asgA g l (n + 1)).map (·.1) = (asgA g l n).map (·.1) ++ (prS g l n).flatten := by
      rw [asgA_succ, List.map_append, asgS_fst _ (Nat.le_refl _), List.take_length]
    have hmem : ∀ k : Int, k ∈ (prS g l n).flatten ↔ ∃ j : Nat, j < g.edges.length ∧ k = j ∧ (g.edges.getD j de).frm = (n : Int) := fun k => by rw [hp.mem_iff]; exact outA_mem
    rw [e]
    refine ⟨List.nodup_append.2 ⟨h1, hpn, fun a ha b hb e => ?_⟩, fun k => ?_⟩
    · subst e
      obtain ⟨j, _, rfl, _, h3⟩ := (h2 a).1 ha
      obtain ⟨j2, _, h5, h6⟩ := (hmem _).1 hb
      obtain rfl : j = j2 := by omega
      omega
    · rw [List.mem_append, h2, hmem]
      constructor
      · rintro (⟨j, h3, h4, h5, h6⟩ | ⟨j, h3, h4, h5⟩)
        · exact ⟨j, h3, h4, h5, by omega⟩
        · exact ⟨j, h3, h4, by omega, by omega⟩
      · rintro ⟨j, h3, h4, h5, h6⟩
        by_cases hj : (g.edges.getD j de).frm = (n : Int)
        · exact .inr ⟨j, h3, h4, hj⟩
        · exact .inl ⟨j, h3, h4, h5, by omega⟩
theorem edge_at (hv : gcheck g = 0) {k : Nat} (hk : k < g.edges.length) : (0 ≤ (g.edges.getD k de).frm ∧ (g.edges.getD k de).frm < g.states) ∧ (0 ≤ (g.edges.getD k de).lab ∧ (g.edges.getD k de).lab < g.labels) ∧ (0 ≤ (g.edges.getD k de).to ∧ (g.edges.getD k de).to < g.states) := edge_in hv (getD_mem (d := de) hk)
theorem Rd.own (h : Rd g v m l) {k : Nat} (hk : k < g.edges.length) : ∃ i, i < (prS g l (g.edges.getD k de).frm.toNat).length ∧ (k : Int) ∈ (prS g l (g.edges.getD k de).frm.toNat).getD i [] ∧ ownE g l k = ((offA g l (g.edges.getD k de).frm.toNat + i : Nat) : Int) := by
  have hb := edge_at h.gv hk
  obtain ⟨h1, h2⟩ := h.asg g.states.toNat (Nat.le_refl _)
  have hm : (k : Int) ∈ (asgA g l g.states.toNat).map (·.1) := (h2 _).2 ⟨k, hk, rfl, hb.1.1, by omega⟩
  obtain ⟨p, hp, hpk⟩ := List.mem_map.1 hm
  obtain ⟨t, ht, hpt⟩ := asgA_mem.1 hp
  obtain ⟨i, hi, hpi, hpo⟩ := asgS_mem.1 hpt
  have htk : (g.edges.getD k de).frm = (t : Int) := by
    have h3 : p.1 ∈ (prS g l t).flatten := List.mem_flatten.2 ⟨_, getD_mem hi, hpi⟩
    rw [(h.perm ht).mem_iff] at h3
    obtain ⟨j, _, h5, h6⟩ := outA_mem.1 h3
    obtain rfl : j = k := by omega
    exact h6
  have ht2 : (g.edges.getD k de).frm.toNat = t := by omega
  rw [ht2]
  refine ⟨i, hi, by rw [← hpk]; exact hpi, ?_⟩
  rw [← hpo]
  exact ownL_mem h1 (by rw [← hpk]; exact hp)
end
section
variable {g : Gr} {v : List Int} {m : Int} {l : List Spl}
theorem off_le {a b : Nat} (h : a ≤ b) : offA g l a ≤ offA g l b := by
  induction b with
  | zero => obtain rfl := Nat.le_zero.1 h; exact Nat.le_refl _
  | succ b ih =>
    by_cases e : a = b + 1
    · subst e; exact Nat.le_refl _
    · have := ih (by omega)
      rw [offA_succ]; omega
theorem off_lt {s n i : Nat} (hs : s < n) (hi : i < (prS g l s).length) : offA g l s + i < offA g l n := by
  have := off_le (g := g) (l := l) (show s + 1 ≤ n by omega)
  rw [offA_succ] at this
  omega
theorem off_split {n c : Nat} (h : c < offA g l n) : ∃ s i, s < n ∧ i < (prS g l s).length ∧ c = offA g l s + i := by
  induction n with
  | zero => exact absurd h (Nat.not_lt_zero _)
  | succ n ih =>
    by_cases hc : c < offA g l n
    · obtain ⟨s, i, h1, h2⟩ := ih hc
      exact ⟨s, i, by omega, h2⟩
    · rw [offA_succ] at h
      exact ⟨n, c - offA g l n, by omega, by omega, by omega⟩
theorem off_inj {s t i j : Nat} (hi : i < (prS g l s).length) (hj : j < (prS g l t).length) (h : offA g l s + i = offA g l t + j) : s = t ∧ i = j := by
  rcases Nat.lt_trichotomy s t with e | e | e
  · have := off_lt (g := g) (l := l) e hi; omega
  · subst e; exact ⟨rfl, by omega⟩
  · have := off_lt (g := g) (l := l) e hj; omega
theorem parA_at {s i : Nat} (hi : i < (prS g l s).length) : ∀ n, s < n → (parA g l n).getD (offA g l s + i) 0 = s
  | 0, h => absurd h (Nat.not_lt_zero _)
  | n + 1, h => by
    unfold parA
    by_cases e : s < n
    · have h1 := parA_at hi n e
      have h2 := off_lt (g := g) (l := l) e hi
      rw [List.getD_eq_getElem?_getD, List.getElem?_append_left (by rw [parA_len]; exact h2), ← List.getD_eq_getElem?_getD]
      exact h1
    · obtain rfl : s = n := by omega
      rw [List.getD_eq_getElem?_getD, List.getElem?_append_right (by rw [parA_len]; omega), parA_len, Nat.add_sub_cancel_left, List.getElem?_replicate, if_pos hi]
      rfl
theorem hvA_at {s i : Nat} (hi : i < (prS g l s).length) : ∀ n, s < n → (hvA g v m l n).getD (offA g l s + i) 0 = (wsS g v m l s).getD i 0
  | 0, h => absurd h (Nat.not_lt_zero _)
  | n + 1, h => by
    unfold hvA
    by_cases e : s < n
    · have h1 := hvA_at hi n e
      have h2 := off_lt (g := g) (l := l) e hi
      rw [List.getD_eq_getElem?_getD, List.getElem?_append_left (by rw [hvA_len]; exact h2), ← List.getD_eq_getElem?_getD]
      exact h1
    · obtain rfl : s = n := by omega
      rw [List.getD_eq_getElem?_getD, List.getElem?_append_right (by rw [hvA_len]; omega), hvA_len, Nat.add_sub_cancel_left, ← List.getD_eq_getElem?_getD]
theorem chL_mem {s : Nat} {c : Int} : c ∈ chL g l s ↔ ∃ i, i < (prS g l s).length ∧ c = ((offA g l s + i : Nat) : Int) := by
  unfold chL
  rw [List.mem_map]
  constructor
  · rintro ⟨i, hi, rfl⟩; exact ⟨i, List.mem_range.1 hi, rfl⟩
  · rintro ⟨i, hi, rfl⟩; exact ⟨i, List.mem_range.2 hi, rfl⟩
theorem chL_nodup {s : Nat} : (chL g l s).Nodup := by
  unfold chL
  refine List.nodup_iff_pairwise_ne.2 (List.pairwise_map.2 ((List.nodup_range).imp fun h e => h (by omega)))
theorem chL_len {s : Nat} : (chL g l s).length = (prS g l s).length := by simp [chL]
theorem edA_mem {e : Edge} : ∀ {n : Nat}, e ∈ edA g l n ↔ ∃ k c, k < n ∧ c ∈ chL g l (g.edges.getD k de).to.toNat ∧ e = spE g l k c
  | 0 => by simp [edA]
  | n + 1 => by
    unfold edA
    rw [List.mem_append, edA_mem, List.mem_map]
    constructor
    · rintro (⟨k, c, h1, h2, h3⟩ | ⟨c, h1, rfl⟩)
      · exact ⟨k, c, by omega, h2, h3⟩
      · exact ⟨n, c, by omega, h1, rfl⟩
    · rintro ⟨k, c, h1, h2, h3⟩
      by_cases hk : k < n
      · exact .inl ⟨k, c, hk, h2, h3⟩
      · obtain rfl : k = n := by omega
        exact .inr ⟨c, h2, h3.symm⟩
theorem Rd.spE_inj (h : Rd g v m l) {a b : Nat} {c d : Int} (ha : a < g.edges.length) (hb : b < g.edges.length) (hc : c ∈ chL g l (g.edges.getD a de).to.toNat) (hd : d ∈ chL g l (g.edges.getD b de).to.toNat) (e : spE g l a c = spE g l b d) : a = b ∧ c = d := by
  unfold spE at e
  simp only [Edge.mk.injEq] at e
  obtain ⟨e1, e2, e3⟩ := e
  refine ⟨?_, e3⟩
  obtain ⟨i, hi, _, hoi⟩ := h.own ha
  obtain ⟨j, hj, _, hoj⟩ := h.own hb
  have hba := edge_at h.gv ha
  have hbb := edge_at h.gv hb
  have hf := (off_inj hi hj (by rw [hoi, hoj] at e1; exact_mod_cast e1)).1
  obtain ⟨p, hp, hcp⟩ := chL_mem.1 hc
  obtain ⟨q, hq, hdq⟩ := chL_mem.1 hd
  have ht := (off_inj hp hq (by rw [hcp, hdq] at e3; exact_mod_cast e3)).1
  have heq : g.edges.getD a de = g.edges.getD b de := by
    have f1 : (g.edges.getD a de).frm = (g.edges.getD b de).frm := by omega
    have f2 : (g.edges.getD a de).to = (g.edges.getD b de).to := by omega
    revert f1 f2 e2
    generalize g.edges.getD a de = x
    generalize g.edges.getD b de = y
    intro e2 f1 f2
    cases x; cases y
    simp only at e2 f1 f2
    subst e2 f1 f2
    rfl
  have hnd : g.edges.Nodup := ascE_nodup (edges_asc h.gv)
  rw [getD_get ha, getD_get hb] at heq
  exact (List.getElem_inj hnd).1 heq
theorem Rd.nodup (h : Rd g v m l) : ∀ n, n ≤ g.edges.length → (edA g l n).Nodup
  | 0, _ => List.nodup_nil
  | n + 1, hn => by
    unfold edA
    refine List.nodup_append.2 ⟨h.nodup n (by omega), ?_, fun a ha b hb e => ?_⟩
    · refine List.nodup_iff_pairwise_ne.2 (List.pairwise_map.2 (List.Pairwise.imp_of_mem (fun {x y} hx hy hxy e => hxy (h.spE_inj (by omega) (by omega) hx hy e).2) chL_nodup))
    · subst e
      obtain ⟨k, c, h1, h2, h3⟩ := edA_mem.1 ha
      obtain ⟨d, h4, h5⟩ := List.mem_map.1 hb
      have := (h.spE_inj (by omega) (by omega) h2 h4 (h3.symm.trans h5.symm)).1
      omega
def splG (g : Gr) (l : List Spl) : Gr := ⟨g.labels, (offA g l g.states.toNat : Nat), normE (edA g l g.edges.length)⟩
theorem Rd.ends (h : Rd g v m l) {e : Edge} (he : e ∈ edA g l g.edges.length) : (0 ≤ e.frm ∧ e.frm < (offA g l g.states.toNat : Nat)) ∧ (0 ≤ e.lab ∧ e.lab < g.labels) ∧ (0 ≤ e.to ∧ e.to < (offA g l g.states.toNat : Nat)) := by
  obtain ⟨k, c, h1, h2, rfl⟩ := edA_mem.1 he
  have hb := edge_at h.gv h1
  obtain ⟨i, hi, _, ho⟩ := h.own h1
  obtain ⟨q, hq, hc⟩ := chL_mem.1 h2
  have h3 := off_lt (g := g) (l := l) (n := g.states.toNat) (by omega) hi
  have h4 := off_lt (g := g) (l := l) (n := g.states.toNat) (by omega) hq
  refine ⟨?_, hb.2.1, ?_⟩
  · show 0 ≤ ownE g l k ∧ ownE g l k < _
    rw [ho]; omega
  · show 0 ≤ c ∧ c < _
    rw [hc]; omega
theorem Rd.valid (h : Rd g v m l) (h1 : offA g l g.states.toNat ≤ 64) (h2 : (edA g l g.edges.length).length ≤ 1024) : gcheck (splG g l) = 0 := by
  have hz := (gcheck_valid h.gv).1
  refine gcheck_make ⟨hz.lab.1, hz.lab.2⟩ (by omega) (by rw [(norm_perm (h.nodup _ (Nat.le_refl _))).length_eq]; exact h2) norm_asc fun x hx => ?_
  rw [norm_mem] at hx
  exact h.ends hx
theorem apl_mk (h : Rd g v m l) (hn : ¬ (64 < offA g l g.states.toNat ∨ 1024 < (edA g l g.edges.length).length)) : mkX g.labels (offA g l g.states.toNat : Nat) (edA g l g.edges.length) = splG g l ∧ mkN g.labels (offA g l g.states.toNat : Nat) (edA g l g.edges.length) = 0 := by
  have := h.valid (by omega) (by omega)
  exact ⟨if_pos this, this⟩
theorem gcheck_limits {g : Gr} (h : gcheck g = 0) : g.states ≤ 64 ∧ g.edges.length ≤ 1024 := ⟨(gcheck_valid h).1.st.2, (gcheck_valid h).1.ed⟩
theorem apl_no (h : Rd g v m l) (hn : 64 < offA g l g.states.toNat ∨ 1024 < (edA g l g.edges.length).length) : mkN g.labels (offA g l g.states.toNat : Nat) (edA g l g.edges.length) ≠ 0 := fun e => by
  have := gcheck_limits e
  simp only at this
  rw [(norm_perm (h.nodup _ (Nat.le_refl _))).length_eq] at this
  omega
end
end Go.Proofs.YtchjjiedcpfniaaGreatDoor
