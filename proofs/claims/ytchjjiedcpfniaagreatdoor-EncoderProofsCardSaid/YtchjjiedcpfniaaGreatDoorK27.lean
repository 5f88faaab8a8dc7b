/- Parts of the proof: NI. -/
import Derived.Test.YtchjjiedcpfniaaGreatDoorK26
namespace Go.Proofs.YtchjjiedcpfniaaGreatDoor
set_option linter.unusedSimpArgs false
set_option linter.unusedVariables false
open Go Go.Lift Go.Proofs
theorem sumV_map {g : Gr} {v : List Int} {s : Nat} : sumV g v s = (g.edges.map fun e => if e.frm = (s : Int) then v.getD e.to.toNat 0 else 0).sum := by
  unfold sumV
  have key : ∀ i, i ≤ g.edges.length → sumA g v i s = ((g.edges.take i).map fun e => if e.frm = (s : Int) then v.getD e.to.toNat 0 else 0).sum := by
    intro i
    induction i with
    | zero => intro _; rfl
    | succ i ih =>
      intro hi
      rw [sumA_succ, ih (by omega), List.take_add_one, List.getElem?_eq_getElem (show i < g.edges.length by omega), List.map_append, List.sum_append]
      simp [List.getD, show i < g.edges.length by omega]
  have := key _ (Nat.le_refl _)
  rwa [List.take_length] at this
theorem sum_perm {a b : List Int} (h : a.Perm b) : a.sum = b.sum := by
  induction h with
  | nil => rfl
  | cons x _ ih => simp [ih]
  | swap x y l => simp; omega
  | trans _ _ h1 h2 => rw [h1, h2]
theorem sum_filter {α : Type} {f : α → Int} {q : α → Bool} : ∀ {l : List α}, (l.map fun x => if q x = true then f x else 0).sum = ((l.filter q).map f).sum
  | [] => rfl
  | x :: l => by
    rw [List.map_cons, List.sum_cons, sum_filter, List.filter_cons]
    split
    · rw [List.map_cons, List.sum_cons]
    · omega
section
variable {g : Gr} {v : List Int} {m : Int} {l : List Spl}
theorem chL_sum (h : Rd g v m l) {t : Nat} (ht : t < g.states.toNat) : ((chL g l t).map fun c => (hvA g v m l g.states.toNat).getD c.toNat 0).sum = v.getD t 0 := by
  have e : (chL g l t).map (fun c => (hvA g v m l g.states.toNat).getD c.toNat 0) = wsS g v m l t := by
    refine list_ext (d := 0) (by rw [List.length_map, chL_len, wsS_len]) fun j hj => ?_
    rw [List.length_map, chL_len] at hj
    unfold chL
    rw [List.map_map]
    have h1 : ((List.range (prS g l t).length).map ((fun c : Int => (hvA g v m l g.states.toNat).getD c.toNat 0) ∘ fun j => ((offA g l t + j : Nat) : Int))).getD j 0 = (hvA g v m l g.states.toNat).getD (offA g l t + j) 0 := by
      rw [List.getD_eq_getElem?_getD, List.getElem?_map, List.getElem?_range hj]
      show (hvA g v m l g.states.toNat).getD ((offA g l t + j : Nat) : Int).toNat 0 = _
      rw [Int.toNat_natCast]
    rw [h1]
    exact hvA_at hj _ ht
  rw [e]
  exact wsS_sum fun x hx => (rnd_spl h.ok h.rd hx).2
theorem edA_sum (h : Rd g v m l) {c : Nat} : ∀ n, n ≤ g.edges.length → ((edA g l n).map fun e => if e.frm = (c : Int) then (hvA g v m l g.states.toNat).getD e.to.toNat 0 else 0).sum = ((List.range n).map fun k => if decide (ownE g l k = (c : Int)) = true then wtE g v (k : Nat) else 0).sum
  | 0, _ => rfl
  | n + 1, hn => by
    rw [List.range_succ, List.map_append, List.sum_append]
    unfold edA
    rw [List.map_append, List.sum_append, edA_sum h n (by omega)]
    congr 1
    rw [List.map_map]
    have hb := edge_at h.gv (show n < g.edges.length by omega)
    by_cases ho : ownE g l n = (c : Int)
    · have e : ((fun e : Edge => if e.frm = (c : Int) then (hvA g v m l g.states.toNat).getD e.to.toNat 0 else 0) ∘ spE g l n) = fun c : Int => (hvA g v m l g.states.toNat).getD c.toNat 0 := by
        funext d
        show (if ownE g l n = (c : Int) then _ else _) = _
        rw [if_pos ho]
        rfl
      rw [e, chL_sum h (by omega)]
      simp [ho, wtE]
    · have e : ((fun e : Edge => if e.frm = (c : Int) then (hvA g v m l g.states.toNat).getD e.to.toNat 0 else 0) ∘ spE g l n) = fun _ : Int => (0 : Int) := by
        funext d
        show (if ownE g l n = (c : Int) then _ else _) = _
        rw [if_neg ho]
      rw [e]
      have hz : ∀ (L : List Int), (L.map fun _ : Int => (0 : Int)).sum = 0 := by
        intro L
        induction L with
        | nil => rfl
        | cons a L ih => rw [List.map_cons, List.sum_cons, ih]; rfl
      rw [hz]
      simp [ho]
theorem Rd.own_iff (h : Rd g v m l) {s i k : Nat} (hs : s < g.states.toNat) (hi : i < (prS g l s).length) : (k < g.edges.length ∧ ownE g l k = ((offA g l s + i : Nat) : Int)) ↔ (k : Int) ∈ (prS g l s).getD i [] := by
  constructor
  · rintro ⟨hk, ho⟩
    obtain ⟨j, hj, hm, ho2⟩ := h.own hk
    rw [ho] at ho2
    obtain ⟨h1, h2⟩ := off_inj hi hj (by exact_mod_cast ho2)
    rw [h1, h2]; exact hm
  · intro hm
    obtain ⟨h1, h2⟩ := h.asg g.states.toNat (Nat.le_refl _)
    have h3 : (k : Int) ∈ (prS g l s).flatten := List.mem_flatten.2 ⟨_, getD_mem hi, hm⟩
    rw [(h.perm hs).mem_iff] at h3
    obtain ⟨j, hj, h5, _⟩ := outA_mem.1 h3
    refine ⟨by omega, ownL_mem h1 ?_⟩
    exact asgA_mem.2 ⟨s, hs, asgS_mem.2 ⟨i, hi, hm, rfl⟩⟩
theorem Rd.part_nodup (h : Rd g v m l) {s i : Nat} (hs : s < g.states.toNat) (hi : i < (prS g l s).length) : ((prS g l s).getD i []).Nodup := by
  have hpn : (prS g l s).flatten.Nodup := (h.perm hs).nodup_iff.2 (asc_nodup (outA_asc _))
  have hsub : ((prS g l s).getD i []).Sublist (prS g l s).flatten := by
    have e : (prS g l s).flatten = ((prS g l s).take i).flatten ++ ((prS g l s).getD i [] ++ ((prS g l s).drop (i + 1)).flatten) := by
      conv => lhs; rw [← List.take_append_drop i (prS g l s), List.flatten_append, List.drop_eq_getElem_cons hi, List.flatten_cons]
      simp [List.getD, hi]
    rw [e]
    exact (List.sublist_append_left _ _).trans (List.sublist_append_right _ _)
  exact hpn.sublist hsub
theorem Rd.sum (h : Rd g v m l) {s i : Nat} (hs : s < g.states.toNat) (hi : i < (prS g l s).length) : sumV (splG g l) (hvA g v m l g.states.toNat) (offA g l s + i) = psV g v ((prS g l s).getD i []) := by
  rw [sumV_map]
  show ((normE (edA g l g.edges.length)).map _).sum = _
  rw [sum_perm ((norm_perm (h.nodup _ (Nat.le_refl _))).map _), edA_sum h _ (Nat.le_refl _), sum_filter, psV_sum]
  have e : (((List.range g.edges.length).filter fun k => decide (ownE g l k = ((offA g l s + i : Nat) : Int))).map fun k : Nat => (k : Int)).Perm ((prS g l s).getD i []) := by
    refine (List.perm_ext_iff_of_nodup ?_ (h.part_nodup hs hi)).2 fun x => ?_
    · exact List.nodup_iff_pairwise_ne.2 (List.pairwise_map.2 ((List.nodup_range.sublist List.filter_sublist).imp fun h e => h (by omega)))
    · rw [List.mem_map]
      constructor
      · rintro ⟨k, hk, rfl⟩
        rw [List.mem_filter, List.mem_range, decide_eq_true_eq] at hk
        exact (h.own_iff hs hi).1 hk
      · intro hx
        have h3 : x ∈ (prS g l s).flatten := List.mem_flatten.2 ⟨_, getD_mem hi, hx⟩
        rw [(h.perm hs).mem_iff] at h3
        obtain ⟨j, hj, rfl, _⟩ := outA_mem.1 h3
        refine ⟨j, ?_, rfl⟩
        rw [List.mem_filter, List.mem_range, decide_eq_true_eq]
        exact (h.own_iff hs hi).2 hx
  have := sum_perm (e.map (wtE g v))
  rw [List.map_map] at this
  exact this
theorem Rd.hv_at (h : Rd g v m l) {c : Nat} (hc : c < offA g l g.states.toNat) : 1 ≤ (hvA g v m l g.states.toNat).getD c 0 ∧ (hvA g v m l g.states.toNat).getD c 0 ≤ 4096 := by
  obtain ⟨s, i, h1, h2, rfl⟩ := off_split hc
  rw [hvA_at h2 _ h1]
  exact ⟨(h.part h1 h2).1, h.le h1 h2⟩
theorem Rd.hv_mem (h : Rd g v m l) : ∀ n ∈ hvA g v m l g.states.toNat, 1 ≤ n ∧ n ≤ 4096 := fun n hn => by
  obtain ⟨j, hj, rfl⟩ := List.mem_iff_getElem.1 hn
  have := h.hv_at (c := j) (by rw [hvA_len] at hj; exact hj)
  rwa [getD_get hj] at this
theorem Rd.some_state (h : Rd g v m l) : 0 < g.states.toNat := by
  have h1 := (eigN_zero (baseN_zero h.base).1).2.1
  have h2 := h.vl
  cases hv : v with
  | nil => rw [hv] at h1; cases h1
  | cons a w => rw [hv] at h2; simp at h2; omega
theorem Rd.eig (h : Rd g v m l) (h1 : offA g l g.states.toNat ≤ 64) (h2 : (edA g l g.edges.length).length ≤ 1024) : baseN (splG g l) (hvA g v m l g.states.toNat) m = 0 := by
  have hg := h.valid h1 h2
  have hm := h.mb
  have hvec : vecN (splG g l) (hvA g v m l g.states.toNat) m = 0 := by
    rw [vecN_4 hg hm (by rw [hvA_len]; rfl), if_neg]
    intro hb
    obtain ⟨n, hn, hb⟩ := List.any_eq_true.1 hb
    have := h.hv_mem n hn
    simp only [badV, decide_eq_true_eq] at hb
    omega
  have hs := h.some_state
  have hn := h.num (s := 0) hs
  have hof := off_lt (g := g) (l := l) hs hn
  have hz : ((hvA g v m l g.states.toNat).all fun n => decide (n = 0)) = false := by
    refine List.all_eq_false.2 ⟨_, getD_mem (d := 0) (show 0 < (hvA g v m l g.states.toNat).length by rw [hvA_len]; omega), ?_⟩
    have := (h.hv_at (c := 0) (by omega)).1
    simp only [decide_eq_true_eq]
    omega
  have hlow : lowS (splG g l) (hvA g v m l g.states.toNat) m = false := low_no fun c hc => by
    have hc2 : c < offA g l g.states.toNat := by have : (splG g l).states = (offA g l g.states.toNat : Nat) := rfl; omega
    obtain ⟨s, i, h3, h4, rfl⟩ := off_split hc2
    rw [h.sum h3 h4, hvA_at h4 _ h3]
    have := (h.part h3 h4).2
    omega
  have he : eigN (splG g l) (hvA g v m l g.states.toNat) m = 0 := by rw [eigN_3 hvec hz, if_neg (by rw [hlow]; simp)]
  rw [baseN_2 he, if_neg]
  intro hi
  have h0 := of_decide_eq_true hi
  have := h.hv_mem 0 h0
  omega
end
def wsA (p w : List Int) : Nat → Nat → Int
  | 0, _ => 0
  | k + 1, s => wsA p w k s + if p.getD k 0 = (s : Int) then w.getD k 0 else 0
theorem wsA_succ {p w : List Int} {k s : Nat} : wsA p w (k + 1) s = wsA p w k s + if p.getD k 0 = (s : Int) then w.getD k 0 else 0 := rfl
theorem wsA_app {p w q u : List Int} (hl : p.length = w.length) {s : Nat} : ∀ k, k ≤ p.length → wsA (p ++ q) (w ++ u) k s = wsA p w k s
  | 0, _ => rfl
  | k + 1, h => by
    rw [wsA_succ, wsA_succ, wsA_app hl k (by omega)]
    congr 2
    · rw [List.getD_eq_getElem?_getD, List.getElem?_append_left (by omega), ← List.getD_eq_getElem?_getD]
    · rw [List.getD_eq_getElem?_getD, List.getElem?_append_left (by omega), ← List.getD_eq_getElem?_getD]
theorem wsA_tail {p w u : List Int} (hl : p.length = w.length) {s : Nat} {n : Int} : ∀ k, k ≤ u.length → wsA (p ++ List.replicate u.length n) (w ++ u) (p.length + k) s = wsA p w p.length s + if n = (s : Int) then (u.take k).sum else 0
  | 0, _ => by
    rw [Nat.add_zero, wsA_app hl _ (Nat.le_refl _)]
    simp
  | k + 1, h => by
    rw [← Nat.add_assoc, wsA_succ, wsA_tail hl k (by omega)]
    have e1 : (p ++ List.replicate u.length n).getD (p.length + k) 0 = n := by
      rw [List.getD_eq_getElem?_getD, List.getElem?_append_right (by omega), Nat.add_sub_cancel_left, List.getElem?_replicate, if_pos (by omega)]
      rfl
    have e2 : (w ++ u).getD (p.length + k) 0 = u.getD k 0 := by
      rw [List.getD_eq_getElem?_getD, List.getElem?_append_right (by omega), hl, Nat.add_sub_cancel_left, ← List.getD_eq_getElem?_getD]
    rw [e1, e2, take_next (by omega), List.sum_append]
    split <;> simp <;> omega
section
variable {g : Gr} {v : List Int} {m : Int} {l : List Spl}
theorem Rd.ws (h : Rd g v m l) {s : Nat} : ∀ n, n ≤ g.states.toNat → wsA (parA g l n) (hvA g v m l n) (offA g l n) s = if s < n then v.getD s 0 else 0
  | 0, _ => by rw [if_neg (Nat.not_lt_zero _)]; rfl
  | n + 1, hn => by
    have e := wsA_tail (p := parA g l n) (w := hvA g v m l n) (u := wsS g v m l n) (by rw [parA_len, hvA_len]) (s := s) (n := (n : Int)) (wsS g v m l n).length (Nat.le_refl _)
    rw [parA_len, wsS_len] at e
    have e2 : wsA (parA g l (n + 1)) (hvA g v m l (n + 1)) (offA g l (n + 1)) s = _ := e
    rw [e2, h.ws n (by omega), ← wsS_len (v := v) (m := m), List.take_length, wsS_sum fun x hx => (rnd_spl h.ok h.rd hx).2]
    by_cases h1 : s < n
    · rw [if_pos h1, if_neg (by omega), if_pos (by omega)]; omega
    · by_cases h2 : (n : Int) = (s : Int)
      · obtain rfl : n = s := by omega
        rw [if_neg h1, if_pos rfl, if_pos (by omega)]; omega
      · rw [if_neg h1, if_neg h2, if_neg (by omega)]; omega
end
section
variable {g : Gr} {v : List Int} {m : Int}
end
end Go.Proofs.YtchjjiedcpfniaaGreatDoor
