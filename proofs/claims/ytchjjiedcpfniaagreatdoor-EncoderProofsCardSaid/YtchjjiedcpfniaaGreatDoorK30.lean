/- Parts of the proof: NL XQ. -/
import Derived.Test.YtchjjiedcpfniaaGreatDoorK12
import Derived.Test.YtchjjiedcpfniaaGreatDoorK15
import Derived.Test.YtchjjiedcpfniaaGreatDoorK27
import Derived.Test.YtchjjiedcpfniaaGreatDoorK29
namespace Go.Proofs.YtchjjiedcpfniaaGreatDoor
set_option linter.unusedSimpArgs false
set_option linter.unusedVariables false
open Go Go.Lift Go.Proofs
section
variable {α β : Type} [DecidableEq α]
def alDel : List (α × β) → α → List (α × β)
  | [], _ => []
  | (a, b) :: r, k => if k = a then r else (a, b) :: alDel r k
theorem alGet_none : ∀ {l : List (α × β)} {k : α}, alGet l k = none ↔ k ∉ l.map (·.1)
  | [], k => by simp [alGet]
  | (a, b) :: r, k => by
    simp only [alGet, List.map_cons, List.mem_cons, not_or]
    by_cases h : k = a
    · simp [h]
    · simp only [if_neg h, alGet_none (l := r)]
      exact ⟨fun h2 => ⟨h, h2⟩, fun h2 => h2.2⟩
theorem alDel_sub : ∀ {l : List (α × β)} {k : α}, ((alDel l k).map (·.1)).Sublist (l.map (·.1))
  | [], k => .slnil
  | (a, b) :: r, k => by
    simp only [alDel]
    split
    · exact List.sublist_cons_self _ _
    · exact (alDel_sub (l := r)).cons_cons _
theorem alGet_del : ∀ {l : List (α × β)} {k o : α}, (l.map (·.1)).Nodup → alGet (alDel l k) o = if o = k then none else alGet l o
  | [], k, o, _ => by simp [alDel, alGet]
  | (a, b) :: r, k, o, hn => by
    rw [List.map_cons, List.nodup_cons] at hn
    simp only [alDel, alGet]
    by_cases h : k = a
    · subst h
      rw [if_pos rfl]
      by_cases h2 : o = k
      · subst h2
        rw [if_pos rfl]
        exact alGet_none.2 hn.1
      · rw [if_neg h2, if_neg h2]
    · rw [if_neg h]
      simp only [alGet]
      by_cases h2 : o = a
      · subst h2
        rw [if_pos rfl, if_neg (Ne.symm h), if_pos rfl]
      · rw [if_neg h2, if_neg h2]
        exact alGet_del hn.2
theorem alPut_keys : ∀ {l : List (α × β)} {k : α} {v : β}, (l.map (·.1)).Nodup → ((alPut l k v).map (·.1)).Nodup ∧ ∀ o, o ∈ (alPut l k v).map (·.1) ↔ o = k ∨ o ∈ l.map (·.1)
  | [], k, v, _ => by simp [alPut]
  | (a, b) :: r, k, v, hn => by
    rw [List.map_cons, List.nodup_cons] at hn
    simp only [alPut]
    by_cases h : k = a
    · subst h
      rw [if_pos rfl]
      simp only [List.map_cons, List.nodup_cons, List.mem_cons]
      exact ⟨hn, fun o => ⟨fun h => h.elim .inl fun h => .inr (.inr h), fun h => h.elim .inl fun h => h⟩⟩
    · rw [if_neg h]
      obtain ⟨h1, h2⟩ := alPut_keys (k := k) (v := v) hn.2
      simp only [List.map_cons, List.nodup_cons, List.mem_cons]
      refine ⟨⟨fun h3 => ((h2 a).1 h3).elim (fun e => h e.symm) hn.1, h1⟩, fun o => ?_⟩
      rw [h2 o]
      exact ⟨fun h => h.elim (fun h => .inr (.inl h)) fun h => h.elim .inl fun h => .inr (.inr h), fun h => h.elim (fun h => .inr (.inl h)) fun h => h.elim .inl fun h => .inr (.inr h)⟩
end
def oldE (g : Gr) (l : List Spl) (x : Edge) : Edge := ⟨(parA g l g.states.toNat).getD x.frm.toNat 0, x.lab, (parA g l g.states.toNat).getD x.to.toNat 0⟩
def spEs (g : Gr) (l : List Spl) : List Edge := (splG g l).edges
def oldK (g : Gr) (l : List Spl) (k : Nat) : Edge := oldE g l ((spEs g l).getD k de)
def cnM (g : Gr) (l : List Spl) : Nat → List (Edge × Int)
  | 0 => []
  | k + 1 => alPut (cnM g l k) (oldK g l k) ((alGet (cnM g l k) (oldK g l k)).getD 0 + 1)
def dlM (g : Gr) (l : List Spl) : Nat → List (Edge × Int)
  | 0 => cnM g l (spEs g l).length
  | j + 1 => alDel (dlM g l j) (g.edges.getD j de)
def cntE (g : Gr) (l : List Spl) (o : Edge) : Nat → Int
  | 0 => 0
  | k + 1 => cntE g l o k + if oldK g l k = o then 1 else 0
theorem cnM_succ {g : Gr} {l : List Spl} {k : Nat} : cnM g l (k + 1) = alPut (cnM g l k) (oldK g l k) ((alGet (cnM g l k) (oldK g l k)).getD 0 + 1) := rfl
theorem dlM_succ {g : Gr} {l : List Spl} {j : Nat} : dlM g l (j + 1) = alDel (dlM g l j) (g.edges.getD j de) := rfl
def chN (p : List Int) : Nat → Nat → Int
  | 0, _ => 0
  | k + 1, s => chN p k s + if p.getD k 0 = (s : Int) then 1 else 0
theorem chN_succ {p : List Int} {k s : Nat} : chN p (k + 1) s = chN p k s + if p.getD k 0 = (s : Int) then 1 else 0 := rfl
theorem chN_count {p : List Int} {s : Nat} : ∀ k, k ≤ p.length → chN p k s = ((p.take k).count (s : Int) : Nat)
  | 0, _ => by simp [chN]
  | k + 1, h => by
    rw [chN_succ, chN_count k (by omega), take_next (by omega), List.count_append, List.count_singleton]
    by_cases e : p.getD k 0 = (s : Int)
    · rw [if_pos e, if_pos (by simpa using e)]; rfl
    · rw [if_neg e, if_neg (by simpa using e)]; rfl
theorem edges_nodup {g : Gr} (h : gcheck g = 0) : g.edges.Nodup := ascE_nodup (edges_asc h)
section
variable {g : Gr} {v : List Int} {m : Int} {l : List Spl}
theorem count_rep {q n s : Nat} : (List.replicate q (n : Int)).count (s : Int) = if s = n then q else 0 := by
  rw [List.count_replicate]
  by_cases e : s = n
  · subst e; simp
  · rw [if_neg e, if_neg (by simp; omega)]
theorem parA_count {s : Nat} : ∀ n, (parA g l n).count (s : Int) = if s < n then (prS g l s).length else 0
  | 0 => by simp [parA]
  | n + 1 => by
    rw [← parP_all, parP, List.count_append, parA_count n, count_rep]
    by_cases e : s = n
    · subst e; simp
    · rw [if_neg e, Nat.add_zero]
      by_cases h : s < n
      · rw [if_pos h, if_pos (by omega)]
      · rw [if_neg h, if_neg (by omega)]
theorem chN_all {s : Nat} (hs : s < g.states.toNat) : chN (parA g l g.states.toNat) (parA g l g.states.toNat).length s = (prS g l s).length := by
  rw [chN_count _ (Nat.le_refl _), List.take_length, parA_count, if_pos hs]
theorem Rd.spE_old (h : Rd g v m l) {a : Nat} (ha : a < g.edges.length) {c : Int} (hc : c ∈ chL g l (g.edges.getD a de).to.toNat) : oldE g l (spE g l a c) = g.edges.getD a de := by
  obtain ⟨hb1, hb2, hb3⟩ := edge_at h.gv ha
  obtain ⟨i, hi, _, ho⟩ := h.own ha
  obtain ⟨j, hj, hcj⟩ := chL_mem.1 hc
  have h1 : (parA g l g.states.toNat).getD (ownE g l a).toNat 0 = (g.edges.getD a de).frm := by
    rw [ho, Int.toNat_natCast, parA_at hi _ (by omega)]; omega
  have h2 : (parA g l g.states.toNat).getD c.toNat 0 = (g.edges.getD a de).to := by
    rw [hcj, Int.toNat_natCast, parA_at hj _ (by omega)]; omega
  show (⟨(parA g l g.states.toNat).getD (ownE g l a).toNat 0, (g.edges.getD a de).lab, (parA g l g.states.toNat).getD c.toNat 0⟩ : Edge) = _
  rw [h1, h2]
theorem Rd.es_mem (h : Rd g v m l) {x : Edge} : x ∈ spEs g l ↔ ∃ a c, a < g.edges.length ∧ c ∈ chL g l (g.edges.getD a de).to.toNat ∧ x = spE g l a c := by
  rw [← edA_mem]
  exact (norm_perm (h.nodup _ (Nat.le_refl _))).mem_iff
theorem Rd.old_at (h : Rd g v m l) {k : Nat} (hk : k < (spEs g l).length) : oldK g l k ∈ g.edges ∧ ∀ j, j < (spEs g l).length → oldK g l j = oldK g l k → ((spEs g l).getD j de).frm = ((spEs g l).getD k de).frm := by
  obtain ⟨a, c, ha, hc, e⟩ := h.es_mem.1 (getD_mem (d := de) hk)
  have hok : oldK g l k = g.edges.getD a de := by unfold oldK; rw [e]; exact h.spE_old ha hc
  refine ⟨by rw [hok]; exact getD_mem ha, fun j hj hjk => ?_⟩
  obtain ⟨b, d, hb, hd, e2⟩ := h.es_mem.1 (getD_mem (d := de) hj)
  have hoj : oldK g l j = g.edges.getD b de := by unfold oldK; rw [e2]; exact h.spE_old hb hd
  have hab : a = b := by
    have hn := edges_nodup h.gv
    have e3 : g.edges.getD b de = g.edges.getD a de := by rw [← hoj, hjk, hok]
    rw [getD_get ha, getD_get hb] at e3
    exact ((List.getElem_inj hn).1 e3).symm
  subst hab
  rw [e, e2]
  rfl
theorem cnM_get {o : Edge} : ∀ {k : Nat}, (alGet (cnM g l k) o).getD 0 = cntE g l o k
  | 0 => rfl
  | k + 1 => by
    rw [cnM_succ, alGet_put]
    unfold cntE
    by_cases e : o = oldK g l k
    · rw [if_pos e, if_pos e.symm, ← e, cnM_get (k := k)]; rfl
    · rw [if_neg e, if_neg (Ne.symm e), cnM_get (k := k), Int.add_zero]
theorem Rd.cnM_keys (h : Rd g v m l) : ∀ {k : Nat}, k ≤ (spEs g l).length → ((cnM g l k).map (·.1)).Nodup ∧ ∀ o ∈ (cnM g l k).map (·.1), o ∈ g.edges
  | 0, _ => ⟨List.nodup_nil, fun o ho => by cases ho⟩
  | k + 1, hk => by
    obtain ⟨h1, h2⟩ := Rd.cnM_keys h (k := k) (by omega)
    obtain ⟨h3, h4⟩ := alPut_keys (k := oldK g l k) (v := (alGet (cnM g l k) (oldK g l k)).getD 0 + 1) h1
    refine ⟨h3, fun o ho => ?_⟩
    rcases (h4 o).1 ho with rfl | ho
    · exact (h.old_at (by omega)).1
    · exact h2 o ho
theorem Rd.dlM_get (h : Rd g v m l) : ∀ {j : Nat}, j ≤ g.edges.length → ((dlM g l j).map (·.1)).Nodup ∧ ∀ o, alGet (dlM g l j) o = if o ∈ g.edges.take j then none else alGet (cnM g l (spEs g l).length) o
  | 0, _ => ⟨(h.cnM_keys (Nat.le_refl _)).1, fun o => by simp [dlM]⟩
  | j + 1, hj => by
    obtain ⟨h1, h2⟩ := Rd.dlM_get h (j := j) (by omega)
    refine ⟨h1.sublist alDel_sub, fun o => ?_⟩
    rw [dlM_succ, alGet_del h1, h2]
    have e : g.edges.take (j + 1) = g.edges.take j ++ [g.edges.getD j de] := by
      rw [List.take_succ_eq_append_getElem (by omega), getD_get (by omega)]
    rw [e]
    by_cases h3 : o = g.edges.getD j de
    · rw [if_pos h3, if_pos (by rw [h3]; simp)]
    · rw [if_neg h3]
      by_cases h4 : o ∈ g.edges.take j
      · rw [if_pos h4, if_pos (by simp [h4])]
      · rw [if_neg h4, if_neg (by simp only [List.mem_append, List.mem_singleton]; exact fun h5 => h5.elim h4 h3)]
theorem Rd.dlM_at (h : Rd g v m l) {j : Nat} (hj : j < g.edges.length) : (alGet (dlM g l j) (g.edges.getD j de)).getD 0 = cntE g l (g.edges.getD j de) (spEs g l).length := by
  rw [(h.dlM_get (Nat.le_of_lt hj)).2, if_neg ?_, cnM_get]
  intro hm
  obtain ⟨i, hi, e⟩ := List.mem_iff_getElem.1 hm
  rw [List.getElem_take, getD_get hj] at e
  have := (List.getElem_inj (edges_nodup h.gv)).1 e
  rw [List.length_take] at hi
  omega
theorem cntE_count {o : Edge} : ∀ k, k ≤ (spEs g l).length → cntE g l o k = (((spEs g l).take k).countP fun x => decide (oldE g l x = o) : Nat)
  | 0, _ => by simp [cntE]
  | k + 1, hk => by
    unfold cntE
    rw [cntE_count k (by omega), List.take_succ_eq_append_getElem (by omega), List.countP_append, ← getD_get (d := de) (by omega : k < (spEs g l).length)]
    show _ + (if oldE g l ((spEs g l).getD k de) = o then 1 else 0) = _
    by_cases e : oldE g l ((spEs g l).getD k de) = o
    · rw [if_pos e, List.countP_singleton, if_pos (by simpa using e)]; rfl
    · rw [if_neg e, List.countP_singleton, if_neg (by simpa using e)]; rfl
theorem Rd.edA_count (h : Rd g v m l) {j : Nat} (hj : j < g.edges.length) : ∀ n, n ≤ g.edges.length → ((edA g l n).countP fun x => decide (oldE g l x = g.edges.getD j de)) = if j < n then (prS g l (g.edges.getD j de).to.toNat).length else 0
  | 0, _ => by simp [edA]
  | n + 1, hn => by
    rw [← edP_all, edP, List.take_length, List.countP_append, Rd.edA_count h hj n (by omega), List.countP_map]
    have key : ∀ c ∈ chL g l (g.edges.getD n de).to.toNat, ((fun x => decide (oldE g l x = g.edges.getD j de)) ∘ spE g l n) c = decide (n = j) := fun c hc => by
      show decide (oldE g l (spE g l n c) = g.edges.getD j de) = _
      rw [h.spE_old (by omega) hc, decide_eq_decide, getD_get hj, getD_get (by omega)]
      exact List.getElem_inj (edges_nodup h.gv)
    rw [List.countP_congr (q := fun _ => decide (n = j)) fun c hc => by rw [key c hc]]
    by_cases e : n = j
    · subst e
      rw [if_neg (by omega), if_pos (by omega), Nat.zero_add]
      simp [chL_len]
    · have h0 : (List.countP (fun _ => decide (n = j)) (chL g l (g.edges.getD n de).to.toNat)) = 0 := by
        rw [List.countP_eq_zero]; intro a _; simp [e]
      rw [h0, Nat.add_zero]
      by_cases h2 : j < n
      · rw [if_pos h2, if_pos (by omega)]
      · rw [if_neg h2, if_neg (by omega)]
theorem Rd.count (h : Rd g v m l) {j : Nat} (hj : j < g.edges.length) : (alGet (dlM g l j) (g.edges.getD j de)).getD 0 = chN (parA g l g.states.toNat) (parA g l g.states.toNat).length (g.edges.getD j de).to.toNat := by
  have hb := edge_at h.gv hj
  rw [h.dlM_at hj, cntE_count _ (Nat.le_refl _), List.take_length, chN_all (by omega)]
  have := (norm_perm (h.nodup _ (Nat.le_refl _))).countP_eq (fun x => decide (oldE g l x = g.edges.getD j de))
  have e : (spEs g l).countP (fun x => decide (oldE g l x = g.edges.getD j de)) = (edA g l g.edges.length).countP (fun x => decide (oldE g l x = g.edges.getD j de)) := this
  rw [e, h.edA_count hj _ (Nat.le_refl _), if_pos hj]
end
end Go.Proofs.YtchjjiedcpfniaaGreatDoor
namespace Go.Proofs.YtchjjiedcpfniaaGreatDoor
set_option linter.unusedSimpArgs false
set_option linter.unusedVariables false
open Go Go.Lift Go.Proofs
def ltrB (i : Nat) : UInt8 := letters.getD i 0
def keyT (g : Gr) (L : List Int) (w : List UInt8) (n : Nat) : List (List UInt8) := ((List.range n).filter fun i => decide (setA g L (w ++ [ltrB i]) ≠ [])).map fun i => w ++ [ltrB i]
section
variable {g : Gr} {v : List Int} {m : Int} {l : List Spl}
end
end Go.Proofs.YtchjjiedcpfniaaGreatDoor
