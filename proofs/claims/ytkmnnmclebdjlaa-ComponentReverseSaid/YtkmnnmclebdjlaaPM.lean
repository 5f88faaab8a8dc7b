/-
  Plain laws of this seat: walks of so many edges, distances, and how they are found.
-/
import Derived.Test.YtkmnnmclebdjlaaPK
namespace Go.Proofs.Ytkmnnmclebdjlaa
set_option linter.unusedSimpArgs false
set_option linter.unusedVariables false
open Go Go.Lift

/-- from s to t by k edges. -/
inductive Wlk (g : Gr) (s : Nat) : Nat → Nat → Prop
  | nil : Wlk g s 0 s
  | snoc {k t : Nat} {x : Edge} : Wlk g s k t → x ∈ g.edges → x.frm = (t : Int) → Wlk g s (k + 1) x.to.toNat
theorem Wlk.rch {g : Gr} {s k t : Nat} (h : Wlk g s k t) : Rch g s t := by
  induction h with
  | nil => exact .refl
  | snoc _ hx he ih => exact .step ih hx he
theorem Rch.wlk {g : Gr} {s t : Nat} (h : Rch g s t) : ∃ k, Wlk g s k t := by
  induction h with
  | refl => exact ⟨0, .nil⟩
  | step _ hx he ih => obtain ⟨k, hk⟩ := ih; exact ⟨k + 1, .snoc hk hx he⟩
theorem Wlk.trans {g : Gr} {a b c j k : Nat} (h : Wlk g a j b) (w : Wlk g b k c) : Wlk g a (j + k) c := by
  induction w with
  | nil => exact h
  | snoc _ hx he ih => exact .snoc ih hx he
/-- a list of distances from the state 0. -/
structure Dist (g : Gr) (D : List Int) : Prop where
  len : D.length = g.n
  walk : ∀ s, s < g.n → 0 ≤ D.getD s 0 ∧ Wlk g 0 (D.getD s 0).toNat s
  least : ∀ s k, Wlk g 0 k s → D.getD s 0 ≤ (k : Int)
theorem Dist.eq {g : Gr} {D E : List Int} (h : Dist g D) (k : Dist g E) : D = E := by
  refine eq_of_getD (d := 0) (by rw [h.len, k.len]) fun s hs => ?_
  rw [h.len] at hs
  have h1 := h.walk s hs
  have h2 := k.walk s hs
  have h3 := h.least s _ h2.2
  have h4 := k.least s _ h1.2
  omega

theorem getI_set {l : List Int} {i j : Nat} {v d : Int} : (l.set i v).getD j d = if j = i ∧ i < l.length then v else l.getD j d := getD_set
/-- how many have no level yet. -/
def unv (D : List Int) : Nat := unseen (D.map fun v => decide (0 ≤ v))
theorem unv_at {D : List Int} {w : Nat} (hw : w < D.length) : (D.map fun v => decide (0 ≤ v)).getD w false = decide (0 ≤ D.getD w 0) := by
  simp [List.getD, hw]
theorem unv_set {D : List Int} {w : Nat} {v : Int} (hw : w < D.length) (hn : D.getD w 0 < 0) (hv : 0 ≤ v) : unv (D.set w v) + 1 = unv D := by
  unfold unv
  rw [List.map_set, show (decide (0 ≤ v)) = true by simp [hv]]
  exact unseen_set (by simpa using hw) (by rw [unv_at hw, decide_eq_false (by omega)])

structure BCore (g : Gr) (D q : List Int) : Prop where
  pos : 0 < g.n
  len : D.length = g.n
  zero : D.getD 0 0 = 0
  low : ∀ s, s < g.n → -1 ≤ D.getD s 0
  bd : ∀ s, s < g.n → D.getD s 0 + unv D < g.n
  mem : ∀ x ∈ q, 0 ≤ x ∧ x < (g.n : Int) ∧ 0 ≤ D.getD x.toNat 0
  walk : ∀ s, s < g.n → 0 ≤ D.getD s 0 → Wlk g 0 (D.getD s 0).toNat s
/-- the search between two states of the queue. -/
structure Bfs (g : Gr) (D q : List Int) : Prop extends BCore g D q where
  sorted : q.Pairwise fun a b => D.getD a.toNat 0 ≤ D.getD b.toNat 0
  top : ∀ h ∈ q, ∀ s, s < g.n → D.getD s 0 ≤ D.getD h.toNat 0 + 1
  done : ∀ s, s < g.n → 0 ≤ D.getD s 0 → (s : Int) ∉ q → ∀ x ∈ g.edges, x.frm = (s : Int) → 0 ≤ D.getD x.to.toNat 0 ∧ D.getD x.to.toNat 0 ≤ D.getD s 0 + 1
/-- the search while the edges are gone through for the state h. -/
structure BfsM (g : Gr) (D q : List Int) (h : Int) (i : Nat) : Prop extends BCore g D q where
  hd : 0 ≤ h ∧ h < (g.n : Int) ∧ 0 ≤ D.getD h.toNat 0
  sorted : q.Pairwise fun a b => D.getD a.toNat 0 ≤ D.getD b.toNat 0
  above : ∀ x ∈ q, D.getD h.toNat 0 ≤ D.getD x.toNat 0
  top : ∀ s, s < g.n → D.getD s 0 ≤ D.getD h.toNat 0 + 1
  done : ∀ s, s < g.n → 0 ≤ D.getD s 0 → (s : Int) ∉ q → (s : Int) ≠ h → ∀ x ∈ g.edges, x.frm = (s : Int) → 0 ≤ D.getD x.to.toNat 0 ∧ D.getD x.to.toNat 0 ≤ D.getD s 0 + 1
  part : ∀ x ∈ g.edges.take i, x.frm = h → 0 ≤ D.getD x.to.toNat 0 ∧ D.getD x.to.toNat 0 ≤ D.getD h.toNat 0 + 1
theorem Bfs.pop {g : Gr} {D q : List Int} {h : Int} (b : Bfs g D (h :: q)) : BfsM g D q h 0 := by
  refine ⟨⟨b.pos, b.len, b.zero, b.low, b.bd, fun x hx => b.mem x (List.mem_cons_of_mem _ hx), b.walk⟩, b.mem h List.mem_cons_self, ?_, ?_, b.top h List.mem_cons_self, ?_, ?_⟩
  · exact (List.pairwise_cons.1 b.sorted).2
  · exact (List.pairwise_cons.1 b.sorted).1
  · intro s hs h0 hq hne
    refine b.done s hs h0 fun hm => ?_
    rcases List.mem_cons.1 hm with h1 | h1
    · exact hne h1
    · exact hq h1
  · intro x hx; simp at hx
theorem take_at {g : Gr} {i : Nat} (h : i < g.edges.length) {x : Edge} (hx : x ∈ g.edges.take (i + 1)) : x ∈ g.edges.take i ∨ x = g.edges.getD i de := by
  rw [List.take_succ_eq_append_getElem h] at hx
  rcases List.mem_append.1 hx with h1 | h1
  · exact .inl h1
  · refine .inr ?_
    have : x = g.edges[i] := by simpa using h1
    rw [this]; simp [List.getD, h]
theorem BfsM.skip {g : Gr} {D q : List Int} {h : Int} {i : Nat} (hf : Fit g) (b : BfsM g D q h i) (hi : i < g.edges.length) (hn : (g.edges.getD i de).frm = h → 0 ≤ D.getD (g.edges.getD i de).to.toNat 0) : BfsM g D q h (i + 1) := by
  refine ⟨b.toBCore, b.hd, b.sorted, b.above, b.top, b.done, fun x hx he => ?_⟩
  rcases take_at hi hx with h1 | rfl
  · exact b.part x h1 he
  · have := hf.to _ (getD_mem (d := de) hi)
    exact ⟨hn he, b.top _ (by unfold Gr.n; omega)⟩
theorem BfsM.push {g : Gr} {D q : List Int} {h : Int} {i : Nat} (hf : Fit g) (b : BfsM g D q h i) (hi : i < g.edges.length) (he : (g.edges.getD i de).frm = h) (hn : D.getD (g.edges.getD i de).to.toNat 0 < 0) :
    BfsM g (D.set (g.edges.getD i de).to.toNat (D.getD h.toNat 0 + 1)) (q ++ [(g.edges.getD i de).to]) h (i + 1) := by
  have hto := hf.to _ (getD_mem (d := de) hi)
  generalize hw : (g.edges.getD i de).to = w at *
  have hwn : w.toNat < g.n := by unfold Gr.n; omega
  have hwl : w.toNat < D.length := by rw [b.len]; exact hwn
  have hgn : (g.n : Int) = g.states := by unfold Gr.n; omega
  have hD : ∀ j, (D.set w.toNat (D.getD h.toNat 0 + 1)).getD j 0 = if j = w.toNat then D.getD h.toNat 0 + 1 else D.getD j 0 := fun j => by
    rw [getI_set]; simp only [hwl, and_true]
  have hh := b.hd
  have hne : ∀ j, 0 ≤ D.getD j 0 → j ≠ w.toNat := fun j hj e => by rw [e] at hj; omega
  have hDk : ∀ j, 0 ≤ D.getD j 0 → (D.set w.toNat (D.getD h.toNat 0 + 1)).getD j 0 = D.getD j 0 := fun j hj => by rw [hD, if_neg (hne j hj)]
  have hu := unv_set hwl hn (v := D.getD h.toNat 0 + 1) (by omega)
  have hwalk : Wlk g 0 (D.getD h.toNat 0 + 1).toNat w.toNat := by
    have := (b.walk h.toNat (by omega) hh.2.2).snoc (getD_mem (d := de) hi) (by rw [he]; omega)
    rw [hw] at this
    rw [show (D.getD h.toNat 0 + 1).toNat = (D.getD h.toNat 0).toNat + 1 by omega]
    exact this
  have key : ∀ x : Edge, 0 ≤ D.getD x.to.toNat 0 → (D.set w.toNat (D.getD h.toNat 0 + 1)).getD x.to.toNat 0 = D.getD x.to.toNat 0 := fun x hx => hDk _ hx
  refine ⟨⟨b.pos, by simpa using b.len, by rw [hDk 0 (by rw [b.zero]; omega), b.zero], fun s hs => ?_, fun s hs => ?_, fun x hx => ?_, fun s hs h0 => ?_⟩, ⟨hh.1, hh.2.1, by rw [hDk _ hh.2.2]; exact hh.2.2⟩, ?_, fun x hx => ?_, fun s hs => ?_, fun s hs h0 hq hnh x hx hxs => ?_, fun x hx hxh => ?_⟩
  · rw [hD]; split
    · omega
    · exact b.low s hs
  · rw [hD]
    have h1 := b.bd s hs
    have h2 := b.bd h.toNat (by omega)
    split <;> omega
  · rcases List.mem_append.1 hx with h1 | h1
    · have := b.mem x h1
      exact ⟨this.1, this.2.1, by rw [hDk _ this.2.2]; exact this.2.2⟩
    · have : x = w := by simpa using h1
      subst this
      exact ⟨hto.1, by omega, by rw [hD, if_pos rfl]; omega⟩
  · rw [hD] at h0 ⊢
    split
    · rename_i h1; subst h1; exact hwalk
    · rename_i h1; rw [if_neg h1] at h0; exact b.walk s hs h0
  · rw [List.pairwise_append]
    refine ⟨?_, by simp, fun x hx y hy => ?_⟩
    · refine (List.pairwise_iff_forall_sublist.2 fun {x y} hs => ?_)
      have h1 := (List.pairwise_iff_forall_sublist.1 b.sorted) hs
      have hx := (b.mem x (hs.subset (by simp))).2.2
      have hy := (b.mem y (hs.subset (by simp))).2.2
      rw [hDk _ hx, hDk _ hy]; exact h1
    · have : y = w := by simpa using hy
      subst this
      rw [hDk _ (b.mem x hx).2.2, hD y.toNat, if_pos rfl]
      exact b.top _ (by have := b.mem x hx; omega)
  · rw [hDk _ hh.2.2]
    rcases List.mem_append.1 hx with h1 | h1
    · rw [hDk _ (b.mem x h1).2.2]; exact b.above x h1
    · have : x = w := by simpa using h1
      subst this
      rw [hD, if_pos rfl]; omega
  · rw [hDk _ hh.2.2, hD]; split
    · omega
    · exact b.top s hs
  · rw [List.mem_append, not_or] at hq
    have hsw : s ≠ w.toNat := fun e => hq.2 (by rw [e]; simp; omega)
    rw [hD s, if_neg hsw] at h0 ⊢
    have := b.done s hs h0 hq.1 hnh x hx hxs
    rw [hDk _ this.1]; exact this
  · rw [hDk _ hh.2.2]
    rcases take_at hi hx with h1 | rfl
    · have := b.part x h1 hxh
      rw [hDk _ this.1]; exact this
    · rw [hw, hD, if_pos rfl]; omega
theorem BfsM.fin {g : Gr} {D q : List Int} {h : Int} {i : Nat} (b : BfsM g D q h i) (hi : g.edges.length ≤ i) : Bfs g D q := by
  refine ⟨b.toBCore, b.sorted, fun x hx s hs => ?_, fun s hs h0 hq x hx he => ?_⟩
  · have h1 := b.above x hx
    have h2 := b.top s hs
    omega
  · by_cases e : (s : Int) = h
    · have := b.part x (by rw [List.take_of_length_le hi]; exact hx) (by rw [he, e])
      rw [show s = h.toNat by omega]; exact this
    · exact b.done s hs h0 hq e x hx he
theorem Bfs.all {g : Gr} {D : List Int} (hf : Fit g) (b : Bfs g D []) (hr : ∀ s, s < g.n → Rch g 0 s) : Dist g D := by
  have hz := b.zero
  have hvis : ∀ t, Rch g 0 t → t < g.n ∧ 0 ≤ D.getD t 0 := fun t ht => by
    refine Rch.mem (p := fun t => t < g.n ∧ 0 ≤ D.getD t 0) ⟨b.pos, by rw [hz]; omega⟩ (fun x hx t he hp => ?_) ht
    have := hf.to x hx
    exact ⟨by unfold Gr.n; omega, (b.done t hp.1 hp.2 (by simp) x hx he).1⟩
  refine ⟨b.len, fun s hs => ⟨(hvis s (hr s hs)).2, b.walk s hs (hvis s (hr s hs)).2⟩, fun s k hw => ?_⟩
  induction hw with
  | nil => rw [hz]; omega
  | snoc hw hx he ih =>
    have h1 := hvis _ hw.rch
    have := (b.done _ h1.1 h1.2 (by simp) _ hx he).2
    omega
theorem Bfs.start {g : Gr} (hp : 0 < g.n) : Bfs g ((List.replicate g.n (-1 : Int)).set 0 0) [0] := by
  have hD : ∀ j, j < g.n → ((List.replicate g.n (-1 : Int)).set 0 0).getD j 0 = if j = 0 then 0 else -1 := fun j hj => by
    rw [getI_set]
    simp only [List.length_replicate, hp, and_true]
    split
    · rfl
    · simp [List.getD, List.getElem?_replicate, hj]
  have hu : unv ((List.replicate g.n (-1 : Int)).set 0 0) + 1 = unv (List.replicate g.n (-1 : Int)) := unv_set (by simpa using hp) (by simp [List.getD, List.getElem?_replicate, hp]) (Int.le_refl _)
  have hu2 : unv (List.replicate g.n (-1 : Int)) ≤ g.n := by
    have := unseen_le ((List.replicate g.n (-1 : Int)).map fun v => decide (0 ≤ v))
    simpa [unv] using this
  refine ⟨⟨hp, by simp, by rw [hD 0 hp]; rfl, fun s hs => ?_, fun s hs => ?_, fun x hx => ?_, fun s hs h0 => ?_⟩, by simp, fun h hh s hs => ?_, fun s hs h0 hq => ?_⟩
  · rw [hD s hs]; split <;> omega
  · rw [hD s hs]; split <;> omega
  · have : x = 0 := by simpa using hx
    subst this
    exact ⟨Int.le_refl _, by omega, by rw [show (0 : Int).toNat = 0 from rfl, hD 0 hp]; simp⟩
  · rw [hD s hs] at h0 ⊢
    split at h0
    · rename_i e; subst e; exact .nil
    · omega
  · have : h = 0 := by simpa using hh
    subst this
    rw [hD s hs, show (0 : Int).toNat = 0 from rfl, hD 0 hp]; split <;> simp
  · exfalso
    rw [hD s hs] at h0
    split at h0
    · rename_i e; subst e; exact hq (by simp)
    · omega
end Go.Proofs.Ytkmnnmclebdjlaa

namespace Go.Proofs.Ytkmnnmclebdjlaa
set_option linter.unusedSimpArgs false
set_option linter.unusedVariables false
open Go Go.Lift

/-- whatever is reached is reached by fewer edges than there are states. -/
theorem short_at {g : Gr} (hf : Fit g) : ∀ (m : Nat) (l : List Bool), unseen l = m → l.length = g.n → l.getD 0 false = true → (∀ t, l.getD t false = true → ∃ k, k + unseen l < g.n ∧ Wlk g 0 k t) → ∀ t, Rch g 0 t → ∃ k, k < g.n ∧ Wlk g 0 k t := by
  intro m
  induction m with
  | zero =>
    intro l hu hl h0 hw t ht
    by_cases hc : ∀ x ∈ g.edges, l.getD x.frm.toNat false = true → l.getD x.to.toNat false = true
    · have := Rch.mem (p := fun t => l.getD t false = true) h0 (fun x hx t he hp => hc x hx (by rw [he]; exact hp)) ht
      obtain ⟨k, hk, hw⟩ := hw t this
      exact ⟨k, by omega, hw⟩
    · exfalso
      simp only [Classical.not_forall] at hc
      obtain ⟨x, hx, h1, h2⟩ := hc
      have := hf.to x hx
      have := unseen_set (l := l) (s := x.to.toNat) (by rw [hl]; unfold Gr.n; omega) (by simpa using h2)
      omega
  | succ m ih =>
    intro l hu hl h0 hw t ht
    by_cases hc : ∀ x ∈ g.edges, l.getD x.frm.toNat false = true → l.getD x.to.toNat false = true
    · have := Rch.mem (p := fun t => l.getD t false = true) h0 (fun x hx t he hp => hc x hx (by rw [he]; exact hp)) ht
      obtain ⟨k, hk, hw⟩ := hw t this
      exact ⟨k, by omega, hw⟩
    · simp only [Classical.not_forall] at hc
      obtain ⟨x, hx, h1, h2⟩ := hc
      have hto := hf.to x hx
      have hfr := hf.frm x hx
      have hxl : x.to.toNat < l.length := by rw [hl]; unfold Gr.n; omega
      have hu2 := unseen_set (l := l) (s := x.to.toNat) hxl (by simpa using h2)
      refine ih (l.set x.to.toNat true) (by omega) (by simpa using hl) ?_ (fun t ht => ?_) t ht
      · rw [getD_set]; split
        · rfl
        · exact h0
      · rw [getD_set] at ht
        split at ht
        · rename_i e
          obtain ⟨k, hk, hwk⟩ := hw _ h1
          refine ⟨k + 1, by omega, ?_⟩
          rw [e.1]
          exact hwk.snoc hx (by omega)
        · obtain ⟨k, hk, hwk⟩ := hw _ ht
          exact ⟨k, by omega, hwk⟩
theorem short_walk {g : Gr} (hf : Fit g) (hp : 0 < g.n) {t : Nat} (ht : Rch g 0 t) : ∃ k, k < g.n ∧ Wlk g 0 k t := by
  have hl : (rstart g 0).length = g.n := by simp [rstart]
  have hu : unseen (rstart g 0) + 1 = unseen (List.replicate g.n false) := unseen_set (by simpa using hp) (by simp [List.getD, List.getElem?_replicate, hp])
  have hu2 := unseen_le (List.replicate g.n false)
  have hu3 : (List.replicate g.n false).length = g.n := by simp
  refine short_at hf _ (rstart g 0) rfl hl ?_ (fun t ht => ?_) t ht
  · unfold rstart; rw [getD_set, if_pos ⟨rfl, by simpa using hp⟩]
  · unfold rstart at ht
    rw [getD_set] at ht
    split at ht
    · rename_i e; rw [e.1]; exact ⟨0, by omega, .nil⟩
    · simp [List.getD, List.getElem?_replicate] at ht
      split at ht <;> simp at ht

def lrelax (l : List Int) (x : Edge) : List Int := l.set x.to.toNat (min (l.getD x.to.toNat 0) (l.getD x.frm.toNat 0 + 1))
def lstart (g : Gr) : List Int := (List.replicate g.n g.states).set 0 0
def lev (g : Gr) : Nat → List Int
  | 0 => lstart g
  | k + 1 => g.edges.foldl lrelax (lev g k)
def levAt (g : Gr) (k i : Nat) : List Int := (g.edges.take i).foldl lrelax (lev g k)
def levL (g : Gr) : List Int := lev g g.n
theorem lrelax_len {l : List Int} {x : Edge} : (lrelax l x).length = l.length := by simp [lrelax]
theorem lfold_len : ∀ (es : List Edge) (l : List Int), (es.foldl lrelax l).length = l.length
  | [], _ => rfl
  | x :: es, l => by rw [List.foldl_cons, lfold_len es, lrelax_len]
theorem lev_len {g : Gr} : ∀ k, (lev g k).length = g.n
  | 0 => by simp [lev, lstart]
  | k + 1 => by rw [lev, lfold_len]; exact lev_len k
theorem levAt_len {g : Gr} {k i : Nat} : (levAt g k i).length = g.n := by unfold levAt; rw [lfold_len, lev_len]
theorem levAt_succ {g : Gr} {k i : Nat} (h : i < g.edges.length) : levAt g k (i + 1) = lrelax (levAt g k i) (g.edges.getD i de) := foldl_take_succ (d := de) _ _ _ _ h
@[simp] theorem levAt_zero {g : Gr} {k : Nat} : levAt g k 0 = lev g k := by simp [levAt]
theorem levAt_all {g : Gr} {k i : Nat} (h : g.edges.length ≤ i) : levAt g k i = lev g (k + 1) := by unfold levAt; rw [List.take_of_length_le h]; rfl
theorem lrelax_at {l : List Int} {x : Edge} (j : Nat) (hx : x.to.toNat < l.length) : (lrelax l x).getD j 0 = if j = x.to.toNat then min (l.getD x.to.toNat 0) (l.getD x.frm.toNat 0 + 1) else l.getD j 0 := by
  unfold lrelax; rw [getI_set]; simp only [hx, and_true]
theorem lrelax_le {l : List Int} {x : Edge} (j : Nat) : (lrelax l x).getD j 0 ≤ l.getD j 0 := by
  unfold lrelax; rw [getI_set]; split
  · rename_i h; rw [h.1]; omega
  · omega
theorem lfold_le : ∀ (es : List Edge) (l : List Int) (j : Nat), (es.foldl lrelax l).getD j 0 ≤ l.getD j 0
  | [], _, _ => Int.le_refl _
  | x :: es, l, j => Int.le_trans (lfold_le es _ j) (lrelax_le j)
theorem lfold_to : ∀ (es : List Edge) (l : List Int) (x : Edge), x ∈ es → x.to.toNat < l.length → (es.foldl lrelax l).getD x.to.toNat 0 ≤ l.getD x.frm.toNat 0 + 1
  | y :: es, l, x, h, hl => by
    rcases List.mem_cons.1 h with rfl | h1
    · refine Int.le_trans (lfold_le es _ _) ?_
      rw [lrelax_at _ hl, if_pos rfl]; omega
    · have h2 := lfold_to es (lrelax l y) x h1 (by rw [lrelax_len]; exact hl)
      have h3 := lrelax_le (l := l) (x := y) x.frm.toNat
      rw [List.foldl_cons]; omega
/-- what an entry says: there is such a walk, or nothing is known. -/
def LSound (g : Gr) (l : List Int) : Prop := ∀ t, t < g.n → 0 ≤ l.getD t 0 ∧ l.getD t 0 ≤ g.states ∧ (l.getD t 0 = g.states ∨ Wlk g 0 (l.getD t 0).toNat t)
theorem lrelax_sound {g : Gr} (hf : Fit g) {l : List Int} (hl : l.length = g.n) (h : LSound g l) {x : Edge} (hx : x ∈ g.edges) : LSound g (lrelax l x) := by
  intro t ht
  have hto := hf.to x hx
  have hfr := hf.frm x hx
  rw [lrelax_at t (by rw [hl]; unfold Gr.n; omega)]
  split
  · rename_i e
    have h1 := h x.to.toNat (by unfold Gr.n; omega)
    have h2 := h x.frm.toNat (by unfold Gr.n; omega)
    by_cases hm : l.getD x.to.toNat 0 ≤ l.getD x.frm.toNat 0 + 1
    · rw [show min (l.getD x.to.toNat 0) (l.getD x.frm.toNat 0 + 1) = l.getD x.to.toNat 0 by omega, e]; exact h1
    · rw [show min (l.getD x.to.toNat 0) (l.getD x.frm.toNat 0 + 1) = l.getD x.frm.toNat 0 + 1 by omega]
      refine ⟨by omega, by omega, ?_⟩
      rcases h2.2.2 with h3 | h3
      · omega
      · right
        rw [show (l.getD x.frm.toNat 0 + 1).toNat = (l.getD x.frm.toNat 0).toNat + 1 by omega, e]
        exact h3.snoc hx (by omega)
  · exact h t ht
theorem lfold_sound {g : Gr} (hf : Fit g) : ∀ (es : List Edge) (l : List Int), (∀ x ∈ es, x ∈ g.edges) → l.length = g.n → LSound g l → LSound g (es.foldl lrelax l)
  | [], _, _, _, h => h
  | x :: es, l, hs, hl, h => lfold_sound hf es _ (fun y hy => hs y (List.mem_cons_of_mem _ hy)) (by rw [lrelax_len]; exact hl) (lrelax_sound hf hl h (hs x List.mem_cons_self))
theorem lstart_at {g : Gr} {j : Nat} (hj : j < g.n) : (lstart g).getD j 0 = if j = 0 then 0 else g.states := by
  unfold lstart
  rw [getI_set]
  simp only [List.length_replicate]
  by_cases e : j = 0
  · subst e; rw [if_pos ⟨rfl, hj⟩, if_pos rfl]
  · rw [if_neg (by omega), if_neg e]; simp [List.getD, List.getElem?_replicate, hj]
theorem lev_sound {g : Gr} (hf : Fit g) : ∀ k, LSound g (lev g k)
  | 0 => fun t ht => by
    have hst := hf.st
    show 0 ≤ (lstart g).getD t 0 ∧ (lstart g).getD t 0 ≤ g.states ∧ ((lstart g).getD t 0 = g.states ∨ Wlk g 0 ((lstart g).getD t 0).toNat t)
    rw [lstart_at ht]
    split
    · rename_i e; subst e; exact ⟨Int.le_refl _, hst.1, .inr .nil⟩
    · exact ⟨hst.1, Int.le_refl _, .inl rfl⟩
  | k + 1 => lfold_sound hf _ _ (fun _ h => h) (lev_len k) (lev_sound hf k)
theorem levAt_sound {g : Gr} (hf : Fit g) {k i : Nat} : LSound g (levAt g k i) := lfold_sound hf _ _ (fun _ h => List.mem_of_mem_take h) (lev_len k) (lev_sound hf k)
theorem lev_le {g : Gr} (hf : Fit g) (hp : 0 < g.n) {j t : Nat} (h : Wlk g 0 j t) : ∀ k, j ≤ k → (lev g k).getD t 0 ≤ (j : Int) := by
  induction h with
  | nil =>
    intro k _
    have h1 := lev_sound hf k 0 hp
    induction k with
    | zero => show (lstart g).getD 0 0 ≤ _; rw [lstart_at hp]; simp
    | succ k ih =>
      exact Int.le_trans (lfold_le _ _ _) (ih (Nat.zero_le _) (lev_sound hf k 0 hp))
  | @snoc j t x hw hx he ih =>
    intro k hk
    obtain ⟨k, rfl⟩ : ∃ m, k = m + 1 := ⟨k - 1, by omega⟩
    have h1 := ih k (by omega)
    have hto := hf.to x hx
    have h2 := lfold_to g.edges (lev g k) x hx (by rw [lev_len]; unfold Gr.n; omega)
    rw [show x.frm.toNat = t by omega] at h2
    show (g.edges.foldl lrelax (lev g k)).getD x.to.toNat 0 ≤ _
    omega
theorem levL_dist {g : Gr} (hf : Fit g) (hp : 0 < g.n) (hr : ∀ s, s < g.n → Rch g 0 s) : Dist g (levL g) := by
  have hgn : (g.n : Int) = g.states := by unfold Gr.n at *; omega
  have hlt : ∀ s, s < g.n → (levL g).getD s 0 < g.states := fun s hs => by
    obtain ⟨k, hk, hw⟩ := short_walk hf hp (hr s hs)
    have := lev_le hf hp hw g.n (by omega)
    unfold levL; omega
  refine ⟨lev_len _, fun s hs => ?_, fun s k hw => ?_⟩
  · have h1 := lev_sound hf g.n s hs
    have h2 := hlt s hs
    refine ⟨h1.1, ?_⟩
    rcases h1.2.2 with h3 | h3
    · unfold levL at h2; omega
    · exact h3
  · by_cases hk : k ≤ g.n
    · exact lev_le hf hp hw g.n hk
    · have := hlt s (by
        have := hw.rch
        cases hw with
        | nil => exact hp
        | snoc _ hx _ => have := hf.to _ hx; unfold Gr.n; omega)
      omega
theorem irr_pos {g : Gr} (h : irrB g = true) : 0 < g.n := by
  obtain ⟨hg, _, he⟩ := irr_all h
  have := (gcheck_fit hg).to _ (List.getElem_mem he)
  unfold Gr.n; omega
theorem irr_dist {g : Gr} (h : irrB g = true) : Dist g (levL g) := levL_dist (gcheck_fit (irr_all h).1) (irr_pos h) fun s hs => irr_rch h (irr_pos h) hs
theorem levL_lt {g : Gr} (h : irrB g = true) {s : Nat} (hs : s < g.n) : 0 ≤ (levL g).getD s 0 ∧ (levL g).getD s 0 < g.states := by
  have hf := gcheck_fit (irr_all h).1
  have hp := irr_pos h
  obtain ⟨k, hk, hw⟩ := short_walk hf hp (irr_rch h hp hs)
  have h1 := (irr_dist h).least s k hw
  have h2 := ((irr_dist h).walk s hs).1
  unfold Gr.n at hk
  omega

/-- how far an edge is from leading to the next level. -/
def gapL (l : List Int) (x : Edge) : Nat := (l.getD x.frm.toNat 0 + 1 - l.getD x.to.toNat 0).natAbs
def perAt (g : Gr) (l : List Int) (i : Nat) : Nat := (g.edges.take i).foldl (fun a x => Nat.gcd a (gapL l x)) 0
def perL (g : Gr) : Nat := perAt g (levL g) g.edges.length
@[simp] theorem perAt_zero {g : Gr} {l : List Int} : perAt g l 0 = 0 := rfl
theorem perAt_succ {g : Gr} {l : List Int} {i : Nat} (h : i < g.edges.length) : perAt g l (i + 1) = Nat.gcd (perAt g l i) (gapL l (g.edges.getD i de)) := foldl_take_succ (d := de) _ _ _ _ h
theorem gcd_bd {a b m : Nat} (ha : a ≤ m) (hb : b ≤ m) : Nat.gcd a b ≤ m := by
  rcases Nat.eq_zero_or_pos a with rfl | h
  · rw [Nat.gcd_zero_left]; exact hb
  · exact Nat.le_trans (Nat.gcd_le_left _ h) ha
theorem perAt_bd {g : Gr} {l : List Int} {m : Nat} (h : ∀ x ∈ g.edges, gapL l x ≤ m) : ∀ i, perAt g l i ≤ m
  | 0 => Nat.zero_le _
  | i + 1 => by
    by_cases hi : i < g.edges.length
    · rw [perAt_succ hi]; exact gcd_bd (perAt_bd h i) (h _ (getD_mem hi))
    · have : perAt g l (i + 1) = perAt g l i := by unfold perAt; rw [List.take_of_length_le (by omega), List.take_of_length_le (by omega)]
      rw [this]; exact perAt_bd h i
theorem gapL_bd {g : Gr} (h : irrB g = true) {x : Edge} (hx : x ∈ g.edges) : gapL (levL g) x ≤ 65 := by
  have hf := gcheck_fit (irr_all h).1
  have hst := hf.st
  have hto := hf.to x hx
  have hfr := hf.frm x hx
  have h1 := levL_lt h (s := x.to.toNat) (by unfold Gr.n; omega)
  have h2 := levL_lt h (s := x.frm.toNat) (by unfold Gr.n; omega)
  unfold gapL
  omega
theorem gap_max {d : Int} : max d (-d) = (d.natAbs : Int) := by omega
def clsL (g : Gr) : List Int := (levL g).map fun v => v % (perL g : Int)
theorem perAt_dvd {g : Gr} {l : List Int} : ∀ (i j : Nat), j < i → j < g.edges.length → perAt g l i ∣ gapL l (g.edges.getD j de)
  | 0, j, h, _ => absurd h (Nat.not_lt_zero _)
  | i + 1, j, h, hj => by
    by_cases hi : i < g.edges.length
    · rw [perAt_succ hi]
      by_cases e : j = i
      · rw [e]; exact Nat.gcd_dvd_right _ _
      · exact Nat.dvd_trans (Nat.gcd_dvd_left _ _) (perAt_dvd i j (by omega) hj)
    · have : perAt g l (i + 1) = perAt g l i := by unfold perAt; rw [List.take_of_length_le (by omega), List.take_of_length_le (by omega)]
      rw [this]
      exact perAt_dvd i j (by omega) hj
theorem per_gap {g : Gr} {x : Edge} (hx : x ∈ g.edges) : perL g ∣ gapL (levL g) x := by
  obtain ⟨j, hj, rfl⟩ := List.mem_iff_getElem.1 hx
  have := perAt_dvd (g := g) (l := levL g) g.edges.length j hj hj
  rwa [show g.edges.getD j de = g.edges[j] by simp [List.getD, hj]] at this
/-- the period divides what a walk is off the levels. -/
theorem walk_dvd {g : Gr} {a k b : Nat} (h : Wlk g a k b) : (perL g : Int) ∣ (levL g).getD a 0 + k - (levL g).getD b 0 := by
  induction h with
  | nil => exact ⟨0, by omega⟩
  | @snoc k t x hw hx he ih =>
    have h1 := per_gap hx
    unfold gapL at h1
    have h2 := Int.natAbs_dvd_natAbs.1 (show (perL g : Int).natAbs ∣ _ by simpa using h1)
    rw [show x.frm.toNat = t by omega] at h2
    have := Int.dvd_add ih h2
    rw [show (levL g).getD a 0 + ((k + 1 : Nat) : Int) - (levL g).getD x.to.toNat 0 = (levL g).getD a 0 + k - (levL g).getD t 0 + ((levL g).getD t 0 + 1 - (levL g).getD x.to.toNat 0) by omega]
    exact this
theorem per_cycle {g : Gr} {a k : Nat} (h : Wlk g a k a) : perL g ∣ k := by
  have := walk_dvd h
  rw [show (levL g).getD a 0 + (k : Int) - (levL g).getD a 0 = k by omega] at this
  exact Int.natCast_dvd_natCast.1 this
theorem per_pos {g : Gr} (h : irrB g = true) : 0 < perL g := by
  have hf := gcheck_fit (irr_all h).1
  obtain ⟨hg, _, he⟩ := irr_all h
  have hx := List.getElem_mem he
  generalize g.edges[0] = x at hx
  have hto := hf.to x hx
  have hfr := hf.frm x hx
  obtain ⟨k, hw⟩ := (irr_rch h (s := x.to.toNat) (t := x.frm.toNat) (by unfold Gr.n; omega) (by unfold Gr.n; omega)).wlk
  have := per_cycle (hw.snoc hx (by omega))
  exact Nat.pos_of_dvd_of_pos this (by omega)
end Go.Proofs.Ytkmnnmclebdjlaa

namespace Go.Proofs.Ytkmnnmclebdjlaa
set_option linter.unusedSimpArgs false
set_option linter.unusedVariables false
open Go Go.Lift

theorem clsL_len {g : Gr} : (clsL g).length = g.n := by unfold clsL; rw [List.length_map]; exact lev_len _
theorem clsL_at {g : Gr} {k : Nat} (h : k < g.n) : (clsL g).getD k 0 = (levL g).getD k 0 % (perL g : Int) := by
  have hl : k < (levL g).length := by rw [show (levL g).length = g.n from lev_len _]; exact h
  simp [clsL, List.getD, hl]
theorem to_lt {g : Gr} (hf : Fit g) {x : Edge} (hx : x ∈ g.edges) : x.to.toNat < g.n := by
  have := hf.to x hx; unfold Gr.n; omega
theorem frm_lt {g : Gr} (hf : Fit g) {x : Edge} (hx : x ∈ g.edges) : x.frm.toNat < g.n := by
  have := hf.frm x hx; unfold Gr.n; omega
theorem frm_nat {g : Gr} (hf : Fit g) {x : Edge} (hx : x ∈ g.edges) : ((x.frm.toNat : Nat) : Int) = x.frm := by
  have := hf.frm x hx; omega
/-- an edge leads from a class to the next one. -/
theorem cls_edge {g : Gr} (hi : irrB g = true) {x : Edge} (hx : x ∈ g.edges) : (clsL g).getD x.to.toNat 0 = ((clsL g).getD x.frm.toNat 0 + 1) % (perL g : Int) := by
  have hf := gcheck_fit (irr_all hi).1
  rw [clsL_at (to_lt hf hx), clsL_at (frm_lt hf hx)]
  have h := walk_dvd ((Wlk.nil (g := g) (s := x.frm.toNat)).snoc hx (frm_nat hf hx).symm)
  rw [Int.emod_add_emod]
  have h2 : (levL g).getD x.frm.toNat 0 + ((0 + 1 : Nat) : Int) - (levL g).getD x.to.toNat 0 = ((levL g).getD x.frm.toNat 0 + 1) - (levL g).getD x.to.toNat 0 := by omega
  rw [h2] at h
  have h3 := Int.dvd_neg.2 h
  rw [show -((levL g).getD x.frm.toNat 0 + 1 - (levL g).getD x.to.toNat 0) = (levL g).getD x.to.toNat 0 - ((levL g).getD x.frm.toNat 0 + 1) by omega] at h3
  exact Int.emod_eq_emod_iff_emod_sub_eq_zero.2 (Int.emod_eq_zero_of_dvd h3)
theorem cls_zero {g : Gr} (hi : irrB g = true) : (clsL g).getD 0 0 = 0 := by
  rw [clsL_at (irr_pos hi)]
  have h1 := (irr_dist hi).least 0 0 .nil
  have h2 := ((irr_dist hi).walk 0 (irr_pos hi)).1
  rw [show (levL g).getD 0 0 = 0 by omega]
  simp
/-- each state has an edge that leads away. -/
theorem out_edge {g : Gr} (hi : irrB g = true) {s : Nat} (hs : s < g.n) : ∃ x ∈ g.edges, x.frm = (s : Int) := by
  have hf := gcheck_fit (irr_all hi).1
  have he := (irr_all hi).2.2
  have hx := List.getElem_mem he
  generalize g.edges[0] = x0 at hx
  have hr := irr_rch hi hs (frm_lt hf hx)
  have := Rch.mem (p := fun t => t = s ∨ ∃ x ∈ g.edges, x.frm = (s : Int)) (.inl rfl) (fun x hx t he hp => by
    rcases hp with rfl | hp
    · exact .inr ⟨x, hx, he⟩
    · exact .inr hp) hr
  rcases this with h | h
  · exact ⟨x0, hx, by rw [← h]; exact (frm_nat hf hx).symm⟩
  · exact h
theorem cls_all {g : Gr} (hi : irrB g = true) : ∀ c : Nat, c < perL g → ∃ s, s < g.n ∧ (clsL g).getD s 0 = (c : Int)
  | 0, _ => ⟨0, irr_pos hi, cls_zero hi⟩
  | c + 1, h => by
    have hf := gcheck_fit (irr_all hi).1
    obtain ⟨s, hs, hc⟩ := cls_all hi c (by omega)
    obtain ⟨x, hx, he⟩ := out_edge hi hs
    refine ⟨x.to.toNat, to_lt hf hx, ?_⟩
    rw [cls_edge hi hx, show x.frm.toNat = s by omega, hc, Int.emod_eq_of_lt (by omega) (by omega)]
    omega

/-- walks of a relation, by their lengths. -/
inductive Stp (R : Nat → Nat → Prop) (s : Nat) : Nat → Nat → Prop
  | nil : Stp R s 0 s
  | snoc {k t u : Nat} : Stp R s k t → R t u → Stp R s (k + 1) u
theorem Stp.trans {R : Nat → Nat → Prop} {a b c j k : Nat} (h : Stp R a j b) (w : Stp R b k c) : Stp R a (j + k) c := by
  induction w with
  | nil => exact h
  | snoc _ hr ih => exact .snoc ih hr
/-- a set that holds s and is closed holds what is reached. -/
theorem Stp.mem {R : Nat → Nat → Prop} {s k t : Nat} {p : Nat → Prop} (h0 : p s) (hs : ∀ t u, p t → R t u → p u) (h : Stp R s k t) : p t := by
  induction h with
  | nil => exact h0
  | snoc _ hr ih => exact hs _ _ ih hr
theorem stp_short_at {n s : Nat} {R : Nat → Nat → Prop} (hR : ∀ t u, t < n → R t u → u < n) : ∀ (m : Nat) (l : List Bool), unseen l = m → l.length = n → l.getD s false = true → (∀ t, l.getD t false = true → ∃ k, k + unseen l < n ∧ Stp R s k t) → ∀ k t, Stp R s k t → ∃ k, k < n ∧ Stp R s k t := by
  intro m
  induction m with
  | zero =>
    intro l hu hl h0 hw k t ht
    by_cases hc : ∀ t u, l.getD t false = true → R t u → l.getD u false = true
    · obtain ⟨k, hk, hw⟩ := hw t (Stp.mem (p := fun t => l.getD t false = true) h0 hc ht)
      exact ⟨k, by omega, hw⟩
    · exfalso
      simp only [Classical.not_forall] at hc
      obtain ⟨a, b, h1, h2, h3⟩ := hc
      have ha : a < n := by
        rcases Nat.lt_or_ge a l.length with h | h
        · omega
        · simp [List.getD, List.getElem?_eq_none h] at h1
      have := unseen_set (l := l) (s := b) (by rw [hl]; exact hR a b ha h2) (by simpa using h3)
      omega
  | succ m ih =>
    intro l hu hl h0 hw k t ht
    by_cases hc : ∀ t u, l.getD t false = true → R t u → l.getD u false = true
    · obtain ⟨k, hk, hw⟩ := hw t (Stp.mem (p := fun t => l.getD t false = true) h0 hc ht)
      exact ⟨k, by omega, hw⟩
    · simp only [Classical.not_forall] at hc
      obtain ⟨a, b, h1, h2, h3⟩ := hc
      have ha : a < n := by
        rcases Nat.lt_or_ge a l.length with h | h
        · omega
        · simp [List.getD, List.getElem?_eq_none h] at h1
      have hbl : b < l.length := by rw [hl]; exact hR a b ha h2
      have hu2 := unseen_set (l := l) (s := b) hbl (by simpa using h3)
      refine ih (l.set b true) (by omega) (by simpa using hl) ?_ (fun t ht => ?_) k t ht
      · rw [getD_set]; split
        · rfl
        · exact h0
      · rw [getD_set] at ht
        split at ht
        · rename_i e
          obtain ⟨k, hk, hwk⟩ := hw _ h1
          refine ⟨k + 1, by omega, ?_⟩
          rw [e.1]
          exact hwk.snoc h2
        · obtain ⟨k, hk, hwk⟩ := hw _ ht
          exact ⟨k, by omega, hwk⟩
theorem stp_short {n s : Nat} (hs : s < n) {R : Nat → Nat → Prop} (hR : ∀ t u, t < n → R t u → u < n) {k t : Nat} (h : Stp R s k t) : ∃ k, k < n ∧ Stp R s k t := by
  have hl : ((List.replicate n false).set s true).length = n := by simp
  have hu : unseen ((List.replicate n false).set s true) + 1 = unseen (List.replicate n false) := unseen_set (by simpa using hs) (by simp [List.getD, List.getElem?_replicate, hs])
  have hu2 := unseen_le (List.replicate n false)
  have hu3 : (List.replicate n false).length = n := by simp
  refine stp_short_at hR _ _ rfl hl ?_ (fun t ht => ?_) k t h
  · rw [getD_set, if_pos ⟨rfl, by simpa using hs⟩]
  · rw [getD_set] at ht
    split at ht
    · rename_i e; rw [e.1]; exact ⟨0, by omega, .nil⟩
    · simp [List.getD, List.getElem?_replicate] at ht
      split at ht <;> simp at ht
/-- a walk is a walk of steps of one edge. -/
theorem Wlk.stp {g : Gr} {s k t : Nat} (h : Wlk g s k t) : Stp (fun a b => Wlk g a 1 b) s k t := by
  induction h with
  | nil => exact .nil
  | snoc _ hx he ih => exact .snoc ih (Wlk.snoc .nil hx he)
theorem Stp.wlk {g : Gr} {s m k t : Nat} (h : Stp (fun a b => Wlk g a m b) s k t) : Wlk g s (k * m) t := by
  induction h with
  | nil => rw [Nat.zero_mul]; exact .nil
  | snoc _ hr ih => rw [Nat.succ_mul]; exact ih.trans hr
theorem Wlk.lt {g : Gr} (hf : Fit g) {a k b : Nat} (ha : a < g.n) (h : Wlk g a k b) : b < g.n := Rch.lt hf ha h.rch
theorem wlk_short {g : Gr} (hi : irrB g = true) {a b : Nat} (ha : a < g.n) (hb : b < g.n) : ∃ k, k < g.n ∧ Wlk g a k b := by
  have hf := gcheck_fit (irr_all hi).1
  obtain ⟨k, hk⟩ := (irr_rch hi ha hb).wlk
  obtain ⟨j, hj, hw⟩ := stp_short ha (R := fun a b => Wlk g a 1 b) (fun t u ht h => Wlk.lt hf ht h) hk.stp
  exact ⟨j, hj, by have := hw.wlk; rwa [Nat.mul_one] at this⟩
/-- a walk can be cut. -/
theorem Wlk.split {g : Gr} {a b : Nat} : ∀ {k : Nat} (j : Nat), Wlk g a (j + k) b → ∃ c, Wlk g a j c ∧ Wlk g c k b := by
  intro k
  induction k generalizing b with
  | zero => intro j h; exact ⟨b, h, .nil⟩
  | succ k ih =>
    intro j h
    rw [← Nat.add_assoc] at h
    cases h with
    | snoc hw hx he =>
      obtain ⟨c, h1, h2⟩ := ih j hw
      exact ⟨c, h1, .snoc h2 hx he⟩
/-- a walk of q times m edges is one of q steps of m edges. -/
theorem Wlk.chunk {g : Gr} {a m : Nat} : ∀ (q : Nat) {b : Nat}, Wlk g a (q * m) b → Stp (fun a b => Wlk g a m b) a q b
  | 0, b, h => by
    rw [Nat.zero_mul] at h
    cases h
    exact .nil
  | q + 1, b, h => by
    rw [Nat.succ_mul] at h
    obtain ⟨c, h1, h2⟩ := Wlk.split (q * m) h
    exact .snoc (Wlk.chunk q h1) h2
theorem Wlk.rep {g : Gr} {a m : Nat} (h : Wlk g a m a) : ∀ k, Wlk g a (k * m) a
  | 0 => by rw [Nat.zero_mul]; exact .nil
  | k + 1 => by rw [Nat.succ_mul]; exact (Wlk.rep h k).trans h
/-- d is the difference of the lengths of two walks from s to s. -/
def Dif (g : Gr) (s : Nat) (d : Int) : Prop := ∃ m n : Nat, Wlk g s m s ∧ Wlk g s n s ∧ d = (m : Int) - n
theorem Dif.neg {g : Gr} {s : Nat} {d : Int} (h : Dif g s d) : Dif g s (-d) := by
  obtain ⟨m, n, h1, h2, e⟩ := h; exact ⟨n, m, h2, h1, by omega⟩
theorem Dif.add {g : Gr} {s : Nat} {d e : Int} (h : Dif g s d) (k : Dif g s e) : Dif g s (d + e) := by
  obtain ⟨m, n, h1, h2, e1⟩ := h
  obtain ⟨m', n', h3, h4, e2⟩ := k
  exact ⟨m + m', n + n', h1.trans h3, h2.trans h4, by omega⟩
theorem Dif.zero {g : Gr} {s : Nat} : Dif g s 0 := ⟨0, 0, .nil, .nil, rfl⟩
theorem Dif.natMul {g : Gr} {s : Nat} {d : Int} (h : Dif g s d) : ∀ k : Nat, Dif g s (k * d)
  | 0 => by rw [show ((0 : Nat) : Int) * d = 0 by simp]; exact .zero
  | k + 1 => by rw [show ((k + 1 : Nat) : Int) * d = (k : Int) * d + d by rw [Int.natCast_add, Int.add_mul]; simp]; exact (h.natMul k).add h
theorem Dif.mul {g : Gr} {s : Nat} {d : Int} (h : Dif g s d) (k : Int) : Dif g s (k * d) := by
  rcases Int.eq_nat_or_neg k with ⟨n, rfl | rfl⟩
  · exact h.natMul n
  · rw [Int.neg_mul]; exact (h.natMul n).neg
theorem Dif.gcd {g : Gr} {s a b : Nat} (h : Dif g s a) (k : Dif g s b) : Dif g s (Nat.gcd a b : Nat) := by
  induction a, b using Nat.gcd.induction with
  | H0 n => rw [Nat.gcd_zero_left]; exact k
  | H1 m n hm ih =>
    rw [Nat.gcd_rec]
    refine ih ?_ h
    have e : ((n % m : Nat) : Int) = n + (-((n / m : Nat) : Int)) * m := by
      have h1 := Nat.mod_add_div n m
      have h2 : (n : Int) = (n % m : Nat) + (m : Int) * (n / m : Nat) := by exact_mod_cast h1.symm
      rw [Int.neg_mul, Int.mul_comm ((n / m : Nat) : Int) m]
      omega
    rw [e]
    exact k.add (h.mul _)
/-- the period is the difference of two lengths. -/
theorem per_dif0 {g : Gr} (hi : irrB g = true) : Dif g 0 (perL g : Nat) := by
  have hf := gcheck_fit (irr_all hi).1
  have hp := irr_pos hi
  have gap : ∀ x ∈ g.edges, Dif g 0 (gapL (levL g) x : Nat) := fun x hx => by
    obtain ⟨r, hr⟩ := (irr_rch hi (to_lt hf hx) hp).wlk
    have h1 := (irr_dist hi).walk _ (frm_lt hf hx)
    have h2 := (irr_dist hi).walk _ (to_lt hf hx)
    have w1 := (h1.2.snoc hx (frm_nat hf hx).symm).trans hr
    have w2 := h2.2.trans hr
    have hd : Dif g 0 ((levL g).getD x.frm.toNat 0 + 1 - (levL g).getD x.to.toNat 0) := ⟨_, _, w1, w2, by omega⟩
    unfold gapL
    rcases Int.le_total 0 ((levL g).getD x.frm.toNat 0 + 1 - (levL g).getD x.to.toNat 0) with h | h
    · rw [Int.natAbs_of_nonneg h]; exact hd
    · rw [Int.ofNat_natAbs_of_nonpos h]; exact hd.neg
  have all : ∀ i, i ≤ g.edges.length → Dif g 0 (perAt g (levL g) i : Nat) := fun i => by
    induction i with
    | zero => intro _; exact .zero
    | succ i ih =>
      intro h
      rw [perAt_succ (by omega)]
      exact (ih (by omega)).gcd (gap _ (getD_mem (by omega)))
  exact all _ (Nat.le_refl _)
theorem per_dif {g : Gr} (hi : irrB g = true) {s : Nat} (hs : s < g.n) : Dif g s (perL g : Nat) := by
  obtain ⟨m, n, h1, h2, e⟩ := per_dif0 hi
  obtain ⟨a, ha⟩ := (irr_rch hi hs (irr_pos hi)).wlk
  obtain ⟨b, hb⟩ := (irr_rch hi (irr_pos hi) hs).wlk
  exact ⟨a + m + b, a + n + b, (ha.trans h1).trans hb, (ha.trans h2).trans hb, by omega⟩
/-- from s to s there is a walk whose length makes up what a length lacks of a multiple of m. -/
theorem fill {g : Gr} (hi : irrB g = true) {s m l : Nat} (hs : s < g.n) (hm : 0 < m) : ∃ M q, Wlk g s M s ∧ M + l * perL g = q * m := by
  obtain ⟨m1, m2, h1, h2, e⟩ := per_dif hi hs
  refine ⟨((m - 1) * l) * m1 + l * m2, l * m1, (h1.rep _).trans (h2.rep _), ?_⟩
  have e2 : m2 + perL g = m1 := by omega
  obtain ⟨k, rfl⟩ : ∃ k, m = k + 1 := ⟨m - 1, by omega⟩
  rw [Nat.add_sub_cancel, Nat.add_assoc, ← Nat.mul_add, e2, Nat.mul_assoc, ← Nat.succ_mul, Nat.mul_comm (k + 1)]
/-- each multiple of the period from 64 on is the length of such a walk, where there are at most 8 states. -/
theorem per_long {g : Gr} (hi : irrB g = true) (h8 : g.n ≤ 8) {s k : Nat} (hs : s < g.n) (hk : 64 ≤ k) (hd : perL g ∣ k) : Wlk g s k s := by
  have hf := gcheck_fit (irr_all hi).1
  -- a walk from c to c of m edges, at most 8
  obtain ⟨x, hx, he⟩ := out_edge hi hs
  obtain ⟨j, hj, hw⟩ := wlk_short hi (to_lt hf hx) hs
  have hc : Wlk g s (1 + j) s := ((Wlk.nil (g := g) (s := s)).snoc hx he).trans hw
  rw [Nat.add_comm] at hc
  -- what is left of k by m
  have hq : (k / (j + 1)) * (j + 1) + k % (j + 1) = k := by rw [Nat.mul_comm]; exact Nat.div_add_mod k (j + 1)
  have hr : k % (j + 1) < j + 1 := Nat.mod_lt _ (by omega)
  generalize hqd : k / (j + 1) = q at hq
  generalize hrd : k % (j + 1) = r at hq hr
  have hq7 : 7 ≤ q := by
    rcases Nat.lt_or_ge q 7 with h | h
    · exfalso
      have : q * (j + 1) ≤ 6 * (j + 1) := Nat.mul_le_mul_right _ (by omega)
      omega
    · exact h
  obtain ⟨c, hc1, hc2⟩ := Wlk.split (k := j + 1 - r) r (by rw [show r + (j + 1 - r) = j + 1 by omega]; exact hc)
  have hcn : c < g.n := Wlk.lt hf hs hc1
  -- c has a loop of m edges
  have hloop : Wlk g c (j + 1) c := by
    have := hc2.trans hc1
    rwa [show j + 1 - r + r = j + 1 by omega] at this
  -- from c to s by a multiple of m edges
  have hpr : perL g ∣ j + 1 - r := by
    have h1 := per_cycle hc
    have h2 : perL g ∣ r := by
      have : perL g ∣ q * (j + 1) := Nat.dvd_trans h1 (Nat.dvd_mul_left _ _)
      exact (Nat.dvd_add_right this).1 (by rw [hq]; exact hd)
    exact Nat.dvd_sub h1 h2
  obtain ⟨l, hl⟩ := hpr
  obtain ⟨M, q2, hM, hMq⟩ := fill hi (l := l) hs (show 0 < j + 1 by omega)
  have hcs : Wlk g c (q2 * (j + 1)) s := by
    have := hc2.trans hM
    rwa [show j + 1 - r + M = q2 * (j + 1) by rw [← hMq, hl, Nat.mul_comm l]; omega] at this
  obtain ⟨k2, hk2, hst⟩ := stp_short hcn (R := fun a b => Wlk g a (j + 1) b) (fun t u ht h => Wlk.lt hf ht h) (Wlk.chunk q2 hcs)
  have := (hc1.trans (hloop.rep (q - k2))).trans hst.wlk
  rw [show r + (q - k2) * (j + 1) + k2 * (j + 1) = k by rw [Nat.add_assoc, ← Nat.add_mul, show q - k2 + k2 = q by omega]; omega] at this
  exact this
end Go.Proofs.Ytkmnnmclebdjlaa

namespace Go.Proofs.Ytkmnnmclebdjlaa
set_option linter.unusedSimpArgs false
set_option linter.unusedVariables false
open Go Go.Lift

/-- where one more edge leads, told by the edges. -/
def nrelax (l : List Bool) (acc : List Bool) (x : Edge) : List Bool := if l.getD x.frm.toNat false = true then acc.set x.to.toNat true else acc
def nextAt (g : Gr) (l : List Bool) (i : Nat) : List Bool := (g.edges.take i).foldl (nrelax l) (List.replicate g.n false)
def atW (g : Gr) (s : Nat) : Nat → List Bool
  | 0 => (List.replicate g.n false).set s true
  | k + 1 => nextAt g (atW g s k) g.edges.length
theorem nrelax_len {l acc : List Bool} {x : Edge} : (nrelax l acc x).length = acc.length := by unfold nrelax; split <;> simp
theorem nextAt_succ {g : Gr} {l : List Bool} {i : Nat} (h : i < g.edges.length) : nextAt g l (i + 1) = nrelax l (nextAt g l i) (g.edges.getD i de) := foldl_take_succ (d := de) _ _ _ _ h
@[simp] theorem nextAt_zero {g : Gr} {l : List Bool} : nextAt g l 0 = List.replicate g.n false := rfl
theorem nextAt_len {g : Gr} {l : List Bool} : ∀ i, (nextAt g l i).length = g.n
  | 0 => by simp
  | i + 1 => by
    by_cases h : i < g.edges.length
    · rw [nextAt_succ h, nrelax_len]; exact nextAt_len i
    · have : nextAt g l (i + 1) = nextAt g l i := by unfold nextAt; rw [List.take_of_length_le (by omega), List.take_of_length_le (by omega)]
      rw [this]; exact nextAt_len i
theorem nrelax_at {l acc : List Bool} {x : Edge} {t : Nat} (hx : x.to.toNat < acc.length) : (nrelax l acc x).getD t false = true ↔ acc.getD t false = true ∨ (l.getD x.frm.toNat false = true ∧ t = x.to.toNat) := by
  unfold nrelax
  by_cases h : l.getD x.frm.toNat false = true
  · rw [if_pos h, getD_set]
    by_cases e : t = x.to.toNat
    · rw [if_pos ⟨e, hx⟩]; exact ⟨fun _ => .inr ⟨h, e⟩, fun _ => rfl⟩
    · rw [if_neg (fun h => e h.1)]; exact ⟨.inl, fun h2 => h2.elim id fun h3 => absurd h3.2 e⟩
  · rw [if_neg h]; exact ⟨.inl, fun h2 => h2.elim id fun h3 => absurd h3.1 h⟩
theorem nextAt_iff {g : Gr} (hf : Fit g) {l : List Bool} {t : Nat} : ∀ i, i ≤ g.edges.length → ((nextAt g l i).getD t false = true ↔ ∃ x ∈ g.edges.take i, l.getD x.frm.toNat false = true ∧ t = x.to.toNat)
  | 0, _ => by simp [List.getD, List.getElem?_replicate]; split <;> rfl
  | i + 1, hi => by
    have hx : g.edges.getD i de ∈ g.edges := getD_mem (by omega)
    rw [nextAt_succ (by omega), nrelax_at (by rw [nextAt_len]; exact to_lt hf hx), nextAt_iff hf i (by omega), List.take_succ_eq_append_getElem (by omega)]
    have e : g.edges.getD i de = g.edges[i] := by simp [List.getD, show i < g.edges.length by omega]
    rw [e]
    constructor
    · rintro (⟨x, h1, h2⟩ | h)
      · exact ⟨x, List.mem_append_left _ h1, h2⟩
      · exact ⟨_, List.mem_append_right _ (by simp), h⟩
    · rintro ⟨x, h1, h2⟩
      rcases List.mem_append.1 h1 with h1 | h1
      · exact .inl ⟨x, h1, h2⟩
      · have : x = g.edges[i] := by simpa using h1
        subst this; exact .inr h2
theorem atW_len {g : Gr} {s : Nat} : ∀ k, (atW g s k).length = g.n
  | 0 => by simp [atW]
  | k + 1 => nextAt_len _
theorem atW_iff {g : Gr} (hf : Fit g) {s : Nat} (hs : s < g.n) : ∀ k t, (atW g s k).getD t false = true ↔ Wlk g s k t
  | 0, t => by
    show ((List.replicate g.n false).set s true).getD t false = true ↔ _
    rw [getD_set]
    constructor
    · intro h
      split at h
      · rename_i e; rw [e.1]; exact .nil
      · simp [List.getD, List.getElem?_replicate] at h
        split at h <;> simp at h
    · intro h
      cases h
      rw [if_pos ⟨rfl, by simpa using hs⟩]
  | k + 1, t => by
    show (nextAt g (atW g s k) g.edges.length).getD t false = true ↔ _
    rw [nextAt_iff hf _ (Nat.le_refl _), List.take_length]
    constructor
    · rintro ⟨x, hx, h1, rfl⟩
      exact .snoc ((atW_iff hf hs k _).1 h1) hx (frm_nat hf hx).symm
    · intro h
      cases h with
      | snoc hw hx he => exact ⟨_, hx, (atW_iff hf hs k _).2 (by rw [he]; exact hw), rfl⟩
/-- which of the first k lengths are those of walks that end where they begin. -/
def clsdL (g : Gr) (s k : Nat) : List Bool := (List.range k).map fun j => (atW g s j).getD s false
theorem clsdL_succ {g : Gr} {s k : Nat} : clsdL g s (k + 1) = clsdL g s k ++ [(atW g s k).getD s false] := by
  unfold clsdL; rw [List.range_succ, List.map_append]; rfl
@[simp] theorem clsdL_len {g : Gr} {s k : Nat} : (clsdL g s k).length = k := by simp [clsdL]
theorem clsdL_at {g : Gr} {s k j : Nat} (h : j < k) : (clsdL g s k).getD j false = (atW g s j).getD s false := by simp [clsdL, List.getD, h]

/-- where a component is left, fewer states are reached from behind. -/
theorem sink_of {g : Gr} (hf : Fit g) : ∀ (m s : Nat), s < g.n → g.n - unseen (reachL g s) ≤ m → ∃ t, t < g.n ∧ Rch g s t ∧ leaves g (compL g t) = false
  | 0, s, hs, h => by
    exfalso
    have h1 : unseen (reachL g s) < g.n := by
      have := unseen_set (l := (reachL g s).set s false) (s := s) (by simpa using hs) (by rw [getD_set, if_pos ⟨rfl, by simpa using hs⟩])
      have e : ((reachL g s).set s false).set s true = reachL g s := by
        rw [List.set_set]
        refine eq_of_getD (d := false) (by simp) fun j hj => ?_
        rw [getD_set]
        split
        · rename_i e; rw [e.1]; exact ((reachL_at hs).2 .refl).symm
        · rfl
      rw [e] at this
      have h2 := unseen_le ((reachL g s).set s false)
      simp at h2
      omega
    omega
  | m + 1, s, hs, h => by
    cases hl : leaves g (compL g s) with
    | false => exact ⟨s, hs, .refl, hl⟩
    | true =>
      unfold leaves at hl
      obtain ⟨x, hx, hq⟩ := List.any_eq_true.1 hl
      rw [Bool.and_eq_true, Bool.not_eq_true'] at hq
      have hfl := frm_lt hf hx
      have htl := to_lt hf hx
      have h1 : mutB g s x.frm.toNat = true := by
        have := hq.1
        unfold hasI at this
        rw [decide_eq_true_eq, ← frm_nat hf hx] at this
        exact (comp_mem.1 this).2
      have hto : ((x.to.toNat : Nat) : Int) = x.to := by have := hf.to x hx; omega
      have h2 : ¬ mutB g s x.to.toNat = true := fun hm => by
        have := hq.2
        unfold hasI at this
        rw [decide_eq_false_iff_not, ← hto] at this
        exact this (comp_mem.2 ⟨htl, hm⟩)
      have hsf := ((mutB_iff hf hs hfl).1 h1)
      have hst : Rch g s x.to.toNat := hsf.1.step hx (frm_nat hf hx).symm
      have hts : ¬ Rch g x.to.toNat s := fun hr => h2 ((mutB_iff hf hs htl).2 ⟨hst, hr⟩)
      have hlt : unseen (reachL g s) < unseen (reachL g x.to.toNat) := by
        refine unseen_strict (by simp) (fun t ht => ?_) (fun e => hts ?_)
        · rcases Nat.lt_or_ge t g.n with hn | hn
          · exact (reachL_at hn).2 (hst.trans ((reachL_at hn).1 ht))
          · simp [List.getD, List.getElem?_eq_none (show (reachL g x.to.toNat).length ≤ t by simpa using hn)] at ht
        · have := (reachL_at (g := g) (s := s) hs).2 .refl
          rw [← e] at this
          exact (reachL_at hs).1 this
      have hle := unseen_le (reachL g x.to.toNat)
      simp at hle
      obtain ⟨t, ht, hr, hn⟩ := sink_of hf m x.to.toNat htl (by omega)
      exact ⟨t, ht, hst.trans hr, hn⟩
theorem rchAt_mem {g : Gr} {s k t : Nat} : (t : Int) ∈ ((List.range k).filter fun t => (reachL g s).getD t false).map (fun (t : Nat) => (t : Int)) ↔ t < k ∧ (reachL g s).getD t false = true := by
  constructor
  · intro h
    obtain ⟨u, hu, he⟩ := List.mem_map.1 h
    have : u = t := by exact_mod_cast he
    subst this
    simpa [-List.getD_eq_getElem?_getD] using hu
  · intro h
    exact List.mem_map.2 ⟨t, by simpa [-List.getD_eq_getElem?_getD] using h, rfl⟩
end Go.Proofs.Ytkmnnmclebdjlaa

namespace Go.Proofs.Ytkmnnmclebdjlaa
set_option linter.unusedSimpArgs false
set_option linter.unusedVariables false
open Go Go.Lift

theorem compAt_asc {g : Gr} {s k : Nat} : (compAt g s k).Pairwise (· < ·) := by
  unfold compAt
  rw [List.pairwise_map]
  exact (List.Pairwise.filter _ List.pairwise_lt_range).imp fun h => by omega
theorem comps_asc {g : Gr} : (compsL g).Pairwise fun a b => a.getD 0 0 < b.getD 0 0 := by
  unfold compsL compsAt
  rw [List.pairwise_map]
  refine List.Pairwise.imp_of_mem ?_ (List.Pairwise.filter _ List.pairwise_lt_range)
  intro a b ha hb h
  have h1 := (List.mem_filter.1 ha).2
  have h2 := (List.mem_filter.1 hb).2
  unfold least at h1 h2
  rw [decide_eq_true_eq] at h1 h2
  omega
theorem comps_nodup {g : Gr} : (compsL g).Nodup := comps_asc.imp fun h e => by rw [e] at h; omega
theorem asc_nodup {l : List Int} (h : l.Pairwise (· < ·)) : l.Nodup := h.imp fun h e => by omega
/-- where the component of a state stands. -/
noncomputable def posL (g : Gr) (t : Nat) : Nat := (compsL g).idxOf (compL g t)
theorem pos_lt {g : Gr} (hf : Fit g) {t : Nat} (ht : t < g.n) : posL g t < (compsL g).length := List.idxOf_lt_length_of_mem (comps_cover hf ht)
theorem getD_get {α : Type} {l : List α} {d : α} {k : Nat} (h : k < l.length) : l.getD k d = l[k] := by simp [List.getD, h]
theorem pos_at {g : Gr} (hf : Fit g) {t : Nat} (ht : t < g.n) : (compsL g).getD (posL g t) [] = compL g t := by
  have h := pos_lt hf ht
  rw [getD_get h]
  exact List.getElem_idxOf h
theorem row_mem {g : Gr} (hf : Fit g) {c : Nat} (hc : c < (compsL g).length) {x : Int} (hx : x ∈ (compsL g).getD c []) : 0 ≤ x ∧ x < (g.n : Int) ∧ compL g x.toNat = (compsL g).getD c [] ∧ posL g x.toNat = c := by
  obtain ⟨m, hm, hl, he⟩ := comps_mem.1 (getD_mem (d := []) hc)
  rw [he] at hx
  obtain ⟨t, rfl, ht, hmt⟩ := comp_nonneg hx
  have e : compL g t = (compsL g).getD c [] := by rw [he]; exact (compL_mut hf hm ht hmt).symm
  refine ⟨by omega, by omega, e, ?_⟩
  show (compsL g).idxOf (compL g t) = c
  rw [e, getD_get hc]
  exact comps_nodup.idxOf_getElem c hc
theorem row_of {g : Gr} (hf : Fit g) {t c : Nat} (ht : t < g.n) (h : posL g t = c) : (t : Int) ∈ (compsL g).getD c [] := by
  rw [← h, pos_at hf ht]
  exact comp_mem.2 ⟨ht, mutB_own ht⟩
theorem row_pos {g : Gr} {c : Nat} (hc : c < (compsL g).length) : 0 < ((compsL g).getD c []).length := by
  obtain ⟨m, hm, hl, he⟩ := comps_mem.1 (getD_mem (d := []) hc)
  rw [he]; exact compL_pos hm
theorem row_asc {g : Gr} {c : Nat} (hc : c < (compsL g).length) : ((compsL g).getD c []).Pairwise (· < ·) := by
  obtain ⟨m, hm, hl, he⟩ := comps_mem.1 (getD_mem (d := []) hc)
  rw [he]; exact compAt_asc
theorem rows_asc {g : Gr} {c : Nat} (h0 : 0 < c) (hc : c < (compsL g).length) : ((compsL g).getD (c - 1) []).getD 0 0 < ((compsL g).getD c []).getD 0 0 := by
  have := List.pairwise_iff_getElem.1 (comps_asc (g := g)) (c - 1) c (by omega) hc (by omega)
  rw [getD_get (show c - 1 < (compsL g).length by omega), getD_get hc]
  exact this
/-- what is noted of a state, when c components and k states of the next one are through. -/
noncomputable def posV (g : Gr) (c k t : Nat) : Int := if posL g t < c ∨ (posL g t = c ∧ (t : Int) ∈ ((compsL g).getD c []).take k) then (posL g t : Int) else -1
theorem posV_zero {g : Gr} {t : Nat} : posV g 0 0 t = -1 := by unfold posV; rw [if_neg (by simp)]
theorem posV_new {g : Gr} (hf : Fit g) {c k : Nat} (hc : c < (compsL g).length) (hk : k < ((compsL g).getD c []).length) : posV g c k (((compsL g).getD c []).getD k 0).toNat = -1 := by
  have hx := row_mem hf hc (getD_mem (d := 0) hk)
  unfold posV
  rw [if_neg]
  rintro (h | ⟨_, h⟩)
  · omega
  · rw [show ((((compsL g).getD c []).getD k 0).toNat : Int) = ((compsL g).getD c []).getD k 0 by omega, getD_get hk] at h
    obtain ⟨i, hi, e⟩ := List.mem_iff_getElem.1 h
    simp only [List.length_take] at hi
    rw [List.getElem_take] at e
    have := List.pairwise_iff_getElem.1 (row_asc hc) i k (by omega) hk (by omega)
    omega
theorem posV_step {g : Gr} (hf : Fit g) {c k t : Nat} (hc : c < (compsL g).length) (hk : k < ((compsL g).getD c []).length) (ht : t < g.n) : posV g c (k + 1) t = if t = (((compsL g).getD c []).getD k 0).toNat then (c : Int) else posV g c k t := by
  have hx := row_mem hf hc (getD_mem (d := 0) hk)
  by_cases e : t = (((compsL g).getD c []).getD k 0).toNat
  · rw [if_pos e]
    unfold posV
    rw [if_pos]
    · rw [e, hx.2.2.2]
    · right
      refine ⟨by rw [e]; exact hx.2.2.2, ?_⟩
      rw [show (t : Int) = ((compsL g).getD c []).getD k 0 by omega, List.take_succ_eq_append_getElem hk, getD_get hk]
      exact List.mem_append_right _ (List.mem_singleton.2 rfl)
  · rw [if_neg e]
    unfold posV
    have : (t : Int) ∈ ((compsL g).getD c []).take (k + 1) ↔ (t : Int) ∈ ((compsL g).getD c []).take k := by
      rw [List.take_succ_eq_append_getElem hk, List.mem_append]
      constructor
      · rintro (h | h)
        · exact h
        · exfalso
          have h2 : (t : Int) = ((compsL g).getD c [])[k] := by simpa using h
          rw [← getD_get (d := 0) hk] at h2
          omega
      · exact .inl
    by_cases h1 : posL g t < c ∨ (posL g t = c ∧ (t : Int) ∈ ((compsL g).getD c []).take k)
    · rw [if_pos h1, if_pos (h1.imp id fun h => ⟨h.1, this.2 h.2⟩)]
    · rw [if_neg h1, if_neg fun h => h1 (h.imp id fun h => ⟨h.1, this.1 h.2⟩)]
theorem posV_next {g : Gr} (hf : Fit g) {c t : Nat} (ht : t < g.n) : posV g c ((compsL g).getD c []).length t = posV g (c + 1) 0 t := by
  unfold posV
  rw [List.take_length]
  by_cases h : posL g t < c
  · rw [if_pos (.inl h), if_pos (.inl (by omega))]
  · by_cases e : posL g t = c
    · rw [if_pos (.inr ⟨e, row_of hf ht e⟩), if_pos (.inl (by omega))]
    · rw [if_neg (by omega), if_neg]
      rintro (h2 | h2)
      · omega
      · simp at h2
theorem posV_all {g : Gr} (hf : Fit g) {t : Nat} (ht : t < g.n) : posV g (compsL g).length 0 t = (posL g t : Int) := by
  unfold posV; rw [if_pos (.inl (pos_lt hf ht))]
theorem pos_mut {g : Gr} (hf : Fit g) {s t : Nat} (hs : s < g.n) (ht : t < g.n) : posL g s = posL g t ↔ mutB g s t = true := by
  constructor
  · intro h
    have e : compL g s = compL g t := by rw [← pos_at hf hs, ← pos_at hf ht, h]
    have : (t : Int) ∈ compL g s := by rw [e]; exact comp_mem.2 ⟨ht, mutB_own ht⟩
    exact (comp_mem.1 this).2
  · intro h
    unfold posL; rw [compL_mut hf hs ht h]
/-- no number is less than the one ahead of it. -/
def SortedI (l : List Int) : Prop := ∀ i, i + 1 < l.length → l.getD i 0 ≤ l.getD (i + 1) 0
theorem asc_sorted {l : List Int} (h : l.Pairwise (· < ·)) : SortedI l := fun i hi => by
  have := List.pairwise_iff_getElem.1 h i (i + 1) (by omega) hi (by omega)
  rw [getD_get (show i < l.length by omega), getD_get hi]; omega
end Go.Proofs.Ytkmnnmclebdjlaa
