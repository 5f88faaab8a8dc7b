/-
  Plain laws of this seat: walks of so many edges, distances, and how they are found.
-/
import Derived.Test.YtkmnnmclebdjlaaPK
namespace Go.Proofs.Ytkmnnmclebdjlaa
set_option linter.unusedSimpArgs false
set_option linter.unusedVariables false
open Go Go.Lift

/-- from s to t by k edges. -/
inductive Wlk (g : Gr) (s : Nat) : Nat → Nat → Prop
  | nil : Wlk g s 0 s
  | snoc {k t : Nat} {x : Edge} : Wlk g s k t → x ∈ g.edges → x.frm = (t : Int) → Wlk g s (k + 1) x.to.toNat
theorem Wlk.rch {g : Gr} {s k t : Nat} (h : Wlk g s k t) : Rch g s t := by
  induction h with
  | nil => exact .refl
  | snoc _ hx he ih => exact .step ih hx he
theorem Rch.wlk {g : Gr} {s t : Nat} (h : Rch g s t) : ∃ k, Wlk g s k t := by
  induction h with
  | refl => exact ⟨0, .nil⟩
  | step _ hx he ih => obtain ⟨k, hk⟩ := ih; exact ⟨k + 1, .snoc hk hx he⟩
theorem Wlk.trans {g : Gr} {a b c j k : Nat} (h : Wlk g a j b) (w : Wlk g b k c) : Wlk g a (j + k) c := by
  induction w with
  | nil => exact h
  | snoc _ hx he ih => exact .snoc ih hx he
/-- a list of distances from the state 0. -/
structure Dist (g : Gr) (D : List Int) : Prop where
  len : D.length = g.n
  walk : ∀ s, s < g.n → 0 ≤ D.getD s 0 ∧ Wlk g 0 (D.getD s 0).toNat s
  least : ∀ s k, Wlk g 0 k s → D.getD s 0 ≤ (k : Int)
theorem Dist.eq {g : Gr} {D E : List Int} (h : Dist g D) (k : Dist g E) : D = E := by
  refine eq_of_getD (d := 0) (by rw [h.len, k.len]) fun s hs => ?_
  rw [h.len] at hs
  have h1 := h.walk s hs
  have h2 := k.walk s hs
  have h3 := h.least s _ h2.2
  have h4 := k.least s _ h1.2
  omega

theorem getI_set {l : List Int} {i j : Nat} {v d : Int} : (l.set i v).getD j d = if j = i ∧ i < l.length then v else l.getD j d := getD_set
/-- how many have no level yet. -/
def unv (D : List Int) : Nat := unseen (D.map fun v => decide (0 ≤ v))
theorem unv_at {D : List Int} {w : Nat} (hw : w < D.length) : (D.map fun v => decide (0 ≤ v)).getD w false = decide (0 ≤ D.getD w 0) := by
  simp [List.getD, hw]
theorem unv_set {D : List Int} {w : Nat} {v : Int} (hw : w < D.length) (hn : D.getD w 0 < 0) (hv : 0 ≤ v) : unv (D.set w v) + 1 = unv D := by
  unfold unv
  rw [List.map_set, show (decide (0 ≤ v)) = true by simp [hv]]
  exact unseen_set (by simpa using hw) (by rw [unv_at hw, decide_eq_false (by omega)])

structure BCore (g : Gr) (D q : List Int) : Prop where
  pos : 0 < g.n
  len : D.length = g.n
  zero : D.getD 0 0 = 0
  low : ∀ s, s < g.n → -1 ≤ D.getD s 0
  bd : ∀ s, s < g.n → D.getD s 0 + unv D < g.n
  mem : ∀ x ∈ q, 0 ≤ x ∧ x < (g.n : Int) ∧ 0 ≤ D.getD x.toNat 0
  walk : ∀ s, s < g.n → 0 ≤ D.getD s 0 → Wlk g 0 (D.getD s 0).toNat s
/-- the search between two states of the queue. -/
structure Bfs (g : Gr) (D q : List Int) : Prop extends BCore g D q where
  sorted : q.Pairwise fun a b => D.getD a.toNat 0 ≤ D.getD b.toNat 0
  top : ∀ h ∈ q, ∀ s, s < g.n → D.getD s 0 ≤ D.getD h.toNat 0 + 1
  done : ∀ s, s < g.n → 0 ≤ D.getD s 0 → (s : Int) ∉ q → ∀ x ∈ g.edges, x.frm = (s : Int) → 0 ≤ D.getD x.to.toNat 0 ∧ D.getD x.to.toNat 0 ≤ D.getD s 0 + 1
/-- the search while the edges are gone through for the state h. -/
structure BfsM (g : Gr) (D q : List Int) (h : Int) (i : Nat) : Prop extends BCore g D q where
  hd : 0 ≤ h ∧ h < (g.n : Int) ∧ 0 ≤ D.getD h.toNat 0
  sorted : q.Pairwise fun a b => D.getD a.toNat 0 ≤ D.getD b.toNat 0
  above : ∀ x ∈ q, D.getD h.toNat 0 ≤ D.getD x.toNat 0
  top : ∀ s, s < g.n → D.getD s 0 ≤ D.getD h.toNat 0 + 1
  done : ∀ s, s < g.n → 0 ≤ D.getD s 0 → (s : Int) ∉ q → (s : Int) ≠ h → ∀ x ∈ g.edges, x.frm = (s : Int) → 0 ≤ D.getD x.to.toNat 0 ∧ D.getD x.to.toNat 0 ≤ D.getD s 0 + 1
  part : ∀ x ∈ g.edges.take i, x.frm = h → 0 ≤ D.getD x.to.toNat 0 ∧ D.getD x.to.toNat 0 ≤ D.getD h.toNat 0 + 1
theorem Bfs.pop {g : Gr} {D q : List Int} {h : Int} (b : Bfs g D (h :: q)) : BfsM g D q h 0 := by
  refine ⟨⟨b.pos, b.len, b.zero, b.low, b.bd, fun x hx => b.mem x (List.mem_cons_of_mem _ hx), b.walk⟩, b.mem h List.mem_cons_self, ?_, ?_, b.top h List.mem_cons_self, ?_, ?_⟩
  · exact (List.pairwise_cons.1 b.sorted).2
  · exact (List.pairwise_cons.1 b.sorted).1
  · intro s hs h0 hq hne
    refine b.done s hs h0 fun hm => ?_
    rcases List.mem_cons.1 hm with h1 | h1
    · exact hne h1
    · exact hq h1
  · intro x hx; simp at hx
theorem take_at {g : Gr} {i : Nat} (h : i < g.edges.length) {x : Edge} (hx : x ∈ g.edges.take (i + 1)) : x ∈ g.edges.take i ∨ x = g.edges.getD i de := by
  rw [List.take_succ_eq_append_getElem h] at hx
  rcases List.mem_append.1 hx with h1 | h1
  · exact .inl h1
  · refine .inr ?_
    have : x = g.edges[i] := by simpa using h1
    rw [this]; simp [List.getD, h]
theorem BfsM.skip {g : Gr} {D q : List Int} {h : Int} {i : Nat} (hf : Fit g) (b : BfsM g D q h i) (hi : i < g.edges.length) (hn : (g.edges.getD i de).frm = h → 0 ≤ D.getD (g.edges.getD i de).to.toNat 0) : BfsM g D q h (i + 1) := by
  refine ⟨b.toBCore, b.hd, b.sorted, b.above, b.top, b.done, fun x hx he => ?_⟩
  rcases take_at hi hx with h1 | rfl
  · exact b.part x h1 he
  · have := hf.to _ (getD_mem (d := de) hi)
    exact ⟨hn he, b.top _ (by unfold Gr.n; omega)⟩
theorem BfsM.push {g : Gr} {D q : List Int} {h : Int} {i : Nat} (hf : Fit g) (b : BfsM g D q h i) (hi : i < g.edges.length) (he : (g.edges.getD i de).frm = h) (hn : D.getD (g.edges.getD i de).to.toNat 0 < 0) :
    BfsM g (D.set (g.edges.getD i de).to.toNat (D.getD h.toNat 0 + 1)) (q ++ [(g.edges.getD i de).to]) h (i + 1) := by
  have hto := hf.to _ (getD_mem (d := de) hi)
  generalize hw : (g.edges.getD i de).to = w at *
  have hwn : w.toNat < g.n := by unfold Gr.n; omega
  have hwl : w.toNat < D.length := by rw [b.len]; exact hwn
  have hgn : (g.n : Int) = g.states := by unfold Gr.n; omega
  have hD : ∀ j, (D.set w.toNat (D.getD h.toNat 0 + 1)).getD j 0 = if j = w.toNat then D.getD h.toNat 0 + 1 else D.getD j 0 := fun j => by
    rw [getI_set]; simp only [hwl, and_true]
  have hh := b.hd
  have hne : ∀ j, 0 ≤ D.getD j 0 → j ≠ w.toNat := fun j hj e => by rw [e] at hj; omega
  have hDk : ∀ j, 0 ≤ D.getD j 0 → (D.set w.toNat (D.getD h.toNat 0 + 1)).getD j 0 = D.getD j 0 := fun j hj => by rw [hD, if_neg (hne j hj)]
  have hu := unv_set hwl hn (v := D.getD h.toNat 0 + 1) (by omega)
  have hwalk : Wlk g 0 (D.getD h.toNat 0 + 1).toNat w.toNat := by
    have := (b.walk h.toNat (by omega) hh.2.2).snoc (getD_mem (d := de) hi) (by rw [he]; omega)
    rw [hw] at this
    rw [show (D.getD h.toNat 0 + 1).toNat = (D.getD h.toNat 0).toNat + 1 by omega]
    exact this
  have key : ∀ x : Edge, 0 ≤ D.getD x.to.toNat 0 → (D.set w.toNat (D.getD h.toNat 0 + 1)).getD x.to.toNat 0 = D.getD x.to.toNat 0 := fun x hx => hDk _ hx
  refine ⟨⟨b.pos, by simpa using b.len, by rw [hDk 0 (by rw [b.zero]; omega), b.zero], fun s hs => ?_, fun s hs => ?_, fun x hx => ?_, fun s hs h0 => ?_⟩, ⟨hh.1, hh.2.1, by rw [hDk _ hh.2.2]; exact hh.2.2⟩, ?_, fun x hx => ?_, fun s hs => ?_, fun s hs h0 hq hnh x hx hxs => ?_, fun x hx hxh => ?_⟩
  · rw [hD]; split
    · omega
    · exact b.low s hs
  · rw [hD]
    have h1 := b.bd s hs
    have h2 := b.bd h.toNat (by omega)
    split <;> omega
  · rcases List.mem_append.1 hx with h1 | h1
    · have := b.mem x h1
      exact ⟨this.1, this.2.1, by rw [hDk _ this.2.2]; exact this.2.2⟩
    · have : x = w := by simpa using h1
      subst this
      exact ⟨hto.1, by omega, by rw [hD, if_pos rfl]; omega⟩
  · rw [hD] at h0 ⊢
    split
    · rename_i h1; subst h1; exact hwalk
    · rename_i h1; rw [if_neg h1] at h0; exact b.walk s hs h0
  · rw [List.pairwise_append]
    refine ⟨?_, by simp, fun x hx y hy => ?_⟩
    · refine (List.pairwise_iff_forall_sublist.2 fun {x y} hs => ?_)
      have h1 := (List.pairwise_iff_forall_sublist.1 b.sorted) hs
      have hx := (b.mem x (hs.subset (by simp))).2.2
      have hy := (b.mem y (hs.subset (by simp))).2.2
      rw [hDk _ hx, hDk _ hy]; exact h1
    · have : y = w := by simpa using hy
      subst this
      rw [hDk _ (b.mem x hx).2.2, hD y.toNat, if_pos rfl]
      exact b.top _ (by have := b.mem x hx; omega)
  · rw [hDk _ hh.2.2]
    rcases List.mem_append.1 hx with h1 | h1
    · rw [hDk _ (b.mem x h1).2.2]; exact b.above x h1
    · have : x = w := by simpa using h1
      subst this
      rw [hD, if_pos rfl]; omega
  · rw [hDk _ hh.2.2, hD]; split
    · omega
    · exact b.top s hs
  · rw [List.mem_append, not_or] at hq
    have hsw : s ≠ w.toNat := fun e => hq.2 (by rw [e]; simp; omega)
    rw [hD s, if_neg hsw] at h0 ⊢
    have := b.done s hs h0 hq.1 hnh x hx hxs
    rw [hDk _ this.1]; exact this
  · rw [hDk _ hh.2.2]
    rcases take_at hi hx with h1 | rfl
    · have := b.part x h1 hxh
      rw [hDk _ this.1]; exact this
    · rw [hw, hD, if_pos rfl]; omega
theorem BfsM.fin {g : Gr} {D q : List Int} {h : Int} {i : Nat} (b : BfsM g D q h i) (hi : g.edges.length ≤ i) : Bfs g D q := by
  refine ⟨b.toBCore, b.sorted, fun x hx s hs => ?_, fun s hs h0 hq x hx he => ?_⟩
  · have h1 := b.above x hx
    have h2 := b.top s hs
    omega
  · by_cases e : (s : Int) = h
    · have := b.part x (by rw [List.take_of_length_le hi]; exact hx) (by rw [he, e])
      rw [show s = h.toNat by omega]; exact this
    · exact b.done s hs h0 hq e x hx he
theorem Bfs.all {g : Gr} {D : List Int} (hf : Fit g) (b : Bfs g D []) (hr : ∀ s, s < g.n → Rch g 0 s) : Dist g D := by
  have hz := b.zero
  have hvis : ∀ t, Rch g 0 t → t < g.n ∧ 0 ≤ D.getD t 0 := fun t ht => by
    refine Rch.mem (p := fun t => t < g.n ∧ 0 ≤ D.getD t 0) ⟨b.pos, by rw [hz]; omega⟩ (fun x hx t he hp => ?_) ht
    have := hf.to x hx
    exact ⟨by unfold Gr.n; omega, (b.done t hp.1 hp.2 (by simp) x hx he).1⟩
  refine ⟨b.len, fun s hs => ⟨(hvis s (hr s hs)).2, b.walk s hs (hvis s (hr s hs)).2⟩, fun s k hw => ?_⟩
  induction hw with
  | nil => rw [hz]; omega
  | snoc hw hx he ih =>
    have h1 := hvis _ hw.rch
    have := (b.done _ h1.1 h1.2 (by simp) _ hx he).2
    omega
theorem Bfs.start {g : Gr} (hp : 0 < g.n) : Bfs g ((List.replicate g.n (-1 : Int)).set 0 0) [0] := by
  have hD : ∀ j, j < g.n → ((List.replicate g.n (-1 : Int)).set 0 0).getD j 0 = if j = 0 then 0 else -1 := fun j hj => by
    rw [getI_set]
    simp only [List.length_replicate, hp, and_true]
    split
    · rfl
    · simp [List.getD, List.getElem?_replicate, hj]
  have hu : unv ((List.replicate g.n (-1 : Int)).set 0 0) + 1 = unv (List.replicate g.n (-1 : Int)) := unv_set (by simpa using hp) (by simp [List.getD, List.getElem?_replicate, hp]) (Int.le_refl _)
  have hu2 : unv (List.replicate g.n (-1 : Int)) ≤ g.n := by
    have := unseen_le ((List.replicate g.n (-1 : Int)).map fun v => decide (0 ≤ v))
    simpa [unv] using this
  refine ⟨⟨hp, by simp, by rw [hD 0 hp]; rfl, fun s hs => ?_, fun s hs => ?_, fun x hx => ?_, fun s hs h0 => ?_⟩, by simp, fun h hh s hs => ?_, fun s hs h0 hq => ?_⟩
  · rw [hD s hs]; split <;> omega
  · rw [hD s hs]; split <;> omega
  · have : x = 0 := by simpa using hx
    subst this
    exact ⟨Int.le_refl _, by omega, by rw [show (0 : Int).toNat = 0 from rfl, hD 0 hp]; simp⟩
  · rw [hD s hs] at h0 ⊢
    split at h0
    · rename_i e; subst e; exact .nil
    · omega
  · have : h = 0 := by simpa using hh
    subst this
    rw [hD s hs, show (0 : Int).toNat = 0 from rfl, hD 0 hp]; split <;> simp
  · exfalso
    rw [hD s hs] at h0
    split at h0
    · rename_i e; subst e; exact hq (by simp)
    · omega
end Go.Proofs.Ytkmnnmclebdjlaa
