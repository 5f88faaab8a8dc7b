/-
  Plain laws of this seat: the reference's distances, the period, the classes.
-/
import Derived.Test.YtkmnnmclebdjlaaPM
namespace Go.Proofs.Ytkmnnmclebdjlaa
set_option linter.unusedSimpArgs false
set_option linter.unusedVariables false
open Go Go.Lift

/-- whatever is reached is reached by fewer edges than there are states. -/
theorem short_at {g : Gr} (hf : Fit g) : ∀ (m : Nat) (l : List Bool), unseen l = m → l.length = g.n → l.getD 0 false = true → (∀ t, l.getD t false = true → ∃ k, k + unseen l < g.n ∧ Wlk g 0 k t) → ∀ t, Rch g 0 t → ∃ k, k < g.n ∧ Wlk g 0 k t := by
  intro m
  induction m with
  | zero =>
    intro l hu hl h0 hw t ht
    by_cases hc : ∀ x ∈ g.edges, l.getD x.frm.toNat false = true → l.getD x.to.toNat false = true
    · have := Rch.mem (p := fun t => l.getD t false = true) h0 (fun x hx t he hp => hc x hx (by rw [he]; exact hp)) ht
      obtain ⟨k, hk, hw⟩ := hw t this
      exact ⟨k, by omega, hw⟩
    · exfalso
      simp only [Classical.not_forall] at hc
      obtain ⟨x, hx, h1, h2⟩ := hc
      have := hf.to x hx
      have := unseen_set (l := l) (s := x.to.toNat) (by rw [hl]; unfold Gr.n; omega) (by simpa using h2)
      omega
  | succ m ih =>
    intro l hu hl h0 hw t ht
    by_cases hc : ∀ x ∈ g.edges, l.getD x.frm.toNat false = true → l.getD x.to.toNat false = true
    · have := Rch.mem (p := fun t => l.getD t false = true) h0 (fun x hx t he hp => hc x hx (by rw [he]; exact hp)) ht
      obtain ⟨k, hk, hw⟩ := hw t this
      exact ⟨k, by omega, hw⟩
    · simp only [Classical.not_forall] at hc
      obtain ⟨x, hx, h1, h2⟩ := hc
      have hto := hf.to x hx
      have hfr := hf.frm x hx
      have hxl : x.to.toNat < l.length := by rw [hl]; unfold Gr.n; omega
      have hu2 := unseen_set (l := l) (s := x.to.toNat) hxl (by simpa using h2)
      refine ih (l.set x.to.toNat true) (by omega) (by simpa using hl) ?_ (fun t ht => ?_) t ht
      · rw [getD_set]; split
        · rfl
        · exact h0
      · rw [getD_set] at ht
        split at ht
        · rename_i e
          obtain ⟨k, hk, hwk⟩ := hw _ h1
          refine ⟨k + 1, by omega, ?_⟩
          rw [e.1]
          exact hwk.snoc hx (by omega)
        · obtain ⟨k, hk, hwk⟩ := hw _ ht
          exact ⟨k, by omega, hwk⟩
theorem short_walk {g : Gr} (hf : Fit g) (hp : 0 < g.n) {t : Nat} (ht : Rch g 0 t) : ∃ k, k < g.n ∧ Wlk g 0 k t := by
  have hl : (rstart g 0).length = g.n := by simp [rstart]
  have hu : unseen (rstart g 0) + 1 = unseen (List.replicate g.n false) := unseen_set (by simpa using hp) (by simp [List.getD, List.getElem?_replicate, hp])
  have hu2 := unseen_le (List.replicate g.n false)
  have hu3 : (List.replicate g.n false).length = g.n := by simp
  refine short_at hf _ (rstart g 0) rfl hl ?_ (fun t ht => ?_) t ht
  · unfold rstart; rw [getD_set, if_pos ⟨rfl, by simpa using hp⟩]
  · unfold rstart at ht
    rw [getD_set] at ht
    split at ht
    · rename_i e; rw [e.1]; exact ⟨0, by omega, .nil⟩
    · simp [List.getD, List.getElem?_replicate] at ht
      split at ht <;> simp at ht

def lrelax (l : List Int) (x : Edge) : List Int := l.set x.to.toNat (min (l.getD x.to.toNat 0) (l.getD x.frm.toNat 0 + 1))
def lstart (g : Gr) : List Int := (List.replicate g.n g.states).set 0 0
def lev (g : Gr) : Nat → List Int
  | 0 => lstart g
  | k + 1 => g.edges.foldl lrelax (lev g k)
def levAt (g : Gr) (k i : Nat) : List Int := (g.edges.take i).foldl lrelax (lev g k)
def levL (g : Gr) : List Int := lev g g.n
theorem lrelax_len {l : List Int} {x : Edge} : (lrelax l x).length = l.length := by simp [lrelax]
theorem lfold_len : ∀ (es : List Edge) (l : List Int), (es.foldl lrelax l).length = l.length
  | [], _ => rfl
  | x :: es, l => by rw [List.foldl_cons, lfold_len es, lrelax_len]
theorem lev_len {g : Gr} : ∀ k, (lev g k).length = g.n
  | 0 => by simp [lev, lstart]
  | k + 1 => by rw [lev, lfold_len]; exact lev_len k
theorem levAt_len {g : Gr} {k i : Nat} : (levAt g k i).length = g.n := by unfold levAt; rw [lfold_len, lev_len]
theorem levAt_succ {g : Gr} {k i : Nat} (h : i < g.edges.length) : levAt g k (i + 1) = lrelax (levAt g k i) (g.edges.getD i de) := foldl_take_succ (d := de) _ _ _ _ h
@[simp] theorem levAt_zero {g : Gr} {k : Nat} : levAt g k 0 = lev g k := by simp [levAt]
theorem levAt_all {g : Gr} {k i : Nat} (h : g.edges.length ≤ i) : levAt g k i = lev g (k + 1) := by unfold levAt; rw [List.take_of_length_le h]; rfl
theorem lrelax_at {l : List Int} {x : Edge} (j : Nat) (hx : x.to.toNat < l.length) : (lrelax l x).getD j 0 = if j = x.to.toNat then min (l.getD x.to.toNat 0) (l.getD x.frm.toNat 0 + 1) else l.getD j 0 := by
  unfold lrelax; rw [getI_set]; simp only [hx, and_true]
theorem lrelax_le {l : List Int} {x : Edge} (j : Nat) : (lrelax l x).getD j 0 ≤ l.getD j 0 := by
  unfold lrelax; rw [getI_set]; split
  · rename_i h; rw [h.1]; omega
  · omega
theorem lfold_le : ∀ (es : List Edge) (l : List Int) (j : Nat), (es.foldl lrelax l).getD j 0 ≤ l.getD j 0
  | [], _, _ => Int.le_refl _
  | x :: es, l, j => Int.le_trans (lfold_le es _ j) (lrelax_le j)
theorem lfold_to : ∀ (es : List Edge) (l : List Int) (x : Edge), x ∈ es → x.to.toNat < l.length → (es.foldl lrelax l).getD x.to.toNat 0 ≤ l.getD x.frm.toNat 0 + 1
  | y :: es, l, x, h, hl => by
    rcases List.mem_cons.1 h with rfl | h1
    · refine Int.le_trans (lfold_le es _ _) ?_
      rw [lrelax_at _ hl, if_pos rfl]; omega
    · have h2 := lfold_to es (lrelax l y) x h1 (by rw [lrelax_len]; exact hl)
      have h3 := lrelax_le (l := l) (x := y) x.frm.toNat
      rw [List.foldl_cons]; omega
/-- what an entry says: there is such a walk, or nothing is known. -/
def LSound (g : Gr) (l : List Int) : Prop := ∀ t, t < g.n → 0 ≤ l.getD t 0 ∧ l.getD t 0 ≤ g.states ∧ (l.getD t 0 = g.states ∨ Wlk g 0 (l.getD t 0).toNat t)
theorem lrelax_sound {g : Gr} (hf : Fit g) {l : List Int} (hl : l.length = g.n) (h : LSound g l) {x : Edge} (hx : x ∈ g.edges) : LSound g (lrelax l x) := by
  intro t ht
  have hto := hf.to x hx
  have hfr := hf.frm x hx
  rw [lrelax_at t (by rw [hl]; unfold Gr.n; omega)]
  split
  · rename_i e
    have h1 := h x.to.toNat (by unfold Gr.n; omega)
    have h2 := h x.frm.toNat (by unfold Gr.n; omega)
    by_cases hm : l.getD x.to.toNat 0 ≤ l.getD x.frm.toNat 0 + 1
    · rw [show min (l.getD x.to.toNat 0) (l.getD x.frm.toNat 0 + 1) = l.getD x.to.toNat 0 by omega, e]; exact h1
    · rw [show min (l.getD x.to.toNat 0) (l.getD x.frm.toNat 0 + 1) = l.getD x.frm.toNat 0 + 1 by omega]
      refine ⟨by omega, by omega, ?_⟩
      rcases h2.2.2 with h3 | h3
      · omega
      · right
        rw [show (l.getD x.frm.toNat 0 + 1).toNat = (l.getD x.frm.toNat 0).toNat + 1 by omega, e]
        exact h3.snoc hx (by omega)
  · exact h t ht
theorem lfold_sound {g : Gr} (hf : Fit g) : ∀ (es : List Edge) (l : List Int), (∀ x ∈ es, x ∈ g.edges) → l.length = g.n → LSound g l → LSound g (es.foldl lrelax l)
  | [], _, _, _, h => h
  | x :: es, l, hs, hl, h => lfold_sound hf es _ (fun y hy => hs y (List.mem_cons_of_mem _ hy)) (by rw [lrelax_len]; exact hl) (lrelax_sound hf hl h (hs x List.mem_cons_self))
theorem lstart_at {g : Gr} {j : Nat} (hj : j < g.n) : (lstart g).getD j 0 = if j = 0 then 0 else g.states := by
  unfold lstart
  rw [getI_set]
  simp only [List.length_replicate]
  by_cases e : j = 0
  · subst e; rw [if_pos ⟨rfl, hj⟩, if_pos rfl]
  · rw [if_neg (by omega), if_neg e]; simp [List.getD, List.getElem?_replicate, hj]
theorem lev_sound {g : Gr} (hf : Fit g) : ∀ k, LSound g (lev g k)
  | 0 => fun t ht => by
    have hst := hf.st
    show 0 ≤ (lstart g).getD t 0 ∧ (lstart g).getD t 0 ≤ g.states ∧ ((lstart g).getD t 0 = g.states ∨ Wlk g 0 ((lstart g).getD t 0).toNat t)
    rw [lstart_at ht]
    split
    · rename_i e; subst e; exact ⟨Int.le_refl _, hst.1, .inr .nil⟩
    · exact ⟨hst.1, Int.le_refl _, .inl rfl⟩
  | k + 1 => lfold_sound hf _ _ (fun _ h => h) (lev_len k) (lev_sound hf k)
theorem levAt_sound {g : Gr} (hf : Fit g) {k i : Nat} : LSound g (levAt g k i) := lfold_sound hf _ _ (fun _ h => List.mem_of_mem_take h) (lev_len k) (lev_sound hf k)
theorem lev_le {g : Gr} (hf : Fit g) (hp : 0 < g.n) {j t : Nat} (h : Wlk g 0 j t) : ∀ k, j ≤ k → (lev g k).getD t 0 ≤ (j : Int) := by
  induction h with
  | nil =>
    intro k _
    have h1 := lev_sound hf k 0 hp
    induction k with
    | zero => show (lstart g).getD 0 0 ≤ _; rw [lstart_at hp]; simp
    | succ k ih =>
      exact Int.le_trans (lfold_le _ _ _) (ih (Nat.zero_le _) (lev_sound hf k 0 hp))
  | @snoc j t x hw hx he ih =>
    intro k hk
    obtain ⟨k, rfl⟩ : ∃ m, k = m + 1 := ⟨k - 1, by omega⟩
    have h1 := ih k (by omega)
    have hto := hf.to x hx
    have h2 := lfold_to g.edges (lev g k) x hx (by rw [lev_len]; unfold Gr.n; omega)
    rw [show x.frm.toNat = t by omega] at h2
    show (g.edges.foldl lrelax (lev g k)).getD x.to.toNat 0 ≤ _
    omega
theorem levL_dist {g : Gr} (hf : Fit g) (hp : 0 < g.n) (hr : ∀ s, s < g.n → Rch g 0 s) : Dist g (levL g) := by
  have hgn : (g.n : Int) = g.states := by unfold Gr.n at *; omega
  have hlt : ∀ s, s < g.n → (levL g).getD s 0 < g.states := fun s hs => by
    obtain ⟨k, hk, hw⟩ := short_walk hf hp (hr s hs)
    have := lev_le hf hp hw g.n (by omega)
    unfold levL; omega
  refine ⟨lev_len _, fun s hs => ?_, fun s k hw => ?_⟩
  · have h1 := lev_sound hf g.n s hs
    have h2 := hlt s hs
    refine ⟨h1.1, ?_⟩
    rcases h1.2.2 with h3 | h3
    · unfold levL at h2; omega
    · exact h3
  · by_cases hk : k ≤ g.n
    · exact lev_le hf hp hw g.n hk
    · have := hlt s (by
        have := hw.rch
        cases hw with
        | nil => exact hp
        | snoc _ hx _ => have := hf.to _ hx; unfold Gr.n; omega)
      omega
theorem irr_pos {g : Gr} (h : irrB g = true) : 0 < g.n := by
  obtain ⟨hg, _, he⟩ := irr_all h
  have := (gcheck_fit hg).to _ (List.getElem_mem he)
  unfold Gr.n; omega
theorem irr_dist {g : Gr} (h : irrB g = true) : Dist g (levL g) := levL_dist (gcheck_fit (irr_all h).1) (irr_pos h) fun s hs => irr_rch h (irr_pos h) hs
theorem levL_lt {g : Gr} (h : irrB g = true) {s : Nat} (hs : s < g.n) : 0 ≤ (levL g).getD s 0 ∧ (levL g).getD s 0 < g.states := by
  have hf := gcheck_fit (irr_all h).1
  have hp := irr_pos h
  obtain ⟨k, hk, hw⟩ := short_walk hf hp (irr_rch h hp hs)
  have h1 := (irr_dist h).least s k hw
  have h2 := ((irr_dist h).walk s hs).1
  unfold Gr.n at hk
  omega

/-- how far an edge is from leading to the next level. -/
def gapL (l : List Int) (x : Edge) : Nat := (l.getD x.frm.toNat 0 + 1 - l.getD x.to.toNat 0).natAbs
def perAt (g : Gr) (l : List Int) (i : Nat) : Nat := (g.edges.take i).foldl (fun a x => Nat.gcd a (gapL l x)) 0
def perL (g : Gr) : Nat := perAt g (levL g) g.edges.length
@[simp] theorem perAt_zero {g : Gr} {l : List Int} : perAt g l 0 = 0 := rfl
theorem perAt_succ {g : Gr} {l : List Int} {i : Nat} (h : i < g.edges.length) : perAt g l (i + 1) = Nat.gcd (perAt g l i) (gapL l (g.edges.getD i de)) := foldl_take_succ (d := de) _ _ _ _ h
theorem gcd_bd {a b m : Nat} (ha : a ≤ m) (hb : b ≤ m) : Nat.gcd a b ≤ m := by
  rcases Nat.eq_zero_or_pos a with rfl | h
  · rw [Nat.gcd_zero_left]; exact hb
  · exact Nat.le_trans (Nat.gcd_le_left _ h) ha
theorem perAt_bd {g : Gr} {l : List Int} {m : Nat} (h : ∀ x ∈ g.edges, gapL l x ≤ m) : ∀ i, perAt g l i ≤ m
  | 0 => Nat.zero_le _
  | i + 1 => by
    by_cases hi : i < g.edges.length
    · rw [perAt_succ hi]; exact gcd_bd (perAt_bd h i) (h _ (getD_mem hi))
    · have : perAt g l (i + 1) = perAt g l i := by unfold perAt; rw [List.take_of_length_le (by omega), List.take_of_length_le (by omega)]
      rw [this]; exact perAt_bd h i
theorem gapL_bd {g : Gr} (h : irrB g = true) {x : Edge} (hx : x ∈ g.edges) : gapL (levL g) x ≤ 65 := by
  have hf := gcheck_fit (irr_all h).1
  have hst := hf.st
  have hto := hf.to x hx
  have hfr := hf.frm x hx
  have h1 := levL_lt h (s := x.to.toNat) (by unfold Gr.n; omega)
  have h2 := levL_lt h (s := x.frm.toNat) (by unfold Gr.n; omega)
  unfold gapL
  omega
theorem gap_max {d : Int} : max d (-d) = (d.natAbs : Int) := by omega
def clsL (g : Gr) : List Int := (levL g).map fun v => v % (perL g : Int)
theorem perAt_dvd {g : Gr} {l : List Int} : ∀ (i j : Nat), j < i → j < g.edges.length → perAt g l i ∣ gapL l (g.edges.getD j de)
  | 0, j, h, _ => absurd h (Nat.not_lt_zero _)
  | i + 1, j, h, hj => by
    by_cases hi : i < g.edges.length
    · rw [perAt_succ hi]
      by_cases e : j = i
      · rw [e]; exact Nat.gcd_dvd_right _ _
      · exact Nat.dvd_trans (Nat.gcd_dvd_left _ _) (perAt_dvd i j (by omega) hj)
    · have : perAt g l (i + 1) = perAt g l i := by unfold perAt; rw [List.take_of_length_le (by omega), List.take_of_length_le (by omega)]
      rw [this]
      exact perAt_dvd i j (by omega) hj
theorem per_gap {g : Gr} {x : Edge} (hx : x ∈ g.edges) : perL g ∣ gapL (levL g) x := by
  obtain ⟨j, hj, rfl⟩ := List.mem_iff_getElem.1 hx
  have := perAt_dvd (g := g) (l := levL g) g.edges.length j hj hj
  rwa [show g.edges.getD j de = g.edges[j] by simp [List.getD, hj]] at this
/-- the period divides what a walk is off the levels. -/
theorem walk_dvd {g : Gr} {a k b : Nat} (h : Wlk g a k b) : (perL g : Int) ∣ (levL g).getD a 0 + k - (levL g).getD b 0 := by
  induction h with
  | nil => exact ⟨0, by omega⟩
  | @snoc k t x hw hx he ih =>
    have h1 := per_gap hx
    unfold gapL at h1
    have h2 := Int.natAbs_dvd_natAbs.1 (show (perL g : Int).natAbs ∣ _ by simpa using h1)
    rw [show x.frm.toNat = t by omega] at h2
    have := Int.dvd_add ih h2
    rw [show (levL g).getD a 0 + ((k + 1 : Nat) : Int) - (levL g).getD x.to.toNat 0 = (levL g).getD a 0 + k - (levL g).getD t 0 + ((levL g).getD t 0 + 1 - (levL g).getD x.to.toNat 0) by omega]
    exact this
theorem per_cycle {g : Gr} {a k : Nat} (h : Wlk g a k a) : perL g ∣ k := by
  have := walk_dvd h
  rw [show (levL g).getD a 0 + (k : Int) - (levL g).getD a 0 = k by omega] at this
  exact Int.natCast_dvd_natCast.1 this
theorem per_pos {g : Gr} (h : irrB g = true) : 0 < perL g := by
  have hf := gcheck_fit (irr_all h).1
  obtain ⟨hg, _, he⟩ := irr_all h
  have hx := List.getElem_mem he
  generalize g.edges[0] = x at hx
  have hto := hf.to x hx
  have hfr := hf.frm x hx
  obtain ⟨k, hw⟩ := (irr_rch h (s := x.to.toNat) (t := x.frm.toNat) (by unfold Gr.n; omega) (by unfold Gr.n; omega)).wlk
  have := per_cycle (hw.snoc hx (by omega))
  exact Nat.pos_of_dvd_of_pos this (by omega)
end Go.Proofs.Ytkmnnmclebdjlaa
