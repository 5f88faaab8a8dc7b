/- Parts of the proof: DM. -/
import Derived.Test.YtoafgeobhhlplaaZF35
namespace Go.Proofs.Ytoafgeobhhlplaa
set_option linter.unusedSimpArgs false
set_option linter.unusedVariables false
open Go Go.Lift
section
variable {α : Type} [DecidableEq α]
def seenG (F : List α) : List (α × Bool) := F.map fun x => (x, true)
def addG (F : List α) (x : α) : List α := if x ∈ F then F else F ++ [x]
def addL (F L : List α) : List α := L.foldl addG F
theorem seenG_put {x : α} : ∀ {F : List α}, alPut (seenG F) x true = seenG (addG F x)
  | [] => rfl
  | a :: F => by
    show alPut ((a, true) :: seenG F) x true = _
    by_cases h : x = a
    · subst h
      simp only [alPut, if_true]
      unfold addG
      rw [if_pos List.mem_cons_self]; rfl
    · simp only [alPut, if_neg h]
      rw [seenG_put]
      unfold addG
      by_cases h2 : x ∈ F
      · rw [if_pos h2, if_pos (List.mem_cons_of_mem _ h2)]; rfl
      · rw [if_neg h2, if_neg (fun e => (List.mem_cons.1 e).elim h h2)]; rfl
omit [DecidableEq α] in
@[simp] theorem seenG_nil : seenG ([] : List α) = [] := rfl
omit [DecidableEq α] in
@[simp] theorem seenG_len {F : List α} : (seenG F).length = F.length := by simp [seenG]
theorem addG_mem {F : List α} {x y : α} : y ∈ addG F x ↔ y ∈ F ∨ y = x := by
  unfold addG
  split
  · rename_i h; exact ⟨.inl, fun k => k.elim id fun e => e ▸ h⟩
  · rw [List.mem_append, List.mem_singleton]
theorem addG_nd {F : List α} {x : α} (h : F.Nodup) : (addG F x).Nodup := by
  unfold addG
  split
  · exact h
  · rename_i h2
    rw [List.nodup_append]
    exact ⟨h, by simp, fun a ha b hb e => by rw [List.mem_singleton.1 hb] at e; exact h2 (e ▸ ha)⟩
theorem addL_mem {y : α} : ∀ {L F : List α}, y ∈ addL F L ↔ y ∈ F ∨ y ∈ L
  | [], F => by simp [addL]
  | a :: L, F => by
    show y ∈ addL (addG F a) L ↔ _
    rw [addL_mem, addG_mem, List.mem_cons, or_assoc]
theorem addL_nd : ∀ {L F : List α}, F.Nodup → (addL F L).Nodup
  | [], F, h => h
  | a :: L, F, h => addL_nd (L := L) (addG_nd h)
@[simp] theorem addL_nil {F : List α} : addL F [] = F := rfl
theorem addL_snoc {F L : List α} {x : α} : addL F (L ++ [x]) = addG (addL F L) x := by unfold addL; rw [List.foldl_append]; rfl
theorem addL_app {F A B : List α} : addL F (A ++ B) = addL (addL F A) B := by unfold addL; rw [List.foldl_append]
theorem addL_take {d : α} {F L : List α} {j : Nat} (hj : j < L.length) : addL F (L.take (j + 1)) = addG (addL F (L.take j)) (L.getD j d) := by
  rw [List.take_succ_eq_append_getElem hj, addL_snoc]
  congr 1
  simp [List.getD, hj]
end
theorem perm_all {α : Type} {d : α} {F : List α} {o : List Nat} (h : o.Perm (List.range F.length)) {x : α} : x ∈ (o.map fun i => F.getD i d) ↔ x ∈ F := by
  rw [List.mem_map]
  constructor
  · rintro ⟨i, hi, rfl⟩
    have := List.mem_range.1 (h.mem_iff.1 hi)
    rw [List.getD_eq_getElem?_getD, List.getElem?_eq_getElem this]
    exact List.getElem_mem _
  · intro hx
    obtain ⟨i, hi, rfl⟩ := List.mem_iff_getElem.1 hx
    exact ⟨i, h.mem_iff.2 (List.mem_range.2 hi), by simp [List.getD, hi]⟩
theorem perm_nd {α : Type} {d : α} {F : List α} (hF : F.Nodup) {o : List Nat} (h : o.Perm (List.range F.length)) : (o.map fun i => F.getD i d).Nodup := by
  have hn : o.Nodup := h.nodup_iff.2 List.nodup_range
  rw [List.nodup_iff_pairwise_ne, List.pairwise_map]
  rw [List.nodup_iff_pairwise_ne] at hn
  refine List.Pairwise.imp_of_mem ?_ hn
  intro i j hi hj hne e
  have h1 := List.mem_range.1 (h.mem_iff.1 hi)
  have h2 := List.mem_range.1 (h.mem_iff.1 hj)
  simp only [List.getD, List.getElem?_eq_getElem h1, List.getElem?_eq_getElem h2, Option.getD_some] at e
  have hpw := List.pairwise_iff_getElem.1 (List.nodup_iff_pairwise_ne.1 hF)
  rcases Nat.lt_trichotomy i j with h3 | h3 | h3
  · exact hpw i j h1 h2 h3 e
  · exact hne h3
  · exact hpw j i h2 h1 h3 e.symm
section
variable {W : List Wd}
def sufL (W : List Wd) : List Wd := [] :: W.flatMap fun w => (List.range (w.length + 1)).map fun k => w.drop k
theorem sfx_mem {s : Wd} : s ∈ sufL W ↔ s = [] ∨ ∃ w ∈ W, s <:+ w := by
  unfold sufL
  rw [List.mem_cons, List.mem_flatMap]
  refine or_congr Iff.rfl ⟨?_, ?_⟩
  · rintro ⟨w, hw, h⟩
    obtain ⟨k, _, rfl⟩ := List.mem_map.1 h
    exact ⟨w, hw, List.drop_suffix _ _⟩
  · rintro ⟨w, hw, h⟩
    exact ⟨w, hw, List.mem_map.2 ⟨w.length - s.length, List.mem_range.2 (by omega), (List.suffix_iff_eq_drop.1 h).symm⟩⟩
theorem suf_rst {s t : Wd} {l : UInt8} (hs : s ∈ sufL W) (h : t ∈ rst W s l) : t ∈ sufL W := by
  cases s with
  | nil => exact sfx_mem.2 (.inr ⟨_, rst_nil.1 h, List.suffix_cons _ _⟩)
  | cons a r =>
    obtain ⟨rfl, rfl⟩ := rst_cons.1 h
    rcases sfx_mem.1 hs with h | ⟨w, hw, h⟩
    · cases h
    · exact sfx_mem.2 (.inr ⟨w, hw, (List.suffix_cons _ _).trans h⟩)
theorem suf_run {t : Wd} : ∀ {u : Wd} {S : List Wd}, (∀ s ∈ S, s ∈ sufL W) → t ∈ runS W S u → t ∈ sufL W
  | [], S, h, ht => h t ht
  | l :: u, S, h, ht => suf_run (u := u) (S := S.flatMap fun s => rst W s l) (fun s hs => by
      obtain ⟨p, hp, h2⟩ := List.mem_flatMap.1 hs
      exact suf_rst (h p hp) h2) ht
theorem sfx_len (hv : ∀ w ∈ W, w.length ≤ 32) (hn : W.length ≤ 64) : (sufL W).length ≤ 2113 := by
  have h : ∀ {L : List Wd}, (∀ w ∈ L, w.length ≤ 32) → (L.flatMap fun w => (List.range (w.length + 1)).map fun k => w.drop k).length ≤ L.length * 33 := by
    intro L hL
    induction L with
    | nil => simp
    | cons a L ih =>
      rw [List.flatMap_cons, List.length_append, List.length_map, List.length_range, List.length_cons]
      have h1 := hL a List.mem_cons_self
      have h2 := ih fun w hw => hL w (List.mem_cons_of_mem _ hw)
      omega
  have h2 := h hv
  unfold sufL
  rw [List.length_cons]
  omega
def AtA (W : List Wd) (i k : Nat) (s : Wd) : Prop := ∃ y, y < k ∧ y ≠ i ∧ s ∈ runS W [W.getD y []] (W.getD i [])
theorem at_zero {i : Nat} {s : Wd} : ¬ AtA W i 0 s := fun ⟨y, hy, _⟩ => absurd hy (Nat.not_lt_zero _)
theorem at_succ {i k : Nat} {s : Wd} : AtA W i (k + 1) s ↔ AtA W i k s ∨ (k ≠ i ∧ s ∈ runS W [W.getD k []] (W.getD i [])) := by
  constructor
  · rintro ⟨y, hy, hne, h⟩
    rcases Nat.lt_or_ge y k with h2 | h2
    · exact .inl ⟨y, h2, hne, h⟩
    · obtain rfl : y = k := by omega
      exact .inr ⟨hne, h⟩
  · rintro (⟨y, hy, hne, h⟩ | ⟨hne, h⟩)
    · exact ⟨y, by omega, hne, h⟩
    · exact ⟨k, by omega, hne, h⟩
structure FndOK (W : List Wd) (i k : Nat) (F : List Wd) : Prop where
  nd : F.Nodup
  mem : ∀ s, s ∈ F ↔ AtA W i k s
theorem fnd_zero {i : Nat} : FndOK W i 0 [] := ⟨List.nodup_nil, fun s => ⟨fun h => (by cases h), fun h => absurd h at_zero⟩⟩
theorem fnd_same {i : Nat} {F : List Wd} (h : FndOK W i i F) : FndOK W i (i + 1) F := ⟨h.nd, fun s => by rw [h.mem s, at_succ]; exact ⟨.inl, fun k => k.elim id fun k => absurd rfl k.1⟩⟩
theorem fnd_off {i k : Nat} {F : List Wd} (h : FndOK W i k F) (h1 : ¬ W.getD i [] <+: W.getD k []) (h2 : ¬ W.getD k [] <+: W.getD i []) : FndOK W i (k + 1) F :=
  ⟨h.nd, fun s => by
    rw [h.mem s, at_succ]
    refine ⟨.inl, fun k => k.elim id fun k => ?_⟩
    rw [run_off h1 h2] at k
    exact absurd k.2 (by simp)⟩
theorem fnd_in {i k : Nat} {F : List Wd} (h : FndOK W i k F) (hne : k ≠ i) (h1 : W.getD i [] <+: W.getD k []) : FndOK W i (k + 1) (addG F ((W.getD k []).drop (W.getD i []).length)) :=
  ⟨addG_nd h.nd, fun s => by
    rw [addG_mem, h.mem s, at_succ]
    obtain ⟨t, e⟩ := h1
    have e2 : (W.getD k []).drop (W.getD i []).length = t := by rw [← e, List.drop_left]
    rw [e2, ← e, run_app]
    simp [hne]⟩
structure NowS (W : List Wd) (u : Wd) (N : List Wd) : Prop where
  nd : N.Nodup
  mem : ∀ s, s ∈ N ↔ s ∈ runS W [[]] u
theorem nowS_zero : NowS W [] [[]] := ⟨by simp, fun s => Iff.rfl⟩
theorem nowS_len (hv : ∀ w ∈ W, w.length ≤ 32) (hn : W.length ≤ 64) {u : Wd} {N : List Wd} (h : NowS W u N) : N.length ≤ 2113 :=
  Nat.le_trans (List.Nodup.length_le_of_subset h.nd fun s hs => suf_run (fun t ht => by rw [List.mem_singleton.1 ht]; exact sfx_mem.2 (.inl rfl)) ((h.mem s).1 hs)) (sfx_len hv hn)
theorem nowS_step {u : Wd} {l : UInt8} {N : List Wd} (h : NowS W u N) {o : List Nat} (ho : o.Perm (List.range N.length)) : NowS W (u ++ [l]) (addL [] (o.flatMap fun d => rst W (N.getD d []) l)) :=
  ⟨addL_nd List.nodup_nil, fun s => by
    rw [addL_mem, run_snoc]
    constructor
    · rintro (h1 | h1)
      · exact absurd h1 (by simp)
      · obtain ⟨d, hd, h2⟩ := List.mem_flatMap.1 h1
        refine List.mem_flatMap.2 ⟨N.getD d [], (h.mem _).1 ?_, h2⟩
        exact (perm_all ho).1 (List.mem_map.2 ⟨d, hd, rfl⟩)
    · intro h1
      obtain ⟨p, hp, h2⟩ := List.mem_flatMap.1 h1
      obtain ⟨d, hd, rfl⟩ := List.mem_map.1 ((perm_all (d := ([] : Wd)) ho).2 ((h.mem p).2 hp))
      exact .inr (List.mem_flatMap.2 ⟨d, hd, h2⟩)⟩
theorem fnd_over {i k : Nat} {F N : List Wd} (h : FndOK W i k F) (hne : k ≠ i) (h1 : W.getD k [] <+: W.getD i []) (hN : NowS W ((W.getD i []).drop (W.getD k []).length) N) {o : List Nat} (ho : o.Perm (List.range N.length)) : FndOK W i (k + 1) (addL F (o.map fun d => N.getD d [])) :=
  ⟨addL_nd h.nd, fun s => by
    rw [addL_mem, h.mem s, at_succ, perm_all ho, hN.mem s]
    obtain ⟨t, e⟩ := h1
    have e2 : (W.getD i []).drop (W.getD k []).length = t := by rw [← e, List.drop_left]
    rw [e2]
    conv => rhs; rw [← e, run_word]
    simp [hne]⟩
theorem fnd_len (hv : ∀ w ∈ W, w.length ≤ 32) (hn : W.length ≤ 64) {i k : Nat} (hk : k ≤ W.length) {F : List Wd} (h : FndOK W i k F) : F.length ≤ 2113 :=
  Nat.le_trans (List.Nodup.length_le_of_subset h.nd fun s hs => by
    obtain ⟨y, hy, _, h2⟩ := (h.mem s).1 hs
    exact suf_run (fun t ht => by rw [List.mem_singleton.1 ht]; exact sfx_mem.2 (.inr ⟨_, W_mem (show y < W.length by omega), List.suffix_refl _⟩)) h2) (sfx_len hv hn)
structure AtL (W : List Wd) (i : Nat) (L : List Rc) : Prop where
  nd : L.Nodup
  mem : ∀ p, p ∈ L ↔ p.1 = [] ∧ AtM W i p.2
theorem at_list {i : Nat} {F : List Wd} (h : FndOK W i W.length F) {o : List Nat} (ho : o.Perm (List.range F.length)) : AtL W i (o.map fun d => (([], F.getD d []) : Rc)) := by
  have e : (o.map fun d => (([], F.getD d []) : Rc)) = (o.map fun d => F.getD d []).map fun s => (([], s) : Rc) := by rw [List.map_map]; rfl
  rw [e]
  constructor
  · rw [List.nodup_iff_pairwise_ne, List.pairwise_map]
    exact (List.nodup_iff_pairwise_ne.1 (perm_nd h.nd ho)).imp fun hne e => hne (by injection e)
  · intro p
    rw [List.mem_map]
    constructor
    · rintro ⟨s, hs, rfl⟩
      exact ⟨rfl, (h.mem s).1 ((perm_all ho).1 hs)⟩
    · rintro ⟨h1, h2⟩
      exact ⟨p.2, (perm_all ho).2 ((h.mem _).2 h2), by rw [← h1]⟩
theorem at_len (hv : ∀ w ∈ W, w.length ≤ 32) (hn : W.length ≤ 64) {i : Nat} {L : List Rc} (h : AtL W i L) : L.length ≤ 2113 := by
  have := List.Nodup.length_le_of_subset (l₁ := L) (l₂ := (sufL W).map fun s => (([], s) : Rc)) h.nd fun p hp => by
    obtain ⟨h1, y, hy, _, h2⟩ := (h.mem p).1 hp
    exact List.mem_map.2 ⟨p.2, suf_run (fun t ht => by rw [List.mem_singleton.1 ht]; exact sfx_mem.2 (.inr ⟨_, W_mem hy, List.suffix_refl _⟩)) h2, by rw [← h1]⟩
  rw [List.length_map] at this
  exact Nat.le_trans this (sfx_len hv hn)
end
end Go.Proofs.Ytoafgeobhhlplaa
