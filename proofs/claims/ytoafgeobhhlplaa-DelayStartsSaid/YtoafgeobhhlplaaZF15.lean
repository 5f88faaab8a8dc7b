/- Parts of the proof: DB. -/
import Derived.Test.YtoafgeobhhlplaaZF14
namespace Go.Proofs.Ytoafgeobhhlplaa
set_option linter.unusedSimpArgs false
set_option linter.unusedVariables false
open Go Go.Lift
def cmn : Wd → Wd → Nat
  | a :: x, b :: y => if a = b then cmn x y + 1 else 0
  | _, _ => 0
theorem cmn_le : ∀ {x y : Wd}, cmn x y ≤ x.length ∧ cmn x y ≤ y.length
  | [], _ => by simp [cmn]
  | a :: x, [] => by simp [cmn]
  | a :: x, b :: y => by
    have := cmn_le (x := x) (y := y)
    unfold cmn
    split <;> simp <;> omega
theorem cmn_take : ∀ {x y : Wd}, x.take (cmn x y) = y.take (cmn x y)
  | [], _ => by simp [cmn]
  | a :: x, [] => by simp [cmn]
  | a :: x, b :: y => by
    unfold cmn
    by_cases h : a = b
    · rw [if_pos h, List.take_succ_cons, List.take_succ_cons, h, cmn_take]
    · rw [if_neg h]; rfl
theorem cmn_ge : ∀ {u x y : Wd}, u <+: x → u <+: y → u.length ≤ cmn x y
  | [], _, _, _, _ => Nat.zero_le _
  | l :: u, [], _, h, _ => by simp at h
  | l :: u, a :: x, [], _, h => by simp at h
  | l :: u, a :: x, b :: y, h1, h2 => by
    obtain ⟨rfl, h3⟩ := List.cons_prefix_cons.1 h1
    obtain ⟨rfl, h4⟩ := List.cons_prefix_cons.1 h2
    show (l :: u).length ≤ (if l = l then cmn x y + 1 else 0)
    rw [if_pos rfl]
    have := cmn_ge h3 h4
    simp; omega
theorem cmn_pre {x y : Wd} (h : x <+: y) : cmn x y = x.length ∧ cmn y x = x.length := by
  have h1 := cmn_ge (List.prefix_refl x) h
  have h2 := cmn_ge h (List.prefix_refl x)
  have h3 := cmn_le (x := x) (y := y)
  have h4 := cmn_le (x := y) (y := x)
  omega
theorem pre_drop {x r : Wd} (h : x <+: r) : x ++ r.drop x.length = r := by
  obtain ⟨t, rfl⟩ := h; simp
section
variable {W : List Wd}
def Fr (W : List Wd) (n : Nat) (r : Wd) : Prop := Gn W n [] r
theorem rd_split {x r u : Wd} (h : x <+: r) : rd W r (x ++ u) = rd W (r.drop x.length) u := by
  conv => lhs; rw [← pre_drop h]
  exact rd_app
theorem fr_in {r x : Wd} (hx : x ∈ W) {n : Nat} (h : x <+: r) (hf : Fr W n (r.drop x.length)) : Fr W (x.length + n) r := by
  obtain ⟨u, rfl, h1, h2⟩ := hf
  refine ⟨x ++ u, by simp, rd_of_word hx (by rw [rd_app0]; exact h1), by rw [rd_split h]; exact h2⟩
theorem fr_over {r x : Wd} (hx : x ∈ W) {n : Nat} (h : r <+: x) (hf : Fr W n (x.drop r.length)) : Fr W (r.length + n) r := by
  obtain ⟨u, rfl, h1, h2⟩ := hf
  refine ⟨r ++ u, by simp, rd_of_word hx (by rw [rd_split h]; exact h2), by rw [rd_app0]; exact h1⟩
theorem fr_off {r x : Wd} (hx : x ∈ W) : Fr W (cmn r x) r := by
  have h1 := cmn_le (x := r) (y := x)
  refine ⟨r.take (cmn r x), by rw [List.length_take]; omega, ?_, rd_pre.2 (.inl (List.take_prefix _ _))⟩
  rw [cmn_take]
  exact rd_of_word hx (rd_pre.2 (.inl (List.take_prefix _ _)))
theorem fr_cases (hW : ∀ x ∈ W, x ≠ []) {r : Wd} {n : Nat} (hn : 0 < n) (hf : Fr W n r) : ∃ x ∈ W, n ≤ cmn r x ∨ (x <+: r ∧ ∃ k, n = x.length + k ∧ Fr W k (r.drop x.length)) ∨ (r <+: x ∧ ¬ x <+: r ∧ ∃ k, n = r.length + k ∧ Fr W k (x.drop r.length)) := by
  obtain ⟨u, rfl, h1, h2⟩ := hf
  have hu : u ≠ [] := by intro h; subst h; simp at hn
  obtain ⟨x, hx, h3⟩ := (rd_first hW hu).1 h1
  refine ⟨x, hx, ?_⟩
  rcases rd_pre.1 h2 with h4 | ⟨h4, h5⟩ <;> rcases rd_pre.1 h3 with h6 | ⟨h6, h7⟩
  · exact .inl (cmn_ge h4 h6)
  · have h8 : x <+: r := List.IsPrefix.trans h6 h4
    refine .inr (.inl ⟨h8, u.length - x.length, ?_, u.drop x.length, by simp, h7, ?_⟩)
    · have := h6.length_le; omega
    · rw [← rd_split h8, pre_drop h6]; exact h2
  · by_cases h9 : x <+: r
    · have h10 : x = r := h9.eq_of_length_le (Nat.le_trans h4.length_le h6.length_le)
      subst h10
      exact .inr (.inl ⟨h9, u.length - x.length, by have := h4.length_le; omega, u.drop x.length, by simp, h5, by rw [← rd_split h9, pre_drop h4]; exact h2⟩)
    · have h8 : r <+: x := List.IsPrefix.trans h4 h6
      refine .inr (.inr ⟨h8, h9, u.length - r.length, by have := h4.length_le; omega, u.drop r.length, by simp, h5, ?_⟩)
      rw [← rd_split h8, pre_drop h4]; exact h3
  · by_cases h9 : x <+: r
    · exact .inr (.inl ⟨h9, u.length - x.length, by have := h6.length_le; omega, u.drop x.length, by simp, h7, by rw [← rd_split h9, pre_drop h6]; exact h2⟩)
    · have h8 : r <+: x := by
        rcases List.prefix_or_prefix_of_prefix h4 h6 with h | h
        · exact h
        · exact absurd h h9
      refine .inr (.inr ⟨h8, h9, u.length - r.length, by have := h4.length_le; omega, u.drop r.length, by simp, h5, ?_⟩)
      rw [← rd_split h8, pre_drop h4]; exact h3
def plS (l : List Wd) (s : Wd) : Int := if s ∈ l then (l.idxOf s : Int) else -1
theorem plS_mem {l : List Wd} {s : Wd} (h : s ∈ l) : plS l s = (l.idxOf s : Int) ∧ l.idxOf s < l.length ∧ l.getD (l.idxOf s) [] = s := by
  have h1 := List.idxOf_lt_length_of_mem h
  refine ⟨if_pos h, h1, ?_⟩
  rw [List.getD_eq_getElem?_getD, List.getElem?_eq_getElem h1]
  exact List.getElem_idxOf h1
def mK (l : List Wd) (now : List Nat) (r u : Wd) : Nat := cmn r u + if u <+: r then now.getD (l.idxOf (r.drop u.length)) 0 else if r <+: u then now.getD (l.idxOf (u.drop r.length)) 0 else 0
def mxA (l : List Wd) (now : List Nat) (r : Wd) (ws : List Wd) : Nat := ws.foldl (fun a u => max a (mK l now r u)) 0
theorem fold_max {f : Wd → Nat} : ∀ {ws : List Wd} {a n : Nat}, n ≤ ws.foldl (fun a u => max a (f u)) a ↔ n ≤ a ∨ ∃ u ∈ ws, n ≤ f u
  | [], a, n => by simp
  | w :: ws, a, n => by
    show n ≤ ws.foldl (fun a u => max a (f u)) (max a (f w)) ↔ _
    rw [fold_max]
    constructor
    · rintro (h | ⟨u, hu, h⟩)
      · rcases Nat.le_total a (f w) with h2 | h2
        · exact .inr ⟨w, List.mem_cons_self, by omega⟩
        · exact .inl (by omega)
      · exact .inr ⟨u, List.mem_cons_of_mem _ hu, h⟩
    · rintro (h | ⟨u, hu, h⟩)
      · exact .inl (by omega)
      · rcases List.mem_cons.1 hu with rfl | hu
        · exact .inl (by omega)
        · exact .inr ⟨u, hu, h⟩
theorem mxA_ge {l : List Wd} {now : List Nat} {r : Wd} {ws : List Wd} {n : Nat} : n ≤ mxA l now r ws ↔ n = 0 ∨ ∃ u ∈ ws, n ≤ mK l now r u := by
  unfold mxA; rw [fold_max]; simp
def nxN (W l : List Wd) (now : List Nat) : List Nat := l.map fun r => mxA l now r W
def itN (W l : List Wd) : Nat → List Nat
  | 0 => List.replicate l.length 0
  | k + 1 => nxN W l (itN W l k)
theorem nxN_len {l : List Wd} {now : List Nat} : (nxN W l now).length = l.length := by simp [nxN]
theorem itN_len {l : List Wd} : ∀ k, (itN W l k).length = l.length
  | 0 => by simp [itN]
  | k + 1 => nxN_len
theorem nxN_at {l : List Wd} {now : List Nat} {i : Nat} (h : i < l.length) : (nxN W l now).getD i 0 = mxA l now (l.getD i []) W := by simp [nxN, List.getD, h]
structure Clsd (W l : List Wd) : Prop where
  ne : [] ∉ l
  step : ∀ r ∈ l, ∀ u ∈ W, (u <+: r → r.drop u.length ∈ l) ∧ (¬ u <+: r → r <+: u → u.drop r.length ∈ l)
section
variable {l : List Wd} (hl : Clsd W l)
include hl
theorem mK_step {r u : Wd} (hr : r ∈ l) (hu : u ∈ W) {now : List Nat} {P : Nat → Wd → Prop} (h0 : ∀ i, i < l.length → P (now.getD i 0) (l.getD i [])) :
    (u <+: r ∧ ∃ k, mK l now r u = u.length + k ∧ P k (r.drop u.length)) ∨ (¬ u <+: r ∧ r <+: u ∧ ∃ k, mK l now r u = r.length + k ∧ P k (u.drop r.length)) ∨ (¬ u <+: r ∧ ¬ r <+: u ∧ mK l now r u = cmn r u) := by
  unfold mK
  by_cases h1 : u <+: r
  · rw [if_pos h1, (cmn_pre h1).2]
    obtain ⟨_, h2, h3⟩ := plS_mem ((hl.step r hr u hu).1 h1)
    have := h0 _ h2
    rw [h3] at this
    exact .inl ⟨h1, _, rfl, this⟩
  · rw [if_neg h1]
    by_cases h4 : r <+: u
    · rw [if_pos h4, (cmn_pre h4).1]
      obtain ⟨_, h2, h3⟩ := plS_mem ((hl.step r hr u hu).2 h1 h4)
      have := h0 _ h2
      rw [h3] at this
      exact .inr (.inl ⟨h1, h4, _, rfl, this⟩)
    · rw [if_neg h4]
      exact .inr (.inr ⟨h1, h4, Nat.add_zero _⟩)
theorem it_sound : ∀ k i, i < l.length → Fr W ((itN W l k).getD i 0) (l.getD i [])
  | 0, i, hi => by
    have : (itN W l 0).getD i 0 = 0 := by simp [itN, List.getD, hi]
    rw [this]; exact Gn_zero
  | k + 1, i, hi => by
    show Fr W ((nxN W l (itN W l k)).getD i 0) _
    rw [nxN_at hi]
    have hr : l.getD i [] ∈ l := by rw [List.getD_eq_getElem?_getD, List.getElem?_eq_getElem hi]; exact List.getElem_mem hi
    generalize l.getD i [] = r at hr
    rcases mxA_ge.1 (Nat.le_refl (mxA l (itN W l k) r W)) with h | ⟨u, hu, h⟩
    · rw [h]; exact Gn_zero
    · refine Gn_less h ?_
      rcases mK_step hl hr hu (now := itN W l k) (P := fun n r => Fr W n r) (fun i hi => it_sound k i hi) with ⟨h1, n, e, hf⟩ | ⟨h1, h2, n, e, hf⟩ | ⟨h1, h2, e⟩
      · rw [e]; exact fr_in hu h1 hf
      · rw [e]; exact fr_over hu h2 hf
      · rw [e]; exact fr_off hu
theorem fix_max (hW : ∀ x ∈ W, x ≠ []) {now : List Nat} (hfix : nxN W l now = now) : ∀ n i, i < l.length → Fr W n (l.getD i []) → n ≤ now.getD i 0 := by
  intro n
  induction n using Nat.strongRecOn with
  | ind n ih =>
    intro i hi hf
    rcases Nat.eq_zero_or_pos n with h0 | h0
    · omega
    · have hr : l.getD i [] ∈ l := by rw [List.getD_eq_getElem?_getD, List.getElem?_eq_getElem hi]; exact List.getElem_mem hi
      rw [← hfix, nxN_at hi]
      generalize l.getD i [] = r at hr hf
      obtain ⟨x, hx, h⟩ := fr_cases hW h0 hf
      have hxp : 0 < x.length := List.length_pos_iff.2 (hW x hx)
      have hrp : 0 < r.length := List.length_pos_iff.2 (fun e => hl.ne (e ▸ hr))
      refine mxA_ge.2 (.inr ⟨x, hx, ?_⟩)
      rcases h with h | ⟨h1, k, e, h2⟩ | ⟨h1, h3, k, e, h2⟩
      · exact Nat.le_trans h (Nat.le_add_right _ _)
      · unfold mK
        rw [if_pos h1, (cmn_pre h1).2]
        obtain ⟨_, h4, h5⟩ := plS_mem ((hl.step r hr x hx).1 h1)
        have := ih k (by omega) _ h4 (by rw [h5]; exact h2)
        omega
      · unfold mK
        rw [if_neg h3, if_pos h1, (cmn_pre h1).1]
        obtain ⟨_, h4, h5⟩ := plS_mem ((hl.step r hr x hx).2 h3 h1)
        have := ih k (by omega) _ h4 (by rw [h5]; exact h2)
        omega
theorem it_stop (hW : ∀ x ∈ W, x ≠ []) (H : Wd → Nat) (hH : ∀ r ∈ l, Fr W (H r) r ∧ ∀ n, Fr W n r → n ≤ H r) : ∃ k, k ≤ l.length ∧ itN W l (k + 1) = itN W l k := by
  -- what is less than a number
  have key : ∀ k i, i < l.length → ((l.filter fun r => decide (H r < H (l.getD i []))).length < k → (itN W l k).getD i 0 = H (l.getD i [])) := by
    intro k
    induction k with
    | zero => intro i hi h; omega
    | succ k ih =>
      intro i hi h
      show (nxN W l (itN W l k)).getD i 0 = _
      rw [nxN_at hi]
      have hr : l.getD i [] ∈ l := by rw [List.getD_eq_getElem?_getD, List.getElem?_eq_getElem hi]; exact List.getElem_mem hi
      have hs := it_sound hl (k + 1) i hi
      have hs2 : Fr W (mxA l (itN W l k) (l.getD i []) W) (l.getD i []) := by
        have : (itN W l (k + 1)).getD i 0 = mxA l (itN W l k) (l.getD i []) W := nxN_at hi
        rwa [this] at hs
      refine Nat.le_antisymm ((hH _ hr).2 _ hs2) ?_
      rcases Nat.eq_zero_or_pos (H (l.getD i [])) with h0 | h0
      · omega
      generalize hre : l.getD i [] = r at hr h h0
      -- a step down
      have down : ∀ t ∈ l, H t < H r → (itN W l k).getD (l.idxOf t) 0 = H t := by
        intro t ht hlt
        obtain ⟨_, h4, h5⟩ := plS_mem ht
        have h6 := ih (l.idxOf t) h4
        rw [h5] at h6
        refine h6 (Nat.lt_of_lt_of_le ?_ (Nat.le_of_lt_succ h))
        have h7 : (l.filter fun s => decide (H s < H t)).Sublist (l.filter fun s => decide (H s < H r)) := by
          have : (l.filter fun s => decide (H s < H t)) = (l.filter fun s => decide (H s < H r)).filter fun s => decide (H s < H t) := by
            rw [List.filter_filter]
            refine List.filter_congr fun s _ => ?_
            by_cases h8 : H s < H t
            · have : H s < H r := by omega
              simp [h8, this]
            · simp [h8]
          rw [this]; exact List.filter_sublist
        refine Nat.lt_of_le_of_ne h7.length_le fun e => ?_
        have h8 := h7.eq_of_length e
        have h9 : t ∈ l.filter fun s => decide (H s < H r) := List.mem_filter.2 ⟨ht, decide_eq_true hlt⟩
        rw [← h8] at h9
        have := (List.mem_filter.1 h9).2
        simp at this
      obtain ⟨x, hx, h⟩ := fr_cases hW h0 (hH r hr).1
      have hxp : 0 < x.length := List.length_pos_iff.2 (hW x hx)
      have hrp : 0 < r.length := List.length_pos_iff.2 (fun e => hl.ne (e ▸ hr))
      refine mxA_ge.2 (.inr ⟨x, hx, ?_⟩)
      rcases h with h | ⟨h1, n, e, h2⟩ | ⟨h1, h3, n, e, h2⟩
      · exact Nat.le_trans h (Nat.le_add_right _ _)
      · unfold mK
        have ht := (hl.step r hr x hx).1 h1
        have h4 := (hH _ ht).2 _ h2
        have h5 := (hH r hr).2 _ (fr_in hx h1 (hH _ ht).1)
        rw [if_pos h1, (cmn_pre h1).2, down _ ht (by omega)]
        omega
      · unfold mK
        have ht := (hl.step r hr x hx).2 h3 h1
        have h4 := (hH _ ht).2 _ h2
        have h5 := (hH r hr).2 _ (fr_over hx h1 (hH _ ht).1)
        rw [if_neg h3, if_pos h1, (cmn_pre h1).1, down _ ht (by omega)]
        omega
  refine ⟨l.length, Nat.le_refl _, ?_⟩
  have hall : ∀ k, l.length ≤ k → ∀ i, i < l.length → (itN W l k).getD i 0 = H (l.getD i []) := by
    intro k hk i hi
    refine key k i hi (Nat.lt_of_lt_of_le ?_ hk)
    have hr : l.getD i [] ∈ l := by rw [List.getD_eq_getElem?_getD, List.getElem?_eq_getElem hi]; exact List.getElem_mem hi
    refine Nat.lt_of_le_of_ne (List.length_filter_le _ _) fun e => ?_
    have h8 := List.filter_sublist.eq_of_length e
    have h9 : l.getD i [] ∈ l.filter fun r => decide (H r < H (l.getD i [])) := by rw [h8]; exact hr
    have := (List.mem_filter.1 h9).2
    simp at this
  apply List.ext_getElem (by rw [itN_len, itN_len])
  intro i h1 h2
  rw [itN_len] at h1
  have a := hall (l.length + 1) (by omega) i h1
  have b := hall l.length (Nat.le_refl _) i h1
  rw [List.getD_eq_getElem?_getD, List.getElem?_eq_getElem (by rw [itN_len]; exact h1)] at a b
  simp only [Option.getD_some] at a b
  rw [a, b]
end
end
end Go.Proofs.Ytoafgeobhhlplaa
