/-
  Plain laws of this seat: the merged encoder is valid, has as many states as there are classes, and the same words.
-/
import Derived.Test.YtmjkbidnghcfnaaPD
namespace Go.Proofs.Ytmjkbidnghcfnaa
set_option linter.unusedSimpArgs false
set_option linter.unusedVariables false
open Go Go.Lift

theorem cntGo_app : ∀ (a b : List Int) (c : Int), cntGo c (a ++ b) = cntGo (cntGo c a) b
  | [], _, _ => rfl
  | x :: r, b, c => by simp only [List.cons_append, cntGo]; exact cntGo_app r b _
theorem RG_app : ∀ (a b : List Int) (c : Int), RG c (a ++ b) → RG c a ∧ RG (cntGo c a) b
  | [], _, _, h => ⟨trivial, h⟩
  | x :: r, b, c, h => by
    simp only [List.cons_append, RG] at h
    have := RG_app r b _ h.2.2
    exact ⟨⟨h.1, h.2.1, this.1⟩, this.2⟩
theorem RG_at {l : List Int} {k : Nat} (h : RG 0 l) (hk : k < l.length) : 0 ≤ l.getD k 0 ∧ l.getD k 0 ≤ cntGo 0 (l.take k) ∧ cntGo 0 (l.take (k + 1)) = if l.getD k 0 = cntGo 0 (l.take k) then cntGo 0 (l.take k) + 1 else cntGo 0 (l.take k) := by
  have hg : l.getD k 0 = l[k] := by simp [List.getD, hk]
  have h1 : RG 0 (l.take k ++ l[k] :: l.drop (k + 1)) := by rw [← List.drop_eq_getElem_cons hk, List.take_append_drop]; exact h
  have h2 := (RG_app _ _ _ h1).2
  simp only [RG] at h2
  rw [hg]
  refine ⟨h2.1, h2.2.1, ?_⟩
  rw [List.take_add_one, cntGo_app, List.getElem?_eq_getElem hk]
  rfl
theorem cntGo_take {l : List Int} {k : Nat} : 0 ≤ cntGo 0 (l.take k) ∧ cntGo 0 (l.take k) ≤ l.length := by
  have h1 := cntGo_ge (l.take k) 0
  have h2 := cntGo_le (l.take k) 0
  rw [List.length_take] at h2
  omega
theorem RG_zero {l : List Int} (h : RG 0 l) (hk : 0 < l.length) : l.getD 0 0 = 0 := by
  have := RG_at h hk
  simp only [List.take_zero, cntGo] at this
  omega
theorem RG_take {l : List Int} (h : RG 0 l) (k : Nat) : RG 0 (l.take k) := by
  have : RG 0 (l.take k ++ l.drop k) := by rw [List.take_append_drop]; exact h
  exact (RG_app _ _ _ this).1
theorem cntGo_occ : ∀ (l : List Int) (c : Int), RG c l → ∀ v, c ≤ v → v < cntGo c l → v ∈ l
  | [], c, _, v, h1, h2 => by simp only [cntGo] at h2; omega
  | x :: r, c, h, v, h1, h2 => by
    obtain ⟨g1, g2, g3⟩ := h
    simp only [cntGo] at h2
    by_cases hx : x = c
    · rw [if_pos hx] at g3 h2
      by_cases hv : v = c
      · rw [hv, ← hx]; exact List.mem_cons_self
      · exact List.mem_cons_of_mem _ (cntGo_occ r _ g3 v (by omega) h2)
    · rw [if_neg hx] at g3 h2
      exact List.mem_cons_of_mem _ (cntGo_occ r _ g3 v h1 h2)

theorem mrows_cnt {e : Enc} {cl : List Int} (h : RG 0 cl) : ∀ s, s ≤ cl.length → ((mrowsAt e cl s).length : Int) = cntGo 0 (cl.take s)
  | 0, _ => by simp [cntGo]
  | s + 1, hs => by
    have ih := mrows_cnt (e := e) h s (by omega)
    obtain ⟨h1, h2, h3⟩ := RG_at h (show s < cl.length by omega)
    rw [mrowsAt_succ, h3]
    unfold mstep
    split
    · rw [if_neg (by omega), ih]
    · rw [if_pos (by omega), ← ih]; simp
theorem mrows_mem {e : Enc} {cl : List Int} : ∀ s, s ≤ e.rows.length → ∀ r ∈ mrowsAt e cl s, ∃ t, t < e.rows.length ∧ r = mrow e cl t
  | 0, _, r, hr => by simp at hr
  | s + 1, hs, r, hr => by
    rw [mrowsAt_succ] at hr
    unfold mstep at hr
    split at hr
    · exact mrows_mem s (by omega) r hr
    · simp only [List.mem_append, List.mem_singleton] at hr
      rcases hr with hr | hr
      · exact mrows_mem s (by omega) r hr
      · exact ⟨s, by omega, hr⟩
theorem cnt_full {l : List Int} : cntGo 0 (l.take l.length) = cnt l := by rw [List.take_length]; rfl

theorem firstNZ_of {α : Type} {f : α → Int} : ∀ {l : List α}, (∀ x ∈ l, f x = 0) → firstNZ f l = 0
  | [], _ => rfl
  | x :: r, h => by
    have hx := h x List.mem_cons_self
    simp only [firstNZ, hx, if_true]
    exact firstNZ_of fun y hy => h y (List.mem_cons_of_mem _ hy)

section
variable {e : Enc}
theorem merge_rows (hv : checkE e = 0) : ((mergeE e).rows.length : Int) = cnt (classesE e) := by
  obtain ⟨h1, h2⟩ := classesE_ok hv
  rw [mergeE_rows, ← h1, mrows_cnt h2 _ (Nat.le_refl _), cnt_full]
theorem cnt_pos (hv : checkE e = 0) : 0 < cnt (classesE e) := by
  obtain ⟨h1, h2⟩ := classesE_ok hv
  have h3 := (checkE_valid hv).2.1
  have := RG_lt _ _ h2 _ (getD_mem (d := 0) (show 0 < (classesE e).length by omega))
  have e1 : cntGo 0 (classesE e) = cnt (classesE e) := rfl
  omega
theorem cls_lt (hv : checkE e = 0) {s : Nat} (hs : s < e.rows.length) : 0 ≤ (classesE e).getD s 0 ∧ (classesE e).getD s 0 < cnt (classesE e) := by
  obtain ⟨h1, h2⟩ := classesE_ok hv
  exact RG_lt _ _ h2 _ (getD_mem (d := 0) (by omega))
theorem merge_valid (hv : checkE e = 0) : checkE (mergeE e) = 0 := by
  obtain ⟨hd, hp, hl, hr⟩ := checkE_valid hv
  have hm := merge_rows hv
  have hc := cnt_pos hv
  have hle := cnt_le_len (l := classesE e)
  have h1 := (classesE_ok hv).1
  rw [checkE_rows (e := mergeE e) ⟨hd.letters, hd.block, hd.inputs⟩ (by omega) (by omega)]
  refine firstNZ_of fun r hr' => ?_
  obtain ⟨t, ht, rfl⟩ := mrows_mem _ (Nat.le_refl _) _ hr'
  unfold rowCheck
  rw [mergeE_inputs, if_neg (by rw [mrow_len]; have := row_eq hv ht; omega)]
  refine firstNZ_of fun c hc' => ?_
  obtain ⟨c0, hc0, rfl⟩ := List.mem_map.1 hc'
  have h4 := (rowCheck_valid (hr _ (getD_mem ht))).2 c0 hc0
  unfold cellCheck at h4 ⊢
  split at h4
  · cases h4
  · split at h4
    · cases h4
    · rename_i g1 g2
      have h5 := cls_lt hv (s := c0.to.toNat) (by omega)
      rw [if_neg (by simp only [mcell]; omega), if_neg (by rw [mergeE_block, mergeE_letters]; simpa only [mcell] using g2)]

theorem alPut_known {m : List (List UInt8 × Bool)} {k : List UInt8} (h : alGet m k = some true) : alPut m k true = m := by
  induction m with
  | nil => simp [alGet] at h
  | cons p m ih =>
    obtain ⟨a, b⟩ := p
    simp only [alGet] at h
    by_cases hk : k = a
    · simp only [if_pos hk, Option.some.injEq] at h
      simp [alPut, hk, h]
    · simp only [if_neg hk] at h
      simp [alPut, hk, ih h]
theorem alGet_put {m : List (List UInt8 × Bool)} {k a : List UInt8} (h : alGet m a = some true ∨ a = k) : alGet (alPut m k true) a = some true := by
  induction m with
  | nil =>
    rcases h with h | h
    · simp [alGet] at h
    · simp [alPut, alGet, h]
  | cons p m ih =>
    obtain ⟨b, v⟩ := p
    simp only [alPut]
    by_cases hk : k = b
    · simp only [if_pos hk, alGet]
      by_cases ha : a = k
      · simp [ha]
      · have h2 := h.resolve_right ha
        simp only [alGet, if_neg (show a ≠ b from fun e => ha (e.trans hk.symm))] at h2
        simp [ha, h2]
    · simp only [if_neg hk, alGet]
      by_cases ha : a = b
      · rcases h with h | h
        · simpa [alGet, ha] using h
        · exact absurd (h.symm.trans ha) hk
      · simp only [if_neg ha]
        refine ih ?_
        rcases h with h | h
        · simp only [alGet, if_neg ha] at h; exact .inl h
        · exact .inr h
theorem putWords_get : ∀ (l : List Cell) (m : List (List UInt8 × Bool)) (a : List UInt8), alGet m a = some true ∨ a ∈ l.map Cell.word → alGet (putWords m l) a = some true
  | [], m, a, h => by simpa [putWords] using h
  | c :: r, m, a, h => by
    simp only [putWords, List.foldl_cons]
    refine putWords_get r _ a ?_
    simp only [List.map_cons, List.mem_cons] at h
    rcases h with h | h | h
    · exact .inl (alGet_put (.inl h))
    · exact .inl (alGet_put (.inr h))
    · exact .inr h
theorem putRows_get : ∀ (l : List (List Cell)) (m : List (List UInt8 × Bool)) (a : List UInt8), (alGet m a = some true ∨ ∃ r ∈ l, a ∈ r.map Cell.word) → alGet (putRows m l) a = some true
  | [], m, a, h => by simpa [putRows] using h
  | c :: r, m, a, h => by
    simp only [putRows, List.foldl_cons]
    refine putRows_get r _ a ?_
    rcases h with h | ⟨x, hx, h⟩
    · exact .inl (putWords_get _ _ _ (.inl h))
    · cases hx with
      | head => exact .inl (putWords_get _ _ _ (.inr h))
      | tail _ hx => exact .inr ⟨x, hx, h⟩
theorem putWords_known : ∀ (l : List Cell) (m : List (List UInt8 × Bool)), (∀ a ∈ l.map Cell.word, alGet m a = some true) → putWords m l = m
  | [], m, _ => rfl
  | c :: r, m, h => by
    simp only [putWords, List.foldl_cons]
    rw [alPut_known (h c.word (by simp))]
    exact putWords_known r m fun a ha => h a (by simp only [List.map_cons, List.mem_cons]; exact .inr ha)
theorem putWords_map {cl : List Int} : ∀ (l : List Cell) (m : List (List UInt8 × Bool)), putWords m (l.map (mcell cl)) = putWords m l
  | [], _ => rfl
  | c :: r, m => by simp only [List.map_cons, putWords, List.foldl_cons]; exact putWords_map r _
theorem words_same {cl : List Int} (hv : checkE e = 0) (hst : Stable e cl) {s t : Nat} (hs : s < e.rows.length) (ht : t < e.rows.length) (h : cl.getD s 0 = cl.getD t 0) : (e.rows.getD s []).map Cell.word = (e.rows.getD t []).map Cell.word := by
  have h1 := row_eq hv hs
  have h2 := row_eq hv ht
  apply eq_of_getD (d := [])
  · simp only [List.length_map]; omega
  · intro j hj
    have hj' : j < (e.rows.getD s []).length := by simpa using hj
    have h3 := (stable_same hst hs ht (i := j) (by omega) h).1
    unfold cellAt at h3
    have g : ∀ r : List Cell, j < r.length → (r.map Cell.word).getD j [] = (r.getD j dc).word := fun r hr => by
      simp only [List.getD_eq_getElem?_getD, List.getElem?_map]
      rw [List.getElem?_eq_getElem hr]
      rfl
    rw [g _ hj', g _ (by omega)]
    exact h3
theorem mrows_words {cl : List Int} (hv : checkE e = 0) (hst : Stable e cl) : ∀ s, s ≤ e.rows.length → putRows [] (mrowsAt e cl s) = putRows [] (e.rows.take s)
  | 0, _ => by simp
  | s + 1, hs => by
    have ih := mrows_words hv hst s (by omega)
    have hl := hst.len
    have hcnt := mrows_cnt (e := e) hst.rg s (by omega)
    rw [mrowsAt_succ, putRows_succ (show s < e.rows.length by omega)]
    unfold mstep
    split
    · rename_i hlt
      rw [ih]
      rw [hcnt] at hlt
      have hmem := cntGo_occ _ _ (RG_take hst.rg s) _ (RG_at hst.rg (show s < cl.length by omega)).1 hlt
      obtain ⟨t, ht, hte⟩ := List.mem_iff_getElem.1 hmem
      have ht' : t < s := by simp at ht; omega
      have hte' : cl.getD s 0 = cl.getD t 0 := by
        rw [← hte]
        simp [List.getD, show t < cl.length by omega]
      have hw := words_same hv hst (show s < e.rows.length by omega) (show t < e.rows.length by omega) hte'
      symm
      refine putWords_known _ _ fun a ha => ?_
      rw [hw] at ha
      refine putRows_get _ _ _ (.inr ⟨e.rows.getD t [], ?_, ha⟩)
      have : e.rows.getD t [] = (e.rows.take s)[t]'(by simp; omega) := by simp [List.getD, show t < e.rows.length by omega]
      rw [this]
      exact List.getElem_mem _
    · have : putRows [] (mrowsAt e cl s ++ [mrow e cl s]) = putWords (putRows [] (mrowsAt e cl s)) (mrow e cl s) := by simp [putRows]
      rw [this, ih]
      exact putWords_map _ _
theorem merge_words (hv : checkE e = 0) : putRows [] (mergeE e).rows = putRows [] e.rows := by
  rw [mergeE_rows, mrows_words hv (classes_stable (checkE_valid hv).2.1) _ (Nat.le_refl _), List.take_length]

theorem alPut_len (m : List (List UInt8 × Bool)) (k : List UInt8) (b : Bool) : (alPut m k b).length ≤ m.length + 1 := by
  induction m with
  | nil => simp [alPut]
  | cons p m ih =>
    obtain ⟨a, v⟩ := p
    simp only [alPut]
    split <;> simp only [List.length_cons] <;> omega
theorem putWords_len : ∀ (l : List Cell) (m : List (List UInt8 × Bool)), (putWords m l).length ≤ m.length + l.length
  | [], m => Nat.le_refl _
  | c :: r, m => by
    have h1 := alPut_len m c.word true
    have h2 := putWords_len r (alPut m c.word true)
    simp only [putWords, List.foldl_cons, List.length_cons] at h2 ⊢
    omega
theorem putRows_len {n : Nat} : ∀ (l : List (List Cell)) (m : List (List UInt8 × Bool)), (∀ r ∈ l, r.length = n) → (putRows m l).length ≤ m.length + l.length * n
  | [], m, _ => by simp [putRows]
  | c :: r, m, h => by
    have h1 := putWords_len c m
    have h2 := putRows_len r (putWords m c) fun x hx => h x (List.mem_cons_of_mem _ hx)
    have h3 := h c List.mem_cons_self
    simp only [putRows, List.foldl_cons, List.length_cons] at h2 ⊢
    rw [Nat.add_mul]
    omega
theorem words_le (hv : checkE e = 0) : ((putRows [] e.rows).length : Int) ≤ (e.rows.length : Int) * e.inputs := by
  obtain ⟨hd, hp, hl, hr⟩ := checkE_valid hv
  have h1 := putRows_len (n := e.inputs.toNat) e.rows [] fun r hr' => by have := (rowCheck_valid (hr r hr')).1; omega
  have h2 : e.inputs = ((e.inputs.toNat : Nat) : Int) := by have := hd.inputs; omega
  rw [h2]
  simp only [List.length_nil, Nat.zero_add] at h1
  exact_mod_cast h1
end
end Go.Proofs.Ytmjkbidnghcfnaa
