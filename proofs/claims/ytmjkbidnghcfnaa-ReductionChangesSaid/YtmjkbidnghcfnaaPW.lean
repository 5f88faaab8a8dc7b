/-
  Plain: the list that Same finds tells two states apart, and no shorter one does; states are in one class if none does.
-/
import Derived.Test.YtmjkbidnghcfnaaPV
namespace Go.Proofs.Ytmjkbidnghcfnaa
set_option linter.unusedVariables false
open Go Go.Lift

section
variable {e : Enc}
/-- the pair behind a list of inputs. -/
def pairA (e : Enc) (s t : Int) (u : List Int) : Pr := ⟨(runE e s u).2, (runE e t u).2⟩
abbrev Good (e : Enc) (u : List Int) : Prop := ∀ i ∈ u, badI e i = false
abbrev Diff (e : Enc) (s t : Int) (u : List Int) : Prop := (runE e s u).1 ≠ (runE e t u).1

/-- somewhere along u the words differ. -/
def MisAt (e : Enc) (s t : Int) (u : List Int) : Prop := ∃ v c w, u = v ++ c :: w ∧ (cellAt e (pairA e s t v).s.toNat c.toNat).word ≠ (cellAt e (pairA e s t v).t.toNat c.toNat).word
theorem split_last {v : List Int} (h : v ≠ []) : ∃ u c, v = u ++ [c] := ⟨v.dropLast, v.getLast h, (List.dropLast_concat_getLast h).symm⟩
theorem diff_at : ∀ {u : List Int} {s t : Int}, Diff e s t u → MisAt e s t u
  | [], s, t, h => absurd rfl h
  | i :: r, s, t, h => by
    by_cases h1 : (cellAt e s.toNat i.toNat).word = (cellAt e t.toNat i.toNat).word
    · have h2 : Diff e (cellAt e s.toNat i.toNat).to (cellAt e t.toNat i.toNat).to r := fun h3 => h (by simp only [runE]; rw [h1, h3])
      obtain ⟨v, c, w, e1, e2⟩ := diff_at h2
      exact ⟨i :: v, c, w, by rw [e1]; rfl, e2⟩
    · exact ⟨[], i, r, rfl, h1⟩

/-- whatever is found is the pair behind its list, and the words of its list are the same. -/
structure Path (e : Enc) (s t : Int) (x : Fnd) : Prop where
  pr : x.pr = pairA e s t x.list
  same : (runE e s x.list).1 = (runE e t x.list).1
  good : Good e x.list
theorem path_next {s t : Int} {x : Fnd} (h : Path e s t x) {i : Nat} (hi : i < e.inputs.toNat) (hw : (cellAt e x.pr.s.toNat i).word = (cellAt e x.pr.t.toNat i).word) : Path e s t (nextF e e x i) := by
  have h1 := h.pr
  unfold pairA at h1
  refine ⟨?_, ?_, fun y hy => ?_⟩
  · show (⟨_, _⟩ : Pr) = ⟨(runE e s (x.list ++ [(i : Int)])).2, (runE e t (x.list ++ [(i : Int)])).2⟩
    rw [runE_snoc, runE_snoc, h1]
    rfl
  · show (runE e s (x.list ++ [(i : Int)])).1 = (runE e t (x.list ++ [(i : Int)])).1
    rw [runE_snoc, runE_snoc, h.same]
    rw [h1] at hw
    simp only [Int.toNat_natCast]
    rw [hw]
  · rcases List.mem_append.1 hy with h2 | h2
    · exact h.good y h2
    · have : y = (i : Int) := by simpa using h2
      rw [this]; exact bad_no.2 ⟨by omega, by omega⟩
theorem path_all {s t : Int} : ∀ k, (∀ j, j < k → j < (fAt e e s t k).length → NoMis e e ((fAt e e s t k).getD j dfn).pr e.inputs.toNat) → ∀ x ∈ fAt e e s t k, Path e s t x
  | 0, _, x, hx => by
    have : x = ⟨⟨s, t⟩, []⟩ := by simpa [fAt] using hx
    rw [this]
    exact ⟨rfl, rfl, fun y hy => by cases hy⟩
  | k + 1, h, x, hx => by
    have hp := fAt_pre (a := e) (b := e) (s := s) (t := t) k
    have ih := path_all k (fun j hj hl => by
      have := h j (by omega) (Nat.lt_of_lt_of_le hl hp.length_le)
      rwa [preF hp hl] at this)
    by_cases hk : k < (fAt e e s t k).length
    · have hX := ih _ (getD_mem (d := dfn) hk)
      have hno := h k (Nat.lt_succ_self _) (Nat.lt_of_lt_of_le hk hp.length_le)
      rw [preF hp hk] at hno
      rw [fAt_step hk] at hx
      have : ∀ i, i ≤ e.inputs.toNat → ∀ x ∈ fRow e e (fAt e e s t k) ((fAt e e s t k).getD k dfn) i, Path e s t x := fun i => by
        induction i with
        | zero => intro _ x hx; exact ih x hx
        | succ i ihi =>
          intro hi x hx
          unfold fRow fStep at hx
          split at hx
          · exact ihi (by omega) x hx
          · rcases List.mem_append.1 hx with h1 | h1
            · exact ihi (by omega) x h1
            · have : x = nextF e e ((fAt e e s t k).getD k dfn) i := by simpa using h1
              rw [this]
              exact path_next hX (by omega) (hno i (by omega))
      exact this _ (Nat.le_refl _) x hx
    · have : fAt e e s t (k + 1) = fAt e e s t k := if_neg hk
      rw [this] at hx
      exact ih x hx

/-- what is found comes in the order of the lengths of its lists. -/
structure Lvl (F : List Fnd) (k : Nat) : Prop where
  asc : ∀ i j, i ≤ j → j < F.length → (F.getD i dfn).list.length ≤ (F.getD j dfn).list.length
  top : k < F.length → ∀ z ∈ F, z.list.length ≤ (F.getD k dfn).list.length + 1
theorem lvl_row {F : List Fnd} {k : Nat} (h : Lvl F k) (hk : k < F.length) {a b : Enc} : ∀ i, (∀ p q, p ≤ q → q < (fRow a b F (F.getD k dfn) i).length → ((fRow a b F (F.getD k dfn) i).getD p dfn).list.length ≤ ((fRow a b F (F.getD k dfn) i).getD q dfn).list.length) ∧
    ∀ z ∈ fRow a b F (F.getD k dfn) i, z.list.length ≤ (F.getD k dfn).list.length + 1
  | 0 => ⟨h.asc, h.top hk⟩
  | i + 1 => by
    obtain ⟨h1, h2⟩ := lvl_row h hk (a := a) (b := b) i
    unfold fRow fStep
    split
    · exact ⟨h1, h2⟩
    · have hl : (nextF a b (F.getD k dfn) i).list.length = (F.getD k dfn).list.length + 1 := by
        show (_ ++ _ : List Int).length = _
        simp
      refine ⟨fun p q hpq hq => ?_, fun z hz => ?_⟩
      · rw [List.length_append, List.length_singleton] at hq
        rw [getD_app, getD_app]
        by_cases hq2 : q < (fRow a b F (F.getD k dfn) i).length
        · rw [if_pos (by omega), if_pos hq2]; exact h1 p q hpq hq2
        · rw [if_neg hq2]
          have e1 : q - (fRow a b F (F.getD k dfn) i).length = 0 := by omega
          rw [e1]
          by_cases hp2 : p < (fRow a b F (F.getD k dfn) i).length
          · rw [if_pos hp2]
            show _ ≤ (nextF a b (F.getD k dfn) i).list.length
            rw [hl]
            exact h2 _ (getD_mem hp2)
          · rw [if_neg hp2]
            have e2 : p - (fRow a b F (F.getD k dfn) i).length = 0 := by omega
            rw [e2]; exact Nat.le_refl _
      · rcases List.mem_append.1 hz with h3 | h3
        · exact h2 z h3
        · have : z = nextF a b (F.getD k dfn) i := by simpa using h3
          rw [this, hl]; exact Nat.le_refl _
theorem lvl {a b : Enc} {s t : Int} : ∀ k, Lvl (fAt a b s t k) k
  | 0 => by
    refine ⟨fun i j hij hj => ?_, fun _ z hz => ?_⟩
    · have hj' : j = 0 := by simpa [fAt] using hj
      have hi' : i = 0 := by omega
      rw [hi', hj']; exact Nat.le_refl _
    · have : z = ⟨⟨s, t⟩, []⟩ := by simpa [fAt] using hz
      rw [this]; simp
  | k + 1 => by
    have ih := lvl (a := a) (b := b) (s := s) (t := t) k
    by_cases hk : k < (fAt a b s t k).length
    · obtain ⟨h1, h2⟩ := lvl_row ih hk (a := a) (b := b) a.inputs.toNat
      rw [fAt_step hk]
      refine ⟨h1, fun hl z hz => ?_⟩
      have h3 := h2 z hz
      have h4 := h1 k (k + 1) (Nat.le_succ _) hl
      rw [preF (fRow_pre _) hk] at h4
      omega
    · have : fAt a b s t (k + 1) = fAt a b s t k := if_neg hk
      rw [this]
      exact ⟨ih.asc, fun hl => absurd hl (by omega)⟩
theorem fRow_has {a b : Enc} {F : List Fnd} {x : Fnd} : ∀ i c, c < i → nextP a b x.pr c ∈ (fRow a b F x i).map Fnd.pr
  | 0, c, hc => absurd hc (Nat.not_lt_zero _)
  | i + 1, c, hc => by
    have hsub : ∀ p, p ∈ (fRow a b F x i).map Fnd.pr → p ∈ (fRow a b F x (i + 1)).map Fnd.pr := fun p hp => by
      obtain ⟨z, hz, rfl⟩ := List.mem_map.1 hp
      exact List.mem_map.2 ⟨z, (fStep_pre (F := fRow a b F x i)).subset hz, rfl⟩
    rcases Nat.lt_succ_iff_lt_or_eq.1 hc with h1 | h1
    · exact hsub _ (fRow_has i c h1)
    · subst h1
      by_cases hm : nextP a b x.pr c ∈ (fRow a b F x c).map Fnd.pr
      · exact hsub _ hm
      · show nextP a b x.pr c ∈ (fStep _ _).map Fnd.pr
        unfold fStep
        rw [if_neg (show ¬ (nextF a b x c).pr ∈ _ from hm), List.map_append]
        exact List.mem_append_right _ (List.mem_singleton.2 rfl)
/-- where a pair goes to is found when it is gone through. -/
theorem fAt_has {a b : Enc} {s t : Int} {k j c : Nat} (hj : j < (fAt a b s t k).length) (hjk : j < k) (hc : c < a.inputs.toNat) :
    ∃ m, m < (fAt a b s t k).length ∧ ((fAt a b s t k).getD m dfn).pr = nextP a b ((fAt a b s t k).getD j dfn).pr c ∧ ((fAt a b s t k).getD m dfn).list.length ≤ ((fAt a b s t k).getD j dfn).list.length + 1 := by
  have hjj : j < (fAt a b s t j).length := by
    rcases Nat.lt_or_ge j (fAt a b s t j).length with h | h
    · exact h
    · have := fAt_stay h (k - j)
      rw [show j + (k - j) = k by omega] at this
      rw [this] at hj; omega
  have hp := fAt_pres (a := a) (b := b) (s := s) (t := t) j (k - j)
  rw [show j + (k - j) = k by omega] at hp
  have hp1 := fAt_pres (a := a) (b := b) (s := s) (t := t) (j + 1) (k - (j + 1))
  rw [show j + 1 + (k - (j + 1)) = k by omega] at hp1
  have hX := preF hp hjj
  have hm := fRow_has (a := a) (b := b) (F := fAt a b s t j) (x := (fAt a b s t j).getD j dfn) a.inputs.toNat c hc
  rw [← fAt_step hjj] at hm
  obtain ⟨z, hz, he⟩ := List.mem_map.1 hm
  have hlen := (lvl_row (lvl j) hjj (a := a) (b := b) a.inputs.toNat).2
  rw [← fAt_step hjj] at hlen
  obtain ⟨m, hml, hme⟩ := List.mem_iff_getElem.1 hz
  refine ⟨m, Nat.lt_of_lt_of_le hml hp1.length_le, ?_, ?_⟩
  · rw [preF hp1 hml, hX, getD_get hml, hme]; exact he
  · rw [preF hp1 hml, hX, getD_get hml, hme]; exact hlen z hz
/-- the pair behind a list that is not too long is found, at a list that is not longer. -/
theorem found_short {s t : Int} {k : Nat} (hk : k < (fAt e e s t k).length) : ∀ (n : Nat) (v : List Int), v.length = n → Good e v → v.length ≤ ((fAt e e s t k).getD k dfn).list.length →
    ∃ m, m < (fAt e e s t k).length ∧ ((fAt e e s t k).getD m dfn).pr = pairA e s t v ∧ ((fAt e e s t k).getD m dfn).list.length ≤ v.length
  | 0, v, hn, _, _ => by
    have hv : v = [] := List.length_eq_zero_iff.1 hn
    subst hv
    have hp := fAt_pres (a := e) (b := e) (s := s) (t := t) 0 k
    rw [Nat.zero_add] at hp
    have h0 : (0 : Nat) < (fAt e e s t 0).length := by simp [fAt]
    refine ⟨0, by omega, ?_, ?_⟩
    · rw [preF hp h0]; rfl
    · rw [preF hp h0]; exact Nat.le_refl _
  | n + 1, v, hn, hg, hl => by
    obtain ⟨u, c, rfl⟩ : ∃ u c, v = u ++ [c] := split_last (by rintro rfl; simp at hn)
    rw [List.length_append, List.length_singleton] at hn hl
    obtain ⟨m, h1, h2, h3⟩ := found_short hk n u (by omega) (fun i hi => hg i (List.mem_append_left _ hi)) (by omega)
    have hmk : m < k := by
      rcases Nat.lt_or_ge m k with h | h
      · exact h
      · have := (lvl (a := e) (b := e) (s := s) (t := t) k).asc k m h h1
        omega
    have hc := bad_no.1 (hg c (List.mem_append_right _ (List.mem_singleton.2 rfl)))
    obtain ⟨q, g1, g2, g3⟩ := fAt_has h1 hmk (c := c.toNat) (by omega)
    refine ⟨q, g1, ?_, by rw [List.length_append, List.length_singleton]; omega⟩
    rw [g2, h2]
    unfold pairA nextP
    rw [runE_snoc, runE_snoc]
theorem found_any {s t : Int} {k : Nat} (hk : (fAt e e s t k).length ≤ k) : ∀ (n : Nat) (v : List Int), v.length = n → Good e v → ∃ m, m < (fAt e e s t k).length ∧ ((fAt e e s t k).getD m dfn).pr = pairA e s t v
  | 0, v, hn, _ => by
    have hv : v = [] := List.length_eq_zero_iff.1 hn
    subst hv
    have hp := fAt_pres (a := e) (b := e) (s := s) (t := t) 0 k
    rw [Nat.zero_add] at hp
    have h0 : (0 : Nat) < (fAt e e s t 0).length := by simp [fAt]
    exact ⟨0, Nat.lt_of_lt_of_le h0 hp.length_le, by rw [preF hp h0]; rfl⟩
  | n + 1, v, hn, hg => by
    obtain ⟨u, c, rfl⟩ : ∃ u c, v = u ++ [c] := split_last (by rintro rfl; simp at hn)
    rw [List.length_append, List.length_singleton] at hn
    obtain ⟨m, h1, h2⟩ := found_any hk n u (by omega) (fun i hi => hg i (List.mem_append_left _ hi))
    have hc := bad_no.1 (hg c (List.mem_append_right _ (List.mem_singleton.2 rfl)))
    obtain ⟨q, g1, g2, _⟩ := fAt_has h1 (by omega) (c := c.toNat) (by omega)
    refine ⟨q, g1, ?_⟩
    rw [g2, h2]
    unfold pairA nextP
    rw [runE_snoc, runE_snoc]

/-- the list that is found tells the states apart; its beginning does not; no shorter one does. -/
theorem same_found {s t : Int} {d : List Int} (h : sameD e e s t = some d) : Good e d ∧ d ≠ [] ∧ Diff e s t d ∧ (runE e s d.dropLast).1 = (runE e t d.dropLast).1 ∧ ∀ u, Good e u → MisAt e s t u → d.length ≤ u.length := by
  obtain ⟨k, i, hb, rfl⟩ := sameD_some h
  have hpath := path_all k (fun j hj _ => hb.old j hj) _ (getD_mem (d := dfn) hb.lt)
  have hpr := hpath.pr
  unfold pairA at hpr
  have hmis := hb.mis
  rw [hpr] at hmis
  refine ⟨fun y hy => ?_, by simp, fun heq => ?_, ?_, fun u hg hd => ?_⟩
  · rcases List.mem_append.1 hy with h2 | h2
    · exact hpath.good y h2
    · have : y = (i : Int) := by simpa using h2
      have := hb.li
      subst y
      exact bad_no.2 ⟨by omega, by omega⟩
  · rw [runE_snoc, runE_snoc, hpath.same] at heq
    exact hmis (List.append_cancel_left heq)
  · rw [List.dropLast_concat]; exact hpath.same
  · obtain ⟨v, c, w, rfl, hvm⟩ := hd
    rw [List.length_append, List.length_singleton, List.length_append, List.length_cons]
    rcases Nat.lt_or_ge v.length ((fAt e e s t k).getD k dfn).list.length with hlt | hge
    · exfalso
      obtain ⟨m, h1, h2, h3⟩ := found_short hb.lt v.length v rfl (fun i hi => hg i (List.mem_append_left _ hi)) (by omega)
      have hmk : m < k := by
        rcases Nat.lt_or_ge m k with h | h
        · exact h
        · have := (lvl (a := e) (b := e) (s := s) (t := t) k).asc k m h h1
          omega
      have hc := bad_no.1 (hg c (List.mem_append_right _ (List.mem_cons_self ..)))
      have := hb.old m hmk c.toNat (by omega)
      rw [h2] at this
      exact hvm this
    · omega
theorem same_none {s t : Int} {K : Nat} (hK : (fAt e e s t K).length ≤ K) (h : sameD e e s t = none) {u : List Int} (hg : Good e u) : ¬ MisAt e s t u := by
  rintro ⟨v, c, w, rfl, hvm⟩
  obtain ⟨m, h1, h2⟩ := found_any hK v.length v rfl (fun i hi => hg i (List.mem_append_left _ hi))
  have hc := bad_no.1 (hg c (List.mem_append_right _ (List.mem_cons_self ..)))
  -- some pair shows a difference: the first one is found
  have key : ∀ m, m < (fAt e e s t K).length → NoMis e e ((fAt e e s t K).getD m dfn).pr e.inputs.toNat := fun m => by
    induction m using Nat.strongRecOn with
    | ind m ih =>
      intro hm
      have hmm : m < (fAt e e s t m).length := by
        rcases Nat.lt_or_ge m (fAt e e s t m).length with h | h
        · exact h
        · have := fAt_stay h (K - m)
          rw [show m + (K - m) = K by omega] at this
          rw [this] at hm; omega
      have hp := fAt_pres (a := e) (b := e) (s := s) (t := t) m (K - m)
      rw [show m + (K - m) = K by omega] at hp
      have row : ∀ i, i ≤ e.inputs.toNat → NoMis e e ((fAt e e s t m).getD m dfn).pr i := fun i => by
        induction i with
        | zero => intro _ j hj; exact absurd hj (Nat.not_lt_zero _)
        | succ i ihi =>
          intro hi j hj
          rcases Nat.lt_succ_iff_lt_or_eq.1 hj with h3 | h3
          · exact ihi (by omega) j h3
          · subst h3
            apply Classical.byContradiction
            intro hmis
            have hbad : Bad e e s t m j := ⟨hmm, by omega, fun q hq => by
              have hql : q < (fAt e e s t K).length := by omega
              have hqm : q < (fAt e e s t m).length := by omega
              have := ih q hq hql
              rwa [preF hp hqm] at this, ihi (by omega), hmis⟩
            rw [sameD_bad hbad] at h
            cases h
      rw [preF hp hmm]
      exact row _ (Nat.le_refl _)
  have := key m h1 c.toNat (by omega)
  rw [h2] at this
  exact hvm this

/-- what up to k inputs tell apart. -/
theorem apB_run : ∀ k (s t : Int), apB e e k s.toNat t.toNat = true → ∃ u, Good e u ∧ u.length ≤ k ∧ MisAt e s t u
  | 0, s, t, h => by cases h
  | k + 1, s, t, h => by
    by_cases hx : ∃ i, i < e.inputs.toNat ∧ ((cellAt e s.toNat i).word ≠ (cellAt e t.toNat i).word ∨ apB e e k (cellAt e s.toNat i).to.toNat (cellAt e t.toNat i).to.toNat = true)
    · obtain ⟨i, hi, h1 | h1⟩ := hx
      · refine ⟨[(i : Int)], fun y hy => ?_, by simp, [], i, [], rfl, h1⟩
        have : y = (i : Int) := by simpa using hy
        rw [this]; exact bad_no.2 ⟨by omega, by omega⟩
      · have hgi : badI e (i : Int) = false := bad_no.2 ⟨by omega, by omega⟩
        obtain ⟨u, g1, g2, v, c, w, g3, g4⟩ := apB_run k (cellAt e s.toNat i).to (cellAt e t.toNat i).to h1
        refine ⟨(i : Int) :: u, fun y hy => ?_, by simp; exact g2, (i : Int) :: v, c, w, by rw [g3]; rfl, g4⟩
        rcases List.mem_cons.1 hy with e1 | e1
        · rw [e1]; exact hgi
        · exact g1 y e1
    · exfalso
      have : apB e e (k + 1) s.toNat t.toNat = false := apB_no.2 fun i hi => by
        refine ⟨Classical.byContradiction fun h1 => hx ⟨i, hi, .inl h1⟩, ?_⟩
        cases h2 : apB e e k (cellAt e s.toNat i).to.toNat (cellAt e t.toNat i).to.toNat with
        | false => rfl
        | true => exact absurd ⟨i, hi, .inr h2⟩ hx
      rw [this] at h; cases h
theorem run_apB : ∀ (v : List Int) (c : Int) (s t : Int), Good e v → badI e c = false → (cellAt e (pairA e s t v).s.toNat c.toNat).word ≠ (cellAt e (pairA e s t v).t.toNat c.toNat).word → apB e e (v.length + 1) s.toNat t.toNat = true
  | [], c, s, t, _, hc, h => by
    have hc' := bad_no.1 hc
    cases ha : apB e e ([] : List Int).length.succ s.toNat t.toNat with
    | true => rfl
    | false => exact absurd ((apB_no.1 ha) c.toNat (by omega)).1 h
  | i :: v, c, s, t, hg, hc, h => by
    have hi := bad_no.1 (hg i (List.mem_cons_self ..))
    have ih := run_apB v c (cellAt e s.toNat i.toNat).to (cellAt e t.toNat i.toNat).to (fun y hy => hg y (List.mem_cons_of_mem _ hy)) hc h
    cases ha : apB e e (i :: v : List Int).length.succ s.toNat t.toNat with
    | true => rfl
    | false =>
      have := ((apB_no.1 ha) i.toNat (by omega)).2
      rw [List.length_cons] at this
      rw [this] at ih; cases ih
theorem apB_late {s t : Nat} {k : Nat} (h : apB e e k s t = true) : ∀ j, apB e e (k + j) s t = true
  | 0 => h
  | j + 1 => apB_mono _ _ _ (apB_late h j)
/-- Same tells whether two states are in one class; its list is no longer than there are states. -/
theorem same_class (hv : checkE e = 0) {s t : Int} (hs : 0 ≤ s ∧ s < (e.rows.length : Int)) (ht : 0 ≤ t ∧ t < (e.rows.length : Int)) :
    (sameD e e s t = none ↔ (classesE e).getD s.toNat 0 = (classesE e).getD t.toNat 0) ∧ ∀ d, sameD e e s t = some d → d.length ≤ e.rows.length := by
  have hs' : s.toNat < e.rows.length := by omega
  have ht' : t.toNat < e.rows.length := by omega
  have hn : ∀ d, sameD e e s t = some d → ¬ (classesE e).getD s.toNat 0 = (classesE e).getD t.toNat 0 := fun d hd hc => by
    obtain ⟨g1, _, g2, _⟩ := same_found hd
    obtain ⟨v, c, w, rfl, hm⟩ := diff_at g2
    have h1 := run_apB v c s t (fun i hi => g1 i (List.mem_append_left _ hi)) (g1 c (List.mem_append_right _ (List.mem_cons_self ..))) hm
    have h2 := apB_late h1 e.rows.length
    rw [Nat.add_comm, ← classes_late hv (v.length + 1)] at *
    have h3 := (classes_apart hv (e.rows.length + (v.length + 1)) s.toNat t.toNat hs' ht').1 hc
    rw [h3] at h2; cases h2
  have ha : ¬ (classesE e).getD s.toNat 0 = (classesE e).getD t.toNat 0 → ∃ u, Good e u ∧ u.length ≤ e.rows.length ∧ MisAt e s t u := fun hc => by
    have h1 : apB e e e.rows.length s.toNat t.toNat = true := by
      cases h : apB e e e.rows.length s.toNat t.toNat with
      | true => rfl
      | false => exact absurd ((classes_apart hv e.rows.length s.toNat t.toNat hs' ht').2 h) hc
    exact apB_run _ s t h1
  refine ⟨⟨fun h => Classical.byContradiction fun hc => ?_, fun hc => ?_⟩, fun d hd => ?_⟩
  · obtain ⟨u, g1, _, g3⟩ := ha hc
    exact same_none (K := 4096) ((fAt_ok hv hv rfl hs ht 4096).le hv hv) h g1 g3
  · cases hd : sameD e e s t with
    | none => rfl
    | some d => exact absurd hc (hn d hd)
  · obtain ⟨u, g1, g2, g3⟩ := ha (hn d hd)
    exact Nat.le_trans ((same_found hd).2.2.2.2 u g1 g3) g2
theorem same_none_run (hv : checkE e = 0) {s t : Int} (hs : 0 ≤ s ∧ s < (e.rows.length : Int)) (ht : 0 ≤ t ∧ t < (e.rows.length : Int)) (h : sameD e e s t = none) {u : List Int} (hg : Good e u) : (runE e s u).1 = (runE e t u).1 :=
  Classical.byContradiction fun hd => same_none (K := 4096) ((fAt_ok hv hv rfl hs ht 4096).le hv hv) h hg (diff_at hd)
end
end Go.Proofs.Ytmjkbidnghcfnaa
