/-
  Plain: the list that Same finds is the least one (by length, then by inputs), and so is the reference's.
-/
import Derived.Test.YtmjkbidnghcfnaaPW
import Derived.Test.YtmjkbidnghcfnaaPT
namespace Go.Proofs.Ytmjkbidnghcfnaa
set_option linter.unusedVariables false
open Go Go.Lift

/-- the order of lists of one length. -/
def lexL : List Int → List Int → Prop
  | x :: u, y :: v => x < y ∨ (x = y ∧ lexL u v)
  | _, _ => False
/-- the order of lists: by length, then by inputs. -/
def SL (u v : List Int) : Prop := u.length < v.length ∨ (u.length = v.length ∧ lexL u v)
def SLe (u v : List Int) : Prop := u = v ∨ SL u v
theorem lexL_irr : ∀ {u : List Int}, ¬ lexL u u
  | [], h => h
  | x :: u, h => by
    rcases h with h | h
    · omega
    · exact lexL_irr h.2
theorem lexL_trans : ∀ {u v w : List Int}, lexL u v → lexL v w → lexL u w
  | [], _, _, h, _ => h.elim
  | _ :: _, [], _, h, _ => h.elim
  | _ :: _, _ :: _, [], _, h => h.elim
  | x :: u, y :: v, z :: w, h1, h2 => by
    rcases h1 with h1 | h1 <;> rcases h2 with h2 | h2
    · exact .inl (by omega)
    · exact .inl (by omega)
    · exact .inl (by omega)
    · exact .inr ⟨by omega, lexL_trans h1.2 h2.2⟩
theorem lexL_snoc : ∀ {u v : List Int} {c d : Int}, lexL u v → lexL (u ++ [c]) (v ++ [d])
  | [], _, _, _, h => h.elim
  | _ :: _, [], _, _, h => h.elim
  | x :: u, y :: v, c, d, h => h.imp id fun h => ⟨h.1, lexL_snoc h.2⟩
theorem lexL_last : ∀ {u : List Int} {c d : Int}, c < d → lexL (u ++ [c]) (u ++ [d])
  | [], _, _, h => .inl h
  | x :: u, c, d, h => .inr ⟨rfl, lexL_last h⟩
theorem SL.irr {u : List Int} : ¬ SL u u := fun h => h.elim (fun h => Nat.lt_irrefl _ h) fun h => lexL_irr h.2
theorem SL.trans {u v w : List Int} (h : SL u v) (h2 : SL v w) : SL u w := by
  rcases h with h | h <;> rcases h2 with h2 | h2
  · exact .inl (by omega)
  · exact .inl (by omega)
  · exact .inl (by omega)
  · exact .inr ⟨by omega, lexL_trans h.2 h2.2⟩
theorem SL.snoc {u v : List Int} {c d : Int} (h : SL u v) : SL (u ++ [c]) (v ++ [d]) := by
  unfold SL
  rw [List.length_append, List.length_append, List.length_singleton, List.length_singleton]
  exact h.imp (fun h => by omega) fun h => ⟨by omega, lexL_snoc h.2⟩
theorem SL.last {u : List Int} {c d : Int} (h : c < d) : SL (u ++ [c]) (u ++ [d]) := .inr ⟨by simp, lexL_last h⟩
theorem SL.of_le {u v w : List Int} (h : SLe u v) (h2 : SL v w) : SL u w := by
  rcases h with rfl | h
  · exact h2
  · exact h.trans h2
theorem SL.le {u v w : List Int} (h : SL u v) (h2 : SLe v w) : SL u w := by
  rcases h2 with rfl | h2
  · exact h
  · exact h.trans h2
theorem SLe.trans {u v w : List Int} (h : SLe u v) (h2 : SLe v w) : SLe u w := by
  rcases h with rfl | h
  · exact h2
  · exact .inr (h.le h2)
theorem SLe.snoc {u v : List Int} {c : Int} (h : SLe u v) : SLe (u ++ [c]) (v ++ [c]) := by
  rcases h with rfl | h
  · exact .inl rfl
  · exact .inr h.snoc
theorem SLe.snoc2 {u : List Int} {c d : Int} (h : c ≤ d) : SLe (u ++ [c]) (u ++ [d]) := by
  by_cases e : c = d
  · subst e; exact .inl rfl
  · exact .inr (SL.last (by omega))
theorem SL_cons {i : Int} {u v : List Int} : SL (i :: u) (i :: v) ↔ SL u v := by
  simp [SL, lexL, List.length_cons]
theorem SL_short {u v : List Int} (h : u.length < v.length) : SL u v := .inl h
theorem SL_head {i j : Int} {u v : List Int} (h : u.length = v.length) (hij : i < j) : SL (i :: u) (j :: v) := .inr ⟨by simp [h], .inl hij⟩

section
variable {a b : Enc}
/-- u ends where the words differ. -/
def ME (a b : Enc) : Int → Int → List Int → Prop
  | _, _, [] => False
  | s, t, i :: r => (r = [] ∧ (cellAt a s.toNat i.toNat).word ≠ (cellAt b t.toNat i.toNat).word) ∨ ME a b (cellAt a s.toNat i.toNat).to (cellAt b t.toNat i.toNat).to r
def pairB (a b : Enc) (s t : Int) (u : List Int) : Pr := ⟨(runE a s u).2, (runE b t u).2⟩
theorem ME_snoc : ∀ {u : List Int} {s t c : Int}, ME a b s t (u ++ [c]) ↔ (cellAt a (pairB a b s t u).s.toNat c.toNat).word ≠ (cellAt b (pairB a b s t u).t.toNat c.toNat).word
  | [], s, t, c => by simp [ME, pairB, runE]
  | i :: u, s, t, c => by
    simp only [List.cons_append, ME]
    rw [ME_snoc (u := u)]
    simp [pairB, runE]
theorem ME_ne {s t : Int} {u : List Int} (h : ME a b s t u) : u ≠ [] := by
  rintro rfl; exact h
/-- ends of lists that reach a difference. -/
theorem apB_lateB {s t : Nat} {k : Nat} (h : apB a b k s t = true) : ∀ j, apB a b (k + j) s t = true
  | 0 => h
  | j + 1 => apB_mono _ _ _ (apB_lateB h j)
theorem apB_of : ∀ {u : List Int} {s t : Int}, Good a u → ME a b s t u → apB a b u.length s.toNat t.toNat = true
  | [], s, t, _, h => h.elim
  | i :: r, s, t, hg, h => by
    have hi := bad_no.1 (hg i (List.mem_cons_self ..))
    cases ha : apB a b (i :: r).length s.toNat t.toNat with
    | true => rfl
    | false =>
      have hn := (apB_no.1 ha) i.toNat (by omega)
      rcases h with h | h
      · exact absurd hn.1 h.2
      · have := apB_of (fun y hy => hg y (List.mem_cons_of_mem _ hy)) h
        have h2 := hn.2
        rw [show (List.length r) = r.length from rfl, this] at h2
        cases h2
theorem apB_to : ∀ k (s t : Int), apB a b k s.toNat t.toNat = true → ∃ u, Good a u ∧ u.length ≤ k ∧ ME a b s t u
  | 0, s, t, h => by cases h
  | k + 1, s, t, h => by
    by_cases hx : ∃ i, i < a.inputs.toNat ∧ ((cellAt a s.toNat i).word ≠ (cellAt b t.toNat i).word ∨ apB a b k (cellAt a s.toNat i).to.toNat (cellAt b t.toNat i).to.toNat = true)
    · obtain ⟨i, hi, h1 | h1⟩ := hx
      · refine ⟨[(i : Int)], fun y hy => ?_, by simp, .inl ⟨rfl, h1⟩⟩
        rw [List.mem_singleton.1 hy]; exact bad_no.2 ⟨by omega, by omega⟩
      · obtain ⟨u, g1, g2, g3⟩ := apB_to k _ _ h1
        refine ⟨(i : Int) :: u, fun y hy => ?_, by simpa using g2, .inr g3⟩
        rcases List.mem_cons.1 hy with h2 | h2
        · rw [h2]; exact bad_no.2 ⟨by omega, by omega⟩
        · exact g1 y h2
    · exfalso
      have : apB a b (k + 1) s.toNat t.toNat = false := apB_no.2 fun i hi => by
        refine ⟨Classical.byContradiction fun h1 => hx ⟨i, hi, .inl h1⟩, ?_⟩
        cases h2 : apB a b k (cellAt a s.toNat i).to.toNat (cellAt b t.toNat i).to.toNat with
        | false => rfl
        | true => exact absurd ⟨i, hi, .inr h2⟩ hx
      rw [this] at h; cases h

/-- the least list that ends where the words differ. -/
structure Least (a b : Enc) (s t : Int) (d : List Int) : Prop where
  good : Good a d
  me : ME a b s t d
  min : ∀ u, Good a u → ME a b s t u → ¬ SL u d
theorem Least.len {s t : Int} {d : List Int} (h : Least a b s t d) : ∀ u, Good a u → ME a b s t u → d.length ≤ u.length := fun u g m =>
  Nat.le_of_not_lt fun hl => h.min u g m (SL_short hl)

/-- the reference's list: the first input that leads to a difference in time, again and again. -/
noncomputable def firstI (p : Nat → Bool) : Nat → Option Nat
  | 0 => none
  | n + 1 => match firstI p n with | some i => some i | none => if p n then some n else none
theorem firstI_some {p : Nat → Bool} {n i : Nat} (hi : i < n) (hp : p i = true) (h : ∀ j, j < i → p j = false) : firstI p n = some i := by
  induction n with
  | zero => omega
  | succ n ih =>
    unfold firstI
    by_cases e : i = n
    · have : firstI p n = none := by
        subst e
        clear ih hp hi
        have : ∀ m, m ≤ i → firstI p m = none := fun m => by
          induction m with
          | zero => intro _; rfl
          | succ m im =>
            intro hm
            unfold firstI
            rw [im (by omega)]
            simp [h m (by omega)]
        exact this i (Nat.le_refl _)
      rw [this, ← e]; simp [hp]
    · rw [ih (by omega)]
end
section
variable {a b : Enc}
/-- everything found is the pair behind its list. -/
theorem path_pr {s t : Int} : ∀ k, ∀ x ∈ fAt a b s t k, x.pr = pairB a b s t x.list ∧ Good a x.list
  | 0, x, hx => by
    have : x = ⟨⟨s, t⟩, []⟩ := by simpa [fAt] using hx
    rw [this]
    exact ⟨rfl, fun y hy => by cases hy⟩
  | k + 1, x, hx => by
    have ih := path_pr (s := s) (t := t) k
    by_cases hk : k < (fAt a b s t k).length
    · have hX := ih _ (getD_mem (d := dfn) hk)
      rw [fAt_step hk] at hx
      have : ∀ i, i ≤ a.inputs.toNat → ∀ x ∈ fRow a b (fAt a b s t k) ((fAt a b s t k).getD k dfn) i, x.pr = pairB a b s t x.list ∧ Good a x.list := fun i => by
        induction i with
        | zero => intro _ x hx; exact ih x hx
        | succ i ihi =>
          intro hi x hx
          unfold fRow fStep at hx
          split at hx
          · exact ihi (by omega) x hx
          · rcases List.mem_append.1 hx with h1 | h1
            · exact ihi (by omega) x h1
            · have : x = nextF a b ((fAt a b s t k).getD k dfn) i := by simpa using h1
              rw [this]
              refine ⟨?_, fun y hy => ?_⟩
              · show nextP a b ((fAt a b s t k).getD k dfn).pr i = pairB a b s t (((fAt a b s t k).getD k dfn).list ++ [(i : Int)])
                unfold nextP pairB
                rw [runE_snoc, runE_snoc, hX.1]
                rfl
              · rcases List.mem_append.1 hy with h2 | h2
                · exact hX.2 y h2
                · have : y = (i : Int) := by simpa using h2
                  rw [this]; exact bad_no.2 ⟨by omega, by omega⟩
      exact this _ (Nat.le_refl _) x hx
    · have : fAt a b s t (k + 1) = fAt a b s t k := if_neg hk
      rw [this] at hx
      exact ih x hx
/-- what is found is in order. -/
structure AscF (F : List Fnd) (k : Nat) : Prop where
  asc : ∀ p q, p < q → q < F.length → SL (F.getD p dfn).list (F.getD q dfn).list
  top : k < F.length → ∀ z ∈ F, SL z.list ((F.getD k dfn).list ++ [0])
theorem asc_row {F : List Fnd} {k : Nat} (h : AscF F k) (hk : k < F.length) : ∀ i : Nat, (∀ p q, p < q → q < (fRow a b F (F.getD k dfn) i).length → SL ((fRow a b F (F.getD k dfn) i).getD p dfn).list ((fRow a b F (F.getD k dfn) i).getD q dfn).list) ∧
    ∀ z ∈ fRow a b F (F.getD k dfn) i, SL z.list ((F.getD k dfn).list ++ [(i : Int)])
  | 0 => ⟨h.asc, h.top hk⟩
  | i + 1 => by
    obtain ⟨h1, h2⟩ := asc_row h hk i
    have hlast : SL ((F.getD k dfn).list ++ [(i : Int)]) ((F.getD k dfn).list ++ [((i + 1 : Nat) : Int)]) := SL.last (by omega)
    unfold fRow fStep
    split
    · exact ⟨h1, fun z hz => (h2 z hz).trans hlast⟩
    · refine ⟨fun p q hpq hq => ?_, fun z hz => ?_⟩
      · rw [List.length_append, List.length_singleton] at hq
        rw [getD_app, getD_app, if_pos (by omega)]
        by_cases hq2 : q < (fRow a b F (F.getD k dfn) i).length
        · rw [if_pos hq2]; exact h1 p q hpq hq2
        · rw [if_neg hq2]
          have e1 : q - (fRow a b F (F.getD k dfn) i).length = 0 := by omega
          rw [e1]
          exact h2 _ (getD_mem (by omega))
      · rcases List.mem_append.1 hz with h3 | h3
        · exact (h2 z h3).trans hlast
        · have : z = nextF a b (F.getD k dfn) i := by simpa using h3
          rw [this]; exact hlast
theorem asc {s t : Int} : ∀ k, AscF (fAt a b s t k) k
  | 0 => by
    refine ⟨fun p q hpq hq => ?_, fun _ z hz => ?_⟩
    · have : q < 1 := by simpa [fAt] using hq
      omega
    · have : z = ⟨⟨s, t⟩, []⟩ := by simpa [fAt] using hz
      rw [this]; exact SL_short (by simp)
  | k + 1 => by
    have ih := asc (s := s) (t := t) k
    by_cases hk : k < (fAt a b s t k).length
    · obtain ⟨h1, h2⟩ := asc_row (a := a) (b := b) ih hk a.inputs.toNat
      rw [fAt_step hk]
      refine ⟨h1, fun hl z hz => ?_⟩
      have h4 := h1 k (k + 1) (Nat.lt_succ_self _) hl
      rw [preF (fRow_pre _) hk] at h4
      exact (h2 z hz).trans h4.snoc
    · have : fAt a b s t (k + 1) = fAt a b s t k := if_neg hk
      rw [this]
      exact ⟨ih.asc, fun hl => absurd hl (by omega)⟩
theorem fRow_hasL {F : List Fnd} {x : Fnd} : ∀ i c : Nat, (∀ j : Nat, j ≤ i → ∀ z ∈ fRow a b F x j, SL z.list (x.list ++ [(j : Int)])) → c < i → ∃ z ∈ fRow a b F x i, z.pr = nextP a b x.pr c ∧ SLe z.list (x.list ++ [(c : Int)])
  | 0, c, _, hc => absurd hc (Nat.not_lt_zero _)
  | i + 1, c, ht, hc => by
    have hsub : ∀ z, z ∈ fRow a b F x i → z ∈ fRow a b F x (i + 1) := fun z hz => (fStep_pre (F := fRow a b F x i)).subset hz
    rcases Nat.lt_succ_iff_lt_or_eq.1 hc with h1 | h1
    · obtain ⟨z, hz, hr⟩ := fRow_hasL i c (fun j hj => ht j (by omega)) h1
      exact ⟨z, hsub z hz, hr⟩
    · subst h1
      by_cases hm : nextP a b x.pr c ∈ (fRow a b F x c).map Fnd.pr
      · obtain ⟨z, hz, he⟩ := List.mem_map.1 hm
        exact ⟨z, hsub z hz, he, .inr (ht c (by omega) z hz)⟩
      · refine ⟨nextF a b x c, ?_, rfl, .inl rfl⟩
        show nextF a b x c ∈ fStep _ _
        unfold fStep
        rw [if_neg (show ¬ (nextF a b x c).pr ∈ _ from hm)]
        exact List.mem_append_right _ (List.mem_singleton.2 rfl)
theorem fAt_hasL {s t : Int} {k j c : Nat} (hj : j < (fAt a b s t k).length) (hjk : j < k) (hc : c < a.inputs.toNat) :
    ∃ m, m < (fAt a b s t k).length ∧ ((fAt a b s t k).getD m dfn).pr = nextP a b ((fAt a b s t k).getD j dfn).pr c ∧ SLe ((fAt a b s t k).getD m dfn).list (((fAt a b s t k).getD j dfn).list ++ [(c : Int)]) := by
  have hjj : j < (fAt a b s t j).length := by
    rcases Nat.lt_or_ge j (fAt a b s t j).length with h | h
    · exact h
    · have := fAt_stay h (k - j)
      rw [show j + (k - j) = k by omega] at this
      rw [this] at hj; omega
  have hp := fAt_pres (a := a) (b := b) (s := s) (t := t) j (k - j)
  rw [show j + (k - j) = k by omega] at hp
  have hp1 := fAt_pres (a := a) (b := b) (s := s) (t := t) (j + 1) (k - (j + 1))
  rw [show j + 1 + (k - (j + 1)) = k by omega] at hp1
  have hX := preF hp hjj
  obtain ⟨z, hz, he, hl⟩ := fRow_hasL (a := a) (b := b) (F := fAt a b s t j) (x := (fAt a b s t j).getD j dfn) a.inputs.toNat c (fun i _ => (asc_row (asc j) hjj i).2) hc
  rw [← fAt_step hjj] at hz
  obtain ⟨m, hml, hme⟩ := List.mem_iff_getElem.1 hz
  refine ⟨m, Nat.lt_of_lt_of_le hml hp1.length_le, ?_, ?_⟩
  · rw [preF hp1 hml, hX, getD_get hml, hme]; exact he
  · rw [preF hp1 hml, hX, getD_get hml, hme]; exact hl
theorem found_all {s t : Int} {k : Nat} (hk : (fAt a b s t k).length ≤ k) : ∀ (n : Nat) (v : List Int), v.length = n → Good a v → ∃ m, m < (fAt a b s t k).length ∧ ((fAt a b s t k).getD m dfn).pr = pairB a b s t v ∧ SLe ((fAt a b s t k).getD m dfn).list v
  | 0, v, hn, _ => by
    have hv : v = [] := List.length_eq_zero_iff.1 hn
    subst hv
    have hp := fAt_pres (a := a) (b := b) (s := s) (t := t) 0 k
    rw [Nat.zero_add] at hp
    have h0 : (0 : Nat) < (fAt a b s t 0).length := by simp [fAt]
    exact ⟨0, Nat.lt_of_lt_of_le h0 hp.length_le, by rw [preF hp h0]; rfl, by rw [preF hp h0]; exact .inl rfl⟩
  | n + 1, v, hn, hg => by
    obtain ⟨u, c, rfl⟩ : ∃ u c, v = u ++ [c] := split_last (by rintro rfl; simp at hn)
    rw [List.length_append, List.length_singleton] at hn
    obtain ⟨m, h1, h2, h3⟩ := found_all hk n u (by omega) (fun i hi => hg i (List.mem_append_left _ hi))
    have hc := bad_no.1 (hg c (List.mem_append_right _ (List.mem_singleton.2 rfl)))
    obtain ⟨q, g1, g2, g3⟩ := fAt_hasL h1 (by omega) (c := c.toNat) (by omega)
    refine ⟨q, g1, ?_, ?_⟩
    · rw [g2, h2]
      unfold pairB nextP
      rw [runE_snoc, runE_snoc]
    · rw [show ((c.toNat : Nat) : Int) = c by omega] at g3
      exact g3.trans h3.snoc
/-- the list that is found is the least. -/
theorem found_least {s t : Int} {K : Nat} (hK : (fAt a b s t K).length ≤ K) {d : List Int} (h : sameD a b s t = some d) : Least a b s t d := by
  obtain ⟨k, i, hb, rfl⟩ := sameD_some h
  have hpp := path_pr k _ (getD_mem (d := dfn) hb.lt)
  have hpr := hpp.1
  have hli := hb.li
  have hkK : k < (fAt a b s t K).length ∧ (fAt a b s t K).getD k dfn = (fAt a b s t k).getD k dfn := by
    rcases Nat.lt_or_ge k K with hkk | hkk
    · have hp := fAt_pres (a := a) (b := b) (s := s) (t := t) k (K - k)
      rw [show k + (K - k) = K by omega] at hp
      exact ⟨Nat.lt_of_lt_of_le hb.lt hp.length_le, preF hp hb.lt⟩
    · exfalso
      have hst := fAt_stay hK (k - K)
      rw [show K + (k - K) = k by omega] at hst
      have := hb.lt
      rw [hst] at this; omega
  refine ⟨fun y hy => ?_, ?_, fun u hg hm hlt => ?_⟩
  · rcases List.mem_append.1 hy with h2 | h2
    · exact hpp.2 y h2
    · have : y = (i : Int) := by simpa using h2
      subst y
      exact bad_no.2 ⟨by omega, by omega⟩
  · rw [ME_snoc, ← hpr]; exact hb.mis
  · obtain ⟨v, c, rfl⟩ := split_last (ME_ne hm)
    rw [ME_snoc] at hm
    obtain ⟨m, h1, h2, h3⟩ := found_all hK v.length v rfl (fun i hi => hg i (List.mem_append_left _ hi))
    have hc := bad_no.1 (hg c (List.mem_append_right _ (List.mem_singleton.2 rfl)))
    rw [← h2] at hm
    have hp := fAt_pres (a := a) (b := b) (s := s) (t := t) k (K - k)
    rw [show k + (K - k) = K by omega] at hp
    have hkm : k ≤ m := by
      rcases Nat.lt_or_ge m k with hlt' | hge
      · exfalso
        have h5 := hb.old m hlt' c.toNat (by omega)
        rw [← preF hp (show m < (fAt a b s t k).length by have := hb.lt; omega)] at h5
        exact hm h5
      · exact hge
    have hle : SLe (((fAt a b s t k).getD k dfn).list ++ [(i : Int)]) (v ++ [c]) := by
      by_cases e : m = k
      · subst e
        have hic : i ≤ c.toNat := by
          rcases Nat.lt_or_ge c.toNat i with h5 | h5
          · exfalso
            have := hb.row c.toNat h5
            rw [← hkK.2] at this
            exact hm this
          · exact h5
        rw [← hkK.2]
        exact (SLe.snoc2 (by omega)).trans h3.snoc
      · have := (asc (a := a) (b := b) (s := s) (t := t) K).asc k m (by omega) h1
        rw [hkK.2] at this
        exact .inr ((this.le h3).snoc)
    exact SL.irr (hlt.le hle)
/-- if nothing is found, no list ends where the words differ. -/
theorem found_none {s t : Int} {K : Nat} (hK : (fAt a b s t K).length ≤ K) (h : sameD a b s t = none) {u : List Int} (hg : Good a u) : ¬ ME a b s t u := by
  intro hme
  obtain ⟨v, c, rfl⟩ := split_last (ME_ne hme)
  rw [ME_snoc] at hme
  obtain ⟨m, h1, h2, _⟩ := found_all hK v.length v rfl (fun i hi => hg i (List.mem_append_left _ hi))
  have hc := bad_no.1 (hg c (List.mem_append_right _ (List.mem_cons_self ..)))
  have key : ∀ m, m < (fAt a b s t K).length → NoMis a b ((fAt a b s t K).getD m dfn).pr a.inputs.toNat := fun m => by
    induction m using Nat.strongRecOn with
    | ind m ih =>
      intro hm
      have hmm : m < (fAt a b s t m).length := by
        rcases Nat.lt_or_ge m (fAt a b s t m).length with h | h
        · exact h
        · have := fAt_stay h (K - m)
          rw [show m + (K - m) = K by omega] at this
          rw [this] at hm; omega
      have hp := fAt_pres (a := a) (b := b) (s := s) (t := t) m (K - m)
      rw [show m + (K - m) = K by omega] at hp
      have row : ∀ i, i ≤ a.inputs.toNat → NoMis a b ((fAt a b s t m).getD m dfn).pr i := fun i => by
        induction i with
        | zero => intro _ j hj; exact absurd hj (Nat.not_lt_zero _)
        | succ i ihi =>
          intro hi j hj
          rcases Nat.lt_succ_iff_lt_or_eq.1 hj with h3 | h3
          · exact ihi (by omega) j h3
          · subst h3
            apply Classical.byContradiction
            intro hmis
            have hbad : Bad a b s t m j := ⟨hmm, by omega, fun q hq => by
              have hql : q < (fAt a b s t K).length := by omega
              have hqm : q < (fAt a b s t m).length := by omega
              have := ih q hq hql
              rwa [preF hp hqm] at this, ihi (by omega), hmis⟩
            rw [sameD_bad hbad] at h
            cases h
      rw [preF hp hmm]
      exact row _ (Nat.le_refl _)
  have := key m h1 c.toNat (by omega)
  rw [h2] at this
  exact hme this
end
end Go.Proofs.Ytmjkbidnghcfnaa

namespace Go.Proofs.Ytmjkbidnghcfnaa
set_option linter.unusedVariables false
open Go Go.Lift

section
variable {a b : Enc}
/-- the first input that leads to a difference in time. -/
theorem Least.before {s t i : Int} {r : List Int} (h : Least a b s t (i :: r)) {j : Nat} (hj : (j : Int) < i) : (cellAt a s.toNat j).word = (cellAt b t.toNat j).word ∧ apB a b r.length (cellAt a s.toNat j).to.toNat (cellAt b t.toNat j).to.toNat = false := by
  have hi := bad_no.1 (h.good i (List.mem_cons_self ..))
  have hbj : badI a (j : Int) = false := bad_no.2 ⟨by omega, by omega⟩
  have h1 : (cellAt a s.toNat j).word = (cellAt b t.toNat j).word := Classical.byContradiction fun hw => by
    have hm : ME a b s t [(j : Int)] := .inl ⟨rfl, hw⟩
    have hg : Good a [(j : Int)] := fun y hy => by rw [List.mem_singleton.1 hy]; exact hbj
    refine h.min _ hg hm ?_
    cases r with
    | nil => exact SL_head rfl hj
    | cons x r => exact SL_short (by simp)
  refine ⟨h1, ?_⟩
  cases hc : apB a b r.length (cellAt a s.toNat j).to.toNat (cellAt b t.toNat j).to.toNat with
  | false => rfl
  | true =>
    exfalso
    obtain ⟨u, g1, g2, g3⟩ := apB_to _ _ _ hc
    have hg : Good a ((j : Int) :: u) := fun y hy => by
      rcases List.mem_cons.1 hy with h2 | h2
      · rw [h2]; exact hbj
      · exact g1 y h2
    refine h.min _ hg (.inr g3) ?_
    by_cases e : u.length = r.length
    · exact SL_head e hj
    · exact SL_short (by simp only [List.length_cons]; omega)
theorem Least.here {s t i : Int} {r : List Int} (h : Least a b s t (i :: r)) : ((cellAt a s.toNat i.toNat).word ≠ (cellAt b t.toNat i.toNat).word ↔ r = []) ∧ ((cellAt a s.toNat i.toNat).word = (cellAt b t.toNat i.toNat).word → apB a b r.length (cellAt a s.toNat i.toNat).to.toNat (cellAt b t.toNat i.toNat).to.toNat = true ∧ Least a b (cellAt a s.toNat i.toNat).to (cellAt b t.toNat i.toNat).to r) := by
  have hbi := h.good i (List.mem_cons_self ..)
  have hgr : Good a r := fun y hy => h.good y (List.mem_cons_of_mem _ hy)
  have h1 : (cellAt a s.toNat i.toNat).word ≠ (cellAt b t.toNat i.toNat).word → r = [] := fun hw => by
    have hg : Good a [i] := fun y hy => by rw [List.mem_singleton.1 hy]; exact hbi
    have := h.len [i] hg (.inl ⟨rfl, hw⟩)
    cases r with
    | nil => rfl
    | cons x r => simp at this
  refine ⟨⟨h1, fun e => ?_⟩, fun hw => ?_⟩
  · subst e
    rcases h.me with h2 | h2
    · exact h2.2
    · exact h2.elim
  · have hm : ME a b (cellAt a s.toNat i.toNat).to (cellAt b t.toNat i.toNat).to r := by
      rcases h.me with h2 | h2
      · exact absurd hw h2.2
      · exact h2
    refine ⟨apB_of hgr hm, hgr, hm, fun u g m hlt => ?_⟩
    refine h.min (i :: u) (fun y hy => ?_) (.inr m) (SL_cons.2 hlt)
    rcases List.mem_cons.1 hy with h2 | h2
    · rw [h2]; exact hbi
    · exact g y h2
/-- the least list is as long as the number of rounds after which the states are apart. -/
theorem Least.rounds {s t : Int} {d : List Int} (h : Least a b s t d) : apB a b d.length s.toNat t.toNat = true ∧ ∀ n, apB a b n s.toNat t.toNat = true → d.length ≤ n := by
  refine ⟨apB_of h.good h.me, fun n hn => ?_⟩
  obtain ⟨u, g1, g2, g3⟩ := apB_to _ _ _ hn
  exact Nat.le_trans (h.len u g1 g3) g2

/-- both kinds of rows in one encoder. -/
def shiftC (n : Nat) (c : Cell) : Cell := ⟨c.to + n, c.word⟩
def sumE (a b : Enc) : Enc := { a with rows := a.rows ++ b.rows.map fun r => r.map (shiftC a.rows.length) }
theorem sum_len : (sumE a b).rows.length = a.rows.length + b.rows.length := by simp [sumE]
theorem sum_left {s i : Nat} (h : s < a.rows.length) : cellAt (sumE a b) s i = cellAt a s i := by
  unfold cellAt sumE
  simp only
  rw [getD_app, if_pos h]
theorem sum_right {t i : Nat} (h : t < b.rows.length) (hi : i < (b.rows.getD t []).length) : cellAt (sumE a b) (a.rows.length + t) i = shiftC a.rows.length (cellAt b t i) := by
  unfold cellAt sumE
  simp only
  rw [getD_app, if_neg (by omega), Nat.add_sub_cancel_left]
  have h1 : (b.rows.map fun r => r.map (shiftC a.rows.length)).getD t [] = (b.rows.getD t []).map (shiftC a.rows.length) := by
    simp [List.getD_eq_getElem?_getD, List.getElem?_map, List.getElem?_eq_getElem h]
  rw [h1]
  simp [List.getD_eq_getElem?_getD, List.getElem?_map, List.getElem?_eq_getElem (show i < ((b.rows[t]?).getD []).length by simpa [List.getD_eq_getElem?_getD] using hi)]
theorem sum_valid (ha : checkE a = 0) (hb : checkE b = 0) (hm : a.letters = b.letters ∧ a.block = b.block ∧ a.inputs = b.inputs) (hl : a.rows.length + b.rows.length ≤ 64) : checkE (sumE a b) = 0 := by
  obtain ⟨hd, hp, hl1, hr⟩ := checkE_valid ha
  obtain ⟨_, _, hl2, hr2⟩ := checkE_valid hb
  rw [checkE_rows (e := sumE a b) ⟨hd.letters, hd.block, hd.inputs⟩ (by rw [sum_len]; omega) (by rw [sum_len]; omega)]
  refine firstNZ_of fun r hr' => ?_
  have cellok : ∀ (e : Enc) (c : Cell) (d : Nat), e.letters = a.letters → e.block = a.block → cellCheck e c = 0 → e.rows.length + d ≤ a.rows.length + b.rows.length → cellCheck (sumE a b) (shiftC d c) = 0 := fun e c d e1 e2 h4 h5 => by
    unfold cellCheck at h4 ⊢
    split at h4
    · cases h4
    · split at h4
      · cases h4
      · rename_i g1 g2
        rw [e1, e2] at g2
        rw [if_neg (by rw [sum_len]; show ¬ (c.to + d < 0 ∨ _ ≤ c.to + (d : Int)); omega), if_neg (by exact g2)]
  have zero : ∀ c : Cell, shiftC 0 c = c := fun c => by cases c; simp [shiftC]
  rcases List.mem_append.1 hr' with h1 | h1
  · have h2 := rowCheck_valid (hr r h1)
    unfold rowCheck
    rw [if_neg (by show ¬ _ ≠ a.inputs; have := h2.1; omega)]
    refine firstNZ_of fun c hc => ?_
    have := cellok a c 0 rfl rfl (h2.2 c hc) (by omega)
    rwa [zero] at this
  · obtain ⟨r0, hr0, rfl⟩ := List.mem_map.1 h1
    have h2 := rowCheck_valid (hr2 r0 hr0)
    unfold rowCheck
    rw [if_neg (by rw [List.length_map]; show ¬ _ ≠ a.inputs; have := h2.1; have := hm.2.2; omega)]
    refine firstNZ_of fun c hc => ?_
    obtain ⟨c0, hc0, rfl⟩ := List.mem_map.1 hc
    exact cellok b c0 a.rows.length hm.1.symm hm.2.1.symm (h2.2 c0 hc0) (by omega)
theorem sum_apart (ha : checkE a = 0) (hb : checkE b = 0) (hi : a.inputs = b.inputs) : ∀ k s t, s < a.rows.length → t < b.rows.length → (apB a b k s t = false ↔ apB (sumE a b) (sumE a b) k s (a.rows.length + t) = false)
  | 0, s, t, _, _ => by simp [apB]
  | k + 1, s, t, hs, ht => by
    rw [apB_no, apB_no]
    have hin : (sumE a b).inputs = a.inputs := rfl
    rw [hin]
    have key : ∀ i, i < a.inputs.toNat → ((cellAt a s i).word = (cellAt b t i).word ∧ apB a b k (cellAt a s i).to.toNat (cellAt b t i).to.toNat = false ↔ (cellAt (sumE a b) s i).word = (cellAt (sumE a b) (a.rows.length + t) i).word ∧ apB (sumE a b) (sumE a b) k (cellAt (sumE a b) s i).to.toNat (cellAt (sumE a b) (a.rows.length + t) i).to.toNat = false) := fun i hi' => by
      have r1 := row_eq ha hs
      have r2 := row_eq hb ht
      have c1 := cell_to ha hs (i := i) (by omega)
      have c2 := cell_to hb ht (i := i) (by omega)
      rw [sum_left hs, sum_right ht (by omega)]
      have e1 : (shiftC a.rows.length (cellAt b t i)).to.toNat = a.rows.length + (cellAt b t i).to.toNat := by
        show ((cellAt b t i).to + (a.rows.length : Int)).toNat = _
        omega
      rw [e1, sum_apart ha hb hi k (cellAt a s i).to.toNat (cellAt b t i).to.toNat (by omega) (by omega)]
      exact Iff.rfl
    exact ⟨fun h i hi' => (key i hi').1 (h i hi'), fun h i hi' => (key i hi').2 (h i hi')⟩
/-- as many rounds as there are states are enough. -/
theorem apart_late (ha : checkE a = 0) (hb : checkE b = 0) (hm : a.letters = b.letters ∧ a.block = b.block ∧ a.inputs = b.inputs) (hl : a.rows.length + b.rows.length ≤ 64) {k s t : Nat} (hs : s < a.rows.length) (ht : t < b.rows.length) (h : apB a b k s t = true) : apB a b (a.rows.length + b.rows.length) s t = true := by
  have hv := sum_valid ha hb hm hl
  cases hc : apB a b (a.rows.length + b.rows.length) s t with
  | true => rfl
  | false =>
    exfalso
    have hsl : s < (sumE a b).rows.length := by rw [sum_len]; omega
    have htl : a.rows.length + t < (sumE a b).rows.length := by rw [sum_len]; omega
    have h1 := (sum_apart ha hb hm.2.2 _ s t hs ht).1 hc
    rw [← sum_len (a := a) (b := b)] at h1
    have h2 := (classes_apart hv _ s _ hsl htl).2 h1
    have h3 := classes_late hv 0
    rw [Nat.add_zero] at h3
    rw [h3, ← classes_late hv k] at h2
    have h4 := (classes_apart hv _ s _ hsl htl).1 h2
    have h5 := (sum_apart ha hb hm.2.2 _ s t hs ht).2 h4
    have h6 := apB_lateB h (sumE a b).rows.length
    rw [Nat.add_comm] at h6
    rw [h6] at h5
    cases h5
/-- what the reference's table says. -/
theorem same_table (ha : checkE a = 0) (hb : checkE b = 0) (hm : a.letters = b.letters ∧ a.block = b.block ∧ a.inputs = b.inputs) (hl : a.rows.length + b.rows.length ≤ 64) {s t : Int} (hs : 0 ≤ s ∧ s < (a.rows.length : Int)) (ht : 0 ≤ t ∧ t < (b.rows.length : Int)) :
    (apB a b (a.rows.length + b.rows.length) s.toNat t.toNat = false → sameD a b s t = none) ∧ (apB a b (a.rows.length + b.rows.length) s.toNat t.toNat = true → ∃ d, sameD a b s t = some d ∧ Least a b s t d ∧ d.length ≤ a.rows.length + b.rows.length) := by
  have hK := (fAt_ok ha hb hm.2.2 hs ht 4096).le ha hb
  refine ⟨fun h => ?_, fun h => ?_⟩
  · cases hd : sameD a b s t with
    | none => rfl
    | some d =>
      exfalso
      have h1 := (found_least hK hd).rounds.1
      rw [apart_late ha hb hm hl (by omega) (by omega) h1] at h
      cases h
  · cases hd : sameD a b s t with
    | none =>
      exfalso
      obtain ⟨u, g1, _, g3⟩ := apB_to _ _ _ h
      exact found_none hK hd g1 g3
    | some d => exact ⟨d, rfl, found_least hK hd, (found_least hK hd).rounds.2 _ h⟩
end

/-- inserting a cell where it belongs. -/
theorem srt_insert {l : List Cell} {i k : Nat} (hi : i < l.length) (hk : k ≤ i) (h1 : ∀ j, k ≤ j → j < i → ltC (l.getD i dc) ((srt (l.take i)).getD j dc)) (h2 : 0 < k → ¬ ltC (l.getD i dc) ((srt (l.take i)).getD (k - 1) dc)) :
    (srt (l.take i)).take k ++ [l.getD i dc] ++ (srt (l.take i)).drop k = srt (l.take (i + 1)) := by
  have hlen : (srt (l.take i)).length = i := by rw [srt_len, List.length_take]; omega
  have hA := srt_asc (l.take i)
  refine asc_eq ?_ ?_ (srt_asc _)
  · refine List.Perm.trans ?_ (srt_perm _).symm
    have e1 : l.take (i + 1) = l.take i ++ [l.getD i dc] := by
      rw [getD_get hi]; simp
    rw [e1, List.append_assoc]
    refine List.perm_append_comm_assoc .. |>.trans ?_
    rw [List.take_append_drop]
    refine List.perm_append_comm.trans ?_
    exact (srt_perm _).append_right _
  · have hS : (srt (l.take i)).take k ++ (srt (l.take i)).drop k = srt (l.take i) := List.take_append_drop ..
    rw [← hS] at hA
    have hsplit := List.pairwise_append.1 hA
    have hT : ∀ y ∈ (srt (l.take i)).take k, ¬ ltC (l.getD i dc) y := fun y hy => by
      obtain ⟨j, hj, rfl⟩ := List.mem_iff_getElem.1 hy
      rw [List.length_take] at hj
      have hlast := h2 (by omega)
      by_cases e : j = k - 1
      · subst e
        rw [getD_get (l := srt (l.take i)) (by omega)] at hlast
        rw [List.getElem_take]; exact hlast
      · have := List.pairwise_iff_getElem.1 (srt_asc (l.take i)) j (k - 1) (by omega) (by omega) (by omega)
        rw [getD_get (l := srt (l.take i)) (by omega)] at hlast
        rw [List.getElem_take]
        exact leC_trans this hlast
    have hD : ∀ y ∈ (srt (l.take i)).drop k, ltC (l.getD i dc) y := fun y hy => by
      obtain ⟨j, hj, rfl⟩ := List.mem_iff_getElem.1 hy
      rw [List.length_drop] at hj
      have := h1 (k + j) (by omega) (by omega)
      rw [getD_get (l := srt (l.take i)) (by omega)] at this
      rw [List.getElem_drop]; exact this
    refine List.pairwise_append.2 ⟨List.pairwise_append.2 ⟨hsplit.1, List.pairwise_singleton .., fun y hy z hz => ?_⟩, hsplit.2.1, fun y hy z hz => ?_⟩
    · rw [List.mem_singleton.1 hz]; exact hT y hy
    · rcases List.mem_append.1 hy with h3 | h3
      · exact hsplit.2.2 y h3 z hz
      · rw [List.mem_singleton.1 h3]
        exact fun h4 => ltC_asymm h4 (hD z hz)
end Go.Proofs.Ytmjkbidnghcfnaa
