/-
  Plain: comparing two states: the pairs that are found.
-/
import Derived.Test.YtmjkbidnghcfnaaPN
namespace Go.Proofs.Ytmjkbidnghcfnaa
set_option linter.unusedVariables false
open Go Go.Lift

structure Pr where
  s : Int
  t : Int
deriving DecidableEq, Inhabited
structure Fnd where
  pr : Pr
  list : List Int
deriving DecidableEq, Inhabited
def dfn : Fnd := ⟨⟨0, 0⟩, []⟩
/-- where a pair goes to. -/
def nextP (a b : Enc) (p : Pr) (i : Nat) : Pr := ⟨(cellAt a p.s.toNat i).to, (cellAt b p.t.toNat i).to⟩
def nextF (a b : Enc) (x : Fnd) (i : Nat) : Fnd := ⟨nextP a b x.pr i, x.list ++ [(i : Int)]⟩
def fStep (F : List Fnd) (y : Fnd) : List Fnd := if y.pr ∈ F.map Fnd.pr then F else F ++ [y]
def fRow (a b : Enc) (F : List Fnd) (x : Fnd) : Nat → List Fnd
  | 0 => F
  | i + 1 => fStep (fRow a b F x i) (nextF a b x i)
def fAt (a b : Enc) (s t : Int) : Nat → List Fnd
  | 0 => [⟨⟨s, t⟩, []⟩]
  | k + 1 => if k < (fAt a b s t k).length then fRow a b (fAt a b s t k) ((fAt a b s t k).getD k dfn) a.inputs.toNat else fAt a b s t k

theorem fStep_pre {F : List Fnd} {y : Fnd} : F <+: fStep F y := by
  unfold fStep; split
  · exact List.prefix_refl _
  · exact List.prefix_append _ _
theorem fRow_pre {a b : Enc} {F : List Fnd} {x : Fnd} : ∀ i, F <+: fRow a b F x i
  | 0 => List.prefix_refl _
  | i + 1 => (fRow_pre i).trans fStep_pre
theorem fAt_pre {a b : Enc} {s t : Int} (k : Nat) : fAt a b s t k <+: fAt a b s t (k + 1) := by
  show _ <+: (if _ then _ else _)
  split
  · exact fRow_pre _
  · exact List.prefix_refl _
theorem fAt_pres {a b : Enc} {s t : Int} (k : Nat) : ∀ j, fAt a b s t k <+: fAt a b s t (k + j)
  | 0 => List.prefix_refl _
  | j + 1 => (fAt_pres k j).trans (fAt_pre (k + j))
theorem preF {L M : List Fnd} (h : L <+: M) {k : Nat} (hk : k < L.length) : M.getD k dfn = L.getD k dfn := by
  obtain ⟨N, rfl⟩ := h
  rw [getD_app, if_pos hk]
theorem fAt_stay {a b : Enc} {s t : Int} {k : Nat} (h : (fAt a b s t k).length ≤ k) : ∀ j, fAt a b s t (k + j) = fAt a b s t k
  | 0 => rfl
  | j + 1 => by
    show (if k + j < (fAt a b s t (k + j)).length then _ else fAt a b s t (k + j)) = _
    rw [fAt_stay h j, if_neg (by omega)]
theorem fAt_step {a b : Enc} {s t : Int} {k : Nat} (h : k < (fAt a b s t k).length) : fAt a b s t (k + 1) = fRow a b (fAt a b s t k) ((fAt a b s t k).getD k dfn) a.inputs.toNat := if_pos h
/-- what is found is a list of pairs of states, none twice; its lists are not long. -/
structure FOK (a b : Enc) (F : List Fnd) : Prop where
  nodup : (F.map Fnd.pr).Nodup
  lt : ∀ x ∈ F, (0 ≤ x.pr.s ∧ x.pr.s < (a.rows.length : Int)) ∧ 0 ≤ x.pr.t ∧ x.pr.t < (b.rows.length : Int)
  short : ∀ x ∈ F, x.list.length < F.length
theorem fStep_ok {a b : Enc} {F : List Fnd} (h : FOK a b F) {y : Fnd} (h1 : (0 ≤ y.pr.s ∧ y.pr.s < (a.rows.length : Int)) ∧ 0 ≤ y.pr.t ∧ y.pr.t < (b.rows.length : Int)) (h2 : y.list.length ≤ F.length) : FOK a b (fStep F y) := by
  unfold fStep
  split
  · exact h
  · rename_i hn
    refine ⟨?_, fun x hx => ?_, fun x hx => ?_⟩
    · rw [List.map_append, List.nodup_append]
      refine ⟨h.nodup, by simp, fun p hp q hq e => ?_⟩
      have : q = y.pr := by simpa using hq
      rw [e, this] at hp; exact hn hp
    · rcases List.mem_append.1 hx with h3 | h3
      · exact h.lt x h3
      · have : x = y := by simpa using h3
        rw [this]; exact h1
    · rw [List.length_append, List.length_singleton]
      rcases List.mem_append.1 hx with h3 | h3
      · have := h.short x h3; omega
      · have : x = y := by simpa using h3
        rw [this]; omega
theorem fRow_ok {a b : Enc} (ha : checkE a = 0) (hb : checkE b = 0) (hi : a.inputs = b.inputs) {F : List Fnd} (h : FOK a b F) {x : Fnd} (hx : x ∈ F) : ∀ i, i ≤ a.inputs.toNat → FOK a b (fRow a b F x i)
  | 0, _ => h
  | i + 1, hi' => by
    have ih := fRow_ok ha hb hi h hx i (by omega)
    have hl := h.lt x hx
    have hs := h.short x hx
    have hp := (fRow_pre (a := a) (b := b) (F := F) (x := x) i).length_le
    have r1 := row_eq ha (k := x.pr.s.toNat) (by omega)
    have r2 := row_eq hb (k := x.pr.t.toNat) (by omega)
    refine fStep_ok ih ⟨cell_to ha (s := x.pr.s.toNat) (by omega) (by omega), cell_to hb (s := x.pr.t.toNat) (by omega) (by omega)⟩ ?_
    show (x.list ++ [(i : Int)]).length ≤ _
    rw [List.length_append, List.length_singleton]; omega
theorem fAt_ok {a b : Enc} (ha : checkE a = 0) (hb : checkE b = 0) (hi : a.inputs = b.inputs) {s t : Int} (hs : 0 ≤ s ∧ s < (a.rows.length : Int)) (ht : 0 ≤ t ∧ t < (b.rows.length : Int)) : ∀ k, FOK a b (fAt a b s t k)
  | 0 => ⟨by simp [fAt], fun x hx => by
      have : x = ⟨⟨s, t⟩, []⟩ := by simpa [fAt] using hx
      rw [this]; exact ⟨hs, ht⟩, fun x hx => by
      have : x = ⟨⟨s, t⟩, []⟩ := by simpa [fAt] using hx
      rw [this]; simp [fAt]⟩
  | k + 1 => by
    have ih := fAt_ok ha hb hi hs ht k
    show FOK a b (if _ then _ else _)
    split
    · rename_i hk
      exact fRow_ok ha hb hi ih (getD_mem hk) _ (Nat.le_refl _)
    · exact ih
theorem FOK.len {a b : Enc} {F : List Fnd} (h : FOK a b F) : F.length ≤ a.rows.length * b.rows.length := by
  have hnd : (F.map fun x => x.pr.s * (b.rows.length : Int) + x.pr.t).Nodup := by
    have h1 := h.nodup
    rw [List.nodup_iff_pairwise_ne, List.pairwise_map] at h1 ⊢
    refine List.Pairwise.imp_of_mem (fun {x y} hx hy hne e => hne ?_) h1
    obtain ⟨⟨a1, a2⟩, a3, a4⟩ := h.lt x hx
    obtain ⟨⟨b1, b2⟩, b3, b4⟩ := h.lt y hy
    have hb0 : (0 : Int) < b.rows.length := by omega
    have e1 : x.pr.s = y.pr.s := by
      have d1 := Int.add_mul_ediv_right x.pr.t x.pr.s (show (b.rows.length : Int) ≠ 0 by omega)
      have d2 := Int.add_mul_ediv_right y.pr.t y.pr.s (show (b.rows.length : Int) ≠ 0 by omega)
      rw [Int.ediv_eq_zero_of_lt a3 a4] at d1
      rw [Int.ediv_eq_zero_of_lt b3 b4] at d2
      rw [Int.add_comm, e, Int.add_comm, d2] at d1
      omega
    have e2 : x.pr.t = y.pr.t := by rw [e1] at e; omega
    have : ∀ p q : Pr, p.s = q.s → p.t = q.t → p = q := fun p q h1 h2 => by cases p; cases q; simp only at h1 h2; subst h1 h2; rfl
    exact this _ _ e1 e2
  have := nodup_le (n := a.rows.length * b.rows.length) hnd fun v hv => by
    obtain ⟨x, hx, rfl⟩ := List.mem_map.1 hv
    obtain ⟨⟨a1, a2⟩, a3, a4⟩ := h.lt x hx
    refine ⟨Int.add_nonneg (Int.mul_nonneg a1 (by omega)) a3, ?_⟩
    have h1 : x.pr.s * (b.rows.length : Int) ≤ ((a.rows.length : Int) - 1) * b.rows.length := Int.mul_le_mul_of_nonneg_right (by omega) (by omega)
    rw [Int.sub_mul] at h1
    rw [Int.natCast_mul]
    omega
  rwa [List.length_map] at this
theorem FOK.le {a b : Enc} (ha : checkE a = 0) (hb : checkE b = 0) {F : List Fnd} (h : FOK a b F) : F.length ≤ 4096 := by
  have h1 := rows_len ha
  have h2 := rows_len hb
  exact Nat.le_trans h.len (Nat.mul_le_mul h1 h2)

/-- the queue holds what is found and not gone through. -/
structure QF (L : List Fnd) (k lo : Nat) (Q : List Fnd) : Prop where
  le : lo ≤ Q.length
  le2 : k ≤ L.length
  eq : Q.drop lo = L.drop k
theorem QF.len {L : List Fnd} {k lo : Nat} {Q : List Fnd} (h : QF L k lo Q) : Q.length - lo = L.length - k := by
  have := congrArg List.length h.eq
  rwa [List.length_drop, List.length_drop] at this
theorem QF.head {L : List Fnd} {k lo : Nat} {Q : List Fnd} (h : QF L k lo Q) (hk : k < L.length) : Q.getD lo dfn = L.getD k dfn := by
  have h2 := congrArg (fun l => l.getD 0 dfn) h.eq
  simp only [List.getD_eq_getElem?_getD, List.getElem?_drop, Nat.add_zero] at h2
  simpa only [List.getD_eq_getElem?_getD] using h2
theorem QF.pop {L : List Fnd} {k lo : Nat} {Q : List Fnd} (h : QF L k lo Q) (hk : k < L.length) : QF L (k + 1) (lo + 1) Q := by
  have h1 := h.len
  refine ⟨by omega, by omega, ?_⟩
  have h2 := congrArg (List.drop 1) h.eq
  rwa [List.drop_drop, List.drop_drop] at h2
theorem QF.push {L : List Fnd} {k lo : Nat} {Q : List Fnd} (h : QF L k lo Q) {x : Fnd} : QF (L ++ [x]) k 0 (Q.drop lo ++ [x]) := by
  refine ⟨Nat.zero_le _, by rw [List.length_append]; have := h.le2; omega, ?_⟩
  rw [List.drop_zero, h.eq, List.drop_append_of_le_length h.le2]

/-- the words of a pair are the same for the inputs below n. -/
def NoMis (a b : Enc) (p : Pr) (n : Nat) : Prop := ∀ j, j < n → (cellAt a p.s.toNat j).word = (cellAt b p.t.toNat j).word
/-- where the first difference is found. -/
structure Bad (a b : Enc) (s t : Int) (k i : Nat) : Prop where
  lt : k < (fAt a b s t k).length
  li : i < a.inputs.toNat
  old : ∀ j, j < k → NoMis a b ((fAt a b s t k).getD j dfn).pr a.inputs.toNat
  row : NoMis a b ((fAt a b s t k).getD k dfn).pr i
  mis : (cellAt a ((fAt a b s t k).getD k dfn).pr.s.toNat i).word ≠ (cellAt b ((fAt a b s t k).getD k dfn).pr.t.toNat i).word
theorem Bad.le {a b : Enc} {s t : Int} {k i k' i' : Nat} (h : Bad a b s t k i) (h' : Bad a b s t k' i') : k' ≤ k := by
  rcases Nat.lt_or_ge k k' with hk | hk
  · exfalso
    have hp := fAt_pres (a := a) (b := b) (s := s) (t := t) k (k' - k)
    rw [show k + (k' - k) = k' by omega] at hp
    have := h'.old k hk i h.li
    rw [preF hp h.lt] at this
    exact h.mis this
  · exact hk
theorem Bad.same {a b : Enc} {s t : Int} {k i k' i' : Nat} (h : Bad a b s t k i) (h' : Bad a b s t k' i') : k = k' ∧ i = i' := by
  have hk : k = k' := Nat.le_antisymm (h'.le h) (h.le h')
  subst hk
  refine ⟨rfl, ?_⟩
  rcases Nat.lt_trichotomy i i' with h1 | h1 | h1
  · exact absurd (h'.row i h1) h.mis
  · exact h1
  · exact absurd (h.row i' h1) h'.mis
open Classical in
/-- the list that tells two states apart. -/
noncomputable def sameD (a b : Enc) (s t : Int) : Option (List Int) :=
  if h : ∃ q : Nat × Nat, Bad a b s t q.1 q.2 then some (((fAt a b s t (Classical.choose h).1).getD (Classical.choose h).1 dfn).list ++ [((Classical.choose h).2 : Int)]) else none
theorem sameD_bad {a b : Enc} {s t : Int} {k i : Nat} (h : Bad a b s t k i) : sameD a b s t = some (((fAt a b s t k).getD k dfn).list ++ [(i : Int)]) := by
  have he : ∃ q : Nat × Nat, Bad a b s t q.1 q.2 := ⟨(k, i), h⟩
  unfold sameD
  rw [dif_pos he]
  obtain ⟨h1, h2⟩ := (Classical.choose_spec he).same h
  rw [h1, h2]
theorem sameD_some {a b : Enc} {s t : Int} {d : List Int} (h : sameD a b s t = some d) : ∃ k i, Bad a b s t k i ∧ d = ((fAt a b s t k).getD k dfn).list ++ [(i : Int)] := by
  unfold sameD at h
  split at h
  · rename_i he
    injection h with h
    exact ⟨_, _, Classical.choose_spec he, h.symm⟩
  · cases h
theorem sameD_none {a b : Enc} {s t : Int} {k : Nat} (hk : (fAt a b s t k).length ≤ k) (h : ∀ j, j < (fAt a b s t k).length → NoMis a b ((fAt a b s t k).getD j dfn).pr a.inputs.toNat) : sameD a b s t = none := by
  unfold sameD
  rw [dif_neg]
  rintro ⟨⟨m, i⟩, hb⟩
  simp only at hb
  have hml := hb.lt
  rcases Nat.lt_or_ge m k with h1 | h1
  · have hp := fAt_pres (a := a) (b := b) (s := s) (t := t) m (k - m)
    rw [show m + (k - m) = k by omega] at hp
    have := h m (Nat.lt_of_lt_of_le hml hp.length_le) i hb.li
    rw [preF hp hml] at this
    exact hb.mis this
  · have hst := fAt_stay hk (m - k)
    rw [show k + (m - k) = m by omega] at hst
    rw [hst] at hml
    omega
end Go.Proofs.Ytmjkbidnghcfnaa
