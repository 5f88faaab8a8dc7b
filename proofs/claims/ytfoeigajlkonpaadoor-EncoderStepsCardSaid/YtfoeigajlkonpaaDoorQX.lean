/-
  Plain: the graph of sets.
-/
import Derived.Test.YtfoeigajlkonpaaDoorPH
import Derived.Test.YtfoeigajlkonpaaDoorQM
namespace Go.Proofs.YtfoeigajlkonpaaDoor
set_option linter.unusedSimpArgs false
set_option linter.unusedVariables false
open Go Go.Lift

/-- sets in the order in which they are found, and the edges between them. -/
structure Sb where
  all : List (List Int)
  es : List Edge
def sbPut (g : Gr) (i : Nat) (st : Sb) (k : Nat) : Sb :=
  if stepL g k (st.all.getD i []) = [] then st else
    ⟨if stepL g k (st.all.getD i []) ∈ st.all then st.all else st.all ++ [stepL g k (st.all.getD i [])], st.es ++ [⟨i, k, st.all.idxOf (stepL g k (st.all.getD i []))⟩]⟩
def sbRow (g : Gr) (i : Nat) (st : Sb) (k : Nat) : Sb := (List.range k).foldl (sbPut g i) st
def sbAt (g : Gr) : Nat → Sb
  | 0 => ⟨[iotaL g.states.toNat], []⟩
  | i + 1 => if i < (sbAt g i).all.length then sbRow g i (sbAt g i) g.labels.toNat else sbAt g i
theorem sbRow_zero {g : Gr} {i : Nat} {st : Sb} : sbRow g i st 0 = st := rfl
theorem sbRow_succ {g : Gr} {i k : Nat} {st : Sb} : sbRow g i st (k + 1) = sbPut g i (sbRow g i st k) k := by simp [sbRow, List.range_succ]
theorem sbAt_succ {g : Gr} {i : Nat} (h : i < (sbAt g i).all.length) : sbAt g (i + 1) = sbRow g i (sbAt g i) g.labels.toNat := if_pos h
def sbOver (st : Sb) : Prop := 64 < st.all.length ∨ 1024 < st.es.length
instance {st : Sb} : Decidable (sbOver st) := by unfold sbOver; infer_instance

theorem pre_at {α : Type} {L M : List α} {d : α} (h : L <+: M) {k : Nat} (hk : k < L.length) : M.getD k d = L.getD k d := by
  obtain ⟨N, rfl⟩ := h
  simp only [List.getD_eq_getElem?_getD]; rw [List.getElem?_append_left hk]
structure SbPre (a b : Sb) : Prop where
  all : a.all <+: b.all
  es : a.es <+: b.es
theorem SbPre.refl {a : Sb} : SbPre a a := ⟨List.prefix_refl _, List.prefix_refl _⟩
theorem SbPre.trans {a b c : Sb} (h : SbPre a b) (k : SbPre b c) : SbPre a c := ⟨h.all.trans k.all, h.es.trans k.es⟩
theorem SbPre.over {a b : Sb} (h : SbPre a b) (k : sbOver a) : sbOver b := by
  have := h.all.length_le; have := h.es.length_le
  unfold sbOver at *; omega
theorem sbPut_pre {g : Gr} {i k : Nat} {st : Sb} : SbPre st (sbPut g i st k) := by
  unfold sbPut
  split
  · exact .refl
  · refine ⟨?_, List.prefix_append _ _⟩
    show _ <+: if _ then _ else _
    split
    · exact List.prefix_refl _
    · exact List.prefix_append _ _
theorem sbRow_pre {g : Gr} {i : Nat} {st : Sb} : ∀ k, SbPre st (sbRow g i st k)
  | 0 => .refl
  | k + 1 => by rw [sbRow_succ]; exact (sbRow_pre k).trans sbPut_pre
theorem sbRow_up {g : Gr} {i k : Nat} {st : Sb} : ∀ j, SbPre (sbRow g i st k) (sbRow g i st (k + j))
  | 0 => .refl
  | j + 1 => by
    show SbPre _ (sbRow g i st ((k + j) + 1))
    rw [sbRow_succ]; exact (sbRow_up j).trans sbPut_pre
theorem sbAt_pre {g : Gr} {i : Nat} : SbPre (sbAt g i) (sbAt g (i + 1)) := by
  show SbPre _ (if _ then _ else _)
  split
  · exact sbRow_pre _
  · exact .refl
theorem sbAt_up {g : Gr} {i : Nat} : ∀ j, SbPre (sbAt g i) (sbAt g (i + j))
  | 0 => .refl
  | j + 1 => (sbAt_up j).trans sbAt_pre
theorem sbAt_stay {g : Gr} {i : Nat} (h : (sbAt g i).all.length ≤ i) : ∀ j, sbAt g (i + j) = sbAt g i
  | 0 => rfl
  | j + 1 => by
    have := sbAt_stay h j
    show (if i + j < (sbAt g (i + j)).all.length then _ else sbAt g (i + j)) = _
    rw [if_neg (by rw [this]; omega), this]

/-- rows below i, and labels below k of the row i, are done. -/
def Done (i k t l : Nat) : Prop := t < i ∨ t = i ∧ l < k
structure SbOK (g : Gr) (i k : Nat) (st : Sb) : Prop where
  nd : st.all.Nodup
  ne : 0 < st.all.length
  set : ∀ x ∈ st.all, x ≠ [] ∧ x.Pairwise (· < ·) ∧ ∀ y ∈ x, 0 ≤ y ∧ y < g.states
  edg : ∀ x ∈ st.es, ∃ t l q : Nat, x = ⟨t, l, q⟩ ∧ Done i k t l ∧ t < st.all.length ∧ l < g.labels.toNat ∧ q < st.all.length ∧ st.all.getD q [] = stepL g l (st.all.getD t [])
  cov : ∀ t l : Nat, Done i k t l → t < st.all.length → l < g.labels.toNat → stepL g l (st.all.getD t []) ≠ [] → ∃ x ∈ st.es, x.frm = t ∧ x.lab = l
  srt : st.es.Pairwise fun a b => a.frm < b.frm ∨ a.frm = b.frm ∧ a.lab < b.lab
theorem put_all {all : List (List Int)} {x : List Int} : (if x ∈ all then all else all ++ [x]).getD (all.idxOf x) [] = x ∧ all.idxOf x < (if x ∈ all then all else all ++ [x]).length := by
  by_cases h : x ∈ all
  · rw [if_pos h]
    have := List.idxOf_lt_length_of_mem h
    exact ⟨by rw [getD_get this]; exact List.getElem_idxOf this, this⟩
  · rw [if_neg h, List.idxOf_eq_length h]
    simp
theorem SbOK.put {g : Gr} (hv : gcheck g = 0) {i k : Nat} {st : Sb} (h : SbOK g i k st) (hi : i < st.all.length) (hk : k < g.labels.toNat) : SbOK g i (k + 1) (sbPut g i st k) := by
  obtain ⟨x, hx⟩ : ∃ x, stepL g k (st.all.getD i []) = x := ⟨_, rfl⟩
  have hp : SbPre st (sbPut g i st k) := sbPut_pre
  unfold sbPut at hp ⊢
  rw [hx] at hp ⊢
  by_cases he : x = []
  · rw [if_pos he]
    refine ⟨h.nd, h.ne, h.set, fun y hy => ?_, fun t l hd ht hl hne => ?_, h.srt⟩
    · obtain ⟨t, l, q, h1, h2, h3⟩ := h.edg y hy
      exact ⟨t, l, q, h1, by unfold Done at *; omega, h3⟩
    · refine h.cov t l ?_ ht hl hne
      unfold Done at *
      rcases hd with hd | ⟨rfl, hd⟩
      · exact .inl hd
      · refine .inr ⟨rfl, ?_⟩
        rcases Nat.lt_succ_iff_lt_or_eq.1 hd with h1 | rfl
        · exact h1
        · rw [hx] at hne; exact absurd he hne
  · rw [if_neg he] at hp ⊢
    obtain ⟨p1, p2⟩ := put_all (all := st.all) (x := x)
    have pa := hp.all
    refine ⟨?_, Nat.lt_of_lt_of_le h.ne pa.length_le, ?_, ?_, ?_, ?_⟩
    · show (if _ then _ else _ : List (List Int)).Nodup
      split
      · exact h.nd
      · rename_i hn
        rw [List.nodup_append]
        refine ⟨h.nd, by simp, fun a ha b hb e => ?_⟩
        rw [List.mem_singleton] at hb
        subst hb; subst e; exact hn ha
    · intro y hy
      have hy' : y ∈ st.all ∨ y = x := by
        change y ∈ (if _ then _ else _ : List (List Int)) at hy
        split at hy
        · exact .inl hy
        · rcases List.mem_append.1 hy with h1 | h1
          · exact .inl h1
          · exact .inr (List.mem_singleton.1 h1)
      rcases hy' with h1 | rfl
      · exact h.set y h1
      · rw [← hx] at he ⊢
        exact ⟨he, step_asc, step_box hv⟩
    · intro y hy
      rcases List.mem_append.1 hy with h1 | h1
      · obtain ⟨t, l, q, h2, h3, h4, h5, h6, h7⟩ := h.edg y h1
        refine ⟨t, l, q, h2, by unfold Done at *; omega, Nat.lt_of_lt_of_le h4 pa.length_le, h5, Nat.lt_of_lt_of_le h6 pa.length_le, ?_⟩
        rw [pre_at pa h6, pre_at pa h4]; exact h7
      · rw [List.mem_singleton] at h1
        subst h1
        refine ⟨i, k, _, rfl, .inr ⟨rfl, Nat.lt_succ_self _⟩, Nat.lt_of_lt_of_le hi pa.length_le, hk, p2, ?_⟩
        rw [pre_at pa hi, hx]; exact p1
    · intro t l hd ht hl hne
      by_cases hq : t = i ∧ l = k
      · obtain ⟨rfl, rfl⟩ := hq
        exact ⟨_, List.mem_append_right _ (List.mem_singleton.2 rfl), rfl, rfl⟩
      · have hd' : Done i k t l := by unfold Done at *; omega
        have ht' : t < st.all.length := by unfold Done at hd'; omega
        rw [pre_at pa ht'] at hne
        obtain ⟨y, h1, h2⟩ := h.cov t l hd' ht' hl hne
        exact ⟨y, List.mem_append_left _ h1, h2⟩
    · show (st.es ++ [_]).Pairwise _
      rw [List.pairwise_append]
      refine ⟨h.srt, List.pairwise_singleton _ _, fun a ha b hb => ?_⟩
      rw [List.mem_singleton] at hb
      subst hb
      obtain ⟨t, l, q, rfl, h3, _⟩ := h.edg a ha
      show ((t : Int) < i ∨ (t : Int) = i ∧ (l : Int) < k)
      unfold Done at h3; omega
theorem SbOK.row {g : Gr} (hv : gcheck g = 0) {i : Nat} {st : Sb} (h : SbOK g i 0 st) (hi : i < st.all.length) : ∀ {k : Nat}, k ≤ g.labels.toNat → SbOK g i k (sbRow g i st k)
  | 0, _ => h
  | k + 1, hk => by
    rw [sbRow_succ]
    exact (SbOK.row hv h hi (k := k) (by omega)).put hv (Nat.lt_of_lt_of_le hi (sbRow_pre k).all.length_le) (by omega)
theorem SbOK.next {g : Gr} {i : Nat} {st : Sb} (h : SbOK g i g.labels.toNat st) : SbOK g (i + 1) 0 st := by
  refine ⟨h.nd, h.ne, h.set, fun x hx => ?_, fun t l hd ht hl hne => ?_, h.srt⟩
  · obtain ⟨t, l, q, h1, h2, h3⟩ := h.edg x hx
    exact ⟨t, l, q, h1, (by unfold Done at *; omega), h3⟩
  · exact h.cov t l (by unfold Done at *; omega) ht hl hne
theorem SbOK.stay {g : Gr} {i : Nat} {st : Sb} (h : SbOK g i 0 st) (hi : st.all.length ≤ i) : SbOK g (i + 1) 0 st := by
  refine ⟨h.nd, h.ne, h.set, fun x hx => ?_, fun t l hd ht hl hne => ?_, h.srt⟩
  · obtain ⟨t, l, q, h1, h2, h3⟩ := h.edg x hx
    exact ⟨t, l, q, h1, (by unfold Done at *; omega), h3⟩
  · exact h.cov t l (by unfold Done at *; omega) ht hl hne
theorem sbAt_ok {g : Gr} (hv : gcheck g = 0) (hs : 0 < g.states) : ∀ i, SbOK g i 0 (sbAt g i)
  | 0 => by
    refine ⟨(by simp [sbAt]), (by simp [sbAt]), fun x hx => ?_, fun x hx => (by cases hx), fun t l hd => (by unfold Done at hd; omega), List.Pairwise.nil⟩
    have hx' : x ∈ [iotaL g.states.toNat] := hx
    rw [List.mem_singleton] at hx'
    subst hx'
    refine ⟨fun h => ?_, iota_asc, fun y hy => by have := iota_mem hy; omega⟩
    have := iota_len (m := g.states.toNat)
    rw [h] at this; simp at this; omega
  | i + 1 => by
    show SbOK g (i + 1) 0 (if _ then _ else _)
    split
    · rename_i h
      exact ((sbAt_ok hv hs i).row hv h (Nat.le_refl _)).next
    · rename_i h
      exact (sbAt_ok hv hs i).stay (by omega)

/-- what Build answers. -/
def buildN (g : Gr) : Int := if gcheck g ≠ 0 then 1 else if 0 < g.states ∧ sbOver (sbAt g 65) then 4 else 0
def buildG (g : Gr) : Gr := if buildN g ≠ 0 then ⟨0, 0, []⟩ else if g.states = 0 then ⟨g.labels, 0, []⟩ else ⟨g.labels, (sbAt g 65).all.length, (sbAt g 65).es⟩
def buildS (g : Gr) : List (List Int) := if buildN g ≠ 0 ∨ g.states = 0 then [] else (sbAt g 65).all
theorem sb_done {g : Gr} (h : ¬ sbOver (sbAt g 65)) : (sbAt g 65).all.length ≤ 64 ∧ (sbAt g 65).es.length ≤ 1024 := by unfold sbOver at h; omega
theorem sb_over {g : Gr} {i : Nat} (hi : i ≤ 65) (h : sbOver (sbAt g i)) : sbOver (sbAt g 65) := by
  have := sbAt_up (g := g) (i := i) (65 - i)
  rw [Nat.add_sub_cancel' hi] at this
  exact this.over h
theorem sb_final {g : Gr} {i : Nat} (hi : i ≤ 65) (h : (sbAt g i).all.length ≤ i) : sbAt g 65 = sbAt g i := by
  have := sbAt_stay h (65 - i)
  rwa [Nat.add_sub_cancel' hi] at this
theorem sb_next {g : Gr} {i k : Nat} (hi : i ≤ 64) (hl : i < (sbAt g i).all.length) (hk : k ≤ g.labels.toNat) (h : sbOver (sbRow g i (sbAt g i) k)) : sbOver (sbAt g 65) := by
  refine sb_over (i := i + 1) (by omega) ?_
  rw [sbAt_succ hl]
  have := sbRow_up (g := g) (i := i) (k := k) (st := sbAt g i) (g.labels.toNat - k)
  rw [Nat.add_sub_cancel' hk] at this
  exact this.over h
end Go.Proofs.YtfoeigajlkonpaaDoor

namespace Go.Proofs.YtfoeigajlkonpaaDoor
set_option linter.unusedSimpArgs false
set_option linter.unusedVariables false
open Go Go.Lift

/-- the queue behind i rounds. -/
def qAt (Q0 : List Pr) (nx : List Pr → Pr → List Pr) : Nat → List Pr
  | 0 => Q0
  | i + 1 => if i < (qAt Q0 nx i).length then nx (qAt Q0 nx i) ((qAt Q0 nx i).getD i dp) else qAt Q0 nx i
structure QOK (P : Pr → Prop) (N : Nat) (Q0 : List Pr) (nx : List Pr → Pr → List Pr) : Prop where
  ext0 : Ext P [] Q0
  ext : ∀ Q p, P p → Ext P Q (nx Q p)
  len : ∀ Q : List Pr, Q.Nodup → (∀ p ∈ Q, P p) → Q.length ≤ N
theorem qAt_succ {Q0 : List Pr} {nx : List Pr → Pr → List Pr} {i : Nat} (h : i < (qAt Q0 nx i).length) : qAt Q0 nx (i + 1) = nx (qAt Q0 nx i) ((qAt Q0 nx i).getD i dp) := if_pos h
theorem qAt_stay {Q0 : List Pr} {nx : List Pr → Pr → List Pr} {i : Nat} (h : (qAt Q0 nx i).length ≤ i) : ∀ j, qAt Q0 nx (i + j) = qAt Q0 nx i
  | 0 => rfl
  | j + 1 => by
    have := qAt_stay h j
    show (if i + j < (qAt Q0 nx (i + j)).length then _ else qAt Q0 nx (i + j)) = _
    rw [if_neg (by rw [this]; omega), this]
section
variable {P : Pr → Prop} {N : Nat} {Q0 : List Pr} {nx : List Pr → Pr → List Pr} (h : QOK P N Q0 nx)
include h
theorem QOK.ok : ∀ i, (qAt Q0 nx i).Nodup ∧ ∀ p ∈ qAt Q0 nx i, P p
  | 0 => ⟨h.ext0.nd List.nodup_nil, fun p hp => (h.ext0.new p hp).elim (fun hx => by cases hx) id⟩
  | i + 1 => by
    obtain ⟨h1, h2⟩ := QOK.ok i
    by_cases hi : i < (qAt Q0 nx i).length
    · rw [qAt_succ hi]
      have he := h.ext (qAt Q0 nx i) _ (h2 _ (getD_mem (d := dp) hi))
      exact ⟨he.nd h1, fun p hp => (he.new p hp).elim (h2 p) id⟩
    · rw [qAt_stay (by omega) 1]
      exact ⟨h1, h2⟩
theorem QOK.at {i j : Nat} (hj : j < (qAt Q0 nx i).length) : P ((qAt Q0 nx i).getD j dp) := (h.ok i).2 _ (getD_mem (d := dp) hj)
theorem QOK.bd (i : Nat) : (qAt Q0 nx i).length ≤ N := h.len _ (h.ok i).1 (h.ok i).2
theorem QOK.step (i : Nat) : Ext P (qAt Q0 nx i) (qAt Q0 nx (i + 1)) := by
  show Ext _ _ (if _ then _ else _)
  split
  · rename_i hi; exact h.ext _ _ (h.at hi)
  · exact .refl
theorem QOK.up (i : Nat) : ∀ j, Ext P (qAt Q0 nx i) (qAt Q0 nx (i + j))
  | 0 => .refl
  | j + 1 => (QOK.up i j).trans (h.step _)
theorem QOK.all (i : Nat) (hi : i ≤ N) : Ext P (qAt Q0 nx i) (qAt Q0 nx N) := by
  have := h.up i (N - i)
  rwa [Nat.add_sub_cancel' hi] at this
omit h in
theorem q_final {i : Nat} (hl : (qAt Q0 nx i).length ≤ i) (hi : i ≤ N) : qAt Q0 nx N = qAt Q0 nx i := by
  have := qAt_stay hl (N - i)
  rwa [Nat.add_sub_cancel' hi] at this
theorem QOK.nth : ∀ {i j : Nat}, j < i → j < (qAt Q0 nx i).length → (qAt Q0 nx i).getD j dp = (qAt Q0 nx j).getD j dp ∧ j < (qAt Q0 nx j).length
  | 0, j, hj, _ => by omega
  | i + 1, j, hj, hl => by
    have key : j < (qAt Q0 nx i).length → (qAt Q0 nx (i + 1)).getD j dp = (qAt Q0 nx i).getD j dp := fun hc => pre_at (h.step i).pre hc
    by_cases hc : j < (qAt Q0 nx i).length
    · rw [key hc]
      rcases Nat.lt_succ_iff_lt_or_eq.1 hj with h1 | rfl
      · exact QOK.nth h1 hc
      · exact ⟨rfl, hc⟩
    · have h2 := qAt_stay (Q0 := Q0) (nx := nx) (i := i) (by omega) 1
      rw [h2] at hl; exact absurd hl hc
/-- what each round makes of a pair of the last queue lies in it. -/
theorem QOK.next {p x : Pr} (hp : p ∈ qAt Q0 nx N) (hx : ∀ Q, x ∈ nx Q p) : x ∈ qAt Q0 nx N := by
  obtain ⟨j, hj, rfl⟩ := List.mem_iff_getElem.1 hp
  have hb := h.bd N
  obtain ⟨h1, h2⟩ := h.nth (i := N) (j := j) (by omega) hj
  rw [getD_get hj] at h1
  refine (h.all (j + 1) (by omega)).mem ?_
  rw [qAt_succ h2, ← h1]
  exact hx _
/-- a bad pair is found, or there is none. -/
theorem QOK.hit {bad : Pr → Bool} {i : Nat} (hi : i < (qAt Q0 nx i).length) (hb : bad ((qAt Q0 nx i).getD i dp) = true) : (qAt Q0 nx N).any bad = true := by
  have := h.bd i
  rw [List.any_eq_true]
  exact ⟨_, (h.all i (by omega)).mem (getD_mem (d := dp) hi), hb⟩
omit h in
theorem q_end {bad : Pr → Bool} {i : Nat} (hl : (qAt Q0 nx i).length ≤ i) (hi : i ≤ N) (hb : ∀ j, j < i → bad ((qAt Q0 nx i).getD j dp) = false) : (qAt Q0 nx N).any bad = false := by
  rw [q_final hl hi, List.any_eq_false]
  intro p hp
  obtain ⟨j, hj, rfl⟩ := List.mem_iff_getElem.1 hp
  have := hb j (by omega)
  rw [getD_get hj] at this
  rw [this]; simp
end

/-- a closed graph of sets. -/
structure SbFin (g : Gr) (st : Sb) : Prop where
  nd : st.all.Nodup
  ne : 0 < st.all.length
  set : ∀ x ∈ st.all, x ≠ [] ∧ x.Pairwise (· < ·) ∧ ∀ y ∈ x, 0 ≤ y ∧ y < g.states
  edg : ∀ x ∈ st.es, ∃ t l q : Nat, x = ⟨t, l, q⟩ ∧ t < st.all.length ∧ l < g.labels.toNat ∧ q < st.all.length ∧ st.all.getD q [] = stepL g l (st.all.getD t [])
  cov : ∀ t l : Nat, t < st.all.length → l < g.labels.toNat → stepL g l (st.all.getD t []) ≠ [] → ∃ x ∈ st.es, x.frm = t ∧ x.lab = l
  srt : st.es.Pairwise fun a b => a.frm < b.frm ∨ a.frm = b.frm ∧ a.lab < b.lab
theorem sb_fin {g : Gr} (hv : gcheck g = 0) (hs : 0 < g.states) {i : Nat} (hl : (sbAt g i).all.length ≤ i) : SbFin g (sbAt g i) := by
  have h := sbAt_ok hv hs i
  refine ⟨h.nd, h.ne, h.set, fun x hx => ?_, fun t l ht hl2 hne => h.cov t l (.inl (by omega)) ht hl2 hne, h.srt⟩
  obtain ⟨t, l, q, h1, h2, h3⟩ := h.edg x hx
  exact ⟨t, l, q, h1, h3⟩
/-- where a set leads by a label; -1 if it does not. -/
def sbTo (st : Sb) (t l : Int) : Int := match st.es.find? fun x => decide (x.frm = t ∧ x.lab = l) with
  | some x => x.to
  | none => -1
section
variable {g : Gr} {st : Sb} (h : SbFin g st)
include h
theorem SbFin.to_some {t l : Nat} (ht : t < st.all.length) (hl : l < g.labels.toNat) (hne : stepL g l (st.all.getD t []) ≠ []) : ∃ q : Nat, sbTo st t l = q ∧ q < st.all.length ∧ st.all.getD q [] = stepL g l (st.all.getD t []) := by
  obtain ⟨x, hx, h1, h2⟩ := h.cov t l ht hl hne
  unfold sbTo
  cases hf : st.es.find? (fun x : Edge => decide (x.frm = (t : Int) ∧ x.lab = (l : Int))) with
  | none =>
    have := List.find?_eq_none.1 hf x hx
    simp [h1, h2] at this
  | some y =>
    have h3 := List.mem_of_find?_eq_some hf
    have h4 := of_decide_eq_true (List.find?_some (p := fun x : Edge => decide (x.frm = (t : Int) ∧ x.lab = (l : Int))) hf)
    obtain ⟨t', l', q, rfl, h5, h6, h7, h8⟩ := h.edg y h3
    obtain ⟨h9, h10⟩ := h4
    have h9' : (t' : Int) = t := h9
    have h10' : (l' : Int) = l := h10
    obtain rfl : t' = t := by omega
    obtain rfl : l' = l := by omega
    exact ⟨q, rfl, h7, h8⟩
theorem SbFin.to_none {t l : Nat} (ht : t < st.all.length) (hl : l < g.labels.toNat) (he : stepL g l (st.all.getD t []) = []) : sbTo st t l = -1 := by
  unfold sbTo
  cases hf : st.es.find? (fun x : Edge => decide (x.frm = (t : Int) ∧ x.lab = (l : Int))) with
  | none => rfl
  | some y =>
    have h3 := List.mem_of_find?_eq_some hf
    have h4 := of_decide_eq_true (List.find?_some (p := fun x : Edge => decide (x.frm = (t : Int) ∧ x.lab = (l : Int))) hf)
    obtain ⟨t', l', q, rfl, h5, h6, h7, h8⟩ := h.edg y h3
    obtain ⟨h9, h10⟩ := h4
    have h9' : (t' : Int) = t := h9
    have h10' : (l' : Int) = l := h10
    obtain rfl : t' = t := by omega
    obtain rfl : l' = l := by omega
    rw [he] at h8
    exact absurd h8 (h.set _ (getD_mem (d := []) h7)).1
end
/-- where a word leads from a set; -1 if it does not. -/
def folA (st : Sb) (t : Int) (w : List UInt8) : Int := w.foldl (fun t c => if t < 0 then -1 else sbTo st t (idxB letters c)) t
def setA (g : Gr) (L : List Int) (w : List UInt8) : List Int := w.foldl (fun L c => stepL g (idxB letters c) L) L
theorem step_nil {g : Gr} {k : Int} : stepL g k [] = [] := by
  have := @step_mem g k []
  cases hs : stepL g k [] with
  | nil => rfl
  | cons x r => exact absurd ((this (t := x)).1 (by rw [hs]; exact List.mem_cons_self)) (by simp)
theorem setA_nil {g : Gr} : ∀ {w : List UInt8}, setA g [] w = []
  | [] => rfl
  | c :: w => by
    show setA g (stepL g _ []) w = []
    rw [step_nil]; exact setA_nil
theorem folA_neg {st : Sb} : ∀ {w : List UInt8} {t : Int}, t < 0 → folA st t w < 0
  | [], t, h => h
  | c :: w, t, h => by
    show folA st (if t < 0 then -1 else _) w < 0
    rw [if_pos h]; exact folA_neg (by omega)
/-- the numbers of the sets follow the sets. -/
theorem SbFin.fol {g : Gr} {st : Sb} (h : SbFin g st) : ∀ {w : List UInt8} {t : Nat}, t < st.all.length → (∀ c ∈ w, 0 ≤ idxB letters c ∧ idxB letters c < g.labels) →
    (setA g (st.all.getD t []) w = [] ∧ folA st t w < 0) ∨ ∃ q : Nat, folA st t w = q ∧ q < st.all.length ∧ st.all.getD q [] = setA g (st.all.getD t []) w
  | [], t, ht, _ => .inr ⟨t, rfl, ht, rfl⟩
  | c :: w, t, ht, hw => by
    obtain ⟨h1, h2⟩ := hw c List.mem_cons_self
    obtain ⟨l, hl⟩ : ∃ l : Nat, idxB letters c = l := ⟨(idxB letters c).toNat, by omega⟩
    show (setA g (stepL g (idxB letters c) _) w = [] ∧ folA st (if (t : Int) < 0 then -1 else sbTo st t (idxB letters c)) w < 0) ∨ ∃ q : Nat, folA st (if (t : Int) < 0 then -1 else sbTo st t (idxB letters c)) w = q ∧ q < st.all.length ∧ st.all.getD q [] = setA g (stepL g (idxB letters c) _) w
    rw [if_neg (by omega), hl]
    by_cases he : stepL g l (st.all.getD t []) = []
    · rw [h.to_none ht (by omega) he, he, setA_nil]
      exact .inl ⟨rfl, folA_neg (by omega)⟩
    · obtain ⟨q, h3, h4, h5⟩ := h.to_some ht (by omega) he
      rw [h3, ← h5]
      exact SbFin.fol h h4 (fun c hc => hw c (List.mem_cons_of_mem _ hc))
end Go.Proofs.YtfoeigajlkonpaaDoor

namespace Go.Proofs.YtfoeigajlkonpaaDoor
set_option linter.unusedSimpArgs false
set_option linter.unusedVariables false
open Go Go.Lift

theorem pairs_len {a b : Nat} {Q : List Pr} (hn : Q.Nodup) (h : ∀ p ∈ Q, (0 ≤ p.s ∧ p.s < (a : Int)) ∧ 0 ≤ p.t ∧ p.t < (b : Int)) : Q.length ≤ a * b := by
  have h1 := nodup_le (n := a * b) (L := Q.map fun p => p.s * b + p.t) ?_ ?_
  · rwa [List.length_map] at h1
  · unfold List.Nodup
    rw [List.pairwise_map]
    refine (List.Pairwise.imp_of_mem (l := Q) (R := fun a b => a ≠ b) ?_ hn)
    intro x y hx hy hne he
    apply hne
    obtain ⟨⟨a1, a2⟩, a3, a4⟩ := h x hx
    obtain ⟨⟨b1, b2⟩, b3, b4⟩ := h y hy
    have e1 : (x.s * b + x.t) / (b : Int) = x.s := by
      rw [Int.add_comm, Int.add_mul_ediv_right _ _ (by omega), Int.ediv_eq_zero_of_lt a3 a4]; omega
    have e2 : (y.s * b + y.t) / (b : Int) = y.s := by
      rw [Int.add_comm, Int.add_mul_ediv_right _ _ (by omega), Int.ediv_eq_zero_of_lt b3 b4]; omega
    rw [he, e2] at e1
    obtain ⟨xs, xt⟩ := x; obtain ⟨ys, yt⟩ := y
    simp only at *
    subst e1
    congr 1
    omega
  · intro x hx
    obtain ⟨p, hp, rfl⟩ := List.mem_map.1 hx
    obtain ⟨⟨p1, p2⟩, p3, p4⟩ := h p hp
    have h1 : 0 ≤ p.s * (b : Int) := Int.mul_nonneg p1 (by omega)
    have h2 : (p.s + 1) * (b : Int) ≤ a * b := Int.mul_le_mul_of_nonneg_right (by omega) (by omega)
    rw [Int.add_mul] at h2
    push_cast
    omega

def wiIf (e : Enc) (st : Sb) (p : Pr) (Q : List Pr) (k : Nat) : List Pr :=
  if folA st p.t (cellAt e p.s.toNat k).word < 0 then Q else losPut Q ⟨(cellAt e p.s.toNat k).to, folA st p.t (cellAt e p.s.toNat k).word⟩
def wiRow (e : Enc) (st : Sb) (p : Pr) (Q : List Pr) (k : Nat) : List Pr := (List.range k).foldl (wiIf e st p) Q
def wi0 (s : Nat) : List Pr := (List.range s).foldl (fun Q (s : Nat) => losPut Q ⟨(s : Int), 0⟩) []
def wiNx (e : Enc) (st : Sb) (Q : List Pr) (p : Pr) : List Pr := wiRow e st p Q (e.rows.getD p.s.toNat []).length
def wiQ (e : Enc) (st : Sb) : Nat → List Pr := qAt (wi0 e.rows.length) (wiNx e st)
def wiBad (e : Enc) (st : Sb) (p : Pr) : Bool := (List.range (e.rows.getD p.s.toNat []).length).any fun k => decide (folA st p.t (cellAt e p.s.toNat k).word < 0)
def wiB (e : Enc) (st : Sb) : Bool := !(wiQ e st (e.rows.length * st.all.length)).any (wiBad e st)
theorem wiRow_succ {e : Enc} {st : Sb} {p : Pr} {Q : List Pr} {k : Nat} : wiRow e st p Q (k + 1) = wiIf e st p (wiRow e st p Q k) k := by simp [wiRow, List.range_succ]
theorem wi0_succ {s : Nat} : wi0 (s + 1) = losPut (wi0 s) ⟨(s : Int), 0⟩ := by simp [wi0, List.range_succ]
/-- states of the encoder with numbers of sets. -/
def InW (e : Enc) (st : Sb) (p : Pr) : Prop := (0 ≤ p.s ∧ p.s < (e.rows.length : Int)) ∧ 0 ≤ p.t ∧ p.t < (st.all.length : Int)
theorem cell_dig {e : Enc} (hv : checkE e = 0) {s i : Nat} (hs : s < e.rows.length) (hi : i < (e.rows.getD s []).length) : ∀ c ∈ (cellAt e s i).word, 0 ≤ idxB letters c ∧ idxB letters c < e.letters := by
  have h1 := (rowCheck_valid ((checkE_valid hv).2.2.2 _ (getD_mem (d := []) hs))).2 _ (getD_mem (d := dc) hi)
  have h2 : wordCheck e.letters (cellAt e s i).word = 0 := by
    unfold cellCheck at h1
    unfold cellAt
    split at h1
    · cases h1
    · split at h1
      · cases h1
      · rename_i h2
        exact Classical.byContradiction fun h3 => h2 (.inr h3)
  obtain ⟨_, h3⟩ := word_dig h2
  intro c hc
  obtain ⟨j, hj, rfl⟩ := List.mem_iff_getElem.1 hc
  have := h3 j hj
  rwa [getD_get hj] at this
section
variable {e : Enc} {g : Gr} {st : Sb} (hv : checkE e = 0) (hf : SbFin g st) (hl : g.labels = e.letters)
include hv hf hl
/-- where the word of a cell leads. -/
theorem wi_fol {p : Pr} (h : InW e st p) {k : Nat} (hk : k < (e.rows.getD p.s.toNat []).length) : (setA g (st.all.getD p.t.toNat []) (cellAt e p.s.toNat k).word = [] ∧ folA st p.t (cellAt e p.s.toNat k).word < 0) ∨
    ∃ q : Nat, folA st p.t (cellAt e p.s.toNat k).word = q ∧ q < st.all.length ∧ st.all.getD q [] = setA g (st.all.getD p.t.toNat []) (cellAt e p.s.toNat k).word := by
  obtain ⟨⟨h1, h2⟩, h3, h4⟩ := h
  have := hf.fol (w := (cellAt e p.s.toNat k).word) (t := p.t.toNat) (by omega) (by rw [hl]; exact cell_dig hv (by omega) hk)
  rwa [Int.toNat_of_nonneg h3] at this
theorem wiIf_ext {p : Pr} (h : InW e st p) {k : Nat} (hk : k < (e.rows.getD p.s.toNat []).length) {Q : List Pr} : Ext (InW e st) Q (wiIf e st p Q k) := by
  unfold wiIf
  split
  · exact .refl
  · rename_i hn
    have hto := cell_to hv (s := p.s.toNat) (by have := h.1; omega) hk
    rcases wi_fol hv hf hl h hk with ⟨_, h1⟩ | ⟨q, h1, h2, _⟩
    · exact absurd h1 hn
    · refine losPut_ext ⟨hto, ?_⟩
      rw [h1]
      show (0 : Int) ≤ q ∧ (q : Int) < _
      omega
theorem wiRow_ext {p : Pr} (h : InW e st p) {k : Nat} (hk : k ≤ (e.rows.getD p.s.toNat []).length) {Q : List Pr} : Ext (InW e st) Q (wiRow e st p Q k) :=
  Ext.fold (fun Q k hk => wiIf_ext hv hf hl h hk) k Q hk
omit hv hl in
theorem InW_start {s : Nat} (hs : s < e.rows.length) : InW e st ⟨(s : Int), 0⟩ := by
  have := hf.ne
  show (0 ≤ (s : Int) ∧ (s : Int) < _) ∧ (0 : Int) ≤ 0 ∧ (0 : Int) < _
  omega
omit hv hl in
theorem wi0_ext {s : Nat} (hs : s ≤ e.rows.length) : Ext (InW e st) [] (wi0 s) :=
  Ext.fold (n := e.rows.length) (f := fun Q (s : Nat) => losPut Q ⟨(s : Int), 0⟩) (fun Q s hs => losPut_ext (InW_start hf hs)) s [] hs
theorem wi_ok : QOK (InW e st) (e.rows.length * st.all.length) (wi0 e.rows.length) (wiNx e st) :=
  ⟨wi0_ext hf (Nat.le_refl _), fun Q p hp => wiRow_ext hv hf hl hp (Nat.le_refl _), fun Q hn h => pairs_len hn h⟩
theorem wi_start {s : Nat} (hs : s < e.rows.length) : ⟨(s : Int), 0⟩ ∈ wiQ e st (e.rows.length * st.all.length) := by
  refine ((wi_ok hv hf hl).all 0 (Nat.zero_le _)).mem ?_
  exact fold_has (P := InW e st) (n := e.rows.length) (f := fun Q (s : Nat) => losPut Q ⟨(s : Int), 0⟩) (i := s) (fun Q s hs => losPut_ext (InW_start hf hs)) (fun Q => losPut_mem) _ [] hs (Nat.le_refl _)
theorem wi_go {p : Pr} (hp : p ∈ wiQ e st (e.rows.length * st.all.length)) (hb : wiB e st = true) {k : Nat} (hk : k < (e.rows.getD p.s.toNat []).length) :
    0 ≤ folA st p.t (cellAt e p.s.toNat k).word ∧ ⟨(cellAt e p.s.toNat k).to, folA st p.t (cellAt e p.s.toNat k).word⟩ ∈ wiQ e st (e.rows.length * st.all.length) := by
  have hin := ((wi_ok hv hf hl).ok _).2 p hp
  have h0 : ¬ folA st p.t (cellAt e p.s.toNat k).word < 0 := by
    intro hneg
    unfold wiB at hb
    have hb' : (wiQ e st (e.rows.length * st.all.length)).any (wiBad e st) = false := by simpa using hb
    have := List.any_eq_false.1 hb' p hp
    apply this
    unfold wiBad
    rw [List.any_eq_true]
    exact ⟨k, List.mem_range.2 hk, decide_eq_true hneg⟩
  refine ⟨by omega, (wi_ok hv hf hl).next hp fun Q => ?_⟩
  refine fold_has (P := InW e st) (n := (e.rows.getD p.s.toNat []).length) (i := k) (fun Q k hk => wiIf_ext hv hf hl hin hk) (fun Q => ?_) _ Q hk (Nat.le_refl _)
  unfold wiIf
  rw [if_neg h0]
  exact losPut_mem
/-- each word that is written is one of the graph. -/
theorem wi_run (hb : wiB e st = true) : ∀ {l : List Int} {s t : Int}, ⟨s, t⟩ ∈ wiQ e st (e.rows.length * st.all.length) → (∀ i ∈ l, badI e i = false) → 0 ≤ folA st t (runE e s l).1
  | [], s, t, hm, _ => (((wi_ok hv hf hl).ok _).2 _ hm).2.1
  | i :: l, s, t, hm, hg => by
    have hin := ((wi_ok hv hf hl).ok _).2 _ hm
    have hi := bad_no.1 (hg i (by simp))
    have hs := hin.1
    have hr := row_eq hv (k := s.toNat) (by have : 0 ≤ s ∧ s < (e.rows.length : Int) := hs; omega)
    obtain ⟨h1, h2⟩ := wi_go hv hf hl hm hb (k := i.toNat) (by show i.toNat < (e.rows.getD s.toNat []).length; omega)
    have := wi_run hb h2 (l := l) (fun j hj => hg j (by simp [hj]))
    simp only [runE]
    unfold folA at this h1 ⊢
    rw [List.foldl_append]
    exact this
end
end Go.Proofs.YtfoeigajlkonpaaDoor
