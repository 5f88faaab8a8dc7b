/-
  The paths of an encoder gone through, with a map of windows.
-/
import Derived.Test.YtmdnpbilnelogaaNB
namespace Go.Proofs.Ytmdnpbilnelogaa
set_option linter.unusedSimpArgs false
set_option linter.unusedVariables false
open Go Go.Lift

def mkE (p : List UInt8 × Int) : Ent := ⟨p.1, p.2⟩
/-- one more window, in a map. -/
def stepM (m : List (List UInt8 × Int)) (x : Ent) : List (List UInt8 × Int) × Bool := match alGet m x.win with
  | some k => if k = x.inp then (alPut m x.win x.inp, false) else (m, true)
  | none => (alPut m x.win x.inp, false)
theorem stepM_stop {m : List (List UInt8 × Int)} {x : Ent} {k : Int} (h : alGet m x.win = some k) (hk : k ≠ x.inp) : stepM m x = (m, true) := by unfold stepM; rw [h]; exact if_neg hk
theorem stepM_go {m : List (List UInt8 × Int)} {x : Ent} (h : ∀ k, alGet m x.win = some k → k = x.inp) : stepM m x = (alPut m x.win x.inp, false) := by
  unfold stepM
  cases hg : alGet m x.win with
  | none => rfl
  | some k => exact if_pos (h k hg)
theorem alGet_mem {m : List (List UInt8 × Int)} (hn : (m.map (·.1)).Nodup) {w : List UInt8} {i : Int} : alGet m w = some i ↔ (w, i) ∈ m := by
  induction m with
  | nil => simp [alGet]
  | cons p m ih =>
    obtain ⟨a, b⟩ := p
    simp only [List.map_cons, List.nodup_cons] at hn
    simp only [alGet, List.mem_cons]
    by_cases h : w = a
    · subst h
      rw [if_pos rfl]
      constructor
      · intro e; injection e with e; left; rw [e]
      · rintro (e | e)
        · injection e with _ e; rw [e]
        · exact absurd (List.mem_map.2 ⟨_, e, rfl⟩) hn.1
    · rw [if_neg h, ih hn.2]
      constructor
      · exact .inr
      · rintro (e | e)
        · injection e with e _; exact absurd e h
        · exact e
theorem alPut_new {m : List (List UInt8 × Int)} {w : List UInt8} {i : Int} (h : alGet m w = none) : alPut m w i = m ++ [(w, i)] := by
  induction m with
  | nil => rfl
  | cons p m ih =>
    obtain ⟨a, b⟩ := p
    simp only [alGet] at h
    by_cases hw : w = a
    · rw [if_pos hw] at h; cases h
    · rw [if_neg hw] at h
      simp only [alPut, if_neg hw, List.cons_append, ih h]
theorem alPut_old {m : List (List UInt8 × Int)} {w : List UInt8} {i : Int} (h : alGet m w = some i) : alPut m w i = m := by
  induction m with
  | nil => cases h
  | cons p m ih =>
    obtain ⟨a, b⟩ := p
    simp only [alGet] at h
    by_cases hw : w = a
    · rw [if_pos hw] at h; injection h with h; subst hw h; simp [alPut]
    · rw [if_neg hw] at h
      simp only [alPut, if_neg hw, ih h]
/-- the map and the list hold the same. -/
structure RM (m : List (List UInt8 × Int)) (l : List Ent) : Prop where
  asc : Asc l
  perm : l.Perm (m.map mkE)
theorem RM.nodup {m : List (List UInt8 × Int)} {l : List Ent} (h : RM m l) : (m.map (·.1)).Nodup := by
  have h1 : (l.map (·.win)).Nodup := by
    rw [List.nodup_iff_pairwise_ne, List.pairwise_map]
    exact h.asc.imp fun hab e => by rw [e, less_irrefl] at hab; cases hab
  have h2 : (l.map (·.win)).Perm (m.map (·.1)) := by
    have := h.perm.map (·.win)
    rw [List.map_map] at this
    exact this
  exact h2.nodup_iff.1 h1
theorem RM.get {m : List (List UInt8 × Int)} {l : List Ent} (h : RM m l) (w : List UInt8) : alGet m w = lookE l w := by
  have key : ∀ i, alGet m w = some i ↔ lookE l w = some i := fun i => by
    rw [alGet_mem h.nodup, look_some h.asc, h.perm.mem_iff, List.mem_map]
    constructor
    · intro hm; exact ⟨_, hm, rfl⟩
    · rintro ⟨⟨a, b⟩, hm, e⟩
      injection e with e1 e2
      subst e1 e2; exact hm
  cases ha : alGet m w with
  | some i => exact ((key i).1 ha).symm
  | none =>
    cases hb : lookE l w with
    | none => rfl
    | some i => rw [(key i).2 hb] at ha; cases ha
theorem RM.step {m : List (List UInt8 × Int)} {l : List Ent} (h : RM m l) (x : Ent) : (stepM m x).2 = (stepE l x).2 ∧ RM (stepM m x).1 (stepE l x).1 := by
  have hg := h.get x.win
  unfold stepM stepE
  cases hl : lookE l x.win with
  | none =>
    rw [hl] at hg
    rw [hg]
    refine ⟨rfl, putE_asc h.asc hl, ?_⟩
    show (putE l x).Perm ((alPut m x.win x.inp).map mkE)
    rw [alPut_new hg, List.map_append]
    exact (putE_perm.trans (h.perm.cons x)).trans (List.perm_append_comm (l₁ := [x]))
  | some k =>
    rw [hl] at hg
    rw [hg]
    by_cases hk : k = x.inp
    · subst hk
      simp only [if_true]
      rw [alPut_old hg]
      exact ⟨by simp, h⟩
    · simp only [if_neg hk]
      exact ⟨by simp [hk], h⟩
theorem RM.go : ∀ (L : List Ent) {m : List (List UInt8 × Int)} {l : List Ent}, RM m l → (goS stepM m L).2 = (goS stepE l L).2 ∧ RM (goS stepM m L).1 (goS stepE l L).1
  | [], m, l, h => ⟨rfl, h⟩
  | x :: L, m, l, h => by
    obtain ⟨h1, h2⟩ := h.step x
    simp only [goS, h1]
    split
    · exact ⟨rfl, h2⟩
    · exact RM.go L h2
theorem RM.nil : RM [] [] := ⟨asc_nil, List.Perm.refl _⟩

/-- the first cells of a state. -/
def folC (e : Enc) (past n k s : Nat) (w : List UInt8) (i : Int) (c : Nat) : List Ent := (List.range c).flatMap fun c => follow e past n k (cellAt e s c).to.toNat (w ++ (cellAt e s c).word) (if n - (k + 1) = past then (c : Int) else i)
theorem folC_zero {e : Enc} {past n k s : Nat} {w : List UInt8} {i : Int} : folC e past n k s w i 0 = [] := rfl
theorem folC_succ {e : Enc} {past n k s : Nat} {w : List UInt8} {i : Int} {c : Nat} : folC e past n k s w i (c + 1) = folC e past n k s w i c ++ follow e past n k (cellAt e s c).to.toNat (w ++ (cellAt e s c).word) (if n - (k + 1) = past then (c : Int) else i) := by
  unfold folC
  rw [List.range_succ, List.flatMap_append, List.flatMap_singleton]
theorem fol_full {e : Enc} {past n k s : Nat} {w : List UInt8} {i : Int} : follow e past n (k + 1) s w i = folC e past n k s w i (e.rows.getD s []).length := rfl
def pathC (e : Enc) (p f s : Nat) : List Ent := (List.range s).flatMap fun s => follow e p (p + 1 + f) (p + 1 + f) s [] 0
theorem pathC_zero {e : Enc} {p f : Nat} : pathC e p f 0 = [] := rfl
theorem pathC_succ {e : Enc} {p f s : Nat} : pathC e p f (s + 1) = pathC e p f s ++ follow e p (p + 1 + f) (p + 1 + f) s [] 0 := by
  unfold pathC
  rw [List.range_succ, List.flatMap_append, List.flatMap_singleton]
theorem path_full {e : Enc} {p f : Nat} : pathsL e p f = pathC e p f e.rows.length := rfl
theorem go_more {S X : Type} {f : S → X → S × Bool} {a b : List X} {s : S} (h : (goS f s a).2 = false) : goS f s (a ++ b) = goS f (goS f s a).1 b := by
  rw [goS_append, if_neg (by rw [h]; simp)]
theorem go_over {S X : Type} {f : S → X → S × Bool} {a b : List X} {s : S} (h : (goS f s a).2 = true) : goS f s (a ++ b) = goS f s a := by
  rw [goS_append, if_pos h]
/-- the rest of what is gone through after a stop. -/
theorem folC_pre {e : Enc} {past n k s : Nat} {w : List UInt8} {i : Int} {c d : Nat} (h : c ≤ d) : ∃ L, folC e past n k s w i d = folC e past n k s w i c ++ L := by
  unfold folC
  obtain ⟨r, rfl⟩ : ∃ r, d = c + r := ⟨d - c, by omega⟩
  rw [List.range_add, List.flatMap_append]
  exact ⟨_, rfl⟩
theorem pathC_pre {e : Enc} {p f c d : Nat} (h : c ≤ d) : ∃ L, pathC e p f d = pathC e p f c ++ L := by
  unfold pathC
  obtain ⟨r, rfl⟩ : ∃ r, d = c + r := ⟨d - c, by omega⟩
  rw [List.range_add, List.flatMap_append]
  exact ⟨_, rfl⟩
theorem fol_stop {S : Type} {f : S → Ent → S × Bool} {m : S} {e : Enc} {past n k s : Nat} {w : List UInt8} {i : Int} {c : Nat} (h : c ≤ (e.rows.getD s []).length) (hs : (goS f m (folC e past n k s w i c)).2 = true) : goS f m (follow e past n (k + 1) s w i) = goS f m (folC e past n k s w i c) := by
  obtain ⟨L, hL⟩ := folC_pre (e := e) (past := past) (n := n) (k := k) (s := s) (w := w) (i := i) h
  rw [fol_full, hL]
  exact go_over hs
theorem path_stop {S : Type} {f : S → Ent → S × Bool} {m : S} {e : Enc} {p g c : Nat} (h : c ≤ e.rows.length) (hs : (goS f m (pathC e p g c)).2 = true) : goS f m (pathsL e p g) = goS f m (pathC e p g c) := by
  obtain ⟨L, hL⟩ := pathC_pre (e := e) (p := p) (f := g) h
  rw [path_full, hL]
  exact go_over hs
/-- the jump of a round that stops. -/
def stopC (b : Bool) : Option Code := if b then some .ret else none
@[simp] theorem stopC_true : stopC true = some .ret := rfl
@[simp] theorem stopC_false : stopC false = none := rfl
@[simp] theorem stopC_none {b : Bool} : (stopC b).isNone = !b := by cases b <;> rfl
def errI (b : Bool) : Int := if b then 17 else 0
@[simp] theorem errI_true : errI true = 17 := rfl
@[simp] theorem errI_false : errI false = 0 := rfl
/-- a window looked up in a decoder: does it stop the search? -/
def stepC (d : Dec) (_ : Unit) (x : Ent) : Unit × Bool := ((), !covE d x)
theorem goC_all {d : Dec} : ∀ (L : List Ent), (goS (stepC d) () L).2 = !L.all (covE d)
  | [] => rfl
  | x :: L => by
    have ih := goC_all (d := d) L
    cases hx : covE d x with
    | true =>
      have h1 : goS (stepC d) () (x :: L) = goS (stepC d) () L := by simp [goS, stepC, hx]
      rw [h1, ih]; simp [hx]
    | false =>
      have h1 : goS (stepC d) () (x :: L) = ((), true) := by simp [goS, stepC, hx]
      rw [h1]; simp [hx]
end Go.Proofs.Ytmdnpbilnelogaa
