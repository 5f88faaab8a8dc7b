/-
  Plain: the order of edges, lists of edges in order and each once.
-/
import Derived.Test.YtfoeigajlkonpaaDoorPR
namespace Go.Proofs.YtfoeigajlkonpaaDoor
set_option linter.unusedSimpArgs false
set_option linter.unusedVariables false
open Go Go.Lift

/-- the order of edges. -/
def ltE (a b : Edge) : Prop := a.frm < b.frm ∨ (a.frm = b.frm ∧ (a.lab < b.lab ∨ (a.lab = b.lab ∧ a.to < b.to)))
theorem cmp_lt {a b : Edge} : cmpE a b < 0 ↔ ltE a b := by
  unfold cmpE ltE
  constructor
  · intro h
    split at h
    · omega
    split at h
    · omega
    split at h
    · omega
    split at h
    · omega
    split at h
    · omega
    split at h <;> omega
  · intro h
    split
    · omega
    split
    · omega
    split
    · omega
    split
    · omega
    split
    · omega
    split <;> omega
theorem ltE_trans {a b c : Edge} (h : ltE a b) (k : ltE b c) : ltE a c := by unfold ltE at *; omega
theorem edges_asc {g : Gr} (hg : gcheck g = 0) : g.edges.Pairwise ltE := by
  have hv := (gcheck_valid hg).2
  have hadj : ∀ i, i + 1 < g.edges.length → ltE (g.edges.getD i de) (g.edges.getD (i + 1) de) := fun i hi => by
    have := hv (i + 1) hi
    unfold edgeCheck at this
    split at this
    · cases this
    split at this
    · cases this
    · rename_i h
      rw [← cmp_lt]
      have h2 : ¬ 0 ≤ cmpE (g.edges.getD (i + 1 - 1) de) (g.edges.getD (i + 1) de) := fun hc => h ⟨by omega, hc⟩
      rw [show i + 1 - 1 = i by omega] at h2
      omega
  have all : ∀ j i, i < j → j < g.edges.length → ltE (g.edges.getD i de) (g.edges.getD j de) := fun j => by
    induction j with
    | zero => intro i h; omega
    | succ j ih =>
      intro i h hj
      by_cases e : i = j
      · subst e; exact hadj i hj
      · exact ltE_trans (ih i (by omega) (by omega)) (hadj j hj)
  rw [List.pairwise_iff_getElem]
  intro i j hi hj h
  have := all j i h hj
  rwa [getD_get hi, getD_get hj] at this

theorem ltE_ne {a b : Edge} (h : ltE a b) : a ≠ b := fun e => by subst e; unfold ltE at h; omega
theorem ltE_total {a b : Edge} (h : ¬ ltE a b) (hne : a ≠ b) : ltE b a := by
  unfold ltE at *
  have : ¬ (a.frm = b.frm ∧ a.lab = b.lab ∧ a.to = b.to) := fun h2 => hne (by cases a; cases b; simp at h2; simp [h2])
  omega
/-- in order, and without repetition: in strict order. -/
theorem strict_of {x : List Edge} (hn : x.Nodup) (ha : ∀ i j, i < j → j < x.length → ¬ cmpE (x.getD j de) (x.getD i de) < 0) : x.Pairwise ltE := by
  rw [List.pairwise_iff_getElem]
  intro i j hi hj hij
  have h1 := ha i j hij hj
  rw [cmp_lt, getD_get hj, getD_get hi] at h1
  refine ltE_total h1 fun e => ?_
  exact (List.pairwise_iff_getElem.1 (List.nodup_iff_pairwise_ne.1 hn) i j hi hj hij) e.symm

instance (a b : Edge) : Decidable (ltE a b) := inferInstanceAs (Decidable (_ ∨ _))
instance : DecidableEq Edge := fun a b => if h : a.frm = b.frm ∧ a.lab = b.lab ∧ a.to = b.to then .isTrue (by cases a; cases b; simp at h; simp [h]) else .isFalse fun e => h (by rw [e]; exact ⟨rfl, rfl, rfl⟩)
/-- an edge put in its place, if it is not there. -/
def insE (x : Edge) : List Edge → List Edge
  | [] => [x]
  | y :: r => if ltE x y then x :: y :: r else if x = y then y :: r else y :: insE x r
def normE (l : List Edge) : List Edge := l.foldl (fun a x => insE x a) []
theorem insE_mem {x z : Edge} : ∀ {l : List Edge}, z ∈ insE x l ↔ z = x ∨ z ∈ l
  | [] => by simp [insE]
  | y :: r => by
    unfold insE
    split
    · simp
    · split
      · rename_i h1 h2
        subst h2
        simp
      · rw [List.mem_cons, insE_mem, List.mem_cons]
        constructor
        · rintro (h | h | h)
          · exact .inr (.inl h)
          · exact .inl h
          · exact .inr (.inr h)
        · rintro (h | h | h)
          · exact .inr (.inl h)
          · exact .inl h
          · exact .inr (.inr h)
theorem insE_asc {x : Edge} : ∀ {l : List Edge}, l.Pairwise ltE → (insE x l).Pairwise ltE
  | [], _ => by simp [insE]
  | y :: r, h => by
    obtain ⟨h1, h2⟩ := List.pairwise_cons.1 h
    unfold insE
    split
    · rename_i h3
      refine List.pairwise_cons.2 ⟨fun z hz => ?_, h⟩
      rcases List.mem_cons.1 hz with rfl | hz
      · exact h3
      · exact ltE_trans h3 (h1 z hz)
    · split
      · exact h
      · rename_i h3 h4
        refine List.pairwise_cons.2 ⟨fun z hz => ?_, insE_asc h2⟩
        rcases insE_mem.1 hz with rfl | hz
        · exact ltE_total h3 h4
        · exact h1 z hz
theorem norm_both : ∀ (l a : List Edge), a.Pairwise ltE → (l.foldl (fun a x => insE x a) a).Pairwise ltE ∧ ∀ z, z ∈ l.foldl (fun a x => insE x a) a ↔ z ∈ l ∨ z ∈ a
  | [], a, h => ⟨h, fun z => by simp⟩
  | x :: l, a, h => by
    obtain ⟨h1, h2⟩ := norm_both l (insE x a) (insE_asc h)
    refine ⟨h1, fun z => ?_⟩
    rw [List.foldl_cons, h2, insE_mem, List.mem_cons]
    constructor
    · rintro (h | h | h)
      · exact .inl (.inr h)
      · exact .inl (.inl h)
      · exact .inr h
    · rintro ((h | h) | h)
      · exact .inr (.inl h)
      · exact .inl h
      · exact .inr (.inr h)
theorem norm_asc {l : List Edge} : (normE l).Pairwise ltE := (norm_both l [] List.Pairwise.nil).1
theorem norm_mem {l : List Edge} {z : Edge} : z ∈ normE l ↔ z ∈ l := by
  have := (norm_both l [] List.Pairwise.nil).2 z
  simpa [normE] using this
/-- two lists in strict order that have the same edges are one. -/
theorem ascE_ext : ∀ {l m : List Edge}, l.Pairwise ltE → m.Pairwise ltE → (∀ x, x ∈ l ↔ x ∈ m) → l = m
  | [], [], _, _, _ => rfl
  | [], y :: m, _, _, h => by have := (h y).2 (List.mem_cons_self ..); cases this
  | x :: l, [], _, _, h => by have := (h x).1 (List.mem_cons_self ..); cases this
  | x :: l, y :: m, hl, hm, h => by
    obtain ⟨h1, h2⟩ := List.pairwise_cons.1 hl
    obtain ⟨h3, h4⟩ := List.pairwise_cons.1 hm
    have e : x = y := by
      rcases List.mem_cons.1 ((h x).1 (List.mem_cons_self ..)) with e | e
      · exact e
      · rcases List.mem_cons.1 ((h y).2 (List.mem_cons_self ..)) with e2 | e2
        · exact e2.symm
        · exact absurd rfl (ltE_ne (ltE_trans (h1 y e2) (h3 x e)))
    subst e
    congr 1
    refine ascE_ext h2 h4 fun z => ⟨fun hz => ?_, fun hz => ?_⟩
    · rcases List.mem_cons.1 ((h z).1 (List.mem_cons_of_mem _ hz)) with e | e
      · exact absurd e.symm (ltE_ne (h1 z hz))
      · exact e
    · rcases List.mem_cons.1 ((h z).2 (List.mem_cons_of_mem _ hz)) with e | e
      · exact absurd e.symm (ltE_ne (h3 z hz))
      · exact e
theorem norm_of {x l : List Edge} (hp : x.Perm l) (hx : x.Pairwise ltE) : x = normE l := ascE_ext hx norm_asc fun z => by rw [norm_mem]; exact hp.mem_iff
theorem ascE_nodup {l : List Edge} (h : l.Pairwise ltE) : l.Nodup := List.nodup_iff_pairwise_ne.2 (h.imp fun h => ltE_ne h)
theorem norm_perm {l : List Edge} (hn : l.Nodup) : (normE l).Perm l := by
  refine (List.perm_ext_iff_of_nodup (ascE_nodup norm_asc) hn).2 fun z => norm_mem
/-- what Make makes. -/
def mkN (labels states : Int) (l : List Edge) : Int := gcheck ⟨labels, states, normE l⟩
def mkX (labels states : Int) (l : List Edge) : Gr := if mkN labels states l = 0 then ⟨labels, states, normE l⟩ else ⟨0, 0, []⟩
theorem mk_ok {a b : Int} {l : List Edge} (h : mkN a b l = 0) : mkX a b l = ⟨a, b, normE l⟩ := if_pos h
theorem mk_no {a b m : Int} {l : List Edge} (h : mkN a b l = m) (hm : m ≠ 0) : mkX a b l = ⟨0, 0, []⟩ := if_neg (by rw [h]; exact hm)
/-- a graph is valid if its numbers are, and its edges are in strict order. -/
theorem gcheck_make {a b : Int} {l : List Edge} (ha : 1 ≤ a ∧ a ≤ 256) (hb : 0 ≤ b ∧ b ≤ 64) (hl : l.length ≤ 1024) (hs : l.Pairwise ltE) (he : ∀ x ∈ l, (0 ≤ x.frm ∧ x.frm < b) ∧ (0 ≤ x.lab ∧ x.lab < a) ∧ (0 ≤ x.to ∧ x.to < b)) : gcheck ⟨a, b, l⟩ = 0 := by
  refine gcheck_ok ⟨ha, hb, hl⟩ fun j hj => ?_
  have hx := he _ (getD_mem (d := de) hj)
  unfold edgeCheck
  have hj' : j < l.length := hj
  rw [if_neg (by unfold edgeOut; simp only; omega), if_neg]
  rintro ⟨h0, h1⟩
  have h2 := List.pairwise_iff_getElem.1 hs (j - 1) j (by omega) hj (by omega)
  rw [← getD_get (d := de) hj, ← getD_get (d := de) (show j - 1 < l.length by omega)] at h2
  have h3 : cmpE (l.getD (j - 1) de) (l.getD j de) < 0 := cmp_lt.2 h2
  have h1' : 0 ≤ cmpE (l.getD (j - 1) de) (l.getD j de) := h1
  omega
end Go.Proofs.YtfoeigajlkonpaaDoor
