/- Parts of the proof: PG. -/
import Derived.Test.YtoafgeobhhlplaaZF12
namespace Go.Proofs.Ytoafgeobhhlplaa
set_option linter.unusedSimpArgs false
set_option linter.unusedVariables false
open Go Go.Lift
structure Edge where
  frm : Int
  lab : Int
  to : Int
deriving DecidableEq
structure Gr where
  labels : Int
  states : Int
  edges : List Edge
structure Fit (g : Gr) : Prop where
  st : 0 ≤ g.states ∧ g.states ≤ 64
  frm : ∀ x ∈ g.edges, 0 ≤ x.frm ∧ x.frm < g.states
  to : ∀ x ∈ g.edges, 0 ≤ x.to ∧ x.to < g.states
def Gr.n (g : Gr) : Nat := g.states.toNat
inductive Rch (g : Gr) (s : Nat) : Nat → Prop
  | refl : Rch g s s
  | step {t : Nat} {x : Edge} : Rch g s t → x ∈ g.edges → x.frm = (t : Int) → Rch g s x.to.toNat
theorem Rch.trans {g : Gr} {a b c : Nat} (h : Rch g a b) (k : Rch g b c) : Rch g a c := by
  induction k with
  | refl => exact h
  | step _ hx he ih => exact ih.step hx he
theorem Rch.lt {g : Gr} (hf : Fit g) {a b : Nat} (ha : a < g.n) (h : Rch g a b) : b < g.n := by
  cases h with
  | refl => exact ha
  | step _ hx _ => have := hf.to _ hx; unfold Gr.n; omega
theorem Rch.mem {g : Gr} {s : Nat} {p : Nat → Prop} (h0 : p s) (hs : ∀ x ∈ g.edges, ∀ t : Nat, x.frm = (t : Int) → p t → p x.to.toNat) {t : Nat} (h : Rch g s t) : p t := by
  induction h with
  | refl => exact h0
  | step _ hx he ih => exact hs _ hx _ he ih
open Classical in
noncomputable def reachL (g : Gr) (s : Nat) : List Bool := (List.range g.n).map fun t => decide (Rch g s t)
@[simp] theorem reachL_len {g : Gr} {s : Nat} : (reachL g s).length = g.n := by simp [reachL]
theorem reachL_at {g : Gr} {s t : Nat} (h : t < g.n) : (reachL g s).getD t false = true ↔ Rch g s t := by
  simp [reachL, List.getD, h]
theorem reachL_eq {g : Gr} {s : Nat} {l : List Bool} (hl : l.length = g.n) (h1 : ∀ t, t < g.n → l.getD t false = true → Rch g s t) (h2 : ∀ t, t < g.n → Rch g s t → l.getD t false = true) : l = reachL g s := by
  apply eq_of_getD (d := false)
  · simp [hl]
  · intro t ht
    have ht' : t < g.n := by omega
    rw [Bool.eq_iff_iff, reachL_at ht']
    exact ⟨h1 t ht', h2 t ht'⟩
def adj (g : Gr) (s : Nat) : List Int := (g.edges.filter fun x => decide (x.frm = (s : Int))).map Edge.to
theorem adj_mem {g : Gr} {s : Nat} {t : Int} (h : t ∈ adj g s) : ∃ x ∈ g.edges, x.frm = (s : Int) ∧ x.to = t := by
  obtain ⟨x, hx, rfl⟩ := List.mem_map.1 h
  simp only [List.mem_filter, decide_eq_true_eq] at hx
  exact ⟨x, hx.1, hx.2, rfl⟩
theorem adj_of {g : Gr} {s : Nat} {x : Edge} (hx : x ∈ g.edges) (he : x.frm = (s : Int)) : x.to ∈ adj g s :=
  List.mem_map.2 ⟨x, by simp [hx, he], rfl⟩
structure Dfs (g : Gr) (seen seen' : List Bool) (s : Nat) : Prop where
  len : seen'.length = g.n
  sub : ∀ t, seen.getD t false = true → seen'.getD t false = true
  own : seen'.getD s false = true
  new : ∀ u, seen'.getD u false = true → seen.getD u false = false → Rch g s u ∧ ∀ x ∈ g.edges, x.frm = (u : Int) → seen'.getD x.to.toNat false = true
structure DfsM (g : Gr) (seen c : List Bool) (s i : Nat) : Prop where
  len : c.length = g.n
  sub : ∀ t, seen.getD t false = true → c.getD t false = true
  own : c.getD s false = true
  new : ∀ u, c.getD u false = true → seen.getD u false = false → Rch g s u ∧ (u ≠ s → ∀ x ∈ g.edges, x.frm = (u : Int) → c.getD x.to.toNat false = true)
  nb : ∀ j, j < i → c.getD ((adj g s).getD j 0).toNat false = true
theorem getD_set {α : Type} {l : List α} {i j : Nat} {v d : α} : (l.set i v).getD j d = if j = i ∧ i < l.length then v else l.getD j d := by
  simp only [List.getD_eq_getElem?_getD, List.getElem?_set]
  by_cases h : i = j
  · subst h
    by_cases h2 : i < l.length
    · simp [h2]
    · simp [h2]
  · rw [if_neg h, if_neg (fun e => h e.1.symm)]
section
variable {g : Gr} {seen c c' : List Bool} {s : Nat}
theorem DfsM.first (hl : seen.length = g.n) (hs : s < g.n) : DfsM g seen (seen.set s true) s 0 := by
  refine ⟨by simpa using hl, fun t ht => ?_, ?_, fun u hu hn => ?_, fun j hj => absurd hj (Nat.not_lt_zero _)⟩
  · rw [getD_set]; split
    · rfl
    · exact ht
  · rw [getD_set, if_pos ⟨rfl, by omega⟩]
  · rw [getD_set] at hu
    split at hu
    · rename_i h; rw [h.1]; exact ⟨.refl, fun h2 => absurd rfl h2⟩
    · rw [hn] at hu; cases hu
theorem DfsM.skip {i : Nat} (h : DfsM g seen c s i) (hc : c.getD ((adj g s).getD i 0).toNat false = true) : DfsM g seen c s (i + 1) :=
  ⟨h.len, h.sub, h.own, h.new, step_all h.nb hc⟩
theorem DfsM.call {i : Nat} (hf : Fit g) (h : DfsM g seen c s i) (hi : i < (adj g s).length) (hd : Dfs g c c' ((adj g s).getD i 0).toNat) : DfsM g seen c' s (i + 1) := by
  obtain ⟨x, hx, he, ht⟩ := adj_mem (getD_mem (d := 0) hi)
  have hst : Rch g s ((adj g s).getD i 0).toNat := by rw [← ht]; exact Rch.refl.step hx he
  refine ⟨hd.len, fun t ht => hd.sub t (h.sub t ht), hd.sub _ h.own, fun u hu hn => ?_, step_all (fun j hj => hd.sub _ (h.nb j hj)) hd.own⟩
  cases hcu : c.getD u false with
  | true =>
    obtain ⟨h1, h2⟩ := h.new u hcu hn
    exact ⟨h1, fun hne y hy hye => hd.sub _ (h2 hne y hy hye)⟩
  | false =>
    obtain ⟨h1, h2⟩ := hd.new u hu hcu
    exact ⟨hst.trans h1, fun _ => h2⟩
theorem DfsM.done (h : DfsM g seen c s (adj g s).length) : Dfs g seen c s := by
  refine ⟨h.len, h.sub, h.own, fun u hu hn => ⟨(h.new u hu hn).1, fun x hx he => ?_⟩⟩
  by_cases hus : u = s
  · subst hus
    obtain ⟨j, hj, hje⟩ := List.mem_iff_getElem.1 (adj_of hx he)
    have := h.nb j hj
    rwa [show (adj g u).getD j 0 = x.to by simp [List.getD, hj, hje]] at this
  · exact (h.new u hu hn).2 hus x hx he
theorem Dfs.all (hf : Fit g) (hs : s < g.n) (h : Dfs g (List.replicate g.n false) c s) : c = reachL g s := by
  have hfalse : ∀ u, (List.replicate g.n false).getD u false = false := fun u => by
    simp only [List.getD_eq_getElem?_getD, List.getElem?_replicate]; split <;> rfl
  refine reachL_eq h.len (fun t ht hc => (h.new t hc (hfalse t)).1) fun t ht hr => ?_
  exact hr.mem (p := fun t => c.getD t false = true) h.own fun x hx u he hu => (h.new u hu (hfalse u)).2 x hx he
end
end Go.Proofs.Ytoafgeobhhlplaa
namespace Go.Proofs.Ytoafgeobhhlplaa
set_option linter.unusedSimpArgs false
set_option linter.unusedVariables false
open Go Go.Lift
noncomputable def mutB (g : Gr) (s t : Nat) : Bool := (reachL g s).getD t false && (reachL g t).getD s false
noncomputable def compAt (g : Gr) (s k : Nat) : List Int := ((List.range k).filter fun t => mutB g s t).map fun (t : Nat) => (t : Int)
noncomputable def compL (g : Gr) (s : Nat) : List Int := compAt g s g.n
noncomputable def least (g : Gr) (s : Nat) : Bool := decide ((compL g s).getD 0 0 = (s : Int))
end Go.Proofs.Ytoafgeobhhlplaa
namespace Go.Proofs.Ytoafgeobhhlplaa
set_option linter.unusedSimpArgs false
set_option linter.unusedVariables false
open Go Go.Lift
end Go.Proofs.Ytoafgeobhhlplaa
namespace Go.Proofs.Ytoafgeobhhlplaa
set_option linter.unusedSimpArgs false
set_option linter.unusedVariables false
open Go Go.Lift
def firstNZ {α : Type} (f : α → Int) : List α → Int
  | [] => 0
  | x :: r => if f x = 0 then firstNZ f r else f x
theorem firstNZ_range {f : Nat → Int} {n k : Nat} (h0 : ∀ j, j < k → f j = 0) (hk : k < n) (h : f k ≠ 0) : firstNZ f (List.range n) = f k := by
  have key : ∀ (l : List Nat) (m : Nat), l = List.range' m (n - m) → m ≤ k → firstNZ f l = f k := by
    intro l
    induction l with
    | nil => intro m hl hm; have := congrArg List.length hl; simp at this; omega
    | cons x r ih =>
      intro m hl hm
      obtain ⟨q, hq⟩ : ∃ q, n - m = q + 1 := ⟨n - m - 1, by omega⟩
      rw [hq, List.range'_succ] at hl
      injection hl with h1 h2
      rw [h1]
      by_cases hmk : m = k
      · rw [hmk, firstNZ, if_neg h]
      · rw [firstNZ, if_pos (h0 m (by omega))]
        exact ih (m + 1) (by rw [h2]; congr 1; omega) (by omega)
  exact key _ 0 (by rw [List.range_eq_range']; simp) (Nat.zero_le _)
theorem firstNZ_none {f : Nat → Int} {n : Nat} (h0 : ∀ j, j < n → f j = 0) : firstNZ f (List.range n) = 0 := by
  have key : ∀ (l : List Nat), (∀ x ∈ l, f x = 0) → firstNZ f l = 0 := by
    intro l
    induction l with
    | nil => intro _; rfl
    | cons x r ih => intro h; rw [firstNZ, if_pos (h x List.mem_cons_self)]; exact ih fun y hy => h y (List.mem_cons_of_mem _ hy)
  exact key _ fun x hx => h0 x (by simpa using hx)
theorem firstNZ_zero {f : Nat → Int} {n : Nat} (h : firstNZ f (List.range n) = 0) : ∀ j, j < n → f j = 0 := by
  have key : ∀ (l : List Nat), firstNZ f l = 0 → ∀ x ∈ l, f x = 0 := by
    intro l
    induction l with
    | nil => intro _ x hx; cases hx
    | cons y r ih =>
      intro h x hx
      rw [firstNZ] at h
      split at h
      · rename_i hy
        cases hx with
        | head => exact hy
        | tail _ hx => exact ih h x hx
      · rename_i hy; exact absurd h hy
  exact fun j hj => key _ h j (by simpa using hj)
def edgeOut (g : Gr) (x : Edge) : Prop := x.frm < 0 ∨ g.states ≤ x.frm ∨ x.to < 0 ∨ g.states ≤ x.to ∨ x.lab < 0 ∨ g.labels ≤ x.lab
instance {g : Gr} {x : Edge} : Decidable (edgeOut g x) := by unfold edgeOut; infer_instance
section
variable {g : Gr}
end
end Go.Proofs.Ytoafgeobhhlplaa
namespace Go.Proofs.Ytoafgeobhhlplaa
set_option linter.unusedSimpArgs false
set_option linter.unusedVariables false
open Go Go.Lift
def placeI : List Int → Int → Int
  | [], _ => -1
  | x :: r, v => if x = v then 0 else if placeI r v < 0 then -1 else placeI r v + 1
theorem placeI_ge : ∀ (l : List Int) (v : Int), -1 ≤ placeI l v
  | [], _ => Int.le_refl _
  | x :: r, v => by
    have := placeI_ge r v
    simp only [placeI]
    split
    · decide
    · split <;> omega
theorem placeI_some : ∀ (l : List Int) (v : Int) (k : Nat), k < l.length → (∀ j, j < k → l.getD j 0 ≠ v) → l.getD k 0 = v → placeI l v = k
  | [], _, _, h, _, _ => absurd h (Nat.not_lt_zero _)
  | x :: r, v, 0, _, _, h => by simp only [List.getD_cons_zero] at h; simp [placeI, h]
  | x :: r, v, k + 1, hk, h0, h => by
    have hx := h0 0 (Nat.succ_pos _)
    simp only [List.getD_cons_zero] at hx
    simp only [List.getD_cons_succ] at h
    have ih := placeI_some r v k (by simpa using hk) (fun j hj => by simpa using h0 (j + 1) (by omega)) h
    simp only [placeI, hx, if_false, ih]
    rw [if_neg (by omega)]; omega
theorem placeI_none : ∀ (l : List Int) (v : Int), (∀ j, j < l.length → l.getD j 0 ≠ v) → placeI l v = -1
  | [], _, _ => rfl
  | x :: r, v, h => by
    have hx := h 0 (Nat.succ_pos _)
    simp only [List.getD_cons_zero] at hx
    have ih := placeI_none r v fun j hj => by simpa using h (j + 1) (by simpa using hj)
    simp only [placeI, hx, if_false, ih]
    rfl
theorem placeI_mem : ∀ (l : List Int) (v : Int), 0 ≤ placeI l v ↔ v ∈ l
  | [], _ => by simp [placeI]
  | x :: r, v => by
    have ih := placeI_mem r v
    have := placeI_ge r v
    simp only [placeI, List.mem_cons]
    by_cases hx : x = v
    · simp [hx]
    · rw [if_neg hx]
      constructor
      · intro h
        split at h
        · omega
        · exact .inr (ih.1 (by omega))
      · rintro (h | h)
        · exact absurd h.symm hx
        · have := ih.2 h
          rw [if_neg (by omega)]; omega
def hasI (l : List Int) (v : Int) : Bool := decide (v ∈ l)
theorem hasI_place {l : List Int} {v : Int} : decide (0 ≤ placeI l v) = hasI l v := by
  unfold hasI; rw [decide_eq_decide]; exact placeI_mem l v
def greatG (g : Gr) : Prop := (8 < g.states ∧ g.states ≤ 64) ∨ (30 < (g.edges.length : Int) ∧ (g.edges.length : Int) ≤ 1024) ∨ 1027 < (g.edges.length : Int)
instance {g : Gr} : Decidable (greatG g) := by unfold greatG; infer_instance
end Go.Proofs.Ytoafgeobhhlplaa
namespace Go.Proofs.Ytoafgeobhhlplaa
set_option linter.unusedSimpArgs false
set_option linter.unusedVariables false
open Go Go.Lift
def great9 (g : Gr) : Prop := 30 < (g.edges.length : Int) ∨ (10 < g.states ∧ g.states ≤ 64)
instance (g : Gr) : Decidable (great9 g) := inferInstanceAs (Decidable (_ ∨ _))
end Go.Proofs.Ytoafgeobhhlplaa
namespace Go.Proofs.Ytoafgeobhhlplaa
set_option linter.unusedSimpArgs false
set_option linter.unusedVariables false
open Go Go.Lift
def letters : List UInt8 := [48, 49, 50, 51, 52, 53, 54, 55, 56, 57, 97, 98, 99, 100, 101, 102]
def wordCheck (q : Int) (w : List UInt8) : Int :=
  if q < 1 ∨ 16 < q then 12 else if 65536 < w.length then 4 else if ∀ c ∈ w, 0 ≤ idxB (letters.take q.toNat) c then 0 else 13
theorem wordCheck_bad {q : Int} {w : List UInt8} (h : ¬ (1 ≤ q ∧ q ≤ 16)) : wordCheck q w = 12 := by
  unfold wordCheck; rw [if_pos (by omega)]
theorem wordCheck_long {q : Int} {w : List UInt8} (h : 1 ≤ q ∧ q ≤ 16) (hl : 65536 < w.length) : wordCheck q w = 4 := by
  unfold wordCheck; rw [if_neg (by omega), if_pos hl]
theorem wordCheck_not {q : Int} {w : List UInt8} {k : Nat} (h : 1 ≤ q ∧ q ≤ 16) (hl : w.length ≤ 65536) (hk : k < w.length) (hb : idxB (letters.take q.toNat) (w.getD k 0) < 0) : wordCheck q w = 13 := by
  unfold wordCheck
  rw [if_neg (by omega), if_neg (by omega), if_neg]
  intro hh
  have := hh _ (getD_mem (d := 0) hk)
  omega
theorem wordCheck_ok {q : Int} {w : List UInt8} (h : 1 ≤ q ∧ q ≤ 16) (hl : w.length ≤ 65536) (hb : ∀ k, k < w.length → 0 ≤ idxB (letters.take q.toNat) (w.getD k 0)) : wordCheck q w = 0 := by
  unfold wordCheck
  rw [if_neg (by omega), if_neg (by omega), if_pos]
  intro c hc
  obtain ⟨j, hj, he⟩ := List.mem_iff_getElem.1 hc
  have := hb j hj
  simpa [List.getD, hj, he] using this
theorem idxB_none (l : List UInt8) (n : UInt8) (h : ∀ j, j < l.length → l.getD j 0 ≠ n) : idxB l n = -1 := by
  unfold idxB
  have : l.idxOf? n = none := by
    rw [List.idxOf?_eq_none_iff]
    intro hm
    obtain ⟨j, hj, he⟩ := List.mem_iff_getElem.1 hm
    exact h j hj (by simp [List.getD, hj, he])
  rw [this]
theorem idxB_some (l : List UInt8) (n : UInt8) (k : Nat) (hk : k < l.length) (h : ∀ j, j < k → l.getD j 0 ≠ n) (he : l.getD k 0 = n) : idxB l n = k := by
  unfold idxB
  have : l.idxOf? n = some k := by
    rw [List.idxOf?, List.findIdx?_eq_some_iff_getElem]
    refine ⟨hk, by simpa [List.getD, hk] using he, fun j hj => ?_⟩
    have := h j hj
    have hj' : j < l.length := by omega
    simpa [List.getD, hj'] using this
  rw [this]
theorem first_at : ∀ (l : List UInt8) (n : UInt8), n ∈ l → ∃ k, k < l.length ∧ (∀ j, j < k → l.getD j 0 ≠ n) ∧ l.getD k 0 = n
  | x :: l, n, h => by
    by_cases e : x = n
    · exact ⟨0, by simp, fun j hj => absurd hj (Nat.not_lt_zero _), by simpa using e⟩
    · obtain ⟨k, h1, h2, h3⟩ := first_at l n ((List.mem_cons.1 h).resolve_left (Ne.symm e))
      refine ⟨k + 1, by simp; omega, fun j hj => ?_, by simpa using h3⟩
      cases j with
      | zero => simpa using e
      | succ j => simpa using h2 j (by omega)
theorem idxB_ge {l : List UInt8} {n : UInt8} : 0 ≤ idxB l n ↔ n ∈ l := by
  constructor
  · intro h
    by_cases hm : n ∈ l
    · exact hm
    · rw [idxB_none l n fun j hj e => hm (by rw [← e]; exact getD_mem hj)] at h; omega
  · intro hm
    obtain ⟨k, h1, h2, h3⟩ := first_at l n hm
    rw [idxB_some l n k h1 h2 h3]; omega
theorem take_getDB {l : List UInt8} {s t : Nat} (h : t < s) : (l.take s).getD t 0 = l.getD t 0 := by
  simp [List.getD, List.getElem?_take, h]
theorem idxB_take {l : List UInt8} {n : UInt8} {q : Nat} : 0 ≤ idxB (l.take q) n ↔ 0 ≤ idxB l n ∧ idxB l n < (q : Int) := by
  constructor
  · intro h
    obtain ⟨k, h1, h2, h3⟩ := first_at _ n (idxB_ge.1 h)
    rw [List.length_take] at h1
    have h4 := idxB_some l n k (by omega) (fun j hj => by rw [← take_getDB (s := q) (by omega)]; exact h2 j hj) (by rw [← take_getDB (s := q) (by omega)]; exact h3)
    rw [h4]; omega
  · rintro ⟨h, hq⟩
    obtain ⟨k, h1, h2, h3⟩ := first_at l n (idxB_ge.1 h)
    have h4 := idxB_some l n k h1 h2 h3
    rw [h4] at hq
    rw [idxB_ge]
    have : (l.take q).getD k 0 = n := by rw [take_getDB (by omega)]; exact h3
    rw [← this]
    exact getD_mem (by rw [List.length_take]; omega)
theorem digit_step {n : UInt8} {k : Nat} (h : ∀ j, j < k → letters.getD j 0 ≠ n) (hk : ¬ (letters.getD k 0).toNat = n.toNat) : ∀ j, j < k + 1 → letters.getD j 0 ≠ n := fun j hj => by
  rcases Nat.lt_succ_iff_lt_or_eq.1 hj with h1 | h1
  · exact h j h1
  · rw [h1]; exact fun e => hk (by rw [e])
theorem word_step {q : Int} {w : List UInt8} {k : Nat} (hn : ∀ j, j < k → 0 ≤ idxB (letters.take q.toNat) (w.getD j 0)) (h : 0 ≤ idxB letters (w.getD k 0)) (h2 : idxB letters (w.getD k 0) < q) : ∀ j, j < k + 1 → 0 ≤ idxB (letters.take q.toNat) (w.getD j 0) := fun j hj => by
  rcases Nat.lt_succ_iff_lt_or_eq.1 hj with h1 | h1
  · exact hn j h1
  · rw [h1]; exact idxB_take.2 ⟨h, by omega⟩
theorem word_bad {q : Int} {w : List UInt8} {k : Nat} (hq : 1 ≤ q ∧ q ≤ 16) (h : ¬ (0 ≤ idxB letters (w.getD k 0) ∧ idxB letters (w.getD k 0) < q)) : idxB (letters.take q.toNat) (w.getD k 0) < 0 := by
  apply Classical.byContradiction
  intro hc
  have := idxB_take.1 (Int.not_lt.1 hc)
  exact h ⟨this.1, by omega⟩
theorem getD_get {α : Type} {l : List α} {k : Nat} {d : α} (h : k < l.length) : l.getD k d = l[k] := by simp [List.getD, h]
def Dig (q : Int) (w : List UInt8) : Prop := ∀ k, k < w.length → 0 ≤ idxB letters (w.getD k 0) ∧ idxB letters (w.getD k 0) < q
theorem word_dig {q : Int} {w : List UInt8} (h : wordCheck q w = 0) : (1 ≤ q ∧ q ≤ 16) ∧ Dig q w := by
  unfold wordCheck at h
  split at h
  · cases h
  · split at h
    · cases h
    · split at h
      · rename_i h1 h2 h3
        refine ⟨by omega, fun k hk => ?_⟩
        have := idxB_take.1 (h3 _ (getD_mem (d := 0) hk))
        exact ⟨this.1, by omega⟩
      · cases h
end Go.Proofs.Ytoafgeobhhlplaa
namespace Go.Proofs.Ytoafgeobhhlplaa
set_option linter.unusedSimpArgs false
set_option linter.unusedVariables false
open Go Go.Lift
abbrev Rl := Nat → Nat → Bool
def r0 : Rl := fun _ _ => false
end Go.Proofs.Ytoafgeobhhlplaa
namespace Go.Proofs.Ytoafgeobhhlplaa
set_option linter.unusedSimpArgs false
set_option linter.unusedVariables false
open Go Go.Lift
def ltE (a b : Edge) : Prop := a.frm < b.frm ∨ (a.frm = b.frm ∧ (a.lab < b.lab ∨ (a.lab = b.lab ∧ a.to < b.to)))
instance (a b : Edge) : Decidable (ltE a b) := inferInstanceAs (Decidable (_ ∨ _))
instance : DecidableEq Edge := fun a b => if h : a.frm = b.frm ∧ a.lab = b.lab ∧ a.to = b.to then .isTrue (by cases a; cases b; simp at h; simp [h]) else .isFalse fun e => h (by rw [e]; exact ⟨rfl, rfl, rfl⟩)
end Go.Proofs.Ytoafgeobhhlplaa
namespace Go.Proofs.Ytoafgeobhhlplaa
set_option linter.unusedSimpArgs false
set_option linter.unusedVariables false
open Go Go.Lift
end Go.Proofs.Ytoafgeobhhlplaa
namespace Go.Proofs.Ytoafgeobhhlplaa
set_option linter.unusedSimpArgs false
set_option linter.unusedVariables false
open Go Go.Lift
end Go.Proofs.Ytoafgeobhhlplaa
namespace Go.Proofs.Ytoafgeobhhlplaa
set_option linter.unusedSimpArgs false
set_option linter.unusedVariables false
open Go Go.Lift
end Go.Proofs.Ytoafgeobhhlplaa
namespace Go.Proofs.Ytoafgeobhhlplaa
set_option linter.unusedSimpArgs false
set_option linter.unusedVariables false
open Go Go.Lift
end Go.Proofs.Ytoafgeobhhlplaa
namespace Go.Proofs.Ytoafgeobhhlplaa
set_option linter.unusedSimpArgs false
set_option linter.unusedVariables false
open Go Go.Lift
section
variable {α : Type} [DecidableEq α] {d : α} {l : List α}
end
end Go.Proofs.Ytoafgeobhhlplaa
namespace Go.Proofs.Ytoafgeobhhlplaa
set_option linter.unusedSimpArgs false
set_option linter.unusedVariables false
open Go Go.Lift
end Go.Proofs.Ytoafgeobhhlplaa
namespace Go.Proofs.Ytoafgeobhhlplaa
set_option linter.unusedSimpArgs false
set_option linter.unusedVariables false
open Go Go.Lift Go.Proofs
end Go.Proofs.Ytoafgeobhhlplaa
namespace Go.Proofs.Ytoafgeobhhlplaa
set_option linter.unusedSimpArgs false
set_option linter.unusedVariables false
open Go Go.Lift
end Go.Proofs.Ytoafgeobhhlplaa
