/-
  Plain: the reference's powers: lists of edges, each once; insertion.
-/
import Derived.Test.YtfoeigajlkonpaaDoorPA
namespace Go.Proofs.YtfoeigajlkonpaaDoor
set_option linter.unusedSimpArgs false
set_option linter.unusedVariables false
open Go Go.Lift

/-- each once, in order of coming. -/
def onceL (l : List Edge) : List Edge := l.foldl (fun a x => if x ∈ a then a else a ++ [x]) []
theorem once_both : ∀ (l a : List Edge), a.Nodup → (l.foldl (fun a x => if x ∈ a then a else a ++ [x]) a).Nodup ∧ ∀ z, z ∈ l.foldl (fun a x => if x ∈ a then a else a ++ [x]) a ↔ z ∈ l ∨ z ∈ a
  | [], a, h => ⟨h, fun z => by simp⟩
  | x :: l, a, h => by
    have h2 : (if x ∈ a then a else a ++ [x]).Nodup := by
      split
      · exact h
      · rename_i hx
        exact List.nodup_append.2 ⟨h, by simp, fun y hy z hz e => hx (by
          have : z = x := by simpa using hz
          rw [← this, ← e]; exact hy)⟩
    obtain ⟨h3, h4⟩ := once_both l _ h2
    refine ⟨h3, fun z => ?_⟩
    rw [List.foldl_cons, h4, List.mem_cons]
    split
    · rename_i hx
      constructor
      · rintro (h | h)
        · exact .inl (.inr h)
        · exact .inr h
      · rintro ((rfl | h) | h)
        · exact .inr hx
        · exact .inl h
        · exact .inr h
    · rw [List.mem_append, List.mem_singleton]
      constructor
      · rintro (h | h | h)
        · exact .inl (.inr h)
        · exact .inr h
        · exact .inl (.inl h)
      · rintro ((h | h) | h)
        · exact .inr (.inr h)
        · exact .inl h
        · exact .inr (.inl h)
theorem once_nodup {l : List Edge} : (onceL l).Nodup := (once_both l [] List.nodup_nil).1
theorem once_mem {l : List Edge} {z : Edge} : z ∈ onceL l ↔ z ∈ l := by
  have := (once_both l [] List.nodup_nil).2 z
  simpa [onceL] using this
theorem once_succ {l : List Edge} {k : Nat} (h : k < l.length) : onceL (l.take (k + 1)) = if l.getD k de ∈ onceL (l.take k) then onceL (l.take k) else onceL (l.take k) ++ [l.getD k de] := by
  unfold onceL
  rw [List.take_succ_eq_append_getElem h, List.foldl_append, getD_get h]; rfl
theorem once_len : ∀ {l : List Edge}, (onceL l).length ≤ l.length := by
  have key : ∀ (l a : List Edge), (l.foldl (fun a x => if x ∈ a then a else a ++ [x]) a).length ≤ a.length + l.length := by
    intro l
    induction l with
    | nil => intro a; simp
    | cons x l ih =>
      intro a
      rw [List.foldl_cons]
      have := ih (if x ∈ a then a else a ++ [x])
      have h2 : (if x ∈ a then a else a ++ [x]).length ≤ a.length + 1 := by split <;> simp
      rw [List.length_cons]; omega
  intro l
  have := key l []
  simpa [onceL] using this
theorem norm_succ {l : List Edge} {k : Nat} (h : k < l.length) : normE (l.take (k + 1)) = insE (l.getD k de) (normE (l.take k)) := by
  unfold normE
  rw [List.take_succ_eq_append_getElem h, List.foldl_append, getD_get h]; rfl
theorem insE_len {x : Edge} : ∀ {l : List Edge}, (insE x l).length ≤ l.length + 1
  | [] => by simp [insE]
  | y :: r => by
    unfold insE
    split
    · simp
    · split
      · simp
      · rw [List.length_cons, List.length_cons]; have := insE_len (x := x) (l := r); omega
theorem norm_len {l : List Edge} : (normE l).length ≤ l.length := by
  have key : ∀ k, k ≤ l.length → (normE (l.take k)).length ≤ k := by
    intro k
    induction k with
    | zero => intro _; simp [normE]
    | succ k ih =>
      intro h
      rw [norm_succ (by omega)]
      have := ih (by omega)
      have := insE_len (x := l.getD k de) (l := normE (l.take k))
      omega
  have := key l.length (Nat.le_refl _)
  rwa [List.take_length] at this
/-- an edge that is there already. -/
theorem insE_eq {x : Edge} : ∀ {A : List Edge} {k : Nat}, (∀ j, j < k → ltE (A.getD j de) x) → k < A.length → A.getD k de = x → insE x A = A
  | [], k, _, h, _ => absurd h (Nat.not_lt_zero _)
  | y :: r, 0, _, _, h => by
    simp only [List.getD_cons_zero] at h
    subst h
    unfold insE
    rw [if_neg (fun h => ltE_ne h rfl), if_pos rfl]
  | y :: r, k + 1, h0, hk, h => by
    have h1 : ltE y x := by simpa using h0 0 (by omega)
    unfold insE
    rw [if_neg (fun h2 => ltE_ne (ltE_trans h1 h2) rfl), if_neg (fun e => ltE_ne h1 e.symm), insE_eq (k := k) (fun j hj => by simpa using h0 (j + 1) (by omega)) (by simpa using hk) (by simpa using h)]
theorem insE_at {x : Edge} : ∀ {A : List Edge} {k : Nat}, (∀ j, j < k → ltE (A.getD j de) x) → k ≤ A.length → (k < A.length → ¬ ltE (A.getD k de) x ∧ A.getD k de ≠ x) → insE x A = A.take k ++ x :: A.drop k
  | [], k, _, hk, _ => by have : k = 0 := by simpa using hk
                          subst this; simp [insE]
  | y :: r, 0, _, _, h => by
    have := h (by simp)
    simp only [List.getD_cons_zero] at this
    unfold insE
    rw [if_pos (ltE_total this.1 this.2)]; simp
  | y :: r, k + 1, h0, hk, h => by
    have h1 : ltE y x := by simpa using h0 0 (by omega)
    unfold insE
    rw [if_neg (fun h2 => ltE_ne (ltE_trans h1 h2) rfl), if_neg (fun e => ltE_ne h1 e.symm), insE_at (k := k) (fun j hj => by simpa using h0 (j + 1) (by omega)) (by simpa using hk) (fun h2 => by simpa using h (by simpa using h2))]
    simp
/-- the reference's lists: edges of k steps. -/
def nextE (g : Gr) (y : Edge) : List Edge := (List.range g.edges.length).flatMap fun j => if (g.edges.getD j de).frm = y.to then [(⟨y.frm, y.lab * g.labels + (g.edges.getD j de).lab, (g.edges.getD j de).to⟩ : Edge)] else []
def nextEA (g : Gr) (y : Edge) (m : Nat) : List Edge := (List.range m).flatMap fun j => if (g.edges.getD j de).frm = y.to then [(⟨y.frm, y.lab * g.labels + (g.edges.getD j de).lab, (g.edges.getD j de).to⟩ : Edge)] else []
def selfE (m : Nat) : List Edge := (List.range m).map fun (s : Nat) => (⟨s, 0, s⟩ : Edge)
def rp (g : Gr) : Nat → List Edge
  | 0 => selfE g.states.toNat
  | k + 1 => onceL ((rp g k).flatMap (nextE g))
def rpAt (g : Gr) (l : List Edge) (i m : Nat) : List Edge := (l.take i).flatMap (nextE g) ++ nextEA g (l.getD i de) m
theorem nextEA_succ {g : Gr} {y : Edge} {m : Nat} : nextEA g y (m + 1) = nextEA g y m ++ (if (g.edges.getD m de).frm = y.to then [(⟨y.frm, y.lab * g.labels + (g.edges.getD m de).lab, (g.edges.getD m de).to⟩ : Edge)] else []) := by
  unfold nextEA; rw [List.range_succ, List.flatMap_append]; simp
theorem nextEA_len {g : Gr} {y : Edge} {m : Nat} : (nextEA g y m).length ≤ m := by
  induction m with
  | zero => simp [nextEA]
  | succ m ih => rw [nextEA_succ, List.length_append]; split <;> simp <;> omega
theorem rpAt_zero {g : Gr} {l : List Edge} : rpAt g l 0 0 = [] := by simp [rpAt, nextEA]
theorem rpAt_succ {g : Gr} {l : List Edge} {i m : Nat} : rpAt g l i (m + 1) = rpAt g l i m ++ (if (g.edges.getD m de).frm = (l.getD i de).to then [(⟨(l.getD i de).frm, (l.getD i de).lab * g.labels + (g.edges.getD m de).lab, (g.edges.getD m de).to⟩ : Edge)] else []) := by
  unfold rpAt; rw [nextEA_succ, List.append_assoc]
theorem rpAt_next {g : Gr} {l : List Edge} {i : Nat} (hi : i < l.length) : rpAt g l i g.edges.length = rpAt g l (i + 1) 0 := by
  unfold rpAt
  rw [List.take_succ_eq_append_getElem hi, List.flatMap_append, ← getD_get (d := de) hi]
  simp [nextEA, nextE]
theorem rpAt_all {g : Gr} {l : List Edge} : rpAt g l l.length 0 = l.flatMap (nextE g) := by simp [rpAt, nextEA]
theorem flat_len2 {α β : Type} {f : α → List β} {m : Nat} (h : ∀ x, (f x).length ≤ m) : ∀ (l : List α), (l.flatMap f).length ≤ l.length * m
  | [] => by simp
  | x :: l => by
    rw [List.flatMap_cons, List.length_append, List.length_cons, Nat.add_mul, Nat.one_mul]
    have := flat_len2 h l
    have := h x
    omega
theorem rpAt_len {g : Gr} {l : List Edge} {i m : Nat} (hed : g.edges.length ≤ 30) (hl : l.length ≤ 25600) (hi : i ≤ l.length) (hm : m ≤ g.edges.length) : (rpAt g l i m).length ≤ 800000 := by
  unfold rpAt
  rw [List.length_append]
  have h1 := flat_len2 (f := nextE g) (m := 30) (fun p => Nat.le_trans (nextEA_len (m := g.edges.length)) hed) (l.take i)
  rw [List.length_take] at h1
  have h2 := nextEA_len (g := g) (y := l.getD i de) (m := m)
  have h3 : min i l.length * 30 ≤ 25600 * 30 := Nat.mul_le_mul (by omega) (by omega)
  omega
theorem nextE_mem {g : Gr} {y x : Edge} : x ∈ nextE g y ↔ ∃ e ∈ g.edges, e.frm = y.to ∧ x = ⟨y.frm, y.lab * g.labels + e.lab, e.to⟩ := by
  unfold nextE
  rw [List.mem_flatMap]
  constructor
  · rintro ⟨j, hj, h⟩
    have hj' := List.mem_range.1 hj
    split at h
    · rename_i h2
      exact ⟨_, getD_mem (d := de) hj', h2, by simpa using h⟩
    · cases h
  · rintro ⟨e, he, h2, rfl⟩
    obtain ⟨j, hj, rfl⟩ := List.mem_iff_getElem.1 he
    refine ⟨j, List.mem_range.2 hj, ?_⟩
    rw [getD_get hj, if_pos h2]; simp
theorem longer_at {B O : List Rl} : ∀ {i j : Nat}, i < B.length → j < O.length → (longer B O).getD (i * O.length + j) r0 = thenR (B.getD i r0) (O.getD j r0) := by
  induction B with
  | nil => intro i j h; exact absurd h (Nat.not_lt_zero _)
  | cons b B ih =>
    intro i j hi hj
    have e : longer (b :: B) O = O.map (fun o => thenR b o) ++ longer B O := by unfold longer; rw [List.flatMap_cons]
    rw [e]
    cases i with
    | zero =>
      rw [Nat.zero_mul, Nat.zero_add]
      simp [List.getD, List.getElem?_append_left, hj]
    | succ i =>
      have h1 : (i + 1) * O.length + j = O.length + (i * O.length + j) := by rw [Nat.add_mul, Nat.one_mul]; omega
      rw [h1]
      have h2 : (O.map (fun o => thenR b o) ++ longer B O).getD (O.length + (i * O.length + j)) r0 = (longer B O).getD (i * O.length + j) r0 := by
        simp only [List.getD]
        rw [List.getElem?_append_right (by simp), List.length_map]
        congr 2; omega
      rw [h2, ih (by simpa using hi) hj, List.getD_cons_succ]
/-- the reference's edges of k + 1 steps are those of the relations. -/
theorem rp_mem {g : Gr} (hv : gcheck g = 0) : ∀ {k : Nat} {x : Edge}, x ∈ rp g (k + 1) ↔ x ∈ eAll g.states.toNat (pwL g k) g.states.toNat
  | 0, x => by
    show x ∈ onceL ((selfE g.states.toNat).flatMap (nextE g)) ↔ _
    rw [once_mem, List.mem_flatMap, eAll_mem]
    constructor
    · rintro ⟨y, hy, hx⟩
      obtain ⟨s, hs, rfl⟩ := List.mem_map.1 hy
      obtain ⟨e, he, h2, rfl⟩ := nextE_mem.1 hx
      have hb := edge_in hv he
      simp only at h2
      refine ⟨s, e.lab.toNat, e.to.toNat, List.mem_range.1 hs, ?_, by omega, ?_, ?_⟩
      · show _ < (stepsL g).length; rw [stepsL_len]; omega
      · unfold bit
        show ((stepsL g).getD e.lab.toNat r0) s e.to.toNat = true
        rw [stepsL_at (by omega)]
        exact List.any_eq_true.2 ⟨e, he, by simp; omega⟩
      · simp only [Edge.mk.injEq]; exact ⟨trivial, by omega, by omega⟩
    · rintro ⟨s, l, t, hs, hl, ht, hbit, rfl⟩
      have hl' : l < g.labels.toNat := by
        have : l < (stepsL g).length := hl
        rwa [stepsL_len] at this
      have hbit' : ((stepsL g).getD l r0) s t = true := hbit
      rw [stepsL_at hl'] at hbit'
      obtain ⟨e, he, h3⟩ := List.any_eq_true.1 hbit'
      simp only [decide_eq_true_eq] at h3
      refine ⟨⟨s, 0, s⟩, List.mem_map.2 ⟨s, List.mem_range.2 hs, rfl⟩, nextE_mem.2 ⟨e, he, by simp only; omega, ?_⟩⟩
      simp only [Edge.mk.injEq]; exact ⟨trivial, by omega, by omega⟩
  | k + 1, x => by
    show x ∈ onceL ((rp g (k + 1)).flatMap (nextE g)) ↔ _
    rw [once_mem, List.mem_flatMap, eAll_mem]
    constructor
    · rintro ⟨y, hy, hx⟩
      obtain ⟨s, l, u, hs, hl, hu, hbit, rfl⟩ := eAll_mem.1 ((rp_mem hv).1 hy)
      obtain ⟨e, he, h2, rfl⟩ := nextE_mem.1 hx
      have hb := edge_in hv he
      simp only at h2
      have hj : e.lab.toNat < (stepsL g).length := by rw [stepsL_len]; omega
      refine ⟨s, l * (stepsL g).length + e.lab.toNat, e.to.toNat, hs, ?_, by omega, ?_, ?_⟩
      · show _ < (longer (pwL g k) (stepsL g)).length
        rw [longer_len]
        have : (l + 1) * (stepsL g).length ≤ (pwL g k).length * (stepsL g).length := Nat.mul_le_mul_right _ hl
        rw [Nat.add_mul, Nat.one_mul] at this
        omega
      · unfold bit
        show ((longer (pwL g k) (stepsL g)).getD _ r0) s e.to.toNat = true
        rw [longer_at hl hj]
        have hsz := (gcheck_valid hv).1.st
        refine List.any_eq_true.2 ⟨u, List.mem_range.2 (by omega), ?_⟩
        rw [Bool.and_eq_true]
        refine ⟨hbit, ?_⟩
        rw [stepsL_at (by omega)]
        exact List.any_eq_true.2 ⟨e, he, by simp; omega⟩
      · simp only [Edge.mk.injEq]
        refine ⟨trivial, ?_, by omega⟩
        rw [stepsL_len, Int.natCast_add, Int.natCast_mul, Int.toNat_of_nonneg (by omega), Int.toNat_of_nonneg (by omega)]
    · rintro ⟨s, l', t, hs, hl', ht, hbit, rfl⟩
      have hl2 : l' < (longer (pwL g k) (stepsL g)).length := hl'
      rw [longer_len] at hl2
      have hO : 0 < (stepsL g).length := by
        rcases Nat.eq_zero_or_pos (stepsL g).length with h | h
        · rw [h] at hl2; omega
        · exact h
      have hi : l' / (stepsL g).length < (pwL g k).length := Nat.div_lt_of_lt_mul (by rw [Nat.mul_comm]; exact hl2)
      have hj : l' % (stepsL g).length < (stepsL g).length := Nat.mod_lt _ hO
      have hdm : l' / (stepsL g).length * (stepsL g).length + l' % (stepsL g).length = l' := by rw [Nat.mul_comm]; exact Nat.div_add_mod _ _
      have hbit' : ((longer (pwL g k) (stepsL g)).getD l' r0) s t = true := hbit
      rw [← hdm, longer_at hi hj] at hbit'
      obtain ⟨u, _, h3⟩ := List.any_eq_true.1 hbit'
      rw [Bool.and_eq_true] at h3
      have hsl := stepsL_len (g := g)
      rw [stepsL_at (by omega)] at h3
      obtain ⟨e, he, h4⟩ := List.any_eq_true.1 h3.2
      have hb := edge_in hv he
      simp only [decide_eq_true_eq] at h4
      have hbu : bit (pwL g k) s (l' / (stepsL g).length) u = true := h3.1
      obtain ⟨g1, g2, g3⟩ := bit_sup hv hbu
      refine ⟨⟨s, (l' / (stepsL g).length : Nat), u⟩, (rp_mem hv).2 (eAll_mem.2 ⟨s, _, u, g1, g2, g3, hbu, rfl⟩), nextE_mem.2 ⟨e, he, by simp only; omega, ?_⟩⟩
      simp only [Edge.mk.injEq]
      refine ⟨trivial, ?_, by omega⟩
      rw [h4.1]
      have : (l' : Int) = ((l' / (stepsL g).length * (stepsL g).length + l' % (stepsL g).length : Nat) : Int) := by rw [hdm]
      rw [this, Int.natCast_add, Int.natCast_mul, hsl, Int.toNat_of_nonneg (by omega)]
theorem rp_perm {g : Gr} (hv : gcheck g = 0) {k : Nat} : (rp g (k + 1)).Perm (eAll g.states.toNat (pwL g k) g.states.toNat) :=
  (List.perm_ext_iff_of_nodup (once_nodup) (ascE_nodup eAll_asc)).2 fun x => rp_mem hv
theorem rp_norm {g : Gr} (hv : gcheck g = 0) {k : Nat} : normE (rp g (k + 1)) = eAll g.states.toNat (pwL g k) g.states.toNat :=
  (norm_of (rp_perm hv).symm eAll_asc).symm
theorem eAll_len {n : Nat} {B : List Rl} {m : Nat} : (eAll n B m).length ≤ m * (B.length * n) := by
  unfold eAll
  have := flat_len2 (f := fun s => eLab n B s B.length) (m := B.length * n) (fun s => eLab_len) (List.range m)
  rwa [List.length_range] at this
theorem rp_len {g : Gr} (hv : gcheck g = 0) (hs : g.states ≤ 10) {k : Nat} (hk : ∀ j, j + 1 ≤ k → (pwL g j).length ≤ 256) : (rp g k).length ≤ 25600 := by
  cases k with
  | zero => show (selfE g.states.toNat).length ≤ _; unfold selfE; rw [List.length_map, List.length_range]; omega
  | succ k =>
    rw [(rp_perm hv).length_eq]
    have h1 := eAll_len (n := g.states.toNat) (B := pwL g k) (m := g.states.toNat)
    have h2 : g.states.toNat * ((pwL g k).length * g.states.toNat) ≤ 10 * (256 * 10) := Nat.mul_le_mul (by omega) (Nat.mul_le_mul (hk k (by omega)) (by omega))
    omega
end Go.Proofs.YtfoeigajlkonpaaDoor
