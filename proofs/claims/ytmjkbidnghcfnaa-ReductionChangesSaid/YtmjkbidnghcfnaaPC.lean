/-
  Plain laws of this seat: numbering by first occurrence.
-/
import Derived.Test.YtmjkbidnghcfnaaPB
namespace Go.Proofs.Ytmjkbidnghcfnaa
set_option linter.unusedSimpArgs false
set_option linter.unusedVariables false
open Go Go.Lift

section
variable {K : Type} [DecidableEq K]
/-- keys numbered in the order in which they first occur; m: the keys seen before with their numbers. -/
def numGo (m : List (K × Int)) : List K → List Int
  | [] => []
  | k :: r => match alGet m k with
    | some v => v :: numGo m r
    | none => (m.length : Int) :: numGo (m ++ [(k, (m.length : Int))]) r
def numL (ks : List K) : List Int := numGo [] ks
@[simp] theorem numGo_length : ∀ (ks : List K) (m : List (K × Int)), (numGo m ks).length = ks.length
  | [], _ => rfl
  | k :: r, m => by
    simp only [numGo]
    split <;> simp [numGo_length r]
@[simp] theorem numL_length (ks : List K) : (numL ks).length = ks.length := numGo_length ks []
theorem alPut_new {m : List (K × Int)} {k : K} {v : Int} (h : alGet m k = none) : alPut m k v = m ++ [(k, v)] := by
  induction m with
  | nil => rfl
  | cons p m ih =>
    obtain ⟨a, b⟩ := p
    simp only [alGet] at h
    by_cases hk : k = a
    · simp [hk] at h
    · simp only [if_neg hk] at h
      simp only [alPut, if_neg hk, ih h, List.cons_append]

/-- how many classes there are behind a list, c before it. -/
def cntGo (c : Int) : List Int → Int
  | [] => c
  | x :: r => cntGo (if x = c then c + 1 else c) r
/-- classes numbered in the order of their first members. -/
def RG (c : Int) : List Int → Prop
  | [] => True
  | x :: r => 0 ≤ x ∧ x ≤ c ∧ RG (if x = c then c + 1 else c) r
def cnt (l : List Int) : Int := cntGo 0 l
theorem cntGo_ge : ∀ (l : List Int) (c : Int), c ≤ cntGo c l
  | [], c => Int.le_refl c
  | x :: r, c => by
    have := cntGo_ge r (if x = c then c + 1 else c)
    simp only [cntGo]
    split at this <;> rename_i h <;> simp only [h, if_true, if_false] <;> omega
theorem cntGo_le : ∀ (l : List Int) (c : Int), cntGo c l ≤ c + l.length
  | [], c => by simp [cntGo]
  | x :: r, c => by
    have := cntGo_le r (if x = c then c + 1 else c)
    simp only [cntGo, List.length_cons]
    split at this <;> rename_i h <;> simp only [h, if_true, if_false] <;> omega
theorem RG_lt : ∀ (l : List Int) (c : Int), RG c l → ∀ x ∈ l, 0 ≤ x ∧ x < cntGo c l
  | [], _, _, x, hx => by cases hx
  | y :: r, c, h, x, hx => by
    obtain ⟨h1, h2, h3⟩ := h
    simp only [cntGo]
    have hge := cntGo_ge r (if y = c then c + 1 else c)
    cases hx with
    | head =>
      refine ⟨h1, ?_⟩
      split at hge <;> rename_i hy <;> simp only [hy, if_true, if_false] <;> omega
    | tail _ hx => exact RG_lt r _ h3 x hx

theorem alGet_mem {β : Type} : ∀ {m : List (K × β)} {k : K} {v : β}, alGet m k = some v → (k, v) ∈ m
  | [], _, _, h => by simp [alGet] at h
  | (a, b) :: r, k, v, h => by
    simp only [alGet] at h
    by_cases hk : k = a
    · simp only [if_pos hk, Option.some.injEq] at h
      rw [hk, h]; exact List.mem_cons_self
    · simp only [if_neg hk] at h
      exact List.mem_cons_of_mem _ (alGet_mem h)
theorem numGo_RG : ∀ (ks : List K) (m : List (K × Int)), (∀ p ∈ m, 0 ≤ p.2 ∧ p.2 < (m.length : Int)) → RG m.length (numGo m ks)
  | [], _, _ => trivial
  | k :: r, m, hm => by
    simp only [numGo]
    cases h : alGet m k with
    | some v =>
      have hv := hm _ (alGet_mem h)
      simp only [RG]
      refine ⟨hv.1, by omega, ?_⟩
      rw [if_neg (by omega)]
      exact numGo_RG r m hm
    | none =>
      simp only [RG]
      refine ⟨by omega, Int.le_refl _, ?_⟩
      have := numGo_RG r (m ++ [(k, (m.length : Int))]) (fun p hp => by
        simp only [List.mem_append, List.mem_singleton] at hp
        simp only [List.length_append, List.length_singleton]
        rcases hp with hp | hp
        · have := hm p hp; omega
        · subst hp; simp only; omega)
      simpa using this
theorem numGo_cmp (g : K → Int) : ∀ (ks : List K) (m : List (K × Int)) (c : Int), (∀ p ∈ m, 0 ≤ p.2 ∧ p.2 < (m.length : Int)) → (∀ p ∈ m, g p.1 < c) → RG c (ks.map g) → cntGo c (ks.map g) - c ≤ cntGo m.length (numGo m ks) - m.length
  | [], _, _, _, _, _ => by simp [cntGo, numGo]
  | k :: r, m, c, hm, hg, hr => by
    simp only [List.map_cons, RG] at hr
    obtain ⟨h0, h1, h2⟩ := hr
    have hm' : ∀ p ∈ m ++ [(k, (m.length : Int))], 0 ≤ p.2 ∧ p.2 < ((m ++ [(k, (m.length : Int))]).length : Int) := fun p hp => by
      simp only [List.mem_append, List.mem_singleton] at hp
      simp only [List.length_append, List.length_singleton]
      rcases hp with hp | hp
      · have := hm p hp; omega
      · subst hp; simp only; omega
    have hlen : ((m ++ [(k, (m.length : Int))]).length : Int) = m.length + 1 := by simp
    cases h : alGet m k with
    | some v =>
      have hv := hm _ (alGet_mem h)
      have hgk : g k < c := hg _ (alGet_mem h)
      rw [if_neg (by omega)] at h2
      have ih := numGo_cmp g r m c hm hg h2
      simp only [List.map_cons, cntGo, numGo, h]
      rw [if_neg (by omega), if_neg (by omega)]
      exact ih
    | none =>
      simp only [List.map_cons, cntGo, numGo, h, if_true]
      by_cases hx : g k = c
      · rw [if_pos hx] at h2 ⊢
        have ih := numGo_cmp g r _ (c + 1) hm' (fun p hp => by
          simp only [List.mem_append, List.mem_singleton] at hp
          rcases hp with hp | hp
          · have := hg p hp; omega
          · subst hp; simp only; omega) h2
        rw [hlen] at ih
        omega
      · rw [if_neg hx] at h2 ⊢
        have ih := numGo_cmp g r _ c hm' (fun p hp => by
          simp only [List.mem_append, List.mem_singleton] at hp
          rcases hp with hp | hp
          · exact hg p hp
          · subst hp; simp only; omega) h2
        rw [hlen] at ih
        omega
theorem numGo_same (g : K → Int) : ∀ (ks : List K) (m : List (K × Int)), (∀ p ∈ m, 0 ≤ p.2 ∧ p.2 < (m.length : Int)) → (∀ p ∈ m, p.2 = g p.1) → RG m.length (ks.map g) → cntGo m.length (ks.map g) = cntGo m.length (numGo m ks) → numGo m ks = ks.map g
  | [], _, _, _, _, _ => rfl
  | k :: r, m, hm, hg, hr, he => by
    simp only [List.map_cons, RG] at hr
    obtain ⟨h0, h1, h2⟩ := hr
    have hm' : ∀ p ∈ m ++ [(k, (m.length : Int))], 0 ≤ p.2 ∧ p.2 < ((m ++ [(k, (m.length : Int))]).length : Int) := fun p hp => by
      simp only [List.mem_append, List.mem_singleton] at hp
      simp only [List.length_append, List.length_singleton]
      rcases hp with hp | hp
      · have := hm p hp; omega
      · subst hp; simp only; omega
    have hlen : ((m ++ [(k, (m.length : Int))]).length : Int) = m.length + 1 := by simp
    cases h : alGet m k with
    | some v =>
      have hv := hm _ (alGet_mem h)
      have hgk : v = g k := hg _ (alGet_mem h)
      simp only [List.map_cons, cntGo, numGo, h] at he ⊢
      rw [if_neg (by omega)] at h2 he
      rw [if_neg (by omega)] at he
      rw [numGo_same g r m hm hg h2 he, hgk]
    | none =>
      simp only [List.map_cons, cntGo, numGo, h, if_true] at he ⊢
      by_cases hx : g k = (m.length : Int)
      · rw [if_pos hx] at h2 he
        rw [← hlen] at h2 he
        rw [numGo_same g r _ hm' (fun p hp => by
          simp only [List.mem_append, List.mem_singleton] at hp
          rcases hp with hp | hp
          · exact hg p hp
          · subst hp; exact hx.symm) h2 he, hx]
      · rw [if_neg hx] at h2 he
        exfalso
        have := numGo_cmp g r _ (m.length : Int) hm' (fun p hp => by
          simp only [List.mem_append, List.mem_singleton] at hp
          rcases hp with hp | hp
          · have h3 := hm p hp; have h4 := hg p hp; omega
          · subst hp; simp only; omega) h2
        rw [hlen] at this
        omega
end

structure Finer where
  cls : Int
  word : List UInt8
  next : Int
deriving DecidableEq, Inhabited
def cellAt (e : Enc) (s i : Nat) : Cell := (e.rows.getD s []).getD i dc
/-- what the states do for an input, as far as it is known. -/
def keysE (e : Enc) (cl : List Int) (i : Nat) (nx : List Int) : List Finer := (List.range e.rows.length).map fun s => ⟨nx.getD s 0, (cellAt e s i).word, cl.getD (cellAt e s i).to.toNat 0⟩
def stepE (e : Enc) (cl : List Int) (nx : List Int) (i : Nat) : List Int := numL (keysE e cl i nx)
def roundE (e : Enc) (cl : List Int) : List Int := (List.range e.inputs.toNat).foldl (stepE e cl) cl
@[simp] theorem keysE_length {e : Enc} {cl nx : List Int} {i : Nat} : (keysE e cl i nx).length = e.rows.length := by simp [keysE]
@[simp] theorem stepE_length {e : Enc} {cl nx : List Int} {i : Nat} : (stepE e cl nx i).length = e.rows.length := by simp [stepE]
theorem keysE_cls {e : Enc} {cl nx : List Int} {i : Nat} (h : nx.length = e.rows.length) : (keysE e cl i nx).map Finer.cls = nx := by
  apply eq_of_getD (d := 0)
  · simp [h]
  · intro j hj
    have hj' : j < e.rows.length := by simpa using hj
    simp [keysE, List.getD, hj']
theorem stepE_RG {e : Enc} {cl nx : List Int} {i : Nat} : RG 0 (stepE e cl nx i) := by
  have := numGo_RG (keysE e cl i nx) [] (fun p hp => by cases hp)
  simpa [stepE, numL] using this
theorem stepE_cnt {e : Enc} {cl nx : List Int} {i : Nat} (h : nx.length = e.rows.length) (hr : RG 0 nx) : cnt nx ≤ cnt (stepE e cl nx i) := by
  have := numGo_cmp Finer.cls (keysE e cl i nx) [] 0 (fun p hp => by cases hp) (fun p hp => by cases hp) (by rw [keysE_cls h]; exact hr)
  rw [keysE_cls h] at this
  simpa [cnt, stepE, numL] using this
theorem stepE_same {e : Enc} {cl nx : List Int} {i : Nat} (h : nx.length = e.rows.length) (hr : RG 0 nx) (hc : cnt nx = cnt (stepE e cl nx i)) : stepE e cl nx i = nx := by
  have := numGo_same Finer.cls (keysE e cl i nx) [] (fun p hp => by cases hp) (fun p hp => by cases hp) (by rw [keysE_cls h]; exact hr) (by rw [keysE_cls h]; exact hc)
  rw [keysE_cls h] at this
  exact this

theorem fold_step {e : Enc} {cl : List Int} : ∀ (is : List Nat) (nx : List Int), nx.length = e.rows.length → RG 0 nx →
    (is.foldl (stepE e cl) nx).length = e.rows.length ∧ RG 0 (is.foldl (stepE e cl) nx) ∧ cnt nx ≤ cnt (is.foldl (stepE e cl) nx) ∧ (cnt (is.foldl (stepE e cl) nx) = cnt nx → is.foldl (stepE e cl) nx = nx ∧ ∀ i ∈ is, stepE e cl nx i = nx)
  | [], nx, h, hr => ⟨h, hr, Int.le_refl _, fun _ => ⟨rfl, fun i hi => by cases hi⟩⟩
  | i :: is, nx, h, hr => by
    obtain ⟨h1, h2, h3, h4⟩ := fold_step is (stepE e cl nx i) stepE_length stepE_RG
    have hc := stepE_cnt (cl := cl) (i := i) h hr
    refine ⟨h1, h2, Int.le_trans hc h3, fun he => ?_⟩
    simp only [List.foldl_cons] at he ⊢
    have hs : stepE e cl nx i = nx := stepE_same h hr (by omega)
    obtain ⟨h5, h6⟩ := h4 (by rw [he, hs])
    refine ⟨h5.trans hs, fun j hj => ?_⟩
    cases hj with
    | head => exact hs
    | tail _ hj => have := h6 j hj; rw [hs] at this; exact this

def iter {α : Type} (f : α → α) : Nat → α → α
  | 0, x => x
  | k + 1, x => f (iter f k x)
theorem iter_fix {α : Type} {f : α → α} {x : α} {k : Nat} (h : f (iter f k x) = iter f k x) : ∀ j, iter f (k + j) x = iter f k x
  | 0 => rfl
  | j + 1 => by
    show f (iter f (k + j) x) = _
    rw [iter_fix h j, h]
def zerosE (e : Enc) : List Int := List.replicate e.rows.length 0
def classesAt (e : Enc) (k : Nat) : List Int := iter (roundE e) k (zerosE e)
/-- the classes of the states. -/
def classesE (e : Enc) : List Int := classesAt e e.rows.length
theorem zeros_RG : ∀ n, RG 0 (List.replicate n 0) ∧ ∀ m, RG 1 (List.replicate m 0) := fun n => by
  have h1 : ∀ m, RG 1 (List.replicate m 0) := fun m => by
    induction m with
    | zero => trivial
    | succ m ih => exact ⟨by decide, by decide, by simpa using ih⟩
  refine ⟨?_, h1⟩
  cases n with
  | zero => trivial
  | succ n => exact ⟨by decide, by decide, by simpa using h1 n⟩

theorem classesAt_ok (e : Enc) : ∀ k, (classesAt e k).length = e.rows.length ∧ RG 0 (classesAt e k)
  | 0 => ⟨by simp [classesAt, iter, zerosE], (zeros_RG _).1⟩
  | k + 1 => by
    obtain ⟨h1, h2⟩ := classesAt_ok e k
    obtain ⟨h3, h4, _⟩ := fold_step (e := e) (cl := classesAt e k) (List.range e.inputs.toNat) (classesAt e k) h1 h2
    exact ⟨h3, h4⟩
theorem classesAt_cnt (e : Enc) (k : Nat) : cnt (classesAt e k) ≤ cnt (classesAt e (k + 1)) := by
  obtain ⟨h1, h2⟩ := classesAt_ok e k
  exact (fold_step (e := e) (cl := classesAt e k) (List.range e.inputs.toNat) (classesAt e k) h1 h2).2.2.1
/-- no class is cut any more. -/
structure Stable (e : Enc) (cl : List Int) : Prop where
  len : cl.length = e.rows.length
  rg : RG 0 cl
  step : ∀ i, i < e.inputs.toNat → stepE e cl cl i = cl
theorem stable_of {e : Enc} {k : Nat} (h : cnt (classesAt e (k + 1)) = cnt (classesAt e k)) : classesAt e (k + 1) = classesAt e k ∧ Stable e (classesAt e k) := by
  obtain ⟨h1, h2⟩ := classesAt_ok e k
  obtain ⟨_, _, _, h4⟩ := fold_step (e := e) (cl := classesAt e k) (List.range e.inputs.toNat) (classesAt e k) h1 h2
  obtain ⟨h5, h6⟩ := h4 h
  exact ⟨h5, h1, h2, fun i hi => h6 i (by simpa using hi)⟩
theorem cnt_zeros {e : Enc} (h : 0 < e.rows.length) : cnt (classesAt e 0) = 1 := by
  have : ∀ m, cntGo 1 (List.replicate m 0) = 1 := fun m => by
    induction m with
    | zero => rfl
    | succ m ih => simpa [cntGo, List.replicate_succ] using ih
  obtain ⟨n, hn⟩ : ∃ n, e.rows.length = n + 1 := ⟨e.rows.length - 1, by omega⟩
  simp [classesAt, iter, zerosE, cnt, hn, List.replicate_succ, cntGo, this]
theorem cnt_le_len {l : List Int} : cnt l ≤ l.length := by have := cntGo_le l 0; unfold cnt; omega

theorem classes_stop {e : Enc} {k : Nat} (hk : k ≤ e.rows.length) (h : cnt (classesAt e (k + 1)) = cnt (classesAt e k)) : classesE e = classesAt e k := by
  have h1 := (stable_of h).1
  have h2 := iter_fix (f := roundE e) (x := zerosE e) (k := k) h1 (e.rows.length - k)
  rw [show k + (e.rows.length - k) = e.rows.length by omega] at h2
  exact h2
theorem classes_grow {e : Enc} : ∀ k, (∀ j, j < k → cnt (classesAt e (j + 1)) ≠ cnt (classesAt e j)) → 0 < e.rows.length → (k : Int) + 1 ≤ cnt (classesAt e k)
  | 0, _, h0 => by rw [cnt_zeros h0]; decide
  | k + 1, h, h0 => by
    have ih := classes_grow k (fun j hj => h j (by omega)) h0
    have h1 := classesAt_cnt e k
    have h2 := h k (by omega)
    omega
theorem classes_stable {e : Enc} (h0 : 0 < e.rows.length) : Stable e (classesE e) := by
  by_cases h : ∃ k, k ≤ e.rows.length ∧ cnt (classesAt e (k + 1)) = cnt (classesAt e k)
  · obtain ⟨k, hk, he⟩ := h
    rw [classes_stop hk he]
    exact (stable_of he).2
  · exfalso
    have h1 := classes_grow (e := e) (e.rows.length + 1) (fun j hj he => h ⟨j, by omega, he⟩) h0
    have h2 := cnt_le_len (l := classesAt e (e.rows.length + 1))
    rw [(classesAt_ok e _).1] at h2
    omega

section
variable {K : Type} [DecidableEq K]
theorem alGet_app {β : Type} {k a : K} {v : β} : ∀ {m : List (K × β)}, alGet (m ++ [(a, v)]) k = match alGet m k with
    | some x => some x
    | none => if k = a then some v else none
  | [] => by simp [alGet]
  | (b, w) :: r => by
    simp only [List.cons_append, alGet]
    by_cases h : k = b
    · simp [h]
    · simp only [if_neg h]; exact alGet_app
theorem numGo_map : ∀ (ks : List K) (m : List (K × Int)), (∀ p ∈ m, p.2 < (m.length : Int)) → (∀ a b v, alGet m a = some v → alGet m b = some v → a = b) →
    ∃ M : K → Option Int, (∀ k v, alGet m k = some v → M k = some v) ∧ (∀ a b v, M a = some v → M b = some v → a = b) ∧ ∀ j, (h : j < ks.length) → M ks[j] = some ((numGo m ks).getD j 0)
  | [], m, _, hi => ⟨alGet m, fun _ _ h => h, hi, fun j h => absurd h (Nat.not_lt_zero _)⟩
  | k :: r, m, hm, hi => by
    cases hk : alGet m k with
    | some v =>
      obtain ⟨M, h1, h2, h3⟩ := numGo_map r m hm hi
      refine ⟨M, h1, h2, fun j hj => ?_⟩
      simp only [numGo, hk]
      cases j with
      | zero => simpa using h1 k v hk
      | succ j => simpa using h3 j (by simpa using hj)
    | none =>
      obtain ⟨M, h1, h2, h3⟩ := numGo_map r (m ++ [(k, (m.length : Int))]) (fun p hp => by
        simp only [List.mem_append, List.mem_singleton] at hp
        simp only [List.length_append, List.length_singleton]
        rcases hp with hp | hp
        · have := hm p hp; omega
        · subst hp; simp only; omega) (fun a b v ha hb => by
        rw [alGet_app] at ha hb
        cases hma : alGet m a with
        | some x =>
          cases hmb : alGet m b with
          | some y =>
            simp only [hma, hmb, Option.some.injEq] at ha hb
            subst ha hb
            exact hi a b _ hma hmb
          | none =>
            simp only [hma, hmb, Option.some.injEq] at ha hb
            split at hb
            · injection hb with hb
              have := hm _ (alGet_mem hma)
              simp only at this
              omega
            · cases hb
        | none =>
          cases hmb : alGet m b with
          | some y =>
            simp only [hma, hmb, Option.some.injEq] at ha hb
            split at ha
            · injection ha with ha
              have := hm _ (alGet_mem hmb)
              simp only at this
              omega
            · cases ha
          | none =>
            simp only [hma, hmb] at ha hb
            split at ha
            · split at hb
              · rename_i e1 e2; rw [e1, e2]
              · cases hb
            · cases ha)
      refine ⟨M, fun k' v hv => h1 k' v (by rw [alGet_app, hv]), h2, fun j hj => ?_⟩
      simp only [numGo, hk]
      cases j with
      | zero => simpa using h1 k m.length (by rw [alGet_app, hk]; simp)
      | succ j => simpa using h3 j (by simpa using hj)
theorem numL_inj {ks : List K} {d : K} {s t : Nat} (hs : s < ks.length) (ht : t < ks.length) : (numL ks).getD s 0 = (numL ks).getD t 0 ↔ ks.getD s d = ks.getD t d := by
  obtain ⟨M, _, h2, h3⟩ := numGo_map ks [] (fun p hp => by cases hp) (fun a b v ha => by simp [alGet] at ha)
  have e1 := h3 s hs
  have e2 := h3 t ht
  have g1 : ks.getD s d = ks[s] := by simp [List.getD, hs]
  have g2 : ks.getD t d = ks[t] := by simp [List.getD, ht]
  rw [g1, g2]
  constructor
  · intro h
    unfold numL at h
    rw [h] at e1
    exact h2 _ _ _ e1 e2
  · intro h
    rw [h, e2] at e1
    injection e1 with e1
    exact e1.symm
end

theorem stable_same {e : Enc} {cl : List Int} (hst : Stable e cl) {s t i : Nat} (hs : s < e.rows.length) (ht : t < e.rows.length) (hi : i < e.inputs.toNat) (h : cl.getD s 0 = cl.getD t 0) :
    (cellAt e s i).word = (cellAt e t i).word ∧ cl.getD (cellAt e s i).to.toNat 0 = cl.getD (cellAt e t i).to.toNat 0 := by
  have h1 := hst.step i hi
  have h2 := (numL_inj (ks := keysE e cl i cl) (d := default) (s := s) (t := t) (by simpa using hs) (by simpa using ht)).1 (by
    have : numL (keysE e cl i cl) = cl := h1
    rw [this]; exact h)
  simp only [keysE, List.getD_eq_getElem?_getD, List.getElem?_map, List.getElem?_range hs, List.getElem?_range ht, Option.map_some, Option.getD_some, Finer.mk.injEq] at h2
  exact ⟨h2.2.1, by simpa [List.getD_eq_getElem?_getD] using h2.2.2⟩
end Go.Proofs.Ytmjkbidnghcfnaa
