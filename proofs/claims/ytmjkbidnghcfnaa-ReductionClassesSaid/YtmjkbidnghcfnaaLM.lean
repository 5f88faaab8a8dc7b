/-
  The abstract layer, part M: knowing less (dropped, renamed, made immutable); contracts of calls.
-/
import Derived.Test.YtmjkbidnghcfnaaLL
namespace Go.Lift
set_option linter.unusedSimpArgs false
set_option linter.unusedVariables false
open Go.RowKit

/-- pieces renamed, families as a whole. -/
def sI (f : Nat → Nat) (d : Id) : Id := (f d.1, d.2)
def vI (f : Nat → Bool) (d : Id) : Bool := f d.1
@[simp] theorem vI_mk {f : Nat → Bool} {d : Id} : vI f d = f d.1 := rfl
@[simp] theorem vI_app {f : Nat → Bool} {a b : Nat} : vI f (a, b) = f a := rfl
@[simp] theorem sI_id : sI id = id := rfl
@[simp] theorem sI_mk {f : Nat → Nat} {a b : Nat} : sI f (a, b) = (f a, b) := rfl
/-- the value v of a state says at least what v2 says in a state whose piece k is the piece σ k; fz: pieces that have become immutable; vz: pieces that stand for a nil slice. -/
def VLe (h : Heap) (σ : Id → Id) (fz : Nat → Bool) (vz : Id → Bool) (nx2 : Nat) : AVal → AVal → Prop
  | .any, _ => True
  | .ptr id i off, v => id.1 < nx2 ∧ vz id = false ∧ v = .ptr (σ id) i off
  | .sl id lo n, v => id.1 < nx2 ∧ ((vz id = false ∧ v = .sl (σ id) lo n) ∨ (v = .nils ∧ n = 0))
  | .map id, v => id.1 < nx2 ∧ vz id = false ∧ v = .map (σ id)
  | .vsl n s f, v => match v with
    | .vsl n' s' f' => n' = n ∧ s' = s ∧ ∀ i, i < n → ∀ j, j < s → (f i j).one = true ∧ VLe h σ fz vz nx2 (f i j) (f' i j)
    | .sl id lo n' => n' = n ∧ fz id.1 = true ∧ match lkH h id with
      | some (.arr N s' g) => s' = s ∧ lo + n ≤ N ∧ ∀ i, i < n → ∀ j, j < s → (f i j).one = true ∧ VLe h σ fz vz nx2 (f i j) (g (lo + i) j)
      | _ => False
    | .nils => n = 0
    | _ => False
  | .vptr s f off, v => match v with
    | .vptr s' f' off' => s' = s ∧ off' = off ∧ ∀ j, j < s → (f j).one = true ∧ VLe h σ fz vz nx2 (f j) (f' j)
    | .ptr id k off' => off' = off ∧ fz id.1 = true ∧ match lkH h id with
      | some (.arr N s' g) => s' = s ∧ k < N ∧ ∀ j, j < s → (f j).one = true ∧ VLe h σ fz vz nx2 (f j) (g k j)
      | _ => False
    | _ => False
  | .agg n f, v => match v with
    | .agg n' f' => n' = n ∧ ∀ j, j < n → VLe h σ fz vz nx2 (f j) (f' j)
    | _ => False
  | .tup n f, v => match v with
    | .tup n' f' => n' = n ∧ ∀ j, j < n → VLe h σ fz vz nx2 (f j) (f' j)
    | _ => False
  | .fn g n f, v => match v with
    | .fn g' n' f' => g' = g ∧ n' = n ∧ ∀ j, j < n → VLe h σ fz vz nx2 (f j) (f' j)
    | _ => False
  | .yld l vs n f, v => match v with
    | .yld l' vs' n' f' => l' = l ∧ vs' = vs ∧ n' = n ∧ ∀ j, j < n → VLe h σ fz vz nx2 (f j) (f' j)
    | _ => False
  | .opt g v2, v => match v with
    | .opt g' v' => g' = g ∧ VLe h σ fz vz nx2 v2 v'
    | _ => False
  | .int k n, v => v = .int k n
  | .bool b, v => v = .bool b
  | .str s, v => v = .str s
  | .nilp, v => v = .nilp
  | .nils, v => v = .nils
  | .nilmap, v => v = .nilmap
  | .nilfn, v => v = .nilfn
  | .ub p, v => v = .ub p

/-- the conditions under which such a value is good in the other context. -/
structure VCx (h : Heap) (σ : Id → Id) (fz : Nat → Bool) (vz : Id → Bool) (nx2 : Nat) (c c2 : Cx) : Prop where
  w : c2.w = c.w
  nx : nx2 ≤ c2.nx
  F : ∀ b, ¬ c.F b → ¬ c2.F b
  mu : ∀ id : Id, id.1 < nx2 → vz id = false → c2.mu id = c.mu (σ id)
  fz : ∀ (id : Id) n s f, fz id.1 = true → lkH h id = some (.arr n s f) → HRel c (c.mu id) (.arr n s f) ∧ ∀ B, c.mu id = some B → ¬ c2.F B.b ∧ B.b < c.w.heap.size

theorem VLe.rel {h : Heap} {σ : Id → Id} {fz : Nat → Bool} {vz : Id → Bool} {nx2 : Nat} {c c2 : Cx} (hc : VCx h σ fz vz nx2 c c2) : ∀ (v2 v : AVal) (x : Value), VLe h σ fz vz nx2 v2 v → Rel c v x → Rel c2 v2 x := by
  intro v2
  induction v2 with
  | any => intro v x _ _; trivial
  | int k n => intro v x hv hr; simp only [VLe] at hv; subst hv; exact hr
  | bool b => intro v x hv hr; simp only [VLe] at hv; subst hv; exact hr
  | str s => intro v x hv hr; simp only [VLe] at hv; subst hv; exact hr
  | nilp => intro v x hv hr; simp only [VLe] at hv; subst hv; exact hr
  | nils => intro v x hv hr; simp only [VLe] at hv; subst hv; exact hr
  | nilmap => intro v x hv hr; simp only [VLe] at hv; subst hv; exact hr
  | nilfn => intro v x hv hr; simp only [VLe] at hv; subst hv; exact hr
  | ub p => intro v x hv hr; simp only [VLe] at hv; subst hv; exact hr
  | ptr id i off =>
    rintro v x ⟨h1, h2, rfl⟩ ⟨_, B, hB, hx⟩
    exact ⟨Nat.lt_of_lt_of_le h1 hc.nx, B, (hc.mu id h1 h2).trans hB, hx⟩
  | map id =>
    rintro v x ⟨h1, h2, rfl⟩ ⟨_, B, hB, hx⟩
    exact ⟨Nat.lt_of_lt_of_le h1 hc.nx, B, (hc.mu id h1 h2).trans hB, hx⟩
  | sl id lo n =>
    rintro v x ⟨h1, ⟨h2, rfl⟩ | ⟨rfl, rfl⟩⟩ hr
    · obtain ⟨_, A, cap, hx, hn, hA⟩ := hr
      refine ⟨Nat.lt_of_lt_of_le h1 hc.nx, A, cap, hx, hn, ?_⟩
      rcases hA with hA | ⟨B, hB, hA⟩
      · exact .inl hA
      · exact .inr ⟨B, (hc.mu id h1 h2).trans hB, hA⟩
    · exact ⟨Nat.lt_of_lt_of_le h1 hc.nx, none, 0, hr, Nat.le_refl _, .inl rfl⟩
  | vsl n s f ih =>
    intro v x hv hr
    cases v <;> simp only [VLe] at hv
    case nils =>
      subst hv
      exact ⟨none, 0, hr, Nat.le_refl _, .inl rfl⟩
    case vsl n' s' f' =>
      obtain ⟨rfl, rfl, hp⟩ := hv
      obtain ⟨A, cap, hx, hn, hA⟩ := hr
      refine ⟨A, cap, hx, hn, ?_⟩
      rcases hA with hA | ⟨b, o, hA, hF, hb, hcc⟩
      · exact .inl hA
      · refine .inr ⟨b, o, hA, hc.F b hF, by rw [hc.w]; exact hb, fun i hi j hj => ?_⟩
        obtain ⟨_, y, hy, hyr⟩ := hcc i hi j hj
        exact ⟨(hp i hi j hj).1, y, by rw [hc.w]; exact hy, ih i j _ y (hp i hi j hj).2 hyr⟩
    case sl id lo n' =>
      obtain ⟨rfl, hfz, hv⟩ := hv
      split at hv
      · rename_i N s' g hl
        obtain ⟨rfl, hN, hp⟩ := hv
        obtain ⟨_, A, cap, hx, hn, hA⟩ := hr
        refine ⟨A, cap, hx, hn, ?_⟩
        obtain ⟨hH, hB2⟩ := hc.fz id _ _ _ hfz hl
        rcases hA with hA | ⟨B, hB, hA, hfit⟩
        · exact .inl (by omega)
        · rw [hB] at hH
          obtain ⟨hs, cs, T, hh, hsz, hle, hcc⟩ := hH
          refine .inr ⟨B.b, B.o + lo * B.s, hA, (hB2 B hB).1, by rw [hc.w]; exact (hB2 B hB).2, fun i hi j hj => ?_⟩
          obtain ⟨_, y, hy, hyr⟩ := hcc (lo + i) (by omega) j hj
          refine ⟨(hp i hi j hj).1, y, ?_, ih i j _ y (hp i hi j hj).2 hyr⟩
          rw [hc.w]
          simp only [World.cell?, hh, Option.isSome_none, Bool.false_eq_true, if_false]
          rw [← hy]
          congr 1
          rw [hs, Nat.add_mul]
          omega
      · exact hv.elim
  | vptr s f off ih =>
    intro v x hv hr
    cases v <;> simp only [VLe] at hv
    case vptr s' f' off' =>
      obtain ⟨rfl, rfl, hp⟩ := hv
      obtain ⟨b, o, hx, hF, hb, hcc⟩ := hr
      refine ⟨b, o, hx, hc.F b hF, by rw [hc.w]; exact hb, fun j hj => ?_⟩
      obtain ⟨_, y, hy, hyr⟩ := hcc j hj
      exact ⟨(hp j hj).1, y, by rw [hc.w]; exact hy, ih j _ y (hp j hj).2 hyr⟩
    case ptr id k off' =>
      obtain ⟨rfl, hfz, hv⟩ := hv
      split at hv
      · rename_i N s' g hl
        obtain ⟨rfl, hN, hp⟩ := hv
        obtain ⟨_, B, hB, hx⟩ := hr
        obtain ⟨hH, hB2⟩ := hc.fz id _ _ _ hfz hl
        rw [hB] at hH
        obtain ⟨hs, cs, T, hh, hsz, hle, hcc⟩ := hH
        refine ⟨B.b, B.o + k * B.s, hx, (hB2 B hB).1, by rw [hc.w]; exact (hB2 B hB).2, fun j hj => ?_⟩
        obtain ⟨_, y, hy, hyr⟩ := hcc k hN j hj
        refine ⟨(hp j hj).1, y, ?_, ih j _ y (hp j hj).2 hyr⟩
        rw [hc.w]
        simp only [World.cell?, hh, Option.isSome_none, Bool.false_eq_true, if_false]
        rw [← hy, hs]
      · exact hv.elim
  | agg n f ih =>
    intro v x hv hr
    cases v <;> simp only [VLe] at hv
    obtain ⟨rfl, hp⟩ := hv
    obtain ⟨cs, hx, hs, hcc⟩ := hr
    exact ⟨cs, hx, hs, fun j hj => ih j _ _ (hp j hj) (hcc j hj)⟩
  | tup n f ih =>
    intro v x hv hr
    cases v <;> simp only [VLe] at hv
    obtain ⟨rfl, hp⟩ := hv
    obtain ⟨cs, hx, hs, hcc⟩ := hr
    exact ⟨cs, hx, hs, fun j hj => ih j _ _ (hp j hj) (hcc j hj)⟩
  | fn g n f ih =>
    intro v x hv hr
    cases v <;> simp only [VLe] at hv
    obtain ⟨rfl, rfl, hp⟩ := hv
    obtain ⟨cs, hx, hs, hcc⟩ := hr
    exact ⟨cs, hx, hs, fun j hj => ih j _ _ (hp j hj) (hcc j hj)⟩
  | yld l vs n f ih =>
    intro v x hv hr
    cases v <;> simp only [VLe] at hv
    obtain ⟨rfl, rfl, rfl, hp⟩ := hv
    obtain ⟨hx, hs, hcc⟩ := hr
    exact ⟨hx, hs, fun j hj => ih j _ _ (hp j hj) (hcc j hj)⟩
  | opt g v2 ih =>
    intro v x hv hr
    cases v <;> simp only [VLe] at hv
    obtain ⟨rfl, hp⟩ := hv
    exact ⟨fun hg => ih _ x hp (hr.1 hg), hr.2⟩

def envLe (h : Heap) (e : Env) (σ : Id → Id) (fz : Nat → Bool) (vz : Id → Bool) (nx2 : Nat) : Env → Prop
  | [] => True
  | (t, v2) :: r => VLe h σ fz vz nx2 v2 (lk e t) ∧ envLe h e σ fz vz nx2 r

theorem envLe_lk {h : Heap} {e : Env} {σ : Id → Id} {fz : Nat → Bool} {vz : Id → Bool} {nx2 : Nat} : ∀ {e2 : Env}, envLe h e σ fz vz nx2 e2 → ∀ t, VLe h σ fz vz nx2 (lk e2 t) (lk e t)
  | [], _, _ => trivial
  | (k, v2) :: r, hh, t => by
    simp only [lk]
    by_cases hk : k = t
    · subst hk; rw [if_pos rfl]; exact hh.1
    · rw [if_neg hk]; exact envLe_lk hh.2 t

/-- an object of the poorer state, against what lies at its place in the richer one. -/
def HLe (h : Heap) (σ : Id → Id) (fz : Nat → Bool) (vz : Id → Bool) (nx2 : Nat) (o2 : HObj) (o : Option HObj) : Prop :=
  match o2, o with
  | .arr n2 s2 f2, some (.arr n s f) => n2 ≤ n ∧ s2 = s ∧ ∀ i, i < n2 → ∀ j, j < s2 → (f2 i j).one = true ∧ VLe h σ fz vz nx2 (f2 i j) (f i j)
  | .mp l2, some (.mp l) => l2.length = l.length ∧ ∀ i (hi : i < l2.length) (hi' : i < l.length), VLe h σ fz vz nx2 l2[i].1 l[i].1 ∧ VLe h σ fz vz nx2 l2[i].2 l[i].2
  | _, _ => False

def heapLe (h : Heap) (σ : Id → Id) (fz : Nat → Bool) (vz : Id → Bool) (nx2 : Nat) : Heap → Prop
  | [] => True
  | (k, e) :: r => k < nx2 ∧ (match e with
    | .one o2 => if vz (k, 0) = true then (match o2 with | .arr n _ _ => n = 0 | _ => False) else fz (σ (k, 0)).1 = false ∧ HLe h σ fz vz nx2 o2 (lkH h (σ (k, 0)))
    | .fam o2 r2 => (if vz (k, 0) = true then (match o2 with | .arr n _ _ => n = 0 | _ => False) else fz (σ (k, 0)).1 = false ∧ HLe h σ fz vz nx2 o2 (lkH h (σ (k, 0)))) ∧ ∀ i o, r2 i = some o → if vz (k, i + 1) = true then (match o with | .arr n _ _ => n = 0 | _ => False) else fz (σ (k, i + 1)).1 = false ∧ HLe h σ fz vz nx2 o (lkH h (σ (k, i + 1)))) ∧ heapLe h σ fz vz nx2 r

def keyInj (σ : Nat → Nat) (vz : Nat → Bool) : List Nat → Bool
  | [] => true
  | k :: r => (vz k || r.all fun k' => vz k' || k' == k || σ k' != σ k) && keyInj σ vz r

theorem heapLe_lk {h : Heap} {σ : Id → Id} {fz : Nat → Bool} {vz : Id → Bool} {nx2 : Nat} : ∀ {h2 : Heap}, heapLe h σ fz vz nx2 h2 → ∀ id o2, lkH h2 id = some o2 → id.1 < nx2 ∧ id.1 ∈ h2.map (·.1) ∧
    ((vz id = true ∧ ∃ s f, o2 = .arr 0 s f) ∨ (vz id = false ∧ fz (σ id).1 = false ∧ HLe h σ fz vz nx2 o2 (lkH h (σ id))))
  | [], _, id, o2, hl => by simp [lkH] at hl
  | (k, e) :: r, hh, id, o2, hl => by
    obtain ⟨h1, h2, h3⟩ := hh
    simp only [lkH] at hl
    by_cases hk : k = id.1
    · rw [if_pos hk] at hl
      subst hk
      refine ⟨h1, by simp, ?_⟩
      obtain ⟨k, k2⟩ := id
      simp only at hl h2 ⊢
      cases e with
      | one o =>
        cases k2 with
        | succ i => simp [HEnt.get] at hl
        | zero =>
          simp only [HEnt.get, Option.some.injEq] at hl
          subst hl
          simp only at h2
          by_cases hv : vz (k, 0) = true
          · rw [if_pos hv] at h2
            cases o with
            | arr n s f => simp only at h2; subst h2; exact .inl ⟨hv, s, f, rfl⟩
            | mp l => exact h2.elim
          · rw [if_neg hv] at h2
            exact .inr ⟨by simpa using hv, h2⟩
      | fam o r2 =>
        obtain ⟨ho, hr⟩ := h2
        cases k2 with
        | zero =>
          simp only [HEnt.get, Option.some.injEq] at hl
          subst hl
          by_cases hv : vz (k, 0) = true
          · rw [if_pos hv] at ho
            cases o with
            | arr n s f => simp only at ho; subst ho; exact .inl ⟨hv, s, f, rfl⟩
            | mp l => exact ho.elim
          · rw [if_neg hv] at ho
            exact .inr ⟨by simpa using hv, ho⟩
        | succ i =>
          simp only [HEnt.get] at hl
          have h2 := hr i o2 hl
          by_cases hv : vz (k, i + 1) = true
          · rw [if_pos hv] at h2
            cases o2 with
            | arr n s f => simp only at h2; subst h2; exact .inl ⟨hv, s, f, rfl⟩
            | mp l => exact h2.elim
          · rw [if_neg hv] at h2
            exact .inr ⟨by simpa using hv, h2⟩
    · rw [if_neg hk] at hl
      obtain ⟨a, b, c⟩ := heapLe_lk h3 id o2 hl
      exact ⟨a, by simp [b], c⟩

theorem keyInj_spec {σ : Nat → Nat} {vz : Nat → Bool} : ∀ {l : List Nat}, keyInj σ vz l = true → ∀ k k', k ∈ l → k' ∈ l → vz k = false → vz k' = false → σ k = σ k' → k = k'
  | [], _, k, _, hk, _, _, _, _ => by cases hk
  | a :: r, h, k, k', hk, hk', hv, hv', he => by
    simp only [keyInj, Bool.and_eq_true, Bool.or_eq_true, List.all_eq_true, beq_iff_eq, bne_iff_ne, ne_eq] at h
    obtain ⟨h1, h2⟩ := h
    cases hk with
    | head =>
      cases hk' with
      | head => rfl
      | tail _ hk' =>
        rcases h1 with h1 | h1
        · rw [hv] at h1; cases h1
        · rcases h1 k' hk' with (h3 | h3) | h3
          · rw [hv'] at h3; cases h3
          · exact h3.symm
          · exact absurd he.symm h3
    | tail _ hk =>
      cases hk' with
      | head =>
        rcases h1 with h1 | h1
        · rw [hv'] at h1; cases h1
        · rcases h1 k hk with (h3 | h3) | h3
          · rw [hv] at h3; cases h3
          · exact h3
          · exact absurd he h3
      | tail _ hk' => exact keyInj_spec h2 k k' hk hk' hv hv' he

section
variable {P : Program} {G : Gh} {n0 : Nat}

theorem wk_ofI {st st2 : St} (σ : Id → Id) (fz : Nat → Bool) (vz : Id → Bool) (henv : envLe st.heap st.env σ fz vz st2.nx st2.env) (hheap : heapLe st.heap σ fz vz st2.nx st2.heap)
    (hinj : ∀ id id' : Id, (lkH st2.heap id).isSome = true → (lkH st2.heap id').isSome = true → vz id = false → vz id' = false → σ id = σ id' → id = id') (hn0 : n0 ≤ st2.nx) (hid : ∀ id : Id, id.1 < n0 → σ id = id ∧ vz id = false) : Wk G n0 st st2 := by
  intro mu a w hs hn
  let mu2 : Id → Option Base := fun id => if vz id then none else mu (σ id)
  have hmu2 : ∀ id : Id, vz id = false → mu2 id = mu (σ id) := fun id h => by simp only [mu2, h]; rfl
  have hmuv : ∀ id : Id, vz id = true → mu2 id = none := fun id h => by simp only [mu2, h]; rfl
  have hk := hs.heap
  have hsome : ∀ id o2, lkH st2.heap id = some o2 → vz id = false → ∃ o, lkH st.heap (σ id) = some o ∧ HLe st.heap σ fz vz st2.nx o2 (some o) ∧ fz (σ id).1 = false := fun id o2 hl hv => by
    obtain ⟨_, _, h3⟩ := heapLe_lk hheap id o2 hl
    rcases h3 with ⟨h3, _⟩ | ⟨_, h4, h5⟩
    · rw [hv] at h3; cases h3
    · cases ho : lkH st.heap (σ id) with
      | none => rw [ho] at h5; cases o2 <;> exact h5.elim
      | some o => rw [ho] at h5; exact ⟨o, rfl, h5, h4⟩
  have hF2 : ∀ b, Fb G.O st2.heap mu2 b → Fb G.O st.heap mu b := by
    rintro b (hO | ⟨id, o2, B, hl, hm, hb⟩)
    · exact .inl hO
    · cases hv : vz id with
      | true => rw [hmuv id hv] at hm; cases hm
      | false =>
        obtain ⟨o, ho, _⟩ := hsome id o2 hl hv
        rw [hmu2 id hv] at hm
        exact .inr ⟨_, o, B, ho, hm, hb⟩
  have hcx : VCx st.heap σ fz vz st2.nx (cx G st.heap mu st.nx w) (cx G st2.heap mu2 st2.nx w) := by
    refine ⟨rfl, Nat.le_refl _, fun b hF hF2' => hF (hF2 b hF2'), fun id _ hv => hmu2 id hv, fun id n s f hfz hl => ⟨(hk.obj id _ hl).2, fun B hB => ⟨fun hF => ?_, (hk.own id _ B hl hB).1⟩⟩⟩
    rcases hF with hO | ⟨id', o2, B', hl', hm', hb'⟩
    · exact (hk.own id _ B hl hB).2.2 hO
    · cases hv : vz id' with
      | true => rw [hmuv id' hv] at hm'; cases hm'
      | false =>
        obtain ⟨o, ho, _, hf⟩ := hsome id' o2 hl' hv
        rw [hmu2 id' hv] at hm'
        have := hk.sep _ _ _ _ B' B ho hl hm' hB hb'
        rw [← this] at hfz
        rw [hf] at hfz
        cases hfz
  refine ⟨mu2, ⟨hs.defers, hs.size, fun t => VLe.rel hcx _ _ _ (envLe_lk henv t) (hs.env t), ⟨fun id o2 hl => ?_, fun id id' o o' B B' hl hl' hm hm' hb => ?_, fun id o B hl hm => ?_, hk.kept, hk.out⟩⟩, hn0, ⟨?_⟩⟩
  · obtain ⟨h1, _, h3⟩ := heapLe_lk hheap id o2 hl
    refine ⟨h1, ?_⟩
    rcases h3 with ⟨hv, s, f, rfl⟩ | ⟨hv, _, _⟩
    · rw [hmuv id hv]; rfl
    · obtain ⟨o, ho, hle, _⟩ := hsome id o2 hl hv
      rw [hmu2 id hv]
      have hr := (hk.obj _ _ ho).2
      cases o2 with
      | arr n2 s2 f2 =>
        cases o with
        | mp l => exact hle.elim
        | arr n s f =>
          obtain ⟨hn2, rfl, hp⟩ := hle
          cases hm : mu (σ id) with
          | none => rw [hm] at hr; simp only [HRel] at hr ⊢; omega
          | some B =>
            rw [hm] at hr
            obtain ⟨hss, cs, T, hh, hsz, hfit, hcc⟩ := hr
            refine ⟨hss, cs, T, hh, hsz, ?_, fun i hi j hj => ?_⟩
            · have := Nat.mul_le_mul_right s2 hn2
              omega
            · obtain ⟨_, y, hy, hyr⟩ := hcc i (by omega) j hj
              exact ⟨(hp i hi j hj).1, y, hy, VLe.rel hcx _ _ _ (hp i hi j hj).2 hyr⟩
      | mp l2 =>
        cases o with
        | arr n s f => exact hle.elim
        | mp l =>
          obtain ⟨hlen, hp⟩ := hle
          cases hm : mu (σ id) with
          | none => rw [hm] at hr; exact hr.elim
          | some B =>
            rw [hm] at hr
            obtain ⟨es, clock, hh, hsz, hcc⟩ := hr
            refine ⟨es, clock, hh, hsz.trans hlen.symm, fun i hi e he => ?_⟩
            have hi' : i < l.length := by omega
            exact ⟨VLe.rel hcx _ _ _ (hp i hi hi').1 (hcc i hi' e he).1, VLe.rel hcx _ _ _ (hp i hi hi').2 (hcc i hi' e he).2⟩
  · cases hv : vz id with
    | true => rw [hmuv id hv] at hm; cases hm
    | false =>
      cases hv' : vz id' with
      | true => rw [hmuv id' hv'] at hm'; cases hm'
      | false =>
        rw [hmu2 id hv] at hm
        rw [hmu2 id' hv'] at hm'
        obtain ⟨p, hp, _⟩ := hsome id o hl hv
        obtain ⟨p', hp', _⟩ := hsome id' o' hl' hv'
        have heq := hk.sep _ _ _ _ B B' hp hp' hm hm' hb
        exact hinj id id' (by rw [hl]; rfl) (by rw [hl']; rfl) hv hv' heq
  · cases hv : vz id with
    | true => rw [hmuv id hv] at hm; cases hm
    | false =>
      rw [hmu2 id hv] at hm
      obtain ⟨p, hp, _⟩ := hsome id o hl hv
      exact hk.own _ _ B hp hm
  · exact ⟨Nat.le_refl _, fun b _ hF hF2' => hF (hF2 b hF2'), fun _ _ _ _ => rfl, Nat.le_refl _, fun id hid' => by
      obtain ⟨h1, h2⟩ := hid id hid'
      show mu2 id = mu id
      rw [hmu2 id h2, h1], fun _ h => h⟩
theorem lkH_keys {h : Heap} {id : Id} (hs : (lkH h id).isSome = true) : id.1 ∈ h.map (·.1) := by
  induction h with
  | nil => simp [lkH] at hs
  | cons e h ih =>
    obtain ⟨k, e⟩ := e
    simp only [lkH] at hs
    by_cases hk : k = id.1
    · simp [hk]
    · rw [if_neg hk] at hs; simp [ih hs]
theorem wk_of {st st2 : St} (σ : Nat → Nat) (fz vz : Nat → Bool) (henv : envLe st.heap st.env (sI σ) fz (vI vz) st2.nx st2.env) (hheap : heapLe st.heap (sI σ) fz (vI vz) st2.nx st2.heap)
    (hinj : keyInj σ vz (st2.heap.map (·.1)) = true) (hn0 : n0 ≤ st2.nx) (hid : ∀ k, k < n0 → σ k = k ∧ vz k = false) : Wk G n0 st st2 :=
  wk_ofI (sI σ) fz (vI vz) henv hheap (fun id id' h1 h2 v1 v2 he => by
    injection he with e1 e2
    exact Prod.ext (keyInj_spec hinj _ _ (lkH_keys h1) (lkH_keys h2) v1 v2 e1) e2) hn0 fun id hlt => ⟨by
      show (σ id.1, id.2) = id
      rw [(hid id.1 hlt).1], (hid id.1 hlt).2⟩
end
end Go.Lift
