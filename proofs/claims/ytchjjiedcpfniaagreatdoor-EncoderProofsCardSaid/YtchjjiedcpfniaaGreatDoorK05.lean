/- Parts of the proof: LM. -/
import Derived.RangeFuncRecord
import Derived.Test.YtchjjiedcpfniaaGreatDoorK04
namespace Go.Lift
set_option linter.unusedSimpArgs false
set_option linter.unusedVariables false
open Go.RowKit
def sI (f : Nat → Nat) (d : Id) : Id := (f d.1, d.2)
def vI (f : Nat → Bool) (d : Id) : Bool := f d.1
@[simp] theorem vI_mk {f : Nat → Bool} {d : Id} : vI f d = f d.1 := rfl
@[simp] theorem vI_app {f : Nat → Bool} {a b : Nat} : vI f (a, b) = f a := rfl
@[simp] theorem sI_id : sI id = id := rfl
@[simp] theorem sI_mk {f : Nat → Nat} {a b : Nat} : sI f (a, b) = (f a, b) := rfl
def VLe (h : Heap) (σ : Id → Id) (fz : Nat → Bool) (vz : Id → Bool) (nx2 : Nat) : AVal → AVal → Prop
  | .any, _ => True
  | .ptr id i off, v => id.1 < nx2 ∧ vz id = false ∧ v = .ptr (σ id) i off
  | .sl id lo n, v => id.1 < nx2 ∧ ((vz id = false ∧ v = .sl (σ id) lo n) ∨ (v = .nils ∧ n = 0))
  | .map id, v => id.1 < nx2 ∧ vz id = false ∧ v = .map (σ id)
  | .vsl n s f, v => match v with
    | .vsl n' s' f' => n' = n ∧ s' = s ∧ ∀ i, i < n → ∀ j, j < s → (f i j).one = true ∧ VLe h σ fz vz nx2 (f i j) (f' i j)
    | .sl id lo n' => n' = n ∧ fz id.1 = true ∧ match lkH h id with
      | some (.arr N s' g) => s' = s ∧ lo + n ≤ N ∧ ∀ i, i < n → ∀ j, j < s → (f i j).one = true ∧ VLe h σ fz vz nx2 (f i j) (g (lo + i) j)
      | _ => False
    | .nils => n = 0
    | _ => False
  | .vptr s f off, v => match v with
    | .vptr s' f' off' => s' = s ∧ off' = off ∧ ∀ j, j < s → (f j).one = true ∧ VLe h σ fz vz nx2 (f j) (f' j)
    | .ptr id k off' => off' = off ∧ fz id.1 = true ∧ match lkH h id with
      | some (.arr N s' g) => s' = s ∧ k < N ∧ ∀ j, j < s → (f j).one = true ∧ VLe h σ fz vz nx2 (f j) (g k j)
      | _ => False
    | _ => False
  | .agg n f, v => match v with
    | .agg n' f' => n' = n ∧ ∀ j, j < n → VLe h σ fz vz nx2 (f j) (f' j)
    | _ => False
  | .tup n f, v => match v with
    | .tup n' f' => n' = n ∧ ∀ j, j < n → VLe h σ fz vz nx2 (f j) (f' j)
    | _ => False
  | .fn g n f, v => match v with
    | .fn g' n' f' => g' = g ∧ n' = n ∧ ∀ j, j < n → VLe h σ fz vz nx2 (f j) (f' j)
    | _ => False
  | .bnd g v2, v => match v with
    | .bnd g' v' => g' = g ∧ VLe h σ fz vz nx2 v2 v'
    | _ => False
  | .yld l vs n f, v => match v with
    | .yld l' vs' n' f' => l' = l ∧ vs' = vs ∧ n' = n ∧ ∀ j, j < n → VLe h σ fz vz nx2 (f j) (f' j)
    | _ => False
  | .opt g v2, v => match v with
    | .opt g' v' => g' = g ∧ VLe h σ fz vz nx2 v2 v'
    | _ => False
  | .int k n, v => v = .int k n
  | .bool b, v => v = .bool b
  | .str s, v => v = .str s
  | .nilp, v => v = .nilp
  | .nils, v => v = .nils
  | .nilmap, v => v = .nilmap
  | .nilfn, v => v = .nilfn
  | .ub p, v => v = .ub p
structure VCx (h : Heap) (σ : Id → Id) (fz : Nat → Bool) (vz : Id → Bool) (nx2 : Nat) (c c2 : Cx) : Prop where
  w : c2.w = c.w
  nx : nx2 ≤ c2.nx
  F : ∀ b, ¬ c.F b → ¬ c2.F b
  mu : ∀ id : Id, id.1 < nx2 → vz id = false → c2.mu id = c.mu (σ id)
  fz : ∀ (id : Id) n s f, fz id.1 = true → lkH h id = some (.arr n s f) → HRel c (c.mu id) (.arr n s f) ∧ ∀ B, c.mu id = some B → ¬ c2.F B.b ∧ B.b < c.w.heap.size
theorem VLe.rel {h : Heap} {σ : Id → Id} {fz : Nat → Bool} {vz : Id → Bool} {nx2 : Nat} {c c2 : Cx} (hc : VCx h σ fz vz nx2 c c2) : ∀ (v2 v : AVal) (x : Value), VLe h σ fz vz nx2 v2 v → Rel c v x → Rel c2 v2 x := by
  intro v2
  induction v2 with
  | any => intro v x _ _; trivial
  | int k n => intro v x hv hr; simp only [VLe] at hv; subst hv; exact hr
  | bool b => intro v x hv hr; simp only [VLe] at hv; subst hv; exact hr
  | str s => intro v x hv hr; simp only [VLe] at hv; subst hv; exact hr
  | nilp => intro v x hv hr; simp only [VLe] at hv; subst hv; exact hr
  | nils => intro v x hv hr; simp only [VLe] at hv; subst hv; exact hr
  | nilmap => intro v x hv hr; simp only [VLe] at hv; subst hv; exact hr
  | nilfn => intro v x hv hr; simp only [VLe] at hv; subst hv; exact hr
  | ub p => intro v x hv hr; simp only [VLe] at hv; subst hv; exact hr
  | ptr id i off =>
    rintro v x ⟨h1, h2, rfl⟩ ⟨_, B, hB, hx⟩
    exact ⟨Nat.lt_of_lt_of_le h1 hc.nx, B, (hc.mu id h1 h2).trans hB, hx⟩
  | map id =>
    rintro v x ⟨h1, h2, rfl⟩ ⟨_, B, hB, hx⟩
    exact ⟨Nat.lt_of_lt_of_le h1 hc.nx, B, (hc.mu id h1 h2).trans hB, hx⟩
  | sl id lo n =>
    rintro v x ⟨h1, ⟨h2, rfl⟩ | ⟨rfl, rfl⟩⟩ hr
    · obtain ⟨_, A, cap, hx, hn, hA⟩ := hr
      refine ⟨Nat.lt_of_lt_of_le h1 hc.nx, A, cap, hx, hn, ?_⟩
      rcases hA with hA | ⟨B, hB, hA⟩
      · exact .inl hA
      · exact .inr ⟨B, (hc.mu id h1 h2).trans hB, hA⟩
    · exact ⟨Nat.lt_of_lt_of_le h1 hc.nx, none, 0, hr, Nat.le_refl _, .inl rfl⟩
  | vsl n s f ih =>
    intro v x hv hr
    cases v <;> simp only [VLe] at hv
    case nils =>
      subst hv
      exact ⟨none, 0, hr, Nat.le_refl _, .inl rfl⟩
    case vsl n' s' f' =>
      obtain ⟨rfl, rfl, hp⟩ := hv
      obtain ⟨A, cap, hx, hn, hA⟩ := hr
      refine ⟨A, cap, hx, hn, ?_⟩
      rcases hA with hA | ⟨b, o, hA, hF, hb, hcc⟩
      · exact .inl hA
      · refine .inr ⟨b, o, hA, hc.F b hF, by rw [hc.w]; exact hb, fun i hi j hj => ?_⟩
        obtain ⟨_, y, hy, hyr⟩ := hcc i hi j hj
        exact ⟨(hp i hi j hj).1, y, by rw [hc.w]; exact hy, ih i j _ y (hp i hi j hj).2 hyr⟩
    case sl id lo n' =>
      obtain ⟨rfl, hfz, hv⟩ := hv
      split at hv
      · rename_i N s' g hl
        obtain ⟨rfl, hN, hp⟩ := hv
        obtain ⟨_, A, cap, hx, hn, hA⟩ := hr
        refine ⟨A, cap, hx, hn, ?_⟩
        obtain ⟨hH, hB2⟩ := hc.fz id _ _ _ hfz hl
        rcases hA with hA | ⟨B, hB, hA, hfit⟩
        · exact .inl (by omega)
        · rw [hB] at hH
          obtain ⟨hs, cs, T, hh, hsz, hle, hcc⟩ := hH
          refine .inr ⟨B.b, B.o + lo * B.s, hA, (hB2 B hB).1, by rw [hc.w]; exact (hB2 B hB).2, fun i hi j hj => ?_⟩
          obtain ⟨_, y, hy, hyr⟩ := hcc (lo + i) (by omega) j hj
          refine ⟨(hp i hi j hj).1, y, ?_, ih i j _ y (hp i hi j hj).2 hyr⟩
          rw [hc.w]
          simp only [World.cell?, hh, Option.isSome_none, Bool.false_eq_true, if_false]
          rw [← hy]
          congr 1
          rw [hs, Nat.add_mul]
          omega
      · exact hv.elim
  | vptr s f off ih =>
    intro v x hv hr
    cases v <;> simp only [VLe] at hv
    case vptr s' f' off' =>
      obtain ⟨rfl, rfl, hp⟩ := hv
      obtain ⟨b, o, hx, hF, hb, hcc⟩ := hr
      refine ⟨b, o, hx, hc.F b hF, by rw [hc.w]; exact hb, fun j hj => ?_⟩
      obtain ⟨_, y, hy, hyr⟩ := hcc j hj
      exact ⟨(hp j hj).1, y, by rw [hc.w]; exact hy, ih j _ y (hp j hj).2 hyr⟩
    case ptr id k off' =>
      obtain ⟨rfl, hfz, hv⟩ := hv
      split at hv
      · rename_i N s' g hl
        obtain ⟨rfl, hN, hp⟩ := hv
        obtain ⟨_, B, hB, hx⟩ := hr
        obtain ⟨hH, hB2⟩ := hc.fz id _ _ _ hfz hl
        rw [hB] at hH
        obtain ⟨hs, cs, T, hh, hsz, hle, hcc⟩ := hH
        refine ⟨B.b, B.o + k * B.s, hx, (hB2 B hB).1, by rw [hc.w]; exact (hB2 B hB).2, fun j hj => ?_⟩
        obtain ⟨_, y, hy, hyr⟩ := hcc k hN j hj
        refine ⟨(hp j hj).1, y, ?_, ih j _ y (hp j hj).2 hyr⟩
        rw [hc.w]
        simp only [World.cell?, hh, Option.isSome_none, Bool.false_eq_true, if_false]
        rw [← hy, hs]
      · exact hv.elim
  | agg n f ih =>
    intro v x hv hr
    cases v <;> simp only [VLe] at hv
    obtain ⟨rfl, hp⟩ := hv
    obtain ⟨cs, hx, hs, hcc⟩ := hr
    exact ⟨cs, hx, hs, fun j hj => ih j _ _ (hp j hj) (hcc j hj)⟩
  | tup n f ih =>
    intro v x hv hr
    cases v <;> simp only [VLe] at hv
    obtain ⟨rfl, hp⟩ := hv
    obtain ⟨cs, hx, hs, hcc⟩ := hr
    exact ⟨cs, hx, hs, fun j hj => ih j _ _ (hp j hj) (hcc j hj)⟩
  | fn g n f ih =>
    intro v x hv hr
    cases v <;> simp only [VLe] at hv
    obtain ⟨rfl, rfl, hp⟩ := hv
    obtain ⟨cs, hx, hs, hcc⟩ := hr
    exact ⟨cs, hx, hs, fun j hj => ih j _ _ (hp j hj) (hcc j hj)⟩
  | bnd g v2 ih =>
    intro v x hv hr
    cases v <;> simp only [VLe] at hv
    obtain ⟨rfl, hp⟩ := hv
    obtain ⟨y, hx, hy⟩ := hr
    exact ⟨y, hx, ih _ y hp hy⟩
  | yld l vs n f ih =>
    intro v x hv hr
    cases v <;> simp only [VLe] at hv
    obtain ⟨rfl, rfl, rfl, hp⟩ := hv
    obtain ⟨hx, hs, hcc⟩ := hr
    exact ⟨hx, hs, fun j hj => ih j _ _ (hp j hj) (hcc j hj)⟩
  | opt g v2 ih =>
    intro v x hv hr
    cases v <;> simp only [VLe] at hv
    obtain ⟨rfl, hp⟩ := hv
    exact ⟨fun hg => ih _ x hp (hr.1 hg), hr.2⟩
def envLe (h : Heap) (e : Env) (σ : Id → Id) (fz : Nat → Bool) (vz : Id → Bool) (nx2 : Nat) : Env → Prop
  | [] => True
  | (t, v2) :: r => VLe h σ fz vz nx2 v2 (lk e t) ∧ envLe h e σ fz vz nx2 r
theorem envLe_lk {h : Heap} {e : Env} {σ : Id → Id} {fz : Nat → Bool} {vz : Id → Bool} {nx2 : Nat} : ∀ {e2 : Env}, envLe h e σ fz vz nx2 e2 → ∀ t, VLe h σ fz vz nx2 (lk e2 t) (lk e t)
  | [], _, _ => trivial
  | (k, v2) :: r, hh, t => by
    simp only [lk]
    by_cases hk : k = t
    · subst hk; rw [if_pos rfl]; exact hh.1
    · rw [if_neg hk]; exact envLe_lk hh.2 t
def HLe (h : Heap) (σ : Id → Id) (fz : Nat → Bool) (vz : Id → Bool) (nx2 : Nat) (o2 : HObj) (o : Option HObj) : Prop :=
  match o2, o with
  | .arr n2 s2 f2, some (.arr n s f) => n2 ≤ n ∧ s2 = s ∧ ∀ i, i < n2 → ∀ j, j < s2 → (f2 i j).one = true ∧ VLe h σ fz vz nx2 (f2 i j) (f i j)
  | .mp l2, some (.mp l) => l2.length = l.length ∧ ∀ i (hi : i < l2.length) (hi' : i < l.length), VLe h σ fz vz nx2 l2[i].1 l[i].1 ∧ VLe h σ fz vz nx2 l2[i].2 l[i].2
  | .ob p2, some (.ob p) => ∀ b x, p b x → p2 b x
  | .mi q2 l2, some (.mi q l) => q2 = q ∧ l2.length = l.length ∧ ∀ i (hi : i < l2.length) (hi' : i < l.length), VLe h σ fz vz nx2 l2[i].1 l[i].1 ∧ VLe h σ fz vz nx2 l2[i].2 l[i].2
  | .mp l2, some (.mi _ l) => l2.length = l.length ∧ ∀ i (hi : i < l2.length) (hi' : i < l.length), VLe h σ fz vz nx2 l2[i].1 l[i].1 ∧ VLe h σ fz vz nx2 l2[i].2 l[i].2
  | _, _ => False
def heapLe (h : Heap) (σ : Id → Id) (fz : Nat → Bool) (vz : Id → Bool) (nx2 : Nat) : Heap → Prop
  | [] => True
  | (k, e) :: r => k < nx2 ∧ (match e with
    | .one o2 => if vz (k, 0) = true then (match o2 with | .arr n _ _ => n = 0 | _ => False) else fz (σ (k, 0)).1 = false ∧ HLe h σ fz vz nx2 o2 (lkH h (σ (k, 0)))
    | .typ t2 o2 => if vz (k, 0) = true then (match o2 with | .arr n _ _ => n = 0 | _ => False) else fz (σ (k, 0)).1 = false ∧ HLe h σ fz vz nx2 o2 (lkH h (σ (k, 0))) ∧ tyH h (σ (k, 0)) = some t2
    | .fam o2 r2 => (if vz (k, 0) = true then (match o2 with | .arr n _ _ => n = 0 | _ => False) else fz (σ (k, 0)).1 = false ∧ HLe h σ fz vz nx2 o2 (lkH h (σ (k, 0)))) ∧ ∀ i o, r2 i = some o → if vz (k, i + 1) = true then (match o with | .arr n _ _ => n = 0 | _ => False) else fz (σ (k, i + 1)).1 = false ∧ HLe h σ fz vz nx2 o (lkH h (σ (k, i + 1)))) ∧ heapLe h σ fz vz nx2 r
def keyInj (σ : Nat → Nat) (vz : Nat → Bool) : List Nat → Bool
  | [] => true
  | k :: r => (vz k || r.all fun k' => vz k' || k' == k || σ k' != σ k) && keyInj σ vz r
theorem heapLe_lk {h : Heap} {σ : Id → Id} {fz : Nat → Bool} {vz : Id → Bool} {nx2 : Nat} : ∀ {h2 : Heap}, heapLe h σ fz vz nx2 h2 → ∀ id o2, lkH h2 id = some o2 → id.1 < nx2 ∧ id.1 ∈ h2.map (·.1) ∧
    ((vz id = true ∧ ∃ s f, o2 = .arr 0 s f) ∨ (vz id = false ∧ fz (σ id).1 = false ∧ HLe h σ fz vz nx2 o2 (lkH h (σ id))))
  | [], _, id, o2, hl => by simp [lkH] at hl
  | (k, e) :: r, hh, id, o2, hl => by
    obtain ⟨h1, h2, h3⟩ := hh
    simp only [lkH] at hl
    by_cases hk : k = id.1
    · rw [if_pos hk] at hl
      subst hk
      refine ⟨h1, by simp, ?_⟩
      obtain ⟨k, k2⟩ := id
      simp only at hl h2 ⊢
      cases e with
      | one o =>
        cases k2 with
        | succ i => simp [HEnt.get] at hl
        | zero =>
          simp only [HEnt.get, Option.some.injEq] at hl
          subst hl
          simp only at h2
          by_cases hv : vz (k, 0) = true
          · rw [if_pos hv] at h2
            cases o with
            | arr n s f => simp only at h2; subst h2; exact .inl ⟨hv, s, f, rfl⟩
            | mp l => exact h2.elim
            | ob p => exact h2.elim
            | mi q l => exact h2.elim
          · rw [if_neg hv] at h2
            exact .inr ⟨by simpa using hv, h2⟩
      | typ t o =>
        cases k2 with
        | succ i => simp [HEnt.get] at hl
        | zero =>
          simp only [HEnt.get, Option.some.injEq] at hl
          subst hl
          simp only at h2
          by_cases hv : vz (k, 0) = true
          · rw [if_pos hv] at h2
            cases o with
            | arr n s f => simp only at h2; subst h2; exact .inl ⟨hv, s, f, rfl⟩
            | mp l => exact h2.elim
            | ob p => exact h2.elim
            | mi q l => exact h2.elim
          · rw [if_neg hv] at h2
            exact .inr ⟨by simpa using hv, h2.1, h2.2.1⟩
      | fam o r2 =>
        obtain ⟨ho, hr⟩ := h2
        cases k2 with
        | zero =>
          simp only [HEnt.get, Option.some.injEq] at hl
          subst hl
          by_cases hv : vz (k, 0) = true
          · rw [if_pos hv] at ho
            cases o with
            | arr n s f => simp only at ho; subst ho; exact .inl ⟨hv, s, f, rfl⟩
            | mp l => exact ho.elim
            | ob p => exact ho.elim
            | mi q l => exact ho.elim
          · rw [if_neg hv] at ho
            exact .inr ⟨by simpa using hv, ho⟩
        | succ i =>
          simp only [HEnt.get] at hl
          have h2 := hr i o2 hl
          by_cases hv : vz (k, i + 1) = true
          · rw [if_pos hv] at h2
            cases o2 with
            | arr n s f => simp only at h2; subst h2; exact .inl ⟨hv, s, f, rfl⟩
            | mp l => exact h2.elim
            | ob p => exact h2.elim
            | mi q l => exact h2.elim
          · rw [if_neg hv] at h2
            exact .inr ⟨by simpa using hv, h2⟩
    · rw [if_neg hk] at hl
      obtain ⟨a, b, c⟩ := heapLe_lk h3 id o2 hl
      exact ⟨a, by simp [b], c⟩
theorem heapLe_ty {h : Heap} {σ : Id → Id} {fz : Nat → Bool} {vz : Id → Bool} {nx2 : Nat} : ∀ {h2 : Heap}, heapLe h σ fz vz nx2 h2 → ∀ id t, tyH h2 id = some t → vz id = false → tyH h (σ id) = some t
  | [], _, id, t, hl, _ => by simp [tyH] at hl
  | (k, e) :: r, hh, id, t, hl, hv => by
    obtain ⟨_, h2, h3⟩ := hh
    simp only [tyH] at hl
    by_cases hk : k = id.1
    · rw [if_pos hk] at hl
      subst hk
      obtain ⟨k, k2⟩ := id
      cases e with
      | one o => simp [HEnt.ty] at hl
      | fam o r2 => simp [HEnt.ty] at hl
      | typ t' o =>
        cases k2 with
        | succ i => simp [HEnt.ty] at hl
        | zero =>
          simp only [HEnt.ty, Option.some.injEq] at hl
          subst hl
          simp only [hv] at h2
          exact h2.2.2
    · rw [if_neg hk] at hl
      exact heapLe_ty h3 id t hl hv
theorem keyInj_spec {σ : Nat → Nat} {vz : Nat → Bool} : ∀ {l : List Nat}, keyInj σ vz l = true → ∀ k k', k ∈ l → k' ∈ l → vz k = false → vz k' = false → σ k = σ k' → k = k'
  | [], _, k, _, hk, _, _, _, _ => by cases hk
  | a :: r, h, k, k', hk, hk', hv, hv', he => by
    simp only [keyInj, Bool.and_eq_true, Bool.or_eq_true, List.all_eq_true, beq_iff_eq, bne_iff_ne, ne_eq] at h
    obtain ⟨h1, h2⟩ := h
    cases hk with
    | head =>
      cases hk' with
      | head => rfl
      | tail _ hk' =>
        rcases h1 with h1 | h1
        · rw [hv] at h1; cases h1
        · rcases h1 k' hk' with (h3 | h3) | h3
          · rw [hv'] at h3; cases h3
          · exact h3.symm
          · exact absurd he.symm h3
    | tail _ hk =>
      cases hk' with
      | head =>
        rcases h1 with h1 | h1
        · rw [hv'] at h1; cases h1
        · rcases h1 k hk with (h3 | h3) | h3
          · rw [hv] at h3; cases h3
          · exact h3
          · exact absurd he h3
      | tail _ hk' => exact keyInj_spec h2 k k' hk hk' hv hv' he
section
variable {P : Program} {G : Gh} {n0 : Nat}
theorem wk_ofI {st st2 : St} (σ : Id → Id) (fz : Nat → Bool) (vz : Id → Bool) (henv : envLe st.heap st.env σ fz vz st2.nx st2.env) (hheap : heapLe st.heap σ fz vz st2.nx st2.heap)
    (hinj : ∀ id id' : Id, (lkH st2.heap id).isSome = true → (lkH st2.heap id').isSome = true → vz id = false → vz id' = false → σ id = σ id' → id = id') (hn0 : n0 ≤ st2.nx) (hid : ∀ id : Id, id.1 < n0 → σ id = id ∧ vz id = false) : Wk G n0 st st2 := by
  intro mu a w hs hn
  let mu2 : Id → Option Base := fun id => if vz id then none else mu (σ id)
  have hmu2 : ∀ id : Id, vz id = false → mu2 id = mu (σ id) := fun id h => by simp only [mu2, h]; rfl
  have hmuv : ∀ id : Id, vz id = true → mu2 id = none := fun id h => by simp only [mu2, h]; rfl
  have hk := hs.heap
  have hsome : ∀ id o2, lkH st2.heap id = some o2 → vz id = false → ∃ o, lkH st.heap (σ id) = some o ∧ HLe st.heap σ fz vz st2.nx o2 (some o) ∧ fz (σ id).1 = false := fun id o2 hl hv => by
    obtain ⟨_, _, h3⟩ := heapLe_lk hheap id o2 hl
    rcases h3 with ⟨h3, _⟩ | ⟨_, h4, h5⟩
    · rw [hv] at h3; cases h3
    · cases ho : lkH st.heap (σ id) with
      | none => rw [ho] at h5; cases o2 <;> exact h5.elim
      | some o => rw [ho] at h5; exact ⟨o, rfl, h5, h4⟩
  have hF2 : ∀ b, Fb G.O st2.heap mu2 b → Fb G.O st.heap mu b := by
    rintro b (hO | ⟨id, o2, B, hl, hm, hb⟩)
    · exact .inl hO
    · cases hv : vz id with
      | true => rw [hmuv id hv] at hm; cases hm
      | false =>
        obtain ⟨o, ho, _⟩ := hsome id o2 hl hv
        rw [hmu2 id hv] at hm
        exact .inr ⟨_, o, B, ho, hm, hb⟩
  have hcx : VCx st.heap σ fz vz st2.nx (cx G st.heap mu st.nx w) (cx G st2.heap mu2 st2.nx w) := by
    refine ⟨rfl, Nat.le_refl _, fun b hF hF2' => hF (hF2 b hF2'), fun id _ hv => hmu2 id hv, fun id n s f hfz hl => ⟨(hk.obj id _ hl).2, fun B hB => ⟨fun hF => ?_, (hk.own id _ B hl hB).1⟩⟩⟩
    rcases hF with hO | ⟨id', o2, B', hl', hm', hb'⟩
    · exact (hk.own id _ B hl hB).2.2 hO
    · cases hv : vz id' with
      | true => rw [hmuv id' hv] at hm'; cases hm'
      | false =>
        obtain ⟨o, ho, _, hf⟩ := hsome id' o2 hl' hv
        rw [hmu2 id' hv] at hm'
        have := hk.sep _ _ _ _ B' B ho hl hm' hB hb'
        rw [← this] at hfz
        rw [hf] at hfz
        cases hfz
  refine ⟨mu2, ⟨hs.defers, hs.size, fun t => VLe.rel hcx _ _ _ (envLe_lk henv t) (hs.env t), ⟨fun id o2 hl => ?_, fun id id' o o' B B' hl hl' hm hm' hb => ?_, fun id o B hl hm => ?_, hk.kept, hk.out, fun id t B ht hm => ?_⟩⟩, hn0, ⟨?_⟩⟩
  · obtain ⟨h1, _, h3⟩ := heapLe_lk hheap id o2 hl
    refine ⟨h1, ?_⟩
    rcases h3 with ⟨hv, s, f, rfl⟩ | ⟨hv, _, _⟩
    · rw [hmuv id hv]; rfl
    · obtain ⟨o, ho, hle, _⟩ := hsome id o2 hl hv
      rw [hmu2 id hv]
      have hr := (hk.obj _ _ ho).2
      cases o2 with
      | arr n2 s2 f2 =>
        cases o with
        | mp l => exact hle.elim
        | ob p => exact hle.elim
        | mi q l => exact hle.elim
        | arr n s f =>
          obtain ⟨hn2, rfl, hp⟩ := hle
          cases hm : mu (σ id) with
          | none => rw [hm] at hr; simp only [HRel] at hr ⊢; omega
          | some B =>
            rw [hm] at hr
            obtain ⟨hss, cs, T, hh, hsz, hfit, hcc⟩ := hr
            refine ⟨hss, cs, T, hh, hsz, ?_, fun i hi j hj => ?_⟩
            · have := Nat.mul_le_mul_right s2 hn2
              omega
            · obtain ⟨_, y, hy, hyr⟩ := hcc i (by omega) j hj
              exact ⟨(hp i hi j hj).1, y, hy, VLe.rel hcx _ _ _ (hp i hi j hj).2 hyr⟩
      | mp l2 =>
        cases o with
        | arr n s f => exact hle.elim
        | ob p => exact hle.elim
        | mp l =>
          obtain ⟨hlen, hp⟩ := hle
          cases hm : mu (σ id) with
          | none => rw [hm] at hr; exact hr.elim
          | some B =>
            rw [hm] at hr
            obtain ⟨es, clock, hh, hsz, hcc, hbn⟩ := hr
            refine ⟨es, clock, hh, hsz.trans hlen.symm, fun i hi e he => ?_, hbn⟩
            have hi' : i < l.length := by omega
            exact ⟨VLe.rel hcx _ _ _ (hp i hi hi').1 (hcc i hi' e he).1, VLe.rel hcx _ _ _ (hp i hi hi').2 (hcc i hi' e he).2⟩
        | mi q l =>
          obtain ⟨hlen, hp⟩ := hle
          cases hm : mu (σ id) with
          | none => rw [hm] at hr; exact hr.elim
          | some B =>
            rw [hm] at hr
            obtain ⟨es, clock, hh, hsz, hcc, hbn⟩ := hr
            refine ⟨es, clock, hh, hsz.trans hlen.symm, fun i hi e he => ?_, hbn.1⟩
            have hi' : i < l.length := by omega
            exact ⟨VLe.rel hcx _ _ _ (hp i hi hi').1 (hcc i hi' e he).1, VLe.rel hcx _ _ _ (hp i hi hi').2 (hcc i hi' e he).2⟩
      | mi q2 l2 =>
        cases o with
        | arr n s f => exact hle.elim
        | ob p => exact hle.elim
        | mp l => exact hle.elim
        | mi q l =>
          obtain ⟨rfl, hlen, hp⟩ := hle
          cases hm : mu (σ id) with
          | none => rw [hm] at hr; exact hr.elim
          | some B =>
            rw [hm] at hr
            obtain ⟨es, clock, hh, hsz, hcc, hbn⟩ := hr
            refine ⟨es, clock, hh, hsz.trans hlen.symm, fun i hi e he => ?_, hbn⟩
            have hi' : i < l.length := by omega
            exact ⟨VLe.rel hcx _ _ _ (hp i hi hi').1 (hcc i hi' e he).1, VLe.rel hcx _ _ _ (hp i hi hi').2 (hcc i hi' e he).2⟩
      | ob p2 =>
        cases o with
        | arr n s f => exact hle.elim
        | mp l => exact hle.elim
        | mi q l => exact hle.elim
        | ob p =>
          cases hm : mu (σ id) with
          | none => rw [hm] at hr; exact hr.elim
          | some B =>
            rw [hm] at hr
            obtain ⟨x, hh, hx, hpx⟩ := hr
            exact ⟨x, hh, hx, hle _ _ hpx⟩
  · cases hv : vz id with
    | true => rw [hmuv id hv] at hm; cases hm
    | false =>
      cases hv' : vz id' with
      | true => rw [hmuv id' hv'] at hm'; cases hm'
      | false =>
        rw [hmu2 id hv] at hm
        rw [hmu2 id' hv'] at hm'
        obtain ⟨p, hp, _⟩ := hsome id o hl hv
        obtain ⟨p', hp', _⟩ := hsome id' o' hl' hv'
        have heq := hk.sep _ _ _ _ B B' hp hp' hm hm' hb
        exact hinj id id' (by rw [hl]; rfl) (by rw [hl']; rfl) hv hv' heq
  · cases hv : vz id with
    | true => rw [hmuv id hv] at hm; cases hm
    | false =>
      rw [hmu2 id hv] at hm
      obtain ⟨p, hp, _⟩ := hsome id o hl hv
      exact hk.own _ _ B hp hm
  · cases hv : vz id with
    | true => rw [hmuv id hv] at hm; cases hm
    | false =>
      rw [hmu2 id hv] at hm
      exact hk.typ _ t B (heapLe_ty hheap id t ht hv) hm
  · exact ⟨Nat.le_refl _, fun b _ hF hF2' => hF (hF2 b hF2'), fun _ _ _ _ => rfl, Nat.le_refl _, fun id hid' => by
      obtain ⟨h1, h2⟩ := hid id hid'
      show mu2 id = mu id
      rw [hmu2 id h2, h1], fun _ h => h⟩
theorem lkH_keys {h : Heap} {id : Id} (hs : (lkH h id).isSome = true) : id.1 ∈ h.map (·.1) := by
  induction h with
  | nil => simp [lkH] at hs
  | cons e h ih =>
    obtain ⟨k, e⟩ := e
    simp only [lkH] at hs
    by_cases hk : k = id.1
    · simp [hk]
    · rw [if_neg hk] at hs; simp [ih hs]
theorem wk_of {st st2 : St} (σ : Nat → Nat) (fz vz : Nat → Bool) (henv : envLe st.heap st.env (sI σ) fz (vI vz) st2.nx st2.env) (hheap : heapLe st.heap (sI σ) fz (vI vz) st2.nx st2.heap)
    (hinj : keyInj σ vz (st2.heap.map (·.1)) = true) (hn0 : n0 ≤ st2.nx) (hid : ∀ k, k < n0 → σ k = k ∧ vz k = false) : Wk G n0 st st2 :=
  wk_ofI (sI σ) fz (vI vz) henv hheap (fun id id' h1 h2 v1 v2 he => by
    injection he with e1 e2
    exact Prod.ext (keyInj_spec hinj _ _ (lkH_keys h1) (lkH_keys h2) v1 v2 e1) e2) hn0 fun id hlt => ⟨by
      show (σ id.1, id.2) = id
      rw [(hid id.1 hlt).1], (hid id.1 hlt).2⟩
end
end Go.Lift
namespace Go.Lift
set_option linter.unusedSimpArgs false
set_option linter.unusedVariables false
open Go.RowKit
def c0 (O : Nat → Prop) (w : World) : Cx := ⟨w, O, fun _ => none, 0⟩
def ArgsRel (c : Cx) : List AVal → List Value → Prop
  | [], [] => True
  | v :: r, x :: r' => Rel c v x ∧ ArgsRel c r r'
  | _, _ => False
def PC (P : Program) (f : FuncId) (args : List AVal) (r : AVal) : Prop :=
  ∀ (O : Nat → Prop) (w : World) (vals : List Value), (∀ b, O b → b < w.heap.size) → ArgsRel (c0 O w) args vals →
    Calls P f vals.toArray w fun e w' => ∃ v, e = .returned v ∧ Kept w (fun _ => False) w' ∧ Rel (c0 O w') r v
def argEnv : Nat → List AVal → Env
  | _, [] => []
  | i, v :: r => (i, v) :: argEnv (i + 1) r
theorem ArgsRel.length {c : Cx} : ∀ {as : List AVal} {vs : List Value}, ArgsRel c as vs → vs.length = as.length
  | [], [], _ => rfl
  | _ :: _, _ :: _, h => by simp [ArgsRel.length h.2]
  | [], _ :: _, h => h.elim
  | _ :: _, [], h => h.elim
theorem lk_argEnv {c : Cx} : ∀ {as : List AVal} {vs : List Value} (i t : Nat) (rest : Array Value), ArgsRel c as vs → Rel c (lk (argEnv i as) t) (if i ≤ t then (vs.toArray ++ rest).getD (t - i) undef else undef)
  | [], [], i, t, rest, _ => trivial
  | v :: as, x :: vs, i, t, rest, h => by
    simp only [argEnv, lk]
    by_cases hit : i = t
    · subst hit
      rw [if_pos rfl, if_pos (Nat.le_refl _), Nat.sub_self]
      have : ((x :: vs).toArray ++ rest).getD 0 undef = x := by
        rw [Array.getD_eq_getD_getElem?, Array.getElem?_append_left (by simp)]
        simp
      rw [this]
      exact h.1
    · rw [if_neg hit]
      have ih := lk_argEnv (c := c) (i + 1) t rest h.2
      by_cases hle : i ≤ t
      · rw [if_pos (show i + 1 ≤ t by omega)] at ih
        rw [if_pos hle]
        have : ((x :: vs).toArray ++ rest).getD (t - i) undef = (vs.toArray ++ rest).getD (t - (i + 1)) undef := by
          rw [show t - i = (t - (i + 1)) + 1 by omega]
          simp only [Array.getD_eq_getD_getElem?, Array.getElem?_append]
          simp
        rw [this]
        exact ih
      · rw [if_neg (show ¬ i + 1 ≤ t by omega)] at ih
        rw [if_neg hle]
        exact ih
  | [], _ :: _, _, _, _, h => h.elim
  | _ :: _, [], _, _, _, h => h.elim
def evRes1 (T : Tab) (st : St) : ResultVar → Option (AVal × Prop)
  | .tmp t => some (strip (lk st.env t))
  | .cell a t => match evLoad T st.heap t (strip (lk st.env a)).1 with
    | some (v, c) => some (v, (strip (lk st.env a)).2 ∧ c)
    | none => none
def evResL (T : Tab) (st : St) : List ResultVar → Option (List AVal × Prop)
  | [] => some ([], True)
  | x :: r => match evRes1 T st x, evResL T st r with
    | some (v, c), some (vs, c') => some (v :: vs, c ∧ c')
    | _, _ => none
def evRes (T : Tab) (st : St) (l : List ResultVar) : Option (AVal × Prop) :=
  match evResL T st l with
  | some ([v], c) => some (v, c)
  | some (vs, c) => some (.tup vs.length (fun j => vs.getD j .any), c)
  | none => none
def RetOK (T : Tab) (res : List ResultVar) (r : AVal) (st : St) : Prop :=
  ∃ v c, evRes T st res = some (v, c) ∧ c ∧ VLe st.heap id (fun _ => true) (fun _ => false) 0 r v
def resOne (tmps : Array Value) : ResultVar → Sem Value
  | .tmp t => pure (tmps.getD t undef)
  | .cell b t => do loadVar t (← asAddr (tmps.getD b undef))
theorem results_eq (fn : Func) (tmps : Array Value) : results fn tmps = (do
    let vs ← fn.results.mapM (resOne tmps)
    pure (if h : vs.size = 1 then vs[0] else .tuple vs)) := by
  unfold results
  refine congrArg (fun g : ResultVar → Sem Value => (do
    let vs ← fn.results.mapM g
    pure (if h : vs.size = 1 then vs[0] else .tuple vs))) ?_
  funext x
  cases x <;> rfl
section
variable {P : Program}
theorem evRes1_ok {T : Tab} (hT : TabOK P T) {G : Gh} {mu : Id → Option Base} {st : St} {a : Act} {w : World} (hs : Sim G mu st a w) {x : ResultVar} {v : AVal} {c : Prop} (he : evRes1 T st x = some (v, c)) (hc : c) :
    ∃ y, (resOne a.tmps x).run P w = .ok y w ∧ Rel (cx G st.heap mu st.nx w) v y := by
  cases x with
  | tmp t =>
    simp only [evRes1, Option.some.injEq] at he
    rw [Prod.ext_iff] at he
    obtain ⟨rfl, rfl⟩ := he
    exact ⟨_, rfl, strip_rel (hs.env t) hc⟩
  | cell b t =>
    simp only [evRes1] at he
    split at he
    · rename_i v' c' hev
      simp only [Option.some.injEq, Prod.mk.injEq] at he
      obtain ⟨rfl, rfl⟩ := he
      have hr := strip_rel (hs.env b) hc.1
      have hadr : ∃ ad, a.tmps.getD b undef = .pointer (some ad) := by
        unfold evLoad at hev
        cases hi : T t with
        | none => simp [hi] at hev
        | some i =>
          cases hlk : (strip (lk st.env b)).1 <;> simp only [hlk, hi, reduceCtorEq] at hev
          · rw [hlk] at hr; obtain ⟨_, B, _, hx⟩ := hr; exact ⟨_, hx⟩
          · rw [hlk] at hr; obtain ⟨_, _, hx, _⟩ := hr; exact ⟨_, hx⟩
      obtain ⟨ad, had⟩ := hadr
      rw [had] at hr
      obtain ⟨z, hz, hzr⟩ := evLoad_pure hT hs.heap hev hc.2 hr
      refine ⟨z, ?_, hzr⟩
      simp only [resOne, had]
      simpa [asAddr, Instr.loadAt, Instr.sureAddr] using hz
    · cases he
theorem evResL_ok {T : Tab} (hT : TabOK P T) {G : Gh} {mu : Id → Option Base} {st : St} {a : Act} {w : World} (hs : Sim G mu st a w) :
    ∀ (l : List ResultVar) (vs : List AVal) (c : Prop), evResL T st l = some (vs, c) → c →
      ∃ ys, (l.mapM (resOne a.tmps)).run P w = .ok ys w ∧ ArgsRel (cx G st.heap mu st.nx w) vs ys
  | [], vs, c, he, _ => by
    simp only [evResL, Option.some.injEq, Prod.mk.injEq] at he
    obtain ⟨rfl, _⟩ := he
    exact ⟨[], by simp, trivial⟩
  | x :: r, vs, c, he, hc => by
    simp only [evResL] at he
    split at he
    · rename_i v c1 vs' c2 h1 h2
      simp only [Option.some.injEq, Prod.mk.injEq] at he
      obtain ⟨rfl, rfl⟩ := he
      obtain ⟨y, hy, hyr⟩ := evRes1_ok hT hs h1 hc.1
      obtain ⟨ys, hys, hysr⟩ := evResL_ok hT hs r vs' c2 h2 hc.2
      refine ⟨y :: ys, ?_, hyr, hysr⟩
      simp only [List.mapM_cons, Sem.run_bind, hy, Result.andThen_ok, hys, Sem.run_pure]
    · cases he
theorem ArgsRel.get {c : Cx} : ∀ {as : List AVal} {vs : List Value}, ArgsRel c as vs → ∀ j, j < as.length → Rel c (as.getD j .any) (vs.getD j undef)
  | _ :: _, _ :: _, h, 0, _ => by simpa using h.1
  | _ :: _, _ :: _, h, j + 1, hj => by
    have := ArgsRel.get h.2 j (by simpa using hj)
    simpa using this
  | [], [], _, j, hj => by simp at hj
  | [], _ :: _, h, _, _ => h.elim
  | _ :: _, [], h, _, _ => h.elim
theorem evRes_ok {T : Tab} (hT : TabOK P T) {G : Gh} {mu : Id → Option Base} {st : St} {a : Act} {w : World} (hs : Sim G mu st a w) {fn : Func} {v : AVal} {c : Prop} (he : evRes T st fn.results.toList = some (v, c)) (hc : c) :
    ∃ y, (results fn a.tmps).run P w = .ok y w ∧ Rel (cx G st.heap mu st.nx w) v y := by
  unfold evRes at he
  have hmap : ∀ ys, (fn.results.toList.mapM (resOne a.tmps)).run P w = .ok ys w →
      (fn.results.mapM (resOne a.tmps)).run P w = .ok ys.toArray w := fun ys h => by
    rw [Array.mapM_eq_mapM_toList]
    simp [h]
  split at he
  · rename_i v' c' hl
    simp only [Option.some.injEq, Prod.mk.injEq] at he
    obtain ⟨rfl, rfl⟩ := he
    obtain ⟨ys, hys, hr⟩ := evResL_ok hT hs _ _ _ hl hc
    have hlen := hr.length
    match ys, hlen, hr with
    | [y], _, hr =>
      refine ⟨y, ?_, hr.1⟩
      rw [results_eq]
      simp only [Sem.run_bind, hmap _ hys, Result.andThen_ok]
      rfl
  · rename_i vs c' hne hl
    simp only [Option.some.injEq, Prod.mk.injEq] at he
    obtain ⟨rfl, rfl⟩ := he
    obtain ⟨ys, hys, hr⟩ := evResL_ok hT hs _ _ _ hl hc
    have hlen := hr.length
    refine ⟨.tuple ys.toArray, ?_, ys.toArray, rfl, by simpa using hlen, fun j hj => ?_⟩
    · rw [results_eq]
      simp only [Sem.run_bind, hmap _ hys, Result.andThen_ok]
      have : ¬ ys.toArray.size = 1 := by
        intro h1
        have h2 : vs.length = 1 := by rw [← hlen]; simpa using h1
        match vs, h2 with
        | [v], _ => exact hne v rfl
      rw [dif_neg this]
      rfl
    · have := hr.get j hj
      simpa [Array.getD_eq_getD_getElem?, List.getD_eq_getElem?_getD] using this
  · cases he
def noCells : Obj → Prop
  | .cells .. => False
  | _ => True
theorem cell?_put {w : World} {D : Nat} {o x : Obj} (hx : w.heap[D]? = some x) (h1 : noCells x) (h2 : noCells o) (a : Addr) : (w.putObj D o).cell? a = w.cell? a := by
  by_cases h : a.block = D
  · have e1 : (w.putObj D o).heap[a.block]? = some o := by rw [h]; exact World.putObj_heap_same (lt_of_get hx)
    have e2 : w.heap[a.block]? = some x := by rw [h]; exact hx
    simp only [World.cell?, e1, e2]
    cases o <;> cases x <;> first | rfl | exact h1.elim | exact h2.elim
  · exact World.cell?_of_block (World.putObj_heap_other h)
theorem Lc_put {G : Gh} {h : Heap} {mu : Id → Option Base} {nx : Nat} {w : World} {D : Nat} {o x : Obj} (hx : w.heap[D]? = some x) (h1 : noCells x) (h2 : noCells o) : (cx G h mu nx w).Lc (cx G h mu nx (w.putObj D o)) :=
  ⟨Nat.le_of_eq (World.putObj_size).symm, fun _ _ h => h, fun b off _ _ => cell?_put hx h1 h2 _, Nat.le_refl _, fun _ _ => rfl⟩
theorem HOk.put {G : Gh} {h : Heap} {mu : Id → Option Base} {nx : Nat} {w : World} (hk : HOk G h mu nx w) {D : Nat} {o x : Obj} (hx : w.heap[D]? = some x) (h1 : noCells x) (h2 : noCells o) (hne : ∀ id o B, lkH h id = some o → mu id = some B → B.b ≠ D) (hD : G.w0.heap.size ≤ D ∨ G.mt D) :
    HOk G h mu nx (w.putObj D o) ∧ ∀ id o B, lkH h id = some o → mu id = some B → B.b ≠ D := by
  refine ⟨⟨fun id o' hl => ⟨(hk.obj id o' hl).1, (hk.obj id o' hl).2.monoC (Lc_put hx h1 h2) fun B hB => World.putObj_heap_other (hne id o' B hl hB)⟩, hk.sep, fun id o' B hl hB => ?_, ?_, hk.out, fun id t B ht hm => ?_⟩, hne⟩
  · rw [World.putObj_size]; exact hk.own id o' B hl hB
  · refine ⟨hk.kept.os, hk.kept.tape, hk.kept.output, hk.kept.drawn, by rw [World.putObj_size]; exact hk.kept.size, fun b hb hmt => ?_⟩
    rw [World.putObj_heap_other (fun e => by subst e; rcases hD with hD | hD; exact absurd hb (Nat.not_lt.2 hD); exact hmt hD)]
    exact hk.kept.block b hb hmt
  · obtain ⟨o', ho⟩ := tyH_lk ht
    obtain ⟨cs, hcs, hdv⟩ := hk.typ id t B ht hm
    exact ⟨cs, (World.putObj_heap_other (hne id o' B ho hm)).trans hcs, hdv⟩
theorem leaves_marks {G : Gh} {mu : Id → Option Base} {st : St} {r : Option Nat} {n : Nat} {fn : Func} {R : Ending → World → Prop} {tmps : Array Value}
    (h : ∀ w', Sim G mu st { tmps := tmps, defers := [] } w' → ∃ v, (results fn tmps).run P w' = .ok v w' ∧ R (.returned v) w') :
    ∀ (Ds : List Nat) (w : World), Ds.Nodup → (∀ D ∈ Ds, G.w0.heap.size ≤ D ∧ w.heap[D]? = some (Obj.deferred (some []))) → Sim G mu st { tmps := tmps, defers := [] } w →
      LeavesInM (fen r) n P fn tmps R (Ds.map (fun D => { target := .collected D, args := #[] })) .returning w := by
  intro Ds
  induction Ds with
  | nil => exact fun w _ _ hs => h w hs
  | cons D Ds ih =>
    intro w hnd hDs hs
    have hD := hDs D (List.mem_cons_self ..)
    have hnd' := List.nodup_cons.1 hnd
    refine ⟨(by intro e; cases e), .inl ⟨D, _, rfl, run_takeDeferred hD.2, ?_⟩⟩
    refine ih _ hnd'.2 (fun D' hD' => ?_) ?_
    · have h1 := hDs D' (List.mem_cons_of_mem _ hD')
      refine ⟨h1.1, ?_⟩
      rw [World.putObj_heap_other (fun e => hnd'.1 (by rw [← e]; exact hD'))]
      exact h1.2
    · exact ⟨DefOK.nil, hs.size, fun t => (hs.env t).monoC (Lc_put (o := .deferred none) hD.2 trivial trivial), (hs.heap.put (o := .deferred none) hD.2 trivial trivial (fun id o B h1 h2 e => hs.heap.ndfr h1 h2 hD.2 e.symm) (.inl hD.1)).1⟩
theorem Sim.leaves {G : Gh} {mu : Id → Option Base} {st : St} {a : Act} {w : World} (hs : Sim G mu st a w) {r : Option Nat} {n : Nat} {fn : Func} {R : Ending → World → Prop}
    (h : ∀ w', Sim G mu st { tmps := a.tmps, defers := [] } w' → ∃ v, (results fn a.tmps).run P w' = .ok v w' ∧ R (.returned v) w') :
    LeavesInM (fen r) n P fn a.tmps R a.defers .returning w := by
  obtain ⟨Ds, h1, h2, h3⟩ := hs.defers
  rw [h1]
  exact leaves_marks h Ds w h2 h3 ⟨DefOK.nil, hs.size, hs.env, hs.heap⟩
theorem PC_intro {T : Tab} (hT : TabOK P T) {f : FuncId} {fn : Func} {c : Code} {args : List AVal} {r : AVal} (hf : P.funcs[f]? = some fn) (hb : fn.body = some c) (hn : args.length ≤ fn.ntmps)
    (h : ∀ G : Gh, G.nt = fn.ntmps → G.rd = none → Awp P G 0 c (fun e st => match e with | .normal => RetOK T fn.results.toList r st | .ret => RetOK T fn.results.toList r st | _ => False) ⟨argEnv 0 args, [], 0⟩) :
    PC P f args r := by
  intro O w vals hO hargs
  refine (callsIn_wide (n := 0)).1 (callsIn_of_wp_marks (F := fen none) hf hb trivial ?_)
  let G : Gh := ⟨w, fun _ => False, O, fn.ntmps, none⟩
  have hsim : Sim G (fun _ => none) ⟨argEnv 0 args, [], 0⟩ { tmps := vals.toArray ++ Array.replicate (fn.ntmps - vals.toArray.size) undef, defers := [] } w := by
    refine ⟨DefOK.nil, ?_, fun t => ?_, ⟨fun id o hl => by simp [lkH] at hl, fun id _ o _ _ _ hl => by simp [lkH] at hl, fun id o _ hl => by simp [lkH] at hl, Kept.refl _ _, hO, fun id t _ ht => by simp [tyH] at ht⟩⟩
    · have := hargs.length
      simp only [Array.size_append, List.size_toArray, Array.size_replicate, G]
      omega
    · have hle : (c0 O w).Le (cx G [] (fun _ => none) 0 w) := ⟨Nat.le_refl _, fun b _ hF hF' => by
        rcases hF' with h1 | ⟨id, o, B, hl, _⟩
        · exact hF h1
        · simp [lkH] at hl, fun _ _ _ _ => rfl, Nat.le_refl _, fun _ _ => rfl, fun _ h => h⟩
      have := (lk_argEnv (c := c0 O w) 0 t (Array.replicate (fn.ntmps - vals.toArray.size) undef) hargs).mono hle
      simpa using this
  have key : ∀ (st : St) (mu' : Id → Option Base) (a' : Act) (w' : World), Sim G mu' st a' w' → RetOK T fn.results.toList r st →
      ∃ v, (results fn a'.tmps).run P w' = .ok v w' ∧ ∃ v', Ending.returned v = .returned v' ∧ Kept w (fun _ => False) w' ∧ Rel (c0 O w') r v' := by
    intro st mu' a' w' hs ⟨v, cc, hev, hc, hle⟩
    obtain ⟨y, hy, hyr⟩ := evRes_ok hT hs hev hc
    refine ⟨y, hy, y, rfl, hs.heap.kept, ?_⟩
    refine VLe.rel (c := cx G st.heap mu' st.nx w') (c2 := c0 O w') ⟨rfl, Nat.le_refl _, fun b hF hO' => hF (.inl hO'), fun id hid => absurd hid (Nat.not_lt_zero _), fun id n s g _ hl => ⟨(hs.heap.obj id _ hl).2, fun B hB => ?_⟩⟩ _ _ _ hle hyr
    have := hs.heap.own id _ B hl hB
    exact ⟨this.2.2, this.1⟩
  refine h G rfl rfl _ _ _ hsim (Nat.le_refl _) _ fun e mu' st' a' w' h1 _ _ h4 => ?_
  cases e with
  | normal => exact h1.leaves fun w2 hs2 => key st' mu' { tmps := a'.tmps, defers := [] } w2 hs2 h4
  | ret => exact h1.leaves fun w2 hs2 => key st' mu' { tmps := a'.tmps, defers := [] } w2 hs2 h4
  | _ => exact h4.elim
end
end Go.Lift
namespace Go.Lift
set_option linter.unusedSimpArgs false
set_option linter.unusedVariables false
open Go.RowKit
def argsLe (h : Heap) (fz : Nat → Bool) : List AVal → List AVal → Prop
  | [], [] => True
  | a :: r, v :: r' => VLe h id fz (fun _ => false) 0 a v ∧ argsLe h fz r r'
  | _, _ => False
def flat : AVal → Prop
  | .vsl n _ _ => n = 0
  | .vptr .. => False
  | .agg n f => ∀ j, j < n → flat (f j)
  | .tup n f => ∀ j, j < n → flat (f j)
  | .fn _ n f => ∀ j, j < n → flat (f j)
  | .bnd _ v => flat v
  | .yld _ _ n f => ∀ j, j < n → flat (f j)
  | .opt _ v => flat v
  | _ => True
theorem flat_rel {w : World} {F F' : Nat → Prop} {mu : Id → Option Base} {nx : Nat} : ∀ (v : AVal) (x : Value), flat v → Rel ⟨w, F, mu, nx⟩ v x → Rel ⟨w, F', mu, nx⟩ v x := by
  intro v
  induction v with
  | vsl n s f ih =>
    rintro x hf ⟨A, cap, hx, hn, _⟩
    exact ⟨A, cap, hx, hn, .inl hf⟩
  | vptr s f off ih => intro x hf; exact hf.elim
  | agg n f ih =>
    rintro x hf ⟨cs, hx, hs, hc⟩
    exact ⟨cs, hx, hs, fun j hj => ih j _ (hf j hj) (hc j hj)⟩
  | tup n f ih =>
    rintro x hf ⟨cs, hx, hs, hc⟩
    exact ⟨cs, hx, hs, fun j hj => ih j _ (hf j hj) (hc j hj)⟩
  | fn g n f ih =>
    rintro x hf ⟨cs, hx, hs, hc⟩
    exact ⟨cs, hx, hs, fun j hj => ih j _ (hf j hj) (hc j hj)⟩
  | bnd g v ih =>
    rintro x hf ⟨y, hx, hy⟩
    exact ⟨y, hx, ih y hf hy⟩
  | yld l vs n f ih =>
    rintro x hf ⟨hx, hs, hc⟩
    exact ⟨hx, hs, fun j hj => ih j _ (hf j hj) (hc j hj)⟩
  | opt g v ih =>
    intro x hf hr
    exact ⟨fun hg => ih x hf (hr.1 hg), hr.2⟩
  | _ => intro x _ hr; exact hr
section
variable {P : Program} {G : Gh} {n0 : Nat} {h : Heap} {mu : Id → Option Base} {nx : Nat} {w : World}
theorem HOk.grow (hk : HOk G h mu nx w) {w' : World} (hg : Kept w (fun _ => False) w') : (cx G h mu nx w).Le (cx G h mu nx w') ∧ HOk G h mu nx w' := by
  have hLe : (cx G h mu nx w).Le (cx G h mu nx w') := ⟨hg.size, fun _ _ hF => hF, fun b o hb _ => World.cell?_of_block (hg.block b hb (fun h => h)), Nat.le_refl _, fun _ _ => rfl, fun D hD => (hg.block D (lt_of_get hD) (fun h => h)).trans hD⟩
  refine ⟨hLe, fun id o hl => ?_, hk.sep, fun id o B hl hm => ?_, ?_, hk.out, fun id t B ht hm => ?_⟩
  · obtain ⟨h1, h2⟩ := hk.obj id o hl
    exact ⟨h1, h2.mono hLe (fun B hB => hg.block _ (hk.own id o B hl hB).1 (fun h => h))⟩
  · have := hk.own id o B hl hm
    exact ⟨Nat.lt_of_lt_of_le this.1 hg.size, this.2⟩
  · exact ⟨hg.os.trans hk.kept.os, hg.tape.trans hk.kept.tape, hg.output.trans hk.kept.output, Nat.le_trans hk.kept.drawn hg.drawn, Nat.le_trans hk.kept.size hg.size, fun b hb hm => by
      rw [hg.block b (Nat.lt_of_lt_of_le hb hk.kept.size) (fun h => h)]
      exact hk.kept.block b hb hm⟩
  · obtain ⟨o, ho⟩ := tyH_lk ht
    obtain ⟨cs, hcs, hdv⟩ := hk.typ id t B ht hm
    exact ⟨cs, (hg.block _ (hk.own id o B ho hm).1 (fun h => h)).trans hcs, hdv⟩
theorem HOk.bound (hk : HOk G h mu nx w) : ∀ b, Fb G.O h mu b → b < w.heap.size := by
  rintro b (hO | ⟨id, o, B, hl, hm, rfl⟩)
  · exact Nat.lt_of_lt_of_le (hk.out b hO) hk.kept.size
  · exact (hk.own id o B hl hm).1
def lendO (G : Gh) (h : Heap) (mu : Id → Option Base) (fz : Nat → Bool) (b : Nat) : Prop :=
  Fb G.O h mu b ∧ ¬ ∃ id o B, fz id.1 = true ∧ lkH h id = some o ∧ mu id = some B ∧ B.b = b
theorem argsLe_rel (hk : HOk G h mu nx w) {fz : Nat → Bool} : ∀ (as vs : List AVal) (xs : List Value), argsLe h fz as vs → ArgsRel (cx G h mu nx w) vs xs → ArgsRel (c0 (lendO G h mu fz) w) as xs
  | [], [], [], _, _ => trivial
  | a :: as, v :: vs, x :: xs, hl, hr => by
    refine ⟨VLe.rel (c := cx G h mu nx w) (c2 := c0 (lendO G h mu fz) w) ⟨rfl, Nat.le_refl _, fun b hF hO => hF hO.1, fun id hid => absurd hid (Nat.not_lt_zero _), fun id n s g hfz hl' => ⟨(hk.obj id _ hl').2, fun B hB => ⟨fun hO => ?_, (hk.own id _ B hl' hB).1⟩⟩⟩ _ _ _ hl.1 hr.1,
      argsLe_rel hk as vs xs hl.2 hr.2⟩
    exact hO.2 ⟨id, _, B, hfz, hl', hB, rfl⟩
  | [], [], _ :: _, _, hr => hr.elim
  | [], _ :: _, _, hl, _ => hl.elim
  | _ :: _, [], _, hl, _ => hl.elim
  | _ :: _, _ :: _, [], _, hr => hr.elim
theorem sv_args {e : Env} {c : Cx} {ρ : Operand → Value} (hρ : ∀ x, Rel c (evX e x) (ρ x)) : ∀ (l : List Operand), argsC e l → ArgsRel c (l.map (sv e)) (l.map ρ)
  | [], _ => trivial
  | x :: r, h => ⟨strip_rel (hρ x) h.1, sv_args hρ r h.2⟩
theorem ArgsRel.append {c : Cx} : ∀ {as bs : List AVal} {xs ys : List Value}, ArgsRel c as xs → ArgsRel c bs ys → ArgsRel c (as ++ bs) (xs ++ ys)
  | [], _, [], _, _, h => h
  | _ :: _, _, _ :: _, _, ⟨h1, h2⟩, h => ⟨h1, ArgsRel.append h2 h⟩
  | [], _, _ :: _, _, h, _ => h.elim
  | _ :: _, _, [], _, h, _ => h.elim
theorem ArgsRel.of_get {c : Cx} (f : Nat → AVal) : ∀ (n k : Nat) (cs : List Value), cs.length = n → (∀ j, j < n → Rel c (f (k + j)) (cs.getD j undef)) → ArgsRel c ((List.range' k n).map f) cs
  | 0, k, cs, hl, _ => by
    have : cs = [] := List.eq_nil_of_length_eq_zero hl
    subst this
    trivial
  | n + 1, k, c' :: cs, hl, h => by
    simp only [List.range'_succ, List.map_cons]
    refine ⟨by simpa using h 0 (Nat.succ_pos _), ArgsRel.of_get f n (k + 1) cs (by simpa using hl) fun j hj => ?_⟩
    have := h (j + 1) (by omega)
    rw [show k + 1 + j = k + (j + 1) by omega]
    simpa using this
  | n + 1, k, [], hl, _ => by simp at hl
def Callable (P : Program) (f : FuncId) : Prop := ∃ fn, P.funcs[f]? = some fn ∧ fn.name ≠ "runtime.NumGoroutine" ∧ fn.body.isSome = true
theorem run_call {g : FuncId} (hf : Callable P g) {o : Oper} {ρ : Operand → Value} {x : Operand} {args : Array Operand} {ts : Array TypeId} (ho : o.op = .call { callee := .value x, args := args, argTypes := ts }) {caps : Array Value}
    (hx : ρ x = .func (.func g) #[] caps) : (execOp ρ o).run P w = .ok (.enter g (args.map ρ ++ caps)) w := by
  obtain ⟨fn, h1, h2, h3⟩ := hf
  have h4 : ¬ fn.body = none := by intro h; rw [h] at h3; cases h3
  simp [execOp, ho, resolve, hx, Deferred.ofValue, invoke, callFunc, h1, h2, h4]
theorem run_callB {g : FuncId} (hf : Callable P g) {o : Oper} {ρ : Operand → Value} {x : Operand} {args : Array Operand} {ts : Array TypeId} (ho : o.op = .call { callee := .value x, args := args, argTypes := ts }) {y : Value}
    (hx : ρ x = .func (.func g) #[y] #[]) : (execOp ρ o).run P w = .ok (.enter g (#[y] ++ args.map ρ)) w := by
  obtain ⟨fn, h1, h2, h3⟩ := hf
  have h4 : ¬ fn.body = none := by intro h; rw [h] at h3; cases h3
  simp [execOp, ho, resolve, hx, Deferred.ofValue, invoke, callFunc, h1, h2, h4]
def callArgs (e : Env) (args : List Operand) (n : Nat) (f : Nat → AVal) : List AVal := args.map (sv e) ++ (List.range' 0 n).map f
theorem callArgs_rel {e : Env} {c : Cx} {ρ : Operand → Value} (hρ : ∀ x, Rel c (evX e x) (ρ x)) {args : Array Operand} (hsc : argsC e args.toList) {n : Nat} {f : Nat → AVal} {caps : Array Value} (hn : caps.size = n)
    (hc : ∀ j, j < n → Rel c (f j) (caps.getD j undef)) : ArgsRel c (callArgs e args.toList n f) (args.map ρ ++ caps).toList := by
  simp only [callArgs, Array.toList_append, Array.toList_map]
  refine ArgsRel.append (sv_args hρ _ hsc) (ArgsRel.of_get f n 0 caps.toList (by simpa using hn) fun j hj => ?_)
  have := hc j hj
  simpa [Array.getD_eq_getD_getElem?, List.getD_eq_getElem?_getD] using this
def guardOf (ops : Array Oper) (o : Oper) (e : Env) : Option (Option Bool) :=
  match o.guard with
  | none => some none
  | some (j, want) => match (ops[j]?).bind (·.dst) with
    | some t => match gB want (lk e t) with
      | some g => some (some g)
      | none => none
    | none => none
theorem wanted_of {G : Gh} {mu : Id → Option Base} {st : St} {a : Act} {w : World} (hs : Sim G mu st a w) {ops : Array Oper} {o : Oper} {g : Option Bool} (hg : guardOf ops o st.env = some g) :
    Region.wanted o (yielded ops a.tmps) = g.getD true := by
  unfold guardOf at hg
  cases hgd : o.guard with
  | none =>
    simp only [hgd, Option.some.injEq] at hg
    subst hg
    simp [Region.wanted, hgd]
  | some jw =>
    obtain ⟨j, want⟩ := jw
    simp only [hgd] at hg
    split at hg
    · rename_i t ht
      split at hg
      · rename_i g' hgb
        simp only [Option.some.injEq] at hg
        subst hg
        have hrel := hs.env t
        simp only [Region.wanted, hgd, yielded, ht, Option.bind_some, Option.getD_some]
        have hgd' : ∀ b : Bool, a.tmps.getD t undef = .bool b → a.tmps[t]? = some (.bool b) := fun b hb => by
          rw [Array.getD_eq_getD_getElem?] at hb
          cases hx : a.tmps[t]? with
          | none => rw [hx] at hb; simp [undef] at hb
          | some y => rw [hx] at hb; simp at hb; rw [hb]
        have hund : a.tmps.getD t undef = undef → ∀ b : Bool, a.tmps[t]? ≠ some (.bool b) := fun hb b hx => by
          rw [Array.getD_eq_getD_getElem?, hx] at hb
          simp [undef] at hb
        cases hlk : lk st.env t <;> simp only [hlk, gB, Option.some.injEq, reduceCtorEq] at hgb
        · rename_i b
          rw [hlk] at hrel
          simp only [Rel] at hrel
          rw [hgd' b hrel]
          subst hgb
          cases b <;> cases want <;> rfl
        · rename_i g0 v0
          cases v0 <;> simp only [gB, Option.some.injEq, reduceCtorEq] at hgb
          rename_i b
          rw [hlk] at hrel
          cases g0 with
          | true =>
            have := hrel.1 rfl
            simp only [Rel] at this
            rw [hgd' b this]
            subst hgb
            cases b <;> cases want <;> rfl
          | false =>
            have := hund (hrel.2 rfl)
            subst hgb
            cases hx : a.tmps[t]? with
            | none => simp
            | some y =>
              rw [hx] at this
              cases y <;> simp at this ⊢
      · cases hg
    · cases hg
def optV (g : Option Bool) (v : AVal) : AVal := match g with
  | none => v
  | some g => .opt g v
def gHolds (g : Option Bool) : Prop := match g with
  | none => True
  | some g => g = true
theorem putSt_heap {nt : Nat} {e : Env} {h : Heap} {nx : Nat} {d : Option Tmp} {v : AVal} {s : St} (hp : putSt nt e h nx d v = some s) : s.heap = h ∧ s.nx = nx := by
  unfold putSt at hp
  split at hp
  · split at hp
    · injection hp with hp; subst hp; exact ⟨rfl, rfl⟩
    · cases hp
  · injection hp with hp; subst hp; exact ⟨rfl, rfl⟩
theorem pc_ok {ops : Array Oper} {o : Oper} {st s : St} {x : Operand} {args : Array Operand} {ts : Array TypeId} (ho : o.op = .call { callee := .value x, args := args, argTypes := ts })
    {g : Option Bool} (hg : guardOf ops o st.env = some g) {f n : Nat} {fc : Nat → AVal} (hx : gHolds g → sv st.env x = .fn f n fc ∧ sc st.env x ∧ argsC st.env args.toList)
    (hf : Callable P f) {as : List AVal} {r : AVal} (hc : gHolds g → PC P f as r) (fz : Nat → Bool) (hflat : (∀ k, fz k = false) ∨ flat r) (hle : gHolds g → argsLe st.heap fz as (callArgs st.env args.toList n fc))
    (hput : putSt G.nt st.env st.heap st.nx o.dst (optV g r) = some s) {mu : Id → Option Base} {a : Act} {w : World} (hs : Sim G mu st a w) {Q : Exit → Act → World → Prop} {K : Act → World → Prop}
    (hgo : ∀ (a' : Act) (w' : World), Sim G mu s a' w' → (cx G st.heap mu st.nx w).Le (cx G s.heap mu s.nx w') → Kept w (fun _ => False) w' → K a' w') :
    if Region.wanted o (yielded ops a.tmps) then o.wp P a w K Q else K (a.put o.dst undef) w := by
  have hw := wanted_of hs hg
  by_cases hgt : g.getD true = true
  · have hgh : gHolds g := by
      cases g with
      | none => trivial
      | some b => simpa [gHolds] using hgt
    rw [if_pos (hw.trans hgt)]
    obtain ⟨hx1, hx2, hx3⟩ := hx hgh
    have hxr := strip_rel (hs.rho x) hx2
    have hxr' : Rel (cx G st.heap mu st.nx w) (sv st.env x) (a.eval x) := hxr
    rw [hx1] at hxr'
    obtain ⟨caps, hxv, hcn, hcr⟩ := hxr'
    unfold Oper.wp
    rw [run_call hf ho hxv]
    simp only [Oper.upon]
    have hargs := argsLe_rel hs.heap _ _ _ (hle hgh) (callArgs_rel (fun y => hs.rho y) hx3 hcn hcr)
    have hcall := hc hgh (lendO G st.heap mu fz) w _ (fun b hb => hs.heap.bound b hb.1) hargs
    simp only [Array.toArray_toList] at hcall
    refine hcall.mono ?_
    rintro e w' ⟨v, rfl, hkept, hrel⟩
    simp only
    obtain ⟨hLe, hok⟩ := hs.heap.grow hkept
    have hrel2 : Rel (cx G st.heap mu st.nx w') r v := by
      have h1 : Rel (c0 (Fb G.O st.heap mu) w') r v := by
        rcases hflat with h0 | h0
        · have : lendO G st.heap mu fz = Fb G.O st.heap mu := by
            funext b
            apply propext
            constructor
            · exact fun h => h.1
            · exact fun h => ⟨h, fun ⟨id, o, B, hfz, _⟩ => by rw [h0] at hfz; cases hfz⟩
          rw [this] at hrel
          exact hrel
        · exact flat_rel r v h0 hrel
      exact Rel.mono (c := c0 (Fb G.O st.heap mu) w') (c' := cx G st.heap mu st.nx w') ⟨Nat.le_refl _, fun _ _ h => h, fun _ _ _ _ => rfl, Nat.zero_le _, fun id hid => absurd hid (Nat.not_lt_zero _), fun _ h => h⟩ r v h1
    have hrel3 : Rel (cx G st.heap mu st.nx w') (optV g r) v := by
      cases g with
      | none => exact hrel2
      | some b =>
        have : b = true := by simpa using hgt
        exact ⟨fun _ => hrel2, fun h => (by rw [this] at h; cases h)⟩
    refine hgo _ _ (hs.put hLe hok hrel3 hput) ?_ hkept
    rw [(putSt_heap hput).1, (putSt_heap hput).2]
    exact hLe
  · rw [if_neg (by rw [hw]; exact hgt)]
    cases g with
    | none => simp at hgt
    | some b =>
      have hb : b = false := by simpa using hgt
      have hsim := hs.put (Cx.Le.refl _) hs.heap (v := optV (some b) r) (x := undef) ⟨fun h => (by rw [hb] at h; cases h), fun _ => rfl⟩ hput
      refine hgo _ _ hsim ?_ (Kept.refl _ _)
      rw [(putSt_heap hput).1, (putSt_heap hput).2]
      exact Cx.Le.refl _
theorem awpL_pc {ops l : List Oper} {o : Oper} {Q : St → Prop} {st s : St} {x : Operand} {args : Array Operand} {ts : Array TypeId} (ho : o.op = .call { callee := .value x, args := args, argTypes := ts })
    {g : Option Bool} (hg : guardOf ops.toArray o st.env = some g) {f n : Nat} {fc : Nat → AVal} (hx : gHolds g → sv st.env x = .fn f n fc ∧ sc st.env x ∧ argsC st.env args.toList)
    (hf : Callable P f) {as : List AVal} {r : AVal} (hc : gHolds g → PC P f as r) (fz : Nat → Bool) (hflat : (∀ k, fz k = false) ∨ flat r) (hle : gHolds g → argsLe st.heap fz as (callArgs st.env args.toList n fc))
    (hput : putSt G.nt st.env st.heap st.nx o.dst (optV g r) = some s) (h : AwpL P G n0 ops l Q s) : AwpL P G n0 ops (o :: l) Q st := by
  intro mu a w hs hn Q' hQ
  refine wpl_step (by rw [ho]; intro c hc; cases hc) fun K hK => ?_
  refine pc_ok ho hg hx hf hc fz hflat hle hput hs fun a' w' hs' hLe _ => hK _ _ (h mu a' w' hs' (by
    rw [(putSt_heap hput).2]; exact hn) Q' fun mu2 st2 a2 w2 h1 h2 h3 h4 => hQ mu2 st2 a2 w2 h1 h2 ((Stay.of hn hLe).trans h3) h4)
end
end Go.Lift
namespace Go.Lift
set_option linter.unusedSimpArgs false
set_option linter.unusedVariables false
open Go.RowKit
structure TE where
  t : TypeId
  k : TK
  size : Nat
  bytes : Nat
  zl : List AVal
  eq : Bool
def TE.ti (e : TE) : TI := ⟨e.k, e.size, e.bytes, fun m => e.zl.getD m .any, e.eq⟩
def eqOK (P : Program) (t : TypeId) : TK → Bool
  | .struct l => (match P.underlying t with
    | some (.struct _) => true
    | _ => false) && !P.stoodInHeld t && !P.eqGuardType P.depth t && (P.fieldsOf t).toList.map (fun f => (f.offset, f.type)) == l && (P.fieldsOf t).toList.all (fun f => f.name != "_")
  | _ => false
theorem eqOK_spec {P : Program} {t : TypeId} {l : List (Nat × TypeId)} (h : eqOK P t (.struct l) = true) : EqOK P t l := by
  simp only [eqOK, Bool.and_eq_true, Bool.not_eq_true', beq_iff_eq, List.all_eq_true, bne_iff_ne, ne_eq] at h
  obtain ⟨⟨⟨⟨h1, h2⟩, h3⟩, h4⟩, h5⟩ := h
  refine ⟨?_, h2, h3, h4, h5⟩
  unfold Program.fieldsOf
  split at h1
  · rename_i fs hu; simp only [hu]
  · cases h1
def zOK : AVal → Value → Bool
  | .int k n, .int k' n' => k == k' && n == n'
  | .bool b, .bool b' => b == b'
  | .str s, .string b => s == b.data.toList
  | .nilp, .pointer none => true
  | .nils, .slice none 0 0 => true
  | .nilmap, .map none => true
  | .nilfn, .nilFunc => true
  | _, _ => false
theorem zOK_spec {v : AVal} {x : Value} (h : zOK v x = true) : v = ofValue x ∧ v.one = true := by
  unfold zOK at h
  split at h <;> simp_all [ofValue, AVal.one]
def zlOK : List AVal → List Value → Bool
  | [], [] => true
  | v :: r, x :: r' => zOK v x && zlOK r r'
  | _, _ => false
theorem zlOK_spec : ∀ {l : List AVal} {xs : List Value}, zlOK l xs = true → l.length = xs.length ∧ ∀ m, m < l.length → l.getD m .any = ofValue (xs.getD m undef) ∧ (l.getD m .any).one = true
  | [], [], _ => ⟨rfl, fun m hm => absurd hm (Nat.not_lt_zero _)⟩
  | v :: r, x :: r', h => by
    simp only [zlOK, Bool.and_eq_true] at h
    obtain ⟨h1, h2⟩ := zlOK_spec h.2
    refine ⟨by simp [h1], fun m hm => ?_⟩
    cases m with
    | zero => simpa using zOK_spec h.1
    | succ m => simpa using h2 m (by simpa using hm)
  | [], _ :: _, h => by simp [zlOK] at h
  | _ :: _, [], h => by simp [zlOK] at h
def fldsOK : List (Nat × TypeId) → List Field → Bool
  | [], [] => true
  | (o, t) :: r, f :: r' => f.offset == o && f.type == t && fldsOK r r'
  | _, _ => false
theorem fldsOK_spec : ∀ {l : List (Nat × TypeId)} {fs : List Field}, fldsOK l fs = true → ∀ (k o : Nat) (t : TypeId), l[k]? = some (o, t) → ∃ f, fs[k]? = some f ∧ f.offset = o ∧ f.type = t
  | [], [], _, k, o, t, h => by simp at h
  | (o', t') :: r, f :: r', h, k, o, t, hk => by
    simp only [fldsOK, Bool.and_eq_true, beq_iff_eq] at h
    cases k with
    | zero =>
      simp only [List.getElem?_cons_zero, Option.some.injEq, Prod.mk.injEq] at hk
      exact ⟨f, rfl, h.1.1.trans hk.1, h.1.2.trans hk.2⟩
    | succ k => simpa using fldsOK_spec h.2 k o t (by simpa using hk)
  | [], _ :: _, h, _, _, _, _ => by simp [fldsOK] at h
  | _ :: _, [], h, _, _, _, _ => by simp [fldsOK] at h
def kindOK (P : Program) (t : TypeId) (k : TK) : Bool :=
  match k, P.underlying t with
  | .int k, some (.int k') => k == k'
  | .bool, some .bool => true
  | .str, some .string => true
  | .slice e, some (.slice e') => e == e'
  | .map a b, some (.map a' b') => a == a' && b == b'
  | .struct l, some (.struct fs) => fldsOK l fs.toList && (fs.toList.mapM (fun f => (P.info? f.type).map fun i => (f.offset, i.size))).isSome
  | .ptr e, some (.pointer e') => e == e'
  | .func, some (.func ..) => true
  | .arr n e, some (.array n' e') => n == n' && e == e'
  | _, _ => false
theorem kindOK_spec {P : Program} {t : TypeId} {k : TK} (h : kindOK P t k = true) : k.ok P t := by
  unfold kindOK at h
  split at h <;> rename_i hu
  · simp only [beq_iff_eq] at h; subst h; exact hu
  · exact hu
  · exact hu
  · simp only [beq_iff_eq] at h; subst h; exact hu
  · simp only [Bool.and_eq_true, beq_iff_eq] at h; obtain ⟨rfl, rfl⟩ := h; exact hu
  · rename_i l fs
    simp only [Bool.and_eq_true, Option.isSome_iff_exists] at h
    obtain ⟨h1, pl, h2⟩ := h
    exact ⟨fs, pl, hu, h2, fun k o ft hk => by simpa using fldsOK_spec h1 k o ft hk⟩
  · simp only [beq_iff_eq] at h; subst h; exact hu
  · exact ⟨_, _, _, hu⟩
  · simp only [Bool.and_eq_true, beq_iff_eq] at h; obtain ⟨rfl, rfl⟩ := h; exact hu
  · cases h
def isAggV : Value → Bool
  | .agg _ => true
  | _ => false
def teOK (P : Program) (e : TE) : Bool :=
  match P.info? e.t with
  | some j => j.size == e.size && j.bytes == e.bytes && e.zl.length == e.size && (e.k.agg || e.size == 1) &&
    (match j.zero with
     | some z => zlOK e.zl z.cells.toList && isAggV z == e.k.agg
     | none => false) && kindOK P e.t e.k && (!e.eq || eqOK P e.t e.k)
  | none => false
theorem teOK_spec {P : Program} {e : TE} (h : teOK P e = true) : TIok P e.t e.ti := by
  unfold teOK at h
  split at h
  · rename_i j hj
    simp only [Bool.and_eq_true, beq_iff_eq, Bool.or_eq_true] at h
    obtain ⟨⟨⟨⟨⟨⟨h1, h2⟩, h3⟩, h4⟩, h5⟩, h6⟩, h10⟩ := h
    split at h5
    · rename_i z hz
      simp only [Bool.and_eq_true, beq_iff_eq] at h5
      obtain ⟨h7, h8⟩ := zlOK_spec h5.1
      refine ⟨⟨j, z, hj, h1, h2, hz, ?_, fun hag => ?_, fun hag => ?_, fun m hm => ?_⟩, kindOK_spec h6, fun hag => ?_, fun heq l hl => ?_⟩
      · show z.cells.size = e.size
        rw [← h3, h7]; simp
      · have : isAggV z = true := h5.2.trans hag
        cases z <;> simp [isAggV] at this
        rfl
      · have : isAggV z = false := h5.2.trans hag
        cases z <;> simp [isAggV] at this <;> rfl
      · have hm' : m < e.zl.length := by rw [h3]; exact hm
        have := h8 m hm'
        refine ⟨?_, this.2⟩
        show e.zl.getD m .any = _
        rw [this.1]
        simp [Array.getD_eq_getD_getElem?, List.getD_eq_getElem?_getD]
      · rcases h4 with h4 | h4
        · have h9 : e.k.agg = false := hag
          rw [h4] at h9
          cases h9
        · exact h4
      · have heq' : e.eq = true := heq
        rcases h10 with h10 | h10
        · rw [heq'] at h10; cases h10
        · have hl' : e.k = .struct l := hl
          rw [hl'] at h10
          exact eqOK_spec h10
    · cases h5
  · cases h
def tabOf (l : List TE) : Tab := fun t => match l.find? (fun e => e.t == t) with
  | some e => some e.ti
  | none => none
theorem tabOf_ok {P : Program} {l : List TE} (h : l.all (teOK P) = true) : TabOK P (tabOf l) := by
  intro t i hi
  unfold tabOf at hi
  split at hi
  · rename_i e he
    injection hi with hi
    subst hi
    have h1 := List.find?_some he
    simp only [beq_iff_eq] at h1
    rw [← h1]
    exact teOK_spec (List.all_eq_true.1 h e (List.mem_of_find?_eq_some he))
  · cases hi
section
variable {P : Program} {G : Gh} {n0 : Nat}
def Cond (c : Prop) : Prop := c
@[simp] theorem Cond_true : Cond True = True := rfl
theorem Cond.mk {c : Prop} (h : c) : Cond c := h
def goEv : Option (St × Prop) → (St → Prop) → Prop
  | some (s, c), K => Cond c ∧ K s
  | none, _ => False
@[simp] theorem goEv_some (s : St) (c : Prop) (K : St → Prop) : goEv (some (s, c)) K = (Cond c ∧ K s) := rfl
theorem goEv_spec {r : Option (St × Prop)} {K : St → Prop} (h : goEv r K) : ∃ s c, r = some (s, c) ∧ c ∧ K s := by
  cases r with
  | none => exact h.elim
  | some p => exact ⟨p.1, p.2, rfl, h.1, h.2⟩
def AwpS (P : Program) (G : Gh) (n0 : Nat) : List Code → (Exit → St → Prop) → St → Prop
  | [], Q, st => Q .normal st
  | c :: cs, Q, st => Awp P G n0 c (thenQ (AwpS P G n0 cs Q) Q) st
theorem awpS_nil {Q : Exit → St → Prop} {st : St} (h : Q .normal st) : AwpS P G n0 [] Q st := h
theorem awpS_seq {a b : Code} {cs : List Code} {Q : Exit → St → Prop} {st : St} (h : AwpS P G n0 (a :: b :: cs) Q st) : AwpS P G n0 (.seq a b :: cs) Q st := by
  refine awp_seq (awp_mono h fun e s hs => ?_)
  cases e <;> exact hs
theorem awpS_skip {cs : List Code} {Q : Exit → St → Prop} {st : St} (h : AwpS P G n0 cs Q st) : AwpS P G n0 (.skip :: cs) Q st := awp_skip h
theorem awpS_exit {id : Nat} {cs : List Code} {Q : Exit → St → Prop} {st : St} (h : Q (.exit id) st) : AwpS P G n0 (.exit id :: cs) Q st := awp_exit h
theorem awpS_ret {cs : List Code} {Q : Exit → St → Prop} {st : St} (h : Q .ret st) : AwpS P G n0 (.ret :: cs) Q st := awp_ret h
theorem awpS_cond {t : Tmp} {x y : Code} {cs : List Code} {Q : Exit → St → Prop} {st : St} {b : Bool} (hb : lk st.env t = .bool b) (h1 : b = true → AwpS P G n0 (x :: cs) Q st) (h2 : b = false → AwpS P G n0 (y :: cs) Q st) :
    AwpS P G n0 (.cond (.tmp t) x y :: cs) Q st := awp_cond hb h1 h2
theorem awpS_block {id : Nat} {c : Code} {cs : List Code} {Q : Exit → St → Prop} {st : St} (h : AwpS P G n0 [c] (blockQ id (thenQ (AwpS P G n0 cs Q) Q)) st) : AwpS P G n0 (.block id c :: cs) Q st := by
  refine awp_block (awp_mono h fun e s hs => ?_)
  cases e <;> exact hs
theorem awpS_wk {cs : List Code} {Q : Exit → St → Prop} {st st2 : St} {c : Code} (hw : Wk G n0 st st2) (h : AwpS P G n0 (c :: cs) Q st2) : AwpS P G n0 (c :: cs) Q st := awp_wk hw h
theorem awpS_reg {T : Tab} (hT : TabOK P T) {id : Nat} {ops : List Oper} {cs : List Code} {Q : Exit → St → Prop} {st : St} (h : ∀ K : St → Prop, (∀ s, AwpS P G n0 cs Q s → K s) → goEv (evOps T G.nt ops.toArray ops st) K) :
    AwpS P G n0 (.region id ops.toArray false :: cs) Q st := by
  obtain ⟨s, c, he, hc, hK⟩ := goEv_spec (h _ fun _ hs => hs)
  exact awp_ev hT he hc hK
theorem awpL_reg {T : Tab} (hT : TabOK P T) {ops l : List Oper} {Q : St → Prop} {st : St} (n : Nat) (h : ∀ K : St → Prop, (∀ s, AwpL P G n0 ops (l.drop n) Q s → K s) → goEv (evOps T G.nt ops.toArray (l.take n) st) K) :
    AwpL P G n0 ops l Q st := by
  obtain ⟨s, c, he, hc, hK⟩ := goEv_spec (h _ fun _ hs => hs)
  have := awpL_ev (P := P) (n0 := n0) (r := l.drop n) hT (l.take n) he hc hK
  rwa [List.take_append_drop] at this
theorem awpS_regL {id : Nat} {ops : List Oper} {cs : List Code} {Q : Exit → St → Prop} {st : St} (h : AwpL P G n0 ops ops (AwpS P G n0 cs Q) st) : AwpS P G n0 (.region id ops.toArray false :: cs) Q st := awp_region h
theorem awpS_loop {α : Type} {c : Code} {cs : List Code} {Q : Exit → St → Prop} {st : St} (S : α → St) (I : α → Prop) (m : α → Nat) (x0 : α) (hI : I x0) (h0 : Wk G n0 st (S x0))
    (round : ∀ x, I x → AwpS P G n0 [c] (thenQ (fun st' => ∃ y, I y ∧ m y < m x ∧ Wk G n0 st' (S y)) (thenQ (AwpS P G n0 cs Q) Q)) (S x)) : AwpS P G n0 (.loop c :: cs) Q st := by
  refine awp_loop S I m x0 hI h0 fun x hx => awp_mono (round x hx) fun e s hs => ?_
  cases e <;> exact hs
theorem round_end {α : Type} {I : α → Prop} {m : α → Nat} {S : α → St} {x : α} {Q : Exit → St → Prop} {st' : St} (y : α) (h1 : I y) (h2 : m y < m x) (h3 : Wk G n0 st' (S y)) :
    thenQ (fun st' => ∃ y, I y ∧ m y < m x ∧ Wk G n0 st' (S y)) Q .normal st' := ⟨y, h1, h2, h3⟩
theorem awpS_cut {α : Type} {c : Code} {cs : List Code} {Q : Exit → St → Prop} {st : St} (S : α → St) (I : α → Prop) (h : AwpS P G n0 [c] (thenQ (fun st' => ∃ y, I y ∧ Wk G n0 st' (S y)) Q) st) (k : ∀ y, I y → AwpS P G n0 cs Q (S y))
    (hcs : cs ≠ []) : AwpS P G n0 (c :: cs) Q st := by
  refine awp_mono h fun e s hs => ?_
  cases e with
  | normal =>
    obtain ⟨y, hy, hw⟩ := hs
    cases cs with
    | nil => exact absurd rfl hcs
    | cons a r => exact awp_wk hw (k y hy)
  | _ => exact hs
def keep (l : List Nat) (e : Env) : Env := l.map fun t => (t, lk e t)
theorem PC_introS {T : Tab} (hT : TabOK P T) {f : FuncId} {fn : Func} {c : Code} {args : List AVal} {r : AVal} (hf : P.funcs[f]? = some fn) (hb : fn.body = some c) (hn : args.length ≤ fn.ntmps)
    (h : ∀ G : Gh, G.nt = fn.ntmps → G.rd = none → AwpS P G 0 [c] (fun e st => match e with | .normal => RetOK T fn.results.toList r st | .ret => RetOK T fn.results.toList r st | _ => False) ⟨argEnv 0 args, [], 0⟩) :
    PC P f args r := PC_intro hT hf hb hn fun G hG hR => awp_mono (h G hG hR) fun e s hs => by cases e <;> exact hs
def vecF {α : Type} (f : α → Nat → AVal) (d : α) (l : List α) : Nat → Nat → AVal := fun i j => f (l.getD i d) j
def vec {α : Type} (s : Nat) (f : α → Nat → AVal) (d : α) (l : List α) : AVal := .vsl l.length s (vecF f d l)
end
section
variable {α : Type} {s : Nat} {f : α → Nat → AVal} {d : α} {l : List α}
@[simp] theorem evLen_vec {h : Heap} : evLen h (vec s f d l) = some (.int .i64 l.length) := rfl
@[simp] theorem strip_vec : strip (vec s f d l) = (vec s f d l, True) := rfl
@[simp] theorem lenT_vec {T : Tab} {t : TypeId} : lenT T t (vec s f d l) = sliceT T t := by
  unfold lenT sliceT vec
  cases T t with
  | none => rfl
  | some i => obtain ⟨k, a, b, c, dq⟩ := i; cases k <;> rfl
@[simp] theorem evIndexAddr_vec {T : Tab} {h : Heap} {t : TypeId} {k : IntKind} {m : Int} :
    evIndexAddr T h t (vec s f d l) (.int k m) = match elemT T t with
      | some ei => if s = ei.size then some (.vptr s (f (l.getD m.toNat d)) 0, 0 ≤ m ∧ m < (l.length : Int)) else none
      | none => none := by
  unfold evIndexAddr elemT vec vecF
  cases T t with
  | none => rfl
  | some i =>
    obtain ⟨k, a, b, c, dq⟩ := i
    cases k <;> try rfl
    · rename_i e; simp only; cases T e <;> rfl
    · rename_i n e; simp only; cases T e <;> rfl
end
end Go.Lift
