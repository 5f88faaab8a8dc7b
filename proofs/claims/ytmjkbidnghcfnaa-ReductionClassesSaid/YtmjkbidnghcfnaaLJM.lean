/-
  The abstract layer, part J (maps): maps as lists of keys and values in the order in which they came in.
-/
import Derived.Test.YtmjkbidnghcfnaaLJ
namespace Go.Lift
set_option linter.unusedSimpArgs false
set_option linter.unusedVariables false
open Go.RowKit

def plainT (T : Tab) (t : TypeId) : Bool := match T t with
  | some i => match i.k with
    | .int _ => true
    | .bool => true
    | .str => true
    | _ => false
  | none => false
/-- values that may be keys. -/
def keyT (T : Tab) (kt : TypeId) : AVal → Bool
  | .agg n _ => match T kt with
    | some i => match i.k with
      | .struct l => i.eq && i.size == n && l.map (·.1) == List.range n && l.all (fun p => plainT T p.2)
      | _ => false
    | none => false
  | .int .. => plainT T kt
  | .bool _ => plainT T kt
  | .str _ => plainT T kt
  | _ => false
def kEq (T : Tab) (kt : TypeId) (a b : AVal) : Option Bool := match a, b with
  | .agg n f, .agg m g => if n = m then evEqA T kt n f g else none
  | .agg .., _ => none
  | _, .agg .. => none
  | a, b => eqC T kt a b
def luK (T : Tab) (kt : TypeId) : List (AVal × AVal) → Nat → AVal → Option (Option (Nat × AVal))
  | [], _, _ => some none
  | (a, v) :: l, i, k => match kEq T kt k a with
    | some true => some (some (i, v))
    | some false => luK T kt l (i + 1) k
    | none => none
def mapOf (h : Heap) : AVal → Option (List (AVal × AVal))
  | .map id => match lkH h id with
    | some (.mp l) => some l
    | _ => none
  | .nilmap => some []
  | _ => none
/-- what is found, or the zero value. -/
def lkV (r : Option (Nat × AVal)) (z : AVal) : AVal := (r.map (·.2)).getD z
def evLookup (T : Tab) (h : Heap) (t : TypeId) (m k : AVal) (ok : Bool) : Option AVal :=
  match T t with
  | some ⟨.map kt et, _, _, _, _⟩ => match T et, mapOf h m with
    | some ei, some l => if keyT T kt k then match luK T kt l 0 k with
      | some r => some (if ok then .tup 2 (fun j => match j with
          | 0 => lkV r (mkL ei ei.zero)
          | _ => .bool r.isSome) else lkV r (mkL ei ei.zero))
      | none => none else none
    | _, _ => none
  | _ => none
def putK (l : List (AVal × AVal)) (r : Option (Nat × AVal)) (k v : AVal) : List (AVal × AVal) := match r with
  | some (i, _) => l.set i (k, v)
  | none => l ++ [(k, v)]
/-- a struct by its fields. -/
def aggL (l : List AVal) : AVal := .agg l.length (fun j => l.getD j .any)
def normK : AVal → AVal
  | .agg n f => aggL ((List.range n).map f)
  | v => v
theorem normK_rel {c : Cx} {v : AVal} {x : Value} (h : Rel c v x) : Rel c (normK v) x := by
  cases v with
  | agg n f =>
    obtain ⟨cs, hx, hn, hc⟩ := h
    refine ⟨cs, hx, by simpa using hn, fun j hj => ?_⟩
    have hj' : j < n := by simpa using hj
    have : ((List.range n).map f).getD j .any = f j := by simp [List.getD, hj']
    show Rel c (((List.range n).map f).getD j .any) _
    rw [this]
    exact hc j hj'
  | _ => exact h
def evMapUpd (T : Tab) (h : Heap) (t : TypeId) (m k v : AVal) : Option Heap :=
  match T t, m with
  | some ⟨.map kt _, _, _, _, _⟩, .map id => match lkH h id with
    | some (.mp l) => if keyT T kt k then match luK T kt l 0 k with
      | some r => some (setH h id (.mp (putK l r (normK k) v)))
      | none => none else none
    | _ => none
  | _, _ => none
def evClear (h : Heap) : AVal → Option Heap
  | .map id => match lkH h id with
    | some (.mp _) => some (setH h id (.mp []))
    | _ => none
  | _ => none
def evMakeMap (h : Heap) (nx : Nat) : AVal × Heap := (.map (nx, 0), (nx, .one (.mp [])) :: h)

section
variable {P : Program} {G : Gh} {h : Heap} {mu : Id → Option Base} {nx : Nat} {w : World}

theorem plainT_spec {T : Tab} (hT : TabOK P T) {t : TypeId} (hp : plainT T t = true) : ∃ d, P.underlying t = some d ∧ (d = .bool ∨ d = .string ∨ ∃ k, d = .int k) ∧ ∀ w, (isAgg t).run P w = .ok false w := by
  unfold plainT at hp
  split at hp
  · rename_i i hi
    have hk := (hT t i hi).kind
    have hagg := fun w => (hT t i hi).run_isAgg w
    split at hp
    · rename_i k hik; rw [hik] at hk hagg; exact ⟨_, hk, .inr (.inr ⟨_, rfl⟩), hagg⟩
    · rename_i hik; rw [hik] at hk hagg; exact ⟨_, hk, .inl rfl, hagg⟩
    · rename_i hik; rw [hik] at hk hagg; exact ⟨_, hk, .inr (.inl rfl), hagg⟩
    · cases hp
  · cases hp

theorem run_check_plain {T : Tab} (hT : TabOK P T) {t : TypeId} (hp : plainT T t = true) (em : Bool) (n : Nat) (v : Value) (w : World) : (Instr.checkKey em (n + 1) t v).run P w = .ok () w := by
  obtain ⟨d, hd, hk, _⟩ := plainT_spec hT hp
  unfold Instr.checkKey
  simp only [Sem.run_bind, run_underlying hd, Result.andThen_ok]
  rcases hk with rfl | rfl | ⟨k, rfl⟩ <;> rfl

theorem run_check_key {T : Tab} (hT : TabOK P T) {kt : TypeId} {k : AVal} (hp : keyT T kt k = true) {x : Value} {c : Cx} (hr : Rel c k x) (em : Bool) (n : Nat) (w : World) : (Instr.checkKey em (n + 2) kt x).run P w = .ok () w := by
  cases k with
  | agg m f =>
    simp only [keyT] at hp
    split at hp
    · rename_i i hi
      split at hp
      · rename_i l hik
        simp only [Bool.and_eq_true, beq_iff_eq, List.all_eq_true] at hp
        obtain ⟨⟨⟨h1, h2⟩, h3⟩, h4⟩ := hp
        have he := (hT kt i hi).eqv h1 l hik
        obtain ⟨cs, rfl, hcn, _⟩ := hr
        unfold Instr.checkKey
        simp only [Sem.run_bind, run_underlying he.und, Result.andThen_ok]
        rw [← Array.forIn_toList]
        have hfs : ∀ q ∈ (P.fieldsOf kt).toList, q.name ≠ "_" ∧ q.offset < m ∧ plainT T q.type = true := fun q hq => by
          have hm : (q.offset, q.type) ∈ l := by rw [← he.fields]; exact List.mem_map.2 ⟨q, hq, rfl⟩
          refine ⟨he.names q hq, ?_, h4 _ hm⟩
          have : q.offset ∈ l.map (·.1) := List.mem_map.2 ⟨_, hm, rfl⟩
          rw [h3] at this
          simpa using this
        generalize (P.fieldsOf kt).toList = fs at hfs
        induction fs with
        | nil => simp
        | cons q fs ih =>
          obtain ⟨q1, q2, q3⟩ := hfs q (by simp)
          obtain ⟨d, _, _, hagg⟩ := plainT_spec hT q3
          have hq1 : q.offset < cs.size := by omega
          have hpart : (part q.type cs q.offset).run P w = .ok (cs.getD q.offset undef) w := by simp [part, hagg w, hq1, Array.getD]
          have hck := run_check_plain hT q3 em n (cs.getD q.offset undef) w
          have ih' := ih (fun z hz => hfs z (by simp [hz]))
          simp only [List.forIn_cons, q1, ne_eq, not_false_eq_true, if_true, Sem.run_bind, hpart, Result.andThen_ok, hck, Sem.run_pure]
          exact ih'
      · cases hp
    · cases hp
  | int => exact run_check_plain hT hp em (n + 1) x w
  | bool => exact run_check_plain hT hp em (n + 1) x w
  | str => exact run_check_plain hT hp em (n + 1) x w
  | _ => simp [keyT] at hp

theorem eqC_val {T : Tab} {ft : TypeId} {a b : AVal} (h : eqC T ft a b = some true) : a = b ∧ ((∃ k n, a = .int k n) ∨ (∃ s, a = .str s) ∨ ∃ p, a = .bool p) := by
  unfold eqC at h
  split at h
  · split at h
    · split at h
      · rename_i hkk
        simp only [Option.some.injEq, decide_eq_true_eq] at h
        subst hkk h
        exact ⟨rfl, .inl ⟨_, _, rfl⟩⟩
      · cases h
    · simp only [Option.some.injEq, decide_eq_true_eq] at h
      subst h
      exact ⟨rfl, .inr (.inl ⟨_, rfl⟩)⟩
    · simp only [Option.some.injEq, beq_iff_eq] at h
      subst h
      exact ⟨rfl, .inr (.inr ⟨_, rfl⟩)⟩
    · cases h
  · cases h

theorem eqL_val {T : Tab} {f g : Nat → AVal} : ∀ {l : List (Nat × TypeId)}, eqL T l f g = some true → ∀ p ∈ l, f p.1 = g p.1 ∧ ((∃ k n, f p.1 = .int k n) ∨ (∃ s, f p.1 = .str s) ∨ ∃ q, f p.1 = .bool q)
  | [], _, p, hp => by cases hp
  | (o, ft) :: r, h, p, hp => by
    simp only [eqL] at h
    split at h
    · rename_i a b h1 h2
      simp only [Option.some.injEq, Bool.and_eq_true] at h
      obtain ⟨rfl, rfl⟩ := h
      cases hp with
      | head => exact eqC_val h1
      | tail _ hp => exact eqL_val h2 p hp
    · cases h

theorem rel_det {c c' : Cx} {a : AVal} (ha : (∃ k n, a = .int k n) ∨ (∃ s, a = .str s) ∨ ∃ q, a = .bool q) {x y : Value} (hx : Rel c a x) (hy : Rel c' a y) : x = y ∧ ((∃ k n, x = .int k n) ∨ (∃ s, x = .string s) ∨ ∃ q, x = .bool q) := by
  rcases ha with ⟨k, n, rfl⟩ | ⟨s, rfl⟩ | ⟨q, rfl⟩ <;> simp only [Rel] at hx hy <;> subst hx hy
  · exact ⟨rfl, .inl ⟨_, _, rfl⟩⟩
  · exact ⟨rfl, .inr (.inl ⟨_, rfl⟩)⟩
  · exact ⟨rfl, .inr (.inr ⟨_, rfl⟩)⟩

theorem sameBits_plain {x : Value} (h : (∃ k n, x = .int k n) ∨ (∃ s, x = .string s) ∨ ∃ q, x = .bool q) (n : Nat) : Instr.sameBits n x x = true := by
  rcases h with ⟨k, m, rfl⟩ | ⟨s, rfl⟩ | ⟨q, rfl⟩ <;> cases n <;> simp [Instr.sameBits, beq_toListBytes]

/-- keys that are equal are the same, bit by bit. -/
theorem kEq_same {T : Tab} {kt : TypeId} {a b : AVal} (h : kEq T kt a b = some true) (hp : keyT T kt a = true) {c c' : Cx} {x y : Value} (hx : Rel c a x) (hy : Rel c' b y) : Instr.sameBits 10000 y x = true := by
  unfold kEq at h
  split at h
  · rename_i n f m g
    split at h
    · rename_i hnm
      subst hnm
      unfold evEqA at h
      split at h
      · rename_i i hi
        split at h
        · rename_i l hik
          split at h
          · obtain ⟨cs, rfl, hcn, hcr⟩ := hx
            obtain ⟨ds, rfl, hdn, hdr⟩ := hy
            simp only [keyT, hi, hik, Bool.and_eq_true, beq_iff_eq] at hp
            obtain ⟨⟨_, h3⟩, _⟩ := hp
            have hall : ∀ j, j < n → cs.getD j undef = ds.getD j undef ∧ ((∃ k n, cs.getD j undef = .int k n) ∨ (∃ s, cs.getD j undef = .string s) ∨ ∃ q, cs.getD j undef = .bool q) := fun j hj => by
              have : j ∈ l.map (·.1) := by rw [h3]; simpa using hj
              obtain ⟨p, hp1, hp2⟩ := List.mem_map.1 this
              obtain ⟨e1, e2⟩ := eqL_val h p hp1
              rw [hp2] at e1 e2
              have h5 := hcr j hj
              have h6 := hdr j hj
              rw [← e1] at h6
              exact rel_det e2 h5 h6
            have hcd : cs = ds := by
              apply Array.ext (by omega)
              intro j h1 h2
              have := (hall j (by omega)).1
              simpa [Array.getD, h1, h2] using this
            subst hcd
            show Instr.sameBits (9999 + 1) _ _ = true
            simp only [Instr.sameBits, beq_self_eq_true, Bool.true_and, List.all_eq_true]
            rintro ⟨x1, x2⟩ hz
            obtain ⟨j, hj, hje⟩ := List.mem_iff_getElem.1 hz
            simp only [List.length_zip, Array.length_toList, Nat.min_self] at hj
            simp only [List.getElem_zip, Array.getElem_toList, Prod.mk.injEq] at hje
            obtain ⟨rfl, rfl⟩ := hje
            have := (hall j (by omega)).2
            simp only [Array.getD, hj, dite_true] at this
            exact sameBits_plain this 9999
          · cases h
        · cases h
      · cases h
    · cases h
  · cases h
  · cases h
  · obtain ⟨rfl, hpl⟩ := eqC_val h
    obtain ⟨rfl, hv⟩ := rel_det hpl hx hy
    exact sameBits_plain hv _

def EntRel (c : Cx) (l : List (AVal × AVal)) (es : List MapEntry) : Prop := es.length = l.length ∧ ∀ i (hi : i < l.length) e, es[i]? = some e → Rel c l[i].1 e.key ∧ Rel c l[i].2 e.val

/-- what is found. -/
def FoundRel (c : Cx) (l : List (AVal × AVal)) (n0 : Nat) (k : AVal) (T : Tab) (kt : TypeId) : Option (Nat × AVal) → Option (Nat × Value) → Prop
  | none, none => True
  | some (i, v), some (i', x) => i' = i ∧ n0 ≤ i ∧ i - n0 < l.length ∧ Rel c v x ∧ ∃ a, (l.map (·.1))[i - n0]? = some a ∧ kEq T kt k a = some true
  | _, _ => False

theorem FoundRel.cons {c : Cx} {p : AVal × AVal} {l : List (AVal × AVal)} {n0 : Nat} {k : AVal} {T : Tab} {kt : TypeId} : ∀ {r : Option (Nat × AVal)} {r' : Option (Nat × Value)}, FoundRel c l (n0 + 1) k T kt r r' → FoundRel c (p :: l) n0 k T kt r r'
  | none, none, _ => trivial
  | some (i, v), some (i', x), ⟨h1, h2, h3, h4, a, h5, h6⟩ => ⟨h1, by omega, by simp only [List.length_cons]; omega, h4, a, by
      rw [show i - n0 = (i - (n0 + 1)) + 1 by omega]
      simpa using h5, h6⟩
  | none, some _, h => h.elim
  | some _, none, h => h.elim

theorem find_agg {T : Tab} (hT : TabOK P T) {kt : TypeId} {n : Nat} {f : Nat → AVal} {c : Cx} {cs : Array Value} (hcn : cs.size = n) (hcr : ∀ j, j < n → Rel c (f j) (cs.getD j undef)) (w : World) :
    ∀ (l : List (AVal × AVal)) (es : List MapEntry) (i : Nat) (r : Option (Nat × AVal)), EntRel c l es → luK T kt l i (.agg n f) = some r →
      ∃ r', (Instr.findAsking kt (.agg cs) es i).run P w = .ok r' w ∧ FoundRel c l i (.agg n f) T kt r r'
  | [], es, i, r, he, hl => by
    simp only [luK, Option.some.injEq] at hl
    subst hl
    have : es = [] := List.eq_nil_of_length_eq_zero he.1
    subst this
    exact ⟨none, by simp [Instr.findAsking], trivial⟩
  | (a, v) :: l, [], i, r, he, _ => by have := he.1; simp at this
  | (a, v) :: l, e :: es, i, r, he, hl => by
    have h0 := he.2 0 (by simp) e rfl
    simp only [List.getElem_cons_zero] at h0
    have he' : EntRel c l es := ⟨by have := he.1; simpa using this, fun j hj e' hje => by
      have := he.2 (j + 1) (by simp only [List.length_cons]; omega) e' (by simpa using hje)
      simpa using this⟩
    simp only [luK] at hl
    have hk : ∀ b, kEq T kt (.agg n f) a = some b → (Op.equal kt (.agg cs) e.key).run P w = .ok b w := fun b hb => by
      cases a with
      | agg m g =>
        simp only [kEq] at hb
        by_cases hnm : n = m
        · rw [if_pos hnm] at hb
          subst hnm
          obtain ⟨ds, hds, hdn, hdr⟩ := h0.1
          rw [hds]
          exact (evEqA_ok hT hb hcr hdr hcn hdn w).1
        · rw [if_neg hnm] at hb; cases hb
      | _ => simp [kEq] at hb
    split at hl
    · rename_i hb
      injection hl with hl
      subst hl
      refine ⟨some (i, e.val), ?_, rfl, Nat.le_refl _, by simp, h0.2, a, by simp, hb⟩
      simp [Instr.findAsking, hk true hb]
    · rename_i hb
      obtain ⟨r', hr', hf⟩ := find_agg hT hcn hcr w l es (i + 1) r he' hl
      exact ⟨r', by simp only [Instr.findAsking, Sem.run_bind, hk false hb, Result.andThen_ok, Bool.false_eq_true, if_false]; exact hr', hf.cons⟩
    · cases hl

theorem eqC_now {T : Tab} (hT : TabOK P T) {kt : TypeId} {a b : AVal} {r : Bool} (h : eqC T kt a b = some r) {x y : Value} {c : Cx} (ha : Rel c a x) (hb : Rel c b y) : ∃ d, P.underlying kt = some d ∧ Instr.sameNow d x y = some r := by
  unfold eqC at h
  split at h
  · rename_i i hi
    have hk := (hT kt i hi).kind
    split at h
    · rename_i k0 k p k' q hki
      rw [hki] at hk
      split at h
      · rename_i hkk
        subst hkk
        injection h with h
        simp only [Rel] at ha hb
        subst ha hb h
        exact ⟨_, hk, by simp [Instr.sameNow, beq_dec]⟩
      · cases h
    · rename_i p q hki
      rw [hki] at hk
      injection h with h
      simp only [Rel] at ha hb
      subst ha hb h
      refine ⟨_, hk, ?_⟩
      simp only [Instr.sameNow, Option.some.injEq]
      rw [beq_toListBytes, toList_mk, toList_mk, beq_dec]
    · rename_i p q hki
      rw [hki] at hk
      injection h with h
      simp only [Rel] at ha hb
      subst ha hb h
      exact ⟨_, hk, by simp [Instr.sameNow]⟩
    · cases h
  · cases h

theorem find_plain {T : Tab} (hT : TabOK P T) {kt : TypeId} {d : TypeDesc} (hd : P.underlying kt = some d) {k : AVal} (hne : ∀ n f, k ≠ .agg n f) {x : Value} {c : Cx} (hx : Rel c k x) :
    ∀ (l : List (AVal × AVal)) (es : List MapEntry) (i : Nat) (r : Option (Nat × AVal)), EntRel c l es → luK T kt l i k = some r → ∃ r', Instr.findNow d x es i = some r' ∧ FoundRel c l i k T kt r r'
  | [], es, i, r, he, hl => by
    simp only [luK, Option.some.injEq] at hl
    subst hl
    have : es = [] := List.eq_nil_of_length_eq_zero he.1
    subst this
    exact ⟨none, rfl, trivial⟩
  | (a, v) :: l, [], i, r, he, _ => by have := he.1; simp at this
  | (a, v) :: l, e :: es, i, r, he, hl => by
    have h0 := he.2 0 (by simp) e rfl
    simp only [List.getElem_cons_zero] at h0
    have he' : EntRel c l es := ⟨by have := he.1; simpa using this, fun j hj e' hje => by
      have := he.2 (j + 1) (by simp only [List.length_cons]; omega) e' (by simpa using hje)
      simpa using this⟩
    simp only [luK] at hl
    have hk : ∀ b, kEq T kt k a = some b → Instr.sameNow d x e.key = some b := fun b hb => by
      unfold kEq at hb
      split at hb
      · exact absurd rfl (hne _ _)
      · exact absurd rfl (hne _ _)
      · cases hb
      · obtain ⟨d', hd', h1⟩ := eqC_now hT hb hx h0.1
        rw [hd] at hd'
        injection hd' with hd'
        subst hd'
        exact h1
    split at hl
    · rename_i hb
      injection hl with hl
      subst hl
      exact ⟨some (i, e.val), by simp only [Instr.findNow, hk true hb], rfl, Nat.le_refl _, by simp, h0.2, a, by simp, hb⟩
    · rename_i hb
      obtain ⟨r', hr', hf⟩ := find_plain hT hd hne hx l es (i + 1) r he' hl
      exact ⟨r', by simp only [Instr.findNow, hk false hb]; exact hr', hf.cons⟩
    · cases hl

theorem run_findKey {T : Tab} (hT : TabOK P T) {kt : TypeId} {k : AVal} (hp : keyT T kt k = true) {x : Value} {c : Cx} (hx : Rel c k x) {l : List (AVal × AVal)} {es : List MapEntry} (he : EntRel c l es) {r : Option (Nat × AVal)} (hl : luK T kt l 0 k = some r) (w : World) :
    ∃ r', (Instr.findKey kt x es).run P w = .ok r' w ∧ FoundRel c l 0 k T kt r r' := by
  by_cases hag : ∃ n f, k = .agg n f
  · obtain ⟨n, f, rfl⟩ := hag
    simp only [keyT] at hp
    split at hp
    · rename_i i hi
      split at hp
      · rename_i fl hik
        simp only [Bool.and_eq_true, beq_iff_eq] at hp
        have heq := (hT kt i hi).eqv hp.1.1.1 fl hik
        obtain ⟨cs, rfl, hcn, hcr⟩ := hx
        cases es with
        | nil =>
          have : l = [] := List.eq_nil_of_length_eq_zero (by have := he.1; simpa using this.symm)
          subst this
          simp only [luK, Option.some.injEq] at hl
          subst hl
          exact ⟨none, by simp [Instr.findKey, run_underlying heq.und, Instr.findNow], trivial⟩
        | cons e es =>
          obtain ⟨r', hr', hf⟩ := find_agg hT hcn hcr w l (e :: es) 0 r he hl
          refine ⟨r', ?_, hf⟩
          have : Instr.findNow (.struct (P.fieldsOf kt)) (.agg cs) (e :: es) 0 = none := by simp [Instr.findNow, Instr.sameNow]
          simp only [Instr.findKey, Sem.run_bind, run_underlying heq.und, Result.andThen_ok, this]
          exact hr'
      · cases hp
    · cases hp
  · have hne : ∀ n f, k ≠ .agg n f := fun n f h => hag ⟨n, f, h⟩
    have hpl : plainT T kt = true := by
      cases k <;> first | exact hp | (simp [keyT] at hp; done) | exact absurd rfl (hne _ _)
    obtain ⟨d, hd, _, _⟩ := plainT_spec hT hpl
    obtain ⟨r', hr', hf⟩ := find_plain hT hd hne hx l es 0 r he hl
    refine ⟨r', ?_, hf⟩
    simp only [Instr.findKey, Sem.run_bind, run_underlying hd, Result.andThen_ok, hr']
    rfl

theorem zero_rel {T : Tab} (hT : TabOK P T) {t : TypeId} {i : TI} (hi : T t = some i) (c : Cx) : ∃ z, (∀ w, (zeroValue t).run P w = .ok z w) ∧ Rel c (mkL i i.zero) z := by
  obtain ⟨j, z, h1, h2, h3, h4, h5, h6, h7, h8⟩ := (hT t i hi).info
  refine ⟨z, fun w => by simp [zeroValue, typeInfo, h1, h4], ?_⟩
  unfold mkL
  cases hag : i.k.agg with
  | true =>
    have hz := h6 hag
    rw [hz]
    exact ⟨_, rfl, h5, fun m hm => by rw [(h8 m hm).1]; exact ofValue_rel c _⟩
  | false =>
    have hz := h7 hag
    have h1' := (hT t i hi).one hag
    have := (h8 0 (by omega)).1
    simp only
    rw [this, hz]
    exact ofValue_rel c z

theorem mapOf_ok (hk : HOk G h mu nx w) {m : AVal} {l : List (AVal × AVal)} (hm : mapOf h m = some l) {x : Value} (hx : Rel (cx G h mu nx w) m x) :
    (x = .map none ∧ l = []) ∨ ∃ id B es clock, m = .map id ∧ lkH h id = some (.mp l) ∧ mu id = some B ∧ x = .map (some B.b) ∧ w.heap[B.b]? = some (.map es clock) ∧ EntRel (cx G h mu nx w) l es.toList := by
  unfold mapOf at hm
  split at hm
  · rename_i id
    split at hm
    · rename_i l' hl
      injection hm with hm
      subst hm
      obtain ⟨_, B, hB, rfl⟩ := hx
      have ho := (hk.obj id _ hl).2
      have hB' : mu id = some B := hB
      rw [hB'] at ho
      obtain ⟨es, clock, hh, hsz, hc⟩ := ho
      exact .inr ⟨id, B, es, clock, rfl, hl, hB', rfl, hh, by simpa using hsz, fun i hi e he => hc i hi e (by simpa using he)⟩
    · cases hm
  · injection hm with hm
    simp only [Rel] at hx
    exact .inl ⟨hx, hm.symm⟩
  · cases hm

theorem evLookup_ok {T : Tab} (hT : TabOK P T) (hk : HOk G h mu nx w) {t : TypeId} {m k v : AVal} {ok : Bool} (he : evLookup T h t m k ok = some v) {x y : Value} (hx : Rel (cx G h mu nx w) m x) (hy : Rel (cx G h mu nx w) k y) :
    ∃ z, (Instr.lookup t x y ok).run P w = .ok z w ∧ Rel (cx G h mu nx w) v z := by
  unfold evLookup at he
  split at he
  · rename_i kt et _ _ _ _ hi
    have hu : P.underlying t = some (.map kt et) := (hT t _ hi).kind
    split at he
    · rename_i ei l hei hm
      split at he
      · rename_i hkt
        split at he
        · rename_i r hr
          injection he with he
          subst he
          obtain ⟨zv, hz, hzr⟩ := zero_rel hT hei (cx G h mu nx w)
          have key : ∀ (es : Array MapEntry), EntRel (cx G h mu nx w) l es.toList → ∃ z, ((do
              Instr.checkKey es.isEmpty 10000 kt y
              let (v, ok') ← match ← Instr.findKey kt y es.toList with
                | some (_, v) => pure (v, true)
                | none => pure (← zeroValue et, false)
              pure (if ok then .tuple #[v, .bool ok'] else v)) : Sem Value).run P w = .ok z w ∧ Rel (cx G h mu nx w) (if ok then .tup 2 (fun j => match j with
                | 0 => lkV r (mkL ei ei.zero)
                | _ => .bool r.isSome) else lkV r (mkL ei ei.zero)) z := fun es hes => by
            have hck := run_check_key hT hkt hy es.isEmpty 9998 w
            obtain ⟨r', hr', hf⟩ := run_findKey hT hkt hy hes hr w
            have fin : ∀ (v : AVal) (b : Bool) (z : Value), Rel (cx G h mu nx w) v z → Rel (cx G h mu nx w) (if ok then .tup 2 (fun j => match j with
                | 0 => v
                | _ => .bool b) else v) (if ok then .tuple #[z, .bool b] else z) := fun v b z hvz => by
              cases ok with
              | true => exact ⟨_, rfl, rfl, fun j hj => by
                  match j, hj with
                  | 0, _ => exact hvz
                  | 1, _ => rfl⟩
              | false => exact hvz
            cases r with
            | none =>
              cases r' with
              | some q => exact hf.elim
              | none => exact ⟨_, by simp only [Sem.run_bind, hck, hr', hz w, Result.andThen_ok, Sem.run_pure], fin _ false zv hzr⟩
            | some p =>
              obtain ⟨pi, pv⟩ := p
              cases r' with
              | none => exact hf.elim
              | some q =>
                obtain ⟨qi, qv⟩ := q
                exact ⟨_, by simp only [Sem.run_bind, hck, hr', Result.andThen_ok, Sem.run_pure], fin pv true qv hf.2.2.2.1⟩
          rcases mapOf_ok hk hm hx with ⟨rfl, rfl⟩ | ⟨id, B, es, clock, rfl, hl, hB, rfl, hh, hes⟩
          · obtain ⟨z, hz1, hz2⟩ := key #[] ⟨rfl, fun i hi => absurd hi (Nat.not_lt_zero _)⟩
            refine ⟨z, ?_, hz2⟩
            simp only [Instr.lookup, Sem.run_bind, run_underlying hu, Result.andThen_ok, Sem.run_pure]
            simp only [Sem.run_bind] at hz1
            exact hz1
          · obtain ⟨z, hz1, hz2⟩ := key es hes
            refine ⟨z, ?_, hz2⟩
            have hg : (getObj B.b).run P w = .ok (.map es clock) w := by simp [getObj, Sem.run, hh]
            simp only [Instr.lookup, Sem.run_bind, run_underlying hu, Result.andThen_ok, hg, Sem.run_pure]
            simp only [Sem.run_bind] at hz1
            exact hz1
        · cases he
      · cases he
    · cases he
  · cases he

def wMap : AVal → Option Id
  | .map id => some id
  | _ => none

theorem setObj_map {w : World} {r : Nat} {es : Array MapEntry} {cl : Nat} (hr : w.heap[r]? = some (.map es cl)) (es' : Array MapEntry) (cl' : Nat) : (setObj r (.map es' cl')).run P w = .ok () { w with heap := w.heap.setIfInBounds r (.map es' cl') } := by
  simp [setObj, Sem.run, hr]

/-- a map's block written anew. -/
theorem map_write (hk : HOk G h mu nx w) {id : Id} {l l' : List (AVal × AVal)} {B : Base} {es es' : Array MapEntry} {cl cl' : Nat} (hl : lkH h id = some (.mp l)) (hB : mu id = some B) (hh : w.heap[B.b]? = some (.map es cl)) (hes : EntRel (cx G h mu nx w) l' es'.toList) :
    (cx G h mu nx w).Le (cx G (setH h id (.mp l')) mu nx { w with heap := w.heap.setIfInBounds B.b (.map es' cl') }) ∧ HOk G (setH h id (.mp l')) mu nx { w with heap := w.heap.setIfInBounds B.b (.map es' cl') } ∧
      Frame mu w { w with heap := w.heap.setIfInBounds B.b (.map es' cl') } (some id) := by
  have hbs : B.b < w.heap.size := (hk.own id _ B hl hB).1
  have h1 := hk.write (o' := .mp l') hl hB (w' := { w with heap := w.heap.setIfInBounds B.b (.map es' cl') }) (by simp) (fun b hb => by
    show (w.heap.setIfInBounds B.b _)[b]? = _
    rw [Array.getElem?_setIfInBounds_ne (Ne.symm hb)]) ⟨rfl, rfl, rfl, Nat.le_refl _⟩ (fun hLe => by
    refine ⟨es', cl', ?_, by have := hes.1; simpa using this, fun i hi e he => ?_⟩
    · show (w.heap.setIfInBounds B.b _)[B.b]? = _
      rw [Array.getElem?_setIfInBounds_self_of_lt hbs]
    · have := hes.2 i hi e (by simpa using he)
      exact ⟨this.1.mono hLe, this.2.mono hLe⟩)
  refine ⟨h1.1, h1.2, fun b hb hne => ?_⟩
  show (w.heap.setIfInBounds B.b _)[b]? = _
  rw [Array.getElem?_setIfInBounds_ne (Ne.symm (hne id B rfl hB))]

theorem evMapUpd_ok {T : Tab} (hT : TabOK P T) (hk : HOk G h mu nx w) {t : TypeId} {m k v : AVal} {h' : Heap} (he : evMapUpd T h t m k v = some h') {x y z : Value} (hx : Rel (cx G h mu nx w) m x) (hy : Rel (cx G h mu nx w) k y) (hz : Rel (cx G h mu nx w) v z) :
    ∃ w', (Instr.mapUpdate t x y z).run P w = .ok () w' ∧ (cx G h mu nx w).Le (cx G h' mu nx w') ∧ HOk G h' mu nx w' ∧ Frame mu w w' (wMap m) := by
  unfold evMapUpd at he
  split at he
  · rename_i kt et _ _ _ _ id hi
    have hu : P.underlying t = some (.map kt et) := (hT t _ hi).kind
    split at he
    · rename_i l hl
      split at he
      · rename_i hkt
        split at he
        · rename_i r hr
          injection he with he
          subst he
          rcases mapOf_ok hk (m := .map id) (l := l) (by simp only [mapOf, hl]) hx with ⟨rfl, _⟩ | ⟨id', B, es, clock, hid, _, hB, rfl, hh, hes⟩
          · obtain ⟨_, B, _, hxx⟩ := hx; cases hxx
          · injection hid with hid
            subst hid
            have hck := run_check_key hT hkt hy false 9998 w
            obtain ⟨r', hr', hf⟩ := run_findKey hT hkt hy hes hr w
            have hg : (getObj B.b).run P w = .ok (.map es clock) w := by simp [getObj, Sem.run, hh]
            cases r with
            | none =>
              cases r' with
              | some q => exact hf.elim
              | none =>
                have hes' : EntRel (cx G h mu nx w) (l ++ [(normK k, v)]) (es.push { key := y, val := z, born := clock }).toList := by
                  have hlen : es.toList.length = l.length := hes.1
                  refine ⟨by simp [← hlen], fun i hi e he => ?_⟩
                  simp only [Array.toList_push] at he
                  by_cases h1 : i < l.length
                  · rw [List.getElem?_append_left (by omega)] at he
                    rw [List.getElem_append_left h1]
                    exact hes.2 i h1 e he
                  · have h2 : i = l.length := by simp at hi; omega
                    subst h2
                    rw [List.getElem?_append_right (by omega), hlen, Nat.sub_self] at he
                    simp only [List.getElem?_cons_zero, Option.some.injEq] at he
                    subst he
                    simp only [List.getElem_append_right (Nat.le_refl _), Nat.sub_self, List.getElem_cons_zero]
                    exact ⟨normK_rel hy, hz⟩
                obtain ⟨a1, a2, a3⟩ := map_write (cl' := clock + 1) hk hl hB hh hes'
                refine ⟨_, ?_, a1, a2, a3⟩
                simp only [Instr.mapUpdate, Sem.run_bind, run_underlying hu, Result.andThen_ok, hg, hck, hr']
                exact setObj_map hh _ _
            | some p =>
              obtain ⟨pi, pv⟩ := p
              cases r' with
              | none => exact hf.elim
              | some q =>
                obtain ⟨qi, qv⟩ := q
                obtain ⟨rfl, _, hlt, _, a, ha, hka⟩ := hf
                simp only [Nat.sub_zero] at hlt ha
                have hlen : es.toList.length = l.length := hes.1
                have hqs : qi < es.size := by have : es.toList.length = es.size := Array.length_toList; omega
                have hent := hes.2 qi hlt es[qi] (by simp [hqs])
                have hae : l[qi].1 = a := by
                  simp only [List.getElem?_map, List.getElem?_eq_getElem hlt, Option.map_some, Option.some.injEq] at ha
                  exact ha
                have hbits : Instr.sameBits 10000 es[qi].key y = true := kEq_same hka hkt hy (by rw [← hae]; exact hent.1)
                have hes' : EntRel (cx G h mu nx w) (l.set qi (normK k, v)) (es.modify qi fun e => { e with key := y, val := z }).toList := by
                  refine ⟨by simp [hlen] , fun i hi e he => ?_⟩
                  simp only [List.length_set] at hi
                  have hi' : i < es.size := by have : es.toList.length = es.size := Array.length_toList; omega
                  simp only [Array.getElem?_toList, Array.getElem?_modify] at he
                  by_cases h1 : qi = i
                  · subst h1
                    simp only [if_true, Array.getElem?_eq_getElem hi', Option.map_some, Option.some.injEq] at he
                    subst he
                    simp only [List.getElem_set_self]
                    exact ⟨normK_rel hy, hz⟩
                  · simp only [if_neg h1] at he
                    rw [List.getElem_set_ne h1]
                    exact hes.2 i hi e (by simpa using he)
                obtain ⟨a1, a2, a3⟩ := map_write (cl' := clock) hk hl hB hh hes'
                refine ⟨_, ?_, a1, a2, a3⟩
                have hks : (Instr.keyThatStays (((es[qi]?).map (·.key)).getD y) y).run P w = .ok y w := by
                  simp only [Array.getElem?_eq_getElem hqs, Option.map_some, Option.getD_some, Instr.keyThatStays, hbits, if_true, Sem.run_pure]
                simp only [Instr.mapUpdate, Sem.run_bind, run_underlying hu, Result.andThen_ok, hg, hck, hr', hks]
                exact setObj_map hh _ _
        · cases he
      · cases he
    · cases he
  · cases he

theorem evClear_ok (hk : HOk G h mu nx w) {m : AVal} {h' : Heap} (he : evClear h m = some h') {t ty : TypeId} {d : TypeDesc} (hu : P.underlying t = some d) {x : Value} (hx : Rel (cx G h mu nx w) m x) :
    ∃ w', (Builtin.clear_ #[t] ty #[x]).run P w = .ok (.tuple #[]) w' ∧ (cx G h mu nx w).Le (cx G h' mu nx w') ∧ HOk G h' mu nx w' ∧ Frame mu w w' (wMap m) := by
  unfold evClear at he
  split at he
  · rename_i id
    split at he
    · rename_i l hl
      injection he with he
      subst he
      rcases mapOf_ok hk (m := .map id) (l := l) (by simp only [mapOf, hl]) hx with ⟨rfl, _⟩ | ⟨id', B, es, clock, hid, _, hB, rfl, hh, hes⟩
      · obtain ⟨_, B, _, hxx⟩ := hx; cases hxx
      · injection hid with hid
        subst hid
        obtain ⟨a1, a2, a3⟩ := map_write (l' := []) (es' := #[]) (cl' := clock) hk hl hB hh ⟨rfl, fun i hi => absurd hi (Nat.not_lt_zero _)⟩
        refine ⟨_, ?_, a1, a2, a3⟩
        have hg : (getObj B.b).run P w = .ok (.map es clock) w := by simp [getObj, Sem.run, hh]
        have hs := setObj_map (P := P) hh #[] clock
        simp [Builtin.clear_, run_underlying hu, hg, hs]
    · cases he
  · cases he

theorem evMakeMap_ok (hk : HOk G h mu nx w) {t : TypeId} : Good P G h mu nx w (Instr.makeMap t none) (.map (nx, 0)) ((nx, .one (.mp [])) :: h) (nx + 1) none := by
  have hLe := cx_alloc (G := G) (h := h) (mu := mu) (nx := nx) (w := w) (.mp []) (.map #[] 0) ⟨w.heap.size, 0, 0, 0⟩ rfl
  refine ⟨.map (some w.heap.size), w.alloc (.map #[] 0), upd mu (nx, 0) (some ⟨w.heap.size, 0, 0, 0⟩), by simp [Instr.makeMap], hLe, ?_, ⟨Nat.lt_succ_self _, ⟨w.heap.size, 0, 0, 0⟩, by simp [cx], rfl⟩, fun b hb _ => Below.heap_alloc w _ b hb⟩
  refine hk.step hLe (nx, 0) (.mp []) (Nat.lt_succ_self _) (fun _ => ?_) (fun B hB => ?_) (fun id o ho => ?_) (hk.kept.alloc _)
  · rw [upd_same]
    exact ⟨#[], 0, heap_new w _, rfl, fun i hi => absurd hi (Nat.not_lt_zero _)⟩
  · rw [upd_same] at hB
    injection hB with hB
    subst hB
    refine ⟨by simp, .inl hk.kept.size, fun hO => ?_⟩
    have h1 := hk.out _ hO
    have h2 := hk.kept.size
    simp only at h1
    omega
  · rw [lkH_cons_one] at ho
    by_cases h1 : id = (nx, 0)
    · rw [if_pos h1] at ho
      injection ho with ho
      exact .inl ⟨h1, ho.symm⟩
    · rw [if_neg h1] at ho
      by_cases h2 : id.1 = nx
      · rw [if_pos h2] at ho; cases ho
      · rw [if_neg h2] at ho
        refine .inr ⟨h1, ho, fun B hB => ?_⟩
        have hbs := (hk.own id o B ho hB).1
        refine ⟨Below.heap_alloc w _ B.b hbs, fun B0 hB0 => ?_⟩
        rw [upd_same] at hB0
        injection hB0 with hB0
        subst hB0
        exact Nat.ne_of_lt hbs
end
end Go.Lift
