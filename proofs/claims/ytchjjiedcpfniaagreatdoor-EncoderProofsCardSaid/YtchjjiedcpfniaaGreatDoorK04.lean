/- Parts of the proof: LJM. -/
import Derived.TacticsIn
import Derived.LoopIn
import Derived.Deep.LoopGhost
import Derived.Test.YtchjjiedcpfniaaGreatDoorK03
namespace Go.Lift
set_option linter.unusedSimpArgs false
set_option linter.unusedVariables false
open Go.RowKit
def plainT (T : Tab) (t : TypeId) : Bool := match T t with
  | some i => match i.k with
    | .int _ => true
    | .bool => true
    | .str => true
    | _ => false
  | none => false
def keyT (T : Tab) (kt : TypeId) : AVal → Bool
  | .agg n _ => match T kt with
    | some i => match i.k with
      | .struct l => i.eq && i.size == n && l.map (·.1) == List.range n && l.all (fun p => plainT T p.2)
      | _ => false
    | none => false
  | .int .. => plainT T kt
  | .bool _ => plainT T kt
  | .str _ => plainT T kt
  | _ => false
def kEq (T : Tab) (kt : TypeId) (a b : AVal) : Option Bool := match a, b with
  | .agg n f, .agg m g => if n = m then evEqA T kt n f g else none
  | .agg .., _ => none
  | _, .agg .. => none
  | a, b => eqC T kt a b
def luK (T : Tab) (kt : TypeId) : List (AVal × AVal) → Nat → AVal → Option (Option (Nat × AVal))
  | [], _, _ => some none
  | (a, v) :: l, i, k => match kEq T kt k a with
    | some true => some (some (i, v))
    | some false => luK T kt l (i + 1) k
    | none => none
def mapOf (h : Heap) : AVal → Option (List (AVal × AVal))
  | .map id => match lkH h id with
    | some (.mp l) => some l
    | some (.mi _ l) => some l
    | _ => none
  | .nilmap => some []
  | _ => none
def lkV (r : Option (Nat × AVal)) (z : AVal) : AVal := (r.map (·.2)).getD z
def evLookup (T : Tab) (h : Heap) (t : TypeId) (m k : AVal) (ok : Bool) : Option AVal :=
  match T t with
  | some ⟨.map kt et, _, _, _, _⟩ => match T et, mapOf h m with
    | some ei, some l => if keyT T kt k then match luK T kt l 0 k with
      | some r => some (if ok then .tup 2 (fun j => match j with
          | 0 => lkV r (mkL ei ei.zero)
          | _ => .bool r.isSome) else lkV r (mkL ei ei.zero))
      | none => none else none
    | _, _ => none
  | _ => none
def putK (l : List (AVal × AVal)) (r : Option (Nat × AVal)) (k v : AVal) : List (AVal × AVal) := match r with
  | some (i, _) => l.set i (k, v)
  | none => l ++ [(k, v)]
def aggL (l : List AVal) : AVal := .agg l.length (fun j => l.getD j .any)
def normK : AVal → AVal
  | .agg n f => aggL ((List.range n).map f)
  | v => v
theorem normK_rel {c : Cx} {v : AVal} {x : Value} (h : Rel c v x) : Rel c (normK v) x := by
  cases v with
  | agg n f =>
    obtain ⟨cs, hx, hn, hc⟩ := h
    refine ⟨cs, hx, by simpa using hn, fun j hj => ?_⟩
    have hj' : j < n := by simpa using hj
    have : ((List.range n).map f).getD j .any = f j := by simp [List.getD, hj']
    show Rel c (((List.range n).map f).getD j .any) _
    rw [this]
    exact hc j hj'
  | _ => exact h
def evMapUpd (T : Tab) (h : Heap) (t : TypeId) (m k v : AVal) : Option Heap :=
  match T t, m with
  | some ⟨.map kt _, _, _, _, _⟩, .map id => match lkH h id with
    | some (.mp l) => if keyT T kt k then match luK T kt l 0 k with
      | some r => some (setH h id (.mp (putK l r (normK k) v)))
      | none => none else none
    | _ => none
  | _, _ => none
def evClear (h : Heap) : AVal → Option Heap
  | .map id => match lkH h id with
    | some (.mp _) => some (setH h id (.mp []))
    | _ => none
  | _ => none
def clr (f : Nat → Nat → AVal) (lo n : Nat) (z : Nat → AVal) : Nat → Nat → AVal := fun i j => if lo ≤ i ∧ i < lo + n then z j else f i j
def evClearS (T : Tab) (h : Heap) (t : TypeId) (x : AVal) : Option (Heap × Prop) :=
  match T t with
  | some ⟨.slice e, _, _, _, _⟩ => match T e, x with
    | some ei, .sl id lo n => match lkH h id with
      | some (.arr N s f) => if s = ei.size then some (setH h id (.arr N s (clr f lo n ei.zero)), lo + n ≤ N) else none
      | _ => none
    | _, _ => none
  | _ => none
section
variable {P : Program} {G : Gh} {h : Heap} {mu : Id → Option Base} {nx : Nat} {w : World}
theorem plainT_spec {T : Tab} (hT : TabOK P T) {t : TypeId} (hp : plainT T t = true) : ∃ d, P.underlying t = some d ∧ (d = .bool ∨ d = .string ∨ ∃ k, d = .int k) ∧ ∀ w, (isAgg t).run P w = .ok false w := by
  unfold plainT at hp
  split at hp
  · rename_i i hi
    have hk := (hT t i hi).kind
    have hagg := fun w => (hT t i hi).run_isAgg w
    split at hp
    · rename_i k hik; rw [hik] at hk hagg; exact ⟨_, hk, .inr (.inr ⟨_, rfl⟩), hagg⟩
    · rename_i hik; rw [hik] at hk hagg; exact ⟨_, hk, .inl rfl, hagg⟩
    · rename_i hik; rw [hik] at hk hagg; exact ⟨_, hk, .inr (.inl rfl), hagg⟩
    · cases hp
  · cases hp
theorem run_check_plain {T : Tab} (hT : TabOK P T) {t : TypeId} (hp : plainT T t = true) (em : Bool) (n : Nat) (v : Value) (w : World) : (Instr.checkKey em (n + 1) t v).run P w = .ok () w := by
  obtain ⟨d, hd, hk, _⟩ := plainT_spec hT hp
  unfold Instr.checkKey
  simp only [Sem.run_bind, run_underlying hd, Result.andThen_ok]
  rcases hk with rfl | rfl | ⟨k, rfl⟩ <;> rfl
theorem run_check_key {T : Tab} (hT : TabOK P T) {kt : TypeId} {k : AVal} (hp : keyT T kt k = true) {x : Value} {c : Cx} (hr : Rel c k x) (em : Bool) (n : Nat) (w : World) : (Instr.checkKey em (n + 2) kt x).run P w = .ok () w := by
  cases k with
  | agg m f =>
    simp only [keyT] at hp
    split at hp
    · rename_i i hi
      split at hp
      · rename_i l hik
        simp only [Bool.and_eq_true, beq_iff_eq, List.all_eq_true] at hp
        obtain ⟨⟨⟨h1, h2⟩, h3⟩, h4⟩ := hp
        have he := (hT kt i hi).eqv h1 l hik
        obtain ⟨cs, rfl, hcn, _⟩ := hr
        unfold Instr.checkKey
        simp only [Sem.run_bind, run_underlying he.und, Result.andThen_ok]
        rw [← Array.forIn_toList]
        have hfs : ∀ q ∈ (P.fieldsOf kt).toList, q.name ≠ "_" ∧ q.offset < m ∧ plainT T q.type = true := fun q hq => by
          have hm : (q.offset, q.type) ∈ l := by rw [← he.fields]; exact List.mem_map.2 ⟨q, hq, rfl⟩
          refine ⟨he.names q hq, ?_, h4 _ hm⟩
          have : q.offset ∈ l.map (·.1) := List.mem_map.2 ⟨_, hm, rfl⟩
          rw [h3] at this
          simpa using this
        generalize (P.fieldsOf kt).toList = fs at hfs
        induction fs with
        | nil => simp
        | cons q fs ih =>
          obtain ⟨q1, q2, q3⟩ := hfs q (by simp)
          obtain ⟨d, _, _, hagg⟩ := plainT_spec hT q3
          have hq1 : q.offset < cs.size := by omega
          have hpart : (part q.type cs q.offset).run P w = .ok (cs.getD q.offset undef) w := by simp [part, hagg w, hq1, Array.getD]
          have hck := run_check_plain hT q3 em n (cs.getD q.offset undef) w
          have ih' := ih (fun z hz => hfs z (by simp [hz]))
          simp only [List.forIn_cons, q1, ne_eq, not_false_eq_true, if_true, Sem.run_bind, hpart, Result.andThen_ok, hck, Sem.run_pure]
          exact ih'
      · cases hp
    · cases hp
  | int => exact run_check_plain hT hp em (n + 1) x w
  | bool => exact run_check_plain hT hp em (n + 1) x w
  | str => exact run_check_plain hT hp em (n + 1) x w
  | _ => simp [keyT] at hp
theorem eqC_val {T : Tab} {ft : TypeId} {a b : AVal} (h : eqC T ft a b = some true) : a = b ∧ ((∃ k n, a = .int k n) ∨ (∃ s, a = .str s) ∨ ∃ p, a = .bool p) := by
  unfold eqC at h
  split at h
  · split at h
    · split at h
      · rename_i hkk
        simp only [Option.some.injEq, decide_eq_true_eq] at h
        subst hkk h
        exact ⟨rfl, .inl ⟨_, _, rfl⟩⟩
      · cases h
    · simp only [Option.some.injEq, decide_eq_true_eq] at h
      subst h
      exact ⟨rfl, .inr (.inl ⟨_, rfl⟩)⟩
    · simp only [Option.some.injEq, beq_iff_eq] at h
      subst h
      exact ⟨rfl, .inr (.inr ⟨_, rfl⟩)⟩
    · cases h
  · cases h
theorem eqL_val {T : Tab} {f g : Nat → AVal} : ∀ {l : List (Nat × TypeId)}, eqL T l f g = some true → ∀ p ∈ l, f p.1 = g p.1 ∧ ((∃ k n, f p.1 = .int k n) ∨ (∃ s, f p.1 = .str s) ∨ ∃ q, f p.1 = .bool q)
  | [], _, p, hp => by cases hp
  | (o, ft) :: r, h, p, hp => by
    simp only [eqL] at h
    split at h
    · rename_i a b h1 h2
      simp only [Option.some.injEq, Bool.and_eq_true] at h
      obtain ⟨rfl, rfl⟩ := h
      cases hp with
      | head => exact eqC_val h1
      | tail _ hp => exact eqL_val h2 p hp
    · cases h
theorem rel_det {c c' : Cx} {a : AVal} (ha : (∃ k n, a = .int k n) ∨ (∃ s, a = .str s) ∨ ∃ q, a = .bool q) {x y : Value} (hx : Rel c a x) (hy : Rel c' a y) : x = y ∧ ((∃ k n, x = .int k n) ∨ (∃ s, x = .string s) ∨ ∃ q, x = .bool q) := by
  rcases ha with ⟨k, n, rfl⟩ | ⟨s, rfl⟩ | ⟨q, rfl⟩ <;> simp only [Rel] at hx hy <;> subst hx hy
  · exact ⟨rfl, .inl ⟨_, _, rfl⟩⟩
  · exact ⟨rfl, .inr (.inl ⟨_, rfl⟩)⟩
  · exact ⟨rfl, .inr (.inr ⟨_, rfl⟩)⟩
theorem sameBits_plain {x : Value} (h : (∃ k n, x = .int k n) ∨ (∃ s, x = .string s) ∨ ∃ q, x = .bool q) (n : Nat) : Instr.sameBits n x x = true := by
  rcases h with ⟨k, m, rfl⟩ | ⟨s, rfl⟩ | ⟨q, rfl⟩ <;> cases n <;> simp [Instr.sameBits, beq_toListBytes]
theorem kEq_same {T : Tab} {kt : TypeId} {a b : AVal} (h : kEq T kt a b = some true) (hp : keyT T kt a = true) {c c' : Cx} {x y : Value} (hx : Rel c a x) (hy : Rel c' b y) : Instr.sameBits 10000 y x = true := by
  unfold kEq at h
  split at h
  · rename_i n f m g
    split at h
    · rename_i hnm
      subst hnm
      unfold evEqA at h
      split at h
      · rename_i i hi
        split at h
        · rename_i l hik
          split at h
          · obtain ⟨cs, rfl, hcn, hcr⟩ := hx
            obtain ⟨ds, rfl, hdn, hdr⟩ := hy
            simp only [keyT, hi, hik, Bool.and_eq_true, beq_iff_eq] at hp
            obtain ⟨⟨_, h3⟩, _⟩ := hp
            have hall : ∀ j, j < n → cs.getD j undef = ds.getD j undef ∧ ((∃ k n, cs.getD j undef = .int k n) ∨ (∃ s, cs.getD j undef = .string s) ∨ ∃ q, cs.getD j undef = .bool q) := fun j hj => by
              have : j ∈ l.map (·.1) := by rw [h3]; simpa using hj
              obtain ⟨p, hp1, hp2⟩ := List.mem_map.1 this
              obtain ⟨e1, e2⟩ := eqL_val h p hp1
              rw [hp2] at e1 e2
              have h5 := hcr j hj
              have h6 := hdr j hj
              rw [← e1] at h6
              exact rel_det e2 h5 h6
            have hcd : cs = ds := by
              apply Array.ext (by omega)
              intro j h1 h2
              have := (hall j (by omega)).1
              simpa [Array.getD, h1, h2] using this
            subst hcd
            show Instr.sameBits (9999 + 1) _ _ = true
            simp only [Instr.sameBits, beq_self_eq_true, Bool.true_and, List.all_eq_true]
            rintro ⟨x1, x2⟩ hz
            obtain ⟨j, hj, hje⟩ := List.mem_iff_getElem.1 hz
            simp only [List.length_zip, Array.length_toList, Nat.min_self] at hj
            simp only [List.getElem_zip, Array.getElem_toList, Prod.mk.injEq] at hje
            obtain ⟨rfl, rfl⟩ := hje
            have := (hall j (by omega)).2
            simp only [Array.getD, hj, dite_true] at this
            exact sameBits_plain this 9999
          · cases h
        · cases h
      · cases h
    · cases h
  · cases h
  · cases h
  · obtain ⟨rfl, hpl⟩ := eqC_val h
    obtain ⟨rfl, hv⟩ := rel_det hpl hx hy
    exact sameBits_plain hv _
def EntRel (c : Cx) (l : List (AVal × AVal)) (es : List MapEntry) : Prop := es.length = l.length ∧ ∀ i (hi : i < l.length) e, es[i]? = some e → Rel c l[i].1 e.key ∧ Rel c l[i].2 e.val
def FoundRel (c : Cx) (l : List (AVal × AVal)) (n0 : Nat) (k : AVal) (T : Tab) (kt : TypeId) : Option (Nat × AVal) → Option (Nat × Value) → Prop
  | none, none => True
  | some (i, v), some (i', x) => i' = i ∧ n0 ≤ i ∧ i - n0 < l.length ∧ Rel c v x ∧ ∃ a, (l.map (·.1))[i - n0]? = some a ∧ kEq T kt k a = some true
  | _, _ => False
theorem FoundRel.cons {c : Cx} {p : AVal × AVal} {l : List (AVal × AVal)} {n0 : Nat} {k : AVal} {T : Tab} {kt : TypeId} : ∀ {r : Option (Nat × AVal)} {r' : Option (Nat × Value)}, FoundRel c l (n0 + 1) k T kt r r' → FoundRel c (p :: l) n0 k T kt r r'
  | none, none, _ => trivial
  | some (i, v), some (i', x), ⟨h1, h2, h3, h4, a, h5, h6⟩ => ⟨h1, by omega, by simp only [List.length_cons]; omega, h4, a, by
      rw [show i - n0 = (i - (n0 + 1)) + 1 by omega]
      simpa using h5, h6⟩
  | none, some _, h => h.elim
  | some _, none, h => h.elim
theorem find_agg {T : Tab} (hT : TabOK P T) {kt : TypeId} {n : Nat} {f : Nat → AVal} {c : Cx} {cs : Array Value} (hcn : cs.size = n) (hcr : ∀ j, j < n → Rel c (f j) (cs.getD j undef)) (w : World) :
    ∀ (l : List (AVal × AVal)) (es : List MapEntry) (i : Nat) (r : Option (Nat × AVal)), EntRel c l es → luK T kt l i (.agg n f) = some r →
      ∃ r', (Instr.findAsking kt (.agg cs) es i).run P w = .ok r' w ∧ FoundRel c l i (.agg n f) T kt r r'
  | [], es, i, r, he, hl => by
    simp only [luK, Option.some.injEq] at hl
    subst hl
    have : es = [] := List.eq_nil_of_length_eq_zero he.1
    subst this
    exact ⟨none, by simp [Instr.findAsking], trivial⟩
  | (a, v) :: l, [], i, r, he, _ => by have := he.1; simp at this
  | (a, v) :: l, e :: es, i, r, he, hl => by
    have h0 := he.2 0 (by simp) e rfl
    simp only [List.getElem_cons_zero] at h0
    have he' : EntRel c l es := ⟨by have := he.1; simpa using this, fun j hj e' hje => by
      have := he.2 (j + 1) (by simp only [List.length_cons]; omega) e' (by simpa using hje)
      simpa using this⟩
    simp only [luK] at hl
    have hk : ∀ b, kEq T kt (.agg n f) a = some b → (Op.equal kt (.agg cs) e.key).run P w = .ok b w := fun b hb => by
      cases a with
      | agg m g =>
        simp only [kEq] at hb
        by_cases hnm : n = m
        · rw [if_pos hnm] at hb
          subst hnm
          obtain ⟨ds, hds, hdn, hdr⟩ := h0.1
          rw [hds]
          exact (evEqA_ok hT hb hcr hdr hcn hdn w).1
        · rw [if_neg hnm] at hb; cases hb
      | _ => simp [kEq] at hb
    split at hl
    · rename_i hb
      injection hl with hl
      subst hl
      refine ⟨some (i, e.val), ?_, rfl, Nat.le_refl _, by simp, h0.2, a, by simp, hb⟩
      simp [Instr.findAsking, hk true hb]
    · rename_i hb
      obtain ⟨r', hr', hf⟩ := find_agg hT hcn hcr w l es (i + 1) r he' hl
      exact ⟨r', by simp only [Instr.findAsking, Sem.run_bind, hk false hb, Result.andThen_ok, Bool.false_eq_true, if_false]; exact hr', hf.cons⟩
    · cases hl
theorem eqC_now {T : Tab} (hT : TabOK P T) {kt : TypeId} {a b : AVal} {r : Bool} (h : eqC T kt a b = some r) {x y : Value} {c : Cx} (ha : Rel c a x) (hb : Rel c b y) : ∃ d, P.underlying kt = some d ∧ Instr.sameNow d x y = some r := by
  unfold eqC at h
  split at h
  · rename_i i hi
    have hk := (hT kt i hi).kind
    split at h
    · rename_i k0 k p k' q hki
      rw [hki] at hk
      split at h
      · rename_i hkk
        subst hkk
        injection h with h
        simp only [Rel] at ha hb
        subst ha hb h
        exact ⟨_, hk, by simp [Instr.sameNow, beq_dec]⟩
      · cases h
    · rename_i p q hki
      rw [hki] at hk
      injection h with h
      simp only [Rel] at ha hb
      subst ha hb h
      refine ⟨_, hk, ?_⟩
      simp only [Instr.sameNow, Option.some.injEq]
      rw [beq_toListBytes, toList_mk, toList_mk, beq_dec]
    · rename_i p q hki
      rw [hki] at hk
      injection h with h
      simp only [Rel] at ha hb
      subst ha hb h
      exact ⟨_, hk, by simp [Instr.sameNow]⟩
    · cases h
  · cases h
theorem find_plain {T : Tab} (hT : TabOK P T) {kt : TypeId} {d : TypeDesc} (hd : P.underlying kt = some d) {k : AVal} (hne : ∀ n f, k ≠ .agg n f) {x : Value} {c : Cx} (hx : Rel c k x) :
    ∀ (l : List (AVal × AVal)) (es : List MapEntry) (i : Nat) (r : Option (Nat × AVal)), EntRel c l es → luK T kt l i k = some r → ∃ r', Instr.findNow d x es i = some r' ∧ FoundRel c l i k T kt r r'
  | [], es, i, r, he, hl => by
    simp only [luK, Option.some.injEq] at hl
    subst hl
    have : es = [] := List.eq_nil_of_length_eq_zero he.1
    subst this
    exact ⟨none, rfl, trivial⟩
  | (a, v) :: l, [], i, r, he, _ => by have := he.1; simp at this
  | (a, v) :: l, e :: es, i, r, he, hl => by
    have h0 := he.2 0 (by simp) e rfl
    simp only [List.getElem_cons_zero] at h0
    have he' : EntRel c l es := ⟨by have := he.1; simpa using this, fun j hj e' hje => by
      have := he.2 (j + 1) (by simp only [List.length_cons]; omega) e' (by simpa using hje)
      simpa using this⟩
    simp only [luK] at hl
    have hk : ∀ b, kEq T kt k a = some b → Instr.sameNow d x e.key = some b := fun b hb => by
      unfold kEq at hb
      split at hb
      · exact absurd rfl (hne _ _)
      · exact absurd rfl (hne _ _)
      · cases hb
      · obtain ⟨d', hd', h1⟩ := eqC_now hT hb hx h0.1
        rw [hd] at hd'
        injection hd' with hd'
        subst hd'
        exact h1
    split at hl
    · rename_i hb
      injection hl with hl
      subst hl
      exact ⟨some (i, e.val), by simp only [Instr.findNow, hk true hb], rfl, Nat.le_refl _, by simp, h0.2, a, by simp, hb⟩
    · rename_i hb
      obtain ⟨r', hr', hf⟩ := find_plain hT hd hne hx l es (i + 1) r he' hl
      exact ⟨r', by simp only [Instr.findNow, hk false hb]; exact hr', hf.cons⟩
    · cases hl
theorem run_findKey {T : Tab} (hT : TabOK P T) {kt : TypeId} {k : AVal} (hp : keyT T kt k = true) {x : Value} {c : Cx} (hx : Rel c k x) {l : List (AVal × AVal)} {es : List MapEntry} (he : EntRel c l es) {r : Option (Nat × AVal)} (hl : luK T kt l 0 k = some r) (w : World) :
    ∃ r', (Instr.findKey kt x es).run P w = .ok r' w ∧ FoundRel c l 0 k T kt r r' := by
  by_cases hag : ∃ n f, k = .agg n f
  · obtain ⟨n, f, rfl⟩ := hag
    simp only [keyT] at hp
    split at hp
    · rename_i i hi
      split at hp
      · rename_i fl hik
        simp only [Bool.and_eq_true, beq_iff_eq] at hp
        have heq := (hT kt i hi).eqv hp.1.1.1 fl hik
        obtain ⟨cs, rfl, hcn, hcr⟩ := hx
        cases es with
        | nil =>
          have : l = [] := List.eq_nil_of_length_eq_zero (by have := he.1; simpa using this.symm)
          subst this
          simp only [luK, Option.some.injEq] at hl
          subst hl
          exact ⟨none, by simp [Instr.findKey, run_underlying heq.und, Instr.findNow], trivial⟩
        | cons e es =>
          obtain ⟨r', hr', hf⟩ := find_agg hT hcn hcr w l (e :: es) 0 r he hl
          refine ⟨r', ?_, hf⟩
          have : Instr.findNow (.struct (P.fieldsOf kt)) (.agg cs) (e :: es) 0 = none := by simp [Instr.findNow, Instr.sameNow]
          simp only [Instr.findKey, Sem.run_bind, run_underlying heq.und, Result.andThen_ok, this]
          exact hr'
      · cases hp
    · cases hp
  · have hne : ∀ n f, k ≠ .agg n f := fun n f h => hag ⟨n, f, h⟩
    have hpl : plainT T kt = true := by
      cases k <;> first | exact hp | (simp [keyT] at hp; done) | exact absurd rfl (hne _ _)
    obtain ⟨d, hd, _, _⟩ := plainT_spec hT hpl
    obtain ⟨r', hr', hf⟩ := find_plain hT hd hne hx l es 0 r he hl
    refine ⟨r', ?_, hf⟩
    simp only [Instr.findKey, Sem.run_bind, run_underlying hd, Result.andThen_ok, hr']
    rfl
theorem zero_rel {T : Tab} (hT : TabOK P T) {t : TypeId} {i : TI} (hi : T t = some i) (c : Cx) : ∃ z, (∀ w, (zeroValue t).run P w = .ok z w) ∧ Rel c (mkL i i.zero) z := by
  obtain ⟨j, z, h1, h2, h3, h4, h5, h6, h7, h8⟩ := (hT t i hi).info
  refine ⟨z, fun w => by simp [zeroValue, typeInfo, h1, h4], ?_⟩
  unfold mkL
  cases hag : i.k.agg with
  | true =>
    have hz := h6 hag
    rw [hz]
    exact ⟨_, rfl, h5, fun m hm => by rw [(h8 m hm).1]; exact ofValue_rel c _⟩
  | false =>
    have hz := h7 hag
    have h1' := (hT t i hi).one hag
    have := (h8 0 (by omega)).1
    simp only
    rw [this, hz]
    exact ofValue_rel c z
theorem mapOf_ok (hk : HOk G h mu nx w) {m : AVal} {l : List (AVal × AVal)} (hm : mapOf h m = some l) {x : Value} (hx : Rel (cx G h mu nx w) m x) :
    (x = .map none ∧ l = []) ∨ ∃ id B es clock, m = .map id ∧ (lkH h id = some (.mp l) ∨ ∃ q, lkH h id = some (.mi q l)) ∧ mu id = some B ∧ x = .map (some B.b) ∧ w.heap[B.b]? = some (.map es clock) ∧ EntRel (cx G h mu nx w) l es.toList ∧ Born es.toList clock := by
  unfold mapOf at hm
  split at hm
  · rename_i id
    split at hm
    · rename_i l' hl
      injection hm with hm
      subst hm
      obtain ⟨_, B, hB, rfl⟩ := hx
      have ho := (hk.obj id _ hl).2
      have hB' : mu id = some B := hB
      rw [hB'] at ho
      obtain ⟨es, clock, hh, hsz, hc, hbn⟩ := ho
      exact .inr ⟨id, B, es, clock, rfl, .inl hl, hB', rfl, hh, ⟨by simpa using hsz, fun i hi e he => hc i hi e (by simpa using he)⟩, hbn⟩
    · rename_i q l' hl
      injection hm with hm
      subst hm
      obtain ⟨_, B, hB, rfl⟩ := hx
      have ho := (hk.obj id _ hl).2
      have hB' : mu id = some B := hB
      rw [hB'] at ho
      obtain ⟨es, clock, hh, hsz, hc, hbn, _⟩ := ho
      exact .inr ⟨id, B, es, clock, rfl, .inr ⟨q, hl⟩, hB', rfl, hh, ⟨by simpa using hsz, fun i hi e he => hc i hi e (by simpa using he)⟩, hbn⟩
    · cases hm
  · injection hm with hm
    simp only [Rel] at hx
    exact .inl ⟨hx, hm.symm⟩
  · cases hm
theorem evLookup_ok {T : Tab} (hT : TabOK P T) (hk : HOk G h mu nx w) {t : TypeId} {m k v : AVal} {ok : Bool} (he : evLookup T h t m k ok = some v) {x y : Value} (hx : Rel (cx G h mu nx w) m x) (hy : Rel (cx G h mu nx w) k y) :
    ∃ z, (Instr.lookup t x y ok).run P w = .ok z w ∧ Rel (cx G h mu nx w) v z := by
  unfold evLookup at he
  split at he
  · rename_i kt et _ _ _ _ hi
    have hu : P.underlying t = some (.map kt et) := (hT t _ hi).kind
    split at he
    · rename_i ei l hei hm
      split at he
      · rename_i hkt
        split at he
        · rename_i r hr
          injection he with he
          subst he
          obtain ⟨zv, hz, hzr⟩ := zero_rel hT hei (cx G h mu nx w)
          have key : ∀ (es : Array MapEntry), EntRel (cx G h mu nx w) l es.toList → ∃ z, ((do
              Instr.checkKey es.isEmpty 10000 kt y
              let (v, ok') ← match ← Instr.findKey kt y es.toList with
                | some (_, v) => pure (v, true)
                | none => pure (← zeroValue et, false)
              pure (if ok then .tuple #[v, .bool ok'] else v)) : Sem Value).run P w = .ok z w ∧ Rel (cx G h mu nx w) (if ok then .tup 2 (fun j => match j with
                | 0 => lkV r (mkL ei ei.zero)
                | _ => .bool r.isSome) else lkV r (mkL ei ei.zero)) z := fun es hes => by
            have hck := run_check_key hT hkt hy es.isEmpty 9998 w
            obtain ⟨r', hr', hf⟩ := run_findKey hT hkt hy hes hr w
            have fin : ∀ (v : AVal) (b : Bool) (z : Value), Rel (cx G h mu nx w) v z → Rel (cx G h mu nx w) (if ok then .tup 2 (fun j => match j with
                | 0 => v
                | _ => .bool b) else v) (if ok then .tuple #[z, .bool b] else z) := fun v b z hvz => by
              cases ok with
              | true => exact ⟨_, rfl, rfl, fun j hj => by
                  match j, hj with
                  | 0, _ => exact hvz
                  | 1, _ => rfl⟩
              | false => exact hvz
            cases r with
            | none =>
              cases r' with
              | some q => exact hf.elim
              | none => exact ⟨_, by simp only [Sem.run_bind, hck, hr', hz w, Result.andThen_ok, Sem.run_pure], fin _ false zv hzr⟩
            | some p =>
              obtain ⟨pi, pv⟩ := p
              cases r' with
              | none => exact hf.elim
              | some q =>
                obtain ⟨qi, qv⟩ := q
                exact ⟨_, by simp only [Sem.run_bind, hck, hr', Result.andThen_ok, Sem.run_pure], fin pv true qv hf.2.2.2.1⟩
          rcases mapOf_ok hk hm hx with ⟨rfl, rfl⟩ | ⟨id, B, es, clock, rfl, hl, hB, rfl, hh, hes, hbn⟩
          · obtain ⟨z, hz1, hz2⟩ := key #[] ⟨rfl, fun i hi => absurd hi (Nat.not_lt_zero _)⟩
            refine ⟨z, ?_, hz2⟩
            simp only [Instr.lookup, Sem.run_bind, run_underlying hu, Result.andThen_ok, Sem.run_pure]
            simp only [Sem.run_bind] at hz1
            exact hz1
          · obtain ⟨z, hz1, hz2⟩ := key es hes
            refine ⟨z, ?_, hz2⟩
            have hg : (getObj B.b).run P w = .ok (.map es clock) w := by simp [getObj, Sem.run, hh]
            simp only [Instr.lookup, Sem.run_bind, run_underlying hu, Result.andThen_ok, hg, Sem.run_pure]
            simp only [Sem.run_bind] at hz1
            exact hz1
        · cases he
      · cases he
    · cases he
  · cases he
def wMap : AVal → Option Id
  | .map id => some id
  | _ => none
def wClr : AVal → Option Id
  | .map id => some id
  | .sl id _ _ => some id
  | _ => none
omit nx in
theorem wClr_map {h h' : Heap} {m : AVal} (he : evClear h m = some h') : wMap m = wClr m := by
  cases m <;> simp [evClear] at he <;> rfl
theorem Born.nil (c : Nat) : Born [] c := ⟨List.nodup_nil, fun _ h => by cases h⟩
theorem Born.push {es : List MapEntry} {c : Nat} (h : Born es c) {y z : Value} : Born (es ++ [{ key := y, val := z, born := c }]) (c + 1) := by
  refine ⟨?_, fun e he => ?_⟩
  · rw [List.map_append, List.nodup_append]
    refine ⟨h.1, by simp, fun a ha b hb => ?_⟩
    obtain ⟨e, he, rfl⟩ := List.mem_map.1 ha
    simp only [List.map_cons, List.map_nil, List.mem_cons, List.not_mem_nil, or_false] at hb
    have := h.2 e he
    omega
  · rcases List.mem_append.1 he with he | he
    · exact Nat.lt_succ_of_lt (h.2 e he)
    · simp only [List.mem_cons, List.not_mem_nil, or_false] at he
      subst he
      exact Nat.lt_succ_self _
theorem Born.modify {es : Array MapEntry} {c : Nat} (h : Born es.toList c) (i : Nat) (f : MapEntry → MapEntry) (hf : ∀ e, (f e).born = e.born) : Born (es.modify i f).toList c := by
  have hb : (es.modify i f).toList.map (·.born) = es.toList.map (·.born) := by
    apply List.ext_getElem?
    intro k
    simp only [List.getElem?_map, Array.getElem?_toList, Array.getElem?_modify]
    by_cases hk : i = k
    · rw [if_pos hk]; cases es[k]? <;> simp [hf]
    · rw [if_neg hk]
  refine ⟨by rw [hb]; exact h.1, fun e he => ?_⟩
  have : e.born ∈ (es.modify i f).toList.map (·.born) := List.mem_map.2 ⟨e, he, rfl⟩
  rw [hb] at this
  obtain ⟨e', he', h2⟩ := List.mem_map.1 this
  rw [← h2]; exact h.2 e' he'
theorem setObj_map {w : World} {r : Nat} {es : Array MapEntry} {cl : Nat} (hr : w.heap[r]? = some (.map es cl)) (es' : Array MapEntry) (cl' : Nat) : (setObj r (.map es' cl')).run P w = .ok () { w with heap := w.heap.setIfInBounds r (.map es' cl') } := by
  simp [setObj, Sem.run, hr]
theorem map_write (hk : HOk G h mu nx w) {id : Id} {l l' : List (AVal × AVal)} {B : Base} {es es' : Array MapEntry} {cl cl' : Nat} (hl : lkH h id = some (.mp l)) (hB : mu id = some B) (hh : w.heap[B.b]? = some (.map es cl)) (hes : EntRel (cx G h mu nx w) l' es'.toList) (hbn' : Born es'.toList cl') :
    (cx G h mu nx w).Le (cx G (setH h id (.mp l')) mu nx { w with heap := w.heap.setIfInBounds B.b (.map es' cl') }) ∧ HOk G (setH h id (.mp l')) mu nx { w with heap := w.heap.setIfInBounds B.b (.map es' cl') } ∧
      Frame mu w { w with heap := w.heap.setIfInBounds B.b (.map es' cl') } (some id) := by
  have hbs : B.b < w.heap.size := (hk.own id _ B hl hB).1
  have h1 := hk.write (o' := .mp l') hl hB (w' := { w with heap := w.heap.setIfInBounds B.b (.map es' cl') }) (by simp) (fun b hb => by
    show (w.heap.setIfInBounds B.b _)[b]? = _
    rw [Array.getElem?_setIfInBounds_ne (Ne.symm hb)]) ⟨rfl, rfl, rfl, Nat.le_refl _⟩ (fun hLe => by
    refine ⟨es', cl', ?_, by have := hes.1; simpa using this, fun i hi e he => ?_, hbn'⟩
    · show (w.heap.setIfInBounds B.b _)[B.b]? = _
      rw [Array.getElem?_setIfInBounds_self_of_lt hbs]
    · have := hes.2 i hi e (by simpa using he)
      exact ⟨this.1.mono hLe, this.2.mono hLe⟩) (fun cs t h2 => by rw [hh] at h2; cases h2)
  refine ⟨h1.1, h1.2, fun b hb hne => ?_⟩
  show (w.heap.setIfInBounds B.b _)[b]? = _
  rw [Array.getElem?_setIfInBounds_ne (Ne.symm (hne id B rfl hB))]
theorem evMapUpd_ok {T : Tab} (hT : TabOK P T) (hk : HOk G h mu nx w) {t : TypeId} {m k v : AVal} {h' : Heap} (he : evMapUpd T h t m k v = some h') {x y z : Value} (hx : Rel (cx G h mu nx w) m x) (hy : Rel (cx G h mu nx w) k y) (hz : Rel (cx G h mu nx w) v z) :
    ∃ w', (Instr.mapUpdate t x y z).run P w = .ok () w' ∧ (cx G h mu nx w).Le (cx G h' mu nx w') ∧ HOk G h' mu nx w' ∧ Frame mu w w' (wMap m) := by
  unfold evMapUpd at he
  split at he
  · rename_i kt et _ _ _ _ id hi
    have hu : P.underlying t = some (.map kt et) := (hT t _ hi).kind
    split at he
    · rename_i l hl
      split at he
      · rename_i hkt
        split at he
        · rename_i r hr
          injection he with he
          subst he
          rcases mapOf_ok hk (m := .map id) (l := l) (by simp only [mapOf, hl]) hx with ⟨rfl, _⟩ | ⟨id', B, es, clock, hid, _, hB, rfl, hh, hes, hbn⟩
          · obtain ⟨_, B, _, hxx⟩ := hx; cases hxx
          · injection hid with hid
            subst hid
            have hck := run_check_key hT hkt hy false 9998 w
            obtain ⟨r', hr', hf⟩ := run_findKey hT hkt hy hes hr w
            have hg : (getObj B.b).run P w = .ok (.map es clock) w := by simp [getObj, Sem.run, hh]
            cases r with
            | none =>
              cases r' with
              | some q => exact hf.elim
              | none =>
                have hes' : EntRel (cx G h mu nx w) (l ++ [(normK k, v)]) (es.push { key := y, val := z, born := clock }).toList := by
                  have hlen : es.toList.length = l.length := hes.1
                  refine ⟨by simp [← hlen], fun i hi e he => ?_⟩
                  simp only [Array.toList_push] at he
                  by_cases h1 : i < l.length
                  · rw [List.getElem?_append_left (by omega)] at he
                    rw [List.getElem_append_left h1]
                    exact hes.2 i h1 e he
                  · have h2 : i = l.length := by simp at hi; omega
                    subst h2
                    rw [List.getElem?_append_right (by omega), hlen, Nat.sub_self] at he
                    simp only [List.getElem?_cons_zero, Option.some.injEq] at he
                    subst he
                    simp only [List.getElem_append_right (Nat.le_refl _), Nat.sub_self, List.getElem_cons_zero]
                    exact ⟨normK_rel hy, hz⟩
                obtain ⟨a1, a2, a3⟩ := map_write (cl' := clock + 1) hk hl hB hh hes' (by rw [Array.toList_push]; exact hbn.push)
                refine ⟨_, ?_, a1, a2, a3⟩
                simp only [Instr.mapUpdate, Sem.run_bind, run_underlying hu, Result.andThen_ok, hg, hck, hr']
                exact setObj_map hh _ _
            | some p =>
              obtain ⟨pi, pv⟩ := p
              cases r' with
              | none => exact hf.elim
              | some q =>
                obtain ⟨qi, qv⟩ := q
                obtain ⟨rfl, _, hlt, _, a, ha, hka⟩ := hf
                simp only [Nat.sub_zero] at hlt ha
                have hlen : es.toList.length = l.length := hes.1
                have hqs : qi < es.size := by have : es.toList.length = es.size := Array.length_toList; omega
                have hent := hes.2 qi hlt es[qi] (by simp [hqs])
                have hae : l[qi].1 = a := by
                  simp only [List.getElem?_map, List.getElem?_eq_getElem hlt, Option.map_some, Option.some.injEq] at ha
                  exact ha
                have hbits : Instr.sameBits 10000 es[qi].key y = true := kEq_same hka hkt hy (by rw [← hae]; exact hent.1)
                have hes' : EntRel (cx G h mu nx w) (l.set qi (normK k, v)) (es.modify qi fun e => { e with key := y, val := z }).toList := by
                  refine ⟨by simp [hlen] , fun i hi e he => ?_⟩
                  simp only [List.length_set] at hi
                  have hi' : i < es.size := by have : es.toList.length = es.size := Array.length_toList; omega
                  simp only [Array.getElem?_toList, Array.getElem?_modify] at he
                  by_cases h1 : qi = i
                  · subst h1
                    simp only [if_true, Array.getElem?_eq_getElem hi', Option.map_some, Option.some.injEq] at he
                    subst he
                    simp only [List.getElem_set_self]
                    exact ⟨normK_rel hy, hz⟩
                  · simp only [if_neg h1] at he
                    rw [List.getElem_set_ne h1]
                    exact hes.2 i hi e (by simpa using he)
                obtain ⟨a1, a2, a3⟩ := map_write (cl' := clock) hk hl hB hh hes' (hbn.modify _ _ fun _ => rfl)
                refine ⟨_, ?_, a1, a2, a3⟩
                have hks : (Instr.keyThatStays (((es[qi]?).map (·.key)).getD y) y).run P w = .ok y w := by
                  simp only [Array.getElem?_eq_getElem hqs, Option.map_some, Option.getD_some, Instr.keyThatStays, hbits, if_true, Sem.run_pure]
                simp only [Instr.mapUpdate, Sem.run_bind, run_underlying hu, Result.andThen_ok, hg, hck, hr', hks]
                exact setObj_map hh _ _
        · cases he
      · cases he
    · cases he
  · cases he
theorem evClear_ok (hk : HOk G h mu nx w) {m : AVal} {h' : Heap} (he : evClear h m = some h') {t ty : TypeId} {d : TypeDesc} (hu : P.underlying t = some d) {x : Value} (hx : Rel (cx G h mu nx w) m x) :
    ∃ w', (Builtin.clear_ #[t] ty #[x]).run P w = .ok (.tuple #[]) w' ∧ (cx G h mu nx w).Le (cx G h' mu nx w') ∧ HOk G h' mu nx w' ∧ Frame mu w w' (wMap m) := by
  unfold evClear at he
  split at he
  · rename_i id
    split at he
    · rename_i l hl
      injection he with he
      subst he
      rcases mapOf_ok hk (m := .map id) (l := l) (by simp only [mapOf, hl]) hx with ⟨rfl, _⟩ | ⟨id', B, es, clock, hid, _, hB, rfl, hh, hes, hbn⟩
      · obtain ⟨_, B, _, hxx⟩ := hx; cases hxx
      · injection hid with hid
        subst hid
        obtain ⟨a1, a2, a3⟩ := map_write (l' := []) (es' := #[]) (cl' := clock) hk hl hB hh ⟨rfl, fun i hi => absurd hi (Nat.not_lt_zero _)⟩ (Born.nil _)
        refine ⟨_, ?_, a1, a2, a3⟩
        have hg : (getObj B.b).run P w = .ok (.map es clock) w := by simp [getObj, Sem.run, hh]
        have hs := setObj_map (P := P) hh #[] clock
        simp [Builtin.clear_, run_underlying hu, hg, hs]
    · cases he
  · cases he
theorem get_zeroCells (z : Array Value) (n k : Nat) (hk : k < n * z.size) (hz : 0 < z.size) : (Builtin.zeroCells z n)[k]? = some (z.getD (k % z.size) undef) := by
  have := Nat.mod_lt k hz
  simp [Builtin.zeroCells, hk, Array.getD, this]
theorem evClearS_ok {T : Tab} (hT : TabOK P T) (hk : HOk G h mu nx w) {m : AVal} {h' : Heap} {t ty : TypeId} {c : Prop} (he : evClearS T h t m = some (h', c)) (hc : c) {x : Value} (hx : Rel (cx G h mu nx w) m x) :
    ∃ w', (Builtin.clear_ #[t] ty #[x]).run P w = .ok (.tuple #[]) w' ∧ (cx G h mu nx w).Le (cx G h' mu nx w') ∧ HOk G h' mu nx w' ∧ Frame mu w w' (wClr m) := by
  unfold evClearS at he
  split at he
  · rename_i e _ _ _ _ hi
    have ht : P.underlying t = some (.slice e) := (hT t _ hi).kind
    split at he
    · rename_i ei id lo n hei
      split at he
      · rename_i N s f hl
        by_cases hs : s = ei.size
        · rw [if_pos hs] at he
          simp only [Option.some.injEq, Prod.mk.injEq] at he
          obtain ⟨rfl, rfl⟩ := he
          subst hs
          have hte := hT e ei hei
          obtain ⟨ti, z, hti, hjs, hjb, hz, hzs, hzr⟩ := hte.run_info
          obtain ⟨hid, A, cap, rfl, hcap, hA⟩ := hx
          rcases Nat.eq_zero_or_pos n with h0 | h0
          · subst h0
            have hf : clr f lo 0 ei.zero = f := by funext i j; unfold clr; rw [if_neg (by omega)]
            rw [hf]
            have hset : ∀ (h : Heap), lkH h id = some (.arr N ei.size f) → setH h id (.arr N ei.size f) = h := by
              intro h
              induction h with
              | nil => intro h; cases h
              | cons p h ih =>
                obtain ⟨k, en⟩ := p
                intro hl
                by_cases hk : k = id.1
                · simp only [lkH, hk, if_true] at hl
                  simp only [setH, hk, if_true]
                  congr 2
                  obtain ⟨i1, i2⟩ := id
                  cases en with
                  | one p => cases i2 with
                    | zero => simp only [HEnt.get, Option.some.injEq] at hl; simp [HEnt.set, hl]
                    | succ => simp [HEnt.get] at hl
                  | fam p r => cases i2 with
                    | zero => simp only [HEnt.get, Option.some.injEq] at hl; simp [HEnt.set, hl]
                    | succ i =>
                      simp only [HEnt.get] at hl
                      simp only [HEnt.set]
                      congr 1
                      funext j
                      by_cases hj : j = i
                      · rw [if_pos hj, hj, hl]
                      · rw [if_neg hj]
                  | typ t p => cases i2 with
                    | zero => simp only [HEnt.get, Option.some.injEq] at hl; simp [HEnt.set, hl]
                    | succ => simp [HEnt.get] at hl
                · simp only [lkH, hk, if_false] at hl
                  simp only [setH, hk, if_false, ih hl]
            rw [hset h hl]
            refine ⟨w, ?_, Cx.Le.refl _, hk, fun _ _ _ => rfl⟩
            cases A with
            | none => simp [Builtin.clear_, run_underlying ht]
            | some a => simp [Builtin.clear_, run_underlying ht]
          · rcases hA with h00 | ⟨B, hB, rfl, hle0⟩
            · omega
            · have ho := (hk.obj id _ hl).2
              have hB' : mu id = some B := hB
              rw [hB'] at ho
              obtain ⟨hs, cs, Ty, hh, hcsz, hle, hcc⟩ := ho
              have hh' : w.heap[B.b]? = some (.cells cs Ty (0, 0)) := hh
              have hzl : (Builtin.zeroCells z.cells n).toList.length = n * ei.size := by rw [Array.length_toList, size_zeroCells, hzs]
              have hmul : (lo + n) * B.s ≤ N * B.s := Nat.mul_le_mul_right _ hc
              rw [Nat.add_mul] at hmul
              have hle' : B.o + N * B.s ≤ cs.size := by rw [hcsz, hs]; exact hle
              have hone : ∀ v ∈ (Builtin.zeroCells z.cells n).toList, v.oneCell' = true := by
                intro v hv
                obtain ⟨k, hk1, rfl⟩ := List.mem_iff_getElem.1 hv
                have hks : 0 < z.cells.size := by
                  rcases Nat.eq_zero_or_pos z.cells.size with h1 | h1
                  · rw [hzl, ← hzs, h1, Nat.mul_zero] at hk1; omega
                  · exact h1
                have h1 := get_zeroCells z.cells n k (by rw [hzl, ← hzs] at hk1; exact hk1) hks
                rw [Array.getElem_toList]
                have h2 : (Builtin.zeroCells z.cells n)[k]? = some (Builtin.zeroCells z.cells n)[k] := Array.getElem?_eq_getElem _
                rw [h2] at h1
                injection h1 with h1
                rw [h1]
                have h3 := hzr (k % z.cells.size) (by rw [← hzs]; exact Nat.mod_lt _ hks) (cx G h mu nx w)
                exact Rel.one h3.2 h3.1
              have hst := run_storeCells_at P B.b (B.o + lo * B.s) Ty (Builtin.zeroCells z.cells n).toList 0 cs w hh' (by rw [hzl, ← hs]; omega) hone
              generalize hcur : (cs.toList.take (B.o + lo * B.s + 0) ++ (Builtin.zeroCells z.cells n).toList ++ cs.toList.drop (B.o + lo * B.s + 0 + (Builtin.zeroCells z.cells n).toList.length)).toArray = cur at hst
              have hcz : cur.size = cs.size := by
                rw [← hcur]
                simp only [List.size_toArray, List.length_append, List.length_take, List.length_drop, hzl, Array.length_toList]
                rw [← hs]
                omega
              have hin : ∀ k, k < n * ei.size → cur[B.o + lo * B.s + k]? = (Builtin.zeroCells z.cells n)[k]? := fun k hk' => by
                rw [← hcur]
                simp only [List.getElem?_toArray, Nat.add_zero]
                rw [List.getElem?_append_left (by simp only [List.length_append, List.length_take, hzl, Array.length_toList]; rw [← hs] at hk' ⊢; omega), List.getElem?_append_right (by simp only [List.length_take]; omega)]
                simp only [List.length_take, Array.length_toList, Array.getElem?_toList]
                congr 1
                rw [← hs] at hk'
                omega
              have hout : ∀ k, k < B.o + lo * B.s ∨ B.o + lo * B.s + n * ei.size ≤ k → cur[k]? = cs[k]? := fun k hk' => by
                rw [← hcur]
                simp only [List.getElem?_toArray, Nat.add_zero]
                rcases hk' with h1 | h1
                · rw [List.getElem?_append_left (by simp only [List.length_append, List.length_take, hzl, Array.length_toList]; omega), List.getElem?_append_left (by simp only [List.length_take, Array.length_toList]; omega)]
                  simp [List.getElem?_take, h1]
                · rw [List.getElem?_append_right (by simp only [List.length_append, List.length_take, hzl, Array.length_toList]; omega), List.getElem?_drop]
                  simp only [List.length_append, List.length_take, hzl, Array.length_toList, Array.getElem?_toList]
                  congr 1
                  rw [← hs] at h1 ⊢
                  omega
              have hfr : Frame mu w (w.setRow B.b cur) (some id) := fun b _ hne => setRow_other w B.b b cur (hne id B rfl hB')
              refine ⟨w.setRow B.b cur, ?_, ?_⟩
              · have hzv : (zeroValue e).run P w = .ok z w := by simp [zeroValue, typeInfo, hti, hz]
                obtain ⟨n', rfl⟩ : ∃ n', n = n' + 1 := ⟨n - 1, by omega⟩
                simp [Builtin.clear_, run_underlying ht, hzv, hst]
              · refine (fun (h : _ ∧ _) => ⟨h.1, h.2, hfr⟩) ?_
                refine hk.write (o' := .arr N ei.size (clr f lo n ei.zero)) hl hB' (by simp) (fun b hb => setRow_other w B.b b cur hb) ⟨rfl, rfl, rfl, Nat.le_refl _⟩ (fun hLe => ?_) (fun cs2 t2 h2 => by
                  rw [hh'] at h2
                  injection h2 with h2; injection h2 with _ h3 _; subst h3
                  exact ⟨cur, setRow_heap w B.b cs cur Ty (0, 0) hh'⟩)
                refine ⟨hs, cur, Ty, setRow_heap w B.b cs cur Ty (0, 0) hh', hcz.trans hcsz, hle, fun i' hi' j' hj' => ?_⟩
                unfold clr
                by_cases hw : lo ≤ i' ∧ i' < lo + n
                · rw [if_pos hw]
                  have h3 := hzr j' hj' (cx G (setH h id (.arr N ei.size (clr f lo n ei.zero))) mu nx (w.setRow B.b cur))
                  have hm := mul_off (show i' - lo < n by omega) hj'
                  refine ⟨h3.2, _, ?_, h3.1⟩
                  have h4 := hin ((i' - lo) * ei.size + j') hm
                  rw [get_zeroCells z.cells n _ (by rw [hzs]; exact hm) (by rw [hzs]; omega), hzs, Nat.mul_add_mod_of_lt hj'] at h4
                  rw [← h4]
                  congr 1
                  have h5 : (i' - lo) * ei.size + lo * ei.size = i' * ei.size := by rw [← Nat.add_mul]; congr 1; omega
                  rw [hs]
                  omega
                · rw [if_neg hw]
                  obtain ⟨h1, u, hu, hr⟩ := hcc i' hi' j' hj'
                  refine ⟨h1, u, ?_, hr.mono hLe⟩
                  rw [hout _ ?_]
                  · exact hu
                  · rw [hs]
                    by_cases h2 : i' < lo
                    · have := mul_off h2 hj'
                      exact .inl (by omega)
                    · have h6 : (lo + n) * ei.size ≤ i' * ei.size := Nat.mul_le_mul_right _ (by omega)
                      rw [Nat.add_mul] at h6
                      exact .inr (by omega)
        · rw [if_neg hs] at he; cases he
      · cases he
    · cases he
  · cases he
theorem evMakeMap_ok (hk : HOk G h mu nx w) {t : TypeId} : Good P G h mu nx w (Instr.makeMap t none) (.map (nx, 0)) ((nx, .one (.mp [])) :: h) (nx + 1) none := by
  have hLe := cx_alloc (G := G) (h := h) (mu := mu) (nx := nx) (w := w) (.mp []) .one (.map #[] 0) ⟨w.heap.size, 0, 0, 0⟩ rfl
  refine ⟨.map (some w.heap.size), w.alloc (.map #[] 0), upd mu (nx, 0) (some ⟨w.heap.size, 0, 0, 0⟩), by simp [Instr.makeMap], hLe, ?_, ⟨Nat.lt_succ_self _, ⟨w.heap.size, 0, 0, 0⟩, by simp [cx], rfl⟩, fun b hb _ => Below.heap_alloc w _ b hb⟩
  refine hk.step hLe (nx, 0) (.mp []) (Nat.lt_succ_self _) (fun _ => ?_) (fun B hB => ?_) (fun id o ho => ?_) (hk.kept.alloc _) (tyH_one fun _ _ h => h)
  · rw [upd_same]
    exact ⟨#[], 0, heap_new w _, rfl, fun i hi => absurd hi (Nat.not_lt_zero _), Born.nil _⟩
  · rw [upd_same] at hB
    injection hB with hB
    subst hB
    refine ⟨by simp, .inl hk.kept.size, fun hO => ?_⟩
    have h1 := hk.out _ hO
    have h2 := hk.kept.size
    simp only at h1
    omega
  · rw [lkH_cons_one _ _ _ .one] at ho
    by_cases h1 : id = (nx, 0)
    · rw [if_pos h1] at ho
      injection ho with ho
      exact .inl ⟨h1, ho.symm⟩
    · rw [if_neg h1] at ho
      by_cases h2 : id.1 = nx
      · rw [if_pos h2] at ho; cases ho
      · rw [if_neg h2] at ho
        refine .inr ⟨h1, ho, fun B hB => ?_⟩
        have hbs := (hk.own id o B ho hB).1
        refine ⟨Below.heap_alloc w _ B.b hbs, fun B0 hB0 => ?_⟩
        rw [upd_same] at hB0
        injection hB0 with hB0
        subst hB0
        exact Nat.ne_of_lt hbs
end
end Go.Lift
namespace Go.Lift
set_option linter.unusedSimpArgs false
set_option linter.unusedVariables false
open Go.RowKit
structure Ev where
  v : AVal
  h : Heap
  nx : Nat
  c : Prop
def evX (e : Env) : Operand → AVal
  | .tmp t => lk e t
  | .const v => ofValue v
  | .func f => .fn f 0 (fun _ => .any)
  | .global _ => .any
def sv (e : Env) (x : Operand) : AVal := (strip (evX e x)).1
def sc (e : Env) (x : Operand) : Prop := (strip (evX e x)).2
def pickB : AVal → Option (Bool × Prop)
  | .bool y => some (y, True)
  | .opt g (.bool y) => some (y, g = true)
  | _ => none
def evMM (mx : Bool) : AVal → List AVal → Option AVal
  | .int k a, [] => some (.int k a)
  | .int k a, .int _ b :: r => evMM mx (.int k (if mx then max a b else min a b)) r
  | _, _ => none
def partsV (e : Env) (l : List (Nat × Operand)) : List (Nat × AVal) := l.map (fun p => (p.1, sv e p.2))
def partsC (e : Env) : List (Nat × Operand) → Prop
  | [] => True
  | p :: r => sc e p.2 ∧ partsC e r
def argsC (e : Env) : List Operand → Prop
  | [] => True
  | p :: r => sc e p ∧ argsC e r
def evCallB (T : Tab) (e : Env) (h : Heap) (nx : Nat) (b : Builtin) (args : List Operand) (ts : List TypeId) : Option Ev :=
  match b, args, ts with
  | .len, [x], [t] => if lenT T t (sv e x) then match evLen h (sv e x) with
    | some v => some ⟨v, h, nx, sc e x⟩
    | none => none else none
  | .append, [x, y], [t, u] => match evAppend T h nx t u (sv e x) (sv e y) with
    | some (v, h', c) => some ⟨v, h', nx + 1, sc e x ∧ sc e y ∧ c⟩
    | none => none
  | .max, x :: r, _ => match evMM true (sv e x) (r.map (sv e)) with
    | some v => some ⟨v, h, nx, argsC e (x :: r)⟩
    | none => none
  | .min, x :: r, _ => match evMM false (sv e x) (r.map (sv e)) with
    | some v => some ⟨v, h, nx, argsC e (x :: r)⟩
    | none => none
  | .clear, [x], [t] => match T t, evClear h (sv e x) with
    | some _, some h' => some ⟨.any, h', nx, sc e x⟩
    | _, _ => match evClearS T h t (sv e x) with
      | some (h', c) => some ⟨.any, h', nx, sc e x ∧ c⟩
      | none => none
  | .cap, [x], [t] => if sliceT T t then match sv e x with
    | .nils => some ⟨.int .i64 0, h, nx, sc e x⟩
    | _ => none else none
  | .copy, [x, y], [t, _] => match elemT T t with
    | some _ => match sv e x, sv e y with
      | .sl _ _ _, .nils => some ⟨.int .i64 0, h, nx, sc e x ∧ sc e y⟩
      | _, _ => none
    | none => none
  | _, _, _ => none
def isStrT (T : Tab) (t : TypeId) : Bool := match T t with
  | some ⟨.str, _, _, _, _⟩ => true
  | _ => false
def evOp (T : Tab) (e : Env) (h : Heap) (nx : Nat) (op : Op) : Option Ev :=
  match op with
  | .move x => some ⟨evX e x, h, nx, True⟩
  | .assign x => some ⟨evX e x, h, nx, True⟩
  | .pick c a b => match sv e c, pickB (evX e a), pickB (evX e b) with
    | .bool x, some (ya, ga), some (yb, gb) => some ⟨.bool (if x then ya else yb), h, nx, sc e c ∧ (x = true → ga) ∧ (x = false → gb)⟩
    | _, _, _ => none
  | .alloc t => match evAlloc T h nx t with
    | some (v, h') => some ⟨v, h', nx + 1, True⟩
    | none => none
  | .box t x => match evBox T h nx t (sv e x) with
    | some (v, h') => some ⟨v, h', nx + 1, sc e x⟩
    | none => none
  | .load t a => match evLoad T h t (sv e a) with
    | some (v, c) => some ⟨v, h, nx, sc e a ∧ c⟩
    | none => none
  | .store t a x => match evStore T h t (sv e a) (sv e x) with
    | some (h', c) => some ⟨.any, h', nx, sc e a ∧ sc e x ∧ c⟩
    | none => none
  | .fieldAddr t x k => match evFieldAddr T t (sv e x) k with
    | some v => some ⟨v, h, nx, sc e x⟩
    | none => none
  | .field t x k => match evField T t (sv e x) k with
    | some (v, c) => some ⟨v, h, nx, sc e x ∧ c⟩
    | none => none
  | .indexAddr t x ix => match evIndexAddr T h t (sv e x) (sv e ix) with
    | some (v, c) => some ⟨v, h, nx, sc e x ∧ sc e ix ∧ c⟩
    | none => none
  | .index t x ix => if isStrT T t then match evIndex (sv e x) (sv e ix) with
    | some (v, c) => some ⟨v, h, nx, sc e x ∧ sc e ix ∧ c⟩
    | none => none else none
  | .binOp o t x y _ => match evBin o (sv e x) (sv e y) with
    | some (v, c) => some ⟨v, h, nx, sc e x ∧ sc e y ∧ c⟩
    | none => match evEq T o t (sv e x) (sv e y) with
      | some v => some ⟨v, h, nx, sc e x ∧ sc e y⟩
      | none => none
  | .unOp o _ x => match evUn o (sv e x) with
    | some (v, c) => some ⟨v, h, nx, sc e x ∧ c⟩
    | none => none
  | .convert s d x => match evConv T s d (sv e x) with
    | some (v, c) => some ⟨v, h, nx, sc e x ∧ c⟩
    | none => match evBts T s d (sv e x) with
      | some v => some ⟨v, h, nx, sc e x⟩
      | none => none
  | .nilCheck x => match sv e x with
    | .ptr i k o => some ⟨.ptr i k o, h, nx, sc e x⟩
    | .vptr s f o => some ⟨.vptr s f o, h, nx, sc e x⟩
    | .fn g n f => some ⟨.fn g n f, h, nx, sc e x⟩
    | _ => none
  | .extract t i => match sv e t with
    | .tup n f => if i < n then some ⟨f i, h, nx, sc e t⟩ else none
    | _ => none
  | .build t ps => match evBuild T t (partsV e ps.toList) with
    | some v => some ⟨v, h, nx, partsC e ps.toList⟩
    | none => none
  | .buildSlice t n ps => match evBuildSlice T h nx t n (partsV e ps.toList) with
    | some (v, h') => some ⟨v, h', nx + 1, partsC e ps.toList⟩
    | none => none
  | .makeSlice t l c => match evMake T h nx t (sv e l) (sv e c) with
    | some (v, h', c') => some ⟨v, h', nx + 1, sc e l ∧ sc e c ∧ c'⟩
    | none => none
  | .slice t x lo hi none => match evSlice T h t (sv e x) (lo.map (sv e)) (hi.map (sv e)) with
    | some (v, c) => some ⟨v, h, nx, sc e x ∧ argsC e (lo.toList ++ hi.toList) ∧ c⟩
    | none => none
  | .makeFunc (.func g) fs cs => if fs.size = 0 then some ⟨.fn g cs.size (fun j => (cs.toList.map (sv e)).getD j .any), h, nx, argsC e cs.toList⟩ else match fs.toList, cs.toList with
    | [y], [] => some ⟨.bnd g (sv e y), h, nx, sc e y⟩
    | _, _ => none
  | .makeMap _ none => some ⟨.map (nx, 0), (nx, .one (.mp [])) :: h, nx + 1, True⟩
  | .lookup t m k ok => match evLookup T h t (sv e m) (sv e k) ok with
    | some v => some ⟨v, h, nx, sc e m ∧ sc e k⟩
    | none => none
  | .mapUpdate t m k x => match evMapUpd T h t (sv e m) (sv e k) (sv e x) with
    | some h' => some ⟨.any, h', nx, sc e m ∧ sc e k ∧ sc e x⟩
    | none => none
  | .insert t m k x => match evMapUpd T h t (sv e m) (sv e k) (sv e x) with
    | some h' => some ⟨.any, h', nx, sc e m ∧ sc e k ∧ sc e x⟩
    | none => none
  | .call c => match c.callee with
    | .builtin b => evCallB T e h nx b c.args.toList c.argTypes.toList
    | _ => none
  | _ => none
def GoodN (P : Program) (G : Gh) (h : Heap) (mu : Id → Option Base) (nx : Nat) (w : World) (sem : Sem Next) (v : AVal) (h' : Heap) (nx' : Nat) (wid : Option Id) : Prop :=
  ∃ x w' mu', (sem.run P w = .ok (.value x) w' ∨ (sem.run P w = .ok .skip w' ∧ x = undef)) ∧ (cx G h mu nx w).Le (cx G h' mu' nx' w') ∧ HOk G h' mu' nx' w' ∧ Rel (cx G h' mu' nx' w') v x ∧ Frame mu w w' wid
def wOp (e : Env) : Op → Option Id
  | .store _ a _ => wPtr (sv e a)
  | .mapUpdate _ m _ _ => wMap (sv e m)
  | .insert _ m _ _ => wMap (sv e m)
  | .call c => match c.callee, c.args.toList with
    | .builtin .append, x :: _ => wSl (sv e x)
    | .builtin .clear, x :: _ => wClr (sv e x)
    | _, _ => none
  | _ => none
section
variable {P : Program} {w : World} {G : Gh} {h : Heap} {mu : Id → Option Base} {nx : Nat}
theorem GoodN.of {sem : Sem Value} {v : AVal} {h' : Heap} {nx' : Nat} {wid : Option Id} (hg : Good P G h mu nx w sem v h' nx' wid) : GoodN P G h mu nx w (do pure (.value (← sem))) v h' nx' wid := by
  obtain ⟨x, w', mu', hr, h1, h2, h3⟩ := hg
  exact ⟨x, w', mu', .inl (by simp [hr]), h1, h2, h3⟩
theorem GoodN.of_val (hk : HOk G h mu nx w) {sem : Sem Value} {v : AVal} (hg : ∃ z, sem.run P w = .ok z w ∧ Rel (cx G h mu nx w) v z) : GoodN P G h mu nx w (do pure (.value (← sem))) v h nx none := by
  obtain ⟨z, hz, hv⟩ := hg
  exact GoodN.of (Good.pure hk hz hv)
theorem parts_rel {c : Cx} {e : Env} {ρ : Operand → Value} (hρ : ∀ x, Rel c (evX e x) (ρ x)) : ∀ (l : List (Nat × Operand)), partsC e l → PartsRel c (partsV e l) (l.map fun p => (p.1, ρ p.2))
  | [], _ => trivial
  | p :: r, h => ⟨rfl, strip_rel (hρ p.2) h.1, parts_rel hρ r h.2⟩
theorem mm_ok {c : Cx} (mx : Bool) : ∀ (l : List AVal) (xs : List Value) (p v : AVal) (x : Value), l.length = xs.length → (∀ (i : Nat) (a : AVal) (y : Value), l[i]? = some a → xs[i]? = some y → Rel c a y) →
    Rel c p x → evMM mx p l = some v → ∃ z, (xs.foldlM (if mx then Builtin.max2 else Builtin.min2) x).run P w = .ok z w ∧ Rel c v z
  | [], [], p, v, x, _, _, hp, he => by
    cases p <;> simp only [evMM, Option.some.injEq, reduceCtorEq] at he
    subst he
    exact ⟨x, by simp, hp⟩
  | a :: l, y :: xs, p, v, x, hl, hr, hp, he => by
    cases p <;> try (simp [evMM] at he; done)
    cases a <;> simp only [evMM, reduceCtorEq] at he
    rename_i k n k' m
    simp only [Rel] at hp
    subst hp
    have hy := hr 0 _ _ rfl rfl
    simp only [Rel] at hy
    subst hy
    obtain ⟨z, hz, hv⟩ := mm_ok mx l xs (.int k (if mx then max n m else min n m)) v (.int k (if mx then max n m else min n m)) (by simpa using hl) (fun i a y ha hy => hr (i + 1) a y (by simpa using ha) (by simpa using hy)) rfl he
    refine ⟨z, ?_, hv⟩
    cases mx with
    | true =>
      have hmx : (if m > n then m else n) = max n m := by omega
      simp only [if_true] at hz ⊢
      simp only [List.foldlM_cons, Builtin.max2, Sem.run_bind, Sem.run_pure, Result.andThen_ok, hmx]
      exact hz
    | false =>
      have hmn : (if m < n then m else n) = min n m := by omega
      simp only [Bool.false_eq_true, if_false] at hz ⊢
      simp only [List.foldlM_cons, Builtin.min2, Sem.run_bind, Sem.run_pure, Result.andThen_ok, hmn]
      exact hz
  | [], _ :: _, _, _, _, hl, _, _, _ => by simp at hl
  | _ :: _, [], _, _, _, hl, _, _, _ => by simp at hl
theorem argsC_mem {e : Env} : ∀ {l : List Operand}, argsC e l → ∀ x ∈ l, sc e x
  | [], _, x, hx => by cases hx
  | p :: r, h, x, hx => by
    cases hx with
    | head => exact h.1
    | tail _ hx => exact argsC_mem h.2 x hx
theorem evOp_ok {T : Tab} (hT : TabOK P T) (hk : HOk G h mu nx w) {e : Env} {ρ : Operand → Value} (hρ : ∀ x, Rel (cx G h mu nx w) (evX e x) (ρ x)) {o : Oper} {r : Ev} (he : evOp T e h nx o.op = some r) (hc : r.c) :
    GoodN P G h mu nx w (execOp ρ o) r.v r.h r.nx (wOp e o.op) := by
  have hs : ∀ x, sc e x → Rel (cx G h mu nx w) (sv e x) (ρ x) := fun x hx => strip_rel (hρ x) hx
  unfold evOp at he
  unfold execOp
  cases hop : o.op <;> simp only [hop, reduceCtorEq] at he ⊢ <;> try simp only [wOp]
  case move x =>
    injection he with he
    subst he
    exact ⟨ρ x, w, mu, .inl (by simp), Cx.Le.refl _, hk, hρ x, Frame.refl⟩
  case assign x =>
    injection he with he
    subst he
    exact ⟨ρ x, w, mu, .inl (by simp), Cx.Le.refl _, hk, hρ x, Frame.refl⟩
  case pick c a b =>
    split at he
    · rename_i x ya ga yb gb hcx hpa hpb
      injection he with he
      subst he
      obtain ⟨h1, h2, h3⟩ := hc
      have hcr := hs c h1
      rw [hcx] at hcr
      simp only [Rel] at hcr
      have hpk : ∀ (z : Operand) (y : Bool) (g : Prop), pickB (evX e z) = some (y, g) → g → ρ z = .bool y := fun z y g hz hg => by
        have hr := hρ z
        cases hev : evX e z <;> simp only [hev, pickB, Option.some.injEq, Prod.mk.injEq, reduceCtorEq] at hz
        · obtain ⟨rfl, rfl⟩ := hz
          rw [hev] at hr
          exact hr
        · rename_i g' v'
          cases v' <;> simp only [pickB, Option.some.injEq, Prod.mk.injEq, reduceCtorEq] at hz
          obtain ⟨rfl, rfl⟩ := hz
          rw [hev] at hr
          exact hr.1 hg
      cases x with
      | true =>
        have := hpk a ya ga hpa (h2 rfl)
        exact ⟨ρ a, w, mu, .inl (by simp [hcr, asBool]), Cx.Le.refl _, hk, this, Frame.refl⟩
      | false =>
        have := hpk b yb gb hpb (h3 rfl)
        exact ⟨ρ b, w, mu, .inl (by simp [hcr, asBool]), Cx.Le.refl _, hk, this, Frame.refl⟩
    · cases he
  case alloc t =>
    split at he
    · rename_i v h' hev
      injection he with he
      subst he
      exact GoodN.of (evAlloc_ok hT hk hev)
    · cases he
  case box t x =>
    split at he
    · rename_i v h' hev
      injection he with he
      subst he
      exact GoodN.of (evBox_ok hT hk hev (hs x hc))
    · cases he
  case load t a =>
    split at he
    · rename_i v c hev
      injection he with he
      subst he
      exact GoodN.of (evLoad_ok hT hk hev hc.2 (hs a hc.1))
    · cases he
  case store t a x =>
    split at he
    · rename_i h' c hev
      injection he with he
      subst he
      obtain ⟨w', hr, hLe, hok, hfr⟩ := evStore_ok hT hk hev hc.2.2 (hs a hc.1) (hs x hc.2.1)
      exact ⟨undef, w', mu, .inr ⟨by simp [hr], rfl⟩, hLe, hok, trivial, hfr⟩
    · cases he
  case fieldAddr t x k =>
    split at he
    · rename_i v hev
      injection he with he
      subst he
      exact GoodN.of (Good.ofU hk (evFieldAddr_ok hT hev (hs x hc)))
    · cases he
  case field t x k =>
    split at he
    · rename_i v c hev
      injection he with he
      subst he
      exact GoodN.of (Good.ofU hk (evField_ok hT hev hc.2 (hs x hc.1)))
    · cases he
  case indexAddr t x ix =>
    split at he
    · rename_i v c hev
      injection he with he
      subst he
      exact GoodN.of (Good.ofU hk (evIndexAddr_ok hT hk hev hc.2.2 (hs x hc.1) (hs ix hc.2.1)))
    · cases he
  case index t x ix =>
    by_cases hst : isStrT T t = true
    · rw [if_pos hst] at he
      split at he
      · rename_i v c hev
        injection he with he
        subst he
        unfold isStrT at hst
        split at hst
        · rename_i hi
          obtain ⟨z, hz, hv⟩ := evIndex_ok hT hi rfl hev hc.2.2 (hs x hc.1) (hs ix hc.2.1)
          exact GoodN.of_val hk ⟨z, hz w, hv _⟩
        · cases hst
      · cases he
    · rw [if_neg hst] at he; cases he
  case binOp bo t x y t' =>
    split at he
    · rename_i v c hev
      injection he with he
      subst he
      obtain ⟨z, hz, hv⟩ := evBin_ok (P := P) hev hc.2.2 (hs x hc.1) (hs y hc.2.1) t x y
      exact GoodN.of_val hk ⟨z, hz w, hv _⟩
    · split at he
      · rename_i v hev
        injection he with he
        subst he
        obtain ⟨z, hz, hv⟩ := evEq_ok hT hev (hs x hc.1) (hs y hc.2) x y
        exact GoodN.of_val hk ⟨z, hz w, hv _⟩
      · cases he
  case unOp uo t x =>
    split at he
    · rename_i v c hev
      injection he with he
      subst he
      obtain ⟨z, hz, hv⟩ := evUn_ok (P := P) hev hc.2 (hs x hc.1)
      exact GoodN.of_val hk ⟨z, hz w, hv _⟩
    · cases he
  case convert s d x =>
    split at he
    · rename_i v c hev
      injection he with he
      subst he
      obtain ⟨z, hz, hv⟩ := evConv_ok hT hev hc.2 (hs x hc.1)
      exact GoodN.of_val hk ⟨z, hz w, hv _⟩
    · split at he
      · rename_i v hev
        injection he with he
        subst he
        obtain ⟨z, hv, hz⟩ := evBts_at hT hev (hs x hc)
        exact GoodN.of_val hk ⟨z, hz w (fun _ _ _ _ => rfl), hv _⟩
      · cases he
  case nilCheck x =>
    split at he
    · rename_i hx
      injection he with he
      subst he
      have hr := hs x hc
      rw [hx] at hr
      have hr' := hr
      obtain ⟨_, B, _, hxx⟩ := hr
      exact ⟨ρ x, w, mu, .inl (by simp [hxx]), Cx.Le.refl _, hk, hr', Frame.refl⟩
    · rename_i hx
      injection he with he
      subst he
      have hr := hs x hc
      rw [hx] at hr
      have hr' := hr
      obtain ⟨_, _, hxx, _⟩ := hr
      exact ⟨ρ x, w, mu, .inl (by simp [hxx]), Cx.Le.refl _, hk, hr', Frame.refl⟩
    · rename_i hx
      injection he with he
      subst he
      have hr := hs x hc
      rw [hx] at hr
      have hr' := hr
      obtain ⟨_, hxx, _⟩ := hr
      exact ⟨ρ x, w, mu, .inl (by simp [hxx]), Cx.Le.refl _, hk, hr', Frame.refl⟩
    · cases he
  case extract t i =>
    split at he
    · rename_i n f hx
      by_cases hin : i < n
      · rw [if_pos hin] at he
        injection he with he
        subst he
        have hr := hs t hc
        rw [hx] at hr
        obtain ⟨cs, hxx, hsz, hall⟩ := hr
        have hlt : i < cs.size := by omega
        refine GoodN.of_val hk ⟨cs.getD i undef, ?_, hall i hin⟩
        simp [hxx, Instr.extract, hlt, Array.getD]
      · rw [if_neg hin] at he; cases he
    · cases he
  case build t ps =>
    split at he
    · rename_i v hev
      injection he with he
      subst he
      exact GoodN.of (Good.ofU hk (evBuild_ok hT hev (by simpa using parts_rel hρ ps.toList hc)))
    · cases he
  case buildSlice t n ps =>
    split at he
    · rename_i v h' hev
      injection he with he
      subst he
      exact GoodN.of (evBuildSlice_ok hT hk hev (by simpa using parts_rel hρ ps.toList hc))
    · cases he
  case makeSlice t l c =>
    split at he
    · rename_i v h' c' hev
      injection he with he
      subst he
      exact GoodN.of (evMake_ok hT hk hev hc.2.2 (hs l hc.1) (hs c hc.2.1))
    · cases he
  case slice t x lo hi mx =>
    cases mx with
    | some _ => simp at he
    | none =>
      simp only at he
      split at he
      · rename_i v c hev
        injection he with he
        subst he
        have hm := argsC_mem hc.2.1
        refine GoodN.of (Good.ofU hk (evSlice_ok hT hk hev hc.2.2 (hs x hc.1) ?_ ?_))
        · cases lo with
          | none => trivial
          | some y => exact hs y (hm y (by simp))
        · cases hi with
          | none => trivial
          | some y => exact hs y (hm y (by simp))
      · cases he
  case makeFunc fn fs cs =>
    cases fn <;> simp only [reduceCtorEq] at he
    rename_i g
    by_cases hf : fs.size = 0
    · rw [if_pos hf] at he
      injection he with he
      subst he
      have hfe : fs = #[] := Array.eq_empty_of_size_eq_zero hf
      have hm := argsC_mem hc
      subst hfe
      refine GoodN.of_val hk ⟨.func (.func g) #[] (cs.map ρ), by simp [Instr.makeFunc], _, rfl, by simp, fun j hj => ?_⟩
      have h1 : (cs.toList.map (sv e)).getD j .any = sv e cs[j] := by simp [List.getD, hj]
      have h2 : (cs.map ρ).getD j undef = ρ cs[j] := by simp [Array.getD, hj]
      rw [h2]
      show Rel _ ((cs.toList.map (sv e)).getD j .any) _
      rw [h1]
      exact hs _ (hm _ (by simp))
    · rw [if_neg hf] at he
      split at he
      · rename_i y h1 h2
        injection he with he
        subst he
        have h1' : fs = #[y] := Array.ext' h1
        have h2' : cs = #[] := Array.ext' h2
        subst h1' h2'
        exact GoodN.of_val hk ⟨.func (.func g) #[ρ y] #[], by simp [Instr.makeFunc], _, rfl, hs y hc⟩
      · cases he
  case makeMap t rs =>
    cases rs with
    | some _ => simp at he
    | none =>
      injection he with he
      subst he
      exact GoodN.of (evMakeMap_ok hk)
  case lookup t m k ok =>
    split at he
    · rename_i v hev
      injection he with he
      subst he
      obtain ⟨z, hz, hv⟩ := evLookup_ok hT hk hev (hs m hc.1) (hs k hc.2)
      exact GoodN.of_val hk ⟨z, hz, hv⟩
    · cases he
  case mapUpdate t m k x =>
    split at he
    · rename_i h' hev
      injection he with he
      subst he
      obtain ⟨w', hr, hLe, hok, hfr⟩ := evMapUpd_ok hT hk hev (hs m hc.1) (hs k hc.2.1) (hs x hc.2.2)
      exact ⟨undef, w', mu, .inr ⟨by simp [hr], rfl⟩, hLe, hok, trivial, hfr⟩
    · cases he
  case insert t m k x =>
    split at he
    · rename_i h' hev
      injection he with he
      subst he
      obtain ⟨w', hr, hLe, hok, hfr⟩ := evMapUpd_ok hT hk hev (hs m hc.1) (hs k hc.2.1) (hs x hc.2.2)
      exact ⟨undef, w', mu, .inr ⟨by simp [hr], rfl⟩, hLe, hok, trivial, hfr⟩
    · cases he
  case call c =>
    obtain ⟨callee, args, argTypes⟩ := c
    cases callee <;> simp only [reduceCtorEq] at he
    rename_i b
    obtain ⟨al, rfl⟩ : ∃ al : List Operand, args = al.toArray := ⟨args.toList, by simp⟩
    obtain ⟨tl, rfl⟩ : ∃ tl : List TypeId, argTypes = tl.toArray := ⟨argTypes.toList, by simp⟩
    unfold evCallB at he
    simp only at he
    split at he
    · rename_i x t
      by_cases hl : lenT T t (sv e x) = true
      · rw [if_pos hl] at he
        split at he
        · rename_i v hev
          injection he with he
          subst he
          obtain ⟨z, w', mu', hr, h1, h2, h3⟩ := evLen_ok (ty := o.type) hT hk hev hl (hs x hc)
          exact ⟨z, w', mu', .inl (by simp [resolve, invoke, builtin, hr]), h1, h2, h3⟩
        · cases he
      · rw [if_neg hl] at he; cases he
    · rename_i x y t u
      split at he
      · rename_i v h' c' hev
        injection he with he
        subst he
        obtain ⟨z, w', mu', hr, h1, h2, h3⟩ := evAppend_ok (ty := o.type) hT hk hev hc.2.2 (hs x hc.1) (hs y hc.2.1)
        exact ⟨z, w', mu', .inl (by simp [resolve, invoke, builtin, hr]), h1, h2, h3⟩
      · cases he
    · rename_i x rest
      split at he
      · rename_i v hev
        injection he with he
        subst he
        have hm := argsC_mem hc
        obtain ⟨z, hz, hv⟩ := mm_ok (P := P) (w := w) (c := cx G h mu nx w) true (rest.map (sv e)) (rest.map ρ) _ v (ρ x) (by simp) (fun i a y ha hy => by
          rw [List.getElem?_map] at ha hy
          cases hri : rest[i]? with
          | none => rw [hri] at ha; cases ha
          | some p =>
            rw [hri] at ha hy
            simp only [Option.map_some, Option.some.injEq] at ha hy
            subst ha hy
            exact hs p (hm p (List.mem_cons_of_mem _ (List.mem_of_getElem? hri)))) (hs x (hm x (by simp))) hev
        exact ⟨z, w, mu, .inl (by simp only [if_true] at hz; simp [resolve, invoke, builtin, Builtin.max_, hz]), Cx.Le.refl _, hk, hv, Frame.refl⟩
      · cases he
    · rename_i x rest
      split at he
      · rename_i v hev
        injection he with he
        subst he
        have hm := argsC_mem hc
        obtain ⟨z, hz, hv⟩ := mm_ok (P := P) (w := w) (c := cx G h mu nx w) false (rest.map (sv e)) (rest.map ρ) _ v (ρ x) (by simp) (fun i a y ha hy => by
          rw [List.getElem?_map] at ha hy
          cases hri : rest[i]? with
          | none => rw [hri] at ha; cases ha
          | some p =>
            rw [hri] at ha hy
            simp only [Option.map_some, Option.some.injEq] at ha hy
            subst ha hy
            exact hs p (hm p (List.mem_cons_of_mem _ (List.mem_of_getElem? hri)))) (hs x (hm x (by simp))) hev
        exact ⟨z, w, mu, .inl (by simp only [Bool.false_eq_true, if_false] at hz; simp [resolve, invoke, builtin, Builtin.min_, hz]), Cx.Le.refl _, hk, hv, Frame.refl⟩
      · cases he
    · rename_i x t
      split at he
      · rename_i ti h' hti hev
        injection he with he
        subst he
        have hkd := (hT t _ hti).kind
        have hu : ∃ d, P.underlying t = some d := by
          cases hki : ti.k <;> rw [hki] at hkd <;> simp only [TK.ok] at hkd
          case struct => obtain ⟨fs, _, hu, _⟩ := hkd; exact ⟨_, hu⟩
          case func => obtain ⟨a, b, c, hu⟩ := hkd; exact ⟨_, hu⟩
          all_goals exact ⟨_, hkd⟩
        obtain ⟨d, hu⟩ := hu
        obtain ⟨w', hr, hLe, hok, hfr⟩ := evClear_ok (ty := o.type) hk hev hu (hs x hc)
        exact ⟨.tuple #[], w', mu, .inl (by simp [resolve, invoke, builtin, hr]), hLe, hok, trivial, by rw [wClr_map hev] at hfr; exact hfr⟩
      · split at he
        · rename_i h' c' hev
          injection he with he
          subst he
          obtain ⟨w', hr, hLe, hok, hfr⟩ := evClearS_ok (ty := o.type) hT hk hev hc.2 (hs x hc.1)
          exact ⟨.tuple #[], w', mu, .inl (by simp [resolve, invoke, builtin, hr]), hLe, hok, trivial, hfr⟩
        · cases he
    · rename_i x t
      by_cases hl : sliceT T t = true
      · rw [if_pos hl] at he
        split at he
        · rename_i hx
          injection he with he
          subst he
          obtain ⟨el, hu⟩ := sliceT_spec hT hl
          have hr := hs x hc
          rw [hx] at hr
          have hv : ρ x = .slice none 0 0 := hr
          exact ⟨.int .i64 0, w, mu, .inl (by simp [resolve, invoke, builtin, Builtin.cap_, run_underlying hu, hv, goInt]), Cx.Le.refl _, hk, rfl, Frame.refl⟩
        · cases he
      · rw [if_neg hl] at he; cases he
    · rename_i x y t u
      split at he
      · rename_i ei hei
        split at he
        · rename_i hx hy
          injection he with he
          subst he
          unfold elemT at hei
          split at hei
          · rename_i el _ _ _ _ hti
            have hu : P.underlying t = some (.slice el) := (hT t _ hti).kind
            have hsz := (hT el ei hei).run_sizeOf w
            have hr := hs x hc.1
            rw [hx] at hr
            obtain ⟨_, A, cp, hv, _⟩ := hr
            have hr2 := hs y hc.2
            rw [hy] at hr2
            have hv2 : ρ y = .slice none 0 0 := hr2
            refine ⟨.int .i64 0, w, mu, .inl ?_, Cx.Le.refl _, hk, rfl, Frame.refl⟩
            cases A with
            | none => simp [resolve, invoke, builtin, Builtin.copy_, run_underlying hu, hv, hv2, Builtin.lenOf, Builtin.firstCells, hsz, goInt]
            | some a => simp [resolve, invoke, builtin, Builtin.copy_, run_underlying hu, hv, hv2, Builtin.lenOf, Builtin.firstCells, hsz, goInt, storeCells]
          · cases hei
        · cases he
      · cases he
    · cases he
end
end Go.Lift
namespace Go.Lift
set_option linter.unusedSimpArgs false
set_option linter.unusedVariables false
open Go.RowKit
def fen (r : Option Nat) : Fence := { Fence.wide with round := r }
section
variable {P : Program} {r : Option Nat} {ops : Array Oper} {Q : Exit → Act → World → Prop} {a : Act} {w : World} {K : Act → World → Prop}
theorem calls_fen {n : Nat} {f : FuncId} {args : Array Value} {R : Ending → World → Prop} (h : Calls P f args w R) : CallsIn (fen r) n P f args w R :=
  (callsIn_wide (n := n)).2 h
theorem rows_fen {n : Nat} {row : String} {args : Array Value} {R : Value → World → Prop} (h : Rows P row args w R) : RowsIn (fen r) n P row args w R := fun c cs _ => by
  obtain ⟨v, w', h1, h2⟩ := h c cs
  exact ⟨v, w', h1, stepsIn_wide.2 h2⟩
theorem oper_wpIn {o : Oper} (hnd : ∀ c, o.op ≠ .defer c) (h : o.wp P a w K Q) : o.wpIn (fen r) 0 P a w K Q := by
  refine ⟨fun _ _ => trivial, ?_⟩
  rw [Oper.semAt_eq _ _ o hnd]
  unfold Oper.wp at h
  generalize (execOp a.eval o).run P w = q at h ⊢
  cases q with
  | ok x w' =>
    cases x with
    | value v => exact h
    | skip => exact h
    | defer d => exact h
    | enter f args => exact ⟨fun hd => absurd hd (by simp [fen, Fence.wide]), calls_fen h⟩
    | row row args => exact ⟨fun hd => absurd hd (by simp [fen, Fence.wide]), rows_fen h⟩
    | _ => exact h.elim
  | halt e w' => cases e <;> first | exact h | exact h.elim
theorem wpl_step {o : Oper} {rest : List Oper} (hnd : ∀ c, o.op ≠ .defer c)
    (h : ∀ K : Act → World → Prop, (∀ a w, wpListIn (fen r) 0 P ops Q rest a w → K a w) → if Region.wanted o (yielded ops a.tmps) then o.wp P a w K Q else K (a.put o.dst undef) w) : wpListIn (fen r) 0 P ops Q (o :: rest) a w :=
  wpListIn_step fun K hK => by
    have := h K hK
    split
    · rename_i hw; rw [if_pos hw] at this; exact oper_wpIn hnd this
    · rename_i hw; rw [if_neg hw] at this; exact ⟨fun _ _ => trivial, this⟩
theorem exists_least {p : Nat → Prop} : ∀ n, p n → ∃ m, p m ∧ ∀ k, p k → m ≤ k := by
  intro n
  induction n using Nat.strongRecOn with
  | _ n ih =>
    intro hn
    by_cases h : ∃ k, k < n ∧ p k
    · obtain ⟨k, hk, hp⟩ := h
      exact ih k hk hp
    · exact ⟨n, hn, fun k hk => Nat.le_of_not_lt fun hlt => h ⟨k, hlt, hk⟩⟩
open Classical in
noncomputable def leastN (p : Nat → Prop) : Nat := if h : ∃ m, p m ∧ ∀ k, p k → m ≤ k then Classical.choose h else 0
theorem leastN_spec {p : Nat → Prop} {n : Nat} (h : p n) : p (leastN p) ∧ ∀ k, p k → leastN p ≤ k := by
  have h2 := exists_least n h
  unfold leastN
  rw [dif_pos h2]
  exact Classical.choose_spec h2
theorem wpIn_loop_ghost {F : Fence} {n : Nat} {c : Code} (I : Nat → Act → World → Prop) (m0 : Nat) (h0 : I m0 a w)
    (round : ∀ m a w, I m a w → c.wpIn F n P (Exit.then (fun a' w' => ∃ m', m' < m ∧ I m' a' w') Q) a w) : (Code.loop c).wpIn F n P Q a w := by
  refine wpIn_loop (fun a w => ∃ m, I m a w) (fun a w => leastN fun m => I m a w) ⟨m0, h0⟩ fun a w h => ?_
  obtain ⟨m1, h1⟩ := h
  have hs := leastN_spec (p := fun m => I m a w) h1
  refine wpIn_mono (round _ a w hs.1) fun e a' w' hq => ?_
  cases e with
  | normal =>
    obtain ⟨m', hlt, hi⟩ := hq
    exact ⟨⟨m', hi⟩, Nat.lt_of_le_of_lt ((leastN_spec (p := fun m => I m a' w') hi).2 _ hi) hlt⟩
  | _ => exact hq
end
end Go.Lift
namespace Go.Lift
set_option linter.unusedSimpArgs false
set_option linter.unusedVariables false
open Go.RowKit
def pureOp : Op → Bool
  | .move _ | .assign _ | .pick .. | .load .. | .fieldAddr .. | .field .. | .indexAddr .. | .index .. | .binOp .. | .unOp .. | .convert .. | .nilCheck _ | .extract .. | .build .. | .slice .. | .makeFunc .. | .lookup .. => true
  | .call c => match c.callee with
    | .builtin .len => true
    | .builtin .max => true
    | .builtin .min => true
    | _ => false
  | _ => false
theorem evOp_pure {T : Tab} {e : Env} {h : Heap} {nx : Nat} {op : Op} {r : Ev} (hp : pureOp op = true) (he : evOp T e h nx op = some r) : r.h = h ∧ r.nx = nx := by
  unfold evOp at he
  cases op <;> simp only [pureOp, Bool.false_eq_true] at hp <;> simp only at he
  case move => injection he with he; subst he; exact ⟨rfl, rfl⟩
  case assign => injection he with he; subst he; exact ⟨rfl, rfl⟩
  case slice t x lo hi mx =>
    cases mx with
    | some _ => simp at he
    | none =>
      simp only at he
      split at he
      · injection he with he; subst he; exact ⟨rfl, rfl⟩
      · cases he
  case binOp bo t x y t' =>
    split at he
    · injection he with he; subst he; exact ⟨rfl, rfl⟩
    · split at he
      · injection he with he; subst he; exact ⟨rfl, rfl⟩
      · cases he
  case makeFunc fn fs cs =>
    cases fn <;> simp only [reduceCtorEq] at he
    split at he
    · injection he with he; subst he; exact ⟨rfl, rfl⟩
    · split at he
      · injection he with he; subst he; exact ⟨rfl, rfl⟩
      · cases he
  case call c =>
    obtain ⟨callee, args, ts⟩ := c
    cases callee <;> simp only [Bool.false_eq_true] at hp
    rename_i b
    simp only [evCallB] at he
    split at he
    · split at he
      · split at he
        · injection he with he; subst he; exact ⟨rfl, rfl⟩
        · cases he
      · cases he
    · simp at hp
    · split at he
      · injection he with he; subst he; exact ⟨rfl, rfl⟩
      · cases he
    · split at he
      · injection he with he; subst he; exact ⟨rfl, rfl⟩
      · cases he
    · simp at hp
    · simp at hp
    · simp at hp
    · cases he
  all_goals
    repeat' (split at he)
    all_goals first | (injection he with he; subst he; exact ⟨rfl, rfl⟩) | cases he
def gB (want : Bool) : AVal → Option Bool
  | .bool b => some (b == want)
  | .opt g (.bool b) => some (g && (b == want))
  | _ => none
def putSt (nt : Nat) (e : Env) (h : Heap) (nx : Nat) (dst : Option Tmp) (v : AVal) : Option St :=
  match dst with
  | some d => if d < nt then some ⟨(d, v) :: e, h, nx⟩ else none
  | none => some ⟨e, h, nx⟩
def evG (T : Tab) (nt : Nat) (ops : Array Oper) (o : Oper) (st : St) : Option (St × Prop) :=
  match o.guard with
  | none => match evOp T st.env st.heap st.nx o.op with
    | some r => match putSt nt st.env r.h r.nx o.dst r.v with
      | some s => some (s, r.c)
      | none => none
    | none => none
  | some (j, want) => match (ops[j]?).bind (·.dst) with
    | some t => match gB want (lk st.env t) with
      | some g => if pureOp o.op then match evOp T st.env st.heap st.nx o.op with
        | some r => match putSt nt st.env st.heap st.nx o.dst (mkOpt g r.v) with
          | some s => some (s, g = true → r.c)
          | none => none
        | none => none else match g with
        | true => match evOp T st.env st.heap st.nx o.op with
          | some r => match putSt nt st.env r.h r.nx o.dst r.v with
            | some s => some (s, r.c)
            | none => none
          | none => none
        | false => match evOp T st.env st.heap st.nx o.op with
          | some _ => match putSt nt st.env st.heap st.nx o.dst .any with
            | some s => some (s, True)
            | none => none
          | none => none
      | none => none
    | none => none
theorem evG_nd {T : Tab} {nt : Nat} {ops : Array Oper} {o : Oper} {st : St} {p : St × Prop} (he : evG T nt ops o st = some p) : ∀ c, o.op ≠ .defer c := by
  intro c hc
  have h1 : evOp T st.env st.heap st.nx o.op = none := by rw [hc]; rfl
  unfold evG at he
  rw [h1] at he
  split at he
  · cases he
  · split at he
    · split at he
      · split at he
        · cases he
        · split at he <;> cases he
      · cases he
    · cases he
def evOps (T : Tab) (nt : Nat) (ops : Array Oper) : List Oper → St → Option (St × Prop)
  | [], st => some (st, True)
  | o :: r, st => match evG T nt ops o st with
    | some (s, c) => match evOps T nt ops r s with
      | some (s', c') => some (s', c ∧ c')
      | none => none
    | none => none
structure Stay (G : Gh) (n0 : Nat) (h : Heap) (mu : Id → Option Base) (w : World) (h' : Heap) (mu' : Id → Option Base) (w' : World) : Prop where
  le : (cx G h mu n0 w).Le (cx G h' mu' n0 w')
theorem Stay.refl {G : Gh} {n0 : Nat} {h : Heap} {mu : Id → Option Base} {w : World} : Stay G n0 h mu w h mu w := ⟨Cx.Le.refl _⟩
theorem Stay.trans {G : Gh} {n0 : Nat} {h h' h2 : Heap} {mu mu' mu2 : Id → Option Base} {w w' w2 : World} (a : Stay G n0 h mu w h' mu' w') (b : Stay G n0 h' mu' w' h2 mu2 w2) : Stay G n0 h mu w h2 mu2 w2 := ⟨a.le.trans b.le⟩
theorem Stay.of {G : Gh} {n0 nx nx' : Nat} {h h' : Heap} {mu mu' : Id → Option Base} {w w' : World} (hn : n0 ≤ nx) (a : (cx G h mu nx w).Le (cx G h' mu' nx' w')) : Stay G n0 h mu w h' mu' w' :=
  ⟨a.size, a.F, a.cell, Nat.le_refl _, fun id hid => a.mu id (Nat.lt_of_lt_of_le hid hn), a.dfr⟩
def AwpL (P : Program) (G : Gh) (n0 : Nat) (ops l : List Oper) (Q : St → Prop) (st : St) : Prop :=
  ∀ mu a w, Sim G mu st a w → n0 ≤ st.nx → ∀ Q' : Exit → Act → World → Prop,
    (∀ mu' st' a' w', Sim G mu' st' a' w' → n0 ≤ st'.nx → Stay G n0 st.heap mu w st'.heap mu' w' → Q st' → Q' .normal a' w') → wpListIn (fen G.rd) 0 P ops.toArray Q' l a w
def Awp (P : Program) (G : Gh) (n0 : Nat) (c : Code) (Q : Exit → St → Prop) (st : St) : Prop :=
  ∀ mu a w, Sim G mu st a w → n0 ≤ st.nx → ∀ Q' : Exit → Act → World → Prop,
    (∀ e mu' st' a' w', Sim G mu' st' a' w' → n0 ≤ st'.nx → Stay G n0 st.heap mu w st'.heap mu' w' → Q e st' → Q' e a' w') → c.wpIn (fen G.rd) 0 P Q' a w
section
variable {P : Program} {G : Gh} {n0 : Nat}
theorem Sim.rho {mu : Id → Option Base} {st : St} {a : Act} {w : World} (hs : Sim G mu st a w) (x : Operand) : Rel (cx G st.heap mu st.nx w) (evX st.env x) (a.eval x) := by
  cases x with
  | tmp t => exact hs.env t
  | const v => exact ofValue_rel _ v
  | global g => trivial
  | func f => exact ⟨#[], rfl, rfl, fun j hj => absurd hj (Nat.not_lt_zero _)⟩
theorem Sim.put {mu mu' : Id → Option Base} {st : St} {h' : Heap} {nx' : Nat} {a : Act} {w w' : World} (hs : Sim G mu st a w) (hLe : (cx G st.heap mu st.nx w).Le (cx G h' mu' nx' w')) (hk : HOk G h' mu' nx' w')
    {dst : Option Tmp} {v : AVal} {x : Value} (hv : Rel (cx G h' mu' nx' w') v x) {s : St} (hp : putSt G.nt st.env h' nx' dst v = some s) : Sim G mu' s (a.put dst x) w' := by
  unfold putSt at hp
  cases dst with
  | none =>
    simp only [Option.some.injEq] at hp
    subst hp
    exact ⟨hs.defers.mono hLe.dfr, hs.size, fun t => (hs.env t).mono hLe, hk⟩
  | some d =>
    simp only at hp
    by_cases hd : d < G.nt
    · rw [if_pos hd] at hp
      simp only [Option.some.injEq] at hp
      subst hp
      refine ⟨hs.defers.mono hLe.dfr, by simpa [Act.put] using hs.size, fun t => ?_, hk⟩
      have hdt : d < a.tmps.size := Nat.lt_of_lt_of_le hd hs.size
      simp only [lk, Act.put]
      by_cases ht : d = t
      · subst ht
        rw [if_pos rfl]
        have : (a.tmps.setIfInBounds d x).getD d undef = x := by simp [Array.getD, hdt]
        rw [this]
        exact hv
      · rw [if_neg ht]
        have : (a.tmps.setIfInBounds d x).getD t undef = a.tmps.getD t undef := by
          simp only [Array.getD_eq_getD_getElem?]
          rw [Array.getElem?_setIfInBounds_ne ht]
        rw [this]
        exact (hs.env t).mono hLe
    · rw [if_neg hd] at hp; cases hp
theorem evG_run {T : Tab} (hT : TabOK P T) {o : Oper} {st s : St} {c : Prop} (he : (match evOp T st.env st.heap st.nx o.op with
      | some r => match putSt G.nt st.env r.h r.nx o.dst r.v with
        | some s => some (s, r.c)
        | none => none
      | none => none) = some (s, c)) (hc : c) {mu : Id → Option Base} {a : Act} {w : World} (hs : Sim G mu st a w)
    {K : Act → World → Prop} {Q : Exit → Act → World → Prop} (hK : ∀ mu' a' w', Sim G mu' s a' w' → (cx G st.heap mu st.nx w).Le (cx G s.heap mu' s.nx w') → Frame mu w w' (wOp st.env o.op) → K a' w') : o.wp P a w K Q := by
  split at he
  · rename_i r hev
    split at he
    · rename_i s' hput
      simp only [Option.some.injEq, Prod.mk.injEq] at he
      obtain ⟨rfl, rfl⟩ := he
      obtain ⟨x, w', mu', hrun, hLe, hok, hrel, hfr⟩ := evOp_ok hT hs.heap (fun x => hs.rho x) hev hc
      have hsim := hs.put hLe hok hrel hput
      have hLe' : (cx G st.heap mu st.nx w).Le (cx G s'.heap mu' s'.nx w') := by
        have : s'.heap = r.h ∧ s'.nx = r.nx := by
          unfold putSt at hput
          split at hput
          · split at hput
            · injection hput with hput; subst hput; exact ⟨rfl, rfl⟩
            · cases hput
          · injection hput with hput; subst hput; exact ⟨rfl, rfl⟩
        rw [this.1, this.2]
        exact hLe
      unfold Oper.wp
      rcases hrun with hrun | ⟨hrun, hx⟩
      · rw [hrun]; exact hK _ _ _ hsim hLe' hfr
      · rw [hrun]; rw [hx] at hsim; exact hK _ _ _ hsim hLe' hfr
    · cases he
  · cases he
theorem evG_ok {T : Tab} (hT : TabOK P T) {ops : Array Oper} {o : Oper} {st s : St} {c : Prop} (he : evG T G.nt ops o st = some (s, c)) (hc : c) {mu : Id → Option Base} {a : Act} {w : World} (hs : Sim G mu st a w)
    {K : Act → World → Prop} {Q : Exit → Act → World → Prop} (hK : ∀ mu' a' w', Sim G mu' s a' w' → (cx G st.heap mu st.nx w).Le (cx G s.heap mu' s.nx w') → Frame mu w w' (wOp st.env o.op) → K a' w') :
    if Region.wanted o (yielded ops a.tmps) then o.wp P a w K Q else K (a.put o.dst undef) w := by
  unfold evG at he
  cases hg : o.guard with
  | none =>
    simp only [hg] at he
    have hw : Region.wanted o (yielded ops a.tmps) = true := by simp [Region.wanted, hg]
    rw [if_pos hw]
    exact evG_run hT he hc hs hK
  | some jw =>
    obtain ⟨j, want⟩ := jw
    simp only [hg] at he
    split at he
    · rename_i t ht
      split at he
      · rename_i g hgb
        have hrel := hs.env t
        have hwant : Region.wanted o (yielded ops a.tmps) = g := by
          simp only [Region.wanted, hg, yielded, ht, Option.bind_some]
          have hgd : ∀ b : Bool, a.tmps.getD t undef = .bool b → a.tmps[t]? = some (.bool b) := fun b hb => by
            rw [Array.getD_eq_getD_getElem?] at hb
            cases hx : a.tmps[t]? with
            | none => rw [hx] at hb; simp [undef] at hb
            | some y => rw [hx] at hb; simp at hb; rw [hb]
          have hund : a.tmps.getD t undef = undef → ∀ b : Bool, a.tmps[t]? ≠ some (.bool b) := fun hb b hx => by
            rw [Array.getD_eq_getD_getElem?, hx] at hb
            simp [undef] at hb
          cases hlk : lk st.env t <;> simp only [hlk, gB, Option.some.injEq, reduceCtorEq] at hgb
          · rename_i b
            rw [hlk] at hrel
            simp only [Rel] at hrel
            rw [hgd b hrel]
            subst hgb
            cases b <;> cases want <;> rfl
          · rename_i g0 v0
            cases v0 <;> simp only [gB, Option.some.injEq, reduceCtorEq] at hgb
            rename_i b
            rw [hlk] at hrel
            cases g0 with
            | true =>
              have := hrel.1 rfl
              simp only [Rel] at this
              rw [hgd b this]
              subst hgb
              cases b <;> cases want <;> rfl
            | false =>
              have := hund (hrel.2 rfl)
              subst hgb
              cases hx : a.tmps[t]? with
              | none => simp
              | some y =>
                rw [hx] at this
                cases y <;> simp at this ⊢
        by_cases hpu : pureOp o.op = true
        · rw [if_pos hpu] at he
          split at he
          · rename_i r hev
            split at he
            · rename_i s' hput
              simp only [Option.some.injEq, Prod.mk.injEq] at he
              obtain ⟨rfl, rfl⟩ := he
              have hsheap : s'.heap = st.heap ∧ s'.nx = st.nx := by
                unfold putSt at hput
                split at hput
                · split at hput
                  · injection hput with hput; subst hput; exact ⟨rfl, rfl⟩
                  · cases hput
                · injection hput with hput; subst hput; exact ⟨rfl, rfl⟩
              obtain ⟨h1, h2⟩ := evOp_pure hpu hev
              cases g with
              | true =>
                rw [if_pos hwant]
                obtain ⟨x, w', mu', hrun, hLe, hok, hrel', hfr⟩ := evOp_ok hT hs.heap (fun x => hs.rho x) hev (hc rfl)
                rw [h1, h2] at hLe hok hrel'
                have hsim := hs.put hLe hok (v := mkOpt true r.v) (mkOpt_rel (fun _ => hrel') (fun h => by cases h)) hput
                have hLe' : (cx G st.heap mu st.nx w).Le (cx G s'.heap mu' s'.nx w') := by rw [hsheap.1, hsheap.2]; exact hLe
                unfold Oper.wp
                rcases hrun with hrun | ⟨hrun, hx⟩
                · rw [hrun]; exact hK _ _ _ hsim hLe' hfr
                · rw [hrun]; rw [hx] at hsim; exact hK _ _ _ hsim hLe' hfr
              | false =>
                rw [if_neg (by rw [hwant]; simp)]
                have hsim := hs.put (Cx.Le.refl _) hs.heap (v := mkOpt false r.v) (x := undef) (mkOpt_rel (fun h => by (cases h)) (fun _ => rfl)) hput
                exact hK _ _ _ hsim (by rw [hsheap.1, hsheap.2]; exact Cx.Le.refl _) Frame.refl
            · cases he
          · cases he
        · rw [if_neg hpu] at he
          cases g with
          | true =>
            rw [if_pos hwant]
            exact evG_run hT he hc hs hK
          | false =>
            simp only at he
            split at he
            case h_2 => cases he
            split at he
            · rename_i s' hput
              simp only [Option.some.injEq, Prod.mk.injEq] at he
              obtain ⟨rfl, rfl⟩ := he
              have hsheap : s'.heap = st.heap ∧ s'.nx = st.nx := by
                unfold putSt at hput
                split at hput
                · split at hput
                  · injection hput with hput; subst hput; exact ⟨rfl, rfl⟩
                  · cases hput
                · injection hput with hput; subst hput; exact ⟨rfl, rfl⟩
              rw [if_neg (by rw [hwant]; simp)]
              have hsim := hs.put (Cx.Le.refl _) hs.heap (v := .any) (x := undef) trivial hput
              exact hK _ _ _ hsim (by rw [hsheap.1, hsheap.2]; exact Cx.Le.refl _) Frame.refl
            · cases he
      · cases he
    · cases he
theorem awpL_nil {ops : List Oper} {Q : St → Prop} {st : St} (h : Q st) : AwpL P G n0 ops [] Q st :=
  fun mu a w hs hn Q' hQ => hQ mu st a w hs hn Stay.refl h
theorem awpL_cons {T : Tab} (hT : TabOK P T) {ops l : List Oper} {o : Oper} {Q : St → Prop} {st s : St} {c : Prop} (he : evG T G.nt ops.toArray o st = some (s, c)) (hc : c) (h : AwpL P G n0 ops l Q s) :
    AwpL P G n0 ops (o :: l) Q st := by
  intro mu a w hs hn Q' hQ
  refine wpl_step (evG_nd he) fun K hK => ?_
  refine evG_ok hT he hc hs (fun mu' a' w' hs' hLe _ => hK _ _ (h mu' a' w' hs' ?_ Q' fun mu2 st2 a2 w2 h1 h2 h3 h4 => hQ mu2 st2 a2 w2 h1 h2 ((Stay.of hn hLe).trans h3) h4))
  exact Nat.le_trans hn hLe.nx
theorem awpL_ev {T : Tab} (hT : TabOK P T) {ops : List Oper} {Q : St → Prop} {r : List Oper} : ∀ (l : List Oper) {st s : St} {c : Prop}, evOps T G.nt ops.toArray l st = some (s, c) → c → AwpL P G n0 ops r Q s → AwpL P G n0 ops (l ++ r) Q st
  | [], st, s, c, he, _, h => by
    simp only [evOps, Option.some.injEq, Prod.mk.injEq] at he
    obtain ⟨rfl, _⟩ := he
    exact h
  | o :: l, st, s, c, he, hc, h => by
    simp only [evOps] at he
    split at he
    · rename_i s1 c1 hg
      split at he
      · rename_i s2 c2 hl
        simp only [Option.some.injEq, Prod.mk.injEq] at he
        obtain ⟨rfl, rfl⟩ := he
        exact awpL_cons hT hg hc.1 (awpL_ev hT l hl hc.2 h)
      · cases he
    · cases he
theorem awp_region {id : Nat} {ops : List Oper} {Q : Exit → St → Prop} {st : St} (h : AwpL P G n0 ops ops (Q .normal) st) : Awp P G n0 (.region id ops.toArray false) Q st :=
  fun mu a w hs hn Q' hQ => wpIn_region_lit (h mu a w hs hn Q' fun mu' st' a' w' h1 h2 h3 h4 => hQ .normal mu' st' a' w' h1 h2 h3 h4)
theorem awp_ev {T : Tab} (hT : TabOK P T) {id : Nat} {ops : List Oper} {Q : Exit → St → Prop} {st s : St} {c : Prop} (he : evOps T G.nt ops.toArray ops st = some (s, c)) (hc : c) (h : Q .normal s) :
    Awp P G n0 (.region id ops.toArray false) Q st := by
  refine awp_region ?_
  have := awpL_ev (P := P) (n0 := n0) (Q := Q .normal) (r := []) hT ops he hc (awpL_nil h)
  simpa using this
def thenQ (next : St → Prop) (Q : Exit → St → Prop) : Exit → St → Prop
  | .normal, st => next st
  | e, st => Q e st
def blockQ (id : Nat) (Q : Exit → St → Prop) : Exit → St → Prop
  | .exit id', st => if id' = id then Q .normal st else Q (.exit id') st
  | e, st => Q e st
theorem awp_mono {c : Code} {Q Q2 : Exit → St → Prop} {st : St} (h : Awp P G n0 c Q st) (hq : ∀ e s, Q e s → Q2 e s) : Awp P G n0 c Q2 st :=
  fun mu a w hs hn Q' hQ => h mu a w hs hn Q' fun e mu' st' a' w' h1 h2 h3 h4 => hQ e mu' st' a' w' h1 h2 h3 (hq e st' h4)
theorem awp_seq {x y : Code} {Q : Exit → St → Prop} {st : St} (h : Awp P G n0 x (thenQ (Awp P G n0 y Q) Q) st) : Awp P G n0 (.seq x y) Q st := by
  intro mu a w hs hn Q' hQ
  refine wpIn_seq (h mu a w hs hn _ fun e mu' st' a' w' h1 h2 h3 h4 => ?_)
  cases e with
  | normal => exact h4 mu' a' w' h1 h2 Q' fun e2 mu2 st2 a2 w2 k1 k2 k3 k4 => hQ e2 mu2 st2 a2 w2 k1 k2 (h3.trans k3) k4
  | _ => exact hQ _ mu' st' a' w' h1 h2 h3 h4
theorem awp_block {id : Nat} {c : Code} {Q : Exit → St → Prop} {st : St} (h : Awp P G n0 c (blockQ id Q) st) : Awp P G n0 (.block id c) Q st := by
  intro mu a w hs hn Q' hQ
  refine wpIn_block (h mu a w hs hn _ fun e mu' st' a' w' h1 h2 h3 h4 => ?_)
  cases e with
  | exit id' =>
    simp only [Go.Exit.inBlock, blockQ] at h4 ⊢
    split
    · rename_i hid
      rw [if_pos hid] at h4
      exact hQ _ mu' st' a' w' h1 h2 h3 h4
    · rename_i hid
      rw [if_neg hid] at h4
      exact hQ _ mu' st' a' w' h1 h2 h3 h4
  | _ => exact hQ _ mu' st' a' w' h1 h2 h3 h4
theorem awp_skip {Q : Exit → St → Prop} {st : St} (h : Q .normal st) : Awp P G n0 .skip Q st := fun mu a w hs hn Q' hQ => wpIn_skip (hQ _ mu st a w hs hn Stay.refl h)
theorem awp_exit {id : Nat} {Q : Exit → St → Prop} {st : St} (h : Q (.exit id) st) : Awp P G n0 (.exit id) Q st := fun mu a w hs hn Q' hQ => wpIn_exit (hQ _ mu st a w hs hn Stay.refl h)
theorem awp_ret {Q : Exit → St → Prop} {st : St} (h : Q .ret st) : Awp P G n0 .ret Q st := fun mu a w hs hn Q' hQ => wpIn_ret (hQ _ mu st a w hs hn Stay.refl h)
theorem awp_cond {t : Tmp} {x y : Code} {Q : Exit → St → Prop} {st : St} {b : Bool} (hb : lk st.env t = .bool b) (h1 : b = true → Awp P G n0 x Q st) (h2 : b = false → Awp P G n0 y Q st) : Awp P G n0 (.cond (.tmp t) x y) Q st := by
  intro mu a w hs hn Q' hQ
  have hr := hs.env t
  rw [hb] at hr
  exact wpIn_cond_split (a := a) (c := .tmp t) (t := b) hr (fun h => h1 h mu a w hs hn Q' hQ) (fun h => h2 h mu a w hs hn Q' hQ)
def Wk (G : Gh) (n0 : Nat) (st st2 : St) : Prop := ∀ mu a w, Sim G mu st a w → n0 ≤ st.nx → ∃ mu2, Sim G mu2 st2 a w ∧ n0 ≤ st2.nx ∧ Stay G n0 st.heap mu w st2.heap mu2 w
theorem Wk.refl {st : St} : Wk G n0 st st := fun mu _ _ hs hn => ⟨mu, hs, hn, Stay.refl⟩
theorem Wk.trans {a b c : St} (h : Wk G n0 a b) (k : Wk G n0 b c) : Wk G n0 a c := fun mu x w hs hn => by
  obtain ⟨m1, h1, h2, h3⟩ := h mu x w hs hn
  obtain ⟨m2, k1, k2, k3⟩ := k m1 x w h1 h2
  exact ⟨m2, k1, k2, h3.trans k3⟩
theorem awp_wk {c : Code} {Q : Exit → St → Prop} {st st2 : St} (hw : Wk G n0 st st2) (h : Awp P G n0 c Q st2) : Awp P G n0 c Q st := fun mu a w hs hn Q' hQ => by
  obtain ⟨mu2, h1, h2, h3⟩ := hw mu a w hs hn
  exact h mu2 a w h1 h2 Q' fun e mu' st' a' w' k1 k2 k3 k4 => hQ e mu' st' a' w' k1 k2 (h3.trans k3) k4
theorem awp_loop {α : Type} {c : Code} {Q : Exit → St → Prop} {st : St} (S : α → St) (I : α → Prop) (m : α → Nat) (x0 : α) (hI : I x0) (h0 : Wk G n0 st (S x0))
    (round : ∀ x, I x → Awp P G n0 c (thenQ (fun st' => ∃ y, I y ∧ m y < m x ∧ Wk G n0 st' (S y)) Q) (S x)) : Awp P G n0 (.loop c) Q st := by
  intro mu a w hs hn Q' hQ
  obtain ⟨mu0, hs0, hn0, hst0⟩ := h0 mu a w hs hn
  refine wpIn_loop_ghost (fun n a w' => ∃ x mu', m x = n ∧ I x ∧ Sim G mu' (S x) a w' ∧ n0 ≤ (S x).nx ∧ Stay G n0 st.heap mu w (S x).heap mu' w') (m x0) ⟨x0, mu0, rfl, hI, hs0, hn0, hst0⟩ ?_
  rintro n a' w' ⟨x, mu', rfl, hIx, hsx, hnx, hstx⟩
  refine round x hIx mu' a' w' hsx hnx _ fun e mu2 st2 a2 w2 h1 h2 h3 h4 => ?_
  cases e with
  | normal =>
    obtain ⟨y, hy, hlt, hwk⟩ := h4
    obtain ⟨mu3, k1, k2, k3⟩ := hwk mu2 a2 w2 h1 h2
    exact ⟨m y, hlt, y, mu3, rfl, hy, k1, k2, (hstx.trans h3).trans k3⟩
  | _ => exact hQ _ mu2 st2 a2 w2 h1 h2 (hstx.trans h3) h4
end
end Go.Lift
