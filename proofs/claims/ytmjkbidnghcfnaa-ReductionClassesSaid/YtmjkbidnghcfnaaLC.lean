/-
  The abstract layer, part C: types; loads, stores, addresses, new memory.
-/
import Derived.Test.YtmjkbidnghcfnaaLB
import Derived.Laws.StructEq
namespace Go.Lift
set_option linter.unusedSimpArgs false
set_option linter.unusedVariables false
open Go.RowKit

inductive TK where
  | int (k : IntKind)
  | bool
  | str
  | slice (e : TypeId)
  | map (k e : TypeId)
  | struct (l : List (Nat × TypeId))
  | ptr (e : TypeId)
  | func
structure TI where
  k : TK
  size : Nat
  bytes : Nat
  zero : Nat → AVal
  eq : Bool

def TK.agg : TK → Bool
  | .struct _ => true
  | _ => false

def TK.ok (P : Program) (t : TypeId) : TK → Prop
  | .int k => P.underlying t = some (.int k)
  | .bool => P.underlying t = some .bool
  | .str => P.underlying t = some .string
  | .slice e => P.underlying t = some (.slice e)
  | .map k e => P.underlying t = some (.map k e)
  | .struct l => ∃ fs pl, P.underlying t = some (.struct fs) ∧ fs.toList.mapM (fun f => (P.info? f.type).map fun i => (f.offset, i.size)) = some pl ∧ ∀ (k o : Nat) (ft : TypeId), l[k]? = some (o, ft) → ∃ f : Field, fs[k]? = some f ∧ f.offset = o ∧ f.type = ft
  | .ptr e => P.underlying t = some (.pointer e)
  | .func => ∃ a b c, P.underlying t = some (.func a b c)

/-- structs whose fields may be compared cell by cell. -/
structure EqOK (P : Program) (t : TypeId) (l : List (Nat × TypeId)) : Prop where
  und : P.underlying t = some (.struct (P.fieldsOf t))
  held : P.stoodInHeld t = false
  guard : P.eqGuardType P.depth t = false
  fields : (P.fieldsOf t).toList.map (fun f => (f.offset, f.type)) = l
  names : ∀ f ∈ (P.fieldsOf t).toList, f.name ≠ "_"

structure TIok (P : Program) (t : TypeId) (i : TI) : Prop where
  info : ∃ (j : TypeInfo) (z : Value), P.info? t = some j ∧ j.size = i.size ∧ j.bytes = i.bytes ∧ j.zero = some z ∧ z.cells.size = i.size ∧
    (i.k.agg = true → z = .agg z.cells) ∧ (i.k.agg = false → z.cells = #[z]) ∧ ∀ m, m < i.size → i.zero m = ofValue (z.cells.getD m undef) ∧ (i.zero m).one = true
  kind : i.k.ok P t
  one : i.k.agg = false → i.size = 1
  eqv : i.eq = true → ∀ l, i.k = .struct l → EqOK P t l

abbrev Tab := TypeId → Option TI
def TabOK (P : Program) (T : Tab) : Prop := ∀ t i, T t = some i → TIok P t i

def acell : AVal → Nat → AVal
  | .agg _ f, j => f j
  | v, _ => v
def allLt : Nat → (Nat → Bool) → Bool
  | 0, _ => true
  | n + 1, p => p n && allLt n p
theorem allLt_spec {p : Nat → Bool} : ∀ {n : Nat}, allLt n p = true → ∀ j, j < n → p j = true
  | 0, _, _, h => absurd h (Nat.not_lt_zero _)
  | n + 1, h, j, hj => by
    simp only [allLt, Bool.and_eq_true] at h
    rcases Nat.lt_succ_iff_lt_or_eq.1 hj with h1 | h1
    · exact allLt_spec h.2 j h1
    · rw [h1]; exact h.1
/-- a value fits a variable of the type. -/
def fits (i : TI) (v : AVal) : Bool :=
  match v with
  | .agg n _ => i.k.agg && n == i.size && allLt i.size (fun j => (acell v j).one)
  | v => !i.k.agg && v.one
def mkL (i : TI) (f : Nat → AVal) : AVal := match i.k.agg with
  | true => .agg i.size f
  | false => f 0

theorem acell_one {v : AVal} (h : v.one = true) (j : Nat) : acell v j = v := by
  cases v <;> simp [AVal.one] at h <;> rfl

theorem fits_spec {P : Program} {t : TypeId} {i : TI} (ht : TIok P t i) {v : AVal} (hf : fits i v = true) {c : Cx} {x : Value} (h : Rel c v x) :
    x.cells.size = i.size ∧ ∀ j, j < i.size → (acell v j).one = true ∧ Rel c (acell v j) (x.cells.getD j undef) := by
  by_cases hv : v.one = true
  · have hag : i.k.agg = false := by
      cases v <;> simp [AVal.one] at hv <;> simp [fits] at hf <;> first | exact hf | exact hf.1
    have h1 := ht.one hag
    have hx := Rel.one hv h
    have hc : x.cells = #[x] := by cases x <;> first | rfl | simp [Value.oneCell'] at hx
    rw [hc, h1]
    refine ⟨rfl, fun j hj => ?_⟩
    have : j = 0 := by omega
    subst this
    rw [acell_one hv]
    exact ⟨hv, h⟩
  · cases v <;> simp [AVal.one] at hv <;> simp [fits, AVal.one] at hf
    rename_i n f
    obtain ⟨⟨hag, hn⟩, hall⟩ := hf
    obtain ⟨cs, rfl, hs, hr⟩ := h
    refine ⟨by show cs.size = _; omega, fun j hj => ⟨allLt_spec hall j hj, ?_⟩⟩
    exact hr j (by omega)

section
variable {P : Program} {t : TypeId} {i : TI} (w : World)

theorem TIok.run_info (ht : TIok P t i) : ∃ j z, P.info? t = some j ∧ j.size = i.size ∧ j.bytes = i.bytes ∧ j.zero = some z ∧ z.cells.size = i.size ∧
    ∀ m, m < i.size → ∀ c, Rel c (i.zero m) (z.cells.getD m undef) ∧ (i.zero m).one = true := by
  obtain ⟨j, z, h1, h2, h3, h4, h5, _, _, h8⟩ := ht.info
  exact ⟨j, z, h1, h2, h3, h4, h5, fun m hm c => ⟨by rw [(h8 m hm).1]; exact ofValue_rel c _, (h8 m hm).2⟩⟩

theorem TIok.run_isAgg (ht : TIok P t i) : (isAgg t).run P w = .ok i.k.agg w := by
  have hk := ht.kind
  unfold isAgg
  cases hk' : i.k with
  | struct l =>
    rw [hk'] at hk
    obtain ⟨fs, _, hu, _⟩ := hk
    simp [run_underlying hu, TK.agg]
  | func =>
    rw [hk'] at hk
    obtain ⟨a, b, c, hu⟩ := hk
    simp [run_underlying hu, TK.agg]
  | _ =>
    rw [hk'] at hk
    simp only [TK.ok] at hk
    simp [run_underlying hk, TK.agg]

theorem TIok.run_sizeOf (ht : TIok P t i) : (sizeOf t).run P w = .ok i.size w := by
  obtain ⟨j, z, h1, h2, _⟩ := ht.info
  simp [sizeOf, typeInfo, h1, h2]

theorem good_load (ht : TIok P t i) {c : Cx} (hcw : c.w = w) (f : Nat → AVal) (b o : Nat)
    (hc : ∀ j, j < i.size → ∃ v, w.cell? ⟨b, o + j, none⟩ = some v ∧ Rel c (f j) v) :
    ∃ x, (∀ w' : World, (∀ j, j < i.size → w'.cell? ⟨b, o + j, none⟩ = w.cell? ⟨b, o + j, none⟩) → (loadVar t ⟨b, o, none⟩).run P w' = .ok x w') ∧ Rel c (mkL i f) x := by
  subst hcw
  unfold loadVar mkL
  cases hag : i.k.agg with
  | false =>
    have h1 := ht.one hag
    obtain ⟨v, hv, hr⟩ := hc 0 (by omega)
    refine ⟨v, fun w' hw' => ?_, hr⟩
    have hv' : w'.cell? ⟨b, o, none⟩ = some v := (hw' 0 (by omega)).trans hv
    simp [ht.run_isAgg, hag, run_load, hv']
  | true =>
    let g : Nat → Value := fun j => (c.w.cell? ⟨b, o + j, none⟩).getD undef
    have hl := fun (w' : World) (hw' : ∀ j, j < i.size → w'.cell? ⟨b, o + j, none⟩ = c.w.cell? ⟨b, o + j, none⟩) => run_loadCells (P := P) w' ⟨b, o, none⟩ i.size g (fun j hj => by
      obtain ⟨v, hv, _⟩ := hc j hj
      rw [Addr.add_lit, hw' j hj]
      simp only [g, hv, Option.getD_some])
    refine ⟨.agg ((List.range i.size).map g).toArray, fun w' hw' => ?_, ?_⟩
    · simp [ht.run_isAgg, hag, ht.run_sizeOf, hl w' hw']
    · refine ⟨_, rfl, by simp, fun j hj => ?_⟩
      obtain ⟨v, hv, hr⟩ := hc j hj
      have : ((List.range i.size).map g).toArray.getD j undef = v := by simp [Array.getD, hj, g, hv]
      rw [this]
      exact hr

theorem run_store_cells (ht : TIok P t i) (x : Value) (b o : Nat) (cur : Array Value) (T : TypeId) (hx : x.cells.size = i.size) (h1 : ∀ j, j < i.size → (x.cells.getD j undef).oneCell' = true)
    (hb : w.heap[b]? = some (.cells cur T (0, 0))) (hle : o + i.size ≤ cur.size) :
    ∃ cur', (storeVar t ⟨b, o, none⟩ x).run P w = .ok () (w.setRow b cur') ∧ cur'.size = cur.size ∧ (∀ j, j < i.size → cur'[o + j]? = some (x.cells.getD j undef)) ∧
      ∀ k, (k < o ∨ o + i.size ≤ k) → cur'[k]? = cur[k]? := by
  have hall : ∀ v ∈ x.cells.toList, v.oneCell' = true := by
    intro v hv
    obtain ⟨k, hk, rfl⟩ := List.mem_iff_getElem.1 hv
    have hk' : k < x.cells.size := by simpa using hk
    have := h1 k (by omega)
    simpa [Array.getD, hk'] using this
  have hs := run_storeCells_at P b o T x.cells.toList 0 cur w hb (by simp; omega) hall
  have hlen : x.cells.toList.length = x.cells.size := by simp
  refine ⟨(List.take (o + 0) cur.toList ++ x.cells.toList ++ List.drop (o + 0 + x.cells.toList.length) cur.toList).toArray, ?_, ?_, fun j hj => ?_, fun k hk => ?_⟩
  · unfold storeVar
    simp only [Sem.run_bind, ht.run_sizeOf, Result.andThen_ok, hx, ne_eq, not_true_eq_false, if_false]
    exact hs
  · simp; omega
  · have hj' : j < x.cells.size := by omega
    simp only [List.getElem?_toArray, Nat.add_zero]
    rw [List.getElem?_append_left (by simp; omega), List.getElem?_append_right (by simp; omega)]
    simp only [List.length_take, Array.length_toList]
    rw [show o + j - min o cur.size = j by omega]
    simp [Array.getD, hj']
  · simp only [List.getElem?_toArray, Nat.add_zero]
    rcases hk with hk | hk
    · rw [List.getElem?_append_left (by simp; omega), List.getElem?_append_left (by simp; omega)]
      simp [List.getElem?_take, hk]
    · rw [List.getElem?_append_right (by simp; omega)]
      simp only [List.length_append, List.length_take, Array.length_toList, List.getElem?_drop]
      rw [show o + x.cells.size + (k - (min o cur.size + x.cells.size)) = k by omega]
      simp
end
end Go.Lift
