/-
  The abstract layer, part A: abstract values, the relation to the model's values in a world, abstract heaps. Over whatever program.
-/
import Derived.WalkKit
namespace Go.Lift
set_option linter.unusedSimpArgs false
set_option linter.unusedVariables false

/-- an owned piece of memory: (number, 0) a root, (number, i + 1) row i of a family of rows. -/
abbrev Id := Nat × Nat

inductive AVal where
  | any
  | int (k : IntKind) (n : Int)
  | bool (b : Bool)
  | str (s : List UInt8)
  | nilp
  | nils
  | nilmap
  | nilfn
  | ptr (id : Id) (i off : Nat)
  | vptr (s : Nat) (f : Nat → AVal) (off : Nat)
  | sl (id : Id) (lo n : Nat)
  | vsl (n s : Nat) (f : Nat → Nat → AVal)
  | agg (n : Nat) (f : Nat → AVal)
  | tup (n : Nat) (f : Nat → AVal)
  | fn (g : FuncId) (n : Nat) (f : Nat → AVal)
  | yld (l : Nat) (vs : Array Value) (n : Nat) (f : Nat → AVal)
  | map (id : Id)
  | opt (g : Bool) (v : AVal)
  | ub (p : Prop)

instance : Inhabited AVal := ⟨.any⟩

/-- one cell of memory: neither a struct nor a tuple. -/
def AVal.one : AVal → Bool
  | .any | .agg .. | .tup .. | .opt .. => false
  | _ => true

/-- where an owned piece lies: block, first cell, cells of an element, cells of the block. -/
structure Base where
  b : Nat
  o : Nat
  s : Nat
  sz : Nat

structure Cx where
  w : World
  F : Nat → Prop
  mu : Id → Option Base
  nx : Nat

def Rel (c : Cx) : AVal → Value → Prop
  | .any, _ => True
  | .int k n, x => x = .int k n
  | .bool b, x => x = .bool b
  | .str s, x => x = .string ⟨⟨s⟩⟩
  | .nilp, x => x = .pointer none
  | .nils, x => x = .slice none 0 0
  | .nilmap, x => x = .map none
  | .nilfn, x => x = .nilFunc
  | .ptr id i off, x => id.1 < c.nx ∧ ∃ B, c.mu id = some B ∧ x = .pointer (some ⟨B.b, B.o + i * B.s + off, none⟩)
  | .vptr s f off, x => ∃ b o, x = .pointer (some ⟨b, o + off, none⟩) ∧ ¬ c.F b ∧ b < c.w.heap.size ∧
      ∀ j, j < s → (f j).one = true ∧ ∃ v, c.w.cell? ⟨b, o + j, none⟩ = some v ∧ Rel c (f j) v
  | .sl id lo n, x => id.1 < c.nx ∧ ∃ A cap, x = .slice A n cap ∧ n ≤ cap ∧
      (cap = 0 ∨ ∃ B, c.mu id = some B ∧ A = some ⟨B.b, B.o + lo * B.s, none⟩ ∧ B.o + (lo + cap) * B.s ≤ B.sz)
  | .vsl n s f, x => ∃ A cap, x = .slice A n cap ∧ n ≤ cap ∧ (n = 0 ∨ ∃ b o, A = some ⟨b, o, none⟩ ∧ ¬ c.F b ∧ b < c.w.heap.size ∧
      ∀ i, i < n → ∀ j, j < s → (f i j).one = true ∧ ∃ v, c.w.cell? ⟨b, o + i * s + j, none⟩ = some v ∧ Rel c (f i j) v)
  | .agg n f, x => ∃ cs : Array Value, x = .agg cs ∧ cs.size = n ∧ ∀ j, j < n → Rel c (f j) (cs.getD j undef)
  | .tup n f, x => ∃ cs : Array Value, x = .tuple cs ∧ cs.size = n ∧ ∀ j, j < n → Rel c (f j) (cs.getD j undef)
  | .fn g n f, x => ∃ cs : Array Value, x = .func (.func g) #[] cs ∧ cs.size = n ∧ ∀ j, j < n → Rel c (f j) (cs.getD j undef)
  | .yld l vs n f, x => x = .func (.yield l) #[] #[] ∧ vs.size = n ∧ ∀ j, j < n → Rel c (f j) (vs.getD j undef)
  | .map id, x => id.1 < c.nx ∧ ∃ B, c.mu id = some B ∧ x = .map (some B.b)
  | .opt g v, x => (g = true → Rel c v x) ∧ (g = false → x = undef)
  | .ub p, x => ∃ b, x = .bool b ∧ (b = true → p)

/-- what may change so that related values stay related. -/
structure Cx.Lc (c c' : Cx) : Prop where
  size : c.w.heap.size ≤ c'.w.heap.size
  F : ∀ b, b < c.w.heap.size → ¬ c.F b → ¬ c'.F b
  cell : ∀ b o, b < c.w.heap.size → ¬ c.F b → c'.w.cell? ⟨b, o, none⟩ = c.w.cell? ⟨b, o, none⟩
  nx : c.nx ≤ c'.nx
  mu : ∀ id, id.1 < c.nx → c'.mu id = c.mu id
/-- the same, and blocks for the deferred calls of rounds stay as they are, while they are empty. -/
structure Cx.Le (c c' : Cx) : Prop where
  size : c.w.heap.size ≤ c'.w.heap.size
  F : ∀ b, b < c.w.heap.size → ¬ c.F b → ¬ c'.F b
  cell : ∀ b o, b < c.w.heap.size → ¬ c.F b → c'.w.cell? ⟨b, o, none⟩ = c.w.cell? ⟨b, o, none⟩
  nx : c.nx ≤ c'.nx
  mu : ∀ id, id.1 < c.nx → c'.mu id = c.mu id
  dfr : ∀ D : Nat, c.w.heap[D]? = some (Obj.deferred (some [])) → c'.w.heap[D]? = some (Obj.deferred (some []))
theorem Cx.Le.c {c c' : Cx} (h : c.Le c') : c.Lc c' := ⟨h.size, h.F, h.cell, h.nx, h.mu⟩

theorem Cx.Le.refl (c : Cx) : c.Le c := ⟨Nat.le_refl _, fun _ _ h => h, fun _ _ _ _ => rfl, Nat.le_refl _, fun _ _ => rfl, fun _ h => h⟩
theorem Cx.Le.trans {a b c : Cx} (h : a.Le b) (k : b.Le c) : a.Le c :=
  ⟨Nat.le_trans h.size k.size, fun x hx hf => k.F x (Nat.lt_of_lt_of_le hx h.size) (h.F x hx hf),
   fun x o hx hf => (k.cell x o (Nat.lt_of_lt_of_le hx h.size) (h.F x hx hf)).trans (h.cell x o hx hf),
   Nat.le_trans h.nx k.nx, fun id hid => (k.mu id (Nat.lt_of_lt_of_le hid h.nx)).trans (h.mu id hid), fun D hD => k.dfr D (h.dfr D hD)⟩

theorem Rel.monoC {c c' : Cx} (h : c.Lc c') : ∀ (v : AVal) (x : Value), Rel c v x → Rel c' v x := by
  intro v
  induction v with
  | any => intro x _; trivial
  | int k n => intro x hx; exact hx
  | bool b => intro x hx; exact hx
  | str s => intro x hx; exact hx
  | nilp => intro x hx; exact hx
  | nils => intro x hx; exact hx
  | nilmap => intro x hx; exact hx
  | nilfn => intro x hx; exact hx
  | ptr id i off =>
    rintro x ⟨h1, B, hB, hx⟩
    exact ⟨Nat.lt_of_lt_of_le h1 h.nx, B, (h.mu id h1).trans hB, hx⟩
  | vptr s f off ih =>
    rintro x ⟨b, o, hx, hF, hb, hc⟩
    refine ⟨b, o, hx, h.F b hb hF, Nat.lt_of_lt_of_le hb h.size, fun j hj => ?_⟩
    obtain ⟨h1, v, hv, hr⟩ := hc j hj
    exact ⟨h1, v, (h.cell b _ hb hF).trans hv, ih j v hr⟩
  | sl id lo n =>
    rintro x ⟨h1, A, cap, hx, hn, hc⟩
    refine ⟨Nat.lt_of_lt_of_le h1 h.nx, A, cap, hx, hn, ?_⟩
    rcases hc with hc | ⟨B, hB, hA⟩
    · exact .inl hc
    · exact .inr ⟨B, (h.mu id h1).trans hB, hA⟩
  | vsl n s f ih =>
    rintro x ⟨A, cap, hx, hn, hc⟩
    refine ⟨A, cap, hx, hn, ?_⟩
    rcases hc with hc | ⟨b, o, hA, hF, hb, hc⟩
    · exact .inl hc
    · refine .inr ⟨b, o, hA, h.F b hb hF, Nat.lt_of_lt_of_le hb h.size, fun i hi j hj => ?_⟩
      obtain ⟨h1, v, hv, hr⟩ := hc i hi j hj
      exact ⟨h1, v, (h.cell b _ hb hF).trans hv, ih i j v hr⟩
  | agg n f ih =>
    rintro x ⟨cs, hx, hs, hc⟩
    exact ⟨cs, hx, hs, fun j hj => ih j _ (hc j hj)⟩
  | tup n f ih =>
    rintro x ⟨cs, hx, hs, hc⟩
    exact ⟨cs, hx, hs, fun j hj => ih j _ (hc j hj)⟩
  | fn g n f ih =>
    rintro x ⟨cs, hx, hs, hc⟩
    exact ⟨cs, hx, hs, fun j hj => ih j _ (hc j hj)⟩
  | yld l vs n f ih =>
    rintro x ⟨hx, hs, hc⟩
    exact ⟨hx, hs, fun j hj => ih j _ (hc j hj)⟩
  | map id =>
    rintro x ⟨h1, B, hB, hx⟩
    exact ⟨Nat.lt_of_lt_of_le h1 h.nx, B, (h.mu id h1).trans hB, hx⟩
  | opt g v ih => intro x hx; exact ⟨fun hg => ih x (hx.1 hg), hx.2⟩
  | ub p => intro x hx; exact hx

theorem Rel.mono {c c' : Cx} (h : c.Le c') : ∀ (v : AVal) (x : Value), Rel c v x → Rel c' v x := Rel.monoC h.c

theorem Rel.one {c : Cx} {v : AVal} {x : Value} (hv : v.one = true) (h : Rel c v x) : x.oneCell' = true := by
  cases v <;> simp [AVal.one] at hv <;> simp only [Rel] at h
  case ptr => obtain ⟨_, _, _, rfl⟩ := h; rfl
  case vptr => obtain ⟨_, _, rfl, _⟩ := h; rfl
  case sl => obtain ⟨_, _, _, rfl, _⟩ := h; rfl
  case vsl => obtain ⟨_, _, rfl, _⟩ := h; rfl
  case fn => obtain ⟨_, rfl, _⟩ := h; rfl
  case yld => obtain ⟨rfl, _⟩ := h; rfl
  case map => obtain ⟨_, _, _, rfl⟩ := h; rfl
  case ub => obtain ⟨_, rfl, _⟩ := h; rfl
  all_goals (subst h; rfl)

/-- a constant of the program as an abstract value. -/
def ofValue : Value → AVal
  | .int k n => .int k n
  | .bool b => .bool b
  | .string s => .str s.data.toList
  | .pointer none => .nilp
  | .slice none 0 0 => .nils
  | .map none => .nilmap
  | .nilFunc => .nilfn
  | _ => .any

theorem ofValue_rel (c : Cx) (x : Value) : Rel c (ofValue x) x := by
  cases x with
  | pointer a => cases a <;> simp [ofValue, Rel]
  | slice a n m =>
    cases a with
    | some _ => simp [ofValue, Rel]
    | none =>
      by_cases hn : n = 0
      · by_cases hm : m = 0
        · subst hn hm; simp [ofValue, Rel]
        · unfold ofValue
          split <;> simp_all [Rel]
      · unfold ofValue
        split <;> simp_all [Rel]
  | map a => cases a <;> simp [ofValue, Rel]
  | _ => simp [ofValue, Rel]

end Go.Lift
