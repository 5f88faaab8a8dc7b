/- Parts of the proof: LA. -/
import Derived.WalkKit
import Derived.Laws.StructEq
namespace Go.Lift
set_option linter.unusedSimpArgs false
set_option linter.unusedVariables false
abbrev Id := Nat × Nat
inductive AVal where
  | any
  | int (k : IntKind) (n : Int)
  | bool (b : Bool)
  | str (s : List UInt8)
  | nilp
  | nils
  | nilmap
  | nilfn
  | ptr (id : Id) (i off : Nat)
  | vptr (s : Nat) (f : Nat → AVal) (off : Nat)
  | sl (id : Id) (lo n : Nat)
  | vsl (n s : Nat) (f : Nat → Nat → AVal)
  | agg (n : Nat) (f : Nat → AVal)
  | tup (n : Nat) (f : Nat → AVal)
  | fn (g : FuncId) (n : Nat) (f : Nat → AVal)
  | bnd (g : FuncId) (v : AVal)
  | yld (l : Nat) (vs : Array Value) (n : Nat) (f : Nat → AVal)
  | map (id : Id)
  | opt (g : Bool) (v : AVal)
  | ub (p : Prop)
instance : Inhabited AVal := ⟨.any⟩
def AVal.one : AVal → Bool
  | .any | .agg .. | .tup .. | .opt .. => false
  | _ => true
structure Base where
  b : Nat
  o : Nat
  s : Nat
  sz : Nat
structure Cx where
  w : World
  F : Nat → Prop
  mu : Id → Option Base
  nx : Nat
def Rel (c : Cx) : AVal → Value → Prop
  | .any, _ => True
  | .int k n, x => x = .int k n
  | .bool b, x => x = .bool b
  | .str s, x => x = .string ⟨⟨s⟩⟩
  | .nilp, x => x = .pointer none
  | .nils, x => x = .slice none 0 0
  | .nilmap, x => x = .map none
  | .nilfn, x => x = .nilFunc
  | .ptr id i off, x => id.1 < c.nx ∧ ∃ B, c.mu id = some B ∧ x = .pointer (some ⟨B.b, B.o + i * B.s + off, none⟩)
  | .vptr s f off, x => ∃ b o, x = .pointer (some ⟨b, o + off, none⟩) ∧ ¬ c.F b ∧ b < c.w.heap.size ∧
      ∀ j, j < s → (f j).one = true ∧ ∃ v, c.w.cell? ⟨b, o + j, none⟩ = some v ∧ Rel c (f j) v
  | .sl id lo n, x => id.1 < c.nx ∧ ∃ A cap, x = .slice A n cap ∧ n ≤ cap ∧
      (cap = 0 ∨ ∃ B, c.mu id = some B ∧ A = some ⟨B.b, B.o + lo * B.s, none⟩ ∧ B.o + (lo + cap) * B.s ≤ B.sz)
  | .vsl n s f, x => ∃ A cap, x = .slice A n cap ∧ n ≤ cap ∧ (n = 0 ∨ ∃ b o, A = some ⟨b, o, none⟩ ∧ ¬ c.F b ∧ b < c.w.heap.size ∧
      ∀ i, i < n → ∀ j, j < s → (f i j).one = true ∧ ∃ v, c.w.cell? ⟨b, o + i * s + j, none⟩ = some v ∧ Rel c (f i j) v)
  | .agg n f, x => ∃ cs : Array Value, x = .agg cs ∧ cs.size = n ∧ ∀ j, j < n → Rel c (f j) (cs.getD j undef)
  | .tup n f, x => ∃ cs : Array Value, x = .tuple cs ∧ cs.size = n ∧ ∀ j, j < n → Rel c (f j) (cs.getD j undef)
  | .fn g n f, x => ∃ cs : Array Value, x = .func (.func g) #[] cs ∧ cs.size = n ∧ ∀ j, j < n → Rel c (f j) (cs.getD j undef)
  | .bnd g v, x => ∃ y, x = .func (.func g) #[y] #[] ∧ Rel c v y
  | .yld l vs n f, x => x = .func (.yield l) #[] #[] ∧ vs.size = n ∧ ∀ j, j < n → Rel c (f j) (vs.getD j undef)
  | .map id, x => id.1 < c.nx ∧ ∃ B, c.mu id = some B ∧ x = .map (some B.b)
  | .opt g v, x => (g = true → Rel c v x) ∧ (g = false → x = undef)
  | .ub p, x => ∃ b, x = .bool b ∧ (b = true → p)
structure Cx.Lc (c c' : Cx) : Prop where
  size : c.w.heap.size ≤ c'.w.heap.size
  F : ∀ b, b < c.w.heap.size → ¬ c.F b → ¬ c'.F b
  cell : ∀ b o, b < c.w.heap.size → ¬ c.F b → c'.w.cell? ⟨b, o, none⟩ = c.w.cell? ⟨b, o, none⟩
  nx : c.nx ≤ c'.nx
  mu : ∀ id, id.1 < c.nx → c'.mu id = c.mu id
structure Cx.Le (c c' : Cx) : Prop where
  size : c.w.heap.size ≤ c'.w.heap.size
  F : ∀ b, b < c.w.heap.size → ¬ c.F b → ¬ c'.F b
  cell : ∀ b o, b < c.w.heap.size → ¬ c.F b → c'.w.cell? ⟨b, o, none⟩ = c.w.cell? ⟨b, o, none⟩
  nx : c.nx ≤ c'.nx
  mu : ∀ id, id.1 < c.nx → c'.mu id = c.mu id
  dfr : ∀ D : Nat, c.w.heap[D]? = some (Obj.deferred (some [])) → c'.w.heap[D]? = some (Obj.deferred (some []))
theorem Cx.Le.c {c c' : Cx} (h : c.Le c') : c.Lc c' := ⟨h.size, h.F, h.cell, h.nx, h.mu⟩
theorem Cx.Le.refl (c : Cx) : c.Le c := ⟨Nat.le_refl _, fun _ _ h => h, fun _ _ _ _ => rfl, Nat.le_refl _, fun _ _ => rfl, fun _ h => h⟩
theorem Cx.Le.trans {a b c : Cx} (h : a.Le b) (k : b.Le c) : a.Le c :=
  ⟨Nat.le_trans h.size k.size, fun x hx hf => k.F x (Nat.lt_of_lt_of_le hx h.size) (h.F x hx hf),
   fun x o hx hf => (k.cell x o (Nat.lt_of_lt_of_le hx h.size) (h.F x hx hf)).trans (h.cell x o hx hf),
   Nat.le_trans h.nx k.nx, fun id hid => (k.mu id (Nat.lt_of_lt_of_le hid h.nx)).trans (h.mu id hid), fun D hD => k.dfr D (h.dfr D hD)⟩
theorem Rel.monoC {c c' : Cx} (h : c.Lc c') : ∀ (v : AVal) (x : Value), Rel c v x → Rel c' v x := by
  intro v
  induction v with
  | any => intro x _; trivial
  | int k n => intro x hx; exact hx
  | bool b => intro x hx; exact hx
  | str s => intro x hx; exact hx
  | nilp => intro x hx; exact hx
  | nils => intro x hx; exact hx
  | nilmap => intro x hx; exact hx
  | nilfn => intro x hx; exact hx
  | ptr id i off =>
    rintro x ⟨h1, B, hB, hx⟩
    exact ⟨Nat.lt_of_lt_of_le h1 h.nx, B, (h.mu id h1).trans hB, hx⟩
  | vptr s f off ih =>
    rintro x ⟨b, o, hx, hF, hb, hc⟩
    refine ⟨b, o, hx, h.F b hb hF, Nat.lt_of_lt_of_le hb h.size, fun j hj => ?_⟩
    obtain ⟨h1, v, hv, hr⟩ := hc j hj
    exact ⟨h1, v, (h.cell b _ hb hF).trans hv, ih j v hr⟩
  | sl id lo n =>
    rintro x ⟨h1, A, cap, hx, hn, hc⟩
    refine ⟨Nat.lt_of_lt_of_le h1 h.nx, A, cap, hx, hn, ?_⟩
    rcases hc with hc | ⟨B, hB, hA⟩
    · exact .inl hc
    · exact .inr ⟨B, (h.mu id h1).trans hB, hA⟩
  | vsl n s f ih =>
    rintro x ⟨A, cap, hx, hn, hc⟩
    refine ⟨A, cap, hx, hn, ?_⟩
    rcases hc with hc | ⟨b, o, hA, hF, hb, hc⟩
    · exact .inl hc
    · refine .inr ⟨b, o, hA, h.F b hb hF, Nat.lt_of_lt_of_le hb h.size, fun i hi j hj => ?_⟩
      obtain ⟨h1, v, hv, hr⟩ := hc i hi j hj
      exact ⟨h1, v, (h.cell b _ hb hF).trans hv, ih i j v hr⟩
  | agg n f ih =>
    rintro x ⟨cs, hx, hs, hc⟩
    exact ⟨cs, hx, hs, fun j hj => ih j _ (hc j hj)⟩
  | tup n f ih =>
    rintro x ⟨cs, hx, hs, hc⟩
    exact ⟨cs, hx, hs, fun j hj => ih j _ (hc j hj)⟩
  | fn g n f ih =>
    rintro x ⟨cs, hx, hs, hc⟩
    exact ⟨cs, hx, hs, fun j hj => ih j _ (hc j hj)⟩
  | bnd g v ih =>
    rintro x ⟨y, hx, hy⟩
    exact ⟨y, hx, ih y hy⟩
  | yld l vs n f ih =>
    rintro x ⟨hx, hs, hc⟩
    exact ⟨hx, hs, fun j hj => ih j _ (hc j hj)⟩
  | map id =>
    rintro x ⟨h1, B, hB, hx⟩
    exact ⟨Nat.lt_of_lt_of_le h1 h.nx, B, (h.mu id h1).trans hB, hx⟩
  | opt g v ih => intro x hx; exact ⟨fun hg => ih x (hx.1 hg), hx.2⟩
  | ub p => intro x hx; exact hx
theorem Rel.mono {c c' : Cx} (h : c.Le c') : ∀ (v : AVal) (x : Value), Rel c v x → Rel c' v x := Rel.monoC h.c
theorem Rel.one {c : Cx} {v : AVal} {x : Value} (hv : v.one = true) (h : Rel c v x) : x.oneCell' = true := by
  cases v <;> simp [AVal.one] at hv <;> simp only [Rel] at h
  case ptr => obtain ⟨_, _, _, rfl⟩ := h; rfl
  case vptr => obtain ⟨_, _, rfl, _⟩ := h; rfl
  case sl => obtain ⟨_, _, _, rfl, _⟩ := h; rfl
  case vsl => obtain ⟨_, _, rfl, _⟩ := h; rfl
  case fn => obtain ⟨_, rfl, _⟩ := h; rfl
  case bnd => obtain ⟨_, rfl, _⟩ := h; rfl
  case yld => obtain ⟨rfl, _⟩ := h; rfl
  case map => obtain ⟨_, _, _, rfl⟩ := h; rfl
  case ub => obtain ⟨_, rfl, _⟩ := h; rfl
  all_goals (subst h; rfl)
def ofValue : Value → AVal
  | .int k n => .int k n
  | .bool b => .bool b
  | .string s => .str s.data.toList
  | .pointer none => .nilp
  | .slice none 0 0 => .nils
  | .map none => .nilmap
  | .nilFunc => .nilfn
  | _ => .any
theorem ofValue_rel (c : Cx) (x : Value) : Rel c (ofValue x) x := by
  cases x with
  | pointer a => cases a <;> simp [ofValue, Rel]
  | slice a n m =>
    cases a with
    | some _ => simp [ofValue, Rel]
    | none =>
      by_cases hn : n = 0
      · by_cases hm : m = 0
        · subst hn hm; simp [ofValue, Rel]
        · unfold ofValue
          split <;> simp_all [Rel]
      · unfold ofValue
        split <;> simp_all [Rel]
  | map a => cases a <;> simp [ofValue, Rel]
  | _ => simp [ofValue, Rel]
end Go.Lift
namespace Go.Lift
set_option linter.unusedSimpArgs false
set_option linter.unusedVariables false
open Go.RowKit
def bare : Obj → Prop
  | .cells .. => False
  | .map .. => False
  | .deferred _ => False
  | _ => True
structure MQ where
  mb : Nat
  clk : Nat
  bs : List Nat
inductive HObj where
  | arr (n s : Nat) (f : Nat → Nat → AVal)
  | mp (l : List (AVal × AVal))
  | ob (p : Nat → Obj → Prop)
  | mi (q : MQ) (l : List (AVal × AVal))
def Born (es : List MapEntry) (clk : Nat) : Prop := (es.map (·.born)).Nodup ∧ ∀ e ∈ es, e.born < clk
inductive HEnt where
  | one (o : HObj)
  | fam (o : HObj) (r : Nat → Option HObj)
  | typ (t : TypeId) (o : HObj)
abbrev Heap := List (Nat × HEnt)
abbrev Env := List (Nat × AVal)
def HEnt.get : HEnt → Nat → Option HObj
  | .one o, 0 => some o
  | .one _, _ + 1 => none
  | .fam o _, 0 => some o
  | .fam _ r, i + 1 => r i
  | .typ _ o, 0 => some o
  | .typ _ _, _ + 1 => none
def HEnt.set : HEnt → Nat → HObj → HEnt
  | .one _, 0, o => .one o
  | .one p, _ + 1, _ => .one p
  | .fam _ r, 0, o => .fam o r
  | .fam p r, i + 1, o => .fam p (fun j => if j = i then some o else r j)
  | .typ t _, 0, o => .typ t o
  | .typ t p, _ + 1, _ => .typ t p
def HEnt.del (e : HEnt) (i : Nat) : HEnt :=
  match e with
  | .one o => .one o
  | .fam o r => .fam o (fun j => if j = i then none else r j)
  | .typ t o => .typ t o
def HEnt.ty : HEnt → Nat → Option TypeId
  | .typ t _, 0 => some t
  | _, _ => none
def lkH : Heap → Id → Option HObj
  | [], _ => none
  | (k, e) :: h, id => if k = id.1 then e.get id.2 else lkH h id
def setH : Heap → Id → HObj → Heap
  | [], _, _ => []
  | (k, e) :: h, id, o => if k = id.1 then (k, e.set id.2 o) :: h else (k, e) :: setH h id o
def delH (h : Heap) (id : Id) : Heap :=
  match id.2 with
  | 0 => h.filter (fun e => !(e.1 == id.1))
  | i + 1 => h.map (fun e => if e.1 = id.1 then (e.1, e.2.del i) else e)
def tyH : Heap → Id → Option TypeId
  | [], _ => none
  | (k, e) :: h, id => if k = id.1 then e.ty id.2 else tyH h id
def lk : Env → Nat → AVal
  | [], _ => .any
  | (k, v) :: e, t => if k = t then v else lk e t
theorem HEnt.get_set (e : HEnt) (i j : Nat) (o : HObj) (h : (e.get i).isSome = true) : (e.set i o).get j = if j = i then some o else e.get j := by
  cases e <;> cases i <;> cases j <;> simp_all [HEnt.get, HEnt.set]
theorem lkH_setH : ∀ (h : Heap) (id id' : Id) (o : HObj), (lkH h id).isSome = true → lkH (setH h id o) id' = if id' = id then some o else lkH h id'
  | [], _, _, _, hs => by simp [lkH] at hs
  | (k, e) :: h, id, id', o, hs => by
    simp only [lkH] at hs
    by_cases hk : k = id.1
    · simp only [hk, if_true] at hs
      simp only [setH, hk, if_true, lkH]
      by_cases h1 : id.1 = id'.1
      · simp only [h1, if_true]
        rw [HEnt.get_set _ _ _ _ hs]
        by_cases h2 : id'.2 = id.2
        · rw [if_pos h2, if_pos (Prod.ext h1.symm h2)]
        · rw [if_neg h2, if_neg (fun e => h2 (by rw [e]))]
      · simp only [h1, if_false]
        rw [if_neg (fun e => h1 (by rw [e]))]
    · simp only [hk, if_false] at hs
      simp only [setH, hk, if_false, lkH]
      have ih := lkH_setH h id id' o hs
      by_cases h1 : k = id'.1
      · rw [if_pos h1, if_pos h1, if_neg (fun e => hk (by rw [← e]; exact h1))]
      · rw [if_neg h1, if_neg h1]; exact ih
theorem lkH_delH (h : Heap) (id id' : Id) (o : HObj) (hs : lkH (delH h id) id' = some o) : lkH h id' = some o ∧ id' ≠ id := by
  unfold delH at hs
  split at hs
  · rename_i h0
    induction h with
    | nil => simp [lkH] at hs
    | cons e h ih =>
      obtain ⟨k, e⟩ := e
      by_cases hk : k = id.1
      · have : (List.filter (fun e : Nat × HEnt => !(e.1 == id.1)) ((k, e) :: h)) = List.filter (fun e : Nat × HEnt => !(e.1 == id.1)) h := by simp [hk]
        rw [this] at hs
        have := ih hs
        refine ⟨?_, this.2⟩
        simp only [lkH]
        by_cases h1 : k = id'.1
        · exfalso
          -- no entry of the filtered heap has this key
          have hno : ∀ (g : Heap), lkH (g.filter (fun e => !(e.1 == id.1))) id' = none := by
            intro g
            induction g with
            | nil => rfl
            | cons a g ihg =>
              obtain ⟨ka, ea⟩ := a
              by_cases hka : ka = id.1
              · simpa [hka] using ihg
              · simp only [List.filter_cons, hka, Bool.not_eq_true', beq_eq_false_iff_ne, ne_eq, not_false_eq_true, if_true, lkH]
                rw [if_neg (fun e => hka (by rw [e, ← h1, hk]))]
                exact ihg
          rw [hno] at hs
          cases hs
        · rw [if_neg h1]; exact this.1
      · have : (List.filter (fun e : Nat × HEnt => !(e.1 == id.1)) ((k, e) :: h)) = (k, e) :: List.filter (fun e : Nat × HEnt => !(e.1 == id.1)) h := by simp [hk]
        rw [this] at hs
        simp only [lkH] at hs ⊢
        by_cases h1 : k = id'.1
        · rw [if_pos h1] at hs
          rw [if_pos h1]
          exact ⟨hs, fun e => hk (by rw [← e]; exact h1)⟩
        · rw [if_neg h1] at hs
          rw [if_neg h1]
          exact ih hs
  · rename_i i hi
    induction h with
    | nil => simp [lkH] at hs
    | cons e h ih =>
      obtain ⟨k, e⟩ := e
      by_cases hk : k = id.1
      · simp only [List.map_cons, hk, if_true, lkH] at hs ⊢
        by_cases h1 : id.1 = id'.1
        · simp only [h1, if_true] at hs ⊢
          cases e with
          | one p =>
            cases h2 : id'.2 with
            | zero => simp only [h2, HEnt.del, HEnt.get] at hs ⊢; exact ⟨hs, fun e => by rw [e] at h2; omega⟩
            | succ j => simp [h2, HEnt.del, HEnt.get] at hs
          | fam p r =>
            cases h2 : id'.2 with
            | zero => simp only [h2, HEnt.del, HEnt.get] at hs ⊢; exact ⟨hs, fun e => by rw [e] at h2; omega⟩
            | succ j =>
              simp only [h2, HEnt.del, HEnt.get] at hs ⊢
              by_cases hj : j = i
              · simp [hj] at hs
              · rw [if_neg hj] at hs; exact ⟨hs, fun e => hj (by rw [e] at h2; omega)⟩
          | typ t p =>
            cases h2 : id'.2 with
            | zero => simp only [h2, HEnt.del, HEnt.get] at hs ⊢; exact ⟨hs, fun e => by rw [e] at h2; omega⟩
            | succ j => simp [h2, HEnt.del, HEnt.get] at hs
        · simp only [h1, if_false] at hs ⊢
          exact ih hs
      · simp only [List.map_cons, hk, if_false, lkH] at hs ⊢
        by_cases h1 : k = id'.1
        · rw [if_pos h1] at hs
          rw [if_pos h1]
          exact ⟨hs, fun e => hk (by rw [← e]; exact h1)⟩
        · rw [if_neg h1] at hs
          rw [if_neg h1]
          exact ih hs
theorem HEnt.ty_get {e : HEnt} {i : Nat} {t : TypeId} (h : e.ty i = some t) : ∃ o, e.get i = some o := by
  cases e with
  | typ t' o => cases i with
    | zero => exact ⟨o, rfl⟩
    | succ i => cases h
  | _ => cases h
theorem HEnt.ty_set {e : HEnt} {i j : Nat} {o : HObj} : (e.set i o).ty j = e.ty j := by
  cases e <;> cases i <;> cases j <;> rfl
theorem HEnt.ty_del {e : HEnt} {i j : Nat} : (e.del i).ty j = e.ty j := by
  cases e <;> cases j <;> rfl
theorem tyH_lk : ∀ {h : Heap} {id : Id} {t : TypeId}, tyH h id = some t → ∃ o, lkH h id = some o
  | [], _, _, h => by cases h
  | (k, e) :: h, id, t, ht => by
    simp only [tyH] at ht
    simp only [lkH]
    by_cases hk : k = id.1
    · rw [if_pos hk] at ht ⊢; exact HEnt.ty_get ht
    · rw [if_neg hk] at ht ⊢; exact tyH_lk ht
theorem tyH_setH : ∀ {h : Heap} {id id' : Id} {o : HObj}, tyH (setH h id o) id' = tyH h id'
  | [], _, _, _ => rfl
  | (k, e) :: h, id, id', o => by
    by_cases hk : k = id.1
    · simp only [setH, hk, if_true, tyH]
      rw [HEnt.ty_set]
    · simp only [setH, hk, if_false, tyH]
      rw [tyH_setH]
theorem tyH_del_some : ∀ {h : Heap} {i k : Nat} {id' : Id}, tyH (h.map (fun e => if e.1 = k then (e.1, e.2.del i) else e)) id' = tyH h id'
  | [], _, _, _ => rfl
  | (k', e) :: h, i, k, id' => by
    by_cases hk : k' = k
    · simp only [List.map_cons, hk, if_true, tyH]
      rw [HEnt.ty_del, tyH_del_some]
    · simp only [List.map_cons, hk, if_false, tyH]
      rw [tyH_del_some]
theorem tyH_filter : ∀ {h : Heap} {k : Nat} {id' : Id}, id'.1 ≠ k → tyH (h.filter (fun e => !(e.1 == k))) id' = tyH h id'
  | [], _, _, _ => rfl
  | (k', e) :: h, k, id', hne => by
    by_cases hk : k' = k
    · rw [List.filter_cons_of_neg (by simp [hk])]
      simp only [tyH]
      rw [if_neg (fun e => hne (by rw [← e, hk])), tyH_filter hne]
    · rw [List.filter_cons_of_pos (by simp [hk])]
      simp only [tyH]
      rw [tyH_filter hne]
theorem tyH_delH {h : Heap} {id id' : Id} {t : TypeId} (ht : tyH (delH h id) id' = some t) : tyH h id' = some t := by
  obtain ⟨o, ho⟩ := tyH_lk ht
  have hne := (lkH_delH h id id' o ho).2
  unfold delH at ht
  split at ht
  · rename_i h0
    by_cases hk : id'.1 = id.1
    · exfalso
      have hno : ∀ g : Heap, tyH (g.filter (fun e => !(e.1 == id.1))) id' = none := by
        intro g
        induction g with
        | nil => rfl
        | cons a g ihg =>
          obtain ⟨ka, ea⟩ := a
          by_cases hka : ka = id.1
          · rw [List.filter_cons_of_neg (by simp [hka])]; exact ihg
          · rw [List.filter_cons_of_pos (by simp [hka])]
            simp only [tyH]
            rw [if_neg (fun e => hka (by rw [e, hk]))]
            exact ihg
      rw [hno] at ht; cases ht
    · rwa [tyH_filter hk] at ht
  · rwa [tyH_del_some] at ht
structure Gh where
  w0 : World
  mt : Nat → Prop
  O : Nat → Prop
  nt : Nat
  rd : Option Nat
def Fb (O : Nat → Prop) (h : Heap) (mu : Id → Option Base) (b : Nat) : Prop :=
  O b ∨ ∃ id o B, lkH h id = some o ∧ mu id = some B ∧ B.b = b
def cx (G : Gh) (h : Heap) (mu : Id → Option Base) (nx : Nat) (w : World) : Cx := ⟨w, Fb G.O h mu, mu, nx⟩
def HRel (c : Cx) (m : Option Base) : HObj → Prop
  | .arr n s f => match m with
    | none => n = 0
    | some B => B.s = s ∧ ∃ cs T, c.w.heap[B.b]? = some (.cells cs T (0, 0)) ∧ cs.size = B.sz ∧ B.o + n * s ≤ B.sz ∧
        ∀ i, i < n → ∀ j, j < s → (f i j).one = true ∧ ∃ v, cs[B.o + i * s + j]? = some v ∧ Rel c (f i j) v
  | .mp l => match m with
    | none => False
    | some B => ∃ es clock, c.w.heap[B.b]? = some (.map es clock) ∧ es.size = l.length ∧
        (∀ i (hi : i < l.length) e, es[i]? = some e → Rel c l[i].1 e.key ∧ Rel c l[i].2 e.val) ∧ Born es.toList clock
  | .mi q l => match m with
    | none => False
    | some B => ∃ es clock, c.w.heap[B.b]? = some (.map es clock) ∧ es.size = l.length ∧
        (∀ i (hi : i < l.length) e, es[i]? = some e → Rel c l[i].1 e.key ∧ Rel c l[i].2 e.val) ∧ Born es.toList clock ∧ B.b = q.mb ∧ clock = q.clk ∧ es.toList.map (·.born) = q.bs
  | .ob p => match m with
    | none => False
    | some B => ∃ x, c.w.heap[B.b]? = some x ∧ (bare x ∧ B.o = 0) ∧ p B.b x
structure Kept (w0 : World) (mt : Nat → Prop) (w : World) : Prop where
  os : w.os = w0.os
  tape : w.tape = w0.tape
  output : w.output = w0.output
  drawn : w0.drawn ≤ w.drawn
  size : w0.heap.size ≤ w.heap.size
  block : ∀ b, b < w0.heap.size → ¬ mt b → w.heap[b]? = w0.heap[b]?
structure HOk (G : Gh) (h : Heap) (mu : Id → Option Base) (nx : Nat) (w : World) : Prop where
  obj : ∀ id o, lkH h id = some o → id.1 < nx ∧ HRel (cx G h mu nx w) (mu id) o
  sep : ∀ id id' o o' B B', lkH h id = some o → lkH h id' = some o' → mu id = some B → mu id' = some B' → B.b = B'.b → id = id'
  own : ∀ id o B, lkH h id = some o → mu id = some B → B.b < w.heap.size ∧ (G.w0.heap.size ≤ B.b ∨ G.mt B.b) ∧ ¬ G.O B.b
  kept : Kept G.w0 G.mt w
  out : ∀ b, G.O b → b < G.w0.heap.size
  typ : ∀ id t B, tyH h id = some t → mu id = some B → ∃ cs, w.heap[B.b]? = some (.cells cs t (0, 0)) ∧ B.s ∣ B.o
structure St where
  env : Env
  heap : Heap
  nx : Nat
def DefOK (G : Gh) (ds : List Deferred) (w : World) : Prop := ∃ Ds : List Nat, ds = Ds.map (fun D => { target := .collected D, args := #[] }) ∧ Ds.Nodup ∧ ∀ D ∈ Ds, G.w0.heap.size ≤ D ∧ w.heap[D]? = some (Obj.deferred (some []))
theorem DefOK.nil {G : Gh} {w : World} : DefOK G [] w := ⟨[], rfl, List.nodup_nil, fun _ h => by cases h⟩
theorem DefOK.mono {G : Gh} {ds : List Deferred} {w w' : World} (h : DefOK G ds w) (hd : ∀ D : Nat, w.heap[D]? = some (Obj.deferred (some [])) → w'.heap[D]? = some (Obj.deferred (some []))) : DefOK G ds w' := by
  obtain ⟨Ds, h1, h2, h3⟩ := h
  exact ⟨Ds, h1, h2, fun D hD => ⟨(h3 D hD).1, hd D (h3 D hD).2⟩⟩
structure Sim (G : Gh) (mu : Id → Option Base) (st : St) (a : Act) (w : World) : Prop where
  defers : DefOK G a.defers w
  size : G.nt ≤ a.tmps.size
  env : ∀ t, Rel (cx G st.heap mu st.nx w) (lk st.env t) (a.tmps.getD t undef)
  heap : HOk G st.heap mu st.nx w
theorem heap_new (w : World) (o : Obj) : (w.alloc o).heap[w.heap.size]? = some o := by
  show (w.heap.push o)[w.heap.size]? = some o
  simp
theorem Kept.refl (w : World) (m : Nat → Prop) : Kept w m w := ⟨rfl, rfl, rfl, Nat.le_refl _, Nat.le_refl _, fun _ _ _ => rfl⟩
theorem HRel.monoC {c c' : Cx} (h : c.Lc c') {m : Option Base} {o : HObj} (hb : ∀ B, m = some B → c'.w.heap[B.b]? = c.w.heap[B.b]?) (ho : HRel c m o) : HRel c' m o := by
  cases o with
  | arr n s f =>
    cases m with
    | none => exact ho
    | some B =>
      obtain ⟨hs, cs, T, hh, hsz, hle, hc⟩ := ho
      refine ⟨hs, cs, T, (hb B rfl).trans hh, hsz, hle, fun i hi j hj => ?_⟩
      obtain ⟨h1, v, hv, hr⟩ := hc i hi j hj
      exact ⟨h1, v, hv, hr.monoC h⟩
  | mp l =>
    cases m with
    | none => exact ho
    | some B =>
      obtain ⟨es, clock, hh, hsz, hc, hbn⟩ := ho
      exact ⟨es, clock, (hb B rfl).trans hh, hsz, fun i hi e he => ⟨(hc i hi e he).1.monoC h, (hc i hi e he).2.monoC h⟩, hbn⟩
  | mi q l =>
    cases m with
    | none => exact ho
    | some B =>
      obtain ⟨es, clock, hh, hsz, hc, hbn⟩ := ho
      exact ⟨es, clock, (hb B rfl).trans hh, hsz, fun i hi e he => ⟨(hc i hi e he).1.monoC h, (hc i hi e he).2.monoC h⟩, hbn⟩
  | ob p =>
    cases m with
    | none => exact ho
    | some B =>
      obtain ⟨x, hh, hx⟩ := ho
      exact ⟨x, (hb B rfl).trans hh, hx⟩
theorem HRel.mono {c c' : Cx} (h : c.Le c') {m : Option Base} {o : HObj} (hb : ∀ B, m = some B → c'.w.heap[B.b]? = c.w.heap[B.b]?) (ho : HRel c m o) : HRel c' m o := ho.monoC h.c hb
theorem HRel.data {c : Cx} {B : Base} {o : HObj} (ho : HRel c (some B) o) {x : Obj} (hx : c.w.heap[B.b]? = some x) : (∃ cs T z, x = .cells cs T z) ∨ (∃ es cl, x = .map es cl) ∨ bare x := by
  cases o with
  | arr n s f =>
    obtain ⟨_, cs, T, hh, _⟩ := ho
    rw [hh] at hx; injection hx with hx; exact .inl ⟨cs, T, _, hx.symm⟩
  | mp l =>
    obtain ⟨es, cl, hh, _⟩ := ho
    rw [hh] at hx; injection hx with hx; exact .inr (.inl ⟨es, cl, hx.symm⟩)
  | mi q l =>
    obtain ⟨es, cl, hh, _⟩ := ho
    rw [hh] at hx; injection hx with hx; exact .inr (.inl ⟨es, cl, hx.symm⟩)
  | ob p =>
    obtain ⟨y, hh, hy, _⟩ := ho
    rw [hh] at hx; injection hx with hx; subst hx; exact .inr (.inr hy.1)
theorem HOk.drew {G : Gh} {h : Heap} {mu : Id → Option Base} {nx : Nat} {w : World} (hk : HOk G h mu nx w) (n : Nat) : HOk G h mu nx { w with drawn := w.drawn + n } := by
  have hle : (cx G h mu nx w).Le (cx G h mu nx { w with drawn := w.drawn + n }) := ⟨Nat.le_refl _, fun _ _ h => h, fun _ _ _ _ => rfl, Nat.le_refl _, fun _ _ => rfl, fun _ h => h⟩
  exact ⟨fun id o ho => ⟨(hk.obj id o ho).1, (hk.obj id o ho).2.mono hle (fun _ _ => rfl)⟩, hk.sep, hk.own, ⟨hk.kept.os, hk.kept.tape, hk.kept.output, Nat.le_trans hk.kept.drawn (Nat.le_add_right _ _), hk.kept.size, hk.kept.block⟩, hk.out, hk.typ⟩
def upd {α β : Type} [DecidableEq α] (f : α → β) (a : α) (b : β) : α → β := fun x => if x = a then b else f x
@[simp] theorem upd_same {α β : Type} [DecidableEq α] (f : α → β) (a : α) (b : β) : upd f a b a = b := by simp [upd]
theorem upd_ne {α β : Type} [DecidableEq α] (f : α → β) {a x : α} (b : β) (h : x ≠ a) : upd f a b x = f x := by simp [upd, h]
section
variable {G : Gh} {h : Heap} {mu : Id → Option Base} {nx : Nat} {w : World}
def HEnt.Solo (e : HEnt) (o : HObj) : Prop := e = .one o ∨ ∃ t, e = .typ t o
theorem HEnt.Solo.one {o : HObj} : HEnt.Solo (.one o) o := .inl rfl
theorem HEnt.Solo.typ {o : HObj} {t : TypeId} : HEnt.Solo (.typ t o) o := .inr ⟨t, rfl⟩
theorem lkH_cons_one (h : Heap) (nx : Nat) {e : HEnt} (o : HObj) (he : e.Solo o) (id : Id) : lkH ((nx, e) :: h) id = if id = (nx, 0) then some o else if id.1 = nx then none else lkH h id := by
  obtain ⟨d, i⟩ := id
  simp only [lkH]
  by_cases h1 : nx = d
  · subst h1
    rcases he with rfl | ⟨t, rfl⟩ <;> cases i <;> simp [HEnt.get]
  · rw [if_neg h1, if_neg (fun e => h1 (by injection e with e1 _; exact e1.symm)), if_neg (fun e => h1 e.symm)]
theorem lt_of_get {w : World} {D : Nat} {o : Obj} (h : w.heap[D]? = some o) : D < w.heap.size := by
  rcases Nat.lt_or_ge D w.heap.size with h1 | h1
  · exact h1
  · rw [Array.getElem?_eq_none h1] at h; cases h
theorem alloc_dfr {w : World} {x o : Obj} {D : Nat} (h : w.heap[D]? = some o) : (w.alloc x).heap[D]? = some o := by
  show (w.heap.push x)[D]? = some o
  rw [Array.getElem?_push, if_neg (Nat.ne_of_lt (lt_of_get h))]
  exact h
theorem HOk.ndfr (hk : HOk G h mu nx w) {id : Id} {o : HObj} {B : Base} (hl : lkH h id = some o) (hm : mu id = some B) {D : Nat} {ds : Option (List Deferred)} (hD : w.heap[D]? = some (Obj.deferred ds)) : D ≠ B.b := by
  rintro rfl
  have := (hk.obj id o hl).2
  rw [hm] at this
  rcases this.data hD with ⟨_, _, _, h1⟩ | ⟨_, _, h1⟩ | h1
  · cases h1
  · cases h1
  · exact h1
theorem cx_alloc {e : HEnt} (o : HObj) (he : e.Solo o) (x : Obj) (B : Base) (hB : B.b = w.heap.size) :
    (cx G h mu nx w).Le (cx G ((nx, e) :: h) (upd mu (nx, 0) (some B)) (nx + 1) (w.alloc x)) where
  size := by simp [cx]
  F := by
    intro b hb hF hF'
    apply hF
    simp only [cx, Fb] at hF' ⊢
    rcases hF' with hO | ⟨id, o', B', hl, hm, hbb⟩
    · exact .inl hO
    · rw [lkH_cons_one _ _ o he] at hl
      by_cases h1 : id = (nx, 0)
      · subst h1
        rw [upd_same] at hm
        injection hm with hm
        subst hm
        simp only [cx] at hb
        omega
      · rw [if_neg h1] at hl
        by_cases h2 : id.1 = nx
        · rw [if_pos h2] at hl; cases hl
        · rw [if_neg h2] at hl
          rw [upd_ne _ _ h1] at hm
          exact .inr ⟨id, o', B', hl, hm, hbb⟩
  cell := fun b o hb _ => World.cell?_alloc_lt w x _ hb
  nx := Nat.le_succ _
  mu := fun id hid => upd_ne _ _ (fun e => by subst e; exact Nat.lt_irrefl _ hid)
  dfr := fun D hD => alloc_dfr hD
theorem HOk.step {h' : Heap} {mu' : Id → Option Base} {nx' : Nat} {w' : World} (hk : HOk G h mu nx w) (hLe : (cx G h mu nx w).Le (cx G h' mu' nx' w')) (id0 : Id) (o0 : HObj) (h0 : id0.1 < nx')
    (hr0 : lkH h' id0 = some o0 → HRel (cx G h' mu' nx' w') (mu' id0) o0)
    (hb0 : ∀ B, mu' id0 = some B → B.b < w'.heap.size ∧ (G.w0.heap.size ≤ B.b ∨ G.mt B.b) ∧ ¬ G.O B.b)
    (hh : ∀ id o, lkH h' id = some o → (id = id0 ∧ o = o0) ∨ (id ≠ id0 ∧ lkH h id = some o ∧ ∀ B, mu id = some B → w'.heap[B.b]? = w.heap[B.b]? ∧ ∀ B0, mu' id0 = some B0 → B.b ≠ B0.b))
    (hkept : Kept G.w0 G.mt w') (hty : ∀ id t, tyH h' id = some t → (id = id0 ∧ ∀ B, mu' id0 = some B → ∃ cs, w'.heap[B.b]? = some (.cells cs t (0, 0)) ∧ B.s ∣ B.o) ∨ (id ≠ id0 ∧ tyH h id = some t)) : HOk G h' mu' nx' w' := by
  have hold : ∀ id o, id ≠ id0 → lkH h' id = some o → lkH h id = some o ∧ mu' id = mu id ∧ ∀ B, mu id = some B → w'.heap[B.b]? = w.heap[B.b]? ∧ ∀ B0, mu' id0 = some B0 → B.b ≠ B0.b := by
    intro id o hne hl
    rcases hh id o hl with ⟨h1, _⟩ | ⟨_, h2, h3⟩
    · exact absurd h1 hne
    · exact ⟨h2, hLe.mu id (hk.obj id o h2).1, h3⟩
  have hat : ∀ o, lkH h' id0 = some o → o = o0 := fun o hl => by
    rcases hh id0 o hl with ⟨_, h1⟩ | ⟨h1, _⟩
    · exact h1
    · exact absurd rfl h1
  refine ⟨fun id o hl => ?_, fun id id' o o' B B' hl hl' hm hm' hb => ?_, fun id o B hl hm => ?_, hkept, hk.out, fun id t B ht hm => ?_⟩
  rotate_right
  · rcases hty id t ht with ⟨rfl, h1⟩ | ⟨hid, h1⟩
    · exact h1 B hm
    · obtain ⟨o, ho⟩ := tyH_lk ht
      obtain ⟨_, h2, h3⟩ := hold id o hid ho
      rw [h2] at hm
      rw [(h3 B hm).1]
      exact hk.typ id t B h1 hm
  · by_cases hid : id = id0
    · subst hid
      have := hat o hl
      subst this
      exact ⟨h0, hr0 hl⟩
    · obtain ⟨h1, h2, h3⟩ := hold id o hid hl
      obtain ⟨hlt, hr⟩ := hk.obj id o h1
      refine ⟨Nat.lt_of_lt_of_le hlt hLe.nx, ?_⟩
      rw [h2]
      exact hr.mono hLe (fun B hB => (h3 B hB).1)
  · by_cases hid : id = id0
    · by_cases hid' : id' = id0
      · rw [hid, hid']
      · obtain ⟨h1, h2, h3⟩ := hold id' o' hid' hl'
        rw [h2] at hm'
        rw [hid] at hm
        exact absurd hb.symm ((h3 B' hm').2 B hm)
    · obtain ⟨h1, h2, h3⟩ := hold id o hid hl
      rw [h2] at hm
      by_cases hid' : id' = id0
      · rw [hid'] at hm'
        exact absurd hb ((h3 B hm).2 B' hm')
      · obtain ⟨h1', h2', h3'⟩ := hold id' o' hid' hl'
        rw [h2'] at hm'
        exact hk.sep id id' o o' B B' h1 h1' hm hm' hb
  · by_cases hid : id = id0
    · rw [hid] at hm
      exact hb0 B hm
    · obtain ⟨h1, h2, h3⟩ := hold id o hid hl
      rw [h2] at hm
      have := hk.own id o B h1 hm
      exact ⟨Nat.lt_of_lt_of_le this.1 hLe.size, this.2⟩
theorem Kept.alloc {w0 w : World} {mt : Nat → Prop} (h : Kept w0 mt w) (o : Obj) : Kept w0 mt (w.alloc o) :=
  ⟨h.os, h.tape, h.output, h.drawn, Nat.le_trans h.size (by simp), fun b hb hm => (Below.heap_alloc w o b (Nat.lt_of_lt_of_le hb h.size)).trans (h.block b hb hm)⟩
theorem Kept.setCell {w0 w : World} {mt : Nat → Prop} (h : Kept w0 mt w) {p : Addr} (hp : w0.heap.size ≤ p.block ∨ mt p.block) (u : Value) : Kept w0 mt (w.setCell p u) :=
  ⟨h.os, h.tape, h.output, h.drawn, by simpa using h.size, fun b hb hm => by
    rw [Below.heap_setCell w p u b (fun e => by subst e; rcases hp with hp | hp; exact absurd hb (Nat.not_lt.2 hp); exact hm hp)]
    exact h.block b hb hm⟩
theorem tyH_new {h1 : Heap} {mu' : Id → Option Base} {w' : World} {e : HEnt} {o : HObj} {T : TypeId} (he : e = .one o ∨ e = .typ T o) (hsub : ∀ id t, tyH h1 id = some t → tyH h id = some t) (hT : ∀ B, mu' (nx, 0) = some B → ∃ cs, w'.heap[B.b]? = some (.cells cs T (0, 0)) ∧ B.s ∣ B.o) :
    ∀ id t, tyH ((nx, e) :: h1) id = some t → (id = (nx, 0) ∧ ∀ B, mu' (nx, 0) = some B → ∃ cs, w'.heap[B.b]? = some (.cells cs t (0, 0)) ∧ B.s ∣ B.o) ∨ (id ≠ (nx, 0) ∧ tyH h id = some t) := by
  intro id t ht
  obtain ⟨k, i⟩ := id
  simp only [tyH] at ht
  by_cases hk : nx = k
  · subst hk
    rw [if_pos rfl] at ht
    rcases he with rfl | rfl
    · cases ht
    · cases i with
      | succ i => cases ht
      | zero =>
        injection ht with ht
        subst ht
        exact .inl ⟨rfl, hT⟩
  · rw [if_neg hk] at ht
    exact .inr ⟨fun e => hk (by injection e with e _; exact e.symm), hsub _ _ ht⟩
theorem tyH_newD {h1 : Heap} {mu' : Id → Option Base} {w' : World} {e : HEnt} {o : HObj} {T : TypeId} {D : Prop} (he : e = .one o ∨ (e = .typ T o ∧ D)) (hsub : ∀ id t, tyH h1 id = some t → tyH h id = some t) (hT : D → ∀ B, mu' (nx, 0) = some B → ∃ cs, w'.heap[B.b]? = some (.cells cs T (0, 0)) ∧ B.s ∣ B.o) :
    ∀ id t, tyH ((nx, e) :: h1) id = some t → (id = (nx, 0) ∧ ∀ B, mu' (nx, 0) = some B → ∃ cs, w'.heap[B.b]? = some (.cells cs t (0, 0)) ∧ B.s ∣ B.o) ∨ (id ≠ (nx, 0) ∧ tyH h id = some t) := by
  intro id t ht
  obtain ⟨k, i⟩ := id
  simp only [tyH] at ht
  by_cases hk : nx = k
  · subst hk
    rw [if_pos rfl] at ht
    rcases he with rfl | ⟨rfl, hD⟩
    · cases ht
    · cases i with
      | succ i => cases ht
      | zero =>
        injection ht with ht
        subst ht
        exact .inl ⟨rfl, hT hD⟩
  · rw [if_neg hk] at ht
    exact .inr ⟨fun e => hk (by injection e with e _; exact e.symm), hsub _ _ ht⟩
theorem tyH_one {h1 : Heap} {mu' : Id → Option Base} {w' : World} {o : HObj} (hsub : ∀ id t, tyH h1 id = some t → tyH h id = some t) :
    ∀ id t, tyH ((nx, .one o) :: h1) id = some t → (id = (nx, 0) ∧ ∀ B, mu' (nx, 0) = some B → ∃ cs, w'.heap[B.b]? = some (.cells cs t (0, 0)) ∧ B.s ∣ B.o) ∨ (id ≠ (nx, 0) ∧ tyH h id = some t) := by
  intro id t ht
  simp only [tyH] at ht
  by_cases hk : nx = id.1
  · rw [if_pos hk] at ht; cases ht
  · rw [if_neg hk] at ht
    exact .inr ⟨fun e => hk (by rw [e]), hsub _ _ ht⟩
theorem HOk.alloc (hk : HOk G h mu nx w) {e : HEnt} (n s : Nat) (f : Nat → Nat → AVal) (cs : Array Value) (T : TypeId) (he : e = .one (.arr n s f) ∨ e = .typ T (.arr n s f)) (sz : Nat) (hsz : cs.size = sz) (hle : n * s ≤ sz)
    (hc : ∀ i, i < n → ∀ j, j < s → (f i j).one = true ∧ ∃ v, cs[i * s + j]? = some v ∧ Rel (cx G h mu nx w) (f i j) v) :
    HOk G ((nx, e) :: h) (upd mu (nx, 0) (some ⟨w.heap.size, 0, s, sz⟩)) (nx + 1) (w.alloc (.cells cs T)) := by
  have hso : e.Solo (.arr n s f) := he.imp id fun h => ⟨T, h⟩
  have hLe := cx_alloc (G := G) (h := h) (mu := mu) (nx := nx) (w := w) (e := e) (.arr n s f) hso (.cells cs T) ⟨w.heap.size, 0, s, sz⟩ rfl
  refine hk.step hLe (nx, 0) (.arr n s f) (Nat.lt_succ_self _) (fun _ => ?_) (fun B hB => ?_) (fun id o ho => ?_) (hk.kept.alloc _) (tyH_new he (fun _ _ h => h) fun B hB => ?_)
  rotate_right
  · rw [upd_same] at hB
    injection hB with hB
    subst hB
    exact ⟨cs, heap_new w _, 0, by simp⟩
  · rw [upd_same]
    refine ⟨rfl, cs, T, heap_new w _, hsz, by simpa using hle, fun i hi j hj => ?_⟩
    obtain ⟨h1, v, hv, hr⟩ := hc i hi j hj
    exact ⟨h1, v, by simpa using hv, hr.mono hLe⟩
  · rw [upd_same] at hB
    injection hB with hB
    subst hB
    refine ⟨by simp, .inl hk.kept.size, fun hO => ?_⟩
    have h1 := hk.out _ hO
    have h2 := hk.kept.size
    simp only at h1
    omega
  · rw [lkH_cons_one _ _ _ hso] at ho
    by_cases h1 : id = (nx, 0)
    · rw [if_pos h1] at ho
      injection ho with ho
      exact .inl ⟨h1, ho.symm⟩
    · rw [if_neg h1] at ho
      by_cases h2 : id.1 = nx
      · rw [if_pos h2] at ho; cases ho
      · rw [if_neg h2] at ho
        refine .inr ⟨h1, ho, fun B hB => ?_⟩
        have hlt := (hk.own id o B ho hB).1
        refine ⟨Below.heap_alloc w _ _ hlt, fun B0 hB0 => ?_⟩
        rw [upd_same] at hB0
        injection hB0 with hB0
        subst hB0
        exact Nat.ne_of_lt hlt
theorem Fb_setH {O : Nat → Prop} {id : Id} {o : HObj} (hs : (lkH h id).isSome = true) (b : Nat) : Fb O (setH h id o) mu b ↔ Fb O h mu b := by
  unfold Fb
  constructor
  · rintro (hO | ⟨id', o', B, hl, hm, hb⟩)
    · exact .inl hO
    · rw [lkH_setH h id id' o hs] at hl
      by_cases h1 : id' = id
      · subst h1
        obtain ⟨o1, ho1⟩ := Option.isSome_iff_exists.1 hs
        exact .inr ⟨id', o1, B, ho1, hm, hb⟩
      · rw [if_neg h1] at hl
        exact .inr ⟨id', o', B, hl, hm, hb⟩
  · rintro (hO | ⟨id', o', B, hl, hm, hb⟩)
    · exact .inl hO
    · by_cases h1 : id' = id
      · subst h1
        exact .inr ⟨id', o, B, by rw [lkH_setH h id' id' o hs, if_pos rfl], hm, hb⟩
      · exact .inr ⟨id', o', B, by rw [lkH_setH h id id' o hs, if_neg h1]; exact hl, hm, hb⟩
theorem HOk.write (hk : HOk G h mu nx w) {id : Id} {o o' : HObj} {B : Base} (hl : lkH h id = some o) (hm : mu id = some B) {w' : World}
    (hsize : w'.heap.size = w.heap.size) (hblk : ∀ b, b ≠ B.b → w'.heap[b]? = w.heap[b]?) (hos : w'.os = w.os ∧ w'.tape = w.tape ∧ w'.output = w.output ∧ w.drawn ≤ w'.drawn)
    (hr : (cx G h mu nx w).Le (cx G (setH h id o') mu nx w') → HRel (cx G (setH h id o') mu nx w') (some B) o') (hT : ∀ cs t, w.heap[B.b]? = some (.cells cs t (0, 0)) → ∃ cs', w'.heap[B.b]? = some (.cells cs' t (0, 0))) :
    (cx G h mu nx w).Le (cx G (setH h id o') mu nx w') ∧ HOk G (setH h id o') mu nx w' := by
  have hs : (lkH h id).isSome = true := by rw [hl]; rfl
  have hown := hk.own id o B hl hm
  have hLe : (cx G h mu nx w).Le (cx G (setH h id o') mu nx w') := by
    refine ⟨Nat.le_of_eq hsize.symm, fun b hb hF hF' => hF ((Fb_setH hs b).1 hF'), fun b off hb hF => ?_, Nat.le_refl _, fun _ _ => rfl, fun D hD => (hblk D (hk.ndfr hl hm hD)).trans hD⟩
    have hne : b ≠ B.b := fun e => hF (.inr ⟨id, o, B, hl, hm, e.symm⟩)
    exact World.cell?_of_block (hblk b hne)
  refine ⟨hLe, hk.step hLe id o' ((hk.obj id o hl).1) (fun _ => by rw [hm]; exact hr hLe) (fun B' hB' => ?_) (fun id' o1 ho1 => ?_) ?_ (fun id' t ht => ?_)⟩
  rotate_right
  · rw [tyH_setH] at ht
    by_cases h1 : id' = id
    · subst h1
      refine .inl ⟨rfl, fun B' hB' => ?_⟩
      obtain ⟨cs, hcs, hdv⟩ := hk.typ id' t B' ht hB'
      rw [hm] at hB'
      injection hB' with hB'
      subst hB'
      obtain ⟨cs', hcs'⟩ := hT cs t hcs
      exact ⟨cs', hcs', hdv⟩
    · exact .inr ⟨h1, ht⟩
  · rw [hm] at hB'
    injection hB' with hB'
    subst hB'
    exact ⟨by rw [hsize]; exact hown.1, hown.2⟩
  · rw [lkH_setH h id id' o' hs] at ho1
    by_cases h1 : id' = id
    · rw [if_pos h1] at ho1
      injection ho1 with ho1
      exact .inl ⟨h1, ho1.symm⟩
    · rw [if_neg h1] at ho1
      refine .inr ⟨h1, ho1, fun B1 hB1 => ?_⟩
      have hne : B1.b ≠ B.b := fun e => h1 (hk.sep id' id o1 o B1 B ho1 hl hB1 hm e)
      refine ⟨hblk _ hne, fun B0 hB0 => ?_⟩
      rw [hm] at hB0
      injection hB0 with hB0
      subst hB0
      exact hne
  · exact ⟨hos.1.trans hk.kept.os, hos.2.1.trans hk.kept.tape, hos.2.2.1.trans hk.kept.output, Nat.le_trans hk.kept.drawn hos.2.2.2, by rw [hsize]; exact hk.kept.size, fun b hb hmt => by
      rw [hblk b (fun e => by subst e; rcases hown.2.1 with h1 | h1; exact absurd hb (Nat.not_lt.2 h1); exact hmt h1)]
      exact hk.kept.block b hb hmt⟩
end
end Go.Lift
namespace Go.Lift
set_option linter.unusedSimpArgs false
set_option linter.unusedVariables false
open Go.RowKit
inductive TK where
  | int (k : IntKind)
  | bool
  | str
  | slice (e : TypeId)
  | map (k e : TypeId)
  | struct (l : List (Nat × TypeId))
  | ptr (e : TypeId)
  | func
  | arr (n : Nat) (e : TypeId)
structure TI where
  k : TK
  size : Nat
  bytes : Nat
  zero : Nat → AVal
  eq : Bool
def TK.agg : TK → Bool
  | .struct _ => true
  | .arr _ _ => true
  | _ => false
def TK.ok (P : Program) (t : TypeId) : TK → Prop
  | .int k => P.underlying t = some (.int k)
  | .bool => P.underlying t = some .bool
  | .str => P.underlying t = some .string
  | .slice e => P.underlying t = some (.slice e)
  | .map k e => P.underlying t = some (.map k e)
  | .struct l => ∃ fs pl, P.underlying t = some (.struct fs) ∧ fs.toList.mapM (fun f => (P.info? f.type).map fun i => (f.offset, i.size)) = some pl ∧ ∀ (k o : Nat) (ft : TypeId), l[k]? = some (o, ft) → ∃ f : Field, fs[k]? = some f ∧ f.offset = o ∧ f.type = ft
  | .ptr e => P.underlying t = some (.pointer e)
  | .func => ∃ a b c, P.underlying t = some (.func a b c)
  | .arr n e => P.underlying t = some (.array n e)
structure EqOK (P : Program) (t : TypeId) (l : List (Nat × TypeId)) : Prop where
  und : P.underlying t = some (.struct (P.fieldsOf t))
  held : P.stoodInHeld t = false
  guard : P.eqGuardType P.depth t = false
  fields : (P.fieldsOf t).toList.map (fun f => (f.offset, f.type)) = l
  names : ∀ f ∈ (P.fieldsOf t).toList, f.name ≠ "_"
structure TIok (P : Program) (t : TypeId) (i : TI) : Prop where
  info : ∃ (j : TypeInfo) (z : Value), P.info? t = some j ∧ j.size = i.size ∧ j.bytes = i.bytes ∧ j.zero = some z ∧ z.cells.size = i.size ∧
    (i.k.agg = true → z = .agg z.cells) ∧ (i.k.agg = false → z.cells = #[z]) ∧ ∀ m, m < i.size → i.zero m = ofValue (z.cells.getD m undef) ∧ (i.zero m).one = true
  kind : i.k.ok P t
  one : i.k.agg = false → i.size = 1
  eqv : i.eq = true → ∀ l, i.k = .struct l → EqOK P t l
abbrev Tab := TypeId → Option TI
def TabOK (P : Program) (T : Tab) : Prop := ∀ t i, T t = some i → TIok P t i
def acell : AVal → Nat → AVal
  | .agg _ f, j => f j
  | v, _ => v
def allLt : Nat → (Nat → Bool) → Bool
  | 0, _ => true
  | n + 1, p => p n && allLt n p
theorem allLt_spec {p : Nat → Bool} : ∀ {n : Nat}, allLt n p = true → ∀ j, j < n → p j = true
  | 0, _, _, h => absurd h (Nat.not_lt_zero _)
  | n + 1, h, j, hj => by
    simp only [allLt, Bool.and_eq_true] at h
    rcases Nat.lt_succ_iff_lt_or_eq.1 hj with h1 | h1
    · exact allLt_spec h.2 j h1
    · rw [h1]; exact h.1
def fits (i : TI) (v : AVal) : Bool :=
  match v with
  | .agg n _ => i.k.agg && n == i.size && allLt i.size (fun j => (acell v j).one)
  | v => !i.k.agg && v.one
def mkL (i : TI) (f : Nat → AVal) : AVal := match i.k.agg with
  | true => .agg i.size f
  | false => f 0
theorem acell_one {v : AVal} (h : v.one = true) (j : Nat) : acell v j = v := by
  cases v <;> simp [AVal.one] at h <;> rfl
theorem fits_spec {P : Program} {t : TypeId} {i : TI} (ht : TIok P t i) {v : AVal} (hf : fits i v = true) {c : Cx} {x : Value} (h : Rel c v x) :
    x.cells.size = i.size ∧ ∀ j, j < i.size → (acell v j).one = true ∧ Rel c (acell v j) (x.cells.getD j undef) := by
  by_cases hv : v.one = true
  · have hag : i.k.agg = false := by
      cases v <;> simp [AVal.one] at hv <;> simp [fits] at hf <;> first | exact hf | exact hf.1
    have h1 := ht.one hag
    have hx := Rel.one hv h
    have hc : x.cells = #[x] := by cases x <;> first | rfl | simp [Value.oneCell'] at hx
    rw [hc, h1]
    refine ⟨rfl, fun j hj => ?_⟩
    have : j = 0 := by omega
    subst this
    rw [acell_one hv]
    exact ⟨hv, h⟩
  · cases v <;> simp [AVal.one] at hv <;> simp [fits, AVal.one] at hf
    rename_i n f
    obtain ⟨⟨hag, hn⟩, hall⟩ := hf
    obtain ⟨cs, rfl, hs, hr⟩ := h
    refine ⟨by show cs.size = _; omega, fun j hj => ⟨allLt_spec hall j hj, ?_⟩⟩
    exact hr j (by omega)
section
variable {P : Program} {t : TypeId} {i : TI} (w : World)
theorem TIok.run_info (ht : TIok P t i) : ∃ j z, P.info? t = some j ∧ j.size = i.size ∧ j.bytes = i.bytes ∧ j.zero = some z ∧ z.cells.size = i.size ∧
    ∀ m, m < i.size → ∀ c, Rel c (i.zero m) (z.cells.getD m undef) ∧ (i.zero m).one = true := by
  obtain ⟨j, z, h1, h2, h3, h4, h5, _, _, h8⟩ := ht.info
  exact ⟨j, z, h1, h2, h3, h4, h5, fun m hm c => ⟨by rw [(h8 m hm).1]; exact ofValue_rel c _, (h8 m hm).2⟩⟩
theorem TIok.run_isAgg (ht : TIok P t i) : (isAgg t).run P w = .ok i.k.agg w := by
  have hk := ht.kind
  unfold isAgg
  cases hk' : i.k with
  | struct l =>
    rw [hk'] at hk
    obtain ⟨fs, _, hu, _⟩ := hk
    simp [run_underlying hu, TK.agg]
  | func =>
    rw [hk'] at hk
    obtain ⟨a, b, c, hu⟩ := hk
    simp [run_underlying hu, TK.agg]
  | _ =>
    rw [hk'] at hk
    simp only [TK.ok] at hk
    simp [run_underlying hk, TK.agg]
theorem TIok.run_sizeOf (ht : TIok P t i) : (sizeOf t).run P w = .ok i.size w := by
  obtain ⟨j, z, h1, h2, _⟩ := ht.info
  simp [sizeOf, typeInfo, h1, h2]
theorem good_load (ht : TIok P t i) {c : Cx} (hcw : c.w = w) (f : Nat → AVal) (b o : Nat)
    (hc : ∀ j, j < i.size → ∃ v, w.cell? ⟨b, o + j, none⟩ = some v ∧ Rel c (f j) v) :
    ∃ x, (∀ w' : World, (∀ j, j < i.size → w'.cell? ⟨b, o + j, none⟩ = w.cell? ⟨b, o + j, none⟩) → (loadVar t ⟨b, o, none⟩).run P w' = .ok x w') ∧ Rel c (mkL i f) x := by
  subst hcw
  unfold loadVar mkL
  cases hag : i.k.agg with
  | false =>
    have h1 := ht.one hag
    obtain ⟨v, hv, hr⟩ := hc 0 (by omega)
    refine ⟨v, fun w' hw' => ?_, hr⟩
    have hv' : w'.cell? ⟨b, o, none⟩ = some v := (hw' 0 (by omega)).trans hv
    simp [ht.run_isAgg, hag, run_load, hv']
  | true =>
    let g : Nat → Value := fun j => (c.w.cell? ⟨b, o + j, none⟩).getD undef
    have hl := fun (w' : World) (hw' : ∀ j, j < i.size → w'.cell? ⟨b, o + j, none⟩ = c.w.cell? ⟨b, o + j, none⟩) => run_loadCells (P := P) w' ⟨b, o, none⟩ i.size g (fun j hj => by
      obtain ⟨v, hv, _⟩ := hc j hj
      rw [Addr.add_lit, hw' j hj]
      simp only [g, hv, Option.getD_some])
    refine ⟨.agg ((List.range i.size).map g).toArray, fun w' hw' => ?_, ?_⟩
    · simp [ht.run_isAgg, hag, ht.run_sizeOf, hl w' hw']
    · refine ⟨_, rfl, by simp, fun j hj => ?_⟩
      obtain ⟨v, hv, hr⟩ := hc j hj
      have : ((List.range i.size).map g).toArray.getD j undef = v := by simp [Array.getD, hj, g, hv]
      rw [this]
      exact hr
theorem run_store_cells (ht : TIok P t i) (x : Value) (b o : Nat) (cur : Array Value) (T : TypeId) (hx : x.cells.size = i.size) (h1 : ∀ j, j < i.size → (x.cells.getD j undef).oneCell' = true)
    (hb : w.heap[b]? = some (.cells cur T (0, 0))) (hle : o + i.size ≤ cur.size) :
    ∃ cur', (storeVar t ⟨b, o, none⟩ x).run P w = .ok () (w.setRow b cur') ∧ cur'.size = cur.size ∧ (∀ j, j < i.size → cur'[o + j]? = some (x.cells.getD j undef)) ∧
      ∀ k, (k < o ∨ o + i.size ≤ k) → cur'[k]? = cur[k]? := by
  have hall : ∀ v ∈ x.cells.toList, v.oneCell' = true := by
    intro v hv
    obtain ⟨k, hk, rfl⟩ := List.mem_iff_getElem.1 hv
    have hk' : k < x.cells.size := by simpa using hk
    have := h1 k (by omega)
    simpa [Array.getD, hk'] using this
  have hs := run_storeCells_at P b o T x.cells.toList 0 cur w hb (by simp; omega) hall
  have hlen : x.cells.toList.length = x.cells.size := by simp
  refine ⟨(List.take (o + 0) cur.toList ++ x.cells.toList ++ List.drop (o + 0 + x.cells.toList.length) cur.toList).toArray, ?_, ?_, fun j hj => ?_, fun k hk => ?_⟩
  · unfold storeVar
    simp only [Sem.run_bind, ht.run_sizeOf, Result.andThen_ok, hx, ne_eq, not_true_eq_false, if_false]
    exact hs
  · simp; omega
  · have hj' : j < x.cells.size := by omega
    simp only [List.getElem?_toArray, Nat.add_zero]
    rw [List.getElem?_append_left (by simp; omega), List.getElem?_append_right (by simp; omega)]
    simp only [List.length_take, Array.length_toList]
    rw [show o + j - min o cur.size = j by omega]
    simp [Array.getD, hj']
  · simp only [List.getElem?_toArray, Nat.add_zero]
    rcases hk with hk | hk
    · rw [List.getElem?_append_left (by simp; omega), List.getElem?_append_left (by simp; omega)]
      simp [List.getElem?_take, hk]
    · rw [List.getElem?_append_right (by simp; omega)]
      simp only [List.length_append, List.length_take, Array.length_toList, List.getElem?_drop]
      rw [show o + x.cells.size + (k - (min o cur.size + x.cells.size)) = k by omega]
      simp
end
end Go.Lift
