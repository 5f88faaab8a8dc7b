/-
  The abstract layer, part H: slice expressions, make, composite literals, len, index, fields.
-/
import Derived.Test.YtmjkbidnghcfnaaLG
namespace Go.Lift
set_option linter.unusedSimpArgs false
set_option linter.unusedVariables false
open Go.RowKit

section
variable {P : Program} {w : World} {G : Gh} {h : Heap} {mu : Id → Option Base} {nx : Nat}

def loA : Option AVal → Option Int
  | none => some 0
  | some (.int _ a) => some a
  | some _ => none
def hiA (n : Nat) : Option AVal → Option Int
  | none => some n
  | some (.int _ a) => some a
  | some _ => none

/-- x[a:b], bounds within the length. -/
def evSlice (T : Tab) (h : Heap) (t : TypeId) (x : AVal) (lo hi : Option AVal) : Option (AVal × Prop) :=
  match T t with
  | some ti =>
    match ti.k, x with
    | .slice e, .sl id l n =>
      match T e, lkH h id, loA lo, hiA n hi with
      | some ei, some (.arr _ s _), some a, some b' =>
        if s = ei.size then some (.sl id (l + a.toNat) (b'.toNat - a.toNat), 0 ≤ a ∧ a ≤ b' ∧ b' ≤ (n : Int)) else none
      | _, _, _, _ => none
    | .slice e, .vsl n s f =>
      match T e, loA lo, hiA n hi with
      | some ei, some a, some b' =>
        if s = ei.size then some (.vsl (b'.toNat - a.toNat) s (fun i => f (a.toNat + i)), 0 ≤ a ∧ a ≤ b' ∧ b' ≤ (n : Int)) else none
      | _, _, _ => none
    | .str, .str s =>
      match loA lo, hiA s.length hi with
      | some a, some b' => some (.str ((s.take b'.toNat).drop a.toNat), 0 ≤ a ∧ a ≤ b' ∧ b' ≤ (s.length : Int))
      | _, _ => none
    | _, _ => none
  | none => none

def optRel (c : Cx) : Option AVal → Option Value → Prop
  | none, none => True
  | some v, some x => Rel c v x
  | _, _ => False

theorem run_sliceBound (k : IntKind) (i : Int) (y : Nat) (code : BoundsCode) (h0 : 0 ≤ i) (h1 : i ≤ y) (w : World) : (Instr.sliceBound (.int k i) y code).run P w = .ok i.toNat w := by
  simp [Instr.sliceBound, asIntOf, h0, h1]

theorem loA_rel {c : Cx} {lo : Option AVal} {xl : Option Value} (hl : optRel c lo xl) {a : Int} (ha : loA lo = some a) : (xl = none ∧ a = 0) ∨ ∃ k, xl = some (.int k a) := by
  cases lo with
  | none => cases xl with
    | none => simp only [loA, Option.some.injEq] at ha; exact .inl ⟨rfl, ha.symm⟩
    | some _ => exact hl.elim
  | some v => cases xl with
    | none => exact hl.elim
    | some x =>
      cases v <;> simp only [loA, Option.some.injEq, reduceCtorEq] at ha
      subst ha
      simp only [optRel, Rel] at hl
      exact .inr ⟨_, by rw [hl]⟩
theorem hiA_rel {c : Cx} {n : Nat} {hi : Option AVal} {xh : Option Value} (hh : optRel c hi xh) {b : Int} (hb : hiA n hi = some b) : (xh = none ∧ b = n) ∨ ∃ k, xh = some (.int k b) := by
  cases hi with
  | none => cases xh with
    | none => simp only [hiA, Option.some.injEq] at hb; exact .inl ⟨rfl, hb.symm⟩
    | some _ => exact hh.elim
  | some v => cases xh with
    | none => exact hh.elim
    | some x =>
      cases v <;> simp only [hiA, Option.some.injEq, reduceCtorEq] at hb
      subst hb
      simp only [optRel, Rel] at hh
      exact .inr ⟨_, by rw [hh]⟩

theorem run_sliceBounds {c : Cx} (isS : Bool) (len cap : Nat) (hlc : len ≤ cap) {lo hi : Option AVal} {xl xh : Option Value} (hl : optRel c lo xl) (hh : optRel c hi xh) {a b : Int}
    (ha : loA lo = some a) (hb : hiA len hi = some b) (h0 : 0 ≤ a) (h1 : a ≤ b) (h2 : b ≤ (len : Int)) (w : World) :
    (Instr.sliceBounds isS len cap xl xh none).run P w = .ok (a.toNat, b.toNat, cap) w := by
  have hb1 := fun (k : IntKind) (code : BoundsCode) => run_sliceBound (P := P) k b cap code (by omega) (by omega) w
  have ha1 := fun (k : IntKind) (code : BoundsCode) => run_sliceBound (P := P) k a b.toNat code h0 (by omega) w
  have ha2 := fun (k : IntKind) (code : BoundsCode) (hbl : b = len) => run_sliceBound (P := P) k a len code h0 (by omega) w
  rcases loA_rel hl ha with ⟨rfl, rfl⟩ | ⟨k1, rfl⟩ <;> rcases hiA_rel hh hb with ⟨rfl, rfl⟩ | ⟨k2, rfl⟩
  · simp [Instr.sliceBounds]
  · cases isS <;> simp [Instr.sliceBounds, hb1]
  · have := fun k code => ha2 k code rfl
    simp [Instr.sliceBounds, this]
  · cases isS <;> simp [Instr.sliceBounds, hb1, ha1]

theorem evSlice_ok {T : Tab} (hT : TabOK P T) (hk : HOk G h mu nx w) {t : TypeId} {p v : AVal} {lo hi : Option AVal} {c : Prop} (he : evSlice T h t p lo hi = some (v, c)) (hc : c)
    {x : Value} {xl xh : Option Value} (hp : Rel (cx G h mu nx w) p x) (hl : optRel (cx G h mu nx w) lo xl) (hh : optRel (cx G h mu nx w) hi xh) :
    GoodU P (cx G h mu nx w) (Instr.sliceAt t x xl xh none) v := by
  unfold evSlice at he
  split at he
  · rename_i ti hti
    have hkd := (hT t ti hti).kind
    split at he
    · -- owned
      rename_i e id l n hke
      rw [hke] at hkd
      have ht : P.underlying t = some (.slice e) := hkd
      split at he
      · rename_i ei _ s _ a b hei hlk ha hb
        by_cases hs : s = ei.size
        · rw [if_pos hs] at he
          simp only [Option.some.injEq, Prod.mk.injEq] at he
          obtain ⟨rfl, rfl⟩ := he
          obtain ⟨h0, h1, h2⟩ := hc
          obtain ⟨hid, A, cap, rfl, hncap, hA⟩ := hp
          have hr := run_sliceBounds (P := P) true n cap hncap hl hh ha hb h0 h1 h2
          have hsz := fun w => (hT e ei hei).run_sizeOf w
          refine ⟨.slice (if cap = a.toNat then A else A.map (·.add (a.toNat * ei.size))) (b.toNat - a.toNat) (cap - a.toNat), fun w => ?_, ⟨hid, _, _, rfl, by omega, ?_⟩⟩
          · simp [Instr.sliceAt, Instr.slice, run_underlying ht, hr, hsz]
          · by_cases hca : cap = a.toNat
            · exact .inl (by omega)
            · rcases hA with hA | ⟨B, hB, rfl, hfit⟩
              · exact .inl (by omega)
              · refine .inr ⟨B, hB, ?_, ?_⟩
                · have hBs := (hk.cells hlk hB).1
                  rw [if_neg hca]
                  simp [Addr.add_lit, hBs, hs, Nat.add_mul, Nat.add_assoc]
                · rw [show l + a.toNat + (cap - a.toNat) = l + cap by omega]
                  exact hfit
        · rw [if_neg hs] at he; cases he
      · cases he
    · -- immutable
      rename_i e n s f hke
      rw [hke] at hkd
      have ht : P.underlying t = some (.slice e) := hkd
      split at he
      · rename_i ei a b hei ha hb
        by_cases hs : s = ei.size
        · rw [if_pos hs] at he
          simp only [Option.some.injEq, Prod.mk.injEq] at he
          obtain ⟨rfl, rfl⟩ := he
          obtain ⟨h0, h1, h2⟩ := hc
          obtain ⟨A, cap, rfl, hncap, hA⟩ := hp
          have hr := run_sliceBounds (P := P) true n cap hncap hl hh ha hb h0 h1 h2
          have hsz := fun w => (hT e ei hei).run_sizeOf w
          refine ⟨.slice (if cap = a.toNat then A else A.map (·.add (a.toNat * ei.size))) (b.toNat - a.toNat) (cap - a.toNat), fun w => ?_, ⟨_, _, rfl, by omega, ?_⟩⟩
          · simp [Instr.sliceAt, Instr.slice, run_underlying ht, hr, hsz]
          · by_cases hca : cap = a.toNat
            · exact .inl (by omega)
            · rcases hA with hA | ⟨bb, o, rfl, hF, hlt, hcc⟩
              · exact .inl (by omega)
              · refine .inr ⟨bb, o + a.toNat * s, ?_, hF, hlt, fun i hi j hj => ?_⟩
                · rw [if_neg hca]
                  simp [Addr.add_lit, hs]
                · obtain ⟨h3, v, hv, hr⟩ := hcc (a.toNat + i) (by omega) j hj
                  refine ⟨h3, v, ?_, hr⟩
                  rw [Nat.add_mul, ← Nat.add_assoc] at hv
                  exact hv
        · rw [if_neg hs] at he; cases he
      · cases he
    · -- a string
      rename_i s hke
      rw [hke] at hkd
      have ht : P.underlying t = some .string := hkd
      split at he
      · rename_i a b ha hb
        simp only [Option.some.injEq, Prod.mk.injEq] at he
        obtain ⟨rfl, rfl⟩ := he
        obtain ⟨h0, h1, h2⟩ := hc
        simp only [Rel] at hp
        subst hp
        have hsz : (ByteArray.mk ⟨s⟩).size = s.length := by simp [ByteArray.size]
        have hr := run_sliceBounds (P := P) false s.length s.length (Nat.le_refl _) hl hh ha hb h0 h1 h2
        refine ⟨.string ((ByteArray.mk ⟨s⟩).extract a.toNat b.toNat), fun w => ?_, ?_⟩
        · simp [Instr.sliceAt, Instr.slice, run_underlying ht, hsz, hr]
        · simp only [Rel]
          congr 1
          apply ByteArray.ext
          simp [ByteArray.extract, ByteArray.copySlice, List.drop_take]
      · cases he
    · cases he
  · cases he

def evMake (T : Tab) (h : Heap) (nx : Nat) (t : TypeId) (l c : AVal) : Option (AVal × Heap × Prop) :=
  match T t, l, c with
  | some ⟨.slice e, _, _, _, _⟩, .int _ l, .int _ c =>
    match T e with
    | some ei => some (.sl (nx, 0) 0 l.toNat, (nx, .one (.arr l.toNat ei.size (fun _ => ei.zero))) :: h, 0 ≤ l ∧ l ≤ c ∧ (ei.bytes : Int) * c ≤ 281474976710656 ∧ c ≤ 9223372036854775807)
    | none => none
  | _, _, _ => none

theorem get_madeCells (z : Array Value) (n k : Nat) (hk : k < n) (hz : 0 < z.size) : (madeCells z n)[k]? = some (z.getD (k % z.size) undef) := by
  have := Nat.mod_lt k hz
  simp [madeCells, hk, Array.getD, this]

theorem evMake_ok {T : Tab} (hT : TabOK P T) (hk : HOk G h mu nx w) {t : TypeId} {p q v : AVal} {h' : Heap} {c : Prop} (he : evMake T h nx t p q = some (v, h', c)) (hc : c)
    {x y : Value} (hp : Rel (cx G h mu nx w) p x) (hq : Rel (cx G h mu nx w) q y) : Good P G h mu nx w (Instr.makeSlice t x y) v h' (nx + 1) none := by
  unfold evMake at he
  split at he
  · rename_i e _ _ _ _ k1 l k2 c' hi
    have ht : P.underlying t = some (.slice e) := (hT t _ hi).kind
    split at he
    · rename_i ei hei
      simp only [Option.some.injEq, Prod.mk.injEq] at he
      obtain ⟨rfl, rfl, rfl⟩ := he
      obtain ⟨h0, h1, h2, h3⟩ := hc
      simp only [Rel] at hp hq
      subst hp hq
      obtain ⟨ti, z, hti, hjs, hjb, hz, hzs, hzr⟩ := (hT e ei hei).run_info
      have hr := run_make (P := P) w t e ti z ht hti hz k1 k2 l c' h0 h1 (by rw [hjb]; exact h2) h3
      have hsz : (madeCells z.cells (c'.toNat * ti.size)).size = c'.toNat * ei.size := by rw [size_madeCells, hjs]
      have hlc : l.toNat * ei.size ≤ c'.toNat * ei.size := Nat.mul_le_mul_right _ (by omega)
      refine ⟨_, _, _, hr, cx_alloc _ _ ⟨w.heap.size, 0, ei.size, c'.toNat * ei.size⟩ rfl, hk.alloc l.toNat ei.size (fun _ => ei.zero) _ e _ hsz hlc (fun i hi' j hj => ?_), ?_⟩
      · obtain ⟨h4, h5⟩ := hzr j hj (cx G h mu nx w)
        refine ⟨h5, _, get_madeCells _ _ _ ?_ (by omega), ?_⟩
        · have := mul_off hi' hj
          rw [hjs]
          omega
        · rw [hzs, Nat.mul_add_mod_of_lt hj]
          exact h4
      · exact ⟨⟨Nat.lt_succ_self _, _, _, rfl, by omega, .inr ⟨_, upd_same _ _ _, by simp, by simp⟩⟩, fun b hb _ => Below.heap_alloc w _ b hb⟩
    · cases he
  · cases he

/-- the parts of a literal laid into cells. -/
def fillF (s : Nat) : List (Nat × Nat × AVal) → (Nat → AVal) → Nat → AVal
  | [], f => f
  | (off, m, v) :: r, f => fillF s r (fun j => if off ≤ j ∧ j < off + m then acell v (j - off) else f j)

end
end Go.Lift
