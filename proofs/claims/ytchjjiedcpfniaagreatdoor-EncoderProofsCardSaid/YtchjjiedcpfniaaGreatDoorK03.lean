/- Parts of the proof: LH. -/
import Derived.Laws.BytesString
import Derived.Test.YtchjjiedcpfniaaGreatDoorK02
namespace Go.Lift
set_option linter.unusedSimpArgs false
set_option linter.unusedVariables false
open Go.RowKit
section
variable {P : Program} {w : World} {G : Gh} {h : Heap} {mu : Id → Option Base} {nx : Nat}
def loA : Option AVal → Option Int
  | none => some 0
  | some (.int _ a) => some a
  | some _ => none
def hiA (n : Nat) : Option AVal → Option Int
  | none => some n
  | some (.int _ a) => some a
  | some _ => none
def evSlice (T : Tab) (h : Heap) (t : TypeId) (x : AVal) (lo hi : Option AVal) : Option (AVal × Prop) :=
  match T t with
  | some ti =>
    match ti.k, x with
    | .slice e, .sl id l n =>
      match T e, lkH h id, loA lo, hiA n hi with
      | some ei, some (.arr _ s _), some a, some b' =>
        if s = ei.size then some (.sl id (l + a.toNat) (b'.toNat - a.toNat), 0 ≤ a ∧ a ≤ b' ∧ b' ≤ (n : Int)) else none
      | _, _, _, _ => none
    | .slice e, .vsl n s f =>
      match T e, loA lo, hiA n hi with
      | some ei, some a, some b' =>
        if s = ei.size then some (.vsl (b'.toNat - a.toNat) s (fun i => f (a.toNat + i)), 0 ≤ a ∧ a ≤ b' ∧ b' ≤ (n : Int)) else none
      | _, _, _ => none
    | .str, .str s =>
      match loA lo, hiA s.length hi with
      | some a, some b' => some (.str ((s.take b'.toNat).drop a.toNat), 0 ≤ a ∧ a ≤ b' ∧ b' ≤ (s.length : Int))
      | _, _ => none
    | .arr m e, .vptr s f off =>
      match T e, loA lo, hiA m hi with
      | some ei, some a, some b' => some (.vsl (b'.toNat - a.toNat) ei.size (fun i j => f (off + (a.toNat + i) * ei.size + j)), 0 ≤ a ∧ a ≤ b' ∧ b' ≤ (m : Int) ∧ off + m * ei.size ≤ s)
      | _, _, _ => none
    | _, _ => none
  | none => none
def optRel (c : Cx) : Option AVal → Option Value → Prop
  | none, none => True
  | some v, some x => Rel c v x
  | _, _ => False
theorem run_sliceBound (k : IntKind) (i : Int) (y : Nat) (code : BoundsCode) (h0 : 0 ≤ i) (h1 : i ≤ y) (w : World) : (Instr.sliceBound (.int k i) y code).run P w = .ok i.toNat w := by
  simp [Instr.sliceBound, asIntOf, h0, h1]
theorem loA_rel {c : Cx} {lo : Option AVal} {xl : Option Value} (hl : optRel c lo xl) {a : Int} (ha : loA lo = some a) : (xl = none ∧ a = 0) ∨ ∃ k, xl = some (.int k a) := by
  cases lo with
  | none => cases xl with
    | none => simp only [loA, Option.some.injEq] at ha; exact .inl ⟨rfl, ha.symm⟩
    | some _ => exact hl.elim
  | some v => cases xl with
    | none => exact hl.elim
    | some x =>
      cases v <;> simp only [loA, Option.some.injEq, reduceCtorEq] at ha
      subst ha
      simp only [optRel, Rel] at hl
      exact .inr ⟨_, by rw [hl]⟩
theorem hiA_rel {c : Cx} {n : Nat} {hi : Option AVal} {xh : Option Value} (hh : optRel c hi xh) {b : Int} (hb : hiA n hi = some b) : (xh = none ∧ b = n) ∨ ∃ k, xh = some (.int k b) := by
  cases hi with
  | none => cases xh with
    | none => simp only [hiA, Option.some.injEq] at hb; exact .inl ⟨rfl, hb.symm⟩
    | some _ => exact hh.elim
  | some v => cases xh with
    | none => exact hh.elim
    | some x =>
      cases v <;> simp only [hiA, Option.some.injEq, reduceCtorEq] at hb
      subst hb
      simp only [optRel, Rel] at hh
      exact .inr ⟨_, by rw [hh]⟩
theorem run_sliceBounds {c : Cx} (isS : Bool) (len cap : Nat) (hlc : len ≤ cap) {lo hi : Option AVal} {xl xh : Option Value} (hl : optRel c lo xl) (hh : optRel c hi xh) {a b : Int}
    (ha : loA lo = some a) (hb : hiA len hi = some b) (h0 : 0 ≤ a) (h1 : a ≤ b) (h2 : b ≤ (len : Int)) (w : World) :
    (Instr.sliceBounds isS len cap xl xh none).run P w = .ok (a.toNat, b.toNat, cap) w := by
  have hb1 := fun (k : IntKind) (code : BoundsCode) => run_sliceBound (P := P) k b cap code (by omega) (by omega) w
  have ha1 := fun (k : IntKind) (code : BoundsCode) => run_sliceBound (P := P) k a b.toNat code h0 (by omega) w
  have ha2 := fun (k : IntKind) (code : BoundsCode) (hbl : b = len) => run_sliceBound (P := P) k a len code h0 (by omega) w
  rcases loA_rel hl ha with ⟨rfl, rfl⟩ | ⟨k1, rfl⟩ <;> rcases hiA_rel hh hb with ⟨rfl, rfl⟩ | ⟨k2, rfl⟩
  · simp [Instr.sliceBounds]
  · cases isS <;> simp [Instr.sliceBounds, hb1]
  · have := fun k code => ha2 k code rfl
    simp [Instr.sliceBounds, this]
  · cases isS <;> simp [Instr.sliceBounds, hb1, ha1]
theorem evSlice_ok {T : Tab} (hT : TabOK P T) (hk : HOk G h mu nx w) {t : TypeId} {p v : AVal} {lo hi : Option AVal} {c : Prop} (he : evSlice T h t p lo hi = some (v, c)) (hc : c)
    {x : Value} {xl xh : Option Value} (hp : Rel (cx G h mu nx w) p x) (hl : optRel (cx G h mu nx w) lo xl) (hh : optRel (cx G h mu nx w) hi xh) :
    GoodU P (cx G h mu nx w) (Instr.sliceAt t x xl xh none) v := by
  unfold evSlice at he
  split at he
  · rename_i ti hti
    have hkd := (hT t ti hti).kind
    split at he
    · -- owned
      rename_i e id l n hke
      rw [hke] at hkd
      have ht : P.underlying t = some (.slice e) := hkd
      split at he
      · rename_i ei _ s _ a b hei hlk ha hb
        by_cases hs : s = ei.size
        · rw [if_pos hs] at he
          simp only [Option.some.injEq, Prod.mk.injEq] at he
          obtain ⟨rfl, rfl⟩ := he
          obtain ⟨h0, h1, h2⟩ := hc
          obtain ⟨hid, A, cap, rfl, hncap, hA⟩ := hp
          have hr := run_sliceBounds (P := P) true n cap hncap hl hh ha hb h0 h1 h2
          have hsz := fun w => (hT e ei hei).run_sizeOf w
          refine ⟨.slice (if cap = a.toNat then A else A.map (·.add (a.toNat * ei.size))) (b.toNat - a.toNat) (cap - a.toNat), fun w => ?_, ⟨hid, _, _, rfl, by omega, ?_⟩⟩
          · simp [Instr.sliceAt, Instr.slice, run_underlying ht, hr, hsz]
          · by_cases hca : cap = a.toNat
            · exact .inl (by omega)
            · rcases hA with hA | ⟨B, hB, rfl, hfit⟩
              · exact .inl (by omega)
              · refine .inr ⟨B, hB, ?_, ?_⟩
                · have hBs := (hk.cells hlk hB).1
                  rw [if_neg hca]
                  simp [Addr.add_lit, hBs, hs, Nat.add_mul, Nat.add_assoc]
                · rw [show l + a.toNat + (cap - a.toNat) = l + cap by omega]
                  exact hfit
        · rw [if_neg hs] at he; cases he
      · cases he
    · -- immutable
      rename_i e n s f hke
      rw [hke] at hkd
      have ht : P.underlying t = some (.slice e) := hkd
      split at he
      · rename_i ei a b hei ha hb
        by_cases hs : s = ei.size
        · rw [if_pos hs] at he
          simp only [Option.some.injEq, Prod.mk.injEq] at he
          obtain ⟨rfl, rfl⟩ := he
          obtain ⟨h0, h1, h2⟩ := hc
          obtain ⟨A, cap, rfl, hncap, hA⟩ := hp
          have hr := run_sliceBounds (P := P) true n cap hncap hl hh ha hb h0 h1 h2
          have hsz := fun w => (hT e ei hei).run_sizeOf w
          refine ⟨.slice (if cap = a.toNat then A else A.map (·.add (a.toNat * ei.size))) (b.toNat - a.toNat) (cap - a.toNat), fun w => ?_, ⟨_, _, rfl, by omega, ?_⟩⟩
          · simp [Instr.sliceAt, Instr.slice, run_underlying ht, hr, hsz]
          · by_cases hca : cap = a.toNat
            · exact .inl (by omega)
            · rcases hA with hA | ⟨bb, o, rfl, hF, hlt, hcc⟩
              · exact .inl (by omega)
              · refine .inr ⟨bb, o + a.toNat * s, ?_, hF, hlt, fun i hi j hj => ?_⟩
                · rw [if_neg hca]
                  simp [Addr.add_lit, hs]
                · obtain ⟨h3, v, hv, hr⟩ := hcc (a.toNat + i) (by omega) j hj
                  refine ⟨h3, v, ?_, hr⟩
                  rw [Nat.add_mul, ← Nat.add_assoc] at hv
                  exact hv
        · rw [if_neg hs] at he; cases he
      · cases he
    · -- a string
      rename_i s hke
      rw [hke] at hkd
      have ht : P.underlying t = some .string := hkd
      split at he
      · rename_i a b ha hb
        simp only [Option.some.injEq, Prod.mk.injEq] at he
        obtain ⟨rfl, rfl⟩ := he
        obtain ⟨h0, h1, h2⟩ := hc
        simp only [Rel] at hp
        subst hp
        have hsz : (ByteArray.mk ⟨s⟩).size = s.length := by simp [ByteArray.size]
        have hr := run_sliceBounds (P := P) false s.length s.length (Nat.le_refl _) hl hh ha hb h0 h1 h2
        refine ⟨.string ((ByteArray.mk ⟨s⟩).extract a.toNat b.toNat), fun w => ?_, ?_⟩
        · simp [Instr.sliceAt, Instr.slice, run_underlying ht, hsz, hr]
        · simp only [Rel]
          congr 1
          apply ByteArray.ext
          simp [ByteArray.extract, ByteArray.copySlice, List.drop_take]
      · cases he
    · -- an immutable array
      rename_i m e s f off hke
      rw [hke] at hkd
      have ht : P.underlying t = some (.array m e) := hkd
      split at he
      · rename_i ei a b hei ha hb
        simp only [Option.some.injEq, Prod.mk.injEq] at he
        obtain ⟨rfl, rfl⟩ := he
        obtain ⟨h0, h1, h2, h3⟩ := hc
        obtain ⟨bb, o, rfl, hF, hlt, hcc⟩ := hp
        have hr := run_sliceBounds (P := P) false m m (Nat.le_refl _) hl hh ha hb h0 h1 h2
        have hsz := fun w => (hT e ei hei).run_sizeOf w
        refine ⟨.slice (some (if m = a.toNat then ⟨bb, o + off, none⟩ else (⟨bb, o + off, none⟩ : Addr).add (a.toNat * ei.size))) (b.toNat - a.toNat) (m - a.toNat), fun w => ?_, ⟨_, _, rfl, by omega, ?_⟩⟩
        · simp [Instr.sliceAt, Instr.sureAddr, run_underlying ht, hr, hsz]
        · by_cases hca : m = a.toNat
          · exact .inl (by omega)
          · refine .inr ⟨bb, o + off + a.toNat * ei.size, ?_, hF, hlt, fun i hi j hj => ?_⟩
            · rw [if_neg hca]; simp [Addr.add_lit]
            · have hm := mul_off (show a.toNat + i < m by omega) hj
              obtain ⟨h4, v, hv, hr⟩ := hcc (off + (a.toNat + i) * ei.size + j) (by omega)
              refine ⟨h4, v, ?_, hr⟩
              rw [← hv, Nat.add_mul]
              congr 2
              omega
      · cases he
    · cases he
  · cases he
def evMake (T : Tab) (h : Heap) (nx : Nat) (t : TypeId) (l c : AVal) : Option (AVal × Heap × Prop) :=
  match T t, l, c with
  | some ⟨.slice e, _, _, _, _⟩, .int _ l, .int _ c =>
    match T e with
    | some ei => some (.sl (nx, 0) 0 l.toNat, (nx, .one (.arr l.toNat ei.size (fun _ => ei.zero))) :: h, 0 ≤ l ∧ l ≤ c ∧ (ei.bytes : Int) * c ≤ 281474976710656 ∧ c ≤ 9223372036854775807)
    | none => none
  | _, _, _ => none
theorem get_madeCells (z : Array Value) (n k : Nat) (hk : k < n) (hz : 0 < z.size) : (madeCells z n)[k]? = some (z.getD (k % z.size) undef) := by
  have := Nat.mod_lt k hz
  simp [madeCells, hk, Array.getD, this]
theorem evMake_ok {T : Tab} (hT : TabOK P T) (hk : HOk G h mu nx w) {t : TypeId} {p q v : AVal} {h' : Heap} {c : Prop} (he : evMake T h nx t p q = some (v, h', c)) (hc : c)
    {x y : Value} (hp : Rel (cx G h mu nx w) p x) (hq : Rel (cx G h mu nx w) q y) : Good P G h mu nx w (Instr.makeSlice t x y) v h' (nx + 1) none := by
  unfold evMake at he
  split at he
  · rename_i e _ _ _ _ k1 l k2 c' hi
    have ht : P.underlying t = some (.slice e) := (hT t _ hi).kind
    split at he
    · rename_i ei hei
      simp only [Option.some.injEq, Prod.mk.injEq] at he
      obtain ⟨rfl, rfl, rfl⟩ := he
      obtain ⟨h0, h1, h2, h3⟩ := hc
      simp only [Rel] at hp hq
      subst hp hq
      obtain ⟨ti, z, hti, hjs, hjb, hz, hzs, hzr⟩ := (hT e ei hei).run_info
      have hr := run_make (P := P) w t e ti z ht hti hz k1 k2 l c' h0 h1 (by rw [hjb]; exact h2) h3
      have hsz : (madeCells z.cells (c'.toNat * ti.size)).size = c'.toNat * ei.size := by rw [size_madeCells, hjs]
      have hlc : l.toNat * ei.size ≤ c'.toNat * ei.size := Nat.mul_le_mul_right _ (by omega)
      refine ⟨_, _, _, hr, cx_alloc _ .one _ ⟨w.heap.size, 0, ei.size, c'.toNat * ei.size⟩ rfl, hk.alloc l.toNat ei.size (fun _ => ei.zero) _ e (.inl rfl) _ hsz hlc (fun i hi' j hj => ?_), ?_⟩
      · obtain ⟨h4, h5⟩ := hzr j hj (cx G h mu nx w)
        refine ⟨h5, _, get_madeCells _ _ _ ?_ (by omega), ?_⟩
        · have := mul_off hi' hj
          rw [hjs]
          omega
        · rw [hzs, Nat.mul_add_mod_of_lt hj]
          exact h4
      · exact ⟨⟨Nat.lt_succ_self _, _, _, rfl, by omega, .inr ⟨_, upd_same _ _ _, by simp, by simp⟩⟩, fun b hb _ => Below.heap_alloc w _ b hb⟩
    · cases he
  · cases he
end
end Go.Lift
namespace Go.Lift
set_option linter.unusedSimpArgs false
set_option linter.unusedVariables false
open Go.RowKit
theorem mapM_at {α β : Type} (g : α → Option β) : ∀ (l : List α) (pl : List β), l.mapM g = some pl → ∀ (k : Nat) (a : α), l[k]? = some a → ∃ y, g a = some y ∧ pl[k]? = some y
  | [], _, _, k, a, hk => by simp at hk
  | x :: l, pl, h, k, a, hk => by
    simp only [List.mapM_cons, Option.bind_eq_bind, Option.pure_def] at h
    cases hx : g x with
    | none => rw [hx] at h; cases h
    | some y =>
      rw [hx] at h
      cases hr : l.mapM g with
      | none => rw [hr] at h; cases h
      | some r =>
        rw [hr] at h
        simp only [Option.bind_some, Option.some.injEq] at h
        subst h
        cases k with
        | zero => simp at hk; subst hk; exact ⟨y, hx, rfl⟩
        | succ k => exact mapM_at g l r hr k a (by simpa using hk)
def evParts (n : Nat) (place : Nat → Option (Nat × TI)) : List (Nat × AVal) → (Nat → AVal) → Option (Nat → AVal)
  | [], f => some f
  | (k, v) :: r, f =>
    match place k with
    | some (off, i) => if fits i v && decide (off + i.size ≤ n) then evParts n place r (fun j => if off ≤ j ∧ j < off + i.size then acell v (j - off) else f j) else none
    | none => none
def PartsRel (c : Cx) : List (Nat × AVal) → List (Nat × Value) → Prop
  | [], [] => True
  | (k, v) :: r, (k', x) :: r' => k = k' ∧ Rel c v x ∧ PartsRel c r r'
  | _, _ => False
theorem fold_set (off : Nat) : ∀ (l : List Value) (k : Nat) (cs : Array Value), off + k + l.length ≤ cs.size →
    ((l.zipIdx k).foldl (fun cs p => cs.setIfInBounds (off + p.2) p.1) cs).size = cs.size ∧
    ∀ j, ((l.zipIdx k).foldl (fun cs p => cs.setIfInBounds (off + p.2) p.1) cs)[j]? = if off + k ≤ j ∧ j < off + k + l.length then l[j - (off + k)]? else cs[j]?
  | [], k, cs, _ => by simp; intro j h1 h2; omega
  | v :: l, k, cs, h => by
    simp only [List.length_cons] at h
    have ih := fold_set off l (k + 1) (cs.setIfInBounds (off + k) v) (by rw [Array.size_setIfInBounds]; omega)
    simp only [List.zipIdx_cons, List.foldl_cons]
    refine ⟨by simpa using ih.1, fun j => ?_⟩
    rw [ih.2 j]
    by_cases h1 : off + (k + 1) ≤ j ∧ j < off + (k + 1) + l.length
    · rw [if_pos h1, if_pos (by simp; omega)]
      rw [show j - (off + k) = (j - (off + (k + 1))) + 1 by omega]
      simp
    · rw [if_neg h1]
      by_cases h2 : j = off + k
      · subst h2
        have hlt : off + k < cs.size := by omega
        rw [if_pos (by simp)]
        simp [Array.getElem?_setIfInBounds, hlt]
      · rw [if_neg (by simp; omega)]
        rw [Array.getElem?_setIfInBounds_ne (by omega)]
section
variable {P : Program} {w : World} {G : Gh} {h : Heap} {mu : Id → Option Base} {nx : Nat}
theorem fill_ok {c : Cx} {n : Nat} {ap : Nat → Option (Nat × TI)} {place : Nat → Option (Nat × Nat)} (hp : ∀ k off i, ap k = some (off, i) → place k = some (off, i.size) ∧ ∃ t, TIok P t i) :
    ∀ (ps : List (Nat × AVal)) (xs : List (Nat × Value)) (f f' : Nat → AVal) (cells : Array Value), PartsRel c ps xs → cells.size = n →
      (∀ j, j < n → (f j).one = true ∧ Rel c (f j) (cells.getD j undef)) → evParts n ap ps f = some f' →
      ∃ cells', Instr.fill place cells xs = some cells' ∧ cells'.size = n ∧ ∀ j, j < n → (f' j).one = true ∧ Rel c (f' j) (cells'.getD j undef)
  | [], [], f, f', cells, _, hs, hf, he => by
    simp only [evParts, Option.some.injEq] at he
    subst he
    exact ⟨cells, rfl, hs, hf⟩
  | (k, v) :: r, (k', x) :: r', f, f', cells, hr, hs, hf, he => by
    obtain ⟨rfl, hv, hr⟩ := hr
    simp only [evParts] at he
    cases hk : ap k with
    | none => simp [hk] at he
    | some oi =>
      obtain ⟨off, i⟩ := oi
      simp only [hk] at he
      obtain ⟨hpl, t, ht⟩ := hp k off i hk
      by_cases hfit : (fits i v && decide (off + i.size ≤ n)) = true
      · rw [if_pos hfit] at he
        simp only [Bool.and_eq_true, decide_eq_true_eq] at hfit
        obtain ⟨hsz, hcell⟩ := fits_spec ht hfit.1 hv
        have hfs := fold_set off x.cells.toList 0 cells (by simp; omega)
        have heq : x.cells.zipIdx.foldl (fun cs (p : Value × Nat) => cs.setIfInBounds (off + p.2) p.1) cells = (x.cells.toList.zipIdx 0).foldl (fun cs p => cs.setIfInBounds (off + p.2) p.1) cells := by
          rw [← Array.foldl_toList, Array.toList_zipIdx]
        rw [← heq] at hfs
        obtain ⟨cells', h1, h2, h3⟩ := fill_ok hp r r' _ f' (x.cells.zipIdx.foldl (fun cs (p : Value × Nat) => cs.setIfInBounds (off + p.2) p.1) cells) hr (by rw [hfs.1]; exact hs) (fun j hj => by
          have hg := hfs.2 j
          simp only [Nat.add_zero, Array.length_toList] at hg
          have hgd : (x.cells.zipIdx.foldl (fun cs (p : Value × Nat) => cs.setIfInBounds (off + p.2) p.1) cells).getD j undef =
              if off ≤ j ∧ j < off + i.size then x.cells.getD (j - off) undef else cells.getD j undef := by
            simp only [Array.getD_eq_getD_getElem?]
            rw [hg, hsz]
            split
            · simp
            · rfl
          rw [hgd]
          by_cases hin : off ≤ j ∧ j < off + i.size
          · rw [if_pos hin, if_pos hin]
            exact hcell (j - off) (by omega)
          · rw [if_neg hin, if_neg hin]
            exact hf j hj) he
        refine ⟨cells', ?_, h2, h3⟩
        have hne : ¬ (x.cells.size ≠ i.size) := by omega
        have hle : ¬ (off + x.cells.size > cells.size) := by omega
        simp only [Instr.fill, hpl]
        rw [if_neg (by simp [hsz]; omega)]
        exact h1
      · rw [if_neg hfit] at he; cases he
  | [], _ :: _, _, _, _, hr, _, _, _ => hr.elim
  | _ :: _, [], _, _, _, hr, _, _, _ => by simp [PartsRel] at hr
def placeS (T : Tab) (l : List (Nat × TypeId)) (k : Nat) : Option (Nat × TI) :=
  match l[k]? with
  | some (o, ft) => match T ft with
    | some i => some (o, i)
    | none => none
  | none => none
def evBuild (T : Tab) (t : TypeId) (ps : List (Nat × AVal)) : Option AVal :=
  match T t with
  | some ⟨.struct l, n, _, z, _⟩ =>
    match evParts n (placeS T l) ps z with
    | some f => some (.agg n f)
    | none => none
  | some ⟨.arr _ e, n, _, z, _⟩ =>
    match T e with
    | some ei => match evParts n (fun k => some (k * ei.size, ei)) ps z with
      | some f => some (.agg n f)
      | none => none
    | none => none
  | _ => none
theorem evBuild_ok {T : Tab} (hT : TabOK P T) {t : TypeId} {ps : List (Nat × AVal)} {v : AVal} (he : evBuild T t ps = some v) {xs : Array (Nat × Value)}
    (hr : PartsRel (cx G h mu nx w) ps xs.toList) : GoodU P (cx G h mu nx w) (Instr.build t xs) v := by
  unfold evBuild at he
  split at he
  · rename_i l n by_ z zq hi
    have ht := hT t _ hi
    obtain ⟨fs, pl, hu, hpl, hfs⟩ := ht.kind
    split at he
    · rename_i f hev
      injection he with he
      subst he
      obtain ⟨j, zz, h1, h2, h3, h4, h5, h6⟩ := ht.run_info
      obtain ⟨cells', hf1, hf2, hf3⟩ := fill_ok (P := P) (c := cx G h mu nx w) (n := n) (ap := placeS T l) (place := fun k => pl[k]?) (fun k off i hk => by
        unfold placeS at hk
        split at hk
        · rename_i o ft hl
          split at hk
          · rename_i i' hi'
            simp only [Option.some.injEq, Prod.mk.injEq] at hk
            obtain ⟨rfl, rfl⟩ := hk
            obtain ⟨fd, hfd, hfo, hft⟩ := hfs k o ft hl
            have htf := hT ft _ hi'
            obtain ⟨jj, _, hj1, hj2, _⟩ := htf.info
            obtain ⟨y, hy1, hy2⟩ := mapM_at _ fs.toList pl hpl k fd (by simpa using hfd)
            rw [hft, hj1] at hy1
            simp only [Option.map_some, Option.some.injEq] at hy1
            refine ⟨?_, ft, htf⟩
            rw [← hy1, hfo, hj2] at hy2
            exact hy2
          · cases hk
        · cases hk) ps xs.toList z f zz.cells hr h5 (fun m hm => ⟨(h6 m hm (cx G h mu nx w)).2, (h6 m hm _).1⟩) hev
      refine ⟨.agg cells', fun w => ?_, ⟨cells', rfl, hf2, fun m hm => (hf3 m hm).2⟩⟩
      have hrp := run_places (P := P) w fs.toList pl hpl
      simp [Instr.build, run_underlying hu, typeInfo, zeroValue, h1, h4, Array.mapM_eq_mapM_toList, hrp, hf1]
    · cases he
  · rename_i m e n by_ z zq hi
    have ht := hT t _ hi
    have hu : P.underlying t = some (.array m e) := ht.kind
    split at he
    · rename_i ei hei
      have hte := hT e ei hei
      split at he
      · rename_i f hev
        injection he with he
        subst he
        obtain ⟨j, zz, h1, h2, h3, h4, h5, h6⟩ := ht.run_info
        obtain ⟨cells', hf1, hf2, hf3⟩ := fill_ok (P := P) (c := cx G h mu nx w) (n := n) (ap := fun k => some (k * ei.size, ei)) (place := fun k => some (k * ei.size, ei.size)) (fun k off i hk => by
          simp only [Option.some.injEq, Prod.mk.injEq] at hk
          obtain ⟨rfl, rfl⟩ := hk
          exact ⟨rfl, e, hte⟩) ps xs.toList z f zz.cells hr h5 (fun m hm => ⟨(h6 m hm (cx G h mu nx w)).2, (h6 m hm _).1⟩) hev
        refine ⟨.agg cells', fun w => ?_, ⟨cells', rfl, hf2, fun m hm => (hf3 m hm).2⟩⟩
        have hsz := hte.run_sizeOf (P := P) w
        simp [Instr.build, run_underlying hu, typeInfo, zeroValue, h1, h4, hsz, hf1]
      · cases he
    · cases he
  · cases he
def evBuildSlice (T : Tab) (h : Heap) (nx : Nat) (t : TypeId) (len : Nat) (ps : List (Nat × AVal)) : Option (AVal × Heap) :=
  match T t with
  | some ⟨.slice e, _, _, _, _⟩ =>
    match T e with
    | some ei =>
      if len * ei.size ≤ 16777216 then
        match evParts (len * ei.size) (fun k => some (k * ei.size, ei)) ps (fun j => ei.zero (j % ei.size)) with
        | some f => some (.sl (nx, 0) 0 len, (nx, .one (.arr len ei.size (fun i j => f (i * ei.size + j)))) :: h)
        | none => none
      else none
    | none => none
  | _ => none
theorem evBuildSlice_ok {T : Tab} (hT : TabOK P T) (hk : HOk G h mu nx w) {t : TypeId} {len : Nat} {ps : List (Nat × AVal)} {v : AVal} {h' : Heap} (he : evBuildSlice T h nx t len ps = some (v, h'))
    {xs : Array (Nat × Value)} (hr : PartsRel (cx G h mu nx w) ps xs.toList) : Good P G h mu nx w (Instr.buildSlice t len xs) v h' (nx + 1) none := by
  unfold evBuildSlice at he
  split at he
  · rename_i e _ _ _ _ hi
    have hu : P.underlying t = some (.slice e) := (hT t _ hi).kind
    split at he
    · rename_i ei hei
      have hte := hT e ei hei
      by_cases hlim : len * ei.size ≤ 16777216
      · rw [if_pos hlim] at he
        split at he
        · rename_i f hev
          simp only [Option.some.injEq, Prod.mk.injEq] at he
          obtain ⟨rfl, rfl⟩ := he
          obtain ⟨j, zz, h1, h2, h3, h4, h5, h6⟩ := hte.run_info
          let zero : Array Value := if len * ei.size = 0 then #[] else zz.cells
          let cells := (Array.range (len * ei.size)).map (zero[· % zero.size]!)
          have hcz : cells.size = len * ei.size := by simp [cells]
          have hzero : ∀ m, m < len * ei.size → zero = zz.cells := fun m hm => by simp only [zero]; rw [if_neg (by omega)]
          obtain ⟨cells', hf1, hf2, hf3⟩ := fill_ok (P := P) (c := cx G h mu nx w) (n := len * ei.size) (ap := fun k => some (k * ei.size, ei)) (place := fun k => some (k * ei.size, ei.size))
            (fun k off i hk' => by
              simp only [Option.some.injEq, Prod.mk.injEq] at hk'
              obtain ⟨rfl, rfl⟩ := hk'
              exact ⟨rfl, e, hte⟩) ps xs.toList _ f cells hr hcz (fun m hm => by
                have hs : 0 < ei.size := by
                  rcases Nat.eq_zero_or_pos ei.size with h0 | h0
                  · rw [h0] at hm; simp at hm
                  · exact h0
                have hmod := Nat.mod_lt m hs
                have hz := hzero m hm
                obtain ⟨h7, h8⟩ := h6 (m % ei.size) hmod (cx G h mu nx w)
                have : cells.getD m undef = zz.cells.getD (m % ei.size) undef := by
                  simp [cells, Array.getD, hm, hz, h5, hmod]
                rw [this]
                exact ⟨h8, h7⟩) hev
          refine ⟨.slice (some ⟨w.heap.size, 0, none⟩) len len, w.alloc (.cells cells' e), _, ?_, cx_alloc _ .one _ ⟨w.heap.size, 0, ei.size, len * ei.size⟩ rfl,
            hk.alloc len ei.size (fun i j => f (i * ei.size + j)) cells' e (.inl rfl) _ hf2 (Nat.le_refl _) (fun i hi' j hj => ?_), ?_⟩
          · have hsz := hte.run_sizeOf w
            have hlim' : ¬ (16777216 < len * ei.size) := by omega
            have hzr : (do if len * ei.size = 0 then pure #[] else pure (← zeroValue e).cells : Sem (Array Value)).run P w = .ok zero w := by
              by_cases h0 : len * ei.size = 0
              · simp only [h0, if_true, zero]; rfl
              · simp [h0, zero, zeroValue, typeInfo, h1, h4]
            simp only [Instr.buildSlice, Sem.run_bind, run_underlying hu, Result.andThen_ok, hsz]
            simp only [show (2 : Nat) ^ 24 = 16777216 from rfl, gt_iff_lt, hlim', if_false]
            by_cases h0 : len * ei.size = 0
            · have hz0 : zero = #[] := by simp [zero, h0]
              simp only [h0, if_true]
              have hc0 : cells = #[] := Array.eq_empty_of_size_eq_zero (by rw [hcz, h0])
              rw [hc0] at hf1
              simp [Array.range_zero', hf1, newRow]
            · have hz0 : zero = zz.cells := by simp [zero, h0]
              simp only [h0, if_false]
              simp only [cells, hz0] at hf1
              simp [zeroValue, typeInfo, h1, h4, hf1, newRow]
          · have hm := mul_off hi' hj
            obtain ⟨h7, h8⟩ := hf3 _ hm
            refine ⟨h7, _, ?_, h8⟩
            simp [Array.getD, hf2, hm]
          · exact ⟨⟨Nat.lt_succ_self _, _, _, rfl, Nat.le_refl _, .inr ⟨_, upd_same _ _ _, by simp, by simp⟩⟩, fun b hb _ => Below.heap_alloc w _ b hb⟩
        · cases he
      · rw [if_neg hlim] at he; cases he
    · cases he
  · cases he
def evLen (h : Heap) (x : AVal) : Option AVal :=
  match x with
  | .nils => some (.int .i64 0)
  | .vsl n _ _ => some (.int .i64 n)
  | .sl _ _ n => some (.int .i64 n)
  | .str s => some (.int .i64 s.length)
  | .nilmap => some (.int .i64 0)
  | .map id => match lkH h id with
    | some (.mp l) => some (.int .i64 l.length)
    | _ => none
  | _ => none
def lenT (T : Tab) (t : TypeId) (p : AVal) : Bool :=
  match T t with
  | none => false
  | some i =>
    match i.k, p with
    | .slice _, .nils => true
    | .slice _, .vsl .. => true
    | .slice _, .sl .. => true
    | .str, .str _ => true
    | .map .., .nilmap => true
    | .map .., .map _ => true
    | _, _ => false
theorem evLen_okU {T : Tab} (hT : TabOK P T) {t ty : TypeId} {p v : AVal} (hm : ∀ id, p ≠ .map id) (he : evLen h p = some v)
    (ht : lenT T t p = true)
    {x : Value} (hp : Rel (cx G h mu nx w) p x) : GoodU P (cx G h mu nx w) (Builtin.len_ #[t] ty #[x]) v := by
  cases hi : T t with
  | none => simp [lenT, hi] at ht
  | some i =>
    have hkd := (hT t i hi).kind
    simp only [lenT, hi] at ht
    unfold evLen at he
    split at he
    · injection he with he
      subst he
      simp only [Rel] at hp
      subst hp
      cases hki : i.k <;> simp [hki] at ht
      rw [hki] at hkd
      have hu : P.underlying t = some (.slice _) := hkd
      exact ⟨goInt 0, fun w => by simp [Builtin.len_, run_underlying hu], rfl⟩
    · injection he with he
      subst he
      obtain ⟨A, cap, rfl, _⟩ := hp
      cases hki : i.k <;> simp [hki] at ht
      rw [hki] at hkd
      have hu : P.underlying t = some (.slice _) := hkd
      exact ⟨goInt _, fun w => by simp [Builtin.len_, run_underlying hu], rfl⟩
    · injection he with he
      subst he
      obtain ⟨_, A, cap, rfl, _⟩ := hp
      cases hki : i.k <;> simp [hki] at ht
      rw [hki] at hkd
      have hu : P.underlying t = some (.slice _) := hkd
      exact ⟨goInt _, fun w => by simp [Builtin.len_, run_underlying hu], rfl⟩
    · injection he with he
      subst he
      simp only [Rel] at hp
      subst hp
      cases hki : i.k <;> simp [hki] at ht
      rw [hki] at hkd
      have hu : P.underlying t = some .string := hkd
      rename_i s
      refine ⟨goInt (ByteArray.mk ⟨s⟩).size, fun w => ?_, ?_⟩
      · simp [Builtin.len_, run_underlying hu]
      · simp [goInt, Rel, ByteArray.size]
    · injection he with he
      subst he
      simp only [Rel] at hp
      subst hp
      cases hki : i.k <;> simp [hki] at ht
      rw [hki] at hkd
      have hu : P.underlying t = some (.map _ _) := hkd
      exact ⟨goInt 0, fun w => by simp [Builtin.len_, run_underlying hu], rfl⟩
    · exact absurd rfl (hm _)
    · cases he
theorem evLen_ok {T : Tab} (hT : TabOK P T) (hk : HOk G h mu nx w) {t ty : TypeId} {p v : AVal} (he : evLen h p = some v)
    (ht : lenT T t p = true)
    {x : Value} (hp : Rel (cx G h mu nx w) p x) : Good P G h mu nx w (Builtin.len_ #[t] ty #[x]) v h nx none := by
  cases hi : T t with
  | none => simp [lenT, hi] at ht
  | some i =>
    have hkd := (hT t i hi).kind
    simp only [lenT, hi] at ht
    unfold evLen at he
    split at he
    · injection he with he
      subst he
      simp only [Rel] at hp
      subst hp
      cases hki : i.k <;> simp [hki] at ht
      rw [hki] at hkd
      have hu : P.underlying t = some (.slice _) := hkd
      exact Good.pure hk (x := goInt 0) (by simp [Builtin.len_, run_underlying hu]) rfl
    · injection he with he
      subst he
      obtain ⟨A, cap, rfl, _⟩ := hp
      cases hki : i.k <;> simp [hki] at ht
      rw [hki] at hkd
      have hu : P.underlying t = some (.slice _) := hkd
      exact Good.pure hk (x := goInt _) (by simp [Builtin.len_, run_underlying hu]) rfl
    · injection he with he
      subst he
      obtain ⟨_, A, cap, rfl, _⟩ := hp
      cases hki : i.k <;> simp [hki] at ht
      rw [hki] at hkd
      have hu : P.underlying t = some (.slice _) := hkd
      exact Good.pure hk (x := goInt _) (by simp [Builtin.len_, run_underlying hu]) rfl
    · injection he with he
      subst he
      simp only [Rel] at hp
      subst hp
      cases hki : i.k <;> simp [hki] at ht
      rw [hki] at hkd
      have hu : P.underlying t = some .string := hkd
      exact Good.pure hk (x := goInt _) (by simp [Builtin.len_, run_underlying hu]; rfl) (by simp [goInt, Rel, ByteArray.size])
    · injection he with he
      subst he
      simp only [Rel] at hp
      subst hp
      cases hki : i.k <;> simp [hki] at ht
      rw [hki] at hkd
      have hu : P.underlying t = some (.map _ _) := hkd
      exact Good.pure hk (x := goInt 0) (by simp [Builtin.len_, run_underlying hu]) rfl
    · rename_i id
      split at he
      · rename_i l hl
        injection he with he
        subst he
        obtain ⟨_, B, hB, rfl⟩ := hp
        cases hki : i.k <;> simp [hki] at ht
        rw [hki] at hkd
        have hu : P.underlying t = some (.map _ _) := hkd
        have ho := (hk.obj id _ hl).2
        have hB' : mu id = some B := hB
        rw [hB'] at ho
        obtain ⟨es, clock, hh, hsz, _⟩ := ho
        have hh' : w.heap[B.b]? = some (.map es clock) := hh
        exact Good.pure hk (x := goInt es.size) (by simp [Builtin.len_, run_underlying hu, getObj, Sem.run, hh']) (by simp [goInt, Rel, hsz])
      · cases he
    · cases he
end
end Go.Lift
namespace Go.Lift
set_option linter.unusedSimpArgs false
set_option linter.unusedVariables false
open Go.RowKit
def inR : IntKind → Int → Prop
  | .i8, n => -128 ≤ n ∧ n ≤ 127
  | .i16, n => -32768 ≤ n ∧ n ≤ 32767
  | .i32, n => -2147483648 ≤ n ∧ n ≤ 2147483647
  | .i64, n => -9223372036854775808 ≤ n ∧ n ≤ 9223372036854775807
  | .u8, n => 0 ≤ n ∧ n ≤ 255
  | .u16, n => 0 ≤ n ∧ n ≤ 65535
  | .u32, n => 0 ≤ n ∧ n ≤ 4294967295
  | .u64, n => 0 ≤ n ∧ n ≤ 18446744073709551615
theorem inR_wrap {k : IntKind} {n : Int} (h : inR k n) : k.wrap n = n := by
  cases k <;> simp only [inR] at h <;> simp only [IntKind.wrap, IntKind.bits, IntKind.signed] <;> simp <;> omega
def strip : AVal → AVal × Prop
  | .opt g v => (v, g = true)
  | v => (v, True)
theorem strip_rel {c : Cx} {v : AVal} {x : Value} (h : Rel c v x) (hs : (strip v).2) : Rel c (strip v).1 x := by
  cases v <;> simp only [strip] at hs ⊢ <;> first | exact h | exact h.1 hs
def mkOpt (g : Bool) : AVal → AVal
  | .opt g2 v => .opt (g && g2) v
  | v => .opt g v
theorem mkOpt_rel {c : Cx} {g : Bool} {v : AVal} {x : Value} (h1 : g = true → Rel c v x) (h2 : g = false → x = undef) : Rel c (mkOpt g v) x := by
  cases v with
  | opt g2 v2 =>
    cases g with
    | true => exact ⟨fun h => (h1 rfl).1 (by simpa using h), fun h => (h1 rfl).2 (by simpa using h)⟩
    | false => exact ⟨fun h => by simp at h, fun _ => h2 rfl⟩
  | _ => exact ⟨h1, h2⟩
def bandI (a b : Int) : Int := ((a.toNat &&& b.toNat : Nat) : Int)
def borI (a b : Int) : Int := ((a.toNat ||| b.toNat : Nat) : Int)
def shB : IntKind → Int
  | .u64 => 63
  | .i64 => 63
  | _ => 7
def evBin (op : BinOp) (x y : AVal) : Option (AVal × Prop) :=
  match x, y with
  | .int k a, .int k' b =>
    if op = .shr then some (.int k (a / 2 ^ b.toNat), 0 ≤ a ∧ 0 ≤ b ∧ b ≤ shB k)
    else if op = .shl then some (.int k (a * 2 ^ b.toNat), 0 ≤ b ∧ b ≤ shB k ∧ inR k (a * 2 ^ b.toNat))
    else if k = k' then
      match op with
      | .and => some (.int k (bandI a b), 0 ≤ a ∧ 0 ≤ b ∧ inR k a ∧ inR k b)
      | .or => some (.int k (borI a b), 0 ≤ a ∧ 0 ≤ b ∧ inR k a ∧ inR k b)
      | .add => some (.int k (a + b), inR k (a + b))
      | .sub => some (.int k (a - b), inR k (a - b))
      | .mul => some (.int k (a * b), inR k (a * b))
      | .quo => some (.int k (a / b), 0 ≤ a ∧ 0 < b ∧ inR k a)
      | .rem => some (.int k (a % b), 0 ≤ a ∧ 0 < b)
      | .eql => some (.bool (decide (a = b)), True)
      | .neq => some (.bool (!decide (a = b)), True)
      | .lss => some (.bool (decide (a < b)), True)
      | .leq => some (.bool (decide (a ≤ b)), True)
      | .gtr => some (.bool (decide (b < a)), True)
      | .geq => some (.bool (decide (b ≤ a)), True)
      | _ => none
    else none
  | .str a, .str b =>
    match op with
    | .add => some (.str (a ++ b), a.length + b.length ≤ 9223372036854775807)
    | .eql => some (.bool (decide (a = b)), True)
    | .neq => some (.bool (!decide (a = b)), True)
    | .lss => some (.bool (Op.bytesLess a b), True)
    | .leq => some (.bool (Op.bytesLess a b || decide (a = b)), True)
    | .gtr => some (.bool (!(Op.bytesLess a b || decide (a = b))), True)
    | .geq => some (.bool (!Op.bytesLess a b), True)
    | _ => none
  | _, _ => none
theorem inR_div {k : IntKind} {a b : Int} (h0 : 0 ≤ a) (hb : 0 < b) (h : inR k a) : inR k (a / b) := by
  have h1 : 0 ≤ a / b := Int.ediv_nonneg h0 (Int.le_of_lt hb)
  have h2 : a / b ≤ a := Int.ediv_le_self b h0
  cases k <;> simp only [inR] at h ⊢ <;> omega
section
variable {P : Program} {w : World} {G : Gh} {h : Heap} {mu : Id → Option Base} {nx : Nat}
theorem eqGuard_int {op : BinOp} {t : TypeId} {x y : Operand} {k k' : IntKind} {a b : Int} : eqGuard op t x y (.int k a) (.int k' b) = pure () := by cases op <;> rfl
theorem eqGuard_str {op : BinOp} {t : TypeId} {x y : Operand} {a b : ByteArray} : eqGuard op t x y (.string a) (.string b) = pure () := by cases op <;> rfl
theorem beq_dec {α : Type} [BEq α] [LawfulBEq α] [DecidableEq α] (a b : α) : (a == b) = decide (a = b) := by
  rw [Bool.eq_iff_iff]; simp
theorem toList_mk (s : List UInt8) : (ByteArray.mk ⟨s⟩).toList = s := ByteArray.toList_eq _
theorem ofInt_in {k : IntKind} {a : Int} (h0 : 0 ≤ a) (h : inR k a) : (BitVec.ofInt k.bits a).toNat = a.toNat := by
  rw [BitVec.toNat_ofInt]
  have : a % ((2 ^ k.bits : Nat) : Int) = a := by
    apply Int.emod_eq_of_lt h0
    cases k <;> simp only [inR] at h <;> simp only [IntKind.bits] <;> omega
  rw [this]
theorem inR_le {k : IntKind} {a : Int} {n : Nat} (h : inR k a) (h0 : 0 ≤ a) (hn : n ≤ a.toNat) : inR k (n : Int) := by
  cases k <;> simp only [inR] at h ⊢ <;> omega
theorem inR_or {k : IntKind} {a b : Int} (h0 : 0 ≤ a) (h1 : 0 ≤ b) (h2 : inR k a) (h3 : inR k b) : inR k ((a.toNat ||| b.toNat : Nat) : Int) := by
  have key : ∀ n : Nat, a.toNat < 2 ^ n → b.toNat < 2 ^ n → a.toNat ||| b.toNat < 2 ^ n := fun n x y => Nat.or_lt_two_pow x y
  cases k <;> simp only [inR] at h2 h3 ⊢
  · have := key 7 (by omega) (by omega); omega
  · have := key 15 (by omega) (by omega); omega
  · have := key 31 (by omega) (by omega); omega
  · have := key 63 (by omega) (by omega); omega
  · have := key 8 (by omega) (by omega); omega
  · have := key 16 (by omega) (by omega); omega
  · have := key 32 (by omega) (by omega); omega
  · have := key 64 (by omega) (by omega); omega
theorem evBin_ok {op : BinOp} {p q v : AVal} {c : Prop} (he : evBin op p q = some (v, c)) (hc : c) {x y : Value} {cx' : Cx} (hp : Rel cx' p x) (hq : Rel cx' q y) (t : TypeId) (ox oy : Operand) :
    ∃ z, (∀ w : World, (do eqGuard op t ox oy x y; binOp op t x y : Sem Value).run P w = .ok z w) ∧ ∀ c2, Rel c2 v z := by
  unfold evBin at he
  split at he
  · rename_i k a k' b
    simp only [Rel] at hp hq
    subst hp hq
    by_cases hr : op = .shr
    · subst hr
      rw [if_pos rfl] at he
      simp only [Option.some.injEq, Prod.mk.injEq] at he
      obtain ⟨rfl, rfl⟩ := he
      obtain ⟨h0, hb, hb7⟩ := hc
      have hn : min b.toNat k.bits = b.toNat := by cases k <;> simp [IntKind.bits] <;> simp only [shB] at hb7 <;> omega
      have hb' : ¬ b < 0 := by omega
      rw [eqGuard_int]
      exact ⟨.int k (a / 2 ^ b.toNat), fun w => by simp [binOp, Op.shift, hb', hn, Int.fdiv_eq_ediv_of_nonneg _ (Int.le_of_lt (Int.pow_pos (n := 2) (m := b.toNat) (by omega)))], fun _ => rfl⟩
    rw [if_neg hr] at he
    by_cases hl : op = .shl
    · subst hl
      rw [if_pos rfl] at he
      simp only [Option.some.injEq, Prod.mk.injEq] at he
      obtain ⟨rfl, rfl⟩ := he
      obtain ⟨hb, hb7, hrg⟩ := hc
      have hn : min b.toNat k.bits = b.toNat := by cases k <;> simp [IntKind.bits] <;> simp only [shB] at hb7 <;> omega
      have hb' : ¬ b < 0 := by omega
      rw [eqGuard_int]
      exact ⟨.int k (a * 2 ^ b.toNat), fun w => by simp [binOp, Op.shift, hb', hn, inR_wrap hrg], fun _ => rfl⟩
    rw [if_neg hl] at he
    by_cases hk : k = k'
    · subst hk
      rw [if_pos rfl] at he
      rw [eqGuard_int]
      cases op <;> simp only [Option.some.injEq, Prod.mk.injEq, reduceCtorEq] at he
      case add => obtain ⟨rfl, rfl⟩ := he; exact ⟨_, fun w => by simp [binOp, Op.intArith, inR_wrap hc], fun _ => rfl⟩
      case sub => obtain ⟨rfl, rfl⟩ := he; exact ⟨_, fun w => by simp [binOp, Op.intArith, inR_wrap hc], fun _ => rfl⟩
      case mul => obtain ⟨rfl, rfl⟩ := he; exact ⟨_, fun w => by simp [binOp, Op.intArith, inR_wrap hc], fun _ => rfl⟩
      case quo =>
        obtain ⟨rfl, rfl⟩ := he
        obtain ⟨h0, hb, hr⟩ := hc
        have hb' : ¬ b = 0 := by omega
        exact ⟨.int k (a / b), fun w => by simp [binOp, Op.intDiv, hb', Int.tdiv_eq_ediv_of_nonneg h0, inR_wrap (inR_div h0 hb hr)], fun _ => rfl⟩
      case rem =>
        obtain ⟨rfl, rfl⟩ := he
        obtain ⟨h0, hb⟩ := hc
        have hb' : ¬ b = 0 := by omega
        exact ⟨.int k (a % b), fun w => by simp [binOp, Op.intDiv, hb', Int.tmod_eq_emod_of_nonneg h0], fun _ => rfl⟩
      case and =>
        obtain ⟨rfl, rfl⟩ := he
        obtain ⟨h0, h1, h2, h3⟩ := hc
        exact ⟨.int k (bandI a b), fun w => by simp [binOp, Op.intBits, ofInt_in h0 h2, ofInt_in h1 h3, BitVec.toNat_and]; exact inR_wrap (inR_le h2 h0 Nat.and_le_left), fun _ => rfl⟩
      case or =>
        obtain ⟨rfl, rfl⟩ := he
        obtain ⟨h0, h1, h2, h3⟩ := hc
        exact ⟨.int k (borI a b), fun w => by simp [binOp, Op.intBits, ofInt_in h0 h2, ofInt_in h1 h3, BitVec.toNat_or]; exact inR_wrap (inR_or h0 h1 h2 h3), fun _ => rfl⟩
      case eql => obtain ⟨rfl, rfl⟩ := he; exact ⟨.bool (decide (a = b)), fun w => by simp [binOp, Op.intCmp]; exact beq_dec a b, fun _ => rfl⟩
      case neq => obtain ⟨rfl, rfl⟩ := he; exact ⟨.bool (!decide (a = b)), fun w => by simp [binOp, Op.intCmp, bne]; exact beq_dec a b, fun _ => rfl⟩
      case lss => obtain ⟨rfl, rfl⟩ := he; exact ⟨_, fun w => by simp [binOp, Op.intCmp], fun _ => rfl⟩
      case leq => obtain ⟨rfl, rfl⟩ := he; exact ⟨_, fun w => by simp [binOp, Op.intCmp], fun _ => rfl⟩
      case gtr => obtain ⟨rfl, rfl⟩ := he; exact ⟨_, fun w => by simp [binOp, Op.intCmp], fun _ => rfl⟩
      case geq => obtain ⟨rfl, rfl⟩ := he; exact ⟨_, fun w => by simp [binOp, Op.intCmp], fun _ => rfl⟩
    · rw [if_neg hk] at he; cases he
  · rename_i a b
    simp only [Rel] at hp hq
    subst hp hq
    rw [eqGuard_str]
    have hsa : (ByteArray.mk ⟨a⟩).size = a.length := by simp [ByteArray.size]
    have hsb : (ByteArray.mk ⟨b⟩).size = b.length := by simp [ByteArray.size]
    have hbeq : (a == b) = decide (a = b) := beq_dec a b
    cases op <;> simp only [Option.some.injEq, Prod.mk.injEq, reduceCtorEq] at he
    case add =>
      obtain ⟨rfl, rfl⟩ := he
      have hc' : ¬ (9223372036854775807 < (a.length : Int) + (b.length : Int)) := by omega
      refine ⟨.string ⟨⟨a ++ b⟩⟩, fun w => ?_, fun _ => rfl⟩
      simp [binOp, Op.stringOp, hsa, hsb, hc']
      apply ByteArray.ext
      simp
    case eql => obtain ⟨rfl, rfl⟩ := he; exact ⟨.bool (decide (a = b)), fun w => by simp [binOp, Op.stringOp, toList_mk, hbeq], fun _ => rfl⟩
    case neq => obtain ⟨rfl, rfl⟩ := he; exact ⟨.bool (!decide (a = b)), fun w => by simp [binOp, Op.stringOp, toList_mk, hbeq], fun _ => rfl⟩
    case lss => obtain ⟨rfl, rfl⟩ := he; exact ⟨_, fun w => by simp [binOp, Op.stringOp, toList_mk], fun _ => rfl⟩
    case leq => obtain ⟨rfl, rfl⟩ := he; exact ⟨.bool (Op.bytesLess a b || decide (a = b)), fun w => by simp [binOp, Op.stringOp, toList_mk, hbeq], fun _ => rfl⟩
    case gtr => obtain ⟨rfl, rfl⟩ := he; exact ⟨.bool (!(Op.bytesLess a b || decide (a = b))), fun w => by simp [binOp, Op.stringOp, toList_mk, hbeq], fun _ => rfl⟩
    case geq => obtain ⟨rfl, rfl⟩ := he; exact ⟨_, fun w => by simp [binOp, Op.stringOp, toList_mk], fun _ => rfl⟩
  · cases he
def evUn (op : UnOp) (x : AVal) : Option (AVal × Prop) :=
  match op, x with
  | .not, .bool b => some (.bool (!b), True)
  | .neg, .int k n => some (.int k (0 - n), inR k (0 - n))
  | _, _ => none
theorem evUn_ok {op : UnOp} {p v : AVal} {c : Prop} (he : evUn op p = some (v, c)) (hc : c) {x : Value} {cx' : Cx} (hp : Rel cx' p x) :
    ∃ z, (∀ w : World, (Op.unary op x).run P w = .ok z w) ∧ ∀ c2, Rel c2 v z := by
  unfold evUn at he
  split at he
  · simp only [Option.some.injEq, Prod.mk.injEq] at he
    obtain ⟨rfl, rfl⟩ := he
    simp only [Rel] at hp
    subst hp
    exact ⟨_, fun w => by simp [Op.unary], fun _ => rfl⟩
  · simp only [Option.some.injEq, Prod.mk.injEq] at he
    obtain ⟨rfl, rfl⟩ := he
    simp only [Rel] at hp
    subst hp
    rename_i k n
    exact ⟨.int k (0 - n), fun w => by simp only [Op.unary, Op.intArith, inR_wrap hc]; rfl, fun _ => rfl⟩
  · cases he
def evConv (T : Tab) (src dst : TypeId) (x : AVal) : Option (AVal × Prop) :=
  match T src, T dst with
  | some ⟨.int _, _, _, _, _⟩, some ⟨.int k, _, _, _, _⟩ => match x with
    | .int _ n => some (.int k n, inR k n)
    | _ => none
  | some ⟨.str, _, _, _, _⟩, some ⟨.str, _, _, _, _⟩ => match x with
    | .str s => some (.str s, True)
    | _ => none
  | _, _ => none
theorem evConv_ok {T : Tab} (hT : TabOK P T) {src dst : TypeId} {p v : AVal} {c : Prop} (he : evConv T src dst p = some (v, c)) (hc : c) {x : Value} {cx' : Cx} (hp : Rel cx' p x) :
    ∃ z, (∀ w : World, (convert src dst x).run P w = .ok z w) ∧ ∀ c2, Rel c2 v z := by
  unfold evConv at he
  split at he
  · rename_i ks _ _ _ _ kd _ _ _ _ hs hd
    have h1 : P.underlying src = some (.int ks) := (hT src _ hs).kind
    have h2 : P.underlying dst = some (.int kd) := (hT dst _ hd).kind
    split at he
    · simp only [Option.some.injEq, Prod.mk.injEq] at he
      obtain ⟨rfl, rfl⟩ := he
      simp only [Rel] at hp
      subst hp
      exact ⟨_, fun w => by simp [convert, run_underlying h1, run_underlying h2, Conv.intToInt, inR_wrap hc], fun _ => rfl⟩
    · cases he
  · rename_i _ _ _ _ _ _ hs hd
    have h1 : P.underlying src = some .string := (hT src _ hs).kind
    have h2 : P.underlying dst = some .string := (hT dst _ hd).kind
    split at he
    · simp only [Option.some.injEq, Prod.mk.injEq] at he
      obtain ⟨rfl, rfl⟩ := he
      simp only [Rel] at hp
      subst hp
      exact ⟨_, fun w => by simp [convert, run_underlying h1, run_underlying h2], fun _ => rfl⟩
    · cases he
  · cases he
def byteOf : AVal → UInt8
  | .int _ n => UInt8.ofNat n.toNat
  | _ => 0
def isU8 : AVal → Bool
  | .int .u8 _ => true
  | _ => false
def isU8T (T : Tab) (t : TypeId) : Bool := match T t with
  | some ⟨.int .u8, _, _, _, _⟩ => true
  | _ => false
def bytesT (T : Tab) (src dst : TypeId) : Bool := match T src, T dst with
  | some ⟨.slice e, _, _, _, _⟩, some ⟨.str, _, _, _, _⟩ => isU8T T e
  | _, _ => false
def evBts (T : Tab) (src dst : TypeId) (x : AVal) : Option AVal := match x with
  | .vsl n s f => if bytesT T src dst && s == 1 && allLt n (fun i => isU8 (f i 0)) then some (.str ((List.range n).map fun i => byteOf (f i 0))) else none
  | _ => none
theorem push_all (g : Int → UInt8) : ∀ (ns : List Int) (s : ByteArray), ns.foldl (fun r n => r.push (g n)) s = ⟨⟨s.data.toList ++ ns.map g⟩⟩
  | [], s => by apply ByteArray.ext; simp
  | n :: ns, s => by
    rw [List.foldl_cons, push_all g ns]
    apply ByteArray.ext
    simp [ByteArray.push]
theorem evBts_at {T : Tab} (hT : TabOK P T) {src dst : TypeId} {p v : AVal} (he : evBts T src dst p = some v) {x : Value} (hp : Rel (cx G h mu nx w) p x) :
    ∃ z, (∀ c2, Rel c2 v z) ∧ ∀ w' : World, (∀ b off, b < w.heap.size → ¬ Fb G.O h mu b → w'.cell? ⟨b, off, none⟩ = w.cell? ⟨b, off, none⟩) → (convert src dst x).run P w' = .ok z w' := by
  unfold evBts at he
  split at he
  · rename_i n s f
    split at he
    · rename_i hc
      injection he with he
      subst he
      simp only [Bool.and_eq_true, beq_iff_eq] at hc
      obtain ⟨⟨h1, rfl⟩, h3⟩ := hc
      unfold bytesT at h1
      split at h1
      · rename_i e _ _ _ _ _ _ _ _ hs hd
        have hsu : P.underlying src = some (.slice e) := (hT src _ hs).kind
        have hdu : P.underlying dst = some .string := (hT dst _ hd).kind
        unfold isU8T at h1
        split at h1
        · rename_i hi
          have heu : P.underlying e = some (.int .u8) := (hT e _ hi).kind
          obtain ⟨A, cap, rfl, hcap, hA⟩ := hp
          refine ⟨.string ⟨⟨(List.range n).map fun i => byteOf (f i 0)⟩⟩, fun _ => rfl, fun w' hw' => ?_⟩
          rw [run_convert_bytes_string w' src dst e A n cap hsu heu hdu]
          rcases hA with h0 | ⟨b, o, rfl, hF, hb, hcc⟩
          · subst h0
            cases A with
            | none => simp [Conv.bytesToString]; rfl
            | some a =>
              rw [run_bytesToString w' a 0 cap [] (by simp [loadCells, loadCellsFrom])]
              rfl
          · have hin : ∀ i, i < n → ∃ m, f i 0 = .int .u8 m := fun i hi => by
              have := allLt_spec h3 i hi
              unfold isU8 at this
              split at this
              · exact ⟨_, by assumption⟩
              · cases this
            have hl := run_loadCells (P := P) w' ⟨b, o, none⟩ n (fun i => match f i 0 with
              | .int _ m => .int .u8 m
              | _ => undef) (fun i hi => by
                obtain ⟨_, v, hv, hr⟩ := hcc i hi 0 (by omega)
                obtain ⟨m, hm⟩ := hin i hi
                rw [Addr.add_lit, hw' b _ hb hF]
                simp only [Nat.mul_one, Nat.add_zero] at hv
                rw [hm] at hr
                simp only [Rel] at hr
                have hv' : w.cell? ⟨b, o + i, none⟩ = some v := hv
                rw [hv', hr, hm])
            rw [run_bytesToString w' ⟨b, o, none⟩ n cap ((List.range n).map fun i => match f i 0 with
              | .int _ m => m
              | _ => 0) (by
                rw [hl, List.map_map]
                congr 2
                apply List.map_congr_left
                intro i hi
                obtain ⟨m, hm⟩ := hin i (by simpa using hi)
                simp [hm])]
            rw [push_all]
            congr 3
            apply congrArg
            rw [List.map_map]
            show _ = _
            apply List.map_congr_left
            intro i hi
            obtain ⟨m, hm⟩ := hin i (by simpa using hi)
            simp [hm, byteOf]
        · cases h1
      · cases h1
    · cases he
  · cases he
def evField (T : Tab) (t : TypeId) (x : AVal) (k : Nat) : Option (AVal × Prop) :=
  match T t, x with
  | some ⟨.struct l, _, _, _, _⟩, .agg n f =>
    match placeS T l k with
    | some (o, i) => some (mkL i (fun j => f (o + j)), o + i.size ≤ n)
    | none => none
  | _, _ => none
theorem evField_ok {T : Tab} (hT : TabOK P T) {t : TypeId} {p v : AVal} {k : Nat} {c : Prop} (he : evField T t p k = some (v, c)) (hc : c) {x : Value} {cx' : Cx} (hp : Rel cx' p x) :
    ∃ z, (∀ w : World, (Instr.field t x k).run P w = .ok z w) ∧ Rel cx' v z := by
  unfold evField at he
  split at he
  · rename_i l _ _ _ n f hi
    obtain ⟨fs, pl, hu, _, hfs⟩ := (hT t _ hi).kind
    split at he
    · rename_i o i hpl
      simp only [Option.some.injEq, Prod.mk.injEq] at he
      obtain ⟨rfl, rfl⟩ := he
      unfold placeS at hpl
      split at hpl
      · rename_i o' ft hlk
        split at hpl
        · rename_i i' hi'
          simp only [Option.some.injEq, Prod.mk.injEq] at hpl
          obtain ⟨rfl, rfl⟩ := hpl
          obtain ⟨fd, hfd, rfl, rfl⟩ := hfs k o' ft hlk
          have htf := hT fd.type _ hi'
          obtain ⟨cs, rfl, hsz, hr⟩ := hp
          unfold mkL
          cases hag : i'.k.agg with
          | true =>
            refine ⟨.agg (cs.extract fd.offset (fd.offset + i'.size)), fun w => by simp [Instr.field, run_underlying hu, hfd, part, htf.run_isAgg, hag, htf.run_sizeOf, asAgg], _, rfl, by simp; omega, fun j hj => ?_⟩
            have := hr (fd.offset + j) (by omega)
            have h2 : (cs.extract fd.offset (fd.offset + i'.size)).getD j undef = cs.getD (fd.offset + j) undef := by
              have h3 : fd.offset + j < cs.size := by omega
              simp only [Array.getD_eq_getD_getElem?]
              rw [Array.getElem?_extract]
              have h4 : j < min (fd.offset + i'.size) cs.size - fd.offset := by omega
              simp [h4]
            rw [h2]
            exact this
          | false =>
            have h1 := htf.one hag
            have h3 : fd.offset < cs.size := by omega
            refine ⟨cs.getD fd.offset undef, fun w => by simp [Instr.field, run_underlying hu, hfd, part, htf.run_isAgg, hag, asAgg, h3, Array.getD], ?_⟩
            exact hr (fd.offset + 0) (by omega)
        · cases hpl
      · cases hpl
    · cases he
  · cases he
def evIndex (x ix : AVal) : Option (AVal × Prop) :=
  match x, ix with
  | .str s, .int _ m => some (.int .u8 (s.getD m.toNat 0).toNat, 0 ≤ m ∧ m < (s.length : Int))
  | _, _ => none
theorem evIndex_ok {T : Tab} (hT : TabOK P T) {t : TypeId} {i : TI} (hi : T t = some i) (hs : (match i.k with | .str => true | _ => false) = true) {p q v : AVal} {c : Prop} (he : evIndex p q = some (v, c)) (hc : c)
    {x y : Value} {cx' : Cx} (hp : Rel cx' p x) (hq : Rel cx' q y) : ∃ z, (∀ w : World, (Instr.index t x y).run P w = .ok z w) ∧ ∀ c2, Rel c2 v z := by
  have hkd := (hT t i hi).kind
  cases hki : i.k <;> rw [hki] at hs <;> simp at hs
  rw [hki] at hkd
  have hu : P.underlying t = some .string := hkd
  unfold evIndex at he
  split at he
  · rename_i s k m
    simp only [Option.some.injEq, Prod.mk.injEq] at he
    obtain ⟨rfl, rfl⟩ := he
    simp only [Rel] at hp hq
    subst hp hq
    obtain ⟨h0, h1⟩ := hc
    have h2 : m.toNat < s.length := by omega
    have h3 : (ByteArray.mk ⟨s⟩)[m.toNat]? = some s[m.toNat] := by
      have h4 : m.toNat < (ByteArray.mk ⟨s⟩).size := by simpa [ByteArray.size] using h2
      rw [getElem?_pos (ByteArray.mk ⟨s⟩) m.toNat h4]
      rfl
    refine ⟨.int .u8 (s.getD m.toNat 0).toNat, fun w => ?_, fun _ => rfl⟩
    simp [Instr.index, asIntOf, run_underlying hu, h0, h3, h2]
  · cases he
end
def sliceT (T : Tab) (t : TypeId) : Bool := match T t with
  | some ⟨.slice _, _, _, _, _⟩ => true
  | _ => false
def elemT (T : Tab) (t : TypeId) : Option TI := match T t with
  | some ⟨.slice e, _, _, _, _⟩ => T e
  | _ => none
def isBoolT (T : Tab) (t : TypeId) : Bool := match T t with
  | some i => match i.k with
    | .bool => true
    | _ => false
  | none => false
def eqC (T : Tab) (ft : TypeId) (a b : AVal) : Option Bool := match T ft with
  | some i => match i.k, a, b with
    | .int _, .int k x, .int k' y => if k = k' then some (decide (x = y)) else none
    | .str, .str x, .str y => some (decide (x = y))
    | .bool, .bool x, .bool y => some (x == y)
    | _, _, _ => none
  | none => none
def eqL (T : Tab) : List (Nat × TypeId) → (Nat → AVal) → (Nat → AVal) → Option Bool
  | [], _, _ => some true
  | (o, ft) :: r, f, g => match eqC T ft (f o) (g o), eqL T r f g with
    | some a, some b => some (a && b)
    | _, _ => none
def evEqA (T : Tab) (t : TypeId) (n : Nat) (f g : Nat → AVal) : Option Bool := match T t with
  | some i => match i.k with
    | .struct l => if i.eq && i.size == n && l.all (fun p => decide (p.1 < n)) then eqL T l f g else none
    | _ => none
  | none => none
def evEq (T : Tab) (o : BinOp) (t : TypeId) (x y : AVal) : Option AVal := match o, x, y with
  | .eql, .bool a, .bool b => if isBoolT T t then some (.bool (a == b)) else none
  | .neq, .bool a, .bool b => if isBoolT T t then some (.bool (!(a == b))) else none
  | .eql, .vsl n _ _, .nils => if sliceT T t then some (.ub (n = 0)) else none
  | .eql, .sl _ _ n, .nils => if sliceT T t then some (.ub (n = 0)) else none
  | .eql, .nils, .nils => if sliceT T t then some (.bool true) else none
  | .eql, .agg n f, .agg m g => (if n = m then evEqA T t n f g else none).map fun r => .bool r
  | .neq, .agg n f, .agg m g => (if n = m then evEqA T t n f g else none).map fun r => .bool (!r)
  | _, _, _ => none
section
variable {P : Program}
theorem isBoolT_spec {T : Tab} (hT : TabOK P T) {t : TypeId} (h : isBoolT T t = true) : P.underlying t = some .bool := by
  unfold isBoolT at h
  split at h
  · rename_i i hi
    have := (hT t i hi).kind
    split at h
    · rename_i hk; rw [hk] at this; exact this
    · cases h
  · cases h
theorem sliceT_spec {T : Tab} (hT : TabOK P T) {t : TypeId} (h : sliceT T t = true) : ∃ e, P.underlying t = some (.slice e) := by
  unfold sliceT at h
  split at h
  · rename_i hi
    have := (hT t _ hi).kind
    exact ⟨_, this⟩
  · cases h
theorem equal_eq (t : TypeId) (x y : Value) : Op.equal t x y = Op.equalIn (9999 + 1) t x y := rfl
theorem run_equal_nil {e : TypeId} {t : TypeId} (hu : P.underlying t = some (.slice e)) (A : Option Addr) (n m : Nat) (w : World) : (Op.equal t (.slice A n m) (.slice none 0 0)).run P w = .ok A.isNone w := by
  rw [equal_eq]
  unfold Op.equalIn
  cases A <;> simp only [Sem.run_bind, run_underlying hu, Result.andThen_ok, Sem.run_pure] <;> rfl
theorem eqC_ok {T : Tab} (hT : TabOK P T) {ft : TypeId} {a b : AVal} {r : Bool} (h : eqC T ft a b = some r) {x y : Value} {c : Cx} (ha : Rel c a x) (hb : Rel c b y) (d : Nat) (w : World) :
    (Op.equalIn (d + 1) ft x y).run P w = .ok r w ∧ isAgg ft = isAgg ft ∧ (isAgg ft).run P w = .ok false w := by
  unfold eqC at h
  split at h
  · rename_i i hi
    have hk := (hT ft i hi).kind
    have hagg := (hT ft i hi).run_isAgg w
    split at h
    · rename_i k0 k p k' q hki
      rw [hki] at hk hagg
      split at h
      · rename_i hkk
        subst hkk
        injection h with h
        simp only [Rel] at ha hb
        subst ha hb h
        refine ⟨?_, rfl, hagg⟩
        rw [run_equalIn_int w d ft k k0 p q hk, beq_dec]
      · cases h
    · rename_i p q hki
      rw [hki] at hk hagg
      injection h with h
      simp only [Rel] at ha hb
      subst ha hb h
      refine ⟨?_, rfl, hagg⟩
      rw [run_equalIn_string w d ft _ _ hk, toList_mk, toList_mk, beq_dec]
    · rename_i p q hki
      rw [hki] at hk hagg
      injection h with h
      simp only [Rel] at ha hb
      subst ha hb h
      exact ⟨run_equalIn_bool w d ft p q hk, rfl, hagg⟩
    · cases h
  · cases h
theorem eqL_ok {T : Tab} (hT : TabOK P T) {n : Nat} {f g : Nat → AVal} {xs ys : Array Value} {c : Cx} (hx : ∀ j, j < n → Rel c (f j) (xs.getD j undef)) (hy : ∀ j, j < n → Rel c (g j) (ys.getD j undef)) (hxn : xs.size = n) (hyn : ys.size = n) (d : Nat) (w : World) :
    ∀ (fs : List Field) (r : Bool), (∀ q ∈ fs, q.name ≠ "_") → (∀ p ∈ fs.map (fun f => (f.offset, f.type)), p.1 < n) → eqL T (fs.map fun f => (f.offset, f.type)) f g = some r → (Op.eqFields (d + 1) xs ys fs).run P w = .ok r w
  | [], r, _, _, h => by
    simp only [List.map_nil, eqL, Option.some.injEq] at h
    subst h
    simp [Op.eqFields]
  | q :: fs, r, hn, hlt, h => by
    simp only [List.map_cons, eqL] at h
    split at h
    · rename_i a b h1 h2
      injection h with h
      subst h
      have hq : q.offset < n := hlt (q.offset, q.type) (by simp)
      obtain ⟨e1, _, e2⟩ := eqC_ok hT h1 (hx _ hq) (hy _ hq) d w
      have ih := eqL_ok hT hx hy hxn hyn d w fs b (fun z hz => hn z (by simp [hz])) (fun p hp => hlt p (by simp only [List.map_cons, List.mem_cons]; exact .inr hp)) h2
      have p1 : (part q.type xs q.offset).run P w = .ok (xs.getD q.offset undef) w := by
        have hq1 : q.offset < xs.size := by omega
        simp [part, e2, hq1, Array.getD]
      have p2 : (part q.type ys q.offset).run P w = .ok (ys.getD q.offset undef) w := by
        have hq1 : q.offset < ys.size := by omega
        simp [part, e2, hq1, Array.getD]
      have hne : q.name ≠ "_" := hn q (by simp)
      simp only [Op.eqFields, hne, ne_eq, not_false_eq_true, if_true, Sem.run_bind, p1, p2, e1, Result.andThen_ok]
      cases a with
      | true => simpa using ih
      | false => simp
    · cases h
theorem evEqA_ok {T : Tab} (hT : TabOK P T) {t : TypeId} {n : Nat} {f g : Nat → AVal} {r : Bool} (h : evEqA T t n f g = some r) {xs ys : Array Value} {c : Cx} (hx : ∀ j, j < n → Rel c (f j) (xs.getD j undef)) (hy : ∀ j, j < n → Rel c (g j) (ys.getD j undef)) (hxn : xs.size = n) (hyn : ys.size = n) (w : World) :
    (Op.equal t (.agg xs) (.agg ys)).run P w = .ok r w ∧ P.eqGuardType P.depth t = false := by
  unfold evEqA at h
  split at h
  · rename_i i hi
    split at h
    · rename_i l hk
      split at h
      · rename_i hc
        simp only [Bool.and_eq_true, beq_iff_eq, List.all_eq_true, decide_eq_true_eq] at hc
        have he := (hT t i hi).eqv hc.1.1 l hk
        refine ⟨?_, he.guard⟩
        have hlt := hc.2
        rw [← he.fields] at h hlt
        have := run_equalIn_struct w 9999 t xs ys he.und he.held
        rw [equal_eq, this]
        exact eqL_ok hT hx hy hxn hyn 9998 w _ r he.names hlt h
      · cases h
    · cases h
  · cases h
theorem evEq_ok {T : Tab} (hT : TabOK P T) {op : BinOp} {t : TypeId} {p q v : AVal} (he : evEq T op t p q = some v) {x y : Value} {c : Cx} (hp : Rel c p x) (hq : Rel c q y) (ox oy : Operand) :
    ∃ z, (∀ w : World, (do eqGuard op t ox oy x y; binOp op t x y : Sem Value).run P w = .ok z w) ∧ ∀ c2, Rel c2 v z := by
  unfold evEq at he
  split at he
  · rename_i a b
    split at he
    · rename_i ht
      injection he with he
      subst he
      simp only [Rel] at hp hq
      subst hp hq
      have hu := isBoolT_spec hT ht
      exact ⟨.bool (a == b), fun w => by simp [eqGuard, binOp, run_equal_bool w t a b hu], fun _ => rfl⟩
    · cases he
  · rename_i a b
    split at he
    · rename_i ht
      injection he with he
      subst he
      simp only [Rel] at hp hq
      subst hp hq
      have hu := isBoolT_spec hT ht
      exact ⟨.bool (!(a == b)), fun w => by simp [eqGuard, binOp, run_equal_bool w t a b hu], fun _ => rfl⟩
    · cases he
  · rename_i n s f
    split at he
    · rename_i ht
      injection he with he
      subst he
      obtain ⟨A, cap, rfl, hn, hA⟩ := hp
      simp only [Rel] at hq
      subst hq
      obtain ⟨e, hu⟩ := sliceT_spec hT ht
      cases A with
      | none =>
        refine ⟨.bool true, fun w => by simp [eqGuard, binOp, run_equal_nil hu], fun _ => ⟨true, rfl, fun _ => ?_⟩⟩
        rcases hA with hA | ⟨b, o, hA, _⟩
        · exact hA
        · cases hA
      | some A => exact ⟨.bool false, fun w => by simp [eqGuard, binOp, run_equal_nil hu], fun _ => ⟨false, rfl, fun h => by cases h⟩⟩
    · cases he
  · rename_i id lo n
    split at he
    · rename_i ht
      injection he with he
      subst he
      obtain ⟨_, A, cap, rfl, hn, hA⟩ := hp
      simp only [Rel] at hq
      subst hq
      obtain ⟨e, hu⟩ := sliceT_spec hT ht
      cases A with
      | none =>
        refine ⟨.bool true, fun w => by simp [eqGuard, binOp, run_equal_nil hu], fun _ => ⟨true, rfl, fun _ => ?_⟩⟩
        rcases hA with hA | ⟨B, _, hA, _⟩
        · omega
        · cases hA
      | some A => exact ⟨.bool false, fun w => by simp [eqGuard, binOp, run_equal_nil hu], fun _ => ⟨false, rfl, fun h => by cases h⟩⟩
    · cases he
  · split at he
    · rename_i ht
      injection he with he
      subst he
      simp only [Rel] at hp hq
      subst hp hq
      obtain ⟨e, hu⟩ := sliceT_spec hT ht
      exact ⟨.bool true, fun w => by simp [eqGuard, binOp, run_equal_nil hu], fun _ => rfl⟩
    · cases he
  · rename_i n f m g
    split at he
    · rename_i hnm
      subst hnm
      cases hr : evEqA T t n f g with
      | none => rw [hr] at he; cases he
      | some r =>
        rw [hr] at he
        injection he with he
        subst he
        obtain ⟨xs, rfl, hxn, hx⟩ := hp
        obtain ⟨ys, rfl, hyn, hy⟩ := hq
        exact ⟨.bool r, fun w => by
          obtain ⟨h1, h2⟩ := evEqA_ok hT hr hx hy hxn hyn w
          simp [eqGuard, binOp, h1, h2], fun _ => rfl⟩
    · cases he
  · rename_i n f m g
    split at he
    · rename_i hnm
      subst hnm
      cases hr : evEqA T t n f g with
      | none => rw [hr] at he; cases he
      | some r =>
        rw [hr] at he
        injection he with he
        subst he
        obtain ⟨xs, rfl, hxn, hx⟩ := hp
        obtain ⟨ys, rfl, hyn, hy⟩ := hq
        exact ⟨.bool (!r), fun w => by
          obtain ⟨h1, h2⟩ := evEqA_ok hT hr hx hy hxn hyn w
          simp [eqGuard, binOp, h1, h2], fun _ => rfl⟩
    · cases he
  · cases he
end
end Go.Lift
