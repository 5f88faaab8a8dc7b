/-
  The abstract layer, part I: composite literals, len, fields of values, bytes of strings.
-/
import Derived.Test.YtmjkbidnghcfnaaLH
namespace Go.Lift
set_option linter.unusedSimpArgs false
set_option linter.unusedVariables false
open Go.RowKit

theorem mapM_at {α β : Type} (g : α → Option β) : ∀ (l : List α) (pl : List β), l.mapM g = some pl → ∀ (k : Nat) (a : α), l[k]? = some a → ∃ y, g a = some y ∧ pl[k]? = some y
  | [], _, _, k, a, hk => by simp at hk
  | x :: l, pl, h, k, a, hk => by
    simp only [List.mapM_cons, Option.bind_eq_bind, Option.pure_def] at h
    cases hx : g x with
    | none => rw [hx] at h; cases h
    | some y =>
      rw [hx] at h
      cases hr : l.mapM g with
      | none => rw [hr] at h; cases h
      | some r =>
        rw [hr] at h
        simp only [Option.bind_some, Option.some.injEq] at h
        subst h
        cases k with
        | zero => simp at hk; subst hk; exact ⟨y, hx, rfl⟩
        | succ k => exact mapM_at g l r hr k a (by simpa using hk)

/-- the parts of a literal, laid into its cells one after the other. -/
def evParts (n : Nat) (place : Nat → Option (Nat × TI)) : List (Nat × AVal) → (Nat → AVal) → Option (Nat → AVal)
  | [], f => some f
  | (k, v) :: r, f =>
    match place k with
    | some (off, i) => if fits i v && decide (off + i.size ≤ n) then evParts n place r (fun j => if off ≤ j ∧ j < off + i.size then acell v (j - off) else f j) else none
    | none => none

def PartsRel (c : Cx) : List (Nat × AVal) → List (Nat × Value) → Prop
  | [], [] => True
  | (k, v) :: r, (k', x) :: r' => k = k' ∧ Rel c v x ∧ PartsRel c r r'
  | _, _ => False

theorem fold_set (off : Nat) : ∀ (l : List Value) (k : Nat) (cs : Array Value), off + k + l.length ≤ cs.size →
    ((l.zipIdx k).foldl (fun cs p => cs.setIfInBounds (off + p.2) p.1) cs).size = cs.size ∧
    ∀ j, ((l.zipIdx k).foldl (fun cs p => cs.setIfInBounds (off + p.2) p.1) cs)[j]? = if off + k ≤ j ∧ j < off + k + l.length then l[j - (off + k)]? else cs[j]?
  | [], k, cs, _ => by simp; intro j h1 h2; omega
  | v :: l, k, cs, h => by
    simp only [List.length_cons] at h
    have ih := fold_set off l (k + 1) (cs.setIfInBounds (off + k) v) (by rw [Array.size_setIfInBounds]; omega)
    simp only [List.zipIdx_cons, List.foldl_cons]
    refine ⟨by simpa using ih.1, fun j => ?_⟩
    rw [ih.2 j]
    by_cases h1 : off + (k + 1) ≤ j ∧ j < off + (k + 1) + l.length
    · rw [if_pos h1, if_pos (by simp; omega)]
      rw [show j - (off + k) = (j - (off + (k + 1))) + 1 by omega]
      simp
    · rw [if_neg h1]
      by_cases h2 : j = off + k
      · subst h2
        have hlt : off + k < cs.size := by omega
        rw [if_pos (by simp)]
        simp [Array.getElem?_setIfInBounds, hlt]
      · rw [if_neg (by simp; omega)]
        rw [Array.getElem?_setIfInBounds_ne (by omega)]

section
variable {P : Program} {w : World} {G : Gh} {h : Heap} {mu : Id → Option Base} {nx : Nat}

theorem fill_ok {c : Cx} {n : Nat} {ap : Nat → Option (Nat × TI)} {place : Nat → Option (Nat × Nat)} (hp : ∀ k off i, ap k = some (off, i) → place k = some (off, i.size) ∧ ∃ t, TIok P t i) :
    ∀ (ps : List (Nat × AVal)) (xs : List (Nat × Value)) (f f' : Nat → AVal) (cells : Array Value), PartsRel c ps xs → cells.size = n →
      (∀ j, j < n → (f j).one = true ∧ Rel c (f j) (cells.getD j undef)) → evParts n ap ps f = some f' →
      ∃ cells', Instr.fill place cells xs = some cells' ∧ cells'.size = n ∧ ∀ j, j < n → (f' j).one = true ∧ Rel c (f' j) (cells'.getD j undef)
  | [], [], f, f', cells, _, hs, hf, he => by
    simp only [evParts, Option.some.injEq] at he
    subst he
    exact ⟨cells, rfl, hs, hf⟩
  | (k, v) :: r, (k', x) :: r', f, f', cells, hr, hs, hf, he => by
    obtain ⟨rfl, hv, hr⟩ := hr
    simp only [evParts] at he
    cases hk : ap k with
    | none => simp [hk] at he
    | some oi =>
      obtain ⟨off, i⟩ := oi
      simp only [hk] at he
      obtain ⟨hpl, t, ht⟩ := hp k off i hk
      by_cases hfit : (fits i v && decide (off + i.size ≤ n)) = true
      · rw [if_pos hfit] at he
        simp only [Bool.and_eq_true, decide_eq_true_eq] at hfit
        obtain ⟨hsz, hcell⟩ := fits_spec ht hfit.1 hv
        have hfs := fold_set off x.cells.toList 0 cells (by simp; omega)
        have heq : x.cells.zipIdx.foldl (fun cs (p : Value × Nat) => cs.setIfInBounds (off + p.2) p.1) cells = (x.cells.toList.zipIdx 0).foldl (fun cs p => cs.setIfInBounds (off + p.2) p.1) cells := by
          rw [← Array.foldl_toList, Array.toList_zipIdx]
        rw [← heq] at hfs
        obtain ⟨cells', h1, h2, h3⟩ := fill_ok hp r r' _ f' (x.cells.zipIdx.foldl (fun cs (p : Value × Nat) => cs.setIfInBounds (off + p.2) p.1) cells) hr (by rw [hfs.1]; exact hs) (fun j hj => by
          have hg := hfs.2 j
          simp only [Nat.add_zero, Array.length_toList] at hg
          have hgd : (x.cells.zipIdx.foldl (fun cs (p : Value × Nat) => cs.setIfInBounds (off + p.2) p.1) cells).getD j undef =
              if off ≤ j ∧ j < off + i.size then x.cells.getD (j - off) undef else cells.getD j undef := by
            simp only [Array.getD_eq_getD_getElem?]
            rw [hg, hsz]
            split
            · simp
            · rfl
          rw [hgd]
          by_cases hin : off ≤ j ∧ j < off + i.size
          · rw [if_pos hin, if_pos hin]
            exact hcell (j - off) (by omega)
          · rw [if_neg hin, if_neg hin]
            exact hf j hj) he
        refine ⟨cells', ?_, h2, h3⟩
        have hne : ¬ (x.cells.size ≠ i.size) := by omega
        have hle : ¬ (off + x.cells.size > cells.size) := by omega
        simp only [Instr.fill, hpl]
        rw [if_neg (by simp [hsz]; omega)]
        exact h1
      · rw [if_neg hfit] at he; cases he
  | [], _ :: _, _, _, _, hr, _, _, _ => hr.elim
  | _ :: _, [], _, _, _, hr, _, _, _ => by simp [PartsRel] at hr

def placeS (T : Tab) (l : List (Nat × TypeId)) (k : Nat) : Option (Nat × TI) :=
  match l[k]? with
  | some (o, ft) => match T ft with
    | some i => some (o, i)
    | none => none
  | none => none

def evBuild (T : Tab) (t : TypeId) (ps : List (Nat × AVal)) : Option AVal :=
  match T t with
  | some ⟨.struct l, n, _, z, _⟩ =>
    match evParts n (placeS T l) ps z with
    | some f => some (.agg n f)
    | none => none
  | _ => none

theorem evBuild_ok {T : Tab} (hT : TabOK P T) {t : TypeId} {ps : List (Nat × AVal)} {v : AVal} (he : evBuild T t ps = some v) {xs : Array (Nat × Value)}
    (hr : PartsRel (cx G h mu nx w) ps xs.toList) : GoodU P (cx G h mu nx w) (Instr.build t xs) v := by
  unfold evBuild at he
  split at he
  · rename_i l n by_ z zq hi
    have ht := hT t _ hi
    obtain ⟨fs, pl, hu, hpl, hfs⟩ := ht.kind
    split at he
    · rename_i f hev
      injection he with he
      subst he
      obtain ⟨j, zz, h1, h2, h3, h4, h5, h6⟩ := ht.run_info
      obtain ⟨cells', hf1, hf2, hf3⟩ := fill_ok (P := P) (c := cx G h mu nx w) (n := n) (ap := placeS T l) (place := fun k => pl[k]?) (fun k off i hk => by
        unfold placeS at hk
        split at hk
        · rename_i o ft hl
          split at hk
          · rename_i i' hi'
            simp only [Option.some.injEq, Prod.mk.injEq] at hk
            obtain ⟨rfl, rfl⟩ := hk
            obtain ⟨fd, hfd, hfo, hft⟩ := hfs k o ft hl
            have htf := hT ft _ hi'
            obtain ⟨jj, _, hj1, hj2, _⟩ := htf.info
            obtain ⟨y, hy1, hy2⟩ := mapM_at _ fs.toList pl hpl k fd (by simpa using hfd)
            rw [hft, hj1] at hy1
            simp only [Option.map_some, Option.some.injEq] at hy1
            refine ⟨?_, ft, htf⟩
            rw [← hy1, hfo, hj2] at hy2
            exact hy2
          · cases hk
        · cases hk) ps xs.toList z f zz.cells hr h5 (fun m hm => ⟨(h6 m hm (cx G h mu nx w)).2, (h6 m hm _).1⟩) hev
      refine ⟨.agg cells', fun w => ?_, ⟨cells', rfl, hf2, fun m hm => (hf3 m hm).2⟩⟩
      have hrp := run_places (P := P) w fs.toList pl hpl
      simp [Instr.build, run_underlying hu, typeInfo, zeroValue, h1, h4, Array.mapM_eq_mapM_toList, hrp, hf1]
    · cases he
  · cases he

def evBuildSlice (T : Tab) (h : Heap) (nx : Nat) (t : TypeId) (len : Nat) (ps : List (Nat × AVal)) : Option (AVal × Heap) :=
  match T t with
  | some ⟨.slice e, _, _, _, _⟩ =>
    match T e with
    | some ei =>
      if len * ei.size ≤ 16777216 then
        match evParts (len * ei.size) (fun k => some (k * ei.size, ei)) ps (fun j => ei.zero (j % ei.size)) with
        | some f => some (.sl (nx, 0) 0 len, (nx, .one (.arr len ei.size (fun i j => f (i * ei.size + j)))) :: h)
        | none => none
      else none
    | none => none
  | _ => none

theorem evBuildSlice_ok {T : Tab} (hT : TabOK P T) (hk : HOk G h mu nx w) {t : TypeId} {len : Nat} {ps : List (Nat × AVal)} {v : AVal} {h' : Heap} (he : evBuildSlice T h nx t len ps = some (v, h'))
    {xs : Array (Nat × Value)} (hr : PartsRel (cx G h mu nx w) ps xs.toList) : Good P G h mu nx w (Instr.buildSlice t len xs) v h' (nx + 1) none := by
  unfold evBuildSlice at he
  split at he
  · rename_i e _ _ _ _ hi
    have hu : P.underlying t = some (.slice e) := (hT t _ hi).kind
    split at he
    · rename_i ei hei
      have hte := hT e ei hei
      by_cases hlim : len * ei.size ≤ 16777216
      · rw [if_pos hlim] at he
        split at he
        · rename_i f hev
          simp only [Option.some.injEq, Prod.mk.injEq] at he
          obtain ⟨rfl, rfl⟩ := he
          obtain ⟨j, zz, h1, h2, h3, h4, h5, h6⟩ := hte.run_info
          let zero : Array Value := if len * ei.size = 0 then #[] else zz.cells
          let cells := (Array.range (len * ei.size)).map (zero[· % zero.size]!)
          have hcz : cells.size = len * ei.size := by simp [cells]
          have hzero : ∀ m, m < len * ei.size → zero = zz.cells := fun m hm => by simp only [zero]; rw [if_neg (by omega)]
          obtain ⟨cells', hf1, hf2, hf3⟩ := fill_ok (P := P) (c := cx G h mu nx w) (n := len * ei.size) (ap := fun k => some (k * ei.size, ei)) (place := fun k => some (k * ei.size, ei.size))
            (fun k off i hk' => by
              simp only [Option.some.injEq, Prod.mk.injEq] at hk'
              obtain ⟨rfl, rfl⟩ := hk'
              exact ⟨rfl, e, hte⟩) ps xs.toList _ f cells hr hcz (fun m hm => by
                have hs : 0 < ei.size := by
                  rcases Nat.eq_zero_or_pos ei.size with h0 | h0
                  · rw [h0] at hm; simp at hm
                  · exact h0
                have hmod := Nat.mod_lt m hs
                have hz := hzero m hm
                obtain ⟨h7, h8⟩ := h6 (m % ei.size) hmod (cx G h mu nx w)
                have : cells.getD m undef = zz.cells.getD (m % ei.size) undef := by
                  simp [cells, Array.getD, hm, hz, h5, hmod]
                rw [this]
                exact ⟨h8, h7⟩) hev
          refine ⟨.slice (some ⟨w.heap.size, 0, none⟩) len len, w.alloc (.cells cells' e), _, ?_, cx_alloc _ _ ⟨w.heap.size, 0, ei.size, len * ei.size⟩ rfl,
            hk.alloc len ei.size (fun i j => f (i * ei.size + j)) cells' e _ hf2 (Nat.le_refl _) (fun i hi' j hj => ?_), ?_⟩
          · have hsz := hte.run_sizeOf w
            have hlim' : ¬ (16777216 < len * ei.size) := by omega
            have hzr : (do if len * ei.size = 0 then pure #[] else pure (← zeroValue e).cells : Sem (Array Value)).run P w = .ok zero w := by
              by_cases h0 : len * ei.size = 0
              · simp only [h0, if_true, zero]; rfl
              · simp [h0, zero, zeroValue, typeInfo, h1, h4]
            simp only [Instr.buildSlice, Sem.run_bind, run_underlying hu, Result.andThen_ok, hsz]
            simp only [show (2 : Nat) ^ 24 = 16777216 from rfl, gt_iff_lt, hlim', if_false]
            by_cases h0 : len * ei.size = 0
            · have hz0 : zero = #[] := by simp [zero, h0]
              simp only [h0, if_true]
              have hc0 : cells = #[] := Array.eq_empty_of_size_eq_zero (by rw [hcz, h0])
              rw [hc0] at hf1
              simp [Array.range_zero', hf1, newRow]
            · have hz0 : zero = zz.cells := by simp [zero, h0]
              simp only [h0, if_false]
              simp only [cells, hz0] at hf1
              simp [zeroValue, typeInfo, h1, h4, hf1, newRow]
          · have hm := mul_off hi' hj
            obtain ⟨h7, h8⟩ := hf3 _ hm
            refine ⟨h7, _, ?_, h8⟩
            simp [Array.getD, hf2, hm]
          · exact ⟨⟨Nat.lt_succ_self _, _, _, rfl, Nat.le_refl _, .inr ⟨_, upd_same _ _ _, by simp, by simp⟩⟩, fun b hb _ => Below.heap_alloc w _ b hb⟩
        · cases he
      · rw [if_neg hlim] at he; cases he
    · cases he
  · cases he

def evLen (h : Heap) (x : AVal) : Option AVal :=
  match x with
  | .nils => some (.int .i64 0)
  | .vsl n _ _ => some (.int .i64 n)
  | .sl _ _ n => some (.int .i64 n)
  | .str s => some (.int .i64 s.length)
  | .nilmap => some (.int .i64 0)
  | .map id => match lkH h id with
    | some (.mp l) => some (.int .i64 l.length)
    | _ => none
  | _ => none

def lenT (T : Tab) (t : TypeId) (p : AVal) : Bool :=
  match T t with
  | none => false
  | some i =>
    match i.k, p with
    | .slice _, .nils => true
    | .slice _, .vsl .. => true
    | .slice _, .sl .. => true
    | .str, .str _ => true
    | .map .., .nilmap => true
    | .map .., .map _ => true
    | _, _ => false

theorem evLen_okU {T : Tab} (hT : TabOK P T) {t ty : TypeId} {p v : AVal} (hm : ∀ id, p ≠ .map id) (he : evLen h p = some v)
    (ht : lenT T t p = true)
    {x : Value} (hp : Rel (cx G h mu nx w) p x) : GoodU P (cx G h mu nx w) (Builtin.len_ #[t] ty #[x]) v := by
  cases hi : T t with
  | none => simp [lenT, hi] at ht
  | some i =>
    have hkd := (hT t i hi).kind
    simp only [lenT, hi] at ht
    unfold evLen at he
    split at he
    · injection he with he
      subst he
      simp only [Rel] at hp
      subst hp
      cases hki : i.k <;> simp [hki] at ht
      rw [hki] at hkd
      have hu : P.underlying t = some (.slice _) := hkd
      exact ⟨goInt 0, fun w => by simp [Builtin.len_, run_underlying hu], rfl⟩
    · injection he with he
      subst he
      obtain ⟨A, cap, rfl, _⟩ := hp
      cases hki : i.k <;> simp [hki] at ht
      rw [hki] at hkd
      have hu : P.underlying t = some (.slice _) := hkd
      exact ⟨goInt _, fun w => by simp [Builtin.len_, run_underlying hu], rfl⟩
    · injection he with he
      subst he
      obtain ⟨_, A, cap, rfl, _⟩ := hp
      cases hki : i.k <;> simp [hki] at ht
      rw [hki] at hkd
      have hu : P.underlying t = some (.slice _) := hkd
      exact ⟨goInt _, fun w => by simp [Builtin.len_, run_underlying hu], rfl⟩
    · injection he with he
      subst he
      simp only [Rel] at hp
      subst hp
      cases hki : i.k <;> simp [hki] at ht
      rw [hki] at hkd
      have hu : P.underlying t = some .string := hkd
      rename_i s
      refine ⟨goInt (ByteArray.mk ⟨s⟩).size, fun w => ?_, ?_⟩
      · simp [Builtin.len_, run_underlying hu]
      · simp [goInt, Rel, ByteArray.size]
    · injection he with he
      subst he
      simp only [Rel] at hp
      subst hp
      cases hki : i.k <;> simp [hki] at ht
      rw [hki] at hkd
      have hu : P.underlying t = some (.map _ _) := hkd
      exact ⟨goInt 0, fun w => by simp [Builtin.len_, run_underlying hu], rfl⟩
    · exact absurd rfl (hm _)
    · cases he

theorem evLen_ok {T : Tab} (hT : TabOK P T) (hk : HOk G h mu nx w) {t ty : TypeId} {p v : AVal} (he : evLen h p = some v)
    (ht : lenT T t p = true)
    {x : Value} (hp : Rel (cx G h mu nx w) p x) : Good P G h mu nx w (Builtin.len_ #[t] ty #[x]) v h nx none := by
  cases hi : T t with
  | none => simp [lenT, hi] at ht
  | some i =>
    have hkd := (hT t i hi).kind
    simp only [lenT, hi] at ht
    unfold evLen at he
    split at he
    · injection he with he
      subst he
      simp only [Rel] at hp
      subst hp
      cases hki : i.k <;> simp [hki] at ht
      rw [hki] at hkd
      have hu : P.underlying t = some (.slice _) := hkd
      exact Good.pure hk (x := goInt 0) (by simp [Builtin.len_, run_underlying hu]) rfl
    · injection he with he
      subst he
      obtain ⟨A, cap, rfl, _⟩ := hp
      cases hki : i.k <;> simp [hki] at ht
      rw [hki] at hkd
      have hu : P.underlying t = some (.slice _) := hkd
      exact Good.pure hk (x := goInt _) (by simp [Builtin.len_, run_underlying hu]) rfl
    · injection he with he
      subst he
      obtain ⟨_, A, cap, rfl, _⟩ := hp
      cases hki : i.k <;> simp [hki] at ht
      rw [hki] at hkd
      have hu : P.underlying t = some (.slice _) := hkd
      exact Good.pure hk (x := goInt _) (by simp [Builtin.len_, run_underlying hu]) rfl
    · injection he with he
      subst he
      simp only [Rel] at hp
      subst hp
      cases hki : i.k <;> simp [hki] at ht
      rw [hki] at hkd
      have hu : P.underlying t = some .string := hkd
      exact Good.pure hk (x := goInt _) (by simp [Builtin.len_, run_underlying hu]; rfl) (by simp [goInt, Rel, ByteArray.size])
    · injection he with he
      subst he
      simp only [Rel] at hp
      subst hp
      cases hki : i.k <;> simp [hki] at ht
      rw [hki] at hkd
      have hu : P.underlying t = some (.map _ _) := hkd
      exact Good.pure hk (x := goInt 0) (by simp [Builtin.len_, run_underlying hu]) rfl
    · rename_i id
      split at he
      · rename_i l hl
        injection he with he
        subst he
        obtain ⟨_, B, hB, rfl⟩ := hp
        cases hki : i.k <;> simp [hki] at ht
        rw [hki] at hkd
        have hu : P.underlying t = some (.map _ _) := hkd
        have ho := (hk.obj id _ hl).2
        have hB' : mu id = some B := hB
        rw [hB'] at ho
        obtain ⟨es, clock, hh, hsz, _⟩ := ho
        have hh' : w.heap[B.b]? = some (.map es clock) := hh
        exact Good.pure hk (x := goInt es.size) (by simp [Builtin.len_, run_underlying hu, getObj, Sem.run, hh']) (by simp [goInt, Rel, hsz])
      · cases he
    · cases he
end
end Go.Lift
