/-
  The abstract layer, part D: what each operation that touches memory does on abstract states.
-/
import Derived.Test.YtmjkbidnghcfnaaLC
namespace Go.Lift
set_option linter.unusedSimpArgs false
set_option linter.unusedVariables false
open Go.RowKit

/-- the blocks that were there are as they were, but for that of the piece wid. -/
def Frame (mu : Id → Option Base) (w w' : World) (wid : Option Id) : Prop :=
  ∀ b, b < w.heap.size → (∀ id B, wid = some id → mu id = some B → b ≠ B.b) → w'.heap[b]? = w.heap[b]?
theorem Frame.refl {mu : Id → Option Base} {w : World} {wid : Option Id} : Frame mu w w wid := fun _ _ _ => rfl

/-- a computation of the model does on related states what the abstract one says. -/
def Good (P : Program) (G : Gh) (h : Heap) (mu : Id → Option Base) (nx : Nat) (w : World) (sem : Sem Value) (v : AVal) (h' : Heap) (nx' : Nat) (wid : Option Id) : Prop :=
  ∃ x w' mu', sem.run P w = .ok x w' ∧ (cx G h mu nx w).Le (cx G h' mu' nx' w') ∧ HOk G h' mu' nx' w' ∧ Rel (cx G h' mu' nx' w') v x ∧ Frame mu w w' wid

/-- a computation that looks at no memory. -/
def GoodU (P : Program) (c : Cx) (sem : Sem Value) (v : AVal) : Prop := ∃ x, (∀ w' : World, sem.run P w' = .ok x w') ∧ Rel c v x

section
variable {P : Program} {G : Gh} {h : Heap} {mu : Id → Option Base} {nx : Nat} {w : World}

theorem Good.pure (hk : HOk G h mu nx w) {sem : Sem Value} {v : AVal} {x : Value} (hr : sem.run P w = .ok x w) (hv : Rel (cx G h mu nx w) v x) : Good P G h mu nx w sem v h nx none :=
  ⟨x, w, mu, hr, Cx.Le.refl _, hk, hv, Frame.refl⟩

theorem Good.ofU (hk : HOk G h mu nx w) {sem : Sem Value} {v : AVal} (hg : GoodU P (cx G h mu nx w) sem v) : Good P G h mu nx w sem v h nx none := by
  obtain ⟨x, hx, hr⟩ := hg
  exact Good.pure hk (hx w) hr

def evLoad (T : Tab) (h : Heap) (t : TypeId) (p : AVal) : Option (AVal × Prop) :=
  match T t, p with
  | some i, .ptr id k off =>
    match lkH h id with
    | some (.arr n s f) => some (mkL i (fun j => f k (off + j)), k < n ∧ off + i.size ≤ s)
    | _ => none
  | some i, .vptr s f off => some (mkL i (fun j => f (off + j)), off + i.size ≤ s)
  | _, _ => none

theorem mul_off {i n s j : Nat} (hi : i < n) (hj : j < s) : i * s + j < n * s := by
  have : (i + 1) * s ≤ n * s := Nat.mul_le_mul_right s hi
  rw [Nat.add_mul, Nat.one_mul] at this
  omega

theorem evLoad_at {T : Tab} (hT : TabOK P T) (hk : HOk G h mu nx w) {t : TypeId} {p v : AVal} {c : Prop} (he : evLoad T h t p = some (v, c)) (hc : c) {x : Value} (hp : Rel (cx G h mu nx w) p x) :
    ∃ y, (∀ w' : World, (∀ b off, b < w.heap.size → ¬ Fb G.O h mu b → w'.cell? ⟨b, off, none⟩ = w.cell? ⟨b, off, none⟩) → (∀ id k off B, p = .ptr id k off → mu id = some B → w'.heap[B.b]? = w.heap[B.b]?) →
      (Instr.loadAt t x).run P w' = .ok y w') ∧ Rel (cx G h mu nx w) v y := by
  unfold evLoad at he
  cases hi : T t with
  | none => simp [hi] at he
  | some i =>
    have ht := hT t i hi
    cases p with
    | ptr id k off =>
      simp only [hi] at he
      cases hl : lkH h id with
      | none => simp [hl] at he
      | some o =>
        cases o with
        | mp l => simp [hl] at he
        | arr n s f =>
          simp only [hl, Option.some.injEq, Prod.mk.injEq] at he
          obtain ⟨rfl, rfl⟩ := he
          obtain ⟨hkn, hoff⟩ := hc
          obtain ⟨hid, B, hB, rfl⟩ := hp
          have ho := (hk.obj id _ hl).2
          have hB' : mu id = some B := hB
          rw [hB'] at ho
          obtain ⟨hs, cs, Ty, hh, hsz, hle, hcc⟩ := ho
          subst hs
          obtain ⟨x, hx, hr⟩ := good_load w ht (c := cx G h mu nx w) rfl (fun j => f k (off + j)) B.b (B.o + k * B.s + off) (fun j hj => by
            obtain ⟨_, v, hv, hr⟩ := hcc k hkn (off + j) (by omega)
            refine ⟨v, ?_, hr⟩
            show w.cell? _ = _
            have hh' : w.heap[B.b]? = some (.cells cs Ty (0, 0)) := hh
            simp only [World.cell?, hh', Option.isSome_none, Bool.false_eq_true, if_false]
            rw [← hv]
            congr 1
            omega)
          refine ⟨x, fun w' _ h2 => ?_, hr⟩
          have := hx w' (fun j _ => by
            have hb2 := h2 id k off B rfl hB'
            simp only [World.cell?, hb2])
          simpa [Instr.loadAt, Instr.sureAddr] using this
    | vptr s f off =>
      simp only [hi, Option.some.injEq, Prod.mk.injEq] at he
      obtain ⟨rfl, rfl⟩ := he
      obtain ⟨b, o, rfl, hF, hb, hcc⟩ := hp
      obtain ⟨x, hx, hr⟩ := good_load w ht (c := cx G h mu nx w) rfl (fun j => f (off + j)) b (o + off) (fun j hj => by
        obtain ⟨_, v, hv, hr⟩ := hcc (off + j) (by omega)
        refine ⟨v, ?_, hr⟩
        rw [← Nat.add_assoc] at hv
        exact hv)
      refine ⟨x, fun w' h1 _ => ?_, hr⟩
      have := hx w' (fun j _ => h1 b _ hb hF)
      simpa [Instr.loadAt, Instr.sureAddr] using this
    | _ => simp [hi] at he

theorem evLoad_pure {T : Tab} (hT : TabOK P T) (hk : HOk G h mu nx w) {t : TypeId} {p v : AVal} {c : Prop} (he : evLoad T h t p = some (v, c)) (hc : c) {x : Value} (hp : Rel (cx G h mu nx w) p x) :
    ∃ y, (Instr.loadAt t x).run P w = .ok y w ∧ Rel (cx G h mu nx w) v y := by
  obtain ⟨y, hy, hr⟩ := evLoad_at hT hk he hc hp
  exact ⟨y, hy w (fun _ _ _ _ => rfl) (fun _ _ _ _ _ _ => rfl), hr⟩

theorem evLoad_ok {T : Tab} (hT : TabOK P T) (hk : HOk G h mu nx w) {t : TypeId} {p v : AVal} {c : Prop} (he : evLoad T h t p = some (v, c)) (hc : c) {x : Value} (hp : Rel (cx G h mu nx w) p x) :
    Good P G h mu nx w (Instr.loadAt t x) v h nx none := by
  obtain ⟨y, hy, hr⟩ := evLoad_pure hT hk he hc hp
  exact Good.pure hk hy hr

/-- the element k turned from place off on, m cells long. -/
def wr (f : Nat → Nat → AVal) (k off m : Nat) (g : Nat → AVal) : Nat → Nat → AVal := fun i j => if i = k ∧ off ≤ j ∧ j < off + m then g (j - off) else f i j

def evStore (T : Tab) (h : Heap) (t : TypeId) (p v : AVal) : Option (Heap × Prop) :=
  match T t, p with
  | some i, .ptr id k off =>
    match lkH h id with
    | some (.arr n s f) => if fits i v then some (setH h id (.arr n s (wr f k off i.size (acell v))), k < n ∧ off + i.size ≤ s) else none
    | _ => none
  | _, _ => none

theorem ne_of_place {i k s j j' : Nat} (hj : j < s) (hj' : j' < s) (h : i * s + j = k * s + j') : i = k ∧ j = j' := by
  have h1 : i = k := by
    rcases Nat.lt_trichotomy i k with hlt | heq | hlt
    · have := mul_off hlt hj; omega
    · exact heq
    · have := mul_off hlt hj'; omega
  subst h1
  exact ⟨rfl, by omega⟩

def wPtr : AVal → Option Id
  | .ptr id _ _ => some id
  | _ => none

theorem evStore_ok {T : Tab} (hT : TabOK P T) (hk : HOk G h mu nx w) {t : TypeId} {p v : AVal} {h' : Heap} {c : Prop} (he : evStore T h t p v = some (h', c)) (hc : c)
    {x y : Value} (hp : Rel (cx G h mu nx w) p x) (hv : Rel (cx G h mu nx w) v y) :
    ∃ w', (Instr.storeAt t x y).run P w = .ok () w' ∧ (cx G h mu nx w).Le (cx G h' mu nx w') ∧ HOk G h' mu nx w' ∧ Frame mu w w' (wPtr p) := by
  unfold evStore at he
  cases hi : T t with
  | none => simp [hi] at he
  | some i =>
    have ht := hT t i hi
    cases p with
    | ptr id k off =>
      simp only [hi] at he
      cases hl : lkH h id with
      | none => simp [hl] at he
      | some o =>
        cases o with
        | mp l => simp [hl] at he
        | arr n s f =>
          simp only [hl] at he
          by_cases hf : fits i v = true
          · rw [if_pos hf] at he
            simp only [Option.some.injEq, Prod.mk.injEq] at he
            obtain ⟨rfl, rfl⟩ := he
            obtain ⟨hkn, hoff⟩ := hc
            obtain ⟨hid, B, hB, rfl⟩ := hp
            obtain ⟨hsz, hcell⟩ := fits_spec ht hf hv
            have ho := (hk.obj id _ hl).2
            have hB' : mu id = some B := hB
            rw [hB'] at ho
            obtain ⟨hs, cs, Ty, hh, hcsz, hle, hcc⟩ := ho
            subst hs
            have hmul := mul_off (s := B.s) hkn (j := off + i.size - 1)
            obtain ⟨cur', hrun, hsz', hin, hout⟩ := run_store_cells w ht y B.b (B.o + k * B.s + off) cs Ty hsz
              (fun j hj => Rel.one (hcell j hj).1 (hcell j hj).2) hh (by
                have : (k + 1) * B.s ≤ n * B.s := Nat.mul_le_mul_right _ hkn
                rw [Nat.add_mul, Nat.one_mul] at this
                omega)
            refine ⟨_, by simpa [Instr.storeAt, Instr.sureAddr] using hrun, ?_⟩
            have hfr : Frame mu w (w.setRow B.b cur') (some id) := fun b _ hne => setRow_other w B.b b cur' (hne id B rfl hB')
            refine (fun (h : _ ∧ _) => ⟨h.1, h.2, hfr⟩) ?_
            refine hk.write (o' := .arr n B.s (wr f k off i.size (acell v))) hl hB' (by simp) (fun b hb => setRow_other w B.b b cur' hb) ⟨rfl, rfl, rfl, Nat.le_refl _⟩ (fun hLe => ?_)
            refine ⟨rfl, cur', Ty, setRow_heap w B.b cs cur' Ty (0, 0) hh, hsz'.trans hcsz, hle, fun i' hi' j' hj' => ?_⟩
            unfold wr
            by_cases hw : i' = k ∧ off ≤ j' ∧ j' < off + i.size
            · rw [if_pos hw]
              obtain ⟨rfl, h1, h2⟩ := hw
              have h3 := hcell (j' - off) (by omega)
              refine ⟨h3.1, _, ?_, h3.2.mono hLe⟩
              have := hin (j' - off) (by omega)
              rw [← this]
              congr 1
              omega
            · rw [if_neg hw]
              obtain ⟨h1, u, hu, hr⟩ := hcc i' hi' j' hj'
              refine ⟨h1, u, ?_, hr.mono hLe⟩
              rw [hout _ ?_]
              · exact hu
              · by_cases h2 : B.o + i' * B.s + j' < B.o + k * B.s + off
                · exact .inl h2
                · refine .inr ?_
                  rcases Nat.lt_or_ge (B.o + i' * B.s + j') (B.o + k * B.s + off + i.size) with h3 | h3
                  · exfalso
                    apply hw
                    have h4 : i' * B.s + j' = k * B.s + (off + (i' * B.s + j' - (k * B.s + off))) := by omega
                    obtain ⟨h5, h6⟩ := ne_of_place hj' (by omega) h4
                    exact ⟨h5, by omega, by omega⟩
                  · exact h3
          · rw [if_neg hf] at he; cases he
    | _ => simp [hi] at he

def evFieldAddr (T : Tab) (t : TypeId) (p : AVal) (k : Nat) : Option AVal :=
  match T t with
  | some ⟨.struct l, _, _, _, _⟩ =>
    match l[k]? with
    | some (o, ft) =>
      match T ft with
      | some fi => if fi.size = 0 then none else
        match p with
        | .ptr id m off => some (.ptr id m (off + o))
        | .vptr s f off => some (.vptr s f (off + o))
        | _ => none
      | none => none
    | none => none
  | _ => none

theorem evFieldAddr_ok {T : Tab} (hT : TabOK P T) {t : TypeId} {p v : AVal} {k : Nat} (he : evFieldAddr T t p k = some v) {x : Value} (hp : Rel (cx G h mu nx w) p x) :
    GoodU P (cx G h mu nx w) (Instr.fieldAt t x k) v := by
  unfold evFieldAddr at he
  split at he
  · rename_i l sz by_ z zq hi
    have ht := hT t _ hi
    have hkd := ht.kind
    obtain ⟨fs, _, hu, _, hfs⟩ := hkd
    split at he
    · rename_i o ft hlk
      obtain ⟨fd, hfd, hfo, hft⟩ := hfs k o ft hlk
      split at he
      · rename_i fi hfi
        have htf := hT ft fi hfi
        by_cases h0 : fi.size = 0
        · rw [if_pos h0] at he; cases he
        · rw [if_neg h0] at he
          have hsz : ∀ w : World, (sizeOf fd.type).run P w = .ok fi.size w := fun w => by rw [hft]; exact htf.run_sizeOf w
          split at he
          · rename_i id m off
            injection he with he
            subst he
            obtain ⟨hid, B, hB, rfl⟩ := hp
            refine ⟨.pointer (some ⟨B.b, B.o + m * B.s + (off + o), none⟩), fun w => ?_, ⟨hid, B, hB, rfl⟩⟩
            simp [Instr.fieldAt, run_underlying hu, hfd, Instr.sureAddr, fieldPlace, hsz, h0, Addr.add_lit, hfo, Nat.add_assoc]
          · rename_i s f off
            injection he with he
            subst he
            obtain ⟨b, o1, rfl, hF, hb, hcc⟩ := hp
            refine ⟨.pointer (some ⟨b, o1 + (off + o), none⟩), fun w => ?_, ⟨b, o1, rfl, hF, hb, hcc⟩⟩
            simp [Instr.fieldAt, run_underlying hu, hfd, Instr.sureAddr, fieldPlace, hsz, h0, Addr.add_lit, hfo, Nat.add_assoc]
          · cases he
      · cases he
    · cases he
  · cases he

def evIndexAddr (T : Tab) (h : Heap) (t : TypeId) (x ix : AVal) : Option (AVal × Prop) :=
  match T t, ix with
  | some ⟨.slice e, _, _, _, _⟩, .int _ m =>
    match T e, x with
    | some ei, .sl id lo n =>
      match lkH h id with
      | some (.arr _ s _) => if s = ei.size then some (.ptr id (lo + m.toNat) 0, 0 ≤ m ∧ m < (n : Int)) else none
      | _ => none
    | some ei, .vsl n s f => if s = ei.size then some (.vptr s (f m.toNat) 0, 0 ≤ m ∧ m < (n : Int)) else none
    | _, _ => none
  | _, _ => none

theorem evIndexAddr_ok {T : Tab} (hT : TabOK P T) (hk : HOk G h mu nx w) {t : TypeId} {p q v : AVal} {c : Prop} (he : evIndexAddr T h t p q = some (v, c)) (hc : c)
    {x y : Value} (hp : Rel (cx G h mu nx w) p x) (hq : Rel (cx G h mu nx w) q y) : GoodU P (cx G h mu nx w) (Instr.indexAt t x y) v := by
  unfold evIndexAddr at he
  split at he
  · rename_i e sz by_ z zq kk m hi
    have ht := hT t _ hi
    have hu : P.underlying t = some (.slice e) := ht.kind
    simp only [Rel] at hq
    subst hq
    split at he
    · rename_i ei id lo n hei
      have hte := hT e ei hei
      split at he
      · rename_i n' s f hl
        by_cases hs : s = ei.size
        · rw [if_pos hs] at he
          simp only [Option.some.injEq, Prod.mk.injEq] at he
          obtain ⟨rfl, rfl⟩ := he
          obtain ⟨h0, hn⟩ := hc
          obtain ⟨hid, A, cap, rfl, hcap, hA⟩ := hp
          rcases hA with h00 | ⟨B, hB, rfl, hle⟩
          · omega
          · have ho := (hk.obj id _ hl).2
            have hB' : mu id = some B := hB
            rw [hB'] at ho
            have hBs : B.s = ei.size := ho.1.trans hs
            refine ⟨.pointer (some ⟨B.b, B.o + (lo + m.toNat) * B.s, none⟩), fun w => ?_, ⟨hid, B, hB, rfl⟩⟩
            have h2 : (Addr.mk B.b (B.o + lo * B.s) none).add (m.toNat * ei.size) = ⟨B.b, B.o + (lo + m.toNat) * B.s, none⟩ := by
              rw [Addr.add_lit, hBs, Nat.add_mul, Nat.add_assoc]
            simp [Instr.indexAt, asIntOf, run_underlying hu, h0, hn, hte.run_sizeOf, h2]
        · rw [if_neg hs] at he; cases he
      · cases he
    · rename_i ei n s f hei
      have hte := hT e ei hei
      by_cases hs : s = ei.size
      · rw [if_pos hs] at he
        simp only [Option.some.injEq, Prod.mk.injEq] at he
        obtain ⟨rfl, rfl⟩ := he
        obtain ⟨h0, hn⟩ := hc
        obtain ⟨A, cap, rfl, hcap, hA⟩ := hp
        rcases hA with h00 | ⟨b, o, rfl, hF, hb, hcc⟩
        · omega
        · refine ⟨.pointer (some ⟨b, o + m.toNat * s + 0, none⟩), fun w => ?_, ⟨b, o + m.toNat * s, rfl, hF, hb, fun j hj => ?_⟩⟩
          · have h2 : (Addr.mk b o none).add (m.toNat * ei.size) = ⟨b, o + m.toNat * s, none⟩ := by rw [Addr.add_lit, hs]
            simp [Instr.indexAt, asIntOf, run_underlying hu, h0, hn, hte.run_sizeOf, h2]
          · exact hcc m.toNat (by omega) j hj
      · rw [if_neg hs] at he; cases he
    · cases he
  · cases he

def evBox (T : Tab) (h : Heap) (nx : Nat) (t : TypeId) (v : AVal) : Option (AVal × Heap) :=
  match T t with
  | some i => if fits i v then some (.ptr (nx, 0) 0 0, (nx, .one (.arr 1 i.size (fun _ => acell v))) :: h) else none
  | none => none

theorem good_newVar {T : Tab} (hT : TabOK P T) (hk : HOk G h mu nx w) {t : TypeId} {i : TI} (hi : T t = some i) {f : Nat → AVal} {y : Value} (hsz : y.cells.size = i.size)
    (hcell : ∀ j, j < i.size → (f j).one = true ∧ Rel (cx G h mu nx w) (f j) (y.cells.getD j undef)) :
    Good P G h mu nx w (do pure (.pointer (some (← newVar t y)))) (.ptr (nx, 0) 0 0) ((nx, .one (.arr 1 i.size (fun _ => f))) :: h) (nx + 1) none := by
  refine ⟨.pointer (some ⟨w.heap.size, 0, none⟩), w.alloc (.cells y.cells t), _, ?_, cx_alloc (.arr 1 i.size (fun _ => f)) _ ⟨w.heap.size, 0, i.size, i.size⟩ rfl,
    hk.alloc 1 i.size (fun _ => f) y.cells t i.size hsz (by omega) (fun k hk' j hj => ?_), ?_, fun b hb _ => Below.heap_alloc w _ b hb⟩
  · simp [newVar, newRow]
  · have : k = 0 := by omega
    subst this
    refine ⟨(hcell j hj).1, y.cells.getD j undef, ?_, (hcell j hj).2⟩
    have : j < y.cells.size := by omega
    simp [Array.getD, this]
  · exact ⟨Nat.lt_succ_self _, _, upd_same _ _ _, by simp⟩

theorem evBox_ok {T : Tab} (hT : TabOK P T) (hk : HOk G h mu nx w) {t : TypeId} {p v : AVal} {h' : Heap} (he : evBox T h nx t p = some (v, h')) {x : Value} (hp : Rel (cx G h mu nx w) p x) :
    Good P G h mu nx w (Instr.box t x) v h' (nx + 1) none := by
  unfold evBox at he
  split at he
  · rename_i i hi
    by_cases hf : fits i p = true
    · rw [if_pos hf] at he
      simp only [Option.some.injEq, Prod.mk.injEq] at he
      obtain ⟨rfl, rfl⟩ := he
      obtain ⟨hsz, hcell⟩ := fits_spec (hT t i hi) hf hp
      exact good_newVar hT hk hi hsz hcell
    · rw [if_neg hf] at he; cases he
  · cases he

def evAlloc (T : Tab) (h : Heap) (nx : Nat) (t : TypeId) : Option (AVal × Heap) :=
  match T t with
  | some i => some (.ptr (nx, 0) 0 0, (nx, .one (.arr 1 i.size (fun _ => i.zero))) :: h)
  | none => none

theorem evAlloc_ok {T : Tab} (hT : TabOK P T) (hk : HOk G h mu nx w) {t : TypeId} {v : AVal} {h' : Heap} (he : evAlloc T h nx t = some (v, h')) :
    Good P G h mu nx w (Instr.alloc t true (.tuple #[])) v h' (nx + 1) none := by
  unfold evAlloc at he
  split at he
  · rename_i i hi
    simp only [Option.some.injEq, Prod.mk.injEq] at he
    obtain ⟨rfl, rfl⟩ := he
    obtain ⟨j, z, h1, h2, h3, h4, h5, h6⟩ := (hT t i hi).run_info
    have hg := good_newVar hT hk hi (f := i.zero) (y := z) h5 (fun m hm => ⟨(h6 m hm (cx G h mu nx w)).2, (h6 m hm _).1⟩)
    obtain ⟨x, w', mu', hr, hrest⟩ := hg
    refine ⟨x, w', mu', ?_, hrest⟩
    rw [← hr]
    simp [Instr.alloc, zeroValue, typeInfo, h1, h4]
  · cases he
end
end Go.Lift
