/- Parts of the proof: LD. -/
import Derived.Test.YtchjjiedcpfniaaGreatDoorK01
namespace Go.Lift
set_option linter.unusedSimpArgs false
set_option linter.unusedVariables false
open Go.RowKit
def Frame (mu : Id → Option Base) (w w' : World) (wid : Option Id) : Prop :=
  ∀ b, b < w.heap.size → (∀ id B, wid = some id → mu id = some B → b ≠ B.b) → w'.heap[b]? = w.heap[b]?
theorem Frame.refl {mu : Id → Option Base} {w : World} {wid : Option Id} : Frame mu w w wid := fun _ _ _ => rfl
def Good (P : Program) (G : Gh) (h : Heap) (mu : Id → Option Base) (nx : Nat) (w : World) (sem : Sem Value) (v : AVal) (h' : Heap) (nx' : Nat) (wid : Option Id) : Prop :=
  ∃ x w' mu', sem.run P w = .ok x w' ∧ (cx G h mu nx w).Le (cx G h' mu' nx' w') ∧ HOk G h' mu' nx' w' ∧ Rel (cx G h' mu' nx' w') v x ∧ Frame mu w w' wid
def GoodU (P : Program) (c : Cx) (sem : Sem Value) (v : AVal) : Prop := ∃ x, (∀ w' : World, sem.run P w' = .ok x w') ∧ Rel c v x
section
variable {P : Program} {G : Gh} {h : Heap} {mu : Id → Option Base} {nx : Nat} {w : World}
theorem Good.pure (hk : HOk G h mu nx w) {sem : Sem Value} {v : AVal} {x : Value} (hr : sem.run P w = .ok x w) (hv : Rel (cx G h mu nx w) v x) : Good P G h mu nx w sem v h nx none :=
  ⟨x, w, mu, hr, Cx.Le.refl _, hk, hv, Frame.refl⟩
theorem Good.ofU (hk : HOk G h mu nx w) {sem : Sem Value} {v : AVal} (hg : GoodU P (cx G h mu nx w) sem v) : Good P G h mu nx w sem v h nx none := by
  obtain ⟨x, hx, hr⟩ := hg
  exact Good.pure hk (hx w) hr
def evLoad (T : Tab) (h : Heap) (t : TypeId) (p : AVal) : Option (AVal × Prop) :=
  match T t, p with
  | some i, .ptr id k off =>
    match lkH h id with
    | some (.arr n s f) => some (mkL i (fun j => f k (off + j)), k < n ∧ off + i.size ≤ s)
    | _ => none
  | some i, .vptr s f off => some (mkL i (fun j => f (off + j)), off + i.size ≤ s)
  | _, _ => none
theorem mul_off {i n s j : Nat} (hi : i < n) (hj : j < s) : i * s + j < n * s := by
  have : (i + 1) * s ≤ n * s := Nat.mul_le_mul_right s hi
  rw [Nat.add_mul, Nat.one_mul] at this
  omega
theorem evLoad_at {T : Tab} (hT : TabOK P T) (hk : HOk G h mu nx w) {t : TypeId} {p v : AVal} {c : Prop} (he : evLoad T h t p = some (v, c)) (hc : c) {x : Value} (hp : Rel (cx G h mu nx w) p x) :
    ∃ y, (∀ w' : World, (∀ b off, b < w.heap.size → ¬ Fb G.O h mu b → w'.cell? ⟨b, off, none⟩ = w.cell? ⟨b, off, none⟩) → (∀ id k off B, p = .ptr id k off → mu id = some B → w'.heap[B.b]? = w.heap[B.b]?) →
      (Instr.loadAt t x).run P w' = .ok y w') ∧ Rel (cx G h mu nx w) v y := by
  unfold evLoad at he
  cases hi : T t with
  | none => simp [hi] at he
  | some i =>
    have ht := hT t i hi
    cases p with
    | ptr id k off =>
      simp only [hi] at he
      cases hl : lkH h id with
      | none => simp [hl] at he
      | some o =>
        cases o with
        | mp l => simp [hl] at he
        | mi q l => simp [hl] at he
        | ob p => simp [hl] at he
        | arr n s f =>
          simp only [hl, Option.some.injEq, Prod.mk.injEq] at he
          obtain ⟨rfl, rfl⟩ := he
          obtain ⟨hkn, hoff⟩ := hc
          obtain ⟨hid, B, hB, rfl⟩ := hp
          have ho := (hk.obj id _ hl).2
          have hB' : mu id = some B := hB
          rw [hB'] at ho
          obtain ⟨hs, cs, Ty, hh, hsz, hle, hcc⟩ := ho
          subst hs
          obtain ⟨x, hx, hr⟩ := good_load w ht (c := cx G h mu nx w) rfl (fun j => f k (off + j)) B.b (B.o + k * B.s + off) (fun j hj => by
            obtain ⟨_, v, hv, hr⟩ := hcc k hkn (off + j) (by omega)
            refine ⟨v, ?_, hr⟩
            show w.cell? _ = _
            have hh' : w.heap[B.b]? = some (.cells cs Ty (0, 0)) := hh
            simp only [World.cell?, hh', Option.isSome_none, Bool.false_eq_true, if_false]
            rw [← hv]
            congr 1
            omega)
          refine ⟨x, fun w' _ h2 => ?_, hr⟩
          have := hx w' (fun j _ => by
            have hb2 := h2 id k off B rfl hB'
            simp only [World.cell?, hb2])
          simpa [Instr.loadAt, Instr.sureAddr] using this
    | vptr s f off =>
      simp only [hi, Option.some.injEq, Prod.mk.injEq] at he
      obtain ⟨rfl, rfl⟩ := he
      obtain ⟨b, o, rfl, hF, hb, hcc⟩ := hp
      obtain ⟨x, hx, hr⟩ := good_load w ht (c := cx G h mu nx w) rfl (fun j => f (off + j)) b (o + off) (fun j hj => by
        obtain ⟨_, v, hv, hr⟩ := hcc (off + j) (by omega)
        refine ⟨v, ?_, hr⟩
        rw [← Nat.add_assoc] at hv
        exact hv)
      refine ⟨x, fun w' h1 _ => ?_, hr⟩
      have := hx w' (fun j _ => h1 b _ hb hF)
      simpa [Instr.loadAt, Instr.sureAddr] using this
    | _ => simp [hi] at he
theorem evLoad_pure {T : Tab} (hT : TabOK P T) (hk : HOk G h mu nx w) {t : TypeId} {p v : AVal} {c : Prop} (he : evLoad T h t p = some (v, c)) (hc : c) {x : Value} (hp : Rel (cx G h mu nx w) p x) :
    ∃ y, (Instr.loadAt t x).run P w = .ok y w ∧ Rel (cx G h mu nx w) v y := by
  obtain ⟨y, hy, hr⟩ := evLoad_at hT hk he hc hp
  exact ⟨y, hy w (fun _ _ _ _ => rfl) (fun _ _ _ _ _ _ => rfl), hr⟩
theorem evLoad_ok {T : Tab} (hT : TabOK P T) (hk : HOk G h mu nx w) {t : TypeId} {p v : AVal} {c : Prop} (he : evLoad T h t p = some (v, c)) (hc : c) {x : Value} (hp : Rel (cx G h mu nx w) p x) :
    Good P G h mu nx w (Instr.loadAt t x) v h nx none := by
  obtain ⟨y, hy, hr⟩ := evLoad_pure hT hk he hc hp
  exact Good.pure hk hy hr
def wr (f : Nat → Nat → AVal) (k off m : Nat) (g : Nat → AVal) : Nat → Nat → AVal := fun i j => if i = k ∧ off ≤ j ∧ j < off + m then g (j - off) else f i j
def evStore (T : Tab) (h : Heap) (t : TypeId) (p v : AVal) : Option (Heap × Prop) :=
  match T t, p with
  | some i, .ptr id k off =>
    match lkH h id with
    | some (.arr n s f) => if fits i v then some (setH h id (.arr n s (wr f k off i.size (acell v))), k < n ∧ off + i.size ≤ s) else none
    | _ => none
  | _, _ => none
theorem ne_of_place {i k s j j' : Nat} (hj : j < s) (hj' : j' < s) (h : i * s + j = k * s + j') : i = k ∧ j = j' := by
  have h1 : i = k := by
    rcases Nat.lt_trichotomy i k with hlt | heq | hlt
    · have := mul_off hlt hj; omega
    · exact heq
    · have := mul_off hlt hj'; omega
  subst h1
  exact ⟨rfl, by omega⟩
def wPtr : AVal → Option Id
  | .ptr id _ _ => some id
  | _ => none
theorem evStore_ok {T : Tab} (hT : TabOK P T) (hk : HOk G h mu nx w) {t : TypeId} {p v : AVal} {h' : Heap} {c : Prop} (he : evStore T h t p v = some (h', c)) (hc : c)
    {x y : Value} (hp : Rel (cx G h mu nx w) p x) (hv : Rel (cx G h mu nx w) v y) :
    ∃ w', (Instr.storeAt t x y).run P w = .ok () w' ∧ (cx G h mu nx w).Le (cx G h' mu nx w') ∧ HOk G h' mu nx w' ∧ Frame mu w w' (wPtr p) := by
  unfold evStore at he
  cases hi : T t with
  | none => simp [hi] at he
  | some i =>
    have ht := hT t i hi
    cases p with
    | ptr id k off =>
      simp only [hi] at he
      cases hl : lkH h id with
      | none => simp [hl] at he
      | some o =>
        cases o with
        | mp l => simp [hl] at he
        | mi q l => simp [hl] at he
        | ob p => simp [hl] at he
        | arr n s f =>
          simp only [hl] at he
          by_cases hf : fits i v = true
          · rw [if_pos hf] at he
            simp only [Option.some.injEq, Prod.mk.injEq] at he
            obtain ⟨rfl, rfl⟩ := he
            obtain ⟨hkn, hoff⟩ := hc
            obtain ⟨hid, B, hB, rfl⟩ := hp
            obtain ⟨hsz, hcell⟩ := fits_spec ht hf hv
            have ho := (hk.obj id _ hl).2
            have hB' : mu id = some B := hB
            rw [hB'] at ho
            obtain ⟨hs, cs, Ty, hh, hcsz, hle, hcc⟩ := ho
            subst hs
            have hmul := mul_off (s := B.s) hkn (j := off + i.size - 1)
            obtain ⟨cur', hrun, hsz', hin, hout⟩ := run_store_cells w ht y B.b (B.o + k * B.s + off) cs Ty hsz
              (fun j hj => Rel.one (hcell j hj).1 (hcell j hj).2) hh (by
                have : (k + 1) * B.s ≤ n * B.s := Nat.mul_le_mul_right _ hkn
                rw [Nat.add_mul, Nat.one_mul] at this
                omega)
            refine ⟨_, by simpa [Instr.storeAt, Instr.sureAddr] using hrun, ?_⟩
            have hfr : Frame mu w (w.setRow B.b cur') (some id) := fun b _ hne => setRow_other w B.b b cur' (hne id B rfl hB')
            refine (fun (h : _ ∧ _) => ⟨h.1, h.2, hfr⟩) ?_
            refine hk.write (o' := .arr n B.s (wr f k off i.size (acell v))) hl hB' (by simp) (fun b hb => setRow_other w B.b b cur' hb) ⟨rfl, rfl, rfl, Nat.le_refl _⟩ (fun hLe => ?_) (fun cs2 t2 h2 => by
              rw [show w.heap[B.b]? = some (.cells cs Ty (0, 0)) from hh] at h2
              injection h2 with h2; injection h2 with _ h3 _; subst h3
              exact ⟨cur', setRow_heap w B.b cs cur' Ty (0, 0) hh⟩)
            refine ⟨rfl, cur', Ty, setRow_heap w B.b cs cur' Ty (0, 0) hh, hsz'.trans hcsz, hle, fun i' hi' j' hj' => ?_⟩
            unfold wr
            by_cases hw : i' = k ∧ off ≤ j' ∧ j' < off + i.size
            · rw [if_pos hw]
              obtain ⟨rfl, h1, h2⟩ := hw
              have h3 := hcell (j' - off) (by omega)
              refine ⟨h3.1, _, ?_, h3.2.mono hLe⟩
              have := hin (j' - off) (by omega)
              rw [← this]
              congr 1
              omega
            · rw [if_neg hw]
              obtain ⟨h1, u, hu, hr⟩ := hcc i' hi' j' hj'
              refine ⟨h1, u, ?_, hr.mono hLe⟩
              rw [hout _ ?_]
              · exact hu
              · by_cases h2 : B.o + i' * B.s + j' < B.o + k * B.s + off
                · exact .inl h2
                · refine .inr ?_
                  rcases Nat.lt_or_ge (B.o + i' * B.s + j') (B.o + k * B.s + off + i.size) with h3 | h3
                  · exfalso
                    apply hw
                    have h4 : i' * B.s + j' = k * B.s + (off + (i' * B.s + j' - (k * B.s + off))) := by omega
                    obtain ⟨h5, h6⟩ := ne_of_place hj' (by omega) h4
                    exact ⟨h5, by omega, by omega⟩
                  · exact h3
          · rw [if_neg hf] at he; cases he
    | _ => simp [hi] at he
def evFieldAddr (T : Tab) (t : TypeId) (p : AVal) (k : Nat) : Option AVal :=
  match T t with
  | some ⟨.struct l, _, _, _, _⟩ =>
    match l[k]? with
    | some (o, ft) =>
      match T ft with
      | some fi => if fi.size = 0 then none else
        match p with
        | .ptr id m off => some (.ptr id m (off + o))
        | .vptr s f off => some (.vptr s f (off + o))
        | _ => none
      | none => none
    | none => none
  | _ => none
theorem evFieldAddr_ok {T : Tab} (hT : TabOK P T) {t : TypeId} {p v : AVal} {k : Nat} (he : evFieldAddr T t p k = some v) {x : Value} (hp : Rel (cx G h mu nx w) p x) :
    GoodU P (cx G h mu nx w) (Instr.fieldAt t x k) v := by
  unfold evFieldAddr at he
  split at he
  · rename_i l sz by_ z zq hi
    have ht := hT t _ hi
    have hkd := ht.kind
    obtain ⟨fs, _, hu, _, hfs⟩ := hkd
    split at he
    · rename_i o ft hlk
      obtain ⟨fd, hfd, hfo, hft⟩ := hfs k o ft hlk
      split at he
      · rename_i fi hfi
        have htf := hT ft fi hfi
        by_cases h0 : fi.size = 0
        · rw [if_pos h0] at he; cases he
        · rw [if_neg h0] at he
          have hsz : ∀ w : World, (sizeOf fd.type).run P w = .ok fi.size w := fun w => by rw [hft]; exact htf.run_sizeOf w
          split at he
          · rename_i id m off
            injection he with he
            subst he
            obtain ⟨hid, B, hB, rfl⟩ := hp
            refine ⟨.pointer (some ⟨B.b, B.o + m * B.s + (off + o), none⟩), fun w => ?_, ⟨hid, B, hB, rfl⟩⟩
            simp [Instr.fieldAt, run_underlying hu, hfd, Instr.sureAddr, fieldPlace, hsz, h0, Addr.add_lit, hfo, Nat.add_assoc]
          · rename_i s f off
            injection he with he
            subst he
            obtain ⟨b, o1, rfl, hF, hb, hcc⟩ := hp
            refine ⟨.pointer (some ⟨b, o1 + (off + o), none⟩), fun w => ?_, ⟨b, o1, rfl, hF, hb, hcc⟩⟩
            simp [Instr.fieldAt, run_underlying hu, hfd, Instr.sureAddr, fieldPlace, hsz, h0, Addr.add_lit, hfo, Nat.add_assoc]
          · cases he
      · cases he
    · cases he
  · cases he
def evIndexAddr (T : Tab) (h : Heap) (t : TypeId) (x ix : AVal) : Option (AVal × Prop) :=
  match T t, ix with
  | some ⟨.slice e, _, _, _, _⟩, .int _ m =>
    match T e, x with
    | some ei, .sl id lo n =>
      match lkH h id with
      | some (.arr _ s _) => if s = ei.size then some (.ptr id (lo + m.toNat) 0, 0 ≤ m ∧ m < (n : Int)) else none
      | _ => none
    | some ei, .vsl n s f => if s = ei.size then some (.vptr s (f m.toNat) 0, 0 ≤ m ∧ m < (n : Int)) else none
    | _, _ => none
  | some ⟨.arr n e, _, _, _, _⟩, .int _ m =>
    match T e, x with
    | some ei, .ptr id k off => some (.ptr id k (off + m.toNat * ei.size), 0 ≤ m ∧ m < (n : Int))
    | some ei, .vptr s f off => some (.vptr s f (off + m.toNat * ei.size), 0 ≤ m ∧ m < (n : Int))
    | _, _ => none
  | _, _ => none
theorem evIndexAddr_ok {T : Tab} (hT : TabOK P T) (hk : HOk G h mu nx w) {t : TypeId} {p q v : AVal} {c : Prop} (he : evIndexAddr T h t p q = some (v, c)) (hc : c)
    {x y : Value} (hp : Rel (cx G h mu nx w) p x) (hq : Rel (cx G h mu nx w) q y) : GoodU P (cx G h mu nx w) (Instr.indexAt t x y) v := by
  unfold evIndexAddr at he
  split at he
  · rename_i e sz by_ z zq kk m hi
    have ht := hT t _ hi
    have hu : P.underlying t = some (.slice e) := ht.kind
    simp only [Rel] at hq
    subst hq
    split at he
    · rename_i ei id lo n hei
      have hte := hT e ei hei
      split at he
      · rename_i n' s f hl
        by_cases hs : s = ei.size
        · rw [if_pos hs] at he
          simp only [Option.some.injEq, Prod.mk.injEq] at he
          obtain ⟨rfl, rfl⟩ := he
          obtain ⟨h0, hn⟩ := hc
          obtain ⟨hid, A, cap, rfl, hcap, hA⟩ := hp
          rcases hA with h00 | ⟨B, hB, rfl, hle⟩
          · omega
          · have ho := (hk.obj id _ hl).2
            have hB' : mu id = some B := hB
            rw [hB'] at ho
            have hBs : B.s = ei.size := ho.1.trans hs
            refine ⟨.pointer (some ⟨B.b, B.o + (lo + m.toNat) * B.s, none⟩), fun w => ?_, ⟨hid, B, hB, rfl⟩⟩
            have h2 : (Addr.mk B.b (B.o + lo * B.s) none).add (m.toNat * ei.size) = ⟨B.b, B.o + (lo + m.toNat) * B.s, none⟩ := by
              rw [Addr.add_lit, hBs, Nat.add_mul, Nat.add_assoc]
            simp [Instr.indexAt, asIntOf, run_underlying hu, h0, hn, hte.run_sizeOf, h2]
        · rw [if_neg hs] at he; cases he
      · cases he
    · rename_i ei n s f hei
      have hte := hT e ei hei
      by_cases hs : s = ei.size
      · rw [if_pos hs] at he
        simp only [Option.some.injEq, Prod.mk.injEq] at he
        obtain ⟨rfl, rfl⟩ := he
        obtain ⟨h0, hn⟩ := hc
        obtain ⟨A, cap, rfl, hcap, hA⟩ := hp
        rcases hA with h00 | ⟨b, o, rfl, hF, hb, hcc⟩
        · omega
        · refine ⟨.pointer (some ⟨b, o + m.toNat * s + 0, none⟩), fun w => ?_, ⟨b, o + m.toNat * s, rfl, hF, hb, fun j hj => ?_⟩⟩
          · have h2 : (Addr.mk b o none).add (m.toNat * ei.size) = ⟨b, o + m.toNat * s, none⟩ := by rw [Addr.add_lit, hs]
            simp [Instr.indexAt, asIntOf, run_underlying hu, h0, hn, hte.run_sizeOf, h2]
          · exact hcc m.toNat (by omega) j hj
      · rw [if_neg hs] at he; cases he
    · cases he
  · rename_i n e sz by_ z zq kk m hi
    have ht := hT t _ hi
    have hu : P.underlying t = some (.array n e) := ht.kind
    simp only [Rel] at hq
    subst hq
    split at he
    · rename_i ei id k off hei
      have hte := hT e ei hei
      simp only [Option.some.injEq, Prod.mk.injEq] at he
      obtain ⟨rfl, rfl⟩ := he
      obtain ⟨h0, hn⟩ := hc
      obtain ⟨hid, B, hB, rfl⟩ := hp
      refine ⟨.pointer (some ⟨B.b, B.o + k * B.s + (off + m.toNat * ei.size), none⟩), fun w => ?_, ⟨hid, B, hB, rfl⟩⟩
      simp [Instr.indexAt, asIntOf, run_underlying hu, Instr.sureAddr, h0, hn, hte.run_sizeOf, Addr.add_lit, Nat.add_assoc]
    · rename_i ei s f off hei
      have hte := hT e ei hei
      simp only [Option.some.injEq, Prod.mk.injEq] at he
      obtain ⟨rfl, rfl⟩ := he
      obtain ⟨h0, hn⟩ := hc
      obtain ⟨b, o, rfl, hF, hb, hcc⟩ := hp
      refine ⟨.pointer (some ⟨b, o + (off + m.toNat * ei.size), none⟩), fun w => ?_, ⟨b, o, rfl, hF, hb, hcc⟩⟩
      simp [Instr.indexAt, asIntOf, run_underlying hu, Instr.sureAddr, h0, hn, hte.run_sizeOf, Addr.add_lit, Nat.add_assoc]
    · cases he
  · cases he
def evBox (T : Tab) (h : Heap) (nx : Nat) (t : TypeId) (v : AVal) : Option (AVal × Heap) :=
  match T t with
  | some i => if fits i v then some (.ptr (nx, 0) 0 0, (nx, .typ t (.arr 1 i.size (fun _ => acell v))) :: h) else none
  | none => none
theorem good_newVar {T : Tab} (hT : TabOK P T) (hk : HOk G h mu nx w) {t : TypeId} {i : TI} (hi : T t = some i) {f : Nat → AVal} {e : HEnt} (he : e = .one (.arr 1 i.size (fun _ => f)) ∨ e = .typ t (.arr 1 i.size (fun _ => f))) {y : Value} (hsz : y.cells.size = i.size)
    (hcell : ∀ j, j < i.size → (f j).one = true ∧ Rel (cx G h mu nx w) (f j) (y.cells.getD j undef)) :
    Good P G h mu nx w (do pure (.pointer (some (← newVar t y)))) (.ptr (nx, 0) 0 0) ((nx, e) :: h) (nx + 1) none := by
  refine ⟨.pointer (some ⟨w.heap.size, 0, none⟩), w.alloc (.cells y.cells t), _, ?_, cx_alloc (.arr 1 i.size (fun _ => f)) (he.imp id fun h => ⟨t, h⟩) _ ⟨w.heap.size, 0, i.size, i.size⟩ rfl,
    hk.alloc 1 i.size (fun _ => f) y.cells t he i.size hsz (by omega) (fun k hk' j hj => ?_), ?_, fun b hb _ => Below.heap_alloc w _ b hb⟩
  · simp [newVar, newRow]
  · have : k = 0 := by omega
    subst this
    refine ⟨(hcell j hj).1, y.cells.getD j undef, ?_, (hcell j hj).2⟩
    have : j < y.cells.size := by omega
    simp [Array.getD, this]
  · exact ⟨Nat.lt_succ_self _, _, upd_same _ _ _, by simp⟩
theorem evBox_ok {T : Tab} (hT : TabOK P T) (hk : HOk G h mu nx w) {t : TypeId} {p v : AVal} {h' : Heap} (he : evBox T h nx t p = some (v, h')) {x : Value} (hp : Rel (cx G h mu nx w) p x) :
    Good P G h mu nx w (Instr.box t x) v h' (nx + 1) none := by
  unfold evBox at he
  split at he
  · rename_i i hi
    by_cases hf : fits i p = true
    · rw [if_pos hf] at he
      simp only [Option.some.injEq, Prod.mk.injEq] at he
      obtain ⟨rfl, rfl⟩ := he
      obtain ⟨hsz, hcell⟩ := fits_spec (hT t i hi) hf hp
      exact good_newVar hT hk hi (.inr rfl) hsz hcell
    · rw [if_neg hf] at he; cases he
  · cases he
def evAlloc (T : Tab) (h : Heap) (nx : Nat) (t : TypeId) : Option (AVal × Heap) :=
  match T t with
  | some i => some (.ptr (nx, 0) 0 0, (nx, .typ t (.arr 1 i.size (fun _ => i.zero))) :: h)
  | none => none
theorem evAlloc_ok {T : Tab} (hT : TabOK P T) (hk : HOk G h mu nx w) {t : TypeId} {v : AVal} {h' : Heap} (he : evAlloc T h nx t = some (v, h')) :
    Good P G h mu nx w (Instr.alloc t true (.tuple #[])) v h' (nx + 1) none := by
  unfold evAlloc at he
  split at he
  · rename_i i hi
    simp only [Option.some.injEq, Prod.mk.injEq] at he
    obtain ⟨rfl, rfl⟩ := he
    obtain ⟨j, z, h1, h2, h3, h4, h5, h6⟩ := (hT t i hi).run_info
    have hg := good_newVar hT hk hi (f := i.zero) (.inr rfl) (y := z) h5 (fun m hm => ⟨(h6 m hm (cx G h mu nx w)).2, (h6 m hm _).1⟩)
    obtain ⟨x, w', mu', hr, hrest⟩ := hg
    refine ⟨x, w', mu', ?_, hrest⟩
    rw [← hr]
    simp [Instr.alloc, zeroValue, typeInfo, h1, h4]
  · cases he
end
end Go.Lift
namespace Go.Lift
set_option linter.unusedSimpArgs false
set_option linter.unusedVariables false
open Go.RowKit
section
variable {P : Program} (w : World)
structure Src (P : Program) (w : World) (size : Nat) (y : Value) (m : Nat) (news : List Value) : Prop where
  len : ∀ w' : World, (Builtin.lenOf y).run P w' = .ok m w'
  cells : ∀ w' : World, (∀ a, w'.cell? a = w.cell? a) → (Builtin.firstCells size m y).run P w' = .ok news.toArray w'
  size : news.length = m * size
  one : ∀ u ∈ news, u.oneCell' = true
theorem run_append_room_gen (t u ty e : TypeId) (i : TypeInfo) (d : TypeDesc) (ht : P.underlying t = some (.slice e)) (hu : P.underlying u = some d) (hd : (∃ e', d = .slice e') ∨ d = .string) (hi : P.info? e = some i)
    (A : Option Addr) (n cap m : Nat) (y : Value) (news : List Value) (hs : Src P w i.size y m news) (hroom : n + m ≤ cap)
    (b off : Nat) (T : TypeId) (cur : Array Value) (hA : m = 0 ∨ (A = some ⟨b, off, none⟩ ∧ w.heap[b]? = some (.cells cur T (0, 0)) ∧ off + n * i.size + news.length ≤ cur.size)) :
    (Builtin.append_ #[t, u] ty #[.slice A n cap, y]).run P w = .ok (.slice A (n + m) cap)
      (if m = 0 then w else w.setRow b (cur.toList.take (off + n * i.size) ++ news ++ cur.toList.drop (off + n * i.size + news.length)).toArray) := by
  have hc := hs.cells w (fun _ => rfl)
  have hl := hs.len w
  by_cases hm : m = 0
  · subst hm
    have hn : news = [] := List.eq_nil_of_length_eq_zero (by simpa using hs.size)
    subst hn
    have hroom' : n ≤ cap := hroom
    rcases hd with ⟨e', rfl⟩ | rfl <;> cases A with
    | none => simp [Builtin.append_, run_underlying ht, run_underlying hu, sizeOf, typeInfo, hi, hl, hroom', hc]
    | some a => simp [Builtin.append_, run_underlying ht, run_underlying hu, sizeOf, typeInfo, hi, hl, hroom', hc, storeCells]
  · rcases hA with h0 | ⟨rfl, hb, hfit⟩
    · exact absurd h0 hm
    · have hst := run_storeCells_at P b (off + n * i.size) T news 0 cur w hb (by omega) hs.one
      simp only [Nat.add_zero] at hst
      rcases hd with ⟨e', rfl⟩ | rfl <;>
        simp [Builtin.append_, run_underlying ht, run_underlying hu, sizeOf, typeInfo, hi, hl, hroom, hc, Addr.add_lit, hst, hm]
theorem run_append_grow_gen (t u ty e : TypeId) (i : TypeInfo) (z : Value) (d : TypeDesc) (ht : P.underlying t = some (.slice e)) (hu : P.underlying u = some d) (hd : (∃ e', d = .slice e') ∨ d = .string)
    (hi : P.info? e = some i) (hz : i.zero = some z)
    (A : Option Addr) (n cap m : Nat) (y : Value) (olds news : List Value) (hs : Src P w i.size y m news) (hg : cap < n + m)
    (ho : ∀ w' : World, (∀ a, w'.cell? a = w.cell? a) → (Builtin.firstCells i.size n (.slice A n cap)).run P w' = .ok olds.toArray w')
    (h63 : ((n + m : Nat) : Int) ≤ 9223372036854775807) (hfit : Builtin.nextslicecap (n + m) cap * i.bytes ≤ 281474976710656) :
    (Builtin.append_ #[t, u] ty #[.slice A n cap, y]).run P w = .ok (.slice (some ⟨w.heap.size, 0, none⟩) (n + m) (grownCap w (n + m) cap e))
      (w.drew.alloc (.cells (olds.toArray ++ news.toArray ++ Builtin.zeroCells z.cells (grownCap w (n + m) cap e - (n + m))) e)) := by
  have hl := hs.len w
  have hc := hs.cells w.drew (fun _ => rfl)
  have ho' := ho w.drew (fun _ => rfl)
  have h1 : ¬ (n + m ≤ cap) := by omega
  have h3 : ¬ (281474976710656 < Builtin.nextslicecap (n + m) cap * i.bytes) := by omega
  have h2' : ¬ (9223372036854775807 < (n : Int) + (m : Int)) := by omega
  rcases hd with ⟨e', rfl⟩ | rfl <;>
  · simp [Builtin.append_, run_underlying ht, run_underlying hu, sizeOf, typeInfo, hi, zeroValue, hz, hl, h1, h2', h3, grownCap, newRow, Question.forced, hc, ho']
    congr 2
    apply Array.ext'
    simp [List.append_assoc]
end
end Go.Lift
namespace Go.Lift
set_option linter.unusedSimpArgs false
set_option linter.unusedVariables false
open Go.RowKit
def app (f : Nat → Nat → AVal) (n : Nat) (g : Nat → Nat → AVal) : Nat → Nat → AVal := fun i j => if i < n then f i j else g (i - n) j
def SrcR (P : Program) (c : Cx) (size : Nat) (y : Value) (m : Nat) (g : Nat → Nat → AVal) : Prop :=
  ∃ news, Src P c.w size y m news ∧ ∀ i, i < m → ∀ j, j < size → (g i j).one = true ∧ ∃ v, news[i * size + j]? = some v ∧ Rel c (g i j) v
section
variable {P : Program} {w : World} {G : Gh} {h : Heap} {mu : Id → Option Base} {nx : Nat}
theorem cx_app {h1 : Heap} (hsub : ∀ id' o, lkH h1 id' = some o → lkH h id' = some o) {en : HEnt} {o : HObj} (hen : en.Solo o) {m0 : Option Base} {w' : World}
    (hb1 : ∀ B, m0 = some B → w.heap.size ≤ B.b ∨ Fb G.O h mu B.b) (hblk : ∀ b, b < w.heap.size → ¬ Fb G.O h mu b → w'.heap[b]? = w.heap[b]?) (hsz : w.heap.size ≤ w'.heap.size) (hdfr : ∀ D : Nat, w.heap[D]? = some (Obj.deferred (some [])) → w'.heap[D]? = some (Obj.deferred (some []))) :
    (cx G h mu nx w).Le (cx G ((nx, en) :: h1) (upd mu (nx, 0) m0) (nx + 1) w') where
  size := hsz
  F := by
    rintro b hb hF (hO | ⟨id', o', B', hl, hmm, hbb⟩)
    · exact hF (.inl hO)
    · rw [lkH_cons_one _ _ _ hen] at hl
      by_cases h1 : id' = (nx, 0)
      · subst h1
        rw [upd_same] at hmm
        have hb' : b < w.heap.size := hb
        rcases hb1 B' hmm with h2 | h2
        · omega
        · exact hF (by rw [← hbb]; exact h2)
      · rw [if_neg h1] at hl
        by_cases h2 : id'.1 = nx
        · rw [if_pos h2] at hl; cases hl
        · rw [if_neg h2] at hl
          rw [upd_ne _ _ h1] at hmm
          exact hF (.inr ⟨id', o', B', hsub id' o' hl, hmm, hbb⟩)
  cell := fun b o hb hF => World.cell?_of_block (hblk b hb hF)
  nx := Nat.le_succ _
  mu := fun id hid => upd_ne _ _ (fun e => by subst e; exact Nat.lt_irrefl _ hid)
  dfr := hdfr
theorem HOk.app (hk : HOk G h mu nx w) {h1 : Heap} (hsub : ∀ id' o, lkH h1 id' = some o → lkH h id' = some o) {en : HEnt} {o : HObj} (hen : en.Solo o) {m0 : Option Base} {w' : World}
    (hb1 : ∀ B, m0 = some B → (w.heap.size ≤ B.b ∨ Fb G.O h mu B.b) ∧ B.b < w'.heap.size ∧ (G.w0.heap.size ≤ B.b ∨ G.mt B.b) ∧ ¬ G.O B.b ∧ ∀ id' o' B', lkH h1 id' = some o' → mu id' = some B' → B'.b ≠ B.b)
    (hblk : ∀ b, b < w.heap.size → (∀ B, m0 = some B → b ≠ B.b) → w'.heap[b]? = w.heap[b]?) (hsz : w.heap.size ≤ w'.heap.size) (hos : w'.os = w.os ∧ w'.tape = w.tape ∧ w'.output = w.output ∧ w.drawn ≤ w'.drawn)
    (hr : (cx G h mu nx w).Le (cx G ((nx, en) :: h1) (upd mu (nx, 0) m0) (nx + 1) w') → HRel (cx G ((nx, en) :: h1) (upd mu (nx, 0) m0) (nx + 1) w') m0 o)
    (hty : ∀ id t, tyH ((nx, en) :: h1) id = some t → (id = (nx, 0) ∧ ∀ B, upd mu (nx, 0) m0 (nx, 0) = some B → ∃ cs, w'.heap[B.b]? = some (.cells cs t (0, 0)) ∧ B.s ∣ B.o) ∨ (id ≠ (nx, 0) ∧ tyH h id = some t)) :
    (cx G h mu nx w).Le (cx G ((nx, en) :: h1) (upd mu (nx, 0) m0) (nx + 1) w') ∧ HOk G ((nx, en) :: h1) (upd mu (nx, 0) m0) (nx + 1) w' := by
  have hLe : (cx G h mu nx w).Le (cx G ((nx, en) :: h1) (upd mu (nx, 0) m0) (nx + 1) w') := by
    refine cx_app hsub hen (fun B hB => (hb1 B hB).1) (fun b hb hF => hblk b hb (fun B hB e => ?_)) hsz (fun D hD => (hblk D (lt_of_get hD) (fun B hB e => ?_)).trans hD)
    · rcases (hb1 B hB).1 with h2 | h2
      · omega
      · exact hF (by rw [e]; exact h2)
    · have hlt := lt_of_get hD
      rcases (hb1 B hB).1 with h2 | h2 | ⟨id', o', B', hl', hm', hb'⟩
      · omega
      · exact (hb1 B hB).2.2.2.1 h2
      · exact hk.ndfr hl' hm' hD (by rw [e, hb'])
  refine ⟨hLe, hk.step hLe (nx, 0) o (Nat.lt_succ_self _) (fun _ => by rw [upd_same]; exact hr hLe) (fun B hB => ?_) (fun id' o' ho' => ?_) ?_ hty⟩
  · rw [upd_same] at hB
    exact ⟨(hb1 B hB).2.1, (hb1 B hB).2.2.1, (hb1 B hB).2.2.2.1⟩
  · rw [lkH_cons_one _ _ _ hen] at ho'
    by_cases h1 : id' = (nx, 0)
    · rw [if_pos h1] at ho'
      injection ho' with ho'
      exact .inl ⟨h1, ho'.symm⟩
    · rw [if_neg h1] at ho'
      by_cases h2 : id'.1 = nx
      · rw [if_pos h2] at ho'; cases ho'
      · rw [if_neg h2] at ho'
        have hold := hsub id' o' ho'
        refine .inr ⟨h1, hold, fun B hB => ?_⟩
        have hlt := (hk.own id' o' B hold hB).1
        refine ⟨hblk _ hlt (fun B0 hB0 => (hb1 B0 hB0).2.2.2.2 id' o' B ho' hB), fun B0 hB0 => ?_⟩
        rw [upd_same] at hB0
        exact (hb1 B0 hB0).2.2.2.2 id' o' B ho' hB
  · refine ⟨hos.1.trans hk.kept.os, hos.2.1.trans hk.kept.tape, hos.2.2.1.trans hk.kept.output, Nat.le_trans hk.kept.drawn hos.2.2.2, Nat.le_trans hk.kept.size hsz, fun b hb hm => ?_⟩
    rw [hblk b (Nat.lt_of_lt_of_le hb hk.kept.size) (fun B hB e => ?_)]
    · exact hk.kept.block b hb hm
    · subst e
      rcases (hb1 B hB).2.2.1 with h2 | h2
      · exact absurd hb (Nat.not_lt.2 h2)
      · exact hm h2
theorem append_core {t u ty e : TypeId} {d : TypeDesc} {ei : TI} (ht : P.underlying t = some (.slice e)) (hu : P.underlying u = some d) (hd : (∃ e', d = .slice e') ∨ d = .string)
    (hte : TIok P e ei) (hk : HOk G h mu nx w) {h1 : Heap} (hsub : ∀ id' o, lkH h1 id' = some o → lkH h id' = some o) (hsubT : ∀ id' t, tyH h1 id' = some t → tyH h id' = some t)
    {A : Option Addr} {n cap : Nat} (hncap : n ≤ cap) {f : Nat → Nat → AVal} (wid : Option Id)
    (hA : cap = 0 ∨ ∃ b o cs T, A = some ⟨b, o, none⟩ ∧ w.heap[b]? = some (.cells cs T (0, 0)) ∧ o + cap * ei.size ≤ cs.size ∧ Fb G.O h mu b ∧ (G.w0.heap.size ≤ b ∨ G.mt b) ∧ (¬ G.O b ∧ ∃ id B, wid = some id ∧ mu id = some B ∧ B.b = b) ∧
      (∀ id' o' B', lkH h1 id' = some o' → mu id' = some B' → B'.b ≠ b) ∧ ∀ i, i < n → ∀ j, j < ei.size → (f i j).one = true ∧ ∃ v, cs[o + i * ei.size + j]? = some v ∧ Rel (cx G h mu nx w) (f i j) v)
    {m : Nat} {g : Nat → Nat → AVal} {y : Value} (hy : SrcR P (cx G h mu nx w) ei.size y m g) (h63 : n + m ≤ 9223372036854775807) (hby : (n + m) * ei.bytes ≤ 140737488355328)
    {en : HEnt} (hen : en = .one (.arr (n + m) ei.size (app f n g)) ∨ (en = .typ e (.arr (n + m) ei.size (app f n g)) ∧ ∀ b o cs T, A = some ⟨b, o, none⟩ → cap ≠ 0 → w.heap[b]? = some (.cells cs T (0, 0)) → T = e ∧ ei.size ∣ o)) :
    Good P G h mu nx w (Builtin.append_ #[t, u] ty #[.slice A n cap, y]) (.sl (nx, 0) 0 (n + m)) ((nx, en) :: h1) (nx + 1) wid := by
  have hso : en.Solo (.arr (n + m) ei.size (app f n g)) := hen.imp id fun h => ⟨e, h.1⟩
  have hte2 : en = .one (.arr (n + m) ei.size (app f n g)) ∨ en = .typ e (.arr (n + m) ei.size (app f n g)) := hen.imp id fun h => h.1
  obtain ⟨ti, z, hi, hjs, hjb, hz, hzs, _⟩ := hte.run_info
  obtain ⟨news, hsrc, hg⟩ := hy
  have hsrc' : Src P w ti.size y m news := by rw [hjs]; exact hsrc
  have hnl : news.length = m * ei.size := hsrc.size
  by_cases hroom : n + m ≤ cap
  · -- room: what is there is written
    have hA' : cap = 0 ∨ cap ≠ 0 ∧ ∃ b o cs T, A = some ⟨b, o, none⟩ ∧ w.heap[b]? = some (.cells cs T (0, 0)) ∧ o + cap * ei.size ≤ cs.size ∧ Fb G.O h mu b ∧ (G.w0.heap.size ≤ b ∨ G.mt b) ∧ (¬ G.O b ∧ ∃ id B, wid = some id ∧ mu id = some B ∧ B.b = b) ∧
      (∀ id' o' B', lkH h1 id' = some o' → mu id' = some B' → B'.b ≠ b) ∧ ∀ i, i < n → ∀ j, j < ei.size → (f i j).one = true ∧ ∃ v, cs[o + i * ei.size + j]? = some v ∧ Rel (cx G h mu nx w) (f i j) v := by
      by_cases h0 : cap = 0
      · exact .inl h0
      · exact .inr ⟨h0, hA.resolve_left h0⟩
    rcases hA' with h0 | ⟨hcap0, b, o, cs, T, rfl, hb, hfit, hFb, hw0, ⟨hO, wi, wB, hwi, hwB, hwb⟩, hoth, hf⟩
    · have hn : n = 0 := by omega
      have hm : m = 0 := by omega
      subst hn hm
      have hr := run_append_room_gen (P := P) w t u ty e ti d ht hu hd hi A 0 cap 0 y news hsrc' hroom 0 0 0 #[] (.inl rfl)
      rw [if_pos rfl] at hr
      obtain ⟨hLe, hok⟩ := hk.app hsub (o := .arr (0 + 0) ei.size (app f 0 g)) hso (m0 := none) (w' := w) (fun B hB => by cases hB) (fun _ _ _ => rfl) (Nat.le_refl _) ⟨rfl, rfl, rfl, Nat.le_refl _⟩ (fun _ => rfl) (tyH_new hte2 hsubT fun B hB => by rw [upd_same] at hB; cases hB)
      exact ⟨_, _, _, hr, hLe, hok, ⟨Nat.lt_succ_self _, A, cap, rfl, hroom, .inl h0⟩, Frame.refl⟩
    · have hle1 : n * ei.size + m * ei.size ≤ cap * ei.size := by rw [← Nat.add_mul]; exact Nat.mul_le_mul_right _ hroom
      let cur := (cs.toList.take (o + n * ti.size) ++ news ++ cs.toList.drop (o + n * ti.size + news.length)).toArray
      have hr := run_append_room_gen (P := P) w t u ty e ti d ht hu hd hi (some ⟨b, o, none⟩) n cap m y news hsrc' hroom b o T cs (.inr ⟨rfl, hb, by rw [hjs]; omega⟩)
      have hcur : (if m = 0 then w else w.setRow b cur) = w.setRow b cur := by
        by_cases hm : m = 0
        · rw [if_pos hm]
          have hn0 : news = [] := List.eq_nil_of_length_eq_zero (by rw [hnl, hm]; simp)
          have : cur = cs := by
            apply Array.ext'
            simp [cur, hn0]
          rw [this, setRow_self w b cs T (0, 0) hb]
        · rw [if_neg hm]
      rw [hcur] at hr
      have hcsz : cur.size = cs.size := by simp [cur, hjs]; omega
      have hold : ∀ k, k < o + n * ei.size → cur[k]? = cs[k]? := fun k hk' => by
        simp only [cur, List.getElem?_toArray, hjs]
        rw [List.getElem?_append_left (by simp; omega), List.getElem?_append_left (by simp; omega)]
        simp [List.getElem?_take, hk']
      have hnew : ∀ k, k < m * ei.size → cur[o + n * ei.size + k]? = news[k]? := fun k hk' => by
        simp only [cur, List.getElem?_toArray, hjs]
        rw [List.getElem?_append_left (by simp; omega), List.getElem?_append_right (by simp; omega)]
        simp only [List.length_take, Array.length_toList]
        congr 1
        omega
      obtain ⟨hLe, hok⟩ := hk.app hsub (o := .arr (n + m) ei.size (app f n g)) hso (m0 := some ⟨b, o, ei.size, cs.size⟩) (w' := w.setRow b cur)
        (fun B hB => by
          injection hB with hB
          subst hB
          exact ⟨.inr hFb, by simpa using (Array.getElem?_eq_some_iff.1 hb).1, hw0, hO, hoth⟩)
        (fun b' _ hne => setRow_other w b b' cur (hne _ rfl)) (by simp) ⟨rfl, rfl, rfl, Nat.le_refl _⟩ (fun hLe => by
          refine ⟨rfl, cur, T, setRow_heap w b cs cur T (0, 0) hb, hcsz, ?_, fun i hi' j hj => ?_⟩
          · show o + (n + m) * ei.size ≤ cs.size
            rw [Nat.add_mul]; omega
          · unfold Go.Lift.app
            by_cases hin : i < n
            · rw [if_pos hin]
              obtain ⟨h1, v, hv, hrel⟩ := hf i hin j hj
              have := mul_off hin hj
              exact ⟨h1, v, by rw [hold _ (by simp only; omega)]; exact hv, hrel.mono hLe⟩
            · rw [if_neg hin]
              obtain ⟨h1, v, hv, hrel⟩ := hg (i - n) (by omega) j hj
              have h2 := mul_off (show i - n < m by omega) hj
              refine ⟨h1, v, ?_, hrel.mono hLe⟩
              rw [← hv, ← hnew _ h2]
              congr 1
              have : n * ei.size + (i - n) * ei.size = i * ei.size := by rw [← Nat.add_mul]; congr 1; omega
              simp only
              omega) (tyH_newD (T := T) (D := ei.size ∣ o) (by
            rcases hen with h | ⟨h, hT⟩
            · exact .inl h
            · rw [(hT b o cs T rfl hcap0 hb).1]; exact .inr ⟨h, (hT b o cs T rfl hcap0 hb).2⟩) hsubT fun hD B hB => by
            rw [upd_same] at hB
            injection hB with hB
            subst hB
            exact ⟨cur, setRow_heap w b cs cur T (0, 0) hb, hD⟩)
      exact ⟨_, _, _, hr, hLe, hok, ⟨Nat.lt_succ_self _, _, cap, rfl, hroom, .inr ⟨_, upd_same _ _ _, by simp, by simpa using hfit⟩⟩, fun b' _ hne => setRow_other w b b' cur (by rw [← hwb]; exact hne wi wB hwi hwB)⟩
  · -- no room: a new block
    have hex : ∃ olds : List Value, olds.length = n * ei.size ∧ (∀ w' : World, (∀ a, w'.cell? a = w.cell? a) → (Builtin.firstCells ti.size n (.slice A n cap)).run P w' = .ok olds.toArray w') ∧
        ∀ i, i < n → ∀ j, j < ei.size → (f i j).one = true ∧ ∃ v, olds[i * ei.size + j]? = some v ∧ Rel (cx G h mu nx w) (f i j) v := by
      rcases hA with h0 | ⟨b, o, cs, T, rfl, hb, hfit, hFb, hw0, hO, hoth, hf⟩
      · have hn : n = 0 := by omega
        subst hn
        refine ⟨[], by simp, fun w' _ => ?_, fun i hi' => absurd hi' (Nat.not_lt_zero _)⟩
        cases A with
        | none => simp [Builtin.firstCells]
        | some a => simp [Builtin.firstCells, loadCells, loadCellsFrom]
      · have hle1 : n * ei.size ≤ cap * ei.size := Nat.mul_le_mul_right _ hncap
        refine ⟨(cs.toList.drop o).take (n * ei.size), by simp; omega, fun w' hw' => ?_, fun i hi' j hj => ?_⟩
        · refine run_firstCells_some (P := P) w' ti.size n ⟨b, o, none⟩ n cap _ (by simp [hjs]; omega) (fun k v hv => ?_)
          rw [hw', Addr.add_lit]
          simp only [World.cell?, hb, Option.isSome_none, Bool.false_eq_true, if_false]
          rw [List.getElem?_take] at hv
          split at hv
          · rw [List.getElem?_drop] at hv
            simpa using hv
          · cases hv
        · obtain ⟨h1, v, hv, hrel⟩ := hf i hi' j hj
          have := mul_off hi' hj
          refine ⟨h1, v, ?_, hrel⟩
          rw [List.getElem?_take, if_pos this, List.getElem?_drop, ← Nat.add_assoc]
          simpa using hv
    obtain ⟨olds, hol, hof, hor⟩ := hex
    have hr := run_append_grow_gen (P := P) w t u ty e ti z d ht hu hd hi hz A n cap m y olds news hsrc' (by omega) hof (by omega) (growslice_fits (by omega) (by rw [hjb]; exact hby))
    have hge := grownCap_ge w (n + m) cap e
    let C := olds.toArray ++ news.toArray ++ Builtin.zeroCells z.cells (grownCap w (n + m) cap e - (n + m))
    have hC : C.size = grownCap w (n + m) cap e * ei.size := by
      simp only [C, Array.size_append, List.size_toArray, hol, hnl, size_zeroCells, hzs]
      rw [← Nat.add_mul, ← Nat.add_mul]
      congr 1
      omega
    have hC1 : ∀ k, k < n * ei.size → C[k]? = olds[k]? := fun k hk' => by
      simp only [C]
      rw [Array.getElem?_append_left (by simp [hol, hnl]; omega), Array.getElem?_append_left (by simp [hol]; omega)]
      simp
    have hC2 : ∀ k, k < m * ei.size → C[n * ei.size + k]? = news[k]? := fun k hk' => by
      simp only [C]
      rw [Array.getElem?_append_left (by simp [hol, hnl]; omega), Array.getElem?_append_right (by simp [hol])]
      simp [hol]
    obtain ⟨hLe, hok⟩ := hk.app hsub (o := .arr (n + m) ei.size (app f n g)) hso (m0 := some ⟨w.heap.size, 0, ei.size, C.size⟩) (w' := w.drew.alloc (.cells C e))
      (fun B hB => by
        injection hB with hB
        subst hB
        refine ⟨.inl (Nat.le_refl _), by simp, .inl hk.kept.size, fun hO => ?_, fun id' o' B' hl hm e => ?_⟩
        · have h1 := hk.out _ hO
          have h2 := hk.kept.size
          simp only at h1
          omega
        · have := (hk.own id' o' B' (hsub id' o' hl) hm).1
          rw [e] at this
          exact Nat.lt_irrefl _ this)
      (fun b' hb' _ => Below.heap_alloc w.drew _ b' hb') (by simp) ⟨rfl, rfl, rfl, Nat.le_succ _⟩ (fun hLe => by
        refine ⟨rfl, C, e, heap_new w.drew _, rfl, ?_, fun i hi' j hj => ?_⟩
        · show 0 + (n + m) * ei.size ≤ C.size
          rw [hC, Nat.zero_add]
          exact Nat.mul_le_mul_right _ hge
        · unfold Go.Lift.app
          by_cases hin : i < n
          · rw [if_pos hin]
            obtain ⟨h1, v, hv, hrel⟩ := hor i hin j hj
            have := mul_off hin hj
            exact ⟨h1, v, by simp only [Nat.zero_add]; rw [hC1 _ this]; exact hv, hrel.mono hLe⟩
          · rw [if_neg hin]
            obtain ⟨h1, v, hv, hrel⟩ := hg (i - n) (by omega) j hj
            have h2 := mul_off (show i - n < m by omega) hj
            refine ⟨h1, v, ?_, hrel.mono hLe⟩
            rw [← hv, ← hC2 _ h2]
            congr 1
            have : n * ei.size + (i - n) * ei.size = i * ei.size := by rw [← Nat.add_mul]; congr 1; omega
            simp only
            omega) (tyH_new hte2 hsubT fun B hB => by
          rw [upd_same] at hB
          injection hB with hB
          subst hB
          exact ⟨C, heap_new w.drew _, 0, by simp⟩)
    refine ⟨_, _, _, hr, hLe, hok, ⟨Nat.lt_succ_self _, _, _, rfl, hge, .inr ⟨_, upd_same _ _ _, by simp, ?_⟩⟩, fun b' hb' _ => Below.heap_alloc w.drew _ b' hb'⟩
    simp [hC]
end
end Go.Lift
namespace Go.Lift
set_option linter.unusedSimpArgs false
set_option linter.unusedVariables false
open Go.RowKit
section
variable {P : Program} {w : World} {G : Gh} {h : Heap} {mu : Id → Option Base} {nx : Nat}
theorem src_of_cells {c : Cx} {size m cap : Nat} {A : Option Addr} {g : Nat → Nat → AVal}
    (hc : m = 0 ∨ ∃ b o, A = some ⟨b, o, none⟩ ∧ ∀ i, i < m → ∀ j, j < size → (g i j).one = true ∧ ∃ v, c.w.cell? ⟨b, o + i * size + j, none⟩ = some v ∧ Rel c (g i j) v) :
    SrcR P c size (.slice A m cap) m g := by
  rcases hc with rfl | ⟨b, o, rfl, hc⟩
  · refine ⟨[], ⟨fun w' => by simp [Builtin.lenOf], fun w' _ => ?_, by simp, by simp⟩, fun i hi => absurd hi (Nat.not_lt_zero _)⟩
    cases A with
    | none => simp [Builtin.firstCells]
    | some a => simp [Builtin.firstCells, loadCells, loadCellsFrom]
  · let F : Nat → Value := fun k => (c.w.cell? ⟨b, o + k, none⟩).getD undef
    have hF : ∀ i, i < m → ∀ j, j < size → (g i j).one = true ∧ c.w.cell? ⟨b, o + (i * size + j), none⟩ = some (F (i * size + j)) ∧ Rel c (g i j) (F (i * size + j)) := fun i hi j hj => by
      obtain ⟨h1, v, hv, hr⟩ := hc i hi j hj
      rw [Nat.add_assoc] at hv
      have : F (i * size + j) = v := by simp only [F, hv, Option.getD_some]
      rw [this]
      exact ⟨h1, hv, hr⟩
    have hk : ∀ k, k < m * size → c.w.cell? ⟨b, o + k, none⟩ = some (F k) ∧ (F k).oneCell' = true := fun k hk => by
      have hs : 0 < size := by
        rcases Nat.eq_zero_or_pos size with h0 | h0
        · rw [h0] at hk; simp at hk
        · exact h0
      have h1 : k / size < m := Nat.div_lt_of_lt_mul (by rw [Nat.mul_comm]; exact hk)
      obtain ⟨h2, h3, h4⟩ := hF (k / size) h1 (k % size) (Nat.mod_lt _ hs)
      have h5 : k / size * size + k % size = k := by rw [Nat.mul_comm]; exact Nat.div_add_mod k size
      rw [h5] at h3 h4
      exact ⟨h3, Rel.one h2 h4⟩
    refine ⟨(List.range (m * size)).map F, ⟨fun w' => by simp [Builtin.lenOf], fun w' hw' => ?_, by simp, ?_⟩, fun i hi j hj => ?_⟩
    · refine run_firstCells_some (P := P) w' size m ⟨b, o, none⟩ m cap _ (by simp) (fun k v hv => ?_)
      rw [hw', Addr.add_lit]
      rw [List.getElem?_map] at hv
      cases hr : (List.range (m * size))[k]? with
      | none => rw [hr] at hv; cases hv
      | some k' =>
        rw [hr] at hv
        obtain ⟨hlt, hk'⟩ := List.getElem?_eq_some_iff.1 hr
        simp at hk' hlt
        subst hk'
        simp only [Option.map_some, Option.some.injEq] at hv
        rw [← hv]
        exact (hk k hlt).1
    · intro u hu
      simp only [List.mem_map, List.mem_range] at hu
      obtain ⟨k, hk', rfl⟩ := hu
      exact (hk k hk').2
    · obtain ⟨h1, _, h3⟩ := hF i hi j hj
      have := mul_off hi hj
      exact ⟨h1, _, by simp [List.getElem?_map, this], h3⟩
theorem HOk.cells (hk : HOk G h mu nx w) {id : Id} {n s : Nat} {f : Nat → Nat → AVal} (hl : lkH h id = some (.arr n s f)) {B : Base} (hB : mu id = some B) :
    B.s = s ∧ ∃ cs T, w.heap[B.b]? = some (.cells cs T (0, 0)) ∧ cs.size = B.sz ∧ B.o + n * s ≤ B.sz ∧ ∀ i, i < n → ∀ j, j < s → (f i j).one = true ∧ ∃ v, cs[B.o + i * s + j]? = some v ∧
      w.cell? ⟨B.b, B.o + i * s + j, none⟩ = some v ∧ Rel (cx G h mu nx w) (f i j) v := by
  have ho := (hk.obj id _ hl).2
  rw [hB] at ho
  obtain ⟨hs, cs, T, hh, hsz, hle, hc⟩ := ho
  have hh' : w.heap[B.b]? = some (.cells cs T (0, 0)) := hh
  refine ⟨hs, cs, T, hh', hsz, hle, fun i hi j hj => ?_⟩
  obtain ⟨h1, v, hv, hr⟩ := hc i hi j hj
  exact ⟨h1, v, hv, by simp [World.cell?, hh', hv], hr⟩
def evSrc (h : Heap) (size : Nat) (y : AVal) : Option (Nat × (Nat → Nat → AVal) × Prop) :=
  match y with
  | .nils => some (0, (fun _ _ => .any), True)
  | .vsl m s g => if s = size then some (m, g, True) else none
  | .sl id lo m =>
    match lkH h id with
    | some (.arr n s f) => if s = size then some (m, (fun i j => f (lo + i) j), lo + m ≤ n) else none
    | _ => none
  | .str s => if size = 1 then some (s.length, (fun i _ => .int .u8 (s.getD i 0).toNat), True) else none
  | _ => none
theorem evSrc_ok (hk : HOk G h mu nx w) {size m : Nat} {p : AVal} {g : Nat → Nat → AVal} {c : Prop} (he : evSrc h size p = some (m, g, c)) (hc : c) {y : Value} (hy : Rel (cx G h mu nx w) p y) :
    SrcR P (cx G h mu nx w) size y m g := by
  unfold evSrc at he
  split at he
  · simp only [Option.some.injEq, Prod.mk.injEq] at he
    obtain ⟨rfl, rfl, rfl⟩ := he
    simp only [Rel] at hy
    subst hy
    exact src_of_cells (.inl rfl)
  · rename_i m' s g'
    by_cases hs : s = size
    · rw [if_pos hs] at he
      simp only [Option.some.injEq, Prod.mk.injEq] at he
      obtain ⟨rfl, rfl, rfl⟩ := he
      subst hs
      obtain ⟨A, cap, rfl, hn, hA⟩ := hy
      refine src_of_cells ?_
      rcases hA with h0 | ⟨b, o, rfl, _, _, hcc⟩
      · exact .inl h0
      · exact .inr ⟨b, o, rfl, hcc⟩
    · rw [if_neg hs] at he; cases he
  · rename_i id lo m'
    split at he
    · rename_i n s f hl
      by_cases hs : s = size
      · rw [if_pos hs] at he
        simp only [Option.some.injEq, Prod.mk.injEq] at he
        obtain ⟨rfl, rfl, rfl⟩ := he
        subst hs
        obtain ⟨hid, A, cap, rfl, hn, hA⟩ := hy
        refine src_of_cells ?_
        rcases hA with h0 | ⟨B, hB, rfl, hfit⟩
        · exact .inl (by omega)
        · obtain ⟨hBs, cs, T, _, _, _, hcc⟩ := hk.cells hl hB
          refine .inr ⟨B.b, B.o + lo * B.s, rfl, fun i hi j hj => ?_⟩
          obtain ⟨h1, v, _, hv, hr⟩ := hcc (lo + i) (by omega) j hj
          refine ⟨h1, v, ?_, hr⟩
          rw [Nat.add_mul, ← Nat.add_assoc] at hv
          rw [hBs]
          exact hv
      · rw [if_neg hs] at he; cases he
    · cases he
  · rename_i s
    by_cases hs : size = 1
    · rw [if_pos hs] at he
      simp only [Option.some.injEq, Prod.mk.injEq] at he
      obtain ⟨rfl, rfl, rfl⟩ := he
      subst hs
      simp only [Rel] at hy
      subst hy
      refine ⟨s.map (fun b => .int .u8 b.toNat), ⟨fun w' => by simp [Builtin.lenOf, ByteArray.size], fun w' _ => ?_, by simp, ?_⟩, fun i hi j hj => ?_⟩
      · simp [Builtin.firstCells, ByteArray.extract, ByteArray.copySlice]
      · intro u hu
        simp only [List.mem_map] at hu
        obtain ⟨b, _, rfl⟩ := hu
        rfl
      · have : j = 0 := by omega
        subst this
        refine ⟨rfl, .int .u8 (s.getD i 0).toNat, ?_, rfl⟩
        simp [List.getElem?_eq_getElem hi]
    · rw [if_neg hs] at he; cases he
  · cases he
def apE (h : Heap) (e : TypeId) (id : Id) (o : HObj) : HEnt := if tyH h id = some e then .typ e o else .one o
def evAppend (T : Tab) (h : Heap) (nx : Nat) (t u : TypeId) (x y : AVal) : Option (AVal × Heap × Prop) :=
  match T t, T u with
  | some ⟨.slice e, _, _, _, _⟩, some ui =>
    match T e with
    | some ei =>
      match (match ui.k with | .slice _ => true | .str => true | _ => false), evSrc h ei.size y with
      | true, some (m, g, c) =>
        match x with
        | .nils => some (.sl (nx, 0) 0 m, (nx, .typ e (.arr m ei.size g)) :: h, c ∧ m ≤ 9223372036854775807 ∧ m * ei.bytes ≤ 140737488355328)
        | .sl id lo n =>
          match lkH h id with
          | some (.arr N s f) => if s = ei.size then
              some (.sl (nx, 0) 0 (n + m), (nx, apE h e id (.arr (n + m) s (app (fun i j => f (lo + i) j) n g))) :: delH h id,
                c ∧ lo + n ≤ N ∧ n + m ≤ 9223372036854775807 ∧ (n + m) * ei.bytes ≤ 140737488355328) else none
          | _ => none
        | _ => none
      | _, _ => none
    | none => none
  | _, _ => none
theorem Good.cast {sem : Sem Value} {v v' : AVal} {h1 h1' : Heap} {n1 n1' : Nat} {wid : Option Id} (hg : Good P G h mu nx w sem v h1 n1 wid) (e1 : v = v') (e2 : h1 = h1') (e3 : n1 = n1') : Good P G h mu nx w sem v' h1' n1' wid := by
  subst e1 e2 e3
  exact hg
def wSl : AVal → Option Id
  | .sl id _ _ => some id
  | _ => none
theorem evAppend_ok {T : Tab} (hT : TabOK P T) (hk : HOk G h mu nx w) {t u ty : TypeId} {p q v : AVal} {h' : Heap} {c : Prop} (he : evAppend T h nx t u p q = some (v, h', c)) (hc : c)
    {x y : Value} (hp : Rel (cx G h mu nx w) p x) (hq : Rel (cx G h mu nx w) q y) : Good P G h mu nx w (Builtin.append_ #[t, u] ty #[x, y]) v h' (nx + 1) (wSl p) := by
  unfold evAppend at he
  split at he
  · rename_i e _ _ _ _ ui hi hui
    have ht : P.underlying t = some (.slice e) := (hT t _ hi).kind
    split at he
    · rename_i ei hei
      have hte := hT e ei hei
      split at he
      · rename_i m g c' hkind hsrc
        have hu : ∃ d, P.underlying u = some d ∧ ((∃ e', d = .slice e') ∨ d = .string) := by
          have hk' := (hT u ui hui).kind
          cases hki : ui.k with
          | slice e' => rw [hki] at hk'; exact ⟨_, hk', .inl ⟨e', rfl⟩⟩
          | str => rw [hki] at hk'; exact ⟨_, hk', .inr rfl⟩
          | _ => rw [hki] at hkind; simp at hkind
        obtain ⟨d, hu, hd⟩ := hu
        split at he
        · simp only [Option.some.injEq, Prod.mk.injEq] at he
          obtain ⟨rfl, rfl, rfl⟩ := he
          simp only [Rel] at hp
          subst hp
          have := append_core (ty := ty) ht hu hd hte hk (h1 := h) (fun _ _ h => h) (fun _ _ h => h) (A := none) (n := 0) (cap := 0) (Nat.le_refl _) (f := fun _ _ => .any) none (.inl rfl) (evSrc_ok hk hsrc hc.1 hq) (by omega) (by simpa using hc.2.2) (en := .typ e _) (.inr ⟨rfl, fun _ _ _ _ hA => by cases hA⟩)
          refine this.cast (by simp) ?_ rfl
          simp only [Nat.zero_add]
          congr 4
        · rename_i id lo n
          split at he
          · rename_i N s f hl
            by_cases hs : s = ei.size
            · rw [if_pos hs] at he
              simp only [Option.some.injEq, Prod.mk.injEq] at he
              obtain ⟨rfl, rfl, rfl⟩ := he
              subst hs
              obtain ⟨hc1, hN, h63, hby⟩ := hc
              obtain ⟨hid, A, cap, rfl, hncap, hA⟩ := hp
              refine append_core ht hu hd hte hk (h1 := delH h id) (fun id' o hl' => (lkH_delH h id id' o hl').1) (fun id' t ht' => tyH_delH ht') hncap (some id) ?_ (evSrc_ok hk hsrc hc1 hq) h63 hby (by
                unfold apE
                by_cases hty : tyH h id = some e
                · rw [if_pos hty]
                  refine .inr ⟨rfl, fun b o cs T hA2 hc0 hh2 => ?_⟩
                  rcases hA with h0 | ⟨B, hB, hA3, _⟩
                  · exact absurd h0 hc0
                  · obtain ⟨cs3, hcs3, hdv⟩ := hk.typ id e B hty hB
                    rw [hA2] at hA3
                    injection hA3 with hA3
                    injection hA3 with hb3 ho3
                    rw [hb3, hcs3] at hh2
                    injection hh2 with hh2; injection hh2 with _ h4 _; exact ⟨h4.symm, by
                      have hBs := (hk.cells hl hB).1
                      rw [ho3, ← hBs]
                      exact Nat.dvd_add hdv (Nat.dvd_mul_left _ _)⟩
                · rw [if_neg hty]; exact .inl rfl)
              rcases hA with h0 | ⟨B, hB, rfl, hfit⟩
              · exact .inl h0
              · obtain ⟨hBs, cs, Ty, hh, hsz, hle, hcc⟩ := hk.cells hl hB
                have hown := hk.own id _ B hl hB
                refine .inr ⟨B.b, B.o + lo * B.s, cs, Ty, rfl, hh, ?_, .inr ⟨id, _, B, hl, hB, rfl⟩, hown.2.1, ⟨hown.2.2, id, B, rfl, hB, rfl⟩, fun id' o' B' hl' hm' e => ?_, fun i hi j hj => ?_⟩
                · rw [hsz]
                  rw [Nat.add_mul, ← Nat.add_assoc, hBs] at hfit
                  rw [hBs]
                  exact hfit
                · obtain ⟨h1, h2⟩ := lkH_delH h id id' o' hl'
                  exact h2 (hk.sep id' id o' _ B' B h1 hl hm' hB e)
                · obtain ⟨h1, v, hv, _, hr⟩ := hcc (lo + i) (by omega) j hj
                  refine ⟨h1, v, ?_, hr⟩
                  rw [Nat.add_mul, ← Nat.add_assoc] at hv
                  rw [hBs]
                  exact hv
            · rw [if_neg hs] at he; cases he
          · cases he
        · cases he
      · cases he
    · cases he
  · cases he
end
end Go.Lift
