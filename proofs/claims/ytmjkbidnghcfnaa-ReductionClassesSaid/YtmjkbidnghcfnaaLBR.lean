/-
  The bridge: values that came in, read as data, are abstract values over memory that nobody turns; what holds of a law's call then holds of the row.
-/
import Derived.Test.YtmjkbidnghcfnaaLMP
import Derived.ProofKit
namespace Go.Lift
set_option linter.unusedSimpArgs false
set_option linter.unusedVariables false
open Go.ChangeShapes Go.WideShapes Go.RowKit

def cW (w : World) : Cx := c0 (fun _ => False) w
/-- what can be read at type t is a datum of α, laid in sz cells as f says, and I holds of it. -/
def Reads (P : Program) (t : TypeId) {α : Type} (sz : Nat) (f : α → Nat → AVal) (I : α → Prop) : Prop :=
  P.cellsOf t = sz ∧ ∀ (H : Type) (enc : TypeId × Value → H) (w : World) (sp : Nat → Bool) (held : Bool) (n : Nat) (cs : List Value) (x : DataW H × List MemPlace),
    DataW.trod enc P w 0 sp held n t cs = some x → ∃ a : α, I a ∧ cs.length = sz ∧ ∀ j, j < sz → (f a j).one = true ∧ ∃ v, cs[j]? = some v ∧ Rel (cW w) (f a j) v

theorem mapM_get {α β : Type} {f : α → Option β} : ∀ {l : List α} {r : List β}, l.mapM f = some r → r.length = l.length ∧ ∀ (i : Nat) (x : α), l[i]? = some x → f x = r[i]?
  | [], r, h => by
    simp at h; subst h; exact ⟨rfl, fun i x hx => by simp at hx⟩
  | a :: l, r, h => by
    rw [List.mapM_cons] at h
    cases ha : f a with
    | none => simp [ha] at h
    | some b =>
      cases hl : l.mapM f with
      | none => simp [ha, hl] at h
      | some r' =>
        simp [ha, hl] at h
        subst h
        obtain ⟨h1, h2⟩ := mapM_get hl
        refine ⟨by simp [h1], fun i x hx => ?_⟩
        cases i with
        | zero => simp at hx; subst hx; simpa using ha
        | succ i => simpa using h2 i x (by simpa using hx)
theorem cells_get {w : World} {a : Addr} {n : Nat} {cs : List Value} (h : w.cells? 0 a n = some cs) : cs.length = n ∧ ∀ j, j < n → w.cell? (a.add j) = cs[j]? := by
  unfold World.cells? at h
  rw [if_pos (Nat.zero_le _)] at h
  obtain ⟨h1, h2⟩ := mapM_get h
  exact ⟨by simpa using h1, fun j hj => h2 j j (by simp [hj])⟩

section
variable {P : Program}
theorem reads_int {t : TypeId} {k : IntKind} (ht : P.underlying t = some (.int k)) (hc : P.cellsOf t = 1) : Reads P t 1 (fun (n : Int) _ => .int k n) (fun n => (Lit.int k n).wf = true) :=
  ⟨hc, fun H enc w sp held n cs x h => by
    obtain ⟨m, rfl, _, hw⟩ := DataW.trod_int ht h
    exact ⟨m, hw, rfl, fun j hj => ⟨rfl, _, by rw [show j = 0 by omega]; rfl, rfl⟩⟩⟩
theorem reads_bool {t : TypeId} (ht : P.underlying t = some .bool) (hc : P.cellsOf t = 1) : Reads P t 1 (fun (b : Bool) _ => .bool b) (fun _ => True) :=
  ⟨hc, fun H enc w sp held n cs x h => by
    obtain ⟨m, rfl, _⟩ := DataW.trod_bool ht h
    exact ⟨m, trivial, rfl, fun j hj => ⟨rfl, _, by rw [show j = 0 by omega]; rfl, rfl⟩⟩⟩
theorem reads_string {t : TypeId} (ht : P.underlying t = some .string) (hc : P.cellsOf t = 1) : Reads P t 1 (fun (s : List UInt8) _ => .str s) (fun s => s.length ≤ maxLen) :=
  ⟨hc, fun H enc w sp held n cs x h => by
    obtain ⟨⟨⟨s⟩⟩, rfl, _, hs⟩ := DataW.trod_string ht h
    exact ⟨s, hs, rfl, fun j hj => ⟨rfl, _, by rw [show j = 0 by omega]; rfl, rfl⟩⟩⟩
theorem reads_slice {t e : TypeId} {α : Type} {sz : Nat} {f : α → Nat → AVal} {I : α → Prop} (d : α) (ht : P.underlying t = some (.slice e)) (hc : P.cellsOf t = 1) (hs : 0 < sz) (he : Reads P e sz f I) :
    Reads P t 1 (fun (l : List α) _ => vec sz f d l) (fun l => l.length ≤ maxLen ∧ ∀ x ∈ l, I x) := by
  refine ⟨hc, fun H enc w sp held n cs x h => ?_⟩
  obtain ⟨hce, he⟩ := he
  rcases DataW.trod_slice ht h with ⟨rfl, _⟩ | ⟨a, len, cap, elems, rest, n, _, rfl, _, _, hlen, hcap, hel, hat, _, _⟩
  · exact ⟨[], ⟨by simp, fun x hx => by cases hx⟩, rfl, fun j hj => ⟨rfl, _, by rw [show j = 0 by omega]; rfl, none, 0, rfl, Nat.le_refl _, .inl rfl⟩⟩
  · have key : ∀ i, ∃ y : α, i < len → I y ∧ ∀ j, j < sz → (f y j).one = true ∧ ∃ v, w.cell? ((a.add (i * sz)).add j) = some v ∧ Rel (cW w) (f y j) v := fun i => by
      by_cases hi : i < len
      · have h1 := hat i hi
        rw [hce] at h1
        cases hcs : w.cells? 0 (a.add (i * sz)) sz with
        | none => rw [hcs] at h1; simp [List.getElem?_eq_getElem (show i < elems.length by omega)] at h1
        | some cs' =>
          rw [hcs] at h1
          simp only [Option.bind_some] at h1
          rw [List.getElem?_eq_getElem (show i < elems.length by omega)] at h1
          obtain ⟨y, hy, hl, hj⟩ := he H enc w sp held n cs' _ h1
          obtain ⟨_, h2⟩ := cells_get hcs
          exact ⟨y, fun _ => ⟨hy, fun j hj' => ⟨(hj j hj').1, by rw [h2 j hj']; exact (hj j hj').2⟩⟩⟩
      · exact ⟨d, fun h => absurd h hi⟩
    let g : Nat → α := fun i => Classical.choose (key i)
    have hg : ∀ i, i < len → I (g i) ∧ ∀ j, j < sz → (f (g i) j).one = true ∧ ∃ v, w.cell? ((a.add (i * sz)).add j) = some v ∧ Rel (cW w) (f (g i) j) v := fun i => Classical.choose_spec (key i)
    have hgd : ∀ i, i < len → ((List.range len).map g).getD i d = g i := fun i hi => by simp [List.getD, hi]
    refine ⟨(List.range len).map g, ⟨by simp; omega, fun x hx => ?_⟩, rfl, fun j hj => ?_⟩
    · obtain ⟨i, hi, rfl⟩ := List.mem_map.1 hx
      exact (hg i (by simpa using hi)).1
    · obtain rfl : j = 0 := by omega
      refine ⟨rfl, _, rfl, some a, cap, by simp, by simpa using hlen, ?_⟩
      by_cases h0 : len = 0
      · exact .inl (by simp [h0])
      · right
        obtain ⟨b, o, spot⟩ := a
        obtain ⟨_, v0, hv0, _⟩ := (hg 0 (by omega)).2 0 hs
        have hv0' : w.cell? ⟨b, o, spot⟩ = some v0 := by simpa [Addr.add] using hv0
        have hsp : spot = none := by
          unfold World.cell? at hv0'
          cases hb : w.heap[b]? with
          | none => simp [hb] at hv0'
          | some ob =>
            cases ob <;> simp [hb] at hv0'
            exact hv0'.1
        have hb : b < w.heap.size := by
          unfold World.cell? at hv0'
          cases hb : w.heap[b]? with
          | none => simp [hb] at hv0'
          | some ob => exact (Array.getElem?_eq_some_iff.1 hb).1
        subst hsp
        refine ⟨b, o, rfl, fun hF => hF, hb, fun i hi j hj => ?_⟩
        have hi' : i < len := by simpa using hi
        have h3 := (hg i hi').2 j hj
        show (f (((List.range len).map g).getD i d) j).one = true ∧ _
        unfold vecF
        rw [hgd i hi']
        refine ⟨h3.1, ?_⟩
        obtain ⟨_, v, h4, h5⟩ := h3
        refine ⟨v, ?_, h5⟩
        rw [← h4]
        congr 1
        unfold Addr.add
        by_cases h6 : i * sz = 0
        · by_cases h7 : j = 0
          · simp [h6, h7]
          · simp [h6, h7]
        · by_cases h7 : j = 0
          · simp [h6, h7]
          · simp [h6, h7]

/-- fields from the offset o on. -/
def ReadsF (P : Program) (o : Nat) (fs : List Field) {α : Type} (sz : Nat) (f : α → Nat → AVal) (I : α → Prop) : Prop :=
  ∀ (H : Type) (enc : TypeId × Value → H) (w : World) (sp : Nat → Bool) (held : Bool) (n : Nat) (cs : List Value), (∀ fd ∈ fs, ∃ x, DataW.trod enc P w 0 sp held n fd.type ((cs.drop fd.offset).take (P.cellsOf fd.type)) = some x) →
    ∃ a : α, I a ∧ ∀ j, j < sz → (f a j).one = true ∧ ∃ v, cs[o + j]? = some v ∧ Rel (cW w) (f a j) v
theorem readsF_nil {o : Nat} : ReadsF P o [] 0 (fun (_ : Unit) _ => .any) (fun _ => True) := fun H enc w sp held n cs _ => ⟨(), trivial, fun j hj => absurd hj (Nat.not_lt_zero _)⟩
theorem readsF_cons {o s sz : Nat} {fd : Field} {fs : List Field} {α β : Type} {g : β → Nat → AVal} {J : β → Prop} {f : α → Nat → AVal} {I : α → Prop} (ho : fd.offset = o) (h1 : Reads P fd.type s g J) (h2 : ReadsF P (o + s) fs sz f I) :
    ReadsF P o (fd :: fs) (s + sz) (fun (p : β × α) j => if j < s then g p.1 j else f p.2 (j - s)) (fun p => J p.1 ∧ I p.2) := fun H enc w sp held n cs h => by
  obtain ⟨hc, h1⟩ := h1
  obtain ⟨x, hx⟩ := h fd List.mem_cons_self
  obtain ⟨b, hb, hl, hbj⟩ := h1 H enc w sp held n _ x hx
  obtain ⟨a, ha, haj⟩ := h2 H enc w sp held n cs fun fd' hfd => h fd' (List.mem_cons_of_mem _ hfd)
  refine ⟨(b, a), ⟨hb, ha⟩, fun j hj => ?_⟩
  show (if j < s then g b j else f a (j - s)).one = true ∧ ∃ v, cs[o + j]? = some v ∧ Rel (cW w) (if j < s then g b j else f a (j - s)) v
  by_cases hjs : j < s
  · rw [if_pos hjs]
    obtain ⟨k1, v, k2, k3⟩ := hbj j hjs
    refine ⟨k1, v, ?_, k3⟩
    rw [hc, ho, List.getElem?_take, if_pos hjs, List.getElem?_drop] at k2
    exact k2
  · rw [if_neg hjs]
    obtain ⟨k1, v, k2, k3⟩ := haj (j - s) (by omega)
    exact ⟨k1, v, by rw [show o + j = o + s + (j - s) by omega]; exact k2, k3⟩
theorem reads_struct {t : TypeId} {fs : Array Field} {α : Type} {sz : Nat} {f : α → Nat → AVal} {I : α → Prop} (ht : P.underlying t = some (.struct fs)) (hc : P.cellsOf t = sz) (h : ReadsF P 0 fs.toList sz f I) : Reads P t sz f I :=
  ⟨hc, fun H enc w sp held n cs x hx => by
    obtain ⟨xs, m, _, _, hl, hlen, hf⟩ := DataW.trod_struct ht hx
    obtain ⟨a, ha, haj⟩ := h H enc w sp held m cs fun fd hfd => by
      obtain ⟨i, hi, hie⟩ := List.mem_iff_getElem.1 hfd
      have hi' : i < fs.size := by simpa using hi
      have h1 := hf i fd (by rw [Array.getElem?_eq_getElem hi']; simpa using hie)
      rw [List.getElem?_eq_getElem (by omega)] at h1
      exact ⟨_, h1⟩
    exact ⟨a, ha, hl.trans hc, fun j hj => by simpa using haj j hj⟩⟩
/-- another form of the same. -/
theorem Reads.as {t : TypeId} {α β : Type} {sz : Nat} {f : α → Nat → AVal} {I : α → Prop} (h : Reads P t sz f I) (g : α → β) {f' : β → Nat → AVal} {I' : β → Prop} (hf : ∀ a j, j < sz → f a j = f' (g a) j) (hI : ∀ a, I a → I' (g a)) : Reads P t sz f' I' :=
  ⟨h.1, fun H enc w sp held n cs x hx => by
    obtain ⟨a, ha, hl, haj⟩ := h.2 H enc w sp held n cs x hx
    exact ⟨g a, hI a ha, hl, fun j hj => by rw [← hf a j hj]; exact haj j hj⟩⟩

section
variable {H : Type} {enc : TypeId × Value → H} {w : World} {sp : Nat → Bool} {held : Bool} {b0 : Nat} {t : TypeId} {v : Value} {d : DataW H} {ps : List MemPlace} {α : Type} {sz : Nat} {f : α → Nat → AVal} {I : α → Prop}
theorem arg_struct {fs : Array Field} (hs : P.underlying t = some (.struct fs)) (hr : Reads P t sz f I) (hv : Value.okWide P w .any b0 t v) (h : DataW.Trod enc P w 0 sp held t v d ps) : ∃ a, I a ∧ Rel (cW w) (.agg sz (f a)) v := by
  obtain ⟨cs, rfl, hsz⟩ := okWide_struct hs hv
  obtain ⟨fuel, hf⟩ := h
  obtain ⟨a, ha, hl, haj⟩ := hr.2 H enc w sp held fuel _ _ hf
  refine ⟨a, ha, cs, rfl, hsz.trans hr.1, fun j hj => ?_⟩
  obtain ⟨_, v, hv1, hv2⟩ := haj j hj
  have : cs.getD j undef = v := by
    have h1 : cs[j]? = some v := by simpa [Value.cells] using hv1
    rw [Array.getD_eq_getD_getElem?, h1]; rfl
  rw [this]; exact hv2
theorem arg_one (hr : Reads P t 1 f I) (hv : v.cells = #[v]) (h : DataW.Trod enc P w 0 sp held t v d ps) : ∃ a, I a ∧ Rel (cW w) (f a 0) v := by
  obtain ⟨fuel, hf⟩ := h
  obtain ⟨a, ha, hl, haj⟩ := hr.2 H enc w sp held fuel _ _ hf
  obtain ⟨_, v', hv1, hv2⟩ := haj 0 (by decide)
  rw [hv] at hv1
  have : v' = v := by simpa using hv1.symm
  exact ⟨a, ha, this ▸ hv2⟩
theorem arg_slice {e : TypeId} (ht : P.underlying t = some (.slice e)) (hr : Reads P t 1 f I) (hv : Value.okWide P w .any b0 t v) (h : DataW.Trod enc P w 0 sp held t v d ps) : ∃ a, I a ∧ Rel (cW w) (f a 0) v := by
  obtain ⟨a, l, c, rfl⟩ := okWide_slice ht hv
  exact arg_one hr rfl h
theorem arg_int {k : IntKind} (ht : P.underlying t = some (.int k)) (hr : Reads P t 1 f I) (hv : Value.okWide P w .any b0 t v) (h : DataW.Trod enc P w 0 sp held t v d ps) : ∃ a, I a ∧ Rel (cW w) (f a 0) v := by
  obtain ⟨n, rfl⟩ := okWide_int ht hv
  exact arg_one hr rfl h
theorem arg_string (ht : P.underlying t = some .string) (hr : Reads P t 1 f I) (hv : Value.okWide P w .any b0 t v) (h : DataW.Trod enc P w 0 sp held t v d ps) : ∃ a, I a ∧ Rel (cW w) (f a 0) v := by
  obtain ⟨n, rfl⟩ := okWide_string ht hv
  exact arg_one hr rfl h
end

theorem Kept.below {w w' : World} (h : Kept w (fun _ => False) w') : Below w.heap.size w w' := ⟨h.os, h.tape, h.output, h.size, fun k hk => h.block k hk fun f => f⟩
theorem trodAll_kept {H : Type} {enc : TypeId × Value → H} (hl : laidOutB P = true) {W W' : World} (hk : Kept W (fun _ => False) W') {sp : Nat → Bool} : ∀ (ts : List TypeId) (vs : List Value) (ds : List (DataW H)) (ps : List MemPlace), (ts.all fun t => P.readableRec t && decide (t < P.types.size)) = true →
    DataW.TrodAll enc P W 0 (fun _ => true) true ts vs ds ps → (∀ p ∈ ps, p.block < W.heap.size) → (∀ p ∈ ps, sp p.block = true) → DataW.TrodAll enc P W' 0 sp true ts vs ds ps
  | [], vs, ds, ps, _, h, _, _ => by
    obtain ⟨rfl, rfl, rfl⟩ := trodAll_nil h
    exact h
  | t :: ts, vs, ds, ps, ha, h, hlt, hsp => by
    obtain ⟨v, vs', d, ds', p, q, rfl, rfl, rfl, h1, h2⟩ := trodAll_cons h
    simp only [List.all_cons, Bool.and_eq_true, decide_eq_true_eq] at ha
    refine ⟨p, q, ?_, trodAll_kept hl hk ts vs' ds' q (by simpa using ha.2) h2 (fun x hx => hlt x (List.mem_append.2 (.inr hx))) (fun x hx => hsp x (List.mem_append.2 (.inr hx))), rfl⟩
    exact WideElems.Trod_stays hl ha.1.1 ha.1.2 h1 (fun x hx => hk.below.same (hlt x (List.mem_append.2 (.inl hx)))) fun x hx => hsp x (List.mem_append.2 (.inl hx))

/-- a law's row behind the call: it returned true and turned nothing that was there. -/
theorem law_post {H : Type} {enc : TypeId × Value → H} {f : Func} {s : ChangeSpec} {apart fresh handsOn again : Bool} {W W' : World} {args : Array Value} {ds gs : List (DataW H)} {before : List MemPlace} {tb : TypeId}
    (hl : laidOutB P = true) (hp : (f.params.toList.all fun t => P.readableRec t && decide (t < P.types.size)) = true) (hvars : s.vars = []) (hfn : s.fn H (ds ++ gs) = { results := [.lit (.bool true)], args := ds })
    (hres : f.resultTypes = #[tb]) (htb : P.underlying tb = some .bool) (hW : DataW.Whole enc P f.params.toList s.vars apart W args.toList ds gs before) (hk : Kept W (fun _ => False) W') :
    s.post enc P f apart fresh handsOn again W args (.bool true) W' := by
  have hlt : ∀ p ∈ before, p.block < W.heap.size := fun p hp => by simpa using hW.lt p hp
  have hold : ∀ p ∈ before, (fun b => decide (b < W.heap.size)) p.block = true := fun p hp => by simpa using hlt p hp
  have hW0 := hW
  obtain ⟨p, q, hA, hV, hpq, hz, hn⟩ := hW
  rw [hvars] at hV
  obtain ⟨hgs, hq⟩ := trodVars_none hV
  subst hgs hq
  rw [List.append_nil] at hpq
  subst hpq
  have hargs : ∀ sp : Nat → Bool, (∀ x ∈ before, sp x.block = true) → DataW.TrodAll enc P W' 0 sp true f.params.toList args.toList (s.fn H (ds ++ [])).args before := fun sp hsp => by
    rw [hfn]; exact trodAll_kept hl hk _ _ _ _ hp hA hlt hsp
  have hvv : ∀ sp : Nat → Bool, DataW.TrodVars enc P W' sp s.vars (s.fn H (ds ++ [])).vars [] := fun sp => by rw [hfn, hvars]; exact rfl
  have hone : (Value.bool true).resultList f.resultTypes.size = [.bool true] := by rw [hres]; rfl
  have hrs : ∀ (b : Nat) (sp : Nat → Bool) (hd : Bool), DataW.TrodAll enc P W' b sp hd f.resultTypes.toList ((Value.bool true).resultList f.resultTypes.size) (s.fn H (ds ++ [])).results [] := fun b sp hd => by
    rw [hfn, hone, hres]; exact trodAll_mk1 (shut_bool htb true)
  refine ⟨ds, [], before, [], before, [], hW0, hrs _ _ _, hargs _ hold, hvv _, ⟨hk.os, hk.output, fun i hi => ?_⟩, fun _ => ⟨?_, _, _, ([] ++ before) ++ [], ⟨[] ++ before, [], trodAll_append (hargs _ (fun _ _ => rfl)) (hrs _ _ _), hvv _, rfl, ?_, ?_⟩, ?_⟩⟩
  · rw [hk.block i hi fun f => f]
    cases W.heap[i]? with
    | none => rfl
    | some o => cases o <;> first | exact ⟨rfl, rfl, rfl, fun _ _ => rfl⟩ | exact .inr ⟨rfl, rfl⟩ | rfl
  · intro j t r h1 h2
    rw [hone] at h2
    rw [hres] at h1
    cases j with
    | succ j => simp at h1
    | zero =>
      simp at h1 h2
      subst h1 h2
      exact okWide_bool_mk htb true
  · intro b off hpm
    have hm : MemPlace.cell b off ∈ before := by simpa using hpm
    have hb : b < W.heap.size := hlt _ hm
    have h1 := hz b off hm
    unfold World.frozen? at h1 ⊢
    rw [hk.block b hb fun f => f]
    exact h1
  · intro ha
    simpa using hn ha
  · intro p hp _
    simpa using hp
end
end Go.Lift
