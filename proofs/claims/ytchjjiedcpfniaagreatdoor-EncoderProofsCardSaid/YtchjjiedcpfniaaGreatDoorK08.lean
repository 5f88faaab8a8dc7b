/- Parts of the proof: LX. -/
import Derived.RangeFuncRecord
import Derived.Laws.Externs
import Derived.Test.YtchjjiedcpfniaaGreatDoorK07
namespace Go.Lift
set_option linter.unusedSimpArgs false
set_option linter.unusedVariables false
open Go.RowKit
def inB (h : Heap) (mu : Id → Option Base) (b : Nat) : Prop := ∃ id o B, lkH h id = some o ∧ mu id = some B ∧ B.b = b
def FCc (C : List Value → World → (Ending → World → Prop) → Prop) (args : List AVal) (hin : Heap) (nin : Nat) {α : Type} (I : α → Prop) (r : α → AVal) (hout : α → Heap) (nout : α → Nat) : Prop :=
  ∀ (O : Nat → Prop) (w : World) (mu : Id → Option Base) (vals : List Value), HOk ⟨w, inB hin mu, O, 0, none⟩ hin mu nin w → ArgsRel (cx ⟨w, inB hin mu, O, 0, none⟩ hin mu nin w) args vals →
    C vals w fun e w' => ∃ v x mu', e = .returned v ∧ I x ∧ nin ≤ nout x ∧ (∀ id : Id, id.1 < nin → mu' id = mu id) ∧
      HOk ⟨w, inB hin mu, O, 0, none⟩ (hout x) mu' (nout x) w' ∧ Rel (cx ⟨w, inB hin mu, O, 0, none⟩ (hout x) mu' (nout x) w') (r x) v
def FC (P : Program) (f : FuncId) (args : List AVal) (hin : Heap) (nin : Nat) {α : Type} (I : α → Prop) (r : α → AVal) (hout : α → Heap) (nout : α → Nat) : Prop :=
  FCc (fun vals w R => Calls P f vals.toArray w R) args hin nin I r hout nout
def RetF (T : Tab) (res : List ResultVar) (nin : Nat) {α : Type} (I : α → Prop) (r : α → AVal) (hout : α → Heap) (nout : α → Nat) (st : St) : Prop :=
  ∃ x v c, I x ∧ evRes T st res = some (v, c) ∧ c ∧ ∃ σ fz vz, VLe st.heap (sI σ) fz (vI vz) (nout x) (r x) v ∧ heapLe st.heap (sI σ) fz (vI vz) (nout x) (hout x) ∧ keyInj σ vz ((hout x).map (·.1)) = true ∧ nin ≤ nout x ∧ ∀ k, k < nin → σ k = k ∧ vz k = false
section
variable {P : Program}
theorem HOk.ghost {G G' : Gh} {h : Heap} {mu : Id → Option Base} {nx : Nat} {w : World} (hk : HOk G h mu nx w) (h1 : G'.w0 = G.w0) (h2 : G'.mt = G.mt) (h3 : G'.O = G.O) : HOk G' h mu nx w := by
  obtain ⟨a, b, c, d, e⟩ := G
  obtain ⟨a', b', c', d', e'⟩ := G'
  simp only at h1 h2 h3
  subst h1 h2 h3
  exact ⟨hk.obj, hk.sep, hk.own, hk.kept, hk.out, hk.typ⟩
theorem fc_body {T : Tab} (hT : TabOK P T) {f : FuncId} {fn : Func} {c : Code} {args : List AVal} {hin : Heap} {nin : Nat} {α : Type} {I : α → Prop} {r : α → AVal} {hout : α → Heap} {nout : α → Nat} (hf : P.funcs[f]? = some fn) (hb : fn.body = some c) (hn : args.length ≤ fn.ntmps)
    {O : Nat → Prop} {w : World} {mu : Id → Option Base} {vals : List Value} (hok : HOk ⟨w, inB hin mu, O, 0, none⟩ hin mu nin w) (hargs : ArgsRel (cx ⟨w, inB hin mu, O, 0, none⟩ hin mu nin w) args vals)
    (h : Awp P ⟨w, inB hin mu, O, fn.ntmps, none⟩ nin c (fun e st => match e with | .normal => RetF T fn.results.toList nin I r hout nout st | .ret => RetF T fn.results.toList nin I r hout nout st | _ => False) ⟨argEnv 0 args, hin, nin⟩) :
    Calls P f vals.toArray w fun e w' => ∃ v x mu', e = .returned v ∧ I x ∧ nin ≤ nout x ∧ (∀ id : Id, id.1 < nin → mu' id = mu id) ∧
      HOk ⟨w, inB hin mu, O, 0, none⟩ (hout x) mu' (nout x) w' ∧ Rel (cx ⟨w, inB hin mu, O, 0, none⟩ (hout x) mu' (nout x) w') (r x) v := by
  refine (callsIn_wide (n := 0)).1 (callsIn_of_wp_marks (F := fen none) hf hb trivial ?_)
  let G : Gh := ⟨w, inB hin mu, O, fn.ntmps, none⟩
  have hokG : HOk G hin mu nin w := hok.ghost rfl rfl rfl
  have hsim : Sim G mu ⟨argEnv 0 args, hin, nin⟩ { tmps := vals.toArray ++ Array.replicate (fn.ntmps - vals.toArray.size) undef, defers := [] } w := by
    refine ⟨DefOK.nil, ?_, fun t => ?_, hokG⟩
    · have := hargs.length
      simp only [Array.size_append, List.size_toArray, Array.size_replicate, G]
      omega
    · have := lk_argEnv (c := cx G hin mu nin w) 0 t (Array.replicate (fn.ntmps - vals.toArray.size) undef) hargs
      simpa using this
  have key : ∀ (st : St) (mu' : Id → Option Base) (a' : Act) (w' : World), Sim G mu' st a' w' → nin ≤ st.nx → (∀ id : Id, id.1 < nin → mu' id = mu id) → RetF T fn.results.toList nin I r hout nout st →
      ∃ v, (results fn a'.tmps).run P w' = .ok v w' ∧ ∃ v' x mu', Ending.returned v = .returned v' ∧ I x ∧ nin ≤ nout x ∧ (∀ id : Id, id.1 < nin → mu' id = mu id) ∧ HOk ⟨w, inB hin mu, O, 0, none⟩ (hout x) mu' (nout x) w' ∧ Rel (cx ⟨w, inB hin mu, O, 0, none⟩ (hout x) mu' (nout x) w') (r x) v' := by
    rintro st mu' a' w' hs hnx hstay ⟨x, v, cc, hI, hev, hc, σ, fz, vz, hv, hh, hinj, hno, hid⟩
    obtain ⟨y, hy, hyr⟩ := evRes_ok hT hs hev hc
    have hs2 : Sim G mu' ⟨[(0, v)], st.heap, st.nx⟩ { tmps := #[y] ++ Array.replicate G.nt undef, defers := [] } w' := ⟨DefOK.nil, by simp, fun t => by
      simp only [lk]
      by_cases ht : 0 = t
      · subst ht
        rw [if_pos rfl]
        have : (#[y] ++ Array.replicate G.nt undef).getD 0 undef = y := by
          rw [Array.getD_eq_getD_getElem?, Array.getElem?_append_left (by simp)]
          rfl
        rw [this]
        exact hyr
      · rw [if_neg ht]; trivial, hs.heap⟩
    have hwk := wk_of (G := G) (n0 := nin) (st := ⟨[(0, v)], st.heap, st.nx⟩) (st2 := ⟨[(0, r x)], hout x, nout x⟩) σ fz vz ⟨by simpa [lk] using hv, trivial⟩ hh hinj hno hid
    obtain ⟨mu2, k1, k2, k3⟩ := hwk mu' _ w' hs2 hnx
    refine ⟨y, hy, y, x, mu2, rfl, hI, hno, fun id hid' => ?_, k1.heap.ghost rfl rfl rfl, ?_⟩
    · exact (k3.le.mu id hid').trans (hstay id hid')
    · have := k1.env 0
      simp only [lk, if_true] at this
      have h2 : (#[y] ++ Array.replicate G.nt undef).getD 0 undef = y := by
        rw [Array.getD_eq_getD_getElem?, Array.getElem?_append_left (by simp)]
        rfl
      rw [h2] at this
      exact this
  refine h _ _ _ hsim (Nat.le_refl _) _ fun e mu' st' a' w' h1 h2 h3 h4 => ?_
  cases e with
  | normal => exact h1.leaves fun w2 hs2 => key st' mu' { tmps := a'.tmps, defers := [] } w2 hs2 h2 h3.le.mu h4
  | ret => exact h1.leaves fun w2 hs2 => key st' mu' { tmps := a'.tmps, defers := [] } w2 hs2 h2 h3.le.mu h4
  | _ => exact h4.elim
theorem FC_intro {T : Tab} (hT : TabOK P T) {f : FuncId} {fn : Func} {c : Code} {args : List AVal} {hin : Heap} {nin : Nat} {α : Type} {I : α → Prop} {r : α → AVal} {hout : α → Heap} {nout : α → Nat} (hf : P.funcs[f]? = some fn) (hb : fn.body = some c) (hn : args.length ≤ fn.ntmps)
    (h : ∀ G : Gh, G.nt = fn.ntmps → G.rd = none → Awp P G nin c (fun e st => match e with | .normal => RetF T fn.results.toList nin I r hout nout st | .ret => RetF T fn.results.toList nin I r hout nout st | _ => False) ⟨argEnv 0 args, hin, nin⟩) :
    FC P f args hin nin I r hout nout := by
  exact fun O w mu vals hok hargs => fc_body hT hf hb hn hok hargs (h _ rfl rfl)
def ren (ρ : Nat → Nat) : AVal → AVal
  | .ptr id i off => .ptr (ρ id.1, id.2) i off
  | .sl id lo n => .sl (ρ id.1, id.2) lo n
  | .map id => .map (ρ id.1, id.2)
  | .vptr s f off => .vptr s (fun j => ren ρ (f j)) off
  | .vsl n s f => .vsl n s (fun i j => ren ρ (f i j))
  | .agg n f => .agg n (fun j => ren ρ (f j))
  | .tup n f => .tup n (fun j => ren ρ (f j))
  | .fn g n f => .fn g n (fun j => ren ρ (f j))
  | .bnd g v => .bnd g (ren ρ v)
  | .yld l vs n f => .yld l vs n (fun j => ren ρ (f j))
  | .opt g v => .opt g (ren ρ v)
  | .any => .any
  | .int k n => .int k n
  | .bool b => .bool b
  | .str s => .str s
  | .nilp => .nilp
  | .nils => .nils
  | .nilmap => .nilmap
  | .nilfn => .nilfn
  | .ub p => .ub p
def renO (ρ : Nat → Nat) : HObj → HObj
  | .arr n s f => .arr n s (fun i j => ren ρ (f i j))
  | .mp l => .mp (l.map fun p => (ren ρ p.1, ren ρ p.2))
  | .ob p => .ob p
  | .mi q l => .mi q (l.map fun p => (ren ρ p.1, ren ρ p.2))
def renE (ρ : Nat → Nat) : HEnt → HEnt
  | .one o => .one (renO ρ o)
  | .typ t o => .typ t (renO ρ o)
  | .fam o r => .fam (renO ρ o) (fun i => (r i).map (renO ρ))
def renH (ρ : Nat → Nat) : Heap → Heap
  | [] => []
  | (k, e) :: h => (ρ k, renE ρ e) :: renH ρ h
theorem one_ren {ρ : Nat → Nat} {v : AVal} : (ren ρ v).one = v.one := by cases v <;> rfl
theorem rel_ren {w : World} {F1 F2 : Nat → Prop} {mu1 mu2 : Id → Option Base} {n1 n2 : Nat} {ρ : Nat → Nat} (hmu : ∀ id : Id, id.1 < n1 → ρ id.1 < n2 ∧ mu2 (ρ id.1, id.2) = mu1 id) :
    ∀ (v : AVal) (x : Value), (∀ b, ¬ F1 b → ¬ F2 b) ∨ flat v → Rel ⟨w, F1, mu1, n1⟩ v x → Rel ⟨w, F2, mu2, n2⟩ (ren ρ v) x := by
  intro v
  induction v with
  | ptr id i off =>
    rintro x _ ⟨h1, B, hB, hx⟩
    exact ⟨(hmu id h1).1, B, ((hmu id h1).2).trans hB, hx⟩
  | sl id lo n =>
    rintro x _ ⟨h1, A, cap, hx, hn, hc⟩
    refine ⟨(hmu id h1).1, A, cap, hx, hn, ?_⟩
    rcases hc with hc | ⟨B, hB, hA⟩
    · exact .inl hc
    · exact .inr ⟨B, ((hmu id h1).2).trans hB, hA⟩
  | map id =>
    rintro x _ ⟨h1, B, hB, hx⟩
    exact ⟨(hmu id h1).1, B, ((hmu id h1).2).trans hB, hx⟩
  | vptr s f off ih =>
    rintro x hF ⟨b, o, hx, hb, hbs, hc⟩
    rcases hF with hF | hF
    · exact ⟨b, o, hx, hF b hb, hbs, fun j hj => by
        obtain ⟨h1, y, hy, hr⟩ := hc j hj
        exact ⟨by rw [one_ren]; exact h1, y, hy, ih j y (.inl hF) hr⟩⟩
    · exact hF.elim
  | vsl n s f ih =>
    rintro x hF ⟨A, cap, hx, hn, hc⟩
    refine ⟨A, cap, hx, hn, ?_⟩
    rcases hF with hF | hF
    · rcases hc with hc | ⟨b, o, hA, hb, hbs, hc⟩
      · exact .inl hc
      · exact .inr ⟨b, o, hA, hF b hb, hbs, fun i hi j hj => by
          obtain ⟨h1, y, hy, hr⟩ := hc i hi j hj
          exact ⟨by rw [one_ren]; exact h1, y, hy, ih i j y (.inl hF) hr⟩⟩
    · exact .inl hF
  | agg n f ih =>
    rintro x hF ⟨cs, hx, hs, hc⟩
    exact ⟨cs, hx, hs, fun j hj => ih j _ (hF.imp id (fun h => h j hj)) (hc j hj)⟩
  | tup n f ih =>
    rintro x hF ⟨cs, hx, hs, hc⟩
    exact ⟨cs, hx, hs, fun j hj => ih j _ (hF.imp id (fun h => h j hj)) (hc j hj)⟩
  | fn g n f ih =>
    rintro x hF ⟨cs, hx, hs, hc⟩
    exact ⟨cs, hx, hs, fun j hj => ih j _ (hF.imp id (fun h => h j hj)) (hc j hj)⟩
  | bnd g v ih =>
    rintro x hF ⟨y, hx, hy⟩
    exact ⟨y, hx, ih y hF hy⟩
  | yld l vs n f ih =>
    rintro x hF ⟨hx, hs, hc⟩
    exact ⟨hx, hs, fun j hj => ih j _ (hF.imp id (fun h => h j hj)) (hc j hj)⟩
  | opt g v ih =>
    rintro x hF ⟨h1, h2⟩
    exact ⟨fun hg => ih x hF (h1 hg), h2⟩
  | _ => intro x _ hr; exact hr
def flatO : HObj → Prop
  | .arr n s f => ∀ i, i < n → ∀ j, j < s → flat (f i j)
  | .mp l => ∀ p ∈ l, flat p.1 ∧ flat p.2
  | .ob _ => True
  | .mi _ l => ∀ p ∈ l, flat p.1 ∧ flat p.2
def flatH : Heap → Prop
  | [] => True
  | (_, .one o) :: h => flatO o ∧ flatH h
  | (_, .typ _ o) :: h => flatO o ∧ flatH h
  | (_, .fam o r) :: h => flatO o ∧ (∀ i o', r i = some o' → flatO o') ∧ flatH h
theorem flatH_lk : ∀ {h : Heap} {id : Id} {o : HObj}, flatH h → lkH h id = some o → flatO o
  | [], _, _, _, hl => by simp [lkH] at hl
  | (k, e) :: h, id, o, hf, hl => by
    simp only [lkH] at hl
    by_cases hk : k = id.1
    · rw [if_pos hk] at hl
      cases e with
      | one p =>
        cases hi : id.2 with
        | zero => simp only [hi, HEnt.get, Option.some.injEq] at hl; subst hl; exact hf.1
        | succ i => simp [hi, HEnt.get] at hl
      | typ t p =>
        cases hi : id.2 with
        | zero => simp only [hi, HEnt.get, Option.some.injEq] at hl; subst hl; exact hf.1
        | succ i => simp [hi, HEnt.get] at hl
      | fam p r =>
        cases hi : id.2 with
        | zero => simp only [hi, HEnt.get, Option.some.injEq] at hl; subst hl; exact hf.1
        | succ i => simp only [hi, HEnt.get] at hl; exact hf.2.1 i o hl
    · rw [if_neg hk] at hl
      refine flatH_lk ?_ hl
      cases e with
      | one p => exact hf.2
      | typ t p => exact hf.2
      | fam p r => exact hf.2.2
theorem hrel_ren {w : World} {F1 F2 : Nat → Prop} {mu1 mu2 : Id → Option Base} {n1 n2 : Nat} {ρ : Nat → Nat} (hmu : ∀ id : Id, id.1 < n1 → ρ id.1 < n2 ∧ mu2 (ρ id.1, id.2) = mu1 id) {o : HObj} (hF : (∀ b, ¬ F1 b → ¬ F2 b) ∨ flatO o)
    {m : Option Base} (h : HRel ⟨w, F1, mu1, n1⟩ m o) : HRel ⟨w, F2, mu2, n2⟩ m (renO ρ o) := by
  cases o with
  | arr n s f =>
    cases m with
    | none => exact h
    | some B =>
      obtain ⟨hs, cs, T, hh, hsz, hle, hc⟩ := h
      refine ⟨hs, cs, T, hh, hsz, hle, fun i hi j hj => ?_⟩
      obtain ⟨h1, v, hv, hr⟩ := hc i hi j hj
      exact ⟨by rw [one_ren]; exact h1, v, hv, rel_ren hmu _ _ (hF.imp id fun h => h i hi j hj) hr⟩
  | mp l =>
    cases m with
    | none => exact h
    | some B =>
      obtain ⟨es, clock, hh, hsz, hc, hbn⟩ := h
      refine ⟨es, clock, hh, by simpa using hsz, fun i hi e he => ?_, hbn⟩
      have hi' : i < l.length := by simpa using hi
      have := hc i hi' e he
      simp only [List.getElem_map]
      exact ⟨rel_ren hmu _ _ (hF.imp id fun h => (h _ (List.getElem_mem hi')).1) this.1, rel_ren hmu _ _ (hF.imp id fun h => (h _ (List.getElem_mem hi')).2) this.2⟩
  | mi q l =>
    cases m with
    | none => exact h
    | some B =>
      obtain ⟨es, clock, hh, hsz, hc, hbn⟩ := h
      refine ⟨es, clock, hh, by simpa using hsz, fun i hi e he => ?_, hbn⟩
      have hi' : i < l.length := by simpa using hi
      have := hc i hi' e he
      simp only [List.getElem_map]
      exact ⟨rel_ren hmu _ _ (hF.imp id fun h => (h _ (List.getElem_mem hi')).1) this.1, rel_ren hmu _ _ (hF.imp id fun h => (h _ (List.getElem_mem hi')).2) this.2⟩
  | ob p =>
    cases m with
    | none => exact h
    | some B => exact h
theorem lkH_key : ∀ {h : Heap} {k : Nat}, k ∈ h.map (·.1) → ∃ o, lkH h (k, 0) = some o
  | [], _, hk => by simp at hk
  | (k', e) :: h, k, hk => by
    simp only [lkH]
    by_cases h1 : k' = k
    · rw [if_pos h1]
      cases e with
      | one o => exact ⟨o, rfl⟩
      | typ t o => exact ⟨o, rfl⟩
      | fam o r => exact ⟨o, rfl⟩
    · rw [if_neg h1]
      have : k ∈ h.map (·.1) := by
        simp only [List.map_cons, List.mem_cons] at hk
        rcases hk with hk | hk
        · exact absurd hk.symm h1
        · exact hk
      exact lkH_key this
theorem lkH_mem : ∀ {h : Heap} {id : Id} {o : HObj}, lkH h id = some o → id.1 ∈ h.map (·.1)
  | [], _, _, hl => by simp [lkH] at hl
  | (k, e) :: h, id, o, hl => by
    simp only [lkH] at hl
    by_cases h1 : k = id.1
    · simp [h1]
    · rw [if_neg h1] at hl
      simp only [List.map_cons, List.mem_cons]
      exact .inr (lkH_mem hl)
theorem renE_get {ρ : Nat → Nat} {e : HEnt} {i : Nat} : (renE ρ e).get i = (e.get i).map (renO ρ) := by
  cases e <;> cases i <;> rfl
theorem lkH_ren {ρ : Nat → Nat} : ∀ {h : Heap}, (∀ k k', k ∈ h.map (·.1) → k' ∈ h.map (·.1) → ρ k = ρ k' → k = k') → ∀ {id' : Id} {o' : HObj}, lkH (renH ρ h) id' = some o' → ∃ id o, lkH h id = some o ∧ o' = renO ρ o ∧ id' = (ρ id.1, id.2)
  | [], _, id', o', hl => by simp [renH, lkH] at hl
  | (k, e) :: h, hinj, id', o', hl => by
    simp only [renH, lkH] at hl
    by_cases h1 : ρ k = id'.1
    · rw [if_pos h1, renE_get] at hl
      cases he : e.get id'.2 with
      | none => rw [he] at hl; cases hl
      | some o =>
        rw [he] at hl
        injection hl with hl
        exact ⟨(k, id'.2), o, by simp only [lkH, if_true]; exact he, hl.symm, by rw [h1]⟩
    · rw [if_neg h1] at hl
      obtain ⟨id, o, hlk, ho, hid⟩ := lkH_ren (fun a b ha hb => hinj a b (by simp only [List.map_cons, List.mem_cons]; exact .inr ha) (by simp only [List.map_cons, List.mem_cons]; exact .inr hb)) hl
      refine ⟨id, o, ?_, ho, hid⟩
      simp only [lkH]
      rw [if_neg (fun e => h1 (by rw [hid]; exact congrArg ρ e))]
      exact hlk
theorem lkH_append {h g : Heap} {id : Id} {o : HObj} (hl : lkH (h ++ g) id = some o) : lkH h id = some o ∨ lkH g id = some o := by
  induction h with
  | nil => exact .inr hl
  | cons e h ih =>
    obtain ⟨k, e⟩ := e
    simp only [List.cons_append, lkH] at hl ⊢
    by_cases h1 : k = id.1
    · rw [if_pos h1] at hl; rw [if_pos h1]; exact .inl hl
    · rw [if_neg h1] at hl; rw [if_neg h1]; exact ih hl
theorem lkH_rest {ps : List Nat} : ∀ {h : Heap} {id : Id} {o : HObj}, lkH (h.filter fun e => !ps.contains e.1) id = some o → lkH h id = some o ∧ ps.contains id.1 = false
  | [], _, _, hl => by simp [lkH] at hl
  | (k, e) :: h, id, o, hl => by
    by_cases hk : ps.contains k = true
    · rw [List.filter_cons_of_neg (by simp only [hk]; simp)] at hl
      obtain ⟨h1, h2⟩ := lkH_rest hl
      refine ⟨?_, h2⟩
      simp only [lkH]
      rw [if_neg (fun he => by rw [he] at hk; rw [hk] at h2; cases h2)]
      exact h1
    · have hk' : ps.contains k = false := by simpa using hk
      rw [List.filter_cons_of_pos (by simp only [hk']; rfl)] at hl
      simp only [lkH] at hl ⊢
      by_cases h1 : k = id.1
      · rw [if_pos h1] at hl; rw [if_pos h1]; exact ⟨hl, by rw [← h1]; exact hk'⟩
      · rw [if_neg h1] at hl; rw [if_neg h1]; exact lkH_rest hl
theorem renE_ty {ρ : Nat → Nat} {e : HEnt} {i : Nat} : (renE ρ e).ty i = e.ty i := by
  cases e <;> cases i <;> rfl
theorem tyH_ren {ρ : Nat → Nat} : ∀ {h : Heap}, (∀ k k', k ∈ h.map (·.1) → k' ∈ h.map (·.1) → ρ k = ρ k' → k = k') → ∀ {id' : Id} {t : TypeId}, tyH (renH ρ h) id' = some t → ∃ id, tyH h id = some t ∧ id' = (ρ id.1, id.2)
  | [], _, id', o', hl => by simp [renH, tyH] at hl
  | (k, e) :: h, hinj, id', t, hl => by
    simp only [renH, tyH] at hl
    by_cases h1 : ρ k = id'.1
    · rw [if_pos h1, renE_ty] at hl
      exact ⟨(k, id'.2), by simp only [tyH, if_true]; exact hl, by rw [h1]⟩
    · rw [if_neg h1] at hl
      obtain ⟨id, hlk, hid⟩ := tyH_ren (fun a b ha hb => hinj a b (by simp only [List.map_cons, List.mem_cons]; exact .inr ha) (by simp only [List.map_cons, List.mem_cons]; exact .inr hb)) hl
      refine ⟨id, ?_, hid⟩
      simp only [tyH]
      rw [if_neg (fun e => h1 (by rw [hid]; exact congrArg ρ e))]
      exact hlk
theorem tyH_append {h g : Heap} {id : Id} {t : TypeId} (hl : tyH (h ++ g) id = some t) : tyH h id = some t ∨ tyH g id = some t := by
  induction h with
  | nil => exact .inr hl
  | cons e h ih =>
    obtain ⟨k, e⟩ := e
    simp only [List.cons_append, tyH] at hl ⊢
    by_cases h1 : k = id.1
    · rw [if_pos h1] at hl; rw [if_pos h1]; exact .inl hl
    · rw [if_neg h1] at hl; rw [if_neg h1]; exact ih hl
theorem tyH_rest {ps : List Nat} : ∀ {h : Heap} {id : Id} {t : TypeId}, tyH (h.filter fun e => !ps.contains e.1) id = some t → tyH h id = some t ∧ ps.contains id.1 = false
  | [], _, _, hl => by simp [tyH] at hl
  | (k, e) :: h, id, o, hl => by
    by_cases hk : ps.contains k = true
    · rw [List.filter_cons_of_neg (by simp only [hk]; simp)] at hl
      obtain ⟨h1, h2⟩ := tyH_rest hl
      refine ⟨?_, h2⟩
      simp only [tyH]
      rw [if_neg (fun he => by rw [he] at hk; rw [hk] at h2; cases h2)]
      exact h1
    · have hk' : ps.contains k = false := by simpa using hk
      rw [List.filter_cons_of_pos (by simp only [hk']; rfl)] at hl
      simp only [tyH] at hl ⊢
      by_cases h1 : k = id.1
      · rw [if_pos h1] at hl; rw [if_pos h1]; exact ⟨hl, by rw [← h1]; exact hk'⟩
      · rw [if_neg h1] at hl; rw [if_neg h1]; exact tyH_rest hl
def outId (ps : List Nat) (nx k : Nat) : Nat := if k < ps.length then ps.getD k 0 else nx + (k - ps.length)
def inId (ps : List Nat) (k : Nat) : Nat := ps.getD k 0
def argsLeS (h : Heap) (σ : Id → Id) (fz : Nat → Bool) (nin : Nat) : List AVal → List AVal → Prop
  | [], [] => True
  | a :: r, v :: r' => VLe h σ fz (fun _ => false) nin a v ∧ argsLeS h σ fz nin r r'
  | _, _ => False
theorem argsLeS_rel {h : Heap} {σ : Id → Id} {fz : Nat → Bool} {nin : Nat} {c c2 : Cx} (hc : VCx h σ fz (fun _ => false) nin c c2) : ∀ (as vs : List AVal) (xs : List Value), argsLeS h σ fz nin as vs → ArgsRel c vs xs → ArgsRel c2 as xs
  | [], [], [], _, _ => trivial
  | a :: as, v :: vs, x :: xs, hl, hr => ⟨VLe.rel hc _ _ _ hl.1 hr.1, argsLeS_rel hc as vs xs hl.2 hr.2⟩
  | [], [], _ :: _, _, hr => hr.elim
  | [], _ :: _, _, hl, _ => hl.elim
  | _ :: _, [], _, hl, _ => hl.elim
  | _ :: _, _ :: _, [], _, hr => hr.elim
theorem getD_inj {ps : List Nat} (hnd : ps.Nodup) {i j : Nat} (hi : i < ps.length) (hj : j < ps.length) (h : ps.getD i 0 = ps.getD j 0) : i = j := by
  have h1 : ps[i] = ps[j] := by simpa [List.getD, hi, hj] using h
  rcases Nat.lt_trichotomy i j with h2 | h2 | h2
  · exact absurd h1 (List.pairwise_iff_getElem.1 hnd i j hi hj h2)
  · exact h2
  · exact absurd h1.symm (List.pairwise_iff_getElem.1 hnd j i hj hi h2)
theorem getD_in {ps : List Nat} {i : Nat} (hi : i < ps.length) : ps.contains (ps.getD i 0) = true := by
  have : ps.getD i 0 ∈ ps := getD_mem hi
  simpa using this
variable {G : Gh}
theorem fc_core {h : Heap} {nx : Nat} {C : List Value → World → (Ending → World → Prop) → Prop} (hmono : ∀ {vals w} {R R' : Ending → World → Prop}, C vals w R → (∀ e w', R e w' → R' e w') → C vals w R') (ps : List Nat) (hnd : ps.Nodup) (hlt : ∀ k ∈ ps, k < nx)
    {as : List AVal} {hin : Heap} {α : Type} {I : α → Prop} {r : α → AVal} {hout : α → Heap} {nout : α → Nat} (hc : FCc C as hin ps.length I r hout nout) (fz : Nat → Bool) (hflat : (∀ k, fz k = false) ∨ ∀ x, I x → flat (r x) ∧ flatH (hout x))
    {avs : List AVal} {vals : List Value} (hle : argsLeS h (sI (inId ps)) fz ps.length as avs) (hheap : heapLe h (sI (inId ps)) fz (fun _ => false) ps.length hin)
    {mu : Id → Option Base} {w : World} (hk : HOk G h mu nx w) (hvals : ArgsRel (cx G h mu nx w) avs vals) {K : Value → World → Prop}
    (hgo : ∀ x, I x → ps.length ≤ nout x → ∀ v mu' w', HOk G (renH (outId ps nx) (hout x) ++ h.filter fun e => !ps.contains e.1) mu' (nx + (nout x - ps.length)) w' →
      (cx G h mu nx w).Le (cx G (renH (outId ps nx) (hout x) ++ h.filter fun e => !ps.contains e.1) mu' (nx + (nout x - ps.length)) w') →
      Rel (cx G (renH (outId ps nx) (hout x) ++ h.filter fun e => !ps.contains e.1) mu' (nx + (nout x - ps.length)) w') (ren (outId ps nx) (r x)) v → (∀ b, b < w.heap.size → (∀ k ∈ ps, ∀ i B, (lkH h (k, i)).isSome = true → mu (k, i) = some B → b ≠ B.b) → w'.heap[b]? = w.heap[b]?) → ((∀ b, b < w.heap.size → ¬ inB h mu b → w'.heap[b]? = w.heap[b]?) ∧ ∀ id o B, lkH (renH (outId ps nx) (hout x) ++ h.filter fun e => !ps.contains e.1) id = some o → mu' id = some B → w.heap.size ≤ B.b ∨ inB h mu B.b) → K v w') :
    C vals w (fun e w' => ∃ v, e = .returned v ∧ K v w') := by
  -- the callee's side
  let mu2 : Id → Option Base := fun id => mu (inId ps id.1, id.2)
  let O2 : Nat → Prop := fun b => Fb G.O h mu b ∧ (¬ ∃ id o B, fz id.1 = true ∧ lkH h id = some o ∧ mu id = some B ∧ B.b = b) ∧ ¬ inB hin mu2 b
  let G2 : Gh := ⟨w, inB hin mu2, O2, 0, none⟩
  have hsome : ∀ id o2, lkH hin id = some o2 → ∃ o, id.1 < ps.length ∧ lkH h (inId ps id.1, id.2) = some o ∧ HLe h (sI (inId ps)) fz (fun _ => false) ps.length o2 (some o) ∧ fz (inId ps id.1) = false := fun id o2 hl => by
    obtain ⟨h0, _, h3⟩ := heapLe_lk hheap id o2 hl
    rcases h3 with ⟨h3, _⟩ | ⟨_, h4, h5⟩
    · cases h3
    · replace h5 : HLe h (sI (inId ps)) fz (fun _ => false) ps.length o2 (lkH h (inId ps id.1, id.2)) := h5
      cases ho : lkH h (inId ps id.1, id.2) with
      | none => rw [ho] at h5; cases o2 <;> exact h5.elim
      | some o => rw [ho] at h5; exact ⟨o, h0, rfl, h5, h4⟩
  have hinC : ∀ b, inB hin mu2 b → ∃ id o B, lkH h id = some o ∧ mu id = some B ∧ B.b = b ∧ ps.contains id.1 = true ∧ fz id.1 = false := by
    rintro b ⟨id, o2, B, hl, hm, hb⟩
    obtain ⟨o, h0, h1, _, h3⟩ := hsome id o2 hl
    exact ⟨(inId ps id.1, id.2), o, B, h1, hm, hb, getD_in h0, h3⟩
  have hcx : VCx h (sI (inId ps)) fz (fun _ => false) ps.length (cx G h mu nx w) (cx G2 hin mu2 ps.length w) := by
    refine ⟨rfl, Nat.le_refl _, fun b hF hF2 => hF ?_, fun id _ _ => rfl, fun id n s f hfz hl => ⟨(hk.obj id _ hl).2, fun B hB => ⟨fun hF => ?_, (hk.own id _ B hl hB).1⟩⟩⟩
    · rcases hF2 with hO | hI
      · exact hO.1
      · obtain ⟨id, o, B, h1, h2, h3, _⟩ := hinC b hI
        exact .inr ⟨id, o, B, h1, h2, h3⟩
    · rcases hF with hO | hI
      · exact hO.2.1 ⟨id, _, B, hfz, hl, hB, rfl⟩
      · obtain ⟨id', o', B', h1, h2, h3, _, h4⟩ := hinC B.b hI
        have := hk.sep _ _ _ _ B' B h1 hl h2 hB h3
        rw [this, hfz] at h4
        cases h4
  have hok2 : HOk G2 hin mu2 ps.length w := by
    refine ⟨fun id o2 hl => ?_, fun id id' o o' B B' hl hl' hm hm' hb => ?_, fun id o B hl hm => ?_, Kept.refl _ _, fun b hb => hk.bound b hb.1, fun id t B ht hm => hk.typ _ t B (heapLe_ty hheap id t ht rfl) hm⟩
    · obtain ⟨o, h0, h1, hle2, _⟩ := hsome id o2 hl
      refine ⟨h0, ?_⟩
      have hr := (hk.obj _ _ h1).2
      cases o2 with
      | arr n2 s2 f2 =>
        cases o with
        | mp l => exact hle2.elim
        | ob p => exact hle2.elim
        | mi q l => exact hle2.elim
        | arr n s f =>
          obtain ⟨hn2, rfl, hp⟩ := hle2
          show HRel _ (mu (inId ps id.1, id.2)) _
          cases hm : mu (inId ps id.1, id.2) with
          | none => rw [hm] at hr; simp only [HRel] at hr ⊢; omega
          | some B =>
            rw [hm] at hr
            obtain ⟨hss, cs, T, hh, hsz, hfit, hcc⟩ := hr
            refine ⟨hss, cs, T, hh, hsz, ?_, fun i hi j hj => ?_⟩
            · have := Nat.mul_le_mul_right s2 hn2
              omega
            · obtain ⟨_, y, hy, hyr⟩ := hcc i (by omega) j hj
              exact ⟨(hp i hi j hj).1, y, hy, VLe.rel hcx _ _ _ (hp i hi j hj).2 hyr⟩
      | mp l2 =>
        cases o with
        | arr n s f => exact hle2.elim
        | ob p => exact hle2.elim
        | mp l =>
          obtain ⟨hlen, hp⟩ := hle2
          show HRel _ (mu (inId ps id.1, id.2)) _
          cases hm : mu (inId ps id.1, id.2) with
          | none => rw [hm] at hr; exact hr.elim
          | some B =>
            rw [hm] at hr
            obtain ⟨es, clock, hh, hsz, hcc, hbn⟩ := hr
            refine ⟨es, clock, hh, by omega, fun i hi e he => ?_, hbn⟩
            have h2 := hcc i (by omega) e he
            exact ⟨VLe.rel hcx _ _ _ (hp i hi (by omega)).1 h2.1, VLe.rel hcx _ _ _ (hp i hi (by omega)).2 h2.2⟩
        | mi q l =>
          obtain ⟨hlen, hp⟩ := hle2
          show HRel _ (mu (inId ps id.1, id.2)) _
          cases hm : mu (inId ps id.1, id.2) with
          | none => rw [hm] at hr; exact hr.elim
          | some B =>
            rw [hm] at hr
            obtain ⟨es, clock, hh, hsz, hcc, hbn⟩ := hr
            refine ⟨es, clock, hh, by omega, fun i hi e he => ?_, hbn.1⟩
            have h2 := hcc i (by omega) e he
            exact ⟨VLe.rel hcx _ _ _ (hp i hi (by omega)).1 h2.1, VLe.rel hcx _ _ _ (hp i hi (by omega)).2 h2.2⟩
      | mi q2 l2 =>
        cases o with
        | arr n s f => exact hle2.elim
        | ob p => exact hle2.elim
        | mp l => exact hle2.elim
        | mi q l =>
          obtain ⟨rfl, hlen, hp⟩ := hle2
          show HRel _ (mu (inId ps id.1, id.2)) _
          cases hm : mu (inId ps id.1, id.2) with
          | none => rw [hm] at hr; exact hr.elim
          | some B =>
            rw [hm] at hr
            obtain ⟨es, clock, hh, hsz, hcc, hbn⟩ := hr
            refine ⟨es, clock, hh, by omega, fun i hi e he => ?_, hbn⟩
            have h2 := hcc i (by omega) e he
            exact ⟨VLe.rel hcx _ _ _ (hp i hi (by omega)).1 h2.1, VLe.rel hcx _ _ _ (hp i hi (by omega)).2 h2.2⟩
      | ob p2 =>
        cases o with
        | arr n s f => exact hle2.elim
        | mp l => exact hle2.elim
        | mi q l => exact hle2.elim
        | ob p =>
          show HRel _ (mu (inId ps id.1, id.2)) _
          cases hm : mu (inId ps id.1, id.2) with
          | none => rw [hm] at hr; exact hr.elim
          | some B =>
            rw [hm] at hr
            obtain ⟨x, hh, hx, hpx⟩ := hr
            exact ⟨x, hh, hx, hle2 _ _ hpx⟩
    · obtain ⟨p, h0, h1, _⟩ := hsome id o hl
      obtain ⟨p', h0', h1', _⟩ := hsome id' o' hl'
      have := hk.sep _ _ _ _ B B' h1 h1' hm hm' hb
      rw [Prod.ext_iff] at this
      exact Prod.ext (getD_inj hnd h0 h0' this.1) this.2
    · obtain ⟨p, h0, h1, _⟩ := hsome id o hl
      refine ⟨(hk.own _ _ B h1 hm).1, .inr ⟨id, o, B, hl, hm, rfl⟩, fun hO => hO.2.2 ⟨id, o, B, hl, hm, rfl⟩⟩
  have hargs := argsLeS_rel hcx _ _ _ hle hvals
  have hcall := hc O2 w mu2 _ hok2 hargs
  refine hmono hcall ?_
  rintro e w' ⟨v, z, mu', rfl, hI, hno, hagree, hok3, hrel⟩
  have hkept := hok3.kept
  have hsize : w.heap.size ≤ w'.heap.size := hkept.size
  let mu3 : Id → Option Base := fun id => if id.1 < nx then mu id else mu' (id.1 - nx + ps.length, id.2)
  have hmu3 : ∀ id : Id, id.1 < nout z → outId ps nx id.1 < nx + (nout z - ps.length) ∧ mu3 (outId ps nx id.1, id.2) = mu' id := by
    intro id hid
    unfold outId
    by_cases h1 : id.1 < ps.length
    · rw [if_pos h1]
      have hin' : ps.getD id.1 0 < nx := hlt _ (getD_mem h1)
      refine ⟨by omega, ?_⟩
      show (if ps.getD id.1 0 < nx then mu (ps.getD id.1 0, id.2) else _) = _
      rw [if_pos hin']
      exact (hagree id h1).symm
    · rw [if_neg h1]
      refine ⟨by omega, ?_⟩
      show (if nx + (id.1 - ps.length) < nx then _ else mu' (nx + (id.1 - ps.length) - nx + ps.length, id.2)) = _
      rw [if_neg (by omega), show nx + (id.1 - ps.length) - nx + ps.length = id.1 by omega]
  have hinj : ∀ k k', k < nout z → k' < nout z → outId ps nx k = outId ps nx k' → k = k' := by
    intro k k' h1 h2 he
    unfold outId at he
    by_cases a1 : k < ps.length
    · by_cases a2 : k' < ps.length
      · rw [if_pos a1, if_pos a2] at he
        exact getD_inj hnd a1 a2 he
      · rw [if_pos a1, if_neg a2] at he
        have := hlt _ (getD_mem (d := 0) a1)
        omega
    · by_cases a2 : k' < ps.length
      · rw [if_neg a1, if_pos a2] at he
        have := hlt _ (getD_mem (d := 0) a2)
        omega
      · rw [if_neg a1, if_neg a2] at he
        omega
  have hkeys : ∀ k, k ∈ (hout z).map (·.1) → k < nout z := fun k hkk => by
    obtain ⟨o', ho'⟩ := lkH_key hkk
    exact (hok3.obj _ _ ho').1
  -- what lies at the caller afterwards
  have hnew : ∀ id' o', lkH (renH (outId ps nx) (hout z) ++ h.filter fun e => !ps.contains e.1) id' = some o' →
      (∃ id o, lkH (hout z) id = some o ∧ o' = renO (outId ps nx) o ∧ id' = (outId ps nx id.1, id.2) ∧ mu3 id' = mu' id ∧ id'.1 < nx + (nout z - ps.length)) ∨
      (lkH h id' = some o' ∧ ps.contains id'.1 = false ∧ mu3 id' = mu id' ∧ id'.1 < nx) := fun id' o' hl => by
    rcases lkH_append hl with hl | hl
    · obtain ⟨id, o, h1, h2, h3⟩ := lkH_ren (fun k k' a b => hinj k k' (hkeys k a) (hkeys k' b)) hl
      have hid := (hok3.obj _ _ h1).1
      refine .inl ⟨id, o, h1, h2, h3, ?_, ?_⟩
      · rw [h3]; exact (hmu3 id hid).2
      · rw [h3]; exact (hmu3 id hid).1
    · obtain ⟨h1, h2⟩ := lkH_rest hl
      have hid := (hk.obj _ _ h1).1
      refine .inr ⟨h1, h2, ?_, hid⟩
      show (if id'.1 < nx then mu id' else _) = _
      rw [if_pos hid]
  have hnotin : ∀ id o B, lkH h id = some o → mu id = some B → ps.contains id.1 = false → ¬ inB hin mu2 B.b := fun id o B hl hm hp hI => by
    obtain ⟨id', o', B', h1, h2, h3, h4, _⟩ := hinC B.b hI
    have := hk.sep _ _ _ _ B' B h1 hl h2 hm h3
    rw [this, hp] at h4
    cases h4
  have hFcal : ∀ b, b < w.heap.size → Fb G.O (renH (outId ps nx) (hout z) ++ h.filter fun e => !ps.contains e.1) mu3 b → Fb G.O h mu b := by
    rintro b hb (hO | ⟨id', o', B, hl, hm, rfl⟩)
    · exact .inl hO
    · rcases hnew id' o' hl with ⟨id, o, h1, _, _, h4, _⟩ | ⟨h1, _, h3, _⟩
      · rw [h4] at hm
        rcases (hok3.own id o B h1 hm).2.1 with h5 | h5
        · exact absurd hb (Nat.not_lt.2 h5)
        · obtain ⟨id2, o2, B2, k1, k2, k3, _⟩ := hinC B.b h5
          exact .inr ⟨id2, o2, B2, k1, k2, k3⟩
      · rw [h3] at hm
        exact .inr ⟨id', o', B, h1, hm, rfl⟩
  have hblock : ∀ b, b < w.heap.size → ¬ inB hin mu2 b → w'.heap[b]? = w.heap[b]? := fun b hb hni => hkept.block b hb hni
  have hLe : (cx G h mu nx w).Le (cx G (renH (outId ps nx) (hout z) ++ h.filter fun e => !ps.contains e.1) mu3 (nx + (nout z - ps.length)) w') := by
    refine ⟨hsize, fun b hb hF hF' => hF (hFcal b hb hF'), fun b off hb hF => ?_, Nat.le_add_right _ _, fun id hid => ?_, fun D hD => ?_⟩
    · refine World.cell?_of_block (hblock b hb fun hI => hF ?_)
      obtain ⟨id, o, B, h1, h2, h3, _⟩ := hinC b hI
      exact .inr ⟨id, o, B, h1, h2, h3⟩
    · have hid' : id.1 < nx := hid
      show (if id.1 < nx then mu id else _) = mu id
      rw [if_pos hid']
    · refine (hblock D (lt_of_get hD) fun hI => ?_).trans hD
      obtain ⟨id, o, B, h1, h2, h3, _⟩ := hinC D hI
      exact hk.ndfr h1 h2 hD h3.symm
  -- how values come over
  have hFout : (∀ k, fz k = false) → ∀ b, ¬ Fb O2 (hout z) mu' b → ¬ Fb G.O (renH (outId ps nx) (hout z) ++ h.filter fun e => !ps.contains e.1) mu3 b := by
    rintro hnf b hF (hO | ⟨id', o', B, hl, hm, rfl⟩)
    · refine hF (.inl ⟨.inl hO, ?_, ?_⟩)
      · rintro ⟨id, o, B, hfz, _⟩
        rw [hnf] at hfz; cases hfz
      · intro hI
        obtain ⟨id, o, B, h1, h2, h3, _⟩ := hinC b hI
        exact (hk.own id o B h1 h2).2.2 (h3 ▸ hO)
    · rcases hnew id' o' hl with ⟨id, o, h1, _, _, h4, _⟩ | ⟨h1, h2, h3, _⟩
      · rw [h4] at hm
        exact hF (.inr ⟨id, o, B, h1, hm, rfl⟩)
      · rw [h3] at hm
        refine hF (.inl ⟨.inr ⟨id', o', B, h1, hm, rfl⟩, ?_, hnotin id' o' B h1 hm h2⟩)
        rintro ⟨id, o, B, hfz, _⟩
        rw [hnf] at hfz; cases hfz
  have hcond : ∀ v', (∀ z, I z → flat (r z) ∧ flatH (hout z) → flat v') → (∀ b, ¬ Fb O2 (hout z) mu' b → ¬ Fb G.O (renH (outId ps nx) (hout z) ++ h.filter fun e => !ps.contains e.1) mu3 b) ∨ flat v' := fun v' hv' => by
    rcases hflat with h0 | h0
    · exact .inl (hFout h0)
    · exact .inr (hv' z hI (h0 z hI))
  have hrelv : Rel (cx G (renH (outId ps nx) (hout z) ++ h.filter fun e => !ps.contains e.1) mu3 (nx + (nout z - ps.length)) w') (ren (outId ps nx) (r z)) v := by
    refine rel_ren (F1 := Fb O2 (hout z) mu') (mu1 := mu') (n1 := nout z) hmu3 _ _ ?_ hrel
    rcases hflat with h0 | h0
    · exact .inl (hFout h0)
    · exact .inr (h0 z hI).1
  have hok4 : HOk G (renH (outId ps nx) (hout z) ++ h.filter fun e => !ps.contains e.1) mu3 (nx + (nout z - ps.length)) w' := by
    refine ⟨fun id' o' hl => ?_, fun id1 id2 o1 o2 B1 B2 hl1 hl2 hm1 hm2 hb => ?_, fun id' o' B hl hm => ?_, ?_, hk.out, fun id' t B ht hm => ?_⟩
    · rcases hnew id' o' hl with ⟨id, o, h1, h2, h3, h4, h5⟩ | ⟨h1, h2, h3, h4⟩
      · refine ⟨h5, ?_⟩
        rw [h4, h2]
        refine hrel_ren (F1 := Fb O2 (hout z) mu') (mu1 := mu') (n1 := nout z) hmu3 ?_ (hok3.obj id o h1).2
        rcases hflat with h0 | h0
        · exact .inl (hFout h0)
        · exact .inr (flatH_lk (h0 z hI).2 h1)
      · refine ⟨Nat.lt_of_lt_of_le h4 (Nat.le_add_right _ _), ?_⟩
        rw [h3]
        refine (hk.obj id' o' h1).2.mono hLe fun B hB => ?_
        exact hblock B.b (hk.own id' o' B h1 hB).1 (hnotin id' o' B h1 hB h2)
    · have mixed : ∀ id1 id2 o1 o2 B1 B2, (∃ id o, lkH (hout z) id = some o ∧ o1 = renO (outId ps nx) o ∧ id1 = (outId ps nx id.1, id.2) ∧ mu3 id1 = mu' id ∧ id1.1 < nx + (nout z - ps.length)) →
          (lkH h id2 = some o2 ∧ ps.contains id2.1 = false ∧ mu3 id2 = mu id2 ∧ id2.1 < nx) → mu3 id1 = some B1 → mu3 id2 = some B2 → B1.b = B2.b → False := by
        rintro id1 id2 o1 o2 B1 B2 ⟨id, o, h1, _, _, h4, _⟩ ⟨g1, g2, g3, _⟩ hm1 hm2 hb
        rw [h4] at hm1
        rw [g3] at hm2
        rcases (hok3.own id o B1 h1 hm1).2.1 with h5 | h5
        · have := (hk.own id2 o2 B2 g1 hm2).1
          rw [hb] at h5
          exact absurd this (Nat.not_lt.2 h5)
        · rw [hb] at h5
          exact hnotin id2 o2 B2 g1 hm2 g2 h5
      rcases hnew id1 o1 hl1 with c1 | c1 <;> rcases hnew id2 o2 hl2 with c2 | c2
      · obtain ⟨id, o, h1, _, h3, h4, _⟩ := c1
        obtain ⟨id', o', g1, _, g3, g4, _⟩ := c2
        rw [h4] at hm1
        rw [g4] at hm2
        have := hok3.sep _ _ _ _ B1 B2 h1 g1 hm1 hm2 hb
        rw [h3, g3, this]
      · exact (mixed id1 id2 o1 o2 B1 B2 c1 c2 hm1 hm2 hb).elim
      · exact (mixed id2 id1 o2 o1 B2 B1 c2 c1 hm2 hm1 hb.symm).elim
      · obtain ⟨h1, _, h3, _⟩ := c1
        obtain ⟨g1, _, g3, _⟩ := c2
        rw [h3] at hm1
        rw [g3] at hm2
        exact hk.sep _ _ _ _ B1 B2 h1 g1 hm1 hm2 hb
    · rcases hnew id' o' hl with ⟨id, o, h1, _, _, h4, _⟩ | ⟨h1, h2, h3, _⟩
      · rw [h4] at hm
        obtain ⟨k1, k2, k3⟩ := hok3.own id o B h1 hm
        rcases k2 with k2 | k2
        · refine ⟨k1, .inl (Nat.le_trans hk.kept.size k2), fun hO => ?_⟩
          have h6 : B.b < G.w0.heap.size := hk.out _ hO
          have h7 : w.heap.size ≤ B.b := k2
          have h8 := hk.kept.size
          omega
        · obtain ⟨id2, o2, B2, g1, g2, g3, _⟩ := hinC B.b k2
          have := hk.own id2 o2 B2 g1 g2
          rw [g3] at this
          exact ⟨k1, this.2⟩
      · rw [h3] at hm
        obtain ⟨k1, k2⟩ := hk.own id' o' B h1 hm
        exact ⟨Nat.lt_of_lt_of_le k1 hsize, k2⟩
    · refine ⟨hkept.os.trans hk.kept.os, hkept.tape.trans hk.kept.tape, hkept.output.trans hk.kept.output, Nat.le_trans hk.kept.drawn hkept.drawn, Nat.le_trans hk.kept.size hsize, fun b hb hm => ?_⟩
      rw [hblock b (Nat.lt_of_lt_of_le hb hk.kept.size) fun hI => ?_]
      · exact hk.kept.block b hb hm
      · obtain ⟨id, o, B, h1, h2, h3, _⟩ := hinC b hI
        have := (hk.own id o B h1 h2).2.1
        rw [h3] at this
        rcases this with h4 | h4
        · exact absurd hb (Nat.not_lt.2 h4)
        · exact hm h4
    · rcases tyH_append ht with ht | ht
      · obtain ⟨id, h1, h2⟩ := tyH_ren (fun k k' a b => hinj k k' (hkeys k a) (hkeys k' b)) ht
        obtain ⟨o, ho⟩ := tyH_lk h1
        have hid := (hok3.obj _ _ ho).1
        rw [h2, (hmu3 id hid).2] at hm
        exact hok3.typ id t B h1 hm
      · obtain ⟨h1, h2⟩ := tyH_rest ht
        obtain ⟨o, ho⟩ := tyH_lk h1
        have hid := (hk.obj _ _ ho).1
        have hm' : mu id' = some B := by
          rw [← hm]
          show _ = (if id'.1 < nx then mu id' else _)
          rw [if_pos hid]
        obtain ⟨cs, hcs, hdv⟩ := hk.typ id' t B h1 hm'
        exact ⟨cs, (hblock B.b (hk.own id' o B ho hm').1 (hnotin id' o B ho hm' h2)).trans hcs, hdv⟩
  refine ⟨v, rfl, hgo z hI hno v mu3 w' hok4 hLe hrelv (fun b hb hne => ?_) ⟨fun b hb hni => hblock b hb fun hI => hni ?_, fun id' o' B hl hm => ?_⟩⟩
  rotate_left
  · obtain ⟨id, o, B, h1, h2, h3, _⟩ := hinC b hI
    exact ⟨id, o, B, h1, h2, h3⟩
  · rcases hnew id' o' hl with ⟨id, o, h1, _, _, h4, _⟩ | ⟨h1, _, h3, _⟩
    · rw [h4] at hm
      rcases (hok3.own id o B h1 hm).2.1 with h5 | h5
      · exact .inl h5
      · obtain ⟨id2, o2, B2, g1, g2, g3, _⟩ := hinC B.b h5
        exact .inr ⟨id2, o2, B2, g1, g2, g3⟩
    · rw [h3] at hm
      exact .inr ⟨id', o', B, h1, hm, rfl⟩
  refine hblock b hb ?_
  rintro ⟨id, o2, B, hl, hm, hb'⟩
  obtain ⟨o', h0, h1, _⟩ := hsome id o2 hl
  exact hne _ (getD_mem (d := 0) h0) id.2 B (by show (lkH h (inId ps id.1, id.2)).isSome = true; rw [h1]; rfl) hm hb'.symm
theorem fc_ok {ops : Array Oper} {o : Oper} {st : St} {x : Operand} {args : Array Operand} {ts : Array TypeId} (ho : o.op = .call { callee := .value x, args := args, argTypes := ts }) (hg : o.guard = none)
    {f n : Nat} {fc : Nat → AVal} (hx : sv st.env x = .fn f n fc) (hsc : sc st.env x ∧ argsC st.env args.toList) (hf : Callable P f) (ps : List Nat) (hnd : ps.Nodup) (hlt : ∀ k ∈ ps, k < st.nx)
    {as : List AVal} {hin : Heap} {α : Type} {I : α → Prop} {r : α → AVal} {hout : α → Heap} {nout : α → Nat} (hc : FC P f as hin ps.length I r hout nout) (fz : Nat → Bool) (hflat : (∀ k, fz k = false) ∨ ∀ x, I x → flat (r x) ∧ flatH (hout x))
    (hle : argsLeS st.heap (sI (inId ps)) fz ps.length as (callArgs st.env args.toList n fc)) (hheap : heapLe st.heap (sI (inId ps)) fz (fun _ => false) ps.length hin)
    {mu : Id → Option Base} {a : Act} {w : World} (hs : Sim G mu st a w) {Q : Exit → Act → World → Prop} {K : Act → World → Prop}
    (hgo : ∀ x, I x → ps.length ≤ nout x → ∃ s, putSt G.nt st.env (renH (outId ps st.nx) (hout x) ++ st.heap.filter fun e => !ps.contains e.1) (st.nx + (nout x - ps.length)) o.dst (ren (outId ps st.nx) (r x)) = some s ∧
      ∀ (mu' : Id → Option Base) (a' : Act) (w' : World), Sim G mu' s a' w' → (cx G st.heap mu st.nx w).Le (cx G s.heap mu' s.nx w') → (∀ b, b < w.heap.size → (∀ k ∈ ps, ∀ i B, (lkH st.heap (k, i)).isSome = true → mu (k, i) = some B → b ≠ B.b) → w'.heap[b]? = w.heap[b]?) → K a' w') :
    if Region.wanted o (yielded ops a.tmps) then o.wp P a w K Q else K (a.put o.dst undef) w := by
  have hw : Region.wanted o (yielded ops a.tmps) = true := by simp [Region.wanted, hg]
  rw [if_pos hw]
  have hk := hs.heap
  have hxr := strip_rel (hs.rho x) hsc.1
  have hxr' : Rel (cx G st.heap mu st.nx w) (sv st.env x) (a.eval x) := hxr
  rw [hx] at hxr'
  obtain ⟨caps, hxv, hcn, hcr⟩ := hxr'
  unfold Oper.wp
  rw [run_call hf ho hxv]
  simp only [Oper.upon]
  refine Calls.mono (fc_core (C := fun vals w R => Calls P f vals.toArray w R) (fun hc hr => hc.mono hr) ps hnd hlt hc fz hflat hle hheap hk (callArgs_rel (fun y => hs.rho y) hsc.2 hcn hcr) (K := fun v w' => K (a.put o.dst v) w') fun z hI hno v mu3 w' hok4 hLe hrelv hfr _ => ?_) ?_
  · obtain ⟨s, hput, hgo'⟩ := hgo z hI hno
    refine hgo' mu3 _ w' (hs.put hLe hok4 hrelv hput) ?_ hfr
    rw [(putSt_heap hput).1, (putSt_heap hput).2]
    exact hLe
  · rintro e w' ⟨v, rfl, hK⟩
    exact hK
theorem fcb_ok {ops : Array Oper} {o : Oper} {st : St} {x : Operand} {args : Array Operand} {ts : Array TypeId} (ho : o.op = .call { callee := .value x, args := args, argTypes := ts }) (hg : o.guard = none)
    {f : Nat} {vb : AVal} (hx : sv st.env x = .bnd f vb) (hsc : sc st.env x ∧ argsC st.env args.toList) (hf : Callable P f) (ps : List Nat) (hnd : ps.Nodup) (hlt : ∀ k ∈ ps, k < st.nx)
    {as : List AVal} {hin : Heap} {α : Type} {I : α → Prop} {r : α → AVal} {hout : α → Heap} {nout : α → Nat} (hc : FC P f as hin ps.length I r hout nout) (fz : Nat → Bool) (hflat : (∀ k, fz k = false) ∨ ∀ x, I x → flat (r x) ∧ flatH (hout x))
    (hle : argsLeS st.heap (sI (inId ps)) fz ps.length as (vb :: args.toList.map (sv st.env))) (hheap : heapLe st.heap (sI (inId ps)) fz (fun _ => false) ps.length hin)
    {mu : Id → Option Base} {a : Act} {w : World} (hs : Sim G mu st a w) {Q : Exit → Act → World → Prop} {K : Act → World → Prop}
    (hgo : ∀ x, I x → ps.length ≤ nout x → ∃ s, putSt G.nt st.env (renH (outId ps st.nx) (hout x) ++ st.heap.filter fun e => !ps.contains e.1) (st.nx + (nout x - ps.length)) o.dst (ren (outId ps st.nx) (r x)) = some s ∧
      ∀ (mu' : Id → Option Base) (a' : Act) (w' : World), Sim G mu' s a' w' → (cx G st.heap mu st.nx w).Le (cx G s.heap mu' s.nx w') → (∀ b, b < w.heap.size → (∀ k ∈ ps, ∀ i B, (lkH st.heap (k, i)).isSome = true → mu (k, i) = some B → b ≠ B.b) → w'.heap[b]? = w.heap[b]?) → K a' w') :
    if Region.wanted o (yielded ops a.tmps) then o.wp P a w K Q else K (a.put o.dst undef) w := by
  have hw : Region.wanted o (yielded ops a.tmps) = true := by simp [Region.wanted, hg]
  rw [if_pos hw]
  have hk := hs.heap
  have hxr := strip_rel (hs.rho x) hsc.1
  have hxr' : Rel (cx G st.heap mu st.nx w) (sv st.env x) (a.eval x) := hxr
  rw [hx] at hxr'
  obtain ⟨yb, hxv, hyr⟩ := hxr'
  unfold Oper.wp
  rw [run_callB hf ho hxv]
  simp only [Oper.upon]
  refine Calls.mono (fc_core (C := fun vals w R => Calls P f vals.toArray w R) (fun hc hr => hc.mono hr) ps hnd hlt hc fz hflat hle hheap hk (vals := (#[yb] ++ args.map a.eval).toList) (by
    simp only [Array.toList_append, Array.toList_map, List.cons_append, List.nil_append]
    exact ⟨hyr, sv_args (fun y => hs.rho y) _ hsc.2⟩) (K := fun v w' => K (a.put o.dst v) w') fun z hI hno v mu3 w' hok4 hLe hrelv hfr _ => ?_) ?_
  · obtain ⟨s, hput, hgo'⟩ := hgo z hI hno
    refine hgo' mu3 _ w' (hs.put hLe hok4 hrelv hput) ?_ hfr
    rw [(putSt_heap hput).1, (putSt_heap hput).2]
    exact hLe
  · rintro e w' ⟨v, rfl, hK⟩
    exact hK
end
end Go.Lift
namespace Go.Lift
set_option linter.unusedSimpArgs false
set_option linter.unusedVariables false
open Go.RowKit
section
variable {P : Program} {G : Gh} {n0 : Nat} {α : Type} {I : α → Prop} {r : α → AVal} {hout : α → Heap} {nout : α → Nat}
theorem FC_introS {T : Tab} (hT : TabOK P T) {f : FuncId} {fn : Func} {c : Code} {args : List AVal} {hin : Heap} {nin : Nat} (hf : P.funcs[f]? = some fn) (hb : fn.body = some c) (hn : args.length ≤ fn.ntmps)
    (h : ∀ G : Gh, G.nt = fn.ntmps → G.rd = none → AwpS P G nin [c] (fun e st => match e with | .normal => RetF T fn.results.toList nin I r hout nout st | .ret => RetF T fn.results.toList nin I r hout nout st | _ => False) ⟨argEnv 0 args, hin, nin⟩) :
    FC P f args hin nin I r hout nout := by
  refine FC_intro hT hf hb hn fun G hG hR => awp_mono (h G hG hR) fun e s hq => ?_
  cases e <;> exact hq
theorem RetF_of {T : Tab} {res : List ResultVar} {nin : Nat} {st : St} (x : α) (σ : Nat → Nat) (fz vz : Nat → Bool) (hI : I x) (h : goRet (evRes T st res) (fun v => VLe st.heap (sI σ) fz (vI vz) (nout x) (r x) v))
    (hh : heapLe st.heap (sI σ) fz (vI vz) (nout x) (hout x)) (hinj : keyInj σ vz ((hout x).map (·.1)) = true) (hno : nin ≤ nout x) (hid : ∀ k, k < nin → σ k = k ∧ vz k = false) : RetF T res nin I r hout nout st := by
  cases he : evRes T st res with
  | none => rw [he] at h; exact h.elim
  | some p => rw [he] at h; exact ⟨x, p.1, p.2, hI, he, h.1, σ, fz, vz, h.2, hh, hinj, hno, hid⟩
theorem awpL_fc {f : FuncId} (hf : Callable P f) (ps : List Nat) (fz : Nat → Bool) {as : List AVal} {hin : Heap} (hc : FC P f as hin ps.length I r hout nout) {ops l : List Oper} {o : Oper} {Q : St → Prop} {st : St} {x : Operand} {args : Array Operand} {ts : Array TypeId}
    (ho : o.op = .call { callee := .value x, args := args, argTypes := ts }) (hg : o.guard = none) {n : Nat} {fc : Nat → AVal} (hx : sv st.env x = .fn f n fc) (hps : ps.Nodup ∧ ∀ k ∈ ps, k < st.nx)
    (hflat : (∀ k, fz k = false) ∨ ∀ x, I x → flat (r x) ∧ flatH (hout x)) (hsc : sc st.env x ∧ argsC st.env args.toList)
    (hle : argsLeS st.heap (sI (inId ps)) fz ps.length as (callArgs st.env args.toList n fc)) (hheap : heapLe st.heap (sI (inId ps)) fz (fun _ => false) ps.length hin)
    (h : ∀ K : St → Prop, (∀ s, AwpL P G n0 ops l Q s → K s) → ∀ x, I x → ps.length ≤ nout x →
      goPut (putSt G.nt st.env (renH (outId ps st.nx) (hout x) ++ st.heap.filter fun e => !ps.contains e.1) (st.nx + (nout x - ps.length)) o.dst (ren (outId ps st.nx) (r x))) K) : AwpL P G n0 ops (o :: l) Q st := by
  intro mu a w hs hn Q' hQ
  refine wpl_step (by rw [ho]; intro c hc; cases hc) fun K hK => ?_
  refine fc_ok ho hg hx hsc hf ps hps.1 hps.2 hc fz hflat hle hheap hs fun x hI hno => ?_
  obtain ⟨s, hput, hs2⟩ := goPut_spec (h _ (fun _ hs => hs) x hI hno)
  refine ⟨s, hput, fun mu' a' w' hs' hLe _ => hK _ _ (hs2 mu' a' w' hs' ?_ Q' fun mu2 st2 a2 w2 h1 h2 h3 h4 => hQ mu2 st2 a2 w2 h1 h2 ((Stay.of hn hLe).trans h3) h4)⟩
  exact Nat.le_trans hn hLe.nx
theorem awpL_fcb {f : FuncId} (hf : Callable P f) (ps : List Nat) (fz : Nat → Bool) {as : List AVal} {hin : Heap} (hc : FC P f as hin ps.length I r hout nout) {ops l : List Oper} {o : Oper} {Q : St → Prop} {st : St} {x : Operand} {args : Array Operand} {ts : Array TypeId}
    (ho : o.op = .call { callee := .value x, args := args, argTypes := ts }) (hg : o.guard = none) {vb : AVal} (hx : sv st.env x = .bnd f vb) (hps : ps.Nodup ∧ ∀ k ∈ ps, k < st.nx)
    (hflat : (∀ k, fz k = false) ∨ ∀ x, I x → flat (r x) ∧ flatH (hout x)) (hsc : sc st.env x ∧ argsC st.env args.toList)
    (hle : argsLeS st.heap (sI (inId ps)) fz ps.length as (vb :: args.toList.map (sv st.env))) (hheap : heapLe st.heap (sI (inId ps)) fz (fun _ => false) ps.length hin)
    (h : ∀ K : St → Prop, (∀ s, AwpL P G n0 ops l Q s → K s) → ∀ x, I x → ps.length ≤ nout x →
      goPut (putSt G.nt st.env (renH (outId ps st.nx) (hout x) ++ st.heap.filter fun e => !ps.contains e.1) (st.nx + (nout x - ps.length)) o.dst (ren (outId ps st.nx) (r x))) K) : AwpL P G n0 ops (o :: l) Q st := by
  intro mu a w hs hn Q' hQ
  refine wpl_step (by rw [ho]; intro c hc; cases hc) fun K hK => ?_
  refine fcb_ok ho hg hx hsc hf ps hps.1 hps.2 hc fz hflat hle hheap hs fun x hI hno => ?_
  obtain ⟨s, hput, hs2⟩ := goPut_spec (h _ (fun _ hs => hs) x hI hno)
  refine ⟨s, hput, fun mu' a' w' hs' hLe _ => hK _ _ (hs2 mu' a' w' hs' ?_ Q' fun mu2 st2 a2 w2 h1 h2 h3 h4 => hQ mu2 st2 a2 w2 h1 h2 ((Stay.of hn hLe).trans h3) h4)⟩
  exact Nat.le_trans hn hLe.nx
variable {ops : List Oper} {W : List (Nat × Id)} {al : AL} {mu0 : Id → Option Base} {nx0 : Nat} {Q : St → Prop}
theorem awpO_fc {f : FuncId} (hf : Callable P f) (ps : List Nat) (fz : Nat → Bool) {as : List AVal} {hin : Heap} (hc : FC P f as hin ps.length I r hout nout) {fuel : Nat} {done : List Nat} {i : Nat} {o : Oper} {st : St} {x : Operand} {args : Array Operand} {ts : Array TypeId}
    (hi : ops.toArray[i]? = some o) (hal : al.al.contains i = true ∨ ps = []) (ho : o.op = .call { callee := .value x, args := args, argTypes := ts }) (hg : o.guard = none) {n : Nat} {fc : Nat → AVal} (hx : sv st.env x = .fn f n fc) (hps : ps.Nodup ∧ ∀ k ∈ ps, k < st.nx)
    (hflat : (∀ k, fz k = false) ∨ ∀ x, I x → flat (r x) ∧ flatH (hout x)) (hsc : sc st.env x ∧ argsC st.env args.toList)
    (hle : argsLeS st.heap (sI (inId ps)) fz ps.length as (callArgs st.env args.toList n fc)) (hheap : heapLe st.heap (sI (inId ps)) fz (fun _ => false) ps.length hin)
    (h : ∀ K : St → Prop, (∀ s, AwpA P G n0 ops W al mu0 nx0 Q fuel (i :: done) s → K s) → ∀ x, I x → ps.length ≤ nout x →
      goPut (putSt G.nt st.env (renH (outId ps st.nx) (hout x) ++ st.heap.filter fun e => !ps.contains e.1) (st.nx + (nout x - ps.length)) o.dst (ren (outId ps st.nx) (r x))) K) : AwpO P G n0 ops W al mu0 nx0 Q fuel done st i := by
  intro mu a w hs hn hnx hm Q' hp hQ
  refine wpOp_of hi (fc_ok ho hg hx hsc hf ps hps.1 hps.2 hc fz hflat hle hheap hs fun x hI hno => ?_)
  obtain ⟨s, hput, hs2⟩ := goPut_spec (h _ (fun _ hs => hs) x hI hno)
  refine ⟨s, hput, fun mu' a' w' hs' hLe hfr => ?_⟩
  refine ⟨cx G s.heap mu' s.nx w', rfl, ⟨hLe, fun b hb hbs => ?_⟩, ?_⟩
  · rcases hal with hal | hal
    · rw [hb.1] at hal; cases hal
    · subst hal
      exact hfr b hbs fun k hk => absurd hk (by simp)
  · exact hs2 mu' a' w' hs' (Nat.le_trans hn hLe.nx) (Nat.le_trans hnx hLe.nx) (fun id hid => (hLe.mu id (Nat.lt_of_lt_of_le hid hnx)).trans (hm id hid)) Q' hp
      fun mu2 st2 a2 w2 h1 h2 h3 h4 => hQ mu2 st2 a2 w2 h1 h2 ((Stay.of hn hLe).trans h3) h4
theorem awpO_fcr {f : FuncId} (hf : Callable P f) (ps : List Nat) (fz : Nat → Bool) {as : List AVal} {hin : Heap} (hc : FC P f as hin ps.length I r hout nout) {fuel : Nat} {done : List Nat} {i : Nat} {o : Oper} {st : St} {x : Operand} {args : Array Operand} {ts : Array TypeId}
    (hi : ops.toArray[i]? = some o) (hal : al.fr.contains i = true ∧ (∀ x ∈ al.pr, ps.contains x.1 = false) ∧ ∀ x ∈ al.pr, (lkH st.heap x).isSome = true) (ho : o.op = .call { callee := .value x, args := args, argTypes := ts }) (hg : o.guard = none) {n : Nat} {fc : Nat → AVal} (hx : sv st.env x = .fn f n fc) (hps : ps.Nodup ∧ ∀ k ∈ ps, k < st.nx)
    (hflat : (∀ k, fz k = false) ∨ ∀ x, I x → flat (r x) ∧ flatH (hout x)) (hsc : sc st.env x ∧ argsC st.env args.toList)
    (hle : argsLeS st.heap (sI (inId ps)) fz ps.length as (callArgs st.env args.toList n fc)) (hheap : heapLe st.heap (sI (inId ps)) fz (fun _ => false) ps.length hin)
    (h : ∀ K : St → Prop, (∀ s, AwpA P G n0 ops W al mu0 nx0 Q fuel (i :: done) s → K s) → ∀ x, I x → ps.length ≤ nout x →
      goPut (putSt G.nt st.env (renH (outId ps st.nx) (hout x) ++ st.heap.filter fun e => !ps.contains e.1) (st.nx + (nout x - ps.length)) o.dst (ren (outId ps st.nx) (r x))) K) : AwpO P G n0 ops W al mu0 nx0 Q fuel done st i := by
  intro mu a w hs hn hnx hm Q' hp hQ
  refine wpOp_of hi (fc_ok ho hg hx hsc hf ps hps.1 hps.2 hc fz hflat hle hheap hs fun x hI hno => ?_)
  obtain ⟨s, hput, hs2⟩ := goPut_spec (h _ (fun _ hs => hs) x hI hno)
  refine ⟨s, hput, fun mu' a' w' hs' hLe hfr => ?_⟩
  refine ⟨cx G s.heap mu' s.nx w', rfl, ⟨hLe, fun b hb hbs => ?_⟩, ?_⟩
  · obtain ⟨x, hx1, hx2, B1, hB1, rfl⟩ := hb.2.1 hal.1
    refine hfr B1.b hbs fun k hk q B hl hB heq => ?_
    obtain ⟨o1, ho1⟩ := Option.isSome_iff_exists.1 (hal.2.2 x hx1)
    obtain ⟨o2, ho2⟩ := Option.isSome_iff_exists.1 hl
    have e := hs.heap.sep x (k, q) o1 o2 B1 B ho1 ho2 ((hm x hx2).trans hB1) hB heq
    have hc := hal.2.1 x hx1
    rw [e] at hc
    simp only [List.contains_eq_mem, decide_eq_false_iff_not] at hc
    exact hc hk
  · exact hs2 mu' a' w' hs' (Nat.le_trans hn hLe.nx) (Nat.le_trans hnx hLe.nx) (fun id hid => (hLe.mu id (Nat.lt_of_lt_of_le hid hnx)).trans (hm id hid)) Q' hp
      fun mu2 st2 a2 w2 h1 h2 h3 h4 => hQ mu2 st2 a2 w2 h1 h2 ((Stay.of hn hLe).trans h3) h4
end
section
variable {P : Program} {G : Gh} {n0 : Nat}
theorem awpS_condU {t : Tmp} {x y : Code} {cs : List Code} {Q : Exit → St → Prop} {st : St} {p : Prop} (hb : lk st.env t = .ub p) (h1 : p → AwpS P G n0 (x :: cs) Q st) (h2 : AwpS P G n0 (y :: cs) Q st) : AwpS P G n0 (.cond (.tmp t) x y :: cs) Q st := by
  intro mu a w hs hn Q' hQ
  have hr := hs.env t
  rw [hb] at hr
  obtain ⟨b, hb', hp⟩ := hr
  exact wpIn_cond_split (a := a) (c := .tmp t) (t := b) hb' (fun h => h1 (hp h) mu a w hs hn Q' hQ) (fun _ => h2 mu a w hs hn Q' hQ)
end
@[simp] theorem strip_ub {p : Prop} : strip (.ub p) = (.ub p, True) := rfl
attribute [simp] ren renO renE renH argsLeS outId inId flatH flatO
@[simp] theorem ren_vec {α : Type} {ρ : Nat → Nat} {s : Nat} {f : α → Nat → AVal} {d : α} {l : List α} (h : ∀ x j, ren ρ (f x j) = f x j) : ren ρ (vec s f d l) = vec s f d l := by
  show AVal.vsl _ _ _ = _
  have : (fun i j => ren ρ (vecF f d l i j)) = vecF f d l := by
    funext i j
    exact h _ _
  unfold vec
  rw [this]
@[simp] theorem ren_ints {ρ : Nat → Nat} {l : List Int} : ren ρ (ints l) = ints l := ren_vec fun _ _ => rfl
abbrev FC1 (P : Program) (f : FuncId) (args : List AVal) (hin : Heap) (nin : Nat) (r : AVal) (hout : Heap) (nout : Nat) : Prop := FC P f args hin nin (fun _ : Unit => True) (fun _ => r) (fun _ => hout) (fun _ => nout)
end Go.Lift
namespace Go.Lift
set_option linter.unusedSimpArgs false
set_option linter.unusedVariables false
open Go.RowKit
def yieldC (P : Program) (l : Nat) (rec : Loop) (vs : Array Value) (all : List Value) (w : World) (R : Ending → World → Prop) : Prop :=
  ∀ vals : List Value, all = vals ++ vs.toList → w.heap[l]? = some (.loop rec) →
    RoundIn (fen none) 0 P l rec.fn ((rec.params.zip vals.toArray).foldl (fun tmps (t, a) => tmps.setIfInBounds t a) rec.tmps) rec.assign rec.body w R
def iterC (P : Program) (f : FuncId) (l : Nat) (rec : Loop) (all : List Value) (w : World) (R : Ending → World → Prop) : Prop :=
  w.heap[l]? = some (.loop rec) → Calls P f all.toArray w R
def YC (P : Program) (l : Nat) (rec : Loop) (vs : Array Value) (args : List AVal) (hin : Heap) (nin : Nat) {α : Type} (I : α → Prop) (r : α → AVal) (hout : α → Heap) (nout : α → Nat) : Prop :=
  FCc (yieldC P l rec vs) args hin nin I r hout nout
def FCY (P : Program) (f : FuncId) (l : Nat) (rec : Loop) (args : List AVal) (hin : Heap) (nin : Nat) {α : Type} (I : α → Prop) (r : α → AVal) (hout : α → Heap) (nout : α → Nat) : Prop :=
  FCc (iterC P f l rec) args hin nin I r hout nout
theorem RoundIn.mono {F : Fence} {n : Nat} {P : Program} {l : Nat} {f : FuncId} {tmps : Array Value} {assign body : Code} {w : World} {R R' : Ending → World → Prop} (h : RoundIn F n P l f tmps assign body w R) (hr : ∀ e w', R e w' → R' e w') :
    RoundIn F n P l f tmps assign body w R' :=
  ⟨h.1, fun c cs hroom => let ⟨e, w', hR, hc⟩ := h.2 c cs hroom; ⟨e, w', hr _ _ hR, hc⟩⟩
theorem yieldC_mono {P : Program} {l : Nat} {rec : Loop} {vs : Array Value} {all : List Value} {w : World} {R R' : Ending → World → Prop} (h : yieldC P l rec vs all w R) (hr : ∀ e w', R e w' → R' e w') : yieldC P l rec vs all w R' :=
  fun vals h1 h2 => (h vals h1 h2).mono hr
theorem iterC_mono {P : Program} {f : FuncId} {l : Nat} {rec : Loop} {all : List Value} {w : World} {R R' : Ending → World → Prop} (h : iterC P f l rec all w R) (hr : ∀ e w', R e w' → R' e w') : iterC P f l rec all w R' :=
  fun h1 => (h h1).mono hr
section
variable {P : Program} {G : Gh} {n0 : Nat} {α : Type} {I : α → Prop} {r : α → AVal} {hout : α → Heap} {nout : α → Nat}
def nobO : HObj → Prop
  | .ob _ => False
  | _ => True
def nobH : Heap → Prop
  | [] => True
  | (_, .one o) :: h => nobO o ∧ nobH h
  | (_, .typ _ o) :: h => nobO o ∧ nobH h
  | (_, .fam o r) :: h => nobO o ∧ (∀ i o', r i = some o' → nobO o') ∧ nobH h
theorem nobH_lk : ∀ {h : Heap} {id : Id} {o : HObj}, nobH h → lkH h id = some o → nobO o
  | [], _, _, _, hl => by simp [lkH] at hl
  | (k, e) :: h, id, o, hf, hl => by
    simp only [lkH] at hl
    by_cases hk : k = id.1
    · rw [if_pos hk] at hl
      cases e with
      | one p =>
        cases hi : id.2 with
        | zero => simp only [hi, HEnt.get, Option.some.injEq] at hl; subst hl; exact hf.1
        | succ i => simp [hi, HEnt.get] at hl
      | typ t p =>
        cases hi : id.2 with
        | zero => simp only [hi, HEnt.get, Option.some.injEq] at hl; subst hl; exact hf.1
        | succ i => simp [hi, HEnt.get] at hl
      | fam p r =>
        cases hi : id.2 with
        | zero => simp only [hi, HEnt.get, Option.some.injEq] at hl; subst hl; exact hf.1
        | succ i => simp only [hi, HEnt.get] at hl; exact hf.2.1 i o hl
    · rw [if_neg hk] at hl
      refine nobH_lk ?_ hl
      cases e with
      | one p => exact hf.2
      | typ t p => exact hf.2
      | fam p r => exact hf.2.2
theorem not_inB {G : Gh} {h : Heap} {mu : Id → Option Base} {nx : Nat} {w : World} (hn : nobH h) (hk : HOk G h mu nx w) {l : Nat} {rec : Loop} (hl : w.heap[l]? = some (.loop rec)) : ¬ inB h mu l := by
  rintro ⟨id, o, B, h1, h2, rfl⟩
  have h0 := nobH_lk hn h1
  have := (hk.obj id o h1).2
  rw [h2] at this
  cases o with
  | arr n s f =>
    obtain ⟨_, cs, T, hh, _⟩ := this
    have hh' : w.heap[B.b]? = _ := hh
    rw [hl] at hh'; cases hh'
  | mp l =>
    obtain ⟨es, cl, hh, _⟩ := this
    have hh' : w.heap[B.b]? = _ := hh
    rw [hl] at hh'; cases hh'
  | mi q l =>
    obtain ⟨es, cl, hh, _⟩ := this
    have hh' : w.heap[B.b]? = _ := hh
    rw [hl] at hh'; cases hh'
  | ob p => exact h0
theorem run_callYield {l : Nat} {rec : Loop} {w : World} {o : Oper} {ρ : Operand → Value} {x : Operand} {args : Array Operand} {ts : Array TypeId} (ho : o.op = .call { callee := .value x, args := args, argTypes := ts })
    (hx : ρ x = .func (.yield l) #[] #[]) (hl : w.heap[l]? = some (.loop rec)) (hs : args.size = rec.params.size) :
    (execOp ρ o).run P w = .ok (.round l rec.fn ((rec.params.zip (args.map ρ)).foldl (fun tmps (t, a) => tmps.setIfInBounds t a) rec.tmps) rec.assign rec.body) w := by
  have h1 := run_yield (P := P) (args := args.map ρ) hl (by simpa using hs)
  simp only [execOp, ho, resolve, Sem.run_bind, hx, Deferred.ofValue, Sem.run_pure, Result.andThen_ok, invoke, Array.empty_append, h1]
theorem awpL_yield {l : Nat} {rec : Loop} {vs : Array Value} (hrec : G.w0.heap[l]? = some (.loop rec) ∧ ¬ G.mt l) (hR : G.rd = none) (ps : List Nat) (fz : Nat → Bool) {as : List AVal} {hin : Heap} (hc : YC P l rec vs as hin ps.length I r hout nout) {ops ls : List Oper} {o : Oper} {Q : St → Prop} {st : St} {x : Operand} {args : Array Operand} {ts : Array TypeId}
    (ho : o.op = .call { callee := .value x, args := args, argTypes := ts }) (hsz : args.size = rec.params.size) {g : Option Bool} (hg : guardOf ops.toArray o st.env = some g) (hgt : g.getD true = true) {n : Nat} {fc : Nat → AVal} (hx : sv st.env x = .yld l vs n fc) (hps : ps.Nodup ∧ ∀ k ∈ ps, k < st.nx)
    (hflat : (∀ k, fz k = false) ∨ ∀ x, I x → flat (r x) ∧ flatH (hout x)) (hsc : sc st.env x ∧ argsC st.env args.toList)
    (hle : argsLeS st.heap (sI (inId ps)) fz ps.length as (callArgs st.env args.toList n fc)) (hheap : heapLe st.heap (sI (inId ps)) fz (fun _ => false) ps.length hin)
    (h : ∀ K : St → Prop, (∀ s, AwpL P G n0 ops ls Q s → K s) → ∀ x, I x → ps.length ≤ nout x →
      goPut (putSt G.nt st.env (renH (outId ps st.nx) (hout x) ++ st.heap.filter fun e => !ps.contains e.1) (st.nx + (nout x - ps.length)) o.dst (ren (outId ps st.nx) (r x))) K) : AwpL P G n0 ops (o :: ls) Q st := by
  intro mu a w hs hn Q' hQ
  have hw := (wanted_of hs hg).trans hgt
  have hxr := strip_rel (hs.rho x) hsc.1
  have hxr' : Rel (cx G st.heap mu st.nx w) (sv st.env x) (a.eval x) := hxr
  rw [hx] at hxr'
  obtain ⟨hxv, hvs, hvr⟩ := hxr'
  have hl : w.heap[l]? = some (.loop rec) := by
    rw [hs.heap.kept.block l (lt_of_get hrec.1) hrec.2]; exact hrec.1
  refine wpListIn_step fun K hK => ?_
  rw [if_pos hw, hR]
  refine ⟨fun _ _ => trivial, ?_⟩
  rw [Oper.semAt_eq _ _ o (by rw [ho]; intro c hc; cases hc), run_callYield ho hxv hl hsz]
  rw [Oper.uponIn_round]
  refine ⟨fun hd => absurd hd (by simp [fen, Fence.wide]), ?_⟩
  have hvals : ArgsRel (cx G st.heap mu st.nx w) (callArgs st.env args.toList n fc) ((args.map a.eval).toList ++ vs.toList) := by
    have := callArgs_rel (caps := vs) (fun y => hs.rho y) hsc.2 hvs hvr
    simpa using this
  have key := fc_core (C := yieldC P l rec vs) yieldC_mono ps hps.1 hps.2 hc fz hflat hle hheap hs.heap hvals (K := fun v w' => K (a.put o.dst v) w') fun z hI hno v mu3 w' hok4 hLe hrelv hfr _ => by
    obtain ⟨s, hput, hs2⟩ := goPut_spec (h _ (fun _ hs => hs) z hI hno)
    have hsim := hs.put hLe hok4 hrelv hput
    have hLe' : (cx G st.heap mu st.nx w).Le (cx G s.heap mu3 s.nx w') := by
      rw [(putSt_heap hput).1, (putSt_heap hput).2]; exact hLe
    refine hK _ _ ?_
    exact hs2 mu3 _ w' hsim (Nat.le_trans hn hLe'.nx) Q' fun mu2 st2 a2 w2 h1 h2 h3 h4 => hQ mu2 st2 a2 w2 h1 h2 ((Stay.of hn hLe').trans h3) h4
  have := key _ rfl hl
  simp only [Array.toArray_toList] at this
  refine this.mono ?_
  rintro e w' ⟨v, rfl, hv⟩
  exact hv
theorem awpL_not (v : AVal) {ops ls : List Oper} {o : Oper} {Q : St → Prop} {st : St} (hg : guardOf ops.toArray o st.env = some (some false))
    (h : ∀ K : St → Prop, (∀ s, AwpL P G n0 ops ls Q s → K s) → goPut (putSt G.nt st.env st.heap st.nx o.dst (.opt false v)) K) (hnb : ∀ c, o.op ≠ .defer c) : AwpL P G n0 ops (o :: ls) Q st := by
  intro mu a w hs hn Q' hQ
  have hw := wanted_of hs hg
  refine wpl_step hnb fun K hK => ?_
  rw [if_neg (by rw [hw]; simp)]
  obtain ⟨s, hput, hs2⟩ := goPut_spec (h _ (fun _ hs => hs))
  have hsim := hs.put (Cx.Le.refl _) hs.heap (v := .opt false v) (x := undef) ⟨fun h => (by cases h), fun _ => rfl⟩ hput
  have hLe : (cx G st.heap mu st.nx w).Le (cx G s.heap mu s.nx w) := by
    rw [(putSt_heap hput).1, (putSt_heap hput).2]; exact Cx.Le.refl _
  exact hK _ _ (hs2 mu _ w hsim (Nat.le_trans hn hLe.nx) Q' fun mu2 st2 a2 w2 h1 h2 h3 h4 => hQ mu2 st2 a2 w2 h1 h2 ((Stay.of hn hLe).trans h3) h4)
theorem FCY_introS {T : Tab} (hT : TabOK P T) {f : FuncId} {fn : Func} {c : Code} {l : Nat} {rec : Loop} {args : List AVal} {hin : Heap} {nin : Nat} (hob : nobH hin := by simp [nobH, nobO]) (hf : P.funcs[f]? = some fn) (hb : fn.body = some c) (hn : args.length ≤ fn.ntmps)
    (h : ∀ G : Gh, G.nt = fn.ntmps → G.rd = none → (G.w0.heap[l]? = some (.loop rec) ∧ ¬ G.mt l) → AwpS P G nin [c] (fun e st => match e with | .normal => RetF T fn.results.toList nin I r hout nout st | .ret => RetF T fn.results.toList nin I r hout nout st | _ => False) ⟨argEnv 0 args, hin, nin⟩) :
    FCY P f l rec args hin nin I r hout nout := by
  intro O w mu vals hok hargs hrec
  refine fc_body hT hf hb hn hok hargs (awp_mono (h _ rfl rfl ⟨hrec, not_inB hob hok hrec⟩) fun e s hq => ?_)
  cases e <;> exact hq
structure RecOK (rec : Loop) (kp : List Nat) (vs : Array Value) (ps : Array Tmp) (assign body : Option Code) (nt : Nat) : Prop where
  state : rec.state = .ready
  pending : rec.pending = none
  params : rec.params = ps
  assign : assign = some rec.assign
  body : body = some rec.body
  size : nt ≤ rec.tmps.size
  vs : vs = (kp.map fun t => rec.tmps.getD t undef).toArray
def rngs : Code → List (Code × Code)
  | .rangeFunc _ _ a b => (a, b) :: (rngs a ++ rngs b)
  | .seq a b => rngs a ++ rngs b
  | .cond _ a b => rngs a ++ rngs b
  | .block _ a => rngs a
  | .loop a => rngs a
  | .scope a => rngs a
  | _ => []
def rngA (c : Option Code) (i : Nat) : Option Code := match c with
  | some c => match (rngs c)[i]? with
    | some p => some p.1
    | none => none
  | none => none
def rngB (c : Option Code) (i : Nat) : Option Code := match c with
  | some c => match (rngs c)[i]? with
    | some p => some p.2
    | none => none
  | none => none
def RetY (nin : Nat) {α : Type} (I : α → Prop) (hout : α → Heap) (nout : α → Nat) (st : St) : Prop :=
  ∃ x, I x ∧ ∃ σ fz vz, heapLe st.heap (sI σ) fz (vI vz) (nout x) (hout x) ∧ keyInj σ vz ((hout x).map (·.1)) = true ∧ nin ≤ nout x ∧ ∀ k, k < nin → σ k = k ∧ vz k = false
def bindE : List Tmp → List AVal → Env → Env
  | t :: ts, v :: vs, E => bindE ts vs ((t, v) :: E)
  | _, _, E => E
theorem lk_bind {c : Cx} : ∀ (ps : List Tmp) (as : List AVal) (vals : List Value) (E : Env) (tm : Array Value), ArgsRel c as vals → ps.length = as.length → (∀ p ∈ ps, p < tm.size) → (∀ t, Rel c (lk E t) (tm.getD t undef)) →
    (∀ t, Rel c (lk (bindE ps as E) t) (((ps.zip vals).foldl (fun tmps (t, a) => tmps.setIfInBounds t a) tm).getD t undef)) ∧ ((ps.zip vals).foldl (fun tmps (t, a) => tmps.setIfInBounds t a) tm).size = tm.size
  | [], [], [], E, tm, _, _, _, h => ⟨h, rfl⟩
  | p :: ps, a :: as, v :: vals, E, tm, hr, hl, hp, h => by
    simp only [List.zip_cons_cons, List.foldl_cons, bindE]
    have ih := lk_bind ps as vals ((p, a) :: E) (tm.setIfInBounds p v) hr.2 (by simpa using hl) (fun q hq => by simpa using hp q (List.mem_cons_of_mem _ hq)) fun t => by
      have hpt := hp p (List.mem_cons_self ..)
      simp only [lk]
      by_cases ht : p = t
      · subst ht
        rw [if_pos rfl]
        have : (tm.setIfInBounds p v).getD p undef = v := by simp [Array.getD, hpt]
        rw [this]
        exact hr.1
      · rw [if_neg ht]
        have : (tm.setIfInBounds p v).getD t undef = tm.getD t undef := by
          simp only [Array.getD_eq_getD_getElem?]
          rw [Array.getElem?_setIfInBounds_ne ht]
        rw [this]
        exact h t
    exact ⟨ih.1, by simpa using ih.2⟩
  | [], _ :: _, _, _, _, _, hl, _, _ => by simp at hl
  | _ :: _, [], _, _, _, _, hl, _, _ => by simp at hl
  | [], [], _ :: _, _, _, hr, _, _, _ => hr.elim
  | _ :: _, _ :: _, [], _, _, hr, _, _, _ => hr.elim
theorem lk_caps {c : Cx} {tm : Array Value} : ∀ (kp : List Nat) (as : List AVal), ArgsRel c as (kp.map fun t => tm.getD t undef) → ∀ t, Rel c (lk (kp.zip as) t) (tm.getD t undef)
  | [], [], _, t => trivial
  | k :: kp, a :: as, h, t => by
    simp only [List.zip_cons_cons, lk]
    by_cases ht : k = t
    · subst ht; rw [if_pos rfl]; exact h.1
    · rw [if_neg ht]; exact lk_caps kp as h.2 t
  | [], _ :: _, h, _ => h.elim
  | _ :: _, [], h, _ => h.elim
theorem ArgsRel.split {c : Cx} : ∀ {as bs : List AVal} {xs ys : List Value}, as.length = xs.length → ArgsRel c (as ++ bs) (xs ++ ys) → ArgsRel c as xs ∧ ArgsRel c bs ys
  | [], _, [], _, _, h => ⟨trivial, h⟩
  | _ :: _, _, _ :: _, _, hl, h => by
    have := ArgsRel.split (by simpa using hl) h.2
    exact ⟨⟨h.1, this.1⟩, this.2⟩
  | [], _, _ :: _, _, hl, _ => by simp at hl
  | _ :: _, _, [], _, hl, _ => by simp at hl
theorem kept_put {w0 w : World} {mt : Nat → Prop} (hk : Kept w0 mt w) {l : Nat} {x y : Obj} (hl : w0.heap[l]? = some x) (hm : ¬ mt l) : Kept (w0.putObj l y) mt (w.putObj l y) := by
  have hlt := lt_of_get hl
  refine ⟨hk.os, hk.tape, hk.output, hk.drawn, by rw [World.putObj_size, World.putObj_size]; exact hk.size, fun b hb hmt => ?_⟩
  rw [World.putObj_size] at hb
  by_cases h : b = l
  · subst h
    rw [World.putObj_heap_same (Nat.lt_of_lt_of_le hb hk.size), World.putObj_heap_same hb]
  · rw [World.putObj_heap_other h, World.putObj_heap_other h]
    exact hk.block b hb hmt
theorem putObj_back {w : World} {l : Nat} {x y : Obj} (hl : w.heap[l]? = some x) : (w.putObj l y).putObj l x = w := by
  unfold World.putObj
  congr 1
  apply Array.ext_getElem?
  intro i
  show ((w.heap.setIfInBounds l y).setIfInBounds l x)[i]? = _
  by_cases h : l = i
  · subst h
    rw [Array.getElem?_setIfInBounds_self_of_lt (by simpa using lt_of_get hl)]
    exact hl.symm
  · rw [Array.getElem?_setIfInBounds_ne h, Array.getElem?_setIfInBounds_ne h]
theorem Sim.rebase {w0 : World} {mt O : Nat → Prop} {nt : Nat} {rd rd' : Option Nat} {mu : Id → Option Base} {st : St} {a : Act} {w : World} (hs : Sim ⟨w0, mt, O, nt, rd⟩ mu st a w) {l : Nat} {rc rc' : Loop} (hl0 : w0.heap[l]? = some (.loop rc)) (hm : ¬ mt l) (r2 : Loop) :
    w.heap[l]? = some (.loop rc) ∧ Sim ⟨w0.putObj l (.loop r2), mt, O, nt, rd'⟩ mu st a (w.putObj l (.loop r2)) := by
  have hk := hs.heap
  have hl : w.heap[l]? = some (.loop rc) := (hk.kept.block l (lt_of_get hl0) hm).trans hl0
  have hc : (cx ⟨w0, mt, O, nt, rd⟩ st.heap mu st.nx w).Lc (cx ⟨w0.putObj l (.loop r2), mt, O, nt, rd'⟩ st.heap mu st.nx (w.putObj l (.loop r2))) :=
    ⟨Nat.le_of_eq (World.putObj_size).symm, fun _ _ h => h, fun b off _ _ => cell?_put (o := .loop r2) hl trivial trivial _, Nat.le_refl _, fun _ _ => rfl⟩
  have hne : ∀ id o B, lkH st.heap id = some o → mu id = some B → B.b ≠ l := fun id o B h1 h2 e => by
    rcases (hk.own id o B h1 h2).2.1 with h3 | h3
    · rw [e] at h3; exact absurd (lt_of_get hl0) (Nat.not_lt.2 h3)
    · rw [e] at h3; exact hm h3
  refine ⟨hl, ?_, hs.size, fun t => (hs.env t).monoC hc, fun id o h1 => ⟨(hk.obj id o h1).1, (hk.obj id o h1).2.monoC hc fun B hB => World.putObj_heap_other (hne id o B h1 hB)⟩, hk.sep, fun id o B h1 h2 => ?_, kept_put hk.kept hl0 hm, fun b hb => ?_, fun id t B ht h2 => ?_⟩
  · obtain ⟨Ds, h1, h2, h3⟩ := hs.defers
    refine ⟨Ds, h1, h2, fun D hD => ⟨?_, ?_⟩⟩
    · show (w0.putObj l _).heap.size ≤ D
      rw [World.putObj_size]; exact (h3 D hD).1
    · rw [World.putObj_heap_other (fun e => by have := (h3 D hD).2; rw [e, hl] at this; cases this)]
      exact (h3 D hD).2
  · show B.b < (w.putObj l _).heap.size ∧ ((w0.putObj l _).heap.size ≤ B.b ∨ mt B.b) ∧ ¬ O B.b
    rw [World.putObj_size, World.putObj_size]
    exact hk.own id o B h1 h2
  · show b < (w0.putObj l _).heap.size
    rw [World.putObj_size]
    exact hk.out b hb
  · obtain ⟨o, ho⟩ := tyH_lk ht
    obtain ⟨cs, hcs, hdv⟩ := hk.typ id t B ht h2
    exact ⟨cs, (World.putObj_heap_other (hne id o B ho h2)).trans hcs, hdv⟩
theorem RetY_of {nin : Nat} {st : St} (x : α) (σ : Nat → Nat) (fz vz : Nat → Bool) (hI : I x) (hh : heapLe st.heap (sI σ) fz (vI vz) (nout x) (hout x)) (hinj : keyInj σ vz ((hout x).map (·.1)) = true) (hno : nin ≤ nout x) (hid : ∀ k, k < nin → σ k = k ∧ vz k = false) : RetY nin I hout nout st :=
  ⟨x, hI, σ, fz, vz, hh, hinj, hno, hid⟩
theorem YC_introS {l : Nat} {rec : Loop} {kp : List Nat} {vs : Array Value} {ps : Array Tmp} {A B : Option Code} {assign body : Code} {nt : Nat} (hok : RecOK rec kp vs ps A B nt) (hA : A = some assign) (hB : B = some body) {args caps : List AVal} {hin : Heap} {nin : Nat} (hob : nobH hin := by simp [nobH, nobO]) (hpl : ps.size = args.length) (hpn : ∀ p ∈ ps.toList, p < nt) (hcl : caps.length = kp.length)
    (h : ∀ G : Gh, G.nt = nt → G.rd = some l → AwpS P G nin [assign] (fun e st1 => e = .normal ∧ ∀ G : Gh, G.nt = nt → G.rd = some l → AwpS P G nin [body] (fun e st => e = .normal ∧ RetY nin I hout nout st) st1) ⟨bindE ps.toList args (kp.zip caps), hin, nin⟩) :
    YC P l rec vs (args ++ caps) hin nin I (fun _ => .bool true) hout nout := by
  intro O w mu all hk hargs vals hall hl
  subst hall
  obtain ⟨h1, h2, h3, h4, h5, h6, h7⟩ := hok
  subst hA hB
  injection h4 with h4
  injection h5 with h5
  subst h4 h5
  have hnl := not_inB hob hk hl
  have hlen : args.length = vals.length := by
    have := hargs.length
    rw [h7] at this
    simp only [List.length_append, List.length_map] at this
    omega
  obtain ⟨ha1, ha2⟩ := hargs.split hlen
  rw [h7] at ha2
  simp only at ha2
  have hb := lk_bind ps.toList args vals (kp.zip caps) rec.tmps ha1 (by simpa using hpl) (fun p hp => Nat.lt_of_lt_of_le (hpn p hp) h6) (lk_caps kp caps ha2)
  let tm := (ps.toList.zip vals).foldl (fun tmps (t, a) => tmps.setIfInBounds t a) rec.tmps
  have hfold : (rec.params.zip vals.toArray).foldl (fun tmps (t, a) => tmps.setIfInBounds t a) rec.tmps = tm := by
    rw [h3, ← Array.foldl_toList]
    simp [tm]
  let Ga : Gh := ⟨w, inB hin mu, O, nt, some l⟩
  have hsim : Sim Ga mu ⟨bindE ps.toList args (kp.zip caps), hin, nin⟩ { tmps := tm, defers := [] } w :=
    ⟨DefOK.nil, by show nt ≤ tm.size; rw [show tm.size = rec.tmps.size from hb.2]; exact h6, hb.1, hk.ghost rfl rfl rfl⟩
  show RoundIn (fen none) 0 P l rec.fn _ rec.assign rec.body w _
  rw [hfold]
  refine roundIn_of_wpIn trivial ?_
  have step1 := h Ga rfl rfl mu _ w hsim (Nat.le_refl _) (Exit.then (fun a₁ w₁ => ∃ w₂, (Instr.beginRound l).run P w₁ = .ok () w₂ ∧ rec.body.wpIn ((fen none).inRound l) 0 P (roundPost P l fun e w' => ∃ v x mu', e = .returned v ∧ I x ∧ nin ≤ nout x ∧ (∀ id : Id, id.1 < nin → mu' id = mu id) ∧
      HOk ⟨w, inB hin mu, O, 0, none⟩ (hout x) mu' (nout x) w' ∧ Rel (cx ⟨w, inB hin mu, O, 0, none⟩ (hout x) mu' (nout x) w') (.bool true) v) a₁ w₂) (fun _ _ _ => False)) ?_
  · exact step1
  · intro e mu1 st1 a1 w1 hs1 hn1 hst1 hq
    have hq2 : e = .normal ∧ ∀ G : Gh, G.nt = nt → G.rd = some l → AwpS P G nin [rec.body] (fun e st => e = .normal ∧ RetY nin I hout nout st) st1 := by
      cases e <;> exact hq
    obtain ⟨rfl, hbody⟩ := hq2
    obtain ⟨hl1, hs2⟩ := Sim.rebase (rd' := some l) (rc' := rec) hs1 hl hnl { rec with state := .busy }
    refine ⟨_, run_beginRound hl1 h1, ?_⟩
    refine hbody ⟨_, _, _, _, _⟩ rfl rfl mu1 a1 _ hs2 hn1 _ ?_
    intro e mu2 st2 a2 w3 hs3 hn3 hst3 hq
    have hq2 : e = .normal ∧ RetY nin I hout nout st2 := by cases e <;> exact hq
    obtain ⟨rfl, x, hI, σ, fz, vz, hh, hinj, hno, hid⟩ := hq2
    have hlb : (w.putObj l (.loop { rec with state := .busy })).heap[l]? = some (.loop { rec with state := .busy }) := World.putObj_heap_same (lt_of_get hl)
    obtain ⟨hl3, hs4⟩ := Sim.rebase (rd' := none) (rc' := rec) hs3 hlb hnl rec
    have hend : (Instr.endRound l none).run P w3 = .ok (.bool true) (w3.putObj l (.loop rec)) := by
      rw [run_endRound none hl3]
      have : ({ state := .ready, pending := none, fn := rec.fn, tmps := rec.tmps, params := rec.params, assign := rec.assign, body := rec.body, defers := rec.defers } : Loop) = rec := by
        cases rec; simp only at h1 h2; subst h1 h2; rfl
      simp [this]
    refine ⟨_, _, hend, ?_⟩
    rw [putObj_back hl] at hs4
    have hwk := wk_of (G := ⟨w, inB hin mu, O, nt, none⟩) (n0 := nin) (st := ⟨[], st2.heap, st2.nx⟩) (st2 := ⟨[], hout x, nout x⟩) σ fz vz trivial hh hinj hno hid
    obtain ⟨mu3, k1, k2, k3⟩ := hwk mu2 a2 _ ⟨hs4.defers, hs4.size, fun t => trivial, hs4.heap⟩ hn3
    refine ⟨_, x, mu3, rfl, hI, hno, fun id hid' => ?_, k1.heap.ghost rfl rfl rfl, rfl⟩
    exact (k3.le.mu id hid').trans ((hst3.le.mu id hid').trans (hst1.le.mu id hid'))
theorem Le_put {G : Gh} {h : Heap} {mu : Id → Option Base} {nx : Nat} {w : World} {D : Nat} {o x : Obj} (hx : w.heap[D]? = some x) (h1 : noCells x) (h2 : noCells o) (hd : ∀ ds, x ≠ .deferred ds) : (cx G h mu nx w).Le (cx G h mu nx (w.putObj D o)) :=
  ⟨Nat.le_of_eq (World.putObj_size).symm, fun _ _ h => h, fun b off _ _ => cell?_put hx h1 h2 _, Nat.le_refl _, fun _ _ => rfl, fun E hE => by
    show (w.putObj D o).heap[E]? = _
    rw [World.putObj_heap_other (fun e => by
      have hE' : w.heap[E]? = _ := hE
      rw [e, hx] at hE'
      injection hE' with hE'
      exact hd _ hE')]
    exact hE⟩
theorem kept_alloc {w : World} (x : Obj) : Kept w (fun _ => False) (w.alloc x) :=
  ⟨rfl, rfl, rfl, Nat.le_refl _, by simp, fun b hb _ => by
    show (w.heap.push x)[b]? = _
    rw [Array.getElem?_push, if_neg (Nat.ne_of_lt hb)]⟩
theorem Kept.trans0 {w w1 w2 : World} (h : Kept w (fun _ => False) w1) (k : Kept w1 (fun _ => False) w2) : Kept w (fun _ => False) w2 :=
  ⟨k.os.trans h.os, k.tape.trans h.tape, k.output.trans h.output, Nat.le_trans h.drawn k.drawn, Nat.le_trans h.size k.size, fun b hb hm => (k.block b (Nat.lt_of_lt_of_le hb h.size) hm).trans (h.block b hb hm)⟩
theorem awpS_range (hR : G.rd = none) {g : Operand} {pr : Array Tmp} {assign body : Code} {cs : List Code} {Q : Exit → St → Prop} {st : St} (kp ps : List Nat) (fz : Nat → Bool) {f n : Nat} {fc : Nat → AVal} (hf : Callable P f) (hx : sv st.env g = .fn f n fc) (hsc : sc st.env g)
    {as : Nat → Array Value → List AVal} {hin : Heap} (hc : ∀ l rec vs, RecOK rec kp vs pr (some assign) (some body) G.nt → FCY P f l rec (as l vs) hin ps.length I r hout nout) (hps : ps.Nodup ∧ ∀ k ∈ ps, k < st.nx)
    (hflat : (∀ k, fz k = false) ∨ ∀ x, I x → flat (r x) ∧ flatH (hout x))
    (hle : ∀ l vs, argsLeS st.heap (sI (inId ps)) fz ps.length (as l vs) (.yld l vs kp.length (fun j => (kp.map (lk st.env)).getD j .any) :: (List.range' 0 n).map fc)) (hheap : heapLe st.heap (sI (inId ps)) fz (fun _ => false) ps.length hin)
    (h : ∀ K : St → Prop, (∀ s, AwpS P G n0 cs Q s → K s) → ∀ x, I x → ps.length ≤ nout x → K ⟨st.env, renH (outId ps st.nx) (hout x) ++ st.heap.filter (fun e => !ps.contains e.1), st.nx + (nout x - ps.length)⟩) :
    AwpS P G n0 (.rangeFunc g pr assign body :: cs) Q st := by
  intro mu a w hs hn Q' hQ
  have hxr := strip_rel (hs.rho g) hsc
  have hxr' : Rel (cx G st.heap mu st.nx w) (sv st.env g) (a.eval g) := hxr
  rw [hx] at hxr'
  obtain ⟨caps, hxv, hcn, hcr⟩ := hxr'
  rw [hR]
  refine wpIn_rangeFunc fun fn _ => ?_
  let rec' : Loop := { state := .ready, pending := none, fn, tmps := a.tmps, params := pr, assign, body, defers := w.heap.size }
  let vs : Array Value := (kp.map fun t => a.tmps.getD t undef).toArray
  let l := w.heap.size + 1
  let w1 := (w.alloc (.deferred (some []))).alloc (.loop rec')
  have hgrow : Kept w (fun _ => False) w1 := (kept_alloc _).trans0 (kept_alloc _)
  obtain ⟨hLe1, hk1⟩ := hs.heap.grow hgrow
  have hl1 : w1.heap[l]? = some (.loop rec') := by
    have := heap_new (w.alloc (.deferred (some []))) (.loop rec')
    simpa [w1, l] using this
  have hD1 : w1.heap[w.heap.size]? = some (Obj.deferred (some [])) := alloc_dfr (heap_new w _)
  obtain ⟨fd, hf1, hf2, hf3⟩ := hf
  have hf4 : ¬ fd.body = none := by intro h; rw [h] at hf3; cases hf3
  refine ⟨l, [{ target := .collected w.heap.size, args := #[] }], w1, { target := .fn (.func f) caps, args := #[.func (.yield l) #[] #[]] }, w1, f, #[.func (.yield l) #[] #[]] ++ caps, w1, run_enterLoop_outer _ _ _ _ _, ?_, fun _ _ => trivial, ?_, fun hd => absurd hd (by simp [fen, Fence.wide]), calls_fen ?_⟩
  · have hcst : ∀ v, a.eval (.const v) = v := fun _ => rfl
    simp [resolve, rangeCall, hxv, hcst, Deferred.ofValue]
  · simp [invoke, callFunc, hf1, hf2, hf4]
  · have hvals : ArgsRel (cx G st.heap mu st.nx w1) (.yld l vs kp.length (fun j => (kp.map (lk st.env)).getD j .any) :: (List.range' 0 n).map fc) (.func (.yield l) #[] #[] :: caps.toList) := by
      refine ⟨⟨rfl, by simp [vs], fun j hj => ?_⟩, ArgsRel.of_get fc n 0 caps.toList (by simpa using hcn) fun j hj => ?_⟩
      · have h1 : (kp.map (lk st.env)).getD j .any = lk st.env (kp.getD j 0) := by simp [List.getD, hj]
        have h2 : vs.getD j undef = a.tmps.getD (kp.getD j 0) undef := by simp [vs, Array.getD_eq_getD_getElem?, List.getD, hj]
        show Rel _ ((kp.map (lk st.env)).getD j .any) _
        rw [h1, h2]
        exact (hs.env _).mono hLe1
      · have := (hcr j hj).mono hLe1
        simpa [Array.getD_eq_getD_getElem?, List.getD_eq_getElem?_getD] using this
    have hin1 : ∀ b, w.heap.size ≤ b → ¬ inB st.heap mu b := by
      rintro b hb ⟨id, o, B, h1, h2, rfl⟩
      exact absurd (hs.heap.own id o B h1 h2).1 (Nat.not_lt.2 hb)
    have key := fc_core (C := iterC P f l rec') iterC_mono ps hps.1 hps.2 (hc l rec' vs ⟨rfl, rfl, rfl, rfl, rfl, hs.size, rfl⟩) fz hflat (hle l vs) hheap hk1 hvals (K := fun v w3 => rangePost (fen none) 0 P l Q' { a with defers := [{ target := .collected w.heap.size, args := #[] }] ++ a.defers } (.returned v) w3) fun z hI hno v mu3 w3 hok4 hLe hrelv _ hfr => by
      have hl3 : w3.heap[l]? = some (.loop rec') := (hfr.1 l (lt_of_get hl1) (hin1 l (Nat.le_succ _))).trans hl1
      have hne3 : ∀ id o B, lkH (renH (outId ps st.nx) (hout z) ++ st.heap.filter (fun e => !ps.contains e.1)) id = some o → mu3 id = some B → B.b ≠ l := fun id o B h1 h2 e => by
        rcases hfr.2 id o B h1 h2 with h3 | h3
        · rw [e] at h3; exact absurd (lt_of_get hl1) (Nat.not_lt.2 h3)
        · rw [e] at h3; exact hin1 l (Nat.le_succ _) h3
      refine ⟨none, w3.putObj l (.loop { rec' with state := .exhausted }), run_endLoop hl3 (by intro e; cases e), ?_⟩
      have hK := h _ (fun _ hs => hs) z hI hno
      have hLe3 := Le_put (G := G) (h := renH (outId ps st.nx) (hout z) ++ st.heap.filter (fun e => !ps.contains e.1)) (mu := mu3) (nx := st.nx + (nout z - ps.length)) (o := .loop { rec' with state := .exhausted }) hl3 trivial trivial (fun ds e => by cases e)
      have hLe02 := (hLe1.trans hLe).trans hLe3
      have hw0 : G.w0.heap.size ≤ w.heap.size := hs.heap.kept.size
      refine hQ .normal mu3 _ _ _ ⟨?_, hs.size, fun t => ((hs.env t).mono hLe02), (hok4.put (o := .loop { rec' with state := .exhausted }) hl3 trivial trivial hne3 (.inl (Nat.le_trans hw0 (Nat.le_succ _)))).1⟩ (Nat.le_trans hn (Nat.le_add_right _ _)) (Stay.of hn hLe02) hK
      obtain ⟨Ds, d1, d2, d3⟩ := hs.defers
      refine ⟨w.heap.size :: Ds, by simp [d1], List.nodup_cons.2 ⟨fun hm => ?_, d2⟩, fun D hD => ?_⟩
      · exact absurd (lt_of_get (d3 _ hm).2) (Nat.lt_irrefl _)
      · rcases List.mem_cons.1 hD with rfl | hD
        · refine ⟨hw0, ?_⟩
          rw [World.putObj_heap_other (Nat.ne_of_lt (Nat.lt_succ_self _))]
          exact (hfr.1 _ (lt_of_get hD1) (hin1 _ (Nat.le_refl _))).trans hD1
        · exact ⟨(d3 D hD).1, hLe02.dfr D (d3 D hD).2⟩
    have key2 := key hl1
    have ha : (#[Value.func (.yield l) #[] #[]] ++ caps) = (.func (.yield l) #[] #[] :: caps.toList).toArray := by simp
    rw [ha]
    refine key2.mono ?_
    rintro e w3 ⟨v, rfl, hv⟩
    exact hv
theorem argsLe_clo {h : Heap} {fz : Nat → Bool} : ∀ l : List AVal, (∀ v ∈ l, Clo v) → argsLe h fz l l
  | [], _ => trivial
  | v :: l, hl => ⟨Clo.le v (hl v (List.mem_cons_self ..)), argsLe_clo l fun x hx => hl x (List.mem_cons_of_mem _ hx)⟩
theorem argsLe_caps {h : Heap} {fz : Nat → Bool} {n : Nat} {f : Nat → AVal} (hf : ∀ j, j < n → Clo (f j)) : argsLe h fz ((List.range' 0 n).map f) ((List.range' 0 n).map f) :=
  argsLe_clo _ fun v hv => by
    obtain ⟨j, hj, rfl⟩ := List.mem_map.1 hv
    exact hf j (by simpa using hj)
end
end Go.Lift
namespace Go.Lift
set_option linter.unusedSimpArgs false
set_option linter.unusedVariables false
open Go.RowKit
def PX (P : Program) (f : FuncId) (args : List AVal) (r : AVal) : Prop := ∀ (c : Cx) (vals : List Value), ArgsRel c args vals → ∃ v, (∀ w, (callFunc f vals.toArray).run P w = .ok (.value v) w) ∧ ∀ c2, Rel c2 r v
section
variable {P : Program} {G : Gh} {n0 : Nat}
theorem awpL_px {f : FuncId} {as : List AVal} {r : AVal} (hc : PX P f as r) {ops l : List Oper} {o : Oper} {Q : St → Prop} {st : St} {x : Operand} {args : Array Operand} {ts : Array TypeId}
    (ho : o.op = .call { callee := .value x, args := args, argTypes := ts }) (hg : o.guard = none) {n : Nat} {fc : Nat → AVal} (hx : sv st.env x = .fn f n fc) (hsc : sc st.env x ∧ argsC st.env args.toList)
    (hle : argsLe st.heap (fun _ => false) as (callArgs st.env args.toList n fc)) (h : ∀ K : St → Prop, (∀ s, AwpL P G n0 ops l Q s → K s) → goPut (putSt G.nt st.env st.heap st.nx o.dst r) K) : AwpL P G n0 ops (o :: l) Q st := by
  obtain ⟨s, hput, hs2⟩ := goPut_spec (h _ fun _ hs => hs)
  intro mu a w hs hn Q' hQ
  refine wpl_step (by rw [ho]; intro c hc; cases hc) fun K hK => ?_
  have hw : Region.wanted o (yielded ops.toArray a.tmps) = true := by simp [Region.wanted, hg]
  rw [if_pos hw]
  have hxr := strip_rel (hs.rho x) hsc.1
  have hxr' : Rel (cx G st.heap mu st.nx w) (sv st.env x) (a.eval x) := hxr
  rw [hx] at hxr'
  obtain ⟨caps, hxv, hcn, hcr⟩ := hxr'
  have hargs := argsLe_rel hs.heap _ _ _ hle (callArgs_rel (fun y => hs.rho y) hsc.2 hcn hcr)
  obtain ⟨v, hv, hrv⟩ := hc _ _ hargs
  have hrun : (execOp a.eval o).run P w = .ok (.value v) w := by
    have := hv w
    simp only [Array.toArray_toList] at this
    simp [execOp, ho, resolve, hxv, Deferred.ofValue, invoke, this]
  unfold Oper.wp
  rw [hrun]
  have hsim := hs.put (Cx.Le.refl _) hs.heap (hrv _) hput
  refine hK _ _ (hs2 mu _ w hsim (by rw [(putSt_heap hput).2]; exact hn) Q' fun mu2 st2 a2 w2 h1 h2 h3 h4 => hQ mu2 st2 a2 w2 h1 h2 ?_ h4)
  rw [(putSt_heap hput).1] at h3
  exact h3
def idxB (s : List UInt8) (b : UInt8) : Int := match s.idxOf? b with
  | some i => i
  | none => -1
theorem indexByte_px {f : FuncId} {fn : Func} (hf : P.funcs[f]? = some fn) (hname : (fn.name == "runtime.NumGoroutine") = false) (hb : fn.body.isNone = true) (hn : Extern.findNext fn = none) (he : Extern.find fn = some Extern.BytealgIndexByte.indexByte) (s : List UInt8) (b : UInt8) :
    PX P f [.str s, .int .u8 b.toNat] (.int .i64 (idxB s b)) := by
  rintro c vals hargs
  match vals, hargs with
  | [x, y], ⟨h1, h2, _⟩ =>
    simp only [Rel] at h1 h2
    subst h1 h2
    have hfind : ((List.range s.length).find? fun i => (ByteArray.mk ⟨s⟩)[i]! == b) = s.idxOf? b := by
      have hget : ∀ i, i < s.length → (ByteArray.mk ⟨s⟩)[i]! = s.getD i 0 := fun i hi => by
        have hsz : i < (ByteArray.mk ⟨s⟩).size := hi
        rw [getElem!_pos (ByteArray.mk ⟨s⟩) i hsz]
        show s[i] = _
        simp [List.getD, hi]
      rw [List.idxOf?]
      cases hr : s.findIdx? (fun x => x == b) with
      | none =>
        rw [List.find?_eq_none]
        rw [List.findIdx?_eq_none_iff] at hr
        intro i hi
        simp only [List.mem_range] at hi
        rw [hget i hi]
        have := hr _ (getD_mem (d := 0) hi)
        simpa using this
      | some k =>
        rw [List.findIdx?_eq_some_iff_getElem] at hr
        obtain ⟨hk, h1, h2⟩ := hr
        rw [List.find?_range_eq_some]
        refine ⟨?_, by simpa using hk, fun j hj => ?_⟩
        · rw [hget k hk]; simpa [List.getD, hk] using h1
        · have hjl : j < s.length := by omega
          rw [hget j hjl]
          have := h2 j hj
          simpa [List.getD, hjl] using this
    refine ⟨.int .i64 (idxB s b), fun w => ?_, fun _ => rfl⟩
    rw [run_callFunc_extern hf hname hb hn he]
    have hbb : (b.toNat : Int).toNat.toUInt8 = b := by simp
    have hsz : (ByteArray.mk ⟨s⟩).size = s.length := rfl
    have hdef : Extern.BytealgIndexByte.indexByte [Value.string ⟨⟨s⟩⟩, .int .u8 b.toNat].toArray = (match (List.range (ByteArray.mk ⟨s⟩).size).find? fun i => (ByteArray.mk ⟨s⟩)[i]! == (b.toNat : Int).toNat.toUInt8 with
      | some i => pure (goInt i)
      | none => pure (goInt (-1))) := rfl
    rw [hdef, hbb, hsz, hfind]
    unfold idxB
    cases s.idxOf? b with
    | none => rfl
    | some i => rfl
end
end Go.Lift
