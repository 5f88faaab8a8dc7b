/-
  The abstract layer, part S: the moves of a walk through a region that draws its order.
-/
import Derived.Test.YtkmnnmclebdjlaaLR
namespace Go.Lift
set_option linter.unusedSimpArgs false
set_option linter.unusedVariables false
open Go.RowKit

theorem takeOp_pure {o : Op} (h : takeOp o = true) : pureOp o = true := by
  cases o <;> first | rfl | (simp [takeOp] at h; done) | skip
  rename_i c
  obtain ⟨callee, args, ts⟩ := c
  cases callee <;> simp [takeOp] at h
  rename_i b
  cases b <;> simp at h <;> rfl

/-- operations taken ahead, one after the other. -/
def evTks (T : Tab) (nt : Nat) (ops : Array Oper) (al : AL) (ws : List Id) (nx0 : Nat) : List Oper → St → Option (St × Prop)
  | [], st => some (st, True)
  | o :: r, st => match evG T nt ops o st with
    | some (s, c) => match evTks T nt ops al ws nx0 r s with
      | some (s', c') => some (s', (tkOK al ws nx0 st.heap st.env o.op ∧ c) ∧ c')
      | none => none
    | none => none

def pendOK (ops : Array Oper) (W : List (Nat × Id)) (al : AL) (ws : List Id) (done : List Nat) (i : Nat) : Bool :=
  (List.range ops.size).all fun j => j == i || done.contains j || (match ops[j]? with
    | some oj => oj.after.any (fun e => Region.binds .any e && e.on == i)
    | none => true) || (!al.al.contains j && W.all fun p => p.1 != j || ws.contains p.2)
def takesOK (ops : Array Oper) (W : List (Nat × Id)) (al : AL) (ws : List Id) : List Nat → List Nat → Bool
  | [], _ => true
  | i :: r, done => (match ops[i]? with
    | some o => takeOp o.op
    | none => false) && Region.free .any ops (lst ops.size done) i && (Region.ready .any ops (lst ops.size done)).contains i && pendOK ops W al ws done i && takesOK ops W al ws r (i :: done)

def AwpA (P : Program) (G : Gh) (n0 : Nat) (ops : List Oper) (W : List (Nat × Id)) (al : AL) (mu0 : Id → Option Base) (nx0 : Nat) (Q : St → Prop) (fuel : Nat) (done : List Nat) (st : St) : Prop :=
  ∀ mu a w, Sim G mu st a w → n0 ≤ st.nx → nx0 ≤ st.nx → (∀ id : Id, id.1 < nx0 → mu id = mu0 id) → ∀ Q' : Exit → Act → World → Prop, (∀ ch a w, ¬ Q' (.panic ch) a w) →
    (∀ mu' st' a' w', Sim G mu' st' a' w' → n0 ≤ st'.nx → Stay G n0 st.heap mu w st'.heap mu' w' → Q st' → Q' .normal a' w') →
    wpAnyC P ops.toArray Q' (keepOf W al mu0 nx0) fuel (lst ops.toArray.size done) (cx G st.heap mu st.nx w) a w

/-- one operation that comes up. -/
def AwpO (P : Program) (G : Gh) (n0 : Nat) (ops : List Oper) (W : List (Nat × Id)) (al : AL) (mu0 : Id → Option Base) (nx0 : Nat) (Q : St → Prop) (fuel : Nat) (done : List Nat) (st : St) (i : Nat) : Prop :=
  ∀ mu a w, Sim G mu st a w → n0 ≤ st.nx → nx0 ≤ st.nx → (∀ id : Id, id.1 < nx0 → mu id = mu0 id) → ∀ Q' : Exit → Act → World → Prop, (∀ ch a w, ¬ Q' (.panic ch) a w) →
    (∀ mu' st' a' w', Sim G mu' st' a' w' → n0 ≤ st'.nx → Stay G n0 st.heap mu w st'.heap mu' w' → Q st' → Q' .normal a' w') →
    wpOp P ops.toArray Q' i (fun a' w' => ∃ c' : Cx, c'.w = w' ∧ LeKB (keepOf W al mu0 nx0 i) (cx G st.heap mu st.nx w) c' ∧ wpAnyC P ops.toArray Q' (keepOf W al mu0 nx0) fuel (lst ops.toArray.size (i :: done)) c' a' w') a w

section
variable {P : Program} {G : Gh} {n0 : Nat} {ops : List Oper} {W : List (Nat × Id)} {al : AL} {mu0 : Id → Option Base} {nx0 : Nat} {Q : St → Prop}

theorem awpA_done {fuel : Nat} {done : List Nat} {st : St} (hr : Region.ready .any ops.toArray (lst ops.toArray.size done) = []) (h : Q st) : AwpA P G n0 ops W al mu0 nx0 Q fuel done st := by
  intro mu a w hs hn _ _ Q' _ hQ
  have hq := hQ mu st a w hs hn Stay.refl h
  cases fuel with
  | zero => exact ⟨hr, hq⟩
  | succ f => exact ⟨fun _ => hq, by rw [hr]; simp⟩

theorem awpA_all {fuel : Nat} {done rs : List Nat} {st : St} (hr : Region.ready .any ops.toArray (lst ops.toArray.size done) = rs) (hne : rs ≠ []) (h : ∀ i ∈ rs, AwpO P G n0 ops W al mu0 nx0 Q fuel done st i) :
    AwpA P G n0 ops W al mu0 nx0 Q (fuel + 1) done st := by
  intro mu a w hs hn hx hm Q' hp hQ
  refine ⟨fun h0 => absurd (hr ▸ h0) hne, fun i hi => ?_⟩
  rw [hr] at hi
  rw [lst_set]
  exact h i hi mu a w hs hn hx hm Q' hp hQ
theorem awpA_only {fuel : Nat} {done : List Nat} {i : Nat} {st : St} (hr : Region.ready .any ops.toArray (lst ops.toArray.size done) = [i]) (h : AwpO P G n0 ops W al mu0 nx0 Q fuel done st i) :
    AwpA P G n0 ops W al mu0 nx0 Q (fuel + 1) done st := awpA_all hr (by simp) fun k hk => by
  have : k = i := by simpa using hk
  rw [this]
  exact h
theorem awpA_two {fuel : Nat} {done : List Nat} {i k : Nat} {st : St} (hr : Region.ready .any ops.toArray (lst ops.toArray.size done) = [i, k]) (h : AwpO P G n0 ops W al mu0 nx0 Q fuel done st i) (h2 : AwpO P G n0 ops W al mu0 nx0 Q fuel done st k) :
    AwpA P G n0 ops W al mu0 nx0 Q (fuel + 1) done st := awpA_all hr (by simp) fun j hj => by
  have : j = i ∨ j = k := by simpa using hj
  rcases this with rfl | rfl
  · exact h
  · exact h2

def wOK (W : List (Nat × Id)) (al : AL) (nx0 i : Nat) (h : Heap) : Option Id → Prop
  | none => True
  | some id => al.al.contains i = true ∨ (W.contains (i, id) = true ∧ id.1 < nx0) ∨ (al.fr.contains i = true ∧ (lkH h id).isSome = true ∧ ∀ x ∈ al.pr, x ≠ id ∧ (lkH h x).isSome = true)

theorem wpOp_of {o : Oper} {i : Nat} {Q' : Exit → Act → World → Prop} {K : Act → World → Prop} {a : Act} {w : World} (hi : ops.toArray[i]? = some o)
    (h : if Region.wanted o (yielded ops.toArray a.tmps) then o.wp P a w K Q' else K (a.put o.dst undef) w) : wpOp P ops.toArray Q' i K a w := by
  unfold wpOp
  simp only [hi]
  split
  · rename_i hw; rw [if_pos hw] at h; exact .inl h
  · rename_i hw; rw [if_neg hw] at h; exact h

/-- an operation that comes up alone, evaluated. -/
theorem awpO_ev {T : Tab} (hT : TabOK P T) {fuel : Nat} {done : List Nat} {i : Nat} {o : Oper} {st s : St} {c : Prop} (hi : ops.toArray[i]? = some o) (he : evG T G.nt ops.toArray o st = some (s, c)) (hc : c) (hw : wOK W al nx0 i st.heap (wOp st.env o.op))
    (h : AwpA P G n0 ops W al mu0 nx0 Q fuel (i :: done) s) : AwpO P G n0 ops W al mu0 nx0 Q fuel done st i := by
  intro mu a w hs hn hx hm Q' hp hQ
  refine wpOp_of hi (evG_ok hT he hc hs fun mu' a' w' hs' hLe hfr => ?_)
  refine ⟨cx G s.heap mu' s.nx w', rfl, ⟨hLe, fun b hb hbs => ?_⟩, ?_⟩
  · refine hfr b hbs fun id B hid hB => ?_
    rw [hid] at hw
    rcases hw with hw | ⟨hw, hlt⟩ | ⟨hw, h1, h2⟩
    · rw [hb.1] at hw; cases hw
    · exact hb.2.2 (i, id) (by simpa using hw) rfl B ((hm id hlt).symm.trans hB)
    · obtain ⟨x, hx1, hx2, B1, hB1, rfl⟩ := hb.2.1 hw
      obtain ⟨k1, k2⟩ := h2 x hx1
      obtain ⟨o1, ho1⟩ := Option.isSome_iff_exists.1 k2
      obtain ⟨o2, ho2⟩ := Option.isSome_iff_exists.1 h1
      exact fun heq => k1 (hs.heap.sep x id o1 o2 B1 B ho1 ho2 ((hm x hx2).trans hB1) hB heq)
  · exact h mu' a' w' hs' (Nat.le_trans hn hLe.nx) (Nat.le_trans hx hLe.nx) (fun id hid => (hLe.mu id (Nat.lt_of_lt_of_le hid hx)).trans (hm id hid)) Q' hp
      fun mu2 st2 a2 w2 h1 h2 h3 h4 => hQ mu2 st2 a2 w2 h1 h2 ((Stay.of hn hLe).trans h3) h4

/-- a call that comes up alone. -/
theorem awpO_pc {fuel : Nat} {done : List Nat} {i : Nat} {o : Oper} {st s : St} {x : Operand} {args : Array Operand} {ts : Array TypeId} (hi : ops.toArray[i]? = some o) (ho : o.op = .call { callee := .value x, args := args, argTypes := ts })
    {g : Option Bool} (hg : guardOf ops.toArray o st.env = some g) {f n : Nat} {fc : Nat → AVal} (hx : gHolds g → sv st.env x = .fn f n fc ∧ sc st.env x ∧ argsC st.env args.toList)
    (hf : Callable P f) {as : List AVal} {r : AVal} (hc : gHolds g → PC P f as r) (fz : Nat → Bool) (hflat : (∀ k, fz k = false) ∨ flat r) (hle : gHolds g → argsLe st.heap fz as (callArgs st.env args.toList n fc))
    (hput : putSt G.nt st.env st.heap st.nx o.dst (optV g r) = some s) (h : AwpA P G n0 ops W al mu0 nx0 Q fuel (i :: done) s) : AwpO P G n0 ops W al mu0 nx0 Q fuel done st i := by
  intro mu a w hs hn hnx hm Q' hp hQ
  refine wpOp_of hi (pc_ok ho hg hx hf hc fz hflat hle hput hs fun a' w' hs' hLe hkept => ?_)
  refine ⟨cx G s.heap mu s.nx w', rfl, ⟨hLe, fun b _ hbs => hkept.block b hbs (fun h => h)⟩, ?_⟩
  exact h mu a' w' hs' (Nat.le_trans hn hLe.nx) (Nat.le_trans hnx hLe.nx) hm Q' hp
      fun mu2 st2 a2 w2 h1 h2 h3 h4 => hQ mu2 st2 a2 w2 h1 h2 ((Stay.of hn hLe).trans h3) h4

theorem awpA_take {T : Tab} (hT : TabOK P T) {ws : List Id} {fuel : Nat} {done : List Nat} {i : Nat} {o : Oper} {st s : St} {c : Prop} (hns : Region.noSelect ops.toArray = true) (hi : ops.toArray[i]? = some o) (ht : takeOp o.op = true)
    (hfree : Region.free .any ops.toArray (lst ops.toArray.size done) i = true) (hr : (Region.ready .any ops.toArray (lst ops.toArray.size done)).contains i = true) (hpd : pendOK ops.toArray W al ws done i = true)
    (he : evG T G.nt ops.toArray o st = some (s, c)) (htk : tkOK al ws nx0 st.heap st.env o.op) (hc : c) (h : AwpA P G n0 ops W al mu0 nx0 Q fuel (i :: done) s) : AwpA P G n0 ops W al mu0 nx0 Q (fuel + 1) done st := by
  intro mu a w hs hn hx hm Q' hp hQ
  -- where the state after it stands
  have hnm : ∀ c, o.op = .call c → ∀ x, c.args.toList[0]? = some x → ∀ id, sv st.env x ≠ .map id := by
    intro c' hop x hx0 id hid
    rw [hop] at htk
    simp only [tkOK] at htk
    cases hl : c'.args.toList with
    | nil => rw [hl] at hx0; simp at hx0
    | cons y r =>
      rw [hl] at hx0 htk
      simp only [List.getElem?_cons_zero, Option.some.injEq] at hx0
      subst hx0
      simp only [hid] at htk
  let KB : Nat → Prop := fun b => ∃ t x id k off B, o.op = .load t x ∧ sv st.env x = .ptr id k off ∧ mu id = some B ∧ b = B.b
  have hkeep : ∀ j oj, ops.toArray[j]? = some oj → j ≠ i → (lst ops.toArray.size done).getD j true = false → (∀ e ∈ oj.after, Region.binds .any e = true → e.on ≠ i) → o.apart ops.toArray oj = true ∧ ∀ b, KB b → keepOf W al mu0 nx0 j b := by
    intro j oj hj hne hun hno
    refine ⟨Region.free_spec hi hfree j oj hj hne hun hno, ?_⟩
    rintro b ⟨t, x, id, k, off, B, hop, hsv, hB, rfl⟩
    have hjs : j < ops.toArray.size := (Array.getElem?_eq_some_iff.1 hj).1
    have hp1 := hpd
    simp only [pendOK, List.all_eq_true, List.mem_range] at hp1
    have hp2 := hp1 j hjs
    simp only [hj, Bool.or_eq_true, beq_iff_eq, hne, false_or] at hp2
    have hnd : done.contains j = false := by
      have hjs' : j < ops.length := by simpa using hjs
      have : (lst ops.toArray.size done).getD j true = done.contains j := by
        simp [lst, Array.getD_eq_getD_getElem?, List.getElem?_map, List.getElem?_range hjs']
      rw [← this]; exact hun
    rcases hp2 with (hp2 | hp2) | hp2
    · rw [hnd] at hp2; cases hp2
    · exfalso
      obtain ⟨e, he', hb⟩ := Array.any_eq_true'.1 hp2
      simp only [Bool.and_eq_true, beq_iff_eq] at hb
      exact hno e he' hb.1 hb.2
    · simp only [Bool.and_eq_true, Bool.not_eq_true', List.all_eq_true, Bool.or_eq_true, bne_iff_ne, ne_eq] at hp2
      rw [hop] at htk
      simp only [tkOK, hsv] at htk
      refine ⟨hp2.1, fun hfr => ?_, fun p hpW hpj B' hB' heq => ?_⟩
      · rcases htk.2 with h0 | ⟨h0, h00⟩
        · rw [h0] at hfr; simp at hfr
        · exact ⟨id, h0, h00, B, (hm id h00).symm.trans hB, rfl⟩
      rcases hp2.2 p hpW with h1 | h1
      · exact h1 hpj
      · obtain ⟨k1, k2, k3, k4⟩ := htk.1 p.2 (by simpa using h1)
        obtain ⟨o1, ho1⟩ := Option.isSome_iff_exists.1 k2
        obtain ⟨o2, ho2⟩ := Option.isSome_iff_exists.1 k3
        exact k1 (hs.heap.sep p.2 id o1 o2 B' B ho1 ho2 ((hm p.2 k4).trans hB') hB heq.symm)
  have hready : i ∈ Region.ready .any ops.toArray (lst ops.toArray.size done) := by simpa using hr
  have hQn : ∀ (v : Value) ch a w, Q' (.panic ch) (a.put o.dst v) w → Q' (.panic ch) a w := fun v ch a w h => absurd h (hp _ _ _)
  have hsees : ∀ w', seesKB KB (cx G st.heap mu st.nx w) w' → (∀ b off, b < w.heap.size → ¬ Fb G.O st.heap mu b → w'.cell? ⟨b, off, none⟩ = w.cell? ⟨b, off, none⟩) ∧
      (∀ t x id k off B, o.op = .load t x → sv st.env x = .ptr id k off → mu id = some B → w'.heap[B.b]? = w.heap[B.b]?) := by
    rintro w' ⟨c', rfl, hle⟩
    refine ⟨fun b off hb hF => hle.le.cell b off hb hF, fun t x id k off B hop hsv hB => ?_⟩
    by_cases hbs : B.b < w.heap.size
    · exact hle.kb B.b ⟨t, x, id, k, off, B, hop, hsv, hB, rfl⟩ hbs
    · -- a piece that is not live: never read
      exfalso
      have : ∃ o', lkH st.heap id = some o' := by
        unfold evG at he
        simp only [takeOp_pure ht, if_true] at he
        have key : ∀ r, evOp T st.env st.heap st.nx o.op = some r → ∃ o', lkH st.heap id = some o' := fun r hr => by
          rw [hop] at hr
          simp only [evOp] at hr
          split at hr
          · rename_i v c' hev
            unfold evLoad at hev
            rw [hsv] at hev
            cases hT' : T t with
            | none => simp [hT'] at hev
            | some ti =>
              simp only [hT'] at hev
              cases hl : lkH st.heap id with
              | none => simp [hl] at hev
              | some o' => exact ⟨o', rfl⟩
          · cases hr
        split at he
        · split at he
          · rename_i r hr; exact key r hr
          · cases he
        · split at he
          · split at he
            · split at he
              · rename_i r hr; exact key r hr
              · cases he
            · cases he
          · cases he
      obtain ⟨o', ho'⟩ := this
      exact hbs (hs.heap.own id o' B ho' hB).1
  -- the value and the state behind it
  have hstep : ∃ v, YieldsIf P ops.toArray (seesKB KB (cx G st.heap mu st.nx w)) o v a ∧ Sim G mu s (a.put o.dst v) w ∧ s.heap = st.heap ∧ s.nx = st.nx := by
    have hpu := takeOp_pure ht
    have hval : ∀ (r : Ev), evOp T st.env st.heap st.nx o.op = some r → r.c → ∃ x, Rel (cx G st.heap mu st.nx w) r.v x ∧ ∀ w', seesKB KB (cx G st.heap mu st.nx w) w' → (execOp a.eval o).run P w' = .ok (.value x) w' := fun r hr hrc => by
      obtain ⟨x, hx1, hx2⟩ := evOp_take hT hs.heap (fun y => hs.rho y) ht hnm hr hrc
      exact ⟨x, hx1, fun w' hw' => hx2 w' (hsees w' hw').1 (hsees w' hw').2⟩
    have he2 := he
    unfold evG at he2
    cases hgd : o.guard with
    | none =>
      simp only [hgd] at he2
      split at he2
      · rename_i r hev
        split at he2
        · rename_i s' hput
          simp only [Option.some.injEq, Prod.mk.injEq] at he2
          obtain ⟨rfl, rfl⟩ := he2
          obtain ⟨p1, p2⟩ := evOp_pure hpu hev
          obtain ⟨x, hx1, hx2⟩ := hval r hev hc
          rw [p1, p2] at hput
          refine ⟨x, .inl ⟨by simp [Region.wanted, hgd], hx2⟩, hs.put (Cx.Le.refl _) hs.heap hx1 hput, (putSt_heap hput).1, (putSt_heap hput).2⟩
        · cases he2
      · cases he2
    | some jw =>
      obtain ⟨j, want⟩ := jw
      simp only [hgd] at he2
      split at he2
      · rename_i t htt
        split at he2
        · rename_i g hgb
          rw [if_pos hpu] at he2
          split at he2
          · rename_i r hev
            split at he2
            · rename_i s' hput
              simp only [Option.some.injEq, Prod.mk.injEq] at he2
              obtain ⟨rfl, rfl⟩ := he2
              have hwant := wanted_of (g := some g) hs (ops := ops.toArray) (o := o) (by simp only [guardOf, hgd, htt, hgb])
              simp only [Option.getD_some] at hwant
              cases g with
              | true =>
                obtain ⟨x, hx1, hx2⟩ := hval r hev (hc rfl)
                exact ⟨x, .inl ⟨hwant, hx2⟩, hs.put (Cx.Le.refl _) hs.heap (v := mkOpt true r.v) (mkOpt_rel (fun _ => hx1) (fun h => by cases h)) hput, (putSt_heap hput).1, (putSt_heap hput).2⟩
              | false =>
                exact ⟨undef, .inr ⟨hwant, rfl⟩, hs.put (Cx.Le.refl _) hs.heap (v := mkOpt false r.v) (mkOpt_rel (fun h => by (cases h)) (fun _ => rfl)) hput, (putSt_heap hput).1, (putSt_heap hput).2⟩
            · cases he2
          · cases he2
        · cases he2
      · cases he2
  obtain ⟨v, hy, hs', hh1, hh2⟩ := hstep
  refine wpAnyC_first hi hns (hQn v) fuel _ _ a w rfl hkeep hready hy ?_
  rw [lst_set]
  have := h mu (a.put o.dst v) w hs' (by rw [hh2]; exact hn) (by rw [hh2]; exact hx) hm Q' hp (fun mu2 st2 a2 w2 h1 h2 h3 h4 => hQ mu2 st2 a2 w2 h1 h2 (by rw [← hh1]; exact h3) h4)
  rw [hh1, hh2] at this
  exact this

theorem awpA_takes {T : Tab} (hT : TabOK P T) {ws : List Id} (hns : Region.noSelect ops.toArray = true) : ∀ (is : List Nat) {fuel : Nat} {done : List Nat} {st s : St} {c : Prop}, takesOK ops.toArray W al ws is done = true →
    evTks T G.nt ops.toArray al ws nx0 (is.filterMap fun i => ops[i]?) st = some (s, c) → c → AwpA P G n0 ops W al mu0 nx0 Q fuel (is.reverse ++ done) s → AwpA P G n0 ops W al mu0 nx0 Q (fuel + is.length) done st
  | [], _, _, _, _, _, _, he, _, h => by
    simp only [List.filterMap_nil, evTks, Option.some.injEq, Prod.mk.injEq] at he
    obtain ⟨rfl, _⟩ := he
    exact h
  | i :: is, fuel, done, st, s, c, hok, he, hc, h => by
    simp only [takesOK, Bool.and_eq_true] at hok
    obtain ⟨⟨⟨⟨h1, h2⟩, h3⟩, h4⟩, h5⟩ := hok
    cases hi : ops[i]? with
    | none => simp [hi] at h1
    | some o =>
      have hi' : ops.toArray[i]? = some o := by simpa using hi
      rw [hi'] at h1
      simp only at h1
      simp only [List.filterMap_cons, hi] at he
      simp only [evTks] at he
      split at he
      · rename_i s1 c1 hg
        split at he
        · rename_i s2 c2 hl
          simp only [Option.some.injEq, Prod.mk.injEq] at he
          obtain ⟨rfl, rfl⟩ := he
          have ih := awpA_takes hT hns is (fuel := fuel) h5 hl hc.2 (by simpa using h)
          exact awpA_take hT hns hi' h1 h2 h3 h4 hg hc.1.1 hc.1.2 ih
        · cases he
      · cases he

/-- the beginning. -/
theorem awp_draw {id : Nat} {Q : Exit → St → Prop} {st : St} (hR : G.rd = none) (hm : P.follows .mixedOrders = true) (W : List (Nat × Id)) (al : AL)
    (h : ∀ mu0, AwpA P G n0 ops W al mu0 st.nx (Q .normal) ops.length [] st) : Awp P G n0 (.region id ops.toArray true) Q st := by
  intro mu a w hs hn Q' hQ
  have hsim : Sim G mu st a { w with drawn := w.drawn + 1 } := ⟨hs.defers.mono fun _ h => h, hs.size, fun t => Rel.mono (c := cx G st.heap mu st.nx w) (c' := cx G st.heap mu st.nx { w with drawn := w.drawn + 1 }) ⟨Nat.le_refl _, fun _ _ h => h, fun _ _ _ _ => rfl, Nat.le_refl _, fun _ _ => rfl, fun _ h => h⟩ _ _ (hs.env t), hs.heap.drew 1⟩
  have hst : Stay G n0 st.heap mu w st.heap mu { w with drawn := w.drawn + 1 } := ⟨⟨Nat.le_refl _, fun _ _ h => h, fun _ _ _ _ => rfl, Nat.le_refl _, fun _ _ => rfl, fun _ h => h⟩⟩
  have key := h mu mu a _ hsim hn (Nat.le_refl _) (fun _ _ => rfl) (fun e a w => e = .normal ∧ Q' .normal a w) (fun ch a w hh => by cases hh.1)
    (fun mu' st' a' w' h1 h2 h3 h4 => ⟨rfl, hQ .normal mu' st' a' w' h1 h2 (hst.trans h3) h4⟩)
  have hw := wpAny_of_C _ _ _ _ _ key
  rw [lst_nil] at hw
  have := wp_region_any (id := id) hm (ops := ops.toArray) (a := a) (w := w) (Q := fun e a w => e = .normal ∧ Q' .normal a w) (by simpa using hw)
  rw [hR]
  refine (wpIn_wide (n := 0)).2 (Code.wp_mono ?_ this)
  rintro e a' w' ⟨rfl, hq⟩
  exact hq
end
end Go.Lift
