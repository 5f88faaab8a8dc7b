/-
  The abstract layer, part O: calls of functions that only compute.
-/
import Derived.Test.YtmjkbidnghcfnaaLN
namespace Go.Lift
set_option linter.unusedSimpArgs false
set_option linter.unusedVariables false
open Go.RowKit

/-- arguments as the contract has them (no ids), against the caller's values; fz: pieces that are lent. -/
def argsLe (h : Heap) (fz : Nat → Bool) : List AVal → List AVal → Prop
  | [], [] => True
  | a :: r, v :: r' => VLe h id fz (fun _ => false) 0 a v ∧ argsLe h fz r r'
  | _, _ => False

/-- nothing in it leans on memory that is not its own. -/
def flat : AVal → Prop
  | .vsl n _ _ => n = 0
  | .vptr .. => False
  | .agg n f => ∀ j, j < n → flat (f j)
  | .tup n f => ∀ j, j < n → flat (f j)
  | .fn _ n f => ∀ j, j < n → flat (f j)
  | .yld _ _ n f => ∀ j, j < n → flat (f j)
  | .opt _ v => flat v
  | _ => True

theorem flat_rel {w : World} {F F' : Nat → Prop} {mu : Id → Option Base} {nx : Nat} : ∀ (v : AVal) (x : Value), flat v → Rel ⟨w, F, mu, nx⟩ v x → Rel ⟨w, F', mu, nx⟩ v x := by
  intro v
  induction v with
  | vsl n s f ih =>
    rintro x hf ⟨A, cap, hx, hn, _⟩
    exact ⟨A, cap, hx, hn, .inl hf⟩
  | vptr s f off ih => intro x hf; exact hf.elim
  | agg n f ih =>
    rintro x hf ⟨cs, hx, hs, hc⟩
    exact ⟨cs, hx, hs, fun j hj => ih j _ (hf j hj) (hc j hj)⟩
  | tup n f ih =>
    rintro x hf ⟨cs, hx, hs, hc⟩
    exact ⟨cs, hx, hs, fun j hj => ih j _ (hf j hj) (hc j hj)⟩
  | fn g n f ih =>
    rintro x hf ⟨cs, hx, hs, hc⟩
    exact ⟨cs, hx, hs, fun j hj => ih j _ (hf j hj) (hc j hj)⟩
  | yld l vs n f ih =>
    rintro x hf ⟨hx, hs, hc⟩
    exact ⟨hx, hs, fun j hj => ih j _ (hf j hj) (hc j hj)⟩
  | opt g v ih =>
    intro x hf hr
    exact ⟨fun hg => ih x hf (hr.1 hg), hr.2⟩
  | _ => intro x _ hr; exact hr

section
variable {P : Program} {G : Gh} {n0 : Nat} {h : Heap} {mu : Id → Option Base} {nx : Nat} {w : World}

/-- what was there stays: a call that turned nothing. -/
theorem HOk.grow (hk : HOk G h mu nx w) {w' : World} (hg : Kept w (fun _ => False) w') : (cx G h mu nx w).Le (cx G h mu nx w') ∧ HOk G h mu nx w' := by
  have hLe : (cx G h mu nx w).Le (cx G h mu nx w') := ⟨hg.size, fun _ _ hF => hF, fun b o hb _ => World.cell?_of_block (hg.block b hb (fun h => h)), Nat.le_refl _, fun _ _ => rfl, fun D hD => (hg.block D (lt_of_get hD) (fun h => h)).trans hD⟩
  refine ⟨hLe, fun id o hl => ?_, hk.sep, fun id o B hl hm => ?_, ?_, hk.out⟩
  · obtain ⟨h1, h2⟩ := hk.obj id o hl
    exact ⟨h1, h2.mono hLe (fun B hB => hg.block _ (hk.own id o B hl hB).1 (fun h => h))⟩
  · have := hk.own id o B hl hm
    exact ⟨Nat.lt_of_lt_of_le this.1 hg.size, this.2⟩
  · exact ⟨hg.os.trans hk.kept.os, hg.tape.trans hk.kept.tape, hg.output.trans hk.kept.output, Nat.le_trans hk.kept.drawn hg.drawn, Nat.le_trans hk.kept.size hg.size, fun b hb hm => by
      rw [hg.block b (Nat.lt_of_lt_of_le hb hk.kept.size) (fun h => h)]
      exact hk.kept.block b hb hm⟩

theorem HOk.bound (hk : HOk G h mu nx w) : ∀ b, Fb G.O h mu b → b < w.heap.size := by
  rintro b (hO | ⟨id, o, B, hl, hm, rfl⟩)
  · exact Nat.lt_of_lt_of_le (hk.out b hO) hk.kept.size
  · exact (hk.own id o B hl hm).1

/-- the blocks that a callee may not lean on: the caller's own, but for those that are lent. -/
def lendO (G : Gh) (h : Heap) (mu : Id → Option Base) (fz : Nat → Bool) (b : Nat) : Prop :=
  Fb G.O h mu b ∧ ¬ ∃ id o B, fz id.1 = true ∧ lkH h id = some o ∧ mu id = some B ∧ B.b = b

theorem argsLe_rel (hk : HOk G h mu nx w) {fz : Nat → Bool} : ∀ (as vs : List AVal) (xs : List Value), argsLe h fz as vs → ArgsRel (cx G h mu nx w) vs xs → ArgsRel (c0 (lendO G h mu fz) w) as xs
  | [], [], [], _, _ => trivial
  | a :: as, v :: vs, x :: xs, hl, hr => by
    refine ⟨VLe.rel (c := cx G h mu nx w) (c2 := c0 (lendO G h mu fz) w) ⟨rfl, Nat.le_refl _, fun b hF hO => hF hO.1, fun id hid => absurd hid (Nat.not_lt_zero _), fun id n s g hfz hl' => ⟨(hk.obj id _ hl').2, fun B hB => ⟨fun hO => ?_, (hk.own id _ B hl' hB).1⟩⟩⟩ _ _ _ hl.1 hr.1,
      argsLe_rel hk as vs xs hl.2 hr.2⟩
    exact hO.2 ⟨id, _, B, hfz, hl', hB, rfl⟩
  | [], [], _ :: _, _, hr => hr.elim
  | [], _ :: _, _, hl, _ => hl.elim
  | _ :: _, [], _, hl, _ => hl.elim
  | _ :: _, _ :: _, [], _, hr => hr.elim

theorem sv_args {e : Env} {c : Cx} {ρ : Operand → Value} (hρ : ∀ x, Rel c (evX e x) (ρ x)) : ∀ (l : List Operand), argsC e l → ArgsRel c (l.map (sv e)) (l.map ρ)
  | [], _ => trivial
  | x :: r, h => ⟨strip_rel (hρ x) h.1, sv_args hρ r h.2⟩

theorem ArgsRel.append {c : Cx} : ∀ {as bs : List AVal} {xs ys : List Value}, ArgsRel c as xs → ArgsRel c bs ys → ArgsRel c (as ++ bs) (xs ++ ys)
  | [], _, [], _, _, h => h
  | _ :: _, _, _ :: _, _, ⟨h1, h2⟩, h => ⟨h1, ArgsRel.append h2 h⟩
  | [], _, _ :: _, _, h, _ => h.elim
  | _ :: _, _, [], _, h, _ => h.elim

theorem ArgsRel.of_get {c : Cx} (f : Nat → AVal) : ∀ (n k : Nat) (cs : List Value), cs.length = n → (∀ j, j < n → Rel c (f (k + j)) (cs.getD j undef)) → ArgsRel c ((List.range' k n).map f) cs
  | 0, k, cs, hl, _ => by
    have : cs = [] := List.eq_nil_of_length_eq_zero hl
    subst this
    trivial
  | n + 1, k, c' :: cs, hl, h => by
    simp only [List.range'_succ, List.map_cons]
    refine ⟨by simpa using h 0 (Nat.succ_pos _), ArgsRel.of_get f n (k + 1) cs (by simpa using hl) fun j hj => ?_⟩
    have := h (j + 1) (by omega)
    rw [show k + 1 + j = k + (j + 1) by omega]
    simpa using this
  | n + 1, k, [], hl, _ => by simp at hl

/-- one function that may be called. -/
def Callable (P : Program) (f : FuncId) : Prop := ∃ fn, P.funcs[f]? = some fn ∧ fn.name ≠ "runtime.NumGoroutine" ∧ fn.body.isSome = true

theorem run_call {g : FuncId} (hf : Callable P g) {o : Oper} {ρ : Operand → Value} {x : Operand} {args : Array Operand} {ts : Array TypeId} (ho : o.op = .call { callee := .value x, args := args, argTypes := ts }) {caps : Array Value}
    (hx : ρ x = .func (.func g) #[] caps) : (execOp ρ o).run P w = .ok (.enter g (args.map ρ ++ caps)) w := by
  obtain ⟨fn, h1, h2, h3⟩ := hf
  have h4 : ¬ fn.body = none := by intro h; rw [h] at h3; cases h3
  simp [execOp, ho, resolve, hx, Deferred.ofValue, invoke, callFunc, h1, h2, h4]

/-- the values that are handed to a function: the arguments, then what it has captured. -/
def callArgs (e : Env) (args : List Operand) (n : Nat) (f : Nat → AVal) : List AVal := args.map (sv e) ++ (List.range' 0 n).map f

theorem callArgs_rel {e : Env} {c : Cx} {ρ : Operand → Value} (hρ : ∀ x, Rel c (evX e x) (ρ x)) {args : Array Operand} (hsc : argsC e args.toList) {n : Nat} {f : Nat → AVal} {caps : Array Value} (hn : caps.size = n)
    (hc : ∀ j, j < n → Rel c (f j) (caps.getD j undef)) : ArgsRel c (callArgs e args.toList n f) (args.map ρ ++ caps).toList := by
  simp only [callArgs, Array.toList_append, Array.toList_map]
  refine ArgsRel.append (sv_args hρ _ hsc) (ArgsRel.of_get f n 0 caps.toList (by simpa using hn) fun j hj => ?_)
  have := hc j hj
  simpa [Array.getD_eq_getD_getElem?, List.getD_eq_getElem?_getD] using this

/-- a call, carried out if its guard says so: 'g' = none where it has no guard. -/
def guardOf (ops : Array Oper) (o : Oper) (e : Env) : Option (Option Bool) :=
  match o.guard with
  | none => some none
  | some (j, want) => match (ops[j]?).bind (·.dst) with
    | some t => match gB want (lk e t) with
      | some g => some (some g)
      | none => none
    | none => none

theorem wanted_of {G : Gh} {mu : Id → Option Base} {st : St} {a : Act} {w : World} (hs : Sim G mu st a w) {ops : Array Oper} {o : Oper} {g : Option Bool} (hg : guardOf ops o st.env = some g) :
    Region.wanted o (yielded ops a.tmps) = g.getD true := by
  unfold guardOf at hg
  cases hgd : o.guard with
  | none =>
    simp only [hgd, Option.some.injEq] at hg
    subst hg
    simp [Region.wanted, hgd]
  | some jw =>
    obtain ⟨j, want⟩ := jw
    simp only [hgd] at hg
    split at hg
    · rename_i t ht
      split at hg
      · rename_i g' hgb
        simp only [Option.some.injEq] at hg
        subst hg
        have hrel := hs.env t
        simp only [Region.wanted, hgd, yielded, ht, Option.bind_some, Option.getD_some]
        have hgd' : ∀ b : Bool, a.tmps.getD t undef = .bool b → a.tmps[t]? = some (.bool b) := fun b hb => by
          rw [Array.getD_eq_getD_getElem?] at hb
          cases hx : a.tmps[t]? with
          | none => rw [hx] at hb; simp [undef] at hb
          | some y => rw [hx] at hb; simp at hb; rw [hb]
        have hund : a.tmps.getD t undef = undef → ∀ b : Bool, a.tmps[t]? ≠ some (.bool b) := fun hb b hx => by
          rw [Array.getD_eq_getD_getElem?, hx] at hb
          simp [undef] at hb
        cases hlk : lk st.env t <;> simp only [hlk, gB, Option.some.injEq, reduceCtorEq] at hgb
        · rename_i b
          rw [hlk] at hrel
          simp only [Rel] at hrel
          rw [hgd' b hrel]
          subst hgb
          cases b <;> cases want <;> rfl
        · rename_i g0 v0
          cases v0 <;> simp only [gB, Option.some.injEq, reduceCtorEq] at hgb
          rename_i b
          rw [hlk] at hrel
          cases g0 with
          | true =>
            have := hrel.1 rfl
            simp only [Rel] at this
            rw [hgd' b this]
            subst hgb
            cases b <;> cases want <;> rfl
          | false =>
            have := hund (hrel.2 rfl)
            subst hgb
            cases hx : a.tmps[t]? with
            | none => simp
            | some y =>
              rw [hx] at this
              cases y <;> simp at this ⊢
      · cases hg
    · cases hg

def optV (g : Option Bool) (v : AVal) : AVal := match g with
  | none => v
  | some g => .opt g v
def gHolds (g : Option Bool) : Prop := match g with
  | none => True
  | some g => g = true

theorem putSt_heap {nt : Nat} {e : Env} {h : Heap} {nx : Nat} {d : Option Tmp} {v : AVal} {s : St} (hp : putSt nt e h nx d v = some s) : s.heap = h ∧ s.nx = nx := by
  unfold putSt at hp
  split at hp
  · split at hp
    · injection hp with hp; subst hp; exact ⟨rfl, rfl⟩
    · cases hp
  · injection hp with hp; subst hp; exact ⟨rfl, rfl⟩

/-- a call of a function that only computes: one step. -/
theorem pc_ok {ops : Array Oper} {o : Oper} {st s : St} {x : Operand} {args : Array Operand} {ts : Array TypeId} (ho : o.op = .call { callee := .value x, args := args, argTypes := ts })
    {g : Option Bool} (hg : guardOf ops o st.env = some g) {f n : Nat} {fc : Nat → AVal} (hx : gHolds g → sv st.env x = .fn f n fc ∧ sc st.env x ∧ argsC st.env args.toList)
    (hf : Callable P f) {as : List AVal} {r : AVal} (hc : gHolds g → PC P f as r) (fz : Nat → Bool) (hflat : (∀ k, fz k = false) ∨ flat r) (hle : gHolds g → argsLe st.heap fz as (callArgs st.env args.toList n fc))
    (hput : putSt G.nt st.env st.heap st.nx o.dst (optV g r) = some s) {mu : Id → Option Base} {a : Act} {w : World} (hs : Sim G mu st a w) {Q : Exit → Act → World → Prop} {K : Act → World → Prop}
    (hgo : ∀ (a' : Act) (w' : World), Sim G mu s a' w' → (cx G st.heap mu st.nx w).Le (cx G s.heap mu s.nx w') → Kept w (fun _ => False) w' → K a' w') :
    if Region.wanted o (yielded ops a.tmps) then o.wp P a w K Q else K (a.put o.dst undef) w := by
  have hw := wanted_of hs hg
  by_cases hgt : g.getD true = true
  · have hgh : gHolds g := by
      cases g with
      | none => trivial
      | some b => simpa [gHolds] using hgt
    rw [if_pos (hw.trans hgt)]
    obtain ⟨hx1, hx2, hx3⟩ := hx hgh
    have hxr := strip_rel (hs.rho x) hx2
    have hxr' : Rel (cx G st.heap mu st.nx w) (sv st.env x) (a.eval x) := hxr
    rw [hx1] at hxr'
    obtain ⟨caps, hxv, hcn, hcr⟩ := hxr'
    unfold Oper.wp
    rw [run_call hf ho hxv]
    simp only [Oper.upon]
    have hargs := argsLe_rel hs.heap _ _ _ (hle hgh) (callArgs_rel (fun y => hs.rho y) hx3 hcn hcr)
    have hcall := hc hgh (lendO G st.heap mu fz) w _ (fun b hb => hs.heap.bound b hb.1) hargs
    simp only [Array.toArray_toList] at hcall
    refine hcall.mono ?_
    rintro e w' ⟨v, rfl, hkept, hrel⟩
    simp only
    obtain ⟨hLe, hok⟩ := hs.heap.grow hkept
    have hrel2 : Rel (cx G st.heap mu st.nx w') r v := by
      have h1 : Rel (c0 (Fb G.O st.heap mu) w') r v := by
        rcases hflat with h0 | h0
        · have : lendO G st.heap mu fz = Fb G.O st.heap mu := by
            funext b
            apply propext
            constructor
            · exact fun h => h.1
            · exact fun h => ⟨h, fun ⟨id, o, B, hfz, _⟩ => by rw [h0] at hfz; cases hfz⟩
          rw [this] at hrel
          exact hrel
        · exact flat_rel r v h0 hrel
      exact Rel.mono (c := c0 (Fb G.O st.heap mu) w') (c' := cx G st.heap mu st.nx w') ⟨Nat.le_refl _, fun _ _ h => h, fun _ _ _ _ => rfl, Nat.zero_le _, fun id hid => absurd hid (Nat.not_lt_zero _), fun _ h => h⟩ r v h1
    have hrel3 : Rel (cx G st.heap mu st.nx w') (optV g r) v := by
      cases g with
      | none => exact hrel2
      | some b =>
        have : b = true := by simpa using hgt
        exact ⟨fun _ => hrel2, fun h => (by rw [this] at h; cases h)⟩
    refine hgo _ _ (hs.put hLe hok hrel3 hput) ?_ hkept
    rw [(putSt_heap hput).1, (putSt_heap hput).2]
    exact hLe
  · rw [if_neg (by rw [hw]; exact hgt)]
    cases g with
    | none => simp at hgt
    | some b =>
      have hb : b = false := by simpa using hgt
      have hsim := hs.put (Cx.Le.refl _) hs.heap (v := optV (some b) r) (x := undef) ⟨fun h => (by rw [hb] at h; cases h), fun _ => rfl⟩ hput
      refine hgo _ _ hsim ?_ (Kept.refl _ _)
      rw [(putSt_heap hput).1, (putSt_heap hput).2]
      exact Cx.Le.refl _

/-- a call of a function that only computes. -/
theorem awpL_pc {ops l : List Oper} {o : Oper} {Q : St → Prop} {st s : St} {x : Operand} {args : Array Operand} {ts : Array TypeId} (ho : o.op = .call { callee := .value x, args := args, argTypes := ts })
    {g : Option Bool} (hg : guardOf ops.toArray o st.env = some g) {f n : Nat} {fc : Nat → AVal} (hx : gHolds g → sv st.env x = .fn f n fc ∧ sc st.env x ∧ argsC st.env args.toList)
    (hf : Callable P f) {as : List AVal} {r : AVal} (hc : gHolds g → PC P f as r) (fz : Nat → Bool) (hflat : (∀ k, fz k = false) ∨ flat r) (hle : gHolds g → argsLe st.heap fz as (callArgs st.env args.toList n fc))
    (hput : putSt G.nt st.env st.heap st.nx o.dst (optV g r) = some s) (h : AwpL P G n0 ops l Q s) : AwpL P G n0 ops (o :: l) Q st := by
  intro mu a w hs hn Q' hQ
  refine wpl_step (by rw [ho]; intro c hc; cases hc) fun K hK => ?_
  refine pc_ok ho hg hx hf hc fz hflat hle hput hs fun a' w' hs' hLe _ => hK _ _ (h mu a' w' hs' (by
    rw [(putSt_heap hput).2]; exact hn) Q' fun mu2 st2 a2 w2 h1 h2 h3 h4 => hQ mu2 st2 a2 w2 h1 h2 ((Stay.of hn hLe).trans h3) h4)
end
end Go.Lift
