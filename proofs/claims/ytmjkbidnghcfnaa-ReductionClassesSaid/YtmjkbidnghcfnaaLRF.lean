/-
  The abstract layer, part RF: ranges over functions: rounds as calls of yield, the statement.
-/
import Derived.Test.YtmjkbidnghcfnaaLX
import Derived.RangeFuncRecord
namespace Go.Lift
set_option linter.unusedSimpArgs false
set_option linter.unusedVariables false
open Go.RowKit

/-- a call of yield: vs are slots of the frame that the loop stands in. -/
def yieldC (P : Program) (l : Nat) (rec : Loop) (vs : Array Value) (all : List Value) (w : World) (R : Ending → World → Prop) : Prop :=
  ∀ vals : List Value, all = vals ++ vs.toList → w.heap[l]? = some (.loop rec) →
    RoundIn (fen none) 0 P l rec.fn ((rec.params.zip vals.toArray).foldl (fun tmps (t, a) => tmps.setIfInBounds t a) rec.tmps) rec.assign rec.body w R
/-- a call of the function that is ranged over, under the record l. -/
def iterC (P : Program) (f : FuncId) (l : Nat) (rec : Loop) (all : List Value) (w : World) (R : Ending → World → Prop) : Prop :=
  w.heap[l]? = some (.loop rec) → Calls P f all.toArray w R
def YC (P : Program) (l : Nat) (rec : Loop) (vs : Array Value) (args : List AVal) (hin : Heap) (nin : Nat) {α : Type} (I : α → Prop) (r : α → AVal) (hout : α → Heap) (nout : α → Nat) : Prop :=
  FCc (yieldC P l rec vs) args hin nin I r hout nout
def FCY (P : Program) (f : FuncId) (l : Nat) (rec : Loop) (args : List AVal) (hin : Heap) (nin : Nat) {α : Type} (I : α → Prop) (r : α → AVal) (hout : α → Heap) (nout : α → Nat) : Prop :=
  FCc (iterC P f l rec) args hin nin I r hout nout

theorem RoundIn.mono {F : Fence} {n : Nat} {P : Program} {l : Nat} {f : FuncId} {tmps : Array Value} {assign body : Code} {w : World} {R R' : Ending → World → Prop} (h : RoundIn F n P l f tmps assign body w R) (hr : ∀ e w', R e w' → R' e w') :
    RoundIn F n P l f tmps assign body w R' :=
  ⟨h.1, fun c cs hroom => let ⟨e, w', hR, hc⟩ := h.2 c cs hroom; ⟨e, w', hr _ _ hR, hc⟩⟩
theorem yieldC_mono {P : Program} {l : Nat} {rec : Loop} {vs : Array Value} {all : List Value} {w : World} {R R' : Ending → World → Prop} (h : yieldC P l rec vs all w R) (hr : ∀ e w', R e w' → R' e w') : yieldC P l rec vs all w R' :=
  fun vals h1 h2 => (h vals h1 h2).mono hr
theorem iterC_mono {P : Program} {f : FuncId} {l : Nat} {rec : Loop} {all : List Value} {w : World} {R R' : Ending → World → Prop} (h : iterC P f l rec all w R) (hr : ∀ e w', R e w' → R' e w') : iterC P f l rec all w R' :=
  fun h1 => (h h1).mono hr

section
variable {P : Program} {G : Gh} {n0 : Nat} {α : Type} {I : α → Prop} {r : α → AVal} {hout : α → Heap} {nout : α → Nat}

/-- no piece lies where a record lies. -/
theorem not_inB {G : Gh} {h : Heap} {mu : Id → Option Base} {nx : Nat} {w : World} (hk : HOk G h mu nx w) {l : Nat} {rec : Loop} (hl : w.heap[l]? = some (.loop rec)) : ¬ inB h mu l := by
  rintro ⟨id, o, B, h1, h2, rfl⟩
  have := (hk.obj id o h1).2
  rw [h2] at this
  rcases this.data hl with ⟨_, _, _, h3⟩ | ⟨_, _, h3⟩ <;> cases h3

theorem run_callYield {l : Nat} {rec : Loop} {w : World} {o : Oper} {ρ : Operand → Value} {x : Operand} {args : Array Operand} {ts : Array TypeId} (ho : o.op = .call { callee := .value x, args := args, argTypes := ts })
    (hx : ρ x = .func (.yield l) #[] #[]) (hl : w.heap[l]? = some (.loop rec)) (hs : args.size = rec.params.size) :
    (execOp ρ o).run P w = .ok (.round l rec.fn ((rec.params.zip (args.map ρ)).foldl (fun tmps (t, a) => tmps.setIfInBounds t a) rec.tmps) rec.assign rec.body) w := by
  have h1 := run_yield (P := P) (args := args.map ρ) hl (by simpa using hs)
  simp only [execOp, ho, resolve, Sem.run_bind, hx, Deferred.ofValue, Sem.run_pure, Result.andThen_ok, invoke, Array.empty_append, h1]

/-- a call of yield in the function that is ranged over. -/
theorem awpL_yield {l : Nat} {rec : Loop} {vs : Array Value} (hrec : G.w0.heap[l]? = some (.loop rec) ∧ ¬ G.mt l) (hR : G.rd = none) (ps : List Nat) (fz : Nat → Bool) {as : List AVal} {hin : Heap} (hc : YC P l rec vs as hin ps.length I r hout nout) {ops ls : List Oper} {o : Oper} {Q : St → Prop} {st : St} {x : Operand} {args : Array Operand} {ts : Array TypeId}
    (ho : o.op = .call { callee := .value x, args := args, argTypes := ts }) (hsz : args.size = rec.params.size) {g : Option Bool} (hg : guardOf ops.toArray o st.env = some g) (hgt : g.getD true = true) {n : Nat} {fc : Nat → AVal} (hx : sv st.env x = .yld l vs n fc) (hps : ps.Nodup ∧ ∀ k ∈ ps, k < st.nx)
    (hflat : (∀ k, fz k = false) ∨ ∀ x, I x → flat (r x) ∧ flatH (hout x)) (hsc : sc st.env x ∧ argsC st.env args.toList)
    (hle : argsLeS st.heap (sI (inId ps)) fz ps.length as (callArgs st.env args.toList n fc)) (hheap : heapLe st.heap (sI (inId ps)) fz (fun _ => false) ps.length hin)
    (h : ∀ K : St → Prop, (∀ s, AwpL P G n0 ops ls Q s → K s) → ∀ x, I x → ps.length ≤ nout x →
      goPut (putSt G.nt st.env (renH (outId ps st.nx) (hout x) ++ st.heap.filter fun e => !ps.contains e.1) (st.nx + (nout x - ps.length)) o.dst (ren (outId ps st.nx) (r x))) K) : AwpL P G n0 ops (o :: ls) Q st := by
  intro mu a w hs hn Q' hQ
  have hw := (wanted_of hs hg).trans hgt
  have hxr := strip_rel (hs.rho x) hsc.1
  have hxr' : Rel (cx G st.heap mu st.nx w) (sv st.env x) (a.eval x) := hxr
  rw [hx] at hxr'
  obtain ⟨hxv, hvs, hvr⟩ := hxr'
  have hl : w.heap[l]? = some (.loop rec) := by
    rw [hs.heap.kept.block l (lt_of_get hrec.1) hrec.2]; exact hrec.1
  refine wpListIn_step fun K hK => ?_
  rw [if_pos hw, hR]
  refine ⟨fun _ _ => trivial, ?_⟩
  rw [Oper.semAt_eq _ _ o (by rw [ho]; intro c hc; cases hc), run_callYield ho hxv hl hsz]
  rw [Oper.uponIn_round]
  refine ⟨fun hd => absurd hd (by simp [fen, Fence.wide]), ?_⟩
  have hvals : ArgsRel (cx G st.heap mu st.nx w) (callArgs st.env args.toList n fc) ((args.map a.eval).toList ++ vs.toList) := by
    have := callArgs_rel (caps := vs) (fun y => hs.rho y) hsc.2 hvs hvr
    simpa using this
  have key := fc_core (C := yieldC P l rec vs) yieldC_mono ps hps.1 hps.2 hc fz hflat hle hheap hs.heap hvals (K := fun v w' => K (a.put o.dst v) w') fun z hI hno v mu3 w' hok4 hLe hrelv hfr _ => by
    obtain ⟨s, hput, hs2⟩ := goPut_spec (h _ (fun _ hs => hs) z hI hno)
    have hsim := hs.put hLe hok4 hrelv hput
    have hLe' : (cx G st.heap mu st.nx w).Le (cx G s.heap mu3 s.nx w') := by
      rw [(putSt_heap hput).1, (putSt_heap hput).2]; exact hLe
    refine hK _ _ ?_
    exact hs2 mu3 _ w' hsim (Nat.le_trans hn hLe'.nx) Q' fun mu2 st2 a2 w2 h1 h2 h3 h4 => hQ mu2 st2 a2 w2 h1 h2 ((Stay.of hn hLe').trans h3) h4
  have := key _ rfl hl
  simp only [Array.toArray_toList] at this
  refine this.mono ?_
  rintro e w' ⟨v, rfl, hv⟩
  exact hv

/-- an operation that is not carried out. -/
theorem awpL_not (v : AVal) {ops ls : List Oper} {o : Oper} {Q : St → Prop} {st : St} (hg : guardOf ops.toArray o st.env = some (some false))
    (h : ∀ K : St → Prop, (∀ s, AwpL P G n0 ops ls Q s → K s) → goPut (putSt G.nt st.env st.heap st.nx o.dst (.opt false v)) K) (hnb : ∀ c, o.op ≠ .defer c) : AwpL P G n0 ops (o :: ls) Q st := by
  intro mu a w hs hn Q' hQ
  have hw := wanted_of hs hg
  refine wpl_step hnb fun K hK => ?_
  rw [if_neg (by rw [hw]; simp)]
  obtain ⟨s, hput, hs2⟩ := goPut_spec (h _ (fun _ hs => hs))
  have hsim := hs.put (Cx.Le.refl _) hs.heap (v := .opt false v) (x := undef) ⟨fun h => (by cases h), fun _ => rfl⟩ hput
  have hLe : (cx G st.heap mu st.nx w).Le (cx G s.heap mu s.nx w) := by
    rw [(putSt_heap hput).1, (putSt_heap hput).2]; exact Cx.Le.refl _
  exact hK _ _ (hs2 mu _ w hsim (Nat.le_trans hn hLe.nx) Q' fun mu2 st2 a2 w2 h1 h2 h3 h4 => hQ mu2 st2 a2 w2 h1 h2 ((Stay.of hn hLe).trans h3) h4)

/-- the contract of a function that is ranged over, out of a walk of its body. -/
theorem FCY_introS {T : Tab} (hT : TabOK P T) {f : FuncId} {fn : Func} {c : Code} {l : Nat} {rec : Loop} {args : List AVal} {hin : Heap} {nin : Nat} (hf : P.funcs[f]? = some fn) (hb : fn.body = some c) (hn : args.length ≤ fn.ntmps)
    (h : ∀ G : Gh, G.nt = fn.ntmps → G.rd = none → (G.w0.heap[l]? = some (.loop rec) ∧ ¬ G.mt l) → AwpS P G nin [c] (fun e st => match e with | .normal => RetF T fn.results.toList nin I r hout nout st | .ret => RetF T fn.results.toList nin I r hout nout st | _ => False) ⟨argEnv 0 args, hin, nin⟩) :
    FCY P f l rec args hin nin I r hout nout := by
  intro O w mu vals hok hargs hrec
  refine fc_body hT hf hb hn hok hargs (awp_mono (h _ rfl rfl ⟨hrec, not_inB hok hrec⟩) fun e s hq => ?_)
  cases e <;> exact hq

/-- what the record of a loop holds, as long as no round runs. -/
structure RecOK (rec : Loop) (kp : List Nat) (vs : Array Value) (ps : Array Tmp) (assign body : Option Code) (nt : Nat) : Prop where
  state : rec.state = .ready
  pending : rec.pending = none
  params : rec.params = ps
  assign : assign = some rec.assign
  body : body = some rec.body
  size : nt ≤ rec.tmps.size
  vs : vs = (kp.map fun t => rec.tmps.getD t undef).toArray

/-- the ranges over functions of a code, in order: assignment, body. -/
def rngs : Code → List (Code × Code)
  | .rangeFunc _ _ a b => (a, b) :: (rngs a ++ rngs b)
  | .seq a b => rngs a ++ rngs b
  | .cond _ a b => rngs a ++ rngs b
  | .block _ a => rngs a
  | .loop a => rngs a
  | .scope a => rngs a
  | _ => []
def rngA (c : Option Code) (i : Nat) : Option Code := match c with
  | some c => match (rngs c)[i]? with
    | some p => some p.1
    | none => none
  | none => none
def rngB (c : Option Code) (i : Nat) : Option Code := match c with
  | some c => match (rngs c)[i]? with
    | some p => some p.2
    | none => none
  | none => none

/-- at the end of a round: pieces. -/
def RetY (nin : Nat) {α : Type} (I : α → Prop) (hout : α → Heap) (nout : α → Nat) (st : St) : Prop :=
  ∃ x, I x ∧ ∃ σ fz vz, heapLe st.heap (sI σ) fz (vI vz) (nout x) (hout x) ∧ keyInj σ vz ((hout x).map (·.1)) = true ∧ nin ≤ nout x ∧ ∀ k, k < nin → σ k = k ∧ vz k = false

def bindE : List Tmp → List AVal → Env → Env
  | t :: ts, v :: vs, E => bindE ts vs ((t, v) :: E)
  | _, _, E => E
theorem lk_bind {c : Cx} : ∀ (ps : List Tmp) (as : List AVal) (vals : List Value) (E : Env) (tm : Array Value), ArgsRel c as vals → ps.length = as.length → (∀ p ∈ ps, p < tm.size) → (∀ t, Rel c (lk E t) (tm.getD t undef)) →
    (∀ t, Rel c (lk (bindE ps as E) t) (((ps.zip vals).foldl (fun tmps (t, a) => tmps.setIfInBounds t a) tm).getD t undef)) ∧ ((ps.zip vals).foldl (fun tmps (t, a) => tmps.setIfInBounds t a) tm).size = tm.size
  | [], [], [], E, tm, _, _, _, h => ⟨h, rfl⟩
  | p :: ps, a :: as, v :: vals, E, tm, hr, hl, hp, h => by
    simp only [List.zip_cons_cons, List.foldl_cons, bindE]
    have ih := lk_bind ps as vals ((p, a) :: E) (tm.setIfInBounds p v) hr.2 (by simpa using hl) (fun q hq => by simpa using hp q (List.mem_cons_of_mem _ hq)) fun t => by
      have hpt := hp p (List.mem_cons_self ..)
      simp only [lk]
      by_cases ht : p = t
      · subst ht
        rw [if_pos rfl]
        have : (tm.setIfInBounds p v).getD p undef = v := by simp [Array.getD, hpt]
        rw [this]
        exact hr.1
      · rw [if_neg ht]
        have : (tm.setIfInBounds p v).getD t undef = tm.getD t undef := by
          simp only [Array.getD_eq_getD_getElem?]
          rw [Array.getElem?_setIfInBounds_ne ht]
        rw [this]
        exact h t
    exact ⟨ih.1, by simpa using ih.2⟩
  | [], _ :: _, _, _, _, _, hl, _, _ => by simp at hl
  | _ :: _, [], _, _, _, _, hl, _, _ => by simp at hl
  | [], [], _ :: _, _, _, hr, _, _, _ => hr.elim
  | _ :: _, _ :: _, [], _, _, hr, _, _, _ => hr.elim
theorem lk_caps {c : Cx} {tm : Array Value} : ∀ (kp : List Nat) (as : List AVal), ArgsRel c as (kp.map fun t => tm.getD t undef) → ∀ t, Rel c (lk (kp.zip as) t) (tm.getD t undef)
  | [], [], _, t => trivial
  | k :: kp, a :: as, h, t => by
    simp only [List.zip_cons_cons, lk]
    by_cases ht : k = t
    · subst ht; rw [if_pos rfl]; exact h.1
    · rw [if_neg ht]; exact lk_caps kp as h.2 t
  | [], _ :: _, h, _ => h.elim
  | _ :: _, [], h, _ => h.elim

theorem ArgsRel.split {c : Cx} : ∀ {as bs : List AVal} {xs ys : List Value}, as.length = xs.length → ArgsRel c (as ++ bs) (xs ++ ys) → ArgsRel c as xs ∧ ArgsRel c bs ys
  | [], _, [], _, _, h => ⟨trivial, h⟩
  | _ :: _, _, _ :: _, _, hl, h => by
    have := ArgsRel.split (by simpa using hl) h.2
    exact ⟨⟨h.1, this.1⟩, this.2⟩
  | [], _, _ :: _, _, hl, _ => by simp at hl
  | _ :: _, _, [], _, hl, _ => by simp at hl

theorem kept_put {w0 w : World} {mt : Nat → Prop} (hk : Kept w0 mt w) {l : Nat} {x y : Obj} (hl : w0.heap[l]? = some x) (hm : ¬ mt l) : Kept (w0.putObj l y) mt (w.putObj l y) := by
  have hlt := lt_of_get hl
  refine ⟨hk.os, hk.tape, hk.output, hk.drawn, by rw [World.putObj_size, World.putObj_size]; exact hk.size, fun b hb hmt => ?_⟩
  rw [World.putObj_size] at hb
  by_cases h : b = l
  · subst h
    rw [World.putObj_heap_same (Nat.lt_of_lt_of_le hb hk.size), World.putObj_heap_same hb]
  · rw [World.putObj_heap_other h, World.putObj_heap_other h]
    exact hk.block b hb hmt
theorem putObj_back {w : World} {l : Nat} {x y : Obj} (hl : w.heap[l]? = some x) : (w.putObj l y).putObj l x = w := by
  unfold World.putObj
  congr 1
  apply Array.ext_getElem?
  intro i
  show ((w.heap.setIfInBounds l y).setIfInBounds l x)[i]? = _
  by_cases h : l = i
  · subst h
    rw [Array.getElem?_setIfInBounds_self_of_lt (by simpa using lt_of_get hl)]
    exact hl.symm
  · rw [Array.getElem?_setIfInBounds_ne h, Array.getElem?_setIfInBounds_ne h]

/-- the record is written anew: the call begins in a world with the new record. -/
theorem Sim.rebase {w0 : World} {mt O : Nat → Prop} {nt : Nat} {rd rd' : Option Nat} {mu : Id → Option Base} {st : St} {a : Act} {w : World} (hs : Sim ⟨w0, mt, O, nt, rd⟩ mu st a w) {l : Nat} {rc rc' : Loop} (hl0 : w0.heap[l]? = some (.loop rc)) (hm : ¬ mt l) (r2 : Loop) :
    w.heap[l]? = some (.loop rc) ∧ Sim ⟨w0.putObj l (.loop r2), mt, O, nt, rd'⟩ mu st a (w.putObj l (.loop r2)) := by
  have hk := hs.heap
  have hl : w.heap[l]? = some (.loop rc) := (hk.kept.block l (lt_of_get hl0) hm).trans hl0
  have hc : (cx ⟨w0, mt, O, nt, rd⟩ st.heap mu st.nx w).Lc (cx ⟨w0.putObj l (.loop r2), mt, O, nt, rd'⟩ st.heap mu st.nx (w.putObj l (.loop r2))) :=
    ⟨Nat.le_of_eq (World.putObj_size).symm, fun _ _ h => h, fun b off _ _ => cell?_put (o := .loop r2) hl trivial trivial _, Nat.le_refl _, fun _ _ => rfl⟩
  have hne : ∀ id o B, lkH st.heap id = some o → mu id = some B → B.b ≠ l := fun id o B h1 h2 e => not_inB hk hl ⟨id, o, B, h1, h2, e⟩
  refine ⟨hl, ?_, hs.size, fun t => (hs.env t).monoC hc, fun id o h1 => ⟨(hk.obj id o h1).1, (hk.obj id o h1).2.monoC hc fun B hB => World.putObj_heap_other (hne id o B h1 hB)⟩, hk.sep, fun id o B h1 h2 => ?_, kept_put hk.kept hl0 hm, fun b hb => ?_⟩
  · obtain ⟨Ds, h1, h2, h3⟩ := hs.defers
    refine ⟨Ds, h1, h2, fun D hD => ⟨?_, ?_⟩⟩
    · show (w0.putObj l _).heap.size ≤ D
      rw [World.putObj_size]; exact (h3 D hD).1
    · rw [World.putObj_heap_other (fun e => by have := (h3 D hD).2; rw [e, hl] at this; cases this)]
      exact (h3 D hD).2
  · show B.b < (w.putObj l _).heap.size ∧ ((w0.putObj l _).heap.size ≤ B.b ∨ mt B.b) ∧ ¬ O B.b
    rw [World.putObj_size, World.putObj_size]
    exact hk.own id o B h1 h2
  · show b < (w0.putObj l _).heap.size
    rw [World.putObj_size]
    exact hk.out b hb

/-- the contract of a round out of the walks of the assignment to the loop's variables and of its body. -/
theorem RetY_of {nin : Nat} {st : St} (x : α) (σ : Nat → Nat) (fz vz : Nat → Bool) (hI : I x) (hh : heapLe st.heap (sI σ) fz (vI vz) (nout x) (hout x)) (hinj : keyInj σ vz ((hout x).map (·.1)) = true) (hno : nin ≤ nout x) (hid : ∀ k, k < nin → σ k = k ∧ vz k = false) : RetY nin I hout nout st :=
  ⟨x, hI, σ, fz, vz, hh, hinj, hno, hid⟩
theorem YC_introS {l : Nat} {rec : Loop} {kp : List Nat} {vs : Array Value} {ps : Array Tmp} {A B : Option Code} {assign body : Code} {nt : Nat} (hok : RecOK rec kp vs ps A B nt) (hA : A = some assign) (hB : B = some body) {args caps : List AVal} {hin : Heap} {nin : Nat} (hpl : ps.size = args.length) (hpn : ∀ p ∈ ps.toList, p < nt) (hcl : caps.length = kp.length)
    (h : ∀ G : Gh, G.nt = nt → G.rd = some l → AwpS P G nin [assign] (fun e st1 => e = .normal ∧ ∀ G : Gh, G.nt = nt → G.rd = some l → AwpS P G nin [body] (fun e st => e = .normal ∧ RetY nin I hout nout st) st1) ⟨bindE ps.toList args (kp.zip caps), hin, nin⟩) :
    YC P l rec vs (args ++ caps) hin nin I (fun _ => .bool true) hout nout := by
  intro O w mu all hk hargs vals hall hl
  subst hall
  obtain ⟨h1, h2, h3, h4, h5, h6, h7⟩ := hok
  subst hA hB
  injection h4 with h4
  injection h5 with h5
  subst h4 h5
  have hnl := not_inB hk hl
  have hlen : args.length = vals.length := by
    have := hargs.length
    rw [h7] at this
    simp only [List.length_append, List.length_map] at this
    omega
  obtain ⟨ha1, ha2⟩ := hargs.split hlen
  rw [h7] at ha2
  simp only at ha2
  have hb := lk_bind ps.toList args vals (kp.zip caps) rec.tmps ha1 (by simpa using hpl) (fun p hp => Nat.lt_of_lt_of_le (hpn p hp) h6) (lk_caps kp caps ha2)
  let tm := (ps.toList.zip vals).foldl (fun tmps (t, a) => tmps.setIfInBounds t a) rec.tmps
  have hfold : (rec.params.zip vals.toArray).foldl (fun tmps (t, a) => tmps.setIfInBounds t a) rec.tmps = tm := by
    rw [h3, ← Array.foldl_toList]
    simp [tm]
  let Ga : Gh := ⟨w, inB hin mu, O, nt, some l⟩
  have hsim : Sim Ga mu ⟨bindE ps.toList args (kp.zip caps), hin, nin⟩ { tmps := tm, defers := [] } w :=
    ⟨DefOK.nil, by show nt ≤ tm.size; rw [show tm.size = rec.tmps.size from hb.2]; exact h6, hb.1, hk.ghost rfl rfl rfl⟩
  show RoundIn (fen none) 0 P l rec.fn _ rec.assign rec.body w _
  rw [hfold]
  refine roundIn_of_wpIn trivial ?_
  have step1 := h Ga rfl rfl mu _ w hsim (Nat.le_refl _) (Exit.then (fun a₁ w₁ => ∃ w₂, (Instr.beginRound l).run P w₁ = .ok () w₂ ∧ rec.body.wpIn ((fen none).inRound l) 0 P (roundPost P l fun e w' => ∃ v x mu', e = .returned v ∧ I x ∧ nin ≤ nout x ∧ (∀ id : Id, id.1 < nin → mu' id = mu id) ∧
      HOk ⟨w, inB hin mu, O, 0, none⟩ (hout x) mu' (nout x) w' ∧ Rel (cx ⟨w, inB hin mu, O, 0, none⟩ (hout x) mu' (nout x) w') (.bool true) v) a₁ w₂) (fun _ _ _ => False)) ?_
  · exact step1
  · intro e mu1 st1 a1 w1 hs1 hn1 hst1 hq
    have hq2 : e = .normal ∧ ∀ G : Gh, G.nt = nt → G.rd = some l → AwpS P G nin [rec.body] (fun e st => e = .normal ∧ RetY nin I hout nout st) st1 := by
      cases e <;> exact hq
    obtain ⟨rfl, hbody⟩ := hq2
    obtain ⟨hl1, hs2⟩ := Sim.rebase (rd' := some l) (rc' := rec) hs1 hl hnl { rec with state := .busy }
    refine ⟨_, run_beginRound hl1 h1, ?_⟩
    refine hbody ⟨_, _, _, _, _⟩ rfl rfl mu1 a1 _ hs2 hn1 _ ?_
    intro e mu2 st2 a2 w3 hs3 hn3 hst3 hq
    have hq2 : e = .normal ∧ RetY nin I hout nout st2 := by cases e <;> exact hq
    obtain ⟨rfl, x, hI, σ, fz, vz, hh, hinj, hno, hid⟩ := hq2
    have hlb : (w.putObj l (.loop { rec with state := .busy })).heap[l]? = some (.loop { rec with state := .busy }) := World.putObj_heap_same (lt_of_get hl)
    obtain ⟨hl3, hs4⟩ := Sim.rebase (rd' := none) (rc' := rec) hs3 hlb hnl rec
    have hend : (Instr.endRound l none).run P w3 = .ok (.bool true) (w3.putObj l (.loop rec)) := by
      rw [run_endRound none hl3]
      have : ({ state := .ready, pending := none, fn := rec.fn, tmps := rec.tmps, params := rec.params, assign := rec.assign, body := rec.body, defers := rec.defers } : Loop) = rec := by
        cases rec; simp only at h1 h2; subst h1 h2; rfl
      simp [this]
    refine ⟨_, _, hend, ?_⟩
    rw [putObj_back hl] at hs4
    have hwk := wk_of (G := ⟨w, inB hin mu, O, nt, none⟩) (n0 := nin) (st := ⟨[], st2.heap, st2.nx⟩) (st2 := ⟨[], hout x, nout x⟩) σ fz vz trivial hh hinj hno hid
    obtain ⟨mu3, k1, k2, k3⟩ := hwk mu2 a2 _ ⟨hs4.defers, hs4.size, fun t => trivial, hs4.heap⟩ hn3
    refine ⟨_, x, mu3, rfl, hI, hno, fun id hid' => ?_, k1.heap.ghost rfl rfl rfl, rfl⟩
    exact (k3.le.mu id hid').trans ((hst3.le.mu id hid').trans (hst1.le.mu id hid'))

theorem Le_put {G : Gh} {h : Heap} {mu : Id → Option Base} {nx : Nat} {w : World} {D : Nat} {o x : Obj} (hx : w.heap[D]? = some x) (h1 : noCells x) (h2 : noCells o) (hd : ∀ ds, x ≠ .deferred ds) : (cx G h mu nx w).Le (cx G h mu nx (w.putObj D o)) :=
  ⟨Nat.le_of_eq (World.putObj_size).symm, fun _ _ h => h, fun b off _ _ => cell?_put hx h1 h2 _, Nat.le_refl _, fun _ _ => rfl, fun E hE => by
    show (w.putObj D o).heap[E]? = _
    rw [World.putObj_heap_other (fun e => by
      have hE' : w.heap[E]? = _ := hE
      rw [e, hx] at hE'
      injection hE' with hE'
      exact hd _ hE')]
    exact hE⟩

theorem kept_alloc {w : World} (x : Obj) : Kept w (fun _ => False) (w.alloc x) :=
  ⟨rfl, rfl, rfl, Nat.le_refl _, by simp, fun b hb _ => by
    show (w.heap.push x)[b]? = _
    rw [Array.getElem?_push, if_neg (Nat.ne_of_lt hb)]⟩
theorem Kept.trans0 {w w1 w2 : World} (h : Kept w (fun _ => False) w1) (k : Kept w1 (fun _ => False) w2) : Kept w (fun _ => False) w2 :=
  ⟨k.os.trans h.os, k.tape.trans h.tape, k.output.trans h.output, Nat.le_trans h.drawn k.drawn, Nat.le_trans h.size k.size, fun b hb hm => (k.block b (Nat.lt_of_lt_of_le hb h.size) hm).trans (h.block b hb hm)⟩

/-- the statement: for .. := range g { .. }. kp: the slots that the body uses. -/
theorem awpS_range (hR : G.rd = none) {g : Operand} {pr : Array Tmp} {assign body : Code} {cs : List Code} {Q : Exit → St → Prop} {st : St} (kp ps : List Nat) (fz : Nat → Bool) {f n : Nat} {fc : Nat → AVal} (hf : Callable P f) (hx : sv st.env g = .fn f n fc) (hsc : sc st.env g)
    {as : Nat → Array Value → List AVal} {hin : Heap} (hc : ∀ l rec vs, RecOK rec kp vs pr (some assign) (some body) G.nt → FCY P f l rec (as l vs) hin ps.length I r hout nout) (hps : ps.Nodup ∧ ∀ k ∈ ps, k < st.nx)
    (hflat : (∀ k, fz k = false) ∨ ∀ x, I x → flat (r x) ∧ flatH (hout x))
    (hle : ∀ l vs, argsLeS st.heap (sI (inId ps)) fz ps.length (as l vs) (.yld l vs kp.length (fun j => (kp.map (lk st.env)).getD j .any) :: (List.range' 0 n).map fc)) (hheap : heapLe st.heap (sI (inId ps)) fz (fun _ => false) ps.length hin)
    (h : ∀ K : St → Prop, (∀ s, AwpS P G n0 cs Q s → K s) → ∀ x, I x → ps.length ≤ nout x → K ⟨st.env, renH (outId ps st.nx) (hout x) ++ st.heap.filter (fun e => !ps.contains e.1), st.nx + (nout x - ps.length)⟩) :
    AwpS P G n0 (.rangeFunc g pr assign body :: cs) Q st := by
  intro mu a w hs hn Q' hQ
  have hxr := strip_rel (hs.rho g) hsc
  have hxr' : Rel (cx G st.heap mu st.nx w) (sv st.env g) (a.eval g) := hxr
  rw [hx] at hxr'
  obtain ⟨caps, hxv, hcn, hcr⟩ := hxr'
  rw [hR]
  refine wpIn_rangeFunc fun fn _ => ?_
  let rec' : Loop := { state := .ready, pending := none, fn, tmps := a.tmps, params := pr, assign, body, defers := w.heap.size }
  let vs : Array Value := (kp.map fun t => a.tmps.getD t undef).toArray
  let l := w.heap.size + 1
  let w1 := (w.alloc (.deferred (some []))).alloc (.loop rec')
  have hgrow : Kept w (fun _ => False) w1 := (kept_alloc _).trans0 (kept_alloc _)
  obtain ⟨hLe1, hk1⟩ := hs.heap.grow hgrow
  have hl1 : w1.heap[l]? = some (.loop rec') := by
    have := heap_new (w.alloc (.deferred (some []))) (.loop rec')
    simpa [w1, l] using this
  have hD1 : w1.heap[w.heap.size]? = some (Obj.deferred (some [])) := alloc_dfr (heap_new w _)
  obtain ⟨fd, hf1, hf2, hf3⟩ := hf
  have hf4 : ¬ fd.body = none := by intro h; rw [h] at hf3; cases hf3
  refine ⟨l, [{ target := .collected w.heap.size, args := #[] }], w1, { target := .fn (.func f) caps, args := #[.func (.yield l) #[] #[]] }, w1, f, #[.func (.yield l) #[] #[]] ++ caps, w1, run_enterLoop_outer _ _ _ _ _, ?_, fun _ _ => trivial, ?_, fun hd => absurd hd (by simp [fen, Fence.wide]), calls_fen ?_⟩
  · have hcst : ∀ v, a.eval (.const v) = v := fun _ => rfl
    simp [resolve, rangeCall, hxv, hcst, Deferred.ofValue]
  · simp [invoke, callFunc, hf1, hf2, hf4]
  · have hvals : ArgsRel (cx G st.heap mu st.nx w1) (.yld l vs kp.length (fun j => (kp.map (lk st.env)).getD j .any) :: (List.range' 0 n).map fc) (.func (.yield l) #[] #[] :: caps.toList) := by
      refine ⟨⟨rfl, by simp [vs], fun j hj => ?_⟩, ArgsRel.of_get fc n 0 caps.toList (by simpa using hcn) fun j hj => ?_⟩
      · have h1 : (kp.map (lk st.env)).getD j .any = lk st.env (kp.getD j 0) := by simp [List.getD, hj]
        have h2 : vs.getD j undef = a.tmps.getD (kp.getD j 0) undef := by simp [vs, Array.getD_eq_getD_getElem?, List.getD, hj]
        show Rel _ ((kp.map (lk st.env)).getD j .any) _
        rw [h1, h2]
        exact (hs.env _).mono hLe1
      · have := (hcr j hj).mono hLe1
        simpa [Array.getD_eq_getD_getElem?, List.getD_eq_getElem?_getD] using this
    have hin1 : ∀ b, w.heap.size ≤ b → ¬ inB st.heap mu b := by
      rintro b hb ⟨id, o, B, h1, h2, rfl⟩
      exact absurd (hs.heap.own id o B h1 h2).1 (Nat.not_lt.2 hb)
    have key := fc_core (C := iterC P f l rec') iterC_mono ps hps.1 hps.2 (hc l rec' vs ⟨rfl, rfl, rfl, rfl, rfl, hs.size, rfl⟩) fz hflat (hle l vs) hheap hk1 hvals (K := fun v w3 => rangePost (fen none) 0 P l Q' { a with defers := [{ target := .collected w.heap.size, args := #[] }] ++ a.defers } (.returned v) w3) fun z hI hno v mu3 w3 hok4 hLe hrelv _ hfr => by
      have hl3 : w3.heap[l]? = some (.loop rec') := (hfr l (lt_of_get hl1) (hin1 l (Nat.le_succ _))).trans hl1
      refine ⟨none, w3.putObj l (.loop { rec' with state := .exhausted }), run_endLoop hl3 (by intro e; cases e), ?_⟩
      have hK := h _ (fun _ hs => hs) z hI hno
      have hLe3 := Le_put (G := G) (h := renH (outId ps st.nx) (hout z) ++ st.heap.filter (fun e => !ps.contains e.1)) (mu := mu3) (nx := st.nx + (nout z - ps.length)) (o := .loop { rec' with state := .exhausted }) hl3 trivial trivial (fun ds e => by cases e)
      have hLe02 := (hLe1.trans hLe).trans hLe3
      have hw0 : G.w0.heap.size ≤ w.heap.size := hs.heap.kept.size
      refine hQ .normal mu3 _ _ _ ⟨?_, hs.size, fun t => ((hs.env t).mono hLe02), (hok4.put (o := .loop { rec' with state := .exhausted }) hl3 trivial trivial (fun _ _ e => by cases e) (.inl (Nat.le_trans hw0 (Nat.le_succ _)))).1⟩ (Nat.le_trans hn (Nat.le_add_right _ _)) (Stay.of hn hLe02) hK
      obtain ⟨Ds, d1, d2, d3⟩ := hs.defers
      refine ⟨w.heap.size :: Ds, by simp [d1], List.nodup_cons.2 ⟨fun hm => ?_, d2⟩, fun D hD => ?_⟩
      · exact absurd (lt_of_get (d3 _ hm).2) (Nat.lt_irrefl _)
      · rcases List.mem_cons.1 hD with rfl | hD
        · refine ⟨hw0, ?_⟩
          rw [World.putObj_heap_other (Nat.ne_of_lt (Nat.lt_succ_self _))]
          exact (hfr _ (lt_of_get hD1) (hin1 _ (Nat.le_refl _))).trans hD1
        · exact ⟨(d3 D hD).1, hLe02.dfr D (d3 D hD).2⟩
    have key2 := key hl1
    have ha : (#[Value.func (.yield l) #[] #[]] ++ caps) = (.func (.yield l) #[] #[] :: caps.toList).toArray := by simp
    rw [ha]
    refine key2.mono ?_
    rintro e w3 ⟨v, rfl, hv⟩
    exact hv
theorem argsLe_clo {h : Heap} {fz : Nat → Bool} : ∀ l : List AVal, (∀ v ∈ l, Clo v) → argsLe h fz l l
  | [], _ => trivial
  | v :: l, hl => ⟨Clo.le v (hl v (List.mem_cons_self ..)), argsLe_clo l fun x hx => hl x (List.mem_cons_of_mem _ hx)⟩
theorem argsLe_caps {h : Heap} {fz : Nat → Bool} {n : Nat} {f : Nat → AVal} (hf : ∀ j, j < n → Clo (f j)) : argsLe h fz ((List.range' 0 n).map f) ((List.range' 0 n).map f) :=
  argsLe_clo _ fun v hv => by
    obtain ⟨j, hj, rfl⟩ := List.mem_map.1 hv
    exact hf j (by simpa using hj)
end
end Go.Lift
