/-
  The abstract layer, part N: contracts of functions that only compute on what they are given, and calls of them.
-/
import Derived.Test.YtmjkbidnghcfnaaLM
import Derived.RangeFuncRecord
namespace Go.Lift
set_option linter.unusedSimpArgs false
set_option linter.unusedVariables false
open Go.RowKit

def c0 (O : Nat → Prop) (w : World) : Cx := ⟨w, O, fun _ => none, 0⟩

def ArgsRel (c : Cx) : List AVal → List Value → Prop
  | [], [] => True
  | v :: r, x :: r' => Rel c v x ∧ ArgsRel c r r'
  | _, _ => False

/-- the call hands back r, and nothing that was there before is turned. -/
def PC (P : Program) (f : FuncId) (args : List AVal) (r : AVal) : Prop :=
  ∀ (O : Nat → Prop) (w : World) (vals : List Value), (∀ b, O b → b < w.heap.size) → ArgsRel (c0 O w) args vals →
    Calls P f vals.toArray w fun e w' => ∃ v, e = .returned v ∧ Kept w (fun _ => False) w' ∧ Rel (c0 O w') r v

def argEnv : Nat → List AVal → Env
  | _, [] => []
  | i, v :: r => (i, v) :: argEnv (i + 1) r

theorem ArgsRel.length {c : Cx} : ∀ {as : List AVal} {vs : List Value}, ArgsRel c as vs → vs.length = as.length
  | [], [], _ => rfl
  | _ :: _, _ :: _, h => by simp [ArgsRel.length h.2]
  | [], _ :: _, h => h.elim
  | _ :: _, [], h => h.elim

theorem lk_argEnv {c : Cx} : ∀ {as : List AVal} {vs : List Value} (i t : Nat) (rest : Array Value), ArgsRel c as vs → Rel c (lk (argEnv i as) t) (if i ≤ t then (vs.toArray ++ rest).getD (t - i) undef else undef)
  | [], [], i, t, rest, _ => trivial
  | v :: as, x :: vs, i, t, rest, h => by
    simp only [argEnv, lk]
    by_cases hit : i = t
    · subst hit
      rw [if_pos rfl, if_pos (Nat.le_refl _), Nat.sub_self]
      have : ((x :: vs).toArray ++ rest).getD 0 undef = x := by
        rw [Array.getD_eq_getD_getElem?, Array.getElem?_append_left (by simp)]
        simp
      rw [this]
      exact h.1
    · rw [if_neg hit]
      have ih := lk_argEnv (c := c) (i + 1) t rest h.2
      by_cases hle : i ≤ t
      · rw [if_pos (show i + 1 ≤ t by omega)] at ih
        rw [if_pos hle]
        have : ((x :: vs).toArray ++ rest).getD (t - i) undef = (vs.toArray ++ rest).getD (t - (i + 1)) undef := by
          rw [show t - i = (t - (i + 1)) + 1 by omega]
          simp only [Array.getD_eq_getD_getElem?, Array.getElem?_append]
          simp
        rw [this]
        exact ih
      · rw [if_neg (show ¬ i + 1 ≤ t by omega)] at ih
        rw [if_neg hle]
        exact ih
  | [], _ :: _, _, _, _, h => h.elim
  | _ :: _, [], _, _, _, h => h.elim

def evRes1 (T : Tab) (st : St) : ResultVar → Option (AVal × Prop)
  | .tmp t => some (strip (lk st.env t))
  | .cell a t => match evLoad T st.heap t (strip (lk st.env a)).1 with
    | some (v, c) => some (v, (strip (lk st.env a)).2 ∧ c)
    | none => none
def evResL (T : Tab) (st : St) : List ResultVar → Option (List AVal × Prop)
  | [] => some ([], True)
  | x :: r => match evRes1 T st x, evResL T st r with
    | some (v, c), some (vs, c') => some (v :: vs, c ∧ c')
    | _, _ => none
def evRes (T : Tab) (st : St) (l : List ResultVar) : Option (AVal × Prop) :=
  match evResL T st l with
  | some ([v], c) => some (v, c)
  | some (vs, c) => some (.tup vs.length (fun j => vs.getD j .any), c)
  | none => none

/-- at the end of a call the results are what they should be. -/
def RetOK (T : Tab) (res : List ResultVar) (r : AVal) (st : St) : Prop :=
  ∃ v c, evRes T st res = some (v, c) ∧ c ∧ VLe st.heap id (fun _ => true) (fun _ => false) 0 r v

def resOne (tmps : Array Value) : ResultVar → Sem Value
  | .tmp t => pure (tmps.getD t undef)
  | .cell b t => do loadVar t (← asAddr (tmps.getD b undef))
theorem results_eq (fn : Func) (tmps : Array Value) : results fn tmps = (do
    let vs ← fn.results.mapM (resOne tmps)
    pure (if h : vs.size = 1 then vs[0] else .tuple vs)) := by
  unfold results
  refine congrArg (fun g : ResultVar → Sem Value => (do
    let vs ← fn.results.mapM g
    pure (if h : vs.size = 1 then vs[0] else .tuple vs))) ?_
  funext x
  cases x <;> rfl

section
variable {P : Program}

theorem evRes1_ok {T : Tab} (hT : TabOK P T) {G : Gh} {mu : Id → Option Base} {st : St} {a : Act} {w : World} (hs : Sim G mu st a w) {x : ResultVar} {v : AVal} {c : Prop} (he : evRes1 T st x = some (v, c)) (hc : c) :
    ∃ y, (resOne a.tmps x).run P w = .ok y w ∧ Rel (cx G st.heap mu st.nx w) v y := by
  cases x with
  | tmp t =>
    simp only [evRes1, Option.some.injEq] at he
    rw [Prod.ext_iff] at he
    obtain ⟨rfl, rfl⟩ := he
    exact ⟨_, rfl, strip_rel (hs.env t) hc⟩
  | cell b t =>
    simp only [evRes1] at he
    split at he
    · rename_i v' c' hev
      simp only [Option.some.injEq, Prod.mk.injEq] at he
      obtain ⟨rfl, rfl⟩ := he
      have hr := strip_rel (hs.env b) hc.1
      have hadr : ∃ ad, a.tmps.getD b undef = .pointer (some ad) := by
        unfold evLoad at hev
        cases hi : T t with
        | none => simp [hi] at hev
        | some i =>
          cases hlk : (strip (lk st.env b)).1 <;> simp only [hlk, hi, reduceCtorEq] at hev
          · rw [hlk] at hr; obtain ⟨_, B, _, hx⟩ := hr; exact ⟨_, hx⟩
          · rw [hlk] at hr; obtain ⟨_, _, hx, _⟩ := hr; exact ⟨_, hx⟩
      obtain ⟨ad, had⟩ := hadr
      rw [had] at hr
      obtain ⟨z, hz, hzr⟩ := evLoad_pure hT hs.heap hev hc.2 hr
      refine ⟨z, ?_, hzr⟩
      simp only [resOne, had]
      simpa [asAddr, Instr.loadAt, Instr.sureAddr] using hz
    · cases he

theorem evResL_ok {T : Tab} (hT : TabOK P T) {G : Gh} {mu : Id → Option Base} {st : St} {a : Act} {w : World} (hs : Sim G mu st a w) :
    ∀ (l : List ResultVar) (vs : List AVal) (c : Prop), evResL T st l = some (vs, c) → c →
      ∃ ys, (l.mapM (resOne a.tmps)).run P w = .ok ys w ∧ ArgsRel (cx G st.heap mu st.nx w) vs ys
  | [], vs, c, he, _ => by
    simp only [evResL, Option.some.injEq, Prod.mk.injEq] at he
    obtain ⟨rfl, _⟩ := he
    exact ⟨[], by simp, trivial⟩
  | x :: r, vs, c, he, hc => by
    simp only [evResL] at he
    split at he
    · rename_i v c1 vs' c2 h1 h2
      simp only [Option.some.injEq, Prod.mk.injEq] at he
      obtain ⟨rfl, rfl⟩ := he
      obtain ⟨y, hy, hyr⟩ := evRes1_ok hT hs h1 hc.1
      obtain ⟨ys, hys, hysr⟩ := evResL_ok hT hs r vs' c2 h2 hc.2
      refine ⟨y :: ys, ?_, hyr, hysr⟩
      simp only [List.mapM_cons, Sem.run_bind, hy, Result.andThen_ok, hys, Sem.run_pure]
    · cases he

theorem ArgsRel.get {c : Cx} : ∀ {as : List AVal} {vs : List Value}, ArgsRel c as vs → ∀ j, j < as.length → Rel c (as.getD j .any) (vs.getD j undef)
  | _ :: _, _ :: _, h, 0, _ => by simpa using h.1
  | _ :: _, _ :: _, h, j + 1, hj => by
    have := ArgsRel.get h.2 j (by simpa using hj)
    simpa using this
  | [], [], _, j, hj => by simp at hj
  | [], _ :: _, h, _, _ => h.elim
  | _ :: _, [], h, _, _ => h.elim

theorem evRes_ok {T : Tab} (hT : TabOK P T) {G : Gh} {mu : Id → Option Base} {st : St} {a : Act} {w : World} (hs : Sim G mu st a w) {fn : Func} {v : AVal} {c : Prop} (he : evRes T st fn.results.toList = some (v, c)) (hc : c) :
    ∃ y, (results fn a.tmps).run P w = .ok y w ∧ Rel (cx G st.heap mu st.nx w) v y := by
  unfold evRes at he
  have hmap : ∀ ys, (fn.results.toList.mapM (resOne a.tmps)).run P w = .ok ys w →
      (fn.results.mapM (resOne a.tmps)).run P w = .ok ys.toArray w := fun ys h => by
    rw [Array.mapM_eq_mapM_toList]
    simp [h]
  split at he
  · rename_i v' c' hl
    simp only [Option.some.injEq, Prod.mk.injEq] at he
    obtain ⟨rfl, rfl⟩ := he
    obtain ⟨ys, hys, hr⟩ := evResL_ok hT hs _ _ _ hl hc
    have hlen := hr.length
    match ys, hlen, hr with
    | [y], _, hr =>
      refine ⟨y, ?_, hr.1⟩
      rw [results_eq]
      simp only [Sem.run_bind, hmap _ hys, Result.andThen_ok]
      rfl
  · rename_i vs c' hne hl
    simp only [Option.some.injEq, Prod.mk.injEq] at he
    obtain ⟨rfl, rfl⟩ := he
    obtain ⟨ys, hys, hr⟩ := evResL_ok hT hs _ _ _ hl hc
    have hlen := hr.length
    refine ⟨.tuple ys.toArray, ?_, ys.toArray, rfl, by simpa using hlen, fun j hj => ?_⟩
    · rw [results_eq]
      simp only [Sem.run_bind, hmap _ hys, Result.andThen_ok]
      have : ¬ ys.toArray.size = 1 := by
        intro h1
        have h2 : vs.length = 1 := by rw [← hlen]; simpa using h1
        match vs, h2 with
        | [v], _ => exact hne v rfl
      rw [dif_neg this]
      rfl
    · have := hr.get j hj
      simpa [Array.getD_eq_getD_getElem?, List.getD_eq_getElem?_getD] using this
  · cases he

/-- objects without cells: marks' blocks, records of loops. -/
def noCells : Obj → Prop
  | .cells .. => False
  | _ => True
theorem cell?_put {w : World} {D : Nat} {o x : Obj} (hx : w.heap[D]? = some x) (h1 : noCells x) (h2 : noCells o) (a : Addr) : (w.putObj D o).cell? a = w.cell? a := by
  by_cases h : a.block = D
  · have e1 : (w.putObj D o).heap[a.block]? = some o := by rw [h]; exact World.putObj_heap_same (lt_of_get hx)
    have e2 : w.heap[a.block]? = some x := by rw [h]; exact hx
    simp only [World.cell?, e1, e2]
    cases o <;> cases x <;> first | rfl | exact h1.elim | exact h2.elim
  · exact World.cell?_of_block (World.putObj_heap_other h)
theorem Lc_put {G : Gh} {h : Heap} {mu : Id → Option Base} {nx : Nat} {w : World} {D : Nat} {o x : Obj} (hx : w.heap[D]? = some x) (h1 : noCells x) (h2 : noCells o) : (cx G h mu nx w).Lc (cx G h mu nx (w.putObj D o)) :=
  ⟨Nat.le_of_eq (World.putObj_size).symm, fun _ _ h => h, fun b off _ _ => cell?_put hx h1 h2 _, Nat.le_refl _, fun _ _ => rfl⟩
theorem HOk.put {G : Gh} {h : Heap} {mu : Id → Option Base} {nx : Nat} {w : World} (hk : HOk G h mu nx w) {D : Nat} {o x : Obj} (hx : w.heap[D]? = some x) (h1 : noCells x) (h2 : noCells o) (hm : ∀ es cl, x ≠ .map es cl) (hD : G.w0.heap.size ≤ D ∨ G.mt D) :
    HOk G h mu nx (w.putObj D o) ∧ ∀ id o B, lkH h id = some o → mu id = some B → B.b ≠ D := by
  have hne : ∀ id o B, lkH h id = some o → mu id = some B → B.b ≠ D := fun id o' B hl hB e => by
    have := (hk.obj id o' hl).2
    rw [hB] at this
    rcases this.data (by rw [e]; exact hx) with ⟨_, _, _, h3⟩ | ⟨_, _, h3⟩
    · rw [h3] at h1; exact h1
    · exact hm _ _ h3
  refine ⟨⟨fun id o' hl => ⟨(hk.obj id o' hl).1, (hk.obj id o' hl).2.monoC (Lc_put hx h1 h2) fun B hB => World.putObj_heap_other (hne id o' B hl hB)⟩, hk.sep, fun id o' B hl hB => ?_, ?_, hk.out⟩, hne⟩
  · rw [World.putObj_size]; exact hk.own id o' B hl hB
  · refine ⟨hk.kept.os, hk.kept.tape, hk.kept.output, hk.kept.drawn, by rw [World.putObj_size]; exact hk.kept.size, fun b hb hmt => ?_⟩
    rw [World.putObj_heap_other (fun e => by subst e; rcases hD with hD | hD; exact absurd hb (Nat.not_lt.2 hD); exact hmt hD)]
    exact hk.kept.block b hb hmt

/-- the end of a function that has met ranges over functions: the marks are come to. -/
theorem leaves_marks {G : Gh} {mu : Id → Option Base} {st : St} {r : Option Nat} {n : Nat} {fn : Func} {R : Ending → World → Prop} {tmps : Array Value}
    (h : ∀ w', Sim G mu st { tmps := tmps, defers := [] } w' → ∃ v, (results fn tmps).run P w' = .ok v w' ∧ R (.returned v) w') :
    ∀ (Ds : List Nat) (w : World), Ds.Nodup → (∀ D ∈ Ds, G.w0.heap.size ≤ D ∧ w.heap[D]? = some (Obj.deferred (some []))) → Sim G mu st { tmps := tmps, defers := [] } w →
      LeavesInM (fen r) n P fn tmps R (Ds.map (fun D => { target := .collected D, args := #[] })) .returning w := by
  intro Ds
  induction Ds with
  | nil => exact fun w _ _ hs => h w hs
  | cons D Ds ih =>
    intro w hnd hDs hs
    have hD := hDs D (List.mem_cons_self ..)
    have hnd' := List.nodup_cons.1 hnd
    refine ⟨(by intro e; cases e), .inl ⟨D, _, rfl, run_takeDeferred hD.2, ?_⟩⟩
    refine ih _ hnd'.2 (fun D' hD' => ?_) ?_
    · have h1 := hDs D' (List.mem_cons_of_mem _ hD')
      refine ⟨h1.1, ?_⟩
      rw [World.putObj_heap_other (fun e => hnd'.1 (by rw [← e]; exact hD'))]
      exact h1.2
    · exact ⟨DefOK.nil, hs.size, fun t => (hs.env t).monoC (Lc_put (o := .deferred none) hD.2 trivial trivial), (hs.heap.put (o := .deferred none) hD.2 trivial trivial (fun _ _ e => by cases e) (.inl hD.1)).1⟩
theorem Sim.leaves {G : Gh} {mu : Id → Option Base} {st : St} {a : Act} {w : World} (hs : Sim G mu st a w) {r : Option Nat} {n : Nat} {fn : Func} {R : Ending → World → Prop}
    (h : ∀ w', Sim G mu st { tmps := a.tmps, defers := [] } w' → ∃ v, (results fn a.tmps).run P w' = .ok v w' ∧ R (.returned v) w') :
    LeavesInM (fen r) n P fn a.tmps R a.defers .returning w := by
  obtain ⟨Ds, h1, h2, h3⟩ := hs.defers
  rw [h1]
  exact leaves_marks h Ds w h2 h3 ⟨DefOK.nil, hs.size, hs.env, hs.heap⟩

/-- a contract out of a walk of the body. -/
theorem PC_intro {T : Tab} (hT : TabOK P T) {f : FuncId} {fn : Func} {c : Code} {args : List AVal} {r : AVal} (hf : P.funcs[f]? = some fn) (hb : fn.body = some c) (hn : args.length ≤ fn.ntmps)
    (h : ∀ G : Gh, G.nt = fn.ntmps → G.rd = none → Awp P G 0 c (fun e st => match e with | .normal => RetOK T fn.results.toList r st | .ret => RetOK T fn.results.toList r st | _ => False) ⟨argEnv 0 args, [], 0⟩) :
    PC P f args r := by
  intro O w vals hO hargs
  refine (callsIn_wide (n := 0)).1 (callsIn_of_wp_marks (F := fen none) hf hb trivial ?_)
  let G : Gh := ⟨w, fun _ => False, O, fn.ntmps, none⟩
  have hsim : Sim G (fun _ => none) ⟨argEnv 0 args, [], 0⟩ { tmps := vals.toArray ++ Array.replicate (fn.ntmps - vals.toArray.size) undef, defers := [] } w := by
    refine ⟨DefOK.nil, ?_, fun t => ?_, ⟨fun id o hl => by simp [lkH] at hl, fun id _ o _ _ _ hl => by simp [lkH] at hl, fun id o _ hl => by simp [lkH] at hl, Kept.refl _ _, hO⟩⟩
    · have := hargs.length
      simp only [Array.size_append, List.size_toArray, Array.size_replicate, G]
      omega
    · have hle : (c0 O w).Le (cx G [] (fun _ => none) 0 w) := ⟨Nat.le_refl _, fun b _ hF hF' => by
        rcases hF' with h1 | ⟨id, o, B, hl, _⟩
        · exact hF h1
        · simp [lkH] at hl, fun _ _ _ _ => rfl, Nat.le_refl _, fun _ _ => rfl, fun _ h => h⟩
      have := (lk_argEnv (c := c0 O w) 0 t (Array.replicate (fn.ntmps - vals.toArray.size) undef) hargs).mono hle
      simpa using this
  have key : ∀ (st : St) (mu' : Id → Option Base) (a' : Act) (w' : World), Sim G mu' st a' w' → RetOK T fn.results.toList r st →
      ∃ v, (results fn a'.tmps).run P w' = .ok v w' ∧ ∃ v', Ending.returned v = .returned v' ∧ Kept w (fun _ => False) w' ∧ Rel (c0 O w') r v' := by
    intro st mu' a' w' hs ⟨v, cc, hev, hc, hle⟩
    obtain ⟨y, hy, hyr⟩ := evRes_ok hT hs hev hc
    refine ⟨y, hy, y, rfl, hs.heap.kept, ?_⟩
    refine VLe.rel (c := cx G st.heap mu' st.nx w') (c2 := c0 O w') ⟨rfl, Nat.le_refl _, fun b hF hO' => hF (.inl hO'), fun id hid => absurd hid (Nat.not_lt_zero _), fun id n s g _ hl => ⟨(hs.heap.obj id _ hl).2, fun B hB => ?_⟩⟩ _ _ _ hle hyr
    have := hs.heap.own id _ B hl hB
    exact ⟨this.2.2, this.1⟩
  refine h G rfl rfl _ _ _ hsim (Nat.le_refl _) _ fun e mu' st' a' w' h1 _ _ h4 => ?_
  cases e with
  | normal => exact h1.leaves fun w2 hs2 => key st' mu' { tmps := a'.tmps, defers := [] } w2 hs2 h4
  | ret => exact h1.leaves fun w2 hs2 => key st' mu' { tmps := a'.tmps, defers := [] } w2 hs2 h4
  | _ => exact h4.elim

end
end Go.Lift
