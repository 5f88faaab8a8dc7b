/-
  The abstract layer, part L: regions, code, calls: weakest preconditions over abstract states.
-/
import Derived.Test.YtmjkbidnghcfnaaLKF
import Derived.Deep.LoopGhost
namespace Go.Lift
set_option linter.unusedSimpArgs false
set_option linter.unusedVariables false
open Go.RowKit

/-- operations that leave the abstract heap alone. -/
def pureOp : Op → Bool
  | .move _ | .assign _ | .pick .. | .load .. | .fieldAddr .. | .field .. | .indexAddr .. | .index .. | .binOp .. | .unOp .. | .convert .. | .nilCheck _ | .extract .. | .build .. | .slice .. | .makeFunc .. => true
  | .call c => match c.callee with
    | .builtin .len => true
    | .builtin .max => true
    | .builtin .min => true
    | _ => false
  | _ => false

theorem evOp_pure {T : Tab} {e : Env} {h : Heap} {nx : Nat} {op : Op} {r : Ev} (hp : pureOp op = true) (he : evOp T e h nx op = some r) : r.h = h ∧ r.nx = nx := by
  unfold evOp at he
  cases op <;> simp only [pureOp, Bool.false_eq_true] at hp <;> simp only at he
  case move => injection he with he; subst he; exact ⟨rfl, rfl⟩
  case assign => injection he with he; subst he; exact ⟨rfl, rfl⟩
  case slice t x lo hi mx =>
    cases mx with
    | some _ => simp at he
    | none =>
      simp only at he
      split at he
      · injection he with he; subst he; exact ⟨rfl, rfl⟩
      · cases he
  case binOp bo t x y t' =>
    split at he
    · injection he with he; subst he; exact ⟨rfl, rfl⟩
    · split at he
      · injection he with he; subst he; exact ⟨rfl, rfl⟩
      · cases he
  case makeFunc fn fs cs =>
    cases fn <;> simp only [reduceCtorEq] at he
    split at he
    · injection he with he; subst he; exact ⟨rfl, rfl⟩
    · cases he
  case call c =>
    obtain ⟨callee, args, ts⟩ := c
    cases callee <;> simp only [Bool.false_eq_true] at hp
    rename_i b
    simp only [evCallB] at he
    split at he
    · split at he
      · split at he
        · injection he with he; subst he; exact ⟨rfl, rfl⟩
        · cases he
      · cases he
    · simp at hp
    · split at he
      · injection he with he; subst he; exact ⟨rfl, rfl⟩
      · cases he
    · split at he
      · injection he with he; subst he; exact ⟨rfl, rfl⟩
      · cases he
    · simp at hp
    · cases he
  all_goals
    repeat' (split at he)
    all_goals first | (injection he with he; subst he; exact ⟨rfl, rfl⟩) | cases he

/-- whether a guarded operation is carried out. -/
def gB (want : Bool) : AVal → Option Bool
  | .bool b => some (b == want)
  | .opt g (.bool b) => some (g && (b == want))
  | _ => none

def putSt (nt : Nat) (e : Env) (h : Heap) (nx : Nat) (dst : Option Tmp) (v : AVal) : Option St :=
  match dst with
  | some d => if d < nt then some ⟨(d, v) :: e, h, nx⟩ else none
  | none => some ⟨e, h, nx⟩

def evG (T : Tab) (nt : Nat) (ops : Array Oper) (o : Oper) (st : St) : Option (St × Prop) :=
  match o.guard with
  | none => match evOp T st.env st.heap st.nx o.op with
    | some r => match putSt nt st.env r.h r.nx o.dst r.v with
      | some s => some (s, r.c)
      | none => none
    | none => none
  | some (j, want) => match (ops[j]?).bind (·.dst) with
    | some t => match gB want (lk st.env t) with
      | some g => if pureOp o.op then match evOp T st.env st.heap st.nx o.op with
        | some r => match putSt nt st.env st.heap st.nx o.dst (mkOpt g r.v) with
          | some s => some (s, g = true → r.c)
          | none => none
        | none => none else match g with
        | true => match evOp T st.env st.heap st.nx o.op with
          | some r => match putSt nt st.env r.h r.nx o.dst r.v with
            | some s => some (s, r.c)
            | none => none
          | none => none
        | false => match evOp T st.env st.heap st.nx o.op with
          | some _ => match putSt nt st.env st.heap st.nx o.dst .any with
            | some s => some (s, True)
            | none => none
          | none => none
      | none => none
    | none => none

theorem evG_nd {T : Tab} {nt : Nat} {ops : Array Oper} {o : Oper} {st : St} {p : St × Prop} (he : evG T nt ops o st = some p) : ∀ c, o.op ≠ .defer c := by
  intro c hc
  have h1 : evOp T st.env st.heap st.nx o.op = none := by rw [hc]; rfl
  unfold evG at he
  rw [h1] at he
  split at he
  · cases he
  · split at he
    · split at he
      · split at he
        · cases he
        · split at he <;> cases he
      · cases he
    · cases he

def evOps (T : Tab) (nt : Nat) (ops : Array Oper) : List Oper → St → Option (St × Prop)
  | [], st => some (st, True)
  | o :: r, st => match evG T nt ops o st with
    | some (s, c) => match evOps T nt ops r s with
      | some (s', c') => some (s', c ∧ c')
      | none => none
    | none => none

/-- what stays from the start of a call to its end. -/
structure Stay (G : Gh) (n0 : Nat) (h : Heap) (mu : Id → Option Base) (w : World) (h' : Heap) (mu' : Id → Option Base) (w' : World) : Prop where
  le : (cx G h mu n0 w).Le (cx G h' mu' n0 w')

theorem Stay.refl {G : Gh} {n0 : Nat} {h : Heap} {mu : Id → Option Base} {w : World} : Stay G n0 h mu w h mu w := ⟨Cx.Le.refl _⟩
theorem Stay.trans {G : Gh} {n0 : Nat} {h h' h2 : Heap} {mu mu' mu2 : Id → Option Base} {w w' w2 : World} (a : Stay G n0 h mu w h' mu' w') (b : Stay G n0 h' mu' w' h2 mu2 w2) : Stay G n0 h mu w h2 mu2 w2 := ⟨a.le.trans b.le⟩
theorem Stay.of {G : Gh} {n0 nx nx' : Nat} {h h' : Heap} {mu mu' : Id → Option Base} {w w' : World} (hn : n0 ≤ nx) (a : (cx G h mu nx w).Le (cx G h' mu' nx' w')) : Stay G n0 h mu w h' mu' w' :=
  ⟨a.size, a.F, a.cell, Nat.le_refl _, fun id hid => a.mu id (Nat.lt_of_lt_of_le hid hn), a.dfr⟩

/-- the operations of a region, carried out in the order of the list. -/
def AwpL (P : Program) (G : Gh) (n0 : Nat) (ops l : List Oper) (Q : St → Prop) (st : St) : Prop :=
  ∀ mu a w, Sim G mu st a w → n0 ≤ st.nx → ∀ Q' : Exit → Act → World → Prop,
    (∀ mu' st' a' w', Sim G mu' st' a' w' → n0 ≤ st'.nx → Stay G n0 st.heap mu w st'.heap mu' w' → Q st' → Q' .normal a' w') → wpListIn (fen G.rd) 0 P ops.toArray Q' l a w

def Awp (P : Program) (G : Gh) (n0 : Nat) (c : Code) (Q : Exit → St → Prop) (st : St) : Prop :=
  ∀ mu a w, Sim G mu st a w → n0 ≤ st.nx → ∀ Q' : Exit → Act → World → Prop,
    (∀ e mu' st' a' w', Sim G mu' st' a' w' → n0 ≤ st'.nx → Stay G n0 st.heap mu w st'.heap mu' w' → Q e st' → Q' e a' w') → c.wpIn (fen G.rd) 0 P Q' a w

section
variable {P : Program} {G : Gh} {n0 : Nat}

theorem Sim.rho {mu : Id → Option Base} {st : St} {a : Act} {w : World} (hs : Sim G mu st a w) (x : Operand) : Rel (cx G st.heap mu st.nx w) (evX st.env x) (a.eval x) := by
  cases x with
  | tmp t => exact hs.env t
  | const v => exact ofValue_rel _ v
  | global g => trivial
  | func f => exact ⟨#[], rfl, rfl, fun j hj => absurd hj (Nat.not_lt_zero _)⟩

theorem Sim.put {mu mu' : Id → Option Base} {st : St} {h' : Heap} {nx' : Nat} {a : Act} {w w' : World} (hs : Sim G mu st a w) (hLe : (cx G st.heap mu st.nx w).Le (cx G h' mu' nx' w')) (hk : HOk G h' mu' nx' w')
    {dst : Option Tmp} {v : AVal} {x : Value} (hv : Rel (cx G h' mu' nx' w') v x) {s : St} (hp : putSt G.nt st.env h' nx' dst v = some s) : Sim G mu' s (a.put dst x) w' := by
  unfold putSt at hp
  cases dst with
  | none =>
    simp only [Option.some.injEq] at hp
    subst hp
    exact ⟨hs.defers.mono hLe.dfr, hs.size, fun t => (hs.env t).mono hLe, hk⟩
  | some d =>
    simp only at hp
    by_cases hd : d < G.nt
    · rw [if_pos hd] at hp
      simp only [Option.some.injEq] at hp
      subst hp
      refine ⟨hs.defers.mono hLe.dfr, by simpa [Act.put] using hs.size, fun t => ?_, hk⟩
      have hdt : d < a.tmps.size := Nat.lt_of_lt_of_le hd hs.size
      simp only [lk, Act.put]
      by_cases ht : d = t
      · subst ht
        rw [if_pos rfl]
        have : (a.tmps.setIfInBounds d x).getD d undef = x := by simp [Array.getD, hdt]
        rw [this]
        exact hv
      · rw [if_neg ht]
        have : (a.tmps.setIfInBounds d x).getD t undef = a.tmps.getD t undef := by
          simp only [Array.getD_eq_getD_getElem?]
          rw [Array.getElem?_setIfInBounds_ne ht]
        rw [this]
        exact (hs.env t).mono hLe
    · rw [if_neg hd] at hp; cases hp

theorem evG_run {T : Tab} (hT : TabOK P T) {o : Oper} {st s : St} {c : Prop} (he : (match evOp T st.env st.heap st.nx o.op with
      | some r => match putSt G.nt st.env r.h r.nx o.dst r.v with
        | some s => some (s, r.c)
        | none => none
      | none => none) = some (s, c)) (hc : c) {mu : Id → Option Base} {a : Act} {w : World} (hs : Sim G mu st a w)
    {K : Act → World → Prop} {Q : Exit → Act → World → Prop} (hK : ∀ mu' a' w', Sim G mu' s a' w' → (cx G st.heap mu st.nx w).Le (cx G s.heap mu' s.nx w') → Frame mu w w' (wOp st.env o.op) → K a' w') : o.wp P a w K Q := by
  split at he
  · rename_i r hev
    split at he
    · rename_i s' hput
      simp only [Option.some.injEq, Prod.mk.injEq] at he
      obtain ⟨rfl, rfl⟩ := he
      obtain ⟨x, w', mu', hrun, hLe, hok, hrel, hfr⟩ := evOp_ok hT hs.heap (fun x => hs.rho x) hev hc
      have hsim := hs.put hLe hok hrel hput
      have hLe' : (cx G st.heap mu st.nx w).Le (cx G s'.heap mu' s'.nx w') := by
        have : s'.heap = r.h ∧ s'.nx = r.nx := by
          unfold putSt at hput
          split at hput
          · split at hput
            · injection hput with hput; subst hput; exact ⟨rfl, rfl⟩
            · cases hput
          · injection hput with hput; subst hput; exact ⟨rfl, rfl⟩
        rw [this.1, this.2]
        exact hLe
      unfold Oper.wp
      rcases hrun with hrun | ⟨hrun, hx⟩
      · rw [hrun]; exact hK _ _ _ hsim hLe' hfr
      · rw [hrun]; rw [hx] at hsim; exact hK _ _ _ hsim hLe' hfr
    · cases he
  · cases he
theorem evG_ok {T : Tab} (hT : TabOK P T) {ops : Array Oper} {o : Oper} {st s : St} {c : Prop} (he : evG T G.nt ops o st = some (s, c)) (hc : c) {mu : Id → Option Base} {a : Act} {w : World} (hs : Sim G mu st a w)
    {K : Act → World → Prop} {Q : Exit → Act → World → Prop} (hK : ∀ mu' a' w', Sim G mu' s a' w' → (cx G st.heap mu st.nx w).Le (cx G s.heap mu' s.nx w') → Frame mu w w' (wOp st.env o.op) → K a' w') :
    if Region.wanted o (yielded ops a.tmps) then o.wp P a w K Q else K (a.put o.dst undef) w := by
  unfold evG at he
  cases hg : o.guard with
  | none =>
    simp only [hg] at he
    have hw : Region.wanted o (yielded ops a.tmps) = true := by simp [Region.wanted, hg]
    rw [if_pos hw]
    exact evG_run hT he hc hs hK
  | some jw =>
    obtain ⟨j, want⟩ := jw
    simp only [hg] at he
    split at he
    · rename_i t ht
      split at he
      · rename_i g hgb
        have hrel := hs.env t
        have hwant : Region.wanted o (yielded ops a.tmps) = g := by
          simp only [Region.wanted, hg, yielded, ht, Option.bind_some]
          have hgd : ∀ b : Bool, a.tmps.getD t undef = .bool b → a.tmps[t]? = some (.bool b) := fun b hb => by
            rw [Array.getD_eq_getD_getElem?] at hb
            cases hx : a.tmps[t]? with
            | none => rw [hx] at hb; simp [undef] at hb
            | some y => rw [hx] at hb; simp at hb; rw [hb]
          have hund : a.tmps.getD t undef = undef → ∀ b : Bool, a.tmps[t]? ≠ some (.bool b) := fun hb b hx => by
            rw [Array.getD_eq_getD_getElem?, hx] at hb
            simp [undef] at hb
          cases hlk : lk st.env t <;> simp only [hlk, gB, Option.some.injEq, reduceCtorEq] at hgb
          · rename_i b
            rw [hlk] at hrel
            simp only [Rel] at hrel
            rw [hgd b hrel]
            subst hgb
            cases b <;> cases want <;> rfl
          · rename_i g0 v0
            cases v0 <;> simp only [gB, Option.some.injEq, reduceCtorEq] at hgb
            rename_i b
            rw [hlk] at hrel
            cases g0 with
            | true =>
              have := hrel.1 rfl
              simp only [Rel] at this
              rw [hgd b this]
              subst hgb
              cases b <;> cases want <;> rfl
            | false =>
              have := hund (hrel.2 rfl)
              subst hgb
              cases hx : a.tmps[t]? with
              | none => simp
              | some y =>
                rw [hx] at this
                cases y <;> simp at this ⊢
        by_cases hpu : pureOp o.op = true
        · rw [if_pos hpu] at he
          split at he
          · rename_i r hev
            split at he
            · rename_i s' hput
              simp only [Option.some.injEq, Prod.mk.injEq] at he
              obtain ⟨rfl, rfl⟩ := he
              have hsheap : s'.heap = st.heap ∧ s'.nx = st.nx := by
                unfold putSt at hput
                split at hput
                · split at hput
                  · injection hput with hput; subst hput; exact ⟨rfl, rfl⟩
                  · cases hput
                · injection hput with hput; subst hput; exact ⟨rfl, rfl⟩
              obtain ⟨h1, h2⟩ := evOp_pure hpu hev
              cases g with
              | true =>
                rw [if_pos hwant]
                obtain ⟨x, w', mu', hrun, hLe, hok, hrel', hfr⟩ := evOp_ok hT hs.heap (fun x => hs.rho x) hev (hc rfl)
                rw [h1, h2] at hLe hok hrel'
                have hsim := hs.put hLe hok (v := mkOpt true r.v) (mkOpt_rel (fun _ => hrel') (fun h => by cases h)) hput
                have hLe' : (cx G st.heap mu st.nx w).Le (cx G s'.heap mu' s'.nx w') := by rw [hsheap.1, hsheap.2]; exact hLe
                unfold Oper.wp
                rcases hrun with hrun | ⟨hrun, hx⟩
                · rw [hrun]; exact hK _ _ _ hsim hLe' hfr
                · rw [hrun]; rw [hx] at hsim; exact hK _ _ _ hsim hLe' hfr
              | false =>
                rw [if_neg (by rw [hwant]; simp)]
                have hsim := hs.put (Cx.Le.refl _) hs.heap (v := mkOpt false r.v) (x := undef) (mkOpt_rel (fun h => by (cases h)) (fun _ => rfl)) hput
                exact hK _ _ _ hsim (by rw [hsheap.1, hsheap.2]; exact Cx.Le.refl _) Frame.refl
            · cases he
          · cases he
        · rw [if_neg hpu] at he
          cases g with
          | true =>
            rw [if_pos hwant]
            exact evG_run hT he hc hs hK
          | false =>
            simp only at he
            split at he
            case h_2 => cases he
            split at he
            · rename_i s' hput
              simp only [Option.some.injEq, Prod.mk.injEq] at he
              obtain ⟨rfl, rfl⟩ := he
              have hsheap : s'.heap = st.heap ∧ s'.nx = st.nx := by
                unfold putSt at hput
                split at hput
                · split at hput
                  · injection hput with hput; subst hput; exact ⟨rfl, rfl⟩
                  · cases hput
                · injection hput with hput; subst hput; exact ⟨rfl, rfl⟩
              rw [if_neg (by rw [hwant]; simp)]
              have hsim := hs.put (Cx.Le.refl _) hs.heap (v := .any) (x := undef) trivial hput
              exact hK _ _ _ hsim (by rw [hsheap.1, hsheap.2]; exact Cx.Le.refl _) Frame.refl
            · cases he
      · cases he
    · cases he

theorem awpL_nil {ops : List Oper} {Q : St → Prop} {st : St} (h : Q st) : AwpL P G n0 ops [] Q st :=
  fun mu a w hs hn Q' hQ => hQ mu st a w hs hn Stay.refl h

theorem awpL_cons {T : Tab} (hT : TabOK P T) {ops l : List Oper} {o : Oper} {Q : St → Prop} {st s : St} {c : Prop} (he : evG T G.nt ops.toArray o st = some (s, c)) (hc : c) (h : AwpL P G n0 ops l Q s) :
    AwpL P G n0 ops (o :: l) Q st := by
  intro mu a w hs hn Q' hQ
  refine wpl_step (evG_nd he) fun K hK => ?_
  refine evG_ok hT he hc hs (fun mu' a' w' hs' hLe _ => hK _ _ (h mu' a' w' hs' ?_ Q' fun mu2 st2 a2 w2 h1 h2 h3 h4 => hQ mu2 st2 a2 w2 h1 h2 ((Stay.of hn hLe).trans h3) h4))
  exact Nat.le_trans hn hLe.nx

theorem awpL_ev {T : Tab} (hT : TabOK P T) {ops : List Oper} {Q : St → Prop} {r : List Oper} : ∀ (l : List Oper) {st s : St} {c : Prop}, evOps T G.nt ops.toArray l st = some (s, c) → c → AwpL P G n0 ops r Q s → AwpL P G n0 ops (l ++ r) Q st
  | [], st, s, c, he, _, h => by
    simp only [evOps, Option.some.injEq, Prod.mk.injEq] at he
    obtain ⟨rfl, _⟩ := he
    exact h
  | o :: l, st, s, c, he, hc, h => by
    simp only [evOps] at he
    split at he
    · rename_i s1 c1 hg
      split at he
      · rename_i s2 c2 hl
        simp only [Option.some.injEq, Prod.mk.injEq] at he
        obtain ⟨rfl, rfl⟩ := he
        exact awpL_cons hT hg hc.1 (awpL_ev hT l hl hc.2 h)
      · cases he
    · cases he

theorem awp_region {id : Nat} {ops : List Oper} {Q : Exit → St → Prop} {st : St} (h : AwpL P G n0 ops ops (Q .normal) st) : Awp P G n0 (.region id ops.toArray false) Q st :=
  fun mu a w hs hn Q' hQ => wpIn_region_lit (h mu a w hs hn Q' fun mu' st' a' w' h1 h2 h3 h4 => hQ .normal mu' st' a' w' h1 h2 h3 h4)

/-- a region all of whose operations can be evaluated. -/
theorem awp_ev {T : Tab} (hT : TabOK P T) {id : Nat} {ops : List Oper} {Q : Exit → St → Prop} {st s : St} {c : Prop} (he : evOps T G.nt ops.toArray ops st = some (s, c)) (hc : c) (h : Q .normal s) :
    Awp P G n0 (.region id ops.toArray false) Q st := by
  refine awp_region ?_
  have := awpL_ev (P := P) (n0 := n0) (Q := Q .normal) (r := []) hT ops he hc (awpL_nil h)
  simpa using this

def thenQ (next : St → Prop) (Q : Exit → St → Prop) : Exit → St → Prop
  | .normal, st => next st
  | e, st => Q e st
def blockQ (id : Nat) (Q : Exit → St → Prop) : Exit → St → Prop
  | .exit id', st => if id' = id then Q .normal st else Q (.exit id') st
  | e, st => Q e st

theorem awp_mono {c : Code} {Q Q2 : Exit → St → Prop} {st : St} (h : Awp P G n0 c Q st) (hq : ∀ e s, Q e s → Q2 e s) : Awp P G n0 c Q2 st :=
  fun mu a w hs hn Q' hQ => h mu a w hs hn Q' fun e mu' st' a' w' h1 h2 h3 h4 => hQ e mu' st' a' w' h1 h2 h3 (hq e st' h4)

theorem awp_seq {x y : Code} {Q : Exit → St → Prop} {st : St} (h : Awp P G n0 x (thenQ (Awp P G n0 y Q) Q) st) : Awp P G n0 (.seq x y) Q st := by
  intro mu a w hs hn Q' hQ
  refine wpIn_seq (h mu a w hs hn _ fun e mu' st' a' w' h1 h2 h3 h4 => ?_)
  cases e with
  | normal => exact h4 mu' a' w' h1 h2 Q' fun e2 mu2 st2 a2 w2 k1 k2 k3 k4 => hQ e2 mu2 st2 a2 w2 k1 k2 (h3.trans k3) k4
  | _ => exact hQ _ mu' st' a' w' h1 h2 h3 h4

theorem awp_block {id : Nat} {c : Code} {Q : Exit → St → Prop} {st : St} (h : Awp P G n0 c (blockQ id Q) st) : Awp P G n0 (.block id c) Q st := by
  intro mu a w hs hn Q' hQ
  refine wpIn_block (h mu a w hs hn _ fun e mu' st' a' w' h1 h2 h3 h4 => ?_)
  cases e with
  | exit id' =>
    simp only [Go.Exit.inBlock, blockQ] at h4 ⊢
    split
    · rename_i hid
      rw [if_pos hid] at h4
      exact hQ _ mu' st' a' w' h1 h2 h3 h4
    · rename_i hid
      rw [if_neg hid] at h4
      exact hQ _ mu' st' a' w' h1 h2 h3 h4
  | _ => exact hQ _ mu' st' a' w' h1 h2 h3 h4

theorem awp_skip {Q : Exit → St → Prop} {st : St} (h : Q .normal st) : Awp P G n0 .skip Q st := fun mu a w hs hn Q' hQ => wpIn_skip (hQ _ mu st a w hs hn Stay.refl h)
theorem awp_exit {id : Nat} {Q : Exit → St → Prop} {st : St} (h : Q (.exit id) st) : Awp P G n0 (.exit id) Q st := fun mu a w hs hn Q' hQ => wpIn_exit (hQ _ mu st a w hs hn Stay.refl h)
theorem awp_ret {Q : Exit → St → Prop} {st : St} (h : Q .ret st) : Awp P G n0 .ret Q st := fun mu a w hs hn Q' hQ => wpIn_ret (hQ _ mu st a w hs hn Stay.refl h)

theorem awp_cond {t : Tmp} {x y : Code} {Q : Exit → St → Prop} {st : St} {b : Bool} (hb : lk st.env t = .bool b) (h1 : b = true → Awp P G n0 x Q st) (h2 : b = false → Awp P G n0 y Q st) : Awp P G n0 (.cond (.tmp t) x y) Q st := by
  intro mu a w hs hn Q' hQ
  have hr := hs.env t
  rw [hb] at hr
  exact wpIn_cond_split (a := a) (c := .tmp t) (t := b) hr (fun h => h1 h mu a w hs hn Q' hQ) (fun h => h2 h mu a w hs hn Q' hQ)

/-- less is known: still agrees. -/
def Wk (G : Gh) (n0 : Nat) (st st2 : St) : Prop := ∀ mu a w, Sim G mu st a w → n0 ≤ st.nx → ∃ mu2, Sim G mu2 st2 a w ∧ n0 ≤ st2.nx ∧ Stay G n0 st.heap mu w st2.heap mu2 w

theorem Wk.refl {st : St} : Wk G n0 st st := fun mu _ _ hs hn => ⟨mu, hs, hn, Stay.refl⟩
theorem Wk.trans {a b c : St} (h : Wk G n0 a b) (k : Wk G n0 b c) : Wk G n0 a c := fun mu x w hs hn => by
  obtain ⟨m1, h1, h2, h3⟩ := h mu x w hs hn
  obtain ⟨m2, k1, k2, k3⟩ := k m1 x w h1 h2
  exact ⟨m2, k1, k2, h3.trans k3⟩

theorem awp_wk {c : Code} {Q : Exit → St → Prop} {st st2 : St} (hw : Wk G n0 st st2) (h : Awp P G n0 c Q st2) : Awp P G n0 c Q st := fun mu a w hs hn Q' hQ => by
  obtain ⟨mu2, h1, h2, h3⟩ := hw mu a w hs hn
  exact h mu2 a w h1 h2 Q' fun e mu' st' a' w' k1 k2 k3 k4 => hQ e mu' st' a' w' k1 k2 (h3.trans k3) k4

theorem awp_loop {α : Type} {c : Code} {Q : Exit → St → Prop} {st : St} (S : α → St) (I : α → Prop) (m : α → Nat) (x0 : α) (hI : I x0) (h0 : Wk G n0 st (S x0))
    (round : ∀ x, I x → Awp P G n0 c (thenQ (fun st' => ∃ y, I y ∧ m y < m x ∧ Wk G n0 st' (S y)) Q) (S x)) : Awp P G n0 (.loop c) Q st := by
  intro mu a w hs hn Q' hQ
  obtain ⟨mu0, hs0, hn0, hst0⟩ := h0 mu a w hs hn
  refine wpIn_loop_ghost (fun n a w' => ∃ x mu', m x = n ∧ I x ∧ Sim G mu' (S x) a w' ∧ n0 ≤ (S x).nx ∧ Stay G n0 st.heap mu w (S x).heap mu' w') (m x0) ⟨x0, mu0, rfl, hI, hs0, hn0, hst0⟩ ?_
  rintro n a' w' ⟨x, mu', rfl, hIx, hsx, hnx, hstx⟩
  refine round x hIx mu' a' w' hsx hnx _ fun e mu2 st2 a2 w2 h1 h2 h3 h4 => ?_
  cases e with
  | normal =>
    obtain ⟨y, hy, hlt, hwk⟩ := h4
    obtain ⟨mu3, k1, k2, k3⟩ := hwk mu2 a2 w2 h1 h2
    exact ⟨m y, hlt, y, mu3, rfl, hy, k1, k2, (hstx.trans h3).trans k3⟩
  | _ => exact hQ _ mu2 st2 a2 w2 h1 h2 (hstx.trans h3) h4
end
end Go.Lift
