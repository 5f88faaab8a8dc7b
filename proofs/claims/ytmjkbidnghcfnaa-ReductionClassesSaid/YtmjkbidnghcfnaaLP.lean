/-
  The abstract layer, part P: tables of types, checked by the kernel; rules for walks.
-/
import Derived.Test.YtmjkbidnghcfnaaLO
namespace Go.Lift
set_option linter.unusedSimpArgs false
set_option linter.unusedVariables false
open Go.RowKit

/-- a row of the table: type, kind, cells, bytes, zero value. -/
structure TE where
  t : TypeId
  k : TK
  size : Nat
  bytes : Nat
  zl : List AVal
  eq : Bool

def TE.ti (e : TE) : TI := ⟨e.k, e.size, e.bytes, fun m => e.zl.getD m .any, e.eq⟩

def eqOK (P : Program) (t : TypeId) : TK → Bool
  | .struct l => (match P.underlying t with
    | some (.struct _) => true
    | _ => false) && !P.stoodInHeld t && !P.eqGuardType P.depth t && (P.fieldsOf t).toList.map (fun f => (f.offset, f.type)) == l && (P.fieldsOf t).toList.all (fun f => f.name != "_")
  | _ => false
theorem eqOK_spec {P : Program} {t : TypeId} {l : List (Nat × TypeId)} (h : eqOK P t (.struct l) = true) : EqOK P t l := by
  simp only [eqOK, Bool.and_eq_true, Bool.not_eq_true', beq_iff_eq, List.all_eq_true, bne_iff_ne, ne_eq] at h
  obtain ⟨⟨⟨⟨h1, h2⟩, h3⟩, h4⟩, h5⟩ := h
  refine ⟨?_, h2, h3, h4, h5⟩
  unfold Program.fieldsOf
  split at h1
  · rename_i fs hu; simp only [hu]
  · cases h1

def zOK : AVal → Value → Bool
  | .int k n, .int k' n' => k == k' && n == n'
  | .bool b, .bool b' => b == b'
  | .str s, .string b => s == b.data.toList
  | .nilp, .pointer none => true
  | .nils, .slice none 0 0 => true
  | .nilmap, .map none => true
  | .nilfn, .nilFunc => true
  | _, _ => false

theorem zOK_spec {v : AVal} {x : Value} (h : zOK v x = true) : v = ofValue x ∧ v.one = true := by
  unfold zOK at h
  split at h <;> simp_all [ofValue, AVal.one]

def zlOK : List AVal → List Value → Bool
  | [], [] => true
  | v :: r, x :: r' => zOK v x && zlOK r r'
  | _, _ => false

theorem zlOK_spec : ∀ {l : List AVal} {xs : List Value}, zlOK l xs = true → l.length = xs.length ∧ ∀ m, m < l.length → l.getD m .any = ofValue (xs.getD m undef) ∧ (l.getD m .any).one = true
  | [], [], _ => ⟨rfl, fun m hm => absurd hm (Nat.not_lt_zero _)⟩
  | v :: r, x :: r', h => by
    simp only [zlOK, Bool.and_eq_true] at h
    obtain ⟨h1, h2⟩ := zlOK_spec h.2
    refine ⟨by simp [h1], fun m hm => ?_⟩
    cases m with
    | zero => simpa using zOK_spec h.1
    | succ m => simpa using h2 m (by simpa using hm)
  | [], _ :: _, h => by simp [zlOK] at h
  | _ :: _, [], h => by simp [zlOK] at h

def fldsOK : List (Nat × TypeId) → List Field → Bool
  | [], [] => true
  | (o, t) :: r, f :: r' => f.offset == o && f.type == t && fldsOK r r'
  | _, _ => false
theorem fldsOK_spec : ∀ {l : List (Nat × TypeId)} {fs : List Field}, fldsOK l fs = true → ∀ (k o : Nat) (t : TypeId), l[k]? = some (o, t) → ∃ f, fs[k]? = some f ∧ f.offset = o ∧ f.type = t
  | [], [], _, k, o, t, h => by simp at h
  | (o', t') :: r, f :: r', h, k, o, t, hk => by
    simp only [fldsOK, Bool.and_eq_true, beq_iff_eq] at h
    cases k with
    | zero =>
      simp only [List.getElem?_cons_zero, Option.some.injEq, Prod.mk.injEq] at hk
      exact ⟨f, rfl, h.1.1.trans hk.1, h.1.2.trans hk.2⟩
    | succ k => simpa using fldsOK_spec h.2 k o t (by simpa using hk)
  | [], _ :: _, h, _, _, _, _ => by simp [fldsOK] at h
  | _ :: _, [], h, _, _, _, _ => by simp [fldsOK] at h

def kindOK (P : Program) (t : TypeId) (k : TK) : Bool :=
  match k, P.underlying t with
  | .int k, some (.int k') => k == k'
  | .bool, some .bool => true
  | .str, some .string => true
  | .slice e, some (.slice e') => e == e'
  | .map a b, some (.map a' b') => a == a' && b == b'
  | .struct l, some (.struct fs) => fldsOK l fs.toList && (fs.toList.mapM (fun f => (P.info? f.type).map fun i => (f.offset, i.size))).isSome
  | .ptr e, some (.pointer e') => e == e'
  | .func, some (.func ..) => true
  | _, _ => false

theorem kindOK_spec {P : Program} {t : TypeId} {k : TK} (h : kindOK P t k = true) : k.ok P t := by
  unfold kindOK at h
  split at h <;> rename_i hu
  · simp only [beq_iff_eq] at h; subst h; exact hu
  · exact hu
  · exact hu
  · simp only [beq_iff_eq] at h; subst h; exact hu
  · simp only [Bool.and_eq_true, beq_iff_eq] at h; obtain ⟨rfl, rfl⟩ := h; exact hu
  · rename_i l fs
    simp only [Bool.and_eq_true, Option.isSome_iff_exists] at h
    obtain ⟨h1, pl, h2⟩ := h
    exact ⟨fs, pl, hu, h2, fun k o ft hk => by simpa using fldsOK_spec h1 k o ft hk⟩
  · simp only [beq_iff_eq] at h; subst h; exact hu
  · exact ⟨_, _, _, hu⟩
  · cases h

def isAggV : Value → Bool
  | .agg _ => true
  | _ => false

def teOK (P : Program) (e : TE) : Bool :=
  match P.info? e.t with
  | some j => j.size == e.size && j.bytes == e.bytes && e.zl.length == e.size && (e.k.agg || e.size == 1) &&
    (match j.zero with
     | some z => zlOK e.zl z.cells.toList && isAggV z == e.k.agg
     | none => false) && kindOK P e.t e.k && (!e.eq || eqOK P e.t e.k)
  | none => false

theorem teOK_spec {P : Program} {e : TE} (h : teOK P e = true) : TIok P e.t e.ti := by
  unfold teOK at h
  split at h
  · rename_i j hj
    simp only [Bool.and_eq_true, beq_iff_eq, Bool.or_eq_true] at h
    obtain ⟨⟨⟨⟨⟨⟨h1, h2⟩, h3⟩, h4⟩, h5⟩, h6⟩, h10⟩ := h
    split at h5
    · rename_i z hz
      simp only [Bool.and_eq_true, beq_iff_eq] at h5
      obtain ⟨h7, h8⟩ := zlOK_spec h5.1
      refine ⟨⟨j, z, hj, h1, h2, hz, ?_, fun hag => ?_, fun hag => ?_, fun m hm => ?_⟩, kindOK_spec h6, fun hag => ?_, fun heq l hl => ?_⟩
      · show z.cells.size = e.size
        rw [← h3, h7]; simp
      · have : isAggV z = true := h5.2.trans hag
        cases z <;> simp [isAggV] at this
        rfl
      · have : isAggV z = false := h5.2.trans hag
        cases z <;> simp [isAggV] at this <;> rfl
      · have hm' : m < e.zl.length := by rw [h3]; exact hm
        have := h8 m hm'
        refine ⟨?_, this.2⟩
        show e.zl.getD m .any = _
        rw [this.1]
        simp [Array.getD_eq_getD_getElem?, List.getD_eq_getElem?_getD]
      · rcases h4 with h4 | h4
        · have h9 : e.k.agg = false := hag
          rw [h4] at h9
          cases h9
        · exact h4
      · have heq' : e.eq = true := heq
        rcases h10 with h10 | h10
        · rw [heq'] at h10; cases h10
        · have hl' : e.k = .struct l := hl
          rw [hl'] at h10
          exact eqOK_spec h10
    · cases h5
  · cases h

def tabOf (l : List TE) : Tab := fun t => match l.find? (fun e => e.t == t) with
  | some e => some e.ti
  | none => none
theorem tabOf_ok {P : Program} {l : List TE} (h : l.all (teOK P) = true) : TabOK P (tabOf l) := by
  intro t i hi
  unfold tabOf at hi
  split at hi
  · rename_i e he
    injection hi with hi
    subst hi
    have h1 := List.find?_some he
    simp only [beq_iff_eq] at h1
    rw [← h1]
    exact teOK_spec (List.all_eq_true.1 h e (List.mem_of_find?_eq_some he))
  · cases hi

section
variable {P : Program} {G : Gh} {n0 : Nat}

theorem awp_seq_ev {T : Tab} (hT : TabOK P T) {id : Nat} {ops : List Oper} {y : Code} {Q : Exit → St → Prop} {st s : St} {c : Prop} (he : evOps T G.nt ops.toArray ops st = some (s, c)) (hc : c) (h : Awp P G n0 y Q s) :
    Awp P G n0 (.seq (.region id ops.toArray false) y) Q st := awp_seq (awp_ev hT he hc h)
/-- the conditions of a region, kept together. -/
def Cond (c : Prop) : Prop := c
@[simp] theorem Cond_true : Cond True = True := rfl
theorem Cond.mk {c : Prop} (h : c) : Cond c := h
def goEv : Option (St × Prop) → (St → Prop) → Prop
  | some (s, c), K => Cond c ∧ K s
  | none, _ => False
@[simp] theorem goEv_some (s : St) (c : Prop) (K : St → Prop) : goEv (some (s, c)) K = (Cond c ∧ K s) := rfl

theorem goEv_spec {r : Option (St × Prop)} {K : St → Prop} (h : goEv r K) : ∃ s c, r = some (s, c) ∧ c ∧ K s := by
  cases r with
  | none => exact h.elim
  | some p => exact ⟨p.1, p.2, rfl, h.1, h.2⟩

/-- code in a row. -/
def AwpS (P : Program) (G : Gh) (n0 : Nat) : List Code → (Exit → St → Prop) → St → Prop
  | [], Q, st => Q .normal st
  | c :: cs, Q, st => Awp P G n0 c (thenQ (AwpS P G n0 cs Q) Q) st

theorem awpS_nil {Q : Exit → St → Prop} {st : St} (h : Q .normal st) : AwpS P G n0 [] Q st := h
theorem awpS_seq {a b : Code} {cs : List Code} {Q : Exit → St → Prop} {st : St} (h : AwpS P G n0 (a :: b :: cs) Q st) : AwpS P G n0 (.seq a b :: cs) Q st := by
  refine awp_seq (awp_mono h fun e s hs => ?_)
  cases e <;> exact hs
theorem awpS_skip {cs : List Code} {Q : Exit → St → Prop} {st : St} (h : AwpS P G n0 cs Q st) : AwpS P G n0 (.skip :: cs) Q st := awp_skip h
theorem awpS_exit {id : Nat} {cs : List Code} {Q : Exit → St → Prop} {st : St} (h : Q (.exit id) st) : AwpS P G n0 (.exit id :: cs) Q st := awp_exit h
theorem awpS_ret {cs : List Code} {Q : Exit → St → Prop} {st : St} (h : Q .ret st) : AwpS P G n0 (.ret :: cs) Q st := awp_ret h
theorem awpS_cond {t : Tmp} {x y : Code} {cs : List Code} {Q : Exit → St → Prop} {st : St} {b : Bool} (hb : lk st.env t = .bool b) (h1 : b = true → AwpS P G n0 (x :: cs) Q st) (h2 : b = false → AwpS P G n0 (y :: cs) Q st) :
    AwpS P G n0 (.cond (.tmp t) x y :: cs) Q st := awp_cond hb h1 h2
theorem awpS_block {id : Nat} {c : Code} {cs : List Code} {Q : Exit → St → Prop} {st : St} (h : AwpS P G n0 [c] (blockQ id (thenQ (AwpS P G n0 cs Q) Q)) st) : AwpS P G n0 (.block id c :: cs) Q st := by
  refine awp_block (awp_mono h fun e s hs => ?_)
  cases e <;> exact hs
theorem awpS_wk {cs : List Code} {Q : Exit → St → Prop} {st st2 : St} {c : Code} (hw : Wk G n0 st st2) (h : AwpS P G n0 (c :: cs) Q st2) : AwpS P G n0 (c :: cs) Q st := awp_wk hw h
/-- a region, then what follows. -/
theorem awpS_reg {T : Tab} (hT : TabOK P T) {id : Nat} {ops : List Oper} {cs : List Code} {Q : Exit → St → Prop} {st : St} (h : ∀ K : St → Prop, (∀ s, AwpS P G n0 cs Q s → K s) → goEv (evOps T G.nt ops.toArray ops st) K) :
    AwpS P G n0 (.region id ops.toArray false :: cs) Q st := by
  obtain ⟨s, c, he, hc, hK⟩ := goEv_spec (h _ fun _ hs => hs)
  exact awp_ev hT he hc hK
/-- some operations of a region, then the rest. -/
theorem awpL_reg {T : Tab} (hT : TabOK P T) {ops l : List Oper} {Q : St → Prop} {st : St} (n : Nat) (h : ∀ K : St → Prop, (∀ s, AwpL P G n0 ops (l.drop n) Q s → K s) → goEv (evOps T G.nt ops.toArray (l.take n) st) K) :
    AwpL P G n0 ops l Q st := by
  obtain ⟨s, c, he, hc, hK⟩ := goEv_spec (h _ fun _ hs => hs)
  have := awpL_ev (P := P) (n0 := n0) (r := l.drop n) hT (l.take n) he hc hK
  rwa [List.take_append_drop] at this
/-- a region that holds a call. -/
theorem awpS_regL {id : Nat} {ops : List Oper} {cs : List Code} {Q : Exit → St → Prop} {st : St} (h : AwpL P G n0 ops ops (AwpS P G n0 cs Q) st) : AwpS P G n0 (.region id ops.toArray false :: cs) Q st := awp_region h
/-- a loop: the states at its head are S x, for those x that meet I; m goes down. -/
theorem awpS_loop {α : Type} {c : Code} {cs : List Code} {Q : Exit → St → Prop} {st : St} (S : α → St) (I : α → Prop) (m : α → Nat) (x0 : α) (hI : I x0) (h0 : Wk G n0 st (S x0))
    (round : ∀ x, I x → AwpS P G n0 [c] (thenQ (fun st' => ∃ y, I y ∧ m y < m x ∧ Wk G n0 st' (S y)) (thenQ (AwpS P G n0 cs Q) Q)) (S x)) : AwpS P G n0 (.loop c :: cs) Q st := by
  refine awp_loop S I m x0 hI h0 fun x hx => awp_mono (round x hx) fun e s hs => ?_
  cases e <;> exact hs
/-- the end of a round. -/
theorem round_end {α : Type} {I : α → Prop} {m : α → Nat} {S : α → St} {x : α} {Q : Exit → St → Prop} {st' : St} (y : α) (h1 : I y) (h2 : m y < m x) (h3 : Wk G n0 st' (S y)) :
    thenQ (fun st' => ∃ y, I y ∧ m y < m x ∧ Wk G n0 st' (S y)) Q .normal st' := ⟨y, h1, h2, h3⟩
/-- states that agree meet again. -/
theorem awpS_cut {α : Type} {c : Code} {cs : List Code} {Q : Exit → St → Prop} {st : St} (S : α → St) (I : α → Prop) (h : AwpS P G n0 [c] (thenQ (fun st' => ∃ y, I y ∧ Wk G n0 st' (S y)) Q) st) (k : ∀ y, I y → AwpS P G n0 cs Q (S y))
    (hcs : cs ≠ []) : AwpS P G n0 (c :: cs) Q st := by
  refine awp_mono h fun e s hs => ?_
  cases e with
  | normal =>
    obtain ⟨y, hy, hw⟩ := hs
    cases cs with
    | nil => exact absurd rfl hcs
    | cons a r => exact awp_wk hw (k y hy)
  | _ => exact hs
/-- only the slots that are named stay known. -/
def keep (l : List Nat) (e : Env) : Env := l.map fun t => (t, lk e t)
theorem lk_keep (e : Env) (t : Nat) : ∀ (l : List Nat), lk (keep l e) t = lk e t ∨ lk (keep l e) t = .any
  | [] => .inr rfl
  | a :: l => by
    simp only [keep, List.map_cons, lk]
    by_cases h : a = t
    · subst h; rw [if_pos rfl]; exact .inl rfl
    · rw [if_neg h]; exact lk_keep e t l
theorem awpS_keep (l : List Nat) {c : Code} {cs : List Code} {Q : Exit → St → Prop} {st : St} (h : AwpS P G n0 (c :: cs) Q ⟨keep l st.env, st.heap, st.nx⟩) : AwpS P G n0 (c :: cs) Q st := by
  have hw : Wk G n0 st ⟨keep l st.env, st.heap, st.nx⟩ := fun mu a w hs hn => ⟨mu, ⟨hs.defers, hs.size, fun t => by
    rcases lk_keep st.env t l with h1 | h1
    · show Rel _ (lk (keep l st.env) t) _
      rw [h1]
      exact hs.env t
    · show Rel _ (lk (keep l st.env) t) _
      rw [h1]
      trivial, hs.heap⟩, hn, Stay.refl⟩
  exact awp_wk hw h
theorem PC_introS {T : Tab} (hT : TabOK P T) {f : FuncId} {fn : Func} {c : Code} {args : List AVal} {r : AVal} (hf : P.funcs[f]? = some fn) (hb : fn.body = some c) (hn : args.length ≤ fn.ntmps)
    (h : ∀ G : Gh, G.nt = fn.ntmps → G.rd = none → AwpS P G 0 [c] (fun e st => match e with | .normal => RetOK T fn.results.toList r st | .ret => RetOK T fn.results.toList r st | _ => False) ⟨argEnv 0 args, [], 0⟩) :
    PC P f args r := PC_intro hT hf hb hn fun G hG hR => awp_mono (h G hG hR) fun e s hs => by cases e <;> exact hs
/-- a list as the elements of a slice: each element by its cells. -/
def vecF {α : Type} (f : α → Nat → AVal) (d : α) (l : List α) : Nat → Nat → AVal := fun i j => f (l.getD i d) j
def vec {α : Type} (s : Nat) (f : α → Nat → AVal) (d : α) (l : List α) : AVal := .vsl l.length s (vecF f d l)

theorem awp_seq_skip {y : Code} {Q : Exit → St → Prop} {st : St} (h : Awp P G n0 y Q st) : Awp P G n0 (.seq .skip y) Q st := awp_seq (awp_skip h)
end

section
variable {α : Type} {s : Nat} {f : α → Nat → AVal} {d : α} {l : List α}
@[simp] theorem evLen_vec {h : Heap} : evLen h (vec s f d l) = some (.int .i64 l.length) := rfl
@[simp] theorem strip_vec : strip (vec s f d l) = (vec s f d l, True) := rfl
@[simp] theorem lenT_vec {T : Tab} {t : TypeId} : lenT T t (vec s f d l) = sliceT T t := by
  unfold lenT sliceT vec
  cases T t with
  | none => rfl
  | some i => obtain ⟨k, a, b, c, dq⟩ := i; cases k <;> rfl
@[simp] theorem evIndexAddr_vec {T : Tab} {h : Heap} {t : TypeId} {k : IntKind} {m : Int} :
    evIndexAddr T h t (vec s f d l) (.int k m) = match elemT T t with
      | some ei => if s = ei.size then some (.vptr s (f (l.getD m.toNat d)) 0, 0 ≤ m ∧ m < (l.length : Int)) else none
      | none => none := by
  unfold evIndexAddr elemT vec vecF
  cases T t with
  | none => rfl
  | some i =>
    obtain ⟨k, a, b, c, dq⟩ := i
    cases k <;> try rfl
    rename_i e
    simp only
    cases T e <;> rfl
end
end Go.Lift
