/-
  The abstract layer, part K: one operation, and the operations of a region in the order of the text.
-/
import Derived.Test.YtmjkbidnghcfnaaLJM
namespace Go.Lift
set_option linter.unusedSimpArgs false
set_option linter.unusedVariables false
open Go.RowKit

structure Ev where
  v : AVal
  h : Heap
  nx : Nat
  c : Prop

def evX (e : Env) : Operand → AVal
  | .tmp t => lk e t
  | .const v => ofValue v
  | .func f => .fn f 0 (fun _ => .any)
  | .global _ => .any
def sv (e : Env) (x : Operand) : AVal := (strip (evX e x)).1
def sc (e : Env) (x : Operand) : Prop := (strip (evX e x)).2

def pickB : AVal → Option (Bool × Prop)
  | .bool y => some (y, True)
  | .opt g (.bool y) => some (y, g = true)
  | _ => none

def evMM (mx : Bool) : AVal → List AVal → Option AVal
  | .int k a, [] => some (.int k a)
  | .int k a, .int _ b :: r => evMM mx (.int k (if mx then max a b else min a b)) r
  | _, _ => none

def partsV (e : Env) (l : List (Nat × Operand)) : List (Nat × AVal) := l.map (fun p => (p.1, sv e p.2))
def partsC (e : Env) : List (Nat × Operand) → Prop
  | [] => True
  | p :: r => sc e p.2 ∧ partsC e r
def argsC (e : Env) : List Operand → Prop
  | [] => True
  | p :: r => sc e p ∧ argsC e r

def evCallB (T : Tab) (e : Env) (h : Heap) (nx : Nat) (b : Builtin) (args : List Operand) (ts : List TypeId) : Option Ev :=
  match b, args, ts with
  | .len, [x], [t] => if lenT T t (sv e x) then match evLen h (sv e x) with
    | some v => some ⟨v, h, nx, sc e x⟩
    | none => none else none
  | .append, [x, y], [t, u] => match evAppend T h nx t u (sv e x) (sv e y) with
    | some (v, h', c) => some ⟨v, h', nx + 1, sc e x ∧ sc e y ∧ c⟩
    | none => none
  | .max, x :: r, _ => match evMM true (sv e x) (r.map (sv e)) with
    | some v => some ⟨v, h, nx, argsC e (x :: r)⟩
    | none => none
  | .min, x :: r, _ => match evMM false (sv e x) (r.map (sv e)) with
    | some v => some ⟨v, h, nx, argsC e (x :: r)⟩
    | none => none
  | .clear, [x], [t] => match T t, evClear h (sv e x) with
    | some _, some h' => some ⟨.any, h', nx, sc e x⟩
    | _, _ => none
  | _, _, _ => none

def isStrT (T : Tab) (t : TypeId) : Bool := match T t with
  | some ⟨.str, _, _, _, _⟩ => true
  | _ => false

def evOp (T : Tab) (e : Env) (h : Heap) (nx : Nat) (op : Op) : Option Ev :=
  match op with
  | .move x => some ⟨evX e x, h, nx, True⟩
  | .assign x => some ⟨evX e x, h, nx, True⟩
  | .pick c a b => match sv e c, pickB (evX e a), pickB (evX e b) with
    | .bool x, some (ya, ga), some (yb, gb) => some ⟨.bool (if x then ya else yb), h, nx, sc e c ∧ (x = true → ga) ∧ (x = false → gb)⟩
    | _, _, _ => none
  | .alloc t => match evAlloc T h nx t with
    | some (v, h') => some ⟨v, h', nx + 1, True⟩
    | none => none
  | .box t x => match evBox T h nx t (sv e x) with
    | some (v, h') => some ⟨v, h', nx + 1, sc e x⟩
    | none => none
  | .load t a => match evLoad T h t (sv e a) with
    | some (v, c) => some ⟨v, h, nx, sc e a ∧ c⟩
    | none => none
  | .store t a x => match evStore T h t (sv e a) (sv e x) with
    | some (h', c) => some ⟨.any, h', nx, sc e a ∧ sc e x ∧ c⟩
    | none => none
  | .fieldAddr t x k => match evFieldAddr T t (sv e x) k with
    | some v => some ⟨v, h, nx, sc e x⟩
    | none => none
  | .field t x k => match evField T t (sv e x) k with
    | some (v, c) => some ⟨v, h, nx, sc e x ∧ c⟩
    | none => none
  | .indexAddr t x ix => match evIndexAddr T h t (sv e x) (sv e ix) with
    | some (v, c) => some ⟨v, h, nx, sc e x ∧ sc e ix ∧ c⟩
    | none => none
  | .index t x ix => if isStrT T t then match evIndex (sv e x) (sv e ix) with
    | some (v, c) => some ⟨v, h, nx, sc e x ∧ sc e ix ∧ c⟩
    | none => none else none
  | .binOp o t x y _ => match evBin o (sv e x) (sv e y) with
    | some (v, c) => some ⟨v, h, nx, sc e x ∧ sc e y ∧ c⟩
    | none => match evEq T o t (sv e x) (sv e y) with
      | some v => some ⟨v, h, nx, sc e x ∧ sc e y⟩
      | none => none
  | .unOp o _ x => match evUn o (sv e x) with
    | some (v, c) => some ⟨v, h, nx, sc e x ∧ c⟩
    | none => none
  | .convert s d x => match evConv T s d (sv e x) with
    | some (v, c) => some ⟨v, h, nx, sc e x ∧ c⟩
    | none => none
  | .nilCheck x => match sv e x with
    | .ptr i k o => some ⟨.ptr i k o, h, nx, sc e x⟩
    | .vptr s f o => some ⟨.vptr s f o, h, nx, sc e x⟩
    | .fn g n f => some ⟨.fn g n f, h, nx, sc e x⟩
    | _ => none
  | .extract t i => match sv e t with
    | .tup n f => if i < n then some ⟨f i, h, nx, sc e t⟩ else none
    | _ => none
  | .build t ps => match evBuild T t (partsV e ps.toList) with
    | some v => some ⟨v, h, nx, partsC e ps.toList⟩
    | none => none
  | .buildSlice t n ps => match evBuildSlice T h nx t n (partsV e ps.toList) with
    | some (v, h') => some ⟨v, h', nx + 1, partsC e ps.toList⟩
    | none => none
  | .makeSlice t l c => match evMake T h nx t (sv e l) (sv e c) with
    | some (v, h', c') => some ⟨v, h', nx + 1, sc e l ∧ sc e c ∧ c'⟩
    | none => none
  | .slice t x lo hi none => match evSlice T h t (sv e x) (lo.map (sv e)) (hi.map (sv e)) with
    | some (v, c) => some ⟨v, h, nx, sc e x ∧ argsC e (lo.toList ++ hi.toList) ∧ c⟩
    | none => none
  | .makeFunc (.func g) fs cs => if fs.size = 0 then some ⟨.fn g cs.size (fun j => (cs.toList.map (sv e)).getD j .any), h, nx, argsC e cs.toList⟩ else none
  | .makeMap _ none => some ⟨.map (nx, 0), (nx, .one (.mp [])) :: h, nx + 1, True⟩
  | .lookup t m k ok => match evLookup T h t (sv e m) (sv e k) ok with
    | some v => some ⟨v, h, nx, sc e m ∧ sc e k⟩
    | none => none
  | .mapUpdate t m k x => match evMapUpd T h t (sv e m) (sv e k) (sv e x) with
    | some h' => some ⟨.any, h', nx, sc e m ∧ sc e k ∧ sc e x⟩
    | none => none
  | .insert t m k x => match evMapUpd T h t (sv e m) (sv e k) (sv e x) with
    | some h' => some ⟨.any, h', nx, sc e m ∧ sc e k ∧ sc e x⟩
    | none => none
  | .call c => match c.callee with
    | .builtin b => evCallB T e h nx b c.args.toList c.argTypes.toList
    | _ => none
  | _ => none

def GoodN (P : Program) (G : Gh) (h : Heap) (mu : Id → Option Base) (nx : Nat) (w : World) (sem : Sem Next) (v : AVal) (h' : Heap) (nx' : Nat) (wid : Option Id) : Prop :=
  ∃ x w' mu', (sem.run P w = .ok (.value x) w' ∨ (sem.run P w = .ok .skip w' ∧ x = undef)) ∧ (cx G h mu nx w).Le (cx G h' mu' nx' w') ∧ HOk G h' mu' nx' w' ∧ Rel (cx G h' mu' nx' w') v x ∧ Frame mu w w' wid

/-- the piece that an operation writes. -/
def wOp (e : Env) : Op → Option Id
  | .store _ a _ => wPtr (sv e a)
  | .mapUpdate _ m _ _ => wMap (sv e m)
  | .insert _ m _ _ => wMap (sv e m)
  | .call c => match c.callee, c.args.toList with
    | .builtin .append, x :: _ => wSl (sv e x)
    | .builtin .clear, x :: _ => wMap (sv e x)
    | _, _ => none
  | _ => none

section
variable {P : Program} {w : World} {G : Gh} {h : Heap} {mu : Id → Option Base} {nx : Nat}

theorem GoodN.of {sem : Sem Value} {v : AVal} {h' : Heap} {nx' : Nat} {wid : Option Id} (hg : Good P G h mu nx w sem v h' nx' wid) : GoodN P G h mu nx w (do pure (.value (← sem))) v h' nx' wid := by
  obtain ⟨x, w', mu', hr, h1, h2, h3⟩ := hg
  exact ⟨x, w', mu', .inl (by simp [hr]), h1, h2, h3⟩
theorem GoodN.of_val (hk : HOk G h mu nx w) {sem : Sem Value} {v : AVal} (hg : ∃ z, sem.run P w = .ok z w ∧ Rel (cx G h mu nx w) v z) : GoodN P G h mu nx w (do pure (.value (← sem))) v h nx none := by
  obtain ⟨z, hz, hv⟩ := hg
  exact GoodN.of (Good.pure hk hz hv)

theorem parts_rel {c : Cx} {e : Env} {ρ : Operand → Value} (hρ : ∀ x, Rel c (evX e x) (ρ x)) : ∀ (l : List (Nat × Operand)), partsC e l → PartsRel c (partsV e l) (l.map fun p => (p.1, ρ p.2))
  | [], _ => trivial
  | p :: r, h => ⟨rfl, strip_rel (hρ p.2) h.1, parts_rel hρ r h.2⟩

theorem mm_ok {c : Cx} (mx : Bool) : ∀ (l : List AVal) (xs : List Value) (p v : AVal) (x : Value), l.length = xs.length → (∀ (i : Nat) (a : AVal) (y : Value), l[i]? = some a → xs[i]? = some y → Rel c a y) →
    Rel c p x → evMM mx p l = some v → ∃ z, (xs.foldlM (if mx then Builtin.max2 else Builtin.min2) x).run P w = .ok z w ∧ Rel c v z
  | [], [], p, v, x, _, _, hp, he => by
    cases p <;> simp only [evMM, Option.some.injEq, reduceCtorEq] at he
    subst he
    exact ⟨x, by simp, hp⟩
  | a :: l, y :: xs, p, v, x, hl, hr, hp, he => by
    cases p <;> try (simp [evMM] at he; done)
    cases a <;> simp only [evMM, reduceCtorEq] at he
    rename_i k n k' m
    simp only [Rel] at hp
    subst hp
    have hy := hr 0 _ _ rfl rfl
    simp only [Rel] at hy
    subst hy
    obtain ⟨z, hz, hv⟩ := mm_ok mx l xs (.int k (if mx then max n m else min n m)) v (.int k (if mx then max n m else min n m)) (by simpa using hl) (fun i a y ha hy => hr (i + 1) a y (by simpa using ha) (by simpa using hy)) rfl he
    refine ⟨z, ?_, hv⟩
    cases mx with
    | true =>
      have hmx : (if m > n then m else n) = max n m := by omega
      simp only [if_true] at hz ⊢
      simp only [List.foldlM_cons, Builtin.max2, Sem.run_bind, Sem.run_pure, Result.andThen_ok, hmx]
      exact hz
    | false =>
      have hmn : (if m < n then m else n) = min n m := by omega
      simp only [Bool.false_eq_true, if_false] at hz ⊢
      simp only [List.foldlM_cons, Builtin.min2, Sem.run_bind, Sem.run_pure, Result.andThen_ok, hmn]
      exact hz
  | [], _ :: _, _, _, _, hl, _, _, _ => by simp at hl
  | _ :: _, [], _, _, _, hl, _, _, _ => by simp at hl

theorem argsC_mem {e : Env} : ∀ {l : List Operand}, argsC e l → ∀ x ∈ l, sc e x
  | [], _, x, hx => by cases hx
  | p :: r, h, x, hx => by
    cases hx with
    | head => exact h.1
    | tail _ hx => exact argsC_mem h.2 x hx

theorem evOp_ok {T : Tab} (hT : TabOK P T) (hk : HOk G h mu nx w) {e : Env} {ρ : Operand → Value} (hρ : ∀ x, Rel (cx G h mu nx w) (evX e x) (ρ x)) {o : Oper} {r : Ev} (he : evOp T e h nx o.op = some r) (hc : r.c) :
    GoodN P G h mu nx w (execOp ρ o) r.v r.h r.nx (wOp e o.op) := by
  have hs : ∀ x, sc e x → Rel (cx G h mu nx w) (sv e x) (ρ x) := fun x hx => strip_rel (hρ x) hx
  unfold evOp at he
  unfold execOp
  cases hop : o.op <;> simp only [hop, reduceCtorEq] at he ⊢ <;> try simp only [wOp]
  case move x =>
    injection he with he
    subst he
    exact ⟨ρ x, w, mu, .inl (by simp), Cx.Le.refl _, hk, hρ x, Frame.refl⟩
  case assign x =>
    injection he with he
    subst he
    exact ⟨ρ x, w, mu, .inl (by simp), Cx.Le.refl _, hk, hρ x, Frame.refl⟩
  case pick c a b =>
    split at he
    · rename_i x ya ga yb gb hcx hpa hpb
      injection he with he
      subst he
      obtain ⟨h1, h2, h3⟩ := hc
      have hcr := hs c h1
      rw [hcx] at hcr
      simp only [Rel] at hcr
      have hpk : ∀ (z : Operand) (y : Bool) (g : Prop), pickB (evX e z) = some (y, g) → g → ρ z = .bool y := fun z y g hz hg => by
        have hr := hρ z
        cases hev : evX e z <;> simp only [hev, pickB, Option.some.injEq, Prod.mk.injEq, reduceCtorEq] at hz
        · obtain ⟨rfl, rfl⟩ := hz
          rw [hev] at hr
          exact hr
        · rename_i g' v'
          cases v' <;> simp only [pickB, Option.some.injEq, Prod.mk.injEq, reduceCtorEq] at hz
          obtain ⟨rfl, rfl⟩ := hz
          rw [hev] at hr
          exact hr.1 hg
      cases x with
      | true =>
        have := hpk a ya ga hpa (h2 rfl)
        exact ⟨ρ a, w, mu, .inl (by simp [hcr, asBool]), Cx.Le.refl _, hk, this, Frame.refl⟩
      | false =>
        have := hpk b yb gb hpb (h3 rfl)
        exact ⟨ρ b, w, mu, .inl (by simp [hcr, asBool]), Cx.Le.refl _, hk, this, Frame.refl⟩
    · cases he
  case alloc t =>
    split at he
    · rename_i v h' hev
      injection he with he
      subst he
      exact GoodN.of (evAlloc_ok hT hk hev)
    · cases he
  case box t x =>
    split at he
    · rename_i v h' hev
      injection he with he
      subst he
      exact GoodN.of (evBox_ok hT hk hev (hs x hc))
    · cases he
  case load t a =>
    split at he
    · rename_i v c hev
      injection he with he
      subst he
      exact GoodN.of (evLoad_ok hT hk hev hc.2 (hs a hc.1))
    · cases he
  case store t a x =>
    split at he
    · rename_i h' c hev
      injection he with he
      subst he
      obtain ⟨w', hr, hLe, hok, hfr⟩ := evStore_ok hT hk hev hc.2.2 (hs a hc.1) (hs x hc.2.1)
      exact ⟨undef, w', mu, .inr ⟨by simp [hr], rfl⟩, hLe, hok, trivial, hfr⟩
    · cases he
  case fieldAddr t x k =>
    split at he
    · rename_i v hev
      injection he with he
      subst he
      exact GoodN.of (Good.ofU hk (evFieldAddr_ok hT hev (hs x hc)))
    · cases he
  case field t x k =>
    split at he
    · rename_i v c hev
      injection he with he
      subst he
      exact GoodN.of (Good.ofU hk (evField_ok hT hev hc.2 (hs x hc.1)))
    · cases he
  case indexAddr t x ix =>
    split at he
    · rename_i v c hev
      injection he with he
      subst he
      exact GoodN.of (Good.ofU hk (evIndexAddr_ok hT hk hev hc.2.2 (hs x hc.1) (hs ix hc.2.1)))
    · cases he
  case index t x ix =>
    by_cases hst : isStrT T t = true
    · rw [if_pos hst] at he
      split at he
      · rename_i v c hev
        injection he with he
        subst he
        unfold isStrT at hst
        split at hst
        · rename_i hi
          obtain ⟨z, hz, hv⟩ := evIndex_ok hT hi rfl hev hc.2.2 (hs x hc.1) (hs ix hc.2.1)
          exact GoodN.of_val hk ⟨z, hz w, hv _⟩
        · cases hst
      · cases he
    · rw [if_neg hst] at he; cases he
  case binOp bo t x y t' =>
    split at he
    · rename_i v c hev
      injection he with he
      subst he
      obtain ⟨z, hz, hv⟩ := evBin_ok (P := P) hev hc.2.2 (hs x hc.1) (hs y hc.2.1) t x y
      exact GoodN.of_val hk ⟨z, hz w, hv _⟩
    · split at he
      · rename_i v hev
        injection he with he
        subst he
        obtain ⟨z, hz, hv⟩ := evEq_ok hT hev (hs x hc.1) (hs y hc.2) x y
        exact GoodN.of_val hk ⟨z, hz w, hv _⟩
      · cases he
  case unOp uo t x =>
    split at he
    · rename_i v c hev
      injection he with he
      subst he
      obtain ⟨z, hz, hv⟩ := evUn_ok (P := P) hev hc.2 (hs x hc.1)
      exact GoodN.of_val hk ⟨z, hz w, hv _⟩
    · cases he
  case convert s d x =>
    split at he
    · rename_i v c hev
      injection he with he
      subst he
      obtain ⟨z, hz, hv⟩ := evConv_ok hT hev hc.2 (hs x hc.1)
      exact GoodN.of_val hk ⟨z, hz w, hv _⟩
    · cases he
  case nilCheck x =>
    split at he
    · rename_i hx
      injection he with he
      subst he
      have hr := hs x hc
      rw [hx] at hr
      have hr' := hr
      obtain ⟨_, B, _, hxx⟩ := hr
      exact ⟨ρ x, w, mu, .inl (by simp [hxx]), Cx.Le.refl _, hk, hr', Frame.refl⟩
    · rename_i hx
      injection he with he
      subst he
      have hr := hs x hc
      rw [hx] at hr
      have hr' := hr
      obtain ⟨_, _, hxx, _⟩ := hr
      exact ⟨ρ x, w, mu, .inl (by simp [hxx]), Cx.Le.refl _, hk, hr', Frame.refl⟩
    · rename_i hx
      injection he with he
      subst he
      have hr := hs x hc
      rw [hx] at hr
      have hr' := hr
      obtain ⟨_, hxx, _⟩ := hr
      exact ⟨ρ x, w, mu, .inl (by simp [hxx]), Cx.Le.refl _, hk, hr', Frame.refl⟩
    · cases he
  case extract t i =>
    split at he
    · rename_i n f hx
      by_cases hin : i < n
      · rw [if_pos hin] at he
        injection he with he
        subst he
        have hr := hs t hc
        rw [hx] at hr
        obtain ⟨cs, hxx, hsz, hall⟩ := hr
        have hlt : i < cs.size := by omega
        refine GoodN.of_val hk ⟨cs.getD i undef, ?_, hall i hin⟩
        simp [hxx, Instr.extract, hlt, Array.getD]
      · rw [if_neg hin] at he; cases he
    · cases he
  case build t ps =>
    split at he
    · rename_i v hev
      injection he with he
      subst he
      exact GoodN.of (Good.ofU hk (evBuild_ok hT hev (by simpa using parts_rel hρ ps.toList hc)))
    · cases he
  case buildSlice t n ps =>
    split at he
    · rename_i v h' hev
      injection he with he
      subst he
      exact GoodN.of (evBuildSlice_ok hT hk hev (by simpa using parts_rel hρ ps.toList hc))
    · cases he
  case makeSlice t l c =>
    split at he
    · rename_i v h' c' hev
      injection he with he
      subst he
      exact GoodN.of (evMake_ok hT hk hev hc.2.2 (hs l hc.1) (hs c hc.2.1))
    · cases he
  case slice t x lo hi mx =>
    cases mx with
    | some _ => simp at he
    | none =>
      simp only at he
      split at he
      · rename_i v c hev
        injection he with he
        subst he
        have hm := argsC_mem hc.2.1
        refine GoodN.of (Good.ofU hk (evSlice_ok hT hk hev hc.2.2 (hs x hc.1) ?_ ?_))
        · cases lo with
          | none => trivial
          | some y => exact hs y (hm y (by simp))
        · cases hi with
          | none => trivial
          | some y => exact hs y (hm y (by simp))
      · cases he
  case makeFunc fn fs cs =>
    cases fn <;> simp only [reduceCtorEq] at he
    rename_i g
    by_cases hf : fs.size = 0
    · rw [if_pos hf] at he
      injection he with he
      subst he
      have hfe : fs = #[] := Array.eq_empty_of_size_eq_zero hf
      have hm := argsC_mem hc
      subst hfe
      refine GoodN.of_val hk ⟨.func (.func g) #[] (cs.map ρ), by simp [Instr.makeFunc], _, rfl, by simp, fun j hj => ?_⟩
      have h1 : (cs.toList.map (sv e)).getD j .any = sv e cs[j] := by simp [List.getD, hj]
      have h2 : (cs.map ρ).getD j undef = ρ cs[j] := by simp [Array.getD, hj]
      rw [h2]
      show Rel _ ((cs.toList.map (sv e)).getD j .any) _
      rw [h1]
      exact hs _ (hm _ (by simp))
    · rw [if_neg hf] at he; cases he
  case makeMap t rs =>
    cases rs with
    | some _ => simp at he
    | none =>
      injection he with he
      subst he
      exact GoodN.of (evMakeMap_ok hk)
  case lookup t m k ok =>
    split at he
    · rename_i v hev
      injection he with he
      subst he
      obtain ⟨z, hz, hv⟩ := evLookup_ok hT hk hev (hs m hc.1) (hs k hc.2)
      exact GoodN.of_val hk ⟨z, hz, hv⟩
    · cases he
  case mapUpdate t m k x =>
    split at he
    · rename_i h' hev
      injection he with he
      subst he
      obtain ⟨w', hr, hLe, hok, hfr⟩ := evMapUpd_ok hT hk hev (hs m hc.1) (hs k hc.2.1) (hs x hc.2.2)
      exact ⟨undef, w', mu, .inr ⟨by simp [hr], rfl⟩, hLe, hok, trivial, hfr⟩
    · cases he
  case insert t m k x =>
    split at he
    · rename_i h' hev
      injection he with he
      subst he
      obtain ⟨w', hr, hLe, hok, hfr⟩ := evMapUpd_ok hT hk hev (hs m hc.1) (hs k hc.2.1) (hs x hc.2.2)
      exact ⟨undef, w', mu, .inr ⟨by simp [hr], rfl⟩, hLe, hok, trivial, hfr⟩
    · cases he
  case call c =>
    obtain ⟨callee, args, argTypes⟩ := c
    cases callee <;> simp only [reduceCtorEq] at he
    rename_i b
    obtain ⟨al, rfl⟩ : ∃ al : List Operand, args = al.toArray := ⟨args.toList, by simp⟩
    obtain ⟨tl, rfl⟩ : ∃ tl : List TypeId, argTypes = tl.toArray := ⟨argTypes.toList, by simp⟩
    unfold evCallB at he
    simp only at he
    split at he
    · rename_i x t
      by_cases hl : lenT T t (sv e x) = true
      · rw [if_pos hl] at he
        split at he
        · rename_i v hev
          injection he with he
          subst he
          obtain ⟨z, w', mu', hr, h1, h2, h3⟩ := evLen_ok (ty := o.type) hT hk hev hl (hs x hc)
          exact ⟨z, w', mu', .inl (by simp [resolve, invoke, builtin, hr]), h1, h2, h3⟩
        · cases he
      · rw [if_neg hl] at he; cases he
    · rename_i x y t u
      split at he
      · rename_i v h' c' hev
        injection he with he
        subst he
        obtain ⟨z, w', mu', hr, h1, h2, h3⟩ := evAppend_ok (ty := o.type) hT hk hev hc.2.2 (hs x hc.1) (hs y hc.2.1)
        exact ⟨z, w', mu', .inl (by simp [resolve, invoke, builtin, hr]), h1, h2, h3⟩
      · cases he
    · rename_i x rest
      split at he
      · rename_i v hev
        injection he with he
        subst he
        have hm := argsC_mem hc
        obtain ⟨z, hz, hv⟩ := mm_ok (P := P) (w := w) (c := cx G h mu nx w) true (rest.map (sv e)) (rest.map ρ) _ v (ρ x) (by simp) (fun i a y ha hy => by
          rw [List.getElem?_map] at ha hy
          cases hri : rest[i]? with
          | none => rw [hri] at ha; cases ha
          | some p =>
            rw [hri] at ha hy
            simp only [Option.map_some, Option.some.injEq] at ha hy
            subst ha hy
            exact hs p (hm p (List.mem_cons_of_mem _ (List.mem_of_getElem? hri)))) (hs x (hm x (by simp))) hev
        exact ⟨z, w, mu, .inl (by simp only [if_true] at hz; simp [resolve, invoke, builtin, Builtin.max_, hz]), Cx.Le.refl _, hk, hv, Frame.refl⟩
      · cases he
    · rename_i x rest
      split at he
      · rename_i v hev
        injection he with he
        subst he
        have hm := argsC_mem hc
        obtain ⟨z, hz, hv⟩ := mm_ok (P := P) (w := w) (c := cx G h mu nx w) false (rest.map (sv e)) (rest.map ρ) _ v (ρ x) (by simp) (fun i a y ha hy => by
          rw [List.getElem?_map] at ha hy
          cases hri : rest[i]? with
          | none => rw [hri] at ha; cases ha
          | some p =>
            rw [hri] at ha hy
            simp only [Option.map_some, Option.some.injEq] at ha hy
            subst ha hy
            exact hs p (hm p (List.mem_cons_of_mem _ (List.mem_of_getElem? hri)))) (hs x (hm x (by simp))) hev
        exact ⟨z, w, mu, .inl (by simp only [Bool.false_eq_true, if_false] at hz; simp [resolve, invoke, builtin, Builtin.min_, hz]), Cx.Le.refl _, hk, hv, Frame.refl⟩
      · cases he
    · rename_i x t
      split at he
      · rename_i ti h' hti hev
        injection he with he
        subst he
        have hkd := (hT t _ hti).kind
        have hu : ∃ d, P.underlying t = some d := by
          cases hki : ti.k <;> rw [hki] at hkd <;> simp only [TK.ok] at hkd
          case struct => obtain ⟨fs, _, hu, _⟩ := hkd; exact ⟨_, hu⟩
          case func => obtain ⟨a, b, c, hu⟩ := hkd; exact ⟨_, hu⟩
          all_goals exact ⟨_, hkd⟩
        obtain ⟨d, hu⟩ := hu
        obtain ⟨w', hr, hLe, hok, hfr⟩ := evClear_ok (ty := o.type) hk hev hu (hs x hc)
        exact ⟨.tuple #[], w', mu, .inl (by simp [resolve, invoke, builtin, hr]), hLe, hok, trivial, hfr⟩
      · cases he
    · cases he
end
end Go.Lift
