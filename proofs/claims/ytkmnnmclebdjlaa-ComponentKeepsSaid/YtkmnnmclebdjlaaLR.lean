/-
  The abstract layer, part R: regions that draw their order.
-/
import Derived.Test.YtkmnnmclebdjlaaLQ
import Derived.OrdersHeld
namespace Go.Lift
set_option linter.unusedSimpArgs false
set_option linter.unusedVariables false
open Go.RowKit

/-- what stays while an operation of a region is carried out: what was known stays known, the blocks KB are as they were. -/
structure LeKB (KB : Nat → Prop) (c c' : Cx) : Prop where
  le : c.Le c'
  kb : ∀ b, KB b → b < c.w.heap.size → c'.w.heap[b]? = c.w.heap[b]?
theorem LeKB.refl {KB : Nat → Prop} (c : Cx) : LeKB KB c c := ⟨Cx.Le.refl c, fun _ _ _ => rfl⟩
theorem LeKB.trans {KB : Nat → Prop} {a b c : Cx} (h : LeKB KB a b) (k : LeKB KB b c) : LeKB KB a c := ⟨h.le.trans k.le, fun x hx hb => (k.kb x hx (Nat.lt_of_lt_of_le hb h.le.size)).trans (h.kb x hx hb)⟩
theorem LeKB.mono {K1 K2 : Nat → Prop} {a b : Cx} (h : LeKB K2 a b) (hk : ∀ x, K1 x → K2 x) : LeKB K1 a b := ⟨h.le, fun x hx hb => h.kb x (hk x hx) hb⟩

/-- whatever order is picked from here on; behind operation j there is a context that knows as much as the one before, and the blocks 'keep j' are as they were. -/
def wpAnyC (P : Program) (ops : Array Oper) (Q : Exit → Act → World → Prop) (keep : Nat → Nat → Prop) : Nat → Array Bool → Cx → Act → World → Prop
  | 0, listed, _, a, w => Region.ready .any ops listed = [] ∧ Q .normal a w
  | fuel + 1, listed, c, a, w =>
    (Region.ready .any ops listed = [] → Q .normal a w) ∧
    ∀ i ∈ Region.ready .any ops listed, wpOp P ops Q i (fun a' w' => ∃ c' : Cx, c'.w = w' ∧ LeKB (keep i) c c' ∧ wpAnyC P ops Q keep fuel (listed.setIfInBounds i true) c' a' w') a w

section
variable {P : Program} {ops : Array Oper} {Q : Exit → Act → World → Prop} {keep : Nat → Nat → Prop}

theorem wpAny_of_C : ∀ (fuel : Nat) (listed : Array Bool) (c : Cx) (a : Act) (w : World), wpAnyC P ops Q keep fuel listed c a w → wpAny P .any ops Q fuel listed a w
  | 0, _, _, _, _, h => h
  | fuel + 1, listed, c, _, _, h => ⟨h.1, fun i hi => wpOp_mono (fun a' w' hh => by
      obtain ⟨c', _, _, h3⟩ := hh
      exact wpAny_of_C fuel _ c' a' w' h3) (h.2 i hi)⟩

def seesKB (KB : Nat → Prop) (c : Cx) (w : World) : Prop := ∃ c' : Cx, c'.w = w ∧ LeKB KB c c'

theorem wpAnyC_first {i : Nat} {oi : Oper} {v : Value} {KB : Nat → Prop} (hi : ops[i]? = some oi) (hs : Region.noSelect ops = true) (hQ : ∀ ch a w, Q (.panic ch) (a.put oi.dst v) w → Q (.panic ch) a w) :
    ∀ (fuel : Nat) (listed : Array Bool) (c : Cx) (a : Act) (w : World), c.w = w →
      (∀ j oj, ops[j]? = some oj → j ≠ i → listed.getD j true = false → (∀ e ∈ oj.after, Region.binds .any e = true → e.on ≠ i) → oi.apart ops oj = true ∧ ∀ b, KB b → keep j b) →
      i ∈ Region.ready .any ops listed → YieldsIf P ops (seesKB KB c) oi v a →
      wpAnyC P ops Q keep fuel (listed.setIfInBounds i true) c (a.put oi.dst v) w → wpAnyC P ops Q keep (fuel + 1) listed c a w := by
  have hsel := Region.noSelect_spec hs
  intro fuel
  induction fuel with
  | zero =>
    intro listed c a w hcw _ hr hy H
    constructor
    · intro h0
      rw [h0] at hr
      cases hr
    · intro j hj
      by_cases hji : j = i
      · subst hji
        exact hy.wpOp hi (K := fun a' w' => ∃ c' : Cx, c'.w = w' ∧ LeKB (keep j) c c' ∧ wpAnyC P ops Q keep 0 (listed.setIfInBounds j true) c' a' w') ⟨c, hcw, LeKB.refl c⟩ ⟨c, hcw, LeKB.refl c, H⟩
      · have := ready_mono hj hji
        rw [H.1] at this
        cases this
  | succ fuel ih =>
    intro listed c a w hcw hfree hr hy H
    constructor
    · intro h0
      rw [h0] at hr
      cases hr
    · intro j hj
      by_cases hji : j = i
      · subst hji
        exact hy.wpOp hi (K := fun a' w' => ∃ c' : Cx, c'.w = w' ∧ LeKB (keep j) c c' ∧ wpAnyC P ops Q keep (fuel + 1) (listed.setIfInBounds j true) c' a' w') ⟨c, hcw, LeKB.refl c⟩ ⟨c, hcw, LeKB.refl c, H⟩
      · have hstep := H.2 j (ready_mono hj hji)
        obtain ⟨hjun, oj, hoj, hall⟩ := mem_ready.1 hj
        have hnot : ∀ e ∈ oj.after, Region.binds .any e = true → e.on ≠ i := by
          intro e he hb heq
          have hlist := hall e he hb
          have hun := (mem_ready.1 hr).1
          rw [heq] at hlist
          rcases Nat.lt_or_ge i listed.size with hlt | hge
          · simp only [Array.getD_eq_getD_getElem?, Array.getElem?_eq_getElem hlt, Option.getD_some] at hlist hun
            rw [hlist] at hun
            cases hun
          · simp [Array.getD_eq_getD_getElem?, Array.getElem?_eq_none hge] at hlist
        obtain ⟨hap, hkb⟩ := hfree j oj hoj hji hjun hnot
        have hmoved := wpOp_putIf hoj hap (fun cs b => hsel i oi cs b hi) (fun cs b => hsel j oj cs b hoj) hQ hy hstep
        refine wpOp_mono (fun a' w' hh => ?_) hmoved
        obtain ⟨hy', c', hcw', hle, hrest⟩ := hh
        refine ⟨c', hcw', hle, ih _ c' a' w' hcw' ?_ (ready_mono hr (Ne.symm hji)) ?_ ?_⟩
        · intro k ok hk hki hun hno
          refine hfree k ok hk hki ?_ hno
          by_cases hjk : j = k
          · rw [← hjk]; exact hjun
          · rwa [getD_set_ne true hjk] at hun
        · rcases hy' with ⟨hw1, hw2⟩ | hw
          · exact .inl ⟨hw1, fun w2 ⟨c2, hc2, hle2⟩ => hw2 w2 ⟨c2, hc2, (hle.mono hkb).trans hle2⟩⟩
          · exact .inr hw
        · rw [Array.setIfInBounds_comm _ _ hji]
          exact hrest
end

/-- the operations that have come up. -/
def lst (n : Nat) (done : List Nat) : Array Bool := ((List.range n).map fun k => done.contains k).toArray
theorem lst_size {n : Nat} {done : List Nat} : (lst n done).size = n := by simp [lst]
theorem lst_set {n i : Nat} {done : List Nat} : (lst n done).setIfInBounds i true = lst n (i :: done) := by
  apply Array.ext
  · simp [lst]
  · intro k h1 h2
    simp only [lst, Array.size_setIfInBounds, List.size_toArray, List.length_map, List.length_range] at h1
    by_cases hk : i = k
    · subst hk
      simp [lst]
    · rw [Array.getElem_setIfInBounds_ne (by simpa [lst] using h1) hk]
      simp [lst, Ne.symm hk]
theorem lst_nil {n : Nat} : lst n [] = Array.replicate n false := by
  apply Array.ext <;> simp [lst]

/-- operations that write: those of al may write anything; those of fr leave the pieces of pr. -/
structure AL where
  al : List Nat
  fr : List Nat
  pr : List Id
/-- what an operation leaves as it was: W says which piece it writes. -/
def keepOf (W : List (Nat × Id)) (al : AL) (mu0 : Id → Option Base) (nx0 : Nat) (j b : Nat) : Prop := al.al.contains j = false ∧ (al.fr.contains j = true → ∃ id ∈ al.pr, id.1 < nx0 ∧ ∃ B, mu0 id = some B ∧ b = B.b) ∧ ∀ p ∈ W, p.1 = j → ∀ B, mu0 p.2 = some B → b ≠ B.b

/-- a load of a piece that is written by none of the others that may come up before it. -/
def tkOK (al : AL) (ws : List Id) (nx0 : Nat) (h : Heap) (e : Env) : Op → Prop
  | .load _ a => match sv e a with
    | .ptr id _ _ => (∀ x ∈ ws, x ≠ id ∧ (lkH h x).isSome = true ∧ (lkH h id).isSome = true ∧ x.1 < nx0) ∧ (al.fr = [] ∨ (id ∈ al.pr ∧ id.1 < nx0))
    | _ => True
  | .call c => match c.args.toList with
    | x :: _ => match sv e x with
      | .map _ => False
      | _ => True
    | [] => True
  | _ => True

/-- which operations may be taken ahead of the others. -/
def takeOp : Op → Bool
  | .move _ | .assign _ | .pick .. | .load .. | .fieldAddr .. | .field .. | .indexAddr .. | .index .. | .binOp .. | .unOp .. | .convert .. | .nilCheck _ | .extract .. | .build .. | .slice .. | .makeFunc .. => true
  | .call c => match c.callee with
    | .builtin .len => true
    | .builtin .max => true
    | .builtin .min => true
    | _ => false
  | _ => false

/-- the value of an operation that may be taken, in every world in which what it looks at is the same. -/
theorem evOp_take {P : Program} {w : World} {G : Gh} {h : Heap} {mu : Id → Option Base} {nx : Nat} {T : Tab} (hT : TabOK P T) (hk : HOk G h mu nx w) {e : Env} {ρ : Operand → Value} (hρ : ∀ x, Rel (cx G h mu nx w) (evX e x) (ρ x)) {o : Oper} {r : Ev}
    (hp : takeOp o.op = true) (hnm : ∀ c, o.op = .call c → ∀ x, c.args.toList[0]? = some x → ∀ id, sv e x ≠ .map id) (he : evOp T e h nx o.op = some r) (hc : r.c) :
    ∃ x, Rel (cx G h mu nx w) r.v x ∧ ∀ w' : World, (∀ b off, b < w.heap.size → ¬ Fb G.O h mu b → w'.cell? ⟨b, off, none⟩ = w.cell? ⟨b, off, none⟩) →
      (∀ t a id k off B, o.op = .load t a → sv e a = .ptr id k off → mu id = some B → w'.heap[B.b]? = w.heap[B.b]?) → (execOp ρ o).run P w' = .ok (.value x) w' := by
  have hs : ∀ x, sc e x → Rel (cx G h mu nx w) (sv e x) (ρ x) := fun x hx => strip_rel (hρ x) hx
  have ofU : ∀ {sem : Sem Value} {v : AVal}, GoodU P (cx G h mu nx w) sem v → ∃ x, Rel (cx G h mu nx w) v x ∧ ∀ w' : World, (Sem.run P (do pure (.value (← sem))) w' : Result Next) = .ok (.value x) w' := fun hg => by
    obtain ⟨x, hx, hr⟩ := hg
    exact ⟨x, hr, fun w' => by simp [hx w']⟩
  have fin : ∀ {sem : Sem Next} {v : AVal} {R : World → Prop} {R2 : World → Prop}, (∃ x, Rel (cx G h mu nx w) v x ∧ ∀ w' : World, sem.run P w' = .ok (.value x) w') → ∃ x, Rel (cx G h mu nx w) v x ∧ ∀ w' : World, R w' → R2 w' → sem.run P w' = .ok (.value x) w' := fun hg => by
    obtain ⟨x, h1, h2⟩ := hg
    exact ⟨x, h1, fun w' _ _ => h2 w'⟩
  unfold evOp at he
  unfold execOp
  cases hop : o.op <;> simp only [hop, reduceCtorEq, takeOp, Bool.false_eq_true] at he hp ⊢
  case move x =>
    injection he with he
    subst he
    exact ⟨ρ x, hρ x, fun w' _ _ => by simp⟩
  case assign x =>
    injection he with he
    subst he
    exact ⟨ρ x, hρ x, fun w' _ _ => by simp⟩
  case pick c a b =>
    split at he
    · rename_i x ya ga yb gb hcx hpa hpb
      injection he with he
      subst he
      obtain ⟨h1, h2, h3⟩ := hc
      have hcr := hs c h1
      rw [hcx] at hcr
      simp only [Rel] at hcr
      have hpk : ∀ (z : Operand) (y : Bool) (g : Prop), pickB (evX e z) = some (y, g) → g → ρ z = .bool y := fun z y g hz hg => by
        have hr := hρ z
        cases hev : evX e z <;> simp only [hev, pickB, Option.some.injEq, Prod.mk.injEq, reduceCtorEq] at hz
        · obtain ⟨rfl, rfl⟩ := hz
          rw [hev] at hr
          exact hr
        · rename_i g' v'
          cases v' <;> simp only [pickB, Option.some.injEq, Prod.mk.injEq, reduceCtorEq] at hz
          obtain ⟨rfl, rfl⟩ := hz
          rw [hev] at hr
          exact hr.1 hg
      cases x with
      | true =>
        have := hpk a ya ga hpa (h2 rfl)
        exact ⟨ρ a, this, fun w' _ _ => by simp [hcr, asBool]⟩
      | false =>
        have := hpk b yb gb hpb (h3 rfl)
        exact ⟨ρ b, this, fun w' _ _ => by simp [hcr, asBool]⟩
    · cases he
  case load t a =>
    split at he
    · rename_i v c hev
      injection he with he
      subst he
      obtain ⟨y, hy, hr⟩ := evLoad_at hT hk hev hc.2 (hs a hc.1)
      exact ⟨y, hr, fun w' h1 h2 => by simp [hy w' h1 (fun id k off B hid hB => h2 t a id k off B rfl hid hB)]⟩
    · cases he
  case fieldAddr t x k =>
    split at he
    · rename_i v hev
      injection he with he
      subst he
      exact fin (ofU (evFieldAddr_ok hT hev (hs x hc)))
    · cases he
  case field t x k =>
    split at he
    · rename_i v c hev
      injection he with he
      subst he
      exact fin (ofU (evField_ok hT hev hc.2 (hs x hc.1)))
    · cases he
  case indexAddr t x ix =>
    split at he
    · rename_i v c hev
      injection he with he
      subst he
      exact fin (ofU (evIndexAddr_ok hT hk hev hc.2.2 (hs x hc.1) (hs ix hc.2.1)))
    · cases he
  case index t x ix =>
    by_cases hst : isStrT T t = true
    · rw [if_pos hst] at he
      split at he
      · rename_i v c hev
        injection he with he
        subst he
        unfold isStrT at hst
        split at hst
        · rename_i hi
          obtain ⟨z, hz, hv⟩ := evIndex_ok hT hi rfl hev hc.2.2 (hs x hc.1) (hs ix hc.2.1)
          exact ⟨z, hv _, fun w' _ _ => by simp [hz w']⟩
        · cases hst
      · cases he
    · rw [if_neg hst] at he; cases he
  case binOp bo t x y t' =>
    split at he
    · rename_i v c hev
      injection he with he
      subst he
      obtain ⟨z, hz, hv⟩ := evBin_ok (P := P) hev hc.2.2 (hs x hc.1) (hs y hc.2.1) t x y
      exact ⟨z, hv _, fun w' _ _ => by
        have h1 := hz w'
        simp only [Sem.run_bind] at h1
        simp only [Sem.run_bind]
        generalize (eqGuard bo t x y (ρ x) (ρ y)).run P w' = q at h1 ⊢
        cases q with
        | ok u w2 => simp only [Result.andThen_ok] at h1 ⊢; rw [h1]; simp
        | halt u w2 => simp at h1⟩
    · split at he
      · rename_i v hev
        injection he with he
        subst he
        obtain ⟨z, hz, hv⟩ := evEq_ok hT hev (hs x hc.1) (hs y hc.2) x y
        exact ⟨z, hv _, fun w' _ _ => by
          have h1 := hz w'
          simp only [Sem.run_bind] at h1
          simp only [Sem.run_bind]
          generalize (eqGuard bo t x y (ρ x) (ρ y)).run P w' = q at h1 ⊢
          cases q with
          | ok u w2 => simp only [Result.andThen_ok] at h1 ⊢; rw [h1]; simp
          | halt u w2 => simp at h1⟩
      · cases he
  case unOp uo t x =>
    split at he
    · rename_i v c hev
      injection he with he
      subst he
      obtain ⟨z, hz, hv⟩ := evUn_ok (P := P) hev hc.2 (hs x hc.1)
      exact ⟨z, hv _, fun w' _ _ => by simp [hz w']⟩
    · cases he
  case convert s d x =>
    split at he
    · rename_i v c hev
      injection he with he
      subst he
      obtain ⟨z, hz, hv⟩ := evConv_ok hT hev hc.2 (hs x hc.1)
      exact ⟨z, hv _, fun w' _ _ => by simp [hz w']⟩
    · cases he
  case nilCheck x =>
    split at he
    · rename_i hx
      injection he with he
      subst he
      have hr := hs x hc
      rw [hx] at hr
      have hr' := hr
      obtain ⟨_, B, _, hxx⟩ := hr
      exact ⟨ρ x, hr', fun w' _ _ => by simp [hxx]⟩
    · rename_i hx
      injection he with he
      subst he
      have hr := hs x hc
      rw [hx] at hr
      have hr' := hr
      obtain ⟨_, _, hxx, _⟩ := hr
      exact ⟨ρ x, hr', fun w' _ _ => by simp [hxx]⟩
    · rename_i hx
      injection he with he
      subst he
      have hr := hs x hc
      rw [hx] at hr
      have hr' := hr
      obtain ⟨_, hxx, _⟩ := hr
      exact ⟨ρ x, hr', fun w' _ _ => by simp [hxx]⟩
    · cases he
  case extract t i =>
    split at he
    · rename_i n f hx
      by_cases hin : i < n
      · rw [if_pos hin] at he
        injection he with he
        subst he
        have hr := hs t hc
        rw [hx] at hr
        obtain ⟨cs, hxx, hsz, hall⟩ := hr
        have hlt : i < cs.size := by omega
        refine ⟨cs.getD i undef, hall i hin, fun w' _ _ => ?_⟩
        simp [hxx, Instr.extract, hlt, Array.getD]
      · rw [if_neg hin] at he; cases he
    · cases he
  case build t ps =>
    split at he
    · rename_i v hev
      injection he with he
      subst he
      exact fin (ofU (evBuild_ok hT hev (by simpa using parts_rel hρ ps.toList hc)))
    · cases he
  case slice t x lo hi mx =>
    cases mx with
    | some _ => simp at he
    | none =>
      simp only at he
      split at he
      · rename_i v c hev
        injection he with he
        subst he
        have hm := argsC_mem hc.2.1
        refine fin (ofU (evSlice_ok hT hk hev hc.2.2 (hs x hc.1) ?_ ?_))
        · cases lo with
          | none => trivial
          | some y => exact hs y (hm y (by simp))
        · cases hi with
          | none => trivial
          | some y => exact hs y (hm y (by simp))
      · cases he
  case makeFunc fn fs cs =>
    cases fn <;> simp only [reduceCtorEq] at he
    rename_i g
    by_cases hf : fs.size = 0
    · rw [if_pos hf] at he
      injection he with he
      subst he
      have hfe : fs = #[] := Array.eq_empty_of_size_eq_zero hf
      have hm := argsC_mem hc
      subst hfe
      refine ⟨.func (.func g) #[] (cs.map ρ), ⟨_, rfl, by simp, fun j hj => ?_⟩, fun w' _ _ => by simp [Instr.makeFunc]⟩
      have h1 : (cs.toList.map (sv e)).getD j .any = sv e cs[j] := by simp [List.getD, hj]
      have h2 : (cs.map ρ).getD j undef = ρ cs[j] := by simp [Array.getD, hj]
      rw [h2]
      show Rel _ ((cs.toList.map (sv e)).getD j .any) _
      rw [h1]
      exact hs _ (hm _ (by simp))
    · rw [if_neg hf] at he; cases he
  case call c =>
    have hnm' := hnm c hop
    obtain ⟨callee, args, argTypes⟩ := c
    cases callee <;> simp only [reduceCtorEq] at he
    rename_i b
    obtain ⟨al, rfl⟩ : ∃ al : List Operand, args = al.toArray := ⟨args.toList, by simp⟩
    obtain ⟨tl, rfl⟩ : ∃ tl : List TypeId, argTypes = tl.toArray := ⟨argTypes.toList, by simp⟩
    unfold evCallB at he
    simp only at he
    have mm : ∀ (mx : Bool) (x : Operand) (rest : List Operand) (v : AVal), evMM mx (sv e x) (rest.map (sv e)) = some v → argsC e (x :: rest) →
        ∃ z, Rel (cx G h mu nx w) v z ∧ ∀ w' : World, ((rest.map ρ).foldlM (if mx then Builtin.max2 else Builtin.min2) (ρ x)).run P w' = .ok z w' := fun mx x rest v hev hca => by
      have hm := argsC_mem hca
      have key := fun w' : World => mm_ok (P := P) (w := w') (c := cx G h mu nx w) mx (rest.map (sv e)) (rest.map ρ) _ v (ρ x) (by simp) (fun i a y ha hy => by
          rw [List.getElem?_map] at ha hy
          cases hri : rest[i]? with
          | none => rw [hri] at ha; cases ha
          | some p =>
            rw [hri] at ha hy
            simp only [Option.map_some, Option.some.injEq] at ha hy
            subst ha hy
            exact hs p (hm p (List.mem_cons_of_mem _ (List.mem_of_getElem? hri)))) (hs x (hm x (by simp))) hev
      obtain ⟨z, _, hzr⟩ := key w
      have hint : ∃ k n, v = .int k n := by
        have : ∀ (l : List AVal) (p v : AVal), evMM mx p l = some v → ∃ k n, v = .int k n := by
          intro l
          induction l with
          | nil => intro p v hv; cases p <;> simp [evMM] at hv; exact ⟨_, _, hv.symm⟩
          | cons q l ih =>
            intro p v hv
            cases p <;> try (simp [evMM] at hv; done)
            cases q <;> simp only [evMM, reduceCtorEq] at hv
            exact ih _ _ hv
        exact this _ _ _ hev
      obtain ⟨k, n, rfl⟩ := hint
      refine ⟨z, hzr, fun w' => ?_⟩
      obtain ⟨z', hz', hzr'⟩ := key w'
      simp only [Rel] at hzr hzr'
      rw [hz', hzr, hzr']
    split at he
    · rename_i x t
      by_cases hl : lenT T t (sv e x) = true
      · rw [if_pos hl] at he
        split at he
        · rename_i v hev
          injection he with he
          subst he
          have hne : ∀ id, sv e x ≠ .map id := hnm' x (by simp)
          obtain ⟨z, hz, hzr⟩ := evLen_okU (ty := o.type) hT hne hev hl (hs x hc)
          exact ⟨z, hzr, fun w' _ _ => by simp [resolve, invoke, builtin, hz w']⟩
        · cases he
      · rw [if_neg hl] at he; cases he
    · simp only [Bool.false_eq_true] at hp
    · rename_i x rest
      split at he
      · rename_i v hev
        injection he with he
        subst he
        obtain ⟨z, hzr, hz⟩ := mm true x rest v hev hc
        exact ⟨z, hzr, fun w' _ _ => by have := hz w'; simp only [if_true] at this; simp [resolve, invoke, builtin, Builtin.max_, this]⟩
      · cases he
    · rename_i x rest
      split at he
      · rename_i v hev
        injection he with he
        subst he
        obtain ⟨z, hzr, hz⟩ := mm false x rest v hev hc
        exact ⟨z, hzr, fun w' _ _ => by have := hz w'; simp only [Bool.false_eq_true, if_false] at this; simp [resolve, invoke, builtin, Builtin.min_, this]⟩
      · cases he
    · simp only [Bool.false_eq_true] at hp
    · cases he
end Go.Lift
