/-
  The abstract layer, part B: abstract heaps and states; when a state of the model agrees with an abstract one.
-/
import Derived.Test.YtmjkbidnghcfnaaLA
namespace Go.Lift
set_option linter.unusedSimpArgs false
set_option linter.unusedVariables false
open Go.RowKit

inductive HObj where
  | arr (n s : Nat) (f : Nat → Nat → AVal)
  | mp (l : List (AVal × AVal))

inductive HEnt where
  | one (o : HObj)
  | fam (o : HObj) (r : Nat → Option HObj)

abbrev Heap := List (Nat × HEnt)
abbrev Env := List (Nat × AVal)

def HEnt.get : HEnt → Nat → Option HObj
  | .one o, 0 => some o
  | .one _, _ + 1 => none
  | .fam o _, 0 => some o
  | .fam _ r, i + 1 => r i
def HEnt.set : HEnt → Nat → HObj → HEnt
  | .one _, 0, o => .one o
  | .one p, _ + 1, _ => .one p
  | .fam _ r, 0, o => .fam o r
  | .fam p r, i + 1, o => .fam p (fun j => if j = i then some o else r j)
def HEnt.del (e : HEnt) (i : Nat) : HEnt :=
  match e with
  | .one o => .one o
  | .fam o r => .fam o (fun j => if j = i then none else r j)

def lkH : Heap → Id → Option HObj
  | [], _ => none
  | (k, e) :: h, id => if k = id.1 then e.get id.2 else lkH h id
def setH : Heap → Id → HObj → Heap
  | [], _, _ => []
  | (k, e) :: h, id, o => if k = id.1 then (k, e.set id.2 o) :: h else (k, e) :: setH h id o
def delH (h : Heap) (id : Id) : Heap :=
  match id.2 with
  | 0 => h.filter (fun e => !(e.1 == id.1))
  | i + 1 => h.map (fun e => if e.1 = id.1 then (e.1, e.2.del i) else e)
def lk : Env → Nat → AVal
  | [], _ => .any
  | (k, v) :: e, t => if k = t then v else lk e t

theorem HEnt.get_set (e : HEnt) (i j : Nat) (o : HObj) (h : (e.get i).isSome = true) : (e.set i o).get j = if j = i then some o else e.get j := by
  cases e <;> cases i <;> cases j <;> simp_all [HEnt.get, HEnt.set]

theorem lkH_setH : ∀ (h : Heap) (id id' : Id) (o : HObj), (lkH h id).isSome = true → lkH (setH h id o) id' = if id' = id then some o else lkH h id'
  | [], _, _, _, hs => by simp [lkH] at hs
  | (k, e) :: h, id, id', o, hs => by
    simp only [lkH] at hs
    by_cases hk : k = id.1
    · simp only [hk, if_true] at hs
      simp only [setH, hk, if_true, lkH]
      by_cases h1 : id.1 = id'.1
      · simp only [h1, if_true]
        rw [HEnt.get_set _ _ _ _ hs]
        by_cases h2 : id'.2 = id.2
        · rw [if_pos h2, if_pos (Prod.ext h1.symm h2)]
        · rw [if_neg h2, if_neg (fun e => h2 (by rw [e]))]
      · simp only [h1, if_false]
        rw [if_neg (fun e => h1 (by rw [e]))]
    · simp only [hk, if_false] at hs
      simp only [setH, hk, if_false, lkH]
      have ih := lkH_setH h id id' o hs
      by_cases h1 : k = id'.1
      · rw [if_pos h1, if_pos h1, if_neg (fun e => hk (by rw [← e]; exact h1))]
      · rw [if_neg h1, if_neg h1]; exact ih

theorem lkH_delH (h : Heap) (id id' : Id) (o : HObj) (hs : lkH (delH h id) id' = some o) : lkH h id' = some o ∧ id' ≠ id := by
  unfold delH at hs
  split at hs
  · rename_i h0
    induction h with
    | nil => simp [lkH] at hs
    | cons e h ih =>
      obtain ⟨k, e⟩ := e
      by_cases hk : k = id.1
      · have : (List.filter (fun e : Nat × HEnt => !(e.1 == id.1)) ((k, e) :: h)) = List.filter (fun e : Nat × HEnt => !(e.1 == id.1)) h := by simp [hk]
        rw [this] at hs
        have := ih hs
        refine ⟨?_, this.2⟩
        simp only [lkH]
        by_cases h1 : k = id'.1
        · exfalso
          -- no entry of the filtered heap has this key
          have hno : ∀ (g : Heap), lkH (g.filter (fun e => !(e.1 == id.1))) id' = none := by
            intro g
            induction g with
            | nil => rfl
            | cons a g ihg =>
              obtain ⟨ka, ea⟩ := a
              by_cases hka : ka = id.1
              · simpa [hka] using ihg
              · simp only [List.filter_cons, hka, Bool.not_eq_true', beq_eq_false_iff_ne, ne_eq, not_false_eq_true, if_true, lkH]
                rw [if_neg (fun e => hka (by rw [e, ← h1, hk]))]
                exact ihg
          rw [hno] at hs
          cases hs
        · rw [if_neg h1]; exact this.1
      · have : (List.filter (fun e : Nat × HEnt => !(e.1 == id.1)) ((k, e) :: h)) = (k, e) :: List.filter (fun e : Nat × HEnt => !(e.1 == id.1)) h := by simp [hk]
        rw [this] at hs
        simp only [lkH] at hs ⊢
        by_cases h1 : k = id'.1
        · rw [if_pos h1] at hs
          rw [if_pos h1]
          exact ⟨hs, fun e => hk (by rw [← e]; exact h1)⟩
        · rw [if_neg h1] at hs
          rw [if_neg h1]
          exact ih hs
  · rename_i i hi
    induction h with
    | nil => simp [lkH] at hs
    | cons e h ih =>
      obtain ⟨k, e⟩ := e
      by_cases hk : k = id.1
      · simp only [List.map_cons, hk, if_true, lkH] at hs ⊢
        by_cases h1 : id.1 = id'.1
        · simp only [h1, if_true] at hs ⊢
          cases e with
          | one p =>
            cases h2 : id'.2 with
            | zero => simp only [h2, HEnt.del, HEnt.get] at hs ⊢; exact ⟨hs, fun e => by rw [e] at h2; omega⟩
            | succ j => simp [h2, HEnt.del, HEnt.get] at hs
          | fam p r =>
            cases h2 : id'.2 with
            | zero => simp only [h2, HEnt.del, HEnt.get] at hs ⊢; exact ⟨hs, fun e => by rw [e] at h2; omega⟩
            | succ j =>
              simp only [h2, HEnt.del, HEnt.get] at hs ⊢
              by_cases hj : j = i
              · simp [hj] at hs
              · rw [if_neg hj] at hs; exact ⟨hs, fun e => hj (by rw [e] at h2; omega)⟩
        · simp only [h1, if_false] at hs ⊢
          exact ih hs
      · simp only [List.map_cons, hk, if_false, lkH] at hs ⊢
        by_cases h1 : k = id'.1
        · rw [if_pos h1] at hs
          rw [if_pos h1]
          exact ⟨hs, fun e => hk (by rw [← e]; exact h1)⟩
        · rw [if_neg h1] at hs
          rw [if_neg h1]
          exact ih hs

/-- what is fixed while a call runs: the world at its start, the blocks that came in to be written, the blocks that nothing immutable may lean on, the number of slots. -/
structure Gh where
  w0 : World
  mt : Nat → Prop
  O : Nat → Prop
  nt : Nat
  rd : Option Nat

def Fb (O : Nat → Prop) (h : Heap) (mu : Id → Option Base) (b : Nat) : Prop :=
  O b ∨ ∃ id o B, lkH h id = some o ∧ mu id = some B ∧ B.b = b

def cx (G : Gh) (h : Heap) (mu : Id → Option Base) (nx : Nat) (w : World) : Cx := ⟨w, Fb G.O h mu, mu, nx⟩

def HRel (c : Cx) (m : Option Base) : HObj → Prop
  | .arr n s f => match m with
    | none => n = 0
    | some B => B.s = s ∧ ∃ cs T, c.w.heap[B.b]? = some (.cells cs T (0, 0)) ∧ cs.size = B.sz ∧ B.o + n * s ≤ B.sz ∧
        ∀ i, i < n → ∀ j, j < s → (f i j).one = true ∧ ∃ v, cs[B.o + i * s + j]? = some v ∧ Rel c (f i j) v
  | .mp l => match m with
    | none => False
    | some B => ∃ es clock, c.w.heap[B.b]? = some (.map es clock) ∧ es.size = l.length ∧
        ∀ i (hi : i < l.length) e, es[i]? = some e → Rel c l[i].1 e.key ∧ Rel c l[i].2 e.val

structure Kept (w0 : World) (mt : Nat → Prop) (w : World) : Prop where
  os : w.os = w0.os
  tape : w.tape = w0.tape
  output : w.output = w0.output
  drawn : w0.drawn ≤ w.drawn
  size : w0.heap.size ≤ w.heap.size
  block : ∀ b, b < w0.heap.size → ¬ mt b → w.heap[b]? = w0.heap[b]?

structure HOk (G : Gh) (h : Heap) (mu : Id → Option Base) (nx : Nat) (w : World) : Prop where
  obj : ∀ id o, lkH h id = some o → id.1 < nx ∧ HRel (cx G h mu nx w) (mu id) o
  sep : ∀ id id' o o' B B', lkH h id = some o → lkH h id' = some o' → mu id = some B → mu id' = some B' → B.b = B'.b → id = id'
  own : ∀ id o B, lkH h id = some o → mu id = some B → B.b < w.heap.size ∧ (G.w0.heap.size ≤ B.b ∨ G.mt B.b) ∧ ¬ G.O B.b
  kept : Kept G.w0 G.mt w
  out : ∀ b, G.O b → b < G.w0.heap.size

structure St where
  env : Env
  heap : Heap
  nx : Nat

/-- the deferred calls are marks of ranges over functions, each with its own empty block, laid in this call. -/
def DefOK (G : Gh) (ds : List Deferred) (w : World) : Prop := ∃ Ds : List Nat, ds = Ds.map (fun D => { target := .collected D, args := #[] }) ∧ Ds.Nodup ∧ ∀ D ∈ Ds, G.w0.heap.size ≤ D ∧ w.heap[D]? = some (Obj.deferred (some []))
theorem DefOK.nil {G : Gh} {w : World} : DefOK G [] w := ⟨[], rfl, List.nodup_nil, fun _ h => by cases h⟩
theorem DefOK.mono {G : Gh} {ds : List Deferred} {w w' : World} (h : DefOK G ds w) (hd : ∀ D : Nat, w.heap[D]? = some (Obj.deferred (some [])) → w'.heap[D]? = some (Obj.deferred (some []))) : DefOK G ds w' := by
  obtain ⟨Ds, h1, h2, h3⟩ := h
  exact ⟨Ds, h1, h2, fun D hD => ⟨(h3 D hD).1, hd D (h3 D hD).2⟩⟩

structure Sim (G : Gh) (mu : Id → Option Base) (st : St) (a : Act) (w : World) : Prop where
  defers : DefOK G a.defers w
  size : G.nt ≤ a.tmps.size
  env : ∀ t, Rel (cx G st.heap mu st.nx w) (lk st.env t) (a.tmps.getD t undef)
  heap : HOk G st.heap mu st.nx w

theorem heap_new (w : World) (o : Obj) : (w.alloc o).heap[w.heap.size]? = some o := by
  show (w.heap.push o)[w.heap.size]? = some o
  simp

theorem Kept.refl (w : World) (m : Nat → Prop) : Kept w m w := ⟨rfl, rfl, rfl, Nat.le_refl _, Nat.le_refl _, fun _ _ _ => rfl⟩

theorem HRel.monoC {c c' : Cx} (h : c.Lc c') {m : Option Base} {o : HObj} (hb : ∀ B, m = some B → c'.w.heap[B.b]? = c.w.heap[B.b]?) (ho : HRel c m o) : HRel c' m o := by
  cases o with
  | arr n s f =>
    cases m with
    | none => exact ho
    | some B =>
      obtain ⟨hs, cs, T, hh, hsz, hle, hc⟩ := ho
      refine ⟨hs, cs, T, (hb B rfl).trans hh, hsz, hle, fun i hi j hj => ?_⟩
      obtain ⟨h1, v, hv, hr⟩ := hc i hi j hj
      exact ⟨h1, v, hv, hr.monoC h⟩
  | mp l =>
    cases m with
    | none => exact ho
    | some B =>
      obtain ⟨es, clock, hh, hsz, hc⟩ := ho
      exact ⟨es, clock, (hb B rfl).trans hh, hsz, fun i hi e he => ⟨(hc i hi e he).1.monoC h, (hc i hi e he).2.monoC h⟩⟩
theorem HRel.mono {c c' : Cx} (h : c.Le c') {m : Option Base} {o : HObj} (hb : ∀ B, m = some B → c'.w.heap[B.b]? = c.w.heap[B.b]?) (ho : HRel c m o) : HRel c' m o := ho.monoC h.c hb
/-- what a piece lies in holds cells or a map. -/
theorem HRel.data {c : Cx} {B : Base} {o : HObj} (ho : HRel c (some B) o) {x : Obj} (hx : c.w.heap[B.b]? = some x) : (∃ cs T z, x = .cells cs T z) ∨ ∃ es cl, x = .map es cl := by
  cases o with
  | arr n s f =>
    obtain ⟨_, cs, T, hh, _⟩ := ho
    rw [hh] at hx; injection hx with hx; exact .inl ⟨cs, T, _, hx.symm⟩
  | mp l =>
    obtain ⟨es, cl, hh, _⟩ := ho
    rw [hh] at hx; injection hx with hx; exact .inr ⟨es, cl, hx.symm⟩

/-- a draw changes nothing. -/
theorem HOk.drew {G : Gh} {h : Heap} {mu : Id → Option Base} {nx : Nat} {w : World} (hk : HOk G h mu nx w) (n : Nat) : HOk G h mu nx { w with drawn := w.drawn + n } := by
  have hle : (cx G h mu nx w).Le (cx G h mu nx { w with drawn := w.drawn + n }) := ⟨Nat.le_refl _, fun _ _ h => h, fun _ _ _ _ => rfl, Nat.le_refl _, fun _ _ => rfl, fun _ h => h⟩
  exact ⟨fun id o ho => ⟨(hk.obj id o ho).1, (hk.obj id o ho).2.mono hle (fun _ _ => rfl)⟩, hk.sep, hk.own, ⟨hk.kept.os, hk.kept.tape, hk.kept.output, Nat.le_trans hk.kept.drawn (Nat.le_add_right _ _), hk.kept.size, hk.kept.block⟩, hk.out⟩

def upd {α β : Type} [DecidableEq α] (f : α → β) (a : α) (b : β) : α → β := fun x => if x = a then b else f x
@[simp] theorem upd_same {α β : Type} [DecidableEq α] (f : α → β) (a : α) (b : β) : upd f a b a = b := by simp [upd]
theorem upd_ne {α β : Type} [DecidableEq α] (f : α → β) {a x : α} (b : β) (h : x ≠ a) : upd f a b x = f x := by simp [upd, h]

section
variable {G : Gh} {h : Heap} {mu : Id → Option Base} {nx : Nat} {w : World}

theorem HOk.nx_none (hk : HOk G h mu nx w) (i : Nat) : lkH h (nx, i) = none := by
  cases hl : lkH h (nx, i) with
  | none => rfl
  | some o => exact absurd (hk.obj _ _ hl).1 (Nat.lt_irrefl _)

theorem lkH_cons_one (h : Heap) (nx : Nat) (o : HObj) (id : Id) : lkH ((nx, .one o) :: h) id = if id = (nx, 0) then some o else if id.1 = nx then none else lkH h id := by
  obtain ⟨d, e⟩ := id
  simp only [lkH]
  by_cases h1 : nx = d
  · subst h1
    cases e <;> simp [HEnt.get]
  · rw [if_neg h1, if_neg (fun e => h1 (by injection e with e1 _; exact e1.symm)), if_neg (fun e => h1 e.symm)]

theorem lt_of_get {w : World} {D : Nat} {o : Obj} (h : w.heap[D]? = some o) : D < w.heap.size := by
  rcases Nat.lt_or_ge D w.heap.size with h1 | h1
  · exact h1
  · rw [Array.getElem?_eq_none h1] at h; cases h
theorem alloc_dfr {w : World} {x o : Obj} {D : Nat} (h : w.heap[D]? = some o) : (w.alloc x).heap[D]? = some o := by
  show (w.heap.push x)[D]? = some o
  rw [Array.getElem?_push, if_neg (Nat.ne_of_lt (lt_of_get h))]
  exact h
theorem HOk.ndfr (hk : HOk G h mu nx w) {id : Id} {o : HObj} {B : Base} (hl : lkH h id = some o) (hm : mu id = some B) {D : Nat} {ds : Option (List Deferred)} (hD : w.heap[D]? = some (Obj.deferred ds)) : D ≠ B.b := by
  rintro rfl
  have := (hk.obj id o hl).2
  rw [hm] at this
  rcases this.data hD with ⟨_, _, _, h1⟩ | ⟨_, _, h1⟩ <;> cases h1

/-- the relation between old values stands when a new block of cells is laid. -/
theorem cx_alloc (o : HObj) (x : Obj) (B : Base) (hB : B.b = w.heap.size) :
    (cx G h mu nx w).Le (cx G ((nx, .one o) :: h) (upd mu (nx, 0) (some B)) (nx + 1) (w.alloc x)) where
  size := by simp [cx]
  F := by
    intro b hb hF hF'
    apply hF
    simp only [cx, Fb] at hF' ⊢
    rcases hF' with hO | ⟨id, o', B', hl, hm, hbb⟩
    · exact .inl hO
    · rw [lkH_cons_one] at hl
      by_cases h1 : id = (nx, 0)
      · subst h1
        rw [upd_same] at hm
        injection hm with hm
        subst hm
        simp only [cx] at hb
        omega
      · rw [if_neg h1] at hl
        by_cases h2 : id.1 = nx
        · rw [if_pos h2] at hl; cases hl
        · rw [if_neg h2] at hl
          rw [upd_ne _ _ h1] at hm
          exact .inr ⟨id, o', B', hl, hm, hbb⟩
  cell := fun b o hb _ => World.cell?_alloc_lt w x _ hb
  nx := Nat.le_succ _
  mu := fun id hid => upd_ne _ _ (fun e => by subst e; exact Nat.lt_irrefl _ hid)
  dfr := fun D hD => alloc_dfr hD

/-- the general step: the piece id0 is new or has turned, whatever else is kept was there. -/
theorem HOk.step {h' : Heap} {mu' : Id → Option Base} {nx' : Nat} {w' : World} (hk : HOk G h mu nx w) (hLe : (cx G h mu nx w).Le (cx G h' mu' nx' w')) (id0 : Id) (o0 : HObj) (h0 : id0.1 < nx')
    (hr0 : lkH h' id0 = some o0 → HRel (cx G h' mu' nx' w') (mu' id0) o0)
    (hb0 : ∀ B, mu' id0 = some B → B.b < w'.heap.size ∧ (G.w0.heap.size ≤ B.b ∨ G.mt B.b) ∧ ¬ G.O B.b)
    (hh : ∀ id o, lkH h' id = some o → (id = id0 ∧ o = o0) ∨ (id ≠ id0 ∧ lkH h id = some o ∧ ∀ B, mu id = some B → w'.heap[B.b]? = w.heap[B.b]? ∧ ∀ B0, mu' id0 = some B0 → B.b ≠ B0.b))
    (hkept : Kept G.w0 G.mt w') : HOk G h' mu' nx' w' := by
  have hold : ∀ id o, id ≠ id0 → lkH h' id = some o → lkH h id = some o ∧ mu' id = mu id ∧ ∀ B, mu id = some B → w'.heap[B.b]? = w.heap[B.b]? ∧ ∀ B0, mu' id0 = some B0 → B.b ≠ B0.b := by
    intro id o hne hl
    rcases hh id o hl with ⟨h1, _⟩ | ⟨_, h2, h3⟩
    · exact absurd h1 hne
    · exact ⟨h2, hLe.mu id (hk.obj id o h2).1, h3⟩
  have hat : ∀ o, lkH h' id0 = some o → o = o0 := fun o hl => by
    rcases hh id0 o hl with ⟨_, h1⟩ | ⟨h1, _⟩
    · exact h1
    · exact absurd rfl h1
  refine ⟨fun id o hl => ?_, fun id id' o o' B B' hl hl' hm hm' hb => ?_, fun id o B hl hm => ?_, hkept, hk.out⟩
  · by_cases hid : id = id0
    · subst hid
      have := hat o hl
      subst this
      exact ⟨h0, hr0 hl⟩
    · obtain ⟨h1, h2, h3⟩ := hold id o hid hl
      obtain ⟨hlt, hr⟩ := hk.obj id o h1
      refine ⟨Nat.lt_of_lt_of_le hlt hLe.nx, ?_⟩
      rw [h2]
      exact hr.mono hLe (fun B hB => (h3 B hB).1)
  · by_cases hid : id = id0
    · by_cases hid' : id' = id0
      · rw [hid, hid']
      · obtain ⟨h1, h2, h3⟩ := hold id' o' hid' hl'
        rw [h2] at hm'
        rw [hid] at hm
        exact absurd hb.symm ((h3 B' hm').2 B hm)
    · obtain ⟨h1, h2, h3⟩ := hold id o hid hl
      rw [h2] at hm
      by_cases hid' : id' = id0
      · rw [hid'] at hm'
        exact absurd hb ((h3 B hm).2 B' hm')
      · obtain ⟨h1', h2', h3'⟩ := hold id' o' hid' hl'
        rw [h2'] at hm'
        exact hk.sep id id' o o' B B' h1 h1' hm hm' hb
  · by_cases hid : id = id0
    · rw [hid] at hm
      exact hb0 B hm
    · obtain ⟨h1, h2, h3⟩ := hold id o hid hl
      rw [h2] at hm
      have := hk.own id o B h1 hm
      exact ⟨Nat.lt_of_lt_of_le this.1 hLe.size, this.2⟩

theorem Kept.alloc {w0 w : World} {mt : Nat → Prop} (h : Kept w0 mt w) (o : Obj) : Kept w0 mt (w.alloc o) :=
  ⟨h.os, h.tape, h.output, h.drawn, Nat.le_trans h.size (by simp), fun b hb hm => (Below.heap_alloc w o b (Nat.lt_of_lt_of_le hb h.size)).trans (h.block b hb hm)⟩
theorem Kept.setCell {w0 w : World} {mt : Nat → Prop} (h : Kept w0 mt w) {p : Addr} (hp : w0.heap.size ≤ p.block ∨ mt p.block) (u : Value) : Kept w0 mt (w.setCell p u) :=
  ⟨h.os, h.tape, h.output, h.drawn, by simpa using h.size, fun b hb hm => by
    rw [Below.heap_setCell w p u b (fun e => by subst e; rcases hp with hp | hp; exact absurd hb (Nat.not_lt.2 hp); exact hm hp)]
    exact h.block b hb hm⟩

/-- a new block of cells. -/
theorem HOk.alloc (hk : HOk G h mu nx w) (n s : Nat) (f : Nat → Nat → AVal) (cs : Array Value) (T : TypeId) (sz : Nat) (hsz : cs.size = sz) (hle : n * s ≤ sz)
    (hc : ∀ i, i < n → ∀ j, j < s → (f i j).one = true ∧ ∃ v, cs[i * s + j]? = some v ∧ Rel (cx G h mu nx w) (f i j) v) :
    HOk G ((nx, .one (.arr n s f)) :: h) (upd mu (nx, 0) (some ⟨w.heap.size, 0, s, sz⟩)) (nx + 1) (w.alloc (.cells cs T)) := by
  have hLe := cx_alloc (G := G) (h := h) (mu := mu) (nx := nx) (w := w) (.arr n s f) (.cells cs T) ⟨w.heap.size, 0, s, sz⟩ rfl
  refine hk.step hLe (nx, 0) (.arr n s f) (Nat.lt_succ_self _) (fun _ => ?_) (fun B hB => ?_) (fun id o ho => ?_) (hk.kept.alloc _)
  · rw [upd_same]
    refine ⟨rfl, cs, T, heap_new w _, hsz, by simpa using hle, fun i hi j hj => ?_⟩
    obtain ⟨h1, v, hv, hr⟩ := hc i hi j hj
    exact ⟨h1, v, by simpa using hv, hr.mono hLe⟩
  · rw [upd_same] at hB
    injection hB with hB
    subst hB
    refine ⟨by simp, .inl hk.kept.size, fun hO => ?_⟩
    have h1 := hk.out _ hO
    have h2 := hk.kept.size
    simp only at h1
    omega
  · rw [lkH_cons_one] at ho
    by_cases h1 : id = (nx, 0)
    · rw [if_pos h1] at ho
      injection ho with ho
      exact .inl ⟨h1, ho.symm⟩
    · rw [if_neg h1] at ho
      by_cases h2 : id.1 = nx
      · rw [if_pos h2] at ho; cases ho
      · rw [if_neg h2] at ho
        refine .inr ⟨h1, ho, fun B hB => ?_⟩
        have hlt := (hk.own id o B ho hB).1
        refine ⟨Below.heap_alloc w _ _ hlt, fun B0 hB0 => ?_⟩
        rw [upd_same] at hB0
        injection hB0 with hB0
        subst hB0
        exact Nat.ne_of_lt hlt

theorem Fb_setH {O : Nat → Prop} {id : Id} {o : HObj} (hs : (lkH h id).isSome = true) (b : Nat) : Fb O (setH h id o) mu b ↔ Fb O h mu b := by
  unfold Fb
  constructor
  · rintro (hO | ⟨id', o', B, hl, hm, hb⟩)
    · exact .inl hO
    · rw [lkH_setH h id id' o hs] at hl
      by_cases h1 : id' = id
      · subst h1
        obtain ⟨o1, ho1⟩ := Option.isSome_iff_exists.1 hs
        exact .inr ⟨id', o1, B, ho1, hm, hb⟩
      · rw [if_neg h1] at hl
        exact .inr ⟨id', o', B, hl, hm, hb⟩
  · rintro (hO | ⟨id', o', B, hl, hm, hb⟩)
    · exact .inl hO
    · by_cases h1 : id' = id
      · subst h1
        exact .inr ⟨id', o, B, by rw [lkH_setH h id' id' o hs, if_pos rfl], hm, hb⟩
      · exact .inr ⟨id', o', B, by rw [lkH_setH h id id' o hs, if_neg h1]; exact hl, hm, hb⟩

/-- the cells of a block written, at places of the piece id: its new content is given. -/
theorem HOk.write (hk : HOk G h mu nx w) {id : Id} {o o' : HObj} {B : Base} (hl : lkH h id = some o) (hm : mu id = some B) {w' : World}
    (hsize : w'.heap.size = w.heap.size) (hblk : ∀ b, b ≠ B.b → w'.heap[b]? = w.heap[b]?) (hos : w'.os = w.os ∧ w'.tape = w.tape ∧ w'.output = w.output ∧ w.drawn ≤ w'.drawn)
    (hr : (cx G h mu nx w).Le (cx G (setH h id o') mu nx w') → HRel (cx G (setH h id o') mu nx w') (some B) o') :
    (cx G h mu nx w).Le (cx G (setH h id o') mu nx w') ∧ HOk G (setH h id o') mu nx w' := by
  have hs : (lkH h id).isSome = true := by rw [hl]; rfl
  have hown := hk.own id o B hl hm
  have hLe : (cx G h mu nx w).Le (cx G (setH h id o') mu nx w') := by
    refine ⟨Nat.le_of_eq hsize.symm, fun b hb hF hF' => hF ((Fb_setH hs b).1 hF'), fun b off hb hF => ?_, Nat.le_refl _, fun _ _ => rfl, fun D hD => (hblk D (hk.ndfr hl hm hD)).trans hD⟩
    have hne : b ≠ B.b := fun e => hF (.inr ⟨id, o, B, hl, hm, e.symm⟩)
    exact World.cell?_of_block (hblk b hne)
  refine ⟨hLe, hk.step hLe id o' ((hk.obj id o hl).1) (fun _ => by rw [hm]; exact hr hLe) (fun B' hB' => ?_) (fun id' o1 ho1 => ?_) ?_⟩
  · rw [hm] at hB'
    injection hB' with hB'
    subst hB'
    exact ⟨by rw [hsize]; exact hown.1, hown.2⟩
  · rw [lkH_setH h id id' o' hs] at ho1
    by_cases h1 : id' = id
    · rw [if_pos h1] at ho1
      injection ho1 with ho1
      exact .inl ⟨h1, ho1.symm⟩
    · rw [if_neg h1] at ho1
      refine .inr ⟨h1, ho1, fun B1 hB1 => ?_⟩
      have hne : B1.b ≠ B.b := fun e => h1 (hk.sep id' id o1 o B1 B ho1 hl hB1 hm e)
      refine ⟨hblk _ hne, fun B0 hB0 => ?_⟩
      rw [hm] at hB0
      injection hB0 with hB0
      subst hB0
      exact hne
  · exact ⟨hos.1.trans hk.kept.os, hos.2.1.trans hk.kept.tape, hos.2.2.1.trans hk.kept.output, Nat.le_trans hk.kept.drawn hos.2.2.2, by rw [hsize]; exact hk.kept.size, fun b hb hmt => by
      rw [hblk b (fun e => by subst e; rcases hown.2.1 with h1 | h1; exact absurd hb (Nat.not_lt.2 h1); exact hmt h1)]
      exact hk.kept.block b hb hmt⟩
end
end Go.Lift
