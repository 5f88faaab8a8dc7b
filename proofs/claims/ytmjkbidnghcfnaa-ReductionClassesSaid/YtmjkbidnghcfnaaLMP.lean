/-
  The abstract layer, part MP: maps as Lean lists of keys and values.
-/
import Derived.Test.YtmjkbidnghcfnaaLZ
namespace Go.Lift
set_option linter.unusedSimpArgs false
set_option linter.unusedVariables false

def mpE {α β : Type} (ek : α → AVal) (ev : β → AVal) (l : List (α × β)) : List (AVal × AVal) := l.map fun p => (ek p.1, ev p.2)
section
variable {α β : Type} [DecidableEq α]
def alFind : List (α × β) → Nat → α → Option (Nat × β)
  | [], _, _ => none
  | (a, b) :: r, i, k => if k = a then some (i, b) else alFind r (i + 1) k
def alGet : List (α × β) → α → Option β
  | [], _ => none
  | (a, b) :: r, k => if k = a then some b else alGet r k
def alPut : List (α × β) → α → β → List (α × β)
  | [], k, v => [(k, v)]
  | (a, b) :: r, k, v => if k = a then (k, v) :: r else (a, b) :: alPut r k v
theorem alFind_get : ∀ (l : List (α × β)) (i : Nat) (k : α), (alFind l i k).map (·.2) = alGet l k
  | [], _, _ => rfl
  | (a, b) :: r, i, k => by
    simp only [alFind, alGet]
    by_cases h : k = a
    · simp [h]
    · simp only [if_neg h]; exact alFind_get r (i + 1) k
theorem alFind_ge : ∀ (l : List (α × β)) (i : Nat) (k : α) (j : Nat) (v : β), alFind l i k = some (j, v) → i ≤ j
  | [], _, _, _, _, h => by simp [alFind] at h
  | (a, b) :: r, i, k, j, v, h => by
    simp only [alFind] at h
    by_cases hk : k = a
    · simp only [if_pos hk, Option.some.injEq, Prod.mk.injEq] at h
      omega
    · simp only [if_neg hk] at h
      have := alFind_ge r (i + 1) k j v h
      omega
variable {T : Tab} {kt : TypeId} {ek : α → AVal} {ev : β → AVal}
theorem luK_mpE (hk : ∀ a b, kEq T kt (ek a) (ek b) = some (decide (a = b))) : ∀ (l : List (α × β)) (i : Nat) (k : α), luK T kt (mpE ek ev l) i (ek k) = some ((alFind l i k).map fun p => (p.1, ev p.2))
  | [], _, _ => rfl
  | (a, b) :: r, i, k => by
    simp only [mpE, List.map_cons, luK, hk, alFind]
    by_cases h : k = a
    · simp [h]
    · simp only [h, decide_false, if_false]; exact luK_mpE hk r (i + 1) k
theorem putK_gen : ∀ (l : List (α × β)) (i : Nat) (k : α) (v : β), (match (alFind l i k).map fun p => (p.1, ev p.2) with
    | some (j, _) => (mpE ek ev l).set (j - i) (ek k, ev v)
    | none => mpE ek ev l ++ [(ek k, ev v)]) = mpE ek ev (alPut l k v)
  | [], _, _, _ => rfl
  | (a, b) :: r, i, k, v => by
    by_cases h : k = a
    · simp [alFind, alPut, h, mpE]
    · have ih := putK_gen r (i + 1) k v
      simp only [alFind, alPut, if_neg h]
      cases hf : alFind r (i + 1) k with
      | none =>
        rw [hf] at ih
        simp only [Option.map_none] at ih ⊢
        simp only [mpE, List.map_cons, List.cons_append] at ih ⊢
        rw [ih]
      | some p =>
        obtain ⟨j, w⟩ := p
        rw [hf] at ih
        have hj := alFind_ge _ _ _ _ _ hf
        simp only [Option.map_some] at ih ⊢
        rw [show j - i = (j - (i + 1)) + 1 by omega]
        simp only [mpE, List.map_cons, List.set_cons_succ] at ih ⊢
        rw [ih]
theorem putK_mpE (l : List (α × β)) (k : α) (v : β) : putK (mpE ek ev l) ((alFind l 0 k).map fun p => (p.1, ev p.2)) (ek k) (ev v) = mpE ek ev (alPut l k v) := by
  rw [← putK_gen (ek := ek) (ev := ev) l 0 k v]
  unfold putK
  cases alFind l 0 k with
  | none => rfl
  | some p => rfl
@[simp] theorem lkV_al (l : List (α × β)) (k : α) (z : AVal) : lkV ((alFind l 0 k).map fun p => (p.1, ev p.2)) z = ((alGet l k).map ev).getD z := by
  rw [← alFind_get l 0 k]
  unfold lkV
  cases alFind l 0 k <;> rfl
@[simp] theorem isSome_al (l : List (α × β)) (k : α) : (alFind l 0 k).isSome = (alGet l k).isSome := by
  rw [← alFind_get l 0 k]
  cases alFind l 0 k <;> rfl
end
@[simp] theorem length_mpE {α β : Type} {ek : α → AVal} {ev : β → AVal} {l : List (α × β)} : (mpE ek ev l).length = l.length := by simp [mpE]
@[simp] theorem nil_mpE {α β : Type} {ek : α → AVal} {ev : β → AVal} : mpE ek ev [] = [] := rfl

def strK (s : List UInt8) : AVal := .str s
def intK (n : Int) : AVal := .int .i64 n
def boolV (b : Bool) : AVal := .bool b
def intV (n : Int) : AVal := .int .i64 n
@[simp] theorem getD_boolV {x : Option Bool} : (x.map boolV).getD (.bool false) = .bool (x.getD false) := by cases x <;> rfl
@[simp] theorem getD_intV {x : Option Int} : (x.map intV).getD (.int .i64 0) = .int .i64 (x.getD 0) := by cases x <;> rfl
section
variable {T : Tab} {kt : TypeId} {β : Type} {ev : β → AVal}
theorem isStrT_spec {T : Tab} {t : TypeId} (h : isStrT T t = true) : ∃ a b c d, T t = some ⟨.str, a, b, c, d⟩ := by
  unfold isStrT at h
  split at h
  · rename_i hi; exact ⟨_, _, _, _, hi⟩
  · cases h
@[simp] theorem luK_strK {l : List (List UInt8 × β)} {k : List UInt8} (h : isStrT T kt = true) : luK T kt (mpE strK ev l) 0 (.str k) = some ((alFind l 0 k).map fun p => (p.1, ev p.2)) :=
  luK_mpE (ek := strK) (fun a b => by
    obtain ⟨_, _, _, _, hi⟩ := isStrT_spec h
    simp [kEq, strK, eqC, hi]) l 0 k
def isIntT (T : Tab) (t : TypeId) : Bool := match T t with
  | some ⟨.int _, _, _, _, _⟩ => true
  | _ => false
@[simp] theorem luK_intK {l : List (Int × β)} {k : Int} (h : isIntT T kt = true) : luK T kt (mpE intK ev l) 0 (.int .i64 k) = some ((alFind l 0 k).map fun p => (p.1, ev p.2)) :=
  luK_mpE (ek := intK) (fun a b => by
    unfold isIntT at h
    split at h
    · rename_i hi; simp [kEq, intK, eqC, hi]
    · cases h) l 0 k
@[simp] theorem putK_strB {l : List (List UInt8 × Bool)} {k : List UInt8} {b : Bool} : putK (mpE strK boolV l) ((alFind l 0 k).map fun p => (p.1, boolV p.2)) (.str k) (.bool b) = mpE strK boolV (alPut l k b) := putK_mpE (ek := strK) (ev := boolV) l k b
@[simp] theorem putK_intB {l : List (Int × Bool)} {k : Int} {b : Bool} : putK (mpE intK boolV l) ((alFind l 0 k).map fun p => (p.1, boolV p.2)) (.int .i64 k) (.bool b) = mpE intK boolV (alPut l k b) := putK_mpE (ek := intK) (ev := boolV) l k b
end
attribute [simp] evLookup evMapUpd evClear mapOf keyT plainT normK isIntT kEq
@[simp] theorem app_zero {f g : Nat → Nat → AVal} : app f 0 g = g := by funext i j; simp [app]
@[simp] theorem app_zero' {f g : Nat → Nat → AVal} {i j : Nat} : app f 0 g i j = g i j := by rw [app_zero]
@[simp] theorem all_lt2 {p : Nat → Prop} : (∀ j, j < 2 → p j) ↔ p 0 ∧ p 1 := ⟨fun h => ⟨h 0 (by decide), h 1 (by decide)⟩, fun h j hj => by
  match j, hj with
  | 0, _ => exact h.1
  | 1, _ => exact h.2
⟩
@[simp] theorem all_lt3 {p : Nat → Prop} : (∀ j, j < 3 → p j) ↔ p 0 ∧ p 1 ∧ p 2 := ⟨fun h => ⟨h 0 (by decide), h 1 (by decide), h 2 (by decide)⟩, fun h j hj => by
  match j, hj with
  | 0, _ => exact h.1
  | 1, _ => exact h.2.1
  | 2, _ => exact h.2.2
⟩
@[simp] theorem all_lt4 {p : Nat → Prop} : (∀ j, j < 4 → p j) ↔ p 0 ∧ p 1 ∧ p 2 ∧ p 3 := ⟨fun h => ⟨h 0 (by decide), h 1 (by decide), h 2 (by decide), h 3 (by decide)⟩, fun h j hj => by
  match j, hj with
  | 0, _ => exact h.1
  | 1, _ => exact h.2.1
  | 2, _ => exact h.2.2.1
  | 3, _ => exact h.2.2.2
⟩
@[simp] theorem all_lt5 {p : Nat → Prop} : (∀ j, j < 5 → p j) ↔ p 0 ∧ p 1 ∧ p 2 ∧ p 3 ∧ p 4 := ⟨fun h => ⟨h 0 (by decide), h 1 (by decide), h 2 (by decide), h 3 (by decide), h 4 (by decide)⟩, fun h j hj => by
  match j, hj with
  | 0, _ => exact h.1
  | 1, _ => exact h.2.1
  | 2, _ => exact h.2.2.1
  | 3, _ => exact h.2.2.2.1
  | 4, _ => exact h.2.2.2.2
⟩
@[simp] theorem all_lt6 {p : Nat → Prop} : (∀ j, j < 6 → p j) ↔ p 0 ∧ p 1 ∧ p 2 ∧ p 3 ∧ p 4 ∧ p 5 := ⟨fun h => ⟨h 0 (by decide), h 1 (by decide), h 2 (by decide), h 3 (by decide), h 4 (by decide), h 5 (by decide)⟩, fun h j hj => by
  match j, hj with
  | 0, _ => exact h.1
  | 1, _ => exact h.2.1
  | 2, _ => exact h.2.2.1
  | 3, _ => exact h.2.2.2.1
  | 4, _ => exact h.2.2.2.2.1
  | 5, _ => exact h.2.2.2.2.2
⟩
@[simp] theorem all_lt7 {p : Nat → Prop} : (∀ j, j < 7 → p j) ↔ p 0 ∧ p 1 ∧ p 2 ∧ p 3 ∧ p 4 ∧ p 5 ∧ p 6 := ⟨fun h => ⟨h 0 (by decide), h 1 (by decide), h 2 (by decide), h 3 (by decide), h 4 (by decide), h 5 (by decide), h 6 (by decide)⟩, fun h j hj => by
  match j, hj with
  | 0, _ => exact h.1
  | 1, _ => exact h.2.1
  | 2, _ => exact h.2.2.1
  | 3, _ => exact h.2.2.2.1
  | 4, _ => exact h.2.2.2.2.1
  | 5, _ => exact h.2.2.2.2.2.1
  | 6, _ => exact h.2.2.2.2.2.2
⟩
theorem VLe_mp {h : Heap} {σ : Id → Id} {fz : Nat → Bool} {vz : Id → Bool} {nx : Nat} {l : List (AVal × AVal)} (hl : ∀ p ∈ l, Clo p.1 ∧ Clo p.2) : HLe h σ fz vz nx (.mp l) (some (.mp l)) :=
  ⟨rfl, fun i hi _ => ⟨Clo.le _ (hl _ (List.getElem_mem hi)).1, Clo.le _ (hl _ (List.getElem_mem hi)).2⟩⟩
theorem HLe_mpE {α β : Type} {ek : α → AVal} {ev : β → AVal} (h1 : ∀ a, Clo (ek a)) (h2 : ∀ b, Clo (ev b)) {h : Heap} {σ : Id → Id} {fz : Nat → Bool} {vz : Id → Bool} {nx : Nat} {l2 l : List (α × β)} (e : l2 = l) : HLe h σ fz vz nx (.mp (mpE ek ev l2)) (some (.mp (mpE ek ev l))) := by
  subst e
  refine VLe_mp fun p hp => ?_
  obtain ⟨q, _, rfl⟩ := List.mem_map.1 hp
  exact ⟨h1 _, h2 _⟩
@[simp high] theorem HLe_sb {h : Heap} {σ : Id → Id} {fz : Nat → Bool} {vz : Id → Bool} {nx : Nat} {l2 l : List (List UInt8 × Bool)} (e : l2 = l) : HLe h σ fz vz nx (.mp (mpE strK boolV l2)) (some (.mp (mpE strK boolV l))) = True := eq_true (HLe_mpE (ek := strK) (ev := boolV) (fun _ => trivial) (fun _ => trivial) e)
@[simp high] theorem HLe_nil {h : Heap} {σ : Id → Id} {fz : Nat → Bool} {vz : Id → Bool} {nx : Nat} : HLe h σ fz vz nx (.mp []) (some (.mp [])) = True := eq_true (VLe_mp fun _ hp => by cases hp)
@[simp] theorem fits_int0 {sz by_ : Nat} {z : Nat → AVal} {q : Bool} {k' : IntKind} {k : IntKind} {n : Int} : fits ⟨.int k', sz, by_, z, q⟩ (.int k n) = true := rfl
@[simp] theorem fits_bool0 {sz by_ : Nat} {z : Nat → AVal} {q : Bool}  {b : Bool} : fits ⟨.bool, sz, by_, z, q⟩ (.bool b) = true := rfl
@[simp] theorem fits_str0 {sz by_ : Nat} {z : Nat → AVal} {q : Bool}  {l : List UInt8} : fits ⟨.str, sz, by_, z, q⟩ (.str l) = true := rfl
@[simp] theorem fits_slice0 {sz by_ : Nat} {z : Nat → AVal} {q : Bool} {e : TypeId} {id : Id} {lo n : Nat} : fits ⟨.slice e, sz, by_, z, q⟩ (.sl id lo n) = true := rfl
@[simp] theorem fits_slice1 {sz by_ : Nat} {z : Nat → AVal} {q : Bool} {e : TypeId} {n s : Nat} {g : Nat → Nat → AVal} : fits ⟨.slice e, sz, by_, z, q⟩ (.vsl n s g) = true := rfl
@[simp] theorem fits_slice2 {sz by_ : Nat} {z : Nat → AVal} {q : Bool} {e : TypeId}  : fits ⟨.slice e, sz, by_, z, q⟩ .nils = true := rfl
@[simp] theorem fits_ptr0 {sz by_ : Nat} {z : Nat → AVal} {q : Bool} {e : TypeId} {id : Id} {n o : Nat} : fits ⟨.ptr e, sz, by_, z, q⟩ (.ptr id n o) = true := rfl
@[simp] theorem fits_ptr1 {sz by_ : Nat} {z : Nat → AVal} {q : Bool} {e : TypeId} {n : Nat} {g : Nat → AVal} {o : Nat} : fits ⟨.ptr e, sz, by_, z, q⟩ (.vptr n g o) = true := rfl
@[simp] theorem fits_ptr2 {sz by_ : Nat} {z : Nat → AVal} {q : Bool} {e : TypeId}  : fits ⟨.ptr e, sz, by_, z, q⟩ .nilp = true := rfl
@[simp] theorem fits_map0 {sz by_ : Nat} {z : Nat → AVal} {q : Bool} {e e' : TypeId} {id : Id} : fits ⟨.map e e', sz, by_, z, q⟩ (.map id) = true := rfl
@[simp] theorem fits_map1 {sz by_ : Nat} {z : Nat → AVal} {q : Bool} {e e' : TypeId}  : fits ⟨.map e e', sz, by_, z, q⟩ .nilmap = true := rfl
@[simp] theorem fits_func0 {sz by_ : Nat} {z : Nat → AVal} {q : Bool}  {f : FuncId} {n : Nat} {g : Nat → AVal} : fits ⟨.func, sz, by_, z, q⟩ (.fn f n g) = true := rfl
@[simp] theorem fits_func1 {sz by_ : Nat} {z : Nat → AVal} {q : Bool}   : fits ⟨.func, sz, by_, z, q⟩ .nilfn = true := rfl
@[simp] theorem fits_vec {sz by_ : Nat} {z : Nat → AVal} {q : Bool} {e : TypeId} {α : Type} {s : Nat} {f : α → Nat → AVal} {d : α} {l : List α} : fits ⟨.slice e, sz, by_, z, q⟩ (vec s f d l) = true := rfl
@[simp] theorem fits_ints {sz by_ : Nat} {z : Nat → AVal} {q : Bool} {e : TypeId} {l : List Int} : fits ⟨.slice e, sz, by_, z, q⟩ (ints l) = true := rfl
@[simp] theorem range1 : List.range 1 = [0] := rfl
@[simp] theorem range2 : List.range 2 = [0, 1] := rfl
@[simp] theorem range3 : List.range 3 = [0, 1, 2] := rfl
@[simp] theorem range4 : List.range 4 = [0, 1, 2, 3] := rfl
end Go.Lift
