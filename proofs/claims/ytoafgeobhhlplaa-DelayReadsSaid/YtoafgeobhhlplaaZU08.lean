/- Parts of the proof: LZ LEL. -/
import Derived.ProofKit
import Derived.Test.YtoafgeobhhlplaaZU07
namespace Go.Lift
set_option linter.unusedSimpArgs false
set_option linter.unusedVariables false
@[simp] theorem evBin_ints {o : BinOp} {v : AVal} {l : List Int} : evBin o (ints l) v = none := rfl
@[simp] theorem evEq_ints {T : Tab} {t : TypeId} {l : List Int} : evEq T .eql t (ints l) .nils = if sliceT T t then some (.ub (l.length = 0)) else none := rfl
@[simp] theorem VLe_ints_nils {h : Heap} {σ : Lift.Id → Lift.Id} {fz : Nat → Bool} {vz : Lift.Id → Bool} {x : Nat} {l : List Int} : VLe h σ fz vz x (ints l) .nils = (l.length = 0) := rfl
@[simp] theorem VLe_ints_sl {h : Heap} {σ : Lift.Id → Lift.Id} {fz : Nat → Bool} {vz : Lift.Id → Bool} {y lo x' : Nat} {id : Lift.Id} {l : List Int} : VLe h σ fz vz y (ints l) (.sl id lo x') = (x' = l.length ∧ fz id.1 = true ∧ match lkH h id with
    | some (.arr N s' g') => s' = 1 ∧ lo + l.length ≤ N ∧ ∀ i, i < l.length → ∀ j, j < 1 → ((fun (x : Int) _ => AVal.int .i64 x) (l.getD i 0) j).one = true ∧ VLe h σ fz vz y ((fun (x : Int) _ => AVal.int .i64 x) (l.getD i 0) j) (g' (lo + i) j)
    | _ => False) := VLe_vsl_sl
@[simp] theorem VLe_ints_vsl {h : Heap} {σ : Lift.Id → Lift.Id} {fz : Nat → Bool} {vz : Lift.Id → Bool} {x' s' y : Nat} {g' : Nat → Nat → AVal} {l : List Int} : VLe h σ fz vz y (ints l) (.vsl x' s' g') = (x' = l.length ∧ s' = 1 ∧ ∀ i, i < l.length → ∀ j, j < 1 → ((fun (x : Int) _ => AVal.int .i64 x) (l.getD i 0) j).one = true ∧ VLe h σ fz vz y ((fun (x : Int) _ => AVal.int .i64 x) (l.getD i 0) j) (g' i j)) := rfl
def strs (l : List (List UInt8)) : AVal := vec 1 (fun (x : List UInt8) _ => AVal.str x) [] l
@[simp] theorem evLen_strs {h : Heap} {l : List (List UInt8)} : evLen h (strs l) = some (.int .i64 l.length) := rfl
@[simp] theorem strip_strs {l : List (List UInt8)} : strip (strs l) = (strs l, True) := rfl
@[simp] theorem mkOpt_strs {g : Bool} {l : List (List UInt8)} : mkOpt g (strs l) = .opt g (strs l) := rfl
@[simp] theorem one_strs {l : List (List UInt8)} : (strs l).one = true := rfl
@[simp] theorem acell_strs {l : List (List UInt8)} {j : Nat} : acell (strs l) j = strs l := rfl
@[simp] theorem Clo_strs {l : List (List UInt8)} : Clo (strs l) := Clo_vec fun x _ j hj => ⟨rfl, trivial⟩
@[simp] theorem lenT_strs {T : Tab} {t : TypeId} {l : List (List UInt8)} : lenT T t (strs l) = sliceT T t := lenT_vec
@[simp] theorem evIndexAddr_strs {T : Tab} {h : Heap} {t : TypeId} {k : IntKind} {m : Int} {l : List (List UInt8)} : evIndexAddr T h t (strs l) (.int k m) = match elemT T t with
    | some ei => if 1 = ei.size then some (.vptr 1 (fun j => (fun (x : List UInt8) _ => AVal.str x) (l.getD m.toNat []) j) 0, 0 ≤ m ∧ m < (l.length : Int)) else none
    | none => none := evIndexAddr_vec
@[simp] theorem evSrc_strs {h : Heap} {l : List (List UInt8)} : evSrc h 1 (strs l) = some (l.length, (fun i j => (fun (x : List UInt8) _ => AVal.str x) (l.getD i []) j), True) := by
  unfold strs
  rw [evSrc_vec rfl]
  rfl
@[simp] theorem evBin_strs {o : BinOp} {v : AVal} {l : List (List UInt8)} : evBin o (strs l) v = none := rfl
@[simp] theorem evEq_strs {T : Tab} {t : TypeId} {l : List (List UInt8)} : evEq T .eql t (strs l) .nils = if sliceT T t then some (.ub (l.length = 0)) else none := rfl
@[simp] theorem VLe_strs_nils {h : Heap} {σ : Lift.Id → Lift.Id} {fz : Nat → Bool} {vz : Lift.Id → Bool} {x : Nat} {l : List (List UInt8)} : VLe h σ fz vz x (strs l) .nils = (l.length = 0) := rfl
@[simp] theorem VLe_strs_sl {h : Heap} {σ : Lift.Id → Lift.Id} {fz : Nat → Bool} {vz : Lift.Id → Bool} {y lo x' : Nat} {id : Lift.Id} {l : List (List UInt8)} : VLe h σ fz vz y (strs l) (.sl id lo x') = (x' = l.length ∧ fz id.1 = true ∧ match lkH h id with
    | some (.arr N s' g') => s' = 1 ∧ lo + l.length ≤ N ∧ ∀ i, i < l.length → ∀ j, j < 1 → ((fun (x : List UInt8) _ => AVal.str x) (l.getD i []) j).one = true ∧ VLe h σ fz vz y ((fun (x : List UInt8) _ => AVal.str x) (l.getD i []) j) (g' (lo + i) j)
    | _ => False) := VLe_vsl_sl
@[simp] theorem VLe_strs_vsl {h : Heap} {σ : Lift.Id → Lift.Id} {fz : Nat → Bool} {vz : Lift.Id → Bool} {x' s' y : Nat} {g' : Nat → Nat → AVal} {l : List (List UInt8)} : VLe h σ fz vz y (strs l) (.vsl x' s' g') = (x' = l.length ∧ s' = 1 ∧ ∀ i, i < l.length → ∀ j, j < 1 → ((fun (x : List UInt8) _ => AVal.str x) (l.getD i []) j).one = true ∧ VLe h σ fz vz y ((fun (x : List UInt8) _ => AVal.str x) (l.getD i []) j) (g' i j)) := rfl
@[simp] theorem ren_strs {ρ : Nat → Nat} {l : List (List UInt8)} : ren ρ (strs l) = strs l := ren_vec fun _ _ => rfl
def bytes (l : List UInt8) : AVal := vec 1 (fun (x : UInt8) _ => AVal.int .u8 x.toNat) 0 l
@[simp] theorem evLen_bytes {h : Heap} {l : List UInt8} : evLen h (bytes l) = some (.int .i64 l.length) := rfl
@[simp] theorem strip_bytes {l : List UInt8} : strip (bytes l) = (bytes l, True) := rfl
@[simp] theorem mkOpt_bytes {g : Bool} {l : List UInt8} : mkOpt g (bytes l) = .opt g (bytes l) := rfl
@[simp] theorem one_bytes {l : List UInt8} : (bytes l).one = true := rfl
@[simp] theorem acell_bytes {l : List UInt8} {j : Nat} : acell (bytes l) j = bytes l := rfl
@[simp] theorem Clo_bytes {l : List UInt8} : Clo (bytes l) := Clo_vec fun x _ j hj => ⟨rfl, trivial⟩
@[simp] theorem lenT_bytes {T : Tab} {t : TypeId} {l : List UInt8} : lenT T t (bytes l) = sliceT T t := lenT_vec
@[simp] theorem evIndexAddr_bytes {T : Tab} {h : Heap} {t : TypeId} {k : IntKind} {m : Int} {l : List UInt8} : evIndexAddr T h t (bytes l) (.int k m) = match elemT T t with
    | some ei => if 1 = ei.size then some (.vptr 1 (fun j => (fun (x : UInt8) _ => AVal.int .u8 x.toNat) (l.getD m.toNat 0) j) 0, 0 ≤ m ∧ m < (l.length : Int)) else none
    | none => none := evIndexAddr_vec
@[simp] theorem evSrc_bytes {h : Heap} {l : List UInt8} : evSrc h 1 (bytes l) = some (l.length, (fun i j => (fun (x : UInt8) _ => AVal.int .u8 x.toNat) (l.getD i 0) j), True) := by
  unfold bytes
  rw [evSrc_vec rfl]
  rfl
@[simp] theorem evBin_bytes {o : BinOp} {v : AVal} {l : List UInt8} : evBin o (bytes l) v = none := rfl
@[simp] theorem evEq_bytes {T : Tab} {t : TypeId} {l : List UInt8} : evEq T .eql t (bytes l) .nils = if sliceT T t then some (.ub (l.length = 0)) else none := rfl
@[simp] theorem VLe_bytes_nils {h : Heap} {σ : Lift.Id → Lift.Id} {fz : Nat → Bool} {vz : Lift.Id → Bool} {x : Nat} {l : List UInt8} : VLe h σ fz vz x (bytes l) .nils = (l.length = 0) := rfl
@[simp] theorem VLe_bytes_sl {h : Heap} {σ : Lift.Id → Lift.Id} {fz : Nat → Bool} {vz : Lift.Id → Bool} {y lo x' : Nat} {id : Lift.Id} {l : List UInt8} : VLe h σ fz vz y (bytes l) (.sl id lo x') = (x' = l.length ∧ fz id.1 = true ∧ match lkH h id with
    | some (.arr N s' g') => s' = 1 ∧ lo + l.length ≤ N ∧ ∀ i, i < l.length → ∀ j, j < 1 → ((fun (x : UInt8) _ => AVal.int .u8 x.toNat) (l.getD i 0) j).one = true ∧ VLe h σ fz vz y ((fun (x : UInt8) _ => AVal.int .u8 x.toNat) (l.getD i 0) j) (g' (lo + i) j)
    | _ => False) := VLe_vsl_sl
@[simp] theorem VLe_bytes_vsl {h : Heap} {σ : Lift.Id → Lift.Id} {fz : Nat → Bool} {vz : Lift.Id → Bool} {x' s' y : Nat} {g' : Nat → Nat → AVal} {l : List UInt8} : VLe h σ fz vz y (bytes l) (.vsl x' s' g') = (x' = l.length ∧ s' = 1 ∧ ∀ i, i < l.length → ∀ j, j < 1 → ((fun (x : UInt8) _ => AVal.int .u8 x.toNat) (l.getD i 0) j).one = true ∧ VLe h σ fz vz y ((fun (x : UInt8) _ => AVal.int .u8 x.toNat) (l.getD i 0) j) (g' i j)) := rfl
@[simp] theorem ren_bytes {ρ : Nat → Nat} {l : List UInt8} : ren ρ (bytes l) = bytes l := ren_vec fun _ _ => rfl
end Go.Lift
namespace Go.Lift
set_option linter.unusedSimpArgs false
set_option linter.unusedVariables false
def mpE {α β : Type} (ek : α → AVal) (ev : β → AVal) (l : List (α × β)) : List (AVal × AVal) := l.map fun p => (ek p.1, ev p.2)
section
variable {α β : Type} [DecidableEq α]
def alFind : List (α × β) → Nat → α → Option (Nat × β)
  | [], _, _ => none
  | (a, b) :: r, i, k => if k = a then some (i, b) else alFind r (i + 1) k
def alGet : List (α × β) → α → Option β
  | [], _ => none
  | (a, b) :: r, k => if k = a then some b else alGet r k
def alPut : List (α × β) → α → β → List (α × β)
  | [], k, v => [(k, v)]
  | (a, b) :: r, k, v => if k = a then (k, v) :: r else (a, b) :: alPut r k v
theorem alFind_get : ∀ (l : List (α × β)) (i : Nat) (k : α), (alFind l i k).map (·.2) = alGet l k
  | [], _, _ => rfl
  | (a, b) :: r, i, k => by
    simp only [alFind, alGet]
    by_cases h : k = a
    · simp [h]
    · simp only [if_neg h]; exact alFind_get r (i + 1) k
theorem alFind_ge : ∀ (l : List (α × β)) (i : Nat) (k : α) (j : Nat) (v : β), alFind l i k = some (j, v) → i ≤ j
  | [], _, _, _, _, h => by simp [alFind] at h
  | (a, b) :: r, i, k, j, v, h => by
    simp only [alFind] at h
    by_cases hk : k = a
    · simp only [if_pos hk, Option.some.injEq, Prod.mk.injEq] at h
      omega
    · simp only [if_neg hk] at h
      have := alFind_ge r (i + 1) k j v h
      omega
variable {T : Tab} {kt : TypeId} {ek : α → AVal} {ev : β → AVal}
theorem luK_mpE (hk : ∀ a b, kEq T kt (ek a) (ek b) = some (decide (a = b))) : ∀ (l : List (α × β)) (i : Nat) (k : α), luK T kt (mpE ek ev l) i (ek k) = some ((alFind l i k).map fun p => (p.1, ev p.2))
  | [], _, _ => rfl
  | (a, b) :: r, i, k => by
    simp only [mpE, List.map_cons, luK, hk, alFind]
    by_cases h : k = a
    · simp [h]
    · simp only [h, decide_false, if_false]; exact luK_mpE hk r (i + 1) k
theorem putK_gen : ∀ (l : List (α × β)) (i : Nat) (k : α) (v : β), (match (alFind l i k).map fun p => (p.1, ev p.2) with
    | some (j, _) => (mpE ek ev l).set (j - i) (ek k, ev v)
    | none => mpE ek ev l ++ [(ek k, ev v)]) = mpE ek ev (alPut l k v)
  | [], _, _, _ => rfl
  | (a, b) :: r, i, k, v => by
    by_cases h : k = a
    · simp [alFind, alPut, h, mpE]
    · have ih := putK_gen r (i + 1) k v
      simp only [alFind, alPut, if_neg h]
      cases hf : alFind r (i + 1) k with
      | none =>
        rw [hf] at ih
        simp only [Option.map_none] at ih ⊢
        simp only [mpE, List.map_cons, List.cons_append] at ih ⊢
        rw [ih]
      | some p =>
        obtain ⟨j, w⟩ := p
        rw [hf] at ih
        have hj := alFind_ge _ _ _ _ _ hf
        simp only [Option.map_some] at ih ⊢
        rw [show j - i = (j - (i + 1)) + 1 by omega]
        simp only [mpE, List.map_cons, List.set_cons_succ] at ih ⊢
        rw [ih]
theorem putK_mpE (l : List (α × β)) (k : α) (v : β) : putK (mpE ek ev l) ((alFind l 0 k).map fun p => (p.1, ev p.2)) (ek k) (ev v) = mpE ek ev (alPut l k v) := by
  rw [← putK_gen (ek := ek) (ev := ev) l 0 k v]
  unfold putK
  cases alFind l 0 k with
  | none => rfl
  | some p => rfl
@[simp] theorem lkV_al (l : List (α × β)) (k : α) (z : AVal) : lkV ((alFind l 0 k).map fun p => (p.1, ev p.2)) z = ((alGet l k).map ev).getD z := by
  rw [← alFind_get l 0 k]
  unfold lkV
  cases alFind l 0 k <;> rfl
@[simp] theorem isSome_al (l : List (α × β)) (k : α) : (alFind l 0 k).isSome = (alGet l k).isSome := by
  rw [← alFind_get l 0 k]
  cases alFind l 0 k <;> rfl
end
@[simp] theorem length_mpE {α β : Type} {ek : α → AVal} {ev : β → AVal} {l : List (α × β)} : (mpE ek ev l).length = l.length := by simp [mpE]
@[simp] theorem nil_mpE {α β : Type} {ek : α → AVal} {ev : β → AVal} : mpE ek ev [] = [] := rfl
def strK (s : List UInt8) : AVal := .str s
def intK (n : Int) : AVal := .int .i64 n
def boolV (b : Bool) : AVal := .bool b
def intV (n : Int) : AVal := .int .i64 n
@[simp] theorem getD_boolV {x : Option Bool} : (x.map boolV).getD (.bool false) = .bool (x.getD false) := by cases x <;> rfl
@[simp] theorem getD_intV {x : Option Int} : (x.map intV).getD (.int .i64 0) = .int .i64 (x.getD 0) := by cases x <;> rfl
section
variable {T : Tab} {kt : TypeId} {β : Type} {ev : β → AVal}
theorem isStrT_spec {T : Tab} {t : TypeId} (h : isStrT T t = true) : ∃ a b c d, T t = some ⟨.str, a, b, c, d⟩ := by
  unfold isStrT at h
  split at h
  · rename_i hi; exact ⟨_, _, _, _, hi⟩
  · cases h
@[simp] theorem luK_strK {l : List (List UInt8 × β)} {k : List UInt8} (h : isStrT T kt = true) : luK T kt (mpE strK ev l) 0 (.str k) = some ((alFind l 0 k).map fun p => (p.1, ev p.2)) :=
  luK_mpE (ek := strK) (fun a b => by
    obtain ⟨_, _, _, _, hi⟩ := isStrT_spec h
    simp [kEq, strK, eqC, hi]) l 0 k
def isIntT (T : Tab) (t : TypeId) : Bool := match T t with
  | some ⟨.int _, _, _, _, _⟩ => true
  | _ => false
@[simp] theorem luK_intK {l : List (Int × β)} {k : Int} (h : isIntT T kt = true) : luK T kt (mpE intK ev l) 0 (.int .i64 k) = some ((alFind l 0 k).map fun p => (p.1, ev p.2)) :=
  luK_mpE (ek := intK) (fun a b => by
    unfold isIntT at h
    split at h
    · rename_i hi; simp [kEq, intK, eqC, hi]
    · cases h) l 0 k
@[simp] theorem putK_strB {l : List (List UInt8 × Bool)} {k : List UInt8} {b : Bool} : putK (mpE strK boolV l) ((alFind l 0 k).map fun p => (p.1, boolV p.2)) (.str k) (.bool b) = mpE strK boolV (alPut l k b) := putK_mpE (ek := strK) (ev := boolV) l k b
@[simp] theorem putK_intB {l : List (Int × Bool)} {k : Int} {b : Bool} : putK (mpE intK boolV l) ((alFind l 0 k).map fun p => (p.1, boolV p.2)) (.int .i64 k) (.bool b) = mpE intK boolV (alPut l k b) := putK_mpE (ek := intK) (ev := boolV) l k b
end
attribute [simp] evLookup evMapUpd evClear evClearS mapOf keyT plainT normK isIntT kEq
@[simp] theorem app_zero {f g : Nat → Nat → AVal} : app f 0 g = g := by funext i j; simp [app]
@[simp] theorem app_zero' {f g : Nat → Nat → AVal} {i j : Nat} : app f 0 g i j = g i j := by rw [app_zero]
@[simp] theorem all_lt2 {p : Nat → Prop} : (∀ j, j < 2 → p j) ↔ p 0 ∧ p 1 := ⟨fun h => ⟨h 0 (by decide), h 1 (by decide)⟩, fun h j hj => by
  match j, hj with
  | 0, _ => exact h.1
  | 1, _ => exact h.2
⟩
@[simp] theorem all_lt3 {p : Nat → Prop} : (∀ j, j < 3 → p j) ↔ p 0 ∧ p 1 ∧ p 2 := ⟨fun h => ⟨h 0 (by decide), h 1 (by decide), h 2 (by decide)⟩, fun h j hj => by
  match j, hj with
  | 0, _ => exact h.1
  | 1, _ => exact h.2.1
  | 2, _ => exact h.2.2
⟩
@[simp] theorem all_lt4 {p : Nat → Prop} : (∀ j, j < 4 → p j) ↔ p 0 ∧ p 1 ∧ p 2 ∧ p 3 := ⟨fun h => ⟨h 0 (by decide), h 1 (by decide), h 2 (by decide), h 3 (by decide)⟩, fun h j hj => by
  match j, hj with
  | 0, _ => exact h.1
  | 1, _ => exact h.2.1
  | 2, _ => exact h.2.2.1
  | 3, _ => exact h.2.2.2
⟩
@[simp] theorem all_lt5 {p : Nat → Prop} : (∀ j, j < 5 → p j) ↔ p 0 ∧ p 1 ∧ p 2 ∧ p 3 ∧ p 4 := ⟨fun h => ⟨h 0 (by decide), h 1 (by decide), h 2 (by decide), h 3 (by decide), h 4 (by decide)⟩, fun h j hj => by
  match j, hj with
  | 0, _ => exact h.1
  | 1, _ => exact h.2.1
  | 2, _ => exact h.2.2.1
  | 3, _ => exact h.2.2.2.1
  | 4, _ => exact h.2.2.2.2
⟩
@[simp] theorem all_lt6 {p : Nat → Prop} : (∀ j, j < 6 → p j) ↔ p 0 ∧ p 1 ∧ p 2 ∧ p 3 ∧ p 4 ∧ p 5 := ⟨fun h => ⟨h 0 (by decide), h 1 (by decide), h 2 (by decide), h 3 (by decide), h 4 (by decide), h 5 (by decide)⟩, fun h j hj => by
  match j, hj with
  | 0, _ => exact h.1
  | 1, _ => exact h.2.1
  | 2, _ => exact h.2.2.1
  | 3, _ => exact h.2.2.2.1
  | 4, _ => exact h.2.2.2.2.1
  | 5, _ => exact h.2.2.2.2.2
⟩
@[simp] theorem all_lt7 {p : Nat → Prop} : (∀ j, j < 7 → p j) ↔ p 0 ∧ p 1 ∧ p 2 ∧ p 3 ∧ p 4 ∧ p 5 ∧ p 6 := ⟨fun h => ⟨h 0 (by decide), h 1 (by decide), h 2 (by decide), h 3 (by decide), h 4 (by decide), h 5 (by decide), h 6 (by decide)⟩, fun h j hj => by
  match j, hj with
  | 0, _ => exact h.1
  | 1, _ => exact h.2.1
  | 2, _ => exact h.2.2.1
  | 3, _ => exact h.2.2.2.1
  | 4, _ => exact h.2.2.2.2.1
  | 5, _ => exact h.2.2.2.2.2.1
  | 6, _ => exact h.2.2.2.2.2.2
⟩
theorem VLe_mp {h : Heap} {σ : Id → Id} {fz : Nat → Bool} {vz : Id → Bool} {nx : Nat} {l : List (AVal × AVal)} (hl : ∀ p ∈ l, Clo p.1 ∧ Clo p.2) : HLe h σ fz vz nx (.mp l) (some (.mp l)) :=
  ⟨rfl, fun i hi _ => ⟨Clo.le _ (hl _ (List.getElem_mem hi)).1, Clo.le _ (hl _ (List.getElem_mem hi)).2⟩⟩
theorem HLe_mpE {α β : Type} {ek : α → AVal} {ev : β → AVal} (h1 : ∀ a, Clo (ek a)) (h2 : ∀ b, Clo (ev b)) {h : Heap} {σ : Id → Id} {fz : Nat → Bool} {vz : Id → Bool} {nx : Nat} {l2 l : List (α × β)} (e : l2 = l) : HLe h σ fz vz nx (.mp (mpE ek ev l2)) (some (.mp (mpE ek ev l))) := by
  subst e
  refine VLe_mp fun p hp => ?_
  obtain ⟨q, _, rfl⟩ := List.mem_map.1 hp
  exact ⟨h1 _, h2 _⟩
@[simp high] theorem HLe_sb {h : Heap} {σ : Id → Id} {fz : Nat → Bool} {vz : Id → Bool} {nx : Nat} {l2 l : List (List UInt8 × Bool)} (e : l2 = l) : HLe h σ fz vz nx (.mp (mpE strK boolV l2)) (some (.mp (mpE strK boolV l))) = True := eq_true (HLe_mpE (ek := strK) (ev := boolV) (fun _ => trivial) (fun _ => trivial) e)
@[simp high] theorem HLe_nil {h : Heap} {σ : Id → Id} {fz : Nat → Bool} {vz : Id → Bool} {nx : Nat} : HLe h σ fz vz nx (.mp []) (some (.mp [])) = True := eq_true (VLe_mp fun _ hp => by cases hp)
@[simp] theorem fits_int0 {sz by_ : Nat} {z : Nat → AVal} {q : Bool} {k' : IntKind} {k : IntKind} {n : Int} : fits ⟨.int k', sz, by_, z, q⟩ (.int k n) = true := rfl
@[simp] theorem fits_bool0 {sz by_ : Nat} {z : Nat → AVal} {q : Bool}  {b : Bool} : fits ⟨.bool, sz, by_, z, q⟩ (.bool b) = true := rfl
@[simp] theorem fits_str0 {sz by_ : Nat} {z : Nat → AVal} {q : Bool}  {l : List UInt8} : fits ⟨.str, sz, by_, z, q⟩ (.str l) = true := rfl
@[simp] theorem fits_slice0 {sz by_ : Nat} {z : Nat → AVal} {q : Bool} {e : TypeId} {id : Id} {lo n : Nat} : fits ⟨.slice e, sz, by_, z, q⟩ (.sl id lo n) = true := rfl
@[simp] theorem fits_slice1 {sz by_ : Nat} {z : Nat → AVal} {q : Bool} {e : TypeId} {n s : Nat} {g : Nat → Nat → AVal} : fits ⟨.slice e, sz, by_, z, q⟩ (.vsl n s g) = true := rfl
@[simp] theorem fits_slice2 {sz by_ : Nat} {z : Nat → AVal} {q : Bool} {e : TypeId}  : fits ⟨.slice e, sz, by_, z, q⟩ .nils = true := rfl
@[simp] theorem fits_ptr0 {sz by_ : Nat} {z : Nat → AVal} {q : Bool} {e : TypeId} {id : Id} {n o : Nat} : fits ⟨.ptr e, sz, by_, z, q⟩ (.ptr id n o) = true := rfl
@[simp] theorem fits_ptr1 {sz by_ : Nat} {z : Nat → AVal} {q : Bool} {e : TypeId} {n : Nat} {g : Nat → AVal} {o : Nat} : fits ⟨.ptr e, sz, by_, z, q⟩ (.vptr n g o) = true := rfl
@[simp] theorem fits_ptr2 {sz by_ : Nat} {z : Nat → AVal} {q : Bool} {e : TypeId}  : fits ⟨.ptr e, sz, by_, z, q⟩ .nilp = true := rfl
@[simp] theorem fits_map0 {sz by_ : Nat} {z : Nat → AVal} {q : Bool} {e e' : TypeId} {id : Id} : fits ⟨.map e e', sz, by_, z, q⟩ (.map id) = true := rfl
@[simp] theorem fits_map1 {sz by_ : Nat} {z : Nat → AVal} {q : Bool} {e e' : TypeId}  : fits ⟨.map e e', sz, by_, z, q⟩ .nilmap = true := rfl
@[simp] theorem fits_func0 {sz by_ : Nat} {z : Nat → AVal} {q : Bool}  {f : FuncId} {n : Nat} {g : Nat → AVal} : fits ⟨.func, sz, by_, z, q⟩ (.fn f n g) = true := rfl
@[simp] theorem fits_func1 {sz by_ : Nat} {z : Nat → AVal} {q : Bool}   : fits ⟨.func, sz, by_, z, q⟩ .nilfn = true := rfl
@[simp] theorem fits_vec {sz by_ : Nat} {z : Nat → AVal} {q : Bool} {e : TypeId} {α : Type} {s : Nat} {f : α → Nat → AVal} {d : α} {l : List α} : fits ⟨.slice e, sz, by_, z, q⟩ (vec s f d l) = true := rfl
@[simp] theorem fits_ints {sz by_ : Nat} {z : Nat → AVal} {q : Bool} {e : TypeId} {l : List Int} : fits ⟨.slice e, sz, by_, z, q⟩ (ints l) = true := rfl
@[simp] theorem range1 : List.range 1 = [0] := rfl
@[simp] theorem range2 : List.range 2 = [0, 1] := rfl
@[simp] theorem range3 : List.range 3 = [0, 1, 2] := rfl
@[simp] theorem range4 : List.range 4 = [0, 1, 2, 3] := rfl
end Go.Lift
namespace Go.Lift
set_option linter.unusedSimpArgs false
set_option linter.unusedVariables false
open Go.ChangeShapes Go.WideShapes Go.RowKit
def cW (w : World) : Cx := c0 (fun _ => False) w
def Reads (P : Program) (t : TypeId) {α : Type} (sz : Nat) (f : α → Nat → AVal) (I : α → Prop) : Prop :=
  P.cellsOf t = sz ∧ ∀ (H : Type) (enc : TypeId × Value → H) (w : World) (sp : Nat → Bool) (held : Bool) (n : Nat) (cs : List Value) (x : DataW H × List MemPlace),
    DataW.trod enc P w 0 sp held n t cs = some x → ∃ a : α, I a ∧ cs.length = sz ∧ ∀ j, j < sz → (f a j).one = true ∧ ∃ v, cs[j]? = some v ∧ Rel (cW w) (f a j) v
theorem mapM_get {α β : Type} {f : α → Option β} : ∀ {l : List α} {r : List β}, l.mapM f = some r → r.length = l.length ∧ ∀ (i : Nat) (x : α), l[i]? = some x → f x = r[i]?
  | [], r, h => by
    simp at h; subst h; exact ⟨rfl, fun i x hx => by simp at hx⟩
  | a :: l, r, h => by
    rw [List.mapM_cons] at h
    cases ha : f a with
    | none => simp [ha] at h
    | some b =>
      cases hl : l.mapM f with
      | none => simp [ha, hl] at h
      | some r' =>
        simp [ha, hl] at h
        subst h
        obtain ⟨h1, h2⟩ := mapM_get hl
        refine ⟨by simp [h1], fun i x hx => ?_⟩
        cases i with
        | zero => simp at hx; subst hx; simpa using ha
        | succ i => simpa using h2 i x (by simpa using hx)
theorem cells_get {w : World} {a : Addr} {n : Nat} {cs : List Value} (h : w.cells? 0 a n = some cs) : cs.length = n ∧ ∀ j, j < n → w.cell? (a.add j) = cs[j]? := by
  unfold World.cells? at h
  rw [if_pos (Nat.zero_le _)] at h
  obtain ⟨h1, h2⟩ := mapM_get h
  exact ⟨by simpa using h1, fun j hj => h2 j j (by simp [hj])⟩
section
variable {P : Program}
theorem reads_int {t : TypeId} {k : IntKind} (ht : P.underlying t = some (.int k)) (hc : P.cellsOf t = 1) : Reads P t 1 (fun (n : Int) _ => .int k n) (fun n => (Lit.int k n).wf = true) :=
  ⟨hc, fun H enc w sp held n cs x h => by
    obtain ⟨m, rfl, _, hw⟩ := DataW.trod_int ht h
    exact ⟨m, hw, rfl, fun j hj => ⟨rfl, _, by rw [show j = 0 by omega]; rfl, rfl⟩⟩⟩
theorem reads_string {t : TypeId} (ht : P.underlying t = some .string) (hc : P.cellsOf t = 1) : Reads P t 1 (fun (s : List UInt8) _ => .str s) (fun s => s.length ≤ maxLen) :=
  ⟨hc, fun H enc w sp held n cs x h => by
    obtain ⟨⟨⟨s⟩⟩, rfl, _, hs⟩ := DataW.trod_string ht h
    exact ⟨s, hs, rfl, fun j hj => ⟨rfl, _, by rw [show j = 0 by omega]; rfl, rfl⟩⟩⟩
theorem reads_slice {t e : TypeId} {α : Type} {sz : Nat} {f : α → Nat → AVal} {I : α → Prop} (d : α) (ht : P.underlying t = some (.slice e)) (hc : P.cellsOf t = 1) (hs : 0 < sz) (he : Reads P e sz f I) :
    Reads P t 1 (fun (l : List α) _ => vec sz f d l) (fun l => l.length ≤ maxLen ∧ ∀ x ∈ l, I x) := by
  refine ⟨hc, fun H enc w sp held n cs x h => ?_⟩
  obtain ⟨hce, he⟩ := he
  rcases DataW.trod_slice ht h with ⟨rfl, _⟩ | ⟨a, len, cap, elems, rest, n, _, rfl, _, _, hlen, hcap, hel, hat, _, _⟩
  · exact ⟨[], ⟨by simp, fun x hx => by cases hx⟩, rfl, fun j hj => ⟨rfl, _, by rw [show j = 0 by omega]; rfl, none, 0, rfl, Nat.le_refl _, .inl rfl⟩⟩
  · have key : ∀ i, ∃ y : α, i < len → I y ∧ ∀ j, j < sz → (f y j).one = true ∧ ∃ v, w.cell? ((a.add (i * sz)).add j) = some v ∧ Rel (cW w) (f y j) v := fun i => by
      by_cases hi : i < len
      · have h1 := hat i hi
        rw [hce] at h1
        cases hcs : w.cells? 0 (a.add (i * sz)) sz with
        | none => rw [hcs] at h1; simp [List.getElem?_eq_getElem (show i < elems.length by omega)] at h1
        | some cs' =>
          rw [hcs] at h1
          simp only [Option.bind_some] at h1
          rw [List.getElem?_eq_getElem (show i < elems.length by omega)] at h1
          obtain ⟨y, hy, hl, hj⟩ := he H enc w sp held n cs' _ h1
          obtain ⟨_, h2⟩ := cells_get hcs
          exact ⟨y, fun _ => ⟨hy, fun j hj' => ⟨(hj j hj').1, by rw [h2 j hj']; exact (hj j hj').2⟩⟩⟩
      · exact ⟨d, fun h => absurd h hi⟩
    let g : Nat → α := fun i => Classical.choose (key i)
    have hg : ∀ i, i < len → I (g i) ∧ ∀ j, j < sz → (f (g i) j).one = true ∧ ∃ v, w.cell? ((a.add (i * sz)).add j) = some v ∧ Rel (cW w) (f (g i) j) v := fun i => Classical.choose_spec (key i)
    have hgd : ∀ i, i < len → ((List.range len).map g).getD i d = g i := fun i hi => by simp [List.getD, hi]
    refine ⟨(List.range len).map g, ⟨by simp; omega, fun x hx => ?_⟩, rfl, fun j hj => ?_⟩
    · obtain ⟨i, hi, rfl⟩ := List.mem_map.1 hx
      exact (hg i (by simpa using hi)).1
    · obtain rfl : j = 0 := by omega
      refine ⟨rfl, _, rfl, some a, cap, by simp, by simpa using hlen, ?_⟩
      by_cases h0 : len = 0
      · exact .inl (by simp [h0])
      · right
        obtain ⟨b, o, spot⟩ := a
        obtain ⟨_, v0, hv0, _⟩ := (hg 0 (by omega)).2 0 hs
        have hv0' : w.cell? ⟨b, o, spot⟩ = some v0 := by simpa [Addr.add] using hv0
        have hsp : spot = none := by
          unfold World.cell? at hv0'
          cases hb : w.heap[b]? with
          | none => simp [hb] at hv0'
          | some ob =>
            cases ob <;> simp [hb] at hv0'
            exact hv0'.1
        have hb : b < w.heap.size := by
          unfold World.cell? at hv0'
          cases hb : w.heap[b]? with
          | none => simp [hb] at hv0'
          | some ob => exact (Array.getElem?_eq_some_iff.1 hb).1
        subst hsp
        refine ⟨b, o, rfl, fun hF => hF, hb, fun i hi j hj => ?_⟩
        have hi' : i < len := by simpa using hi
        have h3 := (hg i hi').2 j hj
        show (f (((List.range len).map g).getD i d) j).one = true ∧ _
        unfold vecF
        rw [hgd i hi']
        refine ⟨h3.1, ?_⟩
        obtain ⟨_, v, h4, h5⟩ := h3
        refine ⟨v, ?_, h5⟩
        rw [← h4]
        congr 1
        unfold Addr.add
        by_cases h6 : i * sz = 0
        · by_cases h7 : j = 0
          · simp [h6, h7]
          · simp [h6, h7]
        · by_cases h7 : j = 0
          · simp [h6, h7]
          · simp [h6, h7]
def ReadsF (P : Program) (o : Nat) (fs : List Field) {α : Type} (sz : Nat) (f : α → Nat → AVal) (I : α → Prop) : Prop :=
  ∀ (H : Type) (enc : TypeId × Value → H) (w : World) (sp : Nat → Bool) (held : Bool) (n : Nat) (cs : List Value), (∀ fd ∈ fs, ∃ x, DataW.trod enc P w 0 sp held n fd.type ((cs.drop fd.offset).take (P.cellsOf fd.type)) = some x) →
    ∃ a : α, I a ∧ ∀ j, j < sz → (f a j).one = true ∧ ∃ v, cs[o + j]? = some v ∧ Rel (cW w) (f a j) v
theorem readsF_nil {o : Nat} : ReadsF P o [] 0 (fun (_ : Unit) _ => .any) (fun _ => True) := fun H enc w sp held n cs _ => ⟨(), trivial, fun j hj => absurd hj (Nat.not_lt_zero _)⟩
theorem readsF_cons {o s sz : Nat} {fd : Field} {fs : List Field} {α β : Type} {g : β → Nat → AVal} {J : β → Prop} {f : α → Nat → AVal} {I : α → Prop} (ho : fd.offset = o) (h1 : Reads P fd.type s g J) (h2 : ReadsF P (o + s) fs sz f I) :
    ReadsF P o (fd :: fs) (s + sz) (fun (p : β × α) j => if j < s then g p.1 j else f p.2 (j - s)) (fun p => J p.1 ∧ I p.2) := fun H enc w sp held n cs h => by
  obtain ⟨hc, h1⟩ := h1
  obtain ⟨x, hx⟩ := h fd List.mem_cons_self
  obtain ⟨b, hb, hl, hbj⟩ := h1 H enc w sp held n _ x hx
  obtain ⟨a, ha, haj⟩ := h2 H enc w sp held n cs fun fd' hfd => h fd' (List.mem_cons_of_mem _ hfd)
  refine ⟨(b, a), ⟨hb, ha⟩, fun j hj => ?_⟩
  show (if j < s then g b j else f a (j - s)).one = true ∧ ∃ v, cs[o + j]? = some v ∧ Rel (cW w) (if j < s then g b j else f a (j - s)) v
  by_cases hjs : j < s
  · rw [if_pos hjs]
    obtain ⟨k1, v, k2, k3⟩ := hbj j hjs
    refine ⟨k1, v, ?_, k3⟩
    rw [hc, ho, List.getElem?_take, if_pos hjs, List.getElem?_drop] at k2
    exact k2
  · rw [if_neg hjs]
    obtain ⟨k1, v, k2, k3⟩ := haj (j - s) (by omega)
    exact ⟨k1, v, by rw [show o + j = o + s + (j - s) by omega]; exact k2, k3⟩
theorem reads_struct {t : TypeId} {fs : Array Field} {α : Type} {sz : Nat} {f : α → Nat → AVal} {I : α → Prop} (ht : P.underlying t = some (.struct fs)) (hc : P.cellsOf t = sz) (h : ReadsF P 0 fs.toList sz f I) : Reads P t sz f I :=
  ⟨hc, fun H enc w sp held n cs x hx => by
    obtain ⟨xs, m, _, _, hl, hlen, hf⟩ := DataW.trod_struct ht hx
    obtain ⟨a, ha, haj⟩ := h H enc w sp held m cs fun fd hfd => by
      obtain ⟨i, hi, hie⟩ := List.mem_iff_getElem.1 hfd
      have hi' : i < fs.size := by simpa using hi
      have h1 := hf i fd (by rw [Array.getElem?_eq_getElem hi']; simpa using hie)
      rw [List.getElem?_eq_getElem (by omega)] at h1
      exact ⟨_, h1⟩
    exact ⟨a, ha, hl.trans hc, fun j hj => by simpa using haj j hj⟩⟩
theorem Reads.as {t : TypeId} {α β : Type} {sz : Nat} {f : α → Nat → AVal} {I : α → Prop} (h : Reads P t sz f I) (g : α → β) {f' : β → Nat → AVal} {I' : β → Prop} (hf : ∀ a j, j < sz → f a j = f' (g a) j) (hI : ∀ a, I a → I' (g a)) : Reads P t sz f' I' :=
  ⟨h.1, fun H enc w sp held n cs x hx => by
    obtain ⟨a, ha, hl, haj⟩ := h.2 H enc w sp held n cs x hx
    exact ⟨g a, hI a ha, hl, fun j hj => by rw [← hf a j hj]; exact haj j hj⟩⟩
section
variable {H : Type} {enc : TypeId × Value → H} {w : World} {sp : Nat → Bool} {held : Bool} {b0 : Nat} {t : TypeId} {v : Value} {d : DataW H} {ps : List MemPlace} {α : Type} {sz : Nat} {f : α → Nat → AVal} {I : α → Prop}
theorem arg_struct {fs : Array Field} (hs : P.underlying t = some (.struct fs)) (hr : Reads P t sz f I) (hv : Value.okWide P w .any b0 t v) (h : DataW.Trod enc P w 0 sp held t v d ps) : ∃ a, I a ∧ Rel (cW w) (.agg sz (f a)) v := by
  obtain ⟨cs, rfl, hsz⟩ := okWide_struct hs hv
  obtain ⟨fuel, hf⟩ := h
  obtain ⟨a, ha, hl, haj⟩ := hr.2 H enc w sp held fuel _ _ hf
  refine ⟨a, ha, cs, rfl, hsz.trans hr.1, fun j hj => ?_⟩
  obtain ⟨_, v, hv1, hv2⟩ := haj j hj
  have : cs.getD j undef = v := by
    have h1 : cs[j]? = some v := by simpa [Value.cells] using hv1
    rw [Array.getD_eq_getD_getElem?, h1]; rfl
  rw [this]; exact hv2
theorem arg_one (hr : Reads P t 1 f I) (hv : v.cells = #[v]) (h : DataW.Trod enc P w 0 sp held t v d ps) : ∃ a, I a ∧ Rel (cW w) (f a 0) v := by
  obtain ⟨fuel, hf⟩ := h
  obtain ⟨a, ha, hl, haj⟩ := hr.2 H enc w sp held fuel _ _ hf
  obtain ⟨_, v', hv1, hv2⟩ := haj 0 (by decide)
  rw [hv] at hv1
  have : v' = v := by simpa using hv1.symm
  exact ⟨a, ha, this ▸ hv2⟩
theorem arg_slice {e : TypeId} (ht : P.underlying t = some (.slice e)) (hr : Reads P t 1 f I) (hv : Value.okWide P w .any b0 t v) (h : DataW.Trod enc P w 0 sp held t v d ps) : ∃ a, I a ∧ Rel (cW w) (f a 0) v := by
  obtain ⟨a, l, c, rfl⟩ := okWide_slice ht hv
  exact arg_one hr rfl h
theorem arg_int {k : IntKind} (ht : P.underlying t = some (.int k)) (hr : Reads P t 1 f I) (hv : Value.okWide P w .any b0 t v) (h : DataW.Trod enc P w 0 sp held t v d ps) : ∃ a, I a ∧ Rel (cW w) (f a 0) v := by
  obtain ⟨n, rfl⟩ := okWide_int ht hv
  exact arg_one hr rfl h
theorem arg_string (ht : P.underlying t = some .string) (hr : Reads P t 1 f I) (hv : Value.okWide P w .any b0 t v) (h : DataW.Trod enc P w 0 sp held t v d ps) : ∃ a, I a ∧ Rel (cW w) (f a 0) v := by
  obtain ⟨n, rfl⟩ := okWide_string ht hv
  exact arg_one hr rfl h
end
theorem Kept.below {w w' : World} (h : Kept w (fun _ => False) w') : Below w.heap.size w w' := ⟨h.os, h.tape, h.output, h.size, fun k hk => h.block k hk fun f => f⟩
theorem trodAll_kept {H : Type} {enc : TypeId × Value → H} (hl : laidOutB P = true) {W W' : World} (hk : Kept W (fun _ => False) W') {sp : Nat → Bool} : ∀ (ts : List TypeId) (vs : List Value) (ds : List (DataW H)) (ps : List MemPlace), (ts.all fun t => P.readableRec t && decide (t < P.types.size)) = true →
    DataW.TrodAll enc P W 0 (fun _ => true) true ts vs ds ps → (∀ p ∈ ps, p.block < W.heap.size) → (∀ p ∈ ps, sp p.block = true) → DataW.TrodAll enc P W' 0 sp true ts vs ds ps
  | [], vs, ds, ps, _, h, _, _ => by
    obtain ⟨rfl, rfl, rfl⟩ := trodAll_nil h
    exact h
  | t :: ts, vs, ds, ps, ha, h, hlt, hsp => by
    obtain ⟨v, vs', d, ds', p, q, rfl, rfl, rfl, h1, h2⟩ := trodAll_cons h
    simp only [List.all_cons, Bool.and_eq_true, decide_eq_true_eq] at ha
    refine ⟨p, q, ?_, trodAll_kept hl hk ts vs' ds' q (by simpa using ha.2) h2 (fun x hx => hlt x (List.mem_append.2 (.inr hx))) (fun x hx => hsp x (List.mem_append.2 (.inr hx))), rfl⟩
    exact WideElems.Trod_stays hl ha.1.1 ha.1.2 h1 (fun x hx => hk.below.same (hlt x (List.mem_append.2 (.inl hx)))) fun x hx => hsp x (List.mem_append.2 (.inl hx))
theorem law_post {H : Type} {enc : TypeId × Value → H} {f : Func} {s : ChangeSpec} {apart fresh handsOn again : Bool} {W W' : World} {args : Array Value} {ds gs : List (DataW H)} {before : List MemPlace} {tb : TypeId}
    (hl : laidOutB P = true) (hp : (f.params.toList.all fun t => P.readableRec t && decide (t < P.types.size)) = true) (hvars : s.vars = []) (hfn : s.fn H (ds ++ gs) = { results := [.lit (.bool true)], args := ds })
    (hres : f.resultTypes = #[tb]) (htb : P.underlying tb = some .bool) (hW : DataW.Whole enc P f.params.toList s.vars apart W args.toList ds gs before) (hk : Kept W (fun _ => False) W') :
    s.post enc P f apart fresh handsOn again W args (.bool true) W' := by
  have hlt : ∀ p ∈ before, p.block < W.heap.size := fun p hp => by simpa using hW.lt p hp
  have hold : ∀ p ∈ before, (fun b => decide (b < W.heap.size)) p.block = true := fun p hp => by simpa using hlt p hp
  have hW0 := hW
  obtain ⟨p, q, hA, hV, hpq, hz, hn⟩ := hW
  rw [hvars] at hV
  obtain ⟨hgs, hq⟩ := trodVars_none hV
  subst hgs hq
  rw [List.append_nil] at hpq
  subst hpq
  have hargs : ∀ sp : Nat → Bool, (∀ x ∈ before, sp x.block = true) → DataW.TrodAll enc P W' 0 sp true f.params.toList args.toList (s.fn H (ds ++ [])).args before := fun sp hsp => by
    rw [hfn]; exact trodAll_kept hl hk _ _ _ _ hp hA hlt hsp
  have hvv : ∀ sp : Nat → Bool, DataW.TrodVars enc P W' sp s.vars (s.fn H (ds ++ [])).vars [] := fun sp => by rw [hfn, hvars]; exact rfl
  have hone : (Value.bool true).resultList f.resultTypes.size = [.bool true] := by rw [hres]; rfl
  have hrs : ∀ (b : Nat) (sp : Nat → Bool) (hd : Bool), DataW.TrodAll enc P W' b sp hd f.resultTypes.toList ((Value.bool true).resultList f.resultTypes.size) (s.fn H (ds ++ [])).results [] := fun b sp hd => by
    rw [hfn, hone, hres]; exact trodAll_mk1 (shut_bool htb true)
  refine ⟨ds, [], before, [], before, [], hW0, hrs _ _ _, hargs _ hold, hvv _, ⟨hk.os, hk.output, fun i hi => ?_⟩, fun _ => ⟨?_, _, _, ([] ++ before) ++ [], ⟨[] ++ before, [], trodAll_append (hargs _ (fun _ _ => rfl)) (hrs _ _ _), hvv _, rfl, ?_, ?_⟩, ?_⟩⟩
  · rw [hk.block i hi fun f => f]
    cases W.heap[i]? with
    | none => rfl
    | some o => cases o <;> first | exact ⟨rfl, rfl, rfl, fun _ _ => rfl⟩ | exact .inr ⟨rfl, rfl⟩ | rfl
  · intro j t r h1 h2
    rw [hone] at h2
    rw [hres] at h1
    cases j with
    | succ j => simp at h1
    | zero =>
      simp at h1 h2
      subst h1 h2
      exact okWide_bool_mk htb true
  · intro b off hpm
    have hm : MemPlace.cell b off ∈ before := by simpa using hpm
    have hb : b < W.heap.size := hlt _ hm
    have h1 := hz b off hm
    unfold World.frozen? at h1 ⊢
    rw [hk.block b hb fun f => f]
    exact h1
  · intro ha
    simpa using hn ha
  · intro p hp _
    simpa using hp
end
theorem allLt_of {p : Nat → Bool} : ∀ {n : Nat}, (∀ j, j < n → p j = true) → allLt n p = true
  | 0, _ => rfl
  | n + 1, h => by
    show (p n && allLt n p) = true
    rw [h n (by omega), allLt_of fun j hj => h j (by omega)]; rfl
@[simp] theorem evConv_bytes {T : Tab} {s d : TypeId} {l : List UInt8} : evConv T s d (bytes l) = none := by
  unfold evConv bytes vec; split <;> rfl
@[simp] theorem evBts_bytes {T : Tab} {s d : TypeId} {l : List UInt8} : evBts T s d (bytes l) = if bytesT T s d then some (.str l) else none := by
  show (if bytesT T s d && (1 : Nat) == 1 && allLt l.length (fun i => isU8 (.int .u8 (l.getD i 0).toNat)) then some (AVal.str ((List.range l.length).map fun i => byteOf (.int .u8 (l.getD i 0).toNat))) else none) = _
  have h1 : allLt l.length (fun i => isU8 (.int .u8 (l.getD i 0).toNat)) = true := allLt_of fun _ _ => rfl
  have h2 : ((List.range l.length).map fun i => byteOf (.int .u8 (l.getD i 0).toNat)) = l := by
    apply List.ext_getElem
    · simp
    · intro i h3 h4
      simp [byteOf, h4]
  rw [h1, h2]
  simp only [Bool.and_true, beq_self_eq_true]
attribute [simp] bytesT isU8T evConv
end Go.Lift
namespace Go.Lift
set_option linter.unusedSimpArgs false
set_option linter.unusedVariables false
open Go.RowKit
def recJ (rec : Loop) : Option Code → Loop
  | none => rec
  | some c => { rec with state := .done, pending := some c }
def lpP (l : Nat) (rec : Loop) (j : Option Code) (b : Nat) (x : Obj) : Prop := b = l ∧ x = .loop (recJ rec j)
@[simp] theorem HLe_ob {h : Heap} {σ : Id → Id} {fz : Nat → Bool} {vz : Id → Bool} {nx : Nat} {p : Nat → Obj → Prop} : HLe h σ fz vz nx (.ob p) (some (.ob p)) = True := eq_true fun _ _ h => h
def jmpOf : Exit → Option (Option Code)
  | .normal => some none
  | .ret => some (some .ret)
  | .exit i => some (some (.exit i))
  | _ => none
theorem lkH_not {h : Heap} {k : Nat} (hk : k ∉ h.map (·.1)) (i : Nat) : lkH h (k, i) = none := by
  cases hl : lkH h (k, i) with
  | none => rfl
  | some o => exact absurd (lkH_mem hl) hk
section
variable {P : Program} {G : Gh} {n0 : Nat} {α : Type} {I : α → Prop} {r : α → AVal} {houtR : α → Heap} {nout : α → Nat} {j : α → Option Code}
theorem lp_at {h : Heap} {mu : Id → Option Base} {nx : Nat} {w : World} (hk : HOk G h mu nx w) {id : Id} {l : Nat} {rec : Loop} {jj : Option Code} (hl : lkH h id = some (.ob (lpP l rec jj))) : ∃ B, mu id = some B ∧ B.b = l ∧ w.heap[l]? = some (.loop (recJ rec jj)) ∧ B.o = 0 := by
  have h1 := (hk.obj _ _ hl).2
  cases hm : mu id with
  | none => rw [hm] at h1; exact h1.elim
  | some B =>
    rw [hm] at h1
    obtain ⟨y, h2, ⟨_, h5⟩, h3, h4⟩ := h1
    refine ⟨B, rfl, h3, ?_, h5⟩
    rw [← h3, ← h4]
    exact h2
theorem HOk.tail {k : Nat} {e : HEnt} {h : Heap} {mu : Id → Option Base} {nx : Nat} {w : World} (hk : HOk G ((k, e) :: h) mu nx w) (hn : k ∉ h.map (·.1)) : HOk G h mu nx w ∧ (cx G ((k, e) :: h) mu nx w).Le (cx G h mu nx w) := by
  have hs : ∀ id o, lkH h id = some o → lkH ((k, e) :: h) id = some o := fun id o hl => by
    simp only [lkH]
    rw [if_neg (fun hk' => hn (by rw [hk']; exact lkH_mem hl))]
    exact hl
  have hLe : (cx G ((k, e) :: h) mu nx w).Le (cx G h mu nx w) := by
    refine ⟨Nat.le_refl _, fun b hb hF hF' => hF ?_, fun _ _ _ _ => rfl, Nat.le_refl _, fun _ _ => rfl, fun _ h => h⟩
    rcases hF' with hO | ⟨id, o, B, h1, h2, h3⟩
    · exact .inl hO
    · exact .inr ⟨id, o, B, hs id o h1, h2, h3⟩
  refine ⟨⟨fun id o hl => ⟨(hk.obj id o (hs id o hl)).1, (hk.obj id o (hs id o hl)).2.mono hLe fun _ _ => rfl⟩, fun id id' o o' B B' h1 h2 => hk.sep id id' o o' B B' (hs _ _ h1) (hs _ _ h2), fun id o B h1 => hk.own id o B (hs _ _ h1), hk.kept, hk.out, fun id t B ht => hk.typ id t B ?_⟩, hLe⟩
  obtain ⟨o, ho⟩ := tyH_lk ht
  simp only [tyH]
  rw [if_neg (fun hk' => hn (by rw [hk']; exact lkH_mem ho))]
  exact ht
theorem awpL_yieldP {hout : α → Heap} {l : Nat} {rec : Loop} {vs : Array Value} (kk : Nat) (hR : G.rd = none) (ps : List Nat) (fz : Nat → Bool) {as : List AVal} {hin : Heap} (hc : YC P l rec vs as hin ps.length I r hout nout) {ops ls : List Oper} {o : Oper} {Q : St → Prop} {st : St} {x : Operand} {args : Array Operand} {ts : Array TypeId}
    (hrec : lkH st.heap (kk, 0) = some (.ob (lpP l rec none)))
    (ho : o.op = .call { callee := .value x, args := args, argTypes := ts }) (hsz : args.size = rec.params.size) {g : Option Bool} (hg : guardOf ops.toArray o st.env = some g) (hgt : g.getD true = true) {n : Nat} {fc : Nat → AVal} (hx : sv st.env x = .yld l vs n fc) (hps : ps.Nodup ∧ ∀ k ∈ ps, k < st.nx)
    (hflat : (∀ k, fz k = false) ∨ ∀ x, I x → flat (r x) ∧ flatH (hout x)) (hsc : sc st.env x ∧ argsC st.env args.toList)
    (hle : argsLeS st.heap (sI (inId ps)) fz ps.length as (callArgs st.env args.toList n fc)) (hheap : heapLe st.heap (sI (inId ps)) fz (fun _ => false) ps.length hin)
    (h : ∀ K : St → Prop, (∀ s, AwpL P G n0 ops ls Q s → K s) → ∀ x, I x → ps.length ≤ nout x →
      goPut (putSt G.nt st.env (renH (outId ps st.nx) (hout x) ++ st.heap.filter fun e => !ps.contains e.1) (st.nx + (nout x - ps.length)) o.dst (ren (outId ps st.nx) (r x))) K) : AwpL P G n0 ops (o :: ls) Q st := by
  intro mu a w hs hn Q' hQ
  have hw := (wanted_of hs hg).trans hgt
  have hxr := strip_rel (hs.rho x) hsc.1
  have hxr' : Rel (cx G st.heap mu st.nx w) (sv st.env x) (a.eval x) := hxr
  rw [hx] at hxr'
  obtain ⟨hxv, hvs, hvr⟩ := hxr'
  obtain ⟨_, _, _, hl, _⟩ := lp_at hs.heap hrec
  have hl : w.heap[l]? = some (.loop rec) := hl
  refine wpListIn_step fun K hK => ?_
  rw [if_pos hw, hR]
  refine ⟨fun _ _ => trivial, ?_⟩
  rw [Oper.semAt_eq _ _ o (by rw [ho]; intro c hc; cases hc), run_callYield ho hxv hl hsz]
  rw [Oper.uponIn_round]
  refine ⟨fun hd => absurd hd (by simp [fen, Fence.wide]), ?_⟩
  have hvals : ArgsRel (cx G st.heap mu st.nx w) (callArgs st.env args.toList n fc) ((args.map a.eval).toList ++ vs.toList) := by
    have := callArgs_rel (caps := vs) (fun y => hs.rho y) hsc.2 hvs hvr
    simpa using this
  have key := fc_core (C := yieldC P l rec vs) yieldC_mono ps hps.1 hps.2 hc fz hflat hle hheap hs.heap hvals (K := fun v w' => K (a.put o.dst v) w') fun z hI hno v mu3 w' hok4 hLe hrelv hfr _ => by
    obtain ⟨s, hput, hs2⟩ := goPut_spec (h _ (fun _ hs => hs) z hI hno)
    have hsim := hs.put hLe hok4 hrelv hput
    have hLe' : (cx G st.heap mu st.nx w).Le (cx G s.heap mu3 s.nx w') := by
      rw [(putSt_heap hput).1, (putSt_heap hput).2]; exact hLe
    refine hK _ _ ?_
    exact hs2 mu3 _ w' hsim (Nat.le_trans hn hLe'.nx) Q' fun mu2 st2 a2 w2 h1 h2 h3 h4 => hQ mu2 st2 a2 w2 h1 h2 ((Stay.of hn hLe').trans h3) h4
  have := key _ rfl hl
  simp only [Array.toArray_toList] at this
  refine this.mono ?_
  rintro e w' ⟨v, rfl, hv⟩
  exact hv
theorem FCY_of {hout : α → Heap} {f : FuncId} {l : Nat} {rec : Loop} {args : List AVal} {hin : Heap} {nin : Nat} (hc : FC P f args hin nin I r hout nout) : FCY P f l rec args hin nin I r hout nout :=
  fun O w mu vals hk ha _ => hc O w mu vals hk ha
def RetYJ (nin : Nat) {α : Type} (I : α → Prop) (j : α → Option Code) (hout : α → Heap) (nout : α → Nat) (e : Exit) (st : St) : Prop :=
  ∃ x, I x ∧ jmpOf e = some (j x) ∧ ∃ (σ : Id → Id) (fz : Nat → Bool) (vz : Id → Bool), heapLe st.heap σ fz vz (nout x) (hout x) ∧ (∀ id id' : Id, (lkH (hout x) id).isSome = true → (lkH (hout x) id').isSome = true → vz id = false → vz id' = false → σ id = σ id' → id = id') ∧ nin ≤ nout x ∧ ∀ id : Id, id.1 < nin → σ id = id ∧ vz id = false
theorem RetYJ_ofI {nin : Nat} {st : St} {e : Exit} (x : α) (σ : Id → Id) (fz : Nat → Bool) (vz : Id → Bool) (hI : I x) (hj : jmpOf e = some (j x)) (hh : heapLe st.heap σ fz vz (nout x) (houtR x)) (hinj : ∀ id id' : Id, (lkH (houtR x) id).isSome = true → (lkH (houtR x) id').isSome = true → vz id = false → vz id' = false → σ id = σ id' → id = id') (hno : nin ≤ nout x) (hid : ∀ id : Id, id.1 < nin → σ id = id ∧ vz id = false) : RetYJ nin I j houtR nout e st :=
  ⟨x, hI, hj, σ, fz, vz, hh, hinj, hno, hid⟩
theorem RetYJ_of {nin : Nat} {st : St} {e : Exit} (x : α) (σ : Nat → Nat) (fz vz : Nat → Bool) (hI : I x) (hj : jmpOf e = some (j x)) (hh : heapLe st.heap (sI σ) fz (vI vz) (nout x) (houtR x)) (hinj : keyInj σ vz ((houtR x).map (·.1)) = true) (hno : nin ≤ nout x) (hid : ∀ k, k < nin → σ k = k ∧ vz k = false) : RetYJ nin I j houtR nout e st :=
  RetYJ_ofI x (sI σ) fz (vI vz) hI hj hh (fun id id' h1 h2 v1 v2 he => by
    injection he with e1 e2
    exact Prod.ext (keyInj_spec hinj _ _ (lkH_keys h1) (lkH_keys h2) v1 v2 e1) e2) hno fun id hlt => ⟨by
      show (σ id.1, id.2) = id
      rw [(hid id.1 hlt).1], (hid id.1 hlt).2⟩
theorem kept_unput {w w' : World} {mt mt' : Nat → Prop} {l : Nat} {x : Obj} (hk : Kept (w.putObj l x) mt w') (h1 : ∀ b, mt b → mt' b) (h2 : mt' l) : Kept w mt' w' := by
  refine ⟨hk.os, hk.tape, hk.output, hk.drawn, by have := hk.size; rwa [World.putObj_size] at this, fun b hb hm => ?_⟩
  have hbl : b ≠ l := fun e => hm (e ▸ h2)
  have := hk.block b (by rw [World.putObj_size]; exact hb) fun h => hm (h1 b h)
  rw [this, World.putObj_heap_other hbl]
theorem HOk.push {w0 w : World} {mt mt' O : Nat → Prop} {nt nt' : Nat} {rd rd' : Option Nat} {h : Heap} {mu : Id → Option Base} {nx l : Nat} {x0 : Obj} {rec : Loop} {jj : Option Code} {B : Base}
    (hk : HOk ⟨w0.putObj l x0, mt, fun b => O b ∨ b = l, nt, rd⟩ h mu nx w) (hn : 0 ∉ h.map (·.1)) (hx : 0 < nx) (hB : mu (0, 0) = some B) (hBl : B.b = l) (hBo : B.o = 0) (hl : w.heap[l]? = some (.loop (recJ rec jj))) (hmt : ∀ b, mt b → mt' b) (hml : mt' l) (hO : ¬ O l) :
    HOk ⟨w0, mt', O, nt', rd'⟩ ((0, .one (.ob (lpP l rec jj))) :: h) mu nx w := by
  have hlk : ∀ id o, lkH ((0, .one (.ob (lpP l rec jj))) :: h) id = some o → (id = (0, 0) ∧ o = .ob (lpP l rec jj)) ∨ (id.1 ≠ 0 ∧ lkH h id = some o) := fun id o h1 => by
    rw [lkH_cons_one h 0 _ HEnt.Solo.one] at h1
    by_cases e : id = (0, 0)
    · rw [if_pos e] at h1; injection h1 with h1; exact .inl ⟨e, h1.symm⟩
    · rw [if_neg e] at h1
      by_cases e2 : id.1 = 0
      · rw [if_pos e2] at h1; cases h1
      · rw [if_neg e2] at h1; exact .inr ⟨e2, h1⟩
  have hne : ∀ id o B', lkH h id = some o → mu id = some B' → B'.b ≠ l := fun id o B' h1 h2 e => (hk.own id o B' h1 h2).2.2 (.inr e)
  have hLe : (cx ⟨w0.putObj l x0, mt, fun b => O b ∨ b = l, nt, rd⟩ h mu nx w).Le (cx ⟨w0, mt', O, nt', rd'⟩ ((0, .one (.ob (lpP l rec jj))) :: h) mu nx w) := by
    refine ⟨Nat.le_refl _, fun b hb hF hF' => hF ?_, fun _ _ _ _ => rfl, Nat.le_refl _, fun _ _ => rfl, fun _ h => h⟩
    rcases hF' with hO' | ⟨id, o, B', h1, h2, h3⟩
    · exact .inl (.inl hO')
    · rcases hlk id o h1 with ⟨rfl, _⟩ | ⟨_, h4⟩
      · rw [hB] at h2; injection h2 with h2; subst h2
        exact .inl (.inr (h3.symm.trans hBl))
      · exact .inr ⟨id, o, B', h4, h2, h3⟩
  refine ⟨fun id o h1 => ?_, fun id id' o o' B1 B2 h1 h2 hm1 hm2 hb => ?_, fun id o B1 h1 hm => ?_, kept_unput hk.kept hmt hml, fun b hb => ?_, fun id t B1 ht hm => ?_⟩
  · rcases hlk id o h1 with ⟨rfl, rfl⟩ | ⟨_, h4⟩
    · refine ⟨hx, ?_⟩
      rw [hB]
      exact ⟨.loop (recJ rec jj), by rw [hBl]; exact hl, ⟨trivial, hBo⟩, hBl, rfl⟩
    · exact ⟨(hk.obj id o h4).1, (hk.obj id o h4).2.mono hLe fun _ _ => rfl⟩
  · rcases hlk id o h1 with ⟨rfl, _⟩ | ⟨_, h4⟩ <;> rcases hlk id' o' h2 with ⟨rfl, _⟩ | ⟨_, h5⟩
    · rfl
    · rw [hB] at hm1; injection hm1 with hm1; subst hm1
      exact absurd (hb.symm.trans hBl) (hne _ _ _ h5 hm2)
    · rw [hB] at hm2; injection hm2 with hm2; subst hm2
      exact absurd (hb.trans hBl) (hne _ _ _ h4 hm1)
    · exact hk.sep id id' o o' B1 B2 h4 h5 hm1 hm2 hb
  · rcases hlk id o h1 with ⟨rfl, _⟩ | ⟨_, h4⟩
    · rw [hB] at hm; injection hm with hm; subst hm
      rw [hBl]
      exact ⟨lt_of_get hl, .inr hml, hO⟩
    · obtain ⟨k1, k2, k3⟩ := hk.own id o B1 h4 hm
      refine ⟨k1, ?_, fun h => k3 (.inl h)⟩
      rcases k2 with k2 | k2
      · left
        have : (w0.putObj l x0).heap.size ≤ B1.b := k2
        rwa [World.putObj_size] at this
      · exact .inr (hmt _ k2)
  · have : b < (w0.putObj l x0).heap.size := hk.out b (.inl hb)
    rwa [World.putObj_size] at this
  · simp only [tyH] at ht
    by_cases e : 0 = id.1
    · rw [if_pos e] at ht; cases ht
    · rw [if_neg e] at ht
      exact hk.typ id t B1 ht hm
theorem YC_introJ {l : Nat} {rec : Loop} {kp : List Nat} {vs : Array Value} {ps : Array Tmp} {A B : Option Code} {assign body : Code} {nt : Nat} (hok : RecOK rec kp vs ps A B nt) (hA : A = some assign) (hB : B = some body) {args caps : List AVal} {hinR : Heap} {nin : Nat} (hpl : ps.size = args.length) (hpn : ∀ p ∈ ps.toList, p < nt) (hcl : caps.length = kp.length)
    (h00 : 0 ∉ hinR.map (·.1)) (h01 : ∀ x, 0 ∉ (houtR x).map (·.1)) (hn0 : 0 < nin)
    (h : ∀ G : Gh, G.nt = nt → G.rd = some l → AwpS P G nin [assign] (fun e st1 => e = .normal ∧ ∀ G : Gh, G.nt = nt → G.rd = some l → AwpS P G nin [body] (RetYJ nin I j houtR nout) st1) ⟨bindE ps.toList args (kp.zip caps), hinR, nin⟩) :
    YC P l rec vs (args ++ caps) ((0, .one (.ob (lpP l rec none))) :: hinR) nin I (fun x => .bool (j x).isNone) (fun x => (0, .one (.ob (lpP l rec (j x)))) :: houtR x) nout := by
  intro O w mu all hk hargs vals hall hl
  subst hall
  obtain ⟨h1, h2, h3, h4, h5, h6, h7⟩ := hok
  subst hA hB
  injection h4 with h4
  injection h5 with h5
  subst h4 h5
  let hin : Heap := (0, .one (.ob (lpP l rec none))) :: hinR
  have hlk0 : lkH hin (0, 0) = some (.ob (lpP l rec none)) := by simp [hin, lkH, HEnt.get]
  obtain ⟨BL, hBm, hBl, _, hBo⟩ := lp_at hk hlk0
  obtain ⟨hkR, hLeR⟩ := hk.tail h00
  have hsub : ∀ id o, lkH hinR id = some o → lkH hin id = some o := fun id o hl' => by
    simp only [hin, lkH]
    rw [if_neg (fun e => h00 (by rw [e]; exact lkH_mem hl'))]
    exact hl'
  have hneR : ∀ id o B, lkH hinR id = some o → mu id = some B → B.b ≠ l := fun id o B g1 g2 e => by
    have := hk.sep id (0, 0) o _ B BL (hsub id o g1) hlk0 g2 hBm (e.trans hBl.symm)
    rw [this] at g1
    rw [lkH_not h00] at g1; cases g1
  have hnl : ¬ inB hinR mu l := by
    rintro ⟨id, o, B, g1, g2, g3⟩
    exact hneR id o B g1 g2 g3
  have hOl : ¬ O l := fun hO => (hk.own (0, 0) _ BL hlk0 hBm).2.2 (by rw [hBl]; exact hO)
  have hlen : args.length = vals.length := by
    have := hargs.length
    rw [h7] at this
    simp only [List.length_append, List.length_map] at this
    omega
  obtain ⟨ha1, ha2⟩ := hargs.split hlen
  rw [h7] at ha2
  simp only at ha2
  have hb := lk_bind ps.toList args vals (kp.zip caps) rec.tmps ha1 (by simpa using hpl) (fun p hp => Nat.lt_of_lt_of_le (hpn p hp) h6) (lk_caps kp caps ha2)
  let tm := (ps.toList.zip vals).foldl (fun tmps (t, a) => tmps.setIfInBounds t a) rec.tmps
  have hfold : (rec.params.zip vals.toArray).foldl (fun tmps (t, a) => tmps.setIfInBounds t a) rec.tmps = tm := by
    rw [h3, ← Array.foldl_toList]
    simp [tm]
  let O2 : Nat → Prop := fun b => O b ∨ b = l
  let Ga : Gh := ⟨w, inB hinR mu, O2, nt, some l⟩
  have hLe2 : (cx ⟨w, inB hin mu, O, 0, none⟩ hin mu nin w).Le (cx Ga hinR mu nin w) := by
    refine ⟨Nat.le_refl _, fun b hb hF hF' => hF ?_, fun _ _ _ _ => rfl, Nat.le_refl _, fun _ _ => rfl, fun _ h => h⟩
    rcases hF' with (hO | rfl) | ⟨id, o, B, g1, g2, g3⟩
    · exact .inl hO
    · exact .inr ⟨(0, 0), _, BL, hlk0, hBm, hBl⟩
    · exact .inr ⟨id, o, B, hsub id o g1, g2, g3⟩
  have hkA : HOk Ga hinR mu nin w := by
    refine ⟨fun id o g1 => ⟨(hk.obj id o (hsub _ _ g1)).1, (hk.obj id o (hsub _ _ g1)).2.mono hLe2 fun _ _ => rfl⟩, hkR.sep, fun id o B g1 g2 => ⟨(hkR.own id o B g1 g2).1, .inr ⟨id, o, B, g1, g2, rfl⟩, ?_⟩, Kept.refl _ _, fun b hb => ?_, hkR.typ⟩
    · rintro (hO | e)
      · exact (hkR.own id o B g1 g2).2.2 hO
      · exact hneR id o B g1 g2 e
    · rcases hb with hO | rfl
      · exact hk.out b hO
      · exact lt_of_get hl
  have hsim : Sim Ga mu ⟨bindE ps.toList args (kp.zip caps), hinR, nin⟩ { tmps := tm, defers := [] } w :=
    ⟨DefOK.nil, by show nt ≤ tm.size; rw [show tm.size = rec.tmps.size from hb.2]; exact h6, fun t => (hb.1 t).mono hLe2, hkA⟩
  show RoundIn (fen none) 0 P l rec.fn _ rec.assign rec.body w _
  rw [hfold]
  refine roundIn_of_wpIn trivial ?_
  refine h Ga rfl rfl mu _ w hsim (Nat.le_refl _) (Exit.then (fun a₁ w₁ => ∃ w₂, (Instr.beginRound l).run P w₁ = .ok () w₂ ∧ rec.body.wpIn ((fen none).inRound l) 0 P (roundPost P l fun e w' => ∃ v x mu', e = .returned v ∧ I x ∧ nin ≤ nout x ∧ (∀ id : Id, id.1 < nin → mu' id = mu id) ∧
      HOk ⟨w, inB hin mu, O, 0, none⟩ ((0, .one (.ob (lpP l rec (j x)))) :: houtR x) mu' (nout x) w' ∧ Rel (cx ⟨w, inB hin mu, O, 0, none⟩ ((0, .one (.ob (lpP l rec (j x)))) :: houtR x) mu' (nout x) w') (.bool (j x).isNone) v) a₁ w₂) (fun _ _ _ => False)) ?_
  intro e mu1 st1 a1 w1 hs1 hn1 hst1 hq
  have hq2 : e = .normal ∧ ∀ G : Gh, G.nt = nt → G.rd = some l → AwpS P G nin [rec.body] (RetYJ nin I j houtR nout) st1 := by
    cases e <;> exact hq
  obtain ⟨rfl, hbody⟩ := hq2
  obtain ⟨hl1, hs2⟩ := Sim.rebase (rd' := some l) (rc' := rec) hs1 hl hnl { rec with state := .busy }
  refine ⟨_, run_beginRound hl1 h1, ?_⟩
  refine hbody ⟨_, _, _, _, _⟩ rfl rfl mu1 a1 _ hs2 hn1 _ ?_
  intro e mu2 st2 a2 w3 hs3 hn3 hst3 hq
  have hq2 : RetYJ nin I j houtR nout e st2 := by cases e <;> exact hq
  obtain ⟨x, hI, hj, σ, fz, vz, hh, hinj, hno, hid⟩ := hq2
  have hlb : (w.putObj l (.loop { rec with state := .busy })).heap[l]? = some (.loop { rec with state := .busy }) := World.putObj_heap_same (lt_of_get hl)
  obtain ⟨hl3, hs4⟩ := Sim.rebase (rd' := none) (rc' := rec) hs3 hlb hnl (recJ rec (j x))
  have hend : (Instr.endRound l (j x)).run P w3 = .ok (.bool (j x).isNone) (w3.putObj l (.loop (recJ rec (j x)))) := by
    rw [run_endRound (j x) hl3]
    have : ({ state := if (j x).isNone then .ready else .done, pending := j x, fn := rec.fn, tmps := rec.tmps, params := rec.params, assign := rec.assign, body := rec.body, defers := rec.defers } : Loop) = recJ rec (j x) := by
      cases hjx : j x with
      | none => cases rec; simp only at h1 h2; subst h1 h2; rfl
      | some c => rfl
    exact congrArg (fun y => Result.ok (Value.bool (j x).isNone) (w3.putObj l (.loop y))) this
  have hput2 : (w.putObj l (.loop { rec with state := .busy })).putObj l (.loop (recJ rec (j x))) = w.putObj l (.loop (recJ rec (j x))) := by
    unfold World.putObj
    congr 1
    exact Array.setIfInBounds_setIfInBounds ..
  rw [hput2] at hs4
  have hwk := wk_ofI (G := ⟨w.putObj l (.loop (recJ rec (j x))), inB hinR mu, O2, nt, none⟩) (n0 := nin) (st := ⟨[], st2.heap, st2.nx⟩) (st2 := ⟨[], houtR x, nout x⟩) σ fz vz trivial hh hinj hno hid
  obtain ⟨mu3, k1, k2, k3⟩ := hwk mu2 a2 _ ⟨hs4.defers, hs4.size, fun t => trivial, hs4.heap⟩ hn3
  have hmu3 : ∀ id : Id, id.1 < nin → mu3 id = mu id := fun id hid' => (k3.le.mu id hid').trans ((hst3.le.mu id hid').trans (hst1.le.mu id hid'))
  have hl4 : (w3.putObj l (.loop (recJ rec (j x)))).heap[l]? = some (.loop (recJ rec (j x))) := World.putObj_heap_same (lt_of_get hl3)
  have hfin := HOk.push (rec := rec) (jj := j x) (B := BL) (mt' := inB hin mu) (nt' := 0) (rd' := none) k1.heap (h01 x) (Nat.lt_of_lt_of_le hn0 hno) ((hmu3 (0, 0) hn0).trans hBm) hBl hBo hl4 (fun b hb => by
    obtain ⟨id, o, B, g1, g2, g3⟩ := hb
    exact ⟨id, o, B, hsub id o g1, g2, g3⟩) ⟨(0, 0), _, BL, hlk0, hBm, hBl⟩ hOl
  have hres : ∃ v w', (Instr.endRound l (j x)).run P w3 = .ok v w' ∧ ∃ v' x' mu', Ending.returned v = .returned v' ∧ I x' ∧ nin ≤ nout x' ∧ (∀ id : Id, id.1 < nin → mu' id = mu id) ∧
      HOk ⟨w, inB hin mu, O, 0, none⟩ ((0, .one (.ob (lpP l rec (j x')))) :: houtR x') mu' (nout x') w' ∧ Rel (cx ⟨w, inB hin mu, O, 0, none⟩ ((0, .one (.ob (lpP l rec (j x')))) :: houtR x') mu' (nout x') w') (.bool (j x').isNone) v' :=
    ⟨_, _, hend, _, x, mu3, rfl, hI, hno, hmu3, hfin, rfl⟩
  cases e with
  | normal => injection hj with hj; rw [← hj] at hres; exact hres
  | ret => injection hj with hj; rw [← hj] at hres; exact hres
  | exit i => injection hj with hj; rw [← hj] at hres; exact hres
  | goto t => cases hj
  | panic c => cases hj
  | outgrown => cases hj
theorem HOk.allocOb {h : Heap} {mu : Id → Option Base} {nx : Nat} {w : World} (hk : HOk G h mu nx w) (p : Nat → Obj → Prop) (x : Obj) (hx : bare x) (hp : p w.heap.size x) :
    HOk G ((nx, .one (.ob p)) :: h) (upd mu (nx, 0) (some ⟨w.heap.size, 0, 0, 0⟩)) (nx + 1) (w.alloc x) := by
  have hLe := cx_alloc (G := G) (h := h) (mu := mu) (nx := nx) (w := w) (e := .one (.ob p)) (.ob p) HEnt.Solo.one x ⟨w.heap.size, 0, 0, 0⟩ rfl
  refine hk.step hLe (nx, 0) (.ob p) (Nat.lt_succ_self _) (fun _ => ?_) (fun B hB => ?_) (fun id o ho => ?_) (hk.kept.alloc _) (tyH_one fun _ _ h => h)
  · rw [upd_same]
    exact ⟨x, heap_new w _, ⟨hx, rfl⟩, hp⟩
  · rw [upd_same] at hB
    injection hB with hB
    subst hB
    refine ⟨by simp, .inl hk.kept.size, fun hO => ?_⟩
    have h1 := hk.out _ hO
    have h2 := hk.kept.size
    simp only at h1
    omega
  · rw [lkH_cons_one _ _ _ HEnt.Solo.one] at ho
    by_cases h1 : id = (nx, 0)
    · rw [if_pos h1] at ho
      injection ho with ho
      exact .inl ⟨h1, ho.symm⟩
    · rw [if_neg h1] at ho
      by_cases h2 : id.1 = nx
      · rw [if_pos h2] at ho; cases ho
      · rw [if_neg h2] at ho
        refine .inr ⟨h1, ho, fun B hB => ?_⟩
        have hlt := (hk.own id o B ho hB).1
        refine ⟨Below.heap_alloc w _ _ hlt, fun B0 hB0 => ?_⟩
        rw [upd_same] at hB0
        injection hB0 with hB0
        subst hB0
        exact Nat.ne_of_lt hlt
theorem renH_keys {ρ : Nat → Nat} : ∀ {h : Heap} {k : Nat}, k ∈ (renH ρ h).map (·.1) → ∃ k', k' ∈ h.map (·.1) ∧ k = ρ k'
  | [], _, hk => by simp [renH] at hk
  | (k', e) :: h, k, hk => by
    simp only [renH, List.map_cons, List.mem_cons] at hk
    rcases hk with rfl | hk
    · exact ⟨k', by simp, rfl⟩
    · obtain ⟨k2, h1, h2⟩ := renH_keys hk
      exact ⟨k2, by simp only [List.map_cons, List.mem_cons]; exact .inr h1, h2⟩
theorem awpS_rangeJ (hR : G.rd = none) {g : Operand} {pr : Array Tmp} {assign body : Code} {cs : List Code} {Q : Exit → St → Prop} {st : St} (kp ps : List Nat) (fz : Nat → Bool) {f n : Nat} {fc : Nat → AVal} (hf : Callable P f) (hx : sv st.env g = .fn f n fc) (hsc : sc st.env g)
    {as : Nat → Array Value → List AVal} {hinR : Heap} (hc : ∀ l rec vs, RecOK rec kp vs pr (some assign) (some body) G.nt → FCY P f l rec (as l vs) ((0, .one (.ob (lpP l rec none))) :: hinR) (ps.length + 1) I r (fun x => (0, .one (.ob (lpP l rec (j x)))) :: houtR x) nout) (hps : ps.Nodup ∧ ∀ k ∈ ps, k < st.nx)
    (h01 : ∀ x, 0 ∉ (houtR x).map (·.1))
    (hflat : (∀ k, fz k = false) ∨ ∀ x, I x → flat (r x) ∧ flatH (houtR x))
    (hle : ∀ l rec vs, argsLeS ((st.nx, .one (.ob (lpP l rec none))) :: st.heap) (sI (inId (st.nx :: ps))) fz (ps.length + 1) (as l vs) (.yld l vs kp.length (fun j => (kp.map (lk st.env)).getD j .any) :: (List.range' 0 n).map fc))
    (hheap : ∀ l rec, heapLe ((st.nx, .one (.ob (lpP l rec none))) :: st.heap) (sI (inId (st.nx :: ps))) fz (fun _ => false) (ps.length + 1) ((0, .one (.ob (lpP l rec none))) :: hinR))
    (h : ∀ K : Option Code → St → Prop, (∀ s, AwpS P G n0 cs Q s → K none s) → (∀ s, Q .ret s → K (some .ret) s) → (∀ i s, Q (.exit i) s → K (some (.exit i)) s) → ∀ x, I x → ps.length + 1 ≤ nout x →
      K (j x) ⟨st.env, renH (outId (st.nx :: ps) (st.nx + 1)) (houtR x) ++ st.heap.filter (fun e => !(st.nx :: ps).contains e.1), st.nx + 1 + (nout x - (ps.length + 1))⟩) :
    AwpS P G n0 (.rangeFunc g pr assign body :: cs) Q st := by
  intro mu a w hs hn Q' hQ
  have hxr := strip_rel (hs.rho g) hsc
  have hxr' : Rel (cx G st.heap mu st.nx w) (sv st.env g) (a.eval g) := hxr
  rw [hx] at hxr'
  obtain ⟨caps, hxv, hcn, hcr⟩ := hxr'
  rw [hR]
  refine wpIn_rangeFunc fun fn _ => ?_
  let rec' : Loop := { state := .ready, pending := none, fn, tmps := a.tmps, params := pr, assign, body, defers := w.heap.size }
  let vs : Array Value := (kp.map fun t => a.tmps.getD t undef).toArray
  let w0 := w.alloc (.deferred (some []))
  let l := w.heap.size + 1
  let w1 := w0.alloc (.loop rec')
  have hsz0 : w0.heap.size = l := by simp [w0, l]
  obtain ⟨hLe0, hk0⟩ := hs.heap.grow (kept_alloc (.deferred (some [])))
  let h2 : Heap := (st.nx, .one (.ob (lpP l rec' none))) :: st.heap
  let mu2 : Id → Option Base := upd mu (st.nx, 0) (some ⟨l, 0, 0, 0⟩)
  have hk1 : HOk G h2 mu2 (st.nx + 1) w1 := by
    have := hk0.allocOb (lpP l rec' none) (.loop rec') trivial ⟨hsz0, rfl⟩
    rwa [show (⟨w0.heap.size, 0, 0, 0⟩ : Base) = ⟨l, 0, 0, 0⟩ from by rw [hsz0]] at this
  have hLeA := cx_alloc (G := G) (h := st.heap) (mu := mu) (nx := st.nx) (w := w0) (e := .one (.ob (lpP l rec' none))) (.ob (lpP l rec' none)) HEnt.Solo.one (.loop rec') ⟨l, 0, 0, 0⟩ hsz0.symm
  have hLe1 : (cx G st.heap mu st.nx w).Le (cx G h2 mu2 (st.nx + 1) w1) := hLe0.trans hLeA
  have hl1 : w1.heap[l]? = some (.loop rec') := by
    have := heap_new w0 (.loop rec')
    rw [hsz0] at this
    exact this
  have hD1 : w1.heap[w.heap.size]? = some (Obj.deferred (some [])) := alloc_dfr (heap_new w _)
  obtain ⟨fd, hf1, hf2, hf3⟩ := hf
  have hf4 : ¬ fd.body = none := by intro h; rw [h] at hf3; cases hf3
  refine ⟨l, [{ target := .collected w.heap.size, args := #[] }], w1, { target := .fn (.func f) caps, args := #[.func (.yield l) #[] #[]] }, w1, f, #[.func (.yield l) #[] #[]] ++ caps, w1, run_enterLoop_outer _ _ _ _ _, ?_, fun _ _ => trivial, ?_, fun hd => absurd hd (by simp [fen, Fence.wide]), calls_fen ?_⟩
  · have hcst : ∀ v, a.eval (.const v) = v := fun _ => rfl
    simp [resolve, rangeCall, hxv, hcst, Deferred.ofValue]
  · simp [invoke, callFunc, hf1, hf2, hf4]
  · have hvals : ArgsRel (cx G h2 mu2 (st.nx + 1) w1) (.yld l vs kp.length (fun j => (kp.map (lk st.env)).getD j .any) :: (List.range' 0 n).map fc) (.func (.yield l) #[] #[] :: caps.toList) := by
      refine ⟨⟨rfl, by simp [vs], fun j hj => ?_⟩, ArgsRel.of_get fc n 0 caps.toList (by simpa using hcn) fun j hj => ?_⟩
      · have h1 : (kp.map (lk st.env)).getD j .any = lk st.env (kp.getD j 0) := by simp [List.getD, hj]
        have h2 : vs.getD j undef = a.tmps.getD (kp.getD j 0) undef := by simp [vs, Array.getD_eq_getD_getElem?, List.getD, hj]
        show Rel _ ((kp.map (lk st.env)).getD j .any) _
        rw [h1, h2]
        exact (hs.env _).mono hLe1
      · have := (hcr j hj).mono hLe1
        simpa [Array.getD_eq_getD_getElem?, List.getD_eq_getElem?_getD] using this
    have hin1 : ¬ inB h2 mu2 w.heap.size := by
      rintro ⟨id, o, B, h1, h3, h4⟩
      exact hk1.ndfr h1 h3 hD1 h4.symm
    have hnd2 : (st.nx :: ps).Nodup := List.nodup_cons.2 ⟨fun hm => Nat.lt_irrefl _ (hps.2 _ hm), hps.1⟩
    have hlt2 : ∀ k ∈ st.nx :: ps, k < st.nx + 1 := fun k hk => by
      rcases List.mem_cons.1 hk with rfl | hk
      · exact Nat.lt_succ_self _
      · exact Nat.lt_succ_of_lt (hps.2 k hk)
    have hfilter : h2.filter (fun e => !(st.nx :: ps).contains e.1) = st.heap.filter (fun e => !(st.nx :: ps).contains e.1) := by
      simp [h2]
    have key := fc_core (C := iterC P f l rec') iterC_mono (st.nx :: ps) hnd2 hlt2 (hc l rec' vs ⟨rfl, rfl, rfl, rfl, rfl, hs.size, rfl⟩) fz (hflat.imp id fun hfl x hI => ⟨(hfl x hI).1, trivial, (hfl x hI).2⟩) (hle l rec' vs) (hheap l rec') hk1 hvals (K := fun v w3 => rangePost (fen none) 0 P l Q' { a with defers := [{ target := .collected w.heap.size, args := #[] }] ++ a.defers } (.returned v) w3) fun z hI hno v mu3 w3 hok4 hLe hrelv _ hfr => by
      have hno' : ps.length + 1 ≤ nout z := hno
      have hren : renH (outId (st.nx :: ps) (st.nx + 1)) ((0, .one (.ob (lpP l rec' (j z)))) :: houtR z) ++ h2.filter (fun e => !(st.nx :: ps).contains e.1) = (st.nx, .one (.ob (lpP l rec' (j z)))) :: (renH (outId (st.nx :: ps) (st.nx + 1)) (houtR z) ++ st.heap.filter (fun e => !(st.nx :: ps).contains e.1)) := by
        rw [hfilter]; rfl
      rw [hren] at hok4 hLe
      have hk0n : st.nx ∉ (renH (outId (st.nx :: ps) (st.nx + 1)) (houtR z) ++ st.heap.filter (fun e => !(st.nx :: ps).contains e.1)).map (·.1) := by
        rw [List.map_append, List.mem_append]
        rintro (hm | hm)
        · obtain ⟨k', hk', he⟩ := renH_keys hm
          unfold outId at he
          by_cases hlt : k' < (st.nx :: ps).length
          · rw [if_pos hlt] at he
            have : (0 : Nat) = k' := getD_inj hnd2 (by simp) hlt he
            exact h01 z (this ▸ hk')
          · rw [if_neg hlt] at he
            omega
        · simp at hm
      obtain ⟨B3, hB3, hBl3, hl3, _⟩ := lp_at hok4 (id := (st.nx, 0)) (l := l) (rec := rec') (jj := j z) (by simp [lkH, HEnt.get])
      obtain ⟨hok5, hLeT⟩ := hok4.tail hk0n
      have hne3 : ∀ id o B, lkH (renH (outId (st.nx :: ps) (st.nx + 1)) (houtR z) ++ st.heap.filter (fun e => !(st.nx :: ps).contains e.1)) id = some o → mu3 id = some B → B.b ≠ l := fun id o B h1 h2 e => by
        have h1' : lkH ((st.nx, .one (.ob (lpP l rec' (j z)))) :: (renH (outId (st.nx :: ps) (st.nx + 1)) (houtR z) ++ st.heap.filter (fun e => !(st.nx :: ps).contains e.1))) id = some o := by
          simp only [lkH]
          rw [if_neg (fun e => hk0n (by have hm := lkH_mem h1; rw [← e] at hm; exact hm))]
          exact h1
        have := hok4.sep id (st.nx, 0) o _ B B3 h1' (by simp [lkH, HEnt.get]; rfl) h2 hB3 (e.trans hBl3.symm)
        rw [this] at h1
        rw [lkH_not hk0n] at h1
        cases h1
      have hbusy : (recJ rec' (j z)).state ≠ .busy := by
        cases j z <;> intro e <;> cases e
      have hpend : (recJ rec' (j z)).pending = j z := by
        cases j z <;> rfl
      have hrun : (Instr.endLoop l).run P w3 = .ok (j z) (w3.putObj l (.loop { recJ rec' (j z) with state := .exhausted })) := (run_endLoop (P := P) hl3 hbusy).trans (congrArg (fun q => Result.ok q (w3.putObj l (.loop { recJ rec' (j z) with state := .exhausted }))) hpend)
      refine ⟨j z, w3.putObj l (.loop { recJ rec' (j z) with state := .exhausted }), hrun, ?_⟩
      have hLe3 := Le_put (G := G) (h := renH (outId (st.nx :: ps) (st.nx + 1)) (houtR z) ++ st.heap.filter (fun e => !(st.nx :: ps).contains e.1)) (mu := mu3) (nx := st.nx + 1 + (nout z - (ps.length + 1))) (o := .loop { recJ rec' (j z) with state := .exhausted }) hl3 trivial trivial (fun ds e => by cases e)
      have hLe02 := ((hLe1.trans hLe).trans hLeT).trans hLe3
      have hw0 : G.w0.heap.size ≤ w.heap.size := hs.heap.kept.size
      have hsim : Sim G mu3 ⟨st.env, renH (outId (st.nx :: ps) (st.nx + 1)) (houtR z) ++ st.heap.filter (fun e => !(st.nx :: ps).contains e.1), st.nx + 1 + (nout z - (ps.length + 1))⟩ { a with defers := [{ target := .collected w.heap.size, args := #[] }] ++ a.defers } (w3.putObj l (.loop { recJ rec' (j z) with state := .exhausted })) := by
        refine ⟨?_, hs.size, fun t => ((hs.env t).mono hLe02), (hok5.put (o := .loop { recJ rec' (j z) with state := .exhausted }) hl3 trivial trivial hne3 (.inl (Nat.le_trans hw0 (Nat.le_succ _)))).1⟩
        obtain ⟨Ds, d1, d2, d3⟩ := hs.defers
        refine ⟨w.heap.size :: Ds, by simp [d1], List.nodup_cons.2 ⟨fun hm => ?_, d2⟩, fun D hD => ?_⟩
        · exact absurd (lt_of_get (d3 _ hm).2) (Nat.lt_irrefl _)
        · rcases List.mem_cons.1 hD with rfl | hD
          · refine ⟨hw0, ?_⟩
            rw [World.putObj_heap_other (Nat.ne_of_lt (Nat.lt_succ_self _))]
            exact (hfr.1 _ (lt_of_get hD1) hin1).trans hD1
          · exact ⟨(d3 D hD).1, hLe02.dfr D (d3 D hD).2⟩
      have hn2 : n0 ≤ st.nx + 1 + (nout z - (ps.length + 1)) := by omega
      exact h (fun jj s => ∀ a' w', Sim G mu3 s a' w' → n0 ≤ s.nx → Stay G n0 st.heap mu w s.heap mu3 w' → (match jj with
          | none => Q' .normal a' w'
          | some c => c.wpIn (fen none) 0 P Q' a' w'))
        (fun s hs1 a' w' hsim' hn' hst => hQ .normal mu3 s a' w' hsim' hn' hst hs1)
        (fun s hs1 a' w' hsim' hn' hst => wpIn_ret (hQ .ret mu3 s a' w' hsim' hn' hst hs1))
        (fun i s hs1 a' w' hsim' hn' hst => wpIn_exit (hQ (.exit i) mu3 s a' w' hsim' hn' hst hs1))
        z hI hno _ _ hsim hn2 (Stay.of hn hLe02)
    have key2 := key hl1
    have ha : (#[Value.func (.yield l) #[] #[]] ++ caps) = (.func (.yield l) #[] #[] :: caps.toList).toArray := by simp
    rw [ha]
    refine key2.mono ?_
    rintro e w3 ⟨v, rfl, hv⟩
    exact hv
end
end Go.Lift
