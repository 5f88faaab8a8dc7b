/- Parts of the proof: LZ. -/
import Derived.ProofKit
import Derived.Test.YtchjjiedcpfniaaGreatDoorK08
namespace Go.Lift
set_option linter.unusedSimpArgs false
set_option linter.unusedVariables false
@[simp] theorem evBin_ints {o : BinOp} {v : AVal} {l : List Int} : evBin o (ints l) v = none := rfl
@[simp] theorem evEq_ints {T : Tab} {t : TypeId} {l : List Int} : evEq T .eql t (ints l) .nils = if sliceT T t then some (.ub (l.length = 0)) else none := rfl
@[simp] theorem VLe_ints_nils {h : Heap} {σ : Lift.Id → Lift.Id} {fz : Nat → Bool} {vz : Lift.Id → Bool} {x : Nat} {l : List Int} : VLe h σ fz vz x (ints l) .nils = (l.length = 0) := rfl
@[simp] theorem VLe_ints_sl {h : Heap} {σ : Lift.Id → Lift.Id} {fz : Nat → Bool} {vz : Lift.Id → Bool} {y lo x' : Nat} {id : Lift.Id} {l : List Int} : VLe h σ fz vz y (ints l) (.sl id lo x') = (x' = l.length ∧ fz id.1 = true ∧ match lkH h id with
    | some (.arr N s' g') => s' = 1 ∧ lo + l.length ≤ N ∧ ∀ i, i < l.length → ∀ j, j < 1 → ((fun (x : Int) _ => AVal.int .i64 x) (l.getD i 0) j).one = true ∧ VLe h σ fz vz y ((fun (x : Int) _ => AVal.int .i64 x) (l.getD i 0) j) (g' (lo + i) j)
    | _ => False) := VLe_vsl_sl
@[simp] theorem VLe_ints_vsl {h : Heap} {σ : Lift.Id → Lift.Id} {fz : Nat → Bool} {vz : Lift.Id → Bool} {x' s' y : Nat} {g' : Nat → Nat → AVal} {l : List Int} : VLe h σ fz vz y (ints l) (.vsl x' s' g') = (x' = l.length ∧ s' = 1 ∧ ∀ i, i < l.length → ∀ j, j < 1 → ((fun (x : Int) _ => AVal.int .i64 x) (l.getD i 0) j).one = true ∧ VLe h σ fz vz y ((fun (x : Int) _ => AVal.int .i64 x) (l.getD i 0) j) (g' i j)) := rfl
def strs (l : List (List UInt8)) : AVal := vec 1 (fun (x : List UInt8) _ => AVal.str x) [] l
@[simp] theorem evLen_strs {h : Heap} {l : List (List UInt8)} : evLen h (strs l) = some (.int .i64 l.length) := rfl
@[simp] theorem strip_strs {l : List (List UInt8)} : strip (strs l) = (strs l, True) := rfl
@[simp] theorem mkOpt_strs {g : Bool} {l : List (List UInt8)} : mkOpt g (strs l) = .opt g (strs l) := rfl
@[simp] theorem one_strs {l : List (List UInt8)} : (strs l).one = true := rfl
@[simp] theorem acell_strs {l : List (List UInt8)} {j : Nat} : acell (strs l) j = strs l := rfl
@[simp] theorem Clo_strs {l : List (List UInt8)} : Clo (strs l) := Clo_vec fun x _ j hj => ⟨rfl, trivial⟩
@[simp] theorem lenT_strs {T : Tab} {t : TypeId} {l : List (List UInt8)} : lenT T t (strs l) = sliceT T t := lenT_vec
@[simp] theorem evIndexAddr_strs {T : Tab} {h : Heap} {t : TypeId} {k : IntKind} {m : Int} {l : List (List UInt8)} : evIndexAddr T h t (strs l) (.int k m) = match elemT T t with
    | some ei => if 1 = ei.size then some (.vptr 1 (fun j => (fun (x : List UInt8) _ => AVal.str x) (l.getD m.toNat []) j) 0, 0 ≤ m ∧ m < (l.length : Int)) else none
    | none => none := evIndexAddr_vec
@[simp] theorem evSrc_strs {h : Heap} {l : List (List UInt8)} : evSrc h 1 (strs l) = some (l.length, (fun i j => (fun (x : List UInt8) _ => AVal.str x) (l.getD i []) j), True) := by
  unfold strs
  rw [evSrc_vec rfl]
  rfl
@[simp] theorem evBin_strs {o : BinOp} {v : AVal} {l : List (List UInt8)} : evBin o (strs l) v = none := rfl
@[simp] theorem evEq_strs {T : Tab} {t : TypeId} {l : List (List UInt8)} : evEq T .eql t (strs l) .nils = if sliceT T t then some (.ub (l.length = 0)) else none := rfl
@[simp] theorem VLe_strs_nils {h : Heap} {σ : Lift.Id → Lift.Id} {fz : Nat → Bool} {vz : Lift.Id → Bool} {x : Nat} {l : List (List UInt8)} : VLe h σ fz vz x (strs l) .nils = (l.length = 0) := rfl
@[simp] theorem VLe_strs_sl {h : Heap} {σ : Lift.Id → Lift.Id} {fz : Nat → Bool} {vz : Lift.Id → Bool} {y lo x' : Nat} {id : Lift.Id} {l : List (List UInt8)} : VLe h σ fz vz y (strs l) (.sl id lo x') = (x' = l.length ∧ fz id.1 = true ∧ match lkH h id with
    | some (.arr N s' g') => s' = 1 ∧ lo + l.length ≤ N ∧ ∀ i, i < l.length → ∀ j, j < 1 → ((fun (x : List UInt8) _ => AVal.str x) (l.getD i []) j).one = true ∧ VLe h σ fz vz y ((fun (x : List UInt8) _ => AVal.str x) (l.getD i []) j) (g' (lo + i) j)
    | _ => False) := VLe_vsl_sl
@[simp] theorem VLe_strs_vsl {h : Heap} {σ : Lift.Id → Lift.Id} {fz : Nat → Bool} {vz : Lift.Id → Bool} {x' s' y : Nat} {g' : Nat → Nat → AVal} {l : List (List UInt8)} : VLe h σ fz vz y (strs l) (.vsl x' s' g') = (x' = l.length ∧ s' = 1 ∧ ∀ i, i < l.length → ∀ j, j < 1 → ((fun (x : List UInt8) _ => AVal.str x) (l.getD i []) j).one = true ∧ VLe h σ fz vz y ((fun (x : List UInt8) _ => AVal.str x) (l.getD i []) j) (g' i j)) := rfl
@[simp] theorem ren_strs {ρ : Nat → Nat} {l : List (List UInt8)} : ren ρ (strs l) = strs l := ren_vec fun _ _ => rfl
def bytes (l : List UInt8) : AVal := vec 1 (fun (x : UInt8) _ => AVal.int .u8 x.toNat) 0 l
@[simp] theorem evLen_bytes {h : Heap} {l : List UInt8} : evLen h (bytes l) = some (.int .i64 l.length) := rfl
@[simp] theorem strip_bytes {l : List UInt8} : strip (bytes l) = (bytes l, True) := rfl
@[simp] theorem mkOpt_bytes {g : Bool} {l : List UInt8} : mkOpt g (bytes l) = .opt g (bytes l) := rfl
@[simp] theorem one_bytes {l : List UInt8} : (bytes l).one = true := rfl
@[simp] theorem acell_bytes {l : List UInt8} {j : Nat} : acell (bytes l) j = bytes l := rfl
@[simp] theorem Clo_bytes {l : List UInt8} : Clo (bytes l) := Clo_vec fun x _ j hj => ⟨rfl, trivial⟩
@[simp] theorem lenT_bytes {T : Tab} {t : TypeId} {l : List UInt8} : lenT T t (bytes l) = sliceT T t := lenT_vec
@[simp] theorem evIndexAddr_bytes {T : Tab} {h : Heap} {t : TypeId} {k : IntKind} {m : Int} {l : List UInt8} : evIndexAddr T h t (bytes l) (.int k m) = match elemT T t with
    | some ei => if 1 = ei.size then some (.vptr 1 (fun j => (fun (x : UInt8) _ => AVal.int .u8 x.toNat) (l.getD m.toNat 0) j) 0, 0 ≤ m ∧ m < (l.length : Int)) else none
    | none => none := evIndexAddr_vec
@[simp] theorem evSrc_bytes {h : Heap} {l : List UInt8} : evSrc h 1 (bytes l) = some (l.length, (fun i j => (fun (x : UInt8) _ => AVal.int .u8 x.toNat) (l.getD i 0) j), True) := by
  unfold bytes
  rw [evSrc_vec rfl]
  rfl
@[simp] theorem evBin_bytes {o : BinOp} {v : AVal} {l : List UInt8} : evBin o (bytes l) v = none := rfl
@[simp] theorem evEq_bytes {T : Tab} {t : TypeId} {l : List UInt8} : evEq T .eql t (bytes l) .nils = if sliceT T t then some (.ub (l.length = 0)) else none := rfl
@[simp] theorem VLe_bytes_nils {h : Heap} {σ : Lift.Id → Lift.Id} {fz : Nat → Bool} {vz : Lift.Id → Bool} {x : Nat} {l : List UInt8} : VLe h σ fz vz x (bytes l) .nils = (l.length = 0) := rfl
@[simp] theorem VLe_bytes_sl {h : Heap} {σ : Lift.Id → Lift.Id} {fz : Nat → Bool} {vz : Lift.Id → Bool} {y lo x' : Nat} {id : Lift.Id} {l : List UInt8} : VLe h σ fz vz y (bytes l) (.sl id lo x') = (x' = l.length ∧ fz id.1 = true ∧ match lkH h id with
    | some (.arr N s' g') => s' = 1 ∧ lo + l.length ≤ N ∧ ∀ i, i < l.length → ∀ j, j < 1 → ((fun (x : UInt8) _ => AVal.int .u8 x.toNat) (l.getD i 0) j).one = true ∧ VLe h σ fz vz y ((fun (x : UInt8) _ => AVal.int .u8 x.toNat) (l.getD i 0) j) (g' (lo + i) j)
    | _ => False) := VLe_vsl_sl
@[simp] theorem VLe_bytes_vsl {h : Heap} {σ : Lift.Id → Lift.Id} {fz : Nat → Bool} {vz : Lift.Id → Bool} {x' s' y : Nat} {g' : Nat → Nat → AVal} {l : List UInt8} : VLe h σ fz vz y (bytes l) (.vsl x' s' g') = (x' = l.length ∧ s' = 1 ∧ ∀ i, i < l.length → ∀ j, j < 1 → ((fun (x : UInt8) _ => AVal.int .u8 x.toNat) (l.getD i 0) j).one = true ∧ VLe h σ fz vz y ((fun (x : UInt8) _ => AVal.int .u8 x.toNat) (l.getD i 0) j) (g' i j)) := rfl
@[simp] theorem ren_bytes {ρ : Nat → Nat} {l : List UInt8} : ren ρ (bytes l) = bytes l := ren_vec fun _ _ => rfl
def rowsI (l : List (List Int)) : AVal := vec 1 (fun (x : List Int) _ => ints x) [] l
@[simp] theorem evLen_rowsI {h : Heap} {l : List (List Int)} : evLen h (rowsI l) = some (.int .i64 l.length) := rfl
@[simp] theorem strip_rowsI {l : List (List Int)} : strip (rowsI l) = (rowsI l, True) := rfl
@[simp] theorem mkOpt_rowsI {g : Bool} {l : List (List Int)} : mkOpt g (rowsI l) = .opt g (rowsI l) := rfl
@[simp] theorem one_rowsI {l : List (List Int)} : (rowsI l).one = true := rfl
@[simp] theorem acell_rowsI {l : List (List Int)} {j : Nat} : acell (rowsI l) j = rowsI l := rfl
@[simp] theorem Clo_rowsI {l : List (List Int)} : Clo (rowsI l) := Clo_vec fun x _ j hj => ⟨rfl, Clo_ints⟩
@[simp] theorem lenT_rowsI {T : Tab} {t : TypeId} {l : List (List Int)} : lenT T t (rowsI l) = sliceT T t := lenT_vec
@[simp] theorem evIndexAddr_rowsI {T : Tab} {h : Heap} {t : TypeId} {k : IntKind} {m : Int} {l : List (List Int)} : evIndexAddr T h t (rowsI l) (.int k m) = match elemT T t with
    | some ei => if 1 = ei.size then some (.vptr 1 (fun j => (fun (x : List Int) _ => ints x) (l.getD m.toNat []) j) 0, 0 ≤ m ∧ m < (l.length : Int)) else none
    | none => none := evIndexAddr_vec
@[simp] theorem evSrc_rowsI {h : Heap} {l : List (List Int)} : evSrc h 1 (rowsI l) = some (l.length, (fun i j => (fun (x : List Int) _ => ints x) (l.getD i []) j), True) := by
  unfold rowsI
  rw [evSrc_vec rfl]
  rfl
@[simp] theorem evBin_rowsI {o : BinOp} {v : AVal} {l : List (List Int)} : evBin o (rowsI l) v = none := rfl
@[simp] theorem evEq_rowsI {T : Tab} {t : TypeId} {l : List (List Int)} : evEq T .eql t (rowsI l) .nils = if sliceT T t then some (.ub (l.length = 0)) else none := rfl
@[simp] theorem VLe_rowsI_nils {h : Heap} {σ : Lift.Id → Lift.Id} {fz : Nat → Bool} {vz : Lift.Id → Bool} {x : Nat} {l : List (List Int)} : VLe h σ fz vz x (rowsI l) .nils = (l.length = 0) := rfl
@[simp] theorem VLe_rowsI_sl {h : Heap} {σ : Lift.Id → Lift.Id} {fz : Nat → Bool} {vz : Lift.Id → Bool} {y lo x' : Nat} {id : Lift.Id} {l : List (List Int)} : VLe h σ fz vz y (rowsI l) (.sl id lo x') = (x' = l.length ∧ fz id.1 = true ∧ match lkH h id with
    | some (.arr N s' g') => s' = 1 ∧ lo + l.length ≤ N ∧ ∀ i, i < l.length → ∀ j, j < 1 → ((fun (x : List Int) _ => ints x) (l.getD i []) j).one = true ∧ VLe h σ fz vz y ((fun (x : List Int) _ => ints x) (l.getD i []) j) (g' (lo + i) j)
    | _ => False) := VLe_vsl_sl
@[simp] theorem VLe_rowsI_vsl {h : Heap} {σ : Lift.Id → Lift.Id} {fz : Nat → Bool} {vz : Lift.Id → Bool} {x' s' y : Nat} {g' : Nat → Nat → AVal} {l : List (List Int)} : VLe h σ fz vz y (rowsI l) (.vsl x' s' g') = (x' = l.length ∧ s' = 1 ∧ ∀ i, i < l.length → ∀ j, j < 1 → ((fun (x : List Int) _ => ints x) (l.getD i []) j).one = true ∧ VLe h σ fz vz y ((fun (x : List Int) _ => ints x) (l.getD i []) j) (g' i j)) := rfl
@[simp] theorem ren_rowsI {ρ : Nat → Nat} {l : List (List Int)} : ren ρ (rowsI l) = rowsI l := ren_vec fun _ _ => ren_ints
end Go.Lift
namespace Go.Lift
set_option linter.unusedSimpArgs false
set_option linter.unusedVariables false
def mpE {α β : Type} (ek : α → AVal) (ev : β → AVal) (l : List (α × β)) : List (AVal × AVal) := l.map fun p => (ek p.1, ev p.2)
section
variable {α β : Type} [DecidableEq α]
def alFind : List (α × β) → Nat → α → Option (Nat × β)
  | [], _, _ => none
  | (a, b) :: r, i, k => if k = a then some (i, b) else alFind r (i + 1) k
def alGet : List (α × β) → α → Option β
  | [], _ => none
  | (a, b) :: r, k => if k = a then some b else alGet r k
def alPut : List (α × β) → α → β → List (α × β)
  | [], k, v => [(k, v)]
  | (a, b) :: r, k, v => if k = a then (k, v) :: r else (a, b) :: alPut r k v
theorem alFind_get : ∀ (l : List (α × β)) (i : Nat) (k : α), (alFind l i k).map (·.2) = alGet l k
  | [], _, _ => rfl
  | (a, b) :: r, i, k => by
    simp only [alFind, alGet]
    by_cases h : k = a
    · simp [h]
    · simp only [if_neg h]; exact alFind_get r (i + 1) k
theorem alFind_ge : ∀ (l : List (α × β)) (i : Nat) (k : α) (j : Nat) (v : β), alFind l i k = some (j, v) → i ≤ j
  | [], _, _, _, _, h => by simp [alFind] at h
  | (a, b) :: r, i, k, j, v, h => by
    simp only [alFind] at h
    by_cases hk : k = a
    · simp only [if_pos hk, Option.some.injEq, Prod.mk.injEq] at h
      omega
    · simp only [if_neg hk] at h
      have := alFind_ge r (i + 1) k j v h
      omega
variable {T : Tab} {kt : TypeId} {ek : α → AVal} {ev : β → AVal}
theorem luK_mpE (hk : ∀ a b, kEq T kt (ek a) (ek b) = some (decide (a = b))) : ∀ (l : List (α × β)) (i : Nat) (k : α), luK T kt (mpE ek ev l) i (ek k) = some ((alFind l i k).map fun p => (p.1, ev p.2))
  | [], _, _ => rfl
  | (a, b) :: r, i, k => by
    simp only [mpE, List.map_cons, luK, hk, alFind]
    by_cases h : k = a
    · simp [h]
    · simp only [h, decide_false, if_false]; exact luK_mpE hk r (i + 1) k
theorem putK_gen : ∀ (l : List (α × β)) (i : Nat) (k : α) (v : β), (match (alFind l i k).map fun p => (p.1, ev p.2) with
    | some (j, _) => (mpE ek ev l).set (j - i) (ek k, ev v)
    | none => mpE ek ev l ++ [(ek k, ev v)]) = mpE ek ev (alPut l k v)
  | [], _, _, _ => rfl
  | (a, b) :: r, i, k, v => by
    by_cases h : k = a
    · simp [alFind, alPut, h, mpE]
    · have ih := putK_gen r (i + 1) k v
      simp only [alFind, alPut, if_neg h]
      cases hf : alFind r (i + 1) k with
      | none =>
        rw [hf] at ih
        simp only [Option.map_none] at ih ⊢
        simp only [mpE, List.map_cons, List.cons_append] at ih ⊢
        rw [ih]
      | some p =>
        obtain ⟨j, w⟩ := p
        rw [hf] at ih
        have hj := alFind_ge _ _ _ _ _ hf
        simp only [Option.map_some] at ih ⊢
        rw [show j - i = (j - (i + 1)) + 1 by omega]
        simp only [mpE, List.map_cons, List.set_cons_succ] at ih ⊢
        rw [ih]
theorem putK_mpE (l : List (α × β)) (k : α) (v : β) : putK (mpE ek ev l) ((alFind l 0 k).map fun p => (p.1, ev p.2)) (ek k) (ev v) = mpE ek ev (alPut l k v) := by
  rw [← putK_gen (ek := ek) (ev := ev) l 0 k v]
  unfold putK
  cases alFind l 0 k with
  | none => rfl
  | some p => rfl
@[simp] theorem lkV_al (l : List (α × β)) (k : α) (z : AVal) : lkV ((alFind l 0 k).map fun p => (p.1, ev p.2)) z = ((alGet l k).map ev).getD z := by
  rw [← alFind_get l 0 k]
  unfold lkV
  cases alFind l 0 k <;> rfl
@[simp] theorem isSome_al (l : List (α × β)) (k : α) : (alFind l 0 k).isSome = (alGet l k).isSome := by
  rw [← alFind_get l 0 k]
  cases alFind l 0 k <;> rfl
end
@[simp] theorem length_mpE {α β : Type} {ek : α → AVal} {ev : β → AVal} {l : List (α × β)} : (mpE ek ev l).length = l.length := by simp [mpE]
@[simp] theorem nil_mpE {α β : Type} {ek : α → AVal} {ev : β → AVal} : mpE ek ev [] = [] := rfl
def strK (s : List UInt8) : AVal := .str s
def boolV (b : Bool) : AVal := .bool b
def intV (n : Int) : AVal := .int .i64 n
@[simp] theorem getD_boolV {x : Option Bool} : (x.map boolV).getD (.bool false) = .bool (x.getD false) := by cases x <;> rfl
@[simp] theorem getD_intV {x : Option Int} : (x.map intV).getD (.int .i64 0) = .int .i64 (x.getD 0) := by cases x <;> rfl
section
variable {T : Tab} {kt : TypeId} {β : Type} {ev : β → AVal}
theorem isStrT_spec {T : Tab} {t : TypeId} (h : isStrT T t = true) : ∃ a b c d, T t = some ⟨.str, a, b, c, d⟩ := by
  unfold isStrT at h
  split at h
  · rename_i hi; exact ⟨_, _, _, _, hi⟩
  · cases h
@[simp] theorem luK_strK {l : List (List UInt8 × β)} {k : List UInt8} (h : isStrT T kt = true) : luK T kt (mpE strK ev l) 0 (.str k) = some ((alFind l 0 k).map fun p => (p.1, ev p.2)) :=
  luK_mpE (ek := strK) (fun a b => by
    obtain ⟨_, _, _, _, hi⟩ := isStrT_spec h
    simp [kEq, strK, eqC, hi]) l 0 k
def isIntT (T : Tab) (t : TypeId) : Bool := match T t with
  | some ⟨.int _, _, _, _, _⟩ => true
  | _ => false
@[simp] theorem putK_strB {l : List (List UInt8 × Bool)} {k : List UInt8} {b : Bool} : putK (mpE strK boolV l) ((alFind l 0 k).map fun p => (p.1, boolV p.2)) (.str k) (.bool b) = mpE strK boolV (alPut l k b) := putK_mpE (ek := strK) (ev := boolV) l k b
end
attribute [simp] evLookup evMapUpd evClear evClearS mapOf keyT plainT normK isIntT kEq
@[simp] theorem app_zero {f g : Nat → Nat → AVal} : app f 0 g = g := by funext i j; simp [app]
@[simp] theorem app_zero' {f g : Nat → Nat → AVal} {i j : Nat} : app f 0 g i j = g i j := by rw [app_zero]
@[simp] theorem all_lt2 {p : Nat → Prop} : (∀ j, j < 2 → p j) ↔ p 0 ∧ p 1 := ⟨fun h => ⟨h 0 (by decide), h 1 (by decide)⟩, fun h j hj => by
  match j, hj with
  | 0, _ => exact h.1
  | 1, _ => exact h.2
⟩
@[simp] theorem all_lt3 {p : Nat → Prop} : (∀ j, j < 3 → p j) ↔ p 0 ∧ p 1 ∧ p 2 := ⟨fun h => ⟨h 0 (by decide), h 1 (by decide), h 2 (by decide)⟩, fun h j hj => by
  match j, hj with
  | 0, _ => exact h.1
  | 1, _ => exact h.2.1
  | 2, _ => exact h.2.2
⟩
@[simp] theorem all_lt4 {p : Nat → Prop} : (∀ j, j < 4 → p j) ↔ p 0 ∧ p 1 ∧ p 2 ∧ p 3 := ⟨fun h => ⟨h 0 (by decide), h 1 (by decide), h 2 (by decide), h 3 (by decide)⟩, fun h j hj => by
  match j, hj with
  | 0, _ => exact h.1
  | 1, _ => exact h.2.1
  | 2, _ => exact h.2.2.1
  | 3, _ => exact h.2.2.2
⟩
@[simp] theorem all_lt5 {p : Nat → Prop} : (∀ j, j < 5 → p j) ↔ p 0 ∧ p 1 ∧ p 2 ∧ p 3 ∧ p 4 := ⟨fun h => ⟨h 0 (by decide), h 1 (by decide), h 2 (by decide), h 3 (by decide), h 4 (by decide)⟩, fun h j hj => by
  match j, hj with
  | 0, _ => exact h.1
  | 1, _ => exact h.2.1
  | 2, _ => exact h.2.2.1
  | 3, _ => exact h.2.2.2.1
  | 4, _ => exact h.2.2.2.2
⟩
@[simp] theorem all_lt6 {p : Nat → Prop} : (∀ j, j < 6 → p j) ↔ p 0 ∧ p 1 ∧ p 2 ∧ p 3 ∧ p 4 ∧ p 5 := ⟨fun h => ⟨h 0 (by decide), h 1 (by decide), h 2 (by decide), h 3 (by decide), h 4 (by decide), h 5 (by decide)⟩, fun h j hj => by
  match j, hj with
  | 0, _ => exact h.1
  | 1, _ => exact h.2.1
  | 2, _ => exact h.2.2.1
  | 3, _ => exact h.2.2.2.1
  | 4, _ => exact h.2.2.2.2.1
  | 5, _ => exact h.2.2.2.2.2
⟩
@[simp] theorem all_lt7 {p : Nat → Prop} : (∀ j, j < 7 → p j) ↔ p 0 ∧ p 1 ∧ p 2 ∧ p 3 ∧ p 4 ∧ p 5 ∧ p 6 := ⟨fun h => ⟨h 0 (by decide), h 1 (by decide), h 2 (by decide), h 3 (by decide), h 4 (by decide), h 5 (by decide), h 6 (by decide)⟩, fun h j hj => by
  match j, hj with
  | 0, _ => exact h.1
  | 1, _ => exact h.2.1
  | 2, _ => exact h.2.2.1
  | 3, _ => exact h.2.2.2.1
  | 4, _ => exact h.2.2.2.2.1
  | 5, _ => exact h.2.2.2.2.2.1
  | 6, _ => exact h.2.2.2.2.2.2
⟩
theorem VLe_mp {h : Heap} {σ : Id → Id} {fz : Nat → Bool} {vz : Id → Bool} {nx : Nat} {l : List (AVal × AVal)} (hl : ∀ p ∈ l, Clo p.1 ∧ Clo p.2) : HLe h σ fz vz nx (.mp l) (some (.mp l)) :=
  ⟨rfl, fun i hi _ => ⟨Clo.le _ (hl _ (List.getElem_mem hi)).1, Clo.le _ (hl _ (List.getElem_mem hi)).2⟩⟩
theorem HLe_mpE {α β : Type} {ek : α → AVal} {ev : β → AVal} (h1 : ∀ a, Clo (ek a)) (h2 : ∀ b, Clo (ev b)) {h : Heap} {σ : Id → Id} {fz : Nat → Bool} {vz : Id → Bool} {nx : Nat} {l2 l : List (α × β)} (e : l2 = l) : HLe h σ fz vz nx (.mp (mpE ek ev l2)) (some (.mp (mpE ek ev l))) := by
  subst e
  refine VLe_mp fun p hp => ?_
  obtain ⟨q, _, rfl⟩ := List.mem_map.1 hp
  exact ⟨h1 _, h2 _⟩
@[simp high] theorem HLe_sb {h : Heap} {σ : Id → Id} {fz : Nat → Bool} {vz : Id → Bool} {nx : Nat} {l2 l : List (List UInt8 × Bool)} (e : l2 = l) : HLe h σ fz vz nx (.mp (mpE strK boolV l2)) (some (.mp (mpE strK boolV l))) = True := eq_true (HLe_mpE (ek := strK) (ev := boolV) (fun _ => trivial) (fun _ => trivial) e)
@[simp high] theorem HLe_nil {h : Heap} {σ : Id → Id} {fz : Nat → Bool} {vz : Id → Bool} {nx : Nat} : HLe h σ fz vz nx (.mp []) (some (.mp [])) = True := eq_true (VLe_mp fun _ hp => by cases hp)
@[simp] theorem fits_int0 {sz by_ : Nat} {z : Nat → AVal} {q : Bool} {k' : IntKind} {k : IntKind} {n : Int} : fits ⟨.int k', sz, by_, z, q⟩ (.int k n) = true := rfl
@[simp] theorem fits_bool0 {sz by_ : Nat} {z : Nat → AVal} {q : Bool}  {b : Bool} : fits ⟨.bool, sz, by_, z, q⟩ (.bool b) = true := rfl
@[simp] theorem fits_str0 {sz by_ : Nat} {z : Nat → AVal} {q : Bool}  {l : List UInt8} : fits ⟨.str, sz, by_, z, q⟩ (.str l) = true := rfl
@[simp] theorem fits_slice0 {sz by_ : Nat} {z : Nat → AVal} {q : Bool} {e : TypeId} {id : Id} {lo n : Nat} : fits ⟨.slice e, sz, by_, z, q⟩ (.sl id lo n) = true := rfl
@[simp] theorem fits_slice1 {sz by_ : Nat} {z : Nat → AVal} {q : Bool} {e : TypeId} {n s : Nat} {g : Nat → Nat → AVal} : fits ⟨.slice e, sz, by_, z, q⟩ (.vsl n s g) = true := rfl
@[simp] theorem fits_slice2 {sz by_ : Nat} {z : Nat → AVal} {q : Bool} {e : TypeId}  : fits ⟨.slice e, sz, by_, z, q⟩ .nils = true := rfl
@[simp] theorem fits_ptr0 {sz by_ : Nat} {z : Nat → AVal} {q : Bool} {e : TypeId} {id : Id} {n o : Nat} : fits ⟨.ptr e, sz, by_, z, q⟩ (.ptr id n o) = true := rfl
@[simp] theorem fits_ptr1 {sz by_ : Nat} {z : Nat → AVal} {q : Bool} {e : TypeId} {n : Nat} {g : Nat → AVal} {o : Nat} : fits ⟨.ptr e, sz, by_, z, q⟩ (.vptr n g o) = true := rfl
@[simp] theorem fits_ptr2 {sz by_ : Nat} {z : Nat → AVal} {q : Bool} {e : TypeId}  : fits ⟨.ptr e, sz, by_, z, q⟩ .nilp = true := rfl
@[simp] theorem fits_map0 {sz by_ : Nat} {z : Nat → AVal} {q : Bool} {e e' : TypeId} {id : Id} : fits ⟨.map e e', sz, by_, z, q⟩ (.map id) = true := rfl
@[simp] theorem fits_map1 {sz by_ : Nat} {z : Nat → AVal} {q : Bool} {e e' : TypeId}  : fits ⟨.map e e', sz, by_, z, q⟩ .nilmap = true := rfl
@[simp] theorem fits_func0 {sz by_ : Nat} {z : Nat → AVal} {q : Bool}  {f : FuncId} {n : Nat} {g : Nat → AVal} : fits ⟨.func, sz, by_, z, q⟩ (.fn f n g) = true := rfl
@[simp] theorem fits_func1 {sz by_ : Nat} {z : Nat → AVal} {q : Bool}   : fits ⟨.func, sz, by_, z, q⟩ .nilfn = true := rfl
@[simp] theorem fits_vec {sz by_ : Nat} {z : Nat → AVal} {q : Bool} {e : TypeId} {α : Type} {s : Nat} {f : α → Nat → AVal} {d : α} {l : List α} : fits ⟨.slice e, sz, by_, z, q⟩ (vec s f d l) = true := rfl
@[simp] theorem fits_ints {sz by_ : Nat} {z : Nat → AVal} {q : Bool} {e : TypeId} {l : List Int} : fits ⟨.slice e, sz, by_, z, q⟩ (ints l) = true := rfl
@[simp] theorem range1 : List.range 1 = [0] := rfl
@[simp] theorem range2 : List.range 2 = [0, 1] := rfl
@[simp] theorem range3 : List.range 3 = [0, 1, 2] := rfl
@[simp] theorem range4 : List.range 4 = [0, 1, 2, 3] := rfl
end Go.Lift
namespace Go.Lift
set_option linter.unusedSimpArgs false
set_option linter.unusedVariables false
open Go.ChangeShapes Go.WideShapes Go.RowKit
def cW (w : World) : Cx := c0 (fun _ => False) w
def Reads (P : Program) (t : TypeId) {α : Type} (sz : Nat) (f : α → Nat → AVal) (I : α → Prop) : Prop :=
  P.cellsOf t = sz ∧ ∀ (H : Type) (enc : TypeId × Value → H) (w : World) (sp : Nat → Bool) (held : Bool) (n : Nat) (cs : List Value) (x : DataW H × List MemPlace),
    DataW.trod enc P w 0 sp held n t cs = some x → ∃ a : α, I a ∧ cs.length = sz ∧ ∀ j, j < sz → (f a j).one = true ∧ ∃ v, cs[j]? = some v ∧ Rel (cW w) (f a j) v
theorem mapM_get {α β : Type} {f : α → Option β} : ∀ {l : List α} {r : List β}, l.mapM f = some r → r.length = l.length ∧ ∀ (i : Nat) (x : α), l[i]? = some x → f x = r[i]?
  | [], r, h => by
    simp at h; subst h; exact ⟨rfl, fun i x hx => by simp at hx⟩
  | a :: l, r, h => by
    rw [List.mapM_cons] at h
    cases ha : f a with
    | none => simp [ha] at h
    | some b =>
      cases hl : l.mapM f with
      | none => simp [ha, hl] at h
      | some r' =>
        simp [ha, hl] at h
        subst h
        obtain ⟨h1, h2⟩ := mapM_get hl
        refine ⟨by simp [h1], fun i x hx => ?_⟩
        cases i with
        | zero => simp at hx; subst hx; simpa using ha
        | succ i => simpa using h2 i x (by simpa using hx)
theorem cells_get {w : World} {a : Addr} {n : Nat} {cs : List Value} (h : w.cells? 0 a n = some cs) : cs.length = n ∧ ∀ j, j < n → w.cell? (a.add j) = cs[j]? := by
  unfold World.cells? at h
  rw [if_pos (Nat.zero_le _)] at h
  obtain ⟨h1, h2⟩ := mapM_get h
  exact ⟨by simpa using h1, fun j hj => h2 j j (by simp [hj])⟩
section
variable {P : Program}
theorem reads_int {t : TypeId} {k : IntKind} (ht : P.underlying t = some (.int k)) (hc : P.cellsOf t = 1) : Reads P t 1 (fun (n : Int) _ => .int k n) (fun n => (Lit.int k n).wf = true) :=
  ⟨hc, fun H enc w sp held n cs x h => by
    obtain ⟨m, rfl, _, hw⟩ := DataW.trod_int ht h
    exact ⟨m, hw, rfl, fun j hj => ⟨rfl, _, by rw [show j = 0 by omega]; rfl, rfl⟩⟩⟩
theorem reads_slice {t e : TypeId} {α : Type} {sz : Nat} {f : α → Nat → AVal} {I : α → Prop} (d : α) (ht : P.underlying t = some (.slice e)) (hc : P.cellsOf t = 1) (hs : 0 < sz) (he : Reads P e sz f I) :
    Reads P t 1 (fun (l : List α) _ => vec sz f d l) (fun l => l.length ≤ maxLen ∧ ∀ x ∈ l, I x) := by
  refine ⟨hc, fun H enc w sp held n cs x h => ?_⟩
  obtain ⟨hce, he⟩ := he
  rcases DataW.trod_slice ht h with ⟨rfl, _⟩ | ⟨a, len, cap, elems, rest, n, _, rfl, _, _, hlen, hcap, hel, hat, _, _⟩
  · exact ⟨[], ⟨by simp, fun x hx => by cases hx⟩, rfl, fun j hj => ⟨rfl, _, by rw [show j = 0 by omega]; rfl, none, 0, rfl, Nat.le_refl _, .inl rfl⟩⟩
  · have key : ∀ i, ∃ y : α, i < len → I y ∧ ∀ j, j < sz → (f y j).one = true ∧ ∃ v, w.cell? ((a.add (i * sz)).add j) = some v ∧ Rel (cW w) (f y j) v := fun i => by
      by_cases hi : i < len
      · have h1 := hat i hi
        rw [hce] at h1
        cases hcs : w.cells? 0 (a.add (i * sz)) sz with
        | none => rw [hcs] at h1; simp [List.getElem?_eq_getElem (show i < elems.length by omega)] at h1
        | some cs' =>
          rw [hcs] at h1
          simp only [Option.bind_some] at h1
          rw [List.getElem?_eq_getElem (show i < elems.length by omega)] at h1
          obtain ⟨y, hy, hl, hj⟩ := he H enc w sp held n cs' _ h1
          obtain ⟨_, h2⟩ := cells_get hcs
          exact ⟨y, fun _ => ⟨hy, fun j hj' => ⟨(hj j hj').1, by rw [h2 j hj']; exact (hj j hj').2⟩⟩⟩
      · exact ⟨d, fun h => absurd h hi⟩
    let g : Nat → α := fun i => Classical.choose (key i)
    have hg : ∀ i, i < len → I (g i) ∧ ∀ j, j < sz → (f (g i) j).one = true ∧ ∃ v, w.cell? ((a.add (i * sz)).add j) = some v ∧ Rel (cW w) (f (g i) j) v := fun i => Classical.choose_spec (key i)
    have hgd : ∀ i, i < len → ((List.range len).map g).getD i d = g i := fun i hi => by simp [List.getD, hi]
    refine ⟨(List.range len).map g, ⟨by simp; omega, fun x hx => ?_⟩, rfl, fun j hj => ?_⟩
    · obtain ⟨i, hi, rfl⟩ := List.mem_map.1 hx
      exact (hg i (by simpa using hi)).1
    · obtain rfl : j = 0 := by omega
      refine ⟨rfl, _, rfl, some a, cap, by simp, by simpa using hlen, ?_⟩
      by_cases h0 : len = 0
      · exact .inl (by simp [h0])
      · right
        obtain ⟨b, o, spot⟩ := a
        obtain ⟨_, v0, hv0, _⟩ := (hg 0 (by omega)).2 0 hs
        have hv0' : w.cell? ⟨b, o, spot⟩ = some v0 := by simpa [Addr.add] using hv0
        have hsp : spot = none := by
          unfold World.cell? at hv0'
          cases hb : w.heap[b]? with
          | none => simp [hb] at hv0'
          | some ob =>
            cases ob <;> simp [hb] at hv0'
            exact hv0'.1
        have hb : b < w.heap.size := by
          unfold World.cell? at hv0'
          cases hb : w.heap[b]? with
          | none => simp [hb] at hv0'
          | some ob => exact (Array.getElem?_eq_some_iff.1 hb).1
        subst hsp
        refine ⟨b, o, rfl, fun hF => hF, hb, fun i hi j hj => ?_⟩
        have hi' : i < len := by simpa using hi
        have h3 := (hg i hi').2 j hj
        show (f (((List.range len).map g).getD i d) j).one = true ∧ _
        unfold vecF
        rw [hgd i hi']
        refine ⟨h3.1, ?_⟩
        obtain ⟨_, v, h4, h5⟩ := h3
        refine ⟨v, ?_, h5⟩
        rw [← h4]
        congr 1
        unfold Addr.add
        by_cases h6 : i * sz = 0
        · by_cases h7 : j = 0
          · simp [h6, h7]
          · simp [h6, h7]
        · by_cases h7 : j = 0
          · simp [h6, h7]
          · simp [h6, h7]
def ReadsF (P : Program) (o : Nat) (fs : List Field) {α : Type} (sz : Nat) (f : α → Nat → AVal) (I : α → Prop) : Prop :=
  ∀ (H : Type) (enc : TypeId × Value → H) (w : World) (sp : Nat → Bool) (held : Bool) (n : Nat) (cs : List Value), (∀ fd ∈ fs, ∃ x, DataW.trod enc P w 0 sp held n fd.type ((cs.drop fd.offset).take (P.cellsOf fd.type)) = some x) →
    ∃ a : α, I a ∧ ∀ j, j < sz → (f a j).one = true ∧ ∃ v, cs[o + j]? = some v ∧ Rel (cW w) (f a j) v
theorem readsF_nil {o : Nat} : ReadsF P o [] 0 (fun (_ : Unit) _ => .any) (fun _ => True) := fun H enc w sp held n cs _ => ⟨(), trivial, fun j hj => absurd hj (Nat.not_lt_zero _)⟩
theorem readsF_cons {o s sz : Nat} {fd : Field} {fs : List Field} {α β : Type} {g : β → Nat → AVal} {J : β → Prop} {f : α → Nat → AVal} {I : α → Prop} (ho : fd.offset = o) (h1 : Reads P fd.type s g J) (h2 : ReadsF P (o + s) fs sz f I) :
    ReadsF P o (fd :: fs) (s + sz) (fun (p : β × α) j => if j < s then g p.1 j else f p.2 (j - s)) (fun p => J p.1 ∧ I p.2) := fun H enc w sp held n cs h => by
  obtain ⟨hc, h1⟩ := h1
  obtain ⟨x, hx⟩ := h fd List.mem_cons_self
  obtain ⟨b, hb, hl, hbj⟩ := h1 H enc w sp held n _ x hx
  obtain ⟨a, ha, haj⟩ := h2 H enc w sp held n cs fun fd' hfd => h fd' (List.mem_cons_of_mem _ hfd)
  refine ⟨(b, a), ⟨hb, ha⟩, fun j hj => ?_⟩
  show (if j < s then g b j else f a (j - s)).one = true ∧ ∃ v, cs[o + j]? = some v ∧ Rel (cW w) (if j < s then g b j else f a (j - s)) v
  by_cases hjs : j < s
  · rw [if_pos hjs]
    obtain ⟨k1, v, k2, k3⟩ := hbj j hjs
    refine ⟨k1, v, ?_, k3⟩
    rw [hc, ho, List.getElem?_take, if_pos hjs, List.getElem?_drop] at k2
    exact k2
  · rw [if_neg hjs]
    obtain ⟨k1, v, k2, k3⟩ := haj (j - s) (by omega)
    exact ⟨k1, v, by rw [show o + j = o + s + (j - s) by omega]; exact k2, k3⟩
theorem reads_struct {t : TypeId} {fs : Array Field} {α : Type} {sz : Nat} {f : α → Nat → AVal} {I : α → Prop} (ht : P.underlying t = some (.struct fs)) (hc : P.cellsOf t = sz) (h : ReadsF P 0 fs.toList sz f I) : Reads P t sz f I :=
  ⟨hc, fun H enc w sp held n cs x hx => by
    obtain ⟨xs, m, _, _, hl, hlen, hf⟩ := DataW.trod_struct ht hx
    obtain ⟨a, ha, haj⟩ := h H enc w sp held m cs fun fd hfd => by
      obtain ⟨i, hi, hie⟩ := List.mem_iff_getElem.1 hfd
      have hi' : i < fs.size := by simpa using hi
      have h1 := hf i fd (by rw [Array.getElem?_eq_getElem hi']; simpa using hie)
      rw [List.getElem?_eq_getElem (by omega)] at h1
      exact ⟨_, h1⟩
    exact ⟨a, ha, hl.trans hc, fun j hj => by simpa using haj j hj⟩⟩
theorem Reads.as {t : TypeId} {α β : Type} {sz : Nat} {f : α → Nat → AVal} {I : α → Prop} (h : Reads P t sz f I) (g : α → β) {f' : β → Nat → AVal} {I' : β → Prop} (hf : ∀ a j, j < sz → f a j = f' (g a) j) (hI : ∀ a, I a → I' (g a)) : Reads P t sz f' I' :=
  ⟨h.1, fun H enc w sp held n cs x hx => by
    obtain ⟨a, ha, hl, haj⟩ := h.2 H enc w sp held n cs x hx
    exact ⟨g a, hI a ha, hl, fun j hj => by rw [← hf a j hj]; exact haj j hj⟩⟩
section
variable {H : Type} {enc : TypeId × Value → H} {w : World} {sp : Nat → Bool} {held : Bool} {b0 : Nat} {t : TypeId} {v : Value} {d : DataW H} {ps : List MemPlace} {α : Type} {sz : Nat} {f : α → Nat → AVal} {I : α → Prop}
theorem arg_struct {fs : Array Field} (hs : P.underlying t = some (.struct fs)) (hr : Reads P t sz f I) (hv : Value.okWide P w .any b0 t v) (h : DataW.Trod enc P w 0 sp held t v d ps) : ∃ a, I a ∧ Rel (cW w) (.agg sz (f a)) v := by
  obtain ⟨cs, rfl, hsz⟩ := okWide_struct hs hv
  obtain ⟨fuel, hf⟩ := h
  obtain ⟨a, ha, hl, haj⟩ := hr.2 H enc w sp held fuel _ _ hf
  refine ⟨a, ha, cs, rfl, hsz.trans hr.1, fun j hj => ?_⟩
  obtain ⟨_, v, hv1, hv2⟩ := haj j hj
  have : cs.getD j undef = v := by
    have h1 : cs[j]? = some v := by simpa [Value.cells] using hv1
    rw [Array.getD_eq_getD_getElem?, h1]; rfl
  rw [this]; exact hv2
theorem arg_one (hr : Reads P t 1 f I) (hv : v.cells = #[v]) (h : DataW.Trod enc P w 0 sp held t v d ps) : ∃ a, I a ∧ Rel (cW w) (f a 0) v := by
  obtain ⟨fuel, hf⟩ := h
  obtain ⟨a, ha, hl, haj⟩ := hr.2 H enc w sp held fuel _ _ hf
  obtain ⟨_, v', hv1, hv2⟩ := haj 0 (by decide)
  rw [hv] at hv1
  have : v' = v := by simpa using hv1.symm
  exact ⟨a, ha, this ▸ hv2⟩
theorem arg_slice {e : TypeId} (ht : P.underlying t = some (.slice e)) (hr : Reads P t 1 f I) (hv : Value.okWide P w .any b0 t v) (h : DataW.Trod enc P w 0 sp held t v d ps) : ∃ a, I a ∧ Rel (cW w) (f a 0) v := by
  obtain ⟨a, l, c, rfl⟩ := okWide_slice ht hv
  exact arg_one hr rfl h
theorem arg_int {k : IntKind} (ht : P.underlying t = some (.int k)) (hr : Reads P t 1 f I) (hv : Value.okWide P w .any b0 t v) (h : DataW.Trod enc P w 0 sp held t v d ps) : ∃ a, I a ∧ Rel (cW w) (f a 0) v := by
  obtain ⟨n, rfl⟩ := okWide_int ht hv
  exact arg_one hr rfl h
end
theorem Kept.below {w w' : World} (h : Kept w (fun _ => False) w') : Below w.heap.size w w' := ⟨h.os, h.tape, h.output, h.size, fun k hk => h.block k hk fun f => f⟩
theorem trodAll_kept {H : Type} {enc : TypeId × Value → H} (hl : laidOutB P = true) {W W' : World} (hk : Kept W (fun _ => False) W') {sp : Nat → Bool} : ∀ (ts : List TypeId) (vs : List Value) (ds : List (DataW H)) (ps : List MemPlace), (ts.all fun t => P.readableRec t && decide (t < P.types.size)) = true →
    DataW.TrodAll enc P W 0 (fun _ => true) true ts vs ds ps → (∀ p ∈ ps, p.block < W.heap.size) → (∀ p ∈ ps, sp p.block = true) → DataW.TrodAll enc P W' 0 sp true ts vs ds ps
  | [], vs, ds, ps, _, h, _, _ => by
    obtain ⟨rfl, rfl, rfl⟩ := trodAll_nil h
    exact h
  | t :: ts, vs, ds, ps, ha, h, hlt, hsp => by
    obtain ⟨v, vs', d, ds', p, q, rfl, rfl, rfl, h1, h2⟩ := trodAll_cons h
    simp only [List.all_cons, Bool.and_eq_true, decide_eq_true_eq] at ha
    refine ⟨p, q, ?_, trodAll_kept hl hk ts vs' ds' q (by simpa using ha.2) h2 (fun x hx => hlt x (List.mem_append.2 (.inr hx))) (fun x hx => hsp x (List.mem_append.2 (.inr hx))), rfl⟩
    exact WideElems.Trod_stays hl ha.1.1 ha.1.2 h1 (fun x hx => hk.below.same (hlt x (List.mem_append.2 (.inl hx)))) fun x hx => hsp x (List.mem_append.2 (.inl hx))
theorem law_post {H : Type} {enc : TypeId × Value → H} {f : Func} {s : ChangeSpec} {apart fresh handsOn again : Bool} {W W' : World} {args : Array Value} {ds gs : List (DataW H)} {before : List MemPlace} {tb : TypeId}
    (hl : laidOutB P = true) (hp : (f.params.toList.all fun t => P.readableRec t && decide (t < P.types.size)) = true) (hvars : s.vars = []) (hfn : s.fn H (ds ++ gs) = { results := [.lit (.bool true)], args := ds })
    (hres : f.resultTypes = #[tb]) (htb : P.underlying tb = some .bool) (hW : DataW.Whole enc P f.params.toList s.vars apart W args.toList ds gs before) (hk : Kept W (fun _ => False) W') :
    s.post enc P f apart fresh handsOn again W args (.bool true) W' := by
  have hlt : ∀ p ∈ before, p.block < W.heap.size := fun p hp => by simpa using hW.lt p hp
  have hold : ∀ p ∈ before, (fun b => decide (b < W.heap.size)) p.block = true := fun p hp => by simpa using hlt p hp
  have hW0 := hW
  obtain ⟨p, q, hA, hV, hpq, hz, hn⟩ := hW
  rw [hvars] at hV
  obtain ⟨hgs, hq⟩ := trodVars_none hV
  subst hgs hq
  rw [List.append_nil] at hpq
  subst hpq
  have hargs : ∀ sp : Nat → Bool, (∀ x ∈ before, sp x.block = true) → DataW.TrodAll enc P W' 0 sp true f.params.toList args.toList (s.fn H (ds ++ [])).args before := fun sp hsp => by
    rw [hfn]; exact trodAll_kept hl hk _ _ _ _ hp hA hlt hsp
  have hvv : ∀ sp : Nat → Bool, DataW.TrodVars enc P W' sp s.vars (s.fn H (ds ++ [])).vars [] := fun sp => by rw [hfn, hvars]; exact rfl
  have hone : (Value.bool true).resultList f.resultTypes.size = [.bool true] := by rw [hres]; rfl
  have hrs : ∀ (b : Nat) (sp : Nat → Bool) (hd : Bool), DataW.TrodAll enc P W' b sp hd f.resultTypes.toList ((Value.bool true).resultList f.resultTypes.size) (s.fn H (ds ++ [])).results [] := fun b sp hd => by
    rw [hfn, hone, hres]; exact trodAll_mk1 (shut_bool htb true)
  refine ⟨ds, [], before, [], before, [], hW0, hrs _ _ _, hargs _ hold, hvv _, ⟨hk.os, hk.output, fun i hi => ?_⟩, fun _ => ⟨?_, _, _, ([] ++ before) ++ [], ⟨[] ++ before, [], trodAll_append (hargs _ (fun _ _ => rfl)) (hrs _ _ _), hvv _, rfl, ?_, ?_⟩, ?_⟩⟩
  · rw [hk.block i hi fun f => f]
    cases W.heap[i]? with
    | none => rfl
    | some o => cases o <;> first | exact ⟨rfl, rfl, rfl, fun _ _ => rfl⟩ | exact .inr ⟨rfl, rfl⟩ | rfl
  · intro j t r h1 h2
    rw [hone] at h2
    rw [hres] at h1
    cases j with
    | succ j => simp at h1
    | zero =>
      simp at h1 h2
      subst h1 h2
      exact okWide_bool_mk htb true
  · intro b off hpm
    have hm : MemPlace.cell b off ∈ before := by simpa using hpm
    have hb : b < W.heap.size := hlt _ hm
    have h1 := hz b off hm
    unfold World.frozen? at h1 ⊢
    rw [hk.block b hb fun f => f]
    exact h1
  · intro ha
    simpa using hn ha
  · intro p hp _
    simpa using hp
end
theorem allLt_of {p : Nat → Bool} : ∀ {n : Nat}, (∀ j, j < n → p j = true) → allLt n p = true
  | 0, _ => rfl
  | n + 1, h => by
    show (p n && allLt n p) = true
    rw [h n (by omega), allLt_of fun j hj => h j (by omega)]; rfl
@[simp] theorem evConv_bytes {T : Tab} {s d : TypeId} {l : List UInt8} : evConv T s d (bytes l) = none := by
  unfold evConv bytes vec; split <;> rfl
@[simp] theorem evBts_bytes {T : Tab} {s d : TypeId} {l : List UInt8} : evBts T s d (bytes l) = if bytesT T s d then some (.str l) else none := by
  show (if bytesT T s d && (1 : Nat) == 1 && allLt l.length (fun i => isU8 (.int .u8 (l.getD i 0).toNat)) then some (AVal.str ((List.range l.length).map fun i => byteOf (.int .u8 (l.getD i 0).toNat))) else none) = _
  have h1 : allLt l.length (fun i => isU8 (.int .u8 (l.getD i 0).toNat)) = true := allLt_of fun _ _ => rfl
  have h2 : ((List.range l.length).map fun i => byteOf (.int .u8 (l.getD i 0).toNat)) = l := by
    apply List.ext_getElem
    · simp
    · intro i h3 h4
      simp [byteOf, h4]
  rw [h1, h2]
  simp only [Bool.and_true, beq_self_eq_true]
attribute [simp] bytesT isU8T evConv
end Go.Lift
