/-
  Decoders: entries, as Lean data and as abstract values; entries in order; what is found.
-/
import Derived.Sort.Walk0
import Derived.Test.YtmdnpbilnelogaaLMR
import Derived.Test.YtmdnpbilnelogaaQM
namespace Go.Proofs.Ytmdnpbilnelogaa
set_option linter.unusedSimpArgs false
set_option linter.unusedVariables false
open Go Go.Lift

structure Ent where
  win : List UInt8
  inp : Int
deriving DecidableEq, Inhabited
structure Dec where
  letters : Int
  block : Int
  inputs : Int
  past : Int
  future : Int
  ents : List Ent
deriving DecidableEq, Inhabited
def den : Ent := ⟨[], 0⟩
def entF (x : Ent) (j : Nat) : AVal := match j with
  | 0 => .str x.win
  | _ => .int .i64 x.inp
@[simp] theorem entF0 {x : Ent} : entF x 0 = .str x.win := rfl
@[simp] theorem entF1 {x : Ent} : entF x 1 = .int .i64 x.inp := rfl
@[simp] theorem one_entF {c : Ent} {j : Nat} : (entF c j).one = true := by unfold entF; split <;> rfl
@[simp] theorem Clo_entF {c : Ent} {j : Nat} : Clo (entF c j) := by unfold entF; split <;> trivial
@[simp] theorem ren_entF {ρ : Nat → Nat} {c : Ent} {j : Nat} : ren ρ (entF c j) = entF c j := by unfold entF; split <;> rfl
@[simp] theorem flat_entF {c : Ent} {j : Nat} : flat (entF c j) := by unfold entF; split <;> trivial

def ents (l : List Ent) : AVal := vec 2 entF den l
@[simp] theorem evLen_ents {h : Heap} {l : List Ent} : evLen h (ents l) = some (.int .i64 l.length) := rfl
@[simp] theorem strip_ents {l : List Ent} : strip (ents l) = (ents l, True) := rfl
@[simp] theorem mkOpt_ents {g : Bool} {l : List Ent} : mkOpt g (ents l) = .opt g (ents l) := rfl
@[simp] theorem one_ents {l : List Ent} : (ents l).one = true := rfl
@[simp] theorem acell_ents {l : List Ent} {j : Nat} : acell (ents l) j = ents l := rfl
@[simp] theorem Clo_ents {l : List Ent} : Clo (ents l) := Clo_vec fun x _ j hj => ⟨one_entF, Clo_entF⟩
@[simp] theorem lenT_ents {T : Tab} {t : TypeId} {l : List Ent} : lenT T t (ents l) = sliceT T t := lenT_vec
@[simp] theorem evIndexAddr_ents {T : Tab} {h : Heap} {t : TypeId} {k : IntKind} {m : Int} {l : List Ent} : evIndexAddr T h t (ents l) (.int k m) = match elemT T t with
    | some ei => if 2 = ei.size then some (.vptr 2 (fun j => entF (l.getD m.toNat den) j) 0, 0 ≤ m ∧ m < (l.length : Int)) else none
    | none => none := evIndexAddr_vec
@[simp] theorem evSrc_ents {h : Heap} {l : List Ent} : evSrc h 2 (ents l) = some (l.length, (fun i j => entF (l.getD i den) j), True) := by
  unfold ents
  rw [evSrc_vec rfl]
  rfl
@[simp] theorem evBin_ents {o : BinOp} {v : AVal} {l : List Ent} : evBin o (ents l) v = none := rfl
@[simp] theorem evEq_ents {T : Tab} {t : TypeId} {l : List Ent} : evEq T .eql t (ents l) .nils = if sliceT T t then some (.ub (l.length = 0)) else none := rfl
@[simp] theorem VLe_ents_nils {h : Heap} {σ : Lift.Id → Lift.Id} {fz : Nat → Bool} {vz : Lift.Id → Bool} {x : Nat} {l : List Ent} : VLe h σ fz vz x (ents l) .nils = (l.length = 0) := rfl
@[simp] theorem VLe_ents_sl {h : Heap} {σ : Lift.Id → Lift.Id} {fz : Nat → Bool} {vz : Lift.Id → Bool} {y lo x' : Nat} {id : Lift.Id} {l : List Ent} : VLe h σ fz vz y (ents l) (.sl id lo x') = (x' = l.length ∧ fz id.1 = true ∧ match lkH h id with
    | some (.arr N s' g') => s' = 2 ∧ lo + l.length ≤ N ∧ ∀ i, i < l.length → ∀ j, j < 2 → (entF (l.getD i den) j).one = true ∧ VLe h σ fz vz y (entF (l.getD i den) j) (g' (lo + i) j)
    | _ => False) := VLe_vsl_sl
@[simp] theorem VLe_ents_vsl {h : Heap} {σ : Lift.Id → Lift.Id} {fz : Nat → Bool} {vz : Lift.Id → Bool} {x' s' y : Nat} {g' : Nat → Nat → AVal} {l : List Ent} : VLe h σ fz vz y (ents l) (.vsl x' s' g') = (x' = l.length ∧ s' = 2 ∧ ∀ i, i < l.length → ∀ j, j < 2 → (entF (l.getD i den) j).one = true ∧ VLe h σ fz vz y (entF (l.getD i den) j) (g' i j)) := rfl

@[simp] theorem ren_ents {ρ : Nat → Nat} {l : List Ent} : ren ρ (ents l) = ents l := ren_vec fun _ _ => ren_entF
def decF (e : Dec) (j : Nat) : AVal := match j with
  | 0 => .int .i64 e.letters
  | 1 => .int .i64 e.block
  | 2 => .int .i64 e.inputs
  | 3 => .int .i64 e.past
  | 4 => .int .i64 e.future
  | _ => ents e.ents
@[simp] theorem decF0 {e : Dec} : decF e 0 = .int .i64 e.letters := rfl
@[simp] theorem decF1 {e : Dec} : decF e 1 = .int .i64 e.block := rfl
@[simp] theorem decF2 {e : Dec} : decF e 2 = .int .i64 e.inputs := rfl
@[simp] theorem decF3 {e : Dec} : decF e 3 = .int .i64 e.past := rfl
@[simp] theorem decF4 {e : Dec} : decF e 4 = .int .i64 e.future := rfl
@[simp] theorem decF5 {e : Dec} : decF e 5 = ents e.ents := rfl
@[simp] theorem one_decF {e : Dec} {j : Nat} : (decF e j).one = true := by unfold decF; split <;> rfl
@[simp] theorem Clo_decF {e : Dec} {j : Nat} : Clo (decF e j) := by unfold decF; split <;> first | trivial | exact Clo_ents
@[simp] theorem ren_decF {ρ : Nat → Nat} {e : Dec} {j : Nat} : ren ρ (decF e j) = decF e j := by unfold decF; split <;> first | rfl | exact ren_ents

/-- one word before another. -/
theorem less_irrefl (a : List UInt8) : Op.bytesLess a a = false := by
  rw [Go.Proofs.bytesLess_eq, decide_eq_false_iff_not]
  exact List.lt_irrefl a
theorem less_trans {a b c : List UInt8} (h1 : Op.bytesLess a b = true) (h2 : Op.bytesLess b c = true) : Op.bytesLess a c = true := by
  rw [Go.Proofs.bytesLess_eq, decide_eq_true_eq] at *
  exact List.lt_trans h1 h2
theorem less_total {a b : List UInt8} (h1 : Op.bytesLess a b = false) (h2 : Op.bytesLess b a = false) : a = b := by
  rw [Go.Proofs.bytesLess_eq, decide_eq_false_iff_not] at *
  exact List.le_antisymm (List.not_lt.1 h2) (List.not_lt.1 h1)
theorem less_asymm {a b : List UInt8} (h : Op.bytesLess a b = true) : Op.bytesLess b a = false := by
  cases h2 : Op.bytesLess b a with
  | false => rfl
  | true => have := less_trans h h2; rw [less_irrefl] at this; cases this
/-- not greater, as the program asks it. -/
theorem leq_less {a b : List UInt8} : (Op.bytesLess a b || decide (a = b)) = !Op.bytesLess b a := by
  cases h1 : Op.bytesLess a b with
  | true => rw [less_asymm h1]; rfl
  | false =>
    cases h2 : Op.bytesLess b a with
    | true =>
      have : ¬ a = b := fun e => by rw [e, less_irrefl] at h2; cases h2
      simp [this]
    | false => simp [less_total h1 h2]
def cmpS (a b : List UInt8) : Int := if Op.bytesLess a b = true then -1 else if Op.bytesLess b a = true then 1 else 0
theorem cmpS_neg {a b : List UInt8} : cmpS a b < 0 ↔ Op.bytesLess a b = true := by
  unfold cmpS
  split
  · rename_i h; simp [h]
  · rename_i h; split <;> simp [h]
theorem cmpS_zero {a b : List UInt8} : cmpS a b = 0 ↔ a = b := by
  unfold cmpS
  split
  · rename_i h; constructor
    · intro e; cases e
    · intro e; rw [e, less_irrefl] at h; cases h
  · rename_i h1; split
    · rename_i h; constructor
      · intro e; cases e
      · intro e; rw [e, less_irrefl] at h; cases h
    · rename_i h2; exact ⟨fun _ => less_total (by simpa using h1) (by simpa using h2), fun _ => rfl⟩

def lessE (w : List UInt8) (x : Ent) : Bool := Op.bytesLess x.win w
def Asc (l : List Ent) : Prop := l.Pairwise fun a b => Op.bytesLess a.win b.win = true
theorem asc_at {l : List Ent} (h : Asc l) {i j : Nat} (hij : i < j) (hj : j < l.length) : Op.bytesLess (l.getD i den).win (l.getD j den).win = true := by
  have := List.pairwise_iff_getElem.1 h i j (by omega) hj hij
  simpa [List.getD, hj, show i < l.length by omega] using this
theorem asc_of {l : List Ent} (h : ∀ i, i + 1 < l.length → Op.bytesLess (l.getD i den).win (l.getD (i + 1) den).win = true) : Asc l := by
  refine List.pairwise_iff_getElem.2 fun i j hi hj hij => ?_
  have key : ∀ d, i + d + 1 < l.length → Op.bytesLess (l.getD i den).win (l.getD (i + d + 1) den).win = true := by
    intro d
    induction d with
    | zero => exact fun hd => h i hd
    | succ d ih => exact fun hd => less_trans (ih (by omega)) (h (i + d + 1) hd)
  have := key (j - i - 1) (by omega)
  rw [show i + (j - i - 1) + 1 = j by omega] at this
  simpa [List.getD, hj, hi] using this
/-- how many windows are less. -/
def lowE (l : List Ent) (w : List UInt8) : Nat := (l.filter (lessE w)).length
theorem lowE_le {l : List Ent} {w : List UInt8} : lowE l w ≤ l.length := List.length_filter_le _ _
theorem low_of {w : List UInt8} : ∀ {l : List Ent} {k : Nat}, k ≤ l.length → (∀ j, j < k → lessE w (l.getD j den) = true) → (∀ j, k ≤ j → j < l.length → lessE w (l.getD j den) = false) → lowE l w = k
  | [], 0, _, _, _ => rfl
  | [], k + 1, h, _, _ => absurd h (Nat.not_succ_le_zero k)
  | x :: l, 0, _, _, h => by
    unfold lowE
    rw [List.length_eq_zero_iff, List.filter_eq_nil_iff]
    intro y hy
    obtain ⟨j, hj, rfl⟩ := List.mem_iff_getElem.1 hy
    have := h j (Nat.zero_le _) hj
    simp only [List.getD, List.getElem?_eq_getElem hj, Option.getD_some] at this
    rw [this]; simp
  | x :: l, k + 1, hk, h1, h2 => by
    have hx : lessE w x = true := h1 0 (Nat.succ_pos _)
    have ih := low_of (w := w) (l := l) (k := k) (by simpa using hk) (fun j hj => by simpa using h1 (j + 1) (by omega)) (fun j hj hl => by simpa using h2 (j + 1) (by omega) (by simpa using hl))
    unfold lowE at ih ⊢
    rw [List.filter_cons_of_pos hx, List.length_cons, ih]
theorem low_exists {l : List Ent} (h : Asc l) (w : List UInt8) : ∃ k, k ≤ l.length ∧ (∀ j, j < k → lessE w (l.getD j den) = true) ∧ ∀ j, k ≤ j → j < l.length → lessE w (l.getD j den) = false := by
  induction l with
  | nil => exact ⟨0, Nat.le_refl _, fun j hj => absurd hj (Nat.not_lt_zero _), fun j _ hj => absurd hj (Nat.not_lt_zero _)⟩
  | cons x l ih =>
    obtain ⟨hx, hl⟩ := List.pairwise_cons.1 h
    cases hxw : lessE w x with
    | false =>
      refine ⟨0, Nat.zero_le _, fun j hj => absurd hj (Nat.not_lt_zero _), fun j _ hj => ?_⟩
      cases j with
      | zero => exact hxw
      | succ j =>
        have hj' : j < l.length := by simpa using hj
        have hm : l.getD j den ∈ l := getD_mem hj'
        simp only [List.getD_cons_succ]
        cases h2 : lessE w (l.getD j den) with
        | false => rfl
        | true => unfold lessE at h2 hxw; rw [less_trans (hx _ hm) h2] at hxw; cases hxw
    | true =>
      obtain ⟨k, h1, h2, h3⟩ := ih hl
      refine ⟨k + 1, by simpa using h1, fun j hj => ?_, fun j hkj hj => ?_⟩
      · cases j with
        | zero => exact hxw
        | succ j => simpa using h2 j (by omega)
      · cases j with
        | zero => omega
        | succ j => simpa using h3 j (by omega) (by simpa using hj)
theorem low_spec {l : List Ent} (h : Asc l) (w : List UInt8) : (∀ j, j < lowE l w → lessE w (l.getD j den) = true) ∧ ∀ j, lowE l w ≤ j → j < l.length → lessE w (l.getD j den) = false := by
  obtain ⟨k, h1, h2, h3⟩ := low_exists h w
  rw [low_of h1 h2 h3]
  exact ⟨h2, h3⟩

/-- the input of a window. -/
def lookE (l : List Ent) (w : List UInt8) : Option Int := (l.find? fun x => decide (x.win = w)).map (·.inp)
theorem asc_inj {l : List Ent} (h : Asc l) {x y : Ent} (hx : x ∈ l) (hy : y ∈ l) (e : x.win = y.win) : x = y := by
  obtain ⟨i, hi, rfl⟩ := List.mem_iff_getElem.1 hx
  obtain ⟨j, hj, rfl⟩ := List.mem_iff_getElem.1 hy
  rcases Nat.lt_trichotomy i j with h1 | h1 | h1
  · have := List.pairwise_iff_getElem.1 h i j hi hj h1
    rw [e, less_irrefl] at this; cases this
  · subst h1; rfl
  · have := List.pairwise_iff_getElem.1 h j i hj hi h1
    rw [e, less_irrefl] at this; cases this
theorem look_none {l : List Ent} {w : List UInt8} : lookE l w = none ↔ ∀ x ∈ l, x.win ≠ w := by
  unfold lookE
  rw [Option.map_eq_none_iff, List.find?_eq_none]
  simp
theorem look_some {l : List Ent} (h : Asc l) {w : List UInt8} {i : Int} : lookE l w = some i ↔ (⟨w, i⟩ : Ent) ∈ l := by
  unfold lookE
  constructor
  · intro h2
    obtain ⟨x, hx, rfl⟩ := Option.map_eq_some_iff.1 h2
    have h3 := List.find?_some hx
    have h4 := List.mem_of_find?_eq_some hx
    simp only [decide_eq_true_eq] at h3
    subst h3
    exact h4
  · intro hm
    cases hf : l.find? fun x => decide (x.win = w) with
    | none => rw [List.find?_eq_none] at hf; have h9 := hf _ hm; simp at h9
    | some y =>
      have h3 := List.find?_some hf
      have h4 := List.mem_of_find?_eq_some hf
      simp only [decide_eq_true_eq] at h3
      have := asc_inj h h4 hm h3
      rw [this]; rfl
/-- what is found lies at the least window that is not less. -/
theorem look_low {l : List Ent} (h : Asc l) (w : List UInt8) : lookE l w = if lowE l w < l.length ∧ (l.getD (lowE l w) den).win = w then some (l.getD (lowE l w) den).inp else none := by
  obtain ⟨h1, h2⟩ := low_spec h w
  by_cases hc : lowE l w < l.length ∧ (l.getD (lowE l w) den).win = w
  · rw [if_pos hc, look_some h]
    have hm : l.getD (lowE l w) den ∈ l := getD_mem hc.1
    have : (⟨w, (l.getD (lowE l w) den).inp⟩ : Ent) = l.getD (lowE l w) den := by
      cases he : l.getD (lowE l w) den with
      | mk a b => rw [he] at hc; simp only at hc; rw [hc.2]
    rw [this]; exact hm
  · rw [if_neg hc, look_none]
    rintro x hx rfl
    obtain ⟨j, hj, rfl⟩ := List.mem_iff_getElem.1 hx
    have hg : l.getD j den = l[j] := by simp [List.getD, hj]
    have h3 : ¬ j < lowE l l[j].win := fun hl => by
      have := h1 j hl
      rw [hg] at this
      unfold lessE at this
      rw [less_irrefl] at this; cases this
    have h4 : ¬ lowE l l[j].win < j := fun hl => by
      have a := h2 _ (Nat.le_refl _) (by omega)
      have b := asc_at h hl hj
      rw [hg] at b
      unfold lessE at a
      rw [b] at a; cases a
    have h5 : lowE l l[j].win = j := by omega
    exact hc (by rw [h5, hg]; exact ⟨hj, rfl⟩)
/-- an entry put in at its place. -/
def putE (l : List Ent) (x : Ent) : List Ent := l.take (lowE l x.win) ++ x :: l.drop (lowE l x.win)
theorem putE_perm {l : List Ent} {x : Ent} : (putE l x).Perm (x :: l) := by
  unfold putE
  refine List.perm_middle.trans ?_
  rw [List.take_append_drop]
theorem putE_asc {l : List Ent} {x : Ent} (h : Asc l) (hn : lookE l x.win = none) : Asc (putE l x) := by
  obtain ⟨h1, h2⟩ := low_spec h x.win
  have hle := lowE_le (l := l) (w := x.win)
  unfold putE Asc
  rw [List.pairwise_append]
  refine ⟨h.sublist (List.take_sublist ..), List.pairwise_cons.2 ⟨fun y hy => ?_, h.sublist (List.drop_sublist ..)⟩, fun a ha b hb => ?_⟩
  · obtain ⟨i, hi, rfl⟩ := List.mem_iff_getElem.1 hy
    simp only [List.length_drop] at hi
    rw [List.getElem_drop]
    have h3 := h2 (lowE l x.win + i) (by omega) (by omega)
    rw [List.getD_eq_getElem?_getD, List.getElem?_eq_getElem (by omega)] at h3
    simp only [Option.getD_some] at h3
    cases h4 : Op.bytesLess x.win l[lowE l x.win + i].win with
    | true => rfl
    | false => exact absurd (less_total h3 h4) ((look_none.1 hn) _ (List.getElem_mem _))
  · obtain ⟨i, hi, rfl⟩ := List.mem_iff_getElem.1 ha
    simp only [List.length_take] at hi
    rw [List.getElem_take]
    have h3 := h1 i (by omega)
    rw [List.getD_eq_getElem?_getD, List.getElem?_eq_getElem (by omega)] at h3
    simp only [Option.getD_some] at h3
    rcases List.mem_cons.1 hb with rfl | hb
    · exact h3
    · obtain ⟨k, hk, rfl⟩ := List.mem_iff_getElem.1 hb
      simp only [List.length_drop] at hk
      rw [List.getElem_drop]
      exact List.pairwise_iff_getElem.1 h i (lowE l x.win + k) (by omega) (by omega) (by omega)
theorem asc_ext : ∀ {l m : List Ent}, Asc l → Asc m → l.Perm m → l = m := by
  intro l m h1 h2 hp
  refine List.Perm.eq_of_pairwise (le := fun (a b : Ent) => Op.bytesLess a.win b.win = true) (fun a b _ _ ha hb => ?_) h1 h2 hp
  rw [less_asymm ha] at hb; cases hb

/-- a list gone through, with a state, until a step stops. -/
def goS {S X : Type} (f : S → X → S × Bool) : S → List X → S × Bool
  | s, [] => (s, false)
  | s, x :: l => if (f s x).2 = true then ((f s x).1, true) else goS f (f s x).1 l
theorem goS_append {S X : Type} {f : S → X → S × Bool} : ∀ {a b : List X} {s : S}, goS f s (a ++ b) = if (goS f s a).2 = true then goS f s a else goS f (goS f s a).1 b
  | [], b, s => by simp [goS]
  | x :: a, b, s => by
    cases h : (f s x).2 with
    | true => simp [goS, h]
    | false => simp only [List.cons_append, goS, h, Bool.false_eq_true, if_false]; exact goS_append
end Go.Proofs.Ytmdnpbilnelogaa
