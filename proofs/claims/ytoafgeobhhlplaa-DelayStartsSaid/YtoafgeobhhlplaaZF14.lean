/- Parts of the proof: DA. -/
import Derived.Test.YtoafgeobhhlplaaZF12
namespace Go.Proofs.Ytoafgeobhhlplaa
set_option linter.unusedSimpArgs false
set_option linter.unusedVariables false
open Go Go.Lift
abbrev Wd := List UInt8
def rst (W : List Wd) (s : Wd) (l : UInt8) : List Wd := match s with
  | [] => (W.filter fun x => decide (x.head? = some l)).map List.tail
  | h :: t => if h = l then [t] else []
def rd (W : List Wd) : Wd → Wd → Bool
  | _, [] => true
  | s, l :: u => (rst W s l).any fun s' => rd W s' u
section
variable {W : List Wd}
@[simp] theorem rd_nil {s : Wd} : rd W s [] = true := by unfold rd; rfl
theorem rd_step {s : Wd} {l : UInt8} {u : Wd} : rd W s (l :: u) = true ↔ ∃ s' ∈ rst W s l, rd W s' u = true := by
  rw [rd, List.any_eq_true]
theorem rst_nil {l : UInt8} {s : Wd} : s ∈ rst W [] l ↔ l :: s ∈ W := by
  unfold rst
  rw [List.mem_map]
  constructor
  · rintro ⟨x, hx, rfl⟩
    rw [List.mem_filter, decide_eq_true_eq] at hx
    cases x with
    | nil => cases hx.2
    | cons a t => have := hx.2; injection this with this; subst this; exact hx.1
  · intro h
    exact ⟨l :: s, List.mem_filter.2 ⟨h, decide_eq_true rfl⟩, rfl⟩
theorem rst_cons {h l : UInt8} {t s : Wd} : s ∈ rst W (h :: t) l ↔ h = l ∧ s = t := by
  show s ∈ (if h = l then [t] else []) ↔ _
  by_cases e : h = l
  · rw [if_pos e]; simp [e]
  · rw [if_neg e]; simp [e]
theorem rd_cons {h l : UInt8} {t u : Wd} : rd W (h :: t) (l :: u) = true ↔ h = l ∧ rd W t u = true := by
  rw [rd_step]
  constructor
  · rintro ⟨s, hs, hr⟩
    obtain ⟨e, rfl⟩ := rst_cons.1 hs
    exact ⟨e, hr⟩
  · rintro ⟨e, hr⟩
    exact ⟨t, rst_cons.2 ⟨e, rfl⟩, hr⟩
theorem rd_word {l : UInt8} {u : Wd} : rd W [] (l :: u) = true ↔ ∃ s, l :: s ∈ W ∧ rd W s u = true := by
  rw [rd_step]
  constructor
  · rintro ⟨s, hs, hr⟩; exact ⟨s, rst_nil.1 hs, hr⟩
  · rintro ⟨s, hs, hr⟩; exact ⟨s, rst_nil.2 hs, hr⟩
theorem rd_pre : ∀ {s u : Wd}, rd W s u = true ↔ u <+: s ∨ (s <+: u ∧ rd W [] (u.drop s.length) = true)
  | [], u => by
    constructor
    · intro h; exact .inr ⟨List.nil_prefix, h⟩
    · rintro (h | h)
      · rw [List.prefix_nil.1 h]; rfl
      · exact h.2
  | h :: t, [] => by simp
  | h :: t, l :: u => by
    rw [rd_cons, rd_pre (s := t) (u := u), List.cons_prefix_cons, List.cons_prefix_cons]
    constructor
    · rintro ⟨rfl, h1 | h1⟩
      · exact .inl ⟨rfl, h1⟩
      · exact .inr ⟨⟨rfl, h1.1⟩, h1.2⟩
    · rintro (⟨rfl, h1⟩ | ⟨⟨rfl, h1⟩, h2⟩)
      · exact ⟨rfl, .inl h1⟩
      · exact ⟨rfl, .inr ⟨h1, h2⟩⟩
theorem rd_app : ∀ {s u v : Wd}, rd W (s ++ v) (s ++ u) = rd W v u
  | [], u, v => rfl
  | h :: t, u, v => by
    rw [Bool.eq_iff_iff]
    show rd W (h :: (t ++ v)) (h :: (t ++ u)) = true ↔ _
    rw [rd_cons, rd_app]; simp
theorem rd_app0 {s u : Wd} : rd W s (s ++ u) = rd W [] u := by
  have := rd_app (W := W) (s := s) (u := u) (v := [])
  rwa [List.append_nil] at this
theorem rd_less : ∀ {u v s : Wd}, rd W s (u ++ v) = true → rd W s u = true
  | [], v, s, _ => rfl
  | l :: u, v, s, h => by
    obtain ⟨s', h1, h2⟩ := rd_step.1 h
    exact rd_step.2 ⟨s', h1, rd_less h2⟩
theorem rd_less' {u w s : Wd} (h : u <+: w) (hr : rd W s w = true) : rd W s u = true := by
  obtain ⟨v, rfl⟩ := h
  exact rd_less hr
theorem rd_first (hW : ∀ x ∈ W, x ≠ []) {v : Wd} (hv : v ≠ []) : rd W [] v = true ↔ ∃ x ∈ W, rd W x v = true := by
  cases v with
  | nil => exact absurd rfl hv
  | cons l u =>
    rw [rd_word]
    constructor
    · rintro ⟨s, hs, hr⟩; exact ⟨l :: s, hs, rd_cons.2 ⟨rfl, hr⟩⟩
    · rintro ⟨x, hx, hr⟩
      cases x with
      | nil => exact absurd rfl (hW _ hx)
      | cons h t =>
        obtain ⟨rfl, h2⟩ := rd_cons.1 hr
        exact ⟨t, hx, h2⟩
theorem rd_of_word {x u : Wd} (hx : x ∈ W) (h : rd W x u = true) : rd W [] u = true := by
  cases u with
  | nil => rfl
  | cons l u =>
    cases x with
    | nil => exact h
    | cons a t =>
      obtain ⟨rfl, h2⟩ := rd_cons.1 h
      exact rd_word.2 ⟨t, hx, h2⟩
def runS (W : List Wd) (S : List Wd) (u : Wd) : List Wd := u.foldl (fun S l => S.flatMap fun s => rst W s l) S
theorem run_mem : ∀ {v u : Wd} {S : List Wd}, (∃ s ∈ S, rd W s (v ++ u) = true) ↔ ∃ s ∈ runS W S v, rd W s u = true
  | [], u, S => Iff.rfl
  | l :: v, u, S => by
    show _ ↔ ∃ s ∈ runS W (S.flatMap fun s => rst W s l) v, _
    rw [← run_mem]
    constructor
    · rintro ⟨s, hs, hr⟩
      obtain ⟨s', h1, h2⟩ := rd_step.1 hr
      exact ⟨s', List.mem_flatMap.2 ⟨s, hs, h1⟩, h2⟩
    · rintro ⟨s', h1, h2⟩
      obtain ⟨s, hs, h3⟩ := List.mem_flatMap.1 h1
      exact ⟨s, hs, rd_step.2 ⟨s', h3, h2⟩⟩
theorem run_one {s v : Wd} {u : Wd} : rd W s (v ++ u) = true ↔ ∃ s' ∈ runS W [s] v, rd W s' u = true := by
  rw [← run_mem]; simp
theorem run_snoc {S : List Wd} {v : Wd} {l : UInt8} : runS W S (v ++ [l]) = (runS W S v).flatMap fun s => rst W s l := by
  unfold runS; rw [List.foldl_append]; rfl
theorem run_nil_set : ∀ {v : Wd}, runS W [] v = []
  | [] => rfl
  | l :: v => run_nil_set (v := v)
theorem run_app : ∀ {x t : Wd}, runS W [x ++ t] x = [t]
  | [], t => rfl
  | h :: x, t => by
    show runS W (([h :: (x ++ t)] : List Wd).flatMap fun s => rst W s h) x = [t]
    have : ([h :: (x ++ t)] : List Wd).flatMap (fun s => rst W s h) = [x ++ t] := by simp [rst]
    rw [this, run_app]
theorem run_word : ∀ {y t : Wd}, runS W [y] (y ++ t) = runS W [[]] t
  | [], t => rfl
  | h :: y, t => by
    show runS W (([h :: y] : List Wd).flatMap fun s => rst W s h) (y ++ t) = _
    have : ([h :: y] : List Wd).flatMap (fun s => rst W s h) = [y] := by simp [rst]
    rw [this, run_word]
theorem run_off : ∀ {y x : Wd}, ¬ x <+: y → ¬ y <+: x → runS W [y] x = []
  | [], x, _, h => absurd List.nil_prefix h
  | h :: y, [], h1, _ => absurd List.nil_prefix h1
  | h :: y, l :: x, h1, h2 => by
    show runS W (([h :: y] : List Wd).flatMap fun s => rst W s l) x = []
    by_cases e : h = l
    · subst e
      have : ([h :: y] : List Wd).flatMap (fun s => rst W s h) = [y] := by simp [rst]
      rw [this]
      exact run_off (fun h3 => h1 (List.cons_prefix_cons.2 ⟨rfl, h3⟩)) (fun h3 => h2 (List.cons_prefix_cons.2 ⟨rfl, h3⟩))
    · have : ([h :: y] : List Wd).flatMap (fun s => rst W s l) = [] := by simp [rst, e]
      rw [this, run_nil_set]
def Gn (W : List Wd) (n : Nat) (a b : Wd) : Prop := ∃ u : Wd, u.length = n ∧ rd W a u = true ∧ rd W b u = true
theorem Gn_zero {a b : Wd} : Gn W 0 a b := ⟨[], rfl, rfl, rfl⟩
theorem Gn_less {n m : Nat} {a b : Wd} (h : n ≤ m) (hg : Gn W m a b) : Gn W n a b := by
  obtain ⟨u, rfl, h1, h2⟩ := hg
  exact ⟨u.take n, by rw [List.length_take]; omega, rd_less' (List.take_prefix _ _) h1, rd_less' (List.take_prefix _ _) h2⟩
def aft (W : List Wd) (p : Wd × Wd) (l : UInt8) : List (Wd × Wd) := (rst W p.1 l).flatMap fun a => (rst W p.2 l).map fun b => (a, b)
theorem aft_mem {p r : Wd × Wd} {l : UInt8} : r ∈ aft W p l ↔ r.1 ∈ rst W p.1 l ∧ r.2 ∈ rst W p.2 l := by
  unfold aft
  rw [List.mem_flatMap]
  constructor
  · rintro ⟨a, ha, h⟩
    obtain ⟨b, hb, rfl⟩ := List.mem_map.1 h
    exact ⟨ha, hb⟩
  · rintro ⟨h1, h2⟩
    exact ⟨r.1, h1, List.mem_map.2 ⟨r.2, h2, rfl⟩⟩
theorem Gn_succ {n : Nat} {p : Wd × Wd} : Gn W (n + 1) p.1 p.2 ↔ ∃ l, ∃ r ∈ aft W p l, Gn W n r.1 r.2 := by
  constructor
  · rintro ⟨u, e, h1, h2⟩
    cases u with
    | nil => cases e
    | cons l u =>
      obtain ⟨a, ha, ha2⟩ := rd_step.1 h1
      obtain ⟨b, hb, hb2⟩ := rd_step.1 h2
      exact ⟨l, (a, b), aft_mem.2 ⟨ha, hb⟩, u, by simpa using e, ha2, hb2⟩
  · rintro ⟨l, r, hr, u, e, h1, h2⟩
    obtain ⟨ha, hb⟩ := aft_mem.1 hr
    exact ⟨l :: u, by simp [e], rd_step.2 ⟨_, ha, h1⟩, rd_step.2 ⟨_, hb, h2⟩⟩
end
end Go.Proofs.Ytoafgeobhhlplaa
