/- Parts of the proof: DF DG. -/
import Derived.Test.YtoafgeobhhlplaaZA18
namespace Go.Proofs.Ytoafgeobhhlplaa
set_option linter.unusedSimpArgs false
set_option linter.unusedVariables false
open Go Go.Lift
def AtM (W : List Wd) (i : Nat) (s : Wd) : Prop := ∃ k, k < W.length ∧ k ≠ i ∧ s ∈ runS W [W.getD k []] (W.getD i [])
def runR (W : List Wd) (R : List Rc) (u : Wd) : List Rc := u.foldl (fun R l => R.flatMap fun p => aft W p l) R
section
variable {W : List Wd} {q : Nat}
theorem opn_at {i : Nat} {u : Wd} : opn W i u ↔ ∃ s, AtM W i s ∧ rd W [] u = true ∧ rd W s u = true := by
  constructor
  · rintro ⟨h1, k, hk, hne, h2⟩
    obtain ⟨s, hs, h3⟩ := run_one.1 h2
    exact ⟨s, ⟨k, hk, hne, hs⟩, h1, h3⟩
  · rintro ⟨s, ⟨k, hk, hne, hs⟩, h1, h2⟩
    exact ⟨h1, k, hk, hne, run_one.2 ⟨s, hs, h2⟩⟩
theorem opn_gn {i n : Nat} : (∃ u, u.length = n ∧ opn W i u) ↔ ∃ s, AtM W i s ∧ Gn W n [] s := by
  constructor
  · rintro ⟨u, e, h⟩
    obtain ⟨s, hs, h1, h2⟩ := opn_at.1 h
    exact ⟨s, hs, u, e, h1, h2⟩
  · rintro ⟨s, hs, u, e, h1, h2⟩
    exact ⟨u, e, opn_at.2 ⟨s, hs, h1, h2⟩⟩
theorem runR_snoc {R : List Rc} {u : Wd} {l : UInt8} : runR W R (u ++ [l]) = (runR W R u).flatMap fun p => aft W p l := by
  unfold runR; rw [List.foldl_append]; rfl
theorem runR_rd : ∀ {u t : Wd} {R : List Rc}, (∃ p ∈ R, rd W p.1 (u ++ t) = true ∧ rd W p.2 (u ++ t) = true) ↔ ∃ p ∈ runR W R u, rd W p.1 t = true ∧ rd W p.2 t = true
  | [], t, R => Iff.rfl
  | l :: u, t, R => by
    show _ ↔ ∃ p ∈ runR W (R.flatMap fun p => aft W p l) u, _
    rw [← runR_rd]
    constructor
    · rintro ⟨p, hp, h1, h2⟩
      obtain ⟨a, ha, h3⟩ := rd_step.1 h1
      obtain ⟨b, hb, h4⟩ := rd_step.1 h2
      exact ⟨(a, b), List.mem_flatMap.2 ⟨p, hp, aft_mem.2 ⟨ha, hb⟩⟩, h3, h4⟩
    · rintro ⟨r, hr, h1, h2⟩
      obtain ⟨p, hp, h3⟩ := List.mem_flatMap.1 hr
      obtain ⟨h4, h5⟩ := aft_mem.1 h3
      exact ⟨p, hp, rd_step.2 ⟨_, h4, h1⟩, rd_step.2 ⟨_, h5, h2⟩⟩
def exO (W : List Wd) (i k : Nat) (u : Wd) : Prop := ∃ t : Wd, t.length = k ∧ opn W i (u ++ t)
theorem exO_zero {i : Nat} {u : Wd} : exO W i 0 u ↔ opn W i u := by
  constructor
  · rintro ⟨t, e, h⟩
    have : t = [] := List.length_eq_zero_iff.1 e
    subst this
    simpa using h
  · intro h; exact ⟨[], rfl, by simpa using h⟩
theorem exO_succ (hW : ∀ w ∈ W, LtOK q w) {i k : Nat} {u : Wd} : exO W i (k + 1) u ↔ ∃ j, j < q ∧ exO W i k (u ++ [letters.getD j 0]) := by
  constructor
  · rintro ⟨t, e, h⟩
    cases t with
    | nil => cases e
    | cons l t =>
      obtain ⟨s, hs, h1, h2⟩ := opn_at.1 h
      -- the letter is one
      have hl : ∃ j, j < q ∧ letters.getD j 0 = l := by
        have h3 := run_one.1 (show rd W [] (u ++ (l :: t)) = true from h1)
        obtain ⟨r, hr, h4⟩ := h3
        obtain ⟨r', h5, _⟩ := rd_step.1 h4
        have hok : ∀ (v : Wd) (S : List Wd), (∀ s ∈ S, LtOK q s) → ∀ s ∈ runS W S v, LtOK q s := by
          intro v
          induction v with
          | nil => intro S hS s hs; exact hS s hs
          | cons a v ih =>
            intro S hS
            refine ih _ fun s hs => ?_
            obtain ⟨b, hb, h6⟩ := List.mem_flatMap.1 hs
            exact (rst_ok hW (hS b hb) h6).1
        exact (rst_ok hW (hok u [[]] (fun s hs => by rw [List.mem_singleton.1 hs]; exact fun c hc => by cases hc) r hr) h5).2
      obtain ⟨j, hj, e2⟩ := hl
      refine ⟨j, hj, t, by simpa using e, ?_⟩
      rw [e2, List.append_assoc]; exact h
  · rintro ⟨j, hj, t, e, h⟩
    refine ⟨letters.getD j 0 :: t, by simp [e], ?_⟩
    rw [List.append_assoc] at h; exact h
open Classical in
noncomputable def grW (W : List Wd) (q i : Nat) : Nat → Wd → Wd
  | 0, u => u
  | k + 1, u => match (List.range q).find? fun j => decide (exO W i k (u ++ [letters.getD j 0])) with
    | some j => grW W q i k (u ++ [letters.getD j 0])
    | none => u
open Classical in
noncomputable def fstW (W : List Wd) (q i n : Nat) : Option Wd := if exO W i n [] then some (grW W q i n []) else none
theorem gr_step {i k j : Nat} {u : Wd} (hj : j < q) (h : exO W i k (u ++ [letters.getD j 0])) (hn : ∀ j', j' < j → ¬ exO W i k (u ++ [letters.getD j' 0])) : grW W q i (k + 1) u = grW W q i k (u ++ [letters.getD j 0]) := by
  have e : ((List.range q).find? fun j => @decide (exO W i k (u ++ [letters.getD j 0])) (Classical.propDecidable _)) = some j := by
    rw [List.find?_eq_some_iff_getElem]
    refine ⟨by simpa using h, j, by simpa using hj, by simp, fun j' h' => ?_⟩
    rw [List.getElem_range]
    simpa using hn j' h'
  show (match (List.range q).find? fun j => @decide (exO W i k (u ++ [letters.getD j 0])) (Classical.propDecidable _) with
    | some j => grW W q i k (u ++ [letters.getD j 0])
    | none => u) = _
  rw [e]
theorem gr_opn (hW : ∀ w ∈ W, LtOK q w) {i : Nat} : ∀ k {u : Wd}, exO W i k u → opn W i (grW W q i k u) ∧ (grW W q i k u).length = u.length + k ∧ u <+: grW W q i k u
  | 0, u, h => ⟨exO_zero.1 h, rfl, List.prefix_refl _⟩
  | k + 1, u, h => by
    obtain ⟨j, hj, h1⟩ := (exO_succ hW).1 h
    -- the least
    have hex : ∃ j, j < q ∧ exO W i k (u ++ [letters.getD j 0]) ∧ ∀ j', j' < j → ¬ exO W i k (u ++ [letters.getD j' 0]) := by
      clear h
      induction j using Nat.strongRecOn with
      | ind j ih =>
        by_cases hc : ∀ j', j' < j → ¬ exO W i k (u ++ [letters.getD j' 0])
        · exact ⟨j, hj, h1, hc⟩
        · have : ∃ j', j' < j ∧ exO W i k (u ++ [letters.getD j' 0]) := Classical.byContradiction fun hc2 => hc fun j' h1 h2 => hc2 ⟨j', h1, h2⟩
          obtain ⟨j', h2, h3⟩ := this
          exact ih j' h2 (by omega) h3
    obtain ⟨j, hj, h1, h2⟩ := hex
    rw [gr_step hj h1 h2]
    obtain ⟨a, b, c⟩ := gr_opn hW k h1
    refine ⟨a, by rw [b]; simp; omega, (List.prefix_append _ _).trans c⟩
theorem fst_some (hW : ∀ w ∈ W, LtOK q w) {i n : Nat} {u : Wd} (h : fstW W q i n = some u) : opn W i u ∧ u.length = n := by
  unfold fstW at h
  split at h
  · rename_i h1
    injection h with h
    subst h
    obtain ⟨a, b, _⟩ := gr_opn hW n h1
    exact ⟨a, by rw [b]; simp⟩
  · cases h
def NowR (W : List Wd) (i k : Nat) (u : Wd) (p : Rc) : Prop := (∃ s, AtM W i s ∧ p ∈ runR W [([], s)] u) ∧ Gn W k p.1 p.2
theorem now_zero {i k : Nat} {p : Rc} : NowR W i k [] p ↔ (p.1 = [] ∧ AtM W i p.2) ∧ Gn W k p.1 p.2 := by
  unfold NowR
  constructor
  · rintro ⟨⟨s, hs, h⟩, hg⟩
    have := List.mem_singleton.1 h
    subst this
    exact ⟨⟨rfl, hs⟩, hg⟩
  · rintro ⟨⟨h1, h2⟩, hg⟩
    exact ⟨⟨p.2, h2, List.mem_singleton.2 (by rw [← h1])⟩, hg⟩
theorem now_succ {i k : Nat} {u : Wd} {l : UInt8} {y : Rc} : NowR W i k (u ++ [l]) y ↔ (∃ p, NowR W i (k + 1) u p ∧ y ∈ aft W p l) ∧ Gn W k y.1 y.2 := by
  unfold NowR
  constructor
  · rintro ⟨⟨s, hs, h⟩, hg⟩
    rw [runR_snoc] at h
    obtain ⟨p, hp, hy⟩ := List.mem_flatMap.1 h
    exact ⟨⟨p, ⟨⟨s, hs, hp⟩, Gn_succ.2 ⟨l, y, hy, hg⟩⟩, hy⟩, hg⟩
  · rintro ⟨⟨p, ⟨⟨s, hs, hp⟩, _⟩, hy⟩, hg⟩
    exact ⟨⟨s, hs, by rw [runR_snoc]; exact List.mem_flatMap.2 ⟨p, hp, hy⟩⟩, hg⟩
theorem now_ex {i k : Nat} {u : Wd} : exO W i k u ↔ ∃ p, NowR W i k u p := by
  unfold NowR
  constructor
  · rintro ⟨t, e, h⟩
    obtain ⟨s, hs, h1, h2⟩ := opn_at.1 h
    obtain ⟨p, hp, h3, h4⟩ := runR_rd.1 ⟨([], s), List.mem_singleton.2 rfl, h1, h2⟩
    exact ⟨p, ⟨s, hs, hp⟩, t, e, h3, h4⟩
  · rintro ⟨p, ⟨s, hs, hp⟩, t, e, h3, h4⟩
    obtain ⟨r, hr, h1, h2⟩ := runR_rd.2 ⟨p, hp, h3, h4⟩
    have := List.mem_singleton.1 hr
    subst this
    exact ⟨t, e, opn_at.2 ⟨s, hs, h1, h2⟩⟩
theorem rv_ge {p : Rc} {r : Int} (h : RvOK W p r) {n : Nat} (hn : n ≤ 100000) : (n : Int) ≤ r ↔ Gn W n p.1 p.2 := by
  rcases h with ⟨v, hv, rfl⟩ | ⟨rfl, h⟩
  · constructor
    · intro h1; exact Gn_less (by omega) hv.1
    · intro h1
      refine Int.not_lt.1 fun h2 => hv.2 (Gn_less (by omega) h1)
  · constructor
    · intro _; exact h n
    · intro _; unfold forever; omega
theorem dl_races {d : Nat} {m : Int} (h1 : ∀ i s, i < W.length → AtM W i s → ∃ v : Nat, HV W ([], s) v ∧ (v : Int) ≤ m) (h2 : m = -1 ∨ ∃ i s, i < W.length ∧ AtM W i s ∧ ∃ v : Nat, HV W ([], s) v ∧ m = v) (hd : (d : Int) = m + 1) : DlIs W d := by
  constructor
  · intro i u hi ho
    obtain ⟨s, hs, hg⟩ := opn_gn.1 ⟨u, rfl, ho⟩
    obtain ⟨v, hv, hle⟩ := h1 i s hi hs
    refine Nat.not_le.1 fun h3 => hv.2 (Gn_less (by omega) hg)
  · intro n hn
    rcases h2 with h2 | ⟨i, s, hi, hs, v, hv, e⟩
    · omega
    · exact ⟨i, hi, opn_gn.2 ⟨s, hs, Gn_less (by omega) hv.1⟩⟩
theorem dl_never {i : Nat} {s : Wd} (hi : i < W.length) (hs : AtM W i s) (h : ∀ n, Gn W n [] s) : DlNo W := ⟨i, hi, fun n => opn_gn.2 ⟨s, hs, h n⟩⟩
end
end Go.Proofs.Ytoafgeobhhlplaa
namespace Go.Proofs.Ytoafgeobhhlplaa
set_option linter.unusedSimpArgs false
set_option linter.unusedVariables false
open Go Go.Lift
def stB (W : List Wd) (k : Nat) (v : Wd) : Bool := rd W (W.getD k []) v
def othF (W : List Wd) (v : Wd) (x : Nat) : Option Nat := (List.range W.length).find? fun y => decide (y ≠ x) && stB W y v
def othN (W : List Wd) (v : Wd) (x : Nat) : Int := match othF W v x with
  | some y => y
  | none => -1
def cerB (W : List Wd) (d : Nat) (w : Wd) (i : Nat) : Bool := decide ((W.getD i []).length + d ≤ w.length) && decide (W.getD i [] <+: w) && stB W i (w.take ((W.getD i []).length + d)) && !(othF W (w.take ((W.getD i []).length + d)) i).isSome
def cerF (W : List Wd) (d : Nat) (w : Wd) : Option Nat := (List.range W.length).find? (cerB W d w)
def rdS (W : List Wd) (d : Nat) (w : Wd) : Nat → List Int × Nat
  | 0 => ([], 0)
  | k + 1 => match cerF W d (w.drop (rdS W d w k).2) with
    | some i => ((rdS W d w k).1 ++ [(i : Int)], (rdS W d w k).2 + (W.getD i []).length)
    | none => rdS W d w k
def rdR (W : List Wd) (d : Nat) (w : Wd) : List Int × Nat := rdS W d w w.length
section
variable {W : List Wd} {q : Nat}
theorem oth_some {v : Wd} {x y : Nat} (h : othF W v x = some y) : y < W.length ∧ y ≠ x ∧ stB W y v = true := by
  unfold othF at h
  have h1 := List.find?_some h
  rw [Bool.and_eq_true, decide_eq_true_eq] at h1
  exact ⟨List.mem_range.1 (List.mem_of_find?_eq_some h), h1.1, h1.2⟩
theorem oth_none {v : Wd} {x : Nat} (h : othF W v x = none) {y : Nat} (hy : y < W.length) (hne : y ≠ x) : stB W y v = false := by
  unfold othF at h
  have := List.find?_eq_none.1 h y (List.mem_range.2 hy)
  simpa [hne] using this
theorem oth_at {v : Wd} {x y : Nat} (hy : y < W.length) (hne : y ≠ x) (h : stB W y v = true) (hn : ∀ j, j < y → j ≠ x → stB W j v = false) : othF W v x = some y := by
  unfold othF
  rw [List.find?_eq_some_iff_getElem]
  refine ⟨by simp [hne, h], y, by simpa using hy, by simp, fun j hj => ?_⟩
  rw [List.getElem_range]
  by_cases e : j = x
  · simp [e]
  · simp [e, hn j hj e]
theorem oth_no {v : Wd} {x : Nat} (hn : ∀ j, j < W.length → j ≠ x → stB W j v = false) : othF W v x = none := by
  unfold othF
  rw [List.find?_eq_none]
  intro j hj
  by_cases e : j = x
  · simp [e]
  · simp [e, hn j (List.mem_range.1 hj) e]
theorem oth_iff {v : Wd} {x : Nat} : (othF W v x).isSome = true ↔ ∃ y, y < W.length ∧ y ≠ x ∧ stB W y v = true := by
  constructor
  · intro h
    obtain ⟨y, hy⟩ := Option.isSome_iff_exists.1 h
    exact ⟨y, oth_some hy⟩
  · rintro ⟨y, hy, hne, h⟩
    cases e : othF W v x with
    | some z => rfl
    | none => rw [oth_none e hy hne] at h; cases h
theorem opn_two {i k : Nat} {v : Wd} (hk : k < W.length) (hne : k ≠ i) (hp : W.getD i [] <+: v) (h1 : stB W i v = true) (h2 : stB W k v = true) : ∃ u, v = W.getD i [] ++ u ∧ opn W i u := by
  obtain ⟨u, rfl⟩ := hp
  refine ⟨u, rfl, ?_, k, hk, hne, h2⟩
  unfold stB at h1
  rwa [rd_app0] at h1
theorem opn_st {i : Nat} {u : Wd} (h : opn W i u) : stB W i (W.getD i [] ++ u) = true ∧ (othF W (W.getD i [] ++ u) i).isSome = true := by
  obtain ⟨h1, k, hk, hne, h2⟩ := h
  exact ⟨by unfold stB; rw [rd_app0]; exact h1, oth_iff.2 ⟨k, hk, hne, h2⟩⟩
theorem cer_some {d : Nat} {w : Wd} {i : Nat} (h : cerF W d w = some i) : i < W.length ∧ (W.getD i []).length + d ≤ w.length ∧ W.getD i [] <+: w ∧ stB W i (w.take ((W.getD i []).length + d)) = true ∧ othF W (w.take ((W.getD i []).length + d)) i = none := by
  unfold cerF at h
  have h1 := List.find?_some h
  unfold cerB at h1
  simp only [Bool.and_eq_true, decide_eq_true_eq, Bool.not_eq_true'] at h1
  refine ⟨List.mem_range.1 (List.mem_of_find?_eq_some h), h1.1.1.1, h1.1.1.2, h1.1.2, ?_⟩
  cases e : othF W (w.take ((W.getD i []).length + d)) i with
  | none => rfl
  | some y => rw [e] at h1; simp at h1
theorem cer_at {d : Nat} {w : Wd} {i : Nat} (hi : i < W.length) (h : cerB W d w i = true) (hn : ∀ j, j < i → cerB W d w j = false) : cerF W d w = some i := by
  unfold cerF
  rw [List.find?_eq_some_iff_getElem]
  exact ⟨h, i, by simpa using hi, by simp, fun j hj => by rw [List.getElem_range, hn j hj]; rfl⟩
theorem cer_no {d : Nat} {w : Wd} (hn : ∀ j, j < W.length → cerB W d w j = false) : cerF W d w = none := by
  unfold cerF
  rw [List.find?_eq_none]
  intro j hj
  rw [hn j (List.mem_range.1 hj)]; simp
theorem rdS_box {d : Nat} {w : Wd} : ∀ k, (rdS W d w k).2 ≤ w.length
  | 0 => Nat.zero_le _
  | k + 1 => by
    have ih := rdS_box (d := d) (w := w) k
    show (match cerF W d (w.drop (rdS W d w k).2) with
      | some i => ((rdS W d w k).1 ++ [(i : Int)], (rdS W d w k).2 + (W.getD i []).length)
      | none => rdS W d w k).2 ≤ _
    cases e : cerF W d (w.drop (rdS W d w k).2) with
    | none => exact ih
    | some i =>
      have := (cer_some e).2.1
      rw [List.length_drop] at this
      show (rdS W d w k).2 + _ ≤ _
      omega
theorem rdS_some {d : Nat} {w : Wd} {k i : Nat} (h : cerF W d (w.drop (rdS W d w k).2) = some i) : rdS W d w (k + 1) = ((rdS W d w k).1 ++ [(i : Int)], (rdS W d w k).2 + (W.getD i []).length) := by
  show (match cerF W d (w.drop (rdS W d w k).2) with
      | some i => ((rdS W d w k).1 ++ [(i : Int)], (rdS W d w k).2 + (W.getD i []).length)
      | none => rdS W d w k) = _
  rw [h]
theorem rdS_none {d : Nat} {w : Wd} {k : Nat} (h : cerF W d (w.drop (rdS W d w k).2) = none) : rdS W d w (k + 1) = rdS W d w k := by
  show (match cerF W d (w.drop (rdS W d w k).2) with
      | some i => ((rdS W d w k).1 ++ [(i : Int)], (rdS W d w k).2 + (W.getD i []).length)
      | none => rdS W d w k) = _
  rw [h]
theorem rdS_stay {d : Nat} {w : Wd} {k : Nat} (h : cerF W d (w.drop (rdS W d w k).2) = none) : ∀ e, rdS W d w (k + e) = rdS W d w k
  | 0 => rfl
  | e + 1 => by
    show rdS W d w (k + e + 1) = _
    rw [rdS_none (by rw [rdS_stay h e]; exact h), rdS_stay h e]
theorem rdS_count (hW : ∀ x ∈ W, x ≠ []) {d : Nat} {w : Wd} : ∀ k, (∀ j, j < k → cerF W d (w.drop (rdS W d w j).2) ≠ none) → k ≤ (rdS W d w k).2
  | 0, _ => Nat.zero_le _
  | k + 1, h => by
    have ih := rdS_count hW k fun j hj => h j (by omega)
    cases e : cerF W d (w.drop (rdS W d w k).2) with
    | none => exact absurd e (h k (by omega))
    | some i =>
      have := List.length_pos_iff.2 (hW _ (W_mem (cer_some e).1))
      rw [rdS_some e]
      show k + 1 ≤ _ + _
      omega
theorem rdR_end (hW : ∀ x ∈ W, x ≠ []) {d : Nat} {w : Wd} {k : Nat} (hn : ∀ j, j < k → cerF W d (w.drop (rdS W d w j).2) ≠ none) (h : cerF W d (w.drop (rdS W d w k).2) = none) : rdR W d w = rdS W d w k := by
  have h1 := rdS_count hW k hn
  have h2 := rdS_box (W := W) (d := d) (w := w) k
  have := rdS_stay h (w.length - k)
  rwa [show k + (w.length - k) = w.length by omega] at this
end
end Go.Proofs.Ytoafgeobhhlplaa
