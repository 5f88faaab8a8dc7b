/- Parts of the proof: DF. -/
import Derived.Test.YtoafgeobhhlplaaZF18
namespace Go.Proofs.Ytoafgeobhhlplaa
set_option linter.unusedSimpArgs false
set_option linter.unusedVariables false
open Go Go.Lift
def AtM (W : List Wd) (i : Nat) (s : Wd) : Prop := ∃ k, k < W.length ∧ k ≠ i ∧ s ∈ runS W [W.getD k []] (W.getD i [])
def runR (W : List Wd) (R : List Rc) (u : Wd) : List Rc := u.foldl (fun R l => R.flatMap fun p => aft W p l) R
section
variable {W : List Wd} {q : Nat}
theorem opn_at {i : Nat} {u : Wd} : opn W i u ↔ ∃ s, AtM W i s ∧ rd W [] u = true ∧ rd W s u = true := by
  constructor
  · rintro ⟨h1, k, hk, hne, h2⟩
    obtain ⟨s, hs, h3⟩ := run_one.1 h2
    exact ⟨s, ⟨k, hk, hne, hs⟩, h1, h3⟩
  · rintro ⟨s, ⟨k, hk, hne, hs⟩, h1, h2⟩
    exact ⟨h1, k, hk, hne, run_one.2 ⟨s, hs, h2⟩⟩
theorem opn_gn {i n : Nat} : (∃ u, u.length = n ∧ opn W i u) ↔ ∃ s, AtM W i s ∧ Gn W n [] s := by
  constructor
  · rintro ⟨u, e, h⟩
    obtain ⟨s, hs, h1, h2⟩ := opn_at.1 h
    exact ⟨s, hs, u, e, h1, h2⟩
  · rintro ⟨s, hs, u, e, h1, h2⟩
    exact ⟨u, e, opn_at.2 ⟨s, hs, h1, h2⟩⟩
theorem runR_snoc {R : List Rc} {u : Wd} {l : UInt8} : runR W R (u ++ [l]) = (runR W R u).flatMap fun p => aft W p l := by
  unfold runR; rw [List.foldl_append]; rfl
theorem runR_rd : ∀ {u t : Wd} {R : List Rc}, (∃ p ∈ R, rd W p.1 (u ++ t) = true ∧ rd W p.2 (u ++ t) = true) ↔ ∃ p ∈ runR W R u, rd W p.1 t = true ∧ rd W p.2 t = true
  | [], t, R => Iff.rfl
  | l :: u, t, R => by
    show _ ↔ ∃ p ∈ runR W (R.flatMap fun p => aft W p l) u, _
    rw [← runR_rd]
    constructor
    · rintro ⟨p, hp, h1, h2⟩
      obtain ⟨a, ha, h3⟩ := rd_step.1 h1
      obtain ⟨b, hb, h4⟩ := rd_step.1 h2
      exact ⟨(a, b), List.mem_flatMap.2 ⟨p, hp, aft_mem.2 ⟨ha, hb⟩⟩, h3, h4⟩
    · rintro ⟨r, hr, h1, h2⟩
      obtain ⟨p, hp, h3⟩ := List.mem_flatMap.1 hr
      obtain ⟨h4, h5⟩ := aft_mem.1 h3
      exact ⟨p, hp, rd_step.2 ⟨_, h4, h1⟩, rd_step.2 ⟨_, h5, h2⟩⟩
def exO (W : List Wd) (i k : Nat) (u : Wd) : Prop := ∃ t : Wd, t.length = k ∧ opn W i (u ++ t)
theorem exO_zero {i : Nat} {u : Wd} : exO W i 0 u ↔ opn W i u := by
  constructor
  · rintro ⟨t, e, h⟩
    have : t = [] := List.length_eq_zero_iff.1 e
    subst this
    simpa using h
  · intro h; exact ⟨[], rfl, by simpa using h⟩
theorem exO_succ (hW : ∀ w ∈ W, LtOK q w) {i k : Nat} {u : Wd} : exO W i (k + 1) u ↔ ∃ j, j < q ∧ exO W i k (u ++ [letters.getD j 0]) := by
  constructor
  · rintro ⟨t, e, h⟩
    cases t with
    | nil => cases e
    | cons l t =>
      obtain ⟨s, hs, h1, h2⟩ := opn_at.1 h
      -- the letter is one
      have hl : ∃ j, j < q ∧ letters.getD j 0 = l := by
        have h3 := run_one.1 (show rd W [] (u ++ (l :: t)) = true from h1)
        obtain ⟨r, hr, h4⟩ := h3
        obtain ⟨r', h5, _⟩ := rd_step.1 h4
        have hok : ∀ (v : Wd) (S : List Wd), (∀ s ∈ S, LtOK q s) → ∀ s ∈ runS W S v, LtOK q s := by
          intro v
          induction v with
          | nil => intro S hS s hs; exact hS s hs
          | cons a v ih =>
            intro S hS
            refine ih _ fun s hs => ?_
            obtain ⟨b, hb, h6⟩ := List.mem_flatMap.1 hs
            exact (rst_ok hW (hS b hb) h6).1
        exact (rst_ok hW (hok u [[]] (fun s hs => by rw [List.mem_singleton.1 hs]; exact fun c hc => by cases hc) r hr) h5).2
      obtain ⟨j, hj, e2⟩ := hl
      refine ⟨j, hj, t, by simpa using e, ?_⟩
      rw [e2, List.append_assoc]; exact h
  · rintro ⟨j, hj, t, e, h⟩
    refine ⟨letters.getD j 0 :: t, by simp [e], ?_⟩
    rw [List.append_assoc] at h; exact h
open Classical in
noncomputable def grW (W : List Wd) (q i : Nat) : Nat → Wd → Wd
  | 0, u => u
  | k + 1, u => match (List.range q).find? fun j => decide (exO W i k (u ++ [letters.getD j 0])) with
    | some j => grW W q i k (u ++ [letters.getD j 0])
    | none => u
open Classical in
noncomputable def fstW (W : List Wd) (q i n : Nat) : Option Wd := if exO W i n [] then some (grW W q i n []) else none
theorem gr_step {i k j : Nat} {u : Wd} (hj : j < q) (h : exO W i k (u ++ [letters.getD j 0])) (hn : ∀ j', j' < j → ¬ exO W i k (u ++ [letters.getD j' 0])) : grW W q i (k + 1) u = grW W q i k (u ++ [letters.getD j 0]) := by
  have e : ((List.range q).find? fun j => @decide (exO W i k (u ++ [letters.getD j 0])) (Classical.propDecidable _)) = some j := by
    rw [List.find?_eq_some_iff_getElem]
    refine ⟨by simpa using h, j, by simpa using hj, by simp, fun j' h' => ?_⟩
    rw [List.getElem_range]
    simpa using hn j' h'
  show (match (List.range q).find? fun j => @decide (exO W i k (u ++ [letters.getD j 0])) (Classical.propDecidable _) with
    | some j => grW W q i k (u ++ [letters.getD j 0])
    | none => u) = _
  rw [e]
theorem gr_opn (hW : ∀ w ∈ W, LtOK q w) {i : Nat} : ∀ k {u : Wd}, exO W i k u → opn W i (grW W q i k u) ∧ (grW W q i k u).length = u.length + k ∧ u <+: grW W q i k u
  | 0, u, h => ⟨exO_zero.1 h, rfl, List.prefix_refl _⟩
  | k + 1, u, h => by
    obtain ⟨j, hj, h1⟩ := (exO_succ hW).1 h
    -- the least
    have hex : ∃ j, j < q ∧ exO W i k (u ++ [letters.getD j 0]) ∧ ∀ j', j' < j → ¬ exO W i k (u ++ [letters.getD j' 0]) := by
      clear h
      induction j using Nat.strongRecOn with
      | ind j ih =>
        by_cases hc : ∀ j', j' < j → ¬ exO W i k (u ++ [letters.getD j' 0])
        · exact ⟨j, hj, h1, hc⟩
        · have : ∃ j', j' < j ∧ exO W i k (u ++ [letters.getD j' 0]) := Classical.byContradiction fun hc2 => hc fun j' h1 h2 => hc2 ⟨j', h1, h2⟩
          obtain ⟨j', h2, h3⟩ := this
          exact ih j' h2 (by omega) h3
    obtain ⟨j, hj, h1, h2⟩ := hex
    rw [gr_step hj h1 h2]
    obtain ⟨a, b, c⟩ := gr_opn hW k h1
    refine ⟨a, by rw [b]; simp; omega, (List.prefix_append _ _).trans c⟩
theorem fst_some (hW : ∀ w ∈ W, LtOK q w) {i n : Nat} {u : Wd} (h : fstW W q i n = some u) : opn W i u ∧ u.length = n := by
  unfold fstW at h
  split at h
  · rename_i h1
    injection h with h
    subst h
    obtain ⟨a, b, _⟩ := gr_opn hW n h1
    exact ⟨a, by rw [b]; simp⟩
  · cases h
def NowR (W : List Wd) (i k : Nat) (u : Wd) (p : Rc) : Prop := (∃ s, AtM W i s ∧ p ∈ runR W [([], s)] u) ∧ Gn W k p.1 p.2
theorem now_zero {i k : Nat} {p : Rc} : NowR W i k [] p ↔ (p.1 = [] ∧ AtM W i p.2) ∧ Gn W k p.1 p.2 := by
  unfold NowR
  constructor
  · rintro ⟨⟨s, hs, h⟩, hg⟩
    have := List.mem_singleton.1 h
    subst this
    exact ⟨⟨rfl, hs⟩, hg⟩
  · rintro ⟨⟨h1, h2⟩, hg⟩
    exact ⟨⟨p.2, h2, List.mem_singleton.2 (by rw [← h1])⟩, hg⟩
theorem now_succ {i k : Nat} {u : Wd} {l : UInt8} {y : Rc} : NowR W i k (u ++ [l]) y ↔ (∃ p, NowR W i (k + 1) u p ∧ y ∈ aft W p l) ∧ Gn W k y.1 y.2 := by
  unfold NowR
  constructor
  · rintro ⟨⟨s, hs, h⟩, hg⟩
    rw [runR_snoc] at h
    obtain ⟨p, hp, hy⟩ := List.mem_flatMap.1 h
    exact ⟨⟨p, ⟨⟨s, hs, hp⟩, Gn_succ.2 ⟨l, y, hy, hg⟩⟩, hy⟩, hg⟩
  · rintro ⟨⟨p, ⟨⟨s, hs, hp⟩, _⟩, hy⟩, hg⟩
    exact ⟨⟨s, hs, by rw [runR_snoc]; exact List.mem_flatMap.2 ⟨p, hp, hy⟩⟩, hg⟩
theorem now_ex {i k : Nat} {u : Wd} : exO W i k u ↔ ∃ p, NowR W i k u p := by
  unfold NowR
  constructor
  · rintro ⟨t, e, h⟩
    obtain ⟨s, hs, h1, h2⟩ := opn_at.1 h
    obtain ⟨p, hp, h3, h4⟩ := runR_rd.1 ⟨([], s), List.mem_singleton.2 rfl, h1, h2⟩
    exact ⟨p, ⟨s, hs, hp⟩, t, e, h3, h4⟩
  · rintro ⟨p, ⟨s, hs, hp⟩, t, e, h3, h4⟩
    obtain ⟨r, hr, h1, h2⟩ := runR_rd.2 ⟨p, hp, h3, h4⟩
    have := List.mem_singleton.1 hr
    subst this
    exact ⟨t, e, opn_at.2 ⟨s, hs, h1, h2⟩⟩
theorem rv_ge {p : Rc} {r : Int} (h : RvOK W p r) {n : Nat} (hn : n ≤ 100000) : (n : Int) ≤ r ↔ Gn W n p.1 p.2 := by
  rcases h with ⟨v, hv, rfl⟩ | ⟨rfl, h⟩
  · constructor
    · intro h1; exact Gn_less (by omega) hv.1
    · intro h1
      refine Int.not_lt.1 fun h2 => hv.2 (Gn_less (by omega) h1)
  · constructor
    · intro _; exact h n
    · intro _; unfold forever; omega
theorem dl_races {d : Nat} {m : Int} (h1 : ∀ i s, i < W.length → AtM W i s → ∃ v : Nat, HV W ([], s) v ∧ (v : Int) ≤ m) (h2 : m = -1 ∨ ∃ i s, i < W.length ∧ AtM W i s ∧ ∃ v : Nat, HV W ([], s) v ∧ m = v) (hd : (d : Int) = m + 1) : DlIs W d := by
  constructor
  · intro i u hi ho
    obtain ⟨s, hs, hg⟩ := opn_gn.1 ⟨u, rfl, ho⟩
    obtain ⟨v, hv, hle⟩ := h1 i s hi hs
    refine Nat.not_le.1 fun h3 => hv.2 (Gn_less (by omega) hg)
  · intro n hn
    rcases h2 with h2 | ⟨i, s, hi, hs, v, hv, e⟩
    · omega
    · exact ⟨i, hi, opn_gn.2 ⟨s, hs, Gn_less (by omega) hv.1⟩⟩
theorem dl_never {i : Nat} {s : Wd} (hi : i < W.length) (hs : AtM W i s) (h : ∀ n, Gn W n [] s) : DlNo W := ⟨i, hi, fun n => opn_gn.2 ⟨s, hs, h n⟩⟩
end
end Go.Proofs.Ytoafgeobhhlplaa
