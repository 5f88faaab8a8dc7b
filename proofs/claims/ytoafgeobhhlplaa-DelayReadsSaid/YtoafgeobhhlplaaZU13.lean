/- Parts of the proof: DF DG DH DI DJ DK. -/
import Derived.Test.YtoafgeobhhlplaaZU12
namespace Go.Proofs.Ytoafgeobhhlplaa
set_option linter.unusedSimpArgs false
set_option linter.unusedVariables false
open Go Go.Lift
def AtM (W : List Wd) (i : Nat) (s : Wd) : Prop := ∃ k, k < W.length ∧ k ≠ i ∧ s ∈ runS W [W.getD k []] (W.getD i [])
def runR (W : List Wd) (R : List Rc) (u : Wd) : List Rc := u.foldl (fun R l => R.flatMap fun p => aft W p l) R
section
variable {W : List Wd} {q : Nat}
theorem opn_at {i : Nat} {u : Wd} : opn W i u ↔ ∃ s, AtM W i s ∧ rd W [] u = true ∧ rd W s u = true := by
  constructor
  · rintro ⟨h1, k, hk, hne, h2⟩
    obtain ⟨s, hs, h3⟩ := run_one.1 h2
    exact ⟨s, ⟨k, hk, hne, hs⟩, h1, h3⟩
  · rintro ⟨s, ⟨k, hk, hne, hs⟩, h1, h2⟩
    exact ⟨h1, k, hk, hne, run_one.2 ⟨s, hs, h2⟩⟩
theorem opn_gn {i n : Nat} : (∃ u, u.length = n ∧ opn W i u) ↔ ∃ s, AtM W i s ∧ Gn W n [] s := by
  constructor
  · rintro ⟨u, e, h⟩
    obtain ⟨s, hs, h1, h2⟩ := opn_at.1 h
    exact ⟨s, hs, u, e, h1, h2⟩
  · rintro ⟨s, hs, u, e, h1, h2⟩
    exact ⟨u, e, opn_at.2 ⟨s, hs, h1, h2⟩⟩
theorem runR_snoc {R : List Rc} {u : Wd} {l : UInt8} : runR W R (u ++ [l]) = (runR W R u).flatMap fun p => aft W p l := by
  unfold runR; rw [List.foldl_append]; rfl
theorem runR_rd : ∀ {u t : Wd} {R : List Rc}, (∃ p ∈ R, rd W p.1 (u ++ t) = true ∧ rd W p.2 (u ++ t) = true) ↔ ∃ p ∈ runR W R u, rd W p.1 t = true ∧ rd W p.2 t = true
  | [], t, R => Iff.rfl
  | l :: u, t, R => by
    show _ ↔ ∃ p ∈ runR W (R.flatMap fun p => aft W p l) u, _
    rw [← runR_rd]
    constructor
    · rintro ⟨p, hp, h1, h2⟩
      obtain ⟨a, ha, h3⟩ := rd_step.1 h1
      obtain ⟨b, hb, h4⟩ := rd_step.1 h2
      exact ⟨(a, b), List.mem_flatMap.2 ⟨p, hp, aft_mem.2 ⟨ha, hb⟩⟩, h3, h4⟩
    · rintro ⟨r, hr, h1, h2⟩
      obtain ⟨p, hp, h3⟩ := List.mem_flatMap.1 hr
      obtain ⟨h4, h5⟩ := aft_mem.1 h3
      exact ⟨p, hp, rd_step.2 ⟨_, h4, h1⟩, rd_step.2 ⟨_, h5, h2⟩⟩
def exO (W : List Wd) (i k : Nat) (u : Wd) : Prop := ∃ t : Wd, t.length = k ∧ opn W i (u ++ t)
theorem exO_zero {i : Nat} {u : Wd} : exO W i 0 u ↔ opn W i u := by
  constructor
  · rintro ⟨t, e, h⟩
    have : t = [] := List.length_eq_zero_iff.1 e
    subst this
    simpa using h
  · intro h; exact ⟨[], rfl, by simpa using h⟩
theorem exO_succ (hW : ∀ w ∈ W, LtOK q w) {i k : Nat} {u : Wd} : exO W i (k + 1) u ↔ ∃ j, j < q ∧ exO W i k (u ++ [letters.getD j 0]) := by
  constructor
  · rintro ⟨t, e, h⟩
    cases t with
    | nil => cases e
    | cons l t =>
      obtain ⟨s, hs, h1, h2⟩ := opn_at.1 h
      -- the letter is one
      have hl : ∃ j, j < q ∧ letters.getD j 0 = l := by
        have h3 := run_one.1 (show rd W [] (u ++ (l :: t)) = true from h1)
        obtain ⟨r, hr, h4⟩ := h3
        obtain ⟨r', h5, _⟩ := rd_step.1 h4
        have hok : ∀ (v : Wd) (S : List Wd), (∀ s ∈ S, LtOK q s) → ∀ s ∈ runS W S v, LtOK q s := by
          intro v
          induction v with
          | nil => intro S hS s hs; exact hS s hs
          | cons a v ih =>
            intro S hS
            refine ih _ fun s hs => ?_
            obtain ⟨b, hb, h6⟩ := List.mem_flatMap.1 hs
            exact (rst_ok hW (hS b hb) h6).1
        exact (rst_ok hW (hok u [[]] (fun s hs => by rw [List.mem_singleton.1 hs]; exact fun c hc => by cases hc) r hr) h5).2
      obtain ⟨j, hj, e2⟩ := hl
      refine ⟨j, hj, t, by simpa using e, ?_⟩
      rw [e2, List.append_assoc]; exact h
  · rintro ⟨j, hj, t, e, h⟩
    refine ⟨letters.getD j 0 :: t, by simp [e], ?_⟩
    rw [List.append_assoc] at h; exact h
open Classical in
noncomputable def grW (W : List Wd) (q i : Nat) : Nat → Wd → Wd
  | 0, u => u
  | k + 1, u => match (List.range q).find? fun j => decide (exO W i k (u ++ [letters.getD j 0])) with
    | some j => grW W q i k (u ++ [letters.getD j 0])
    | none => u
open Classical in
noncomputable def fstW (W : List Wd) (q i n : Nat) : Option Wd := if exO W i n [] then some (grW W q i n []) else none
theorem gr_step {i k j : Nat} {u : Wd} (hj : j < q) (h : exO W i k (u ++ [letters.getD j 0])) (hn : ∀ j', j' < j → ¬ exO W i k (u ++ [letters.getD j' 0])) : grW W q i (k + 1) u = grW W q i k (u ++ [letters.getD j 0]) := by
  have e : ((List.range q).find? fun j => @decide (exO W i k (u ++ [letters.getD j 0])) (Classical.propDecidable _)) = some j := by
    rw [List.find?_eq_some_iff_getElem]
    refine ⟨by simpa using h, j, by simpa using hj, by simp, fun j' h' => ?_⟩
    rw [List.getElem_range]
    simpa using hn j' h'
  show (match (List.range q).find? fun j => @decide (exO W i k (u ++ [letters.getD j 0])) (Classical.propDecidable _) with
    | some j => grW W q i k (u ++ [letters.getD j 0])
    | none => u) = _
  rw [e]
theorem gr_opn (hW : ∀ w ∈ W, LtOK q w) {i : Nat} : ∀ k {u : Wd}, exO W i k u → opn W i (grW W q i k u) ∧ (grW W q i k u).length = u.length + k ∧ u <+: grW W q i k u
  | 0, u, h => ⟨exO_zero.1 h, rfl, List.prefix_refl _⟩
  | k + 1, u, h => by
    obtain ⟨j, hj, h1⟩ := (exO_succ hW).1 h
    -- the least
    have hex : ∃ j, j < q ∧ exO W i k (u ++ [letters.getD j 0]) ∧ ∀ j', j' < j → ¬ exO W i k (u ++ [letters.getD j' 0]) := by
      clear h
      induction j using Nat.strongRecOn with
      | ind j ih =>
        by_cases hc : ∀ j', j' < j → ¬ exO W i k (u ++ [letters.getD j' 0])
        · exact ⟨j, hj, h1, hc⟩
        · have : ∃ j', j' < j ∧ exO W i k (u ++ [letters.getD j' 0]) := Classical.byContradiction fun hc2 => hc fun j' h1 h2 => hc2 ⟨j', h1, h2⟩
          obtain ⟨j', h2, h3⟩ := this
          exact ih j' h2 (by omega) h3
    obtain ⟨j, hj, h1, h2⟩ := hex
    rw [gr_step hj h1 h2]
    obtain ⟨a, b, c⟩ := gr_opn hW k h1
    refine ⟨a, by rw [b]; simp; omega, (List.prefix_append _ _).trans c⟩
theorem fst_some (hW : ∀ w ∈ W, LtOK q w) {i n : Nat} {u : Wd} (h : fstW W q i n = some u) : opn W i u ∧ u.length = n := by
  unfold fstW at h
  split at h
  · rename_i h1
    injection h with h
    subst h
    obtain ⟨a, b, _⟩ := gr_opn hW n h1
    exact ⟨a, by rw [b]; simp⟩
  · cases h
theorem fst_iff {i n : Nat} : (fstW W q i n).isSome = true ↔ ∃ u, u.length = n ∧ opn W i u := by
  unfold fstW
  constructor
  · intro h
    split at h
    · rename_i h1
      obtain ⟨t, e, h2⟩ := h1
      exact ⟨t, e, h2⟩
    · cases h
  · rintro ⟨u, e, h⟩
    rw [if_pos (show exO W i n [] from ⟨u, e, h⟩)]; rfl
def NowR (W : List Wd) (i k : Nat) (u : Wd) (p : Rc) : Prop := (∃ s, AtM W i s ∧ p ∈ runR W [([], s)] u) ∧ Gn W k p.1 p.2
theorem now_zero {i k : Nat} {p : Rc} : NowR W i k [] p ↔ (p.1 = [] ∧ AtM W i p.2) ∧ Gn W k p.1 p.2 := by
  unfold NowR
  constructor
  · rintro ⟨⟨s, hs, h⟩, hg⟩
    have := List.mem_singleton.1 h
    subst this
    exact ⟨⟨rfl, hs⟩, hg⟩
  · rintro ⟨⟨h1, h2⟩, hg⟩
    exact ⟨⟨p.2, h2, List.mem_singleton.2 (by rw [← h1])⟩, hg⟩
theorem now_succ {i k : Nat} {u : Wd} {l : UInt8} {y : Rc} : NowR W i k (u ++ [l]) y ↔ (∃ p, NowR W i (k + 1) u p ∧ y ∈ aft W p l) ∧ Gn W k y.1 y.2 := by
  unfold NowR
  constructor
  · rintro ⟨⟨s, hs, h⟩, hg⟩
    rw [runR_snoc] at h
    obtain ⟨p, hp, hy⟩ := List.mem_flatMap.1 h
    exact ⟨⟨p, ⟨⟨s, hs, hp⟩, Gn_succ.2 ⟨l, y, hy, hg⟩⟩, hy⟩, hg⟩
  · rintro ⟨⟨p, ⟨⟨s, hs, hp⟩, _⟩, hy⟩, hg⟩
    exact ⟨⟨s, hs, by rw [runR_snoc]; exact List.mem_flatMap.2 ⟨p, hp, hy⟩⟩, hg⟩
theorem now_ex {i k : Nat} {u : Wd} : exO W i k u ↔ ∃ p, NowR W i k u p := by
  unfold NowR
  constructor
  · rintro ⟨t, e, h⟩
    obtain ⟨s, hs, h1, h2⟩ := opn_at.1 h
    obtain ⟨p, hp, h3, h4⟩ := runR_rd.1 ⟨([], s), List.mem_singleton.2 rfl, h1, h2⟩
    exact ⟨p, ⟨s, hs, hp⟩, t, e, h3, h4⟩
  · rintro ⟨p, ⟨s, hs, hp⟩, t, e, h3, h4⟩
    obtain ⟨r, hr, h1, h2⟩ := runR_rd.2 ⟨p, hp, h3, h4⟩
    have := List.mem_singleton.1 hr
    subst this
    exact ⟨t, e, opn_at.2 ⟨s, hs, h1, h2⟩⟩
theorem rv_ge {p : Rc} {r : Int} (h : RvOK W p r) {n : Nat} (hn : n ≤ 100000) : (n : Int) ≤ r ↔ Gn W n p.1 p.2 := by
  rcases h with ⟨v, hv, rfl⟩ | ⟨rfl, h⟩
  · constructor
    · intro h1; exact Gn_less (by omega) hv.1
    · intro h1
      refine Int.not_lt.1 fun h2 => hv.2 (Gn_less (by omega) h1)
  · constructor
    · intro _; exact h n
    · intro _; unfold forever; omega
theorem dl_races {d : Nat} {m : Int} (h1 : ∀ i s, i < W.length → AtM W i s → ∃ v : Nat, HV W ([], s) v ∧ (v : Int) ≤ m) (h2 : m = -1 ∨ ∃ i s, i < W.length ∧ AtM W i s ∧ ∃ v : Nat, HV W ([], s) v ∧ m = v) (hd : (d : Int) = m + 1) : DlIs W d := by
  constructor
  · intro i u hi ho
    obtain ⟨s, hs, hg⟩ := opn_gn.1 ⟨u, rfl, ho⟩
    obtain ⟨v, hv, hle⟩ := h1 i s hi hs
    refine Nat.not_le.1 fun h3 => hv.2 (Gn_less (by omega) hg)
  · intro n hn
    rcases h2 with h2 | ⟨i, s, hi, hs, v, hv, e⟩
    · omega
    · exact ⟨i, hi, opn_gn.2 ⟨s, hs, Gn_less (by omega) hv.1⟩⟩
theorem dl_never {i : Nat} {s : Wd} (hi : i < W.length) (hs : AtM W i s) (h : ∀ n, Gn W n [] s) : DlNo W := ⟨i, hi, fun n => opn_gn.2 ⟨s, hs, h n⟩⟩
end
def stB (W : List Wd) (k : Nat) (v : Wd) : Bool := rd W (W.getD k []) v
def preA (W : List Wd) (v : Wd) (n : Nat) : List Int := ((List.range n).filter fun k => stB W k v).map fun k : Nat => (k : Int)
def preL (W : List Wd) (v : Wd) : List Int := preA W v W.length
def othF (W : List Wd) (v : Wd) (x : Nat) : Option Nat := (List.range W.length).find? fun y => decide (y ≠ x) && stB W y v
def othN (W : List Wd) (v : Wd) (x : Nat) : Int := match othF W v x with
  | some y => y
  | none => -1
def cerB (W : List Wd) (d : Nat) (w : Wd) (i : Nat) : Bool := decide ((W.getD i []).length + d ≤ w.length) && decide (W.getD i [] <+: w) && stB W i (w.take ((W.getD i []).length + d)) && !(othF W (w.take ((W.getD i []).length + d)) i).isSome
def cerF (W : List Wd) (d : Nat) (w : Wd) : Option Nat := (List.range W.length).find? (cerB W d w)
def rdS (W : List Wd) (d : Nat) (w : Wd) : Nat → List Int × Nat
  | 0 => ([], 0)
  | k + 1 => match cerF W d (w.drop (rdS W d w k).2) with
    | some i => ((rdS W d w k).1 ++ [(i : Int)], (rdS W d w k).2 + (W.getD i []).length)
    | none => rdS W d w k
def rdR (W : List Wd) (d : Nat) (w : Wd) : List Int × Nat := rdS W d w w.length
def msg (W : List Wd) (l : List Int) : Wd := l.flatMap fun k => W.getD k.toNat []
section
variable {W : List Wd} {q : Nat}
theorem preA_succ {v : Wd} {n : Nat} : preA W v (n + 1) = preA W v n ++ if stB W n v = true then [(n : Int)] else [] := by
  unfold preA
  by_cases h : stB W n v = true <;> simp [List.range_succ, List.filter_append, h]
theorem preA_len {v : Wd} {n : Nat} : (preA W v n).length ≤ n := by
  unfold preA
  rw [List.length_map]
  exact Nat.le_trans (List.length_filter_le _ _) (by rw [List.length_range]; exact Nat.le_refl _)
theorem oth_some {v : Wd} {x y : Nat} (h : othF W v x = some y) : y < W.length ∧ y ≠ x ∧ stB W y v = true := by
  unfold othF at h
  have h1 := List.find?_some h
  rw [Bool.and_eq_true, decide_eq_true_eq] at h1
  exact ⟨List.mem_range.1 (List.mem_of_find?_eq_some h), h1.1, h1.2⟩
theorem oth_none {v : Wd} {x : Nat} (h : othF W v x = none) {y : Nat} (hy : y < W.length) (hne : y ≠ x) : stB W y v = false := by
  unfold othF at h
  have := List.find?_eq_none.1 h y (List.mem_range.2 hy)
  simpa [hne] using this
theorem oth_at {v : Wd} {x y : Nat} (hy : y < W.length) (hne : y ≠ x) (h : stB W y v = true) (hn : ∀ j, j < y → j ≠ x → stB W j v = false) : othF W v x = some y := by
  unfold othF
  rw [List.find?_eq_some_iff_getElem]
  refine ⟨by simp [hne, h], y, by simpa using hy, by simp, fun j hj => ?_⟩
  rw [List.getElem_range]
  by_cases e : j = x
  · simp [e]
  · simp [e, hn j hj e]
theorem oth_no {v : Wd} {x : Nat} (hn : ∀ j, j < W.length → j ≠ x → stB W j v = false) : othF W v x = none := by
  unfold othF
  rw [List.find?_eq_none]
  intro j hj
  by_cases e : j = x
  · simp [e]
  · simp [e, hn j (List.mem_range.1 hj) e]
theorem oth_iff {v : Wd} {x : Nat} : (othF W v x).isSome = true ↔ ∃ y, y < W.length ∧ y ≠ x ∧ stB W y v = true := by
  constructor
  · intro h
    obtain ⟨y, hy⟩ := Option.isSome_iff_exists.1 h
    exact ⟨y, oth_some hy⟩
  · rintro ⟨y, hy, hne, h⟩
    cases e : othF W v x with
    | some z => rfl
    | none => rw [oth_none e hy hne] at h; cases h
theorem rd_msg : ∀ {l : List Int}, (∀ k ∈ l, 0 ≤ k ∧ k < (W.length : Int)) → rd W [] (msg W l) = true
  | [], _ => rfl
  | k :: l, h => by
    have h1 := h k List.mem_cons_self
    show rd W [] (W.getD k.toNat [] ++ msg W l) = true
    exact rd_of_word (W_mem (show k.toNat < W.length by omega)) (by rw [rd_app0]; exact rd_msg fun j hj => h j (List.mem_cons_of_mem _ hj))
theorem msg_cons {k : Int} {l : List Int} : msg W (k :: l) = W.getD k.toNat [] ++ msg W l := rfl
theorem msg_app {a b : List Int} : msg W (a ++ b) = msg W a ++ msg W b := by unfold msg; rw [List.flatMap_append]
theorem st_msg {k : Int} {l : List Int} (h : ∀ j ∈ k :: l, 0 ≤ j ∧ j < (W.length : Int)) {n : Nat} : stB W k.toNat ((msg W (k :: l)).take n) = true := by
  refine rd_less' (List.take_prefix _ _) (w := msg W (k :: l)) ?_
  rw [msg_cons, rd_app0]
  exact rd_msg fun j hj => h j (List.mem_cons_of_mem _ hj)
theorem opn_two {i k : Nat} {v : Wd} (hk : k < W.length) (hne : k ≠ i) (hp : W.getD i [] <+: v) (h1 : stB W i v = true) (h2 : stB W k v = true) : ∃ u, v = W.getD i [] ++ u ∧ opn W i u := by
  obtain ⟨u, rfl⟩ := hp
  refine ⟨u, rfl, ?_, k, hk, hne, h2⟩
  unfold stB at h1
  rwa [rd_app0] at h1
theorem opn_st {i : Nat} {u : Wd} (h : opn W i u) : stB W i (W.getD i [] ++ u) = true ∧ (othF W (W.getD i [] ++ u) i).isSome = true := by
  obtain ⟨h1, k, hk, hne, h2⟩ := h
  exact ⟨by unfold stB; rw [rd_app0]; exact h1, oth_iff.2 ⟨k, hk, hne, h2⟩⟩
theorem pre_one {d : Nat} (hd : DlIs W d) {k : Int} {l : List Int} (h : ∀ j ∈ k :: l, 0 ≤ j ∧ j < (W.length : Int)) {n : Nat} (hn : (W.getD k.toNat []).length + d ≤ n) (hl : n ≤ (msg W (k :: l)).length) : preL W ((msg W (k :: l)).take n) = [k] := by
  have h1 := h k List.mem_cons_self
  have hs := st_msg h (n := n)
  have hall : ∀ j, j < W.length → (stB W j ((msg W (k :: l)).take n) = true ↔ j = k.toNat) := fun j hj => by
    constructor
    · intro h2
      refine Classical.byContradiction fun hne => ?_
      have hp : W.getD k.toNat [] <+: (msg W (k :: l)).take n := by
        rw [msg_cons]
        exact List.prefix_take_iff.2 ⟨List.prefix_append _ _, by omega⟩
      obtain ⟨u, e, ho⟩ := opn_two hj hne hp hs h2
      have h3 := hd.1 k.toNat u (by omega) ho
      have h4 := congrArg List.length e
      rw [List.length_take, List.length_append] at h4
      omega
    · rintro rfl; exact hs
  have e2 : preL W ((msg W (k :: l)).take n) = [((k.toNat : Nat) : Int)] := by
    have h3 : ∀ m, m ≤ W.length → preA W ((msg W (k :: l)).take n) m = if k.toNat < m then [((k.toNat : Nat) : Int)] else [] := by
      intro m
      induction m with
      | zero => intro _; rfl
      | succ m ih =>
        intro hm
        rw [preA_succ, ih (by omega)]
        by_cases e : m = k.toNat
        · rw [if_pos ((hall m (by omega)).2 e), if_neg (by omega), if_pos (by omega), e]; rfl
        · rw [if_neg (fun h4 => e ((hall m (by omega)).1 h4)), List.append_nil]
          by_cases h5 : k.toNat < m
          · rw [if_pos h5, if_pos (by omega)]
          · rw [if_neg h5, if_neg (by omega)]
    have := h3 W.length (Nat.le_refl _)
    rwa [if_pos (by omega)] at this
  rw [e2]; congr 1; omega
theorem cer_some {d : Nat} {w : Wd} {i : Nat} (h : cerF W d w = some i) : i < W.length ∧ (W.getD i []).length + d ≤ w.length ∧ W.getD i [] <+: w ∧ stB W i (w.take ((W.getD i []).length + d)) = true ∧ othF W (w.take ((W.getD i []).length + d)) i = none := by
  unfold cerF at h
  have h1 := List.find?_some h
  unfold cerB at h1
  simp only [Bool.and_eq_true, decide_eq_true_eq, Bool.not_eq_true'] at h1
  refine ⟨List.mem_range.1 (List.mem_of_find?_eq_some h), h1.1.1.1, h1.1.1.2, h1.1.2, ?_⟩
  cases e : othF W (w.take ((W.getD i []).length + d)) i with
  | none => rfl
  | some y => rw [e] at h1; simp at h1
theorem cer_at {d : Nat} {w : Wd} {i : Nat} (hi : i < W.length) (h : cerB W d w i = true) (hn : ∀ j, j < i → cerB W d w j = false) : cerF W d w = some i := by
  unfold cerF
  rw [List.find?_eq_some_iff_getElem]
  exact ⟨h, i, by simpa using hi, by simp, fun j hj => by rw [List.getElem_range, hn j hj]; rfl⟩
theorem cer_no {d : Nat} {w : Wd} (hn : ∀ j, j < W.length → cerB W d w j = false) : cerF W d w = none := by
  unfold cerF
  rw [List.find?_eq_none]
  intro j hj
  rw [hn j (List.mem_range.1 hj)]; simp
theorem rdS_box {d : Nat} {w : Wd} : ∀ k, (rdS W d w k).2 ≤ w.length
  | 0 => Nat.zero_le _
  | k + 1 => by
    have ih := rdS_box (d := d) (w := w) k
    show (match cerF W d (w.drop (rdS W d w k).2) with
      | some i => ((rdS W d w k).1 ++ [(i : Int)], (rdS W d w k).2 + (W.getD i []).length)
      | none => rdS W d w k).2 ≤ _
    cases e : cerF W d (w.drop (rdS W d w k).2) with
    | none => exact ih
    | some i =>
      have := (cer_some e).2.1
      rw [List.length_drop] at this
      show (rdS W d w k).2 + _ ≤ _
      omega
theorem rdS_some {d : Nat} {w : Wd} {k i : Nat} (h : cerF W d (w.drop (rdS W d w k).2) = some i) : rdS W d w (k + 1) = ((rdS W d w k).1 ++ [(i : Int)], (rdS W d w k).2 + (W.getD i []).length) := by
  show (match cerF W d (w.drop (rdS W d w k).2) with
      | some i => ((rdS W d w k).1 ++ [(i : Int)], (rdS W d w k).2 + (W.getD i []).length)
      | none => rdS W d w k) = _
  rw [h]
theorem rdS_none {d : Nat} {w : Wd} {k : Nat} (h : cerF W d (w.drop (rdS W d w k).2) = none) : rdS W d w (k + 1) = rdS W d w k := by
  show (match cerF W d (w.drop (rdS W d w k).2) with
      | some i => ((rdS W d w k).1 ++ [(i : Int)], (rdS W d w k).2 + (W.getD i []).length)
      | none => rdS W d w k) = _
  rw [h]
theorem rdS_stay {d : Nat} {w : Wd} {k : Nat} (h : cerF W d (w.drop (rdS W d w k).2) = none) : ∀ e, rdS W d w (k + e) = rdS W d w k
  | 0 => rfl
  | e + 1 => by
    show rdS W d w (k + e + 1) = _
    rw [rdS_none (by rw [rdS_stay h e]; exact h), rdS_stay h e]
theorem rdS_count (hW : ∀ x ∈ W, x ≠ []) {d : Nat} {w : Wd} : ∀ k, (∀ j, j < k → cerF W d (w.drop (rdS W d w j).2) ≠ none) → k ≤ (rdS W d w k).2
  | 0, _ => Nat.zero_le _
  | k + 1, h => by
    have ih := rdS_count hW k fun j hj => h j (by omega)
    cases e : cerF W d (w.drop (rdS W d w k).2) with
    | none => exact absurd e (h k (by omega))
    | some i =>
      have := List.length_pos_iff.2 (hW _ (W_mem (cer_some e).1))
      rw [rdS_some e]
      show k + 1 ≤ _ + _
      omega
theorem rdR_end (hW : ∀ x ∈ W, x ≠ []) {d : Nat} {w : Wd} {k : Nat} (hn : ∀ j, j < k → cerF W d (w.drop (rdS W d w j).2) ≠ none) (h : cerF W d (w.drop (rdS W d w k).2) = none) : rdR W d w = rdS W d w k := by
  have h1 := rdS_count hW k hn
  have h2 := rdS_box (W := W) (d := d) (w := w) k
  have := rdS_stay h (w.length - k)
  rwa [show k + (w.length - k) = w.length by omega] at this
theorem cer_msg {d e : Nat} (hd : DlIs W d) (he : d ≤ e) {k : Int} {l : List Int} (h : ∀ j ∈ k :: l, 0 ≤ j ∧ j < (W.length : Int)) :
    cerF W e (msg W (k :: l)) = if (W.getD k.toNat []).length + e ≤ (msg W (k :: l)).length then some k.toNat else none := by
  have h1 := h k List.mem_cons_self
  have hno : ∀ j, j < W.length → j ≠ k.toNat → cerB W e (msg W (k :: l)) j = false := fun j hj hne => by
    unfold cerB
    have hs := st_msg h (n := (W.getD j []).length + e)
    have : (othF W ((msg W (k :: l)).take ((W.getD j []).length + e)) j).isSome = true := oth_iff.2 ⟨k.toNat, by omega, Ne.symm hne, hs⟩
    rw [this]; simp
  by_cases hc : (W.getD k.toNat []).length + e ≤ (msg W (k :: l)).length
  · rw [if_pos hc]
    refine cer_at (by omega) ?_ fun j hj => hno j (by omega) (by omega)
    unfold cerB
    have hs := st_msg h (n := (W.getD k.toNat []).length + e)
    have hp : W.getD k.toNat [] <+: msg W (k :: l) := by rw [msg_cons]; exact List.prefix_append _ _
    have ho : othF W ((msg W (k :: l)).take ((W.getD k.toNat []).length + e)) k.toNat = none := oth_no fun j hj hne => by
      refine Bool.eq_false_iff.2 fun h2 => ?_
      obtain ⟨u, e2, ho⟩ := opn_two hj hne (List.prefix_take_iff.2 ⟨hp, by omega⟩) hs h2
      have h3 := hd.1 k.toNat u (by omega) ho
      have h4 := congrArg List.length e2
      rw [List.length_take, List.length_append] at h4
      omega
    rw [hs, ho, decide_eq_true hc, decide_eq_true hp]; rfl
  · rw [if_neg hc]
    refine cer_no fun j hj => ?_
    by_cases e2 : j = k.toNat
    · subst e2
      unfold cerB
      rw [decide_eq_false hc]; rfl
    · exact hno j hj e2
theorem rd_law (hW : ∀ x ∈ W, x ≠ []) {d e : Nat} (hd : DlIs W d) (he : d ≤ e) {l : List Int} (h : ∀ j ∈ l, 0 ≤ j ∧ j < (W.length : Int)) (h0 : 0 < W.length) :
    ∃ k, k ≤ l.length ∧ rdR W e (msg W l) = (l.take k, (msg W (l.take k)).length) ∧ (k = l.length ∨ (msg W l).length - (msg W (l.take k)).length < (W.getD (l.getD k 0).toNat []).length + e) := by
  have hst : ∀ k, k ≤ l.length → (∀ j, j < k → (W.getD (l.getD j 0).toNat []).length + e ≤ (msg W (l.drop j)).length) → rdS W e (msg W l) k = (l.take k, (msg W (l.take k)).length) ∧ ∀ j, j < k → cerF W e ((msg W l).drop (rdS W e (msg W l) j).2) ≠ none := by
    intro k
    induction k with
    | zero => intro _ _; exact ⟨rfl, fun j hj => absurd hj (Nat.not_lt_zero _)⟩
    | succ k ih =>
      intro hk hlong
      obtain ⟨h1, h2⟩ := ih (by omega) fun j hj => hlong j (by omega)
      have hdr : (msg W l).drop (msg W (l.take k)).length = msg W (l.drop k) := by
        conv => lhs; rw [← List.take_append_drop k l, msg_app]
        simp
      have hcons : l.drop k = l.getD k 0 :: l.drop (k + 1) := by
        rw [List.drop_eq_getElem_cons (by omega)]
        simp [List.getD, show k < l.length by omega]
      have hin : ∀ j ∈ l.getD k 0 :: l.drop (k + 1), 0 ≤ j ∧ j < (W.length : Int) := fun j hj => h j (by rw [← hcons] at hj; exact List.mem_of_mem_drop hj)
      have hc := cer_msg hd he hin
      have hl := hlong k (by omega)
      rw [hcons] at hl
      rw [if_pos hl, ← hcons, ← hdr] at hc
      have hc2 : cerF W e ((msg W l).drop (rdS W e (msg W l) k).2) = some (l.getD k 0).toNat := by rw [h1]; exact hc
      refine ⟨?_, fun j hj => ?_⟩
      · rw [rdS_some hc2, h1]
        have htk : l.take (k + 1) = l.take k ++ [l.getD k 0] := by
          rw [List.take_succ_eq_append_getElem (by omega)]
          simp [List.getD, show k < l.length by omega]
        have hb := hin _ List.mem_cons_self
        rw [htk, msg_app]
        simp only [List.length_append, Prod.mk.injEq]
        refine ⟨?_, by simp [msg]⟩
        congr 2
        omega
      · rcases Nat.lt_or_ge j k with h3 | h3
        · exact h2 j h3
        · obtain rfl : j = k := by omega
          rw [hc2]; simp
  -- the first word that is not certain
  have hex : ∃ k, k ≤ l.length ∧ (∀ j, j < k → (W.getD (l.getD j 0).toNat []).length + e ≤ (msg W (l.drop j)).length) ∧ (k = l.length ∨ ¬ (W.getD (l.getD k 0).toNat []).length + e ≤ (msg W (l.drop k)).length) := by
    have : ∀ n, n ≤ l.length → (∃ k, k ≤ n ∧ (∀ j, j < k → (W.getD (l.getD j 0).toNat []).length + e ≤ (msg W (l.drop j)).length) ∧ (k = n ∨ ¬ (W.getD (l.getD k 0).toNat []).length + e ≤ (msg W (l.drop k)).length)) := by
      intro n
      induction n with
      | zero => intro _; exact ⟨0, Nat.le_refl _, fun j hj => absurd hj (Nat.not_lt_zero _), .inl rfl⟩
      | succ n ih =>
        intro hn
        obtain ⟨k, hk, h1, h2⟩ := ih (by omega)
        rcases h2 with rfl | h2
        · by_cases hc : (W.getD (l.getD k 0).toNat []).length + e ≤ (msg W (l.drop k)).length
          · refine ⟨k + 1, Nat.le_refl _, fun j hj => ?_, .inl rfl⟩
            rcases Nat.lt_or_ge j k with h3 | h3
            · exact h1 j h3
            · obtain rfl : j = k := by omega
              exact hc
          · exact ⟨k, by omega, h1, .inr hc⟩
        · exact ⟨k, by omega, h1, .inr h2⟩
    exact this l.length (Nat.le_refl _)
  obtain ⟨k, hk, h1, h2⟩ := hex
  obtain ⟨h3, h4⟩ := hst k hk h1
  have hdr : (msg W l).drop (msg W (l.take k)).length = msg W (l.drop k) := by
    conv => lhs; rw [← List.take_append_drop k l, msg_app]
    simp
  have hlen : (msg W l).length - (msg W (l.take k)).length = (msg W (l.drop k)).length := by rw [← hdr, List.length_drop]
  have hend : cerF W e ((msg W l).drop (rdS W e (msg W l) k).2) = none := by
    rw [h3]
    show cerF W e ((msg W l).drop (msg W (l.take k)).length) = none
    rw [hdr]
    rcases h2 with rfl | h2
    · rw [List.drop_length]
      refine cer_no fun j hj => ?_
      have := List.length_pos_iff.2 (hW _ (W_mem hj))
      unfold cerB
      rw [decide_eq_false (by show ¬ (W.getD j []).length + e ≤ ([] : Wd).length; simp only [List.length_nil]; omega)]; rfl
    · rcases Nat.lt_or_ge k l.length with h5 | h5
      · have hcons : l.drop k = l.getD k 0 :: l.drop (k + 1) := by
          rw [List.drop_eq_getElem_cons h5]
          simp [List.getD, h5]
        have hin : ∀ j ∈ l.getD k 0 :: l.drop (k + 1), 0 ≤ j ∧ j < (W.length : Int) := fun j hj => h j (by rw [← hcons] at hj; exact List.mem_of_mem_drop hj)
        have hc := cer_msg hd he hin
        rw [hcons] at h2 ⊢
        rw [hc, if_neg h2]
      · rw [List.drop_eq_nil_of_le h5]
        refine cer_no fun j hj => ?_
        have := List.length_pos_iff.2 (hW _ (W_mem hj))
        unfold cerB
        rw [decide_eq_false (by show ¬ (W.getD j []).length + e ≤ ([] : Wd).length; simp only [List.length_nil]; omega)]; rfl
  refine ⟨k, hk, by rw [rdR_end hW h4 hend, h3], ?_⟩
  rcases h2 with h2 | h2
  · exact .inl h2
  · exact .inr (by rw [hlen]; omega)
theorem dl_zero {d : Nat} (hd : DlIs W d) : d = 0 ↔ ∀ i k, i < W.length → k < W.length → i ≠ k → ¬ W.getD k [] <+: W.getD i [] := by
  constructor
  · rintro rfl i k hi hk hne hp
    have := hd.1 k [] hk ⟨rfl, i, hi, hne, by rw [List.append_nil]; exact rd_pre.2 (.inl hp)⟩
    omega
  · intro h
    refine Classical.byContradiction fun hne => ?_
    obtain ⟨i, hi, u, e, ho⟩ := hd.2 0 (by omega)
    obtain ⟨_, k, hk, hne2, h2⟩ := ho
    rcases rd_pre.1 h2 with h3 | ⟨h3, _⟩
    · exact h k i hk hi hne2 ((List.prefix_append _ _).trans h3)
    · rcases List.prefix_or_prefix_of_prefix h3 (List.prefix_append _ _) with h4 | h4
      · exact h i k hi hk (Ne.symm hne2) h4
      · exact h k i hk hi hne2 h4
end
def opB (W : List Wd) (i : Nat) (w : Wd) : Bool := decide (W.getD i [] <+: w) && stB W i w && (othF W w i).isSome
def lngW (W : List Wd) (q i : Nat) : Nat → Wd → Option Wd
  | 0, w => if opB W i w = true then some w else none
  | k + 1, w => if opB W i w = true then (List.range q).findSome? fun j => lngW W q i k (w ++ [letters.getD j 0]) else none
def lessW (a b : Wd) : Prop := a.length < b.length ∨ (a.length = b.length ∧ a < b)
instance {a b : Wd} : Decidable (lessW a b) := by unfold lessW; infer_instance
noncomputable def wtU (W : List Wd) (q d : Nat) (k : Nat) (best : Option (Nat × Wd)) : Option (Nat × Wd) := match fstW W q k d with
  | none => best
  | some u => match best with
    | none => some (k, W.getD k [] ++ u)
    | some (b, w) => if lessW (W.getD k [] ++ u) w then some (k, W.getD k [] ++ u) else some (b, w)
noncomputable def wtA (W : List Wd) (q d : Nat) : Nat → Option (Nat × Wd)
  | 0 => none
  | k + 1 => wtU W q d k (wtA W q d k)
noncomputable def wtF (W : List Wd) (q d : Nat) : Option (Nat × Wd) := wtA W q d W.length
noncomputable def rwU (W : List Wd) (q d n : Nat) (k : Nat) (best : Option (Nat × Wd)) : Option (Nat × Wd) := if (W.getD k []).length = n then match fstW W q k d with
  | none => best
  | some u => match best with
    | none => some (k, W.getD k [] ++ u)
    | some (b, w) => if W.getD k [] ++ u < w then some (k, W.getD k [] ++ u) else some (b, w)
  else best
noncomputable def rwA (W : List Wd) (q d n : Nat) : Nat → Option (Nat × Wd)
  | 0 => none
  | k + 1 => rwU W q d n k (rwA W q d n k)
section
variable {W : List Wd} {q : Nat}
theorem opB_iff {i : Nat} {u : Wd} : opB W i (W.getD i [] ++ u) = true ↔ opn W i u := by
  unfold opB
  rw [Bool.and_eq_true, Bool.and_eq_true, decide_eq_true_eq]
  constructor
  · rintro ⟨⟨h1, h2⟩, h3⟩
    obtain ⟨y, hy, hne, h4⟩ := oth_iff.1 h3
    obtain ⟨v, e, ho⟩ := opn_two hy hne h1 h2 h4
    rwa [← List.append_cancel_left e] at ho
  · intro h
    obtain ⟨h1, h2⟩ := opn_st h
    exact ⟨⟨List.prefix_append _ _, h1⟩, h2⟩
theorem lng_spec (hW : ∀ w ∈ W, LtOK q w) {i : Nat} : ∀ k {u : Wd}, (exO W i k u → lngW W q i k (W.getD i [] ++ u) = some (W.getD i [] ++ grW W q i k u)) ∧ (¬ exO W i k u → lngW W q i k (W.getD i [] ++ u) = none)
  | 0, u => by
    constructor
    · intro h
      show (if opB W i (W.getD i [] ++ u) = true then some (W.getD i [] ++ u) else none) = _
      rw [if_pos (opB_iff.2 (exO_zero.1 h))]; rfl
    · intro h
      show (if opB W i (W.getD i [] ++ u) = true then some (W.getD i [] ++ u) else none) = _
      rw [if_neg (fun h2 => h (exO_zero.2 (opB_iff.1 h2)))]
  | k + 1, u => by
    have hstep : ∀ j, lngW W q i k (W.getD i [] ++ u ++ [letters.getD j 0]) = lngW W q i k (W.getD i [] ++ (u ++ [letters.getD j 0])) := fun j => by rw [List.append_assoc]
    constructor
    · intro h
      have ho : opn W i u := by
        obtain ⟨t, _, h1⟩ := h
        exact opn_less h1
      obtain ⟨j0, hj0, h1⟩ := (exO_succ hW).1 h
      have hex : ∃ j, j < q ∧ exO W i k (u ++ [letters.getD j 0]) ∧ ∀ j', j' < j → ¬ exO W i k (u ++ [letters.getD j' 0]) := by
        clear h
        induction j0 using Nat.strongRecOn with
        | ind j ih =>
          by_cases hc : ∀ j', j' < j → ¬ exO W i k (u ++ [letters.getD j' 0])
          · exact ⟨j, hj0, h1, hc⟩
          · have : ∃ j', j' < j ∧ exO W i k (u ++ [letters.getD j' 0]) := Classical.byContradiction fun hc2 => hc fun j' h1 h2 => hc2 ⟨j', h1, h2⟩
            obtain ⟨j', h2, h3⟩ := this
            exact ih j' h2 (by omega) h3
      obtain ⟨j, hj, h2, h3⟩ := hex
      show (if opB W i (W.getD i [] ++ u) = true then (List.range q).findSome? fun j => lngW W q i k (W.getD i [] ++ u ++ [letters.getD j 0]) else none) = _
      rw [if_pos (opB_iff.2 ho), gr_step hj h2 h3]
      simp only [hstep]
      have hfs : ∀ (n : Nat), n ≤ j → (List.range n).findSome? (fun j => lngW W q i k (W.getD i [] ++ (u ++ [letters.getD j 0]))) = none := fun n hn => by
        rw [List.findSome?_eq_none_iff]
        intro a ha
        have := List.mem_range.1 ha
        exact (lng_spec hW k).2 (h3 a (by omega))
      have hq : List.range q = List.range j ++ (j :: (List.range (q - j - 1)).map fun a => j + 1 + a) := by
        conv => lhs; rw [show q = j + (1 + (q - j - 1)) by omega, List.range_add, List.range_add]
        simp [List.map_append, Nat.add_assoc, Nat.add_comm]
        intro a _; omega
      rw [hq, List.findSome?_append, hfs j (Nat.le_refl _), List.findSome?_cons, (lng_spec hW k).1 h2]
      rfl
    · intro h
      show (if opB W i (W.getD i [] ++ u) = true then (List.range q).findSome? fun j => lngW W q i k (W.getD i [] ++ u ++ [letters.getD j 0]) else none) = _
      split
      · rw [List.findSome?_eq_none_iff]
        intro j hj
        rw [hstep]
        exact (lng_spec hW k).2 fun h2 => h ((exO_succ hW).2 ⟨j, List.mem_range.1 hj, h2⟩)
      · rfl
theorem lng_fst (hW : ∀ w ∈ W, LtOK q w) {i n : Nat} : lngW W q i n (W.getD i []) = (fstW W q i n).map fun u => W.getD i [] ++ u := by
  have h := lng_spec hW (i := i) n (u := [])
  rw [List.append_nil] at h
  unfold fstW
  by_cases hc : exO W i n []
  · rw [if_pos hc, h.1 hc]; rfl
  · rw [if_neg hc, h.2 hc]; rfl
theorem wtU_none {d k : Nat} {best : Option (Nat × Wd)} (h : fstW W q k d = none) : wtU W q d k best = best := by unfold wtU; rw [h]
theorem wtU_first {d k : Nat} {u : Wd} (h : fstW W q k d = some u) : wtU W q d k none = some (k, W.getD k [] ++ u) := by unfold wtU; rw [h]
theorem wtU_less {d k b : Nat} {u w : Wd} (h : fstW W q k d = some u) (hl : lessW (W.getD k [] ++ u) w) : wtU W q d k (some (b, w)) = some (k, W.getD k [] ++ u) := by unfold wtU; rw [h]; exact if_pos hl
theorem wtU_keep {d k b : Nat} {u w : Wd} (h : fstW W q k d = some u) (hl : ¬ lessW (W.getD k [] ++ u) w) : wtU W q d k (some (b, w)) = some (b, w) := by unfold wtU; rw [h]; exact if_neg hl
theorem wtA_succ {d k : Nat} : wtA W q d (k + 1) = wtU W q d k (wtA W q d k) := rfl
theorem rwA_succ {d n k : Nat} : rwA W q d n (k + 1) = rwU W q d n k (rwA W q d n k) := rfl
theorem rwU_other {d n k : Nat} {best : Option (Nat × Wd)} (h : (W.getD k []).length ≠ n) : rwU W q d n k best = best := if_neg h
theorem rwU_none {d n k : Nat} {best : Option (Nat × Wd)} (h : fstW W q k d = none) : rwU W q d n k best = best := by
  unfold rwU
  split
  · rw [h]
  · rfl
theorem rwU_first {d n k : Nat} {u : Wd} (hn : (W.getD k []).length = n) (h : fstW W q k d = some u) : rwU W q d n k none = some (k, W.getD k [] ++ u) := by unfold rwU; rw [if_pos hn, h]
theorem rwU_less {d n k b : Nat} {u w : Wd} (hn : (W.getD k []).length = n) (h : fstW W q k d = some u) (hl : W.getD k [] ++ u < w) : rwU W q d n k (some (b, w)) = some (k, W.getD k [] ++ u) := by unfold rwU; rw [if_pos hn, h]; exact if_pos hl
theorem rwU_keep {d n k b : Nat} {u w : Wd} (hn : (W.getD k []).length = n) (h : fstW W q k d = some u) (hl : ¬ W.getD k [] ++ u < w) : rwU W q d n k (some (b, w)) = some (b, w) := by unfold rwU; rw [if_pos hn, h]; exact if_neg hl
theorem wtA_some (hW : ∀ w ∈ W, LtOK q w) {d : Nat} : ∀ {k b : Nat} {w : Wd}, wtA W q d k = some (b, w) → b < k ∧ ∃ u, w = W.getD b [] ++ u ∧ opn W b u ∧ u.length = d
  | 0, b, w, h => by cases h
  | k + 1, b, w, h => by
    rw [wtA_succ] at h
    cases hf : fstW W q k d with
    | none =>
      rw [wtU_none hf] at h
      obtain ⟨h1, h2⟩ := wtA_some hW h
      exact ⟨by omega, h2⟩
    | some u =>
      have hs := fst_some hW hf
      cases hb : wtA W q d k with
      | none =>
        rw [hb, wtU_first hf] at h
        injection h with h
        injection h with h1 h2
        subst h1 h2
        exact ⟨by omega, u, rfl, hs.1, hs.2⟩
      | some p =>
        obtain ⟨b', w'⟩ := p
        rw [hb] at h
        by_cases hl : lessW (W.getD k [] ++ u) w'
        · rw [wtU_less hf hl] at h
          injection h with h
          injection h with h1 h2
          subst h1 h2
          exact ⟨by omega, u, rfl, hs.1, hs.2⟩
        · rw [wtU_keep hf hl] at h
          injection h with h
          injection h with h1 h2
          subst h1 h2
          obtain ⟨h1, h2⟩ := wtA_some hW hb
          exact ⟨by omega, h2⟩
theorem wtA_none {d : Nat} : ∀ {k : Nat}, wtA W q d k = none ↔ ∀ j, j < k → fstW W q j d = none
  | 0 => ⟨fun _ j hj => absurd hj (Nat.not_lt_zero _), fun _ => rfl⟩
  | k + 1 => by
    rw [wtA_succ]
    cases hf : fstW W q k d with
    | none =>
      rw [wtU_none hf, wtA_none]
      constructor
      · intro h j hj
        rcases Nat.lt_or_ge j k with h2 | h2
        · exact h j h2
        · obtain rfl : j = k := by omega
          exact hf
      · intro h j hj; exact h j (by omega)
    | some u =>
      constructor
      · intro h
        exfalso
        cases hb : wtA W q d k with
        | none => rw [hb, wtU_first hf] at h; cases h
        | some p =>
          obtain ⟨b', w'⟩ := p
          rw [hb] at h
          by_cases hl : lessW (W.getD k [] ++ u) w'
          · rw [wtU_less hf hl] at h; cases h
          · rw [wtU_keep hf hl] at h; cases h
      · intro h
        rw [h k (by omega)] at hf
        cases hf
theorem wtF_iff {d : Nat} : (wtF W q d).isSome = true ↔ ∃ i, i < W.length ∧ ∃ u, u.length = d ∧ opn W i u := by
  constructor
  · intro h
    refine Classical.byContradiction fun hc => ?_
    have : wtF W q d = none := wtA_none.2 fun j hj => by
      cases hf : fstW W q j d with
      | none => rfl
      | some u => exact absurd ⟨j, hj, fst_iff.1 (by rw [hf]; rfl)⟩ hc
    rw [this] at h; cases h
  · rintro ⟨i, hi, h⟩
    cases hf : wtF W q d with
    | some p => rfl
    | none =>
      have h1 := wtA_none.1 hf i hi
      have h2 := fst_iff (q := q).2 h
      rw [h1] at h2; cases h2
theorem rw_same (hW : ∀ w ∈ W, LtOK q w) (hs : ∀ i j, i < j → j < W.length → (W.getD i []).length ≤ (W.getD j []).length) {d : Nat} : ∀ {k : Nat}, k ≤ W.length → (∀ n, wtA W q d k = none → rwA W q d n k = none) ∧ ∀ b w, wtA W q d k = some (b, w) → rwA W q d (W.getD b []).length k = some (b, w) ∧ ∀ n, n < (W.getD b []).length → rwA W q d n k = none
  | 0, _ => ⟨fun _ _ => rfl, fun b w h => by cases h⟩
  | k + 1, hk => by
    obtain ⟨ih1, ih2⟩ := rw_same hW hs (d := d) (k := k) (by omega)
    cases hf : fstW W q k d with
    | none =>
      constructor
      · intro n h
        rw [wtA_succ, wtU_none hf] at h
        rw [rwA_succ, rwU_none hf, ih1 n h]
      · intro b w h
        rw [wtA_succ, wtU_none hf] at h
        obtain ⟨h1, h2⟩ := ih2 b w h
        exact ⟨by rw [rwA_succ, rwU_none hf, h1], fun n hn => by rw [rwA_succ, rwU_none hf, h2 n hn]⟩
    | some u =>
      have hfs := fst_some hW hf
      cases hb : wtA W q d k with
      | none =>
        constructor
        · intro n h
          rw [wtA_succ, hb, wtU_first hf] at h; cases h
        · intro b w h
          rw [wtA_succ, hb, wtU_first hf] at h
          injection h with h
          injection h with h1 h2
          subst h1 h2
          exact ⟨by rw [rwA_succ, ih1 _ hb, rwU_first rfl hf], fun n hn => by rw [rwA_succ, ih1 _ hb, rwU_other (by omega)]⟩
      | some p =>
        obtain ⟨b', w'⟩ := p
        obtain ⟨h1, h2⟩ := ih2 b' w' hb
        obtain ⟨hbk, u', e', ho', hl'⟩ := wtA_some hW hb
        have hle := hs b' k hbk (by omega)
        have hlw : w'.length = (W.getD b' []).length + d := by rw [e', List.length_append, hl']
        have hlk : (W.getD k [] ++ u).length = (W.getD k []).length + d := by rw [List.length_append, hfs.2]
        constructor
        · intro n h
          rw [wtA_succ, hb] at h
          by_cases hl : lessW (W.getD k [] ++ u) w'
          · rw [wtU_less hf hl] at h; cases h
          · rw [wtU_keep hf hl] at h; cases h
        · intro b w h
          rw [wtA_succ, hb] at h
          by_cases hl : lessW (W.getD k [] ++ u) w'
          · rw [wtU_less hf hl] at h
            injection h with h
            injection h with h3 h4
            subst h3 h4
            have hel : (W.getD k []).length = (W.getD b' []).length := by
              rcases hl with h5 | h5 <;> omega
            have hlt : W.getD k [] ++ u < w' := by
              rcases hl with h5 | h5
              · omega
              · exact h5.2
            refine ⟨?_, fun n hn => ?_⟩
            · rw [rwA_succ, hel, h1, rwU_less hel hf hlt]
            · rw [rwA_succ, h2 n (by omega), rwU_other (by omega)]
          · rw [wtU_keep hf hl] at h
            injection h with h
            injection h with h3 h4
            subst h3 h4
            refine ⟨?_, fun n hn => ?_⟩
            · rw [rwA_succ, h1]
              by_cases hel : (W.getD k []).length = (W.getD b' []).length
              · rw [rwU_keep hel hf fun hlt => hl (.inr ⟨by omega, hlt⟩)]
              · exact rwU_other hel
            · rw [rwA_succ, h2 n hn, rwU_other (by omega)]
end
structure Cd where
  q : Int
  ws : List Wd
def cdF (c : Cd) (j : Nat) : AVal := match j with
  | 0 => .int .i64 c.q
  | _ => strs c.ws
section
variable {c : Cd} {j : Nat} {ρ : Nat → Nat}
@[simp] theorem cdF0 : cdF c 0 = .int .i64 c.q := rfl
@[simp] theorem cdF1 : cdF c 1 = strs c.ws := rfl
@[simp] theorem one_cdF : (cdF c j).one = true := by unfold cdF; split <;> rfl
@[simp] theorem Clo_cdF : Clo (cdF c j) := by unfold cdF; split <;> first | trivial | exact Clo_strs
@[simp] theorem ren_cdF : ren ρ (cdF c j) = cdF c j := by unfold cdF; split <;> first | rfl | exact ren_strs
end
def cdE (c : Cd) (i : Nat) : Int := if (c.ws.getD i []).length = 0 then 5 else if 32 < (c.ws.getD i []).length then 4 else if wordCheck c.q (c.ws.getD i []) ≠ 0 then 13 else if 0 < i ∧ ¬ lessW (c.ws.getD (i - 1) []) (c.ws.getD i []) then 10 else 0
def cdN (c : Cd) : Int := if c.q < 2 ∨ 16 < c.q then 12 else if c.ws.length = 0 then 5 else if 64 < c.ws.length then 4 else firstNZ (cdE c) (List.range c.ws.length)
structure CdOK (c : Cd) : Prop where
  q : 2 ≤ c.q ∧ c.q ≤ 16
  n : 1 ≤ c.ws.length ∧ c.ws.length ≤ 64
  ne : ∀ w ∈ c.ws, w ≠ []
  len : ∀ w ∈ c.ws, w.length ≤ 32
  chk : ∀ w ∈ c.ws, wordCheck c.q w = 0
  asc : c.ws.Pairwise lessW
section
variable {c : Cd}
theorem lessW_trans {a b d : Wd} (h : lessW a b) (h2 : lessW b d) : lessW a d := by
  unfold lessW at *
  rcases h with h | ⟨h, h3⟩ <;> rcases h2 with h2 | ⟨h2, h4⟩
  · exact .inl (by omega)
  · exact .inl (by omega)
  · exact .inl (by omega)
  · exact .inr ⟨by omega, List.lt_trans h3 h4⟩
theorem lessW_ne {a b : Wd} (h : lessW a b) : a ≠ b := by
  rintro rfl
  rcases h with h | ⟨_, h⟩
  · omega
  · exact absurd h (List.lt_irrefl a)
theorem cd_1 (h : c.q < 2 ∨ 16 < c.q) : cdN c = 12 := if_pos h
theorem cd_2 (h : 2 ≤ c.q ∧ c.q ≤ 16) (h2 : c.ws.length = 0) : cdN c = 5 := by unfold cdN; rw [if_neg (by omega), if_pos h2]
theorem cd_3 (h : 2 ≤ c.q ∧ c.q ≤ 16) (h2 : 64 < c.ws.length) : cdN c = 4 := by unfold cdN; rw [if_neg (by omega), if_neg (by omega), if_pos h2]
theorem cd_4 (h : 2 ≤ c.q ∧ c.q ≤ 16) (h2 : c.ws.length ≠ 0) (h3 : c.ws.length ≤ 64) {i : Nat} (hi : i < c.ws.length) (hn : ∀ j, j < i → cdE c j = 0) (he : cdE c i ≠ 0) : cdN c = cdE c i := by unfold cdN; rw [if_neg (by omega), if_neg h2, if_neg (by omega), firstNZ_range hn hi he]
theorem cd_5 (h : 2 ≤ c.q ∧ c.q ≤ 16) (h2 : c.ws.length ≠ 0) (h3 : c.ws.length ≤ 64) (hn : ∀ j, j < c.ws.length → cdE c j = 0) : cdN c = 0 := by unfold cdN; rw [if_neg (by omega), if_neg h2, if_neg (by omega), firstNZ_none hn]
theorem cdE_1 {i : Nat} (h : (c.ws.getD i []).length = 0) : cdE c i = 5 := if_pos h
theorem cdE_2 {i : Nat} (h : (c.ws.getD i []).length ≠ 0) (h2 : 32 < (c.ws.getD i []).length) : cdE c i = 4 := by unfold cdE; rw [if_neg h, if_pos h2]
theorem cdE_3 {i : Nat} (h : (c.ws.getD i []).length ≠ 0) (h2 : (c.ws.getD i []).length ≤ 32) (h3 : wordCheck c.q (c.ws.getD i []) ≠ 0) : cdE c i = 13 := by unfold cdE; rw [if_neg h, if_neg (by omega), if_pos h3]
theorem cdE_4 {i : Nat} (h : (c.ws.getD i []).length ≠ 0) (h2 : (c.ws.getD i []).length ≤ 32) (h3 : wordCheck c.q (c.ws.getD i []) = 0) (h4 : 0 < i) (h5 : ¬ lessW (c.ws.getD (i - 1) []) (c.ws.getD i [])) : cdE c i = 10 := by unfold cdE; rw [if_neg h, if_neg (by omega), if_neg (fun k => k h3), if_pos ⟨h4, h5⟩]
theorem cdE_5 {i : Nat} (h : (c.ws.getD i []).length ≠ 0) (h2 : (c.ws.getD i []).length ≤ 32) (h3 : wordCheck c.q (c.ws.getD i []) = 0) (h4 : 0 < i → lessW (c.ws.getD (i - 1) []) (c.ws.getD i [])) : cdE c i = 0 := by unfold cdE; rw [if_neg h, if_neg (by omega), if_neg (fun k => k h3), if_neg (fun k => k.2 (h4 k.1))]
theorem cdE_zero {i : Nat} (h : cdE c i = 0) : (c.ws.getD i []).length ≠ 0 ∧ (c.ws.getD i []).length ≤ 32 ∧ wordCheck c.q (c.ws.getD i []) = 0 ∧ (0 < i → lessW (c.ws.getD (i - 1) []) (c.ws.getD i [])) := by
  unfold cdE at h
  split at h
  · cases h
  · split at h
    · cases h
    · split at h
      · cases h
      · split at h
        · cases h
        · rename_i h1 h2 h3 h4
          exact ⟨h1, by omega, Classical.byContradiction h3, fun h5 => Classical.byContradiction fun h6 => h4 ⟨h5, h6⟩⟩
theorem cd_ok (h : cdN c = 0) : CdOK c := by
  unfold cdN at h
  split at h
  · cases h
  · split at h
    · cases h
    · split at h
      · cases h
      · rename_i h1 h2 h3
        have hz := firstNZ_zero h
        have hat : ∀ w ∈ c.ws, ∃ i, i < c.ws.length ∧ c.ws.getD i [] = w := fun w hw => W_at hw
        have hp : ∀ i j, i < j → j < c.ws.length → lessW (c.ws.getD i []) (c.ws.getD j []) := by
          intro i j hij
          induction j with
          | zero => omega
          | succ j ih =>
            intro hj
            have h4 := (cdE_zero (hz (j + 1) hj)).2.2.2 (by omega)
            rw [Nat.add_sub_cancel] at h4
            rcases Nat.lt_or_ge i j with h5 | h5
            · exact lessW_trans (ih h5 (by omega)) h4
            · obtain rfl : i = j := by omega
              exact h4
        refine ⟨by omega, by omega, fun w hw => ?_, fun w hw => ?_, fun w hw => ?_, ?_⟩
        · obtain ⟨i, hi, rfl⟩ := hat w hw
          exact fun e => (cdE_zero (hz i hi)).1 (by rw [e]; rfl)
        · obtain ⟨i, hi, rfl⟩ := hat w hw
          exact (cdE_zero (hz i hi)).2.1
        · obtain ⟨i, hi, rfl⟩ := hat w hw
          exact (cdE_zero (hz i hi)).2.2.1
        · rw [List.pairwise_iff_getElem]
          intro i j hi hj hij
          have := hp i j hij hj
          rwa [List.getD_eq_getElem?_getD, List.getElem?_eq_getElem hi, List.getD_eq_getElem?_getD, List.getElem?_eq_getElem hj] at this
theorem CdOK.nd (h : CdOK c) : c.ws.Nodup := h.asc.imp fun h => lessW_ne h
theorem ltrD_idx {x : UInt8} (h : 0 ≤ idxB letters x) : letters.getD (idxB letters x).toNat 0 = x := by
  obtain ⟨k, h1, h2, h3⟩ := first_at letters x (idxB_ge.1 h)
  rw [idxB_some letters x k h1 h2 h3]; exact h3
theorem chk_lt {q : Int} {w : Wd} (h : wordCheck q w = 0) : LtOK q.toNat w := fun x hx => by
  obtain ⟨k, hk, e⟩ := List.mem_iff_getElem.1 hx
  have := (word_dig h).2 k hk
  rw [getD_get hk, e] at this
  exact ⟨(idxB letters x).toNat, by omega, ltrD_idx this.1⟩
theorem CdOK.lt (h : CdOK c) : ∀ w ∈ c.ws, LtOK c.q.toNat w := fun w hw => chk_lt (h.chk w hw)
def bigC (c : Cd) : Bool := decide (6 < c.ws.length ∧ c.ws.length ≤ 64 ∨ 65 < c.ws.length) || c.ws.any fun w => decide (6 < w.length ∧ w.length ≤ 32 ∨ 33 < w.length)
theorem big_ok (h : bigC c = false) (ho : CdOK c) : c.ws.length ≤ 6 ∧ ∀ w ∈ c.ws, w.length ≤ 6 := by
  unfold bigC at h
  rw [Bool.or_eq_false_iff, decide_eq_false_iff_not] at h
  have := ho.n
  refine ⟨by omega, fun w hw => ?_⟩
  have h1 := List.any_eq_false.1 h.2 w hw
  have h2 := ho.len w hw
  simp only [decide_eq_true_eq] at h1
  omega
end
def dlD (c : Cd) : Int := if cdN c = 0 then (((dlR c.ws).getD 0 : Nat) : Int) else 0
def dlB (c : Cd) : Bool := decide (cdN c = 0) && (dlR c.ws).isSome
def arN (c : Cd) : Int := if cdN c = 0 then 0 else 1
def bdN (c : Cd) (n : Int) : Int := if cdN c ≠ 0 then 1 else if n < 0 ∨ 4096 < n then 2 else 0
noncomputable def wsW (c : Cd) (n : Int) : Wd := if bdN c n = 0 then ((wtF c.ws c.q.toNat n.toNat).map (·.2)).getD [] else []
noncomputable def wsX (c : Cd) (n : Int) : Int := if bdN c n = 0 then ((wtF c.ws c.q.toNat n.toNat).map fun p => ((p.1 : Nat) : Int)).getD 0 else 0
noncomputable def wsY (c : Cd) (n : Int) : Int := if bdN c n = 0 then ((wtF c.ws c.q.toNat n.toNat).map fun p => othN c.ws p.2 p.1).getD 0 else 0
noncomputable def wsB (c : Cd) (n : Int) : Bool := decide (bdN c n = 0) && (wtF c.ws c.q.toNat n.toNat).isSome
noncomputable def woW (c : Cd) : Wd := if dlB c = true ∧ dlD c ≠ 0 then wsW c (dlD c - 1) else []
noncomputable def woB (c : Cd) : Bool := if dlB c = true ∧ dlD c ≠ 0 then wsB c (dlD c - 1) else false
def ckN (c : Cd) (w : Wd) : Int := if cdN c ≠ 0 then 1 else wordCheck c.q w
def pfL (c : Cd) (w : Wd) : List Int := if ckN c w = 0 then preL c.ws w else []
def reN (c : Cd) (d : Int) (w : Wd) : Int := if ckN c w ≠ 0 then ckN c w else if d < 0 ∨ 4096 < d then 2 else 0
def reL (c : Cd) (d : Int) (w : Wd) : List Int := if reN c d w = 0 then (rdR c.ws d.toNat w).1 else []
def reM (c : Cd) (d : Int) (w : Wd) : Int := if reN c d w = 0 then (((rdR c.ws d.toNat w).2 : Nat) : Int) else 0
section
variable {c : Cd}
theorem dl_yes (ho : cdN c = 0) {d : Nat} (h : DlIs c.ws d) : dlR c.ws = some d := by
  have hc := cd_ok ho
  cases hr : dlR c.ws with
  | none => exact absurd (dlR_no hc.ne (by have := hc.n; omega) hr) h.not
  | some e => rw [(dlR_is hc.ne hc.nd hr).one h]
theorem dl_not (ho : cdN c = 0) (h : DlNo c.ws) : dlR c.ws = none := by
  have hc := cd_ok ho
  cases hr : dlR c.ws with
  | none => rfl
  | some e => exact absurd h (dlR_is hc.ne hc.nd hr).not
theorem dl_is (ho : cdN c = 0) {d : Nat} (h : dlR c.ws = some d) : DlIs c.ws d := dlR_is (cd_ok ho).ne (cd_ok ho).nd h
end
def fstC (W : List Wd) (q i n : Nat) : Option Wd := (lngW W q i n (W.getD i [])).map fun s => s.drop (W.getD i []).length
theorem fst_C {W : List Wd} {q i n : Nat} (hW : ∀ w ∈ W, LtOK q w) : fstW W q i n = fstC W q i n := by
  unfold fstC
  rw [lng_fst hW]
  cases fstW W q i n with
  | none => rfl
  | some u => simp
def two : Cd := ⟨2, [[48], [48, 48, 49]]⟩
def thr : Cd := ⟨2, [[48], [48, 49], [49, 49]]⟩
theorem two_ok : cdN two = 0 := by decide +kernel
theorem thr_ok : cdN thr = 0 := by decide +kernel
theorem two_dl : dlR two.ws = some 2 := by decide +kernel
theorem thr_dl : dlR thr.ws = none := by decide +kernel
theorem two_re : rdR two.ws 2 [48, 48, 48, 49, 48, 48, 49, 48] = ([0, 1], 4) := by decide +kernel
theorem two_ck : wordCheck 2 [48, 48, 48, 49, 48, 48, 49, 48] = 0 := by decide +kernel
theorem two_f0 : fstC two.ws 2 0 1 = some [48] := by decide +kernel
theorem two_f1 : fstC two.ws 2 1 1 = none := by decide +kernel
theorem two_wt : wtF two.ws 2 1 = some (0, [48, 48]) := by
  have hW := (cd_ok two_ok).lt
  have h0 : fstW two.ws 2 0 1 = some [48] := (fst_C hW).trans two_f0
  have h1 : fstW two.ws 2 1 1 = none := (fst_C hW).trans two_f1
  show wtU two.ws 2 1 1 (wtU two.ws 2 1 0 none) = _
  rw [wtU_none h1, wtU_first h0]; rfl
theorem lt_chk {q : Int} {w : Wd} (hq : 1 ≤ q ∧ q ≤ 16) (hl : w.length ≤ 65536) (h : LtOK q.toNat w) : wordCheck q w = 0 := by
  refine wordCheck_ok hq hl fun k hk => idxB_ge.2 ?_
  obtain ⟨i, hi, e⟩ := h _ (getD_mem (d := (0 : UInt8)) hk)
  rw [← e]
  have h16 : letters.length = 16 := by decide
  have hil : i < (letters.take q.toNat).length := by rw [List.length_take]; omega
  have : letters.getD i 0 = (letters.take q.toNat)[i] := by
    rw [List.getElem_take, getD_get (show i < letters.length by omega)]
  rw [this]; exact List.getElem_mem hil
theorem lt_sub {q : Nat} {u w : Wd} (h : LtOK q w) (hs : ∀ x ∈ u, x ∈ w) : LtOK q u := fun x hx => h x (hs x hx)
section
variable {c : Cd}
theorem msg_lt (hc : CdOK c) {l : List Int} (h : ∀ k ∈ l, 0 ≤ k ∧ k < (c.ws.length : Int)) : LtOK c.q.toNat (msg c.ws l) := fun x hx => by
  obtain ⟨k, hk, h1⟩ := List.mem_flatMap.1 hx
  have := h k hk
  exact hc.lt _ (W_mem (show k.toNat < c.ws.length by omega)) x h1
theorem msg_len (hb : ∀ w ∈ c.ws, w.length ≤ 6) : ∀ {l : List Int}, (∀ k ∈ l, 0 ≤ k ∧ k < (c.ws.length : Int)) → (msg c.ws l).length ≤ 6 * l.length
  | [], _ => Nat.zero_le _
  | k :: l, h => by
    have ih := msg_len hb (l := l) fun j hj => h j (List.mem_cons_of_mem _ hj)
    have h1 := h k List.mem_cons_self
    have h2 := hb _ (W_mem (show k.toNat < c.ws.length by omega))
    rw [msg_cons, List.length_append, List.length_cons]
    omega
theorem msg_chk (hc : CdOK c) (hb : ∀ w ∈ c.ws, w.length ≤ 6) {l : List Int} (h : ∀ k ∈ l, 0 ≤ k ∧ k < (c.ws.length : Int)) (hl : l.length ≤ 12) {n : Nat} : wordCheck c.q ((msg c.ws l).take n) = 0 := by
  have := msg_len hb h
  refine lt_chk (by have := hc.q; omega) (by rw [List.length_take]; omega) (lt_sub (msg_lt hc h) fun x hx => List.mem_of_mem_take hx)
theorem ck_len {w : Wd} (h : ckN c w = 0) : w.length ≤ 1000000 := by
  unfold ckN wordCheck at h
  split at h
  · cases h
  · split at h
    · cases h
    · split at h
      · cases h
      · omega
theorem ck_ok (ho : cdN c = 0) {w : Wd} (h : wordCheck c.q w = 0) : ckN c w = 0 := by unfold ckN; rw [if_neg (fun k => k ho)]; exact h
theorem pf_ok (ho : cdN c = 0) {w : Wd} (h : wordCheck c.q w = 0) : pfL c w = preL c.ws w := if_pos (ck_ok ho h)
theorem bd_ok (ho : cdN c = 0) {n : Int} (h : 0 ≤ n ∧ n ≤ 4096) : bdN c n = 0 := by unfold bdN; rw [if_neg (fun k => k ho), if_neg (by omega)]
theorem ws_ok (ho : cdN c = 0) {n : Nat} (h : n ≤ 4096) : wsB c n = (wtF c.ws c.q.toNat n).isSome := by
  unfold wsB
  rw [bd_ok ho (by omega)]; simp
theorem ws_none (ho : cdN c = 0) {d : Nat} (hd : DlIs c.ws d) (h : d ≤ 4096) : wsB c (d : Int) = false := by
  rw [ws_ok ho h]
  cases hf : wtF c.ws c.q.toNat d with
  | none => rfl
  | some p =>
    exfalso
    obtain ⟨i, hi, u, e, hop⟩ := wtF_iff.1 (show (wtF c.ws c.q.toNat d).isSome = true by rw [hf]; rfl)
    have := hd.1 i u hi hop
    omega
theorem ws_some (ho : cdN c = 0) {d : Nat} (hd : DlIs c.ws d) (h0 : 0 < d) (h : d ≤ 4096) : wsB c ((d : Int) - 1) = true := by
  obtain ⟨k, rfl⟩ : ∃ k, d = k + 1 := ⟨d - 1, by omega⟩
  rw [show (((k + 1 : Nat) : Int) - 1) = (k : Int) by omega, ws_ok ho (by omega)]
  exact wtF_iff.2 (hd.2 k (by omega))
end
end Go.Proofs.Ytoafgeobhhlplaa
