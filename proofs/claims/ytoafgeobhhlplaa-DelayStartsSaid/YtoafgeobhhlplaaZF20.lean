/- Parts of the proof: DG DH. -/
import Derived.Test.YtoafgeobhhlplaaZF19
namespace Go.Proofs.Ytoafgeobhhlplaa
set_option linter.unusedSimpArgs false
set_option linter.unusedVariables false
open Go Go.Lift
def stB (W : List Wd) (k : Nat) (v : Wd) : Bool := rd W (W.getD k []) v
def preA (W : List Wd) (v : Wd) (n : Nat) : List Int := ((List.range n).filter fun k => stB W k v).map fun k : Nat => (k : Int)
def preL (W : List Wd) (v : Wd) : List Int := preA W v W.length
def othF (W : List Wd) (v : Wd) (x : Nat) : Option Nat := (List.range W.length).find? fun y => decide (y ≠ x) && stB W y v
def othN (W : List Wd) (v : Wd) (x : Nat) : Int := match othF W v x with
  | some y => y
  | none => -1
def cerB (W : List Wd) (d : Nat) (w : Wd) (i : Nat) : Bool := decide ((W.getD i []).length + d ≤ w.length) && decide (W.getD i [] <+: w) && stB W i (w.take ((W.getD i []).length + d)) && !(othF W (w.take ((W.getD i []).length + d)) i).isSome
def cerF (W : List Wd) (d : Nat) (w : Wd) : Option Nat := (List.range W.length).find? (cerB W d w)
def rdS (W : List Wd) (d : Nat) (w : Wd) : Nat → List Int × Nat
  | 0 => ([], 0)
  | k + 1 => match cerF W d (w.drop (rdS W d w k).2) with
    | some i => ((rdS W d w k).1 ++ [(i : Int)], (rdS W d w k).2 + (W.getD i []).length)
    | none => rdS W d w k
def rdR (W : List Wd) (d : Nat) (w : Wd) : List Int × Nat := rdS W d w w.length
def msg (W : List Wd) (l : List Int) : Wd := l.flatMap fun k => W.getD k.toNat []
section
variable {W : List Wd} {q : Nat}
theorem preA_succ {v : Wd} {n : Nat} : preA W v (n + 1) = preA W v n ++ if stB W n v = true then [(n : Int)] else [] := by
  unfold preA
  by_cases h : stB W n v = true <;> simp [List.range_succ, List.filter_append, h]
theorem preA_len {v : Wd} {n : Nat} : (preA W v n).length ≤ n := by
  unfold preA
  rw [List.length_map]
  exact Nat.le_trans (List.length_filter_le _ _) (by rw [List.length_range]; exact Nat.le_refl _)
theorem pre_mem {v : Wd} {x : Int} : x ∈ preL W v ↔ ∃ k : Nat, k < W.length ∧ x = k ∧ stB W k v = true := by
  unfold preL preA
  rw [List.mem_map]
  constructor
  · rintro ⟨k, hk, rfl⟩
    rw [List.mem_filter, List.mem_range] at hk
    exact ⟨k, hk.1, rfl, hk.2⟩
  · rintro ⟨k, hk, rfl, h⟩
    exact ⟨k, List.mem_filter.2 ⟨List.mem_range.2 hk, h⟩, rfl⟩
theorem pre_asc {v : Wd} : (preL W v).Pairwise (· < ·) := by
  unfold preL preA
  rw [List.pairwise_map]
  exact ((List.pairwise_lt_range (n := W.length)).filter _).imp fun h => by omega
theorem oth_some {v : Wd} {x y : Nat} (h : othF W v x = some y) : y < W.length ∧ y ≠ x ∧ stB W y v = true := by
  unfold othF at h
  have h1 := List.find?_some h
  rw [Bool.and_eq_true, decide_eq_true_eq] at h1
  exact ⟨List.mem_range.1 (List.mem_of_find?_eq_some h), h1.1, h1.2⟩
theorem oth_none {v : Wd} {x : Nat} (h : othF W v x = none) {y : Nat} (hy : y < W.length) (hne : y ≠ x) : stB W y v = false := by
  unfold othF at h
  have := List.find?_eq_none.1 h y (List.mem_range.2 hy)
  simpa [hne] using this
theorem oth_at {v : Wd} {x y : Nat} (hy : y < W.length) (hne : y ≠ x) (h : stB W y v = true) (hn : ∀ j, j < y → j ≠ x → stB W j v = false) : othF W v x = some y := by
  unfold othF
  rw [List.find?_eq_some_iff_getElem]
  refine ⟨by simp [hne, h], y, by simpa using hy, by simp, fun j hj => ?_⟩
  rw [List.getElem_range]
  by_cases e : j = x
  · simp [e]
  · simp [e, hn j hj e]
theorem oth_no {v : Wd} {x : Nat} (hn : ∀ j, j < W.length → j ≠ x → stB W j v = false) : othF W v x = none := by
  unfold othF
  rw [List.find?_eq_none]
  intro j hj
  by_cases e : j = x
  · simp [e]
  · simp [e, hn j (List.mem_range.1 hj) e]
theorem oth_iff {v : Wd} {x : Nat} : (othF W v x).isSome = true ↔ ∃ y, y < W.length ∧ y ≠ x ∧ stB W y v = true := by
  constructor
  · intro h
    obtain ⟨y, hy⟩ := Option.isSome_iff_exists.1 h
    exact ⟨y, oth_some hy⟩
  · rintro ⟨y, hy, hne, h⟩
    cases e : othF W v x with
    | some z => rfl
    | none => rw [oth_none e hy hne] at h; cases h
theorem rd_msg : ∀ {l : List Int}, (∀ k ∈ l, 0 ≤ k ∧ k < (W.length : Int)) → rd W [] (msg W l) = true
  | [], _ => rfl
  | k :: l, h => by
    have h1 := h k List.mem_cons_self
    show rd W [] (W.getD k.toNat [] ++ msg W l) = true
    exact rd_of_word (W_mem (show k.toNat < W.length by omega)) (by rw [rd_app0]; exact rd_msg fun j hj => h j (List.mem_cons_of_mem _ hj))
theorem msg_cons {k : Int} {l : List Int} : msg W (k :: l) = W.getD k.toNat [] ++ msg W l := rfl
theorem st_msg {k : Int} {l : List Int} (h : ∀ j ∈ k :: l, 0 ≤ j ∧ j < (W.length : Int)) {n : Nat} : stB W k.toNat ((msg W (k :: l)).take n) = true := by
  refine rd_less' (List.take_prefix _ _) (w := msg W (k :: l)) ?_
  rw [msg_cons, rd_app0]
  exact rd_msg fun j hj => h j (List.mem_cons_of_mem _ hj)
theorem opn_two {i k : Nat} {v : Wd} (hk : k < W.length) (hne : k ≠ i) (hp : W.getD i [] <+: v) (h1 : stB W i v = true) (h2 : stB W k v = true) : ∃ u, v = W.getD i [] ++ u ∧ opn W i u := by
  obtain ⟨u, rfl⟩ := hp
  refine ⟨u, rfl, ?_, k, hk, hne, h2⟩
  unfold stB at h1
  rwa [rd_app0] at h1
theorem opn_st {i : Nat} {u : Wd} (h : opn W i u) : stB W i (W.getD i [] ++ u) = true ∧ (othF W (W.getD i [] ++ u) i).isSome = true := by
  obtain ⟨h1, k, hk, hne, h2⟩ := h
  exact ⟨by unfold stB; rw [rd_app0]; exact h1, oth_iff.2 ⟨k, hk, hne, h2⟩⟩
theorem cer_some {d : Nat} {w : Wd} {i : Nat} (h : cerF W d w = some i) : i < W.length ∧ (W.getD i []).length + d ≤ w.length ∧ W.getD i [] <+: w ∧ stB W i (w.take ((W.getD i []).length + d)) = true ∧ othF W (w.take ((W.getD i []).length + d)) i = none := by
  unfold cerF at h
  have h1 := List.find?_some h
  unfold cerB at h1
  simp only [Bool.and_eq_true, decide_eq_true_eq, Bool.not_eq_true'] at h1
  refine ⟨List.mem_range.1 (List.mem_of_find?_eq_some h), h1.1.1.1, h1.1.1.2, h1.1.2, ?_⟩
  cases e : othF W (w.take ((W.getD i []).length + d)) i with
  | none => rfl
  | some y => rw [e] at h1; simp at h1
theorem cer_at {d : Nat} {w : Wd} {i : Nat} (hi : i < W.length) (h : cerB W d w i = true) (hn : ∀ j, j < i → cerB W d w j = false) : cerF W d w = some i := by
  unfold cerF
  rw [List.find?_eq_some_iff_getElem]
  exact ⟨h, i, by simpa using hi, by simp, fun j hj => by rw [List.getElem_range, hn j hj]; rfl⟩
theorem cer_no {d : Nat} {w : Wd} (hn : ∀ j, j < W.length → cerB W d w j = false) : cerF W d w = none := by
  unfold cerF
  rw [List.find?_eq_none]
  intro j hj
  rw [hn j (List.mem_range.1 hj)]; simp
theorem rdS_box {d : Nat} {w : Wd} : ∀ k, (rdS W d w k).2 ≤ w.length
  | 0 => Nat.zero_le _
  | k + 1 => by
    have ih := rdS_box (d := d) (w := w) k
    show (match cerF W d (w.drop (rdS W d w k).2) with
      | some i => ((rdS W d w k).1 ++ [(i : Int)], (rdS W d w k).2 + (W.getD i []).length)
      | none => rdS W d w k).2 ≤ _
    cases e : cerF W d (w.drop (rdS W d w k).2) with
    | none => exact ih
    | some i =>
      have := (cer_some e).2.1
      rw [List.length_drop] at this
      show (rdS W d w k).2 + _ ≤ _
      omega
theorem rdS_some {d : Nat} {w : Wd} {k i : Nat} (h : cerF W d (w.drop (rdS W d w k).2) = some i) : rdS W d w (k + 1) = ((rdS W d w k).1 ++ [(i : Int)], (rdS W d w k).2 + (W.getD i []).length) := by
  show (match cerF W d (w.drop (rdS W d w k).2) with
      | some i => ((rdS W d w k).1 ++ [(i : Int)], (rdS W d w k).2 + (W.getD i []).length)
      | none => rdS W d w k) = _
  rw [h]
theorem rdS_none {d : Nat} {w : Wd} {k : Nat} (h : cerF W d (w.drop (rdS W d w k).2) = none) : rdS W d w (k + 1) = rdS W d w k := by
  show (match cerF W d (w.drop (rdS W d w k).2) with
      | some i => ((rdS W d w k).1 ++ [(i : Int)], (rdS W d w k).2 + (W.getD i []).length)
      | none => rdS W d w k) = _
  rw [h]
theorem rdS_stay {d : Nat} {w : Wd} {k : Nat} (h : cerF W d (w.drop (rdS W d w k).2) = none) : ∀ e, rdS W d w (k + e) = rdS W d w k
  | 0 => rfl
  | e + 1 => by
    show rdS W d w (k + e + 1) = _
    rw [rdS_none (by rw [rdS_stay h e]; exact h), rdS_stay h e]
theorem rdS_count (hW : ∀ x ∈ W, x ≠ []) {d : Nat} {w : Wd} : ∀ k, (∀ j, j < k → cerF W d (w.drop (rdS W d w j).2) ≠ none) → k ≤ (rdS W d w k).2
  | 0, _ => Nat.zero_le _
  | k + 1, h => by
    have ih := rdS_count hW k fun j hj => h j (by omega)
    cases e : cerF W d (w.drop (rdS W d w k).2) with
    | none => exact absurd e (h k (by omega))
    | some i =>
      have := List.length_pos_iff.2 (hW _ (W_mem (cer_some e).1))
      rw [rdS_some e]
      show k + 1 ≤ _ + _
      omega
theorem rdR_end (hW : ∀ x ∈ W, x ≠ []) {d : Nat} {w : Wd} {k : Nat} (hn : ∀ j, j < k → cerF W d (w.drop (rdS W d w j).2) ≠ none) (h : cerF W d (w.drop (rdS W d w k).2) = none) : rdR W d w = rdS W d w k := by
  have h1 := rdS_count hW k hn
  have h2 := rdS_box (W := W) (d := d) (w := w) k
  have := rdS_stay h (w.length - k)
  rwa [show k + (w.length - k) = w.length by omega] at this
end
end Go.Proofs.Ytoafgeobhhlplaa
namespace Go.Proofs.Ytoafgeobhhlplaa
set_option linter.unusedSimpArgs false
set_option linter.unusedVariables false
open Go Go.Lift
def opB (W : List Wd) (i : Nat) (w : Wd) : Bool := decide (W.getD i [] <+: w) && stB W i w && (othF W w i).isSome
def lngW (W : List Wd) (q i : Nat) : Nat → Wd → Option Wd
  | 0, w => if opB W i w = true then some w else none
  | k + 1, w => if opB W i w = true then (List.range q).findSome? fun j => lngW W q i k (w ++ [letters.getD j 0]) else none
def lessW (a b : Wd) : Prop := a.length < b.length ∨ (a.length = b.length ∧ a < b)
instance {a b : Wd} : Decidable (lessW a b) := by unfold lessW; infer_instance
noncomputable def wtU (W : List Wd) (q d : Nat) (k : Nat) (best : Option (Nat × Wd)) : Option (Nat × Wd) := match fstW W q k d with
  | none => best
  | some u => match best with
    | none => some (k, W.getD k [] ++ u)
    | some (b, w) => if lessW (W.getD k [] ++ u) w then some (k, W.getD k [] ++ u) else some (b, w)
noncomputable def wtA (W : List Wd) (q d : Nat) : Nat → Option (Nat × Wd)
  | 0 => none
  | k + 1 => wtU W q d k (wtA W q d k)
noncomputable def wtF (W : List Wd) (q d : Nat) : Option (Nat × Wd) := wtA W q d W.length
section
variable {W : List Wd} {q : Nat}
theorem opB_iff {i : Nat} {u : Wd} : opB W i (W.getD i [] ++ u) = true ↔ opn W i u := by
  unfold opB
  rw [Bool.and_eq_true, Bool.and_eq_true, decide_eq_true_eq]
  constructor
  · rintro ⟨⟨h1, h2⟩, h3⟩
    obtain ⟨y, hy, hne, h4⟩ := oth_iff.1 h3
    obtain ⟨v, e, ho⟩ := opn_two hy hne h1 h2 h4
    rwa [← List.append_cancel_left e] at ho
  · intro h
    obtain ⟨h1, h2⟩ := opn_st h
    exact ⟨⟨List.prefix_append _ _, h1⟩, h2⟩
theorem lng_spec (hW : ∀ w ∈ W, LtOK q w) {i : Nat} : ∀ k {u : Wd}, (exO W i k u → lngW W q i k (W.getD i [] ++ u) = some (W.getD i [] ++ grW W q i k u)) ∧ (¬ exO W i k u → lngW W q i k (W.getD i [] ++ u) = none)
  | 0, u => by
    constructor
    · intro h
      show (if opB W i (W.getD i [] ++ u) = true then some (W.getD i [] ++ u) else none) = _
      rw [if_pos (opB_iff.2 (exO_zero.1 h))]; rfl
    · intro h
      show (if opB W i (W.getD i [] ++ u) = true then some (W.getD i [] ++ u) else none) = _
      rw [if_neg (fun h2 => h (exO_zero.2 (opB_iff.1 h2)))]
  | k + 1, u => by
    have hstep : ∀ j, lngW W q i k (W.getD i [] ++ u ++ [letters.getD j 0]) = lngW W q i k (W.getD i [] ++ (u ++ [letters.getD j 0])) := fun j => by rw [List.append_assoc]
    constructor
    · intro h
      have ho : opn W i u := by
        obtain ⟨t, _, h1⟩ := h
        exact opn_less h1
      obtain ⟨j0, hj0, h1⟩ := (exO_succ hW).1 h
      have hex : ∃ j, j < q ∧ exO W i k (u ++ [letters.getD j 0]) ∧ ∀ j', j' < j → ¬ exO W i k (u ++ [letters.getD j' 0]) := by
        clear h
        induction j0 using Nat.strongRecOn with
        | ind j ih =>
          by_cases hc : ∀ j', j' < j → ¬ exO W i k (u ++ [letters.getD j' 0])
          · exact ⟨j, hj0, h1, hc⟩
          · have : ∃ j', j' < j ∧ exO W i k (u ++ [letters.getD j' 0]) := Classical.byContradiction fun hc2 => hc fun j' h1 h2 => hc2 ⟨j', h1, h2⟩
            obtain ⟨j', h2, h3⟩ := this
            exact ih j' h2 (by omega) h3
      obtain ⟨j, hj, h2, h3⟩ := hex
      show (if opB W i (W.getD i [] ++ u) = true then (List.range q).findSome? fun j => lngW W q i k (W.getD i [] ++ u ++ [letters.getD j 0]) else none) = _
      rw [if_pos (opB_iff.2 ho), gr_step hj h2 h3]
      simp only [hstep]
      have hfs : ∀ (n : Nat), n ≤ j → (List.range n).findSome? (fun j => lngW W q i k (W.getD i [] ++ (u ++ [letters.getD j 0]))) = none := fun n hn => by
        rw [List.findSome?_eq_none_iff]
        intro a ha
        have := List.mem_range.1 ha
        exact (lng_spec hW k).2 (h3 a (by omega))
      have hq : List.range q = List.range j ++ (j :: (List.range (q - j - 1)).map fun a => j + 1 + a) := by
        conv => lhs; rw [show q = j + (1 + (q - j - 1)) by omega, List.range_add, List.range_add]
        simp [List.map_append, Nat.add_assoc, Nat.add_comm]
        intro a _; omega
      rw [hq, List.findSome?_append, hfs j (Nat.le_refl _), List.findSome?_cons, (lng_spec hW k).1 h2]
      rfl
    · intro h
      show (if opB W i (W.getD i [] ++ u) = true then (List.range q).findSome? fun j => lngW W q i k (W.getD i [] ++ u ++ [letters.getD j 0]) else none) = _
      split
      · rw [List.findSome?_eq_none_iff]
        intro j hj
        rw [hstep]
        exact (lng_spec hW k).2 fun h2 => h ((exO_succ hW).2 ⟨j, List.mem_range.1 hj, h2⟩)
      · rfl
theorem lng_fst (hW : ∀ w ∈ W, LtOK q w) {i n : Nat} : lngW W q i n (W.getD i []) = (fstW W q i n).map fun u => W.getD i [] ++ u := by
  have h := lng_spec hW (i := i) n (u := [])
  rw [List.append_nil] at h
  unfold fstW
  by_cases hc : exO W i n []
  · rw [if_pos hc, h.1 hc]; rfl
  · rw [if_neg hc, h.2 hc]; rfl
theorem wtU_none {d k : Nat} {best : Option (Nat × Wd)} (h : fstW W q k d = none) : wtU W q d k best = best := by unfold wtU; rw [h]
theorem wtU_first {d k : Nat} {u : Wd} (h : fstW W q k d = some u) : wtU W q d k none = some (k, W.getD k [] ++ u) := by unfold wtU; rw [h]
theorem wtU_less {d k b : Nat} {u w : Wd} (h : fstW W q k d = some u) (hl : lessW (W.getD k [] ++ u) w) : wtU W q d k (some (b, w)) = some (k, W.getD k [] ++ u) := by unfold wtU; rw [h]; exact if_pos hl
theorem wtU_keep {d k b : Nat} {u w : Wd} (h : fstW W q k d = some u) (hl : ¬ lessW (W.getD k [] ++ u) w) : wtU W q d k (some (b, w)) = some (b, w) := by unfold wtU; rw [h]; exact if_neg hl
theorem wtA_succ {d k : Nat} : wtA W q d (k + 1) = wtU W q d k (wtA W q d k) := rfl
theorem wtA_some (hW : ∀ w ∈ W, LtOK q w) {d : Nat} : ∀ {k b : Nat} {w : Wd}, wtA W q d k = some (b, w) → b < k ∧ ∃ u, w = W.getD b [] ++ u ∧ opn W b u ∧ u.length = d
  | 0, b, w, h => by cases h
  | k + 1, b, w, h => by
    rw [wtA_succ] at h
    cases hf : fstW W q k d with
    | none =>
      rw [wtU_none hf] at h
      obtain ⟨h1, h2⟩ := wtA_some hW h
      exact ⟨by omega, h2⟩
    | some u =>
      have hs := fst_some hW hf
      cases hb : wtA W q d k with
      | none =>
        rw [hb, wtU_first hf] at h
        injection h with h
        injection h with h1 h2
        subst h1 h2
        exact ⟨by omega, u, rfl, hs.1, hs.2⟩
      | some p =>
        obtain ⟨b', w'⟩ := p
        rw [hb] at h
        by_cases hl : lessW (W.getD k [] ++ u) w'
        · rw [wtU_less hf hl] at h
          injection h with h
          injection h with h1 h2
          subst h1 h2
          exact ⟨by omega, u, rfl, hs.1, hs.2⟩
        · rw [wtU_keep hf hl] at h
          injection h with h
          injection h with h1 h2
          subst h1 h2
          obtain ⟨h1, h2⟩ := wtA_some hW hb
          exact ⟨by omega, h2⟩
end
end Go.Proofs.Ytoafgeobhhlplaa
