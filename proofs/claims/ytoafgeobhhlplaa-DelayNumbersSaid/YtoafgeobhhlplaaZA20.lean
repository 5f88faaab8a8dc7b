/- Parts of the proof: DH DI DJ DK. -/
import Derived.Test.YtoafgeobhhlplaaZA19
namespace Go.Proofs.Ytoafgeobhhlplaa
set_option linter.unusedSimpArgs false
set_option linter.unusedVariables false
open Go Go.Lift
def opB (W : List Wd) (i : Nat) (w : Wd) : Bool := decide (W.getD i [] <+: w) && stB W i w && (othF W w i).isSome
def lngW (W : List Wd) (q i : Nat) : Nat → Wd → Option Wd
  | 0, w => if opB W i w = true then some w else none
  | k + 1, w => if opB W i w = true then (List.range q).findSome? fun j => lngW W q i k (w ++ [letters.getD j 0]) else none
def lessW (a b : Wd) : Prop := a.length < b.length ∨ (a.length = b.length ∧ a < b)
instance {a b : Wd} : Decidable (lessW a b) := by unfold lessW; infer_instance
noncomputable def wtU (W : List Wd) (q d : Nat) (k : Nat) (best : Option (Nat × Wd)) : Option (Nat × Wd) := match fstW W q k d with
  | none => best
  | some u => match best with
    | none => some (k, W.getD k [] ++ u)
    | some (b, w) => if lessW (W.getD k [] ++ u) w then some (k, W.getD k [] ++ u) else some (b, w)
noncomputable def wtA (W : List Wd) (q d : Nat) : Nat → Option (Nat × Wd)
  | 0 => none
  | k + 1 => wtU W q d k (wtA W q d k)
noncomputable def wtF (W : List Wd) (q d : Nat) : Option (Nat × Wd) := wtA W q d W.length
noncomputable def rwU (W : List Wd) (q d n : Nat) (k : Nat) (best : Option (Nat × Wd)) : Option (Nat × Wd) := if (W.getD k []).length = n then match fstW W q k d with
  | none => best
  | some u => match best with
    | none => some (k, W.getD k [] ++ u)
    | some (b, w) => if W.getD k [] ++ u < w then some (k, W.getD k [] ++ u) else some (b, w)
  else best
noncomputable def rwA (W : List Wd) (q d n : Nat) : Nat → Option (Nat × Wd)
  | 0 => none
  | k + 1 => rwU W q d n k (rwA W q d n k)
section
variable {W : List Wd} {q : Nat}
theorem opB_iff {i : Nat} {u : Wd} : opB W i (W.getD i [] ++ u) = true ↔ opn W i u := by
  unfold opB
  rw [Bool.and_eq_true, Bool.and_eq_true, decide_eq_true_eq]
  constructor
  · rintro ⟨⟨h1, h2⟩, h3⟩
    obtain ⟨y, hy, hne, h4⟩ := oth_iff.1 h3
    obtain ⟨v, e, ho⟩ := opn_two hy hne h1 h2 h4
    rwa [← List.append_cancel_left e] at ho
  · intro h
    obtain ⟨h1, h2⟩ := opn_st h
    exact ⟨⟨List.prefix_append _ _, h1⟩, h2⟩
theorem lng_spec (hW : ∀ w ∈ W, LtOK q w) {i : Nat} : ∀ k {u : Wd}, (exO W i k u → lngW W q i k (W.getD i [] ++ u) = some (W.getD i [] ++ grW W q i k u)) ∧ (¬ exO W i k u → lngW W q i k (W.getD i [] ++ u) = none)
  | 0, u => by
    constructor
    · intro h
      show (if opB W i (W.getD i [] ++ u) = true then some (W.getD i [] ++ u) else none) = _
      rw [if_pos (opB_iff.2 (exO_zero.1 h))]; rfl
    · intro h
      show (if opB W i (W.getD i [] ++ u) = true then some (W.getD i [] ++ u) else none) = _
      rw [if_neg (fun h2 => h (exO_zero.2 (opB_iff.1 h2)))]
  | k + 1, u => by
    have hstep : ∀ j, lngW W q i k (W.getD i [] ++ u ++ [letters.getD j 0]) = lngW W q i k (W.getD i [] ++ (u ++ [letters.getD j 0])) := fun j => by rw [List.append_assoc]
    constructor
    · intro h
      have ho : opn W i u := by
        obtain ⟨t, _, h1⟩ := h
        exact opn_less h1
      obtain ⟨j0, hj0, h1⟩ := (exO_succ hW).1 h
      have hex : ∃ j, j < q ∧ exO W i k (u ++ [letters.getD j 0]) ∧ ∀ j', j' < j → ¬ exO W i k (u ++ [letters.getD j' 0]) := by
        clear h
        induction j0 using Nat.strongRecOn with
        | ind j ih =>
          by_cases hc : ∀ j', j' < j → ¬ exO W i k (u ++ [letters.getD j' 0])
          · exact ⟨j, hj0, h1, hc⟩
          · have : ∃ j', j' < j ∧ exO W i k (u ++ [letters.getD j' 0]) := Classical.byContradiction fun hc2 => hc fun j' h1 h2 => hc2 ⟨j', h1, h2⟩
            obtain ⟨j', h2, h3⟩ := this
            exact ih j' h2 (by omega) h3
      obtain ⟨j, hj, h2, h3⟩ := hex
      show (if opB W i (W.getD i [] ++ u) = true then (List.range q).findSome? fun j => lngW W q i k (W.getD i [] ++ u ++ [letters.getD j 0]) else none) = _
      rw [if_pos (opB_iff.2 ho), gr_step hj h2 h3]
      simp only [hstep]
      have hfs : ∀ (n : Nat), n ≤ j → (List.range n).findSome? (fun j => lngW W q i k (W.getD i [] ++ (u ++ [letters.getD j 0]))) = none := fun n hn => by
        rw [List.findSome?_eq_none_iff]
        intro a ha
        have := List.mem_range.1 ha
        exact (lng_spec hW k).2 (h3 a (by omega))
      have hq : List.range q = List.range j ++ (j :: (List.range (q - j - 1)).map fun a => j + 1 + a) := by
        conv => lhs; rw [show q = j + (1 + (q - j - 1)) by omega, List.range_add, List.range_add]
        simp [List.map_append, Nat.add_assoc, Nat.add_comm]
        intro a _; omega
      rw [hq, List.findSome?_append, hfs j (Nat.le_refl _), List.findSome?_cons, (lng_spec hW k).1 h2]
      rfl
    · intro h
      show (if opB W i (W.getD i [] ++ u) = true then (List.range q).findSome? fun j => lngW W q i k (W.getD i [] ++ u ++ [letters.getD j 0]) else none) = _
      split
      · rw [List.findSome?_eq_none_iff]
        intro j hj
        rw [hstep]
        exact (lng_spec hW k).2 fun h2 => h ((exO_succ hW).2 ⟨j, List.mem_range.1 hj, h2⟩)
      · rfl
theorem lng_fst (hW : ∀ w ∈ W, LtOK q w) {i n : Nat} : lngW W q i n (W.getD i []) = (fstW W q i n).map fun u => W.getD i [] ++ u := by
  have h := lng_spec hW (i := i) n (u := [])
  rw [List.append_nil] at h
  unfold fstW
  by_cases hc : exO W i n []
  · rw [if_pos hc, h.1 hc]; rfl
  · rw [if_neg hc, h.2 hc]; rfl
theorem wtU_none {d k : Nat} {best : Option (Nat × Wd)} (h : fstW W q k d = none) : wtU W q d k best = best := by unfold wtU; rw [h]
theorem wtU_first {d k : Nat} {u : Wd} (h : fstW W q k d = some u) : wtU W q d k none = some (k, W.getD k [] ++ u) := by unfold wtU; rw [h]
theorem wtU_less {d k b : Nat} {u w : Wd} (h : fstW W q k d = some u) (hl : lessW (W.getD k [] ++ u) w) : wtU W q d k (some (b, w)) = some (k, W.getD k [] ++ u) := by unfold wtU; rw [h]; exact if_pos hl
theorem wtU_keep {d k b : Nat} {u w : Wd} (h : fstW W q k d = some u) (hl : ¬ lessW (W.getD k [] ++ u) w) : wtU W q d k (some (b, w)) = some (b, w) := by unfold wtU; rw [h]; exact if_neg hl
theorem wtA_succ {d k : Nat} : wtA W q d (k + 1) = wtU W q d k (wtA W q d k) := rfl
theorem rwA_succ {d n k : Nat} : rwA W q d n (k + 1) = rwU W q d n k (rwA W q d n k) := rfl
theorem rwU_other {d n k : Nat} {best : Option (Nat × Wd)} (h : (W.getD k []).length ≠ n) : rwU W q d n k best = best := if_neg h
theorem rwU_none {d n k : Nat} {best : Option (Nat × Wd)} (h : fstW W q k d = none) : rwU W q d n k best = best := by
  unfold rwU
  split
  · rw [h]
  · rfl
theorem rwU_first {d n k : Nat} {u : Wd} (hn : (W.getD k []).length = n) (h : fstW W q k d = some u) : rwU W q d n k none = some (k, W.getD k [] ++ u) := by unfold rwU; rw [if_pos hn, h]
theorem rwU_less {d n k b : Nat} {u w : Wd} (hn : (W.getD k []).length = n) (h : fstW W q k d = some u) (hl : W.getD k [] ++ u < w) : rwU W q d n k (some (b, w)) = some (k, W.getD k [] ++ u) := by unfold rwU; rw [if_pos hn, h]; exact if_pos hl
theorem rwU_keep {d n k b : Nat} {u w : Wd} (hn : (W.getD k []).length = n) (h : fstW W q k d = some u) (hl : ¬ W.getD k [] ++ u < w) : rwU W q d n k (some (b, w)) = some (b, w) := by unfold rwU; rw [if_pos hn, h]; exact if_neg hl
theorem wtA_some (hW : ∀ w ∈ W, LtOK q w) {d : Nat} : ∀ {k b : Nat} {w : Wd}, wtA W q d k = some (b, w) → b < k ∧ ∃ u, w = W.getD b [] ++ u ∧ opn W b u ∧ u.length = d
  | 0, b, w, h => by cases h
  | k + 1, b, w, h => by
    rw [wtA_succ] at h
    cases hf : fstW W q k d with
    | none =>
      rw [wtU_none hf] at h
      obtain ⟨h1, h2⟩ := wtA_some hW h
      exact ⟨by omega, h2⟩
    | some u =>
      have hs := fst_some hW hf
      cases hb : wtA W q d k with
      | none =>
        rw [hb, wtU_first hf] at h
        injection h with h
        injection h with h1 h2
        subst h1 h2
        exact ⟨by omega, u, rfl, hs.1, hs.2⟩
      | some p =>
        obtain ⟨b', w'⟩ := p
        rw [hb] at h
        by_cases hl : lessW (W.getD k [] ++ u) w'
        · rw [wtU_less hf hl] at h
          injection h with h
          injection h with h1 h2
          subst h1 h2
          exact ⟨by omega, u, rfl, hs.1, hs.2⟩
        · rw [wtU_keep hf hl] at h
          injection h with h
          injection h with h1 h2
          subst h1 h2
          obtain ⟨h1, h2⟩ := wtA_some hW hb
          exact ⟨by omega, h2⟩
theorem rw_same (hW : ∀ w ∈ W, LtOK q w) (hs : ∀ i j, i < j → j < W.length → (W.getD i []).length ≤ (W.getD j []).length) {d : Nat} : ∀ {k : Nat}, k ≤ W.length → (∀ n, wtA W q d k = none → rwA W q d n k = none) ∧ ∀ b w, wtA W q d k = some (b, w) → rwA W q d (W.getD b []).length k = some (b, w) ∧ ∀ n, n < (W.getD b []).length → rwA W q d n k = none
  | 0, _ => ⟨fun _ _ => rfl, fun b w h => by cases h⟩
  | k + 1, hk => by
    obtain ⟨ih1, ih2⟩ := rw_same hW hs (d := d) (k := k) (by omega)
    cases hf : fstW W q k d with
    | none =>
      constructor
      · intro n h
        rw [wtA_succ, wtU_none hf] at h
        rw [rwA_succ, rwU_none hf, ih1 n h]
      · intro b w h
        rw [wtA_succ, wtU_none hf] at h
        obtain ⟨h1, h2⟩ := ih2 b w h
        exact ⟨by rw [rwA_succ, rwU_none hf, h1], fun n hn => by rw [rwA_succ, rwU_none hf, h2 n hn]⟩
    | some u =>
      have hfs := fst_some hW hf
      cases hb : wtA W q d k with
      | none =>
        constructor
        · intro n h
          rw [wtA_succ, hb, wtU_first hf] at h; cases h
        · intro b w h
          rw [wtA_succ, hb, wtU_first hf] at h
          injection h with h
          injection h with h1 h2
          subst h1 h2
          exact ⟨by rw [rwA_succ, ih1 _ hb, rwU_first rfl hf], fun n hn => by rw [rwA_succ, ih1 _ hb, rwU_other (by omega)]⟩
      | some p =>
        obtain ⟨b', w'⟩ := p
        obtain ⟨h1, h2⟩ := ih2 b' w' hb
        obtain ⟨hbk, u', e', ho', hl'⟩ := wtA_some hW hb
        have hle := hs b' k hbk (by omega)
        have hlw : w'.length = (W.getD b' []).length + d := by rw [e', List.length_append, hl']
        have hlk : (W.getD k [] ++ u).length = (W.getD k []).length + d := by rw [List.length_append, hfs.2]
        constructor
        · intro n h
          rw [wtA_succ, hb] at h
          by_cases hl : lessW (W.getD k [] ++ u) w'
          · rw [wtU_less hf hl] at h; cases h
          · rw [wtU_keep hf hl] at h; cases h
        · intro b w h
          rw [wtA_succ, hb] at h
          by_cases hl : lessW (W.getD k [] ++ u) w'
          · rw [wtU_less hf hl] at h
            injection h with h
            injection h with h3 h4
            subst h3 h4
            have hel : (W.getD k []).length = (W.getD b' []).length := by
              rcases hl with h5 | h5 <;> omega
            have hlt : W.getD k [] ++ u < w' := by
              rcases hl with h5 | h5
              · omega
              · exact h5.2
            refine ⟨?_, fun n hn => ?_⟩
            · rw [rwA_succ, hel, h1, rwU_less hel hf hlt]
            · rw [rwA_succ, h2 n (by omega), rwU_other (by omega)]
          · rw [wtU_keep hf hl] at h
            injection h with h
            injection h with h3 h4
            subst h3 h4
            refine ⟨?_, fun n hn => ?_⟩
            · rw [rwA_succ, h1]
              by_cases hel : (W.getD k []).length = (W.getD b' []).length
              · rw [rwU_keep hel hf fun hlt => hl (.inr ⟨by omega, hlt⟩)]
              · exact rwU_other hel
            · rw [rwA_succ, h2 n hn, rwU_other (by omega)]
end
end Go.Proofs.Ytoafgeobhhlplaa
namespace Go.Proofs.Ytoafgeobhhlplaa
set_option linter.unusedSimpArgs false
set_option linter.unusedVariables false
open Go Go.Lift
structure Cd where
  q : Int
  ws : List Wd
def cdF (c : Cd) (j : Nat) : AVal := match j with
  | 0 => .int .i64 c.q
  | _ => strs c.ws
section
variable {c : Cd} {j : Nat} {ρ : Nat → Nat}
@[simp] theorem cdF0 : cdF c 0 = .int .i64 c.q := rfl
@[simp] theorem cdF1 : cdF c 1 = strs c.ws := rfl
@[simp] theorem one_cdF : (cdF c j).one = true := by unfold cdF; split <;> rfl
@[simp] theorem Clo_cdF : Clo (cdF c j) := by unfold cdF; split <;> first | trivial | exact Clo_strs
@[simp] theorem ren_cdF : ren ρ (cdF c j) = cdF c j := by unfold cdF; split <;> first | rfl | exact ren_strs
end
def cdE (c : Cd) (i : Nat) : Int := if (c.ws.getD i []).length = 0 then 5 else if 32 < (c.ws.getD i []).length then 4 else if wordCheck c.q (c.ws.getD i []) ≠ 0 then 13 else if 0 < i ∧ ¬ lessW (c.ws.getD (i - 1) []) (c.ws.getD i []) then 10 else 0
def cdN (c : Cd) : Int := if c.q < 2 ∨ 16 < c.q then 12 else if c.ws.length = 0 then 5 else if 64 < c.ws.length then 4 else firstNZ (cdE c) (List.range c.ws.length)
structure CdOK (c : Cd) : Prop where
  q : 2 ≤ c.q ∧ c.q ≤ 16
  n : 1 ≤ c.ws.length ∧ c.ws.length ≤ 64
  ne : ∀ w ∈ c.ws, w ≠ []
  len : ∀ w ∈ c.ws, w.length ≤ 32
  chk : ∀ w ∈ c.ws, wordCheck c.q w = 0
  asc : c.ws.Pairwise lessW
section
variable {c : Cd}
theorem lessW_trans {a b d : Wd} (h : lessW a b) (h2 : lessW b d) : lessW a d := by
  unfold lessW at *
  rcases h with h | ⟨h, h3⟩ <;> rcases h2 with h2 | ⟨h2, h4⟩
  · exact .inl (by omega)
  · exact .inl (by omega)
  · exact .inl (by omega)
  · exact .inr ⟨by omega, List.lt_trans h3 h4⟩
theorem lessW_ne {a b : Wd} (h : lessW a b) : a ≠ b := by
  rintro rfl
  rcases h with h | ⟨_, h⟩
  · omega
  · exact absurd h (List.lt_irrefl a)
theorem cd_1 (h : c.q < 2 ∨ 16 < c.q) : cdN c = 12 := if_pos h
theorem cd_2 (h : 2 ≤ c.q ∧ c.q ≤ 16) (h2 : c.ws.length = 0) : cdN c = 5 := by unfold cdN; rw [if_neg (by omega), if_pos h2]
theorem cd_3 (h : 2 ≤ c.q ∧ c.q ≤ 16) (h2 : 64 < c.ws.length) : cdN c = 4 := by unfold cdN; rw [if_neg (by omega), if_neg (by omega), if_pos h2]
theorem cd_4 (h : 2 ≤ c.q ∧ c.q ≤ 16) (h2 : c.ws.length ≠ 0) (h3 : c.ws.length ≤ 64) {i : Nat} (hi : i < c.ws.length) (hn : ∀ j, j < i → cdE c j = 0) (he : cdE c i ≠ 0) : cdN c = cdE c i := by unfold cdN; rw [if_neg (by omega), if_neg h2, if_neg (by omega), firstNZ_range hn hi he]
theorem cd_5 (h : 2 ≤ c.q ∧ c.q ≤ 16) (h2 : c.ws.length ≠ 0) (h3 : c.ws.length ≤ 64) (hn : ∀ j, j < c.ws.length → cdE c j = 0) : cdN c = 0 := by unfold cdN; rw [if_neg (by omega), if_neg h2, if_neg (by omega), firstNZ_none hn]
theorem cdE_1 {i : Nat} (h : (c.ws.getD i []).length = 0) : cdE c i = 5 := if_pos h
theorem cdE_2 {i : Nat} (h : (c.ws.getD i []).length ≠ 0) (h2 : 32 < (c.ws.getD i []).length) : cdE c i = 4 := by unfold cdE; rw [if_neg h, if_pos h2]
theorem cdE_3 {i : Nat} (h : (c.ws.getD i []).length ≠ 0) (h2 : (c.ws.getD i []).length ≤ 32) (h3 : wordCheck c.q (c.ws.getD i []) ≠ 0) : cdE c i = 13 := by unfold cdE; rw [if_neg h, if_neg (by omega), if_pos h3]
theorem cdE_4 {i : Nat} (h : (c.ws.getD i []).length ≠ 0) (h2 : (c.ws.getD i []).length ≤ 32) (h3 : wordCheck c.q (c.ws.getD i []) = 0) (h4 : 0 < i) (h5 : ¬ lessW (c.ws.getD (i - 1) []) (c.ws.getD i [])) : cdE c i = 10 := by unfold cdE; rw [if_neg h, if_neg (by omega), if_neg (fun k => k h3), if_pos ⟨h4, h5⟩]
theorem cdE_5 {i : Nat} (h : (c.ws.getD i []).length ≠ 0) (h2 : (c.ws.getD i []).length ≤ 32) (h3 : wordCheck c.q (c.ws.getD i []) = 0) (h4 : 0 < i → lessW (c.ws.getD (i - 1) []) (c.ws.getD i [])) : cdE c i = 0 := by unfold cdE; rw [if_neg h, if_neg (by omega), if_neg (fun k => k h3), if_neg (fun k => k.2 (h4 k.1))]
theorem cdE_zero {i : Nat} (h : cdE c i = 0) : (c.ws.getD i []).length ≠ 0 ∧ (c.ws.getD i []).length ≤ 32 ∧ wordCheck c.q (c.ws.getD i []) = 0 ∧ (0 < i → lessW (c.ws.getD (i - 1) []) (c.ws.getD i [])) := by
  unfold cdE at h
  split at h
  · cases h
  · split at h
    · cases h
    · split at h
      · cases h
      · split at h
        · cases h
        · rename_i h1 h2 h3 h4
          exact ⟨h1, by omega, Classical.byContradiction h3, fun h5 => Classical.byContradiction fun h6 => h4 ⟨h5, h6⟩⟩
theorem cd_ok (h : cdN c = 0) : CdOK c := by
  unfold cdN at h
  split at h
  · cases h
  · split at h
    · cases h
    · split at h
      · cases h
      · rename_i h1 h2 h3
        have hz := firstNZ_zero h
        have hat : ∀ w ∈ c.ws, ∃ i, i < c.ws.length ∧ c.ws.getD i [] = w := fun w hw => W_at hw
        have hp : ∀ i j, i < j → j < c.ws.length → lessW (c.ws.getD i []) (c.ws.getD j []) := by
          intro i j hij
          induction j with
          | zero => omega
          | succ j ih =>
            intro hj
            have h4 := (cdE_zero (hz (j + 1) hj)).2.2.2 (by omega)
            rw [Nat.add_sub_cancel] at h4
            rcases Nat.lt_or_ge i j with h5 | h5
            · exact lessW_trans (ih h5 (by omega)) h4
            · obtain rfl : i = j := by omega
              exact h4
        refine ⟨by omega, by omega, fun w hw => ?_, fun w hw => ?_, fun w hw => ?_, ?_⟩
        · obtain ⟨i, hi, rfl⟩ := hat w hw
          exact fun e => (cdE_zero (hz i hi)).1 (by rw [e]; rfl)
        · obtain ⟨i, hi, rfl⟩ := hat w hw
          exact (cdE_zero (hz i hi)).2.1
        · obtain ⟨i, hi, rfl⟩ := hat w hw
          exact (cdE_zero (hz i hi)).2.2.1
        · rw [List.pairwise_iff_getElem]
          intro i j hi hj hij
          have := hp i j hij hj
          rwa [List.getD_eq_getElem?_getD, List.getElem?_eq_getElem hi, List.getD_eq_getElem?_getD, List.getElem?_eq_getElem hj] at this
theorem CdOK.nd (h : CdOK c) : c.ws.Nodup := h.asc.imp fun h => lessW_ne h
theorem ltrD_idx {x : UInt8} (h : 0 ≤ idxB letters x) : letters.getD (idxB letters x).toNat 0 = x := by
  obtain ⟨k, h1, h2, h3⟩ := first_at letters x (idxB_ge.1 h)
  rw [idxB_some letters x k h1 h2 h3]; exact h3
theorem chk_lt {q : Int} {w : Wd} (h : wordCheck q w = 0) : LtOK q.toNat w := fun x hx => by
  obtain ⟨k, hk, e⟩ := List.mem_iff_getElem.1 hx
  have := (word_dig h).2 k hk
  rw [getD_get hk, e] at this
  exact ⟨(idxB letters x).toNat, by omega, ltrD_idx this.1⟩
theorem CdOK.lt (h : CdOK c) : ∀ w ∈ c.ws, LtOK c.q.toNat w := fun w hw => chk_lt (h.chk w hw)
def bigC (c : Cd) : Bool := decide (6 < c.ws.length ∧ c.ws.length ≤ 64 ∨ 65 < c.ws.length) || c.ws.any fun w => decide (6 < w.length ∧ w.length ≤ 32 ∨ 33 < w.length)
end
end Go.Proofs.Ytoafgeobhhlplaa
namespace Go.Proofs.Ytoafgeobhhlplaa
set_option linter.unusedSimpArgs false
set_option linter.unusedVariables false
open Go Go.Lift
def dlD (c : Cd) : Int := if cdN c = 0 then (((dlR c.ws).getD 0 : Nat) : Int) else 0
def dlB (c : Cd) : Bool := decide (cdN c = 0) && (dlR c.ws).isSome
def arN (c : Cd) : Int := if cdN c = 0 then 0 else 1
def bdN (c : Cd) (n : Int) : Int := if cdN c ≠ 0 then 1 else if n < 0 ∨ 4096 < n then 2 else 0
def bdB (c : Cd) (n : Int) : Bool := decide (bdN c n = 0) && (dlB c && decide (dlD c ≤ n))
noncomputable def wsW (c : Cd) (n : Int) : Wd := if bdN c n = 0 then ((wtF c.ws c.q.toNat n.toNat).map (·.2)).getD [] else []
noncomputable def wsX (c : Cd) (n : Int) : Int := if bdN c n = 0 then ((wtF c.ws c.q.toNat n.toNat).map fun p => ((p.1 : Nat) : Int)).getD 0 else 0
noncomputable def wsY (c : Cd) (n : Int) : Int := if bdN c n = 0 then ((wtF c.ws c.q.toNat n.toNat).map fun p => othN c.ws p.2 p.1).getD 0 else 0
noncomputable def wsB (c : Cd) (n : Int) : Bool := decide (bdN c n = 0) && (wtF c.ws c.q.toNat n.toNat).isSome
noncomputable def woW (c : Cd) : Wd := if dlB c = true ∧ dlD c ≠ 0 then wsW c (dlD c - 1) else []
noncomputable def woB (c : Cd) : Bool := if dlB c = true ∧ dlD c ≠ 0 then wsB c (dlD c - 1) else false
def ckN (c : Cd) (w : Wd) : Int := if cdN c ≠ 0 then 1 else wordCheck c.q w
def reN (c : Cd) (d : Int) (w : Wd) : Int := if ckN c w ≠ 0 then ckN c w else if d < 0 ∨ 4096 < d then 2 else 0
def reL (c : Cd) (d : Int) (w : Wd) : List Int := if reN c d w = 0 then (rdR c.ws d.toNat w).1 else []
def reM (c : Cd) (d : Int) (w : Wd) : Int := if reN c d w = 0 then (((rdR c.ws d.toNat w).2 : Nat) : Int) else 0
section
variable {c : Cd}
theorem dl_yes (ho : cdN c = 0) {d : Nat} (h : DlIs c.ws d) : dlR c.ws = some d := by
  have hc := cd_ok ho
  cases hr : dlR c.ws with
  | none => exact absurd (dlR_no hc.ne (by have := hc.n; omega) hr) h.not
  | some e => rw [(dlR_is hc.ne hc.nd hr).one h]
theorem dl_not (ho : cdN c = 0) (h : DlNo c.ws) : dlR c.ws = none := by
  have hc := cd_ok ho
  cases hr : dlR c.ws with
  | none => rfl
  | some e => exact absurd h (dlR_is hc.ne hc.nd hr).not
end
def fstC (W : List Wd) (q i n : Nat) : Option Wd := (lngW W q i n (W.getD i [])).map fun s => s.drop (W.getD i []).length
theorem fst_C {W : List Wd} {q i n : Nat} (hW : ∀ w ∈ W, LtOK q w) : fstW W q i n = fstC W q i n := by
  unfold fstC
  rw [lng_fst hW]
  cases fstW W q i n with
  | none => rfl
  | some u => simp
def two : Cd := ⟨2, [[48], [48, 48, 49]]⟩
def thr : Cd := ⟨2, [[48], [48, 49], [49, 49]]⟩
theorem two_ok : cdN two = 0 := by decide +kernel
theorem thr_ok : cdN thr = 0 := by decide +kernel
theorem two_dl : dlR two.ws = some 2 := by decide +kernel
theorem thr_dl : dlR thr.ws = none := by decide +kernel
theorem two_re : rdR two.ws 2 [48, 48, 48, 49, 48, 48, 49, 48] = ([0, 1], 4) := by decide +kernel
theorem two_ck : wordCheck 2 [48, 48, 48, 49, 48, 48, 49, 48] = 0 := by decide +kernel
theorem two_f0 : fstC two.ws 2 0 1 = some [48] := by decide +kernel
theorem two_f1 : fstC two.ws 2 1 1 = none := by decide +kernel
theorem two_wt : wtF two.ws 2 1 = some (0, [48, 48]) := by
  have hW := (cd_ok two_ok).lt
  have h0 : fstW two.ws 2 0 1 = some [48] := (fst_C hW).trans two_f0
  have h1 : fstW two.ws 2 1 1 = none := (fst_C hW).trans two_f1
  show wtU two.ws 2 1 1 (wtU two.ws 2 1 0 none) = _
  rw [wtU_none h1, wtU_first h0]; rfl
end Go.Proofs.Ytoafgeobhhlplaa
namespace Go.Proofs.Ytoafgeobhhlplaa
set_option linter.unusedSimpArgs false
set_option linter.unusedVariables false
open Go Go.Lift
section
variable {c : Cd}
theorem ck_len {w : Wd} (h : ckN c w = 0) : w.length ≤ 1000000 := by
  unfold ckN wordCheck at h
  split at h
  · cases h
  · split at h
    · cases h
    · split at h
      · cases h
      · omega
end
end Go.Proofs.Ytoafgeobhhlplaa
