/-
  Walks: the essential part of a graph.
-/
import Derived.Test.YtddghlnaocjjkaaPE
import Derived.Test.YtddghlnaocjjkaaWN
import Derived.Test.YtddghlnaocjjkaaWF
import Derived.Test.YtddghlnaocjjkaaWJ
namespace Go.Proofs.Ytddghlnaocjjkaa
set_option linter.unusedSimpArgs false
set_option linter.unusedVariables false
open Go Go.Lift Go.Proofs

theorem bs_found {l : List Int} (hs : l.Pairwise (· < ·)) {v : Int} {i : Nat} (h : rankI l v = i) : (decide (i < l.length) && decide (l.getD i 0 = v)) = hasI l v := by
  rw [Bool.eq_iff_iff, Bool.and_eq_true, decide_eq_true_eq, decide_eq_true_eq]
  unfold hasI
  rw [decide_eq_true_eq]
  constructor
  · rintro ⟨h1, h2⟩; rw [← h2]; exact getD_mem h1
  · intro hm
    rw [← h]
    exact ⟨rank_lt hs hm, at_rank hs hm⟩
theorem bs_up {l : List Int} (hs : l.Pairwise (· < ·)) {v : Int} {i j : Nat} (h : i < j) (hj : j ≤ l.length) (hv : l.getD ((i + j) / 2) 0 < v) : ∀ k, k < (i + j) / 2 + 1 → l.getD k 0 < v := fun k hk => by
  by_cases e : k = (i + j) / 2
  · rw [e]; exact hv
  · have := asc_lt hs (i := k) (j := (i + j) / 2) (by omega) (by omega); omega
theorem bs_down {l : List Int} (hs : l.Pairwise (· < ·)) {v : Int} {i j : Nat} (h : i < j) (hj : j ≤ l.length) (hv : v ≤ l.getD ((i + j) / 2) 0) : ∀ k, (i + j) / 2 ≤ k → k < l.length → ¬ l.getD k 0 < v := fun k hk hl => by
  by_cases e : k = (i + j) / 2
  · rw [e]; omega
  · have := asc_lt hs (i := (i + j) / 2) (j := k) hl (by omega); omega
@[simp] theorem luK3 {β : Type} {ev : β → AVal} {l : List (Int × β)} {k : Int} : luK T 3 (mpE intK ev l) 0 (.int .i64 k) = some ((alFind l 0 k).map fun p => (p.1, ev p.2)) := luK_intK (by simp)
@[simp high] theorem HLe_ib {h : Heap} {σ : Lift.Id → Lift.Id} {fz : Nat → Bool} {vz : Lift.Id → Bool} {nx : Nat} {l2 l : List (Int × Bool)} (e : l2 = l) : HLe h σ fz vz nx (.mp (mpE intK boolV l2)) (some (.mp (mpE intK boolV l))) = True := eq_true (HLe_mpE (ek := intK) (ev := boolV) (fun _ => trivial) (fun _ => trivial) e)
@[simp] theorem ren_mpI {σ : Nat → Nat} {l : List (Int × Bool)} : List.map (fun p => (ren σ p.1, ren σ p.2)) (mpE intK boolV l) = mpE intK boolV l := by
  conv => rhs; rw [← List.map_id (mpE intK boolV l)]
  refine List.map_congr_left fun p hp => ?_
  obtain ⟨q, _, rfl⟩ := List.mem_map.1 hp
  rfl
theorem entM_zero {g : Gr} {L : List Int} : entM g L 0 = [] := rfl
theorem leaM_zero {g : Gr} {L : List Int} : leaM g L 0 = [] := rfl
theorem placeG_neg {α : Type} {d : α} {l : List α} {q : α → Bool} (h : placeG l q = -1) : ∀ x ∈ l, q x = false := fun x hx => by
  unfold placeG at h
  split at h
  · omega
  · rename_i h2
    cases hq : q x with
    | false => rfl
    | true => exact absurd (List.any_eq_true.2 ⟨x, hx, hq⟩) h2
theorem placeG_pos {α : Type} {d : α} {l : List α} {q : α → Bool} (h : ¬ placeG l q = -1) : ∃ i, i < l.length ∧ q (l.getD i d) = true ∧ (∀ j, j < i → q (l.getD j d) = false) ∧ placeG l q = i := by
  unfold placeG at *
  split at h
  · rename_i h2
    have hlt : l.findIdx q < l.length := List.findIdx_lt_length.2 (by
      obtain ⟨x, hx, hq⟩ := List.any_eq_true.1 h2
      exact ⟨x, hx, hq⟩)
    refine ⟨l.findIdx q, hlt, ?_, fun j hj => ?_, by rw [if_pos h2]⟩
    · rw [getD_get hlt]; exact List.findIdx_getElem
    · rw [getD_get (by omega)]
      have := List.not_of_lt_findIdx hj
      simpa using this
  · omega
def essN (g : Gr) : Int := if gcheck g = 0 then 0 else 1
def essX (g : Gr) : List Int := if gcheck g = 0 then essL g else []
def essG (g : Gr) : Gr := if gcheck g = 0 then keptG g (essL g) else ⟨0, 0, []⟩
def kR (g : Gr) (k i : Nat) : List Int := ((essAt g k).take i).filter (goodB g (essAt g k))
def inA (g : Gr) (L : List Int) (s : Int) (i : Nat) : Bool := (g.edges.take i).any fun x => decide (x.to = s) && hasI L x.frm
def outA (g : Gr) (L : List Int) (s : Int) (i : Nat) : Bool := (g.edges.take i).any fun x => decide (x.frm = s) && hasI L x.to
theorem kR_zero {g : Gr} {k : Nat} : kR g k 0 = [] := by simp [kR]
theorem inA_zero {g : Gr} {L : List Int} {s : Int} : inA g L s 0 = false := by simp [inA]
theorem outA_zero {g : Gr} {L : List Int} {s : Int} : outA g L s 0 = false := by simp [outA]
theorem inA_succ {g : Gr} {L : List Int} {s : Int} {i : Nat} (h : i < g.edges.length) : inA g L s (i + 1) = (inA g L s i || (decide ((g.edges.getD i de).to = s) && hasI L (g.edges.getD i de).frm)) := by
  unfold inA; rw [List.take_succ_eq_append_getElem h, List.any_append, ← getD_get (d := de) h]; simp only [List.any_cons, List.any_nil, Bool.or_false]
theorem outA_succ {g : Gr} {L : List Int} {s : Int} {i : Nat} (h : i < g.edges.length) : outA g L s (i + 1) = (outA g L s i || (decide ((g.edges.getD i de).frm = s) && hasI L (g.edges.getD i de).to)) := by
  unfold outA; rw [List.take_succ_eq_append_getElem h, List.any_append, ← getD_get (d := de) h]; simp only [List.any_cons, List.any_nil, Bool.or_false]
theorem good_inA {g : Gr} {L : List Int} {s : Int} : goodB g L s = (inA g L s g.edges.length && outA g L s g.edges.length) := by unfold inA outA goodB; rw [List.take_length]
theorem kR_len {g : Gr} {k i : Nat} : (kR g k i).length ≤ i := Nat.le_trans (List.length_filter_le _ _) (by rw [List.length_take]; omega)
theorem kR_all {g : Gr} {k : Nat} : kR g k (essAt g k).length = essAt g (k + 1) := by unfold kR; rw [List.take_length]; rfl
theorem kR_succ {g : Gr} {k i : Nat} (h : i < (essAt g k).length) : kR g k (i + 1) = if goodB g (essAt g k) ((essAt g k).getD i 0) = true then kR g k i ++ [(essAt g k).getD i 0] else kR g k i := by
  unfold kR
  rw [List.take_succ_eq_append_getElem h, List.filter_append, getD_get h]
  cases hq : goodB g (essAt g k) (essAt g k)[i] <;> simp [hq]
theorem kR_yes {g : Gr} {k i : Nat} (h : i < (essAt g k).length) (h1 : inA g (essAt g k) ((essAt g k).getD i 0) g.edges.length = true) (h2 : outA g (essAt g k) ((essAt g k).getD i 0) g.edges.length = true) : kR g k (i + 1) = kR g k i ++ [(essAt g k).getD i 0] := by
  rw [kR_succ h, good_inA, h1, h2]; rfl
theorem kR_no {g : Gr} {k i : Nat} (h : i < (essAt g k).length) (h1 : inA g (essAt g k) ((essAt g k).getD i 0) g.edges.length = true → outA g (essAt g k) ((essAt g k).getD i 0) g.edges.length = false) : kR g k (i + 1) = kR g k i := by
  rw [kR_succ h, good_inA, if_neg]
  intro e
  rw [Bool.and_eq_true] at e
  rw [h1 e.1] at e
  cases e.2
theorem app_fnQ {F : Nat → Int} {i j : Nat} {v : AVal} {w : Nat → Nat → AVal} (hv : v = .int .i64 (F i)) (hj : j < i + 1) : app (fun q _ => .int .i64 (F q)) i (fun a c => if a = 0 ∧ c = 0 then v else w a c) j 0 = .int .i64 (F j) := by
  unfold app
  by_cases h : j < i
  · rw [if_pos h]
  · obtain rfl : j = i := by omega
    rw [if_neg h, Nat.sub_self]; simpa using hv
theorem clr_kpt {q : Int → Bool} {l : List Int} {i : Nat} (hi : i < l.length) : clr (fun p _ => AVal.int .i64 (kptG q l l.length p)) (kpt q l l.length).length (l.length - (kpt q l l.length).length) (fun j => [AVal.int .i64 0].getD j .any) i 0 = .int .i64 ((kpt q l l.length).getD i 0) := by
  unfold clr
  have hle := kpt_len (q := q) (l := l) (m := l.length)
  by_cases h : (kpt q l l.length).length ≤ i
  · rw [if_pos (by omega), show (kpt q l l.length).getD i 0 = 0 by simp [List.getD, List.getElem?_eq_none h]]; rfl
  · rw [if_neg (by omega)]
    show AVal.int .i64 (kptG q l l.length i) = _
    unfold kptG; rw [if_pos (by omega)]
set_option maxRecDepth 100000 in
theorem less_c (x y : Int) : PC Try.prog 87 [.int .i64 x, .int .i64 y] (.bool (decide (x < y))) := by
  refine PC_introS T_ok Try.func87 rfl (by simp [Try.ntmps87]) fun G hG hR => ?_
  simp only [Try.ntmps87, Try.results87] at hG ⊢
  simp only [argEnv, Nat.zero_add, Nat.reduceAdd]
  refine awpS_seq ?_
  refine awpS_reg T_ok fun K hK => ?_
  simp [hG, List.getD_cons_zero, List.getD_cons_succ, -List.getD_eq_getElem?_getD]
  refine hK _ ?_
  clear K hK
  refine awpS_seq ?_
  refine awpS_regL ?_
  refine awpL_reg T_ok 1 fun K hK => ?_
  simp [hG, List.getD_cons_zero, List.getD_cons_succ, -List.getD_eq_getElem?_getD]
  refine hK _ ?_
  clear K hK
  refine awpL_call cal84 rfl rfl (fun _ => rfl) (fun hg => nanI_c x) (fun hg => ?_) (fun hg => ?_) fun K hK => ?_
  · simp [hG, List.getD_cons_zero, List.getD_cons_succ, -List.getD_eq_getElem?_getD]
  · simp [hG, List.getD_cons_zero, List.getD_cons_succ, -List.getD_eq_getElem?_getD]
  simp [hG, List.getD_cons_zero, List.getD_cons_succ, -List.getD_eq_getElem?_getD]
  refine hK _ ?_
  clear K hK
  refine awpL_reg T_ok 2 fun K hK => ?_
  simp [hG, List.getD_cons_zero, List.getD_cons_succ, -List.getD_eq_getElem?_getD]
  refine ⟨Cond.mk (by simp [-List.getD_eq_getElem?_getD]), hK _ ?_⟩
  clear K hK
  refine awpL_call cal84 rfl rfl (fun _ => rfl) (fun hg => nanI_c y) (fun hg => ?_) (fun hg => ?_) fun K hK => ?_
  · first | (simp [hG, List.getD_cons_zero, List.getD_cons_succ, -List.getD_eq_getElem?_getD]; done) | (simp [-List.getD_eq_getElem?_getD] at hg; done) | (simp [-List.getD_eq_getElem?_getD] at hg; simp [hG, List.getD_cons_zero, List.getD_cons_succ, -List.getD_eq_getElem?_getD]; first | omega | exact hg | (simp_all [-List.getD_eq_getElem?_getD]; done) | (simp_all [-List.getD_eq_getElem?_getD]; first | exact ⟨rfl, rfl⟩ | exact rfl))
  · first | (simp [hG, List.getD_cons_zero, List.getD_cons_succ, -List.getD_eq_getElem?_getD]; done) | (simp [-List.getD_eq_getElem?_getD] at hg; done) | (simp [-List.getD_eq_getElem?_getD] at hg; simp [hG, List.getD_cons_zero, List.getD_cons_succ, -List.getD_eq_getElem?_getD]; first | omega | exact hg | (simp_all [-List.getD_eq_getElem?_getD]; done) | (simp_all [-List.getD_eq_getElem?_getD]; first | exact ⟨rfl, rfl⟩ | exact rfl))
  simp [hG, List.getD_cons_zero, List.getD_cons_succ, -List.getD_eq_getElem?_getD]
  refine hK _ ?_
  clear K hK
  refine awpL_reg T_ok 8 fun K hK => ?_
  simp [hG, List.getD_cons_zero, List.getD_cons_succ, -List.getD_eq_getElem?_getD]
  refine ⟨Cond.mk (by simp [-List.getD_eq_getElem?_getD]), hK _ ?_⟩
  clear K hK
  refine awpL_nil ?_
  refine awpS_ret ?_
  refine RetOK_of ?_
  simp [hG, List.getD_cons_zero, List.getD_cons_succ, -List.getD_eq_getElem?_getD]

set_option maxRecDepth 100000 in
theorem nanS_c (n : Int) : PC Try.prog 88 [.int .i64 n] (.bool false) := by
  refine PC_introS T_ok Try.func88 rfl (by simp [Try.ntmps88]) fun G hG hR => ?_
  simp only [Try.ntmps88, Try.results88] at hG ⊢
  simp only [argEnv, Nat.zero_add, Nat.reduceAdd]
  refine awpS_seq ?_
  refine awpS_reg T_ok fun K hK => ?_
  simp [hG, List.getD_cons_zero, List.getD_cons_succ, -List.getD_eq_getElem?_getD]
  refine hK _ ?_
  clear K hK
  refine awpS_seq ?_
  refine awpS_reg T_ok fun K hK => ?_
  simp [hG, List.getD_cons_zero, List.getD_cons_succ, -List.getD_eq_getElem?_getD]
  refine hK _ ?_
  clear K hK
  refine awpS_ret ?_
  refine RetOK_of ?_
  simp [hG, List.getD_cons_zero, List.getD_cons_succ, -List.getD_eq_getElem?_getD]

set_option maxRecDepth 100000 in
theorem bsearch_c (l : List Int) (v : Int) (hl : l.length ≤ 1000000) (hs : l.Pairwise (· < ·)) : PC Try.prog 74 [ints l, .int .i64 v] (.tup 2 (fun j => [.int .i64 (rankI l v : Int), .bool (hasI l v)].getD j .any)) := by
  refine PC_introS T_ok Try.func74 rfl (by simp [Try.ntmps74]) fun G hG hR => ?_
  simp only [Try.ntmps74, Try.results74] at hG ⊢
  simp only [argEnv, Nat.zero_add, Nat.reduceAdd]
  refine awpS_seq ?_
  refine awpS_reg T_ok fun K hK => ?_
  simp [hG, List.getD_cons_zero, List.getD_cons_succ, -List.getD_eq_getElem?_getD, half_nat]
  refine hK _ ?_
  clear K hK
  refine awpS_seq ?_
  refine awpS_reg T_ok fun K hK => ?_
  simp [hG, List.getD_cons_zero, List.getD_cons_succ, -List.getD_eq_getElem?_getD, half_nat]
  refine hK _ ?_
  clear K hK
  refine awpS_seq ?_
  refine awpS_reg T_ok fun K hK => ?_
  simp [hG, List.getD_cons_zero, List.getD_cons_succ, -List.getD_eq_getElem?_getD, half_nat]
  refine hK _ ?_
  clear K hK
  refine awpS_seq ?_
  refine awpS_block ?_
  refine awpS_loop (α := Nat × Nat) (fun p => ⟨[(0, ints l), (1, .int .i64 v), (6, .int .i64 l.length), (7, .int .i64 p.1), (8, .int .i64 p.2)], [], 0⟩) (fun p => p.1 ≤ p.2 ∧ p.2 ≤ l.length ∧ (∀ k, k < p.1 → l.getD k 0 < v) ∧ (∀ k, p.2 ≤ k → k < l.length → ¬ l.getD k 0 < v)) (fun p => p.2 - p.1) ((0, l.length)) (⟨Nat.zero_le _, Nat.le_refl _, fun k h => absurd h (Nat.not_lt_zero _), fun k h1 h2 => absurd h2 (by simp only at h1; omega)⟩) ?_ ?_
  ·
    refine wk_of (id) (fun _ => false) (fun _ => false) ?_ ?_ rfl (Nat.zero_le _) (fun k hk => absurd hk (Nat.not_lt_zero _))
    · simp [hG, List.getD_cons_zero, List.getD_cons_succ, -List.getD_eq_getElem?_getD, half_nat]
    · simp [hG, List.getD_cons_zero, List.getD_cons_succ, -List.getD_eq_getElem?_getD, half_nat]
  ·
    rintro ⟨i, j⟩ ⟨hij, hjl, h1, h2⟩
    simp only at hij hjl h1 h2
    refine awpS_seq ?_
    refine awpS_seq ?_
    refine awpS_reg T_ok fun K hK => ?_
    simp [hG, List.getD_cons_zero, List.getD_cons_succ, -List.getD_eq_getElem?_getD, half_nat]
    refine hK _ ?_
    clear K hK
    refine awpS_cond rfl (fun hb15 => ?_) (fun hb15 => ?_)
    ·
      try simp [-List.getD_eq_getElem?_getD] at hb15
      refine awpS_skip ?_
      refine awpS_block ?_
      refine awpS_seq ?_
      refine awpS_reg T_ok fun K hK => ?_
      simp [hG, List.getD_cons_zero, List.getD_cons_succ, -List.getD_eq_getElem?_getD, half_nat]
      refine ⟨Cond.mk (by omega), hK _ ?_⟩
      clear K hK
      refine awpS_seq ?_
      refine awpS_regL ?_
      refine awpL_reg T_ok 5 fun K hK => ?_
      simp [hG, List.getD_cons_zero, List.getD_cons_succ, -List.getD_eq_getElem?_getD, half_nat]
      refine ⟨Cond.mk (by omega), hK _ ?_⟩
      clear K hK
      refine awpL_call cal87 rfl rfl (fun _ => rfl) (fun hg => less_c (l.getD ((i + j) / 2) 0) v) (fun hg => ?_) (fun hg => ?_) fun K hK => ?_
      · simp [hG, List.getD_cons_zero, List.getD_cons_succ, -List.getD_eq_getElem?_getD, half_nat]
      · simp [hG, List.getD_cons_zero, List.getD_cons_succ, -List.getD_eq_getElem?_getD, half_nat]
      simp [hG, List.getD_cons_zero, List.getD_cons_succ, -List.getD_eq_getElem?_getD, half_nat]
      refine hK _ ?_
      clear K hK
      refine awpL_nil ?_
      refine awpS_cond rfl (fun hb27 => ?_) (fun hb27 => ?_)
      ·
        try simp [-List.getD_eq_getElem?_getD] at hb27
        refine awpS_reg T_ok fun K hK => ?_
        simp [hG, List.getD_cons_zero, List.getD_cons_succ, -List.getD_eq_getElem?_getD, half_nat]
        refine ⟨Cond.mk (by omega), hK _ ?_⟩
        clear K hK
        refine awpS_nil ?_
        refine blockQ_norm (thenQ_norm ?_)
        refine awpS_nil ?_
        refine round_end (((i + j) / 2 + 1, j)) (by exact ⟨by simp only; omega, hjl, bs_up hs hb15 hjl hb27, h2⟩) (by simp only; omega) ?_
        refine wk_of (id) (fun _ => false) (fun _ => false) ?_ ?_ rfl (Nat.zero_le _) (fun k hk => absurd hk (Nat.not_lt_zero _))
        · simp [hG, List.getD_cons_zero, List.getD_cons_succ, -List.getD_eq_getElem?_getD, half_nat]
        · simp [hG, List.getD_cons_zero, List.getD_cons_succ, -List.getD_eq_getElem?_getD, half_nat]
      ·
        try simp [-List.getD_eq_getElem?_getD] at hb27
        refine awpS_reg T_ok fun K hK => ?_
        simp [hG, List.getD_cons_zero, List.getD_cons_succ, -List.getD_eq_getElem?_getD, half_nat]
        refine hK _ ?_
        clear K hK
        refine awpS_nil ?_
        refine blockQ_norm (thenQ_norm ?_)
        refine awpS_nil ?_
        refine round_end ((i, (i + j) / 2)) (by exact ⟨by simp only; omega, by simp only; omega, h1, bs_down hs hb15 hjl hb27⟩) (by simp only; omega) ?_
        refine wk_of (id) (fun _ => false) (fun _ => false) ?_ ?_ rfl (Nat.zero_le _) (fun k hk => absurd hk (Nat.not_lt_zero _))
        · simp [hG, List.getD_cons_zero, List.getD_cons_succ, -List.getD_eq_getElem?_getD, half_nat]
        · simp [hG, List.getD_cons_zero, List.getD_cons_succ, -List.getD_eq_getElem?_getD, half_nat]
    ·
      try simp [-List.getD_eq_getElem?_getD] at hb15
      refine awpS_exit ?_
      refine thenQ_exit (thenQ_exit ?_)
      refine blockQ_exit (thenQ_norm ?_)
      refine awpS_seq ?_
      refine awpS_regL ?_
      refine awpL_reg T_ok 16 fun K hK => ?_
      simp [hG, List.getD_cons_zero, List.getD_cons_succ, -List.getD_eq_getElem?_getD, half_nat]
      first | refine hK _ ?_ | refine ⟨Cond.mk (by clear hK; simp [-List.getD_eq_getElem?_getD]; repeat' (first | intro _ | assumption | apply And.intro | omega | exact decide_eq_true (by assumption))), hK _ ?_⟩
      clear K hK
      refine awpL_call cal88 rfl rfl (fun _ => rfl) (fun hg => nanS_c (l.getD i 0)) (fun hg => ?_) (fun hg => ?_) fun K hK => ?_
      · first | (simp [hG, List.getD_cons_zero, List.getD_cons_succ, -List.getD_eq_getElem?_getD, half_nat]; done) | (simp [-List.getD_eq_getElem?_getD] at hg; done) | (simp [-List.getD_eq_getElem?_getD] at hg; simp [hG, List.getD_cons_zero, List.getD_cons_succ, -List.getD_eq_getElem?_getD, half_nat]; first | omega | exact hg | (simp_all [-List.getD_eq_getElem?_getD]; done) | (simp_all [-List.getD_eq_getElem?_getD]; first | exact ⟨rfl, rfl⟩ | exact rfl))
      · first | (simp [hG, List.getD_cons_zero, List.getD_cons_succ, -List.getD_eq_getElem?_getD, half_nat]; done) | (simp [-List.getD_eq_getElem?_getD] at hg; done) | (simp [-List.getD_eq_getElem?_getD] at hg; simp [hG, List.getD_cons_zero, List.getD_cons_succ, -List.getD_eq_getElem?_getD, half_nat]; first | omega | exact hg | (simp_all [-List.getD_eq_getElem?_getD]; done) | (simp_all [-List.getD_eq_getElem?_getD]; first | exact ⟨rfl, rfl⟩ | exact rfl))
      simp [hG, List.getD_cons_zero, List.getD_cons_succ, -List.getD_eq_getElem?_getD, half_nat]
      refine hK _ ?_
      clear K hK
      refine awpL_reg T_ok 2 fun K hK => ?_
      simp [hG, List.getD_cons_zero, List.getD_cons_succ, -List.getD_eq_getElem?_getD, half_nat]
      first | refine hK _ ?_ | refine ⟨Cond.mk (by clear hK; simp [-List.getD_eq_getElem?_getD]; repeat' (first | intro _ | assumption | apply And.intro | omega | exact decide_eq_true (by assumption))), hK _ ?_⟩
      clear K hK
      refine awpL_call cal88 rfl rfl (fun _ => rfl) (fun hg => nanS_c v) (fun hg => ?_) (fun hg => ?_) fun K hK => ?_
      · first | (simp [hG, List.getD_cons_zero, List.getD_cons_succ, -List.getD_eq_getElem?_getD, half_nat]; done) | (simp [-List.getD_eq_getElem?_getD] at hg; done) | (simp [-List.getD_eq_getElem?_getD] at hg; simp [hG, List.getD_cons_zero, List.getD_cons_succ, -List.getD_eq_getElem?_getD, half_nat]; first | omega | exact hg | (simp_all [-List.getD_eq_getElem?_getD]; done) | (simp_all [-List.getD_eq_getElem?_getD]; first | exact ⟨rfl, rfl⟩ | exact rfl))
      · first | (simp [hG, List.getD_cons_zero, List.getD_cons_succ, -List.getD_eq_getElem?_getD, half_nat]; done) | (simp [-List.getD_eq_getElem?_getD] at hg; done) | (simp [-List.getD_eq_getElem?_getD] at hg; simp [hG, List.getD_cons_zero, List.getD_cons_succ, -List.getD_eq_getElem?_getD, half_nat]; first | omega | exact hg | (simp_all [-List.getD_eq_getElem?_getD]; done) | (simp_all [-List.getD_eq_getElem?_getD]; first | exact ⟨rfl, rfl⟩ | exact rfl))
      simp [hG, List.getD_cons_zero, List.getD_cons_succ, -List.getD_eq_getElem?_getD, half_nat]
      refine hK _ ?_
      clear K hK
      refine awpL_reg T_ok 5 fun K hK => ?_
      simp [hG, List.getD_cons_zero, List.getD_cons_succ, -List.getD_eq_getElem?_getD, half_nat]
      first | refine hK _ ?_ | refine ⟨Cond.mk (by clear hK; simp [-List.getD_eq_getElem?_getD]; repeat' (first | intro _ | assumption | apply And.intro | omega | exact decide_eq_true (by assumption))), hK _ ?_⟩
      clear K hK
      refine awpL_nil ?_
      refine awpS_ret ?_
      refine RetOK_of ?_
      simp [hG, List.getD_cons_zero, List.getD_cons_succ, -List.getD_eq_getElem?_getD, half_nat]
      have hij2 : i = j := (by omega); have hrk : rankI l v = i := rank_between hs (by omega) h1 (by rw [hij2]; exact h2); exact ⟨by rw [hrk], bs_found hs hrk⟩

set_option maxRecDepth 100000 in
theorem keep_c (g : Gr) (c : List Int) (hc : c.Pairwise (· < ·)) (hl : c.length ≤ 64) (hed : g.edges.length ≤ 1024) : PC Try.prog 77 [.agg 3 (grF g), ints c] (.agg 3 (grF (keptG g c))) := by
  refine PC_introS T_ok Try.func77 rfl (by simp [Try.ntmps77]) fun G hG hR => ?_
  simp only [Try.ntmps77, Try.results77] at hG ⊢
  simp only [argEnv, Nat.zero_add, Nat.reduceAdd]
  refine awpS_seq ?_
  refine awpS_reg T_ok fun K hK => ?_
  simp [hG, List.getD_cons_zero, List.getD_cons_succ, -List.getD_eq_getElem?_getD]
  refine ⟨Cond.mk (by simp [-List.getD_eq_getElem?_getD]), hK _ ?_⟩
  clear K hK
  refine awpS_seq ?_
  refine awpS_reg T_ok fun K hK => ?_
  simp [hG, List.getD_cons_zero, List.getD_cons_succ, -List.getD_eq_getElem?_getD]
  refine ⟨Cond.mk (by simp [-List.getD_eq_getElem?_getD]), hK _ ?_⟩
  clear K hK
  refine awpS_seq ?_
  refine awpS_seq ?_
  refine awpS_reg T_ok fun K hK => ?_
  simp [hG, List.getD_cons_zero, List.getD_cons_succ, -List.getD_eq_getElem?_getD]
  refine hK _ ?_
  clear K hK
  refine awpS_block ?_
  refine awpS_loop (α := Nat) (fun i => ⟨[(1, ints c), (2, .ptr (0, 0) 0 0), (4, .ptr (1, 0) 0 0), (5, .ptr (2, 0) 0 0), (18, edgesC g.edges), (19, .int .i64 g.edges.length), (20, .int .i64 i)], [(0, .one (.arr 1 3 (fun _ => grF g))), (1, .one (.arr 1 3 (fun _ j => [.int .i64 0, .int .i64 0, .nils].getD j .any))), (2, .one (.arr 1 3 (fun _ j => [.int .i64 g.labels, .int .i64 (c.length : Int), .sl (3, 0) 0 (keepE g c i).length].getD j .any))), (3, .one (.arr (keepE g c i).length 3 (fun q j => edgeF ((keepE g c i).getD q de) j)))], 4⟩) (fun i => i ≤ g.edges.length) (fun i => g.edges.length - i) (0) (Nat.zero_le _) ?_ ?_
  ·
    refine wk_of (id) (fun _ => false) (fun k => k == 3) ?_ ?_ rfl (Nat.zero_le _) (fun k hk => absurd hk (Nat.not_lt_zero _))
    · simp [hG, List.getD_cons_zero, List.getD_cons_succ, -List.getD_eq_getElem?_getD]
    · simp [hG, List.getD_cons_zero, List.getD_cons_succ, -List.getD_eq_getElem?_getD]
  ·
    rintro i hi
    refine awpS_seq ?_
    refine awpS_reg T_ok fun K hK => ?_
    simp [hG, List.getD_cons_zero, List.getD_cons_succ, -List.getD_eq_getElem?_getD]
    refine hK _ ?_
    clear K hK
    refine awpS_seq ?_
    refine awpS_cond rfl (fun hb21 => ?_) (fun hb21 => ?_)
    ·
      try simp [-List.getD_eq_getElem?_getD] at hb21
      have hkl := keepE_len (g := g) (c := c) (i := i)
      refine awpS_skip ?_
      refine awpS_seq ?_
      refine awpS_block ?_
      refine awpS_seq ?_
      refine awpS_reg T_ok fun K hK => ?_
      simp [hG, List.getD_cons_zero, List.getD_cons_succ, -List.getD_eq_getElem?_getD]
      refine ⟨Cond.mk (by simp [-List.getD_eq_getElem?_getD]; omega), hK _ ?_⟩
      clear K hK
      refine awpS_seq ?_
      refine awpS_regL ?_
      refine awpL_reg T_ok 3 fun K hK => ?_
      simp [hG, List.getD_cons_zero, List.getD_cons_succ, -List.getD_eq_getElem?_getD]
      refine hK _ ?_
      clear K hK
      refine awpL_call cal74 rfl rfl (fun _ => rfl) (fun hg => bsearch_c c (g.edges.getD i de).frm (by omega) hc) (fun hg => ?_) (fun hg => ?_) fun K hK => ?_
      · simp [hG, List.getD_cons_zero, List.getD_cons_succ, -List.getD_eq_getElem?_getD]
      · simp [hG, List.getD_cons_zero, List.getD_cons_succ, -List.getD_eq_getElem?_getD]
      simp [hG, List.getD_cons_zero, List.getD_cons_succ, -List.getD_eq_getElem?_getD]
      refine hK _ ?_
      clear K hK
      refine awpL_reg T_ok 5 fun K hK => ?_
      simp [hG, List.getD_cons_zero, List.getD_cons_succ, -List.getD_eq_getElem?_getD]
      refine hK _ ?_
      clear K hK
      refine awpL_nil ?_
      refine awpS_seq ?_
      refine awpS_regL ?_
      refine awpL_reg T_ok 3 fun K hK => ?_
      simp [hG, List.getD_cons_zero, List.getD_cons_succ, -List.getD_eq_getElem?_getD]
      refine hK _ ?_
      clear K hK
      refine awpL_call cal74 rfl rfl (fun _ => rfl) (fun hg => bsearch_c c (g.edges.getD i de).to (by omega) hc) (fun hg => ?_) (fun hg => ?_) fun K hK => ?_
      · simp [hG, List.getD_cons_zero, List.getD_cons_succ, -List.getD_eq_getElem?_getD]
      · simp [hG, List.getD_cons_zero, List.getD_cons_succ, -List.getD_eq_getElem?_getD]
      simp [hG, List.getD_cons_zero, List.getD_cons_succ, -List.getD_eq_getElem?_getD]
      refine hK _ ?_
      clear K hK
      refine awpL_reg T_ok 5 fun K hK => ?_
      simp [hG, List.getD_cons_zero, List.getD_cons_succ, -List.getD_eq_getElem?_getD]
      refine hK _ ?_
      clear K hK
      refine awpL_nil ?_
      refine awpS_seq ?_
      refine awpS_reg T_ok fun K hK => ?_
      simp [hG, List.getD_cons_zero, List.getD_cons_succ, -List.getD_eq_getElem?_getD]
      refine ⟨Cond.mk (by simp [-List.getD_eq_getElem?_getD]), hK _ ?_⟩
      clear K hK
      refine awpS_cond rfl (fun hb41 => ?_) (fun hb41 => ?_)
      ·
        try simp [-List.getD_eq_getElem?_getD] at hb41
        refine awpS_reg T_ok fun K hK => ?_
        simp [hG, List.getD_cons_zero, List.getD_cons_succ, -List.getD_eq_getElem?_getD]
        first | refine hK _ ?_ | refine ⟨Cond.mk (by clear hK; simp [-List.getD_eq_getElem?_getD]; repeat' (first | intro _ | assumption | apply And.intro | omega | exact decide_eq_true (by assumption))), hK _ ?_⟩
        clear K hK
        refine awpS_nil ?_
        refine blockQ_norm (thenQ_norm ?_)
        refine awpS_reg T_ok fun K hK => ?_
        simp [hG, List.getD_cons_zero, List.getD_cons_succ, -List.getD_eq_getElem?_getD]
        refine ⟨Cond.mk (by omega), hK _ ?_⟩
        clear K hK
        refine awpS_nil ?_
        refine round_end (i + 1) (by omega) (by omega) ?_
        refine wk_of (fun k => if k = 3 then 6 else k) (fun _ => false) (fun _ => false) ?_ ?_ rfl (Nat.zero_le _) (fun k hk => absurd hk (Nat.not_lt_zero _))
        · simp [hG, List.getD_cons_zero, List.getD_cons_succ, -List.getD_eq_getElem?_getD]
        · simp [hG, List.getD_cons_zero, List.getD_cons_succ, -List.getD_eq_getElem?_getD]; rw [keepE_succ hb21, if_pos (by unfold inBoth; rw [hb41.1, hb41.2]; rfl)]; exact ⟨by simp, by simp, fun q hq => ⟨app_edge (j := 0) hq (by decide) (fun j hj => by rcases lt3 hj with rfl | rfl | rfl <;> rfl), app_edge (j := 1) hq (by decide) (fun j hj => by rcases lt3 hj with rfl | rfl | rfl <;> rfl), app_edge (j := 2) hq (by decide) (fun j hj => by rcases lt3 hj with rfl | rfl | rfl <;> rfl)⟩⟩
      ·
        try simp [-List.getD_eq_getElem?_getD] at hb41
        refine awpS_skip ?_
        refine awpS_nil ?_
        refine blockQ_norm (thenQ_norm ?_)
        refine awpS_reg T_ok fun K hK => ?_
        simp [hG, List.getD_cons_zero, List.getD_cons_succ, -List.getD_eq_getElem?_getD]
        refine ⟨Cond.mk (by omega), hK _ ?_⟩
        clear K hK
        refine awpS_nil ?_
        refine round_end (i + 1) (by omega) (by omega) ?_
        refine wk_of (id) (fun _ => false) (fun _ => false) ?_ ?_ rfl (Nat.zero_le _) (fun k hk => absurd hk (Nat.not_lt_zero _))
        · simp [hG, List.getD_cons_zero, List.getD_cons_succ, -List.getD_eq_getElem?_getD]
        · simp [hG, List.getD_cons_zero, List.getD_cons_succ, -List.getD_eq_getElem?_getD]; rw [keepE_succ hb21, if_neg (by unfold inBoth; intro h; rw [Bool.and_eq_true] at h; rw [hb41 h.1] at h; cases h.2)]; exact ⟨rfl, Nat.le_refl _, fun _ _ => ⟨rfl, rfl, rfl⟩⟩
    ·
      try simp [-List.getD_eq_getElem?_getD] at hb21
      refine awpS_exit ?_
      refine thenQ_exit (thenQ_exit ?_)
      refine blockQ_exit (thenQ_norm ?_)
      refine awpS_seq ?_
      refine awpS_reg T_ok fun K hK => ?_
      simp [hG, List.getD_cons_zero, List.getD_cons_succ, -List.getD_eq_getElem?_getD]
      refine ⟨Cond.mk (by simp [-List.getD_eq_getElem?_getD]), hK _ ?_⟩
      clear K hK
      refine awpS_ret ?_
      refine RetOK_of ?_
      simp [hG, List.getD_cons_zero, List.getD_cons_succ, -List.getD_eq_getElem?_getD]
      obtain rfl : i = g.edges.length := (by omega); exact ⟨rfl, rfl, rfl, Nat.le_refl _, fun q _ => ⟨rfl, rfl, rfl⟩⟩

set_option maxRecDepth 100000 in
theorem has_c (l : List Int) (v : Int) (hl : l.length ≤ 1000000) : PC Try.prog 78 [ints l, .int .i64 v] (.bool (hasI l v)) := by
  refine PC_introS T_ok Try.func78 rfl (by simp [Try.ntmps78]) fun G hG hR => ?_
  simp only [Try.ntmps78, Try.results78] at hG ⊢
  simp only [argEnv, Nat.zero_add, Nat.reduceAdd]
  refine awpS_seq ?_
  refine awpS_reg T_ok fun K hK => ?_
  simp [hG, List.getD_cons_zero, List.getD_cons_succ, -List.getD_eq_getElem?_getD]
  refine hK _ ?_
  clear K hK
  refine awpS_seq ?_
  refine awpS_seq ?_
  refine awpS_reg T_ok fun K hK => ?_
  simp [hG, List.getD_cons_zero, List.getD_cons_succ, -List.getD_eq_getElem?_getD]
  refine hK _ ?_
  clear K hK
  refine awpS_block ?_
  refine awpS_loop (α := Nat) (fun k => ⟨[(0, ints l), (1, .int .i64 v), (5, .int .i64 k)], [], 0⟩) (fun k => k ≤ l.length ∧ ∀ j, j < k → l.getD j 0 ≠ v) (fun k => l.length - k) (0) (⟨Nat.zero_le _, fun j hj => absurd hj (Nat.not_lt_zero _)⟩) ?_ ?_
  ·
    refine wk_of (id) (fun _ => false) (fun _ => false) ?_ ?_ rfl (Nat.zero_le _) (fun k hk => absurd hk (Nat.not_lt_zero _))
    · simp [hG, List.getD_cons_zero, List.getD_cons_succ, -List.getD_eq_getElem?_getD]
    · simp [hG, List.getD_cons_zero, List.getD_cons_succ, -List.getD_eq_getElem?_getD]
  ·
    rintro k ⟨hk, hn⟩
    refine awpS_seq ?_
    refine awpS_seq ?_
    refine awpS_reg T_ok fun K hK => ?_
    simp [hG, List.getD_cons_zero, List.getD_cons_succ, -List.getD_eq_getElem?_getD]
    refine hK _ ?_
    clear K hK
    refine awpS_cond rfl (fun hb9 => ?_) (fun hb9 => ?_)
    ·
      try simp [-List.getD_eq_getElem?_getD] at hb9
      refine awpS_skip ?_
      refine awpS_seq ?_
      refine awpS_block ?_
      refine awpS_seq ?_
      refine awpS_reg T_ok fun K hK => ?_
      simp [hG, List.getD_cons_zero, List.getD_cons_succ, -List.getD_eq_getElem?_getD]
      refine ⟨Cond.mk (by omega), hK _ ?_⟩
      clear K hK
      refine awpS_cond rfl (fun hb17 => ?_) (fun hb17 => ?_)
      ·
        try simp [-List.getD_eq_getElem?_getD] at hb17
        refine awpS_seq ?_
        refine awpS_reg T_ok fun K hK => ?_
        simp [hG, List.getD_cons_zero, List.getD_cons_succ, -List.getD_eq_getElem?_getD]
        refine hK _ ?_
        clear K hK
        refine awpS_ret ?_
        refine blockQ_ret (thenQ_ret ?_)
        refine thenQ_ret (thenQ_ret ?_)
        refine blockQ_ret (thenQ_ret ?_)
        refine RetOK_of ?_
        simp [hG, List.getD_cons_zero, List.getD_cons_succ, -List.getD_eq_getElem?_getD]
        exact hasI_yes hb9 hb17
      ·
        try simp [-List.getD_eq_getElem?_getD] at hb17
        refine awpS_skip ?_
        refine awpS_nil ?_
        refine blockQ_norm (thenQ_norm ?_)
        refine awpS_reg T_ok fun K hK => ?_
        simp [hG, List.getD_cons_zero, List.getD_cons_succ, -List.getD_eq_getElem?_getD]
        refine ⟨Cond.mk (by omega), hK _ ?_⟩
        clear K hK
        refine awpS_nil ?_
        refine round_end (k + 1) (⟨by omega, step_all hn hb17⟩) (by omega) ?_
        refine wk_of (id) (fun _ => false) (fun _ => false) ?_ ?_ rfl (Nat.zero_le _) (fun k hk => absurd hk (Nat.not_lt_zero _))
        · simp [hG, List.getD_cons_zero, List.getD_cons_succ, -List.getD_eq_getElem?_getD]
        · simp [hG, List.getD_cons_zero, List.getD_cons_succ, -List.getD_eq_getElem?_getD]
    ·
      try simp [-List.getD_eq_getElem?_getD] at hb9
      refine awpS_exit ?_
      refine thenQ_exit (thenQ_exit ?_)
      refine blockQ_exit (thenQ_norm ?_)
      refine awpS_seq ?_
      refine awpS_reg T_ok fun K hK => ?_
      simp [hG, List.getD_cons_zero, List.getD_cons_succ, -List.getD_eq_getElem?_getD]
      refine hK _ ?_
      clear K hK
      refine awpS_ret ?_
      refine RetOK_of ?_
      simp [hG, List.getD_cons_zero, List.getD_cons_succ, -List.getD_eq_getElem?_getD]
      exact hasI_no fun j hj => hn j (by omega)

set_option maxRecDepth 100000 in
theorem place_c (l : List Int) (v : Int) (hl : l.length ≤ 1000000) : PC Try.prog 89 [ints l, .int .i64 v] (.int .i64 (placeI l v)) := by
  refine PC_introS T_ok Try.func89 rfl (by simp [Try.ntmps89]) fun G hG hR => ?_
  simp only [Try.ntmps89, Try.results89] at hG ⊢
  simp only [argEnv, Nat.zero_add, Nat.reduceAdd]
  refine awpS_seq ?_
  refine awpS_reg T_ok fun K hK => ?_
  simp [hG, List.getD_cons_zero, List.getD_cons_succ, -List.getD_eq_getElem?_getD]
  refine hK _ ?_
  clear K hK
  refine awpS_seq ?_
  refine awpS_seq ?_
  refine awpS_reg T_ok fun K hK => ?_
  simp [hG, List.getD_cons_zero, List.getD_cons_succ, -List.getD_eq_getElem?_getD]
  refine hK _ ?_
  clear K hK
  refine awpS_block ?_
  refine awpS_loop (α := Nat) (fun k => ⟨[(0, ints l), (1, .int .i64 v), (5, .int .i64 k)], [], 0⟩) (fun k => k ≤ l.length ∧ ∀ j, j < k → l.getD j 0 ≠ v) (fun k => l.length - k) (0) (⟨Nat.zero_le _, fun j hj => absurd hj (Nat.not_lt_zero _)⟩) ?_ ?_
  ·
    refine wk_of (id) (fun _ => false) (fun _ => false) ?_ ?_ rfl (Nat.zero_le _) (fun k hk => absurd hk (Nat.not_lt_zero _))
    · simp [hG, List.getD_cons_zero, List.getD_cons_succ, -List.getD_eq_getElem?_getD]
    · simp [hG, List.getD_cons_zero, List.getD_cons_succ, -List.getD_eq_getElem?_getD]
  ·
    rintro k ⟨hk, hn⟩
    refine awpS_seq ?_
    refine awpS_seq ?_
    refine awpS_reg T_ok fun K hK => ?_
    simp [hG, List.getD_cons_zero, List.getD_cons_succ, -List.getD_eq_getElem?_getD]
    refine hK _ ?_
    clear K hK
    refine awpS_cond rfl (fun hb9 => ?_) (fun hb9 => ?_)
    ·
      try simp [-List.getD_eq_getElem?_getD] at hb9
      refine awpS_skip ?_
      refine awpS_seq ?_
      refine awpS_block ?_
      refine awpS_seq ?_
      refine awpS_reg T_ok fun K hK => ?_
      simp [hG, List.getD_cons_zero, List.getD_cons_succ, -List.getD_eq_getElem?_getD]
      refine ⟨Cond.mk (by omega), hK _ ?_⟩
      clear K hK
      refine awpS_cond rfl (fun hb17 => ?_) (fun hb17 => ?_)
      ·
        try simp [-List.getD_eq_getElem?_getD] at hb17
        refine awpS_seq ?_
        refine awpS_reg T_ok fun K hK => ?_
        simp [hG, List.getD_cons_zero, List.getD_cons_succ, -List.getD_eq_getElem?_getD]
        refine hK _ ?_
        clear K hK
        refine awpS_ret ?_
        refine blockQ_ret (thenQ_ret ?_)
        refine thenQ_ret (thenQ_ret ?_)
        refine blockQ_ret (thenQ_ret ?_)
        refine RetOK_of ?_
        simp [hG, List.getD_cons_zero, List.getD_cons_succ, -List.getD_eq_getElem?_getD]
        exact (placeI_some l v k hb9 hn hb17).symm
      ·
        try simp [-List.getD_eq_getElem?_getD] at hb17
        refine awpS_skip ?_
        refine awpS_nil ?_
        refine blockQ_norm (thenQ_norm ?_)
        refine awpS_reg T_ok fun K hK => ?_
        simp [hG, List.getD_cons_zero, List.getD_cons_succ, -List.getD_eq_getElem?_getD]
        refine ⟨Cond.mk (by omega), hK _ ?_⟩
        clear K hK
        refine awpS_nil ?_
        refine round_end (k + 1) (⟨by omega, step_all hn hb17⟩) (by omega) ?_
        refine wk_of (id) (fun _ => false) (fun _ => false) ?_ ?_ rfl (Nat.zero_le _) (fun k hk => absurd hk (Nat.not_lt_zero _))
        · simp [hG, List.getD_cons_zero, List.getD_cons_succ, -List.getD_eq_getElem?_getD]
        · simp [hG, List.getD_cons_zero, List.getD_cons_succ, -List.getD_eq_getElem?_getD]
    ·
      try simp [-List.getD_eq_getElem?_getD] at hb9
      refine awpS_exit ?_
      refine thenQ_exit (thenQ_exit ?_)
      refine blockQ_exit (thenQ_norm ?_)
      refine awpS_seq ?_
      refine awpS_reg T_ok fun K hK => ?_
      simp [hG, List.getD_cons_zero, List.getD_cons_succ, -List.getD_eq_getElem?_getD]
      refine hK _ ?_
      clear K hK
      refine awpS_ret ?_
      refine RetOK_of ?_
      simp [hG, List.getD_cons_zero, List.getD_cons_succ, -List.getD_eq_getElem?_getD]
      exact (placeI_none l v fun j hj => hn j (by omega)).symm

set_option maxRecDepth 100000 in
theorem part_c (g : Gr) (c : List Int) (hc : c.Pairwise (· < ·)) (hl : c.length ≤ 64) (hed : g.edges.length ≤ 1024) : PC Try.prog 79 [.agg 3 (grF g), ints c] (.agg 3 (grF (keptG g c))) := by
  refine PC_introS T_ok Try.func79 rfl (by simp [Try.ntmps79]) fun G hG hR => ?_
  simp only [Try.ntmps79, Try.results79] at hG ⊢
  simp only [argEnv, Nat.zero_add, Nat.reduceAdd]
  refine awpS_seq ?_
  refine awpS_reg T_ok fun K hK => ?_
  simp [hG, List.getD_cons_zero, List.getD_cons_succ, -List.getD_eq_getElem?_getD]
  refine ⟨Cond.mk (by simp [-List.getD_eq_getElem?_getD]), hK _ ?_⟩
  clear K hK
  refine awpS_seq ?_
  refine awpS_reg T_ok fun K hK => ?_
  simp [hG, List.getD_cons_zero, List.getD_cons_succ, -List.getD_eq_getElem?_getD]
  refine ⟨Cond.mk (by simp [-List.getD_eq_getElem?_getD]), hK _ ?_⟩
  clear K hK
  refine awpS_seq ?_
  refine awpS_seq ?_
  refine awpS_reg T_ok fun K hK => ?_
  simp [hG, List.getD_cons_zero, List.getD_cons_succ, -List.getD_eq_getElem?_getD]
  refine hK _ ?_
  clear K hK
  refine awpS_block ?_
  refine awpS_loop (α := Nat) (fun i => ⟨[(1, ints c), (2, .ptr (0, 0) 0 0), (4, .ptr (1, 0) 0 0), (5, .ptr (2, 0) 0 0), (6, .int .i64 i)], [(0, .one (.arr 1 3 (fun _ => grF g))), (1, .one (.arr 1 3 (fun _ j => [.int .i64 0, .int .i64 0, .nils].getD j .any))), (2, .one (.arr 1 3 (fun _ j => [.int .i64 g.labels, .int .i64 (c.length : Int), .sl (3, 0) 0 (keepE g c i).length].getD j .any))), (3, .one (.arr (keepE g c i).length 3 (fun q j => edgeF ((keepE g c i).getD q de) j)))], 4⟩) (fun i => i ≤ g.edges.length) (fun i => g.edges.length - i) (0) (Nat.zero_le _) ?_ ?_
  ·
    refine wk_of (id) (fun _ => false) (fun k => k == 3) ?_ ?_ rfl (Nat.zero_le _) (fun k hk => absurd hk (Nat.not_lt_zero _))
    · simp [hG, List.getD_cons_zero, List.getD_cons_succ, -List.getD_eq_getElem?_getD]
    · simp [hG, List.getD_cons_zero, List.getD_cons_succ, -List.getD_eq_getElem?_getD]
  ·
    rintro i hi
    refine awpS_seq ?_
    refine awpS_seq ?_
    refine awpS_reg T_ok fun K hK => ?_
    simp [hG, List.getD_cons_zero, List.getD_cons_succ, -List.getD_eq_getElem?_getD]
    refine hK _ ?_
    clear K hK
    refine awpS_cond rfl (fun hb19 => ?_) (fun hb19 => ?_)
    ·
      try simp [-List.getD_eq_getElem?_getD] at hb19
      have hkl := keepE_len (g := g) (c := c) (i := i)
      refine awpS_skip ?_
      refine awpS_seq ?_
      refine awpS_block ?_
      refine awpS_seq ?_
      refine awpS_reg T_ok fun K hK => ?_
      simp [hG, List.getD_cons_zero, List.getD_cons_succ, -List.getD_eq_getElem?_getD]
      refine ⟨Cond.mk (by simp [-List.getD_eq_getElem?_getD]; omega), hK _ ?_⟩
      clear K hK
      refine awpS_seq ?_
      refine awpS_draw hR mixed [] ⟨[], [], []⟩ fun mu0 => ?_
      refine awpA_tk T_ok [0, 1, 2, 4, 5, 6] [] (fuel := 4) [6, 5, 4, 2, 1, 0] (by decide +kernel) (by decide +kernel) rfl rfl fun K hK => ?_
      simp [hG, List.getD_cons_zero, List.getD_cons_succ, -List.getD_eq_getElem?_getD]
      refine hK _ ?_
      clear K hK
      refine awpA_only (fuel := 3) (i := 3) (by decide +kernel) ?_
      refine awpO_call cal89 rfl rfl rfl (fun _ => rfl) (fun hg => place_c c (g.edges.getD i de).frm (by omega)) (fun hg => ?_) (fun hg => ?_) fun K hK => ?_
      · simp [hG, List.getD_cons_zero, List.getD_cons_succ, -List.getD_eq_getElem?_getD]
      · simp [hG, List.getD_cons_zero, List.getD_cons_succ, -List.getD_eq_getElem?_getD]
      simp [hG, List.getD_cons_zero, List.getD_cons_succ, -List.getD_eq_getElem?_getD]
      refine hK _ ?_
      clear K hK
      refine awpA_only (fuel := 2) (i := 7) (by decide +kernel) ?_
      refine awpO_call cal89 rfl rfl rfl (fun _ => rfl) (fun hg => place_c c (g.edges.getD i de).to (by omega)) (fun hg => ?_) (fun hg => ?_) fun K hK => ?_
      · simp [hG, List.getD_cons_zero, List.getD_cons_succ, -List.getD_eq_getElem?_getD]
      · simp [hG, List.getD_cons_zero, List.getD_cons_succ, -List.getD_eq_getElem?_getD]
      simp [hG, List.getD_cons_zero, List.getD_cons_succ, -List.getD_eq_getElem?_getD]
      refine hK _ ?_
      clear K hK
      refine awpA_tk T_ok [8, 9] [] (fuel := 0) [9, 8, 7, 3, 6, 5, 4, 2, 1, 0] (by decide +kernel) (by decide +kernel) rfl rfl fun K hK => ?_
      simp [hG, List.getD_cons_zero, List.getD_cons_succ, -List.getD_eq_getElem?_getD]
      refine hK _ ?_
      clear K hK
      refine awpA_done (by decide +kernel) ?_
      refine awpS_seq ?_
      refine awpS_reg T_ok fun K hK => ?_
      simp [hG, List.getD_cons_zero, List.getD_cons_succ, -List.getD_eq_getElem?_getD]
      refine ⟨Cond.mk (by simp [-List.getD_eq_getElem?_getD]), hK _ ?_⟩
      clear K hK
      refine awpS_cond rfl (fun hb40 => ?_) (fun hb40 => ?_)
      ·
        try simp [-List.getD_eq_getElem?_getD] at hb40
        have hmf := (placeI_mem c _).1 hb40.1
        have hmt := (placeI_mem c _).1 hb40.2
        have hpf := place_rank hc hmf
        have hpt := place_rank hc hmt
        have hks : keepE g c (i + 1) = keepE g c i ++ [mapE c (g.edges.getD i de)] := (by rw [keepE_succ (by omega), if_pos (by unfold inBoth hasI; rw [decide_eq_true hmf, decide_eq_true hmt]; rfl)])
        refine awpS_reg T_ok fun K hK => ?_
        simp [hG, List.getD_cons_zero, List.getD_cons_succ, -List.getD_eq_getElem?_getD]
        first | refine hK _ ?_ | refine ⟨Cond.mk (by clear hK; simp [-List.getD_eq_getElem?_getD]; repeat' (first | intro _ | assumption | apply And.intro | omega | exact decide_eq_true (by assumption))), hK _ ?_⟩
        clear K hK
        refine awpS_nil ?_
        refine blockQ_norm (thenQ_norm ?_)
        refine awpS_reg T_ok fun K hK => ?_
        simp [hG, List.getD_cons_zero, List.getD_cons_succ, -List.getD_eq_getElem?_getD]
        refine ⟨Cond.mk (by omega), hK _ ?_⟩
        clear K hK
        refine awpS_nil ?_
        refine round_end (i + 1) (by omega) (by omega) ?_
        refine wk_of (fun k => if k = 3 then 6 else k) (fun _ => false) (fun _ => false) ?_ ?_ rfl (Nat.zero_le _) (fun k hk => absurd hk (Nat.not_lt_zero _))
        · simp [hG, List.getD_cons_zero, List.getD_cons_succ, -List.getD_eq_getElem?_getD]
        · rw [hks]; simp [hG, List.getD_cons_zero, List.getD_cons_succ, -List.getD_eq_getElem?_getD]; exact fun q hq => app_edge3 (by simpa using hq) (fun j hj => by rcases lt3 hj with rfl | rfl | rfl <;> simp [mapE, hpf, hpt, -List.getD_eq_getElem?_getD])
      ·
        try simp [-List.getD_eq_getElem?_getD] at hb40
        have hks : keepE g c (i + 1) = keepE g c i := (by rw [keepE_succ (by omega), if_neg]; intro h; have h2 := inBoth_mem h; exact absurd ((placeI_mem c _).2 h2.2) (by have := hb40 ((placeI_mem c _).2 h2.1); omega))
        refine awpS_skip ?_
        refine awpS_nil ?_
        refine blockQ_norm (thenQ_norm ?_)
        refine awpS_reg T_ok fun K hK => ?_
        simp [hG, List.getD_cons_zero, List.getD_cons_succ, -List.getD_eq_getElem?_getD]
        refine ⟨Cond.mk (by omega), hK _ ?_⟩
        clear K hK
        refine awpS_nil ?_
        refine round_end (i + 1) (by omega) (by omega) ?_
        refine wk_of (id) (fun _ => false) (fun _ => false) ?_ ?_ rfl (Nat.zero_le _) (fun k hk => absurd hk (Nat.not_lt_zero _))
        · simp [hG, List.getD_cons_zero, List.getD_cons_succ, -List.getD_eq_getElem?_getD]
        · rw [hks]; simp [hG, List.getD_cons_zero, List.getD_cons_succ, -List.getD_eq_getElem?_getD]
    ·
      try simp [-List.getD_eq_getElem?_getD] at hb19
      refine awpS_exit ?_
      refine thenQ_exit (thenQ_exit ?_)
      refine blockQ_exit (thenQ_norm ?_)
      refine awpS_seq ?_
      refine awpS_reg T_ok fun K hK => ?_
      simp [hG, List.getD_cons_zero, List.getD_cons_succ, -List.getD_eq_getElem?_getD]
      refine ⟨Cond.mk (by simp [-List.getD_eq_getElem?_getD]), hK _ ?_⟩
      clear K hK
      refine awpS_ret ?_
      refine RetOK_of ?_
      simp [hG, List.getD_cons_zero, List.getD_cons_succ, -List.getD_eq_getElem?_getD]
      obtain rfl : i = g.edges.length := (by omega); exact ⟨rfl, rfl, rfl, Nat.le_refl _, fun q _ => ⟨rfl, rfl, rfl⟩⟩

set_option maxRecDepth 100000 in
theorem ess1_c (A B : List (Int × Bool)) (s : Int) : FC1 Try.prog 76 [.int .i64 s, .ptr (0, 0) 0 0, .ptr (1, 0) 0 0] [(0, .one (.arr 1 1 (fun _ _ => .map (2, 0)))), (1, .one (.arr 1 1 (fun _ _ => .map (3, 0)))), (2, .one (.mp (mpE intK boolV A))), (3, .one (.mp (mpE intK boolV B)))] 4 (.bool (outM A B s)) [(0, .one (.arr 1 1 (fun _ _ => .map (2, 0)))), (1, .one (.arr 1 1 (fun _ _ => .map (3, 0)))), (2, .one (.mp (mpE intK boolV A))), (3, .one (.mp (mpE intK boolV B)))] 4 := by
  refine FC_introS T_ok Try.func76 rfl (by simp [Try.ntmps76]) fun G hG hR => ?_
  simp only [Try.ntmps76, Try.results76] at hG ⊢
  simp only [argEnv, Nat.zero_add, Nat.reduceAdd]
  refine awpS_seq ?_
  refine awpS_reg T_ok fun K hK => ?_
  simp [hG, List.getD_cons_zero, List.getD_cons_succ, -List.getD_eq_getElem?_getD, pureOp]
  refine hK _ ?_
  clear K hK
  refine awpS_seq ?_
  refine awpS_reg T_ok fun K hK => ?_
  simp [hG, List.getD_cons_zero, List.getD_cons_succ, -List.getD_eq_getElem?_getD, pureOp]
  refine hK _ ?_
  clear K hK
  refine awpS_ret ?_
  refine RetF_of (()) (id) (fun _ => false) (fun _ => false) trivial ?_ ?_ (by rfl) (by simp) (fun k _ => ⟨rfl, rfl⟩)
  · simp [hG, List.getD_cons_zero, List.getD_cons_succ, -List.getD_eq_getElem?_getD]; rfl
  · simp [hG, List.getD_cons_zero, List.getD_cons_succ, -List.getD_eq_getElem?_getD, pureOp]

set_option maxRecDepth 100000 in
theorem idxE_c (l : List Int) (A B : List (Int × Bool)) (hl : l.length ≤ 1000000) : FC1 Try.prog 73 [.sl (0, 0) 0 l.length, .fn 76 2 (fun j => [.ptr (1, 0) 0 0, .ptr (2, 0) 0 0].getD j .any)] [(0, .one (.arr l.length 1 (fun p _ => .int .i64 (l.getD p 0)))), (1, .one (.arr 1 1 (fun _ _ => .map (3, 0)))), (2, .one (.arr 1 1 (fun _ _ => .map (4, 0)))), (3, .one (.mp (mpE intK boolV A))), (4, .one (.mp (mpE intK boolV B)))] 5 (.int .i64 (placeG l (outM A B))) [(0, .one (.arr l.length 1 (fun p _ => .int .i64 (l.getD p 0)))), (1, .one (.arr 1 1 (fun _ _ => .map (3, 0)))), (2, .one (.arr 1 1 (fun _ _ => .map (4, 0)))), (3, .one (.mp (mpE intK boolV A))), (4, .one (.mp (mpE intK boolV B)))] 5 := by
  refine FC_introS T_ok Try.func73 rfl (by simp [Try.ntmps73]) fun G hG hR => ?_
  simp only [Try.ntmps73, Try.results73] at hG ⊢
  simp only [argEnv, Nat.zero_add, Nat.reduceAdd]
  refine awpS_seq ?_
  refine awpS_reg T_ok fun K hK => ?_
  simp [hG, List.getD_cons_zero, List.getD_cons_succ, -List.getD_eq_getElem?_getD]
  refine hK _ ?_
  clear K hK
  refine awpS_seq ?_
  refine awpS_seq ?_
  refine awpS_reg T_ok fun K hK => ?_
  simp [hG, List.getD_cons_zero, List.getD_cons_succ, -List.getD_eq_getElem?_getD]
  refine hK _ ?_
  clear K hK
  refine awpS_block ?_
  refine awpS_loop (α := Nat) (fun i => ⟨[(0, .sl (0, 0) 0 l.length), (1, .fn 76 2 (fun j => [.ptr (1, 0) 0 0, .ptr (2, 0) 0 0].getD j .any)), (7, .int .i64 l.length), (8, .int .i64 i)], [(0, .one (.arr l.length 1 (fun p _ => .int .i64 (l.getD p 0)))), (1, .one (.arr 1 1 (fun _ _ => .map (3, 0)))), (2, .one (.arr 1 1 (fun _ _ => .map (4, 0)))), (3, .one (.mp (mpE intK boolV A))), (4, .one (.mp (mpE intK boolV B)))], 5⟩) (fun i => i ≤ l.length ∧ ∀ j, j < i → outM A B (l.getD j 0) = false) (fun i => l.length - i) (0) (⟨Nat.zero_le _, fun j hj => absurd hj (Nat.not_lt_zero _)⟩) ?_ ?_
  ·
    refine wk_of (id) (fun _ => false) (fun _ => false) ?_ ?_ rfl (by simp) (fun k hk => by first | exact ⟨rfl, rfl⟩ | (revert k; decide) | (obtain rfl : k = 0 := (by omega); exact ⟨rfl, rfl⟩) | (have hk2 : k = 0 ∨ k = 1 := (by omega); rcases hk2 with rfl | rfl <;> exact ⟨rfl, rfl⟩))
    · simp [hG, List.getD_cons_zero, List.getD_cons_succ, -List.getD_eq_getElem?_getD]
    · simp [hG, List.getD_cons_zero, List.getD_cons_succ, -List.getD_eq_getElem?_getD]
  ·
    rintro i ⟨hi, hn0⟩
    refine awpS_seq ?_
    refine awpS_reg T_ok fun K hK => ?_
    simp [hG, List.getD_cons_zero, List.getD_cons_succ, -List.getD_eq_getElem?_getD]
    refine hK _ ?_
    clear K hK
    refine awpS_seq ?_
    refine awpS_cond rfl (fun hb9 => ?_) (fun hb9 => ?_)
    ·
      try simp [-List.getD_eq_getElem?_getD] at hb9
      refine awpS_skip ?_
      refine awpS_seq ?_
      refine awpS_block ?_
      refine awpS_seq ?_
      refine awpS_reg T_ok fun K hK => ?_
      simp [hG, List.getD_cons_zero, List.getD_cons_succ, -List.getD_eq_getElem?_getD]
      refine hK _ ?_
      clear K hK
      refine awpS_seq ?_
      refine awpS_regL ?_
      refine awpL_reg T_ok 5 fun K hK => ?_
      simp [hG, List.getD_cons_zero, List.getD_cons_succ, -List.getD_eq_getElem?_getD]
      refine ⟨Cond.mk (by omega), hK _ ?_⟩
      clear K hK
      refine awpL_fc cal76 [1, 2, 3, 4] (fun _ => false) (ess1_c A B (l.getD i 0)) rfl rfl rfl (by simp) (.inl fun _ => rfl) ?_ ?_ ?_ fun K hK x hI hno => ?_
      · simp [hG, List.getD_cons_zero, List.getD_cons_succ, -List.getD_eq_getElem?_getD]
      · show argsLeS _ _ _ _ _ [_, .ptr (1, 0) 0 0, .ptr (2, 0) 0 0]
        simp [hG, List.getD_cons_zero, List.getD_cons_succ, -List.getD_eq_getElem?_getD]
      · simp [hG, List.getD_cons_zero, List.getD_cons_succ, -List.getD_eq_getElem?_getD]
      simp [hG, List.getD_cons_zero, List.getD_cons_succ, -List.getD_eq_getElem?_getD]
      refine hK _ ?_
      clear K hK
      refine awpL_nil ?_
      refine awpS_cond rfl (fun hb16 => ?_) (fun hb16 => ?_)
      ·
        try simp [-List.getD_eq_getElem?_getD] at hb16
        refine awpS_seq ?_
        refine awpS_reg T_ok fun K hK => ?_
        simp [hG, List.getD_cons_zero, List.getD_cons_succ, -List.getD_eq_getElem?_getD]
        refine hK _ ?_
        clear K hK
        refine awpS_ret ?_
        refine blockQ_ret (thenQ_ret ?_)
        refine thenQ_ret (thenQ_ret ?_)
        refine blockQ_ret (thenQ_ret ?_)
        refine RetF_of (()) (id) (fun _ => false) (fun _ => false) trivial ?_ ?_ (by rfl) (by simp) (fun k _ => ⟨rfl, rfl⟩)
        · simp [hG, List.getD_cons_zero, List.getD_cons_succ, -List.getD_eq_getElem?_getD]; exact (placeG_at (by simpa using hb9) hb16 hn0).symm
        · simp [hG, List.getD_cons_zero, List.getD_cons_succ, -List.getD_eq_getElem?_getD]
      ·
        try simp [-List.getD_eq_getElem?_getD] at hb16
        refine awpS_skip ?_
        refine awpS_nil ?_
        refine blockQ_norm (thenQ_norm ?_)
        refine awpS_reg T_ok fun K hK => ?_
        simp [hG, List.getD_cons_zero, List.getD_cons_succ, -List.getD_eq_getElem?_getD]
        refine ⟨Cond.mk (by omega), hK _ ?_⟩
        clear K hK
        refine awpS_nil ?_
        refine round_end (i + 1) (⟨by omega, fun j hj => (Nat.lt_succ_iff_lt_or_eq.1 hj).elim (hn0 j) fun e => by rw [e]; exact hb16⟩) (by omega) ?_
        refine wk_of (id) (fun _ => false) (fun _ => false) ?_ ?_ rfl (by simp) (fun k hk => by first | exact ⟨rfl, rfl⟩ | (revert k; decide) | (obtain rfl : k = 0 := (by omega); exact ⟨rfl, rfl⟩) | (have hk2 : k = 0 ∨ k = 1 := (by omega); rcases hk2 with rfl | rfl <;> exact ⟨rfl, rfl⟩))
        · simp [hG, List.getD_cons_zero, List.getD_cons_succ, -List.getD_eq_getElem?_getD]
        · simp [hG, List.getD_cons_zero, List.getD_cons_succ, -List.getD_eq_getElem?_getD]
    ·
      try simp [-List.getD_eq_getElem?_getD] at hb9
      refine awpS_exit ?_
      refine thenQ_exit (thenQ_exit ?_)
      refine blockQ_exit (thenQ_norm ?_)
      refine awpS_seq ?_
      refine awpS_reg T_ok fun K hK => ?_
      simp [hG, List.getD_cons_zero, List.getD_cons_succ, -List.getD_eq_getElem?_getD]
      refine hK _ ?_
      clear K hK
      refine awpS_ret ?_
      refine RetF_of (()) (id) (fun _ => false) (fun _ => false) trivial ?_ ?_ (by rfl) (by simp) (fun k _ => ⟨rfl, rfl⟩)
      · simp [hG, List.getD_cons_zero, List.getD_cons_succ, -List.getD_eq_getElem?_getD]; exact (placeG_none fun j hj => hn0 j (by omega)).symm
      · simp [hG, List.getD_cons_zero, List.getD_cons_succ, -List.getD_eq_getElem?_getD]

set_option maxRecDepth 100000 in
theorem delE_c (l : List Int) (A B : List (Int × Bool)) (hl : l.length ≤ 1000000) : FC1 Try.prog 75 [.sl (0, 0) 0 l.length, .fn 76 2 (fun j => [.ptr (1, 0) 0 0, .ptr (2, 0) 0 0].getD j .any)] [(0, .one (.arr l.length 1 (fun p _ => .int .i64 (l.getD p 0)))), (1, .one (.arr 1 1 (fun _ _ => .map (3, 0)))), (2, .one (.arr 1 1 (fun _ _ => .map (4, 0)))), (3, .one (.mp (mpE intK boolV A))), (4, .one (.mp (mpE intK boolV B)))] 5 (.sl (0, 0) 0 (kpt (outM A B) l l.length).length) [(0, .one (.arr l.length 1 (fun p _ => .int .i64 ((kpt (outM A B) l l.length).getD p 0)))), (1, .one (.arr 1 1 (fun _ _ => .map (3, 0)))), (2, .one (.arr 1 1 (fun _ _ => .map (4, 0)))), (3, .one (.mp (mpE intK boolV A))), (4, .one (.mp (mpE intK boolV B)))] 5 := by
  refine FC_introS T_ok Try.func75 rfl (by simp [Try.ntmps75]) fun G hG hR => ?_
  simp only [Try.ntmps75, Try.results75] at hG ⊢
  simp only [argEnv, Nat.zero_add, Nat.reduceAdd]
  refine awpS_seq ?_
  refine awpS_reg T_ok fun K hK => ?_
  simp [hG, List.getD_cons_zero, List.getD_cons_succ, -List.getD_eq_getElem?_getD]
  refine hK _ ?_
  clear K hK
  refine awpS_seq ?_
  refine awpS_regL ?_
  refine awpL_reg T_ok 2 fun K hK => ?_
  simp [hG, List.getD_cons_zero, List.getD_cons_succ, -List.getD_eq_getElem?_getD]
  refine hK _ ?_
  clear K hK
  refine awpL_fc cal73 [0, 1, 2, 3, 4] (fun _ => false) (idxE_c l A B hl) rfl rfl rfl (by simp) (.inl fun _ => rfl) ?_ ?_ ?_ fun K hK x hI hno => ?_
  · simp [hG, List.getD_cons_zero, List.getD_cons_succ, -List.getD_eq_getElem?_getD]
  · simp [hG, List.getD_cons_zero, List.getD_cons_succ, -List.getD_eq_getElem?_getD]
  · simp [hG, List.getD_cons_zero, List.getD_cons_succ, -List.getD_eq_getElem?_getD]
  simp [hG, List.getD_cons_zero, List.getD_cons_succ, -List.getD_eq_getElem?_getD]
  refine hK _ ?_
  clear K hK
  refine awpL_reg T_ok 1 fun K hK => ?_
  simp [hG, List.getD_cons_zero, List.getD_cons_succ, -List.getD_eq_getElem?_getD]
  refine hK _ ?_
  clear K hK
  refine awpL_nil ?_
  refine awpS_seq ?_
  refine awpS_seq ?_
  refine awpS_reg T_ok fun K hK => ?_
  simp [hG, List.getD_cons_zero, List.getD_cons_succ, -List.getD_eq_getElem?_getD]
  refine hK _ ?_
  clear K hK
  refine awpS_cond rfl (fun hb12 => ?_) (fun hb12 => ?_)
  ·
    try simp [-List.getD_eq_getElem?_getD] at hb12
    have hnq := placeG_neg (d := 0) hb12
    refine awpS_seq ?_
    refine awpS_reg T_ok fun K hK => ?_
    simp [hG, List.getD_cons_zero, List.getD_cons_succ, -List.getD_eq_getElem?_getD]
    refine hK _ ?_
    clear K hK
    refine awpS_ret ?_
    refine RetF_of (()) (id) (fun _ => false) (fun _ => false) trivial ?_ ?_ (by rfl) (by simp) (fun k _ => ⟨rfl, rfl⟩)
    · rw [kpt_none (Nat.le_refl _) fun j hj => hnq _ (getD_mem hj), List.take_length]; simp [hG]
    · rw [kpt_none (Nat.le_refl _) fun j hj => hnq _ (getD_mem hj), List.take_length]; simp [hG]
  ·
    try simp [-List.getD_eq_getElem?_getD] at hb12
    obtain ⟨i0, hi0, hq0, hn0, hpl⟩ := placeG_pos (d := 0) hb12
    have hk0 := kpt_none (q := outM A B) (l := l) (m := i0) (by omega) hn0
    have hk1 : kpt (outM A B) l (i0 + 1) = kpt (outM A B) l i0 := (by rw [kpt_succ hi0, if_pos hq0])
    have hk2 : (kpt (outM A B) l i0).length = i0 := (by rw [hk0, List.length_take]; omega)
    refine awpS_skip ?_
    refine awpS_seq ?_
    refine awpS_seq ?_
    refine awpS_reg T_ok fun K hK => ?_
    simp [hG, List.getD_cons_zero, List.getD_cons_succ, -List.getD_eq_getElem?_getD]
    refine ⟨Cond.mk (by omega), hK _ ?_⟩
    clear K hK
    refine awpS_block ?_
    refine awpS_loop (α := Nat) (fun j => ⟨[(0, .sl (0, 0) 0 l.length), (1, .fn 76 2 (fun j => [.ptr (1, 0) 0 0, .ptr (2, 0) 0 0].getD j .any)), (5, .int .i64 (kpt (outM A B) l j).length), (6, .int .i64 j)], [(0, .one (.arr l.length 1 (fun p _ => .int .i64 (kptG (outM A B) l j p)))), (1, .one (.arr 1 1 (fun _ _ => .map (3, 0)))), (2, .one (.arr 1 1 (fun _ _ => .map (4, 0)))), (3, .one (.mp (mpE intK boolV A))), (4, .one (.mp (mpE intK boolV B)))], 5⟩) (fun j => j ≤ l.length ∧ (kpt (outM A B) l j).length + 1 ≤ j) (fun j => l.length - j) (i0 + 1) (⟨by omega, by rw [hk1]; omega⟩) ?_ ?_
    ·
      refine wk_of (id) (fun _ => false) (fun _ => false) ?_ ?_ rfl (by simp) (fun k hk => by first | exact ⟨rfl, rfl⟩ | (revert k; decide) | (obtain rfl : k = 0 := (by omega); exact ⟨rfl, rfl⟩) | (have hk2 : k = 0 ∨ k = 1 := (by omega); rcases hk2 with rfl | rfl <;> exact ⟨rfl, rfl⟩))
      · simp [hG, List.getD_cons_zero, List.getD_cons_succ, -List.getD_eq_getElem?_getD]; rw [hpl, hk1, hk2]; exact ⟨rfl, rfl⟩
      · simp [hG, List.getD_cons_zero, List.getD_cons_succ, -List.getD_eq_getElem?_getD]; exact fun p hp => by rw [kptG_skip hi0 hq0, kptG_first (by omega) hn0]
    ·
      rintro j ⟨hj, hkj⟩
      refine awpS_seq ?_
      refine awpS_seq ?_
      refine awpS_reg T_ok fun K hK => ?_
      simp [hG, List.getD_cons_zero, List.getD_cons_succ, -List.getD_eq_getElem?_getD]
      refine hK _ ?_
      clear K hK
      refine awpS_cond rfl (fun hb19 => ?_) (fun hb19 => ?_)
      ·
        try simp [-List.getD_eq_getElem?_getD] at hb19
        have hjl : j < l.length := (by omega)
        have hold := kptG_old (q := outM A B) (l := l) (m := j) (i := j) (by omega)
        refine awpS_skip ?_
        refine awpS_seq ?_
        refine awpS_block ?_
        refine awpS_seq ?_
        refine awpS_reg T_ok fun K hK => ?_
        simp [hG, List.getD_cons_zero, List.getD_cons_succ, -List.getD_eq_getElem?_getD]
        refine ⟨Cond.mk (by omega), hK _ ?_⟩
        clear K hK
        refine awpS_seq ?_
        refine awpS_regL ?_
        refine awpL_reg T_ok 2 fun K hK => ?_
        simp [hG, List.getD_cons_zero, List.getD_cons_succ, -List.getD_eq_getElem?_getD]
        refine hK _ ?_
        clear K hK
        refine awpL_fc cal76 [1, 2, 3, 4] (fun _ => false) (ess1_c A B (kptG (outM A B) l j j)) rfl rfl rfl (by simp) (.inl fun _ => rfl) ?_ ?_ ?_ fun K hK x hI hno => ?_
        · simp [hG, List.getD_cons_zero, List.getD_cons_succ, -List.getD_eq_getElem?_getD]
        · show argsLeS _ _ _ _ _ [_, .ptr (1, 0) 0 0, .ptr (2, 0) 0 0]
          simp [hG, List.getD_cons_zero, List.getD_cons_succ, -List.getD_eq_getElem?_getD]
        · simp [hG, List.getD_cons_zero, List.getD_cons_succ, -List.getD_eq_getElem?_getD]
        simp [hG, List.getD_cons_zero, List.getD_cons_succ, -List.getD_eq_getElem?_getD]
        refine hK _ ?_
        clear K hK
        refine awpL_reg T_ok 1 fun K hK => ?_
        simp [hG, List.getD_cons_zero, List.getD_cons_succ, -List.getD_eq_getElem?_getD]
        refine hK _ ?_
        clear K hK
        refine awpL_nil ?_
        refine awpS_cond rfl (fun hb29 => ?_) (fun hb29 => ?_)
        ·
          try simp [-List.getD_eq_getElem?_getD] at hb29
          rw [hold] at hb29
          have hks : kpt (outM A B) l (j + 1) = kpt (outM A B) l j ++ [l.getD j 0] := (by rw [kpt_succ hjl, hb29]; simp)
          refine awpS_seq ?_
          refine awpS_reg T_ok fun K hK => ?_
          simp [hG, List.getD_cons_zero, List.getD_cons_succ, -List.getD_eq_getElem?_getD]
          refine ⟨Cond.mk (by omega), hK _ ?_⟩
          clear K hK
          refine awpS_reg T_ok fun K hK => ?_
          simp [hG, List.getD_cons_zero, List.getD_cons_succ, -List.getD_eq_getElem?_getD]
          refine ⟨Cond.mk (by omega), hK _ ?_⟩
          clear K hK
          refine awpS_nil ?_
          refine blockQ_norm (thenQ_norm ?_)
          refine awpS_reg T_ok fun K hK => ?_
          simp [hG, List.getD_cons_zero, List.getD_cons_succ, -List.getD_eq_getElem?_getD]
          refine ⟨Cond.mk (by omega), hK _ ?_⟩
          clear K hK
          refine awpS_nil ?_
          refine round_end (j + 1) (⟨by omega, by rw [hks, List.length_append, List.length_singleton]; omega⟩) (by omega) ?_
          refine wk_of (id) (fun _ => false) (fun _ => false) ?_ ?_ rfl (by simp) (fun k hk => by first | exact ⟨rfl, rfl⟩ | (revert k; decide) | (obtain rfl : k = 0 := (by omega); exact ⟨rfl, rfl⟩) | (have hk2 : k = 0 ∨ k = 1 := (by omega); rcases hk2 with rfl | rfl <;> exact ⟨rfl, rfl⟩))
          · rw [hks]; simp [hG, List.getD_cons_zero, List.getD_cons_succ, -List.getD_eq_getElem?_getD]
          · simp [hG, List.getD_cons_zero, List.getD_cons_succ, -List.getD_eq_getElem?_getD]; intro p hp; rw [kptG_put hjl hb29, hold]; by_cases h : p = (kpt (outM A B) l j).length <;> simp [h]
        ·
          try simp [-List.getD_eq_getElem?_getD] at hb29
          rw [hold] at hb29
          have hks : kpt (outM A B) l (j + 1) = kpt (outM A B) l j := (by rw [kpt_succ hjl, if_pos hb29])
          refine awpS_skip ?_
          refine awpS_nil ?_
          refine blockQ_norm (thenQ_norm ?_)
          refine awpS_reg T_ok fun K hK => ?_
          simp [hG, List.getD_cons_zero, List.getD_cons_succ, -List.getD_eq_getElem?_getD]
          refine ⟨Cond.mk (by omega), hK _ ?_⟩
          clear K hK
          refine awpS_nil ?_
          refine round_end (j + 1) (⟨by omega, by rw [hks]; omega⟩) (by omega) ?_
          refine wk_of (id) (fun _ => false) (fun _ => false) ?_ ?_ rfl (by simp) (fun k hk => by first | exact ⟨rfl, rfl⟩ | (revert k; decide) | (obtain rfl : k = 0 := (by omega); exact ⟨rfl, rfl⟩) | (have hk2 : k = 0 ∨ k = 1 := (by omega); rcases hk2 with rfl | rfl <;> exact ⟨rfl, rfl⟩))
          · rw [hks]; simp [hG, List.getD_cons_zero, List.getD_cons_succ, -List.getD_eq_getElem?_getD]
          · simp [hG, List.getD_cons_zero, List.getD_cons_succ, -List.getD_eq_getElem?_getD]; exact fun p hp => by rw [kptG_skip hjl hb29]
      ·
        try simp [-List.getD_eq_getElem?_getD] at hb19
        obtain rfl : j = l.length := (by omega)
        refine awpS_exit ?_
        refine thenQ_exit (thenQ_exit ?_)
        refine blockQ_exit (thenQ_norm ?_)
        refine awpS_seq ?_
        refine awpS_reg T_ok fun K hK => ?_
        simp [hG, List.getD_cons_zero, List.getD_cons_succ, -List.getD_eq_getElem?_getD]
        refine ⟨Cond.mk (by simp [-List.getD_eq_getElem?_getD]; omega), hK _ ?_⟩
        clear K hK
        refine awpS_seq ?_
        refine awpS_reg T_ok fun K hK => ?_
        simp [hG, List.getD_cons_zero, List.getD_cons_succ, -List.getD_eq_getElem?_getD]
        refine ⟨Cond.mk (by omega), hK _ ?_⟩
        clear K hK
        refine awpS_ret ?_
        refine RetF_of (()) (id) (fun _ => false) (fun _ => false) trivial ?_ ?_ (by rfl) (by simp) (fun k _ => ⟨rfl, rfl⟩)
        · simp [hG, List.getD_cons_zero, List.getD_cons_succ, -List.getD_eq_getElem?_getD]
        · simp [hG, List.getD_cons_zero, List.getD_cons_succ, -List.getD_eq_getElem?_getD]; exact fun p hp => clr_kpt hp

end Go.Proofs.Ytddghlnaocjjkaa
