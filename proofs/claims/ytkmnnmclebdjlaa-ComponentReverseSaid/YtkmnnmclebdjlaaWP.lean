/-
  Walks: fine, closed, contains with functions, IsSorted.
-/
import Derived.Test.YtkmnnmclebdjlaaWZ
import Derived.Test.YtkmnnmclebdjlaaPM
namespace Go.Proofs.Ytkmnnmclebdjlaa
set_option linter.unusedSimpArgs false
set_option linter.unusedVariables false
open Go Go.Lift Go.Proofs

/-- what the laws look at: valid graphs of no great size. -/
def fineG (g : Gr) : Prop := ¬ greatG g ∧ gcheck g = 0
noncomputable instance {g : Gr} : Decidable (fineG g) := inferInstanceAs (Decidable (_ ∧ _))
theorem fine_le {g : Gr} (h : fineG g) : g.states ≤ 8 ∧ g.edges.length ≤ 30 := by
  have h1 := (gcheck_fit h.2).st
  have h2 := (gcheck_valid h.2).1.ed
  have h3 := h.1
  unfold greatG at h3
  omega
theorem app_clsd {g : Gr} {s k i : Nat} {v : Bool} {w : Nat → Nat → AVal} (hv : v = (atW g s (k + 1)).getD s false) (h : i < k + 1 + 1) : app (fun i _ => .bool ((clsdL g s (k + 1)).getD i false)) (k + 1) (fun i j => if i = 0 ∧ j = 0 then .bool v else w i j) i 0 = .bool ((clsdL g s (k + 1 + 1)).getD i false) := by
  have := app_gen (f := fun b => AVal.bool b) (l := clsdL g s (k + 1)) (v := v) (d := false) (g := w) (i := i) (by rw [clsdL_len]; exact h)
  rw [clsdL_len] at this
  rw [clsdL_succ (k := k + 1), ← hv]
  exact this
theorem clsd_one {g : Gr} {s i : Nat} (hs : s < g.n) (h : i < 1) : (clsdL g s 1).getD i false = true := by
  obtain rfl : i = 0 := by omega
  rw [clsdL_at (by omega)]
  show ((List.replicate g.n false).set s true).getD s false = true
  rw [getD_set, if_pos ⟨rfl, by simpa using hs⟩]
theorem atW_zero {g : Gr} {s j : Nat} (hs : s < g.n) : (if j = s then AVal.bool true else AVal.bool false) = .bool ((atW g s 0).getD j false) := rstart_at (g := g) hs
/-- where the first element is of which q holds. -/
def placeG {α : Type} (l : List α) (q : α → Bool) : Int := if l.any q then (l.findIdx q : Nat) else -1
theorem placeG_at {α : Type} {d : α} {l : List α} {q : α → Bool} {i : Nat} (hi : i < l.length) (hq : q (l.getD i d) = true) (hn : ∀ j, j < i → q (l.getD j d) = false) : placeG l q = i := by
  unfold placeG
  rw [if_pos (List.any_eq_true.2 ⟨l[i], List.getElem_mem hi, by rw [← getD_get (d := d)]; exact hq⟩)]
  have : l.findIdx q = i := (List.findIdx_eq hi).2 ⟨by rw [← getD_get (d := d)]; exact hq, fun j hj => by rw [← getD_get (d := d)]; exact hn j hj⟩
  rw [this]
theorem placeG_none {α : Type} {d : α} {l : List α} {q : α → Bool} (hn : ∀ j, j < l.length → q (l.getD j d) = false) : placeG l q = -1 := by
  unfold placeG
  rw [if_neg]
  intro h
  obtain ⟨x, hx, hq⟩ := List.any_eq_true.1 h
  obtain ⟨j, hj, rfl⟩ := List.mem_iff_getElem.1 hx
  have := hn j hj
  rw [getD_get hj] at this
  rw [this] at hq; cases hq
theorem placeG_any {α : Type} {l : List α} {q : α → Bool} : decide (0 ≤ placeG l q) = l.any q := by
  unfold placeG
  split
  · rename_i h; rw [h]; simp
  · rename_i h; simp only [Bool.not_eq_true] at h; rw [h]; simp
open Classical in
noncomputable def sortedB (l : List Int) : Bool := decide (SortedI l)
theorem sorted_next {l : List Int} {v : Nat} (hv : 2 ≤ v) (hn : ∀ j, v ≤ j + 1 → j + 1 < l.length → l.getD j 0 ≤ l.getD (j + 1) 0) (h : l.getD (v - 2) 0 ≤ l.getD (v - 1) 0) : ∀ j, v - 1 ≤ j + 1 → j + 1 < l.length → l.getD j 0 ≤ l.getD (j + 1) 0 := fun j h1 h2 => by
  by_cases e : v ≤ j + 1
  · exact hn j e h2
  · obtain rfl : j = v - 2 := by omega
    rw [show v - 2 + 1 = v - 1 by omega]; exact h
open Classical in
theorem sorted_no {l : List Int} {v : Nat} (hv : 2 ≤ v) (hl : v ≤ l.length) (h : l.getD (v - 1) 0 < l.getD (v - 2) 0) : sortedB l = false := decide_eq_false fun hs => by
  have := hs (v - 2) (by omega)
  rw [show v - 2 + 1 = v - 1 by omega] at this
  omega
open Classical in
theorem sorted_yes {l : List Int} {v : Nat} (hv : v ≤ 1) (hn : ∀ j, v ≤ j + 1 → j + 1 < l.length → l.getD j 0 ≤ l.getD (j + 1) 0) : sortedB l = true := decide_eq_true fun i hi => hn i (by omega) hi
set_option maxRecDepth 100000 in
theorem fine_c (g : Gr) : PC Try.prog 23 [.agg 3 (grF g)] (.bool (decide (fineG g))) := by
  refine PC_introS T_ok Try.func23 rfl (by simp [Try.ntmps23]) fun G hG hR => ?_
  simp only [Try.ntmps23, Try.results23] at hG ⊢
  simp only [argEnv, Nat.zero_add, Nat.reduceAdd]
  refine awpS_seq ?_
  refine awpS_reg T_ok fun K hK => ?_
  simp [hG, List.getD_cons_zero, List.getD_cons_succ, -List.getD_eq_getElem?_getD]
  first | refine hK _ ?_ | refine ⟨Cond.mk (by first | omega | (simp [-List.getD_eq_getElem?_getD]; done) | (simp [-List.getD_eq_getElem?_getD]; omega) | (simp [-List.getD_eq_getElem?_getD]; repeat (first | intro _ | exact And.intro ‹_› ‹_› | apply And.intro | assumption | omega | exact decide_eq_true (by assumption)))), hK _ ?_⟩
  clear K hK
  refine awpS_seq ?_
  refine awpS_regL ?_
  refine awpL_reg T_ok 1 fun K hK => ?_
  simp [hG, List.getD_cons_zero, List.getD_cons_succ, -List.getD_eq_getElem?_getD]
  first | refine hK _ ?_ | refine ⟨Cond.mk (by first | omega | (simp [-List.getD_eq_getElem?_getD]; done) | (simp [-List.getD_eq_getElem?_getD]; omega) | (simp [-List.getD_eq_getElem?_getD]; repeat (first | intro _ | exact And.intro ‹_› ‹_› | apply And.intro | assumption | omega | exact decide_eq_true (by assumption)))), hK _ ?_⟩
  clear K hK
  refine awpL_call cal12 rfl rfl (fun _ => rfl) (fun hg => great_c g) (fun hg => ?_) (fun hg => ?_) fun K hK => ?_
  · simp [hG, List.getD_cons_zero, List.getD_cons_succ, -List.getD_eq_getElem?_getD]
  · simp [hG, List.getD_cons_zero, List.getD_cons_succ, -List.getD_eq_getElem?_getD]
  simp [hG, List.getD_cons_zero, List.getD_cons_succ, -List.getD_eq_getElem?_getD]
  refine hK _ ?_
  clear K hK
  refine awpL_reg T_ok 3 fun K hK => ?_
  simp [hG, List.getD_cons_zero, List.getD_cons_succ, -List.getD_eq_getElem?_getD]
  first | refine hK _ ?_ | refine ⟨Cond.mk (by first | omega | (simp [-List.getD_eq_getElem?_getD]; done) | (simp [-List.getD_eq_getElem?_getD]; omega) | (simp [-List.getD_eq_getElem?_getD]; repeat (first | intro _ | exact And.intro ‹_› ‹_› | apply And.intro | assumption | omega | exact decide_eq_true (by assumption)))), hK _ ?_⟩
  clear K hK
  refine awpL_call cal49 rfl rfl (fun _ => rfl) (fun hg => check_c g) (fun hg => ?_) (fun hg => ?_) fun K hK => ?_
  · first | (simp [hG, List.getD_cons_zero, List.getD_cons_succ, -List.getD_eq_getElem?_getD]; done) | (simp [-List.getD_eq_getElem?_getD] at hg; done) | (simp [-List.getD_eq_getElem?_getD] at hg; simp [hG, List.getD_cons_zero, List.getD_cons_succ, -List.getD_eq_getElem?_getD]; first | omega | exact hg | (simp_all [-List.getD_eq_getElem?_getD]; done) | (simp_all [-List.getD_eq_getElem?_getD]; first | exact ⟨rfl, rfl⟩ | exact rfl))
  · first | (simp [hG, List.getD_cons_zero, List.getD_cons_succ, -List.getD_eq_getElem?_getD]; done) | (simp [-List.getD_eq_getElem?_getD] at hg; done) | (simp [-List.getD_eq_getElem?_getD] at hg; simp [hG, List.getD_cons_zero, List.getD_cons_succ, -List.getD_eq_getElem?_getD]; first | omega | exact hg | (simp_all [-List.getD_eq_getElem?_getD]; done) | (simp_all [-List.getD_eq_getElem?_getD]; first | exact ⟨rfl, rfl⟩ | exact rfl))
  simp [hG, List.getD_cons_zero, List.getD_cons_succ, -List.getD_eq_getElem?_getD]
  refine hK _ ?_
  clear K hK
  refine awpL_reg T_ok 3 fun K hK => ?_
  simp [hG, List.getD_cons_zero, List.getD_cons_succ, -List.getD_eq_getElem?_getD]
  first | refine hK _ ?_ | refine ⟨Cond.mk (by first | omega | (simp [-List.getD_eq_getElem?_getD]; done) | (simp [-List.getD_eq_getElem?_getD]; omega) | (simp [-List.getD_eq_getElem?_getD]; repeat (first | intro _ | exact And.intro ‹_› ‹_› | apply And.intro | assumption | omega | exact decide_eq_true (by assumption)))), hK _ ?_⟩
  clear K hK
  refine awpL_nil ?_
  refine awpS_ret ?_
  refine RetOK_of ?_
  simp [hG, List.getD_cons_zero, List.getD_cons_succ, -List.getD_eq_getElem?_getD]
  by_cases h1 : greatG g <;> by_cases h2 : gcheck g = 0 <;> simp [fineG, h1, h2]

set_option maxRecDepth 100000 in
theorem closed_c (g : Gr) (s n : Nat) (hf : Fit g) (hed : g.edges.length ≤ 1024) (hs : s < g.n) (hn : n ≤ 1000) : PC Try.prog 25 [.agg 3 (grF g), .int .i64 s, .int .i64 n] (bools (clsdL g s (n + 1))) := by
  have hst := hf.st
  have hnn : (g.n : Int) = g.states := (by unfold Gr.n; omega)
  refine PC_introS T_ok Try.func25 rfl (by simp [Try.ntmps25]) fun G hG hR => ?_
  simp only [Try.ntmps25, Try.results25] at hG ⊢
  simp only [argEnv, Nat.zero_add, Nat.reduceAdd]
  refine awpS_seq ?_
  refine awpS_reg T_ok fun K hK => ?_
  simp [hG, List.getD_cons_zero, List.getD_cons_succ, -List.getD_eq_getElem?_getD, atW_len, nextAt_len]
  first | refine hK _ ?_ | refine ⟨Cond.mk (by first | omega | (simp [-List.getD_eq_getElem?_getD]; done) | (simp [-List.getD_eq_getElem?_getD]; omega) | (simp [-List.getD_eq_getElem?_getD]; repeat (first | intro _ | exact And.intro ‹_› ‹_› | apply And.intro | assumption | omega | exact decide_eq_true (by assumption)))), hK _ ?_⟩
  clear K hK
  refine awpS_seq ?_
  refine awpS_reg T_ok fun K hK => ?_
  simp [hG, List.getD_cons_zero, List.getD_cons_succ, -List.getD_eq_getElem?_getD, atW_len, nextAt_len]
  first | refine hK _ ?_ | refine ⟨Cond.mk (by first | omega | (simp [-List.getD_eq_getElem?_getD]; done) | (simp [-List.getD_eq_getElem?_getD]; omega) | (simp [-List.getD_eq_getElem?_getD]; repeat (first | intro _ | exact And.intro ‹_› ‹_› | apply And.intro | assumption | omega | exact decide_eq_true (by assumption)))), hK _ ?_⟩
  clear K hK
  refine awpS_seq ?_
  refine awpS_reg T_ok fun K hK => ?_
  simp [hG, List.getD_cons_zero, List.getD_cons_succ, -List.getD_eq_getElem?_getD, atW_len, nextAt_len]
  first | refine hK _ ?_ | refine ⟨Cond.mk (by first | omega | (simp [-List.getD_eq_getElem?_getD]; done) | (simp [-List.getD_eq_getElem?_getD]; omega) | (simp [-List.getD_eq_getElem?_getD]; repeat (first | intro _ | exact And.intro ‹_› ‹_› | apply And.intro | assumption | omega | exact decide_eq_true (by assumption)))), hK _ ?_⟩
  clear K hK
  refine awpS_seq ?_
  refine awpS_reg T_ok fun K hK => ?_
  simp [hG, List.getD_cons_zero, List.getD_cons_succ, -List.getD_eq_getElem?_getD, atW_len, nextAt_len]
  first | refine hK _ ?_ | refine ⟨Cond.mk (by first | omega | (simp [-List.getD_eq_getElem?_getD]; done) | (simp [-List.getD_eq_getElem?_getD]; omega) | (simp [-List.getD_eq_getElem?_getD]; repeat (first | intro _ | exact And.intro ‹_› ‹_› | apply And.intro | assumption | omega | exact decide_eq_true (by assumption)))), hK _ ?_⟩
  clear K hK
  refine awpS_seq ?_
  refine awpS_seq ?_
  refine awpS_reg T_ok fun K hK => ?_
  simp [hG, List.getD_cons_zero, List.getD_cons_succ, -List.getD_eq_getElem?_getD, atW_len, nextAt_len]
  first | refine hK _ ?_ | refine ⟨Cond.mk (by first | omega | (simp [-List.getD_eq_getElem?_getD]; done) | (simp [-List.getD_eq_getElem?_getD]; omega) | (simp [-List.getD_eq_getElem?_getD]; repeat (first | intro _ | exact And.intro ‹_› ‹_› | apply And.intro | assumption | omega | exact decide_eq_true (by assumption)))), hK _ ?_⟩
  clear K hK
  refine awpS_block ?_
  refine awpS_loop (α := Nat) (fun k => ⟨[(1, .int .i64 s), (3, .ptr (0, 0) 0 0), (7, .sl (1, 0) 0 g.n), (8, .sl (2, 0) 0 (k + 1)), (19, .int .i64 n), (20, .int .i64 k)], [(0, .one (.arr 1 3 (fun _ => grF g))), (1, .one (.arr g.n 1 (fun j _ => .bool ((atW g s k).getD j false)))), (2, .one (.arr (k + 1) 1 (fun j _ => .bool ((clsdL g s (k + 1)).getD j false))))], 3⟩) (fun k => k ≤ n) (fun k => n - k) (0) (Nat.zero_le _) ?_ ?_
  ·
    refine wk_of (id) (fun _ => false) (fun _ => false) ?_ ?_ rfl (Nat.zero_le _) (fun k hk => absurd hk (Nat.not_lt_zero _))
    · simp [hG, List.getD_cons_zero, List.getD_cons_succ, -List.getD_eq_getElem?_getD]; try rfl
    · simp [hG, List.getD_cons_zero, List.getD_cons_succ, -List.getD_eq_getElem?_getD]; exact ⟨⟨Nat.le_of_eq rfl, fun j _ => atW_zero hs⟩, clsd_one hs (by omega)⟩
  ·
    rintro k hk
    refine awpS_seq ?_
    refine awpS_reg T_ok fun K hK => ?_
    simp [hG, List.getD_cons_zero, List.getD_cons_succ, -List.getD_eq_getElem?_getD, atW_len, nextAt_len]
    first | refine hK _ ?_ | refine ⟨Cond.mk (by first | omega | (simp [-List.getD_eq_getElem?_getD]; done) | (simp [-List.getD_eq_getElem?_getD]; omega) | (simp [-List.getD_eq_getElem?_getD]; repeat (first | intro _ | exact And.intro ‹_› ‹_› | apply And.intro | assumption | omega | exact decide_eq_true (by assumption)))), hK _ ?_⟩
    clear K hK
    refine awpS_seq ?_
    refine awpS_cond rfl (fun hb21 => ?_) (fun hb21 => ?_)
    ·
      try simp [-List.getD_eq_getElem?_getD] at hb21
      refine awpS_skip ?_
      refine awpS_seq ?_
      refine awpS_block ?_
      refine awpS_seq ?_
      refine awpS_reg T_ok fun K hK => ?_
      simp [hG, List.getD_cons_zero, List.getD_cons_succ, -List.getD_eq_getElem?_getD, atW_len, nextAt_len]
      first | refine hK _ ?_ | refine ⟨Cond.mk (by first | omega | (simp [-List.getD_eq_getElem?_getD]; done) | (simp [-List.getD_eq_getElem?_getD]; omega) | (simp [-List.getD_eq_getElem?_getD]; repeat (first | intro _ | exact And.intro ‹_› ‹_› | apply And.intro | assumption | omega | exact decide_eq_true (by assumption)))), hK _ ?_⟩
      clear K hK
      refine awpS_seq ?_
      refine awpS_seq ?_
      refine awpS_reg T_ok fun K hK => ?_
      simp [hG, List.getD_cons_zero, List.getD_cons_succ, -List.getD_eq_getElem?_getD, atW_len, nextAt_len]
      first | refine hK _ ?_ | refine ⟨Cond.mk (by first | omega | (simp [-List.getD_eq_getElem?_getD]; done) | (simp [-List.getD_eq_getElem?_getD]; omega) | (simp [-List.getD_eq_getElem?_getD]; repeat (first | intro _ | exact And.intro ‹_› ‹_› | apply And.intro | assumption | omega | exact decide_eq_true (by assumption)))), hK _ ?_⟩
      clear K hK
      refine awpS_block ?_
      refine awpS_loop (α := Nat) (fun i => ⟨[(1, .int .i64 s), (3, .ptr (0, 0) 0 0), (7, .sl (1, 0) 0 g.n), (8, .sl (2, 0) 0 (k + 1)), (9, .sl (3, 0) 0 g.n), (19, .int .i64 n), (20, .int .i64 k), (26, edgesC g.edges), (27, .int .i64 g.edges.length), (28, .int .i64 i)], [(0, .one (.arr 1 3 (fun _ => grF g))), (1, .one (.arr g.n 1 (fun j _ => .bool ((atW g s k).getD j false)))), (2, .one (.arr (k + 1) 1 (fun j _ => .bool ((clsdL g s (k + 1)).getD j false)))), (3, .one (.arr g.n 1 (fun j _ => .bool ((nextAt g (atW g s k) i).getD j false))))], 4⟩) (fun i => i ≤ g.edges.length) (fun i => g.edges.length - i) (0) (Nat.zero_le _) ?_ ?_
      ·
        refine wk_of (id) (fun _ => false) (fun _ => false) ?_ ?_ rfl (Nat.zero_le _) (fun k hk => absurd hk (Nat.not_lt_zero _))
        · simp [hG, List.getD_cons_zero, List.getD_cons_succ, -List.getD_eq_getElem?_getD]; try rfl
        · simp [hG, List.getD_cons_zero, List.getD_cons_succ, -List.getD_eq_getElem?_getD]; exact ⟨Nat.le_of_eq rfl, fun j _ => repl_at⟩
      ·
        rintro i hi
        refine awpS_seq ?_
        refine awpS_reg T_ok fun K hK => ?_
        simp [hG, List.getD_cons_zero, List.getD_cons_succ, -List.getD_eq_getElem?_getD, atW_len, nextAt_len]
        first | refine hK _ ?_ | refine ⟨Cond.mk (by first | omega | (simp [-List.getD_eq_getElem?_getD]; done) | (simp [-List.getD_eq_getElem?_getD]; omega) | (simp [-List.getD_eq_getElem?_getD]; repeat (first | intro _ | exact And.intro ‹_› ‹_› | apply And.intro | assumption | omega | exact decide_eq_true (by assumption)))), hK _ ?_⟩
        clear K hK
        refine awpS_seq ?_
        refine awpS_cond rfl (fun hb29 => ?_) (fun hb29 => ?_)
        ·
          try simp [-List.getD_eq_getElem?_getD] at hb29
          have hfr := hf.frm _ (getD_mem (d := de) (by simpa using hb29))
          have hto := hf.to _ (getD_mem (d := de) (by simpa using hb29))
          refine awpS_skip ?_
          refine awpS_seq ?_
          refine awpS_block ?_
          refine awpS_seq ?_
          refine awpS_reg T_ok fun K hK => ?_
          simp [hG, List.getD_cons_zero, List.getD_cons_succ, -List.getD_eq_getElem?_getD, atW_len, nextAt_len]
          first | refine hK _ ?_ | refine ⟨Cond.mk (by first | omega | (simp [-List.getD_eq_getElem?_getD]; done) | (simp [-List.getD_eq_getElem?_getD]; omega) | (simp [-List.getD_eq_getElem?_getD]; repeat (first | intro _ | exact And.intro ‹_› ‹_› | apply And.intro | assumption | omega | exact decide_eq_true (by assumption)))), hK _ ?_⟩
          clear K hK
          refine awpS_seq ?_
          refine awpS_reg T_ok fun K hK => ?_
          simp [hG, List.getD_cons_zero, List.getD_cons_succ, -List.getD_eq_getElem?_getD, atW_len, nextAt_len]
          first | refine hK _ ?_ | refine ⟨Cond.mk (by first | omega | (simp [-List.getD_eq_getElem?_getD]; done) | (simp [-List.getD_eq_getElem?_getD]; omega) | (simp [-List.getD_eq_getElem?_getD]; repeat (first | intro _ | exact And.intro ‹_› ‹_› | apply And.intro | assumption | omega | exact decide_eq_true (by assumption)))), hK _ ?_⟩
          clear K hK
          refine awpS_cond rfl (fun hb36 => ?_) (fun hb36 => ?_)
          ·
            try simp [-List.getD_eq_getElem?_getD] at hb36
            refine awpS_reg T_ok fun K hK => ?_
            simp [hG, List.getD_cons_zero, List.getD_cons_succ, -List.getD_eq_getElem?_getD, atW_len, nextAt_len]
            first | refine hK _ ?_ | refine ⟨Cond.mk (by first | omega | (simp [-List.getD_eq_getElem?_getD]; done) | (simp [-List.getD_eq_getElem?_getD]; omega) | (simp [-List.getD_eq_getElem?_getD]; repeat (first | intro _ | exact And.intro ‹_› ‹_› | apply And.intro | assumption | omega | exact decide_eq_true (by assumption)))), hK _ ?_⟩
            clear K hK
            refine awpS_nil ?_
            refine blockQ_norm (thenQ_norm ?_)
            refine awpS_reg T_ok fun K hK => ?_
            simp [hG, List.getD_cons_zero, List.getD_cons_succ, -List.getD_eq_getElem?_getD, atW_len, nextAt_len]
            first | refine hK _ ?_ | refine ⟨Cond.mk (by first | omega | (simp [-List.getD_eq_getElem?_getD]; done) | (simp [-List.getD_eq_getElem?_getD]; omega) | (simp [-List.getD_eq_getElem?_getD]; repeat (first | intro _ | exact And.intro ‹_› ‹_› | apply And.intro | assumption | omega | exact decide_eq_true (by assumption)))), hK _ ?_⟩
            clear K hK
            refine awpS_nil ?_
            refine round_end (i + 1) (by omega) (by omega) ?_
            refine wk_of (id) (fun _ => false) (fun _ => false) ?_ ?_ rfl (Nat.zero_le _) (fun k hk => absurd hk (Nat.not_lt_zero _))
            · simp [hG, List.getD_cons_zero, List.getD_cons_succ, -List.getD_eq_getElem?_getD, atW_len, nextAt_len]
            · simp [hG, List.getD_cons_zero, List.getD_cons_succ, -List.getD_eq_getElem?_getD]; exact fun j hj => by rw [nextAt_succ hb29]; unfold nrelax; rw [if_pos hb36]; exact set_at (by rw [nextAt_len]; omega)
          ·
            try simp [-List.getD_eq_getElem?_getD] at hb36
            refine awpS_skip ?_
            refine awpS_nil ?_
            refine blockQ_norm (thenQ_norm ?_)
            refine awpS_reg T_ok fun K hK => ?_
            simp [hG, List.getD_cons_zero, List.getD_cons_succ, -List.getD_eq_getElem?_getD, atW_len, nextAt_len]
            first | refine hK _ ?_ | refine ⟨Cond.mk (by first | omega | (simp [-List.getD_eq_getElem?_getD]; done) | (simp [-List.getD_eq_getElem?_getD]; omega) | (simp [-List.getD_eq_getElem?_getD]; repeat (first | intro _ | exact And.intro ‹_› ‹_› | apply And.intro | assumption | omega | exact decide_eq_true (by assumption)))), hK _ ?_⟩
            clear K hK
            refine awpS_nil ?_
            refine round_end (i + 1) (by omega) (by omega) ?_
            refine wk_of (id) (fun _ => false) (fun _ => false) ?_ ?_ rfl (Nat.zero_le _) (fun k hk => absurd hk (Nat.not_lt_zero _))
            · simp [hG, List.getD_cons_zero, List.getD_cons_succ, -List.getD_eq_getElem?_getD, atW_len, nextAt_len]
            · simp [hG, List.getD_cons_zero, List.getD_cons_succ, -List.getD_eq_getElem?_getD]; exact fun j hj => by rw [nextAt_succ hb29]; unfold nrelax; rw [if_neg (by rw [hb36]; exact Bool.false_ne_true)]
        ·
          try simp [-List.getD_eq_getElem?_getD] at hb29
          obtain rfl : i = g.edges.length := (by omega)
          refine awpS_exit ?_
          refine thenQ_exit (thenQ_exit ?_)
          refine blockQ_exit (thenQ_norm ?_)
          refine awpS_seq ?_
          refine awpS_reg T_ok fun K hK => ?_
          simp [hG, List.getD_cons_zero, List.getD_cons_succ, -List.getD_eq_getElem?_getD, atW_len, nextAt_len]
          first | refine hK _ ?_ | refine ⟨Cond.mk (by first | omega | (simp [-List.getD_eq_getElem?_getD]; done) | (simp [-List.getD_eq_getElem?_getD]; omega) | (simp [-List.getD_eq_getElem?_getD]; repeat (first | intro _ | exact And.intro ‹_› ‹_› | apply And.intro | assumption | omega | exact decide_eq_true (by assumption)))), hK _ ?_⟩
          clear K hK
          refine awpS_reg T_ok fun K hK => ?_
          simp [hG, List.getD_cons_zero, List.getD_cons_succ, -List.getD_eq_getElem?_getD, atW_len, nextAt_len]
          first | refine hK _ ?_ | refine ⟨Cond.mk (by first | omega | (simp [-List.getD_eq_getElem?_getD]; done) | (simp [-List.getD_eq_getElem?_getD]; omega) | (simp [-List.getD_eq_getElem?_getD]; repeat (first | intro _ | exact And.intro ‹_› ‹_› | apply And.intro | assumption | omega | exact decide_eq_true (by assumption)))), hK _ ?_⟩
          clear K hK
          refine awpS_nil ?_
          refine blockQ_norm (thenQ_norm ?_)
          refine awpS_reg T_ok fun K hK => ?_
          simp [hG, List.getD_cons_zero, List.getD_cons_succ, -List.getD_eq_getElem?_getD, atW_len, nextAt_len]
          first | refine hK _ ?_ | refine ⟨Cond.mk (by first | omega | (simp [-List.getD_eq_getElem?_getD]; done) | (simp [-List.getD_eq_getElem?_getD]; omega) | (simp [-List.getD_eq_getElem?_getD]; repeat (first | intro _ | exact And.intro ‹_› ‹_› | apply And.intro | assumption | omega | exact decide_eq_true (by assumption)))), hK _ ?_⟩
          clear K hK
          refine awpS_nil ?_
          refine round_end (k + 1) (by omega) (by omega) ?_
          refine wk_of (fun k => if k = 1 then 3 else if k = 2 then 5 else k) (fun _ => false) (fun _ => false) ?_ ?_ rfl (Nat.zero_le _) (fun k hk => absurd hk (Nat.not_lt_zero _))
          · simp [hG, List.getD_cons_zero, List.getD_cons_succ, -List.getD_eq_getElem?_getD, atW_len, nextAt_len]
          · simp [hG, List.getD_cons_zero, List.getD_cons_succ, -List.getD_eq_getElem?_getD]; exact ⟨fun _ _ => rfl, fun i hi => app_clsd rfl hi⟩
    ·
      try simp [-List.getD_eq_getElem?_getD] at hb21
      obtain rfl : k = n := (by omega)
      refine awpS_exit ?_
      refine thenQ_exit (thenQ_exit ?_)
      refine blockQ_exit (thenQ_norm ?_)
      refine awpS_seq ?_
      refine awpS_reg T_ok fun K hK => ?_
      simp [hG, List.getD_cons_zero, List.getD_cons_succ, -List.getD_eq_getElem?_getD, atW_len, nextAt_len]
      first | refine hK _ ?_ | refine ⟨Cond.mk (by first | omega | (simp [-List.getD_eq_getElem?_getD]; done) | (simp [-List.getD_eq_getElem?_getD]; omega) | (simp [-List.getD_eq_getElem?_getD]; repeat (first | intro _ | exact And.intro ‹_› ‹_› | apply And.intro | assumption | omega | exact decide_eq_true (by assumption)))), hK _ ?_⟩
      clear K hK
      refine awpS_ret ?_
      refine RetOK_of ?_
      simp [hG, List.getD_cons_zero, List.getD_cons_succ, -List.getD_eq_getElem?_getD, atW_len, nextAt_len]

set_option maxRecDepth 100000 in
theorem indexG_c (l : List Int) (q : Int → Bool) (hfn hn : Nat) (hc : Nat → AVal) (hl : l.length ≤ 1000000) (hcal : Callable Try.prog hfn) (hclo : ∀ j, Clo (hc j)) (hp : ∀ x ∈ l, PC Try.prog hfn (.int .i64 x :: (List.range' 0 hn).map hc) (.bool (q x))) : PC Try.prog 62 [ints l, .fn hfn hn hc] (.int .i64 (placeG l q)) := by
  have hV : ∀ {h : Heap} {σ : Lift.Id → Lift.Id} {fz : Nat → Bool} {vz : Lift.Id → Bool} {nx j : Nat}, VLe h σ fz vz nx (hc j) (hc j) := fun {h σ fz vz nx j} => Clo.le _ (hclo j)
  refine PC_introS T_ok Try.func62 rfl (by simp [Try.ntmps62]) fun G hG hR => ?_
  simp only [Try.ntmps62, Try.results62] at hG ⊢
  simp only [argEnv, Nat.zero_add, Nat.reduceAdd]
  refine awpS_seq ?_
  refine awpS_reg T_ok fun K hK => ?_
  simp [hG, List.getD_cons_zero, List.getD_cons_succ, -List.getD_eq_getElem?_getD, hV]
  first | refine hK _ ?_ | refine ⟨Cond.mk (by first | omega | (simp [-List.getD_eq_getElem?_getD]; done) | (simp [-List.getD_eq_getElem?_getD]; omega) | (simp [-List.getD_eq_getElem?_getD]; repeat (first | intro _ | exact And.intro ‹_› ‹_› | apply And.intro | assumption | omega | exact decide_eq_true (by assumption)))), hK _ ?_⟩
  clear K hK
  refine awpS_seq ?_
  refine awpS_seq ?_
  refine awpS_reg T_ok fun K hK => ?_
  simp [hG, List.getD_cons_zero, List.getD_cons_succ, -List.getD_eq_getElem?_getD, hV]
  first | refine hK _ ?_ | refine ⟨Cond.mk (by first | omega | (simp [-List.getD_eq_getElem?_getD]; done) | (simp [-List.getD_eq_getElem?_getD]; omega) | (simp [-List.getD_eq_getElem?_getD]; repeat (first | intro _ | exact And.intro ‹_› ‹_› | apply And.intro | assumption | omega | exact decide_eq_true (by assumption)))), hK _ ?_⟩
  clear K hK
  refine awpS_block ?_
  refine awpS_loop (α := Nat) (fun i => ⟨[(0, ints l), (1, .fn hfn hn hc), (7, .int .i64 l.length), (8, .int .i64 i)], [], 0⟩) (fun i => i ≤ l.length ∧ ∀ j, j < i → q (l.getD j 0) = false) (fun i => l.length - i) (0) (⟨Nat.zero_le _, fun j hj => absurd hj (Nat.not_lt_zero _)⟩) ?_ ?_
  ·
    refine wk_of (id) (fun _ => false) (fun _ => false) ?_ ?_ rfl (Nat.zero_le _) (fun k hk => absurd hk (Nat.not_lt_zero _))
    · simp [hG, List.getD_cons_zero, List.getD_cons_succ, -List.getD_eq_getElem?_getD, hV]
    · simp [hG, List.getD_cons_zero, List.getD_cons_succ, -List.getD_eq_getElem?_getD, hV]
  ·
    rintro i ⟨hi, hn0⟩
    refine awpS_seq ?_
    refine awpS_reg T_ok fun K hK => ?_
    simp [hG, List.getD_cons_zero, List.getD_cons_succ, -List.getD_eq_getElem?_getD, hV]
    first | refine hK _ ?_ | refine ⟨Cond.mk (by first | omega | (simp [-List.getD_eq_getElem?_getD]; done) | (simp [-List.getD_eq_getElem?_getD]; omega) | (simp [-List.getD_eq_getElem?_getD]; repeat (first | intro _ | exact And.intro ‹_› ‹_› | apply And.intro | assumption | omega | exact decide_eq_true (by assumption)))), hK _ ?_⟩
    clear K hK
    refine awpS_seq ?_
    refine awpS_cond rfl (fun hb9 => ?_) (fun hb9 => ?_)
    ·
      try simp [-List.getD_eq_getElem?_getD] at hb9
      refine awpS_skip ?_
      refine awpS_seq ?_
      refine awpS_block ?_
      refine awpS_seq ?_
      refine awpS_reg T_ok fun K hK => ?_
      simp [hG, List.getD_cons_zero, List.getD_cons_succ, -List.getD_eq_getElem?_getD, hV]
      first | refine hK _ ?_ | refine ⟨Cond.mk (by first | omega | (simp [-List.getD_eq_getElem?_getD]; done) | (simp [-List.getD_eq_getElem?_getD]; omega) | (simp [-List.getD_eq_getElem?_getD]; repeat (first | intro _ | exact And.intro ‹_› ‹_› | apply And.intro | assumption | omega | exact decide_eq_true (by assumption)))), hK _ ?_⟩
      clear K hK
      refine awpS_seq ?_
      refine awpS_regL ?_
      refine awpL_reg T_ok 5 fun K hK => ?_
      simp [hG, List.getD_cons_zero, List.getD_cons_succ, -List.getD_eq_getElem?_getD, hV]
      first | refine hK _ ?_ | refine ⟨Cond.mk (by first | omega | (simp [-List.getD_eq_getElem?_getD]; done) | (simp [-List.getD_eq_getElem?_getD]; omega) | (simp [-List.getD_eq_getElem?_getD]; repeat (first | intro _ | exact And.intro ‹_› ‹_› | apply And.intro | assumption | omega | exact decide_eq_true (by assumption)))), hK _ ?_⟩
      clear K hK
      refine awpL_call hcal rfl rfl (fun _ => rfl) (fun hg => hp _ (getD_mem (d := 0) (by simpa using hb9))) (fun hg => ?_) (fun hg => ?_) fun K hK => ?_
      · simp [hG, List.getD_cons_zero, List.getD_cons_succ, -List.getD_eq_getElem?_getD, hV]
      · simp [hG, List.getD_cons_zero, List.getD_cons_succ, -List.getD_eq_getElem?_getD]; first | exact argsLe_caps fun j _ => hclo j | exact ⟨Clo.le _ Clo_ints, argsLe_caps fun j _ => hclo j⟩
      simp [hG, List.getD_cons_zero, List.getD_cons_succ, -List.getD_eq_getElem?_getD, hV]
      refine hK _ ?_
      clear K hK
      refine awpL_nil ?_
      refine awpS_cond rfl (fun hb16 => ?_) (fun hb16 => ?_)
      ·
        try simp [-List.getD_eq_getElem?_getD] at hb16
        refine awpS_seq ?_
        refine awpS_reg T_ok fun K hK => ?_
        simp [hG, List.getD_cons_zero, List.getD_cons_succ, -List.getD_eq_getElem?_getD, hV]
        first | refine hK _ ?_ | refine ⟨Cond.mk (by first | omega | (simp [-List.getD_eq_getElem?_getD]; done) | (simp [-List.getD_eq_getElem?_getD]; omega) | (simp [-List.getD_eq_getElem?_getD]; repeat (first | intro _ | exact And.intro ‹_› ‹_› | apply And.intro | assumption | omega | exact decide_eq_true (by assumption)))), hK _ ?_⟩
        clear K hK
        refine awpS_ret ?_
        refine blockQ_ret (thenQ_ret ?_)
        refine thenQ_ret (thenQ_ret ?_)
        refine blockQ_ret (thenQ_ret ?_)
        refine RetOK_of ?_
        simp [hG, List.getD_cons_zero, List.getD_cons_succ, -List.getD_eq_getElem?_getD, hV]
        exact (placeG_at (by simpa using hb9) hb16 hn0).symm
      ·
        try simp [-List.getD_eq_getElem?_getD] at hb16
        refine awpS_skip ?_
        refine awpS_nil ?_
        refine blockQ_norm (thenQ_norm ?_)
        refine awpS_reg T_ok fun K hK => ?_
        simp [hG, List.getD_cons_zero, List.getD_cons_succ, -List.getD_eq_getElem?_getD, hV]
        first | refine hK _ ?_ | refine ⟨Cond.mk (by first | omega | (simp [-List.getD_eq_getElem?_getD]; done) | (simp [-List.getD_eq_getElem?_getD]; omega) | (simp [-List.getD_eq_getElem?_getD]; repeat (first | intro _ | exact And.intro ‹_› ‹_› | apply And.intro | assumption | omega | exact decide_eq_true (by assumption)))), hK _ ?_⟩
        clear K hK
        refine awpS_nil ?_
        refine round_end (i + 1) (⟨by omega, fun j hj => (Nat.lt_succ_iff_lt_or_eq.1 hj).elim (hn0 j) fun e => by rw [e]; exact hb16⟩) (by omega) ?_
        refine wk_of (id) (fun _ => false) (fun _ => false) ?_ ?_ rfl (Nat.zero_le _) (fun k hk => absurd hk (Nat.not_lt_zero _))
        · simp [hG, List.getD_cons_zero, List.getD_cons_succ, -List.getD_eq_getElem?_getD, hV]
        · simp [hG, List.getD_cons_zero, List.getD_cons_succ, -List.getD_eq_getElem?_getD, hV]
    ·
      try simp [-List.getD_eq_getElem?_getD] at hb9
      refine awpS_exit ?_
      refine thenQ_exit (thenQ_exit ?_)
      refine blockQ_exit (thenQ_norm ?_)
      refine awpS_seq ?_
      refine awpS_reg T_ok fun K hK => ?_
      simp [hG, List.getD_cons_zero, List.getD_cons_succ, -List.getD_eq_getElem?_getD, hV]
      first | refine hK _ ?_ | refine ⟨Cond.mk (by first | omega | (simp [-List.getD_eq_getElem?_getD]; done) | (simp [-List.getD_eq_getElem?_getD]; omega) | (simp [-List.getD_eq_getElem?_getD]; repeat (first | intro _ | exact And.intro ‹_› ‹_› | apply And.intro | assumption | omega | exact decide_eq_true (by assumption)))), hK _ ?_⟩
      clear K hK
      refine awpS_ret ?_
      refine RetOK_of ?_
      simp [hG, List.getD_cons_zero, List.getD_cons_succ, -List.getD_eq_getElem?_getD, hV]
      exact (placeG_none fun j hj => hn0 j (by omega)).symm

set_option maxRecDepth 100000 in
theorem indexR_c (l : List (List Int)) (q : (List Int) → Bool) (hfn hn : Nat) (hc : Nat → AVal) (hl : l.length ≤ 1000000) (hcal : Callable Try.prog hfn) (hclo : ∀ j, Clo (hc j)) (hp : ∀ x ∈ l, PC Try.prog hfn (ints x :: (List.range' 0 hn).map hc) (.bool (q x))) : PC Try.prog 63 [rowsI l, .fn hfn hn hc] (.int .i64 (placeG l q)) := by
  have hV : ∀ {h : Heap} {σ : Lift.Id → Lift.Id} {fz : Nat → Bool} {vz : Lift.Id → Bool} {nx j : Nat}, VLe h σ fz vz nx (hc j) (hc j) := fun {h σ fz vz nx j} => Clo.le _ (hclo j)
  refine PC_introS T_ok Try.func63 rfl (by simp [Try.ntmps63]) fun G hG hR => ?_
  simp only [Try.ntmps63, Try.results63] at hG ⊢
  simp only [argEnv, Nat.zero_add, Nat.reduceAdd]
  refine awpS_seq ?_
  refine awpS_reg T_ok fun K hK => ?_
  simp [hG, List.getD_cons_zero, List.getD_cons_succ, -List.getD_eq_getElem?_getD, hV]
  first | refine hK _ ?_ | refine ⟨Cond.mk (by first | omega | (simp [-List.getD_eq_getElem?_getD]; done) | (simp [-List.getD_eq_getElem?_getD]; omega) | (simp [-List.getD_eq_getElem?_getD]; repeat (first | intro _ | exact And.intro ‹_› ‹_› | apply And.intro | assumption | omega | exact decide_eq_true (by assumption)))), hK _ ?_⟩
  clear K hK
  refine awpS_seq ?_
  refine awpS_seq ?_
  refine awpS_reg T_ok fun K hK => ?_
  simp [hG, List.getD_cons_zero, List.getD_cons_succ, -List.getD_eq_getElem?_getD, hV]
  first | refine hK _ ?_ | refine ⟨Cond.mk (by first | omega | (simp [-List.getD_eq_getElem?_getD]; done) | (simp [-List.getD_eq_getElem?_getD]; omega) | (simp [-List.getD_eq_getElem?_getD]; repeat (first | intro _ | exact And.intro ‹_› ‹_› | apply And.intro | assumption | omega | exact decide_eq_true (by assumption)))), hK _ ?_⟩
  clear K hK
  refine awpS_block ?_
  refine awpS_loop (α := Nat) (fun i => ⟨[(0, rowsI l), (1, .fn hfn hn hc), (7, .int .i64 l.length), (8, .int .i64 i)], [], 0⟩) (fun i => i ≤ l.length ∧ ∀ j, j < i → q (l.getD j []) = false) (fun i => l.length - i) (0) (⟨Nat.zero_le _, fun j hj => absurd hj (Nat.not_lt_zero _)⟩) ?_ ?_
  ·
    refine wk_of (id) (fun _ => false) (fun _ => false) ?_ ?_ rfl (Nat.zero_le _) (fun k hk => absurd hk (Nat.not_lt_zero _))
    · simp [hG, List.getD_cons_zero, List.getD_cons_succ, -List.getD_eq_getElem?_getD, hV]
    · simp [hG, List.getD_cons_zero, List.getD_cons_succ, -List.getD_eq_getElem?_getD, hV]
  ·
    rintro i ⟨hi, hn0⟩
    refine awpS_seq ?_
    refine awpS_reg T_ok fun K hK => ?_
    simp [hG, List.getD_cons_zero, List.getD_cons_succ, -List.getD_eq_getElem?_getD, hV]
    first | refine hK _ ?_ | refine ⟨Cond.mk (by first | omega | (simp [-List.getD_eq_getElem?_getD]; done) | (simp [-List.getD_eq_getElem?_getD]; omega) | (simp [-List.getD_eq_getElem?_getD]; repeat (first | intro _ | exact And.intro ‹_› ‹_› | apply And.intro | assumption | omega | exact decide_eq_true (by assumption)))), hK _ ?_⟩
    clear K hK
    refine awpS_seq ?_
    refine awpS_cond rfl (fun hb9 => ?_) (fun hb9 => ?_)
    ·
      try simp [-List.getD_eq_getElem?_getD] at hb9
      refine awpS_skip ?_
      refine awpS_seq ?_
      refine awpS_block ?_
      refine awpS_seq ?_
      refine awpS_reg T_ok fun K hK => ?_
      simp [hG, List.getD_cons_zero, List.getD_cons_succ, -List.getD_eq_getElem?_getD, hV]
      first | refine hK _ ?_ | refine ⟨Cond.mk (by first | omega | (simp [-List.getD_eq_getElem?_getD]; done) | (simp [-List.getD_eq_getElem?_getD]; omega) | (simp [-List.getD_eq_getElem?_getD]; repeat (first | intro _ | exact And.intro ‹_› ‹_› | apply And.intro | assumption | omega | exact decide_eq_true (by assumption)))), hK _ ?_⟩
      clear K hK
      refine awpS_seq ?_
      refine awpS_regL ?_
      refine awpL_reg T_ok 5 fun K hK => ?_
      simp [hG, List.getD_cons_zero, List.getD_cons_succ, -List.getD_eq_getElem?_getD, hV]
      first | refine hK _ ?_ | refine ⟨Cond.mk (by first | omega | (simp [-List.getD_eq_getElem?_getD]; done) | (simp [-List.getD_eq_getElem?_getD]; omega) | (simp [-List.getD_eq_getElem?_getD]; repeat (first | intro _ | exact And.intro ‹_› ‹_› | apply And.intro | assumption | omega | exact decide_eq_true (by assumption)))), hK _ ?_⟩
      clear K hK
      refine awpL_call hcal rfl rfl (fun _ => rfl) (fun hg => hp _ (getD_mem (d := []) (by simpa using hb9))) (fun hg => ?_) (fun hg => ?_) fun K hK => ?_
      · simp [hG, List.getD_cons_zero, List.getD_cons_succ, -List.getD_eq_getElem?_getD, hV]
      · simp [hG, List.getD_cons_zero, List.getD_cons_succ, -List.getD_eq_getElem?_getD]; first | exact argsLe_caps fun j _ => hclo j | exact ⟨Clo.le _ Clo_ints, argsLe_caps fun j _ => hclo j⟩
      simp [hG, List.getD_cons_zero, List.getD_cons_succ, -List.getD_eq_getElem?_getD, hV]
      refine hK _ ?_
      clear K hK
      refine awpL_nil ?_
      refine awpS_cond rfl (fun hb16 => ?_) (fun hb16 => ?_)
      ·
        try simp [-List.getD_eq_getElem?_getD] at hb16
        refine awpS_seq ?_
        refine awpS_reg T_ok fun K hK => ?_
        simp [hG, List.getD_cons_zero, List.getD_cons_succ, -List.getD_eq_getElem?_getD, hV]
        first | refine hK _ ?_ | refine ⟨Cond.mk (by first | omega | (simp [-List.getD_eq_getElem?_getD]; done) | (simp [-List.getD_eq_getElem?_getD]; omega) | (simp [-List.getD_eq_getElem?_getD]; repeat (first | intro _ | exact And.intro ‹_› ‹_› | apply And.intro | assumption | omega | exact decide_eq_true (by assumption)))), hK _ ?_⟩
        clear K hK
        refine awpS_ret ?_
        refine blockQ_ret (thenQ_ret ?_)
        refine thenQ_ret (thenQ_ret ?_)
        refine blockQ_ret (thenQ_ret ?_)
        refine RetOK_of ?_
        simp [hG, List.getD_cons_zero, List.getD_cons_succ, -List.getD_eq_getElem?_getD, hV]
        exact (placeG_at (by simpa using hb9) hb16 hn0).symm
      ·
        try simp [-List.getD_eq_getElem?_getD] at hb16
        refine awpS_skip ?_
        refine awpS_nil ?_
        refine blockQ_norm (thenQ_norm ?_)
        refine awpS_reg T_ok fun K hK => ?_
        simp [hG, List.getD_cons_zero, List.getD_cons_succ, -List.getD_eq_getElem?_getD, hV]
        first | refine hK _ ?_ | refine ⟨Cond.mk (by first | omega | (simp [-List.getD_eq_getElem?_getD]; done) | (simp [-List.getD_eq_getElem?_getD]; omega) | (simp [-List.getD_eq_getElem?_getD]; repeat (first | intro _ | exact And.intro ‹_› ‹_› | apply And.intro | assumption | omega | exact decide_eq_true (by assumption)))), hK _ ?_⟩
        clear K hK
        refine awpS_nil ?_
        refine round_end (i + 1) (⟨by omega, fun j hj => (Nat.lt_succ_iff_lt_or_eq.1 hj).elim (hn0 j) fun e => by rw [e]; exact hb16⟩) (by omega) ?_
        refine wk_of (id) (fun _ => false) (fun _ => false) ?_ ?_ rfl (Nat.zero_le _) (fun k hk => absurd hk (Nat.not_lt_zero _))
        · simp [hG, List.getD_cons_zero, List.getD_cons_succ, -List.getD_eq_getElem?_getD, hV]
        · simp [hG, List.getD_cons_zero, List.getD_cons_succ, -List.getD_eq_getElem?_getD, hV]
    ·
      try simp [-List.getD_eq_getElem?_getD] at hb9
      refine awpS_exit ?_
      refine thenQ_exit (thenQ_exit ?_)
      refine blockQ_exit (thenQ_norm ?_)
      refine awpS_seq ?_
      refine awpS_reg T_ok fun K hK => ?_
      simp [hG, List.getD_cons_zero, List.getD_cons_succ, -List.getD_eq_getElem?_getD, hV]
      first | refine hK _ ?_ | refine ⟨Cond.mk (by first | omega | (simp [-List.getD_eq_getElem?_getD]; done) | (simp [-List.getD_eq_getElem?_getD]; omega) | (simp [-List.getD_eq_getElem?_getD]; repeat (first | intro _ | exact And.intro ‹_› ‹_› | apply And.intro | assumption | omega | exact decide_eq_true (by assumption)))), hK _ ?_⟩
      clear K hK
      refine awpS_ret ?_
      refine RetOK_of ?_
      simp [hG, List.getD_cons_zero, List.getD_cons_succ, -List.getD_eq_getElem?_getD, hV]
      exact (placeG_none fun j hj => hn0 j (by omega)).symm

set_option maxRecDepth 100000 in
theorem containsG_c (l : List Int) (q : Int → Bool) (hfn hn : Nat) (hc : Nat → AVal) (hl : l.length ≤ 1000000) (hcal : Callable Try.prog hfn) (hclo : ∀ j, Clo (hc j)) (hp : ∀ x ∈ l, PC Try.prog hfn (.int .i64 x :: (List.range' 0 hn).map hc) (.bool (q x))) : PC Try.prog 34 [ints l, .fn hfn hn hc] (.bool (l.any q)) := by
  have hV : ∀ {h : Heap} {σ : Lift.Id → Lift.Id} {fz : Nat → Bool} {vz : Lift.Id → Bool} {nx j : Nat}, VLe h σ fz vz nx (hc j) (hc j) := fun {h σ fz vz nx j} => Clo.le _ (hclo j)
  refine PC_introS T_ok Try.func34 rfl (by simp [Try.ntmps34]) fun G hG hR => ?_
  simp only [Try.ntmps34, Try.results34] at hG ⊢
  simp only [argEnv, Nat.zero_add, Nat.reduceAdd]
  refine awpS_seq ?_
  refine awpS_reg T_ok fun K hK => ?_
  simp [hG, List.getD_cons_zero, List.getD_cons_succ, -List.getD_eq_getElem?_getD, hV]
  first | refine hK _ ?_ | refine ⟨Cond.mk (by first | omega | (simp [-List.getD_eq_getElem?_getD]; done) | (simp [-List.getD_eq_getElem?_getD]; omega) | (simp [-List.getD_eq_getElem?_getD]; repeat (first | intro _ | exact And.intro ‹_› ‹_› | apply And.intro | assumption | omega | exact decide_eq_true (by assumption)))), hK _ ?_⟩
  clear K hK
  refine awpS_seq ?_
  refine awpS_regL ?_
  refine awpL_reg T_ok 2 fun K hK => ?_
  simp [hG, List.getD_cons_zero, List.getD_cons_succ, -List.getD_eq_getElem?_getD, hV]
  first | refine hK _ ?_ | refine ⟨Cond.mk (by first | omega | (simp [-List.getD_eq_getElem?_getD]; done) | (simp [-List.getD_eq_getElem?_getD]; omega) | (simp [-List.getD_eq_getElem?_getD]; repeat (first | intro _ | exact And.intro ‹_› ‹_› | apply And.intro | assumption | omega | exact decide_eq_true (by assumption)))), hK _ ?_⟩
  clear K hK
  refine awpL_call cal62 rfl rfl (fun _ => rfl) (fun hg => indexG_c l q hfn hn hc hl hcal hclo hp) (fun hg => ?_) (fun hg => ?_) fun K hK => ?_
  · simp [hG, List.getD_cons_zero, List.getD_cons_succ, -List.getD_eq_getElem?_getD, hV]
  · simp [hG, List.getD_cons_zero, List.getD_cons_succ, -List.getD_eq_getElem?_getD, hV]
  simp [hG, List.getD_cons_zero, List.getD_cons_succ, -List.getD_eq_getElem?_getD, hV]
  refine hK _ ?_
  clear K hK
  refine awpL_reg T_ok 2 fun K hK => ?_
  simp [hG, List.getD_cons_zero, List.getD_cons_succ, -List.getD_eq_getElem?_getD, hV]
  first | refine hK _ ?_ | refine ⟨Cond.mk (by first | omega | (simp [-List.getD_eq_getElem?_getD]; done) | (simp [-List.getD_eq_getElem?_getD]; omega) | (simp [-List.getD_eq_getElem?_getD]; repeat (first | intro _ | exact And.intro ‹_› ‹_› | apply And.intro | assumption | omega | exact decide_eq_true (by assumption)))), hK _ ?_⟩
  clear K hK
  refine awpL_nil ?_
  refine awpS_ret ?_
  refine RetOK_of ?_
  simp [hG, List.getD_cons_zero, List.getD_cons_succ, -List.getD_eq_getElem?_getD, hV]
  rw [← placeG_any]

set_option maxRecDepth 100000 in
theorem containsR_c (l : List (List Int)) (q : (List Int) → Bool) (hfn hn : Nat) (hc : Nat → AVal) (hl : l.length ≤ 1000000) (hcal : Callable Try.prog hfn) (hclo : ∀ j, Clo (hc j)) (hp : ∀ x ∈ l, PC Try.prog hfn (ints x :: (List.range' 0 hn).map hc) (.bool (q x))) : PC Try.prog 36 [rowsI l, .fn hfn hn hc] (.bool (l.any q)) := by
  have hV : ∀ {h : Heap} {σ : Lift.Id → Lift.Id} {fz : Nat → Bool} {vz : Lift.Id → Bool} {nx j : Nat}, VLe h σ fz vz nx (hc j) (hc j) := fun {h σ fz vz nx j} => Clo.le _ (hclo j)
  refine PC_introS T_ok Try.func36 rfl (by simp [Try.ntmps36]) fun G hG hR => ?_
  simp only [Try.ntmps36, Try.results36] at hG ⊢
  simp only [argEnv, Nat.zero_add, Nat.reduceAdd]
  refine awpS_seq ?_
  refine awpS_reg T_ok fun K hK => ?_
  simp [hG, List.getD_cons_zero, List.getD_cons_succ, -List.getD_eq_getElem?_getD, hV]
  first | refine hK _ ?_ | refine ⟨Cond.mk (by first | omega | (simp [-List.getD_eq_getElem?_getD]; done) | (simp [-List.getD_eq_getElem?_getD]; omega) | (simp [-List.getD_eq_getElem?_getD]; repeat (first | intro _ | exact And.intro ‹_› ‹_› | apply And.intro | assumption | omega | exact decide_eq_true (by assumption)))), hK _ ?_⟩
  clear K hK
  refine awpS_seq ?_
  refine awpS_regL ?_
  refine awpL_reg T_ok 2 fun K hK => ?_
  simp [hG, List.getD_cons_zero, List.getD_cons_succ, -List.getD_eq_getElem?_getD, hV]
  first | refine hK _ ?_ | refine ⟨Cond.mk (by first | omega | (simp [-List.getD_eq_getElem?_getD]; done) | (simp [-List.getD_eq_getElem?_getD]; omega) | (simp [-List.getD_eq_getElem?_getD]; repeat (first | intro _ | exact And.intro ‹_› ‹_› | apply And.intro | assumption | omega | exact decide_eq_true (by assumption)))), hK _ ?_⟩
  clear K hK
  refine awpL_call cal63 rfl rfl (fun _ => rfl) (fun hg => indexR_c l q hfn hn hc hl hcal hclo hp) (fun hg => ?_) (fun hg => ?_) fun K hK => ?_
  · simp [hG, List.getD_cons_zero, List.getD_cons_succ, -List.getD_eq_getElem?_getD, hV]
  · simp [hG, List.getD_cons_zero, List.getD_cons_succ, -List.getD_eq_getElem?_getD, hV]
  simp [hG, List.getD_cons_zero, List.getD_cons_succ, -List.getD_eq_getElem?_getD, hV]
  refine hK _ ?_
  clear K hK
  refine awpL_reg T_ok 2 fun K hK => ?_
  simp [hG, List.getD_cons_zero, List.getD_cons_succ, -List.getD_eq_getElem?_getD, hV]
  first | refine hK _ ?_ | refine ⟨Cond.mk (by first | omega | (simp [-List.getD_eq_getElem?_getD]; done) | (simp [-List.getD_eq_getElem?_getD]; omega) | (simp [-List.getD_eq_getElem?_getD]; repeat (first | intro _ | exact And.intro ‹_› ‹_› | apply And.intro | assumption | omega | exact decide_eq_true (by assumption)))), hK _ ?_⟩
  clear K hK
  refine awpL_nil ?_
  refine awpS_ret ?_
  refine RetOK_of ?_
  simp [hG, List.getD_cons_zero, List.getD_cons_succ, -List.getD_eq_getElem?_getD, hV]
  rw [← placeG_any]

set_option maxRecDepth 100000 in
theorem within2_c (r : List Int) (x : Int) (hr : r.length ≤ 1000000) : PC Try.prog 35 [.int .i64 x, .vptr 1 (fun _ => ints r) 0] (.bool (!hasI r x)) := by
  refine PC_introS T_ok Try.func35 rfl (by simp [Try.ntmps35]) fun G hG hR => ?_
  simp only [Try.ntmps35, Try.results35] at hG ⊢
  simp only [argEnv, Nat.zero_add, Nat.reduceAdd]
  refine awpS_seq ?_
  refine awpS_reg T_ok fun K hK => ?_
  simp [hG, List.getD_cons_zero, List.getD_cons_succ, -List.getD_eq_getElem?_getD]
  first | refine hK _ ?_ | refine ⟨Cond.mk (by first | omega | (simp [-List.getD_eq_getElem?_getD]; done) | (simp [-List.getD_eq_getElem?_getD]; omega) | (simp [-List.getD_eq_getElem?_getD]; repeat (first | intro _ | exact And.intro ‹_› ‹_› | apply And.intro | assumption | omega | exact decide_eq_true (by assumption)))), hK _ ?_⟩
  clear K hK
  refine awpS_seq ?_
  refine awpS_regL ?_
  refine awpL_reg T_ok 2 fun K hK => ?_
  simp [hG, List.getD_cons_zero, List.getD_cons_succ, -List.getD_eq_getElem?_getD]
  first | refine hK _ ?_ | refine ⟨Cond.mk (by first | omega | (simp [-List.getD_eq_getElem?_getD]; done) | (simp [-List.getD_eq_getElem?_getD]; omega) | (simp [-List.getD_eq_getElem?_getD]; repeat (first | intro _ | exact And.intro ‹_› ‹_› | apply And.intro | assumption | omega | exact decide_eq_true (by assumption)))), hK _ ?_⟩
  clear K hK
  refine awpL_call cal27 rfl rfl (fun _ => rfl) (fun hg => contains_c r x hr) (fun hg => ?_) (fun hg => ?_) fun K hK => ?_
  · simp [hG, List.getD_cons_zero, List.getD_cons_succ, -List.getD_eq_getElem?_getD]
  · simp [hG, List.getD_cons_zero, List.getD_cons_succ, -List.getD_eq_getElem?_getD]
  simp [hG, List.getD_cons_zero, List.getD_cons_succ, -List.getD_eq_getElem?_getD]
  refine hK _ ?_
  clear K hK
  refine awpL_reg T_ok 2 fun K hK => ?_
  simp [hG, List.getD_cons_zero, List.getD_cons_succ, -List.getD_eq_getElem?_getD]
  first | refine hK _ ?_ | refine ⟨Cond.mk (by first | omega | (simp [-List.getD_eq_getElem?_getD]; done) | (simp [-List.getD_eq_getElem?_getD]; omega) | (simp [-List.getD_eq_getElem?_getD]; repeat (first | intro _ | exact And.intro ‹_› ‹_› | apply And.intro | assumption | omega | exact decide_eq_true (by assumption)))), hK _ ?_⟩
  clear K hK
  refine awpL_nil ?_
  refine awpS_ret ?_
  refine RetOK_of ?_
  simp [hG, List.getD_cons_zero, List.getD_cons_succ, -List.getD_eq_getElem?_getD]

set_option maxRecDepth 100000 in
theorem within1_c (r c : List Int) (hr : r.length ≤ 1000000) (hc : c.length ≤ 1000000) : PC Try.prog 33 [ints c, .vptr 1 (fun _ => ints r) 0] (.bool (!c.any fun x => !hasI r x)) := by
  refine PC_introS T_ok Try.func33 rfl (by simp [Try.ntmps33]) fun G hG hR => ?_
  simp only [Try.ntmps33, Try.results33] at hG ⊢
  simp only [argEnv, Nat.zero_add, Nat.reduceAdd]
  refine awpS_seq ?_
  refine awpS_reg T_ok fun K hK => ?_
  simp [hG, List.getD_cons_zero, List.getD_cons_succ, -List.getD_eq_getElem?_getD]
  first | refine hK _ ?_ | refine ⟨Cond.mk (by first | omega | (simp [-List.getD_eq_getElem?_getD]; done) | (simp [-List.getD_eq_getElem?_getD]; omega) | (simp [-List.getD_eq_getElem?_getD]; repeat (first | intro _ | exact And.intro ‹_› ‹_› | apply And.intro | assumption | omega | exact decide_eq_true (by assumption)))), hK _ ?_⟩
  clear K hK
  refine awpS_seq ?_
  refine awpS_regL ?_
  refine awpL_reg T_ok 2 fun K hK => ?_
  simp [hG, List.getD_cons_zero, List.getD_cons_succ, -List.getD_eq_getElem?_getD]
  first | refine hK _ ?_ | refine ⟨Cond.mk (by first | omega | (simp [-List.getD_eq_getElem?_getD]; done) | (simp [-List.getD_eq_getElem?_getD]; omega) | (simp [-List.getD_eq_getElem?_getD]; repeat (first | intro _ | exact And.intro ‹_› ‹_› | apply And.intro | assumption | omega | exact decide_eq_true (by assumption)))), hK _ ?_⟩
  clear K hK
  refine awpL_call cal34 rfl rfl (fun _ => rfl) (fun hg => containsG_c c (fun x => !hasI r x) 35 1 (fun _ => .vptr 1 (fun _ => ints r) 0) hc cal35 (fun _ => by simp) fun x _ => within2_c r x hr) (fun hg => ?_) (fun hg => ?_) fun K hK => ?_
  · simp [hG, List.getD_cons_zero, List.getD_cons_succ, -List.getD_eq_getElem?_getD]
  · simp [hG, List.getD_cons_zero, List.getD_cons_succ, -List.getD_eq_getElem?_getD]
  simp [hG, List.getD_cons_zero, List.getD_cons_succ, -List.getD_eq_getElem?_getD]
  refine hK _ ?_
  clear K hK
  refine awpL_reg T_ok 2 fun K hK => ?_
  simp [hG, List.getD_cons_zero, List.getD_cons_succ, -List.getD_eq_getElem?_getD]
  first | refine hK _ ?_ | refine ⟨Cond.mk (by first | omega | (simp [-List.getD_eq_getElem?_getD]; done) | (simp [-List.getD_eq_getElem?_getD]; omega) | (simp [-List.getD_eq_getElem?_getD]; repeat (first | intro _ | exact And.intro ‹_› ‹_› | apply And.intro | assumption | omega | exact decide_eq_true (by assumption)))), hK _ ?_⟩
  clear K hK
  refine awpL_nil ?_
  refine awpS_ret ?_
  refine RetOK_of ?_
  simp [hG, List.getD_cons_zero, List.getD_cons_succ, -List.getD_eq_getElem?_getD]

set_option maxRecDepth 100000 in
theorem less_c (x y : Int) : PC Try.prog 64 [.int .i64 x, .int .i64 y] (.bool (decide (x < y))) := by
  refine PC_introS T_ok Try.func64 rfl (by simp [Try.ntmps64]) fun G hG hR => ?_
  simp only [Try.ntmps64, Try.results64] at hG ⊢
  simp only [argEnv, Nat.zero_add, Nat.reduceAdd]
  refine awpS_seq ?_
  refine awpS_reg T_ok fun K hK => ?_
  simp [hG, List.getD_cons_zero, List.getD_cons_succ, -List.getD_eq_getElem?_getD]
  first | refine hK _ ?_ | refine ⟨Cond.mk (by first | omega | (simp [-List.getD_eq_getElem?_getD]; done) | (simp [-List.getD_eq_getElem?_getD]; omega) | (simp [-List.getD_eq_getElem?_getD]; repeat (first | intro _ | exact And.intro ‹_› ‹_› | apply And.intro | assumption | omega | exact decide_eq_true (by assumption)))), hK _ ?_⟩
  clear K hK
  refine awpS_seq ?_
  refine awpS_regL ?_
  refine awpL_reg T_ok 1 fun K hK => ?_
  simp [hG, List.getD_cons_zero, List.getD_cons_succ, -List.getD_eq_getElem?_getD]
  first | refine hK _ ?_ | refine ⟨Cond.mk (by first | omega | (simp [-List.getD_eq_getElem?_getD]; done) | (simp [-List.getD_eq_getElem?_getD]; omega) | (simp [-List.getD_eq_getElem?_getD]; repeat (first | intro _ | exact And.intro ‹_› ‹_› | apply And.intro | assumption | omega | exact decide_eq_true (by assumption)))), hK _ ?_⟩
  clear K hK
  refine awpL_call cal77 rfl rfl (fun _ => rfl) (fun hg => nanI_c x) (fun hg => ?_) (fun hg => ?_) fun K hK => ?_
  · simp [hG, List.getD_cons_zero, List.getD_cons_succ, -List.getD_eq_getElem?_getD]
  · simp [hG, List.getD_cons_zero, List.getD_cons_succ, -List.getD_eq_getElem?_getD]
  simp [hG, List.getD_cons_zero, List.getD_cons_succ, -List.getD_eq_getElem?_getD]
  refine hK _ ?_
  clear K hK
  refine awpL_reg T_ok 2 fun K hK => ?_
  simp [hG, List.getD_cons_zero, List.getD_cons_succ, -List.getD_eq_getElem?_getD]
  first | refine hK _ ?_ | refine ⟨Cond.mk (by first | omega | (simp [-List.getD_eq_getElem?_getD]; done) | (simp [-List.getD_eq_getElem?_getD]; omega) | (simp [-List.getD_eq_getElem?_getD]; repeat (first | intro _ | exact And.intro ‹_› ‹_› | apply And.intro | assumption | omega | exact decide_eq_true (by assumption)))), hK _ ?_⟩
  clear K hK
  refine awpL_call cal77 rfl rfl (fun _ => rfl) (fun hg => nanI_c y) (fun hg => ?_) (fun hg => ?_) fun K hK => ?_
  · first | (simp [hG, List.getD_cons_zero, List.getD_cons_succ, -List.getD_eq_getElem?_getD]; done) | (simp [-List.getD_eq_getElem?_getD] at hg; done) | (simp [-List.getD_eq_getElem?_getD] at hg; simp [hG, List.getD_cons_zero, List.getD_cons_succ, -List.getD_eq_getElem?_getD]; first | omega | exact hg | (simp_all [-List.getD_eq_getElem?_getD]; done) | (simp_all [-List.getD_eq_getElem?_getD]; first | exact ⟨rfl, rfl⟩ | exact rfl))
  · first | (simp [hG, List.getD_cons_zero, List.getD_cons_succ, -List.getD_eq_getElem?_getD]; done) | (simp [-List.getD_eq_getElem?_getD] at hg; done) | (simp [-List.getD_eq_getElem?_getD] at hg; simp [hG, List.getD_cons_zero, List.getD_cons_succ, -List.getD_eq_getElem?_getD]; first | omega | exact hg | (simp_all [-List.getD_eq_getElem?_getD]; done) | (simp_all [-List.getD_eq_getElem?_getD]; first | exact ⟨rfl, rfl⟩ | exact rfl))
  simp [hG, List.getD_cons_zero, List.getD_cons_succ, -List.getD_eq_getElem?_getD]
  refine hK _ ?_
  clear K hK
  refine awpL_reg T_ok 8 fun K hK => ?_
  simp [hG, List.getD_cons_zero, List.getD_cons_succ, -List.getD_eq_getElem?_getD]
  first | refine hK _ ?_ | refine ⟨Cond.mk (by first | omega | (simp [-List.getD_eq_getElem?_getD]; done) | (simp [-List.getD_eq_getElem?_getD]; omega) | (simp [-List.getD_eq_getElem?_getD]; repeat (first | intro _ | exact And.intro ‹_› ‹_› | apply And.intro | assumption | omega | exact decide_eq_true (by assumption)))), hK _ ?_⟩
  clear K hK
  refine awpL_nil ?_
  refine awpS_ret ?_
  refine RetOK_of ?_
  simp [hG, List.getD_cons_zero, List.getD_cons_succ, -List.getD_eq_getElem?_getD]

set_option maxRecDepth 100000 in
theorem isSorted_c (l : List Int) (hl : l.length ≤ 1000000) : PC Try.prog 37 [ints l] (.bool (sortedB l)) := by
  refine PC_introS T_ok Try.func37 rfl (by simp [Try.ntmps37]) fun G hG hR => ?_
  simp only [Try.ntmps37, Try.results37] at hG ⊢
  simp only [argEnv, Nat.zero_add, Nat.reduceAdd]
  refine awpS_seq ?_
  refine awpS_reg T_ok fun K hK => ?_
  simp [hG, List.getD_cons_zero, List.getD_cons_succ, -List.getD_eq_getElem?_getD]
  first | refine hK _ ?_ | refine ⟨Cond.mk (by first | omega | (simp [-List.getD_eq_getElem?_getD]; done) | (simp [-List.getD_eq_getElem?_getD]; omega) | (simp [-List.getD_eq_getElem?_getD]; repeat (first | intro _ | exact And.intro ‹_› ‹_› | apply And.intro | assumption | omega | exact decide_eq_true (by assumption)))), hK _ ?_⟩
  clear K hK
  refine awpS_seq ?_
  refine awpS_seq ?_
  refine awpS_reg T_ok fun K hK => ?_
  simp [hG, List.getD_cons_zero, List.getD_cons_succ, -List.getD_eq_getElem?_getD]
  first | refine hK _ ?_ | refine ⟨Cond.mk (by first | omega | (simp [-List.getD_eq_getElem?_getD]; done) | (simp [-List.getD_eq_getElem?_getD]; omega) | (simp [-List.getD_eq_getElem?_getD]; repeat (first | intro _ | exact And.intro ‹_› ‹_› | apply And.intro | assumption | omega | exact decide_eq_true (by assumption)))), hK _ ?_⟩
  clear K hK
  refine awpS_block ?_
  refine awpS_loop (α := Nat) (fun v => ⟨[(0, ints l), (3, .int .i64 ((v : Int) - 1))], [], 0⟩) (fun v => v ≤ l.length ∧ ∀ j, v ≤ j + 1 → j + 1 < l.length → l.getD j 0 ≤ l.getD (j + 1) 0) (fun v => v) (l.length) (⟨Nat.le_refl _, fun j h1 h2 => absurd h2 (by omega)⟩) ?_ ?_
  ·
    refine wk_of (id) (fun _ => false) (fun _ => false) ?_ ?_ rfl (Nat.zero_le _) (fun k hk => absurd hk (Nat.not_lt_zero _))
    · simp [hG, List.getD_cons_zero, List.getD_cons_succ, -List.getD_eq_getElem?_getD]
    · simp [hG, List.getD_cons_zero, List.getD_cons_succ, -List.getD_eq_getElem?_getD]
  ·
    rintro v ⟨hv, hn⟩
    refine awpS_seq ?_
    refine awpS_seq ?_
    refine awpS_reg T_ok fun K hK => ?_
    simp [hG, List.getD_cons_zero, List.getD_cons_succ, -List.getD_eq_getElem?_getD]
    first | refine hK _ ?_ | refine ⟨Cond.mk (by first | omega | (simp [-List.getD_eq_getElem?_getD]; done) | (simp [-List.getD_eq_getElem?_getD]; omega) | (simp [-List.getD_eq_getElem?_getD]; repeat (first | intro _ | exact And.intro ‹_› ‹_› | apply And.intro | assumption | omega | exact decide_eq_true (by assumption)))), hK _ ?_⟩
    clear K hK
    refine awpS_cond rfl (fun hb8 => ?_) (fun hb8 => ?_)
    ·
      try simp [-List.getD_eq_getElem?_getD] at hb8
      refine awpS_skip ?_
      refine awpS_seq ?_
      refine awpS_block ?_
      refine awpS_seq ?_
      refine awpS_draw hR mixed [] ⟨[], [], []⟩ fun mu0 => ?_
      refine awpA_tk T_ok [0, 1, 2, 3, 4, 5, 6, 7, 8] [] (fuel := 1) [8, 7, 6, 5, 4, 3, 2, 1, 0] (by decide +kernel) (by decide +kernel) rfl rfl fun K hK => ?_
      simp [hG, List.getD_cons_zero, List.getD_cons_succ, -List.getD_eq_getElem?_getD]
      first | refine hK _ ?_ | refine ⟨Cond.mk (by first | omega | (simp [-List.getD_eq_getElem?_getD]; done) | (simp [-List.getD_eq_getElem?_getD]; omega) | (simp [-List.getD_eq_getElem?_getD]; repeat (first | intro _ | exact And.intro ‹_› ‹_› | apply And.intro | assumption | omega | exact decide_eq_true (by assumption)))), hK _ ?_⟩
      clear K hK
      refine awpA_only (fuel := 0) (i := 9) (by decide +kernel) ?_
      refine awpO_call cal64 rfl rfl rfl (fun _ => rfl) (fun hg => less_c (l.getD (v - 1) 0) (l.getD (v - 2) 0)) (fun hg => ?_) (fun hg => ?_) fun K hK => ?_
      · simp [hG, List.getD_cons_zero, List.getD_cons_succ, -List.getD_eq_getElem?_getD]
      · simp [hG, List.getD_cons_zero, List.getD_cons_succ, -List.getD_eq_getElem?_getD]; rw [Nat.sub_sub]
      simp [hG, List.getD_cons_zero, List.getD_cons_succ, -List.getD_eq_getElem?_getD]
      refine hK _ ?_
      clear K hK
      refine awpA_done (by decide +kernel) ?_
      refine awpS_cond rfl (fun hb20 => ?_) (fun hb20 => ?_)
      ·
        try simp [-List.getD_eq_getElem?_getD] at hb20
        refine awpS_seq ?_
        refine awpS_reg T_ok fun K hK => ?_
        simp [hG, List.getD_cons_zero, List.getD_cons_succ, -List.getD_eq_getElem?_getD]
        first | refine hK _ ?_ | refine ⟨Cond.mk (by first | omega | (simp [-List.getD_eq_getElem?_getD]; done) | (simp [-List.getD_eq_getElem?_getD]; omega) | (simp [-List.getD_eq_getElem?_getD]; repeat (first | intro _ | exact And.intro ‹_› ‹_› | apply And.intro | assumption | omega | exact decide_eq_true (by assumption)))), hK _ ?_⟩
        clear K hK
        refine awpS_ret ?_
        refine blockQ_ret (thenQ_ret ?_)
        refine thenQ_ret (thenQ_ret ?_)
        refine blockQ_ret (thenQ_ret ?_)
        refine RetOK_of ?_
        simp [hG, List.getD_cons_zero, List.getD_cons_succ, -List.getD_eq_getElem?_getD]
        exact sorted_no (by omega) hv hb20
      ·
        try simp [-List.getD_eq_getElem?_getD] at hb20
        refine awpS_skip ?_
        refine awpS_nil ?_
        refine blockQ_norm (thenQ_norm ?_)
        refine awpS_reg T_ok fun K hK => ?_
        simp [hG, List.getD_cons_zero, List.getD_cons_succ, -List.getD_eq_getElem?_getD]
        first | refine hK _ ?_ | refine ⟨Cond.mk (by first | omega | (simp [-List.getD_eq_getElem?_getD]; done) | (simp [-List.getD_eq_getElem?_getD]; omega) | (simp [-List.getD_eq_getElem?_getD]; repeat (first | intro _ | exact And.intro ‹_› ‹_› | apply And.intro | assumption | omega | exact decide_eq_true (by assumption)))), hK _ ?_⟩
        clear K hK
        refine awpS_nil ?_
        refine round_end ((v - 1)) (⟨by omega, sorted_next (by omega) hn hb20⟩) (by omega) ?_
        refine wk_of (id) (fun _ => false) (fun _ => false) ?_ ?_ rfl (Nat.zero_le _) (fun k hk => absurd hk (Nat.not_lt_zero _))
        · simp [hG, List.getD_cons_zero, List.getD_cons_succ, -List.getD_eq_getElem?_getD]; omega
        · simp [hG, List.getD_cons_zero, List.getD_cons_succ, -List.getD_eq_getElem?_getD]
    ·
      try simp [-List.getD_eq_getElem?_getD] at hb8
      refine awpS_exit ?_
      refine thenQ_exit (thenQ_exit ?_)
      refine blockQ_exit (thenQ_norm ?_)
      refine awpS_seq ?_
      refine awpS_reg T_ok fun K hK => ?_
      simp [hG, List.getD_cons_zero, List.getD_cons_succ, -List.getD_eq_getElem?_getD]
      first | refine hK _ ?_ | refine ⟨Cond.mk (by first | omega | (simp [-List.getD_eq_getElem?_getD]; done) | (simp [-List.getD_eq_getElem?_getD]; omega) | (simp [-List.getD_eq_getElem?_getD]; repeat (first | intro _ | exact And.intro ‹_› ‹_› | apply And.intro | assumption | omega | exact decide_eq_true (by assumption)))), hK _ ?_⟩
      clear K hK
      refine awpS_ret ?_
      refine RetOK_of ?_
      simp [hG, List.getD_cons_zero, List.getD_cons_succ, -List.getD_eq_getElem?_getD]
      exact sorted_yes (by omega) hn

end Go.Proofs.Ytkmnnmclebdjlaa
