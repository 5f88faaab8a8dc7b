/-
  Walks: what is reached, by visiting.
-/
import Derived.Test.YtkmnnmclebdjlaaWC
namespace Go.Proofs.Ytkmnnmclebdjlaa
set_option linter.unusedSimpArgs false
set_option linter.unusedVariables false
open Go Go.Lift Go.Proofs

def adjL (g : Gr) : List (List Int) := (List.range g.n).map fun s => adj g s
theorem adjL_at {g : Gr} {s : Nat} (h : s < g.n) : (adjL g).getD s [] = adj g s := by simp [adjL, List.getD, h]
@[simp] theorem adjL_len {g : Gr} : (adjL g).length = g.n := by simp [adjL]
theorem adj_len {g : Gr} {s : Nat} : (adj g s).length ≤ g.edges.length := by
  unfold adj
  rw [List.length_map]
  exact List.length_filter_le _ _
theorem adj_lt {g : Gr} (hf : Fit g) {s i : Nat} (h : i < (adj g s).length) : 0 ≤ (adj g s).getD i 0 ∧ (adj g s).getD i 0 < g.states := by
  obtain ⟨x, hx, _, ht⟩ := adj_mem (getD_mem (d := 0) h)
  rw [← ht]
  exact hf.to x hx
/-- the variables that visit has captured: what was seen, where edges lead, itself. -/
def seenP (g : Gr) : AVal := .vptr 1 (fun _ => .sl (0, 0) 0 g.n) 0
def nextP (g : Gr) : AVal := .vptr 1 (fun _ => rowsI (adjL g)) 0
def visH (g : Gr) (seen : List Bool) : Heap := [(0, .one (.arr g.n 1 (fun j _ => .bool (seen.getD j false)))), (1, .one (.arr 1 1 (fun _ _ => .fn 76 3 (fun j => [.vptr 1 (fun _ => .sl (0, 0) 0 g.n) 0, .vptr 1 (fun _ => rowsI (adjL g)) 0, .ptr (1, 0) 0 0].getD j .any))))]
abbrev VisC (g : Gr) (seen : List Bool) (s : Nat) : Prop := FC Try.prog 76 [.int .i64 s, .vptr 1 (fun _ => .sl (0, 0) 0 g.n) 0, .vptr 1 (fun _ => rowsI (adjL g)) 0, .ptr (1, 0) 0 0] (visH g seen) 2 (fun x => Dfs g seen x s) (fun _ => .any) (fun x => visH g x) (fun _ => 2)
attribute [simp] visH
@[simp] theorem rangep1 : List.range' 0 1 = [0] := rfl
@[simp] theorem rangep2 : List.range' 0 2 = [0, 1] := rfl
@[simp] theorem rangep3 : List.range' 0 3 = [0, 1, 2] := rfl
theorem set_at {seen : List Bool} {s j : Nat} (h : s < seen.length) : (if j = s then AVal.bool true else AVal.bool (seen.getD j false)) = .bool ((seen.set s true).getD j false) := by
  rw [getD_set]
  by_cases hj : j = s
  · rw [if_pos hj, if_pos ⟨hj, h⟩]
  · rw [if_neg hj, if_neg (fun e => hj e.1)]
theorem DfsM.fin {g : Gr} {seen c : List Bool} {s i : Nat} (h : DfsM g seen c s i) (hi : i = (adj g s).length) : Dfs g seen c s := by
  subst hi; exact h.done

set_option maxRecDepth 100000 in
theorem visit_c (g : Gr) (hf : Fit g) (hed : g.edges.length ≤ 1024) (seen : List Bool) (s : Nat) (hl : seen.length = g.n) (hs : s < g.n) (hn : seen.getD s false = false) (ih : ∀ (c : List Bool) (t : Nat), c.length = g.n → t < g.n → c.getD t false = false → unseen c < unseen seen → VisC g c t) : FC Try.prog 76 [.int .i64 s, .vptr 1 (fun _ => .sl (0, 0) 0 g.n) 0, .vptr 1 (fun _ => rowsI (adjL g)) 0, .ptr (1, 0) 0 0] [(0, .one (.arr g.n 1 (fun j _ => .bool ((seen).getD j false)))), (1, .one (.arr 1 1 (fun _ _ => .fn 76 3 (fun j => [.vptr 1 (fun _ => .sl (0, 0) 0 g.n) 0, .vptr 1 (fun _ => rowsI (adjL g)) 0, .ptr (1, 0) 0 0].getD j .any))))] 2 (fun x => Dfs g seen x s) (fun x => .any) (fun x => [(0, .one (.arr g.n 1 (fun j _ => .bool ((x).getD j false)))), (1, .one (.arr 1 1 (fun _ _ => .fn 76 3 (fun j => [.vptr 1 (fun _ => .sl (0, 0) 0 g.n) 0, .vptr 1 (fun _ => rowsI (adjL g)) 0, .ptr (1, 0) 0 0].getD j .any))))]) (fun x => 2) := by
  have hst := hf.st
  have hnn : (g.n : Int) = g.states := (by unfold Gr.n; omega)
  have hA := adjL_at hs
  have hAl := adj_len (g := g) (s := s)
  have hAl2 : ((adjL g).getD s []).length ≤ 1024 := (by rw [hA]; omega)
  refine FC_introS T_ok Try.func76 rfl (by simp [Try.ntmps76]) fun G hG hR => ?_
  simp only [Try.ntmps76, Try.results76] at hG ⊢
  simp only [argEnv, Nat.zero_add, Nat.reduceAdd]
  refine awpS_seq ?_
  refine awpS_reg T_ok fun K hK => ?_
  simp [hG, List.getD_cons_zero, List.getD_cons_succ, -List.getD_eq_getElem?_getD]
  first | refine hK _ ?_ | refine ⟨Cond.mk (by first | omega | (simp [-List.getD_eq_getElem?_getD]; done) | (simp [-List.getD_eq_getElem?_getD]; omega) | (simp [-List.getD_eq_getElem?_getD]; repeat (first | intro _ | exact And.intro ‹_› ‹_› | apply And.intro | assumption | omega | exact decide_eq_true (by assumption)))), hK _ ?_⟩
  clear K hK
  refine awpS_seq ?_
  refine awpS_reg T_ok fun K hK => ?_
  simp [hG, List.getD_cons_zero, List.getD_cons_succ, -List.getD_eq_getElem?_getD]
  first | refine hK _ ?_ | refine ⟨Cond.mk (by first | omega | (simp [-List.getD_eq_getElem?_getD]; done) | (simp [-List.getD_eq_getElem?_getD]; omega) | (simp [-List.getD_eq_getElem?_getD]; repeat (first | intro _ | exact And.intro ‹_› ‹_› | apply And.intro | assumption | omega | exact decide_eq_true (by assumption)))), hK _ ?_⟩
  clear K hK
  refine awpS_block ?_
  refine awpS_loop (α := Nat × List Bool) (fun p => ⟨[(0, .int .i64 s), (1, .vptr 1 (fun _ => .sl (0, 0) 0 g.n) 0), (2, .vptr 1 (fun _ => rowsI (adjL g)) 0), (3, .ptr (1, 0) 0 0), (13, ints ((adjL g).getD s [])), (14, .int .i64 ((adjL g).getD s []).length), (15, .int .i64 p.1)], [(0, .one (.arr g.n 1 (fun j _ => .bool ((p.2).getD j false)))), (1, .one (.arr 1 1 (fun _ _ => .fn 76 3 (fun j => [.vptr 1 (fun _ => .sl (0, 0) 0 g.n) 0, .vptr 1 (fun _ => rowsI (adjL g)) 0, .ptr (1, 0) 0 0].getD j .any))))], 2⟩) (fun p => DfsM g seen p.2 s p.1 ∧ p.1 ≤ ((adjL g).getD s []).length) (fun p => ((adjL g).getD s []).length - p.1) ((0, seen.set s true)) (⟨DfsM.first hl hs, Nat.zero_le _⟩) ?_ ?_
  ·
    refine wk_of (id) (fun _ => false) (fun _ => false) ?_ ?_ rfl (by simp) (fun k hk => by first | exact ⟨rfl, rfl⟩ | (obtain rfl : k = 0 := (by omega); exact ⟨rfl, rfl⟩) | (have hk2 : k = 0 ∨ k = 1 := (by omega); rcases hk2 with rfl | rfl <;> exact ⟨rfl, rfl⟩))
    · simp [hG, List.getD_cons_zero, List.getD_cons_succ, -List.getD_eq_getElem?_getD]
    · simp [hG, List.getD_cons_zero, List.getD_cons_succ, -List.getD_eq_getElem?_getD]; exact fun j _ => set_at (by omega)
  ·
    rintro ⟨i, c⟩ ⟨hm, hi⟩
    simp only at hm hi
    refine awpS_seq ?_
    refine awpS_reg T_ok fun K hK => ?_
    simp [hG, List.getD_cons_zero, List.getD_cons_succ, -List.getD_eq_getElem?_getD]
    first | refine hK _ ?_ | refine ⟨Cond.mk (by first | omega | (simp [-List.getD_eq_getElem?_getD]; done) | (simp [-List.getD_eq_getElem?_getD]; omega) | (simp [-List.getD_eq_getElem?_getD]; repeat (first | intro _ | exact And.intro ‹_› ‹_› | apply And.intro | assumption | omega | exact decide_eq_true (by assumption)))), hK _ ?_⟩
    clear K hK
    refine awpS_seq ?_
    refine awpS_cond rfl (fun hb16 => ?_) (fun hb16 => ?_)
    ·
      try simp [-List.getD_eq_getElem?_getD] at hb16
      have hlt := adj_lt hf (s := s) (i := i) (by rw [hA] at hb16; exact hb16)
      rw [← hA] at hlt
      refine awpS_skip ?_
      refine awpS_seq ?_
      refine awpS_block ?_
      refine awpS_seq ?_
      refine awpS_reg T_ok fun K hK => ?_
      simp [hG, List.getD_cons_zero, List.getD_cons_succ, -List.getD_eq_getElem?_getD]
      first | refine hK _ ?_ | refine ⟨Cond.mk (by first | omega | (simp [-List.getD_eq_getElem?_getD]; done) | (simp [-List.getD_eq_getElem?_getD]; omega) | (simp [-List.getD_eq_getElem?_getD]; repeat (first | intro _ | exact And.intro ‹_› ‹_› | apply And.intro | assumption | omega | exact decide_eq_true (by assumption)))), hK _ ?_⟩
      clear K hK
      refine awpS_seq ?_
      refine awpS_reg T_ok fun K hK => ?_
      simp [hG, List.getD_cons_zero, List.getD_cons_succ, -List.getD_eq_getElem?_getD]
      first | refine hK _ ?_ | refine ⟨Cond.mk (by first | omega | (simp [-List.getD_eq_getElem?_getD]; done) | (simp [-List.getD_eq_getElem?_getD]; omega) | (simp [-List.getD_eq_getElem?_getD]; repeat (first | intro _ | exact And.intro ‹_› ‹_› | apply And.intro | assumption | omega | exact decide_eq_true (by assumption)))), hK _ ?_⟩
      clear K hK
      refine awpS_cond rfl (fun hb23 => ?_) (fun hb23 => ?_)
      ·
        try simp [-List.getD_eq_getElem?_getD] at hb23
        refine awpS_regL ?_
        refine awpL_reg T_ok 2 fun K hK => ?_
        simp [hG, List.getD_cons_zero, List.getD_cons_succ, -List.getD_eq_getElem?_getD]
        first | refine hK _ ?_ | refine ⟨Cond.mk (by first | omega | (simp [-List.getD_eq_getElem?_getD]; done) | (simp [-List.getD_eq_getElem?_getD]; omega) | (simp [-List.getD_eq_getElem?_getD]; repeat (first | intro _ | exact And.intro ‹_› ‹_› | apply And.intro | assumption | omega | exact decide_eq_true (by assumption)))), hK _ ?_⟩
        clear K hK
        refine awpL_fc cal76 [0, 1] (fun _ => false) (ih c (((adjL g).getD s []).getD i 0).toNat hm.len (by omega) (by simpa using hb23) (unseen_less hl hs hn hm)) rfl rfl rfl (by simp) (.inl fun _ => rfl) ?_ ?_ ?_ fun K hK c2 hI hno => ?_
        · simp [hG, List.getD_cons_zero, List.getD_cons_succ, -List.getD_eq_getElem?_getD]
        · simp [hG, List.getD_cons_zero, List.getD_cons_succ, -List.getD_eq_getElem?_getD]; omega
        · simp [hG, List.getD_cons_zero, List.getD_cons_succ, -List.getD_eq_getElem?_getD]
        simp [hG, List.getD_cons_zero, List.getD_cons_succ, -List.getD_eq_getElem?_getD]
        refine hK _ ?_
        clear K hK
        refine awpL_nil ?_
        refine awpS_nil ?_
        refine blockQ_norm (thenQ_norm ?_)
        refine awpS_reg T_ok fun K hK => ?_
        simp [hG, List.getD_cons_zero, List.getD_cons_succ, -List.getD_eq_getElem?_getD]
        first | refine hK _ ?_ | refine ⟨Cond.mk (by first | omega | (simp [-List.getD_eq_getElem?_getD]; done) | (simp [-List.getD_eq_getElem?_getD]; omega) | (simp [-List.getD_eq_getElem?_getD]; repeat (first | intro _ | exact And.intro ‹_› ‹_› | apply And.intro | assumption | omega | exact decide_eq_true (by assumption)))), hK _ ?_⟩
        clear K hK
        refine awpS_nil ?_
        refine round_end ((i + 1, c2)) (by exact ⟨hm.call hf (by rw [hA] at hb16; exact hb16) (by rw [hA] at hI; exact hI), hb16⟩) (by show ((adjL g).getD s []).length - (i + 1) < ((adjL g).getD s []).length - i; omega) ?_
        refine wk_of (id) (fun _ => false) (fun _ => false) ?_ ?_ rfl (by simp) (fun k hk => by first | exact ⟨rfl, rfl⟩ | (obtain rfl : k = 0 := (by omega); exact ⟨rfl, rfl⟩) | (have hk2 : k = 0 ∨ k = 1 := (by omega); rcases hk2 with rfl | rfl <;> exact ⟨rfl, rfl⟩))
        · simp [hG, List.getD_cons_zero, List.getD_cons_succ, -List.getD_eq_getElem?_getD]
        · simp [hG, List.getD_cons_zero, List.getD_cons_succ, -List.getD_eq_getElem?_getD]
      ·
        try simp [-List.getD_eq_getElem?_getD] at hb23
        refine awpS_skip ?_
        refine awpS_nil ?_
        refine blockQ_norm (thenQ_norm ?_)
        refine awpS_reg T_ok fun K hK => ?_
        simp [hG, List.getD_cons_zero, List.getD_cons_succ, -List.getD_eq_getElem?_getD]
        first | refine hK _ ?_ | refine ⟨Cond.mk (by first | omega | (simp [-List.getD_eq_getElem?_getD]; done) | (simp [-List.getD_eq_getElem?_getD]; omega) | (simp [-List.getD_eq_getElem?_getD]; repeat (first | intro _ | exact And.intro ‹_› ‹_› | apply And.intro | assumption | omega | exact decide_eq_true (by assumption)))), hK _ ?_⟩
        clear K hK
        refine awpS_nil ?_
        refine round_end ((i + 1, c)) (by exact ⟨hm.skip (by rw [hA] at hb23; simpa using hb23), hb16⟩) (by show ((adjL g).getD s []).length - (i + 1) < ((adjL g).getD s []).length - i; omega) ?_
        refine wk_of (id) (fun _ => false) (fun _ => false) ?_ ?_ rfl (by simp) (fun k hk => by first | exact ⟨rfl, rfl⟩ | (obtain rfl : k = 0 := (by omega); exact ⟨rfl, rfl⟩) | (have hk2 : k = 0 ∨ k = 1 := (by omega); rcases hk2 with rfl | rfl <;> exact ⟨rfl, rfl⟩))
        · simp [hG, List.getD_cons_zero, List.getD_cons_succ, -List.getD_eq_getElem?_getD]
        · simp [hG, List.getD_cons_zero, List.getD_cons_succ, -List.getD_eq_getElem?_getD]
    ·
      try simp [-List.getD_eq_getElem?_getD] at hb16
      refine awpS_exit ?_
      refine thenQ_exit (thenQ_exit ?_)
      refine blockQ_exit (thenQ_norm ?_)
      refine awpS_nil ?_
      refine RetF_of (c) (id) (fun _ => false) (fun _ => false) (DfsM.fin hm (by rw [hA] at hi hb16; omega)) ?_ ?_ (by rfl) (by simp) (fun k _ => ⟨rfl, rfl⟩)
      · simp [hG, List.getD_cons_zero, List.getD_cons_succ, -List.getD_eq_getElem?_getD]
      · simp [hG, List.getD_cons_zero, List.getD_cons_succ, -List.getD_eq_getElem?_getD]

end Go.Proofs.Ytkmnnmclebdjlaa
