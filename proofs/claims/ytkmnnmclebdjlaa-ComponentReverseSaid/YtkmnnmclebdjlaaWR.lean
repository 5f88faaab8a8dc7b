/-
  Walks: reach.
-/
import Derived.Test.YtkmnnmclebdjlaaWV
namespace Go.Proofs.Ytkmnnmclebdjlaa
set_option linter.unusedSimpArgs false
set_option linter.unusedVariables false
open Go Go.Lift Go.Proofs

theorem visit_all (g : Gr) (hf : Fit g) (hed : g.edges.length ≤ 1024) : ∀ (k : Nat) (seen : List Bool) (s : Nat), unseen seen ≤ k → seen.length = g.n → s < g.n → seen.getD s false = false → VisC g seen s := by
  intro k
  induction k with
  | zero =>
    intro seen s hk hl hs hn
    have := unseen_set (l := seen) (s := s) (by omega) hn
    omega
  | succ k ih =>
    intro seen s hk hl hs hn
    exact visit_c g hf hed seen s hl hs hn fun c t h1 h2 h3 h4 => ih c t (by omega) h1 h2 h3
/-- where the first i edges lead from a state. -/
def adjAt (g : Gr) (i s : Nat) : List Int := ((g.edges.take i).filter fun x => decide (x.frm = (s : Int))).map Edge.to
@[simp] theorem adjAt_zero {g : Gr} {s : Nat} : adjAt g 0 s = [] := rfl
theorem adjAt_all {g : Gr} {i s : Nat} (h : g.edges.length ≤ i) : adjAt g i s = adj g s := by unfold adjAt; rw [List.take_of_length_le h]; rfl
theorem adjAt_succ {g : Gr} {i s : Nat} (h : i < g.edges.length) : adjAt g (i + 1) s = if (g.edges.getD i de).frm = (s : Int) then adjAt g i s ++ [(g.edges.getD i de).to] else adjAt g i s := by
  unfold adjAt
  rw [List.take_add_one, List.filter_append, List.map_append]
  have : g.edges[i]?.toList = [g.edges.getD i de] := by simp [List.getD, List.getElem?_eq_getElem h]
  rw [this]
  by_cases hx : (g.edges.getD i de).frm = (s : Int)
  · rw [if_pos hx]; simp only [List.filter_cons, hx, decide_true, if_true, List.filter_nil, List.map_cons, List.map_nil]
  · rw [if_neg hx]; simp only [List.filter_cons, hx, decide_false, if_false, List.filter_nil, List.map_nil, List.append_nil, Bool.false_eq_true]
theorem adjAt_len {g : Gr} {i s : Nat} : (adjAt g i s).length ≤ g.edges.length := by
  unfold adjAt
  rw [List.length_map]
  refine Nat.le_trans (List.length_filter_le _ _) ?_
  rw [List.length_take]
  omega
@[simp] theorem delH_succ {h : Heap} {k i : Nat} : delH h (k, i + 1) = h.map (fun e => if e.1 = k then (e.1, e.2.del i) else e) := rfl
@[simp] theorem del_one {o : HObj} {i : Nat} : (HEnt.one o).del i = .one o := rfl
@[simp] theorem del_fam {o : HObj} {r : Nat → Option HObj} {i : Nat} : (HEnt.fam o r).del i = .fam o (fun j => if j = i then none else r j) := rfl
theorem repl_at {n j : Nat} : (List.replicate n false).getD j false = false := by
  simp only [List.getD_eq_getElem?_getD, List.getElem?_replicate]
  split <;> rfl

theorem getD_app {α : Type} {l m : List α} {i : Nat} {d : α} : (l ++ m).getD i d = if i < l.length then l.getD i d else m.getD (i - l.length) d := by
  by_cases h : i < l.length
  · simp [h, List.getD_eq_getElem?_getD, List.getElem?_append_left]
  · simp [h, List.getD_eq_getElem?_getD, List.getElem?_append_right (Nat.le_of_not_lt h)]
theorem app_one {l : List Int} {v : Int} {g : Nat → Nat → AVal} {i : Nat} (h : i < l.length + 1) : app (fun i _ => .int .i64 (l.getD i 0)) l.length (fun i j => if i = 0 ∧ j = 0 then .int .i64 v else g i j) i 0 = .int .i64 ((l ++ [v]).getD i 0) := by
  rw [getD_app]
  unfold app
  by_cases h2 : i < l.length
  · rw [if_pos h2, if_pos h2]
  · have : i - l.length = 0 := by omega
    rw [if_neg h2, if_neg h2, this]
    rfl
set_option maxRecDepth 100000 in
theorem reach_c (g : Gr) (s : Nat) (hf : Fit g) (hed : g.edges.length ≤ 1024) (hs : s < g.n) : PC Try.prog 59 [.agg 3 (grF g), .int .i64 s] (bools (reachL g s)) := by
  have hst := hf.st
  have hnn : (g.n : Int) = g.states := (by unfold Gr.n; omega)
  refine PC_introS T_ok Try.func59 rfl (by simp [Try.ntmps59]) fun G hG hR => ?_
  simp only [Try.ntmps59, Try.results59] at hG ⊢
  simp only [argEnv, Nat.zero_add, Nat.reduceAdd]
  refine awpS_seq ?_
  refine awpS_reg T_ok fun K hK => ?_
  simp [hG, List.getD_cons_zero, List.getD_cons_succ, -List.getD_eq_getElem?_getD]
  first | refine hK _ ?_ | refine ⟨Cond.mk (by first | omega | (simp [-List.getD_eq_getElem?_getD]; done) | (simp [-List.getD_eq_getElem?_getD]; omega) | (simp [-List.getD_eq_getElem?_getD]; repeat (first | intro _ | exact And.intro ‹_› ‹_› | apply And.intro | assumption | omega | exact decide_eq_true (by assumption)))), hK _ ?_⟩
  clear K hK
  refine awpS_seq ?_
  refine awpS_reg T_ok fun K hK => ?_
  simp [hG, List.getD_cons_zero, List.getD_cons_succ, -List.getD_eq_getElem?_getD]
  first | refine hK _ ?_ | refine ⟨Cond.mk (by first | omega | (simp [-List.getD_eq_getElem?_getD]; done) | (simp [-List.getD_eq_getElem?_getD]; omega) | (simp [-List.getD_eq_getElem?_getD]; repeat (first | intro _ | exact And.intro ‹_› ‹_› | apply And.intro | assumption | omega | exact decide_eq_true (by assumption)))), hK _ ?_⟩
  clear K hK
  refine awpS_seq ?_
  refine awpS_seq ?_
  refine awpS_reg T_ok fun K hK => ?_
  simp [hG, List.getD_cons_zero, List.getD_cons_succ, -List.getD_eq_getElem?_getD]
  first | refine hK _ ?_ | refine ⟨Cond.mk (by first | omega | (simp [-List.getD_eq_getElem?_getD]; done) | (simp [-List.getD_eq_getElem?_getD]; omega) | (simp [-List.getD_eq_getElem?_getD]; repeat (first | intro _ | exact And.intro ‹_› ‹_› | apply And.intro | assumption | omega | exact decide_eq_true (by assumption)))), hK _ ?_⟩
  clear K hK
  refine awpS_block ?_
  refine awpS_loop (α := Nat) (fun i => ⟨[(1, .int .i64 s), (2, .ptr (0, 0) 0 0), (5, .ptr (2, 0) 0 0), (14, edgesC g.edges), (15, .int .i64 g.edges.length), (16, .int .i64 i)], [(0, .one (.arr 1 3 (fun _ => grF g))), (1, .fam (.arr g.n 1 (fun j _ => .sl (1, j + 1) 0 (adjAt g i j).length)) (fun j => some (.arr (adjAt g i j).length 1 (fun q _ => .int .i64 ((adjAt g i j).getD q 0))))), (2, .one (.arr 1 1 (fun _ _ => .sl (1, 0) 0 g.n)))], 3⟩) (fun i => i ≤ g.edges.length) (fun i => g.edges.length - i) (0) (Nat.zero_le _) ?_ ?_
  ·
    refine wk_ofI (id) (fun _ => false) (fun d => decide (d.1 = 1 ∧ 0 < d.2)) ?_ ?_ ?_ (Nat.zero_le _) (fun d hd => absurd hd (Nat.not_lt_zero _))
    · simp [hG, List.getD_cons_zero, List.getD_cons_succ, -List.getD_eq_getElem?_getD]
    · simp [hG, List.getD_cons_zero, List.getD_cons_succ, -List.getD_eq_getElem?_getD]; exact ⟨Nat.le_of_eq rfl, rfl⟩
    · exact fun id id' _ _ _ _ h => h
  ·
    rintro i hi
    refine awpS_seq ?_
    refine awpS_reg T_ok fun K hK => ?_
    simp [hG, List.getD_cons_zero, List.getD_cons_succ, -List.getD_eq_getElem?_getD]
    first | refine hK _ ?_ | refine ⟨Cond.mk (by first | omega | (simp [-List.getD_eq_getElem?_getD]; done) | (simp [-List.getD_eq_getElem?_getD]; omega) | (simp [-List.getD_eq_getElem?_getD]; repeat (first | intro _ | exact And.intro ‹_› ‹_› | apply And.intro | assumption | omega | exact decide_eq_true (by assumption)))), hK _ ?_⟩
    clear K hK
    refine awpS_seq ?_
    refine awpS_cond rfl (fun hb17 => ?_) (fun hb17 => ?_)
    ·
      try simp [-List.getD_eq_getElem?_getD] at hb17
      have hfr := hf.frm _ (getD_mem (d := de) (by simpa using hb17))
      have hto := hf.to _ (getD_mem (d := de) (by simpa using hb17))
      have hal := adjAt_len (g := g) (i := i) (s := (g.edges.getD i de).frm.toNat)
      refine awpS_skip ?_
      refine awpS_seq ?_
      refine awpS_block ?_
      refine awpS_seq ?_
      refine awpS_reg T_ok fun K hK => ?_
      simp [hG, List.getD_cons_zero, List.getD_cons_succ, -List.getD_eq_getElem?_getD]
      first | refine hK _ ?_ | refine ⟨Cond.mk (by first | omega | (simp [-List.getD_eq_getElem?_getD]; done) | (simp [-List.getD_eq_getElem?_getD]; omega) | (simp [-List.getD_eq_getElem?_getD]; repeat (first | intro _ | exact And.intro ‹_› ‹_› | apply And.intro | assumption | omega | exact decide_eq_true (by assumption)))), hK _ ?_⟩
      clear K hK
      refine awpS_draw hR mixed [] ⟨[13], [11], [(1, 0), (2, 0), (3, 0)]⟩ fun mu0 => ?_
      refine awpA_tk T_ok [0, 1, 2, 3, 4, 5, 6, 7, 8, 9] [] (fuel := 4) [9, 8, 7, 6, 5, 4, 3, 2, 1, 0] (by decide +kernel) (by decide +kernel) rfl rfl fun K hK => ?_
      simp [hG, List.getD_cons_zero, List.getD_cons_succ, -List.getD_eq_getElem?_getD]
      first | refine hK _ ?_ | refine ⟨Cond.mk (by first | omega | (simp [-List.getD_eq_getElem?_getD]; done) | (simp [-List.getD_eq_getElem?_getD]; omega) | (simp [-List.getD_eq_getElem?_getD]; repeat (first | intro _ | exact And.intro ‹_› ‹_› | apply And.intro | assumption | omega | exact decide_eq_true (by assumption)))), hK _ ?_⟩
      clear K hK
      refine awpA_only (fuel := 3) (i := 10) (by decide +kernel) ?_
      refine awpO_reg T_ok rfl ?_ fun K hK => ?_
      · simp [hG, List.getD_cons_zero, List.getD_cons_succ, -List.getD_eq_getElem?_getD]
      simp [hG, List.getD_cons_zero, List.getD_cons_succ, -List.getD_eq_getElem?_getD]
      first | refine hK _ ?_ | refine ⟨Cond.mk (by first | omega | (simp [-List.getD_eq_getElem?_getD]; done) | (simp [-List.getD_eq_getElem?_getD]; omega) | (simp [-List.getD_eq_getElem?_getD]; repeat (first | intro _ | exact And.intro ‹_› ‹_› | apply And.intro | assumption | omega | exact decide_eq_true (by assumption)))), hK _ ?_⟩
      clear K hK
      refine awpA_only (fuel := 2) (i := 11) (by decide +kernel) ?_
      refine awpO_reg T_ok rfl ?_ fun K hK => ?_
      · simp [hG, List.getD_cons_zero, List.getD_cons_succ, -List.getD_eq_getElem?_getD]
      simp [hG, List.getD_cons_zero, List.getD_cons_succ, -List.getD_eq_getElem?_getD]
      first | refine hK _ ?_ | refine ⟨Cond.mk (by first | omega | (simp [-List.getD_eq_getElem?_getD]; done) | (simp [-List.getD_eq_getElem?_getD]; omega) | (simp [-List.getD_eq_getElem?_getD]; repeat (first | intro _ | exact And.intro ‹_› ‹_› | apply And.intro | assumption | omega | exact decide_eq_true (by assumption)))), hK _ ?_⟩
      clear K hK
      refine awpA_tk T_ok [12] [] (fuel := 1) [12, 11, 10, 9, 8, 7, 6, 5, 4, 3, 2, 1, 0] (by decide +kernel) (by decide +kernel) rfl rfl fun K hK => ?_
      simp [hG, List.getD_cons_zero, List.getD_cons_succ, -List.getD_eq_getElem?_getD]
      first | refine hK _ ?_ | refine ⟨Cond.mk (by first | omega | (simp [-List.getD_eq_getElem?_getD]; done) | (simp [-List.getD_eq_getElem?_getD]; omega) | (simp [-List.getD_eq_getElem?_getD]; repeat (first | intro _ | exact And.intro ‹_› ‹_› | apply And.intro | assumption | omega | exact decide_eq_true (by assumption)))), hK _ ?_⟩
      clear K hK
      refine awpA_only (fuel := 0) (i := 13) (by decide +kernel) ?_
      refine awpO_reg T_ok rfl ?_ fun K hK => ?_
      · simp [hG, List.getD_cons_zero, List.getD_cons_succ, -List.getD_eq_getElem?_getD]
      simp [hG, List.getD_cons_zero, List.getD_cons_succ, -List.getD_eq_getElem?_getD]
      first | refine hK _ ?_ | refine ⟨Cond.mk (by first | omega | (simp [-List.getD_eq_getElem?_getD]; done) | (simp [-List.getD_eq_getElem?_getD]; omega) | (simp [-List.getD_eq_getElem?_getD]; repeat (first | intro _ | exact And.intro ‹_› ‹_› | apply And.intro | assumption | omega | exact decide_eq_true (by assumption)))), hK _ ?_⟩
      clear K hK
      refine awpA_done (by decide +kernel) ?_
      refine awpS_nil ?_
      refine blockQ_norm (thenQ_norm ?_)
      refine awpS_reg T_ok fun K hK => ?_
      simp [hG, List.getD_cons_zero, List.getD_cons_succ, -List.getD_eq_getElem?_getD]
      first | refine hK _ ?_ | refine ⟨Cond.mk (by first | omega | (simp [-List.getD_eq_getElem?_getD]; done) | (simp [-List.getD_eq_getElem?_getD]; omega) | (simp [-List.getD_eq_getElem?_getD]; repeat (first | intro _ | exact And.intro ‹_› ‹_› | apply And.intro | assumption | omega | exact decide_eq_true (by assumption)))), hK _ ?_⟩
      clear K hK
      refine awpS_nil ?_
      refine round_end (i + 1) (by omega) (by omega) ?_
      refine wk_ofI (fun d => if d = (1, (g.edges.getD i de).frm.toNat + 1) then (5, 0) else d) (fun _ => false) (fun _ => false) ?_ ?_ ?_ (Nat.zero_le _) (fun d hd => absurd hd (Nat.not_lt_zero _))
      · simp [hG, List.getD_cons_zero, List.getD_cons_succ, -List.getD_eq_getElem?_getD]
      · simp [hG, List.getD_cons_zero, List.getD_cons_succ, -List.getD_eq_getElem?_getD]
        generalize hv : (g.edges.getD i de).frm.toNat = v
        have hfv : (g.edges.getD i de).frm = (v : Int) := by omega
        refine ⟨fun j _ => .inl ?_, fun j => ?_⟩
        · by_cases h : j = v
          · subst h; rw [if_pos rfl, if_pos rfl, adjAt_succ hb17, if_pos hfv]; simp
          · rw [if_neg h, if_neg h, adjAt_succ hb17, if_neg (by omega)]
        · by_cases h : j = v
          · subst h
            rw [adjAt_succ hb17, if_pos hfv]
            simp [HLe, -List.getD_eq_getElem?_getD]
            intro q hq
            exact app_one hq
          · rw [adjAt_succ hb17, if_neg (by omega)]
            simp [HLe, h]
      · intro d d' h1 h2 _ _ h
        split at h <;> split at h
        · simp_all
        · subst h; simp [lkH] at h2
        · subst h; simp [lkH] at h1
        · exact h
    ·
      try simp [-List.getD_eq_getElem?_getD] at hb17
      refine awpS_exit ?_
      refine thenQ_exit (thenQ_exit ?_)
      refine blockQ_exit (thenQ_norm ?_)
      refine awpS_seq ?_
      refine awpS_reg T_ok fun K hK => ?_
      simp [hG, List.getD_cons_zero, List.getD_cons_succ, -List.getD_eq_getElem?_getD]
      first | refine hK _ ?_ | refine ⟨Cond.mk (by first | omega | (simp [-List.getD_eq_getElem?_getD]; done) | (simp [-List.getD_eq_getElem?_getD]; omega) | (simp [-List.getD_eq_getElem?_getD]; repeat (first | intro _ | exact And.intro ‹_› ‹_› | apply And.intro | assumption | omega | exact decide_eq_true (by assumption)))), hK _ ?_⟩
      clear K hK
      refine awpS_seq ?_
      refine awpS_reg T_ok fun K hK => ?_
      simp [hG, List.getD_cons_zero, List.getD_cons_succ, -List.getD_eq_getElem?_getD]
      first | refine hK _ ?_ | refine ⟨Cond.mk (by first | omega | (simp [-List.getD_eq_getElem?_getD]; done) | (simp [-List.getD_eq_getElem?_getD]; omega) | (simp [-List.getD_eq_getElem?_getD]; repeat (first | intro _ | exact And.intro ‹_› ‹_› | apply And.intro | assumption | omega | exact decide_eq_true (by assumption)))), hK _ ?_⟩
      clear K hK
      refine awpS_seq ?_
      refine awpS_reg T_ok fun K hK => ?_
      simp [hG, List.getD_cons_zero, List.getD_cons_succ, -List.getD_eq_getElem?_getD]
      first | refine hK _ ?_ | refine ⟨Cond.mk (by first | omega | (simp [-List.getD_eq_getElem?_getD]; done) | (simp [-List.getD_eq_getElem?_getD]; omega) | (simp [-List.getD_eq_getElem?_getD]; repeat (first | intro _ | exact And.intro ‹_› ‹_› | apply And.intro | assumption | omega | exact decide_eq_true (by assumption)))), hK _ ?_⟩
      clear K hK
      refine awpS_seq ?_
      refine awpS_wk (st2 := ⟨[(1, .int .i64 s), (8, .vptr 1 (fun _ => .sl (0, 0) 0 g.n) 0), (9, .ptr (1, 0) 0 0)], [(0, .one (.arr g.n 1 (fun j _ => .bool ((List.replicate g.n false).getD j false)))), (1, .one (.arr 1 1 (fun _ _ => .fn 76 3 (fun j => [.vptr 1 (fun _ => .sl (0, 0) 0 g.n) 0, .vptr 1 (fun _ => rowsI (adjL g)) 0, .ptr (1, 0) 0 0].getD j .any))))], 2⟩) ?_ ?_
      ·
        refine wk_of (fun k => if k = 0 then 3 else 5) (fun k => k == 4 || k == 2 || k == 1) (fun _ => false) ?_ ?_ rfl (Nat.zero_le _) (fun k hk => absurd hk (Nat.not_lt_zero _))
        · simp [hG, List.getD_cons_zero, List.getD_cons_succ, -List.getD_eq_getElem?_getD]; rfl
        · simp [hG, List.getD_cons_zero, List.getD_cons_succ, -List.getD_eq_getElem?_getD]; exact ⟨⟨Nat.le_of_eq rfl, fun j _ => repl_at⟩, rfl, fun j hj => by rw [adjAt_all hb17, adjL_at hj]; exact ⟨rfl, Nat.le_refl _, fun _ _ => rfl⟩⟩
      refine awpS_regL ?_
      refine awpL_reg T_ok 2 fun K hK => ?_
      simp [hG, List.getD_cons_zero, List.getD_cons_succ, -List.getD_eq_getElem?_getD]
      first | refine hK _ ?_ | refine ⟨Cond.mk (by first | omega | (simp [-List.getD_eq_getElem?_getD]; done) | (simp [-List.getD_eq_getElem?_getD]; omega) | (simp [-List.getD_eq_getElem?_getD]; repeat (first | intro _ | exact And.intro ‹_› ‹_› | apply And.intro | assumption | omega | exact decide_eq_true (by assumption)))), hK _ ?_⟩
      clear K hK
      refine awpL_fc cal76 [0, 1] (fun _ => false) (visit_all g hf hed g.n (List.replicate g.n false) s (by have := unseen_le (List.replicate g.n false); simpa using this) (by simp) hs (by simp only [List.getD_eq_getElem?_getD, List.getElem?_replicate]; split <;> rfl)) rfl rfl rfl (by simp) (.inl fun _ => rfl) ?_ ?_ ?_ fun K hK c hI hno => ?_
      · simp [hG, List.getD_cons_zero, List.getD_cons_succ, -List.getD_eq_getElem?_getD]
      · simp [hG, List.getD_cons_zero, List.getD_cons_succ, -List.getD_eq_getElem?_getD]
      · simp [hG, List.getD_cons_zero, List.getD_cons_succ, -List.getD_eq_getElem?_getD]
      simp [hG, List.getD_cons_zero, List.getD_cons_succ, -List.getD_eq_getElem?_getD]
      refine hK _ ?_
      clear K hK
      refine awpL_nil ?_
      refine awpS_seq ?_
      refine awpS_reg T_ok fun K hK => ?_
      simp [hG, List.getD_cons_zero, List.getD_cons_succ, -List.getD_eq_getElem?_getD]
      first | refine hK _ ?_ | refine ⟨Cond.mk (by first | omega | (simp [-List.getD_eq_getElem?_getD]; done) | (simp [-List.getD_eq_getElem?_getD]; omega) | (simp [-List.getD_eq_getElem?_getD]; repeat (first | intro _ | exact And.intro ‹_› ‹_› | apply And.intro | assumption | omega | exact decide_eq_true (by assumption)))), hK _ ?_⟩
      clear K hK
      refine awpS_ret ?_
      refine RetOK_of ?_
      simp [hG, List.getD_cons_zero, List.getD_cons_succ, -List.getD_eq_getElem?_getD]
      rw [Dfs.all hf hs hI]; exact fun _ _ => rfl

end Go.Proofs.Ytkmnnmclebdjlaa
