/- Parts of the proof: XE XF. -/
import Derived.Test.YthpdkmoedpcboaaGreatPO15
import Derived.Test.YthpdkmoedpcboaaGreatPO45
namespace Go.Proofs.YthpdkmoedpcboaaGreat
set_option linter.unusedSimpArgs false
set_option linter.unusedVariables false
open Go Go.Lift Go.Proofs
def adjL (g : Gr) : List (List Int) := (List.range g.n).map fun s => adj g s
theorem adjL_at {g : Gr} {s : Nat} (h : s < g.n) : (adjL g).getD s [] = adj g s := by simp [adjL, List.getD, h]
@[simp] theorem adjL_len {g : Gr} : (adjL g).length = g.n := by simp [adjL]
theorem adj_len {g : Gr} {s : Nat} : (adj g s).length ≤ g.edges.length := by
  unfold adj
  rw [List.length_map]
  exact List.length_filter_le _ _
theorem adj_lt {g : Gr} (hf : Fit g) {s i : Nat} (h : i < (adj g s).length) : 0 ≤ (adj g s).getD i 0 ∧ (adj g s).getD i 0 < g.states := by
  obtain ⟨x, hx, _, ht⟩ := adj_mem (getD_mem (d := 0) h)
  rw [← ht]
  exact hf.to x hx
def visH (g : Gr) (seen : List Bool) : Heap := [(0, .one (.arr g.n 1 (fun j _ => .bool (seen.getD j false)))), (1, .one (.arr 1 1 (fun _ _ => .fn 186 3 (fun j => [.vptr 1 (fun _ => .sl (0, 0) 0 g.n) 0, .vptr 1 (fun _ => rowsI (adjL g)) 0, .ptr (1, 0) 0 0].getD j .any))))]
abbrev VisC (g : Gr) (seen : List Bool) (s : Nat) : Prop := FC Tryz.prog 186 [.int .i64 s, .vptr 1 (fun _ => .sl (0, 0) 0 g.n) 0, .vptr 1 (fun _ => rowsI (adjL g)) 0, .ptr (1, 0) 0 0] (visH g seen) 2 (fun x => Dfs g seen x s) (fun _ => .any) (fun x => visH g x) (fun _ => 2)
attribute [simp] visH
@[simp] theorem rangep1 : List.range' 0 1 = [0] := rfl
@[simp] theorem rangep2 : List.range' 0 2 = [0, 1] := rfl
@[simp] theorem rangep3 : List.range' 0 3 = [0, 1, 2] := rfl
theorem set_at {seen : List Bool} {s j : Nat} (h : s < seen.length) : (if j = s then AVal.bool true else AVal.bool (seen.getD j false)) = .bool ((seen.set s true).getD j false) := by
  rw [getD_set]
  by_cases hj : j = s
  · rw [if_pos hj, if_pos ⟨hj, h⟩]
  · rw [if_neg hj, if_neg (fun e => hj e.1)]
theorem DfsM.fin {g : Gr} {seen c : List Bool} {s i : Nat} (h : DfsM g seen c s i) (hi : i = (adj g s).length) : Dfs g seen c s := by
  subst hi; exact h.done
set_option maxRecDepth 100000 in
theorem visit_c (g : Gr) (hf : Fit g) (hed : g.edges.length ≤ 1024) (seen : List Bool) (s : Nat) (hl : seen.length = g.n) (hs : s < g.n) (hn : seen.getD s false = false) (ih : ∀ (c : List Bool) (t : Nat), c.length = g.n → t < g.n → c.getD t false = false → unseen c < unseen seen → VisC g c t) : FC Tryz.prog 186 [.int .i64 s, .vptr 1 (fun _ => .sl (0, 0) 0 g.n) 0, .vptr 1 (fun _ => rowsI (adjL g)) 0, .ptr (1, 0) 0 0] [(0, .one (.arr g.n 1 (fun j _ => .bool ((seen).getD j false)))), (1, .one (.arr 1 1 (fun _ _ => .fn 186 3 (fun j => [.vptr 1 (fun _ => .sl (0, 0) 0 g.n) 0, .vptr 1 (fun _ => rowsI (adjL g)) 0, .ptr (1, 0) 0 0].getD j .any))))] 2 (fun x => Dfs g seen x s) (fun x => .any) (fun x => [(0, .one (.arr g.n 1 (fun j _ => .bool ((x).getD j false)))), (1, .one (.arr 1 1 (fun _ _ => .fn 186 3 (fun j => [.vptr 1 (fun _ => .sl (0, 0) 0 g.n) 0, .vptr 1 (fun _ => rowsI (adjL g)) 0, .ptr (1, 0) 0 0].getD j .any))))]) (fun x => 2) := by
 have hst := hf.st
 have hnn : (g.n : Int) = g.states := (by unfold Gr.n; omega)
 have hA := adjL_at hs
 have hAl := adj_len (g := g) (s := s)
 have hAl2 : ((adjL g).getD s []).length ≤ 1024 := (by rw [hA]; omega)
 refine FC_introS T_ok Tryz.func186 rfl (by simp [Tryz.ntmps186]) fun G hG hR => ?_
 simp only [Tryz.ntmps186, Tryz.results186] at hG ⊢
 simp only [argEnv, Nat.zero_add, Nat.reduceAdd]
 refine zs (zr ?_)
 refine zs (zr ?_)
 refine zb ?_
 refine awpS_loop (α := Nat × List Bool) (fun p => ⟨[(0, .int .i64 s), (1, .vptr 1 (fun _ => .sl (0, 0) 0 g.n) 0), (2, .vptr 1 (fun _ => rowsI (adjL g)) 0), (3, .ptr (1, 0) 0 0), (13, ints ((adjL g).getD s [])), (14, .int .i64 ((adjL g).getD s []).length), (15, .int .i64 p.1)], [(0, .one (.arr g.n 1 (fun j _ => .bool ((p.2).getD j false)))), (1, .one (.arr 1 1 (fun _ _ => .fn 186 3 (fun j => [.vptr 1 (fun _ => .sl (0, 0) 0 g.n) 0, .vptr 1 (fun _ => rowsI (adjL g)) 0, .ptr (1, 0) 0 0].getD j .any))))], 2⟩) (fun p => DfsM g seen p.2 s p.1 ∧ p.1 ≤ ((adjL g).getD s []).length) (fun p => ((adjL g).getD s []).length - p.1) ((0, seen.set s true)) (⟨DfsM.first hl hs, Nat.zero_le _⟩) ?_ ?_
 · refine wk_of (id) (fun _ => false) (fun _ => false) ?_ ?_ rfl (by simp) (fun k hk => by first | exact ⟨rfl, rfl⟩ | (revert k; decide) | (obtain rfl : k = 0 := (by omega); exact ⟨rfl, rfl⟩) | (have hk2 : k = 0 ∨ k = 1 := (by omega); rcases hk2 with rfl | rfl <;> exact ⟨rfl, rfl⟩))
   · simp [hG, List.getD_cons_zero, List.getD_cons_succ, -List.getD_eq_getElem?_getD]
   simp [hG, List.getD_cons_zero, List.getD_cons_succ, -List.getD_eq_getElem?_getD]; exact fun j _ => set_at (by omega)
 rintro ⟨i, c⟩ ⟨hm, hi⟩
 simp only at hm hi
 refine zs (zr ?_)
 refine zs (zy (fun hb16 => ?_) fun hb16 => ?_)
 · have hlt := adj_lt hf (s := s) (i := i) (by rw [hA] at hb16; exact hb16)
   rw [← hA] at hlt
   refine zk (zs (zb (zs (zr ?_))))
   refine zs (zr ?_)
   refine zy (fun hb23 => ?_) fun hb23 => ?_
   · refine zL (zl 2 ?_)
     refine zf cal186 [0, 1] (ih c (((adjL g).getD s []).getD i 0).toNat hm.len (by omega) (by simpa using hb23) (unseen_less hl hs hn hm)) (fun c2 hI hno => ?_) (b := by simp [hG, List.getD_cons_zero, List.getD_cons_succ, -List.getD_eq_getElem?_getD]; omega)
     refine zN (zn (zbn (zr ?_)))
     refine zn ?_
     refine round_end ((i + 1, c2)) (by exact ⟨hm.call hf (by rw [hA] at hb16; exact hb16) (by rw [hA] at hI; exact hI), hb16⟩) (by show ((adjL g).getD s []).length - (i + 1) < ((adjL g).getD s []).length - i; omega) ?_
     refine wk_of (id) (fun _ => false) (fun _ => false) ?_ ?_ rfl (by simp) (fun k hk => by first | exact ⟨rfl, rfl⟩ | (revert k; decide) | (obtain rfl : k = 0 := (by omega); exact ⟨rfl, rfl⟩) | (have hk2 : k = 0 ∨ k = 1 := (by omega); rcases hk2 with rfl | rfl <;> exact ⟨rfl, rfl⟩))
     · simp [hG, List.getD_cons_zero, List.getD_cons_succ, -List.getD_eq_getElem?_getD]
     simp [hG, List.getD_cons_zero, List.getD_cons_succ, -List.getD_eq_getElem?_getD]
   refine zk (zn (zbn (zr ?_)))
   refine zn ?_
   refine round_end ((i + 1, c)) (by exact ⟨hm.skip (by rw [hA] at hb23; simpa using hb23), hb16⟩) (by show ((adjL g).getD s []).length - (i + 1) < ((adjL g).getD s []).length - i; omega) ?_
   refine wk_of (id) (fun _ => false) (fun _ => false) ?_ ?_ rfl (by simp) (fun k hk => by first | exact ⟨rfl, rfl⟩ | (revert k; decide) | (obtain rfl : k = 0 := (by omega); exact ⟨rfl, rfl⟩) | (have hk2 : k = 0 ∨ k = 1 := (by omega); rcases hk2 with rfl | rfl <;> exact ⟨rfl, rfl⟩))
   · simp [hG, List.getD_cons_zero, List.getD_cons_succ, -List.getD_eq_getElem?_getD]
   simp [hG, List.getD_cons_zero, List.getD_cons_succ, -List.getD_eq_getElem?_getD]
 refine zx (ztx (zbx (zn ?_)))
 refine RetF_of (c) (id) (fun _ => false) (fun _ => false) (DfsM.fin hm (by rw [hA] at hi hb16; omega)) ?_ ?_ (by rfl) (by simp) (fun k _ => ⟨rfl, rfl⟩)
 · simp [hG, List.getD_cons_zero, List.getD_cons_succ, -List.getD_eq_getElem?_getD]
 simp [hG, List.getD_cons_zero, List.getD_cons_succ, -List.getD_eq_getElem?_getD]
end Go.Proofs.YthpdkmoedpcboaaGreat
namespace Go.Proofs.YthpdkmoedpcboaaGreat
set_option linter.unusedSimpArgs false
set_option linter.unusedVariables false
open Go Go.Lift Go.Proofs
theorem visit_all (g : Gr) (hf : Fit g) (hed : g.edges.length ≤ 1024) : ∀ (k : Nat) (seen : List Bool) (s : Nat), unseen seen ≤ k → seen.length = g.n → s < g.n → seen.getD s false = false → VisC g seen s := by
  intro k
  induction k with
  | zero =>
    intro seen s hk hl hs hn
    have := unseen_set (l := seen) (s := s) (by omega) hn
    omega
  | succ k ih =>
    intro seen s hk hl hs hn
    exact visit_c g hf hed seen s hl hs hn fun c t h1 h2 h3 h4 => ih c t (by omega) h1 h2 h3
def adjAt (g : Gr) (i s : Nat) : List Int := ((g.edges.take i).filter fun x => decide (x.frm = (s : Int))).map Edge.to
@[simp] theorem adjAt_zero {g : Gr} {s : Nat} : adjAt g 0 s = [] := rfl
theorem adjAt_all {g : Gr} {i s : Nat} (h : g.edges.length ≤ i) : adjAt g i s = adj g s := by unfold adjAt; rw [List.take_of_length_le h]; rfl
theorem adjAt_succ {g : Gr} {i s : Nat} (h : i < g.edges.length) : adjAt g (i + 1) s = if (g.edges.getD i de).frm = (s : Int) then adjAt g i s ++ [(g.edges.getD i de).to] else adjAt g i s := by
  unfold adjAt
  rw [List.take_add_one, List.filter_append, List.map_append]
  have : g.edges[i]?.toList = [g.edges.getD i de] := by simp [List.getD, List.getElem?_eq_getElem h]
  rw [this]
  by_cases hx : (g.edges.getD i de).frm = (s : Int)
  · rw [if_pos hx]; simp only [List.filter_cons, hx, decide_true, if_true, List.filter_nil, List.map_cons, List.map_nil]
  · rw [if_neg hx]; simp only [List.filter_cons, hx, decide_false, if_false, List.filter_nil, List.map_nil, List.append_nil, Bool.false_eq_true]
theorem adjAt_len {g : Gr} {i s : Nat} : (adjAt g i s).length ≤ g.edges.length := by
  unfold adjAt
  rw [List.length_map]
  refine Nat.le_trans (List.length_filter_le _ _) ?_
  rw [List.length_take]
  omega
theorem repl_at {n j : Nat} : (List.replicate n false).getD j false = false := by
  simp only [List.getD_eq_getElem?_getD, List.getElem?_replicate]
  split <;> rfl
theorem getD_app {α : Type} {l m : List α} {i : Nat} {d : α} : (l ++ m).getD i d = if i < l.length then l.getD i d else m.getD (i - l.length) d := by
  by_cases h : i < l.length
  · simp [h, List.getD_eq_getElem?_getD, List.getElem?_append_left]
  · simp [h, List.getD_eq_getElem?_getD, List.getElem?_append_right (Nat.le_of_not_lt h)]
theorem app_one {l : List Int} {v : Int} {g : Nat → Nat → AVal} {i : Nat} (h : i < l.length + 1) : app (fun i _ => .int .i64 (l.getD i 0)) l.length (fun i j => if i = 0 ∧ j = 0 then .int .i64 v else g i j) i 0 = .int .i64 ((l ++ [v]).getD i 0) := by
  rw [getD_app]
  unfold app
  by_cases h2 : i < l.length
  · rw [if_pos h2, if_pos h2]
  · have : i - l.length = 0 := by omega
    rw [if_neg h2, if_neg h2, this]
    rfl
set_option maxRecDepth 100000 in
theorem reach_c (g : Gr) (s : Nat) (hf : Fit g) (hed : g.edges.length ≤ 1024) (hs : s < g.n) : PC Tryz.prog 165 [.agg 3 (grF g), .int .i64 s] (bools (reachL g s)) := by
 have hst := hf.st
 have hnn : (g.n : Int) = g.states := (by unfold Gr.n; omega)
 refine zp Tryz.func165 fun G hG hR => ?_
 refine zs (zr ?_)
 refine zs (zr ?_)
 refine zs (zs (zr ?_))
 refine zb ?_
 refine awpS_loop (α := Nat) (fun i => ⟨[(1, .int .i64 s), (2, .ptr (0, 0) 0 0), (5, .ptr (2, 0) 0 0), (14, edgesC g.edges), (15, .int .i64 g.edges.length), (16, .int .i64 i)], [(0, .one (.arr 1 3 (fun _ => grF g))), (1, .fam (.arr g.n 1 (fun j _ => .sl (1, j + 1) 0 (adjAt g i j).length)) (fun j => some (.arr (adjAt g i j).length 1 (fun q _ => .int .i64 ((adjAt g i j).getD q 0))))), (2, .one (.arr 1 1 (fun _ _ => .sl (1, 0) 0 g.n)))], 3⟩) (fun i => i ≤ g.edges.length) (fun i => g.edges.length - i) (0) (Nat.zero_le _) ?_ ?_
 · refine wk_ofI (id) (fun _ => false) (fun d => decide (d.1 = 1 ∧ 0 < d.2)) ?_ ?_ ?_ (Nat.zero_le _) (fun d hd => absurd hd (Nat.not_lt_zero _))
   · simp [hG, List.getD_cons_zero, List.getD_cons_succ, -List.getD_eq_getElem?_getD]
   · simp [hG, List.getD_cons_zero, List.getD_cons_succ, -List.getD_eq_getElem?_getD]; exact ⟨Nat.le_of_eq rfl, rfl⟩
   exact fun id id' _ _ _ _ h => h
 rintro i hi
 refine zs (zr ?_)
 refine zs (zy (fun hb17 => ?_) fun hb17 => ?_)
 · have hfr := hf.frm _ (getD_mem (d := de) (by simpa using hb17))
   have hto := hf.to _ (getD_mem (d := de) (by simpa using hb17))
   have hal := adjAt_len (g := g) (i := i) (s := (g.edges.getD i de).frm.toNat)
   refine zk (zs (zb (zs (zr ?_))))
   refine awpS_draw hR mixed [] ⟨[13], [11], [(1, 0), (2, 0), (3, 0)]⟩ fun mu0 => ?_
   refine za [0, 1, 2, 3, 4, 5, 6, 7, 8, 9] [] 4 [9, 8, 7, 6, 5, 4, 3, 2, 1, 0] ?_
   refine awpA_only (fuel := 3) (i := 10) (by decide +kernel) ?_
   refine zo ?_
   refine awpA_only (fuel := 2) (i := 11) (by decide +kernel) ?_
   refine zo ?_
   refine za [12] [] 1 [12, 11, 10, 9, 8, 7, 6, 5, 4, 3, 2, 1, 0] ?_
   refine awpA_only (fuel := 0) (i := 13) (by decide +kernel) ?_
   refine zo ?_
   refine awpA_done (by decide +kernel) ?_
   refine zn (zbn (zr ?_))
   refine zn ?_
   refine round_end (i + 1) (by omega) (by omega) ?_
   refine wk_ofI (fun d => if d = (1, (g.edges.getD i de).frm.toNat + 1) then (5, 0) else d) (fun _ => false) (fun _ => false) ?_ ?_ ?_ (Nat.zero_le _) (fun d hd => absurd hd (Nat.not_lt_zero _))
   · simp [hG, List.getD_cons_zero, List.getD_cons_succ, -List.getD_eq_getElem?_getD]
   · simp [hG, List.getD_cons_zero, List.getD_cons_succ, -List.getD_eq_getElem?_getD]
     generalize hv : (g.edges.getD i de).frm.toNat = v
     have hfv : (g.edges.getD i de).frm = (v : Int) := by omega
     refine ⟨fun j _ => .inl ?_, fun j => ?_⟩
     · by_cases h : j = v
       · subst h; rw [if_pos rfl, if_pos rfl, adjAt_succ hb17, if_pos hfv]; simp
       rw [if_neg h, if_neg h, adjAt_succ hb17, if_neg (by omega)]
     by_cases h : j = v
     · subst h
       rw [adjAt_succ hb17, if_pos hfv]
       simp [HLe, -List.getD_eq_getElem?_getD]
       intro q hq
       exact app_one hq
     rw [adjAt_succ hb17, if_neg (by omega)]
     simp [HLe, h]
   intro d d' h1 h2 _ _ h
   split at h <;> split at h
   · simp_all
   · subst h; simp [lkH] at h2
   · subst h; simp [lkH] at h1
   exact h
 refine zx (ztx (zbx (zs (zr ?_))))
 refine zs (zr ?_)
 refine zs (zr ?_)
 refine zs ?_
 refine awpS_wk (st2 := ⟨[(1, .int .i64 s), (8, .vptr 1 (fun _ => .sl (0, 0) 0 g.n) 0), (9, .ptr (1, 0) 0 0)], [(0, .one (.arr g.n 1 (fun j _ => .bool ((List.replicate g.n false).getD j false)))), (1, .one (.arr 1 1 (fun _ _ => .fn 186 3 (fun j => [.vptr 1 (fun _ => .sl (0, 0) 0 g.n) 0, .vptr 1 (fun _ => rowsI (adjL g)) 0, .ptr (1, 0) 0 0].getD j .any))))], 2⟩) ?_ ?_
 · exact zw (fun k => if k = 0 then 3 else 5) (fun k => k == 4 || k == 2 || k == 1) (fun _ => false) (e := by simp [hG, List.getD_cons_zero, List.getD_cons_succ, -List.getD_eq_getElem?_getD]; rfl) (h := by simp [hG, List.getD_cons_zero, List.getD_cons_succ, -List.getD_eq_getElem?_getD]; exact ⟨⟨Nat.le_of_eq rfl, fun j _ => repl_at⟩, rfl, fun j hj => by rw [adjAt_all hb17, adjL_at hj]; exact ⟨rfl, Nat.le_refl _, fun _ _ => rfl⟩⟩)
 refine zL (zl 2 ?_)
 refine zf cal186 [0, 1] (visit_all g hf hed g.n (List.replicate g.n false) s (by have := unseen_le (List.replicate g.n false); simpa using this) (by simp) hs (by simp only [List.getD_eq_getElem?_getD, List.getElem?_replicate]; split <;> rfl)) (fun c hI hno => ?_)
 refine zN (zs (zr ?_))
 refine zt ?_
 refine RetOK_of ?_
 simp [hG, List.getD_cons_zero, List.getD_cons_succ, -List.getD_eq_getElem?_getD]
 rw [Dfs.all hf hs hI]; exact fun _ _ => rfl
end Go.Proofs.YthpdkmoedpcboaaGreat
