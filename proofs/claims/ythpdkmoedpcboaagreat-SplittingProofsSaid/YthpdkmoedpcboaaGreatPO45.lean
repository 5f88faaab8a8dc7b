/- Parts of the proof: XD. -/
import Derived.Test.YthpdkmoedpcboaaGreatPO15
import Derived.Test.YthpdkmoedpcboaaGreatPO43
import Derived.Test.YthpdkmoedpcboaaGreatPO44
namespace Go.Proofs.YthpdkmoedpcboaaGreat
set_option linter.unusedSimpArgs false
set_option linter.unusedVariables false
open Go Go.Lift Go.Proofs
theorem bs_found {l : List Int} (hs : l.Pairwise (· < ·)) {v : Int} {i : Nat} (h : rankI l v = i) : (decide (i < l.length) && decide (l.getD i 0 = v)) = hasI l v := by
  rw [Bool.eq_iff_iff, Bool.and_eq_true, decide_eq_true_eq, decide_eq_true_eq]
  unfold hasI
  rw [decide_eq_true_eq]
  constructor
  · rintro ⟨h1, h2⟩; rw [← h2]; exact getD_mem h1
  · intro hm
    rw [← h]
    exact ⟨rank_lt hs hm, at_rank hs hm⟩
theorem bs_up {l : List Int} (hs : l.Pairwise (· < ·)) {v : Int} {i j : Nat} (h : i < j) (hj : j ≤ l.length) (hv : l.getD ((i + j) / 2) 0 < v) : ∀ k, k < (i + j) / 2 + 1 → l.getD k 0 < v := fun k hk => by
  by_cases e : k = (i + j) / 2
  · rw [e]; exact hv
  · have := asc_lt hs (i := k) (j := (i + j) / 2) (by omega) (by omega); omega
theorem bs_down {l : List Int} (hs : l.Pairwise (· < ·)) {v : Int} {i j : Nat} (h : i < j) (hj : j ≤ l.length) (hv : v ≤ l.getD ((i + j) / 2) 0) : ∀ k, (i + j) / 2 ≤ k → k < l.length → ¬ l.getD k 0 < v := fun k hk hl => by
  by_cases e : k = (i + j) / 2
  · rw [e]; omega
  · have := asc_lt hs (i := (i + j) / 2) (j := k) hl (by omega); omega
set_option maxRecDepth 100000 in
theorem nanS_c (n : Int) : PC Tryz.prog 185 [.int .i64 n] (.bool false) := by
 refine zp Tryz.func185 fun G hG hR => ?_
 refine zs (zr ?_)
 refine zs (zr ?_)
 refine zt ?_
 exact zR
set_option maxRecDepth 100000 in
theorem bsearch_c (l : List Int) (v : Int) (hl : l.length ≤ 1000000) (hs : l.Pairwise (· < ·)) : PC Tryz.prog 163 [ints l, .int .i64 v] (.tup 2 (fun j => [.int .i64 (rankI l v : Int), .bool (hasI l v)].getD j .any)) := by
 refine zp Tryz.func163 fun G hG hR => ?_
 refine zs (zr ?_ (h := by intro c K h; simp [hG, List.getD_cons_zero, List.getD_cons_succ, -List.getD_eq_getElem?_getD, half_nat]; first | exact z1 c h | exact ⟨.mk c, h⟩))
 refine zs (zr ?_ (h := by intro c K h; simp [hG, List.getD_cons_zero, List.getD_cons_succ, -List.getD_eq_getElem?_getD, half_nat]; first | exact z1 c h | exact ⟨.mk c, h⟩))
 refine zs (zr ?_ (h := by intro c K h; simp [hG, List.getD_cons_zero, List.getD_cons_succ, -List.getD_eq_getElem?_getD, half_nat]; first | exact z1 c h | exact ⟨.mk c, h⟩))
 refine zs (zb ?_)
 refine awpS_loop (α := Nat × Nat) (fun p => ⟨[(0, ints l), (1, .int .i64 v), (6, .int .i64 l.length), (7, .int .i64 p.1), (8, .int .i64 p.2)], [], 0⟩) (fun p => p.1 ≤ p.2 ∧ p.2 ≤ l.length ∧ (∀ k, k < p.1 → l.getD k 0 < v) ∧ (∀ k, p.2 ≤ k → k < l.length → ¬ l.getD k 0 < v)) (fun p => p.2 - p.1) ((0, l.length)) (⟨Nat.zero_le _, Nat.le_refl _, fun k h => absurd h (Nat.not_lt_zero _), fun k h1 h2 => absurd h2 (by simp only at h1; omega)⟩) ?_ ?_
 · exact zi (e := by simp [hG, List.getD_cons_zero, List.getD_cons_succ, -List.getD_eq_getElem?_getD, half_nat]) (h := by simp [hG, List.getD_cons_zero, List.getD_cons_succ, -List.getD_eq_getElem?_getD, half_nat])
 rintro ⟨i, j⟩ ⟨hij, hjl, h1, h2⟩
 simp only at hij hjl h1 h2
 refine zs (zs (zr ?_ (h := by intro c K h; simp [hG, List.getD_cons_zero, List.getD_cons_succ, -List.getD_eq_getElem?_getD, half_nat]; first | exact z1 c h | exact ⟨.mk c, h⟩)))
 refine zy (fun hb15 => ?_) fun hb15 => ?_
 · refine zk (zb (zs (zr ?_ (h := by intro c K h; simp [hG, List.getD_cons_zero, List.getD_cons_succ, -List.getD_eq_getElem?_getD, half_nat]; first | exact z1 c h | exact ⟨.mk c, h⟩))))
   refine zs (zL (zl 5 ?_ (h := by intro c K h; simp [hG, List.getD_cons_zero, List.getD_cons_succ, -List.getD_eq_getElem?_getD, half_nat]; first | exact z1 c h | exact ⟨.mk c, h⟩)))
   refine zc cal139 (less_c (l.getD ((i + j) / 2) 0) v) ?_ (a := fun hg => by simp [hG, List.getD_cons_zero, List.getD_cons_succ, -List.getD_eq_getElem?_getD, half_nat]) (b := fun hg => by simp [hG, List.getD_cons_zero, List.getD_cons_succ, -List.getD_eq_getElem?_getD, half_nat]) (h := by intro K h; simp [hG, List.getD_cons_zero, List.getD_cons_succ, -List.getD_eq_getElem?_getD, half_nat]; exact h)
   refine zN (zy (fun hb27 => ?_) fun hb27 => ?_)
   · refine zr ?_ (h := by intro c K h; simp [hG, List.getD_cons_zero, List.getD_cons_succ, -List.getD_eq_getElem?_getD, half_nat]; first | exact z1 c h | exact ⟨.mk c, h⟩)
     refine zn (zbn (zn ?_))
     refine round_end (((i + j) / 2 + 1, j)) (by exact ⟨by simp only; omega, hjl, bs_up hs hb15 hjl hb27, h2⟩) (by simp only; omega) ?_
     exact zi (e := by simp [hG, List.getD_cons_zero, List.getD_cons_succ, -List.getD_eq_getElem?_getD, half_nat]) (h := by simp [hG, List.getD_cons_zero, List.getD_cons_succ, -List.getD_eq_getElem?_getD, half_nat])
   refine zr ?_ (h := by intro c K h; simp [hG, List.getD_cons_zero, List.getD_cons_succ, -List.getD_eq_getElem?_getD, half_nat]; first | exact z1 c h | exact ⟨.mk c, h⟩)
   refine zn (zbn (zn ?_))
   refine round_end ((i, (i + j) / 2)) (by exact ⟨by simp only; omega, by simp only; omega, h1, bs_down hs hb15 hjl hb27⟩) (by simp only; omega) ?_
   exact zi (e := by simp [hG, List.getD_cons_zero, List.getD_cons_succ, -List.getD_eq_getElem?_getD, half_nat]) (h := by simp [hG, List.getD_cons_zero, List.getD_cons_succ, -List.getD_eq_getElem?_getD, half_nat])
 refine zx (ztx (zbx (zs (zL (zl 16 ?_ (h := by intro c K h; simp [hG, List.getD_cons_zero, List.getD_cons_succ, -List.getD_eq_getElem?_getD, half_nat]; first | exact z1 c h | exact ⟨.mk c, h⟩) (c := by simp [-List.getD_eq_getElem?_getD]; repeat' (first | intro _ | assumption | apply And.intro | omega | exact decide_eq_true (by assumption))))))))
 refine zc cal185 (nanS_c (l.getD i 0)) ?_ (a := fun hg => by first | (simp [hG, List.getD_cons_zero, List.getD_cons_succ, -List.getD_eq_getElem?_getD, half_nat]; done) | (simp [-List.getD_eq_getElem?_getD] at hg; done) | (simp [-List.getD_eq_getElem?_getD] at hg; simp [hG, List.getD_cons_zero, List.getD_cons_succ, -List.getD_eq_getElem?_getD, half_nat]; first | omega | exact hg | (simp_all [-List.getD_eq_getElem?_getD]; done) | (simp_all [-List.getD_eq_getElem?_getD]; first | exact ⟨rfl, rfl⟩ | exact rfl))) (b := fun hg => by first | (simp [hG, List.getD_cons_zero, List.getD_cons_succ, -List.getD_eq_getElem?_getD, half_nat]; done) | (simp [-List.getD_eq_getElem?_getD] at hg; done) | (simp [-List.getD_eq_getElem?_getD] at hg; simp [hG, List.getD_cons_zero, List.getD_cons_succ, -List.getD_eq_getElem?_getD, half_nat]; first | omega | exact hg | (simp_all [-List.getD_eq_getElem?_getD]; done) | (simp_all [-List.getD_eq_getElem?_getD]; first | exact ⟨rfl, rfl⟩ | exact rfl))) (h := by intro K h; simp [hG, List.getD_cons_zero, List.getD_cons_succ, -List.getD_eq_getElem?_getD, half_nat]; exact h)
 refine zl 2 ?_ (h := by intro c K h; simp [hG, List.getD_cons_zero, List.getD_cons_succ, -List.getD_eq_getElem?_getD, half_nat]; first | exact z1 c h | exact ⟨.mk c, h⟩) (c := by simp [-List.getD_eq_getElem?_getD]; repeat' (first | intro _ | assumption | apply And.intro | omega | exact decide_eq_true (by assumption)))
 refine zc cal185 (nanS_c v) ?_ (a := fun hg => by first | (simp [hG, List.getD_cons_zero, List.getD_cons_succ, -List.getD_eq_getElem?_getD, half_nat]; done) | (simp [-List.getD_eq_getElem?_getD] at hg; done) | (simp [-List.getD_eq_getElem?_getD] at hg; simp [hG, List.getD_cons_zero, List.getD_cons_succ, -List.getD_eq_getElem?_getD, half_nat]; first | omega | exact hg | (simp_all [-List.getD_eq_getElem?_getD]; done) | (simp_all [-List.getD_eq_getElem?_getD]; first | exact ⟨rfl, rfl⟩ | exact rfl))) (b := fun hg => by first | (simp [hG, List.getD_cons_zero, List.getD_cons_succ, -List.getD_eq_getElem?_getD, half_nat]; done) | (simp [-List.getD_eq_getElem?_getD] at hg; done) | (simp [-List.getD_eq_getElem?_getD] at hg; simp [hG, List.getD_cons_zero, List.getD_cons_succ, -List.getD_eq_getElem?_getD, half_nat]; first | omega | exact hg | (simp_all [-List.getD_eq_getElem?_getD]; done) | (simp_all [-List.getD_eq_getElem?_getD]; first | exact ⟨rfl, rfl⟩ | exact rfl))) (h := by intro K h; simp [hG, List.getD_cons_zero, List.getD_cons_succ, -List.getD_eq_getElem?_getD, half_nat]; exact h)
 refine zl 5 ?_ (h := by intro c K h; simp [hG, List.getD_cons_zero, List.getD_cons_succ, -List.getD_eq_getElem?_getD, half_nat]; first | exact z1 c h | exact ⟨.mk c, h⟩) (c := by simp [-List.getD_eq_getElem?_getD]; repeat' (first | intro _ | assumption | apply And.intro | omega | exact decide_eq_true (by assumption)))
 refine zN (zt ?_)
 refine RetOK_of ?_
 simp [hG, List.getD_cons_zero, List.getD_cons_succ, -List.getD_eq_getElem?_getD, half_nat]
 have hij2 : i = j := (by omega); have hrk : rankI l v = i := rank_between hs (by omega) h1 (by rw [hij2]; exact h2); exact ⟨by rw [hrk], bs_found hs hrk⟩
set_option maxRecDepth 100000 in
theorem keep_c (g : Gr) (c : List Int) (hc : c.Pairwise (· < ·)) (hl : c.length ≤ 64) (hed : g.edges.length ≤ 1024) : PC Tryz.prog 130 [.agg 3 (grF g), ints c] (.agg 3 (grF (keptG g c))) := by
 refine zp Tryz.func130 fun G hG hR => ?_
 refine zs (zr ?_)
 refine zs (zr ?_)
 refine zs (zs (zr ?_))
 refine zb ?_
 refine awpS_loop (α := Nat) (fun i => ⟨[(1, ints c), (2, .ptr (0, 0) 0 0), (4, .ptr (1, 0) 0 0), (5, .ptr (2, 0) 0 0), (18, edgesC g.edges), (19, .int .i64 g.edges.length), (20, .int .i64 i)], [(0, .one (.arr 1 3 (fun _ => grF g))), (1, .one (.arr 1 3 (fun _ j => [.int .i64 0, .int .i64 0, .nils].getD j .any))), (2, .one (.arr 1 3 (fun _ j => [.int .i64 g.labels, .int .i64 (c.length : Int), .sl (3, 0) 0 (keepE g c i).length].getD j .any))), (3, .one (.arr (keepE g c i).length 3 (fun q j => edgeF ((keepE g c i).getD q de) j)))], 4⟩) (fun i => i ≤ g.edges.length) (fun i => g.edges.length - i) (0) (Nat.zero_le _) ?_ ?_
 · exact zw (id) (fun _ => false) (fun k => k == 3)
 rintro i hi
 refine zs (zr ?_)
 refine zs (zy (fun hb21 => ?_) fun hb21 => ?_)
 · have hkl := keepE_len (g := g) (c := c) (i := i)
   refine zk (zs (zb (zs (zr ?_))))
   refine zs (zL (zl 3 ?_))
   refine zc cal163 (bsearch_c c (g.edges.getD i de).frm (by omega) hc) ?_
   refine zl 5 ?_
   refine zN (zs (zL (zl 3 ?_)))
   refine zc cal163 (bsearch_c c (g.edges.getD i de).to (by omega) hc) ?_
   refine zl 5 ?_
   refine zN (zs (zr ?_))
   refine zy (fun hb41 => ?_) fun hb41 => ?_
   · refine zr ?_ (c := by simp [-List.getD_eq_getElem?_getD]; repeat' (first | intro _ | assumption | apply And.intro | omega | exact decide_eq_true (by assumption)))
     refine zn (zbn (zr ?_))
     refine zn ?_
     refine round_end (i + 1) (by omega) (by omega) ?_
     exact zw (fun k => if k = 3 then 6 else k) (fun _ => false) (fun _ => false) (h := by simp [hG, List.getD_cons_zero, List.getD_cons_succ, -List.getD_eq_getElem?_getD]; rw [keepE_succ hb21, if_pos (by unfold inBoth; rw [hb41.1, hb41.2]; rfl)]; exact ⟨by simp, by simp, fun q hq => ⟨app_edge (j := 0) hq (by decide) (fun j hj => by rcases lt3 hj with rfl | rfl | rfl <;> rfl), app_edge (j := 1) hq (by decide) (fun j hj => by rcases lt3 hj with rfl | rfl | rfl <;> rfl), app_edge (j := 2) hq (by decide) (fun j hj => by rcases lt3 hj with rfl | rfl | rfl <;> rfl)⟩⟩)
   refine zk (zn (zbn (zr ?_)))
   refine zn ?_
   refine round_end (i + 1) (by omega) (by omega) ?_
   exact zi (h := by simp [hG, List.getD_cons_zero, List.getD_cons_succ, -List.getD_eq_getElem?_getD]; rw [keepE_succ hb21, if_neg (by unfold inBoth; intro h; rw [Bool.and_eq_true] at h; rw [hb41 h.1] at h; cases h.2)]; exact ⟨rfl, Nat.le_refl _, fun _ _ => ⟨rfl, rfl, rfl⟩⟩)
 refine zx (ztx (zbx (zs (zr ?_))))
 refine zt ?_
 refine RetOK_of ?_
 simp [hG, List.getD_cons_zero, List.getD_cons_succ, -List.getD_eq_getElem?_getD]
 obtain rfl : i = g.edges.length := (by omega); exact ⟨rfl, rfl, rfl, Nat.le_refl _, fun q _ => ⟨rfl, rfl, rfl⟩⟩
set_option maxRecDepth 100000 in
theorem checkSet_c (g : Gr) (c : List Int) (hc : c.Pairwise (· < ·)) (hr : ∀ x ∈ c, 0 ≤ x ∧ x < g.states) (hl : c.length ≤ 64) : PC Tryz.prog 129 [.agg 3 (grF g), ints c] (.int .i64 0) := by
 refine zp Tryz.func129 fun G hG hR => ?_
 refine zs (zr ?_)
 refine zs (zs (zr ?_))
 refine zb ?_
 refine awpS_loop (α := Nat) (fun i => ⟨[(1, ints c), (2, .ptr (0, 0) 0 0), (4, .int .i64 0), (7, ints c), (8, .int .i64 c.length), (9, .int .i64 i)], [(0, .one (.arr 1 3 (fun _ => grF g)))], 1⟩) (fun i => i ≤ c.length) (fun i => c.length - i) (0) (Nat.zero_le _) ?_ ?_
 · exact zi
 rintro i hi
 refine zs (zr ?_)
 refine zs (zy (fun hb10 => ?_) fun hb10 => ?_)
 · have hx := hr _ (getD_mem (d := 0) (show i < c.length by simpa using hb10))
   have hlt : 0 < i → c.getD (i - 1) 0 < c.getD i 0 := fun h => asc_lt hc (by simpa using hb10) (by omega)
   refine zk (zs (zb (zs (zr ?_))))
   refine zs (zs (zr ?_))
   refine zy (fun hb21 => ?_) fun hb21 => ?_
   · refine zs (zr ?_)
     refine zt (zbt (ztt (zbt ?_)))
     refine RetOK_of ?_
     simp [hG, List.getD_cons_zero, List.getD_cons_succ, -List.getD_eq_getElem?_getD]
     omega
   refine zk (zs (zr ?_))
   refine zy (fun hb32 => ?_) fun hb32 => ?_
   · refine zs (zr ?_)
     refine zt (zbt (ztt (zbt ?_)))
     refine RetOK_of ?_
     simp [hG, List.getD_cons_zero, List.getD_cons_succ, -List.getD_eq_getElem?_getD]
     have := hlt hb32.1; omega
   refine zk (zn (zbn (zr ?_)))
   refine zn ?_
   refine round_end (i + 1) (by omega) (by omega) ?_
   exact zi
 refine zx (ztx (zbx (zs (zr ?_))))
 refine zt ?_
 exact zR
set_option maxRecDepth 100000 in
theorem keepM_c (g : Gr) (c : List Int) (hv : gcheck g = 0) (hc : c.Pairwise (· < ·)) (hr : ∀ x ∈ c, 0 ≤ x ∧ x < g.states) (hl : c.length ≤ 64) : PC Tryz.prog 92 [.agg 3 (grF g), ints c] (.tup 2 (fun j => [.agg 3 (grF (keptG g c)), .int .i64 0].getD j .any)) := by
 have hed := (gcheck_valid hv).1.ed
 refine zp Tryz.func92 fun G hG hR => ?_
 refine zs (zr ?_)
 refine zs (zs (zL (zl 1 ?_)))
 refine zc cal66 (checkC_c g) ?_
 refine zl 1 ?_
 refine zN ?_
 refine awpS_cond rfl (fun hb9 => ?_) (fun hb9 => ?_)
 · exfalso; simp [hv] at hb9
 try simp [-List.getD_eq_getElem?_getD] at hb9
 refine zk (zs (zs (zL (zl 2 ?_))))
 refine zc cal129 (checkSet_c g c hc hr hl) ?_
 refine zl 1 ?_
 refine zN (zs (zr ?_))
 refine awpS_cond rfl (fun hb15 => ?_) (fun hb15 => ?_)
 · exfalso; simp at hb15
 try simp [-List.getD_eq_getElem?_getD] at hb15
 refine zk (zs (zL (zl 2 ?_)))
 refine zc cal130 (keep_c g c hc hl hed) ?_
 refine zl 2 ?_
 refine zN (zt ?_)
 exact zR
set_option maxRecDepth 100000 in
theorem supM_c (v : List Int) (hl : v.length ≤ 1000000) : PC Tryz.prog 56 [ints v] (ints (supL v)) := by
 refine zp Tryz.func56 fun G hG hR => ?_
 refine zs (zr ?_)
 refine zs (zr ?_)
 refine zs (zs (zr ?_))
 refine zb ?_
 refine awpS_loop (α := Nat) (fun i => ⟨[(3, .sl (0, 0) 0 (supA v i).length), (6, ints v), (7, .int .i64 v.length), (8, .int .i64 (i : Nat))], [(0, .one (.arr (supA v i).length 1 (fun k _ => .int .i64 ((supA v i).getD k 0))))], 1⟩) (fun i => i ≤ v.length) (fun i => v.length - i) (0) (Nat.zero_le _) ?_ ?_
 · exact zw (id) (fun _ => false) (fun k => k == 0) (e := by rw [supA_zero]; simp [hG, List.getD_cons_zero, List.getD_cons_succ, -List.getD_eq_getElem?_getD]) (h := by rw [supA_zero]; simp [hG, List.getD_cons_zero, List.getD_cons_succ, -List.getD_eq_getElem?_getD])
 rintro i hi
 refine zs (zr ?_)
 refine zs (zy (fun hb9 => ?_) fun hb9 => ?_)
 · have hsn := supA_len (v := v) i
   refine zk (zs (zb (zs (zr ?_))))
   refine zs (zr ?_)
   refine zy (fun hb14 => ?_) fun hb14 => ?_
   · have hsu := supA_yes hb14
     refine zr ?_
     refine zn (zbn (zr ?_))
     refine zn ?_
     refine round_end (i + 1) (by omega) (by omega) ?_
     exact zw (fun k => if k = 0 then 2 else k) (fun _ => false) (fun _ => false) (e := by rw [hsu]; simp [hG, List.getD_cons_zero, List.getD_cons_succ, -List.getD_eq_getElem?_getD]) (h := by rw [hsu]; simp [hG, List.getD_cons_zero, List.getD_cons_succ, -List.getD_eq_getElem?_getD]; exact fun q hq => app_oneI rfl hq)
   have hsu := supA_no (v := v) (i := i) (by omega)
   refine zk (zn (zbn (zr ?_)))
   refine zn ?_
   refine round_end (i + 1) (by omega) (by omega) ?_
   exact zi (e := by rw [hsu]; simp [hG, List.getD_cons_zero, List.getD_cons_succ, -List.getD_eq_getElem?_getD]) (h := by rw [hsu]; simp [hG, List.getD_cons_zero, List.getD_cons_succ, -List.getD_eq_getElem?_getD])
 obtain rfl : i = v.length := (by omega)
 refine zx (ztx (zbx (zs (zr ?_))))
 refine zt ?_
 refine RetOK_of ?_
 simp [hG, List.getD_cons_zero, List.getD_cons_succ, -List.getD_eq_getElem?_getD]
 exact ⟨rfl, Nat.le_refl _, fun _ _ => rfl⟩
set_option maxRecDepth 100000 in
theorem keepW_c (g : Gr) (v : List Int) (c : List Int) (hv : gcheck g = 0) (hvl : (v.length : Int) = g.states) (hc : c.Pairwise (· < ·)) (hr : ∀ x ∈ c, 0 ≤ x ∧ x < g.states) (hl : c.length ≤ 64) : PC Tryz.prog 55 [.agg 3 (grF g), ints v, ints c] (.tup 2 (fun j => [.agg 3 (grF (keptG g c)), ints (pickL v c)].getD j .any)) := by
 refine zp Tryz.func55 fun G hG hR => ?_
 refine zs (zr ?_)
 refine zs (zL (zl 2 ?_))
 refine zc cal92 (keepM_c g c hv hc hr hl) ?_
 refine zl 6 ?_
 refine zN (zs (zr ?_))
 refine zs (zs (zr ?_))
 refine zb ?_
 refine awpS_loop (α := Nat) (fun i => ⟨[(1, ints v), (6, .ptr (1, 0) 0 0), (8, .ptr (2, 0) 0 0), (10, .sl (3, 0) 0 (pickL v (c.take i)).length), (19, ints c), (20, .int .i64 c.length), (21, .int .i64 (i : Nat))], [(0, .one (.arr 1 3 (fun _ => grF g))), (1, .one (.arr 1 3 (fun _ j => [.int .i64 0, .int .i64 0, .nils].getD j .any))), (2, .one (.arr 1 3 (fun _ j => grF (keptG g c) j))), (3, .one (.arr (pickL v (c.take i)).length 1 (fun k _ => .int .i64 ((pickL v (c.take i)).getD k 0))))], 4⟩) (fun i => i ≤ c.length) (fun i => c.length - i) (0) (Nat.zero_le _) ?_ ?_
 · exact zw (id) (fun _ => false) (fun k => k == 3) (e := by rw [pick_zero]; simp [hG, List.getD_cons_zero, List.getD_cons_succ, -List.getD_eq_getElem?_getD]) (h := by rw [pick_zero]; simp [hG, List.getD_cons_zero, List.getD_cons_succ, -List.getD_eq_getElem?_getD])
 rintro i hi
 refine zs (zr ?_)
 refine zs (zy (fun hb22 => ?_) fun hb22 => ?_)
 · have hil : i < c.length := (by omega)
   have hbi := hr _ (getD_mem (d := (0 : Int)) hil)
   have hps := pick_next (l := v) hil
   have hpl : (pickL v (c.take i)).length = i := (by rw [pickL_len, List.length_take]; omega)
   refine zk (zs (zb (zs (zr ?_))))
   refine zr ?_
   refine zn (zbn (zr ?_))
   refine zn ?_
   refine round_end (i + 1) (by omega) (by omega) ?_
   exact zw (fun k => if k = 3 then 5 else k) (fun _ => false) (fun _ => false) (e := by rw [hps]; simp [hG, List.getD_cons_zero, List.getD_cons_succ, -List.getD_eq_getElem?_getD]) (h := by rw [hps]; simp [hG, List.getD_cons_zero, List.getD_cons_succ, -List.getD_eq_getElem?_getD]; exact fun k hk => app_oneI rfl (by simpa using hk))
 obtain rfl : i = c.length := (by omega)
 have hpl : (pickL v c).length = c.length := pickL_len
 refine zx (ztx (zbx (zs (zr ?_))))
 refine zt ?_
 exact zR
end Go.Proofs.YthpdkmoedpcboaaGreat
