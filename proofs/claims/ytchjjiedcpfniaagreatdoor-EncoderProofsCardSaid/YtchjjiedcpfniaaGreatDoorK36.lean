/- Parts of the proof: UF. -/
import Derived.Test.YtchjjiedcpfniaaGreatDoorK16
import Derived.Test.YtchjjiedcpfniaaGreatDoorK21
import Derived.Test.YtchjjiedcpfniaaGreatDoorK30
import Derived.Test.YtchjjiedcpfniaaGreatDoorK35
namespace Go.Proofs.YtchjjiedcpfniaaGreatDoor
set_option linter.unusedSimpArgs false
set_option linter.unusedVariables false
open Go Go.Lift Go.Proofs
@[simp] theorem VLe_ylk {h : Heap} {σ : Lift.Id → Lift.Id} {fz : Nat → Bool} {vz : Lift.Id → Bool} {nx l : Nat} {vs : Array Value} {k : Int} : VLe h σ fz vz nx (.yld l vs 2 (fun j => [.vptr 1 (fun _ => .int .i64 k) 0, .ptr (0, 0) 0 0].getD j .any)) (.yld l vs 2 (fun j => [.vptr 1 (fun _ => .int .i64 k) 0, .ptr (0, 0) 0 0].getD j .any)) = (0 < nx ∧ vz (0, 0) = false ∧ (0, 0) = σ (0, 0)) := by
  apply propext
  constructor
  · intro h
    have h1 := h.2.2.2 1 (by decide)
    have h2 : 0 < nx ∧ vz (0, 0) = false ∧ (AVal.ptr (0, 0) 0 0) = .ptr (σ (0, 0)) 0 0 := h1
    refine ⟨h2.1, h2.2.1, ?_⟩
    have := h2.2.2
    injection this
  · rintro ⟨h1, h2, h3⟩
    refine ⟨rfl, rfl, rfl, fun j hj => ?_⟩
    match j, hj with
    | 0, _ => exact ⟨rfl, rfl, fun j _ => ⟨rfl, rfl⟩⟩
    | 1, _ => exact ⟨h1, h2, by rw [← h3]; rfl⟩
set_option maxRecDepth 100000 in
theorem stepB_y (k : Int) (x : Edge) (q : Int) (K : List Int) (hK : K.length ≤ 100000) {l : Nat} {rec : Loop} {vs : Array Value} (hok : RecOK rec [5, 9] vs #[40, 41] (rngA Tryz.f15.body 0) (rngB Tryz.f15.body 0) 56) : YC Tryz.prog l rec vs ([.int .i64 q, .agg 3 (edgeF x)] ++ [.vptr 1 (fun _ => .int .i64 k) 0, .ptr (0, 0) 0 0]) [(0, .one (.arr 1 1 (fun _ _ => .sl (1, 0) 0 (K).length))), (1, .one (.arr (K).length 1 (fun p _ => .int .i64 ((K).getD p 0))))] 2 (fun _ : Unit => True) (fun _ : Unit => .bool true) (fun _ : Unit => [(0, .one (.arr 1 1 (fun _ _ => .sl (2, 0) 0 ((if x.lab = k then K ++ [x.to] else K)).length))), (2, .one (.arr ((if x.lab = k then K ++ [x.to] else K)).length 1 (fun p _ => .int .i64 (((if x.lab = k then K ++ [x.to] else K)).getD p 0))))]) (fun _ : Unit => 3) := by
 refine YC_introS hok rfl rfl (by simp [nobH, nobO]) rfl (by simp) rfl fun G hG hR => ?_
 show AwpS _ _ _ _ _ ⟨[(41, .agg 3 (edgeF x)), (40, .int .i64 q), (5, .vptr 1 (fun _ => .int .i64 k) 0), (9, .ptr (0, 0) 0 0)], [(0, .one (.arr 1 1 (fun _ _ => .sl (1, 0) 0 (K).length))), (1, .one (.arr (K).length 1 (fun p _ => .int .i64 ((K).getD p 0))))], 2⟩
 refine zr ?_
 refine zn ?_
 refine ⟨rfl, fun G hG hR => ?_⟩
 refine zb (zs (zr ?_))
 refine zy (fun hb45 => ?_) fun hb45 => ?_
 · refine zr ?_
   refine zn (zbn (zn ?_))
   refine ⟨rfl, RetY_of (()) (fun k => if k = 2 then 4 else k) (fun _ => false) (fun _ => false) trivial ?_ (by rfl) (by simp) (fun k hk => ⟨if_neg (by omega), rfl⟩)⟩
   rw [if_pos hb45]; simp [hG, List.getD_cons_zero, List.getD_cons_succ, -List.getD_eq_getElem?_getD]; exact fun i hi => app_oneI rfl hi
 refine zk (zn (zbn (zn ?_)))
 refine ⟨rfl, RetY_of (()) (fun k => if k = 2 then 1 else k) (fun _ => false) (fun _ => false) trivial ?_ (by rfl) (by simp) (fun k hk => ⟨if_neg (by omega), rfl⟩)⟩
 rw [if_neg hb45]; simp [hG, List.getD_cons_zero, List.getD_cons_succ, -List.getD_eq_getElem?_getD]
set_option maxRecDepth 100000 in
theorem compactI_c (l : List Int) (hl : l.length ≤ 1000000) : FC1 Tryz.prog 46 [.sl (0, 0) 0 l.length] [(0, .one (.arr l.length 1 (fun i _ => .int .i64 (l.getD i 0))))] 1 (.sl (0, 0) 0 (ddL 0 l).length) [(0, .one (.arr l.length 1 (fun i _ => .int .i64 ((ddL 0 l).getD i 0))))] 1 := by
 refine FC_introS T_ok Tryz.func46 rfl (by simp [Tryz.ntmps46]) fun G hG hR => ?_
 simp only [Tryz.ntmps46, Tryz.results46] at hG ⊢
 simp only [argEnv, Nat.zero_add, Nat.reduceAdd]
 refine zs (zr ?_)
 refine zs (zs (zr ?_))
 refine zy (fun hb8 => ?_) fun hb8 => ?_
 · refine zs (zr ?_)
   refine zt ?_
   refine RetF_of (()) (id) (fun _ => false) (fun _ => false) trivial ?_ ?_ (by rfl) (by simp) (fun k _ => ⟨rfl, rfl⟩)
   · rw [ddL_shortI (by omega)]; simp [hG]
   rw [ddL_shortI (by omega)]; simp [hG]
 refine zk (zs (zs (zr ?_)))
 refine zb ?_
 refine awpS_loop (α := Nat) (fun k => ⟨[(0, .sl (0, 0) 0 l.length), (3, .int .i64 k)], [(0, .one (.arr l.length 1 (fun i _ => .int .i64 (l.getD i 0))))], 1⟩) (fun k => 1 ≤ k ∧ k ≤ l.length ∧ ∀ j, j < k → 1 ≤ j → l.getD j 0 ≠ l.getD (j - 1) 0) (fun k => l.length - k) (1) (⟨Nat.le_refl _, by omega, fun j hj h1 => by omega⟩) ?_ ?_
 · refine wk_of (id) (fun _ => false) (fun _ => false) ?_ ?_ rfl (by simp) (fun k hk => by first | exact ⟨rfl, rfl⟩ | (revert k; decide) | (obtain rfl : k = 0 := (by omega); exact ⟨rfl, rfl⟩) | (have hk2 : k = 0 ∨ k = 1 := (by omega); rcases hk2 with rfl | rfl <;> exact ⟨rfl, rfl⟩))
   · simp [hG, List.getD_cons_zero, List.getD_cons_succ, -List.getD_eq_getElem?_getD]
   simp [hG, List.getD_cons_zero, List.getD_cons_succ, -List.getD_eq_getElem?_getD]
 rintro k ⟨hk1, hk, hn⟩
 refine zs (zs (zr ?_))
 refine zy (fun hb13 => ?_) fun hb13 => ?_
 · refine zk (zs (zb (zs ?_)))
   refine awpS_draw hR mixed [] ⟨[], [], []⟩ fun mu0 => ?_
   refine za [0, 1, 2, 3, 4, 5, 6, 7, 8, 9] [] 0 [9, 8, 7, 6, 5, 4, 3, 2, 1, 0] ?_
   refine awpA_done (by decide +kernel) ?_
   refine zy (fun hb25 => ?_) fun hb25 => ?_
   · have heq : l.getD k 0 = l.getD (k - 1) 0 := hb25
     have hdf := dd_full (d := 0) hk hn
     have hdk : (ddAt 0 l k).length = k := (by rw [hdf, List.length_take]; omega)
     have hde := dd_eq (d := 0) (l := l) (k := k) (by omega) heq
     refine zs (zr ?_)
     refine zs (zs (zr ?_))
     refine zb ?_
     refine awpS_loop (α := Nat) (fun u => ⟨[(0, .sl (0, 0) 0 l.length), (3, .int .i64 (ddAt 0 l (k + u)).length), (4, .sl (0, 0) k (l.length - k)), (5, .int .i64 u)], [(0, .one (.arr l.length 1 (fun i _ => .int .i64 (ddG 0 l (k + u) i))))], 1⟩) (fun u => 1 ≤ u ∧ k + u ≤ l.length ∧ (ddAt 0 l (k + u)).length + 1 ≤ k + u) (fun u => l.length - k - u) (1) (⟨Nat.le_refl _, by omega, by rw [hde]; omega⟩) ?_ ?_
     · refine wk_of (id) (fun _ => false) (fun _ => false) ?_ ?_ rfl (by simp) (fun k hk => by first | exact ⟨rfl, rfl⟩ | (revert k; decide) | (obtain rfl : k = 0 := (by omega); exact ⟨rfl, rfl⟩) | (have hk2 : k = 0 ∨ k = 1 := (by omega); rcases hk2 with rfl | rfl <;> exact ⟨rfl, rfl⟩))
       · simp [hG, List.getD_cons_zero, List.getD_cons_succ, -List.getD_eq_getElem?_getD]; rw [hde, hdk]
       simp [hG, List.getD_cons_zero, List.getD_cons_succ, -List.getD_eq_getElem?_getD]; intro i hi; have e := ddG_full (d := 0) (l := l) (k := k) (i := i) hk hn; rw [ddG_skip (by omega) heq, e]
     rintro u ⟨hu1, hu, hdl⟩
     refine zs (zs (zr ?_))
     refine zy (fun hb32 => ?_) fun hb32 => ?_
     · have hg1 := ddG_old (d := 0) (l := l) (m := k + u) (i := k + u) (by omega)
       have hg2 := ddG_old (d := 0) (l := l) (m := k + u) (i := k + (u - 1)) (by omega)
       refine zk (zs (zb (zs ?_)))
       refine awpS_draw hR mixed [] ⟨[], [], []⟩ fun mu0 => ?_
       refine za [0, 1, 2, 3, 4, 5, 6, 7, 8, 9] [] 0 [9, 8, 7, 6, 5, 4, 3, 2, 1, 0] ?_
       refine awpA_done (by decide +kernel) ?_
       refine zy (fun hb44 => ?_) fun hb44 => ?_
       · have hnx : l.getD (k + u) 0 ≠ l.getD (k + u - 1) 0 := (by rw [show k + u - 1 = k + (u - 1) by omega, ← hg1, ← hg2]; exact hb44)
         have hds := dd_ne hnx
         refine zs (zr ?_)
         refine zr ?_
         refine zn (zbn (zr ?_))
         refine zn ?_
         refine round_end (u + 1) (⟨by omega, by omega, by rw [show k + (u + 1) = k + u + 1 by omega, hds, List.length_append, List.length_singleton]; omega⟩) (by omega) ?_
         refine wk_of (id) (fun _ => false) (fun _ => false) ?_ ?_ rfl (by simp) (fun k hk => by first | exact ⟨rfl, rfl⟩ | (revert k; decide) | (obtain rfl : k = 0 := (by omega); exact ⟨rfl, rfl⟩) | (have hk2 : k = 0 ∨ k = 1 := (by omega); rcases hk2 with rfl | rfl <;> exact ⟨rfl, rfl⟩))
         · rw [show k + (u + 1) = k + u + 1 by omega, hds]; simp [hG, List.getD_cons_zero, List.getD_cons_succ, -List.getD_eq_getElem?_getD]
         simp [hG, List.getD_cons_zero, List.getD_cons_succ, -List.getD_eq_getElem?_getD]; intro i hi; rw [show k + (u + 1) = k + u + 1 by omega, ddG_put hnx, hg1]; by_cases h : i = (ddAt 0 l (k + u)).length <;> simp [h]
       have heq2 : l.getD (k + u) 0 = l.getD (k + u - 1) 0 := (by rw [show k + u - 1 = k + (u - 1) by omega, ← hg1, ← hg2]; exact hb44)
       have hdq := dd_eq (d := 0) (l := l) (k := k + u) (by omega) heq2
       refine zk (zn (zbn (zr ?_)))
       refine zn ?_
       refine round_end (u + 1) (⟨by omega, by omega, by rw [show k + (u + 1) = k + u + 1 by omega, hdq]; omega⟩) (by omega) ?_
       refine wk_of (id) (fun _ => false) (fun _ => false) ?_ ?_ rfl (by simp) (fun k hk => by first | exact ⟨rfl, rfl⟩ | (revert k; decide) | (obtain rfl : k = 0 := (by omega); exact ⟨rfl, rfl⟩) | (have hk2 : k = 0 ∨ k = 1 := (by omega); rcases hk2 with rfl | rfl <;> exact ⟨rfl, rfl⟩))
       · rw [show k + (u + 1) = k + u + 1 by omega, hdq]; simp [hG, List.getD_cons_zero, List.getD_cons_succ, -List.getD_eq_getElem?_getD]
       simp [hG, List.getD_cons_zero, List.getD_cons_succ, -List.getD_eq_getElem?_getD]; intro i hi; rw [show k + (u + 1) = k + u + 1 by omega, ddG_skip (by omega) heq2]
     refine zx (ztx (zbx (zs (zr ?_))))
     refine zs (zr ?_)
     refine zt (zbt (ztt (zbt ?_)))
     refine RetF_of (()) (id) (fun _ => false) (fun _ => false) trivial ?_ ?_ (by rfl) (by simp) (fun k _ => ⟨rfl, rfl⟩)
     · simp [hG, List.getD_cons_zero, List.getD_cons_succ, -List.getD_eq_getElem?_getD]; unfold ddL; rw [show k + u = l.length by omega]
     obtain hku : k + u = l.length := (by omega); rw [hku]; simp [hG, List.getD_cons_zero, List.getD_cons_succ, -List.getD_eq_getElem?_getD]; exact fun i hi => clr_endI hi
   have hneq : l.getD k 0 ≠ l.getD (k - 1) 0 := hb25
   refine zk (zn (zbn (zr ?_)))
   refine zn ?_
   refine round_end (k + 1) (⟨by omega, by omega, fun j hj h1 => (Nat.lt_or_ge j k).elim (fun h => hn j h h1) fun h => by rw [show j = k by omega]; exact hneq⟩) (by omega) ?_
   refine wk_of (id) (fun _ => false) (fun _ => false) ?_ ?_ rfl (by simp) (fun k hk => by first | exact ⟨rfl, rfl⟩ | (revert k; decide) | (obtain rfl : k = 0 := (by omega); exact ⟨rfl, rfl⟩) | (have hk2 : k = 0 ∨ k = 1 := (by omega); rcases hk2 with rfl | rfl <;> exact ⟨rfl, rfl⟩))
   · simp [hG, List.getD_cons_zero, List.getD_cons_succ, -List.getD_eq_getElem?_getD]
   simp [hG, List.getD_cons_zero, List.getD_cons_succ, -List.getD_eq_getElem?_getD]
 refine zx (ztx (zbx (zs (zr ?_))))
 refine zt ?_
 refine RetF_of (()) (id) (fun _ => false) (fun _ => false) trivial ?_ ?_ (by rfl) (by simp) (fun k _ => ⟨rfl, rfl⟩)
 · rw [ddL_none fun j hj h1 => hn j (by omega) h1]; simp [hG]
 rw [ddL_none fun j hj h1 => hn j (by omega) h1]; simp [hG]
set_option maxRecDepth 100000 in
theorem leavingSt_c (g : Gr) (k s : Int) (K : List Int) (hK : K.length ≤ 90000) (hed : g.edges.length ≤ 1024) (l : Nat) (rec : Loop) (vs : Array Value) (hok : RecOK rec [5, 9] vs #[40, 41] (rngA Tryz.f15.body 0) (rngB Tryz.f15.body 0) 56) : FCY Tryz.prog 68 l rec [.yld l vs 2 (fun j => [.vptr 1 (fun _ => .int .i64 k) 0, .ptr (0, 0) 0 0].getD j .any), .vptr 3 (grF g) 0, .vptr 1 (fun _ => .int .i64 s) 0] [(0, .one (.arr 1 1 (fun _ _ => .sl (1, 0) 0 (K).length))), (1, .one (.arr (K).length 1 (fun p _ => .int .i64 ((K).getD p 0))))] 2 (fun _ : Unit => True) (fun _ : Unit => .any) (fun _ : Unit => [(0, .one (.arr 1 1 (fun _ _ => .sl (2, 0) 0 (K ++ tgt g k s g.edges.length).length))), (2, .one (.arr (K ++ tgt g k s g.edges.length).length 1 (fun p _ => .int .i64 ((K ++ tgt g k s g.edges.length).getD p 0))))]) (fun _ : Unit => 3) := by
 refine FCY_introS T_ok (by simp [nobH, nobO]) Tryz.func68 rfl (by simp [Tryz.ntmps68]) fun G hG hR hrec => ?_
 simp only [Tryz.ntmps68, Tryz.results68] at hG ⊢
 simp only [argEnv, Nat.zero_add, Nat.reduceAdd]
 refine zs (zr ?_ (h := by intro c K h; simp [hG, List.getD_cons_zero, List.getD_cons_succ, -List.getD_eq_getElem?_getD, tgt_zero, List.append_nil]; first | exact z1 c h | exact ⟨.mk c, h⟩))
 refine zb ?_
 refine awpS_loop (α := Nat) (fun i => ⟨[(0, .yld l vs 2 (fun j => [.vptr 1 (fun _ => .int .i64 k) 0, .ptr (0, 0) 0 0].getD j .any)), (1, .vptr 3 (grF g) 0), (2, .vptr 1 (fun _ => .int .i64 s) 0), (7, edgesC g.edges), (8, .int .i64 g.edges.length), (9, .int .i64 i)], [(0, .one (.arr 1 1 (fun _ _ => .sl (2, 0) 0 ((K ++ tgt g k s i)).length))), (2, .one (.arr ((K ++ tgt g k s i)).length 1 (fun p _ => .int .i64 (((K ++ tgt g k s i)).getD p 0))))], 3⟩) (fun i => i ≤ g.edges.length) (fun i => g.edges.length - i) (0) (Nat.zero_le _) ?_ ?_
 · refine wk_of (fun k => if k = 2 then 1 else k) (fun _ => false) (fun _ => false) ?_ ?_ rfl (by simp) (fun k hk => by first | exact ⟨rfl, rfl⟩ | (revert k; decide) | (obtain rfl : k = 0 := (by omega); exact ⟨rfl, rfl⟩) | (have hk2 : k = 0 ∨ k = 1 := (by omega); rcases hk2 with rfl | rfl <;> exact ⟨rfl, rfl⟩))
   · simp [hG, List.getD_cons_zero, List.getD_cons_succ, -List.getD_eq_getElem?_getD, tgt_zero, List.append_nil]
   simp [hG, List.getD_cons_zero, List.getD_cons_succ, -List.getD_eq_getElem?_getD, tgt_zero, List.append_nil]
 rintro i hi
 refine zs (zr ?_ (h := by intro c K h; simp [hG, List.getD_cons_zero, List.getD_cons_succ, -List.getD_eq_getElem?_getD, tgt_zero, List.append_nil]; first | exact z1 c h | exact ⟨.mk c, h⟩))
 refine zs (zy (fun hb10 => ?_) fun hb10 => ?_)
 · have htl := tgt_len (g := g) (k := k) (s := s) (m := i)
   have hts := tgt_succ (g := g) (k := k) (s := s) (m := i) (by omega)
   refine zk (zs (zb (zs (zr ?_ (h := by intro c K h; simp [hG, List.getD_cons_zero, List.getD_cons_succ, -List.getD_eq_getElem?_getD, tgt_zero, List.append_nil]; first | exact z1 c h | exact ⟨.mk c, h⟩)))))
   refine zs ?_
   by_cases hs3 : (g.edges.getD i de).frm = s
   · refine zL (zl 8 ?_ (h := by intro c K h; simp [hG, List.getD_cons_zero, List.getD_cons_succ, -List.getD_eq_getElem?_getD, tgt_zero, List.append_nil, hs3]; first | exact z1 c h | exact ⟨.mk c, h⟩))
     refine awpL_yield hrec hR [0, 2] (fun _ => false) (stepB_y k (g.edges.getD i de) i (K ++ tgt g k s i) (by rw [List.length_append]; omega) hok) rfl (by rw [hok.params]; rfl) rfl rfl rfl (by simp) (.inl fun _ => rfl) ?_ ?_ ?_ fun K hK x hI hno => ?_
     · simp [hG, List.getD_cons_zero, List.getD_cons_succ, -List.getD_eq_getElem?_getD, tgt_zero, List.append_nil, hs3]
     · simp [hG, List.getD_cons_zero, List.getD_cons_succ, -List.getD_eq_getElem?_getD]; exact ⟨Clo.le _ (fun j _ => ⟨rfl, trivial⟩), ⟨by decide, rfl, rfl⟩, trivial⟩
     · simp [hG, List.getD_cons_zero, List.getD_cons_succ, -List.getD_eq_getElem?_getD, tgt_zero, List.append_nil, hs3]
     simp [hG, List.getD_cons_zero, List.getD_cons_succ, -List.getD_eq_getElem?_getD, tgt_zero, List.append_nil, hs3]
     refine hK _ ?_
     clear K hK
     refine zl 2 ?_ (h := by intro c K h; simp [hG, List.getD_cons_zero, List.getD_cons_succ, -List.getD_eq_getElem?_getD, tgt_zero, List.append_nil, hs3]; first | exact z1 c h | exact ⟨.mk c, h⟩)
     refine zN ?_
     refine awpS_cond rfl (fun hb24 => ?_) (fun hb24 => ?_)
     · simp at hb24
     try simp [-List.getD_eq_getElem?_getD] at hb24
     refine zk (zn (zbn (zr ?_ (h := by intro c K h; simp [hG, List.getD_cons_zero, List.getD_cons_succ, -List.getD_eq_getElem?_getD, tgt_zero, List.append_nil, hs3]; first | exact z1 c h | exact ⟨.mk c, h⟩))))
     refine zn ?_
     refine round_end (i + 1) (by omega) (by omega) ?_
     refine wk_of (fun k => if k = 2 then 4 else k) (fun _ => false) (fun _ => false) ?_ ?_ rfl (by simp) (fun k hk => by first | exact ⟨rfl, rfl⟩ | (revert k; decide) | (obtain rfl : k = 0 := (by omega); exact ⟨rfl, rfl⟩) | (have hk2 : k = 0 ∨ k = 1 := (by omega); rcases hk2 with rfl | rfl <;> exact ⟨rfl, rfl⟩))
     · simp [hG, List.getD_cons_zero, List.getD_cons_succ, -List.getD_eq_getElem?_getD, tgt_zero, List.append_nil, hs3]
     rw [hts, if_pos hs3]; by_cases hlk : (g.edges.getD i de).lab = k; (rw [if_pos hlk, if_pos hlk, ← List.append_assoc]; simp [hG, -List.getD_eq_getElem?_getD, -List.append_assoc]); (rw [if_neg hlk, if_neg hlk]; simp [hG, -List.getD_eq_getElem?_getD])
   refine zL (zl 8 ?_ (h := by intro c K h; simp [hG, List.getD_cons_zero, List.getD_cons_succ, -List.getD_eq_getElem?_getD, tgt_zero, List.append_nil, hs3]; first | exact z1 c h | exact ⟨.mk c, h⟩))
   refine awpL_not (.bool true) rfl (fun K hK => ?_) (by intro c hc; cases hc)
   simp [hG, List.getD_cons_zero, List.getD_cons_succ, -List.getD_eq_getElem?_getD, tgt_zero, List.append_nil, hs3]
   refine hK _ ?_
   clear K hK
   refine zl 2 ?_ (h := by intro c K h; simp [hG, List.getD_cons_zero, List.getD_cons_succ, -List.getD_eq_getElem?_getD, tgt_zero, List.append_nil, hs3]; first | exact z1 c h | exact ⟨.mk c, h⟩)
   refine zN ?_
   refine awpS_cond rfl (fun hb24 => ?_) (fun hb24 => ?_)
   · simp at hb24
   try simp [-List.getD_eq_getElem?_getD] at hb24
   refine zk (zn (zbn (zr ?_ (h := by intro c K h; simp [hG, List.getD_cons_zero, List.getD_cons_succ, -List.getD_eq_getElem?_getD, tgt_zero, List.append_nil, hs3]; first | exact z1 c h | exact ⟨.mk c, h⟩))))
   refine zn ?_
   refine round_end (i + 1) (by omega) (by omega) ?_
   refine wk_of (id) (fun _ => false) (fun _ => false) ?_ ?_ rfl (by simp) (fun k hk => by first | exact ⟨rfl, rfl⟩ | (revert k; decide) | (obtain rfl : k = 0 := (by omega); exact ⟨rfl, rfl⟩) | (have hk2 : k = 0 ∨ k = 1 := (by omega); rcases hk2 with rfl | rfl <;> exact ⟨rfl, rfl⟩))
   · simp [hG, List.getD_cons_zero, List.getD_cons_succ, -List.getD_eq_getElem?_getD, tgt_zero, List.append_nil, hs3]
   rw [hts, if_neg hs3]; simp [hG, List.getD_cons_zero, List.getD_cons_succ, -List.getD_eq_getElem?_getD]
 obtain rfl : i = g.edges.length := (by omega)
 refine zx (ztx (zbx (zn ?_)))
 refine RetF_of (()) (id) (fun _ => false) (fun _ => false) trivial ?_ ?_ (by rfl) (by simp) (fun k hk => ⟨rfl, rfl⟩)
 · simp [hG, List.getD_cons_zero, List.getD_cons_succ, -List.getD_eq_getElem?_getD, tgt_zero, List.append_nil]
 simp [hG, List.getD_cons_zero, List.getD_cons_succ, -List.getD_eq_getElem?_getD]
set_option maxRecDepth 100000 in
theorem checkSt_c (g : Gr) (c : List Int) (hc : c.Pairwise (· < ·)) (hr : ∀ x ∈ c, 0 ≤ x ∧ x < g.states) (hl : c.length ≤ 64) : PC Tryz.prog 43 [.agg 3 (grF g), ints c] (.int .i64 0) := by
 refine zp Tryz.func43 fun G hG hR => ?_
 refine zs (zr ?_)
 refine zs (zs (zr ?_))
 refine zb ?_
 refine awpS_loop (α := Nat) (fun i => ⟨[(1, ints c), (2, .ptr (0, 0) 0 0), (4, .int .i64 0), (7, ints c), (8, .int .i64 c.length), (9, .int .i64 i)], [(0, .one (.arr 1 3 (fun _ => grF g)))], 1⟩) (fun i => i ≤ c.length) (fun i => c.length - i) (0) (Nat.zero_le _) ?_ ?_
 · exact zi
 rintro i hi
 refine zs (zr ?_)
 refine zs (zy (fun hb10 => ?_) fun hb10 => ?_)
 · have hx := hr _ (getD_mem (d := 0) (show i < c.length by simpa using hb10))
   have hlt : 0 < i → c.getD (i - 1) 0 < c.getD i 0 := fun h => asc_lt hc (by simpa using hb10) (by omega)
   refine zk (zs (zb (zs (zr ?_))))
   refine zs (zs (zr ?_))
   refine zy (fun hb21 => ?_) fun hb21 => ?_
   · refine zs (zr ?_)
     refine zt (zbt (ztt (zbt ?_)))
     refine RetOK_of ?_
     simp [hG, List.getD_cons_zero, List.getD_cons_succ, -List.getD_eq_getElem?_getD]
     omega
   refine zk (zs (zr ?_))
   refine zy (fun hb32 => ?_) fun hb32 => ?_
   · refine zs (zr ?_)
     refine zt (zbt (ztt (zbt ?_)))
     refine RetOK_of ?_
     simp [hG, List.getD_cons_zero, List.getD_cons_succ, -List.getD_eq_getElem?_getD]
     have := hlt hb32.1; omega
   refine zk (zn (zbn (zr ?_)))
   refine zn ?_
   refine round_end (i + 1) (by omega) (by omega) ?_
   exact zi
 refine zx (ztx (zbx (zs (zr ?_))))
 refine zt ?_
 exact zR
set_option maxRecDepth 100000 in
theorem step_c (g : Gr) (L : List Int) (k : Int) (hv : gcheck g = 0) (hc : L.Pairwise (· < ·)) (hr : ∀ x ∈ L, 0 ≤ x ∧ x < g.states) (hk : 0 ≤ k ∧ k < g.labels) (hl : L.length ≤ 64) : PC Tryz.prog 15 [.agg 3 (grF g), ints L, .int .i64 k] (.tup 2 (fun j => [ints (stepL g k L), .int .i64 0].getD j .any)) := by
 have hed := (gcheck_valid hv).1.ed
 refine zp Tryz.func15 fun G hG hR => ?_
 refine zs (zr ?_ (h := by intro c K h; simp [hG, List.getD_cons_zero, List.getD_cons_succ, -List.getD_eq_getElem?_getD, tgts_zero]; first | exact z1 c h | exact ⟨.mk c, h⟩))
 refine zs (zs (zL (zl 1 ?_ (h := by intro c K h; simp [hG, List.getD_cons_zero, List.getD_cons_succ, -List.getD_eq_getElem?_getD, tgts_zero]; first | exact z1 c h | exact ⟨.mk c, h⟩))))
 refine zc cal42 (checkC_c g) ?_ (a := fun hg => by simp [hG, List.getD_cons_zero, List.getD_cons_succ, -List.getD_eq_getElem?_getD, tgts_zero]) (b := fun hg => by simp [hG, List.getD_cons_zero, List.getD_cons_succ, -List.getD_eq_getElem?_getD, tgts_zero]) (h := by intro K h; simp [hG, List.getD_cons_zero, List.getD_cons_succ, -List.getD_eq_getElem?_getD, tgts_zero]; exact h)
 refine zl 1 ?_ (h := by intro c K h; simp [hG, List.getD_cons_zero, List.getD_cons_succ, -List.getD_eq_getElem?_getD, tgts_zero]; first | exact z1 c h | exact ⟨.mk c, h⟩)
 refine zN ?_
 refine awpS_cond rfl (fun hb16 => ?_) (fun hb16 => ?_)
 · simp [hv] at hb16
 try simp [-List.getD_eq_getElem?_getD] at hb16
 refine zk (zs (zs (zL (zl 2 ?_ (h := by intro c K h; simp [hG, List.getD_cons_zero, List.getD_cons_succ, -List.getD_eq_getElem?_getD, tgts_zero]; first | exact z1 c h | exact ⟨.mk c, h⟩)))))
 refine zc cal43 (checkSt_c g L hc hr hl) ?_ (a := fun hg => by simp [hG, List.getD_cons_zero, List.getD_cons_succ, -List.getD_eq_getElem?_getD, tgts_zero]) (b := fun hg => by simp [hG, List.getD_cons_zero, List.getD_cons_succ, -List.getD_eq_getElem?_getD, tgts_zero]) (h := by intro K h; simp [hG, List.getD_cons_zero, List.getD_cons_succ, -List.getD_eq_getElem?_getD, tgts_zero]; exact h)
 refine zl 1 ?_ (h := by intro c K h; simp [hG, List.getD_cons_zero, List.getD_cons_succ, -List.getD_eq_getElem?_getD, tgts_zero]; first | exact z1 c h | exact ⟨.mk c, h⟩)
 refine zN (zs (zr ?_ (h := by intro c K h; simp [hG, List.getD_cons_zero, List.getD_cons_succ, -List.getD_eq_getElem?_getD, tgts_zero]; first | exact z1 c h | exact ⟨.mk c, h⟩)))
 refine awpS_cond rfl (fun hb21 => ?_) (fun hb21 => ?_)
 · simp at hb21
 try simp [-List.getD_eq_getElem?_getD] at hb21
 refine zk (zs (zs (zr ?_ (h := by intro c K h; simp [hG, List.getD_cons_zero, List.getD_cons_succ, -List.getD_eq_getElem?_getD, tgts_zero]; first | exact z1 c h | exact ⟨.mk c, h⟩))))
 refine awpS_cond rfl (fun hb30 => ?_) (fun hb30 => ?_)
 · exact absurd hb30 (by simp; omega)
 try simp [-List.getD_eq_getElem?_getD] at hb30
 refine zk (zs (zr ?_ (h := by intro c K h; simp [hG, List.getD_cons_zero, List.getD_cons_succ, -List.getD_eq_getElem?_getD, tgts_zero]; first | exact z1 c h | exact ⟨.mk c, h⟩)))
 refine zs (zs (zr ?_ (h := by intro c K h; simp [hG, List.getD_cons_zero, List.getD_cons_succ, -List.getD_eq_getElem?_getD, tgts_zero]; first | exact z1 c h | exact ⟨.mk c, h⟩)))
 refine zb ?_
 refine awpS_loop (α := Nat) (fun i => ⟨[(1, ints L), (3, .vptr 3 (grF g) 0), (5, .vptr 1 (fun _ => .int .i64 k) 0), (9, .ptr (0, 0) 0 0), (31, ints L), (32, .int .i64 L.length), (33, .int .i64 i)], [(0, .one (.arr 1 1 (fun _ _ => .sl (1, 0) 0 ((tgts g k L i)).length))), (1, .one (.arr ((tgts g k L i)).length 1 (fun p _ => .int .i64 (((tgts g k L i)).getD p 0))))], 2⟩) (fun i => i ≤ L.length) (fun i => L.length - i) (0) (Nat.zero_le _) ?_ ?_
 · exact zw (fun k => if k = 0 then 2 else k) (fun k => k == 0 || k == 1) (fun k => k == 1) (e := by simp [hG, List.getD_cons_zero, List.getD_cons_succ, -List.getD_eq_getElem?_getD, tgts_zero]) (h := by simp [hG, List.getD_cons_zero, List.getD_cons_succ, -List.getD_eq_getElem?_getD, tgts_zero])
 rintro i hi
 refine zs (zr ?_ (h := by intro c K h; simp [hG, List.getD_cons_zero, List.getD_cons_succ, -List.getD_eq_getElem?_getD, tgts_zero]; first | exact z1 c h | exact ⟨.mk c, h⟩))
 refine zs (zy (fun hb34 => ?_) fun hb34 => ?_)
 · have htl := tgts_len (g := g) (k := k) (L := L) (i := i) hed (by omega)
   have hts := tgts_succ (g := g) (k := k) (L := L) (i := i) (by omega)
   refine zk (zs (zb (zs (zr ?_ (h := by intro c K h; simp [hG, List.getD_cons_zero, List.getD_cons_succ, -List.getD_eq_getElem?_getD, tgts_zero]; first | exact z1 c h | exact ⟨.mk c, h⟩)))))
   refine zs (zL (zl 2 ?_ (h := by intro c K h; simp [hG, List.getD_cons_zero, List.getD_cons_succ, -List.getD_eq_getElem?_getD, tgts_zero]; first | exact z1 c h | exact ⟨.mk c, h⟩)))
   refine zc cal44 (leaving_c g (L.getD i 0)) ?_ (a := fun hg => by simp [hG, List.getD_cons_zero, List.getD_cons_succ, -List.getD_eq_getElem?_getD, tgts_zero]) (b := fun hg => by simp [hG, List.getD_cons_zero, List.getD_cons_succ, -List.getD_eq_getElem?_getD, tgts_zero]) (h := by intro K h; simp [hG, List.getD_cons_zero, List.getD_cons_succ, -List.getD_eq_getElem?_getD, tgts_zero]; exact h)
   refine zN (zb ?_)
   refine awpS_wk (st2 := ⟨[(1, ints L), (3, .vptr 3 (grF g) 0), (5, .vptr 1 (fun _ => .int .i64 k) 0), (9, .ptr (0, 0) 0 0), (31, ints L), (32, .int .i64 L.length), (33, .int .i64 i), (39, .fn 68 2 (fun j => [.vptr 3 (grF g) 0, .vptr 1 (fun _ => .int .i64 (L.getD i 0)) 0].getD j .any))], [(0, .one (.arr 1 1 (fun _ _ => .sl (1, 0) 0 ((tgts g k L i)).length))), (1, .one (.arr ((tgts g k L i)).length 1 (fun p _ => .int .i64 (((tgts g k L i)).getD p 0))))], 2⟩) ?_ ?_
   · exact zi (e := by simp [hG, List.getD_cons_zero, List.getD_cons_succ, -List.getD_eq_getElem?_getD, tgts_zero]) (h := by simp [hG, List.getD_cons_zero, List.getD_cons_succ, -List.getD_eq_getElem?_getD, tgts_zero])
   refine awpS_range hR [5, 9] [0, 1] (fun _ => false) cal68 rfl trivial (fun l rec vs hok => by rw [hG] at hok; exact leavingSt_c g k (L.getD i 0) (tgts g k L i) (by omega) hed l rec vs hok) (by simp) (.inl fun _ => rfl) (fun l vs => ?_) ?_ fun K hK x hI hno => ?_
   · simp [hG, List.getD_cons_zero, List.getD_cons_succ, -List.getD_eq_getElem?_getD]; exact ⟨Clo.le _ (fun j hj => ⟨one_grF, Clo_grF⟩), Clo.le _ (fun j hj => ⟨rfl, trivial⟩), trivial⟩
   · simp [hG, List.getD_cons_zero, List.getD_cons_succ, -List.getD_eq_getElem?_getD, tgts_zero]
   simp [hG, List.getD_cons_zero, List.getD_cons_succ, -List.getD_eq_getElem?_getD, tgts_zero]
   refine hK _ ?_
   clear K hK
   refine zn (zbn (zn (zbn (zr ?_ (h := by intro c K h; simp [hG, List.getD_cons_zero, List.getD_cons_succ, -List.getD_eq_getElem?_getD, tgts_zero]; first | exact z1 c h | exact ⟨.mk c, h⟩)))))
   refine zn ?_
   refine round_end (i + 1) (by omega) (by omega) ?_
   exact zw (fun k => if k = 1 then 2 else k) (fun _ => false) (fun _ => false) (e := by simp [hG, List.getD_cons_zero, List.getD_cons_succ, -List.getD_eq_getElem?_getD, tgts_zero]) (h := by rw [hts]; simp [hG, List.getD_cons_zero, List.getD_cons_succ, -List.getD_eq_getElem?_getD])
 obtain rfl : i = L.length := (by omega)
 have htl := tgts_len (g := g) (k := k) (L := L) (i := L.length) hed hl
 refine zx (ztx (zbx (zs (zL (zl 1 ?_ (h := by intro c K h; simp [hG, List.getD_cons_zero, List.getD_cons_succ, -List.getD_eq_getElem?_getD, tgts_zero]; first | exact z1 c h | exact ⟨.mk c, h⟩))))))
 refine zf cal45 [1] (sortAny_c (tgts g k L L.length) (by omega)) (fun x hI hno => ?_) (a := by simp [hG, List.getD_cons_zero, List.getD_cons_succ, -List.getD_eq_getElem?_getD, tgts_zero]) (b := by simp [hG, List.getD_cons_zero, List.getD_cons_succ, -List.getD_eq_getElem?_getD, tgts_zero]) (c := by simp [hG, List.getD_cons_zero, List.getD_cons_succ, -List.getD_eq_getElem?_getD, tgts_zero]) (h := by intro K h x hI hno; simp [hG, List.getD_cons_zero, List.getD_cons_succ, -List.getD_eq_getElem?_getD, tgts_zero]; exact h x hI hno)
 refine zN (zs ?_)
 refine awpS_wk (st2 := ⟨[(9, .ptr (0, 0) 0 0)], [(0, .one (.arr 1 1 (fun _ _ => .sl (1, 0) 0 ((srtI (tgts g k L L.length))).length))), (1, .one (.arr ((srtI (tgts g k L L.length))).length 1 (fun p _ => .int .i64 (((srtI (tgts g k L L.length))).getD p 0))))], 2⟩) ?_ ?_
 · exact zi (h := by rw [srtI_len]; simp [hG, List.getD_cons_zero, List.getD_cons_succ, -List.getD_eq_getElem?_getD])
 refine zL (zl 1 ?_ (h := by intro c K h; simp [hG, List.getD_cons_zero, List.getD_cons_succ, -List.getD_eq_getElem?_getD, tgts_zero]; first | exact z1 c h | exact ⟨.mk c, h⟩))
 refine zf cal46 [1] (compactI_c (srtI (tgts g k L L.length)) (by rw [srtI_len]; omega)) (fun x hI hno => ?_) (a := by simp [hG, List.getD_cons_zero, List.getD_cons_succ, -List.getD_eq_getElem?_getD, tgts_zero]) (b := by simp [hG, List.getD_cons_zero, List.getD_cons_succ, -List.getD_eq_getElem?_getD, tgts_zero]) (c := by simp [hG, List.getD_cons_zero, List.getD_cons_succ, -List.getD_eq_getElem?_getD, tgts_zero]) (h := by intro K h x hI hno; simp [hG, List.getD_cons_zero, List.getD_cons_succ, -List.getD_eq_getElem?_getD, tgts_zero]; exact h x hI hno)
 refine zl 2 ?_ (h := by intro c K h; simp [hG, List.getD_cons_zero, List.getD_cons_succ, -List.getD_eq_getElem?_getD, tgts_zero]; first | exact z1 c h | exact ⟨.mk c, h⟩)
 refine zN (zt ?_)
 refine RetOK_of ?_
 simp [hG, List.getD_cons_zero, List.getD_cons_succ, -List.getD_eq_getElem?_getD, tgts_zero]
 exact ⟨rfl, dd_len, fun _ _ => rfl⟩
end Go.Proofs.YtchjjiedcpfniaaGreatDoor
