/- Parts of the proof: ZH WJ WK NG. -/
import Derived.Test.YtchjjiedcpfniaaGreatDoorK12
import Derived.Test.YtchjjiedcpfniaaGreatDoorK16
import Derived.Test.YtchjjiedcpfniaaGreatDoorK17
import Derived.Test.YtchjjiedcpfniaaGreatDoorK22
import Derived.Test.YtchjjiedcpfniaaGreatDoorK24
namespace Go.Proofs.YtchjjiedcpfniaaGreatDoor
set_option linter.unusedSimpArgs false
set_option linter.unusedVariables false
open Go Go.Lift Go.Proofs
theorem lt3 {j : Nat} (h : j < 3) : j = 0 ∨ j = 1 ∨ j = 2 := by omega
theorem sortE_c (l : List Edge) (hl : l.length ≤ 1000000) :
    FC Tryz.prog 119 [.sl (0, 0) 0 l.length, .fn 89 1 (fun _ => .vptr 1 (fun _ => .fn 67 0 (fun _ => .any)) 0)] [(0, .one (.arr l.length 3 (fun i j => edgeF (l.getD i de) j)))] 1 (fun x : List Edge => x.Perm l ∧ ∀ i j, i < j → j < x.length → ¬ cmpE (x.getD j de) (x.getD i de) < 0) (fun _ => .any)
      (fun x => [(0, .one (.arr l.length 3 (fun i j => edgeF (x.getD i de) j)))]) (fun _ => 1) := by
  rcases Nat.eq_zero_or_pos l.length with h | h
  · obtain rfl := List.length_eq_zero_iff.1 h
    intro O w mu vals hk ha
    refine (sortE0_c O w mu vals hk ha).mono ?_
    rintro e w' ⟨v, x, mu', he, hx, rest⟩
    have hx' : x = [] := hx
    subst hx'
    exact ⟨v, [], mu', he, ⟨List.Perm.refl _, fun i j _ hj => absurd hj (Nat.not_lt_zero _)⟩, rest⟩
  · exact sortE_pos l h hl
theorem app_edge {l : List Edge} {v : Edge} {w : Nat → Nat → AVal} {i j : Nat} (h : i < (l ++ [v]).length) (hj : j < 3) (hw : ∀ j, j < 3 → w 0 j = edgeF v j) : app (fun q j => edgeF (l.getD q de) j) l.length w i j = edgeF ((l ++ [v]).getD i de) j := by
  unfold app
  rw [List.length_append] at h
  by_cases h2 : i < l.length
  · rw [if_pos h2]; simp [List.getD, List.getElem?_append_left h2]
  · rw [if_neg h2]
    have : i = l.length := by simp at h; omega
    subst this
    rw [Nat.sub_self, hw j hj]; simp [List.getD]
theorem app_edge3 {l : List Edge} {v : Edge} {w : Nat → Nat → AVal} {i : Nat} (h : i < (l ++ [v]).length) (hw : ∀ j, j < 3 → w 0 j = edgeF v j) : app (fun q j => edgeF (l.getD q de) j) l.length w i 0 = edgeF ((l ++ [v]).getD i de) 0 ∧ app (fun q j => edgeF (l.getD q de) j) l.length w i 1 = edgeF ((l ++ [v]).getD i de) 1 ∧ app (fun q j => edgeF (l.getD q de) j) l.length w i 2 = edgeF ((l ++ [v]).getD i de) 2 :=
  ⟨app_edge h (by decide) hw, app_edge h (by decide) hw, app_edge h (by decide) hw⟩
theorem ddL_short {α : Type} [DecidableEq α] {d : α} {l : List α} (h : l.length < 2) : ddL d l = l := ddL_none fun j hj h1 => by omega
theorem edge_ne {a b : Edge} (h : a.frm = b.frm → a.lab = b.lab → ¬ a.to = b.to) : a ≠ b := fun e => h (by rw [e]) (by rw [e]) (by rw [e])
theorem clr_end {l : List Edge} {m i j : Nat} {f : Nat → Nat → AVal} (hm : m = l.length) (hi : i < l.length) (hj : j < 3) (hf : ∀ i j, f i j = edgeF (ddG de l m i) j) : clr f (ddAt de l m).length (l.length - (ddAt de l m).length) (fun j => [AVal.int .i64 0, .int .i64 0, .int .i64 0].getD j .any) i j = edgeF ((ddL de l).getD i de) j := by
  subst hm
  unfold clr ddL
  have hle := dd_len (d := de) (l := l) (k := l.length)
  by_cases h : (ddAt de l l.length).length ≤ i
  · rw [if_pos (by omega), show (ddAt de l l.length).getD i de = de by simp [List.getD, List.getElem?_eq_none h]]
    rcases lt3 hj with rfl | rfl | rfl <;> rfl
  · rw [if_neg (by omega), hf]
    unfold ddG; rw [if_pos (by omega)]
set_option maxRecDepth 100000 in
theorem compactF_c (l : List Edge) (hl : l.length ≤ 1000000) : FC1 Tryz.prog 120 [.sl (0, 0) 0 l.length] [(0, .one (.arr l.length 3 (fun i j => edgeF (l.getD i de) j)))] 1 (.sl (0, 0) 0 (ddL de l).length) [(0, .one (.arr l.length 3 (fun i j => edgeF ((ddL de l).getD i de) j)))] 1 := by
 refine FC_introS T_ok Tryz.func120 rfl (by simp [Tryz.ntmps120]) fun G hG hR => ?_
 simp only [Tryz.ntmps120, Tryz.results120] at hG ⊢
 simp only [argEnv, Nat.zero_add, Nat.reduceAdd]
 refine zs (zr ?_)
 refine zs (zs (zr ?_))
 refine zy (fun hb8 => ?_) fun hb8 => ?_
 · refine zs (zr ?_)
   refine zt ?_
   refine RetF_of (()) (id) (fun _ => false) (fun _ => false) trivial ?_ ?_ (by rfl) (by simp) (fun k _ => ⟨rfl, rfl⟩)
   · rw [ddL_short (by omega)]; simp [hG]
   rw [ddL_short (by omega)]; simp [hG]
 refine zk (zs (zs (zr ?_)))
 refine zb ?_
 refine awpS_loop (α := Nat) (fun k => ⟨[(0, .sl (0, 0) 0 l.length), (3, .int .i64 k)], [(0, .one (.arr l.length 3 (fun i j => edgeF (l.getD i de) j)))], 1⟩) (fun k => 1 ≤ k ∧ k ≤ l.length ∧ ∀ j, j < k → 1 ≤ j → l.getD j de ≠ l.getD (j - 1) de) (fun k => l.length - k) (1) (⟨Nat.le_refl _, by omega, fun j hj h1 => by omega⟩) ?_ ?_
 · refine wk_of (id) (fun _ => false) (fun _ => false) ?_ ?_ rfl (by simp) (fun k hk => by first | exact ⟨rfl, rfl⟩ | (revert k; decide) | (obtain rfl : k = 0 := (by omega); exact ⟨rfl, rfl⟩) | (have hk2 : k = 0 ∨ k = 1 := (by omega); rcases hk2 with rfl | rfl <;> exact ⟨rfl, rfl⟩))
   · simp [hG, List.getD_cons_zero, List.getD_cons_succ, -List.getD_eq_getElem?_getD]
   simp [hG, List.getD_cons_zero, List.getD_cons_succ, -List.getD_eq_getElem?_getD]
 rintro k ⟨hk1, hk, hn⟩
 refine zs (zs (zr ?_))
 refine zy (fun hb13 => ?_) fun hb13 => ?_
 · refine zk (zs (zb (zs ?_)))
   refine awpS_draw hR mixed [] ⟨[], [], []⟩ fun mu0 => ?_
   refine za [0, 1, 2, 3, 4, 5, 6, 7, 8, 9] [] 0 [9, 8, 7, 6, 5, 4, 3, 2, 1, 0] ?_
   refine awpA_done (by decide +kernel) ?_
   refine zy (fun hb25 => ?_) fun hb25 => ?_
   · have heq : l.getD k de = l.getD (k - 1) de := edge_ext hb25.1 hb25.2.1 hb25.2.2
     have hdf := dd_full (d := de) hk hn
     have hdk : (ddAt de l k).length = k := (by rw [hdf, List.length_take]; omega)
     have hde := dd_eq (d := de) (l := l) (k := k) (by omega) heq
     refine zs (zr ?_)
     refine zs (zs (zr ?_))
     refine zb ?_
     refine awpS_loop (α := Nat) (fun u => ⟨[(0, .sl (0, 0) 0 l.length), (3, .int .i64 (ddAt de l (k + u)).length), (4, .sl (0, 0) k (l.length - k)), (5, .int .i64 u)], [(0, .one (.arr l.length 3 (fun i j => edgeF (ddG de l (k + u) i) j)))], 1⟩) (fun u => 1 ≤ u ∧ k + u ≤ l.length ∧ (ddAt de l (k + u)).length + 1 ≤ k + u) (fun u => l.length - k - u) (1) (⟨Nat.le_refl _, by omega, by rw [hde]; omega⟩) ?_ ?_
     · refine wk_of (id) (fun _ => false) (fun _ => false) ?_ ?_ rfl (by simp) (fun k hk => by first | exact ⟨rfl, rfl⟩ | (revert k; decide) | (obtain rfl : k = 0 := (by omega); exact ⟨rfl, rfl⟩) | (have hk2 : k = 0 ∨ k = 1 := (by omega); rcases hk2 with rfl | rfl <;> exact ⟨rfl, rfl⟩))
       · simp [hG, List.getD_cons_zero, List.getD_cons_succ, -List.getD_eq_getElem?_getD]; rw [hde, hdk]
       simp [hG, List.getD_cons_zero, List.getD_cons_succ, -List.getD_eq_getElem?_getD]; intro i hi; have e := ddG_full (d := de) (l := l) (k := k) (i := i) hk hn; rw [ddG_skip (by omega) heq, e]; exact ⟨rfl, rfl, rfl⟩
     rintro u ⟨hu1, hu, hdl⟩
     refine zs (zs (zr ?_))
     refine zy (fun hb32 => ?_) fun hb32 => ?_
     · have hg1 := ddG_old (d := de) (l := l) (m := k + u) (i := k + u) (by omega)
       have hg2 := ddG_old (d := de) (l := l) (m := k + u) (i := k + (u - 1)) (by omega)
       refine zk (zs (zb (zs ?_)))
       refine awpS_draw hR mixed [] ⟨[], [], []⟩ fun mu0 => ?_
       refine za [0, 1, 2, 3, 4, 5, 6, 7, 8, 9] [] 0 [9, 8, 7, 6, 5, 4, 3, 2, 1, 0] ?_
       refine awpA_done (by decide +kernel) ?_
       refine zy (fun hb44 => ?_) fun hb44 => ?_
       · have hnx : l.getD (k + u) de ≠ l.getD (k + u - 1) de := (by rw [show k + u - 1 = k + (u - 1) by omega, ← hg1, ← hg2]; intro e; rw [e] at hb44; simp at hb44)
         have hds := dd_ne hnx
         refine zs (zr ?_)
         refine zr ?_
         refine zn (zbn (zr ?_))
         refine zn ?_
         refine round_end (u + 1) (⟨by omega, by omega, by rw [show k + (u + 1) = k + u + 1 by omega, hds, List.length_append, List.length_singleton]; omega⟩) (by omega) ?_
         refine wk_of (id) (fun _ => false) (fun _ => false) ?_ ?_ rfl (by simp) (fun k hk => by first | exact ⟨rfl, rfl⟩ | (revert k; decide) | (obtain rfl : k = 0 := (by omega); exact ⟨rfl, rfl⟩) | (have hk2 : k = 0 ∨ k = 1 := (by omega); rcases hk2 with rfl | rfl <;> exact ⟨rfl, rfl⟩))
         · rw [show k + (u + 1) = k + u + 1 by omega, hds]; simp [hG, List.getD_cons_zero, List.getD_cons_succ, -List.getD_eq_getElem?_getD]
         simp [hG, List.getD_cons_zero, List.getD_cons_succ, -List.getD_eq_getElem?_getD]; intro i hi; rw [show k + (u + 1) = k + u + 1 by omega, ddG_put hnx, hg1]; by_cases h : i = (ddAt de l (k + u)).length <;> simp [h]
       have heq2 : l.getD (k + u) de = l.getD (k + u - 1) de := (by rw [show k + u - 1 = k + (u - 1) by omega, ← hg1, ← hg2]; exact edge_ext hb44.1 hb44.2.1 hb44.2.2)
       have hdq := dd_eq (d := de) (l := l) (k := k + u) (by omega) heq2
       refine zk (zn (zbn (zr ?_)))
       refine zn ?_
       refine round_end (u + 1) (⟨by omega, by omega, by rw [show k + (u + 1) = k + u + 1 by omega, hdq]; omega⟩) (by omega) ?_
       refine wk_of (id) (fun _ => false) (fun _ => false) ?_ ?_ rfl (by simp) (fun k hk => by first | exact ⟨rfl, rfl⟩ | (revert k; decide) | (obtain rfl : k = 0 := (by omega); exact ⟨rfl, rfl⟩) | (have hk2 : k = 0 ∨ k = 1 := (by omega); rcases hk2 with rfl | rfl <;> exact ⟨rfl, rfl⟩))
       · rw [show k + (u + 1) = k + u + 1 by omega, hdq]; simp [hG, List.getD_cons_zero, List.getD_cons_succ, -List.getD_eq_getElem?_getD]
       simp [hG, List.getD_cons_zero, List.getD_cons_succ, -List.getD_eq_getElem?_getD]; intro i hi; rw [show k + (u + 1) = k + u + 1 by omega, ddG_skip (by omega) heq2]; exact ⟨rfl, rfl, rfl⟩
     refine zx (ztx (zbx (zs (zr ?_))))
     refine zs (zr ?_)
     refine zt (zbt (ztt (zbt ?_)))
     refine RetF_of (()) (id) (fun _ => false) (fun _ => false) trivial ?_ ?_ (by rfl) (by simp) (fun k _ => ⟨rfl, rfl⟩)
     · simp [hG, List.getD_cons_zero, List.getD_cons_succ, -List.getD_eq_getElem?_getD]; unfold ddL; rw [show k + u = l.length by omega]
     simp [hG, List.getD_cons_zero, List.getD_cons_succ, -List.getD_eq_getElem?_getD]; exact fun i hi => ⟨clr_end (j := 0) (by omega) hi (by decide) (fun _ _ => rfl), clr_end (j := 1) (by omega) hi (by decide) (fun _ _ => rfl), clr_end (j := 2) (by omega) hi (by decide) (fun _ _ => rfl)⟩
   have hneq := edge_ne hb25
   refine zk (zn (zbn (zr ?_)))
   refine zn ?_
   refine round_end (k + 1) (⟨by omega, by omega, fun j hj h1 => (Nat.lt_or_ge j k).elim (fun h => hn j h h1) fun h => by rw [show j = k by omega]; exact hneq⟩) (by omega) ?_
   refine wk_of (id) (fun _ => false) (fun _ => false) ?_ ?_ rfl (by simp) (fun k hk => by first | exact ⟨rfl, rfl⟩ | (revert k; decide) | (obtain rfl : k = 0 := (by omega); exact ⟨rfl, rfl⟩) | (have hk2 : k = 0 ∨ k = 1 := (by omega); rcases hk2 with rfl | rfl <;> exact ⟨rfl, rfl⟩))
   · simp [hG, List.getD_cons_zero, List.getD_cons_succ, -List.getD_eq_getElem?_getD]
   simp [hG, List.getD_cons_zero, List.getD_cons_succ, -List.getD_eq_getElem?_getD]
 refine zx (ztx (zbx (zs (zr ?_))))
 refine zt ?_
 refine RetF_of (()) (id) (fun _ => false) (fun _ => false) trivial ?_ ?_ (by rfl) (by simp) (fun k _ => ⟨rfl, rfl⟩)
 · rw [ddL_none fun j hj h1 => hn j (by omega) h1]; simp [hG]
 rw [ddL_none fun j hj h1 => hn j (by omega) h1]; simp [hG]
set_option maxRecDepth 100000 in
theorem makeG_c (labels states : Int) (l : List Edge) (hl : l.length ≤ 1000000) : PC Tryz.prog 86 [.int .i64 labels, .int .i64 states, edgesC l] (.tup 2 (fun j => [.agg 3 (grF (mkX labels states l)), .int .i64 (mkN labels states l)].getD j .any)) := by
 refine zp Tryz.func86 fun G hG hR => ?_
 refine zs (zr ?_)
 refine zs (zL (zl 1 ?_))
 refine zf cal58 [] (cloneE_c l (by omega)) (fun x hI hno => ?_)
 refine zl 1 ?_
 refine zN (zs (zL (zl 1 ?_)))
 refine zc cal66 by_c ?_
 refine awpL_fc cal119 [1] (fun _ => false) (sortE_c l (by omega)) rfl rfl rfl (by simp) (.inl fun _ => rfl) ?_ ?_ ?_ fun K hK x hI hno => ?_
 · simp [hG, List.getD_cons_zero, List.getD_cons_succ, -List.getD_eq_getElem?_getD]
 · simp [hG, List.getD_cons_zero, List.getD_cons_succ, -List.getD_eq_getElem?_getD]
 · simp [hG, List.getD_cons_zero, List.getD_cons_succ, -List.getD_eq_getElem?_getD]
 have hxl := hI.1.length_eq
 have hxe := dd_norm hI.1 hI.2
 simp [hG, List.getD_cons_zero, List.getD_cons_succ, -List.getD_eq_getElem?_getD]
 refine hK _ ?_
 clear K hK
 refine zN (zs ?_)
 refine awpS_wk (st2 := ⟨[(0, .int .i64 labels), (1, .int .i64 states), (6, .ptr (0, 0) 0 0), (8, .sl (1, 0) 0 x.length)], [(0, .one (.arr 1 3 (fun _ j => [.int .i64 0, .int .i64 0, .nils].getD j .any))), (1, .one (.arr x.length 3 (fun i j => edgeF (x.getD i de) j)))], 2⟩) ?_ ?_
 · exact zi (e := by simp [hG, List.getD_cons_zero, List.getD_cons_succ, -List.getD_eq_getElem?_getD]; omega) (h := by simp [hG, List.getD_cons_zero, List.getD_cons_succ, -List.getD_eq_getElem?_getD]; omega)
 refine zL (zl 3 ?_)
 refine awpL_fc cal120 [1] (fun _ => false) (compactF_c x (by omega)) rfl rfl rfl (by simp) (.inl fun _ => rfl) ?_ ?_ ?_ fun K hK x hI hno => ?_
 · simp [hG, List.getD_cons_zero, List.getD_cons_succ, -List.getD_eq_getElem?_getD]
 · simp [hG, List.getD_cons_zero, List.getD_cons_succ, -List.getD_eq_getElem?_getD]
 · simp [hG, List.getD_cons_zero, List.getD_cons_succ, -List.getD_eq_getElem?_getD]
 simp only [hxe]
 simp [hG, List.getD_cons_zero, List.getD_cons_succ, -List.getD_eq_getElem?_getD]
 refine hK _ ?_
 clear K hK
 refine zl 3 ?_
 refine zN (zs (zs (zL (zl 1 ?_))))
 refine awpL_callB (mem [1]) cal42 (by simp [flat]) rfl rfl (fun _ => rfl) (fun hg => checkC_c ⟨labels, states, normE l⟩) (fun hg => ?_) (fun hg => ?_) fun K hK => ?_
 · simp [hG, List.getD_cons_zero, List.getD_cons_succ, -List.getD_eq_getElem?_getD]
 · simp [hG, List.getD_cons_zero, List.getD_cons_succ, -List.getD_eq_getElem?_getD]; have := norm_len (l := l); omega
 simp [hG, List.getD_cons_zero, List.getD_cons_succ, -List.getD_eq_getElem?_getD]
 refine hK _ ?_
 clear K hK
 refine zl 1 ?_
 refine zN (zs (zr ?_))
 refine zy (fun hb24 => ?_) fun hb24 => ?_
 · refine zs (zr ?_)
   refine zt ?_
   refine RetOK_of ?_
   simp [hG, List.getD_cons_zero, List.getD_cons_succ, -List.getD_eq_getElem?_getD]
   rw [mk_no (m := mkN labels states l) rfl hb24]; simp; exact rfl
 refine zk (zs (zr ?_))
 refine zt ?_
 refine RetOK_of ?_
 simp [hG, List.getD_cons_zero, List.getD_cons_succ, -List.getD_eq_getElem?_getD]
 rw [mk_ok hb24]; simp; exact ⟨by have := norm_len (l := l); omega, hb24.symm⟩
end Go.Proofs.YtchjjiedcpfniaaGreatDoor
namespace Go.Proofs.YtchjjiedcpfniaaGreatDoor
set_option linter.unusedSimpArgs false
set_option linter.unusedVariables false
open Go Go.Lift Go.Proofs
section
variable {g : Gr} {v : List Int} {m : Int} {l : List Spl}
theorem spl_zero {i : Nat} (h : splN g v m l i = 0) : (0 ≤ (l.getD i ds).st ∧ (l.getD i ds).st < g.states) ∧ (0 < i → (l.getD (i - 1) ds).st < (l.getD i ds).st) ∧ divB (l.getD i ds).parts (outR g (l.getD i ds).st) = true ∧ wtB g v m (l.getD i ds) = true := by
  unfold splN at h
  split at h
  · cases h
  · rename_i h1
    split at h
    · cases h
    · rename_i h2
      split at h
      · cases h
      · rename_i h3
        split at h
        · cases h
        · rename_i h4
          exact ⟨by omega, fun hi => by omega, by simpa using h3, by simpa using h4⟩
theorem rnd_zero (h : rndN g v m l = 0) : baseN g v m = 0 ∧ l ≠ [] ∧ ∀ i, i < l.length → splN g v m l i = 0 := by
  unfold rndN at h
  split at h
  · rename_i h1; exact absurd h h1
  · rename_i h1
    split at h
    · cases h
    · rename_i h2
      exact ⟨Classical.byContradiction h1, h2, firstNZ_zero h⟩
theorem rnd_spl (hr : RndOK l) (h : rndN g v m l = 0) {x : Spl} (hx : x ∈ l) : SplOK g x ∧ 0 < x.parts.length := by
  have hv := (vecN_zero (eigN_zero (baseN_zero (rnd_zero h).1).1).1).1
  obtain ⟨j, hj, rfl⟩ := List.mem_iff_getElem.1 hx
  have h1 := spl_zero ((rnd_zero h).2.2 j hj)
  have e : l.getD j ds = l[j] := by simp [List.getD, hj]
  rw [e] at h1
  exact spl_ok hv hr hx h1.1 h1.2.2.1
noncomputable def aplL (g : Gr) (l : List Spl) : List Edge := edA g l g.edges.length
noncomputable def aplN (g : Gr) (v : List Int) (m : Int) (l : List Spl) : Int := if rndN g v m l ≠ 0 then rndN g v m l else if 64 < offA g l g.states.toNat ∨ 1024 < (aplL g l).length then 4 else 0
end
end Go.Proofs.YtchjjiedcpfniaaGreatDoor
namespace Go.Proofs.YtchjjiedcpfniaaGreatDoor
set_option linter.unusedSimpArgs false
set_option linter.unusedVariables false
open Go Go.Lift Go.Proofs
theorem place_split {l : List Spl} {s : Nat} : (∃ k, k < l.length ∧ placeG l (fun x => decide (x.st = (s : Int))) = k ∧ splO l s = some (l.getD k ds)) ∨ (placeG l (fun x => decide (x.st = (s : Int))) = -1 ∧ splO l s = none) := by
  unfold placeG
  by_cases h : (l.any fun x => decide (x.st = (s : Int))) = true
  · left
    rw [if_pos h]
    have hlt : l.findIdx (fun x => decide (x.st = (s : Int))) < l.length := List.findIdx_lt_length.2 (by
      obtain ⟨x, hx, hq⟩ := List.any_eq_true.1 h
      exact ⟨x, hx, hq⟩)
    refine ⟨_, hlt, rfl, splO_hit hlt ?_ fun j hj => ?_⟩
    · rw [getD_get hlt]
      simpa using List.findIdx_getElem (xs := l) (p := fun x => decide (x.st = (s : Int))) (w := hlt)
    · rw [getD_get (by omega)]
      have := List.not_of_lt_findIdx hj
      simpa using this
  · right
    rw [if_neg h]
    refine ⟨rfl, splO_none fun j hj e => h (List.any_eq_true.2 ⟨_, getD_mem (d := ds) hj, by simpa using e⟩)⟩
def chAt (g : Gr) (l : List Spl) (s j : Nat) : List Int := if j < s then chL g l j else []
def chAtP (g : Gr) (l : List Spl) (s i j : Nat) : List Int := if j < s then chL g l j else if j = s then chP g l s i else []
section
variable {g : Gr} {l : List Spl} {s i j : Nat}
theorem chAt_zero : chAt g l 0 j = [] := if_neg (Nat.not_lt_zero _)
theorem chAtP_zero : chAtP g l s 0 j = chAt g l s j := by
  unfold chAtP chAt
  rw [chP_zero]
  split <;> first | rfl | (split <;> rfl)
theorem chAtP_succ : chAtP g l s (i + 1) j = if j = s then chAtP g l s i s ++ [((offA g l s + i : Nat) : Int)] else chAtP g l s i j := by
  unfold chAtP
  by_cases h : j = s
  · subst h
    rw [if_neg (Nat.lt_irrefl _), if_pos rfl, if_pos rfl, if_neg (Nat.lt_irrefl _), if_pos rfl, chP_succ]
  · simp only [if_neg h]
theorem chAtP_all : chAtP g l s (prS g l s).length j = chAt g l (s + 1) j := by
  unfold chAtP chAt
  by_cases h : j < s
  · rw [if_pos h, if_pos (by omega)]
  · rw [if_neg h]
    by_cases h2 : j = s
    · subst h2; rw [if_pos rfl, if_pos (by omega), chP_all]
    · rw [if_neg h2, if_neg (by omega)]
theorem chAt_all (h : j < s) : chAt g l s j = chL g l j := if_pos h
end
theorem parA_zero {g : Gr} {l : List Spl} : parA g l 0 = [] := rfl
theorem hvA_zero {g : Gr} {v : List Int} {m : Int} {l : List Spl} : hvA g v m l 0 = [] := rfl
theorem asgA_zero {g : Gr} {l : List Spl} : asgA g l 0 = [] := rfl
theorem asgS_zero {g : Gr} {l : List Spl} {s : Nat} : asgS g l s 0 = [] := rfl
theorem prS_box {g : Gr} {v : List Int} {m : Int} {l : List Spl} (hr : RndOK l) (h : rndN g v m l = 0) {s : Nat} (hs : (s : Int) < g.states) : ∀ p ∈ prS g l s, ∀ e ∈ p, 0 ≤ e ∧ e < (g.edges.length : Int) := by
  intro p hp e he
  unfold prS at hp
  cases hsp : splO l s with
  | some x =>
    rw [hsp] at hp
    exact (rnd_spl hr h (splO_some hsp).1).1.box p hp e he
  | none =>
    rw [hsp] at hp
    have := List.mem_singleton.1 hp
    subst this
    have hv := (vecN_zero (eigN_zero (baseN_zero (rnd_zero h).1).1).1).1
    rw [(out_3 hv (by omega)).1] at he
    obtain ⟨j, hj, rfl, _⟩ := outA_mem.1 he
    omega
theorem prS_len {g : Gr} {l : List Spl} (hr : RndOK l) (hv : gcheck g = 0) {s : Nat} (hs : (s : Int) < g.states) : (prS g l s).length ≤ 900 ∧ ∀ p ∈ prS g l s, p.length ≤ 1024 := by
  unfold prS
  cases hsp : splO l s with
  | some x => exact ⟨hr.num x (splO_some hsp).1, hr.part x (splO_some hsp).1⟩
  | none =>
    refine ⟨by simp, fun p hp => ?_⟩
    have := List.mem_singleton.1 hp
    subst this
    rw [(out_3 hv (by omega)).1]
    have h1 := outA_len (g := g) (s := (s : Int)) g.edges.length
    have h2 := (gcheck_valid hv).1.ed
    unfold outL
    omega
end Go.Proofs.YtchjjiedcpfniaaGreatDoor
namespace Go.Proofs.YtchjjiedcpfniaaGreatDoor
set_option linter.unusedSimpArgs false
set_option linter.unusedVariables false
open Go Go.Lift Go.Proofs
section
variable {g : Gr} {v : List Int} {m : Int} {s : Nat}
theorem base_low (h : baseN g v m = 0) (hs : s < g.states.toNat) : m * v.getD s 0 ≤ psV g v (outR g s) := by
  have h1 := eigN_zero (baseN_zero h).1
  have hv := (vecN_zero h1.1).1
  rw [(out_3 hv (by omega)).1, psV_out]
  have h2 := List.any_eq_false.1 h1.2.2 s (List.mem_range.2 hs)
  have h2 : ¬ sumV g v s < m * v.getD s 0 := fun h3 => h2 (decide_eq_true h3)
  omega
end
end Go.Proofs.YtchjjiedcpfniaaGreatDoor
