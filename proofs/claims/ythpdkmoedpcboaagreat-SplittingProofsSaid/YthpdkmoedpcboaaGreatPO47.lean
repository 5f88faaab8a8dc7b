/- Parts of the proof: XG. -/
import Derived.Test.YthpdkmoedpcboaaGreatPO15
import Derived.Test.YthpdkmoedpcboaaGreatPO46
namespace Go.Proofs.YthpdkmoedpcboaaGreat
set_option linter.unusedSimpArgs false
set_option linter.unusedVariables false
open Go Go.Lift Go.Proofs
theorem app_gen {α : Type} {f : α → AVal} {l : List α} {v d : α} {g : Nat → Nat → AVal} {i : Nat} (h : i < l.length + 1) : app (fun i _ => f (l.getD i d)) l.length (fun i j => if i = 0 ∧ j = 0 then f v else g i j) i 0 = f ((l ++ [v]).getD i d) := by
  rw [getD_app]
  unfold app
  by_cases h2 : i < l.length
  · rw [if_pos h2, if_pos h2]
  · have : i - l.length = 0 := by omega
    rw [if_neg h2, if_neg h2, this]
    rfl
@[simp] theorem VLe_yld2 {h : Heap} {σ : Lift.Id → Lift.Id} {fz : Nat → Bool} {vz : Lift.Id → Bool} {nx l : Nat} {vs : Array Value} {f f' : Nat → AVal} : VLe h σ fz vz nx (.yld l vs 2 f) (.yld l vs 2 f') = (VLe h σ fz vz nx (f 0) (f' 0) ∧ VLe h σ fz vz nx (f 1) (f' 1)) := by
  apply propext
  constructor
  · rintro ⟨_, _, _, h⟩
    exact ⟨h 0 (by omega), h 1 (by omega)⟩
  · rintro ⟨h0, h1⟩
    refine ⟨rfl, rfl, rfl, fun j hj => ?_⟩
    match j, hj with
    | 0, _ => exact h0
    | 1, _ => exact h1
@[simp] theorem compAt_zero {g : Gr} {s : Nat} : compAt g s 0 = [] := rfl
@[simp] theorem compsAt_zero {g : Gr} : compsAt g 0 = [] := rfl
theorem app_fn {F : Nat → AVal} {k : Nat} {g : Nat → Nat → AVal} {i : Nat} (h : i < k + 1) : app (fun i _ => F i) k (fun i j => if i = 0 ∧ j = 0 then F k else g i j) i 0 = F i := by
  unfold app
  by_cases h2 : i < k
  · rw [if_pos h2]
  · obtain rfl : i = k := by omega
    rw [if_neg h2, Nat.sub_self]
    rfl
theorem compsAt_len {g : Gr} {k : Nat} : (compsAt g k).length ≤ k := by
  unfold compsAt
  rw [List.length_map]
  exact Nat.le_trans (List.length_filter_le _ _) (by simp)
theorem filt_pos {g : Gr} {p : List Int → Bool} {i : Nat} (h : (compL g i).getD 0 0 = (i : Int)) : (compsAt g (i + 1)).filter p = if p (compL g i) then (compsAt g i).filter p ++ [compL g i] else (compsAt g i).filter p := by
  rw [compsAt_succ, if_pos (by unfold least; exact decide_eq_true h), List.filter_append]
  by_cases hp : p (compL g i) = true
  · simp [hp]
  · simp [hp]
theorem filt_neg {g : Gr} {p : List Int → Bool} {i : Nat} (h : ¬ (compL g i).getD 0 0 = (i : Int)) : (compsAt g (i + 1)).filter p = (compsAt g i).filter p := by
  rw [compsAt_succ, if_neg (by unfold least; simpa [-List.getD_eq_getElem?_getD] using h)]
set_option maxRecDepth 100000 in
theorem someB_y (g : Gr) (p : List Int → Bool) (hfn hn : Nat) (hc : Nat → AVal) (hcal : Callable Tryz.prog hfn) (hclo : ∀ j, Clo (hc j)) (hp : ∀ s, s < g.n → PC Tryz.prog hfn (ints (compL g s) :: (List.range' 0 hn).map hc) (.bool (p (compL g s)))) (s : Nat) (hs : s < g.n) (K : List (List Int)) (hK : K.length ≤ 64) {l : Nat} {rec : Loop} {vs : Array Value} (hok : RecOK rec [3, 6] vs #[13] (rngA Tryz.f93.body 0) (rngB Tryz.f93.body 0) 22) : YC Tryz.prog l rec vs ([ints (compL g s)] ++ [.vptr 1 (fun _ => .fn hfn hn hc) 0, .ptr (0, 0) 0 0]) [(0, .one (.arr 1 1 (fun _ _ => .sl (1, 0) 0 (K).length))), (1, .one (.arr (K).length 1 (fun j _ => ints ((K).getD j []))))] 2 (fun _ : Unit => True) (fun _ : Unit => .bool true) (fun _ : Unit => [(0, .one (.arr 1 1 (fun _ _ => .sl (2, 0) 0 ((if p (compL g s) then K ++ [compL g s] else K)).length))), (2, .one (.arr ((if p (compL g s) then K ++ [compL g s] else K)).length 1 (fun j _ => ints (((if p (compL g s) then K ++ [compL g s] else K)).getD j []))))]) (fun _ : Unit => 3) := by
 refine YC_introS hok rfl rfl (by simp [nobH, nobO]) rfl (by simp) rfl fun G hG hR => ?_
 show AwpS _ _ _ _ _ ⟨[(13, ints (compL g s)), (3, .vptr 1 (fun _ => .fn hfn hn hc) 0), (6, .ptr (0, 0) 0 0)], [(0, .one (.arr 1 1 (fun _ _ => .sl (1, 0) 0 (K).length))), (1, .one (.arr (K).length 1 (fun j _ => ints ((K).getD j []))))], 2⟩
 refine zr ?_
 refine zn ?_
 refine ⟨rfl, fun G hG hR => ?_⟩
 refine zb (zs (zL (zl 2 ?_)))
 refine zc hcal (hp s hs) ?_ (b := fun hg => by simp [hG, List.getD_cons_zero, List.getD_cons_succ, -List.getD_eq_getElem?_getD]; exact argsLe_caps fun j _ => hclo j)
 refine zN (zy (fun hb16 => ?_) fun hb16 => ?_)
 · refine zr ?_
   refine zn (zbn (zn ?_))
   refine ⟨rfl, RetY_of (()) (fun k => if k = 2 then 3 else k) (fun _ => false) (fun _ => false) trivial ?_ (by rfl) (by simp) (fun k hk => ⟨if_neg (by omega), rfl⟩)⟩
   rw [if_pos hb16]; simp [hG, List.getD_cons_zero, List.getD_cons_succ, -List.getD_eq_getElem?_getD]; intro i hi; rw [app_gen (f := ints) hi]; exact Clo.le _ Clo_ints
 refine zk (zn (zbn (zn ?_)))
 refine ⟨rfl, RetY_of (()) (fun k => if k = 2 then 1 else k) (fun _ => false) (fun _ => false) trivial ?_ (by rfl) (by simp) (fun k hk => ⟨if_neg (by omega), rfl⟩)⟩
 rw [if_neg (by rw [hb16]; exact Bool.false_ne_true)]; simp [hG, List.getD_cons_zero, List.getD_cons_succ, -List.getD_eq_getElem?_getD]
set_option maxRecDepth 100000 in
theorem comps_c (g : Gr) (p : List Int → Bool) (hfn hn : Nat) (hc : Nat → AVal) (hcal : Callable Tryz.prog hfn) (hclo : ∀ j, Clo (hc j)) (hp : ∀ s, s < g.n → PC Tryz.prog hfn (ints (compL g s) :: (List.range' 0 hn).map hc) (.bool (p (compL g s)))) (hf : Fit g) (hed : g.edges.length ≤ 1024) (l : Nat) (rec : Loop) (vs : Array Value) (hok : RecOK rec [3, 6] vs #[13] (rngA Tryz.f93.body 0) (rngB Tryz.f93.body 0) 22) : FCY Tryz.prog 164 l rec [.yld l vs 2 (fun j => [.vptr 1 (fun _ => .fn hfn hn hc) 0, .ptr (0, 0) 0 0].getD j .any), .vptr 3 (grF g) 0] [(0, .one (.arr 1 1 (fun _ _ => .nils)))] 1 (fun _ : Unit => True) (fun _ : Unit => .any) (fun _ : Unit => [(0, .one (.arr 1 1 (fun _ _ => .sl (1, 0) 0 (((compsL g).filter p)).length))), (1, .one (.arr (((compsL g).filter p)).length 1 (fun j _ => ints ((((compsL g).filter p)).getD j []))))]) (fun _ : Unit => 2) := by
 have hst := hf.st
 have hnn : (g.n : Int) = g.states := (by unfold Gr.n; omega)
 have hV : ∀ {h : Heap} {σ : Lift.Id → Lift.Id} {fz : Nat → Bool} {vz : Lift.Id → Bool} {nx j : Nat}, VLe h σ fz vz nx (hc j) (hc j) := fun {h σ fz vz nx j} => Clo.le _ (hclo j)
 refine FCY_introS T_ok (by simp [nobH, nobO]) Tryz.func164 rfl (by simp [Tryz.ntmps164]) fun G hG hR hrec => ?_
 simp only [Tryz.ntmps164, Tryz.results164] at hG ⊢
 simp only [argEnv, Nat.zero_add, Nat.reduceAdd]
 refine zs (zr ?_ (h := by intro c K h; simp [hG, List.getD_cons_zero, List.getD_cons_succ, -List.getD_eq_getElem?_getD, hV, reachL_len]; first | exact z1 c h | exact ⟨.mk c, h⟩))
 refine zs (zs (zr ?_ (h := by intro c K h; simp [hG, List.getD_cons_zero, List.getD_cons_succ, -List.getD_eq_getElem?_getD, hV, reachL_len]; first | exact z1 c h | exact ⟨.mk c, h⟩)))
 refine zb ?_
 refine awpS_loop (α := Nat) (fun k => ⟨[(0, .yld l vs 2 (fun j => [.vptr 1 (fun _ => .fn hfn hn hc) 0, .ptr (0, 0) 0 0].getD j .any)), (1, .vptr 3 (grF g) 0), (3, .sl (1, 0) 0 k), (9, .int .i64 g.states), (10, .int .i64 k)], [(0, .one (.arr 1 1 (fun _ _ => .nils))), (1, .one (.arr k 1 (fun j _ => bools (reachL g j))))], 2⟩) (fun k => k ≤ g.n) (fun k => g.n - k) (0) (Nat.zero_le _) ?_ ?_
 · refine wk_of (id) (fun _ => false) (fun k => k == 1) ?_ ?_ rfl (by simp) (fun k hk => by first | exact ⟨rfl, rfl⟩ | (revert k; decide) | (obtain rfl : k = 0 := (by omega); exact ⟨rfl, rfl⟩) | (have hk2 : k = 0 ∨ k = 1 := (by omega); rcases hk2 with rfl | rfl <;> exact ⟨rfl, rfl⟩))
   · simp [hG, List.getD_cons_zero, List.getD_cons_succ, -List.getD_eq_getElem?_getD, hV, reachL_len]
   simp [hG, List.getD_cons_zero, List.getD_cons_succ, -List.getD_eq_getElem?_getD, hV, reachL_len]
 rintro k hk
 refine zs (zr ?_ (h := by intro c K h; simp [hG, List.getD_cons_zero, List.getD_cons_succ, -List.getD_eq_getElem?_getD, hV, reachL_len]; first | exact z1 c h | exact ⟨.mk c, h⟩))
 refine zs (zy (fun hb11 => ?_) fun hb11 => ?_)
 · refine zk (zs (zb (zs (zr ?_ (h := by intro c K h; simp [hG, List.getD_cons_zero, List.getD_cons_succ, -List.getD_eq_getElem?_getD, hV, reachL_len]; first | exact z1 c h | exact ⟨.mk c, h⟩)))))
   refine zL (zl 3 ?_ (h := by intro c K h; simp [hG, List.getD_cons_zero, List.getD_cons_succ, -List.getD_eq_getElem?_getD, hV, reachL_len]; first | exact z1 c h | exact ⟨.mk c, h⟩))
   refine zc cal165 (reach_c g k hf hed (by omega)) ?_ (a := fun hg => by simp [hG, List.getD_cons_zero, List.getD_cons_succ, -List.getD_eq_getElem?_getD, hV, reachL_len]) (b := fun hg => by simp [hG, List.getD_cons_zero, List.getD_cons_succ, -List.getD_eq_getElem?_getD, hV, reachL_len]) (h := by intro K h; simp [hG, List.getD_cons_zero, List.getD_cons_succ, -List.getD_eq_getElem?_getD, hV, reachL_len]; exact h)
   refine zl 3 ?_ (h := by intro c K h; simp [hG, List.getD_cons_zero, List.getD_cons_succ, -List.getD_eq_getElem?_getD, hV, reachL_len]; first | exact z1 c h | exact ⟨.mk c, h⟩)
   refine zN (zn (zbn (zr ?_ (h := by intro c K h; simp [hG, List.getD_cons_zero, List.getD_cons_succ, -List.getD_eq_getElem?_getD, hV, reachL_len]; first | exact z1 c h | exact ⟨.mk c, h⟩))))
   refine zn ?_
   refine round_end (k + 1) (by omega) (by omega) ?_
   refine wk_of (fun k => if k = 1 then 3 else k) (fun _ => false) (fun _ => false) ?_ ?_ rfl (by simp) (fun k hk => by first | exact ⟨rfl, rfl⟩ | (revert k; decide) | (obtain rfl : k = 0 := (by omega); exact ⟨rfl, rfl⟩) | (have hk2 : k = 0 ∨ k = 1 := (by omega); rcases hk2 with rfl | rfl <;> exact ⟨rfl, rfl⟩))
   · simp [hG, List.getD_cons_zero, List.getD_cons_succ, -List.getD_eq_getElem?_getD, hV, reachL_len]
   simp [hG, hV, reachL_len, List.getD_cons_zero, List.getD_cons_succ, -List.getD_eq_getElem?_getD]; intro i hi; rw [app_fn hi]; exact Clo.le _ Clo_bools
 obtain rfl : k = g.n := (by omega)
 refine zx (ztx (zbx (zs (zr ?_ (h := by intro c K h; simp [hG, List.getD_cons_zero, List.getD_cons_succ, -List.getD_eq_getElem?_getD, hV, reachL_len]; first | exact z1 c h | exact ⟨.mk c, h⟩)))))
 refine zb ?_
 refine awpS_loop (α := Nat) (fun i => ⟨[(0, .yld l vs 2 (fun j => [.vptr 1 (fun _ => .fn hfn hn hc) 0, .ptr (0, 0) 0 0].getD j .any)), (1, .vptr 3 (grF g) 0), (3, .sl (1, 0) 0 g.n), (21, .int .i64 g.states), (22, .int .i64 i)], [(0, .one (.arr 1 1 (fun _ _ => .sl (2, 0) 0 (((compsAt g i).filter p)).length))), (2, .one (.arr (((compsAt g i).filter p)).length 1 (fun j _ => ints ((((compsAt g i).filter p)).getD j [])))), (1, .one (.arr g.n 1 (fun j _ => bools (reachL g j))))], 3⟩) (fun i => i ≤ g.n) (fun i => g.n - i) (0) (Nat.zero_le _) ?_ ?_
 · refine wk_of (id) (fun _ => false) (fun k => k == 2) ?_ ?_ rfl (by simp) (fun k hk => by first | exact ⟨rfl, rfl⟩ | (revert k; decide) | (obtain rfl : k = 0 := (by omega); exact ⟨rfl, rfl⟩) | (have hk2 : k = 0 ∨ k = 1 := (by omega); rcases hk2 with rfl | rfl <;> exact ⟨rfl, rfl⟩))
   · simp [hG, List.getD_cons_zero, List.getD_cons_succ, -List.getD_eq_getElem?_getD, hV, reachL_len]
   simp [hG, List.getD_cons_zero, List.getD_cons_succ, -List.getD_eq_getElem?_getD, hV, reachL_len]
 rintro i hi
 refine zs (zr ?_ (h := by intro c K h; simp [hG, List.getD_cons_zero, List.getD_cons_succ, -List.getD_eq_getElem?_getD, hV, reachL_len]; first | exact z1 c h | exact ⟨.mk c, h⟩))
 refine zs (zy (fun hb23 => ?_) fun hb23 => ?_)
 · refine zk (zs (zb (zs (zr ?_ (h := by intro c K h; simp [hG, List.getD_cons_zero, List.getD_cons_succ, -List.getD_eq_getElem?_getD, hV, reachL_len]; first | exact z1 c h | exact ⟨.mk c, h⟩)))))
   refine zs (zr ?_ (h := by intro c K h; simp [hG, List.getD_cons_zero, List.getD_cons_succ, -List.getD_eq_getElem?_getD, hV, reachL_len]; first | exact z1 c h | exact ⟨.mk c, h⟩))
   refine zs (zs (zr ?_ (h := by intro c K h; simp [hG, List.getD_cons_zero, List.getD_cons_succ, -List.getD_eq_getElem?_getD, hV, reachL_len]; first | exact z1 c h | exact ⟨.mk c, h⟩)))
   refine zb ?_
   refine awpS_loop (α := Nat) (fun k => ⟨[(0, .yld l vs 2 (fun j => [.vptr 1 (fun _ => .fn hfn hn hc) 0, .ptr (0, 0) 0 0].getD j .any)), (1, .vptr 3 (grF g) 0), (3, .sl (1, 0) 0 g.n), (5, .int .i64 i), (6, .sl (3, 0) 0 (compAt g i k).length), (21, .int .i64 g.states), (22, .int .i64 i), (26, .int .i64 g.states), (27, .int .i64 k)], [(0, .one (.arr 1 1 (fun _ _ => .sl (2, 0) 0 (((compsAt g i).filter p)).length))), (2, .one (.arr (((compsAt g i).filter p)).length 1 (fun j _ => ints ((((compsAt g i).filter p)).getD j [])))), (1, .one (.arr g.n 1 (fun j _ => bools (reachL g j)))), (3, .one (.arr (compAt g i k).length 1 (fun j _ => .int .i64 ((compAt g i k).getD j 0))))], 4⟩) (fun k => k ≤ g.n) (fun k => g.n - k) (0) (Nat.zero_le _) ?_ ?_
   · refine wk_of (id) (fun _ => false) (fun k => k == 3) ?_ ?_ rfl (by simp) (fun k hk => by first | exact ⟨rfl, rfl⟩ | (revert k; decide) | (obtain rfl : k = 0 := (by omega); exact ⟨rfl, rfl⟩) | (have hk2 : k = 0 ∨ k = 1 := (by omega); rcases hk2 with rfl | rfl <;> exact ⟨rfl, rfl⟩))
     · simp [hG, List.getD_cons_zero, List.getD_cons_succ, -List.getD_eq_getElem?_getD, hV, reachL_len]
     simp [hG, List.getD_cons_zero, List.getD_cons_succ, -List.getD_eq_getElem?_getD, hV, reachL_len]
   rintro k hk
   refine zs (zr ?_ (h := by intro c K h; simp [hG, List.getD_cons_zero, List.getD_cons_succ, -List.getD_eq_getElem?_getD, hV, reachL_len]; first | exact z1 c h | exact ⟨.mk c, h⟩))
   refine zs (zy (fun hb28 => ?_) fun hb28 => ?_)
   · refine zk (zs (zb (zs (zr ?_ (h := by intro c K h; simp [hG, List.getD_cons_zero, List.getD_cons_succ, -List.getD_eq_getElem?_getD, hV, reachL_len]; first | exact z1 c h | exact ⟨.mk c, h⟩)))))
     refine zs (zr ?_ (h := by intro c K h; simp [hG, List.getD_cons_zero, List.getD_cons_succ, -List.getD_eq_getElem?_getD, hV, reachL_len]; first | exact z1 c h | exact ⟨.mk c, h⟩) (c := by simp [-List.getD_eq_getElem?_getD, reachL_len]; refine ⟨by omega, by omega, fun h => ⟨h, by omega⟩, fun h => ⟨h, by omega⟩⟩))
     refine zy (fun hb45 => ?_) fun hb45 => ?_
     · have hm : mutB g i k = true := (by simp only [mutB, hb45, Bool.and_self])
       have hcl := compAt_len (g := g) (s := i) (k := k)
       refine zr ?_ (h := by intro c K h; simp [hG, List.getD_cons_zero, List.getD_cons_succ, -List.getD_eq_getElem?_getD, hV, reachL_len]; first | exact z1 c h | exact ⟨.mk c, h⟩)
       refine zn (zbn (zr ?_ (h := by intro c K h; simp [hG, List.getD_cons_zero, List.getD_cons_succ, -List.getD_eq_getElem?_getD, hV, reachL_len]; first | exact z1 c h | exact ⟨.mk c, h⟩)))
       refine zn ?_
       refine round_end (k + 1) (by omega) (by omega) ?_
       refine wk_of (fun k => if k = 3 then 5 else k) (fun _ => false) (fun _ => false) ?_ ?_ rfl (by simp) (fun k hk => by first | exact ⟨rfl, rfl⟩ | (revert k; decide) | (obtain rfl : k = 0 := (by omega); exact ⟨rfl, rfl⟩) | (have hk2 : k = 0 ∨ k = 1 := (by omega); rcases hk2 with rfl | rfl <;> exact ⟨rfl, rfl⟩))
       · simp [hG, hV, reachL_len, List.getD_cons_zero, List.getD_cons_succ, -List.getD_eq_getElem?_getD]; rw [compAt_succ, if_pos hm]; simp
       simp [hG, hV, reachL_len, List.getD_cons_zero, List.getD_cons_succ, -List.getD_eq_getElem?_getD]; rw [compAt_succ, if_pos hm]; exact ⟨by simp, fun q hq => app_one (by simpa using hq)⟩
     have hm : ¬ mutB g i k = true := (by unfold mutB; simpa [-List.getD_eq_getElem?_getD] using hb45)
     refine zk (zn (zbn (zr ?_ (h := by intro c K h; simp [hG, List.getD_cons_zero, List.getD_cons_succ, -List.getD_eq_getElem?_getD, hV, reachL_len]; first | exact z1 c h | exact ⟨.mk c, h⟩))))
     refine zn ?_
     refine round_end (k + 1) (by omega) (by omega) ?_
     refine wk_of (id) (fun _ => false) (fun _ => false) ?_ ?_ rfl (by simp) (fun k hk => by first | exact ⟨rfl, rfl⟩ | (revert k; decide) | (obtain rfl : k = 0 := (by omega); exact ⟨rfl, rfl⟩) | (have hk2 : k = 0 ∨ k = 1 := (by omega); rcases hk2 with rfl | rfl <;> exact ⟨rfl, rfl⟩))
     · simp [hG, hV, reachL_len, List.getD_cons_zero, List.getD_cons_succ, -List.getD_eq_getElem?_getD]; rw [compAt_succ, if_neg hm]
     simp [hG, hV, reachL_len, List.getD_cons_zero, List.getD_cons_succ, -List.getD_eq_getElem?_getD]; rw [compAt_succ, if_neg hm]; exact ⟨Nat.le_refl _, fun _ _ => rfl⟩
   obtain rfl : k = g.n := (by omega)
   have hcp := compL_pos (g := g) (s := i) (by omega)
   have hKl : ((compsAt g i).filter p).length ≤ 64 := Nat.le_trans (List.length_filter_le _ _) (Nat.le_trans compsAt_len (by omega))
   refine zx (ztx (zbx (zs ?_)))
   refine awpS_wk (st2 := ⟨[(0, .yld l vs 2 (fun j => [.vptr 1 (fun _ => .fn hfn hn hc) 0, .ptr (0, 0) 0 0].getD j .any)), (1, .vptr 3 (grF g) 0), (3, .sl (1, 0) 0 g.n), (5, .int .i64 i), (6, ints (compL g i)), (21, .int .i64 g.states), (22, .int .i64 i)], [(0, .one (.arr 1 1 (fun _ _ => .sl (2, 0) 0 (((compsAt g i).filter p)).length))), (2, .one (.arr (((compsAt g i).filter p)).length 1 (fun j _ => ints ((((compsAt g i).filter p)).getD j [])))), (1, .one (.arr g.n 1 (fun j _ => bools (reachL g j))))], 3⟩) ?_ ?_
   · refine wk_of (id) (fun k => k == 3) (fun _ => false) ?_ ?_ rfl (by simp) (fun k hk => by first | exact ⟨rfl, rfl⟩ | (revert k; decide) | (obtain rfl : k = 0 := (by omega); exact ⟨rfl, rfl⟩) | (have hk2 : k = 0 ∨ k = 1 := (by omega); rcases hk2 with rfl | rfl <;> exact ⟨rfl, rfl⟩))
     · simp [hG, hV, reachL_len, List.getD_cons_zero, List.getD_cons_succ, -List.getD_eq_getElem?_getD]; first | done | exact ⟨rfl, Nat.le_refl _, fun _ _ => rfl⟩
     simp [hG, List.getD_cons_zero, List.getD_cons_succ, -List.getD_eq_getElem?_getD, hV, reachL_len]
   by_cases hs16 : (compL g i).getD 0 0 = (i : Int)
   · refine awpS_wk (st2 := ⟨[(0, .yld l vs 2 (fun j => [.vptr 1 (fun _ => .fn hfn hn hc) 0, .ptr (0, 0) 0 0].getD j .any)), (1, .vptr 3 (grF g) 0), (3, .sl (1, 0) 0 g.n), (5, .int .i64 i), (6, ints (compL g i)), (21, .int .i64 g.states), (22, .int .i64 i)], [(0, .one (.arr 1 1 (fun _ _ => .sl (2, 0) 0 (((compsAt g i).filter p)).length))), (2, .one (.arr (((compsAt g i).filter p)).length 1 (fun j _ => ints ((((compsAt g i).filter p)).getD j [])))), (1, .one (.arr g.n 1 (fun j _ => bools (reachL g j))))], 3⟩) ?_ ?_
     · refine wk_of (id) (fun k => k == 3) (fun _ => false) ?_ ?_ rfl (by simp) (fun k hk => by first | exact ⟨rfl, rfl⟩ | (revert k; decide) | (obtain rfl : k = 0 := (by omega); exact ⟨rfl, rfl⟩) | (have hk2 : k = 0 ∨ k = 1 := (by omega); rcases hk2 with rfl | rfl <;> exact ⟨rfl, rfl⟩))
       · simp [hG, hV, reachL_len, List.getD_cons_zero, List.getD_cons_succ, -List.getD_eq_getElem?_getD]; first | done | exact ⟨rfl, Nat.le_refl _, fun _ _ => rfl⟩
       simp [hG, List.getD_cons_zero, List.getD_cons_succ, -List.getD_eq_getElem?_getD, hV, reachL_len, hs16]
     refine zL (zl 8 ?_ (h := by intro c K h; simp [hG, List.getD_cons_zero, List.getD_cons_succ, -List.getD_eq_getElem?_getD, hV, reachL_len, hs16]; first | exact z1 c h | exact ⟨.mk c, h⟩))
     refine awpL_yield hrec hR [0, 2] (fun _ => false) (someB_y g p hfn hn hc hcal hclo hp i (by omega) ((compsAt g i).filter p) hKl hok) rfl (by rw [hok.params]; rfl) rfl rfl rfl (by simp) (.inl fun _ => rfl) ?_ ?_ ?_ fun K hK x hI hno => ?_
     · simp [hG, List.getD_cons_zero, List.getD_cons_succ, -List.getD_eq_getElem?_getD, hV, reachL_len, hs16]
     · simp [hG, List.getD_cons_zero, List.getD_cons_succ, -List.getD_eq_getElem?_getD, hV, reachL_len, hs16]
     · simp [hG, List.getD_cons_zero, List.getD_cons_succ, -List.getD_eq_getElem?_getD, hV, reachL_len, hs16]
     simp [hG, List.getD_cons_zero, List.getD_cons_succ, -List.getD_eq_getElem?_getD, hV, reachL_len, hs16]
     refine hK _ ?_
     clear K hK
     refine zl 2 ?_ (h := by intro c K h; simp [hG, List.getD_cons_zero, List.getD_cons_succ, -List.getD_eq_getElem?_getD, hV, reachL_len, hs16]; first | exact z1 c h | exact ⟨.mk c, h⟩)
     refine zN ?_
     refine awpS_cond rfl (fun hb61 => ?_) (fun hb61 => ?_)
     · simp at hb61
     try simp [-List.getD_eq_getElem?_getD] at hb61
     refine zk (zn (zbn (zr ?_ (h := by intro c K h; simp [hG, List.getD_cons_zero, List.getD_cons_succ, -List.getD_eq_getElem?_getD, hV, reachL_len, hs16]; first | exact z1 c h | exact ⟨.mk c, h⟩))))
     refine zn ?_
     refine round_end (i + 1) (by omega) (by omega) ?_
     refine wk_of (fun k => if k = 2 then 3 else k) (fun _ => false) (fun _ => false) ?_ ?_ rfl (by simp) (fun k hk => by first | exact ⟨rfl, rfl⟩ | (revert k; decide) | (obtain rfl : k = 0 := (by omega); exact ⟨rfl, rfl⟩) | (have hk2 : k = 0 ∨ k = 1 := (by omega); rcases hk2 with rfl | rfl <;> exact ⟨rfl, rfl⟩))
     · simp [hG, List.getD_cons_zero, List.getD_cons_succ, -List.getD_eq_getElem?_getD, hV, reachL_len, hs16]
     simp [hG, hV, reachL_len, List.getD_cons_zero, List.getD_cons_succ, -List.getD_eq_getElem?_getD]; rw [filt_pos hs16]; exact ⟨rfl, Nat.le_refl _, fun q _ => Clo.le _ Clo_ints⟩
   refine awpS_wk (st2 := ⟨[(0, .yld l vs 2 (fun j => [.vptr 1 (fun _ => .fn hfn hn hc) 0, .ptr (0, 0) 0 0].getD j .any)), (1, .vptr 3 (grF g) 0), (3, .sl (1, 0) 0 g.n), (5, .int .i64 i), (6, ints (compL g i)), (21, .int .i64 g.states), (22, .int .i64 i)], [(0, .one (.arr 1 1 (fun _ _ => .sl (2, 0) 0 (((compsAt g i).filter p)).length))), (2, .one (.arr (((compsAt g i).filter p)).length 1 (fun j _ => ints ((((compsAt g i).filter p)).getD j [])))), (1, .one (.arr g.n 1 (fun j _ => bools (reachL g j))))], 3⟩) ?_ ?_
   · refine wk_of (id) (fun k => k == 3) (fun _ => false) ?_ ?_ rfl (by simp) (fun k hk => by first | exact ⟨rfl, rfl⟩ | (revert k; decide) | (obtain rfl : k = 0 := (by omega); exact ⟨rfl, rfl⟩) | (have hk2 : k = 0 ∨ k = 1 := (by omega); rcases hk2 with rfl | rfl <;> exact ⟨rfl, rfl⟩))
     · simp [hG, hV, reachL_len, List.getD_cons_zero, List.getD_cons_succ, -List.getD_eq_getElem?_getD]; first | done | exact ⟨rfl, Nat.le_refl _, fun _ _ => rfl⟩
     simp [hG, List.getD_cons_zero, List.getD_cons_succ, -List.getD_eq_getElem?_getD, hV, reachL_len, hs16]
   refine zL (zl 8 ?_ (h := by intro c K h; simp [hG, List.getD_cons_zero, List.getD_cons_succ, -List.getD_eq_getElem?_getD, hV, reachL_len, hs16]; first | exact z1 c h | exact ⟨.mk c, h⟩))
   refine awpL_not (.bool true) rfl (fun K hK => ?_) (by intro c hc; cases hc)
   simp [hG, List.getD_cons_zero, List.getD_cons_succ, -List.getD_eq_getElem?_getD, hV, reachL_len, hs16]
   refine hK _ ?_
   clear K hK
   refine zl 2 ?_ (h := by intro c K h; simp [hG, List.getD_cons_zero, List.getD_cons_succ, -List.getD_eq_getElem?_getD, hV, reachL_len, hs16]; first | exact z1 c h | exact ⟨.mk c, h⟩)
   refine zN ?_
   refine awpS_cond rfl (fun hb61 => ?_) (fun hb61 => ?_)
   · simp at hb61
   try simp [-List.getD_eq_getElem?_getD] at hb61
   refine zk (zn (zbn (zr ?_ (h := by intro c K h; simp [hG, List.getD_cons_zero, List.getD_cons_succ, -List.getD_eq_getElem?_getD, hV, reachL_len, hs16]; first | exact z1 c h | exact ⟨.mk c, h⟩))))
   refine zn ?_
   refine round_end (i + 1) (by omega) (by omega) ?_
   refine wk_of (id) (fun _ => false) (fun _ => false) ?_ ?_ rfl (by simp) (fun k hk => by first | exact ⟨rfl, rfl⟩ | (revert k; decide) | (obtain rfl : k = 0 := (by omega); exact ⟨rfl, rfl⟩) | (have hk2 : k = 0 ∨ k = 1 := (by omega); rcases hk2 with rfl | rfl <;> exact ⟨rfl, rfl⟩))
   · simp [hG, List.getD_cons_zero, List.getD_cons_succ, -List.getD_eq_getElem?_getD, hV, reachL_len, hs16]
   simp [hG, hV, reachL_len, List.getD_cons_zero, List.getD_cons_succ, -List.getD_eq_getElem?_getD]; rw [filt_neg hs16]; exact ⟨rfl, Nat.le_refl _, fun q _ => Clo.le _ Clo_ints⟩
 obtain rfl : i = g.n := (by omega)
 refine zx (ztx (zbx (zn ?_)))
 refine RetF_of (()) (fun k => if k = 1 then 2 else k) (fun _ => false) (fun _ => false) trivial ?_ ?_ (by rfl) (by simp) (fun k hk => ⟨if_neg (by omega), rfl⟩)
 · simp [hG, List.getD_cons_zero, List.getD_cons_succ, -List.getD_eq_getElem?_getD, hV, reachL_len]
 simp [hG, hV, reachL_len, List.getD_cons_zero, List.getD_cons_succ, -List.getD_eq_getElem?_getD]; exact ⟨rfl, Nat.le_refl _, fun q _ => Clo.le _ Clo_ints⟩
set_option maxRecDepth 100000 in
theorem components_c (g : Gr) : PC Tryz.prog 131 [.agg 3 (grF g)] (.fn 164 1 (fun _ => .vptr 3 (grF g) 0)) := by
 refine zp Tryz.func131 fun G hG hR => ?_
 refine zs (zr ?_)
 refine zs (zr ?_)
 refine zt ?_
 exact zR
set_option maxRecDepth 100000 in
theorem some_c (g : Gr) (p : List Int → Bool) (hfn hn : Nat) (hc : Nat → AVal) (hcal : Callable Tryz.prog hfn) (hclo : ∀ j, Clo (hc j)) (hp : gcheck g = 0 → ∀ s, s < g.n → PC Tryz.prog hfn (ints (compL g s) :: (List.range' 0 hn).map hc) (.bool (p (compL g s)))) : PC Tryz.prog 93 [.agg 3 (grF g), .fn hfn hn hc] (.tup 2 (fun j => [rowsI (if gcheck g = 0 then (compsL g).filter p else []), .int .i64 (if gcheck g = 0 then 0 else 1)].getD j .any)) := by
 have hV : ∀ {h : Heap} {σ : Lift.Id → Lift.Id} {fz : Nat → Bool} {vz : Lift.Id → Bool} {nx j : Nat}, VLe h σ fz vz nx (hc j) (hc j) := fun {h σ fz vz nx j} => Clo.le _ (hclo j)
 refine zp Tryz.func93 fun G hG hR => ?_
 refine zs (zr ?_ (h := by intro c K h; simp [hG, List.getD_cons_zero, List.getD_cons_succ, -List.getD_eq_getElem?_getD, hV]; first | exact z1 c h | exact ⟨.mk c, h⟩))
 refine zs (zs (zL (zl 1 ?_ (h := by intro c K h; simp [hG, List.getD_cons_zero, List.getD_cons_succ, -List.getD_eq_getElem?_getD, hV]; first | exact z1 c h | exact ⟨.mk c, h⟩))))
 refine zc cal66 (checkC_c g) ?_ (a := fun hg => by simp [hG, List.getD_cons_zero, List.getD_cons_succ, -List.getD_eq_getElem?_getD, hV]) (b := fun hg => by simp [hG, List.getD_cons_zero, List.getD_cons_succ, -List.getD_eq_getElem?_getD, hV]) (h := by intro K h; simp [hG, List.getD_cons_zero, List.getD_cons_succ, -List.getD_eq_getElem?_getD, hV]; exact h)
 refine zl 1 ?_ (h := by intro c K h; simp [hG, List.getD_cons_zero, List.getD_cons_succ, -List.getD_eq_getElem?_getD, hV]; first | exact z1 c h | exact ⟨.mk c, h⟩)
 refine zN (zy (fun hb10 => ?_) fun hb10 => ?_)
 · refine zs (zr ?_ (h := by intro c K h; simp [hG, List.getD_cons_zero, List.getD_cons_succ, -List.getD_eq_getElem?_getD, hV]; first | exact z1 c h | exact ⟨.mk c, h⟩))
   refine zt ?_
   refine RetOK_of ?_
   simp [hG, List.getD_cons_zero, List.getD_cons_succ, -List.getD_eq_getElem?_getD, hV]
   exact ⟨fun h => absurd h hb10, hb10⟩
 have hgc : gcheck g = 0 := (by simpa using hb10)
 have hf := gcheck_fit hgc
 have hed := (gcheck_valid hgc).1.ed
 refine zk (zs (zr ?_ (h := by intro c K h; simp [hG, List.getD_cons_zero, List.getD_cons_succ, -List.getD_eq_getElem?_getD, hV]; first | exact z1 c h | exact ⟨.mk c, h⟩)))
 refine zs (zs (zL (zl 1 ?_ (h := by intro c K h; simp [hG, List.getD_cons_zero, List.getD_cons_succ, -List.getD_eq_getElem?_getD, hV]; first | exact z1 c h | exact ⟨.mk c, h⟩))))
 refine zc cal131 (components_c g) ?_ (a := fun hg => by simp [hG, List.getD_cons_zero, List.getD_cons_succ, -List.getD_eq_getElem?_getD, hV]) (b := fun hg => by simp [hG, List.getD_cons_zero, List.getD_cons_succ, -List.getD_eq_getElem?_getD, hV]) (h := by intro K h; simp [hG, List.getD_cons_zero, List.getD_cons_succ, -List.getD_eq_getElem?_getD, hV]; exact h)
 refine zN (zb ?_)
 refine awpS_wk (st2 := ⟨[(3, .vptr 1 (fun _ => .fn hfn hn hc) 0), (6, .ptr (0, 0) 0 0), (12, .fn 164 1 (fun _ => .vptr 3 (grF g) 0))], [(0, .one (.arr 1 1 (fun _ _ => .nils)))], 1⟩) ?_ ?_
 · exact zw (fun k => if k = 0 then 2 else 5) (fun k => k == 0 || k == 1) (fun _ => false) (e := by simp [hG, List.getD_cons_zero, List.getD_cons_succ, -List.getD_eq_getElem?_getD, hV]) (h := by simp [hG, List.getD_cons_zero, List.getD_cons_succ, -List.getD_eq_getElem?_getD, hV])
 refine awpS_range hR [3, 6] [0] (fun _ => false) cal164 rfl trivial (fun l rec vs hok => by rw [hG] at hok; exact comps_c g p hfn hn hc hcal hclo (hp hgc) hf hed l rec vs hok) (by simp) (.inl fun _ => rfl) (fun l vs => ?_) ?_ fun K hK x hI hno => ?_
 · simp [hG, List.getD_cons_zero, List.getD_cons_succ, -List.getD_eq_getElem?_getD, hV]
 · simp [hG, List.getD_cons_zero, List.getD_cons_succ, -List.getD_eq_getElem?_getD, hV]
 simp [hG, List.getD_cons_zero, List.getD_cons_succ, -List.getD_eq_getElem?_getD, hV]
 refine hK _ ?_
 clear K hK
 refine zn (zbn (zs (zr ?_ (h := by intro c K h; simp [hG, List.getD_cons_zero, List.getD_cons_succ, -List.getD_eq_getElem?_getD, hV]; first | exact z1 c h | exact ⟨.mk c, h⟩))))
 refine zt ?_
 refine RetOK_of ?_
 simp [hG, List.getD_cons_zero, List.getD_cons_succ, -List.getD_eq_getElem?_getD, hV]
 refine ⟨?_, hgc⟩; rw [if_pos hgc]; exact ⟨rfl, Nat.le_refl _, fun q _ => Clo.le _ Clo_ints⟩
end Go.Proofs.YthpdkmoedpcboaaGreat
