/- Parts of the proof: WN. -/
import Derived.Test.YthpdkmoedpcboaaGreatPO15
import Derived.Test.YthpdkmoedpcboaaGreatPO27
import Derived.Test.YthpdkmoedpcboaaGreatPO28
import Derived.Test.YthpdkmoedpcboaaGreatPO30
namespace Go.Proofs.YthpdkmoedpcboaaGreat
set_option linter.unusedSimpArgs false
set_option linter.unusedVariables false
open Go Go.Lift Go.Proofs
def stopC (b : Bool) : Option Code := if b then some .ret else none
@[simp] theorem stop_true : stopC true = some .ret := rfl
@[simp] theorem stop_false : stopC false = none := rfl
@[simp] theorem stop_isNone {b : Bool} : (stopC b).isNone = !b := by cases b <;> rfl
def evR (k : Nat) (p : Nat × Nat) : AVal := .sl (k, p.1 + 1) 0 p.2
@[simp] theorem evR_at {k a b : Nat} : evR k (a, b) = .sl (k, a + 1) 0 b := rfl
theorem mpE_id {k : Nat} {l : List (Int × (Nat × Nat))} : mpE intK (evR k) l = mpE intK id (l.map fun p => (p.1, evR k p.2)) := by simp [mpE]
theorem find_map {k : Nat} {x : Int} : ∀ {l : List (Int × (Nat × Nat))} {i : Nat}, alFind (l.map fun p => (p.1, evR k p.2)) i x = (alFind l i x).map fun p => (p.1, evR k p.2)
  | [], _ => rfl
  | (a, b) :: l, i => by
    simp only [List.map_cons, alFind]
    split
    · rfl
    · exact find_map
@[simp] theorem putK_fam {l : List (Int × (Nat × Nat))} {k : Nat} {x : Int} {V : AVal} : putK (mpE intK (evR k) l) ((alFind l 0 x).map fun p => (p.1, evR k p.2)) (.int .i64 x) V = mpE intK id (alPut (l.map fun p => (p.1, evR k p.2)) x V) := by
  have h := putK_mpE (ek := intK) (ev := id) (l.map fun p => (p.1, evR k p.2)) x V
  rw [find_map, Option.map_map] at h
  rw [mpE_id]
  exact h
@[simp] theorem ren_fam {ρ : Nat → Nat} {k : Nat} {l : List (Int × (Nat × Nat))} : List.map (fun p => (ren ρ p.1, ren ρ p.2)) (mpE intK (evR k) l) = mpE intK (evR (ρ k)) l := by
  unfold mpE
  rw [List.map_map]
  refine List.map_congr_left fun p _ => ?_
  rfl
section
variable {h : Heap} {σ : Lift.Id → Lift.Id} {fz : Nat → Bool} {vz : Lift.Id → Bool} {nx : Nat}
theorem HLe_cons {a2 b2 a b : AVal} {l2 l : List (AVal × AVal)} (h1 : VLe h σ fz vz nx a2 a) (h2 : VLe h σ fz vz nx b2 b) (h3 : HLe h σ fz vz nx (.mp l2) (some (.mp l))) : HLe h σ fz vz nx (.mp ((a2, b2) :: l2)) (some (.mp ((a, b) :: l))) := by
  obtain ⟨h4, h5⟩ := h3
  refine ⟨by simp [h4], fun i hi hi' => ?_⟩
  cases i with
  | zero => exact ⟨h1, h2⟩
  | succ i => exact h5 i (by simpa using hi) (by simpa using hi')
theorem HLe_nil : HLe h σ fz vz nx (.mp []) (some (.mp [])) := ⟨rfl, fun i hi => absurd hi (Nat.not_lt_zero _)⟩
theorem fam_le {k k2 : Nat} : ∀ {l : List (Int × (Nat × Nat))}, (∀ p ∈ l, VLe h σ fz vz nx (evR k2 p.2) (evR k p.2)) → HLe h σ fz vz nx (.mp (mpE intK (evR k2) l)) (some (.mp (mpE intK (evR k) l)))
  | [], _ => HLe_nil
  | p :: l, hl => HLe_cons rfl (hl p (List.mem_cons_self ..)) (fam_le fun q hq => hl q (List.mem_cons_of_mem _ hq))
theorem put_le {k k2 : Nat} {x : Int} {b : Nat × Nat} {V : AVal} (hV : VLe h σ fz vz nx (evR k2 b) V) : ∀ {l : List (Int × (Nat × Nat))}, (l.map (·.1)).Nodup → (∀ p ∈ l, p.1 ≠ x → VLe h σ fz vz nx (evR k2 p.2) (evR k p.2)) → HLe h σ fz vz nx (.mp (mpE intK (evR k2) (alPut l x b))) (some (.mp (mpE intK id (alPut (l.map fun p => (p.1, evR k p.2)) x V))))
  | [], _, _ => HLe_cons rfl hV HLe_nil
  | (a, c) :: l, hn, hl => by
    rw [List.map_cons, List.nodup_cons] at hn
    simp only [List.map_cons, alPut]
    by_cases e : x = a
    · subst e
      rw [if_pos rfl, if_pos rfl]
      refine HLe_cons rfl hV ?_
      have := fam_le (h := h) (σ := σ) (fz := fz) (vz := vz) (nx := nx) (k := k) (k2 := k2) (l := l) fun q hq => hl q (List.mem_cons_of_mem _ hq) (fun e => hn.1 (by rw [← e]; exact List.mem_map.2 ⟨q, hq, rfl⟩))
      rw [mpE_id (k := k)] at this
      exact this
    · rw [if_neg e, if_neg e]
      exact HLe_cons rfl (hl _ (List.mem_cons_self ..) (fun e2 => e e2.symm)) (put_le hV hn.2 fun q hq => hl q (List.mem_cons_of_mem _ hq))
end
theorem evR_le {h : Heap} {σ : Lift.Id → Lift.Id} {fz : Nat → Bool} {vz : Lift.Id → Bool} {nx k k2 : Nat} {p : Nat × Nat} (hs : σ (k2, p.1 + 1) = (k, p.1 + 1)) (hn : k2 < nx) (hv : vz (k2, p.1 + 1) = false) : VLe h σ fz vz nx (evR k2 p) (evR k p) := by
  unfold evR
  simp [VLe, hs, hn, hv]
theorem evR_new {h : Heap} {σ : Lift.Id → Lift.Id} {fz : Nat → Bool} {vz : Lift.Id → Bool} {nx n k2 a b : Nat} (hs : σ (k2, a + 1) = (n, 0)) (hn : k2 < nx) (hv : vz (k2, a + 1) = false) : VLe h σ fz vz nx (evR k2 (a, b)) (.sl (n, 0) 0 b) := by
  unfold evR
  simp [VLe, hs, hn, hv]
def zsF (b : Option Spl) (j : Nat) : AVal := match b with
  | some x => splF x j
  | none => [.int .i64 0, .nils].getD j .any
@[simp] theorem zsF_none {j : Nat} : zsF none j = [.int .i64 0, .nils].getD j .any := rfl
@[simp] theorem zsF_some {x : Spl} {j : Nat} : zsF (some x) j = splF x j := rfl
@[simp] theorem ren_zsF {ρ : Nat → Nat} {b : Option Spl} {j : Nat} : ren ρ (zsF b j) = zsF b j := by
  cases b with
  | some x => exact ren_splF
  | none => rcases j with _ | _ | j <;> rfl
@[simp] theorem one_zsF {b : Option Spl} {j : Nat} (h : j < 2) : (zsF b j).one = true := by
  cases b with
  | some x => exact one_splF
  | none => rcases (show j = 0 ∨ j = 1 by omega) with rfl | rfl <;> rfl
@[simp] theorem Clo_zsF {b : Option Spl} {j : Nat} : Clo (zsF b j) := by
  cases b with
  | some x => exact Clo_splF
  | none => rcases j with _ | _ | j <;> trivial
def jnx (g : Gr) (v : List Int) (m : Int) (s j : Nat) : Nat := if (fndS g v m s j).isSome = true then j else j + 1
theorem jnx_some {g : Gr} {v : List Int} {m : Int} {s j : Nat} {x : Spl} (h : fndS g v m s j = some x) : jnx g v m s j = j := by unfold jnx; rw [h]; rfl
theorem jnx_none {g : Gr} {v : List Int} {m : Int} {s j : Nat} (h : fndS g v m s j = none) : jnx g v m s j = j + 1 := by unfold jnx; rw [h]; rfl
theorem concat2_c {a b : List Int} (ha : a.length ≤ 1024) (hb : b.length ≤ 1024) : FC Tryz.prog 73 [.sl (0, 0) 0 2] [(0, .one (.arr 2 1 (fun i _ => ints ([a, b].getD i []))))] 1 (fun _ : Unit => True) (fun _ => ints (a ++ b)) (fun _ => []) (fun _ => 1) := by
 have h := concat_c [a, b] (by simp) (fun x hx => by
   rcases List.mem_cons.1 hx with rfl | hx
   · exact ha
   · rw [List.mem_singleton.1 hx]; exact hb)
 have h2 : preI [a, b] [a, b].length = a ++ b := by simp [preI]
 rw [h2] at h
 exact h
structure St24 (g : Gr) (v : List Int) (m : Int) (s : Nat) : Prop where
  gv : gcheck g = 0
  vl : (v.length : Int) = g.states
  box : BoxV v
  mb : 1 ≤ m ∧ m ≤ 256
  st : (s : Int) < g.states
theorem St24.out {g : Gr} {v : List Int} {m : Int} {s : Nat} (h : St24 g v m s) : (outR g s).length ≤ 1024 ∧ ∀ k ∈ outR g s, 0 ≤ k ∧ k < (g.edges.length : Int) := by
  rw [(out_3 h.gv ⟨by omega, h.st⟩).1]
  refine ⟨?_, fun k hk => ?_⟩
  · have := outA_len (g := g) (s := (s : Int)) g.edges.length
    have := (gcheck_valid h.gv).1.ed
    unfold outL
    omega
  · obtain ⟨j, hj, rfl, _⟩ := outA_mem.1 hk
    omega
theorem seg_at {o : List Int} {i n k : Nat} (h : k < n) : ((o.drop i).take n).getD k 0 = o.getD (i + k) 0 := by
  simp [List.getD_eq_getElem?_getD, List.getElem?_take_of_lt h]
theorem fst_at {o : List Int} {n k : Nat} (h : k < n) : (o.take n).getD k 0 = o.getD k 0 := by simp [List.getD_eq_getElem?_getD, List.getElem?_take_of_lt h]
theorem lst_at {o : List Int} {n k : Nat} : (o.drop n).getD k 0 = o.getD (n + k) 0 := by simp [List.getD_eq_getElem?_getD]
theorem app_psL {g : Gr} {v o : List Int} {j : Nat} {x : Int} {w : Nat → Nat → AVal} {i : Nat} (hw : w 0 0 = .int .i64 x) (hi : i < j + 1 + 1) : app (fun p _ => .int .i64 ((psL g v o j).getD p 0)) (j + 1) w i 0 = .int .i64 ((psL g v o j ++ [x]).getD i 0) := by
  have h := app_oneI (K := psL g v o j) (i := i) hw (by rw [psL_len]; exact hi)
  rwa [psL_len] at h
@[simp] theorem VLe_yld {h : Heap} {σ : Lift.Id → Lift.Id} {fz : Nat → Bool} {vz : Lift.Id → Bool} {x l l' n n' : Nat} {vs vs' : Array Value} {f f' : Nat → AVal} : VLe h σ fz vz x (.yld l vs n f) (.yld l' vs' n' f') = (l' = l ∧ vs' = vs ∧ n' = n ∧ ∀ j, j < n → VLe h σ fz vz x (f j) (f' j)) := rfl
@[simp] theorem all_lt8 {p : Nat → Prop} : (∀ j, j < 8 → p j) = (p 0 ∧ p 1 ∧ p 2 ∧ p 3 ∧ p 4 ∧ p 5 ∧ p 6 ∧ p 7) := propext ⟨fun h => ⟨h 0 (by decide), h 1 (by decide), h 2 (by decide), h 3 (by decide), h 4 (by decide), h 5 (by decide), h 6 (by decide), h 7 (by decide)⟩, fun ⟨h0, h1, h2, h3, h4, h5, h6, h7⟩ j hj => by
  rcases (show j = 0 ∨ j = 1 ∨ j = 2 ∨ j = 3 ∨ j = 4 ∨ j = 5 ∨ j = 6 ∨ j = 7 by omega) with rfl | rfl | rfl | rfl | rfl | rfl | rfl | rfl <;> assumption⟩
set_option maxRecDepth 100000 in
set_option maxHeartbeats 1000000 in
theorem bodyCh_y (g : Gr) (v : List Int) (m : Int) (s : Nat) (h24 : St24 g v m s) (j : Nat) (hj : j < (outR g (s : Nat)).length) {l : Nat} {rec : Loop} {vs : Array Value} (hok : RecOK rec [5, 6, 7, 8, 9, 10, 12, 13] vs #[33, 34] (rngA Tryz.f40.body 0) (rngB Tryz.f40.body 0) 100) : YC Tryz.prog l rec vs ([.int .i64 (j : Nat), .int .i64 (psA g v (outR g (s : Nat)) (j + 1))] ++ [.vptr 1 (fun _ => ints v) 0, .vptr 1 (fun _ => .int .i64 m) 0, .vptr 1 (fun _ => .int .i64 (s : Nat)) 0, .ptr (1, 0) 0 0, .ptr (2, 0) 0 0, .vptr 1 (fun _ => ints (outR g (s : Nat))) 0, .ptr (3, 0) 0 0, .ptr (4, 0) 0 0]) ((0, .one (.ob (lpP l rec none))) :: [(1, .one (.arr 1 2 (fun _ c => zsF (none) c))), (2, .one (.arr 1 1 (fun _ _ => .bool false))), (3, .one (.arr 1 1 (fun _ _ => .sl (5, 0) 0 (j + 1)))), (4, .one (.arr 1 1 (fun _ _ => .map (6, 0)))), (5, .one (.arr (j + 1) 1 (fun i _ => .int .i64 ((psL g v (outR g (s : Nat)) (j)).getD i 0)))), (6, .fam (.mp (mpE intK (evR 6) (plMS g v m (outR g (s : Nat)) (j)))) (fun r => some (.arr (plcS g v m (outR g (s : Nat)) (j) r).length 1 (fun i _ => .int .i64 ((plcS g v m (outR g (s : Nat)) (j) r).getD i 0)))))]) 7 (fun _ : Unit => True) (fun _ : Unit => .bool (stopC (fndS g v m s j).isSome).isNone) (fun _ : Unit => (0, .one (.ob (lpP l rec (stopC (fndS g v m s j).isSome)))) :: [(1, .one (.arr 1 2 (fun _ c => zsF (fndS g v m s j) c))), (2, .one (.arr 1 1 (fun _ _ => .bool (fndS g v m s j).isSome))), (3, .one (.arr 1 1 (fun _ _ => .sl (7, 0) 0 (jnx g v m s j + 1)))), (4, .one (.arr 1 1 (fun _ _ => .map (8, 0)))), (7, .one (.arr (jnx g v m s j + 1) 1 (fun i _ => .int .i64 ((psL g v (outR g (s : Nat)) (jnx g v m s j)).getD i 0)))), (8, .fam (.mp (mpE intK (evR 8) (plMS g v m (outR g (s : Nat)) (jnx g v m s j)))) (fun r => some (.arr (plcS g v m (outR g (s : Nat)) (jnx g v m s j) r).length 1 (fun i _ => .int .i64 ((plcS g v m (outR g (s : Nat)) (jnx g v m s j) r).getD i 0)))))]) (fun _ : Unit => 9) := by
 obtain ⟨hv, hl, hbx, hm, hs⟩ := h24
 have hol := St24.out ⟨hv, hl, hbx, hm, hs⟩
 have hpx := psA_box (g := g) (p := (outR g (s : Nat))) hbx (j + 1)
 have hR0 : 0 ≤ (psA g v (outR g (s : Nat)) (j + 1) % m) := Int.emod_nonneg _ (by omega)
 have hRm : (psA g v (outR g (s : Nat)) (j + 1) % m) < m := Int.emod_lt_of_pos _ (by omega)
 have hplen := plcS_len (g := g) (v := v) (m := m) (o := (outR g (s : Nat))) (j := j) (r := (psA g v (outR g (s : Nat)) (j + 1) % m).toNat)
 have hpl0 := psL_len (g := g) (v := v) (o := (outR g (s : Nat))) (j := j)
 have hwx := box_at hbx s
 refine YC_introJ hok rfl rfl rfl (by simp) rfl (by simp) (by simp) (by decide) fun G hG hR => ?_
 show AwpS _ _ _ _ _ ⟨[(34, .int .i64 (psA g v (outR g (s : Nat)) (j + 1))), (33, .int .i64 (j : Nat)), (5, .vptr 1 (fun _ => ints v) 0), (6, .vptr 1 (fun _ => .int .i64 m) 0), (7, .vptr 1 (fun _ => .int .i64 (s : Nat)) 0), (8, .ptr (1, 0) 0 0), (9, .ptr (2, 0) 0 0), (10, .vptr 1 (fun _ => ints (outR g (s : Nat))) 0), (12, .ptr (3, 0) 0 0), (13, .ptr (4, 0) 0 0)], [(1, .one (.arr 1 2 (fun _ c => zsF (none) c))), (2, .one (.arr 1 1 (fun _ _ => .bool false))), (3, .one (.arr 1 1 (fun _ _ => .sl (5, 0) 0 (j + 1)))), (4, .one (.arr 1 1 (fun _ _ => .map (6, 0)))), (5, .one (.arr (j + 1) 1 (fun i _ => .int .i64 ((psL g v (outR g (s : Nat)) (j)).getD i 0)))), (6, .fam (.mp (mpE intK (evR 6) (plMS g v m (outR g (s : Nat)) (j)))) (fun r => some (.arr (plcS g v m (outR g (s : Nat)) (j) r).length 1 (fun i _ => .int .i64 ((plcS g v m (outR g (s : Nat)) (j) r).getD i 0)))))], 7⟩
 refine zs (zrP ?_)
 refine zrP ?_
 refine zn ?_
 refine ⟨rfl, fun G hG hR => ?_⟩
 refine zb (zs (zs ?_))
 by_cases hx : alGet (plMS g v m (outR g (s : Nat)) j) (psA g v (outR g (s : Nat)) (j + 1) % m) = none
 · have hpe := plMS_none hm.1 hR0 hx
   refine awpS_drawR rfl mixed [] ⟨[], [], []⟩ fun mu0 => ?_
   refine za [0, 1, 2, 3, 6] [] 2 [6, 3, 2, 1, 0] ?_ (h := by intro c K h; simp [hG, List.getD_cons_zero, List.getD_cons_succ, -List.getD_eq_getElem?_getD, pureOp, hx]; first | exact z1 c h | exact ⟨.mk c, h⟩)
   refine awpA_only (fuel := 1) (i := 4) (by decide +kernel) ?_
   refine zo ?_ (hw := by simp [hG, List.getD_cons_zero, List.getD_cons_succ, -List.getD_eq_getElem?_getD, pureOp, hx]; (try exact trivial)) (h := by intro c K h; simp [hG, List.getD_cons_zero, List.getD_cons_succ, -List.getD_eq_getElem?_getD, pureOp, hx]; first | exact z1 c h | exact ⟨.mk c, h⟩)
   refine za [5] [] 0 [5, 4, 6, 3, 2, 1, 0] ?_ (h := by intro c K h; simp [hG, List.getD_cons_zero, List.getD_cons_succ, -List.getD_eq_getElem?_getD, pureOp, hx]; first | exact z1 c h | exact ⟨.mk c, h⟩)
   refine awpA_done (by decide +kernel) ?_
   refine zb ?_
   refine awpS_loop (α := Nat) (fun q => ⟨[(5, .vptr 1 (fun _ => ints v) 0), (6, .vptr 1 (fun _ => .int .i64 m) 0), (7, .vptr 1 (fun _ => .int .i64 (s : Nat)) 0), (8, .ptr (1, 0) 0 0), (9, .ptr (2, 0) 0 0), (10, .vptr 1 (fun _ => ints (outR g (s : Nat))) 0), (12, .ptr (3, 0) 0 0), (13, .ptr (4, 0) 0 0), (14, .int .i64 (j : Nat)), (15, .int .i64 (psA g v (outR g (s : Nat)) (j + 1))), (39, .sl (6, (psA g v (outR g (s : Nat)) (j + 1) % m).toNat + 1) 0 (plcS g v m (outR g (s : Nat)) j (psA g v (outR g (s : Nat)) (j + 1) % m).toNat).length), (40, .int .i64 (plcS g v m (outR g (s : Nat)) j (psA g v (outR g (s : Nat)) (j + 1) % m).toNat).length), (41, .int .i64 (q : Nat))], [(1, .one (.arr 1 2 (fun _ c => zsF (none) c))), (2, .one (.arr 1 1 (fun _ _ => .bool false))), (3, .one (.arr 1 1 (fun _ _ => .sl (5, 0) 0 (j + 1)))), (4, .one (.arr 1 1 (fun _ _ => .map (6, 0)))), (5, .one (.arr (j + 1) 1 (fun i _ => .int .i64 ((psL g v (outR g (s : Nat)) (j)).getD i 0)))), (6, .fam (.mp (mpE intK (evR 6) (plMS g v m (outR g (s : Nat)) (j)))) (fun r => some (.arr (plcS g v m (outR g (s : Nat)) (j) r).length 1 (fun i _ => .int .i64 ((plcS g v m (outR g (s : Nat)) (j) r).getD i 0)))))], 7⟩) (fun q => q ≤ (plcS g v m (outR g (s : Nat)) j (psA g v (outR g (s : Nat)) (j + 1) % m).toNat).length ∧ ∀ k, k < q → okC g v m (v.getD s 0) (outR g (s : Nat)) ((plcS g v m (outR g (s : Nat)) j (psA g v (outR g (s : Nat)) (j + 1) % m).toNat).getD k 0).toNat (j + 1) = false) (fun q => (plcS g v m (outR g (s : Nat)) j (psA g v (outR g (s : Nat)) (j + 1) % m).toNat).length - q) (0) (⟨Nat.zero_le _, fun k hk => absurd hk (Nat.not_lt_zero _)⟩) ?_ ?_
   · refine wk_of (id) (fun _ => false) (fun _ => false) ?_ ?_ rfl (by simp) (fun k hk => by first | exact ⟨rfl, rfl⟩ | (revert k; decide) | (obtain rfl : k = 0 := (by omega); exact ⟨rfl, rfl⟩) | (have hk2 : k = 0 ∨ k = 1 := (by omega); rcases hk2 with rfl | rfl <;> exact ⟨rfl, rfl⟩))
     · simp [hG, List.getD_cons_zero, List.getD_cons_succ, -List.getD_eq_getElem?_getD]; first | done | simp [hpe]
     simp [hG, List.getD_cons_zero, List.getD_cons_succ, -List.getD_eq_getElem?_getD]; exact fam_le fun p _ => evR_le rfl (by decide) rfl
   rintro q ⟨hq, hn⟩
   refine zs (zr ?_ (h := by intro c K h; simp [hG, List.getD_cons_zero, List.getD_cons_succ, -List.getD_eq_getElem?_getD, pureOp, hx]; first | exact z1 c h | exact ⟨.mk c, h⟩))
   refine zs (zy (fun hb42 => ?_) fun hb42 => ?_)
   · have hql : q < (plcS g v m (outR g (s : Nat)) j (psA g v (outR g (s : Nat)) (j + 1) % m).toNat).length := (by omega)
     have hqm := getD_mem (d := (0 : Int)) hql
     obtain ⟨i0, hij, hxi, hri⟩ := plcS_mem.1 hqm
     have hxt : ((plcS g v m (outR g (s : Nat)) j (psA g v (outR g (s : Nat)) (j + 1) % m).toNat).getD q 0).toNat = i0 := (by omega)
     have hokq := ok_in (w := v.getD s 0) hm.1 hqm
     rw [hxt] at hokq
     have hsx : (psL g v (outR g (s : Nat)) j).getD i0 0 = psA g v (outR g (s : Nat)) i0 := psL_at (by omega)
     have hmn : psA g v (outR g (s : Nat)) i0 ≤ psA g v (outR g (s : Nat)) (j + 1) := psA_mono hbx (by omega)
     have hpq := psA_box (g := g) (p := (outR g (s : Nat))) hbx i0
     refine zk (zs (zb (zs ?_)))
     refine awpS_cut (α := Unit) (fun _u => ⟨[(5, .vptr 1 (fun _ => ints v) 0), (6, .vptr 1 (fun _ => .int .i64 m) 0), (7, .vptr 1 (fun _ => .int .i64 (s : Nat)) 0), (8, .ptr (1, 0) 0 0), (9, .ptr (2, 0) 0 0), (10, .vptr 1 (fun _ => ints (outR g (s : Nat))) 0), (12, .ptr (3, 0) 0 0), (13, .ptr (4, 0) 0 0), (14, .int .i64 (j : Nat)), (15, .int .i64 (psA g v (outR g (s : Nat)) (j + 1))), (17, .int .i64 (i0 : Nat)), (39, .sl (6, (psA g v (outR g (s : Nat)) (j + 1) % m).toNat + 1) 0 (plcS g v m (outR g (s : Nat)) j (psA g v (outR g (s : Nat)) (j + 1) % m).toNat).length), (40, .int .i64 (plcS g v m (outR g (s : Nat)) j (psA g v (outR g (s : Nat)) (j + 1) % m).toNat).length), (41, .int .i64 (q : Nat))], [(1, .one (.arr 1 2 (fun _ c => zsF (none) c))), (2, .one (.arr 1 1 (fun _ _ => .bool false))), (3, .one (.arr 1 1 (fun _ _ => .sl (5, 0) 0 (j + 1)))), (4, .one (.arr 1 1 (fun _ _ => .map (6, 0)))), (5, .one (.arr (j + 1) 1 (fun i _ => .int .i64 ((psL g v (outR g (s : Nat)) (j)).getD i 0)))), (6, .fam (.mp (mpE intK (evR 6) (plMS g v m (outR g (s : Nat)) (j)))) (fun r => some (.arr (plcS g v m (outR g (s : Nat)) (j) r).length 1 (fun i _ => .int .i64 ((plcS g v m (outR g (s : Nat)) (j) r).getD i 0)))))], 7⟩) (fun _u => True) ?_ ?_ (by simp)
     · refine zr ?_ (h := by intro c K h; simp [hG, List.getD_cons_zero, List.getD_cons_succ, -List.getD_eq_getElem?_getD, pureOp, hx]; first | exact z1 c h | exact ⟨.mk c, h⟩)
       refine zn ?_
       refine cut_end (()) (trivial) ?_
       refine wk_of (id) (fun _ => false) (fun _ => false) ?_ ?_ rfl (by simp) (fun k hk => by first | exact ⟨rfl, rfl⟩ | (revert k; decide) | (obtain rfl : k = 0 := (by omega); exact ⟨rfl, rfl⟩) | (have hk2 : k = 0 ∨ k = 1 := (by omega); rcases hk2 with rfl | rfl <;> exact ⟨rfl, rfl⟩))
       · simp [hG, List.getD_cons_zero, List.getD_cons_succ, -List.getD_eq_getElem?_getD]; exact hxi
       simp [hG, List.getD_cons_zero, List.getD_cons_succ, -List.getD_eq_getElem?_getD]; exact fam_le fun p _ => evR_le rfl (by decide) rfl
     rintro _ _
     refine zs ?_
     refine awpS_drawR rfl mixed [] ⟨[], [], []⟩ fun mu0 => ?_
     refine za [0, 1, 2, 3, 4, 5, 6, 7, 8] [] 0 [8, 7, 6, 5, 4, 3, 2, 1, 0] ?_ (h := by intro c K h; simp [hG, List.getD_cons_zero, List.getD_cons_succ, -List.getD_eq_getElem?_getD, pureOp, hx]; first | exact z1 c h | exact ⟨.mk c, h⟩)
     refine awpA_done (by decide +kernel) ?_
     refine zs (zr ?_ (h := by intro c K h; simp [hG, List.getD_cons_zero, List.getD_cons_succ, -List.getD_eq_getElem?_getD, pureOp, hx]; first | exact z1 c h | exact ⟨.mk c, h⟩))
     refine zy (fun hb62 => ?_) fun hb62 => ?_
     · have hf : fndS g v m s j = some ⟨s, prts (outR g (s : Nat)) i0 (j + 1)⟩ := (by unfold fndS; rw [chI_place hm.1 hql hn (by rw [hxt, hokq]; rw [hsx] at hb62; exact decide_eq_true (by unfold segS; omega)), hxt]; rfl)
       have hjn := jnx_some hf
       clear hokq hxi hri hxt hqm hn
       refine zs ?_
       refine awpS_cut (α := Unit) (fun _u => ⟨[], [(1, .one (.arr 1 2 (fun _ c => zsF (some ⟨s, prts (outR g (s : Nat)) i0 (j + 1)⟩) c))), (2, .one (.arr 1 1 (fun _ _ => .bool true))), (3, .one (.arr 1 1 (fun _ _ => .sl (5, 0) 0 (j + 1)))), (4, .one (.arr 1 1 (fun _ _ => .map (6, 0)))), (5, .one (.arr (j + 1) 1 (fun i _ => .int .i64 ((psL g v (outR g (s : Nat)) (j)).getD i 0)))), (6, .fam (.mp (mpE intK (evR 6) (plMS g v m (outR g (s : Nat)) (j)))) (fun r => some (.arr (plcS g v m (outR g (s : Nat)) (j) r).length 1 (fun i _ => .int .i64 ((plcS g v m (outR g (s : Nat)) (j) r).getD i 0)))))], 7⟩) (fun _u => True) ?_ ?_ (by simp)
       · refine awpS_drawR rfl mixed [] ⟨[], [15, 18, 19], []⟩ fun mu0 => ?_
         refine za [0, 1, 2, 3, 4, 5, 7, 8, 9, 10, 11, 12, 13] [] 7 [13, 12, 11, 10, 9, 8, 7, 5, 4, 3, 2, 1, 0] ?_ (h := by intro c K h; simp [hG, List.getD_cons_zero, List.getD_cons_succ, -List.getD_eq_getElem?_getD, pureOp, hx]; first | exact z1 c h | exact ⟨.mk c, h⟩)
         refine awpA_two (fuel := 6) (i := 6) (k := 14) (by decide +kernel) ?_ ?_
         · refine awpO_fc cal27 [] (fun _ => false) (cloneI_c (((outR g (s : Nat)).drop i0).take (j + 1 - i0)) (by simp; omega)) rfl (.inr rfl) rfl rfl rfl (by simp) (.inl fun _ => rfl) ?_ ?_ ?_ fun K hK x hI hno => ?_
           · simp [hG, List.getD_cons_zero, List.getD_cons_succ, -List.getD_eq_getElem?_getD, pureOp, hx]
           · simp [hG, List.getD_cons_zero, List.getD_cons_succ, -List.getD_eq_getElem?_getD]; exact ⟨by omega, fun k hk => (seg_at (by omega)).symm⟩
           · simp [hG, List.getD_cons_zero, List.getD_cons_succ, -List.getD_eq_getElem?_getD, pureOp, hx]
           simp [hG, List.getD_cons_zero, List.getD_cons_succ, -List.getD_eq_getElem?_getD, pureOp, hx]
           refine hK _ ?_
           clear K hK
           refine awpA_only (fuel := 5) (i := 14) (by decide +kernel) ?_
           refine zo ?_ (hw := by simp [hG, List.getD_cons_zero, List.getD_cons_succ, -List.getD_eq_getElem?_getD, pureOp, hx]; (try exact trivial)) (h := by intro c K h; simp [hG, List.getD_cons_zero, List.getD_cons_succ, -List.getD_eq_getElem?_getD, pureOp, hx]; first | exact z1 c h | exact ⟨.mk c, h⟩)
           refine awpA_only (fuel := 4) (i := 15) (by decide +kernel) ?_
           refine awpO_fcr cal73 [8] (fun _ => false) (concat2_c (a := (outR g (s : Nat)).take i0) (b := (outR g (s : Nat)).drop (j + 1)) (by simp; omega) (by simp; omega)) rfl ⟨by decide, by decide, by simp⟩ rfl rfl rfl (by simp) (.inl fun _ => rfl) ?_ ?_ ?_ fun K hK x hI hno => ?_
           · simp [hG, List.getD_cons_zero, List.getD_cons_succ, -List.getD_eq_getElem?_getD, pureOp, hx]
           · simp [hG, List.getD_cons_zero, List.getD_cons_succ, -List.getD_eq_getElem?_getD, pureOp, hx]
           · simp [hG, List.getD_cons_zero, List.getD_cons_succ, -List.getD_eq_getElem?_getD]; exact ⟨⟨by omega, fun k hk => (fst_at (by omega)).symm⟩, fun k hk => lst_at.symm⟩
           simp [hG, List.getD_cons_zero, List.getD_cons_succ, -List.getD_eq_getElem?_getD, pureOp, hx]
           refine hK _ ?_
           clear K hK
           refine awpA_only (fuel := 3) (i := 16) (by decide +kernel) ?_
           refine zo ?_ (hw := by simp [hG, List.getD_cons_zero, List.getD_cons_succ, -List.getD_eq_getElem?_getD, pureOp, hx]; (try exact trivial)) (h := by intro c K h; simp [hG, List.getD_cons_zero, List.getD_cons_succ, -List.getD_eq_getElem?_getD, pureOp, hx]; first | exact z1 c h | exact ⟨.mk c, h⟩)
           refine za [17] [] 2 [17, 16, 15, 14, 6, 13, 12, 11, 10, 9, 8, 7, 5, 4, 3, 2, 1, 0] ?_ (h := by intro c K h; simp [hG, List.getD_cons_zero, List.getD_cons_succ, -List.getD_eq_getElem?_getD, pureOp, hx]; first | exact z1 c h | exact ⟨.mk c, h⟩)
           refine awpA_only (fuel := 1) (i := 18) (by decide +kernel) ?_
           refine zo ?_ (hw := by simp [hG, List.getD_cons_zero, List.getD_cons_succ, -List.getD_eq_getElem?_getD, pureOp, hx]; (try exact trivial)) (h := by intro c K h; simp [hG, List.getD_cons_zero, List.getD_cons_succ, -List.getD_eq_getElem?_getD, pureOp, hx]; first | exact z1 c h | exact ⟨.mk c, h⟩)
           refine awpA_only (fuel := 0) (i := 19) (by decide +kernel) ?_
           refine zo ?_ (hw := by simp [hG, List.getD_cons_zero, List.getD_cons_succ, -List.getD_eq_getElem?_getD, pureOp, hx]; (try exact trivial)) (h := by intro c K h; simp [hG, List.getD_cons_zero, List.getD_cons_succ, -List.getD_eq_getElem?_getD, pureOp, hx]; first | exact z1 c h | exact ⟨.mk c, h⟩)
           refine awpA_done (by decide +kernel) ?_
           refine zn ?_
           refine cut_end (()) (trivial) ?_
           refine wk_of (id) (fun k => decide (7 ≤ k)) (fun _ => false) ?_ ?_ rfl (by simp) (fun k hk => by first | exact ⟨rfl, rfl⟩ | (revert k; decide) | (obtain rfl : k = 0 := (by omega); exact ⟨rfl, rfl⟩) | (have hk2 : k = 0 ∨ k = 1 := (by omega); rcases hk2 with rfl | rfl <;> exact ⟨rfl, rfl⟩))
           · simp [hG, List.getD_cons_zero, List.getD_cons_succ, -List.getD_eq_getElem?_getD, pureOp, hx]
           simp [hG, List.getD_cons_zero, List.getD_cons_succ, -List.getD_eq_getElem?_getD]; exact ⟨⟨rfl, Nat.le_refl _, fun i hi => by have hi2 : i < 2 := hi; rcases (show i = 0 ∨ i = 1 by omega) with rfl | rfl; (simp [prts, List.getD_cons_zero, List.getD_cons_succ, -List.getD_eq_getElem?_getD]); (exact Clo.le _ Clo_ints)⟩, fam_le fun p _ => evR_le rfl (by decide) rfl⟩
         refine zo ?_ (hw := by simp [hG, List.getD_cons_zero, List.getD_cons_succ, -List.getD_eq_getElem?_getD, pureOp, hx]; (try exact trivial)) (h := by intro c K h; simp [hG, List.getD_cons_zero, List.getD_cons_succ, -List.getD_eq_getElem?_getD, pureOp, hx]; first | exact z1 c h | exact ⟨.mk c, h⟩)
         refine awpA_only (fuel := 5) (i := 6) (by decide +kernel) ?_
         refine awpO_fc cal27 [] (fun _ => false) (cloneI_c (((outR g (s : Nat)).drop i0).take (j + 1 - i0)) (by simp; omega)) rfl (.inr rfl) rfl rfl rfl (by simp) (.inl fun _ => rfl) ?_ ?_ ?_ fun K hK x hI hno => ?_
         · simp [hG, List.getD_cons_zero, List.getD_cons_succ, -List.getD_eq_getElem?_getD, pureOp, hx]
         · simp [hG, List.getD_cons_zero, List.getD_cons_succ, -List.getD_eq_getElem?_getD]; exact ⟨by omega, fun k hk => (seg_at (by omega)).symm⟩
         · simp [hG, List.getD_cons_zero, List.getD_cons_succ, -List.getD_eq_getElem?_getD, pureOp, hx]
         simp [hG, List.getD_cons_zero, List.getD_cons_succ, -List.getD_eq_getElem?_getD, pureOp, hx]
         refine hK _ ?_
         clear K hK
         refine awpA_only (fuel := 4) (i := 15) (by decide +kernel) ?_
         refine awpO_fcr cal73 [7] (fun _ => false) (concat2_c (a := (outR g (s : Nat)).take i0) (b := (outR g (s : Nat)).drop (j + 1)) (by simp; omega) (by simp; omega)) rfl ⟨by decide, by decide, by simp⟩ rfl rfl rfl (by simp) (.inl fun _ => rfl) ?_ ?_ ?_ fun K hK x hI hno => ?_
         · simp [hG, List.getD_cons_zero, List.getD_cons_succ, -List.getD_eq_getElem?_getD, pureOp, hx]
         · simp [hG, List.getD_cons_zero, List.getD_cons_succ, -List.getD_eq_getElem?_getD, pureOp, hx]
         · simp [hG, List.getD_cons_zero, List.getD_cons_succ, -List.getD_eq_getElem?_getD]; exact ⟨⟨by omega, fun k hk => (fst_at (by omega)).symm⟩, fun k hk => lst_at.symm⟩
         simp [hG, List.getD_cons_zero, List.getD_cons_succ, -List.getD_eq_getElem?_getD, pureOp, hx]
         refine hK _ ?_
         clear K hK
         refine awpA_only (fuel := 3) (i := 16) (by decide +kernel) ?_
         refine zo ?_ (hw := by simp [hG, List.getD_cons_zero, List.getD_cons_succ, -List.getD_eq_getElem?_getD, pureOp, hx]; (try exact trivial)) (h := by intro c K h; simp [hG, List.getD_cons_zero, List.getD_cons_succ, -List.getD_eq_getElem?_getD, pureOp, hx]; first | exact z1 c h | exact ⟨.mk c, h⟩)
         refine za [17] [] 2 [17, 16, 15, 6, 14, 13, 12, 11, 10, 9, 8, 7, 5, 4, 3, 2, 1, 0] ?_ (h := by intro c K h; simp [hG, List.getD_cons_zero, List.getD_cons_succ, -List.getD_eq_getElem?_getD, pureOp, hx]; first | exact z1 c h | exact ⟨.mk c, h⟩)
         refine awpA_only (fuel := 1) (i := 18) (by decide +kernel) ?_
         refine zo ?_ (hw := by simp [hG, List.getD_cons_zero, List.getD_cons_succ, -List.getD_eq_getElem?_getD, pureOp, hx]; (try exact trivial)) (h := by intro c K h; simp [hG, List.getD_cons_zero, List.getD_cons_succ, -List.getD_eq_getElem?_getD, pureOp, hx]; first | exact z1 c h | exact ⟨.mk c, h⟩)
         refine awpA_only (fuel := 0) (i := 19) (by decide +kernel) ?_
         refine zo ?_ (hw := by simp [hG, List.getD_cons_zero, List.getD_cons_succ, -List.getD_eq_getElem?_getD, pureOp, hx]; (try exact trivial)) (h := by intro c K h; simp [hG, List.getD_cons_zero, List.getD_cons_succ, -List.getD_eq_getElem?_getD, pureOp, hx]; first | exact z1 c h | exact ⟨.mk c, h⟩)
         refine awpA_done (by decide +kernel) ?_
         refine zn ?_
         refine cut_end (()) (trivial) ?_
         refine wk_of (id) (fun k => decide (7 ≤ k)) (fun _ => false) ?_ ?_ rfl (by simp) (fun k hk => by first | exact ⟨rfl, rfl⟩ | (revert k; decide) | (obtain rfl : k = 0 := (by omega); exact ⟨rfl, rfl⟩) | (have hk2 : k = 0 ∨ k = 1 := (by omega); rcases hk2 with rfl | rfl <;> exact ⟨rfl, rfl⟩))
         · simp [hG, List.getD_cons_zero, List.getD_cons_succ, -List.getD_eq_getElem?_getD, pureOp, hx]
         simp [hG, List.getD_cons_zero, List.getD_cons_succ, -List.getD_eq_getElem?_getD]; exact ⟨⟨rfl, Nat.le_refl _, fun i hi => by have hi2 : i < 2 := hi; rcases (show i = 0 ∨ i = 1 by omega) with rfl | rfl; (simp [prts, List.getD_cons_zero, List.getD_cons_succ, -List.getD_eq_getElem?_getD]); (exact Clo.le _ Clo_ints)⟩, fam_le fun p _ => evR_le rfl (by decide) rfl⟩
       rintro _ _
       refine zt (zbt (ztt (zbt (zbt ?_))))
       refine RetYJ_of (()) (fun k => if k = 7 then 5 else if k = 8 then 6 else k) (fun _ => false) (fun _ => false) trivial (by rw [hf]; rfl) ?_ (by rfl) (by simp) (fun k hk => ⟨(if_neg (by omega)).trans (if_neg (by omega)), rfl⟩)
       rw [hf, hjn]; simp [hG, List.getD_cons_zero, List.getD_cons_succ, -List.getD_eq_getElem?_getD]; exact fam_le fun p _ => evR_le rfl (by decide) rfl
     refine zk (zn (zbn (zr ?_ (h := by intro c K h; simp [hG, List.getD_cons_zero, List.getD_cons_succ, -List.getD_eq_getElem?_getD, pureOp, hx]; first | exact z1 c h | exact ⟨.mk c, h⟩))))
     refine zn ?_
     refine round_end (q + 1) (⟨by omega, step_all hn (by rw [hxt, hokq]; rw [hsx] at hb62; exact decide_eq_false (by unfold segS; omega))⟩) (by omega) ?_
     refine wk_of (id) (fun _ => false) (fun _ => false) ?_ ?_ rfl (by simp) (fun k hk => by first | exact ⟨rfl, rfl⟩ | (revert k; decide) | (obtain rfl : k = 0 := (by omega); exact ⟨rfl, rfl⟩) | (have hk2 : k = 0 ∨ k = 1 := (by omega); rcases hk2 with rfl | rfl <;> exact ⟨rfl, rfl⟩))
     · simp [hG, List.getD_cons_zero, List.getD_cons_succ, -List.getD_eq_getElem?_getD, pureOp, hx]
     simp [hG, List.getD_cons_zero, List.getD_cons_succ, -List.getD_eq_getElem?_getD]; exact fam_le fun p _ => evR_le rfl (by decide) rfl
   obtain rfl : q = (plcS g v m (outR g (s : Nat)) j (psA g v (outR g (s : Nat)) (j + 1) % m).toNat).length := (by omega)
   have hfn : fndS g v m s j = none := (by unfold fndS; rw [chI_never hm.1 hn]; rfl)
   have hjn := jnx_none hfn
   have hps := psL_succ (g := g) (v := v) (o := (outR g (s : Nat))) (j := j)
   have hpm := plMS_succ (g := g) (v := v) (m := m) (o := (outR g (s : Nat))) (j := j)
   have hpc := fun r => plcS_succ (g := g) (v := v) (m := m) (o := (outR g (s : Nat))) (j := j) (r := r)
   have hpR : plcS g v m (outR g (s : Nat)) (j + 1) (psA g v (outR g (s : Nat)) (j + 1) % m).toNat = (plcS g v m (outR g (s : Nat)) j (psA g v (outR g (s : Nat)) (j + 1) % m).toNat) ++ [((j + 1 : Nat) : Int)] := (by rw [hpc, if_pos (by omega)])
   refine zx (ztx (zbx (zs (zr ?_ (h := by intro c K h; simp [hG, List.getD_cons_zero, List.getD_cons_succ, -List.getD_eq_getElem?_getD, pureOp, hx]; first | exact z1 c h | exact ⟨.mk c, h⟩)))))
   refine awpS_drawR rfl mixed [] ⟨[13], [12], [(4, 0)]⟩ fun mu0 => ?_
   refine za [0, 1, 2, 3, 4, 5, 6, 7, 9, 10] [] 4 [10, 9, 7, 6, 5, 4, 3, 2, 1, 0] ?_ (h := by intro c K h; simp [hG, List.getD_cons_zero, List.getD_cons_succ, -List.getD_eq_getElem?_getD, pureOp, hx]; first | exact z1 c h | exact ⟨.mk c, h⟩)
   refine awpA_two (fuel := 3) (i := 8) (k := 11) (by decide +kernel) ?_ ?_
   · refine zo ?_ (hw := by simp [hG, List.getD_cons_zero, List.getD_cons_succ, -List.getD_eq_getElem?_getD, pureOp, hx]; (try exact trivial)) (h := by intro c K h; simp [hG, List.getD_cons_zero, List.getD_cons_succ, -List.getD_eq_getElem?_getD, pureOp, hx]; first | exact z1 c h | exact ⟨.mk c, h⟩)
     refine awpA_only (fuel := 2) (i := 11) (by decide +kernel) ?_
     refine zo ?_ (hw := by simp [hG, List.getD_cons_zero, List.getD_cons_succ, -List.getD_eq_getElem?_getD, pureOp, hx]; (try exact trivial)) (h := by intro c K h; simp [hG, List.getD_cons_zero, List.getD_cons_succ, -List.getD_eq_getElem?_getD, pureOp, hx]; first | exact z1 c h | exact ⟨.mk c, h⟩)
     refine awpA_only (fuel := 1) (i := 12) (by decide +kernel) ?_
     refine zo ?_ (hw := by simp [hG, List.getD_cons_zero, List.getD_cons_succ, -List.getD_eq_getElem?_getD, pureOp, hx]; (try exact trivial)) (h := by intro c K h; simp [hG, List.getD_cons_zero, List.getD_cons_succ, -List.getD_eq_getElem?_getD, pureOp, hx]; first | exact z1 c h | exact ⟨.mk c, h⟩)
     refine awpA_only (fuel := 0) (i := 13) (by decide +kernel) ?_
     refine zo ?_ (hw := by simp [hG, List.getD_cons_zero, List.getD_cons_succ, -List.getD_eq_getElem?_getD, pureOp, hx]; (try exact trivial)) (h := by intro c K h; simp [hG, List.getD_cons_zero, List.getD_cons_succ, -List.getD_eq_getElem?_getD, pureOp, hx]; first | exact z1 c h | exact ⟨.mk c, h⟩)
     refine awpA_done (by decide +kernel) ?_
     refine zn (zbn (zn ?_))
     refine RetYJ_ofI (()) (fun d => if d.1 = 8 then (if d.2 = (psA g v (outR g (s : Nat)) (j + 1) % m).toNat + 1 then (10, 0) else (6, d.2)) else if d.1 = 7 then (8, d.2) else d) (fun _ => false) (fun _ => false) trivial (by rw [hfn]; rfl) ?_ (by intro d d' h1 h2 _ _ h; have k1 := lkH_keys h1; have k2 := lkH_keys h2; simp at k1 k2; obtain ⟨a, b⟩ := d; obtain ⟨a2, b2⟩ := d'; simp only at k1 k2 h; (repeat' split at h) <;> simp only [Prod.mk.injEq] at h ⊢ <;> omega) (by simp) (fun d hd => ⟨(if_neg (by omega)).trans (if_neg (by omega)), rfl⟩)
     rw [hfn, hjn, hps, hpm, hpR]; simp [hG, hpe, List.getD_cons_zero, List.getD_cons_succ, -List.getD_eq_getElem?_getD]; refine ⟨fun i hi => app_psL rfl hi, ?_, ?_⟩; (refine put_le ?_ (plMS_keys j) ?_; (exact evR_new ((if_pos rfl).trans (if_pos rfl)) (show 8 < 9 by decide) rfl); intro p hp hne; have h7 := plMS_row j hm.1 p hp; exact evR_le (k := 6) (p := p.2) ((if_pos rfl).trans (if_neg (by show ¬ (p.2.1 + 1 = (psA g v (outR g (s : Nat)) (j + 1) % m).toNat + 1); omega))) (show 8 < 9 by decide) rfl); (intro i; by_cases h : i = (psA g v (outR g (s : Nat)) (j + 1) % m).toNat; (rw [h, hpR]; simp [HLe, hpe, -List.getD_eq_getElem?_getD]; first | rfl | exact fun q hq => app_oneI (by simp) hq); (rw [hpc i, if_neg (by omega)]; simp [HLe, h]))
   refine zo ?_ (hw := by simp [hG, List.getD_cons_zero, List.getD_cons_succ, -List.getD_eq_getElem?_getD, pureOp, hx]; (try exact trivial)) (h := by intro c K h; simp [hG, List.getD_cons_zero, List.getD_cons_succ, -List.getD_eq_getElem?_getD, pureOp, hx]; first | exact z1 c h | exact ⟨.mk c, h⟩)
   refine awpA_only (fuel := 2) (i := 8) (by decide +kernel) ?_
   refine zo ?_ (hw := by simp [hG, List.getD_cons_zero, List.getD_cons_succ, -List.getD_eq_getElem?_getD, pureOp, hx]; (try exact trivial)) (h := by intro c K h; simp [hG, List.getD_cons_zero, List.getD_cons_succ, -List.getD_eq_getElem?_getD, pureOp, hx]; first | exact z1 c h | exact ⟨.mk c, h⟩)
   refine awpA_only (fuel := 1) (i := 12) (by decide +kernel) ?_
   refine zo ?_ (hw := by simp [hG, List.getD_cons_zero, List.getD_cons_succ, -List.getD_eq_getElem?_getD, pureOp, hx]; (try exact trivial)) (h := by intro c K h; simp [hG, List.getD_cons_zero, List.getD_cons_succ, -List.getD_eq_getElem?_getD, pureOp, hx]; first | exact z1 c h | exact ⟨.mk c, h⟩)
   refine awpA_only (fuel := 0) (i := 13) (by decide +kernel) ?_
   refine zo ?_ (hw := by simp [hG, List.getD_cons_zero, List.getD_cons_succ, -List.getD_eq_getElem?_getD, pureOp, hx]; (try exact trivial)) (h := by intro c K h; simp [hG, List.getD_cons_zero, List.getD_cons_succ, -List.getD_eq_getElem?_getD, pureOp, hx]; first | exact z1 c h | exact ⟨.mk c, h⟩)
   refine awpA_done (by decide +kernel) ?_
   refine zn (zbn (zn ?_))
   refine RetYJ_ofI (()) (fun d => if d.1 = 8 then (if d.2 = (psA g v (outR g (s : Nat)) (j + 1) % m).toNat + 1 then (10, 0) else (6, d.2)) else if d.1 = 7 then (8, d.2) else d) (fun _ => false) (fun _ => false) trivial (by rw [hfn]; rfl) ?_ (by intro d d' h1 h2 _ _ h; have k1 := lkH_keys h1; have k2 := lkH_keys h2; simp at k1 k2; obtain ⟨a, b⟩ := d; obtain ⟨a2, b2⟩ := d'; simp only at k1 k2 h; (repeat' split at h) <;> simp only [Prod.mk.injEq] at h ⊢ <;> omega) (by simp) (fun d hd => ⟨(if_neg (by omega)).trans (if_neg (by omega)), rfl⟩)
   rw [hfn, hjn, hps, hpm, hpR]; simp [hG, hpe, List.getD_cons_zero, List.getD_cons_succ, -List.getD_eq_getElem?_getD]; refine ⟨fun i hi => app_psL rfl hi, ?_, ?_⟩; (refine put_le ?_ (plMS_keys j) ?_; (exact evR_new ((if_pos rfl).trans (if_pos rfl)) (show 8 < 9 by decide) rfl); intro p hp hne; have h7 := plMS_row j hm.1 p hp; exact evR_le (k := 6) (p := p.2) ((if_pos rfl).trans (if_neg (by show ¬ (p.2.1 + 1 = (psA g v (outR g (s : Nat)) (j + 1) % m).toNat + 1); omega))) (show 8 < 9 by decide) rfl); (intro i; by_cases h : i = (psA g v (outR g (s : Nat)) (j + 1) % m).toNat; (rw [h, hpR]; simp [HLe, hpe, -List.getD_eq_getElem?_getD]; first | rfl | exact fun q hq => app_oneI (by simp) hq); (rw [hpc i, if_neg (by omega)]; simp [HLe, h]))
 replace hx := plMS_some hm.1 hx
 have hpe : True := trivial
 refine awpS_drawR rfl mixed [] ⟨[], [], []⟩ fun mu0 => ?_
 refine za [0, 1, 2, 3, 6] [] 2 [6, 3, 2, 1, 0] ?_ (h := by intro c K h; simp [hG, List.getD_cons_zero, List.getD_cons_succ, -List.getD_eq_getElem?_getD, pureOp, hx]; first | exact z1 c h | exact ⟨.mk c, h⟩)
 refine awpA_only (fuel := 1) (i := 4) (by decide +kernel) ?_
 refine zo ?_ (hw := by simp [hG, List.getD_cons_zero, List.getD_cons_succ, -List.getD_eq_getElem?_getD, pureOp, hx]; (try exact trivial)) (h := by intro c K h; simp [hG, List.getD_cons_zero, List.getD_cons_succ, -List.getD_eq_getElem?_getD, pureOp, hx]; first | exact z1 c h | exact ⟨.mk c, h⟩)
 refine za [5] [] 0 [5, 4, 6, 3, 2, 1, 0] ?_ (h := by intro c K h; simp [hG, List.getD_cons_zero, List.getD_cons_succ, -List.getD_eq_getElem?_getD, pureOp, hx]; first | exact z1 c h | exact ⟨.mk c, h⟩)
 refine awpA_done (by decide +kernel) ?_
 refine zb ?_
 refine awpS_loop (α := Nat) (fun q => ⟨[(5, .vptr 1 (fun _ => ints v) 0), (6, .vptr 1 (fun _ => .int .i64 m) 0), (7, .vptr 1 (fun _ => .int .i64 (s : Nat)) 0), (8, .ptr (1, 0) 0 0), (9, .ptr (2, 0) 0 0), (10, .vptr 1 (fun _ => ints (outR g (s : Nat))) 0), (12, .ptr (3, 0) 0 0), (13, .ptr (4, 0) 0 0), (14, .int .i64 (j : Nat)), (15, .int .i64 (psA g v (outR g (s : Nat)) (j + 1))), (39, .sl (6, (psA g v (outR g (s : Nat)) (j + 1) % m).toNat + 1) 0 (plcS g v m (outR g (s : Nat)) j (psA g v (outR g (s : Nat)) (j + 1) % m).toNat).length), (40, .int .i64 (plcS g v m (outR g (s : Nat)) j (psA g v (outR g (s : Nat)) (j + 1) % m).toNat).length), (41, .int .i64 (q : Nat))], [(1, .one (.arr 1 2 (fun _ c => zsF (none) c))), (2, .one (.arr 1 1 (fun _ _ => .bool false))), (3, .one (.arr 1 1 (fun _ _ => .sl (5, 0) 0 (j + 1)))), (4, .one (.arr 1 1 (fun _ _ => .map (6, 0)))), (5, .one (.arr (j + 1) 1 (fun i _ => .int .i64 ((psL g v (outR g (s : Nat)) (j)).getD i 0)))), (6, .fam (.mp (mpE intK (evR 6) (plMS g v m (outR g (s : Nat)) (j)))) (fun r => some (.arr (plcS g v m (outR g (s : Nat)) (j) r).length 1 (fun i _ => .int .i64 ((plcS g v m (outR g (s : Nat)) (j) r).getD i 0)))))], 7⟩) (fun q => q ≤ (plcS g v m (outR g (s : Nat)) j (psA g v (outR g (s : Nat)) (j + 1) % m).toNat).length ∧ ∀ k, k < q → okC g v m (v.getD s 0) (outR g (s : Nat)) ((plcS g v m (outR g (s : Nat)) j (psA g v (outR g (s : Nat)) (j + 1) % m).toNat).getD k 0).toNat (j + 1) = false) (fun q => (plcS g v m (outR g (s : Nat)) j (psA g v (outR g (s : Nat)) (j + 1) % m).toNat).length - q) (0) (⟨Nat.zero_le _, fun k hk => absurd hk (Nat.not_lt_zero _)⟩) ?_ ?_
 · refine wk_of (id) (fun _ => false) (fun _ => false) ?_ ?_ rfl (by simp) (fun k hk => by first | exact ⟨rfl, rfl⟩ | (revert k; decide) | (obtain rfl : k = 0 := (by omega); exact ⟨rfl, rfl⟩) | (have hk2 : k = 0 ∨ k = 1 := (by omega); rcases hk2 with rfl | rfl <;> exact ⟨rfl, rfl⟩))
   · simp [hG, List.getD_cons_zero, List.getD_cons_succ, -List.getD_eq_getElem?_getD]; first | done | simp [hpe]
   simp [hG, List.getD_cons_zero, List.getD_cons_succ, -List.getD_eq_getElem?_getD]; exact fam_le fun p _ => evR_le rfl (by decide) rfl
 rintro q ⟨hq, hn⟩
 refine zs (zr ?_ (h := by intro c K h; simp [hG, List.getD_cons_zero, List.getD_cons_succ, -List.getD_eq_getElem?_getD, pureOp, hx]; first | exact z1 c h | exact ⟨.mk c, h⟩))
 refine zs (zy (fun hb42 => ?_) fun hb42 => ?_)
 · have hql : q < (plcS g v m (outR g (s : Nat)) j (psA g v (outR g (s : Nat)) (j + 1) % m).toNat).length := (by omega)
   have hqm := getD_mem (d := (0 : Int)) hql
   obtain ⟨i0, hij, hxi, hri⟩ := plcS_mem.1 hqm
   have hxt : ((plcS g v m (outR g (s : Nat)) j (psA g v (outR g (s : Nat)) (j + 1) % m).toNat).getD q 0).toNat = i0 := (by omega)
   have hokq := ok_in (w := v.getD s 0) hm.1 hqm
   rw [hxt] at hokq
   have hsx : (psL g v (outR g (s : Nat)) j).getD i0 0 = psA g v (outR g (s : Nat)) i0 := psL_at (by omega)
   have hmn : psA g v (outR g (s : Nat)) i0 ≤ psA g v (outR g (s : Nat)) (j + 1) := psA_mono hbx (by omega)
   have hpq := psA_box (g := g) (p := (outR g (s : Nat))) hbx i0
   refine zk (zs (zb (zs ?_)))
   refine awpS_cut (α := Unit) (fun _u => ⟨[(5, .vptr 1 (fun _ => ints v) 0), (6, .vptr 1 (fun _ => .int .i64 m) 0), (7, .vptr 1 (fun _ => .int .i64 (s : Nat)) 0), (8, .ptr (1, 0) 0 0), (9, .ptr (2, 0) 0 0), (10, .vptr 1 (fun _ => ints (outR g (s : Nat))) 0), (12, .ptr (3, 0) 0 0), (13, .ptr (4, 0) 0 0), (14, .int .i64 (j : Nat)), (15, .int .i64 (psA g v (outR g (s : Nat)) (j + 1))), (17, .int .i64 (i0 : Nat)), (39, .sl (6, (psA g v (outR g (s : Nat)) (j + 1) % m).toNat + 1) 0 (plcS g v m (outR g (s : Nat)) j (psA g v (outR g (s : Nat)) (j + 1) % m).toNat).length), (40, .int .i64 (plcS g v m (outR g (s : Nat)) j (psA g v (outR g (s : Nat)) (j + 1) % m).toNat).length), (41, .int .i64 (q : Nat))], [(1, .one (.arr 1 2 (fun _ c => zsF (none) c))), (2, .one (.arr 1 1 (fun _ _ => .bool false))), (3, .one (.arr 1 1 (fun _ _ => .sl (5, 0) 0 (j + 1)))), (4, .one (.arr 1 1 (fun _ _ => .map (6, 0)))), (5, .one (.arr (j + 1) 1 (fun i _ => .int .i64 ((psL g v (outR g (s : Nat)) (j)).getD i 0)))), (6, .fam (.mp (mpE intK (evR 6) (plMS g v m (outR g (s : Nat)) (j)))) (fun r => some (.arr (plcS g v m (outR g (s : Nat)) (j) r).length 1 (fun i _ => .int .i64 ((plcS g v m (outR g (s : Nat)) (j) r).getD i 0)))))], 7⟩) (fun _u => True) ?_ ?_ (by simp)
   · refine zr ?_ (h := by intro c K h; simp [hG, List.getD_cons_zero, List.getD_cons_succ, -List.getD_eq_getElem?_getD, pureOp, hx]; first | exact z1 c h | exact ⟨.mk c, h⟩)
     refine zn ?_
     refine cut_end (()) (trivial) ?_
     refine wk_of (id) (fun _ => false) (fun _ => false) ?_ ?_ rfl (by simp) (fun k hk => by first | exact ⟨rfl, rfl⟩ | (revert k; decide) | (obtain rfl : k = 0 := (by omega); exact ⟨rfl, rfl⟩) | (have hk2 : k = 0 ∨ k = 1 := (by omega); rcases hk2 with rfl | rfl <;> exact ⟨rfl, rfl⟩))
     · simp [hG, List.getD_cons_zero, List.getD_cons_succ, -List.getD_eq_getElem?_getD]; exact hxi
     simp [hG, List.getD_cons_zero, List.getD_cons_succ, -List.getD_eq_getElem?_getD]; exact fam_le fun p _ => evR_le rfl (by decide) rfl
   rintro _ _
   refine zs ?_
   refine awpS_drawR rfl mixed [] ⟨[], [], []⟩ fun mu0 => ?_
   refine za [0, 1, 2, 3, 4, 5, 6, 7, 8] [] 0 [8, 7, 6, 5, 4, 3, 2, 1, 0] ?_ (h := by intro c K h; simp [hG, List.getD_cons_zero, List.getD_cons_succ, -List.getD_eq_getElem?_getD, pureOp, hx]; first | exact z1 c h | exact ⟨.mk c, h⟩)
   refine awpA_done (by decide +kernel) ?_
   refine zs (zr ?_ (h := by intro c K h; simp [hG, List.getD_cons_zero, List.getD_cons_succ, -List.getD_eq_getElem?_getD, pureOp, hx]; first | exact z1 c h | exact ⟨.mk c, h⟩))
   refine zy (fun hb62 => ?_) fun hb62 => ?_
   · have hf : fndS g v m s j = some ⟨s, prts (outR g (s : Nat)) i0 (j + 1)⟩ := (by unfold fndS; rw [chI_place hm.1 hql hn (by rw [hxt, hokq]; rw [hsx] at hb62; exact decide_eq_true (by unfold segS; omega)), hxt]; rfl)
     have hjn := jnx_some hf
     clear hokq hxi hri hxt hqm hn
     refine zs ?_
     refine awpS_cut (α := Unit) (fun _u => ⟨[], [(1, .one (.arr 1 2 (fun _ c => zsF (some ⟨s, prts (outR g (s : Nat)) i0 (j + 1)⟩) c))), (2, .one (.arr 1 1 (fun _ _ => .bool true))), (3, .one (.arr 1 1 (fun _ _ => .sl (5, 0) 0 (j + 1)))), (4, .one (.arr 1 1 (fun _ _ => .map (6, 0)))), (5, .one (.arr (j + 1) 1 (fun i _ => .int .i64 ((psL g v (outR g (s : Nat)) (j)).getD i 0)))), (6, .fam (.mp (mpE intK (evR 6) (plMS g v m (outR g (s : Nat)) (j)))) (fun r => some (.arr (plcS g v m (outR g (s : Nat)) (j) r).length 1 (fun i _ => .int .i64 ((plcS g v m (outR g (s : Nat)) (j) r).getD i 0)))))], 7⟩) (fun _u => True) ?_ ?_ (by simp)
     · refine awpS_drawR rfl mixed [] ⟨[], [15, 18, 19], []⟩ fun mu0 => ?_
       refine za [0, 1, 2, 3, 4, 5, 7, 8, 9, 10, 11, 12, 13] [] 7 [13, 12, 11, 10, 9, 8, 7, 5, 4, 3, 2, 1, 0] ?_ (h := by intro c K h; simp [hG, List.getD_cons_zero, List.getD_cons_succ, -List.getD_eq_getElem?_getD, pureOp, hx]; first | exact z1 c h | exact ⟨.mk c, h⟩)
       refine awpA_two (fuel := 6) (i := 6) (k := 14) (by decide +kernel) ?_ ?_
       · refine awpO_fc cal27 [] (fun _ => false) (cloneI_c (((outR g (s : Nat)).drop i0).take (j + 1 - i0)) (by simp; omega)) rfl (.inr rfl) rfl rfl rfl (by simp) (.inl fun _ => rfl) ?_ ?_ ?_ fun K hK x hI hno => ?_
         · simp [hG, List.getD_cons_zero, List.getD_cons_succ, -List.getD_eq_getElem?_getD, pureOp, hx]
         · simp [hG, List.getD_cons_zero, List.getD_cons_succ, -List.getD_eq_getElem?_getD]; exact ⟨by omega, fun k hk => (seg_at (by omega)).symm⟩
         · simp [hG, List.getD_cons_zero, List.getD_cons_succ, -List.getD_eq_getElem?_getD, pureOp, hx]
         simp [hG, List.getD_cons_zero, List.getD_cons_succ, -List.getD_eq_getElem?_getD, pureOp, hx]
         refine hK _ ?_
         clear K hK
         refine awpA_only (fuel := 5) (i := 14) (by decide +kernel) ?_
         refine zo ?_ (hw := by simp [hG, List.getD_cons_zero, List.getD_cons_succ, -List.getD_eq_getElem?_getD, pureOp, hx]; (try exact trivial)) (h := by intro c K h; simp [hG, List.getD_cons_zero, List.getD_cons_succ, -List.getD_eq_getElem?_getD, pureOp, hx]; first | exact z1 c h | exact ⟨.mk c, h⟩)
         refine awpA_only (fuel := 4) (i := 15) (by decide +kernel) ?_
         refine awpO_fcr cal73 [8] (fun _ => false) (concat2_c (a := (outR g (s : Nat)).take i0) (b := (outR g (s : Nat)).drop (j + 1)) (by simp; omega) (by simp; omega)) rfl ⟨by decide, by decide, by simp⟩ rfl rfl rfl (by simp) (.inl fun _ => rfl) ?_ ?_ ?_ fun K hK x hI hno => ?_
         · simp [hG, List.getD_cons_zero, List.getD_cons_succ, -List.getD_eq_getElem?_getD, pureOp, hx]
         · simp [hG, List.getD_cons_zero, List.getD_cons_succ, -List.getD_eq_getElem?_getD, pureOp, hx]
         · simp [hG, List.getD_cons_zero, List.getD_cons_succ, -List.getD_eq_getElem?_getD]; exact ⟨⟨by omega, fun k hk => (fst_at (by omega)).symm⟩, fun k hk => lst_at.symm⟩
         simp [hG, List.getD_cons_zero, List.getD_cons_succ, -List.getD_eq_getElem?_getD, pureOp, hx]
         refine hK _ ?_
         clear K hK
         refine awpA_only (fuel := 3) (i := 16) (by decide +kernel) ?_
         refine zo ?_ (hw := by simp [hG, List.getD_cons_zero, List.getD_cons_succ, -List.getD_eq_getElem?_getD, pureOp, hx]; (try exact trivial)) (h := by intro c K h; simp [hG, List.getD_cons_zero, List.getD_cons_succ, -List.getD_eq_getElem?_getD, pureOp, hx]; first | exact z1 c h | exact ⟨.mk c, h⟩)
         refine za [17] [] 2 [17, 16, 15, 14, 6, 13, 12, 11, 10, 9, 8, 7, 5, 4, 3, 2, 1, 0] ?_ (h := by intro c K h; simp [hG, List.getD_cons_zero, List.getD_cons_succ, -List.getD_eq_getElem?_getD, pureOp, hx]; first | exact z1 c h | exact ⟨.mk c, h⟩)
         refine awpA_only (fuel := 1) (i := 18) (by decide +kernel) ?_
         refine zo ?_ (hw := by simp [hG, List.getD_cons_zero, List.getD_cons_succ, -List.getD_eq_getElem?_getD, pureOp, hx]; (try exact trivial)) (h := by intro c K h; simp [hG, List.getD_cons_zero, List.getD_cons_succ, -List.getD_eq_getElem?_getD, pureOp, hx]; first | exact z1 c h | exact ⟨.mk c, h⟩)
         refine awpA_only (fuel := 0) (i := 19) (by decide +kernel) ?_
         refine zo ?_ (hw := by simp [hG, List.getD_cons_zero, List.getD_cons_succ, -List.getD_eq_getElem?_getD, pureOp, hx]; (try exact trivial)) (h := by intro c K h; simp [hG, List.getD_cons_zero, List.getD_cons_succ, -List.getD_eq_getElem?_getD, pureOp, hx]; first | exact z1 c h | exact ⟨.mk c, h⟩)
         refine awpA_done (by decide +kernel) ?_
         refine zn ?_
         refine cut_end (()) (trivial) ?_
         refine wk_of (id) (fun k => decide (7 ≤ k)) (fun _ => false) ?_ ?_ rfl (by simp) (fun k hk => by first | exact ⟨rfl, rfl⟩ | (revert k; decide) | (obtain rfl : k = 0 := (by omega); exact ⟨rfl, rfl⟩) | (have hk2 : k = 0 ∨ k = 1 := (by omega); rcases hk2 with rfl | rfl <;> exact ⟨rfl, rfl⟩))
         · simp [hG, List.getD_cons_zero, List.getD_cons_succ, -List.getD_eq_getElem?_getD, pureOp, hx]
         simp [hG, List.getD_cons_zero, List.getD_cons_succ, -List.getD_eq_getElem?_getD]; exact ⟨⟨rfl, Nat.le_refl _, fun i hi => by have hi2 : i < 2 := hi; rcases (show i = 0 ∨ i = 1 by omega) with rfl | rfl; (simp [prts, List.getD_cons_zero, List.getD_cons_succ, -List.getD_eq_getElem?_getD]); (exact Clo.le _ Clo_ints)⟩, fam_le fun p _ => evR_le rfl (by decide) rfl⟩
       refine zo ?_ (hw := by simp [hG, List.getD_cons_zero, List.getD_cons_succ, -List.getD_eq_getElem?_getD, pureOp, hx]; (try exact trivial)) (h := by intro c K h; simp [hG, List.getD_cons_zero, List.getD_cons_succ, -List.getD_eq_getElem?_getD, pureOp, hx]; first | exact z1 c h | exact ⟨.mk c, h⟩)
       refine awpA_only (fuel := 5) (i := 6) (by decide +kernel) ?_
       refine awpO_fc cal27 [] (fun _ => false) (cloneI_c (((outR g (s : Nat)).drop i0).take (j + 1 - i0)) (by simp; omega)) rfl (.inr rfl) rfl rfl rfl (by simp) (.inl fun _ => rfl) ?_ ?_ ?_ fun K hK x hI hno => ?_
       · simp [hG, List.getD_cons_zero, List.getD_cons_succ, -List.getD_eq_getElem?_getD, pureOp, hx]
       · simp [hG, List.getD_cons_zero, List.getD_cons_succ, -List.getD_eq_getElem?_getD]; exact ⟨by omega, fun k hk => (seg_at (by omega)).symm⟩
       · simp [hG, List.getD_cons_zero, List.getD_cons_succ, -List.getD_eq_getElem?_getD, pureOp, hx]
       simp [hG, List.getD_cons_zero, List.getD_cons_succ, -List.getD_eq_getElem?_getD, pureOp, hx]
       refine hK _ ?_
       clear K hK
       refine awpA_only (fuel := 4) (i := 15) (by decide +kernel) ?_
       refine awpO_fcr cal73 [7] (fun _ => false) (concat2_c (a := (outR g (s : Nat)).take i0) (b := (outR g (s : Nat)).drop (j + 1)) (by simp; omega) (by simp; omega)) rfl ⟨by decide, by decide, by simp⟩ rfl rfl rfl (by simp) (.inl fun _ => rfl) ?_ ?_ ?_ fun K hK x hI hno => ?_
       · simp [hG, List.getD_cons_zero, List.getD_cons_succ, -List.getD_eq_getElem?_getD, pureOp, hx]
       · simp [hG, List.getD_cons_zero, List.getD_cons_succ, -List.getD_eq_getElem?_getD, pureOp, hx]
       · simp [hG, List.getD_cons_zero, List.getD_cons_succ, -List.getD_eq_getElem?_getD]; exact ⟨⟨by omega, fun k hk => (fst_at (by omega)).symm⟩, fun k hk => lst_at.symm⟩
       simp [hG, List.getD_cons_zero, List.getD_cons_succ, -List.getD_eq_getElem?_getD, pureOp, hx]
       refine hK _ ?_
       clear K hK
       refine awpA_only (fuel := 3) (i := 16) (by decide +kernel) ?_
       refine zo ?_ (hw := by simp [hG, List.getD_cons_zero, List.getD_cons_succ, -List.getD_eq_getElem?_getD, pureOp, hx]; (try exact trivial)) (h := by intro c K h; simp [hG, List.getD_cons_zero, List.getD_cons_succ, -List.getD_eq_getElem?_getD, pureOp, hx]; first | exact z1 c h | exact ⟨.mk c, h⟩)
       refine za [17] [] 2 [17, 16, 15, 6, 14, 13, 12, 11, 10, 9, 8, 7, 5, 4, 3, 2, 1, 0] ?_ (h := by intro c K h; simp [hG, List.getD_cons_zero, List.getD_cons_succ, -List.getD_eq_getElem?_getD, pureOp, hx]; first | exact z1 c h | exact ⟨.mk c, h⟩)
       refine awpA_only (fuel := 1) (i := 18) (by decide +kernel) ?_
       refine zo ?_ (hw := by simp [hG, List.getD_cons_zero, List.getD_cons_succ, -List.getD_eq_getElem?_getD, pureOp, hx]; (try exact trivial)) (h := by intro c K h; simp [hG, List.getD_cons_zero, List.getD_cons_succ, -List.getD_eq_getElem?_getD, pureOp, hx]; first | exact z1 c h | exact ⟨.mk c, h⟩)
       refine awpA_only (fuel := 0) (i := 19) (by decide +kernel) ?_
       refine zo ?_ (hw := by simp [hG, List.getD_cons_zero, List.getD_cons_succ, -List.getD_eq_getElem?_getD, pureOp, hx]; (try exact trivial)) (h := by intro c K h; simp [hG, List.getD_cons_zero, List.getD_cons_succ, -List.getD_eq_getElem?_getD, pureOp, hx]; first | exact z1 c h | exact ⟨.mk c, h⟩)
       refine awpA_done (by decide +kernel) ?_
       refine zn ?_
       refine cut_end (()) (trivial) ?_
       refine wk_of (id) (fun k => decide (7 ≤ k)) (fun _ => false) ?_ ?_ rfl (by simp) (fun k hk => by first | exact ⟨rfl, rfl⟩ | (revert k; decide) | (obtain rfl : k = 0 := (by omega); exact ⟨rfl, rfl⟩) | (have hk2 : k = 0 ∨ k = 1 := (by omega); rcases hk2 with rfl | rfl <;> exact ⟨rfl, rfl⟩))
       · simp [hG, List.getD_cons_zero, List.getD_cons_succ, -List.getD_eq_getElem?_getD, pureOp, hx]
       simp [hG, List.getD_cons_zero, List.getD_cons_succ, -List.getD_eq_getElem?_getD]; exact ⟨⟨rfl, Nat.le_refl _, fun i hi => by have hi2 : i < 2 := hi; rcases (show i = 0 ∨ i = 1 by omega) with rfl | rfl; (simp [prts, List.getD_cons_zero, List.getD_cons_succ, -List.getD_eq_getElem?_getD]); (exact Clo.le _ Clo_ints)⟩, fam_le fun p _ => evR_le rfl (by decide) rfl⟩
     rintro _ _
     refine zt (zbt (ztt (zbt (zbt ?_))))
     refine RetYJ_of (()) (fun k => if k = 7 then 5 else if k = 8 then 6 else k) (fun _ => false) (fun _ => false) trivial (by rw [hf]; rfl) ?_ (by rfl) (by simp) (fun k hk => ⟨(if_neg (by omega)).trans (if_neg (by omega)), rfl⟩)
     rw [hf, hjn]; simp [hG, List.getD_cons_zero, List.getD_cons_succ, -List.getD_eq_getElem?_getD]; exact fam_le fun p _ => evR_le rfl (by decide) rfl
   refine zk (zn (zbn (zr ?_ (h := by intro c K h; simp [hG, List.getD_cons_zero, List.getD_cons_succ, -List.getD_eq_getElem?_getD, pureOp, hx]; first | exact z1 c h | exact ⟨.mk c, h⟩))))
   refine zn ?_
   refine round_end (q + 1) (⟨by omega, step_all hn (by rw [hxt, hokq]; rw [hsx] at hb62; exact decide_eq_false (by unfold segS; omega))⟩) (by omega) ?_
   refine wk_of (id) (fun _ => false) (fun _ => false) ?_ ?_ rfl (by simp) (fun k hk => by first | exact ⟨rfl, rfl⟩ | (revert k; decide) | (obtain rfl : k = 0 := (by omega); exact ⟨rfl, rfl⟩) | (have hk2 : k = 0 ∨ k = 1 := (by omega); rcases hk2 with rfl | rfl <;> exact ⟨rfl, rfl⟩))
   · simp [hG, List.getD_cons_zero, List.getD_cons_succ, -List.getD_eq_getElem?_getD, pureOp, hx]
   simp [hG, List.getD_cons_zero, List.getD_cons_succ, -List.getD_eq_getElem?_getD]; exact fam_le fun p _ => evR_le rfl (by decide) rfl
 obtain rfl : q = (plcS g v m (outR g (s : Nat)) j (psA g v (outR g (s : Nat)) (j + 1) % m).toNat).length := (by omega)
 have hfn : fndS g v m s j = none := (by unfold fndS; rw [chI_never hm.1 hn]; rfl)
 have hjn := jnx_none hfn
 have hps := psL_succ (g := g) (v := v) (o := (outR g (s : Nat))) (j := j)
 have hpm := plMS_succ (g := g) (v := v) (m := m) (o := (outR g (s : Nat))) (j := j)
 have hpc := fun r => plcS_succ (g := g) (v := v) (m := m) (o := (outR g (s : Nat))) (j := j) (r := r)
 have hpR : plcS g v m (outR g (s : Nat)) (j + 1) (psA g v (outR g (s : Nat)) (j + 1) % m).toNat = (plcS g v m (outR g (s : Nat)) j (psA g v (outR g (s : Nat)) (j + 1) % m).toNat) ++ [((j + 1 : Nat) : Int)] := (by rw [hpc, if_pos (by omega)])
 refine zx (ztx (zbx (zs (zr ?_ (h := by intro c K h; simp [hG, List.getD_cons_zero, List.getD_cons_succ, -List.getD_eq_getElem?_getD, pureOp, hx]; first | exact z1 c h | exact ⟨.mk c, h⟩)))))
 refine awpS_drawR rfl mixed [] ⟨[13], [12], [(4, 0)]⟩ fun mu0 => ?_
 refine za [0, 1, 2, 3, 4, 5, 6, 7, 9, 10] [] 4 [10, 9, 7, 6, 5, 4, 3, 2, 1, 0] ?_ (h := by intro c K h; simp [hG, List.getD_cons_zero, List.getD_cons_succ, -List.getD_eq_getElem?_getD, pureOp, hx]; first | exact z1 c h | exact ⟨.mk c, h⟩)
 refine awpA_two (fuel := 3) (i := 8) (k := 11) (by decide +kernel) ?_ ?_
 · refine zo ?_ (hw := by simp [hG, List.getD_cons_zero, List.getD_cons_succ, -List.getD_eq_getElem?_getD, pureOp, hx]; (try exact trivial)) (h := by intro c K h; simp [hG, List.getD_cons_zero, List.getD_cons_succ, -List.getD_eq_getElem?_getD, pureOp, hx]; first | exact z1 c h | exact ⟨.mk c, h⟩)
   refine awpA_only (fuel := 2) (i := 11) (by decide +kernel) ?_
   refine zo ?_ (hw := by simp [hG, List.getD_cons_zero, List.getD_cons_succ, -List.getD_eq_getElem?_getD, pureOp, hx]; (try exact trivial)) (h := by intro c K h; simp [hG, List.getD_cons_zero, List.getD_cons_succ, -List.getD_eq_getElem?_getD, pureOp, hx]; first | exact z1 c h | exact ⟨.mk c, h⟩)
   refine awpA_only (fuel := 1) (i := 12) (by decide +kernel) ?_
   refine zo ?_ (hw := by simp [hG, List.getD_cons_zero, List.getD_cons_succ, -List.getD_eq_getElem?_getD, pureOp, hx]; (try exact trivial)) (h := by intro c K h; simp [hG, List.getD_cons_zero, List.getD_cons_succ, -List.getD_eq_getElem?_getD, pureOp, hx]; first | exact z1 c h | exact ⟨.mk c, h⟩)
   refine awpA_only (fuel := 0) (i := 13) (by decide +kernel) ?_
   refine zo ?_ (hw := by simp [hG, List.getD_cons_zero, List.getD_cons_succ, -List.getD_eq_getElem?_getD, pureOp, hx]; (try exact trivial)) (h := by intro c K h; simp [hG, List.getD_cons_zero, List.getD_cons_succ, -List.getD_eq_getElem?_getD, pureOp, hx]; first | exact z1 c h | exact ⟨.mk c, h⟩)
   refine awpA_done (by decide +kernel) ?_
   refine zn (zbn (zn ?_))
   refine RetYJ_ofI (()) (fun d => if d.1 = 8 then (if d.2 = (psA g v (outR g (s : Nat)) (j + 1) % m).toNat + 1 then (10, 0) else (6, d.2)) else if d.1 = 7 then (8, d.2) else d) (fun _ => false) (fun _ => false) trivial (by rw [hfn]; rfl) ?_ (by intro d d' h1 h2 _ _ h; have k1 := lkH_keys h1; have k2 := lkH_keys h2; simp at k1 k2; obtain ⟨a, b⟩ := d; obtain ⟨a2, b2⟩ := d'; simp only at k1 k2 h; (repeat' split at h) <;> simp only [Prod.mk.injEq] at h ⊢ <;> omega) (by simp) (fun d hd => ⟨(if_neg (by omega)).trans (if_neg (by omega)), rfl⟩)
   rw [hfn, hjn, hps, hpm, hpR]; simp [hG, hpe, List.getD_cons_zero, List.getD_cons_succ, -List.getD_eq_getElem?_getD]; refine ⟨fun i hi => app_psL rfl hi, ?_, ?_⟩; (refine put_le ?_ (plMS_keys j) ?_; (exact evR_new ((if_pos rfl).trans (if_pos rfl)) (show 8 < 9 by decide) rfl); intro p hp hne; have h7 := plMS_row j hm.1 p hp; exact evR_le (k := 6) (p := p.2) ((if_pos rfl).trans (if_neg (by show ¬ (p.2.1 + 1 = (psA g v (outR g (s : Nat)) (j + 1) % m).toNat + 1); omega))) (show 8 < 9 by decide) rfl); (intro i; by_cases h : i = (psA g v (outR g (s : Nat)) (j + 1) % m).toNat; (rw [h, hpR]; simp [HLe, hpe, -List.getD_eq_getElem?_getD]; first | rfl | exact fun q hq => app_oneI (by simp) hq); (rw [hpc i, if_neg (by omega)]; simp [HLe, h]))
 refine zo ?_ (hw := by simp [hG, List.getD_cons_zero, List.getD_cons_succ, -List.getD_eq_getElem?_getD, pureOp, hx]; (try exact trivial)) (h := by intro c K h; simp [hG, List.getD_cons_zero, List.getD_cons_succ, -List.getD_eq_getElem?_getD, pureOp, hx]; first | exact z1 c h | exact ⟨.mk c, h⟩)
 refine awpA_only (fuel := 2) (i := 8) (by decide +kernel) ?_
 refine zo ?_ (hw := by simp [hG, List.getD_cons_zero, List.getD_cons_succ, -List.getD_eq_getElem?_getD, pureOp, hx]; (try exact trivial)) (h := by intro c K h; simp [hG, List.getD_cons_zero, List.getD_cons_succ, -List.getD_eq_getElem?_getD, pureOp, hx]; first | exact z1 c h | exact ⟨.mk c, h⟩)
 refine awpA_only (fuel := 1) (i := 12) (by decide +kernel) ?_
 refine zo ?_ (hw := by simp [hG, List.getD_cons_zero, List.getD_cons_succ, -List.getD_eq_getElem?_getD, pureOp, hx]; (try exact trivial)) (h := by intro c K h; simp [hG, List.getD_cons_zero, List.getD_cons_succ, -List.getD_eq_getElem?_getD, pureOp, hx]; first | exact z1 c h | exact ⟨.mk c, h⟩)
 refine awpA_only (fuel := 0) (i := 13) (by decide +kernel) ?_
 refine zo ?_ (hw := by simp [hG, List.getD_cons_zero, List.getD_cons_succ, -List.getD_eq_getElem?_getD, pureOp, hx]; (try exact trivial)) (h := by intro c K h; simp [hG, List.getD_cons_zero, List.getD_cons_succ, -List.getD_eq_getElem?_getD, pureOp, hx]; first | exact z1 c h | exact ⟨.mk c, h⟩)
 refine awpA_done (by decide +kernel) ?_
 refine zn (zbn (zn ?_))
 refine RetYJ_ofI (()) (fun d => if d.1 = 8 then (if d.2 = (psA g v (outR g (s : Nat)) (j + 1) % m).toNat + 1 then (10, 0) else (6, d.2)) else if d.1 = 7 then (8, d.2) else d) (fun _ => false) (fun _ => false) trivial (by rw [hfn]; rfl) ?_ (by intro d d' h1 h2 _ _ h; have k1 := lkH_keys h1; have k2 := lkH_keys h2; simp at k1 k2; obtain ⟨a, b⟩ := d; obtain ⟨a2, b2⟩ := d'; simp only at k1 k2 h; (repeat' split at h) <;> simp only [Prod.mk.injEq] at h ⊢ <;> omega) (by simp) (fun d hd => ⟨(if_neg (by omega)).trans (if_neg (by omega)), rfl⟩)
 rw [hfn, hjn, hps, hpm, hpR]; simp [hG, hpe, List.getD_cons_zero, List.getD_cons_succ, -List.getD_eq_getElem?_getD]; refine ⟨fun i hi => app_psL rfl hi, ?_, ?_⟩; (refine put_le ?_ (plMS_keys j) ?_; (exact evR_new ((if_pos rfl).trans (if_pos rfl)) (show 8 < 9 by decide) rfl); intro p hp hne; have h7 := plMS_row j hm.1 p hp; exact evR_le (k := 6) (p := p.2) ((if_pos rfl).trans (if_neg (by show ¬ (p.2.1 + 1 = (psA g v (outR g (s : Nat)) (j + 1) % m).toNat + 1); omega))) (show 8 < 9 by decide) rfl); (intro i; by_cases h : i = (psA g v (outR g (s : Nat)) (j + 1) % m).toNat; (rw [h, hpR]; simp [HLe, hpe, -List.getD_eq_getElem?_getD]; first | rfl | exact fun q hq => app_oneI (by simp) hq); (rw [hpc i, if_neg (by omega)]; simp [HLe, h]))
end Go.Proofs.YthpdkmoedpcboaaGreat
