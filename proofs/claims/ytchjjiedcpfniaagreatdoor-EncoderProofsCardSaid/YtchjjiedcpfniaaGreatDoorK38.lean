/- Parts of the proof: UH. -/
import Derived.Test.YtchjjiedcpfniaaGreatDoorK16
import Derived.Test.YtchjjiedcpfniaaGreatDoorK37
namespace Go.Proofs.YtchjjiedcpfniaaGreatDoor
set_option linter.unusedSimpArgs false
set_option linter.unusedVariables false
open Go Go.Lift Go.Proofs
@[simp] theorem luKs {β : Type} {ev : β → AVal} {l : List (List UInt8 × β)} {k : List UInt8} : luK T 9 (mpE strK ev l) 0 (.str k) = some ((alFind l 0 k).map fun p => (p.1, ev p.2)) := luK_strK (by simp)
@[simp] theorem putK_strI {l : List (List UInt8 × Int)} {k : List UInt8} {b : Int} : putK (mpE strK intV l) ((alFind l 0 k).map fun p => (p.1, intV p.2)) (.str k) (.int .i64 b) = mpE strK intV (alPut l k b) := putK_mpE (ek := strK) (ev := intV) l k b
@[simp high] theorem HLe_si {h : Heap} {σ : Lift.Id → Lift.Id} {fz : Nat → Bool} {vz : Lift.Id → Bool} {nx : Nat} {l2 l : List (List UInt8 × Int)} (e : l2 = l) : HLe h σ fz vz nx (.mp (mpE strK intV l2)) (some (.mp (mpE strK intV l))) = True := eq_true (HLe_mpE (ek := strK) (ev := intV) (fun _ => trivial) (fun _ => trivial) e)
@[simp] theorem ren_mpSI {σ : Nat → Nat} {l : List (List UInt8 × Int)} : List.map (fun p => (ren σ p.1, ren σ p.2)) (mpE strK intV l) = mpE strK intV l := by
  conv => rhs; rw [← List.map_id (mpE strK intV l)]
  refine List.map_congr_left fun p hp => ?_
  obtain ⟨q, _, rfl⟩ := List.mem_map.1 hp
  rfl
theorem sb_small {g : Gr} (hv : gcheck g = 0) {i k : Nat} {st : Sb} (h : SbOK g i k st) : ∀ y ∈ st.all, Small y := fun y hy => SetOK.small hv ⟨(h.set y hy).2.1, (h.set y hy).2.2⟩
theorem sb_get {g : Gr} (hv : gcheck g = 0) {i k : Nat} {st : Sb} (h : SbOK g i k st) {x : List Int} (hx : Small x) : alGet (numK 0 st.all) (keyS x) = if x ∈ st.all then some (st.all.idxOf x : Int) else none := by
  have := numK_get (m := 0) (sb_small hv h) hx
  simpa using this
theorem sb_new {g : Gr} (hv : gcheck g = 0) {i k : Nat} {st : Sb} (h : SbOK g i k st) {x : List Int} (hx : Small x) (hn : ¬ x ∈ st.all) : alPut (numK 0 st.all) (keyS x) (st.all.length : Int) = numK 0 (st.all ++ [x]) := by
  rw [alPut_end (by rw [sb_get hv h hx, if_neg hn]), numK_app, Nat.zero_add]
theorem sbPut_len {g : Gr} {i k : Nat} {st : Sb} : (sbPut g i st k).all.length ≤ st.all.length + 1 ∧ (sbPut g i st k).es.length ≤ st.es.length + 1 := by
  unfold sbPut
  split
  · exact ⟨by omega, by omega⟩
  · refine ⟨?_, by simp⟩
    show (if _ then _ else _ : List (List Int)).length ≤ _
    split <;> simp
theorem sbRow_len {g : Gr} {i : Nat} {st : Sb} : ∀ {k : Nat}, (sbRow g i st k).all.length ≤ st.all.length + k ∧ (sbRow g i st k).es.length ≤ st.es.length + k
  | 0 => ⟨Nat.le_refl _, Nat.le_refl _⟩
  | k + 1 => by
    have h1 := sbRow_len (g := g) (i := i) (st := st) (k := k)
    have h2 := sbPut_len (g := g) (i := i) (k := k) (st := sbRow g i st k)
    rw [sbRow_succ]; omega
theorem app_ed {X : List Edge} {r : Edge} {i j : Nat} {w : Nat → Nat → AVal} (hi : i < X.length + 1) (hw : w 0 j = edgeF r j) : app (fun q j => edgeF (X.getD q de) j) X.length w i j = edgeF ((X ++ [r]).getD i de) j := by
  rw [getD_app]
  unfold app
  by_cases h2 : i < X.length
  · rw [if_pos h2, if_pos h2]
  · have : i - X.length = 0 := by omega
    rw [if_neg h2, if_neg h2, this, hw]
    rfl
theorem app_rowX {H : Heap} {σ : Lift.Id → Lift.Id} {fz : Nat → Bool} {vz : Lift.Id → Bool} {nx : Nat} {X : List (List Int)} {r : List Int} {j : Nat} {v : AVal} {w : Nat → Nat → AVal} (hj : j < X.length + 1) (hv : VLe H σ fz vz nx (ints r) v) :
    VLe H σ fz vz nx (ints ((X ++ [r]).getD j [])) (app (fun q _ => ints (X.getD q [])) X.length (fun i k => if i = 0 ∧ k = 0 then v else w i k) j 0) := by
  unfold app
  by_cases h : j < X.length
  · rw [if_pos h]
    have : (X ++ [r]).getD j [] = X.getD j [] := by simp [List.getD, List.getElem?_append_left h]
    rw [this]; exact Clo.le _ Clo_ints
  · obtain rfl : j = X.length := by omega
    rw [if_neg h, Nat.sub_self]
    have : (X ++ [r]).getD X.length [] = r := by simp [List.getD]
    rw [this]
    simp only [and_self, if_true]
    exact hv
set_option maxRecDepth 100000 in
theorem subPut_c (g : Gr) (hv : gcheck g = 0) (i k : Nat) (st : Sb) (hok : SbOK g i k st) (hne : (stepL g k (st.all.getD i [])) ≠ []) (ha : st.all.length ≤ 2000) (he : st.es.length ≤ 4000) : FC1 Tryz.prog 105 [.int .i64 k, ints (stepL g k (st.all.getD i [])), .ptr (0, 0) 0 0, .ptr (1, 0) 0 0, .ptr (2, 0) 0 0, .ptr (3, 0) 0 0] [(0, .one (.arr 1 1 (fun _ _ => .map (4, 0)))), (1, .one (.arr 1 1 (fun _ _ => .sl (5, 0) 0 (st).all.length))), (2, .one (.arr 1 3 (fun _ j => [.int .i64 g.labels, .int .i64 0, .sl (6, 0) 0 (st).es.length].getD j .any))), (3, .one (.arr 1 1 (fun _ _ => .int .i64 (i : Nat)))), (4, .one (.mp (mpE strK intV (numK 0 (st).all)))), (5, .one (.arr (st).all.length 1 (fun p _ => ints ((st).all.getD p [])))), (6, .one (.arr (st).es.length 3 (fun q j => edgeF ((st).es.getD q de) j)))] 7 (.tup 0 (fun _ => .any)) [(0, .one (.arr 1 1 (fun _ _ => .map (4, 0)))), (1, .one (.arr 1 1 (fun _ _ => .sl (7, 0) 0 ((sbPut g i st k)).all.length))), (2, .one (.arr 1 3 (fun _ j => [.int .i64 g.labels, .int .i64 0, .sl (8, 0) 0 ((sbPut g i st k)).es.length].getD j .any))), (3, .one (.arr 1 1 (fun _ _ => .int .i64 (i : Nat)))), (4, .one (.mp (mpE strK intV (numK 0 ((sbPut g i st k)).all)))), (7, .one (.arr ((sbPut g i st k)).all.length 1 (fun p _ => ints (((sbPut g i st k)).all.getD p [])))), (8, .one (.arr ((sbPut g i st k)).es.length 3 (fun q j => edgeF (((sbPut g i st k)).es.getD q de) j)))] 9 := by
 have hLk : SetOK g (stepL g k (st.all.getD i [])) := SetOK.step hv
 have hLs := hLk.small hv
 have hLl := hLk.len hv
 have hgt := sb_get hv hok hLs
 refine FC_introS T_ok Tryz.func105 rfl (by simp [Tryz.ntmps105]) fun G hG hR => ?_
 simp only [Tryz.ntmps105, Tryz.results105] at hG ⊢
 simp only [argEnv, Nat.zero_add, Nat.reduceAdd]
 refine zs ?_
 refine awpS_draw hR mixed [] ⟨[], [], []⟩ fun mu0 => ?_
 refine za [0, 1] [] 7 [1, 0] ?_
 refine awpA_only (fuel := 6) (i := 2) (by decide +kernel) ?_
 refine ze cal102 (key_c (stepL g k (st.all.getD i [])) hLs (by omega)) ?_
 refine awpA_only (fuel := 5) (i := 3) (by decide +kernel) ?_
 refine zo ?_
 refine za [4, 5, 6, 7, 8] [] 0 [8, 7, 6, 5, 4, 3, 2, 1, 0] ?_
 refine awpA_done (by decide +kernel) ?_
 refine zs (zs (zr ?_))
 refine zy (fun hb18 => ?_) fun hb18 => ?_
 · have hnm : ¬ (stepL g k (st.all.getD i [])) ∈ st.all := (fun h => by rw [hgt, if_pos h] at hb18; cases hb18)
   have hE := sbPut_new hne hnm
   have hM := sb_new hv hok hLs hnm
   refine zs (zr ?_)
   refine zs ?_
   refine awpS_draw hR mixed [] ⟨[4], [], []⟩ fun mu0 => ?_
   refine za [0, 1, 3] [] 2 [3, 1, 0] ?_
   refine awpA_only (fuel := 1) (i := 2) (by decide +kernel) ?_
   refine ze cal102 (key_c (stepL g k (st.all.getD i [])) hLs (by omega)) ?_
   refine awpA_only (fuel := 0) (i := 4) (by decide +kernel) ?_
   refine zo ?_
   refine awpA_done (by decide +kernel) ?_
   refine zr ?_
   refine zr ?_
   refine zn ?_
   refine RetF_of (()) (fun k => if k = 7 then 8 else if k = 8 then 10 else k) (fun _ => false) (fun _ => false) trivial ?_ ?_ (by rfl) (by simp) (fun k hk => ⟨(if_neg (by omega)).trans (if_neg (by omega)), rfl⟩)
   · simp [hG, List.getD_cons_zero, List.getD_cons_succ, -List.getD_eq_getElem?_getD]
   rw [hE]; simp [hG, List.getD_cons_zero, List.getD_cons_succ, -List.getD_eq_getElem?_getD]; exact ⟨of_eq_true (HLe_si hM.symm), fun j hj => app_rowX hj (Clo.le _ Clo_ints), fun q hq => ⟨app_ed (j := 0) hq rfl, app_ed (j := 1) hq rfl, app_ed (j := 2) hq rfl⟩⟩
 have hm : (stepL g k (st.all.getD i [])) ∈ st.all := Classical.byContradiction fun h => (by rw [hgt, if_neg h] at hb18; cases hb18)
 have hE := sbPut_old hne hm
 have hgd : (alGet (numK 0 st.all) (keyS (stepL g k (st.all.getD i [])))).getD 0 = (st.all.idxOf (stepL g k (st.all.getD i [])) : Int) := (by rw [hgt, if_pos hm]; rfl)
 refine zk (zr ?_)
 refine zn ?_
 refine RetF_of (()) (fun k => if k = 7 then 5 else k) (fun _ => false) (fun _ => false) trivial ?_ ?_ (by rfl) (by simp) (fun k hk => ⟨if_neg (by omega), rfl⟩)
 · simp [hG, List.getD_cons_zero, List.getD_cons_succ, -List.getD_eq_getElem?_getD]
 rw [hE]; simp [hG, List.getD_cons_zero, List.getD_cons_succ, -List.getD_eq_getElem?_getD]; exact fun q hq => ⟨app_ed (j := 0) hq rfl, app_ed (j := 1) hq rfl, app_ed (j := 2) hq (congrArg (AVal.int .i64) hgd)⟩
set_option maxRecDepth 100000 in
theorem subSteps_c (g : Gr) (hv : gcheck g = 0) (i : Nat) (st : Sb) (hi : i < st.all.length) (hok : SbOK g i 0 st) (ha : st.all.length ≤ 64) (he : st.es.length ≤ 1024) : FC1 Tryz.prog 104 [.agg 3 (grF g), ints (st.all.getD i []), .fn 105 4 (fun j => [.ptr (0, 0) 0 0, .ptr (1, 0) 0 0, .ptr (2, 0) 0 0, .ptr (3, 0) 0 0].getD j .any)] [(0, .one (.arr 1 1 (fun _ _ => .map (4, 0)))), (1, .one (.arr 1 1 (fun _ _ => .sl (5, 0) 0 (st).all.length))), (2, .one (.arr 1 3 (fun _ j => [.int .i64 g.labels, .int .i64 0, .sl (6, 0) 0 (st).es.length].getD j .any))), (3, .one (.arr 1 1 (fun _ _ => .int .i64 (i : Nat)))), (4, .one (.mp (mpE strK intV (numK 0 (st).all)))), (5, .one (.arr (st).all.length 1 (fun p _ => ints ((st).all.getD p [])))), (6, .one (.arr (st).es.length 3 (fun q j => edgeF ((st).es.getD q de) j)))] 7 (.tup 0 (fun _ => .any)) [(0, .one (.arr 1 1 (fun _ _ => .map (4, 0)))), (1, .one (.arr 1 1 (fun _ _ => .sl (7, 0) 0 ((sbRow g i st g.labels.toNat)).all.length))), (2, .one (.arr 1 3 (fun _ j => [.int .i64 g.labels, .int .i64 0, .sl (8, 0) 0 ((sbRow g i st g.labels.toNat)).es.length].getD j .any))), (3, .one (.arr 1 1 (fun _ _ => .int .i64 (i : Nat)))), (4, .one (.mp (mpE strK intV (numK 0 ((sbRow g i st g.labels.toNat)).all)))), (7, .one (.arr ((sbRow g i st g.labels.toNat)).all.length 1 (fun p _ => ints (((sbRow g i st g.labels.toNat)).all.getD p [])))), (8, .one (.arr ((sbRow g i st g.labels.toNat)).es.length 3 (fun q j => edgeF (((sbRow g i st g.labels.toNat)).es.getD q de) j)))] 9 := by
 have hlb := (gcheck_valid hv).1.lab
 have hxi := hok.set _ (getD_mem (d := []) hi)
 have hXK : SetOK g (st.all.getD i []) := ⟨hxi.2.1, hxi.2.2⟩
 refine FC_introS T_ok Tryz.func104 rfl (by simp [Tryz.ntmps104]) fun G hG hR => ?_
 simp only [Tryz.ntmps104, Tryz.results104] at hG ⊢
 simp only [argEnv, Nat.zero_add, Nat.reduceAdd]
 refine zs (zr ?_ (h := by intro c K h; simp [hG, List.getD_cons_zero, List.getD_cons_succ, -List.getD_eq_getElem?_getD, sbRow_zero]; first | exact z1 c h | exact ⟨.mk c, h⟩))
 refine zs (zr ?_ (h := by intro c K h; simp [hG, List.getD_cons_zero, List.getD_cons_succ, -List.getD_eq_getElem?_getD, sbRow_zero]; first | exact z1 c h | exact ⟨.mk c, h⟩))
 refine zb ?_
 refine awpS_loop (α := Nat) (fun k => ⟨[(1, ints (st.all.getD i [])), (2, .fn 105 4 (fun j => [.ptr (0, 0) 0 0, .ptr (1, 0) 0 0, .ptr (2, 0) 0 0, .ptr (3, 0) 0 0].getD j .any)), (3, .ptr (7, 0) 0 0), (10, .int .i64 g.labels), (11, .int .i64 k)], [(0, .one (.arr 1 1 (fun _ _ => .map (4, 0)))), (1, .one (.arr 1 1 (fun _ _ => .sl (8, 0) 0 ((sbRow g i st k)).all.length))), (2, .one (.arr 1 3 (fun _ j => [.int .i64 g.labels, .int .i64 0, .sl (9, 0) 0 ((sbRow g i st k)).es.length].getD j .any))), (3, .one (.arr 1 1 (fun _ _ => .int .i64 (i : Nat)))), (4, .one (.mp (mpE strK intV (numK 0 ((sbRow g i st k)).all)))), (8, .one (.arr ((sbRow g i st k)).all.length 1 (fun p _ => ints (((sbRow g i st k)).all.getD p [])))), (9, .one (.arr ((sbRow g i st k)).es.length 3 (fun q j => edgeF (((sbRow g i st k)).es.getD q de) j))), (7, .one (.arr 1 3 (fun _ => grF g)))], 10⟩) (fun k => k ≤ g.labels.toNat) (fun k => g.labels.toNat - k) (0) (Nat.zero_le _) ?_ ?_
 · refine wk_of (fun k => if k = 8 then 5 else if k = 9 then 6 else k) (fun _ => false) (fun _ => false) ?_ ?_ rfl (by simp) (fun k hk => by first | exact ⟨rfl, rfl⟩ | (revert k; decide) | (obtain rfl : k = 0 := (by omega); exact ⟨rfl, rfl⟩) | (have hk2 : k = 0 ∨ k = 1 := (by omega); rcases hk2 with rfl | rfl <;> exact ⟨rfl, rfl⟩))
   · simp [hG, List.getD_cons_zero, List.getD_cons_succ, -List.getD_eq_getElem?_getD, sbRow_zero]
   simp [hG, List.getD_cons_zero, List.getD_cons_succ, -List.getD_eq_getElem?_getD, sbRow_zero]
 rintro k hk
 refine zs (zr ?_ (h := by intro c K h; simp [hG, List.getD_cons_zero, List.getD_cons_succ, -List.getD_eq_getElem?_getD, sbRow_zero]; first | exact z1 c h | exact ⟨.mk c, h⟩))
 refine zs (zy (fun hb12 => ?_) fun hb12 => ?_)
 · have hkl : k < g.labels.toNat := (by omega)
   have hrk := hok.row hv hi (k := k) (by omega)
   have hX : (sbRow g i st k).all.getD i [] = (st.all.getD i []) := pre_at (sbRow_pre k).all hi
   have hln := sbRow_len (g := g) (i := i) (st := st) (k := k)
   have hE := sbRow_succ (g := g) (i := i) (st := st) (k := k)
   refine zk (zs (zb (zs (zr ?_ (h := by intro c K h; simp [hG, List.getD_cons_zero, List.getD_cons_succ, -List.getD_eq_getElem?_getD, sbRow_zero]; first | exact z1 c h | exact ⟨.mk c, h⟩)))))
   refine zs (zL (zl 3 ?_ (h := by intro c K h; simp [hG, List.getD_cons_zero, List.getD_cons_succ, -List.getD_eq_getElem?_getD, sbRow_zero]; first | exact z1 c h | exact ⟨.mk c, h⟩)))
   refine zc cal15 (step_c g (st.all.getD i []) (k : Nat) hv hXK.1 hXK.2 (by omega) (hXK.len hv)) ?_ (a := fun hg => by simp [hG, List.getD_cons_zero, List.getD_cons_succ, -List.getD_eq_getElem?_getD, sbRow_zero]) (b := fun hg => by simp [hG, List.getD_cons_zero, List.getD_cons_succ, -List.getD_eq_getElem?_getD, sbRow_zero]) (h := by intro K h; simp [hG, List.getD_cons_zero, List.getD_cons_succ, -List.getD_eq_getElem?_getD, sbRow_zero]; exact h)
   refine zl 5 ?_ (h := by intro c K h; simp [hG, List.getD_cons_zero, List.getD_cons_succ, -List.getD_eq_getElem?_getD, sbRow_zero]; first | exact z1 c h | exact ⟨.mk c, h⟩)
   refine zN (zs (zr ?_ (h := by intro c K h; simp [hG, List.getD_cons_zero, List.getD_cons_succ, -List.getD_eq_getElem?_getD, sbRow_zero]; first | exact z1 c h | exact ⟨.mk c, h⟩)))
   refine zy (fun hb23 => ?_) fun hb23 => ?_
   · have hne : (stepL g k (st.all.getD i [])) ≠ [] := (by intro h; rw [h] at hb23; simp at hb23)
     refine zL (zl 3 ?_ (h := by intro c K h; simp [hG, List.getD_cons_zero, List.getD_cons_succ, -List.getD_eq_getElem?_getD, sbRow_zero]; first | exact z1 c h | exact ⟨.mk c, h⟩))
     refine zf cal105 [0, 1, 2, 3, 4, 8, 9] (subPut_c g hv i k (sbRow g i st k) hrk (by rw [hX]; exact hne) (by omega) (by omega)) (fun x hI hno => ?_) (a := by simp [hG, List.getD_cons_zero, List.getD_cons_succ, -List.getD_eq_getElem?_getD, sbRow_zero]) (b := by rw [hX]; simp [hG, List.range'_succ, List.range'_zero, List.getD_cons_zero, List.getD_cons_succ, -List.getD_eq_getElem?_getD]) (c := by simp [hG, List.getD_cons_zero, List.getD_cons_succ, -List.getD_eq_getElem?_getD, sbRow_zero]) (h := by intro K h x hI hno; simp [hG, List.getD_cons_zero, List.getD_cons_succ, -List.getD_eq_getElem?_getD, sbRow_zero]; exact h x hI hno)
     refine zN (zn (zbn (zr ?_ (h := by intro c K h; simp [hG, List.getD_cons_zero, List.getD_cons_succ, -List.getD_eq_getElem?_getD, sbRow_zero]; first | exact z1 c h | exact ⟨.mk c, h⟩))))
     refine zn ?_
     refine round_end (k + 1) (by omega) (by omega) ?_
     refine wk_of (fun k => if k = 8 then 10 else if k = 9 then 11 else k) (fun _ => false) (fun _ => false) ?_ ?_ rfl (by simp) (fun k hk => by first | exact ⟨rfl, rfl⟩ | (revert k; decide) | (obtain rfl : k = 0 := (by omega); exact ⟨rfl, rfl⟩) | (have hk2 : k = 0 ∨ k = 1 := (by omega); rcases hk2 with rfl | rfl <;> exact ⟨rfl, rfl⟩))
     · simp [hG, List.getD_cons_zero, List.getD_cons_succ, -List.getD_eq_getElem?_getD, sbRow_zero]
     rw [hE]; simp [hG, List.getD_cons_zero, List.getD_cons_succ, -List.getD_eq_getElem?_getD]
   have hE2 : sbPut g i (sbRow g i st k) k = (sbRow g i st k) := sbPut_none (by rw [hX]; first | exact hb23 | simpa using hb23 | exact List.length_eq_zero_iff.1 (by omega))
   refine zk (zn (zbn (zr ?_ (h := by intro c K h; simp [hG, List.getD_cons_zero, List.getD_cons_succ, -List.getD_eq_getElem?_getD, sbRow_zero]; first | exact z1 c h | exact ⟨.mk c, h⟩))))
   refine zn ?_
   refine round_end (k + 1) (by omega) (by omega) ?_
   refine wk_of (id) (fun _ => false) (fun _ => false) ?_ ?_ rfl (by simp) (fun k hk => by first | exact ⟨rfl, rfl⟩ | (revert k; decide) | (obtain rfl : k = 0 := (by omega); exact ⟨rfl, rfl⟩) | (have hk2 : k = 0 ∨ k = 1 := (by omega); rcases hk2 with rfl | rfl <;> exact ⟨rfl, rfl⟩))
   · simp [hG, List.getD_cons_zero, List.getD_cons_succ, -List.getD_eq_getElem?_getD, sbRow_zero]
   rw [hE, hE2]; simp [hG, List.getD_cons_zero, List.getD_cons_succ, -List.getD_eq_getElem?_getD]
 obtain rfl : k = g.labels.toNat := (by omega)
 refine zx (ztx (zbx (zn ?_)))
 refine RetF_of (()) (fun k => if k = 7 then 8 else if k = 8 then 9 else k) (fun _ => false) (fun _ => false) trivial ?_ ?_ (by rfl) (by simp) (fun k hk => ⟨(if_neg (by omega)).trans (if_neg (by omega)), rfl⟩)
 · simp [hG, List.getD_cons_zero, List.getD_cons_succ, -List.getD_eq_getElem?_getD, sbRow_zero]
 simp [hG, List.getD_cons_zero, List.getD_cons_succ, -List.getD_eq_getElem?_getD]
end Go.Proofs.YtchjjiedcpfniaaGreatDoor
