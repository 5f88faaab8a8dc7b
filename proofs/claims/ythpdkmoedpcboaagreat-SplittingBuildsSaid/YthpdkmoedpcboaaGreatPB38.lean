/- Parts of the proof: XA NM. -/
import Derived.Test.YthpdkmoedpcboaaGreatPB11
import Derived.Test.YthpdkmoedpcboaaGreatPB15
import Derived.Test.YthpdkmoedpcboaaGreatPB37
namespace Go.Proofs.YthpdkmoedpcboaaGreat
set_option linter.unusedSimpArgs false
set_option linter.unusedVariables false
open Go Go.Lift Go.Proofs
theorem app_rest {o : List Int} {i j q : Nat} (hi : i ≤ o.length) : app (fun i _ => AVal.int IntKind.i64 (o.getD i 0)) i (fun k => vecF (fun x _ => AVal.int IntKind.i64 x) 0 o (j + 1 + k)) q 0 = .int .i64 ((o.take i ++ o.drop (j + 1)).getD q 0) := by
  unfold app
  have hl : (o.take i).length = i := by rw [List.length_take]; omega
  by_cases h : q < i
  · rw [if_pos h, List.getD_eq_getElem?_getD (l := o.take i ++ o.drop (j + 1)), List.getElem?_append_left (by omega), ← List.getD_eq_getElem?_getD, fst_at h]
  · rw [if_neg h, List.getD_eq_getElem?_getD (l := o.take i ++ o.drop (j + 1)), List.getElem?_append_right (by omega), hl, ← List.getD_eq_getElem?_getD, lst_at]
    rfl
set_option maxRecDepth 100000 in
set_option maxHeartbeats 1000000 in
theorem splitRf_c (g : Gr) (v : List Int) (m : Int) (s : Nat) (h24 : St24 g v m s) : PC Tryz.prog 52 [.agg 3 (grF g), ints v, .int .i64 m, .int .i64 (s : Nat)] (.tup 2 (fun j => [.agg 2 (splF ((chS g v m s).getD ds)), .bool (chS g v m s).isSome].getD j .any)) := by
 obtain ⟨hv, hl, hbx, hm, hs⟩ := h24
 have hol := St24.out ⟨hv, hl, hbx, hm, hs⟩
 have hwx := box_at hbx s
 refine zp Tryz.func52 fun G hG hR => ?_
 refine zs (zrP ?_)
 refine zs (zL (zlP 2 ?_))
 refine zcP cal85 (outRf_c g (s : Nat)) ?_
 refine zlP 5 ?_
 refine zN (zs (zs (zrP ?_)))
 refine zb ?_
 refine awpS_loop (α := Nat) (fun j => ⟨[(1, ints v), (2, .int .i64 m), (3, .int .i64 (s : Nat)), (4, .ptr (0, 0) 0 0), (8, .ptr (1, 0) 0 0), (10, ints (outR g (s : Nat))), (12, .int .i64 ((j + 1 : Nat) : Int))], [(0, .one (.arr 1 3 (fun _ => grF g))), (1, .one (.arr 1 2 (fun _ c => zsF none c)))], 2⟩) (fun j => j ≤ (outR g (s : Nat)).length ∧ chJ g v m (v.getD s 0) (outR g (s : Nat)) j = none) (fun j => (outR g (s : Nat)).length - j) (0) (⟨Nat.zero_le _, rfl⟩) ?_ ?_
 · exact ziP
 rintro j ⟨hj, hch⟩
 refine zs (zs (zrP ?_))
 refine zy (fun hb25 => ?_) fun hb25 => ?_
 · have hjl : j < (outR g (s : Nat)).length := (by omega)
   have hpx := psA_box (g := g) (p := (outR g (s : Nat))) hbx (j + 1)
   refine zk (zs (zb (zs (zrP ?_))))
   refine zb ?_
   refine awpS_loop (α := Nat) (fun i => ⟨[(1, ints v), (2, .int .i64 m), (3, .int .i64 (s : Nat)), (4, .ptr (0, 0) 0 0), (8, .ptr (1, 0) 0 0), (10, ints (outR g (s : Nat))), (12, .int .i64 ((j + 1 : Nat) : Int)), (13, .int .i64 (i : Nat))], [(0, .one (.arr 1 3 (fun _ => grF g))), (1, .one (.arr 1 2 (fun _ c => zsF none c)))], 2⟩) (fun i => i ≤ j + 1 ∧ ∀ k, k < i → okC g v m (v.getD s 0) (outR g (s : Nat)) k (j + 1) = false) (fun i => j + 1 - i) (0) (⟨Nat.zero_le _, fun k hk => absurd hk (Nat.not_lt_zero _)⟩) ?_ ?_
   · exact ziP
   rintro i ⟨hi, hn⟩
   refine zs (zs (zrP ?_))
   refine zy (fun hb30 => ?_) fun hb30 => ?_
   · have hij : i < j + 1 := (by omega)
     have hsg := segS_seg (g := g) (v := v) (o := (outR g (s : Nat))) (i := i) (j := j + 1) (by omega) (by omega)
     have hmn := psA_mono (g := g) (p := (outR g (s : Nat))) hbx (show i ≤ j + 1 by omega)
     have hpq := psA_box (g := g) (p := (outR g (s : Nat))) hbx i
     have hsS : segS g v (outR g (s : Nat)) i (j + 1) = psA g v (outR g (s : Nat)) (j + 1) - psA g v (outR g (s : Nat)) i := rfl
     refine zk (zs (zb (zs ?_)))
     refine awpS_draw hR mixed [] ⟨[], [], []⟩ fun mu0 => ?_
     refine zaP [0, 1, 2, 3, 4, 5] [] 2 [5, 4, 3, 2, 1, 0] ?_
     refine awpA_only (fuel := 1) (i := 6) (by decide +kernel) ?_
     refine zeP cal86 (sumP_c g v (((outR g (s : Nat)).drop i).take (j + 1 - i)) hv hl hbx (by simp; omega) (fun k hk => hol.2 k (List.mem_of_mem_drop (List.mem_of_mem_take hk)))) ?_ (b := fun hg => by simp [hG, List.getD_cons_zero, List.getD_cons_succ, -List.getD_eq_getElem?_getD]; exact ⟨by omega, fun k hk => (seg_at (by omega)).symm⟩)
     refine zaP [7] [] 0 [7, 6, 5, 4, 3, 2, 1, 0] ?_
     refine awpA_done (by decide +kernel) ?_
     refine zs (zs ?_)
     refine awpS_draw hR mixed [] ⟨[], [], []⟩ fun mu0 => ?_
     refine zaP [0, 1, 2, 3, 4, 5, 6, 7, 8, 9, 10, 11, 12, 13, 14, 15, 16, 17, 18, 19] [] 0 [19, 18, 17, 16, 15, 14, 13, 12, 11, 10, 9, 8, 7, 6, 5, 4, 3, 2, 1, 0] ?_
     refine awpA_done (by decide +kernel) ?_
     refine zy (fun hb59 => ?_) fun hb59 => ?_
     · have hno : okC g v m (v.getD s 0) (outR g (s : Nat)) i (j + 1) = false := decide_eq_false (by rw [← hsg]; omega)
       refine zx (zbx (zrP ?_))
       refine zn ?_
       refine round_end (i + 1) (⟨by omega, step_all hn hno⟩) (by omega) ?_
       exact ziP
     have hyes : okC g v m (v.getD s 0) (outR g (s : Nat)) i (j + 1) = true := decide_eq_true (by rw [← hsg]; omega)
     have hx : chS g v m s = some ⟨s, prts (outR g (s : Nat)) i (j + 1)⟩ := (by unfold chS; rw [chJ_hit hch hij hyes hn hjl]; rfl)
     refine zk (zs (zrP ?_))
     refine zs (zrP ?_)
     refine zs (zrP ?_)
     refine zt (zbt (ztt (zbt (zbt (ztt (zbt ?_))))))
     refine RetOK_of ?_
     simp [hG, List.getD_cons_zero, List.getD_cons_succ, -List.getD_eq_getElem?_getD, pureOp]
     rw [hx]; refine ⟨⟨rfl, rfl, Nat.le_refl _, fun i1 hi1 => ?_⟩, rfl⟩; have hi2 : i1 < 2 := hi1; rcases (show i1 = 0 ∨ i1 = 1 by omega) with rfl | rfl; (simp [prts, List.getD_cons_zero, List.getD_cons_succ, -List.getD_eq_getElem?_getD]; exact ⟨by omega, by omega, fun q hq => (seg_at (by omega)).symm⟩); (simp [prts, List.getD_cons_zero, List.getD_cons_succ, -List.getD_eq_getElem?_getD]; exact ⟨by omega, by omega, fun q hq => app_rest (by omega)⟩)
   obtain rfl : i = j + 1 := (by omega)
   have hch2 := chJ_next hch hn
   refine zx (ztx (zbx (zn (zbn (zrP ?_)))))
   refine zn ?_
   refine round_end (j + 1) (⟨by omega, hch2⟩) (by omega) ?_
   exact ziP
 obtain rfl : j = (outR g (s : Nat)).length := (by omega)
 have hx : chS g v m s = none := (by unfold chS; rw [hch]; rfl)
 refine zx (ztx (zbx (zs (zrP ?_))))
 refine zt ?_
 refine RetOK_of ?_
 simp [hG, List.getD_cons_zero, List.getD_cons_succ, -List.getD_eq_getElem?_getD, pureOp]
 rw [hx]; exact ⟨⟨rfl, rfl⟩, rfl⟩
set_option maxRecDepth 100000 in
set_option maxHeartbeats 1000000 in
theorem chooseRf_c (g : Gr) (v : List Int) (m : Int) : PC Tryz.prog 22 [.agg 3 (grF g), ints v, .int .i64 m] (.tup 2 (fun j => [spls (cLs g v m), .int .i64 (cNo g v m)].getD j .any)) := by
 refine zp Tryz.func22 fun G hG hR => ?_
 refine zs (zrP ?_)
 refine zs (zs (zL (zlP 3 ?_)))
 refine zcP cal51 (weighted_c g v m) ?_
 refine zlP 1 ?_
 refine zN (zs (zrP ?_))
 refine zy (fun hb18 => ?_) fun hb18 => ?_
 · refine zs (zrP ?_)
   refine zt ?_
   refine RetOK_of ?_
   simp [hG, List.getD_cons_zero, List.getD_cons_succ, -List.getD_eq_getElem?_getD, pureOp]
   obtain ⟨e1, e2⟩ := cNo_1 hb18; rw [e1, e2]; exact ⟨rfl, rfl⟩
 obtain ⟨hv, hm, hl, hbx⟩ := vecN_zero (eigN_zero (baseN_zero hb18).1).1
 have hst := (gcheck_valid hv).1.st
 refine zk (zs (zrP ?_))
 refine zs (zs (zrP ?_))
 refine zb ?_
 refine awpS_loop (α := Nat) (fun s => ⟨[(1, ints v), (2, .int .i64 m), (3, .ptr (0, 0) 0 0), (9, .sl (1, 0) 0 (cRd g v m s).length), (10, .int .i64 (s : Nat))], [(0, .one (.arr 1 3 (fun _ => grF g))), (1, .one (.arr (cRd g v m s).length 2 (fun i j => splF ((cRd g v m s).getD i ds) j)))], 2⟩) (fun s => s ≤ g.states.toNat) (fun s => g.states.toNat - s) (0) (Nat.zero_le _) ?_ ?_
 · exact zi (e := by rw [cRd_zero]; simp [hG, List.getD_cons_zero, List.getD_cons_succ, -List.getD_eq_getElem?_getD]) (h := by rw [cRd_zero]; simp [hG, List.getD_cons_zero, List.getD_cons_succ, -List.getD_eq_getElem?_getD])
 rintro s hs
 refine zs (zs (zrP ?_))
 refine zy (fun hb24 => ?_) fun hb24 => ?_
 · have hcl := cRd_len (g := g) (v := v) (m := m) (s := s)
   refine zk (zs (zb (zs (zs (zrP ?_)))))
   refine zy (fun hb31 => ?_) fun hb31 => ?_
   · have hcx := cRd_light (g := g) (m := m) hb31
     refine zx (zbx (zrP ?_))
     refine zn ?_
     refine round_end (s + 1) (by omega) (by omega) ?_
     exact zi (e := by rw [hcx]; simp [hG, List.getD_cons_zero, List.getD_cons_succ, -List.getD_eq_getElem?_getD]) (h := by rw [hcx]; simp [hG, List.getD_cons_zero, List.getD_cons_succ, -List.getD_eq_getElem?_getD])
   refine zk (zs (zL (zlP 4 ?_)))
   refine zcP cal52 (splitRf_c g v m s ⟨hv, hl, hbx, hm, by omega⟩) ?_
   refine zlP 6 ?_
   refine zN (zs (zrP ?_))
   refine zy (fun hb40 => ?_) fun hb40 => ?_
   · obtain ⟨x, hx⟩ := Option.isSome_iff_exists.1 hb40
     have hcx := cRd_yes (by omega) hx
     rw [hx]
     simp only [Option.getD_some]
     refine zrP ?_
     refine zn (zbn (zrP ?_))
     refine zn ?_
     refine round_end (s + 1) (by omega) (by omega) ?_
     exact zw (fun k => if k = 1 then 4 else k) (fun _ => false) (fun _ => false) (e := by rw [hcx]; simp [hG, List.getD_cons_zero, List.getD_cons_succ, -List.getD_eq_getElem?_getD]) (h := by rw [hcx]; simp [hG, List.getD_cons_zero, List.getD_cons_succ, -List.getD_eq_getElem?_getD]; exact fun i hi => ⟨app_spl (j := 0) hi rfl, by rw [app_spl (j := 1) hi rfl]; exact Clo.le _ Clo_rowsI⟩)
   have hx : chS g v m s = none := (by simpa using hb40)
   have hcx := cRd_no (by omega) hx
   refine zk (zn (zbn (zrP ?_)))
   refine zn ?_
   refine round_end (s + 1) (by omega) (by omega) ?_
   exact zi (e := by rw [hcx]; simp [hG, List.getD_cons_zero, List.getD_cons_succ, -List.getD_eq_getElem?_getD]) (h := by rw [hcx]; simp [hG, List.getD_cons_zero, List.getD_cons_succ, -List.getD_eq_getElem?_getD])
 obtain rfl : s = g.states.toNat := (by omega)
 refine zx (ztx (zbx (zs (zs (zrP ?_)))))
 refine zy (fun hb47 => ?_) fun hb47 => ?_
 · refine zs (zrP ?_)
   refine zt ?_
   refine RetOK_of ?_
   simp [hG, List.getD_cons_zero, List.getD_cons_succ, -List.getD_eq_getElem?_getD, pureOp]
   obtain ⟨e1, e2⟩ := cNo_2 hb18 hb47; exact ⟨e2, e1.symm⟩
 refine zk (zs (zrP ?_))
 refine zt ?_
 refine RetOK_of ?_
 simp [hG, List.getD_cons_zero, List.getD_cons_succ, -List.getD_eq_getElem?_getD, pureOp]
 obtain ⟨e1, e2⟩ := cNo_3 hb18 hb47; rw [e1, e2]; exact ⟨⟨rfl, Nat.le_refl _, fun i hi => ⟨rfl, Clo.le _ Clo_rowsI⟩⟩, rfl⟩
end Go.Proofs.YthpdkmoedpcboaaGreat
namespace Go.Proofs.YthpdkmoedpcboaaGreat
set_option linter.unusedSimpArgs false
set_option linter.unusedVariables false
open Go Go.Lift Go.Proofs
def nxC (g : Gr) (v : List Int) (m : Int) (s : Nat) : Int := min (v.getD s 0) (sumV g v s / m)
def nxtV (g : Gr) (v : List Int) (m : Int) : List Int := (List.range v.length).map (nxC g v m)
def gIt (g : Gr) (m : Int) (v : List Int) : Nat → List Int
  | 0 => v
  | k + 1 => nxtV g (gIt g m v k) m
def greV (g : Gr) (v : List Int) (m : Int) : List Int := gIt g m v (v.sum.toNat + 1)
theorem gIt_zero {g : Gr} {m : Int} {v : List Int} : gIt g m v 0 = v := rfl
theorem gIt_succ {g : Gr} {m : Int} {v : List Int} {k : Nat} : gIt g m v (k + 1) = nxtV g (gIt g m v k) m := rfl
theorem nxtV_len {g : Gr} {v : List Int} {m : Int} : (nxtV g v m).length = v.length := by simp [nxtV]
theorem nxtV_at {g : Gr} {v : List Int} {m : Int} {s : Nat} (h : s < v.length) : (nxtV g v m).getD s 0 = nxC g v m s := by simp [nxtV, List.getD, h]
theorem nxC_box {g : Gr} {v : List Int} {m : Int} {s : Nat} (hm : 1 ≤ m) (hb : BoxV v) : 0 ≤ nxC g v m s ∧ nxC g v m s ≤ v.getD s 0 := by
  have h1 := box_at hb s
  have h2 := (sumA_box hb (g := g) (s := s) g.edges.length).1
  have h3 : 0 ≤ sumV g v s / m := Int.ediv_nonneg h2 (by omega)
  unfold nxC
  omega
theorem nxtV_box {g : Gr} {v : List Int} {m : Int} (hm : 1 ≤ m) (hb : BoxV v) : BoxV (nxtV g v m) := fun n hn => by
  obtain ⟨s, hs, rfl⟩ := List.mem_map.1 hn
  have h1 := box_at hb s
  have h2 := nxC_box (g := g) (s := s) hm hb
  omega
theorem gIt_box {g : Gr} {v : List Int} {m : Int} (hm : 1 ≤ m) (hb : BoxV v) : ∀ k, BoxV (gIt g m v k) ∧ (gIt g m v k).length = v.length
  | 0 => ⟨hb, rfl⟩
  | k + 1 => by
    obtain ⟨h1, h2⟩ := gIt_box hm hb k
    exact ⟨nxtV_box hm h1, by rw [gIt_succ, nxtV_len, h2]⟩
theorem ext_getD {a b : List Int} (hl : a.length = b.length) (h : ∀ s, s < b.length → a.getD s 0 = b.getD s 0) : a = b := by
  refine List.ext_getElem hl fun s h1 h2 => ?_
  have := h s h2
  rwa [List.getD_eq_getElem?_getD, List.getD_eq_getElem?_getD, List.getElem?_eq_getElem h1, List.getElem?_eq_getElem h2] at this
theorem sum_lower : ∀ {a b : List Int}, a.length = b.length → (∀ s, s < b.length → a.getD s 0 ≤ b.getD s 0) → a.sum ≤ b.sum ∧ (a ≠ b → a.sum < b.sum)
  | [], [], _, _ => ⟨Int.le_refl _, fun h => absurd rfl h⟩
  | x :: a, y :: b, hl, h => by
    have h0 := h 0 (by simp)
    obtain ⟨h1, h2⟩ := sum_lower (a := a) (b := b) (by simpa using hl) fun s hs => by simpa using h (s + 1) (by simpa using hs)
    simp only [List.getD_cons_zero] at h0
    simp only [List.sum_cons]
    refine ⟨by omega, fun hne => ?_⟩
    by_cases e : a = b
    · have : x ≠ y := fun e2 => hne (by rw [e, e2])
      omega
    · have := h2 e
      omega
theorem sum_pos {a : List Int} (h : ∀ n ∈ a, 0 ≤ n) : 0 ≤ a.sum := by
  induction a with
  | nil => exact Int.le_refl _
  | cons x a ih =>
    have h1 := h x (List.mem_cons_self ..)
    have h2 := ih fun n hn => h n (List.mem_cons_of_mem _ hn)
    simp only [List.sum_cons]; omega
theorem nxtV_lower {g : Gr} {v : List Int} {m : Int} (hm : 1 ≤ m) (hb : BoxV v) : (nxtV g v m).sum ≤ v.sum ∧ (nxtV g v m ≠ v → (nxtV g v m).sum < v.sum) :=
  sum_lower nxtV_len fun s hs => by rw [nxtV_at hs]; exact (nxC_box hm hb).2
theorem gIt_meas {g : Gr} {v : List Int} {m : Int} (hm : 1 ≤ m) (hb : BoxV v) {k : Nat} (h : gIt g m v (k + 1) ≠ gIt g m v k) : (gIt g m v (k + 1)).sum.toNat < (gIt g m v k).sum.toNat := by
  have h1 := (nxtV_lower (g := g) hm (gIt_box hm hb (g := g) k).1).2 h
  have h2 := sum_pos fun n hn => ((gIt_box hm hb (g := g) (k + 1)).1 n hn).1
  show (nxtV g (gIt g m v k) m).sum.toNat < _
  have h3 : 0 ≤ (nxtV g (gIt g m v k) m).sum := h2
  omega
theorem gIt_stay {g : Gr} {v : List Int} {m : Int} {k : Nat} (h : gIt g m v (k + 1) = gIt g m v k) : ∀ d, gIt g m v (k + d) = gIt g m v k
  | 0 => rfl
  | d + 1 => by
    show nxtV g (gIt g m v (k + d)) m = _
    rw [gIt_stay h d]; exact h
theorem gIt_count {g : Gr} {v : List Int} {m : Int} (hm : 1 ≤ m) (hb : BoxV v) : ∀ k, (∀ j, j < k → gIt g m v (j + 1) ≠ gIt g m v j) → (gIt g m v k).sum.toNat + k ≤ v.sum.toNat
  | 0, _ => Nat.le_refl _
  | k + 1, h => by
    have h1 := gIt_count hm hb k fun j hj => h j (by omega)
    have h2 := gIt_meas hm hb (h k (by omega))
    omega
theorem gre_stop {g : Gr} {v : List Int} {m : Int} (hm : 1 ≤ m) (hb : BoxV v) {k : Nat} (hn : ∀ j, j < k → gIt g m v (j + 1) ≠ gIt g m v j) (h : gIt g m v (k + 1) = gIt g m v k) : greV g v m = gIt g m v k := by
  have h1 := gIt_count hm hb k hn
  have h2 := gIt_stay h (v.sum.toNat + 1 - k)
  rw [show k + (v.sum.toNat + 1 - k) = v.sum.toNat + 1 by omega] at h2
  exact h2
theorem gre_box {g : Gr} {v : List Int} {m : Int} (hm : 1 ≤ m) (hb : BoxV v) : BoxV (greV g v m) ∧ (greV g v m).length = v.length := gIt_box hm hb _
theorem gIt_lower {g : Gr} {v : List Int} {m : Int} (hm : 1 ≤ m) (hb : BoxV v) : ∀ k, (gIt g m v k).sum ≤ v.sum
  | 0 => Int.le_refl _
  | k + 1 => Int.le_trans (nxtV_lower hm (gIt_box hm hb (g := g) k).1).1 (gIt_lower hm hb k)
theorem gre_lower {g : Gr} {v : List Int} {m : Int} (hm : 1 ≤ m) (hb : BoxV v) : (greV g v m).sum ≤ v.sum := gIt_lower hm hb _
def chG (g : Gr) (v : List Int) (m : Int) (s : Nat) : Bool := (List.range s).any fun q => !decide (nxC g v m q = v.getD q 0)
theorem chG_zero {g : Gr} {v : List Int} {m : Int} : chG g v m 0 = false := rfl
theorem chG_succ {g : Gr} {v : List Int} {m : Int} {s : Nat} : chG g v m (s + 1) = (chG g v m s || !decide (nxC g v m s = v.getD s 0)) := by simp [chG, List.range_succ, List.any_append]
theorem chG_yes {g : Gr} {v : List Int} {m : Int} {s : Nat} (h : v.getD s 0 > sumV g v s / m) : nxC g v m s = sumV g v s / m ∧ chG g v m (s + 1) = true := by
  have e : nxC g v m s = sumV g v s / m := by unfold nxC; omega
  exact ⟨e, by rw [chG_succ, e, decide_eq_false (by omega)]; exact Bool.or_true _⟩
theorem chG_no {g : Gr} {v : List Int} {m : Int} {s : Nat} (h : ¬ v.getD s 0 > sumV g v s / m) : nxC g v m s = v.getD s 0 ∧ chG g v m (s + 1) = chG g v m s := by
  have e : nxC g v m s = v.getD s 0 := by unfold nxC; omega
  exact ⟨e, by rw [chG_succ, e, decide_eq_true rfl]; exact Bool.or_false _⟩
theorem chG_same {g : Gr} {v : List Int} {m : Int} (h : chG g v m v.length = false) : nxtV g v m = v :=
  ext_getD nxtV_len fun s hs => by
    rw [nxtV_at hs]
    have := List.any_eq_false.1 h s (List.mem_range.2 hs)
    simpa using this
theorem chG_diff {g : Gr} {v : List Int} {m : Int} (h : chG g v m v.length = true) : nxtV g v m ≠ v := fun e => by
  obtain ⟨s, hs, h2⟩ := List.any_eq_true.1 h
  have h3 := nxtV_at (g := g) (m := m) (List.mem_range.1 hs)
  rw [e] at h3
  rw [← h3] at h2
  simp at h2
def decV (v : List Int) (s : Nat) : List Int := v.set s (v.getD s 0 - 1)
def lwP (g : Gr) (m : Int) (v : List Int) (s : Nat) : Bool := decide (v.getD s 0 ≠ 0) && !((greV g (decV v s) m).all fun n => decide (n = 0))
theorem lwP_yes {g : Gr} {m : Int} {v : List Int} {s : Nat} (h0 : v.getD s 0 ≠ 0) (h1 : ((greV g (decV v s) m).all fun n => decide (n = 0)) = false) : lwP g m v s = true := by unfold lwP; rw [h1, decide_eq_true h0]; rfl
theorem lwP_no {g : Gr} {m : Int} {v : List Int} {s : Nat} (h : v.getD s 0 = 0 ∨ ((greV g (decV v s) m).all fun n => decide (n = 0)) = true) : lwP g m v s = false := by
  unfold lwP
  rcases h with h | h
  · rw [decide_eq_false (fun h2 => h2 h)]; rfl
  · rw [h]; exact Bool.and_false _
def lowI (g : Gr) (m : Int) (v : List Int) : Option Nat := (List.range v.length).find? (lwP g m v)
def lstI (g : Gr) (m : Int) (v : List Int) : Nat → List Int
  | 0 => v
  | k + 1 => match lowI g m (lstI g m v k) with
    | some s => greV g (decV (lstI g m v k) s) m
    | none => lstI g m v k
def lstV (g : Gr) (m : Int) (v : List Int) : List Int := lstI g m v (v.sum.toNat + 1)
theorem lstI_none {g : Gr} {m : Int} {v : List Int} {k : Nat} (h : lowI g m (lstI g m v k) = none) : lstI g m v (k + 1) = lstI g m v k := by
  show (match lowI g m (lstI g m v k) with | some s => _ | none => _) = _
  rw [h]
theorem lstI_some {g : Gr} {m : Int} {v : List Int} {k s : Nat} (h : lowI g m (lstI g m v k) = some s) : lstI g m v (k + 1) = greV g (decV (lstI g m v k) s) m := by
  show (match lowI g m (lstI g m v k) with | some s => _ | none => _) = _
  rw [h]
theorem decV_len {v : List Int} {s : Nat} : (decV v s).length = v.length := by simp [decV]
theorem decV_at {v : List Int} {s k : Nat} (hk : k < v.length) : (decV v s).getD k 0 = if k = s then v.getD s 0 - 1 else v.getD k 0 := by
  unfold decV
  rw [List.getD_eq_getElem?_getD, List.getElem?_set]
  by_cases h : k = s
  · subst h; simp [hk]
  · rw [if_neg h, if_neg (Ne.symm h), List.getD_eq_getElem?_getD]
theorem decV_box {v : List Int} {s : Nat} (hb : BoxV v) (hs : v.getD s 0 ≠ 0) : BoxV (decV v s) := fun n hn => by
  have h1 := box_at hb s
  rcases List.mem_or_eq_of_mem_set hn with h | rfl
  · exact hb n h
  · omega
theorem decV_sum : ∀ {v : List Int} {s : Nat}, s < v.length → (decV v s).sum = v.sum - 1
  | [], s, h => absurd h (Nat.not_lt_zero _)
  | x :: v, 0, _ => by simp [decV]; omega
  | x :: v, s + 1, h => by
    have := decV_sum (v := v) (s := s) (by simpa using h)
    simp only [decV, List.set_cons_succ, List.getD_cons_succ, List.sum_cons] at this ⊢
    omega
theorem lowI_some {g : Gr} {m : Int} {v : List Int} {s : Nat} (hs : s < v.length) (h0 : v.getD s 0 ≠ 0) (h1 : ((greV g (decV v s) m).all fun n => decide (n = 0)) = false) (hn : ∀ k, k < s → v.getD k 0 = 0 ∨ ((greV g (decV v k) m).all fun n => decide (n = 0)) = true) : lowI g m v = some s := by
  unfold lowI
  rw [List.find?_eq_some_iff_getElem]
  refine ⟨lwP_yes h0 h1, s, by simpa using hs, by simp, fun k hk => ?_⟩
  rw [List.getElem_range, lwP_no (hn k hk)]; rfl
theorem lowI_none {g : Gr} {m : Int} {v : List Int} (hn : ∀ k, k < v.length → v.getD k 0 = 0 ∨ ((greV g (decV v k) m).all fun n => decide (n = 0)) = true) : lowI g m v = none := by
  unfold lowI
  rw [List.find?_eq_none]
  intro k hk
  rw [lwP_no (hn k (List.mem_range.1 hk))]; simp
theorem lowI_in {g : Gr} {m : Int} {v : List Int} {s : Nat} (h : lowI g m v = some s) : s < v.length ∧ v.getD s 0 ≠ 0 ∧ ((greV g (decV v s) m).all fun n => decide (n = 0)) = false := by
  unfold lowI at h
  have h1 := List.find?_some h
  have h2 := List.mem_of_find?_eq_some h
  unfold lwP at h1
  simp only [Bool.and_eq_true, decide_eq_true_eq, Bool.not_eq_true'] at h1
  exact ⟨List.mem_range.1 h2, h1.1, h1.2⟩
theorem low_sum {g : Gr} {m : Int} {v : List Int} {s : Nat} (hm : 1 ≤ m) (hb : BoxV v) (h : lowI g m v = some s) : BoxV (greV g (decV v s) m) ∧ (greV g (decV v s) m).length = v.length ∧ (greV g (decV v s) m).sum.toNat < v.sum.toNat := by
  obtain ⟨h1, h2, _⟩ := lowI_in h
  have h3 := decV_box hb h2
  have h4 := gre_box (g := g) hm h3
  have h5 := gre_lower (g := g) hm h3
  have h6 := decV_sum h1
  have h7 := sum_pos fun n hn => (h4.1 n hn).1
  exact ⟨h4.1, h4.2.trans decV_len, by omega⟩
theorem lst_box {g : Gr} {m : Int} {v : List Int} (hm : 1 ≤ m) (hb : BoxV v) : ∀ k, BoxV (lstI g m v k) ∧ (lstI g m v k).length = v.length
  | 0 => ⟨hb, rfl⟩
  | k + 1 => by
    obtain ⟨h1, h2⟩ := lst_box (g := g) hm hb k
    cases h : lowI g m (lstI g m v k) with
    | none => rw [lstI_none h]; exact ⟨h1, h2⟩
    | some s => rw [lstI_some h]; have h3 := low_sum hm h1 h; exact ⟨h3.1, h3.2.1.trans h2⟩
theorem lst_stay {g : Gr} {m : Int} {v : List Int} {k : Nat} (h : lowI g m (lstI g m v k) = none) : ∀ d, lstI g m v (k + d) = lstI g m v k
  | 0 => rfl
  | d + 1 => by
    have h1 := lst_stay h d
    have h2 : lowI g m (lstI g m v (k + d)) = none := by rw [h1]; exact h
    rw [← Nat.add_assoc, lstI_none h2, h1]
theorem lst_count {g : Gr} {m : Int} {v : List Int} (hm : 1 ≤ m) (hb : BoxV v) : ∀ k, (∀ j, j < k → lowI g m (lstI g m v j) ≠ none) → (lstI g m v k).sum.toNat + k ≤ v.sum.toNat
  | 0, _ => Nat.le_refl _
  | k + 1, h => by
    have h1 := lst_count hm hb k fun j hj => h j (by omega)
    cases h2 : lowI g m (lstI g m v k) with
    | none => exact absurd h2 (h k (by omega))
    | some s =>
      have h3 := (low_sum hm (lst_box (g := g) hm hb k).1 h2).2.2
      rw [lstI_some h2]
      omega
theorem lst_stop {g : Gr} {m : Int} {v : List Int} (hm : 1 ≤ m) (hb : BoxV v) {k : Nat} (hn : ∀ j, j < k → lowI g m (lstI g m v j) ≠ none) (h : lowI g m (lstI g m v k) = none) : lstV g m v = lstI g m v k := by
  have h1 := lst_count hm hb k hn
  have h2 := lst_stay h (v.sum.toNat + 1 - k)
  rw [show k + (v.sum.toNat + 1 - k) = v.sum.toNat + 1 by omega] at h2
  exact h2
end Go.Proofs.YthpdkmoedpcboaaGreat
