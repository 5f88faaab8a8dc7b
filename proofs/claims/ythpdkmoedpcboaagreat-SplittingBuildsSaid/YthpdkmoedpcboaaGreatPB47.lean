/- Parts of the proof: XJ. -/
import Derived.Test.YthpdkmoedpcboaaGreatPB15
import Derived.Test.YthpdkmoedpcboaaGreatPB46
namespace Go.Proofs.YthpdkmoedpcboaaGreat
set_option linter.unusedSimpArgs false
set_option linter.unusedVariables false
open Go Go.Lift Go.Proofs
def keptAt (L : List (List Int)) (f : List Int → Bool) (k : Nat) : List (List Int) := (L.take k).filter f
@[simp] theorem keptAt_zero {L : List (List Int)} {f : List Int → Bool} : keptAt L f 0 = [] := rfl
theorem keptAt_succ {L : List (List Int)} {f : List Int → Bool} {k : Nat} (h : k < L.length) : keptAt L f (k + 1) = if f (L.getD k []) then keptAt L f k ++ [L.getD k []] else keptAt L f k := by
  unfold keptAt
  rw [List.take_succ_eq_append_getElem h, List.filter_append]
  have : L.getD k [] = L[k] := by simp [List.getD, h]
  rw [this]
  cases hf : f L[k] <;> simp [hf]
theorem keptAt_len {L : List (List Int)} {f : List Int → Bool} {k : Nat} : (keptAt L f k).length ≤ L.length :=
  Nat.le_trans (List.length_filter_le _ _) (by rw [List.length_take]; omega)
theorem keptAt_all {L : List (List Int)} {f : List Int → Bool} {k : Nat} (h : L.length ≤ k) : keptAt L f k = L.filter f := by
  unfold keptAt; rw [List.take_of_length_le h]
def anyAt (g : Gr) (q : Edge → Bool) (k : Nat) : Bool := (g.edges.take k).any q
@[simp] theorem anyAt_zero {g : Gr} {q : Edge → Bool} : anyAt g q 0 = false := rfl
theorem anyAt_succ {g : Gr} {q : Edge → Bool} {k : Nat} (h : k < g.edges.length) : anyAt g q (k + 1) = (anyAt g q k || q (g.edges.getD k de)) := by
  unfold anyAt
  rw [List.take_succ_eq_append_getElem h, List.any_append]
  have : g.edges.getD k de = g.edges[k] := by simp [List.getD, h]
  rw [this]; simp
theorem anyAt_all {g : Gr} {q : Edge → Bool} {k : Nat} (h : g.edges.length ≤ k) : anyAt g q k = g.edges.any q := by
  unfold anyAt; rw [List.take_of_length_le h]
noncomputable def CL (g : Gr) : List (List Int) := if gcheck g = 0 then compsL g else []
theorem CL_lt {g : Gr} {k : Nat} (h : k < (CL g).length) : gcheck g = 0 := by
  unfold CL at h
  split at h
  · assumption
  · simp at h
theorem CL_ok {g : Gr} (h : gcheck g = 0) : CL g = compsL g := if_pos h
theorem CL_len {g : Gr} : (CL g).length ≤ 64 := by
  unfold CL
  split
  · rename_i h
    have := (gcheck_fit h).st
    have := compsAt_len (g := g) (k := g.n)
    unfold compsL
    unfold Gr.n at *
    omega
  · simp
theorem CL_row {g : Gr} {c : List Int} (h : c ∈ CL g) : c.length ≤ 64 := by
  have hg := CL_lt (k := 0) (List.length_pos_of_mem h)
  rw [CL_ok hg] at h
  obtain ⟨s, _, rfl⟩ := List.mem_map.1 h
  have := (gcheck_fit hg).st
  have := compAt_len (g := g) (s := s) (k := g.n)
  unfold compL
  unfold Gr.n at *
  omega
theorem CL_at {g : Gr} {k : Nat} : ((CL g).getD k []).length ≤ 64 := by
  by_cases h : k < (CL g).length
  · exact CL_row (getD_mem h)
  · simp [List.getD, List.getElem?_eq_none (Nat.le_of_not_lt h)]
theorem mutB_iff {g : Gr} (hf : Fit g) {s t : Nat} (hs : s < g.n) (ht : t < g.n) : mutB g s t = true ↔ Rch g s t ∧ Rch g t s := by
  unfold mutB
  rw [Bool.and_eq_true, reachL_at ht, reachL_at hs]
theorem mutB_comm {g : Gr} {s t : Nat} : mutB g s t = mutB g t s := by unfold mutB; exact Bool.and_comm _ _
theorem mutB_trans {g : Gr} (hf : Fit g) {s t u : Nat} (hs : s < g.n) (ht : t < g.n) (hu : u < g.n) (h : mutB g s t = true) (k : mutB g t u = true) : mutB g s u = true := by
  rw [mutB_iff hf] at h k ⊢ <;> first | assumption | exact ⟨h.1.trans k.1, k.2.trans h.2⟩
theorem compL_mut {g : Gr} (hf : Fit g) {s t : Nat} (hs : s < g.n) (ht : t < g.n) (h : mutB g s t = true) : compL g s = compL g t := by
  unfold compL compAt
  congr 1
  apply List.filter_congr
  intro u hu
  have hu' : u < g.n := by simpa using hu
  rw [Bool.eq_iff_iff]
  exact ⟨fun h2 => mutB_trans hf ht hs hu' (by rw [mutB_comm]; exact h) h2, fun h2 => mutB_trans hf hs ht hu' h h2⟩
theorem least_of {g : Gr} (hf : Fit g) {s : Nat} (hs : s < g.n) : ∃ m, m < g.n ∧ least g m = true ∧ mutB g m s = true := by
  obtain ⟨m, hm, hmn, hms⟩ := comp_nonneg (getD_mem (d := 0) (compL_pos hs))
  have hh := compAt_head g.n (compL_pos hs)
  refine ⟨m, hmn, (least_iff hmn).2 fun t ht hmt => ?_, by rw [mutB_comm]; exact hms⟩
  have h1 := hh _ (comp_mem.2 ⟨ht, mutB_trans hf hs hmn ht hms hmt⟩)
  have h2 : (compAt g s g.n).getD 0 0 = (m : Int) := hm
  omega
theorem comps_mem {g : Gr} {c : List Int} : c ∈ compsL g ↔ ∃ s, s < g.n ∧ least g s = true ∧ c = compL g s := by
  unfold compsL compsAt
  simp only [List.mem_map, List.mem_filter, List.mem_range]
  exact ⟨fun ⟨s, h, e⟩ => ⟨s, h.1, h.2, e.symm⟩, fun ⟨s, h1, h2, e⟩ => ⟨s, ⟨h1, h2⟩, e.symm⟩⟩
theorem comps_cover {g : Gr} (hf : Fit g) {s : Nat} (hs : s < g.n) : compL g s ∈ compsL g := by
  obtain ⟨m, hm, hl, hms⟩ := least_of hf hs
  exact comps_mem.2 ⟨m, hm, hl, (compL_mut hf hm hs hms).symm⟩
theorem refOf2_c (g : Gr) : PC Tryz.prog 105 [.agg 3 (grF g)] (.tup 2 (fun j => [rowsI (CL g), .int .i64 (if gcheck g = 0 then 0 else 1)].getD j .any)) := refOf_c g
theorem CL_filt {g : Gr} {f : List Int → Bool} : (if gcheck g = 0 then (compsL g).filter f else []) = (CL g).filter f := by
  unfold CL; split <;> simp
set_option maxRecDepth 100000 in
theorem refSinks_c (g : Gr) : PC Tryz.prog 62 [.agg 3 (grF g)] (.tup 2 (fun j => [rowsI (if gcheck g = 0 then (compsL g).filter (fun c => !leaves g c) else []), .int .i64 (if gcheck g = 0 then 0 else 1)].getD j .any)) := by
 refine zp Tryz.func62 fun G hG hR => ?_
 refine zs (zr ?_)
 refine zs (zL (zl 1 ?_))
 refine zc cal105 (refOf2_c g) ?_
 refine zl 5 ?_
 refine zN (zs (zr ?_))
 refine zs (zs (zr ?_))
 refine zb ?_
 refine awpS_loop (α := Nat) (fun i => ⟨[(1, .ptr (0, 0) 0 0), (4, rowsI (CL g)), (5, .int .i64 (if gcheck g = 0 then 0 else 1)), (6, .sl (1, 0) 0 (keptAt (CL g) (fun c => !leaves g c) i).length), (7, .int .i64 i)], [(0, .one (.arr 1 3 (fun _ => grF g))), (1, .one (.arr (keptAt (CL g) (fun c => !leaves g c) i).length 1 (fun j _ => ints ((keptAt (CL g) (fun c => !leaves g c) i).getD j []))))], 2⟩) (fun i => i ≤ (CL g).length) (fun i => (CL g).length - i) (0) (Nat.zero_le _) ?_ ?_
 · exact zi
 rintro i hi
 refine zs (zs (zr ?_))
 refine zy (fun hb19 => ?_) fun hb19 => ?_
 · have hkl := keptAt_len (L := CL g) (f := (fun c => !leaves g c)) (k := i)
   have hcl := CL_len (g := g)
   have hed := (gcheck_valid (CL_lt hb19)).1.ed
   refine zk (zs (zb (zs (zr ?_))))
   refine zs (zs (zr ?_))
   refine zb ?_
   refine awpS_loop (α := Nat) (fun k => ⟨[(1, .ptr (0, 0) 0 0), (4, rowsI (CL g)), (5, .int .i64 (if gcheck g = 0 then 0 else 1)), (6, .sl (1, 0) 0 (keptAt (CL g) (fun c => !leaves g c) i).length), (7, .int .i64 i), (8, .bool (anyAt g (fun x => hasI ((CL g).getD i []) x.frm && !hasI ((CL g).getD i []) x.to) k)), (9, .int .i64 k)], [(0, .one (.arr 1 3 (fun _ => grF g))), (1, .one (.arr (keptAt (CL g) (fun c => !leaves g c) i).length 1 (fun j _ => ints ((keptAt (CL g) (fun c => !leaves g c) i).getD j []))))], 2⟩) (fun k => k ≤ g.edges.length) (fun k => g.edges.length - k) (0) (Nat.zero_le _) ?_ ?_
   · exact zi
   rintro k hk
   refine zs (zs (zr ?_))
   refine zy (fun hb26 => ?_) fun hb26 => ?_
   · refine zk (zs (zb ?_))
     refine awpS_draw hR mixed [] ⟨[], [], []⟩ fun mu0 => ?_
     refine za [0, 1, 2, 3, 4, 5, 6, 7, 8, 9, 10, 11] [] 17 [11, 10, 9, 8, 7, 6, 5, 4, 3, 2, 1, 0] ?_
     refine awpA_only (fuel := 16) (i := 12) (by decide +kernel) ?_
     refine ze cal106 (has_c ((CL g).getD i []) (g.edges.getD k de).frm (Nat.le_trans CL_at (by omega))) ?_ (b := fun hg => by simp [-List.getD_eq_getElem?_getD] at hg; simp [hG, List.getD_cons_zero, List.getD_cons_succ, -List.getD_eq_getElem?_getD]; try exact ⟨Clo.le _ Clo_ints, rfl⟩)
     refine za [13, 14, 15, 16, 17, 18, 19, 20, 21, 22, 23] [] 5 [23, 22, 21, 20, 19, 18, 17, 16, 15, 14, 13, 12, 11, 10, 9, 8, 7, 6, 5, 4, 3, 2, 1, 0] ?_
     refine awpA_only (fuel := 4) (i := 24) (by decide +kernel) ?_
     refine ze cal106 (has_c ((CL g).getD i []) (g.edges.getD k de).to (Nat.le_trans CL_at (by omega))) ?_ (b := fun hg => by simp [-List.getD_eq_getElem?_getD] at hg; simp [hG, List.getD_cons_zero, List.getD_cons_succ, -List.getD_eq_getElem?_getD]; try exact ⟨Clo.le _ Clo_ints, rfl⟩)
     refine za [25, 26, 27, 28] [] 0 [28, 27, 26, 25, 24, 23, 22, 21, 20, 19, 18, 17, 16, 15, 14, 13, 12, 11, 10, 9, 8, 7, 6, 5, 4, 3, 2, 1, 0] ?_
     refine awpA_done (by decide +kernel) ?_
     refine zn (zbn (zr ?_))
     refine zn ?_
     refine round_end (k + 1) (by omega) (by omega) ?_
     exact zi (e := by simp [hG, List.getD_cons_zero, List.getD_cons_succ, -List.getD_eq_getElem?_getD]; rw [anyAt_succ hb26])
   have hq : anyAt g (fun x => hasI ((CL g).getD i []) x.frm && !hasI ((CL g).getD i []) x.to) k = leaves g ((CL g).getD i []) := anyAt_all (by omega)
   refine zx (ztx (zbx (zs (zr ?_))))
   refine zy (fun hb58 => ?_) fun hb58 => ?_
   · have hkt : keptAt (CL g) (fun c => !leaves g c) (i + 1) = keptAt (CL g) (fun c => !leaves g c) i ++ [(CL g).getD i []] := (by rw [keptAt_succ hb19, if_pos (by simp only [← hq, hb58]; rfl)])
     refine zr ?_
     refine zn (zbn (zr ?_))
     refine zn ?_
     refine round_end (i + 1) (by omega) (by omega) ?_
     exact zw (fun k => if k = 1 then 3 else k) (fun _ => false) (fun _ => false) (e := by simp [hG, List.getD_cons_zero, List.getD_cons_succ, -List.getD_eq_getElem?_getD]; rw [hkt]; simp) (h := by simp [hG, List.getD_cons_zero, List.getD_cons_succ, -List.getD_eq_getElem?_getD]; rw [hkt]; exact ⟨by simp, fun q hq => by rw [app_gen (f := ints) (by simpa using hq)]; exact Clo.le _ Clo_ints⟩)
   have hkt : keptAt (CL g) (fun c => !leaves g c) (i + 1) = keptAt (CL g) (fun c => !leaves g c) i := (by rw [keptAt_succ hb19, if_neg (by simp only [← hq, hb58]; exact Bool.false_ne_true)])
   refine zk (zn (zbn (zr ?_)))
   refine zn ?_
   refine round_end (i + 1) (by omega) (by omega) ?_
   exact zi (e := by simp [hG, List.getD_cons_zero, List.getD_cons_succ, -List.getD_eq_getElem?_getD]; rw [hkt]) (h := by simp [hG, List.getD_cons_zero, List.getD_cons_succ, -List.getD_eq_getElem?_getD]; rw [hkt]; exact ⟨Nat.le_refl _, fun _ _ => Clo.le _ Clo_ints⟩)
 obtain rfl : i = (CL g).length := (by omega)
 have hka : keptAt (CL g) (fun c => !leaves g c) (CL g).length = (CL g).filter (fun c => !leaves g c) := keptAt_all (Nat.le_refl _)
 refine zx (ztx (zbx (zs (zr ?_))))
 refine zt ?_
 refine RetOK_of ?_
 simp [hG, List.getD_cons_zero, List.getD_cons_succ, -List.getD_eq_getElem?_getD]
 rw [hka, CL_filt]; exact ⟨rfl, Nat.le_refl _, fun _ _ => Clo.le _ Clo_ints⟩
end Go.Proofs.YthpdkmoedpcboaaGreat
