/- Parts of the proof: UI. -/
import Derived.Test.YtchjjiedcpfniaaGreatDoorK16
import Derived.Test.YtchjjiedcpfniaaGreatDoorK38
namespace Go.Proofs.YtchjjiedcpfniaaGreatDoor
set_option linter.unusedSimpArgs false
set_option linter.unusedVariables false
open Go Go.Lift Go.Proofs
theorem build_over {g : Gr} (hv : gcheck g = 0) (h0 : 0 < g.states) {i : Nat} (hi : i ≤ 64) (hil : i < (sbAt g i).all.length) (h : 64 < ((sbRow g i (sbAt g i) g.labels.toNat).all.length : Int) ∨ 1024 < ((sbRow g i (sbAt g i) g.labels.toNat).es.length : Int)) :
    buildN g = 4 ∧ buildG g = ⟨0, 0, []⟩ ∧ buildS g = [] := by
  have h1 := sb_next hi hil (Nat.le_refl _) (by unfold sbOver; omega)
  have h2 := buildN_over hv h0 h1
  refine ⟨h2, ?_, ?_⟩
  · unfold buildG; rw [if_pos (by rw [h2]; decide)]
  · unfold buildS; rw [if_pos (.inl (by rw [h2]; decide))]
theorem build_fine {g : Gr} (hv : gcheck g = 0) (h0 : 0 < g.states) {i : Nat} (hi : i ≤ 64) (hL : (sbAt g i).all.length ≤ i) (ha : (sbAt g i).all.length ≤ 64) (he : (sbAt g i).es.length ≤ 1024) :
    buildN g = 0 ∧ buildG g = ⟨g.labels, (sbAt g i).all.length, (sbAt g i).es⟩ ∧ buildS g = (sbAt g i).all := by
  have h1 := sb_final (show i ≤ 65 by omega) hL
  have h2 := buildN_ok hv (fun h => by have := h.2; unfold sbOver at this; rw [h1] at this; omega)
  refine ⟨h2, ?_, ?_⟩
  · unfold buildG; rw [if_neg (by rw [h2]; decide), if_neg (by omega), h1]
  · unfold buildS; rw [if_neg (by rw [h2]; omega), h1]
theorem build_step {g : Gr} {i : Nat} (hil : i < (sbAt g i).all.length) (ha : (sbAt g i).all.length ≤ 64) (h : ((sbRow g i (sbAt g i) g.labels.toNat).all.length : Int) ≤ 64 ∧ ((sbRow g i (sbAt g i) g.labels.toNat).es.length : Int) ≤ 1024) :
    i + 1 ≤ 64 ∧ i + 1 ≤ (sbAt g (i + 1)).all.length ∧ (sbAt g (i + 1)).all.length ≤ 64 ∧ (sbAt g (i + 1)).es.length ≤ 1024 := by
  have h1 := (sbAt_pre (g := g) (i := i)).all.length_le
  rw [sbAt_succ hil] at h1 ⊢
  omega
theorem build_bad {g : Gr} (h : ¬ gcheck g = 0) : buildN g = 1 ∧ buildG g = ⟨0, 0, []⟩ ∧ buildS g = [] := by
  have h2 : buildN g = 1 := if_pos h
  refine ⟨h2, ?_, ?_⟩
  · unfold buildG; rw [if_pos (by rw [h2]; decide)]
  · unfold buildS; rw [if_pos (.inl (by rw [h2]; decide))]
theorem build_none {g : Gr} (hv : gcheck g = 0) (h : g.states = 0) : buildN g = 0 ∧ buildG g = ⟨g.labels, 0, []⟩ ∧ buildS g = [] := by
  have h2 : buildN g = 0 := buildN_ok hv (fun k => by have := k.1; omega)
  refine ⟨h2, ?_, ?_⟩
  · unfold buildG; rw [if_neg (by rw [h2]; decide), if_pos h]
  · unfold buildS; rw [if_pos (.inr h)]
set_option maxRecDepth 100000 in
theorem subBuild_c (g : Gr) (hv : gcheck g = 0) (h0 : 0 < g.states) : PC Tryz.prog 71 [.agg 3 (grF g), ints (iotaL g.states.toNat)] (.tup 3 (fun j => [.agg 3 (grF (buildG g)), rowsI (buildS g), .int .i64 (buildN g)].getD j .any)) := by
 have hst := (gcheck_valid hv).1.st
 have hAl := SetOK.all (g := g)
 refine zp Tryz.func71 fun G hG hR => ?_
 refine zs (zrP ?_)
 refine zs (zL (zlP 2 ?_))
 refine zcP cal102 (key_c (iotaL g.states.toNat) (hAl.small hv) (by have := hAl.len hv; omega)) ?_
 refine zlP 4 ?_
 refine zN (zs (zL (zlP 1 ?_)))
 refine zfP cal103 [] (cloneI_c (iotaL g.states.toNat) (by have := hAl.len hv; omega)) (fun x hI hno => ?_)
 refine zlP 3 ?_
 refine zN (zs (zrP ?_))
 refine zs (zs (zrP ?_))
 refine zb ?_
 refine awpS_loop (α := Nat) (fun i => ⟨[(2, .ptr (0, 0) 0 0), (4, .ptr (1, 0) 0 0), (7, .ptr (3, 0) 0 0), (8, .ptr (4, 0) 0 0), (9, .ptr (5, 0) 0 0), (10, .ptr (6, 0) 0 0)], [(0, .one (.arr 1 3 (fun _ => grF g))), (1, .one (.arr 1 3 (fun _ j => [.int .i64 0, .int .i64 0, .nils].getD j .any))), (3, .one (.arr 1 1 (fun _ _ => .map (2, 0)))), (4, .one (.arr 1 1 (fun _ _ => .sl (7, 0) 0 ((sbAt g i)).all.length))), (5, .one (.arr 1 3 (fun _ j => [.int .i64 g.labels, .int .i64 0, .sl (8, 0) 0 ((sbAt g i)).es.length].getD j .any))), (6, .one (.arr 1 1 (fun _ _ => .int .i64 (i : Nat)))), (2, .one (.mp (mpE strK intV (numK 0 ((sbAt g i)).all)))), (7, .one (.arr ((sbAt g i)).all.length 1 (fun p _ => ints (((sbAt g i)).all.getD p [])))), (8, .one (.arr ((sbAt g i)).es.length 3 (fun q j => edgeF (((sbAt g i)).es.getD q de) j)))], 9⟩) (fun i => i ≤ 64 ∧ i ≤ (sbAt g i).all.length ∧ (sbAt g i).all.length ≤ 64 ∧ (sbAt g i).es.length ≤ 1024) (fun i => 65 - i) (0) (⟨by omega, Nat.zero_le _, by show 1 ≤ 64; omega, by show 0 ≤ 1024; omega⟩) ?_ ?_
 · exact zwP (fun k => if k = 4 then 6 else if k = 5 then 7 else if k = 6 then 8 else if k = 7 then 5 else k) (fun k => k == 4) (fun k => k == 8) (h := by rw [show sbAt g 0 = ⟨[iotaL g.states.toNat], []⟩ from rfl]; simp [hG, List.getD_cons_zero, List.getD_cons_succ, -List.getD_eq_getElem?_getD]; exact HLe_mpE (ek := strK) (ev := intV) (l := [(keyS (iotaL g.states.toNat), (0 : Int))]) (fun _ => trivial) (fun _ => trivial) rfl)
 rintro i ⟨hi64, hil0, hal, hel⟩
 refine zs (zs (zrP ?_))
 refine zy (fun hb24 => ?_) fun hb24 => ?_
 · have hil : i < (sbAt g i).all.length := (by omega)
   have hE := sbAt_succ hil
   refine zk (zs (zb (zs ?_)))
   refine awpS_cut (α := Unit) (fun _u => ⟨[(2, .ptr (0, 0) 0 0), (4, .ptr (1, 0) 0 0), (7, .ptr (3, 0) 0 0), (8, .ptr (4, 0) 0 0), (9, .ptr (5, 0) 0 0), (10, .ptr (6, 0) 0 0)], [(0, .one (.arr 1 3 (fun _ => grF g))), (1, .one (.arr 1 3 (fun _ j => [.int .i64 0, .int .i64 0, .nils].getD j .any))), (3, .one (.arr 1 1 (fun _ _ => .map (2, 0)))), (4, .one (.arr 1 1 (fun _ _ => .sl (7, 0) 0 ((sbRow g i (sbAt g i) g.labels.toNat)).all.length))), (5, .one (.arr 1 3 (fun _ j => [.int .i64 g.labels, .int .i64 0, .sl (8, 0) 0 ((sbRow g i (sbAt g i) g.labels.toNat)).es.length].getD j .any))), (6, .one (.arr 1 1 (fun _ _ => .int .i64 (i : Nat)))), (2, .one (.mp (mpE strK intV (numK 0 ((sbRow g i (sbAt g i) g.labels.toNat)).all)))), (7, .one (.arr ((sbRow g i (sbAt g i) g.labels.toNat)).all.length 1 (fun p _ => ints (((sbRow g i (sbAt g i) g.labels.toNat)).all.getD p [])))), (8, .one (.arr ((sbRow g i (sbAt g i) g.labels.toNat)).es.length 3 (fun q j => edgeF (((sbRow g i (sbAt g i) g.labels.toNat)).es.getD q de) j)))], 9⟩) (fun _u => True) ?_ ?_ (by simp)
   · refine awpS_draw hR mixed [] ⟨[6], [], []⟩ fun mu0 => ?_
     refine zaP [0, 5] [] 5 [5, 0] ?_
     refine awpA_two (fuel := 4) (i := 1) (k := 2) (by decide +kernel) ?_ ?_
     · refine zoP ?_
       refine awpA_only (fuel := 3) (i := 2) (by decide +kernel) ?_
       refine zoP ?_
       refine zaP [3, 4] [] 1 [4, 3, 2, 1, 5, 0] ?_
       refine awpA_only (fuel := 0) (i := 6) (by decide +kernel) ?_
       refine awpO_fc cal104 [3, 4, 5, 6, 2, 7, 8] (fun _ => false) (subSteps_c g hv i (sbAt g i) hil (sbAt_ok hv h0 i) (by omega) (by omega)) rfl (by decide) rfl rfl rfl (by simp) (.inl fun _ => rfl) ?_ ?_ ?_ fun K hK x hI hno => ?_
       · simp [hG, List.getD_cons_zero, List.getD_cons_succ, -List.getD_eq_getElem?_getD, pureOp]
       · simp [hG, List.range'_succ, List.range'_zero, List.getD_cons_zero, List.getD_cons_succ, -List.getD_eq_getElem?_getD]
       · simp [hG, List.getD_cons_zero, List.getD_cons_succ, -List.getD_eq_getElem?_getD, pureOp]
       simp [hG, List.getD_cons_zero, List.getD_cons_succ, -List.getD_eq_getElem?_getD, pureOp]
       refine hK _ ?_
       clear K hK
       refine awpA_done (by decide +kernel) ?_
       refine zn ?_
       refine cut_end (()) (trivial) ?_
       exact zwP (fun k => if k = 7 then 9 else if k = 8 then 10 else k) (fun _ => false) (fun _ => false)
     refine zoP ?_
     refine awpA_only (fuel := 3) (i := 1) (by decide +kernel) ?_
     refine zoP ?_
     refine zaP [3, 4] [] 1 [4, 3, 1, 2, 5, 0] ?_
     refine awpA_only (fuel := 0) (i := 6) (by decide +kernel) ?_
     refine awpO_fc cal104 [3, 4, 5, 6, 2, 7, 8] (fun _ => false) (subSteps_c g hv i (sbAt g i) hil (sbAt_ok hv h0 i) (by omega) (by omega)) rfl (by decide) rfl rfl rfl (by simp) (.inl fun _ => rfl) ?_ ?_ ?_ fun K hK x hI hno => ?_
     · simp [hG, List.getD_cons_zero, List.getD_cons_succ, -List.getD_eq_getElem?_getD, pureOp]
     · simp [hG, List.range'_succ, List.range'_zero, List.getD_cons_zero, List.getD_cons_succ, -List.getD_eq_getElem?_getD]
     · simp [hG, List.getD_cons_zero, List.getD_cons_succ, -List.getD_eq_getElem?_getD, pureOp]
     simp [hG, List.getD_cons_zero, List.getD_cons_succ, -List.getD_eq_getElem?_getD, pureOp]
     refine hK _ ?_
     clear K hK
     refine awpA_done (by decide +kernel) ?_
     refine zn ?_
     refine cut_end (()) (trivial) ?_
     exact zwP (fun k => if k = 7 then 9 else if k = 8 then 10 else k) (fun _ => false) (fun _ => false)
   rintro ⟨⟩ -
   refine zs (zrP ?_)
   refine zy (fun hb42 => ?_) fun hb42 => ?_
   · obtain ⟨e1, e2, e3⟩ := build_over hv h0 hi64 hil hb42
     refine zs (zrP ?_)
     refine zt (zbt (ztt (zbt ?_)))
     refine RetOK_of ?_
     simp [hG, List.getD_cons_zero, List.getD_cons_succ, -List.getD_eq_getElem?_getD, pureOp]
     rw [e1, e2, e3]; exact ⟨⟨rfl, rfl, rfl⟩, rfl, rfl⟩
   refine zk (zn (zbn (zs (zs (zrP ?_)))))
   refine zrP ?_
   refine zrP ?_
   refine zn ?_
   refine round_end (i + 1) (build_step hil hal hb42) (by omega) ?_
   exact zwP (fun k => if k = 6 then 9 else k) (fun _ => false) (fun _ => false) (h := by rw [hE]; simp [hG, List.getD_cons_zero, List.getD_cons_succ, -List.getD_eq_getElem?_getD])
 obtain hiL : (sbAt g i).all.length ≤ i := (by omega)
 obtain ⟨e1, e2, e3⟩ := build_fine hv h0 hi64 hiL hal hel
 refine zx (ztx (zbx (zs (zrP ?_))))
 refine zs ?_
 refine awpS_draw hR mixed [(2, (1, 0))] ⟨[], [], []⟩ fun mu0 => ?_
 refine zaP [0] [] 4 [0] ?_
 refine zaP [1] [(1, 0)] 3 [1, 0] ?_
 refine awpA_only (fuel := 2) (i := 2) (by decide +kernel) ?_
 refine zoP ?_
 refine zaP [3, 4] [] 0 [4, 3, 2, 1, 0] ?_
 refine awpA_done (by decide +kernel) ?_
 refine zt ?_
 refine RetOK_of ?_
 simp [hG, List.getD_cons_zero, List.getD_cons_succ, -List.getD_eq_getElem?_getD, pureOp]
 rw [e1, e2, e3]; exact ⟨⟨rfl, rfl, rfl, Nat.le_refl _, fun q hq => ⟨rfl, rfl, rfl⟩⟩, ⟨rfl, Nat.le_refl _, fun q hq => Clo.le _ Clo_ints⟩, rfl⟩
set_option maxRecDepth 100000 in
theorem build_c (g : Gr) : PC Tryz.prog 50 [.agg 3 (grF g)] (.tup 3 (fun j => [.agg 3 (grF (buildG g)), rowsI (buildS g), .int .i64 (buildN g)].getD j .any)) := by
 refine zp Tryz.func50 fun G hG hR => ?_
 refine zs (zr ?_)
 refine zs (zs (zL (zl 1 ?_)))
 refine zc cal42 (checkC_c g) ?_
 refine zl 1 ?_
 refine zN (zy (fun hb9 => ?_) fun hb9 => ?_)
 · refine zs (zr ?_)
   refine zt ?_
   refine RetOK_of ?_
   simp [hG, List.getD_cons_zero, List.getD_cons_succ, -List.getD_eq_getElem?_getD]
   obtain ⟨e1, e2, e3⟩ := build_bad (by simpa using hb9); rw [e1, e2, e3]; exact ⟨⟨rfl, rfl, rfl⟩, rfl, rfl⟩
 have hv : gcheck g = 0 := (by simpa using hb9)
 have hst := (gcheck_valid hv).1.st
 refine zk (zs (zs (zr ?_)))
 refine zy (fun hb13 => ?_) fun hb13 => ?_
 · refine zs (zr ?_)
   refine zt ?_
   refine RetOK_of ?_
   simp [hG, List.getD_cons_zero, List.getD_cons_succ, -List.getD_eq_getElem?_getD]
   obtain ⟨e1, e2, e3⟩ := build_none hv hb13; rw [e1, e2, e3]; exact ⟨⟨rfl, rfl, rfl⟩, rfl, rfl⟩
 have h0 : 0 < g.states := (by omega)
 refine zk (zs (zr ?_))
 refine zs (zs (zr ?_))
 refine zb ?_
 refine awpS_loop (α := Nat) (fun k => ⟨[(1, .ptr (0, 0) 0 0), (2, .ptr (1, 0) 0 0), (5, .sl (2, 0) 0 g.states.toNat), (20, .sl (2, 0) 0 g.states.toNat), (21, .int .i64 (g.states.toNat : Nat)), (22, .int .i64 k)], [(0, .one (.arr 1 3 (fun _ => grF g))), (1, .one (.arr 1 3 (fun _ j => [.int .i64 0, .int .i64 0, .nils].getD j .any))), (2, .one (.arr g.states.toNat 1 (fun j _ => .int .i64 (if j < k then (j : Int) else 0))))], 3⟩) (fun k => k ≤ g.states.toNat) (fun k => g.states.toNat - k) (0) (Nat.zero_le _) ?_ ?_
 · exact zi
 rintro k hk
 refine zs (zr ?_)
 refine zs (zy (fun hb23 => ?_) fun hb23 => ?_)
 · refine zk (zs (zb (zs (zr ?_))))
   refine zr ?_
   refine zn (zbn (zr ?_))
   refine zn ?_
   refine round_end (k + 1) (by omega) (by omega) ?_
   exact zi (h := by simp [hG, List.getD_cons_zero, List.getD_cons_succ, -List.getD_eq_getElem?_getD]; exact fun j hj => app_one1)
 obtain rfl : k = g.states.toNat := (by omega)
 refine zx (ztx (zbx (zs ?_)))
 refine awpS_wk (st2 := ⟨[(1, .ptr (0, 0) 0 0), (2, .ptr (1, 0) 0 0), (5, ints (iotaL g.states.toNat))], [(0, .one (.arr 1 3 (fun _ => grF g))), (1, .one (.arr 1 3 (fun _ j => [.int .i64 0, .int .i64 0, .nils].getD j .any)))], 2⟩) ?_ ?_
 · exact zw (id) (fun k => k == 2) (fun _ => false) (e := by simp [hG, List.getD_cons_zero, List.getD_cons_succ, -List.getD_eq_getElem?_getD]; exact ⟨iota_len.symm, by rw [iota_len]; exact Nat.le_refl _, fun i hi => by rw [iota_len] at hi; rw [if_pos (by omega), iota_at hi]⟩)
 refine zL (zl 2 ?_)
 refine zc cal71 (subBuild_c g hv h0) ?_
 refine zl 6 ?_
 refine zN (zt ?_)
 exact zR
end Go.Proofs.YtchjjiedcpfniaaGreatDoor
