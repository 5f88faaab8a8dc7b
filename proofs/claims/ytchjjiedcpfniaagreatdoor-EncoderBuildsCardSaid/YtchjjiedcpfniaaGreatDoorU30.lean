/- Parts of the proof: WM. -/
import Derived.Test.YtchjjiedcpfniaaGreatDoorU16
import Derived.Test.YtchjjiedcpfniaaGreatDoorU29
namespace Go.Proofs.YtchjjiedcpfniaaGreatDoor
set_option linter.unusedSimpArgs false
set_option linter.unusedVariables false
open Go Go.Lift Go.Proofs
def prR (l : List Spl) (s i : Nat) : List (List Int) := match splO (l.take i) s with
  | some x => x.parts
  | none => []
def wsR (g : Gr) (v : List Int) (m : Int) (l : List Spl) (s i : Nat) : List Int := match splO (l.take i) s with
  | some x => wtL g v m x
  | none => [v.getD s 0]
section
variable {g : Gr} {v : List Int} {m : Int} {l : List Spl} {s i : Nat}
theorem prR_zero : prR l s 0 = [] := rfl
theorem wsR_zero : wsR g v m l s 0 = [v.getD s 0] := rfl
theorem spl_take (hi : i < l.length) : splO (l.take (i + 1)) s = (splO (l.take i) s).or (if (l.getD i ds).st = (s : Int) then some (l.getD i ds) else none) := by
  unfold splO
  rw [List.take_add_one, List.getElem?_eq_getElem hi, List.find?_append]
  congr 1
  rw [getD_get hi]
  by_cases h : l[i].st = (s : Int) <;> simp [h]
theorem prR_skip (hi : i < l.length) (h : (l.getD i ds).st ≠ (s : Int)) : prR l s (i + 1) = prR l s i ∧ wsR g v m l s (i + 1) = wsR g v m l s i := by
  unfold prR wsR
  rw [spl_take hi, if_neg h, Option.or_none]
  exact ⟨rfl, rfl⟩
theorem prR_hit (hr : rndN g v m l = 0) (hi : i < l.length) (h : (l.getD i ds).st = (s : Int)) : prR l s (i + 1) = (l.getD i ds).parts ∧ wsR g v m l s (i + 1) = wtL g v m (l.getD i ds) := by
  have h0 : splO (l.take i) s = none := splO_none fun j hj => by
    rw [List.length_take] at hj
    have h1 := rnd_asc hr (show j < i by omega) hi
    have e : (l.take i).getD j ds = l.getD j ds := by simp [List.getD_eq_getElem?_getD, List.getElem?_take_of_lt (show j < i by omega)]
    rw [e]
    omega
  unfold prR wsR
  rw [spl_take hi, if_pos h, h0]
  exact ⟨rfl, rfl⟩
theorem wsR_all : wsR g v m l s l.length = wsS g v m l s := by
  unfold wsR wsS
  rw [List.take_length]
  cases splO l s <;> rfl
theorem prR_some (h : 0 < (prR l s l.length).length) : prS g l s = prR l s l.length := by
  unfold prR at h ⊢
  unfold prS
  rw [List.take_length] at h ⊢
  cases hs : splO l s with
  | none => rw [hs] at h; cases h
  | some x => rfl
theorem prR_none (hr : RndOK l) (hz : rndN g v m l = 0) (h : (prR l s l.length).length = 0) : prS g l s = [outR g s] := by
  unfold prR at h
  unfold prS
  rw [List.take_length] at h
  cases hs : splO l s with
  | none => rfl
  | some x =>
    rw [hs] at h
    have := (rnd_spl hr hz (splO_some hs).1).2
    simp only at h
    omega
theorem prR_len (hr : RndOK l) : (prR l s i).length ≤ 900 := by
  unfold prR
  cases hs : splO (l.take i) s with
  | none => exact Nat.zero_le _
  | some x => exact hr.num x (List.mem_of_mem_take (splO_some hs).1)
theorem wtB_of (h : rndN g v m l = 0) (hi : i < l.length) : wtB g v m (l.getD i ds) = true := (spl_zero ((rnd_zero h).2.2 i hi)).2.2.2
end
set_option maxRecDepth 100000 in
set_option maxHeartbeats 2000000 in
theorem applyRf_c (g : Gr) (v : List Int) (m : Int) (l : List Spl) (hr : RndOK l) : PC Tryz.prog 76 [.agg 3 (grF g), ints v, .int .i64 m, spls l] (.tup 4 (fun j => [.agg 3 (grF (aplG g v m l)), ints (aplW g v m l), ints (aplP g v m l), .int .i64 (aplN g v m l)].getD j .any)) := by
 have hrl := hr.len
 refine zp Tryz.func76 fun G hG hR => ?_
 refine zs (zrP ?_)
 refine zs (zs (zL (zlP 4 ?_)))
 refine zcP cal110 (rndRf_c g v m l hr) ?_
 refine zlP 1 ?_
 refine zN (zs (zrP ?_))
 refine zy (fun hb39 => ?_) fun hb39 => ?_
 · refine zs (zrP ?_)
   refine zt ?_
   refine RetOK_of ?_
   simp [hG, List.getD_cons_zero, List.getD_cons_succ, -List.getD_eq_getElem?_getD, pureOp]
   obtain ⟨e1, e2, e3, e4⟩ := apl_1 (g := g) (v := v) (m := m) (l := l) hb39; rw [e1, e2, e3, e4]; exact ⟨⟨rfl, rfl, rfl⟩, rfl, rfl, rfl⟩
 have hz := rnd_zero hb39
 obtain ⟨hv, hm, hl, hbx⟩ := vecN_zero (eigN_zero (baseN_zero hz.1).1).1
 have hst := (gcheck_valid hv).1.st
 have hed := (gcheck_valid hv).1.ed
 have hRd : Rd g v m l := ⟨hr, hb39⟩
 have hsts : (g.states.toNat : Int) = g.states := (by omega)
 refine zk (zs (zrP ?_))
 refine zs (zrP ?_)
 refine zs (zrP ?_)
 refine zs (zs (zrP ?_))
 refine zb ?_
 refine awpS_loop (α := Nat) (fun s => ⟨[(1, ints v), (2, .int .i64 m), (3, spls l), (4, .ptr (0, 0) 0 0), (8, .ptr (1, 0) 0 0), (13, .sl (2, 0) 0 g.states.toNat), (14, .sl (3, 0) 0 g.edges.length), (15, .sl (4, 0) 0 (hvA g v m l s).length), (16, .sl (5, 0) 0 (parA g l s).length), (17, .int .i64 (s : Nat))], [(0, .one (.arr 1 3 (fun _ => grF g))), (1, .one (.arr 1 3 (fun _ j => [.int .i64 0, .int .i64 0, .nils].getD j .any))), (2, .fam (.arr g.states.toNat 1 (fun j _ => .sl (2, j + 1) 0 (chAt g l s j).length)) (fun j => some (.arr (chAt g l s j).length 1 (fun q _ => .int .i64 ((chAt g l s j).getD q 0))))), (3, .one (.arr g.edges.length 1 (fun k _ => .int .i64 (ownL (asgA g l s) k)))), (4, .one (.arr (hvA g v m l s).length 1 (fun q _ => .int .i64 ((hvA g v m l s).getD q 0)))), (5, .one (.arr (parA g l s).length 1 (fun q _ => .int .i64 ((parA g l s).getD q 0))))], 6⟩) (fun s => s ≤ g.states.toNat) (fun s => g.states.toNat - s) (0) (Nat.zero_le _) ?_ ?_
 · refine wk_ofI (id) (fun _ => false) (fun d => decide (d.1 = 2 ∧ 0 < d.2)) ?_ ?_ ?_ (Nat.zero_le _) (fun d hd => absurd hd (Nat.not_lt_zero _))
   · simp [hG, parP_all, hvP_all, chAtP_all, parP_zero, hvP_zero, chAtP_zero, asgP_zero, asgP_all, asgA_succ, chAt_zero, offA_zero, parA_zero, hvA_zero, asgA_zero, asgS_zero, ownL_nil, List.append_nil, List.getD_cons_zero, List.getD_cons_succ, -List.getD_eq_getElem?_getD]
   · simp [hG, parP_all, hvP_all, chAtP_all, parP_zero, hvP_zero, chAtP_zero, asgP_zero, asgP_all, asgA_succ, chAt_zero, offA_zero, parA_zero, hvA_zero, asgA_zero, asgS_zero, ownL_nil, List.append_nil, List.getD_cons_zero, List.getD_cons_succ, -List.getD_eq_getElem?_getD]
   exact fun id id' _ _ _ _ h => h
 rintro s hs
 refine zs (zs (zrP ?_))
 refine zy (fun hb54 => ?_) fun hb54 => ?_
 · have hsn : s < g.states.toNat := (by omega)
   have hpll := prS_len hr hv (s := s) (by omega)
   refine zk (zs (zb (zs ?_)))
   refine awpS_cut (α := Unit) (fun _u => ⟨[(1, ints v), (2, .int .i64 m), (3, spls l), (4, .ptr (0, 0) 0 0), (8, .ptr (1, 0) 0 0), (13, .sl (2, 0) 0 g.states.toNat), (14, .sl (3, 0) 0 g.edges.length), (15, .sl (4, 0) 0 (hvA g v m l s).length), (16, .sl (5, 0) 0 (parA g l s).length), (17, .int .i64 (s : Nat)), (18, rowsI (prR l s 0)), (19, ints (wsR g v m l s 0))], [(0, .one (.arr 1 3 (fun _ => grF g))), (1, .one (.arr 1 3 (fun _ j => [.int .i64 0, .int .i64 0, .nils].getD j .any))), (2, .fam (.arr g.states.toNat 1 (fun j _ => .sl (2, j + 1) 0 (chAt g l s j).length)) (fun j => some (.arr (chAt g l s j).length 1 (fun q _ => .int .i64 ((chAt g l s j).getD q 0))))), (3, .one (.arr g.edges.length 1 (fun k _ => .int .i64 (ownL (asgA g l s) k)))), (4, .one (.arr (hvA g v m l s).length 1 (fun q _ => .int .i64 ((hvA g v m l s).getD q 0)))), (5, .one (.arr (parA g l s).length 1 (fun q _ => .int .i64 ((parA g l s).getD q 0))))], 6⟩) (fun _u => True) ?_ ?_ (by simp)
   · refine awpS_draw hR mixed [] ⟨[], [], []⟩ fun mu0 => ?_
     refine zaP [1, 2, 3, 4] [] 4 [4, 3, 2, 1] ?_
     refine awpA_two (fuel := 3) (i := 0) (k := 5) (by decide +kernel) ?_ ?_
     · refine zoP ?_
       refine zaP [6] [] 2 [6, 0, 4, 3, 2, 1] ?_
       refine awpA_only (fuel := 1) (i := 5) (by decide +kernel) ?_
       refine zoP ?_
       refine zaP [7] [] 0 [7, 5, 6, 0, 4, 3, 2, 1] ?_
       refine awpA_done (by decide +kernel) ?_
       refine zn ?_
       refine cut_end (()) (trivial) ?_
       exact zwP (id) (fun k => decide (6 ≤ k)) (fun _ => false) (e := by rw [prR_zero, wsR_zero]; simp [hG, List.getD_cons_zero, List.getD_cons_succ, -List.getD_eq_getElem?_getD])
     refine zoP ?_
     refine awpA_only (fuel := 2) (i := 0) (by decide +kernel) ?_
     refine zoP ?_
     refine zaP [6, 7] [] 0 [7, 6, 0, 5, 4, 3, 2, 1] ?_
     refine awpA_done (by decide +kernel) ?_
     refine zn ?_
     refine cut_end (()) (trivial) ?_
     exact zwP (id) (fun k => decide (6 ≤ k)) (fun _ => false) (e := by rw [prR_zero, wsR_zero]; simp [hG, List.getD_cons_zero, List.getD_cons_succ, -List.getD_eq_getElem?_getD])
   rintro _ _
   refine zs (zs (zrP ?_))
   refine zb ?_
   refine awpS_loop (α := Nat) (fun i => ⟨[(1, ints v), (2, .int .i64 m), (3, spls l), (4, .ptr (0, 0) 0 0), (8, .ptr (1, 0) 0 0), (13, .sl (2, 0) 0 g.states.toNat), (14, .sl (3, 0) 0 g.edges.length), (15, .sl (4, 0) 0 (hvA g v m l s).length), (16, .sl (5, 0) 0 (parA g l s).length), (17, .int .i64 (s : Nat)), (18, rowsI (prR l s i)), (19, ints (wsR g v m l s i)), (20, .int .i64 (i : Nat))], [(0, .one (.arr 1 3 (fun _ => grF g))), (1, .one (.arr 1 3 (fun _ j => [.int .i64 0, .int .i64 0, .nils].getD j .any))), (2, .fam (.arr g.states.toNat 1 (fun j _ => .sl (2, j + 1) 0 (chAt g l s j).length)) (fun j => some (.arr (chAt g l s j).length 1 (fun q _ => .int .i64 ((chAt g l s j).getD q 0))))), (3, .one (.arr g.edges.length 1 (fun k _ => .int .i64 (ownL (asgA g l s) k)))), (4, .one (.arr (hvA g v m l s).length 1 (fun q _ => .int .i64 ((hvA g v m l s).getD q 0)))), (5, .one (.arr (parA g l s).length 1 (fun q _ => .int .i64 ((parA g l s).getD q 0))))], 6⟩) (fun i => i ≤ l.length) (fun i => l.length - i) (0) (Nat.zero_le _) ?_ ?_
   · exact zi (h := by simp [hG, List.getD_cons_zero, List.getD_cons_succ, -List.getD_eq_getElem?_getD, pureOp])
   rintro i hi
   refine zs (zs (zrP ?_))
   refine zy (fun hb66 => ?_) fun hb66 => ?_
   · have hil : i < l.length := (by omega)
     have hxm := getD_mem (d := ds) hil
     have hso := rnd_spl hr hb39 hxm
     refine zk (zs (zb (zs (zrP ?_))))
     refine zy (fun hb75 => ?_) fun hb75 => ?_
     · obtain ⟨hp1, hp2⟩ := prR_hit (s := s) hb39 hil hb75
       have hwb := wtB_of hb39 hil
       refine zs (zrP ?_)
       refine awpS_draw hR mixed [] ⟨[], [], []⟩ fun mu0 => ?_
       refine zaP [0, 1, 2, 3, 4, 5, 6] [] 5 [6, 5, 4, 3, 2, 1, 0] ?_
       refine awpA_only (fuel := 4) (i := 7) (by decide +kernel) ?_
       refine zeP cal111 (shares_c g v m (l.getD i ds) hv hl hbx hm hso.1 hso.2) ?_
       refine zaP [8, 9, 10, 11] [] 0 [11, 10, 9, 8, 7, 6, 5, 4, 3, 2, 1, 0] ?_
       refine awpA_done (by decide +kernel) ?_
       refine zn (zbn (zrP ?_))
       refine zn ?_
       refine round_end (i + 1) (by omega) (by omega) ?_
       exact ziP (e := by rw [hp1, hp2]; rw [if_pos hwb]; simp [hG, List.getD_cons_zero, List.getD_cons_succ, -List.getD_eq_getElem?_getD])
     obtain ⟨hp1, hp2⟩ := prR_skip (g := g) (v := v) (m := m) (s := s) hil hb75
     refine zk (zn (zbn (zrP ?_)))
     refine zn ?_
     refine round_end (i + 1) (by omega) (by omega) ?_
     exact ziP (e := by rw [hp1, hp2]; simp [hG, List.getD_cons_zero, List.getD_cons_succ, -List.getD_eq_getElem?_getD])
   obtain rfl : i = l.length := (by omega)
   have hwra := wsR_all (g := g) (v := v) (m := m) (l := l) (s := s)
   have hwsl := wsS_len (g := g) (v := v) (m := m) (l := l) (s := s)
   have hprl := prR_len (s := s) (i := l.length) hr
   refine zx (ztx (zbx (zs (zL (zlP 2 ?_)))))
   refine zcP cal32 (outRf_c g (s : Nat)) ?_
   refine zlP 5 ?_
   refine zN (zs (zrP ?_))
   refine zb ?_
   refine awpS_loop (α := Nat) (fun i => ⟨[(1, ints v), (2, .int .i64 m), (3, spls l), (4, .ptr (0, 0) 0 0), (8, .ptr (1, 0) 0 0), (13, .sl (2, 0) 0 g.states.toNat), (14, .sl (3, 0) 0 g.edges.length), (15, .sl (4, 0) 0 (hvP g v m l s i).length), (16, .sl (5, 0) 0 (parP g l s i).length), (17, .int .i64 (s : Nat)), (18, rowsI (prR l s l.length)), (19, ints (wsS g v m l s)), (21, ints (outR g (s : Nat))), (23, .int .i64 (i : Nat))], [(0, .one (.arr 1 3 (fun _ => grF g))), (1, .one (.arr 1 3 (fun _ j => [.int .i64 0, .int .i64 0, .nils].getD j .any))), (2, .fam (.arr g.states.toNat 1 (fun j _ => .sl (2, j + 1) 0 (chAtP g l s i j).length)) (fun j => some (.arr (chAtP g l s i j).length 1 (fun q _ => .int .i64 ((chAtP g l s i j).getD q 0))))), (3, .one (.arr g.edges.length 1 (fun k _ => .int .i64 (ownL (asgA g l s ++ asgS g l s i) k)))), (4, .one (.arr (hvP g v m l s i).length 1 (fun q _ => .int .i64 ((hvP g v m l s i).getD q 0)))), (5, .one (.arr (parP g l s i).length 1 (fun q _ => .int .i64 ((parP g l s i).getD q 0))))], 6⟩) (fun i => i ≤ (prS g l s).length) (fun i => (prS g l s).length - i) (0) (Nat.zero_le _) ?_ ?_
   · exact zi (e := by rw [hwra]; simp [hG, parP_all, hvP_all, chAtP_all, parP_zero, hvP_zero, chAtP_zero, asgP_zero, asgP_all, asgA_succ, chAt_zero, offA_zero, parA_zero, hvA_zero, asgA_zero, asgS_zero, ownL_nil, List.append_nil, List.getD_cons_zero, List.getD_cons_succ, -List.getD_eq_getElem?_getD]) (h := by simp [hG, parP_all, hvP_all, chAtP_all, parP_zero, hvP_zero, chAtP_zero, asgP_zero, asgP_all, asgA_succ, chAt_zero, offA_zero, parA_zero, hvA_zero, asgA_zero, asgS_zero, ownL_nil, List.append_nil, List.getD_cons_zero, List.getD_cons_succ, -List.getD_eq_getElem?_getD])
   rintro i hi
   refine zs (zs (zrP ?_))
   refine zy (fun hb101 => ?_) fun hb101 => ?_
   · have hilp : i < (prS g l s).length := (by omega)
     have hpl1 := hpll.2 _ (getD_mem (d := ([] : List Int)) hilp)
     have hof := off_le900 hr hv s (by omega)
     have hpln := parP_len (g := g) (l := l) (s := s) (i := i)
     have hhln := hvP_len (g := g) (v := v) (m := m) (l := l) (s := s) (i := i) (by omega)
     have hchl := chAtP_own (g := g) (l := l) (s := s) (i := i)
     have hchs := fun j => chAtP_succ (g := g) (l := l) (s := s) (i := i) (j := j)
     have hpas := parP_succ (g := g) (l := l) (s := s) (i := i)
     have hhvs := hvP_succ (g := g) (v := v) (m := m) (l := l) (s := s) (i := i) hilp
     refine zk (zs (zb (zs (zrP ?_))))
     refine zs (zrP ?_)
     refine zs (zrP ?_)
     refine zs ?_
     refine awpS_cut (α := Unit) (fun _u => ⟨[(1, ints v), (2, .int .i64 m), (3, spls l), (4, .ptr (0, 0) 0 0), (8, .ptr (1, 0) 0 0), (13, .sl (2, 0) 0 g.states.toNat), (14, .sl (3, 0) 0 g.edges.length), (15, .sl (4, 0) 0 (hvP g v m l s (i + 1)).length), (16, .sl (5, 0) 0 (parP g l s (i + 1)).length), (17, .int .i64 (s : Nat)), (18, rowsI (prR l s l.length)), (19, ints (wsS g v m l s)), (21, ints (outR g (s : Nat))), (23, .int .i64 (i : Nat)), (24, .int .i64 ((offA g l s + i : Nat) : Int))], [(0, .one (.arr 1 3 (fun _ => grF g))), (1, .one (.arr 1 3 (fun _ j => [.int .i64 0, .int .i64 0, .nils].getD j .any))), (2, .fam (.arr g.states.toNat 1 (fun j _ => .sl (2, j + 1) 0 (chAtP g l s (i + 1) j).length)) (fun j => some (.arr (chAtP g l s (i + 1) j).length 1 (fun q _ => .int .i64 ((chAtP g l s (i + 1) j).getD q 0))))), (3, .one (.arr g.edges.length 1 (fun k _ => .int .i64 (ownL (asgA g l s ++ asgS g l s i) k)))), (4, .one (.arr (hvP g v m l s (i + 1)).length 1 (fun q _ => .int .i64 ((hvP g v m l s (i + 1)).getD q 0)))), (5, .one (.arr (parP g l s (i + 1)).length 1 (fun q _ => .int .i64 ((parP g l s (i + 1)).getD q 0))))], 6⟩) (fun _u => True) ?_ ?_ (by simp)
     · refine zrP ?_
       refine zn ?_
       refine cut_end (()) (trivial) ?_
       refine wk_ofI (fun d => if d = (2, s + 1) then (7, 0) else if d = (4, 0) then (9, 0) else if d = (5, 0) then (11, 0) else d) (fun _ => false) (fun _ => false) ?_ ?_ ?_ (Nat.zero_le _) (fun d hd => absurd hd (Nat.not_lt_zero _))
       · rw [hpas, hhvs]; simp [hG, parP_all, hvP_all, chAtP_all, parP_zero, hvP_zero, chAtP_zero, asgP_zero, asgP_all, asgA_succ, chAt_zero, offA_zero, parA_zero, hvA_zero, asgA_zero, asgS_zero, ownL_nil, List.append_nil, List.getD_cons_zero, List.getD_cons_succ, -List.getD_eq_getElem?_getD]; first | omega | exact ⟨by omega, by omega⟩
       · rw [hpas, hhvs]; simp only [hchs]; simp [hG, parP_all, hvP_all, chAtP_all, parP_zero, hvP_zero, chAtP_zero, asgP_zero, asgP_all, asgA_succ, chAt_zero, offA_zero, parA_zero, hvA_zero, asgA_zero, asgS_zero, ownL_nil, List.append_nil, List.getD_cons_zero, List.getD_cons_succ, -List.getD_eq_getElem?_getD]; exact ⟨⟨fun j _ => .inl (by by_cases h : j = s; (subst h; simp); (simp [h])), fun j => (by by_cases h : j = s; (subst h; simp [HLe, -List.getD_eq_getElem?_getD]; exact fun q hq => app_oneI (by simp [hpln, hhln]) hq); (simp [HLe, h]))⟩, fun q hq => app_oneI rfl hq, fun q hq => app_oneI rfl hq⟩
       intro d d' h1 h2 _ _ h; (repeat' split at h) <;> first | (simp_all; done) | (exact h) | (subst h; simp [lkH] at h2; done) | (subst h; simp [lkH] at h1; done)
     rintro _ _
     refine zs (zrP ?_)
     refine zs (zs (zrP ?_))
     refine awpS_cut (α := Unit) (fun _u => ⟨[(1, ints v), (2, .int .i64 m), (3, spls l), (4, .ptr (0, 0) 0 0), (8, .ptr (1, 0) 0 0), (13, .sl (2, 0) 0 g.states.toNat), (14, .sl (3, 0) 0 g.edges.length), (15, .sl (4, 0) 0 (hvP g v m l s (i + 1)).length), (16, .sl (5, 0) 0 (parP g l s (i + 1)).length), (17, .int .i64 (s : Nat)), (18, rowsI (prR l s l.length)), (19, ints (wsS g v m l s)), (21, ints (outR g (s : Nat))), (23, .int .i64 (i : Nat)), (24, .int .i64 ((offA g l s + i : Nat) : Int)), (25, ints ((prS g l s).getD i []))], [(0, .one (.arr 1 3 (fun _ => grF g))), (1, .one (.arr 1 3 (fun _ j => [.int .i64 0, .int .i64 0, .nils].getD j .any))), (2, .fam (.arr g.states.toNat 1 (fun j _ => .sl (2, j + 1) 0 (chAtP g l s (i + 1) j).length)) (fun j => some (.arr (chAtP g l s (i + 1) j).length 1 (fun q _ => .int .i64 ((chAtP g l s (i + 1) j).getD q 0))))), (3, .one (.arr g.edges.length 1 (fun k _ => .int .i64 (ownL (asgA g l s ++ asgS g l s i) k)))), (4, .one (.arr (hvP g v m l s (i + 1)).length 1 (fun q _ => .int .i64 ((hvP g v m l s (i + 1)).getD q 0)))), (5, .one (.arr (parP g l s (i + 1)).length 1 (fun q _ => .int .i64 ((parP g l s (i + 1)).getD q 0))))], 6⟩) (fun _u => True) ?_ ?_ (by simp)
     · refine zy (fun hb130 => ?_) fun hb130 => ?_
       · have hpe := prR_some (g := g) (l := l) (s := s) (by omega)
         have hilq : i < (prR l s l.length).length := (by rw [← hpe]; exact hilp)
         refine zrP ?_
         refine zn ?_
         refine cut_end (()) (trivial) ?_
         exact ziP (e := by rw [hpe]; simp [hG, List.getD_cons_zero, List.getD_cons_succ, -List.getD_eq_getElem?_getD])
       have hpe := prR_none (g := g) (v := v) (m := m) (s := s) hr hb39 (by first | omega | simp [hb130])
       have hi0 : i = 0 := (by rw [hpe] at hilp; simpa using hilp)
       refine zk (zn ?_)
       refine cut_end (()) (trivial) ?_
       exact ziP (e := by rw [hpe, hi0]; simp [hG, List.getD_cons_zero, List.getD_cons_succ, -List.getD_eq_getElem?_getD])
     rintro _ _
     refine zs (zrP ?_)
     refine zb ?_
     refine awpS_loop (α := Nat) (fun q => ⟨[(1, ints v), (2, .int .i64 m), (3, spls l), (4, .ptr (0, 0) 0 0), (8, .ptr (1, 0) 0 0), (13, .sl (2, 0) 0 g.states.toNat), (14, .sl (3, 0) 0 g.edges.length), (15, .sl (4, 0) 0 (hvP g v m l s (i + 1)).length), (16, .sl (5, 0) 0 (parP g l s (i + 1)).length), (17, .int .i64 (s : Nat)), (18, rowsI (prR l s l.length)), (19, ints (wsS g v m l s)), (21, ints (outR g (s : Nat))), (23, .int .i64 (i : Nat)), (24, .int .i64 ((offA g l s + i : Nat) : Int)), (25, ints ((prS g l s).getD i [])), (26, .int .i64 (q : Nat))], [(0, .one (.arr 1 3 (fun _ => grF g))), (1, .one (.arr 1 3 (fun _ j => [.int .i64 0, .int .i64 0, .nils].getD j .any))), (2, .fam (.arr g.states.toNat 1 (fun j _ => .sl (2, j + 1) 0 (chAtP g l s (i + 1) j).length)) (fun j => some (.arr (chAtP g l s (i + 1) j).length 1 (fun q _ => .int .i64 ((chAtP g l s (i + 1) j).getD q 0))))), (3, .one (.arr g.edges.length 1 (fun k _ => .int .i64 (ownL (asgP g l s i q) k)))), (4, .one (.arr (hvP g v m l s (i + 1)).length 1 (fun q _ => .int .i64 ((hvP g v m l s (i + 1)).getD q 0)))), (5, .one (.arr (parP g l s (i + 1)).length 1 (fun q _ => .int .i64 ((parP g l s (i + 1)).getD q 0))))], 6⟩) (fun q => q ≤ ((prS g l s).getD i []).length) (fun q => ((prS g l s).getD i []).length - q) (0) (Nat.zero_le _) ?_ ?_
     · exact zi (e := by simp [hG, parP_all, hvP_all, chAtP_all, parP_zero, hvP_zero, chAtP_zero, asgP_zero, asgP_all, asgA_succ, chAt_zero, offA_zero, parA_zero, hvA_zero, asgA_zero, asgS_zero, ownL_nil, List.append_nil, List.getD_cons_zero, List.getD_cons_succ, -List.getD_eq_getElem?_getD]) (h := by simp [hG, parP_all, hvP_all, chAtP_all, parP_zero, hvP_zero, chAtP_zero, asgP_zero, asgP_all, asgA_succ, chAt_zero, offA_zero, parA_zero, hvA_zero, asgA_zero, asgS_zero, ownL_nil, List.append_nil, List.getD_cons_zero, List.getD_cons_succ, -List.getD_eq_getElem?_getD])
     rintro q hq
     refine zs (zs (zrP ?_))
     refine zy (fun hb138 => ?_) fun hb138 => ?_
     · have hqs := asgP_succ (g := g) (l := l) (s := s) (i := i) (q := q) (by omega)
       have hqb := prS_box hr hb39 (s := s) (by omega) _ (getD_mem (d := ([] : List Int)) hilp) _ (getD_mem (d := (0 : Int)) (show q < ((prS g l s).getD i []).length by omega))
       refine zk (zs (zb (zrP ?_)))
       refine zn (zbn (zrP ?_))
       refine zn ?_
       refine round_end (q + 1) (by omega) (by omega) ?_
       exact zi (e := by simp [hG, parP_all, hvP_all, chAtP_all, parP_zero, hvP_zero, chAtP_zero, asgP_zero, asgP_all, asgA_succ, chAt_zero, offA_zero, parA_zero, hvA_zero, asgA_zero, asgS_zero, ownL_nil, List.append_nil, List.getD_cons_zero, List.getD_cons_succ, -List.getD_eq_getElem?_getD]) (h := by simp [hG, parP_all, hvP_all, chAtP_all, parP_zero, hvP_zero, chAtP_zero, asgP_zero, asgP_all, asgA_succ, chAt_zero, offA_zero, parA_zero, hvA_zero, asgA_zero, asgS_zero, ownL_nil, List.append_nil, List.getD_cons_zero, List.getD_cons_succ, -List.getD_eq_getElem?_getD]; exact fun k hk => by rw [hqs, ownL_snoc]; by_cases h : k = (((prS g l s).getD i []).getD q 0).toNat; (rw [if_pos h, if_pos (by omega)]; first | rfl | (simp; done)); (rw [if_neg h, if_neg (by omega)]))
     obtain rfl : q = ((prS g l s).getD i []).length := (by omega)
     refine zx (ztx (zbx (zn (zbn (zrP ?_)))))
     refine zn ?_
     refine round_end (i + 1) (by omega) (by omega) ?_
     exact zi (e := by simp [hG, parP_all, hvP_all, chAtP_all, parP_zero, hvP_zero, chAtP_zero, asgP_zero, asgP_all, asgA_succ, chAt_zero, offA_zero, parA_zero, hvA_zero, asgA_zero, asgS_zero, ownL_nil, List.append_nil, List.getD_cons_zero, List.getD_cons_succ, -List.getD_eq_getElem?_getD]) (h := by simp [hG, parP_all, hvP_all, chAtP_all, parP_zero, hvP_zero, chAtP_zero, asgP_zero, asgP_all, asgA_succ, chAt_zero, offA_zero, parA_zero, hvA_zero, asgA_zero, asgS_zero, ownL_nil, List.append_nil, List.getD_cons_zero, List.getD_cons_succ, -List.getD_eq_getElem?_getD])
   obtain rfl : i = (prS g l s).length := (by omega)
   refine zx (ztx (zbx (zn (zbn (zrP ?_)))))
   refine zn ?_
   refine round_end (s + 1) (by omega) (by omega) ?_
   exact zi (e := by simp [hG, parP_all, hvP_all, chAtP_all, parP_zero, hvP_zero, chAtP_zero, asgP_zero, asgP_all, asgA_succ, chAt_zero, offA_zero, parA_zero, hvA_zero, asgA_zero, asgS_zero, ownL_nil, List.append_nil, List.getD_cons_zero, List.getD_cons_succ, -List.getD_eq_getElem?_getD]) (h := by simp [hG, parP_all, hvP_all, chAtP_all, parP_zero, hvP_zero, chAtP_zero, asgP_zero, asgP_all, asgA_succ, chAt_zero, offA_zero, parA_zero, hvA_zero, asgA_zero, asgS_zero, ownL_nil, List.append_nil, List.getD_cons_zero, List.getD_cons_succ, -List.getD_eq_getElem?_getD])
 obtain rfl : s = g.states.toNat := (by omega)
 refine zx (ztx (zbx (zs ?_)))
 refine awpS_wk (st2 := ⟨[(4, .ptr (0, 0) 0 0), (8, .ptr (1, 0) 0 0), (13, rowsI (chsL g l)), (14, ints (owsL g l)), (15, ints (hvA g v m l g.states.toNat)), (16, ints (parA g l g.states.toNat))], [(0, .one (.arr 1 3 (fun _ => grF g))), (1, .one (.arr 1 3 (fun _ j => [.int .i64 0, .int .i64 0, .nils].getD j .any)))], 2⟩) ?_ ?_
 · exact zwP (id) (fun k => decide (2 ≤ k)) (fun _ => false) (e := by simp [hG, parP_all, hvP_all, chAtP_all, parP_zero, hvP_zero, chAtP_zero, asgP_zero, asgP_all, asgA_succ, chAt_zero, offA_zero, parA_zero, hvA_zero, asgA_zero, asgS_zero, ownL_nil, List.append_nil, List.getD_cons_zero, List.getD_cons_succ, -List.getD_eq_getElem?_getD]; refine ⟨⟨chsL_len.symm, Nat.le_of_eq chsL_len, fun i hi => by rw [ch_all hi]; exact ⟨rfl, Nat.le_refl _, fun _ _ => rfl⟩⟩, owsL_len.symm, Nat.le_of_eq owsL_len, fun i hi => ?_⟩; rw [owsL_len] at hi; exact (owsL_at hi).symm)
 refine zrP ?_
 refine zs (zs (zrP ?_))
 refine zb ?_
 refine awpS_loop (α := Nat) (fun k => ⟨[(4, .ptr (0, 0) 0 0), (8, .ptr (1, 0) 0 0), (13, rowsI (chsL g l)), (14, ints (owsL g l)), (15, ints (hvA g v m l g.states.toNat)), (16, ints (parA g l g.states.toNat)), (27, .sl (2, 0) 0 (edA g l k).length), (28, .int .i64 (k : Nat))], [(0, .one (.arr 1 3 (fun _ => grF g))), (1, .one (.arr 1 3 (fun _ j => [.int .i64 0, .int .i64 0, .nils].getD j .any))), (2, .one (.arr (edA g l k).length 3 (fun q j => edgeF ((edA g l k).getD q de) j)))], 3⟩) (fun k => k ≤ g.edges.length) (fun k => g.edges.length - k) (0) (Nat.zero_le _) ?_ ?_
 · exact zi (e := by rw [edA_zero]; simp [hG, List.getD_cons_zero, List.getD_cons_succ, -List.getD_eq_getElem?_getD]) (h := by rw [edA_zero]; simp [hG, List.getD_cons_zero, List.getD_cons_succ, -List.getD_eq_getElem?_getD])
 rintro k hk
 refine zs (zs (zrP ?_))
 refine zy (fun hb153 => ?_) fun hb153 => ?_
 · have hkl : k < g.edges.length := (by omega)
   have hek := edge_at hv hkl
   have hecl := chL_len (g := g) (l := l) (s := (g.edges.getD k de).to.toNat)
   have hecp := prS_len hr hv (s := (g.edges.getD k de).to.toNat) (by omega)
   have hedl := edA_len hr hv k (by omega)
   have hcsa := chsL_at (g := g) (l := l) (s := (g.edges.getD k de).to.toNat) (by omega)
   have hosa := owsL_at (g := g) (l := l) hkl
   have hcsl := chsL_len (g := g) (l := l)
   have hosl := owsL_len (g := g) (l := l)
   refine zk (zs (zb (zs (zrP ?_))))
   refine zs (zrP ?_)
   refine zb ?_
   refine awpS_loop (α := Nat) (fun z => ⟨[(4, .ptr (0, 0) 0 0), (8, .ptr (1, 0) 0 0), (13, rowsI (chsL g l)), (14, ints (owsL g l)), (15, ints (hvA g v m l g.states.toNat)), (16, ints (parA g l g.states.toNat)), (27, .sl (2, 0) 0 (edP g l k z).length), (28, .int .i64 (k : Nat)), (29, .ptr (3, 0) 0 0), (30, .int .i64 (z : Nat))], [(0, .one (.arr 1 3 (fun _ => grF g))), (1, .one (.arr 1 3 (fun _ j => [.int .i64 0, .int .i64 0, .nils].getD j .any))), (2, .one (.arr (edP g l k z).length 3 (fun q j => edgeF ((edP g l k z).getD q de) j))), (3, .one (.arr 1 3 (fun _ j => edgeF (g.edges.getD k de) j)))], 4⟩) (fun z => z ≤ (chL g l (g.edges.getD k de).to.toNat).length) (fun z => (chL g l (g.edges.getD k de).to.toNat).length - z) (0) (Nat.zero_le _) ?_ ?_
   · exact zi (e := by rw [edP_zero]; simp [hG, List.getD_cons_zero, List.getD_cons_succ, -List.getD_eq_getElem?_getD]) (h := by rw [edP_zero]; simp [hG, List.getD_cons_zero, List.getD_cons_succ, -List.getD_eq_getElem?_getD])
   rintro z hz2
   refine zs (zs (zrP ?_))
   refine zy (fun hb168 => ?_) fun hb168 => ?_
   · rw [hcsa] at hb168
     have hzl : z < (chL g l (g.edges.getD k de).to.toNat).length := (by omega)
     have hzl2 : z < ((chsL g l).getD (g.edges.getD k de).to.toNat []).length := (by rw [hcsa]; exact hzl)
     have hqs := edP_succ (g := g) (l := l) (i := k) (k := z) (by omega)
     have hpl2 := edP_len (g := g) (l := l) (i := k) (k := z) (by omega)
     refine zk (zs (zb ?_))
     refine awpS_draw hR mixed [] ⟨[], [17], [(3, 0)]⟩ fun mu0 => ?_
     refine zaP [0, 1, 2, 3, 4, 5, 6, 7, 8, 9, 10, 11, 12, 13, 14, 15] [] 3 [15, 14, 13, 12, 11, 10, 9, 8, 7, 6, 5, 4, 3, 2, 1, 0] ?_
     refine awpA_only (fuel := 2) (i := 16) (by decide +kernel) ?_
     refine zoP ?_
     refine awpA_only (fuel := 1) (i := 17) (by decide +kernel) ?_
     refine zoP ?_
     refine zaP [18] [] 0 [18, 17, 16, 15, 14, 13, 12, 11, 10, 9, 8, 7, 6, 5, 4, 3, 2, 1, 0] ?_
     refine awpA_done (by decide +kernel) ?_
     refine zn (zbn (zrP ?_))
     refine zn ?_
     refine round_end (z + 1) (by omega) (by omega) ?_
     exact zw (fun k => if k = 2 then 5 else k) (fun _ => false) (fun _ => false) (e := by rw [hqs]; simp [hG, List.getD_cons_zero, List.getD_cons_succ, -List.getD_eq_getElem?_getD]) (h := by rw [hqs]; simp [hG, List.getD_cons_zero, List.getD_cons_succ, -List.getD_eq_getElem?_getD]; exact fun q hq => app_edge3 (by simpa using hq) (by intro j hj; rcases (show j = 0 ∨ j = 1 ∨ j = 2 by omega) with rfl | rfl | rfl <;> first | rfl | exact congrArg (AVal.int .i64) hosa | (rw [hcsa]; rfl)))
   rw [hcsa] at hb168
   obtain rfl : z = (chL g l (g.edges.getD k de).to.toNat).length := (by omega)
   refine zx (ztx (zbx (zn (zbn (zrP ?_)))))
   refine zn ?_
   refine round_end (k + 1) (by omega) (by omega) ?_
   exact zi (e := by rw [← edP_all]; simp [hG, List.getD_cons_zero, List.getD_cons_succ, -List.getD_eq_getElem?_getD]) (h := by rw [← edP_all]; simp [hG, List.getD_cons_zero, List.getD_cons_succ, -List.getD_eq_getElem?_getD])
 obtain rfl : k = g.edges.length := (by omega)
 have hedl := edA_len hr hv g.edges.length (Nat.le_refl _)
 have hpal := hvA_len (g := g) (v := v) (m := m) (l := l) g.states.toNat
 have hof := off_le900 hr hv g.states.toNat (Nat.le_refl _)
 refine zx (ztx (zbx (zs (zs ?_))))
 refine awpS_wk (st2 := ⟨[(4, .ptr (0, 0) 0 0), (8, .ptr (1, 0) 0 0), (15, ints (hvA g v m l g.states.toNat)), (16, ints (parA g l g.states.toNat)), (27, edgesC (edA g l g.edges.length))], [(0, .one (.arr 1 3 (fun _ => grF g))), (1, .one (.arr 1 3 (fun _ j => [.int .i64 0, .int .i64 0, .nils].getD j .any)))], 2⟩) ?_ ?_
 · exact zwP (id) (fun k => k == 2) (fun _ => false)
 refine zrP ?_
 refine zy (fun hb196 => ?_) fun hb196 => ?_
 · refine zs (zrP ?_)
   refine zt ?_
   refine RetOK_of ?_
   simp [hG, List.getD_cons_zero, List.getD_cons_succ, -List.getD_eq_getElem?_getD, pureOp]
   obtain ⟨e1, e2, e3, e4⟩ := apl_2 (g := g) (v := v) (m := m) (l := l) hb39 (by omega); rw [e1, e2, e3, e4]; exact ⟨⟨rfl, rfl, rfl⟩, rfl, rfl, rfl⟩
 have hnl : ¬ (64 < offA g l g.states.toNat ∨ 1024 < (edA g l g.edges.length).length) := (by omega)
 have hmk := (apl_mk hRd hnl).1
 refine zk (zs (zL (zlP 5 ?_)))
 refine zcP cal112 (makeR_c g.labels ((hvA g v m l g.states.toNat).length : Nat) (edA g l g.edges.length) (by omega)) ?_
 refine zlP 6 ?_
 refine zN (zs (zrP ?_))
 refine zt ?_
 refine RetOK_of ?_
 simp [hG, List.getD_cons_zero, List.getD_cons_succ, -List.getD_eq_getElem?_getD, pureOp]
 obtain ⟨e1, e2, e3, e4⟩ := apl_3 (g := g) (v := v) (m := m) (l := l) hb39 hnl; rw [← hpal] at hmk; rw [e1, e2, e3, e4, hmk]; exact ⟨⟨rfl, rfl, Clo.le _ Clo_edgesC⟩, Clo.le _ Clo_ints, Clo.le _ Clo_ints, rfl⟩
end Go.Proofs.YtchjjiedcpfniaaGreatDoor
