/- Parts of the proof: WL. -/
import Derived.Test.YtchjjiedcpfniaaGreatDoorK16
import Derived.Test.YtchjjiedcpfniaaGreatDoorK27
namespace Go.Proofs.YtchjjiedcpfniaaGreatDoor
set_option linter.unusedSimpArgs false
set_option linter.unusedVariables false
open Go Go.Lift Go.Proofs
@[simp] theorem delH_succ {h : Heap} {k i : Nat} : delH h (k, i + 1) = h.map (fun e => if e.1 = k then (e.1, e.2.del i) else e) := rfl
@[simp] theorem del_one {o : HObj} {i : Nat} : (HEnt.one o).del i = .one o := rfl
@[simp] theorem del_fam {o : HObj} {r : Nat → Option HObj} {i : Nat} : (HEnt.fam o r).del i = .fam o (fun j => if j = i then none else r j) := rfl
section
variable {g : Gr} {v : List Int} {m : Int} {l : List Spl}
theorem off_le900 (hr : RndOK l) (hv : gcheck g = 0) : ∀ n, n ≤ g.states.toNat → offA g l n ≤ n * 900
  | 0, _ => Nat.le_refl _
  | n + 1, h => by
    have h1 := off_le900 hr hv n (by omega)
    have h2 := (prS_len hr hv (s := n) (by omega)).1
    rw [offA_succ]
    omega
theorem edA_zero : edA g l 0 = [] := rfl
theorem edA_len (hr : RndOK l) (hv : gcheck g = 0) : ∀ n, n ≤ g.edges.length → (edA g l n).length ≤ n * 900
  | 0, _ => Nat.le_refl _
  | n + 1, h => by
    have h1 := edA_len hr hv n (by omega)
    have hb := edge_at hv (show n < g.edges.length by omega)
    have h2 := (prS_len hr hv (s := (g.edges.getD n de).to.toNat) (by omega)).1
    unfold edA
    rw [List.length_append, List.length_map, chL_len]
    omega
theorem edP_len {i k : Nat} (h : k ≤ (chL g l (g.edges.getD i de).to.toNat).length) : (edP g l i k).length = (edA g l i).length + k := by
  unfold edP
  rw [List.length_append, List.length_map, List.length_take]
  omega
theorem chAtP_own {s i : Nat} : (chAtP g l s i s).length = i := by
  unfold chAtP
  rw [if_neg (Nat.lt_irrefl _), if_pos rfl, chP_len]
def chsL (g : Gr) (l : List Spl) : List (List Int) := (List.range g.states.toNat).map (chL g l)
def owsL (g : Gr) (l : List Spl) : List Int := (List.range g.edges.length).map (ownE g l)
theorem chsL_len : (chsL g l).length = g.states.toNat := by simp [chsL]
theorem owsL_len : (owsL g l).length = g.edges.length := by simp [owsL]
theorem chsL_at {s : Nat} (h : s < g.states.toNat) : (chsL g l).getD s [] = chL g l s := by simp [chsL, List.getD, h]
theorem owsL_at {k : Nat} (h : k < g.edges.length) : (owsL g l).getD k 0 = ownE g l k := by simp [owsL, List.getD, h]
theorem ch_all {i : Nat} (h : i < (chsL g l).length) : (chsL g l).getD i [] = chAt g l g.states.toNat i := by
  rw [chsL_len] at h
  rw [chsL_at h, chAt_all h]
noncomputable def aplG (g : Gr) (v : List Int) (m : Int) (l : List Spl) : Gr := if aplN g v m l = 0 then splG g l else ⟨0, 0, []⟩
noncomputable def aplW (g : Gr) (v : List Int) (m : Int) (l : List Spl) : List Int := if aplN g v m l = 0 then hvA g v m l g.states.toNat else []
noncomputable def aplP (g : Gr) (v : List Int) (m : Int) (l : List Spl) : List Int := if aplN g v m l = 0 then parA g l g.states.toNat else []
theorem apl_1 (h : rndN g v m l ≠ 0) : aplG g v m l = ⟨0, 0, []⟩ ∧ aplW g v m l = [] ∧ aplP g v m l = [] ∧ aplN g v m l = rndN g v m l := by
  have e : aplN g v m l = rndN g v m l := if_pos h
  unfold aplG aplW aplP
  rw [e]
  exact ⟨if_neg h, if_neg h, if_neg h, rfl⟩
theorem apl_2 (h : rndN g v m l = 0) (h2 : 64 < offA g l g.states.toNat ∨ 1024 < (edA g l g.edges.length).length) : aplG g v m l = ⟨0, 0, []⟩ ∧ aplW g v m l = [] ∧ aplP g v m l = [] ∧ aplN g v m l = 4 := by
  have e : aplN g v m l = 4 := by unfold aplN aplL; rw [if_neg (fun h3 => h3 h), if_pos h2]
  unfold aplG aplW aplP
  rw [e]
  exact ⟨rfl, rfl, rfl, rfl⟩
theorem apl_3 (h : rndN g v m l = 0) (h2 : ¬ (64 < offA g l g.states.toNat ∨ 1024 < (edA g l g.edges.length).length)) : aplG g v m l = splG g l ∧ aplW g v m l = hvA g v m l g.states.toNat ∧ aplP g v m l = parA g l g.states.toNat ∧ aplN g v m l = 0 := by
  have e : aplN g v m l = 0 := by unfold aplN aplL; rw [if_neg (fun h3 => h3 h), if_neg h2]
  unfold aplG aplW aplP
  exact ⟨if_pos e, if_pos e, if_pos e, e⟩
end
set_option maxRecDepth 100000 in
set_option maxHeartbeats 2000000 in
theorem applyC_c (g : Gr) (v : List Int) (m : Int) (l : List Spl) (hr : RndOK l) : PC Tryz.prog 62 [.agg 3 (grF g), ints v, .int .i64 m, spls l] (.tup 4 (fun j => [.agg 3 (grF (aplG g v m l)), ints (aplW g v m l), ints (aplP g v m l), .int .i64 (aplN g v m l)].getD j .any)) := by
 have hrl := hr.len
 refine zp Tryz.func62 fun G hG hR => ?_
 refine zs (zrP ?_)
 refine zs (zs (zL (zlP 4 ?_)))
 refine zcP cal82 (rndC_c g v m l hr) ?_
 refine zlP 1 ?_
 refine zN (zs (zrP ?_))
 refine zy (fun hb40 => ?_) fun hb40 => ?_
 · refine zs (zrP ?_)
   refine zt ?_
   refine RetOK_of ?_
   simp [hG, List.getD_cons_zero, List.getD_cons_succ, -List.getD_eq_getElem?_getD, pureOp]
   obtain ⟨e1, e2, e3, e4⟩ := apl_1 (g := g) (v := v) (m := m) (l := l) hb40; rw [e1, e2, e3, e4]; exact ⟨⟨rfl, rfl, rfl⟩, rfl, rfl, rfl⟩
 have hz := rnd_zero hb40
 obtain ⟨hv, hm, hl, hbx⟩ := vecN_zero (eigN_zero (baseN_zero hz.1).1).1
 have hst := (gcheck_valid hv).1.st
 have hed := (gcheck_valid hv).1.ed
 have hRd : Rd g v m l := ⟨hr, hb40⟩
 have hsts : (g.states.toNat : Int) = g.states := (by omega)
 refine zk (zs (zrP ?_))
 refine zs (zrP ?_)
 refine zs (zrP ?_)
 refine zs (zs (zrP ?_))
 refine zb ?_
 refine awpS_loop (α := Nat) (fun s => ⟨[(1, ints v), (2, .int .i64 m), (3, spls l), (4, .ptr (0, 0) 0 0), (8, .ptr (1, 0) 0 0), (13, .sl (4, 0) 0 (parA g l s).length), (14, .sl (5, 0) 0 (hvA g v m l s).length), (15, .sl (2, 0) 0 g.states.toNat), (16, .sl (3, 0) 0 g.edges.length), (51, .int .i64 g.states), (52, .int .i64 (s : Nat))], [(0, .one (.arr 1 3 (fun _ => grF g))), (1, .one (.arr 1 3 (fun _ j => [.int .i64 0, .int .i64 0, .nils].getD j .any))), (2, .fam (.arr g.states.toNat 1 (fun j _ => .sl (2, j + 1) 0 (chAt g l s j).length)) (fun j => some (.arr (chAt g l s j).length 1 (fun q _ => .int .i64 ((chAt g l s j).getD q 0))))), (3, .one (.arr g.edges.length 1 (fun k _ => .int .i64 (ownL (asgA g l s) k)))), (4, .one (.arr (parA g l s).length 1 (fun q _ => .int .i64 ((parA g l s).getD q 0)))), (5, .one (.arr (hvA g v m l s).length 1 (fun q _ => .int .i64 ((hvA g v m l s).getD q 0))))], 6⟩) (fun s => s ≤ g.states.toNat) (fun s => g.states.toNat - s) (0) (Nat.zero_le _) ?_ ?_
 · refine wk_ofI (id) (fun _ => false) (fun d => decide ((d.1 = 2 ∧ 0 < d.2) ∨ d.1 = 4 ∨ d.1 = 5)) ?_ ?_ ?_ (Nat.zero_le _) (fun d hd => absurd hd (Nat.not_lt_zero _))
   · simp [hG, parP_all, hvP_all, chAtP_all, parP_zero, hvP_zero, chAtP_zero, asgP_zero, asgP_all, asgA_succ, chAt_zero, offA_zero, parA_zero, hvA_zero, asgA_zero, asgS_zero, ownL_nil, List.append_nil, List.getD_cons_zero, List.getD_cons_succ, -List.getD_eq_getElem?_getD]
   · simp [hG, parP_all, hvP_all, chAtP_all, parP_zero, hvP_zero, chAtP_zero, asgP_zero, asgP_all, asgA_succ, chAt_zero, offA_zero, parA_zero, hvA_zero, asgA_zero, asgS_zero, ownL_nil, List.append_nil, List.getD_cons_zero, List.getD_cons_succ, -List.getD_eq_getElem?_getD]
   exact fun id id' _ _ _ _ h => h
 rintro s hs
 refine zs (zrP ?_)
 refine zs (zy (fun hb53 => ?_) fun hb53 => ?_)
 · have hsn : s < g.states.toNat := (by omega)
   have hps := place_split (l := l) (s := s)
   have hpll := prS_len hr hv (s := s) (by omega)
   refine zk (zs (zb (zs (zrP ?_))))
   refine zs (zL (zlP 2 ?_))
   refine zcP cal28 (outC_c g (s : Nat)) ?_
   refine zlP 5 ?_
   refine zN (zs ?_)
   refine awpS_cut (α := Unit) (fun _u => ⟨[(1, ints v), (2, .int .i64 m), (3, spls l), (4, .ptr (0, 0) 0 0), (8, .ptr (1, 0) 0 0), (13, .sl (4, 0) 0 (parA g l s).length), (14, .sl (5, 0) 0 (hvA g v m l s).length), (15, .sl (2, 0) 0 g.states.toNat), (16, .sl (3, 0) 0 g.edges.length), (17, .ptr (6, 0) 0 0), (20, rowsI [outR g (s : Nat)]), (21, ints [v.getD s 0]), (51, .int .i64 g.states), (52, .int .i64 (s : Nat))], [(0, .one (.arr 1 3 (fun _ => grF g))), (1, .one (.arr 1 3 (fun _ j => [.int .i64 0, .int .i64 0, .nils].getD j .any))), (2, .fam (.arr g.states.toNat 1 (fun j _ => .sl (2, j + 1) 0 (chAt g l s j).length)) (fun j => some (.arr (chAt g l s j).length 1 (fun q _ => .int .i64 ((chAt g l s j).getD q 0))))), (3, .one (.arr g.edges.length 1 (fun k _ => .int .i64 (ownL (asgA g l s) k)))), (4, .one (.arr (parA g l s).length 1 (fun q _ => .int .i64 ((parA g l s).getD q 0)))), (5, .one (.arr (hvA g v m l s).length 1 (fun q _ => .int .i64 ((hvA g v m l s).getD q 0)))), (6, .one (.arr 1 1 (fun _ _ => .int .i64 (s : Nat))))], 7⟩) (fun _u => True) ?_ ?_ (by simp)
   · refine awpS_draw hR mixed [] ⟨[], [], []⟩ fun mu0 => ?_
     refine zaP [0, 2, 3, 4, 5] [] 4 [5, 4, 3, 2, 0] ?_
     refine awpA_two (fuel := 3) (i := 1) (k := 6) (by decide +kernel) ?_ ?_
     · refine zoP ?_
       refine zaP [7] [] 2 [7, 1, 5, 4, 3, 2, 0] ?_
       refine awpA_only (fuel := 1) (i := 6) (by decide +kernel) ?_
       refine zoP ?_
       refine zaP [8] [] 0 [8, 6, 7, 1, 5, 4, 3, 2, 0] ?_
       refine awpA_done (by decide +kernel) ?_
       refine zn ?_
       refine cut_end (()) (trivial) ?_
       exact zw (id) (fun k => k == 7 || k == 8) (fun _ => false) (h := by simp [hG, List.getD_cons_zero, List.getD_cons_succ, -List.getD_eq_getElem?_getD, pureOp])
     refine zoP ?_
     refine awpA_only (fuel := 2) (i := 1) (by decide +kernel) ?_
     refine zoP ?_
     refine zaP [7, 8] [] 0 [8, 7, 1, 6, 5, 4, 3, 2, 0] ?_
     refine awpA_done (by decide +kernel) ?_
     refine zn ?_
     refine cut_end (()) (trivial) ?_
     exact zw (id) (fun k => k == 7 || k == 8) (fun _ => false) (h := by simp [hG, List.getD_cons_zero, List.getD_cons_succ, -List.getD_eq_getElem?_getD, pureOp])
   rintro _ _
   refine zs (zs (zL (zlP 2 ?_)))
   refine awpL_callB (mem [6]) cal83 (by simp [flat]) rfl rfl (fun _ => rfl) (fun hg => indexS_c l (fun x => decide (x.st = ((s : Nat) : Int))) 84 1 (fun _ => .vptr 1 (fun _ => .int .i64 ((s : Nat) : Int)) 0) hrl cal84 (fun _ => by simp) fun x _ => ofState_c (s : Nat) x) (fun hg => ?_) (fun hg => ?_) fun K hK => ?_
   · simp [hG, List.getD_cons_zero, List.getD_cons_succ, -List.getD_eq_getElem?_getD, pureOp]
   · simp [hG, List.getD_cons_zero, List.getD_cons_succ, -List.getD_eq_getElem?_getD, pureOp]
   simp [hG, List.getD_cons_zero, List.getD_cons_succ, -List.getD_eq_getElem?_getD, pureOp]
   refine hK _ ?_
   clear K hK
   refine zlP 1 ?_
   refine zN (zs (zrP ?_))
   refine awpS_cut (α := Unit) (fun _u => ⟨[(1, ints v), (2, .int .i64 m), (3, spls l), (4, .ptr (0, 0) 0 0), (8, .ptr (1, 0) 0 0), (13, .sl (4, 0) 0 (parA g l s).length), (14, .sl (5, 0) 0 (hvA g v m l s).length), (15, .sl (2, 0) 0 g.states.toNat), (16, .sl (3, 0) 0 g.edges.length), (17, .ptr (6, 0) 0 0), (20, rowsI (prS g l s)), (21, ints (wsS g v m l s)), (51, .int .i64 g.states), (52, .int .i64 (s : Nat))], [(0, .one (.arr 1 3 (fun _ => grF g))), (1, .one (.arr 1 3 (fun _ j => [.int .i64 0, .int .i64 0, .nils].getD j .any))), (2, .fam (.arr g.states.toNat 1 (fun j _ => .sl (2, j + 1) 0 (chAt g l s j).length)) (fun j => some (.arr (chAt g l s j).length 1 (fun q _ => .int .i64 ((chAt g l s j).getD q 0))))), (3, .one (.arr g.edges.length 1 (fun k _ => .int .i64 (ownL (asgA g l s) k)))), (4, .one (.arr (parA g l s).length 1 (fun q _ => .int .i64 ((parA g l s).getD q 0)))), (5, .one (.arr (hvA g v m l s).length 1 (fun q _ => .int .i64 ((hvA g v m l s).getD q 0)))), (6, .one (.arr 1 1 (fun _ _ => .int .i64 (s : Nat))))], 7⟩) (fun _u => True) ?_ ?_ (by simp)
   · refine zy (fun hb72 => ?_) fun hb72 => ?_
     · obtain ⟨k, hk, hpk, hsp⟩ : ∃ k, k < l.length ∧ placeG l (fun x => decide (x.st = ((s : Nat) : Int))) = k ∧ splO l s = some (l.getD k ds) := (by rcases hps with h | h; exact h; omega)
       have hxm := getD_mem (d := ds) hk
       have hso := rnd_spl hr hb40 hxm
       have hpr : prS g l s = (l.getD k ds).parts := (by unfold prS; rw [hsp])
       have hwr : wsS g v m l s = wtL g v m (l.getD k ds) := (by unfold wsS; rw [hsp])
       rw [hpk]
       refine zs (zrP ?_)
       refine awpS_draw hR mixed [] ⟨[], [], []⟩ fun mu0 => ?_
       refine zaP [0, 1, 2, 3, 4, 5, 6] [] 5 [6, 5, 4, 3, 2, 1, 0] ?_
       refine awpA_only (fuel := 4) (i := 7) (by decide +kernel) ?_
       refine zeP cal85 (weights_c g v m (l.getD k ds) hv hl hbx hm hso.1 hso.2) ?_
       refine zaP [8, 9, 10, 11] [] 0 [11, 10, 9, 8, 7, 6, 5, 4, 3, 2, 1, 0] ?_
       refine awpA_done (by decide +kernel) ?_
       refine zn ?_
       refine cut_end (()) (trivial) ?_
       exact zwP (id) (fun k => k == 7 || k == 8) (fun _ => false) (e := by rw [hpr, hwr]; simp [hG, List.getD_cons_zero, List.getD_cons_succ, -List.getD_eq_getElem?_getD])
     have hsp : splO l s = none := (by rcases hps with ⟨k, h1, h2, h3⟩ | h; omega; exact h.2)
     have hpr : prS g l s = [outR g s] := (by unfold prS; rw [hsp])
     have hwr : wsS g v m l s = [v.getD s 0] := (by unfold wsS; rw [hsp])
     refine zk (zn ?_)
     refine cut_end (()) (trivial) ?_
     exact zwP (id) (fun k => k == 7 || k == 8) (fun _ => false) (e := by rw [hpr, hwr]; simp [hG, List.getD_cons_zero, List.getD_cons_succ, -List.getD_eq_getElem?_getD])
   rintro _ _
   refine zs (zrP ?_)
   refine zb ?_
   refine awpS_loop (α := Nat) (fun i => ⟨[(1, ints v), (2, .int .i64 m), (3, spls l), (4, .ptr (0, 0) 0 0), (8, .ptr (1, 0) 0 0), (13, .sl (4, 0) 0 (parP g l s i).length), (14, .sl (5, 0) 0 (hvP g v m l s i).length), (15, .sl (2, 0) 0 g.states.toNat), (16, .sl (3, 0) 0 g.edges.length), (17, .ptr (6, 0) 0 0), (21, ints (wsS g v m l s)), (51, .int .i64 g.states), (52, .int .i64 (s : Nat)), (89, rowsI (prS g l s)), (90, .int .i64 (prS g l s).length), (91, .int .i64 (i : Nat))], [(0, .one (.arr 1 3 (fun _ => grF g))), (1, .one (.arr 1 3 (fun _ j => [.int .i64 0, .int .i64 0, .nils].getD j .any))), (2, .fam (.arr g.states.toNat 1 (fun j _ => .sl (2, j + 1) 0 (chAtP g l s i j).length)) (fun j => some (.arr (chAtP g l s i j).length 1 (fun q _ => .int .i64 ((chAtP g l s i j).getD q 0))))), (3, .one (.arr g.edges.length 1 (fun k _ => .int .i64 (ownL (asgA g l s ++ asgS g l s i) k)))), (4, .one (.arr (parP g l s i).length 1 (fun q _ => .int .i64 ((parP g l s i).getD q 0)))), (5, .one (.arr (hvP g v m l s i).length 1 (fun q _ => .int .i64 ((hvP g v m l s i).getD q 0)))), (6, .one (.arr 1 1 (fun _ _ => .int .i64 (s : Nat))))], 7⟩) (fun i => i ≤ (prS g l s).length) (fun i => (prS g l s).length - i) (0) (Nat.zero_le _) ?_ ?_
   · exact zi (e := by simp [hG, parP_all, hvP_all, chAtP_all, parP_zero, hvP_zero, chAtP_zero, asgP_zero, asgP_all, asgA_succ, chAt_zero, offA_zero, parA_zero, hvA_zero, asgA_zero, asgS_zero, ownL_nil, List.append_nil, List.getD_cons_zero, List.getD_cons_succ, -List.getD_eq_getElem?_getD]) (h := by simp [hG, parP_all, hvP_all, chAtP_all, parP_zero, hvP_zero, chAtP_zero, asgP_zero, asgP_all, asgA_succ, chAt_zero, offA_zero, parA_zero, hvA_zero, asgA_zero, asgS_zero, ownL_nil, List.append_nil, List.getD_cons_zero, List.getD_cons_succ, -List.getD_eq_getElem?_getD])
   rintro i hi
   refine zs (zrP ?_)
   refine zs (zy (fun hb92 => ?_) fun hb92 => ?_)
   · have hpl1 := hpll.2 _ (getD_mem (d := ([] : List Int)) (show i < (prS g l s).length by omega))
     refine zk (zs (zb (zs (zrP ?_))))
     refine zs (zs (zrP ?_))
     refine zb ?_
     refine awpS_loop (α := Nat) (fun q => ⟨[(1, ints v), (2, .int .i64 m), (3, spls l), (4, .ptr (0, 0) 0 0), (8, .ptr (1, 0) 0 0), (13, .sl (4, 0) 0 (parP g l s i).length), (14, .sl (5, 0) 0 (hvP g v m l s i).length), (15, .sl (2, 0) 0 g.states.toNat), (16, .sl (3, 0) 0 g.edges.length), (17, .ptr (6, 0) 0 0), (21, ints (wsS g v m l s)), (23, .int .i64 (i : Nat)), (51, .int .i64 g.states), (52, .int .i64 (s : Nat)), (89, rowsI (prS g l s)), (90, .int .i64 (prS g l s).length), (91, .int .i64 (i : Nat)), (96, ints ((prS g l s).getD i [])), (97, .int .i64 ((prS g l s).getD i []).length), (98, .int .i64 (q : Nat))], [(0, .one (.arr 1 3 (fun _ => grF g))), (1, .one (.arr 1 3 (fun _ j => [.int .i64 0, .int .i64 0, .nils].getD j .any))), (2, .fam (.arr g.states.toNat 1 (fun j _ => .sl (2, j + 1) 0 (chAtP g l s i j).length)) (fun j => some (.arr (chAtP g l s i j).length 1 (fun q _ => .int .i64 ((chAtP g l s i j).getD q 0))))), (3, .one (.arr g.edges.length 1 (fun k _ => .int .i64 (ownL (asgP g l s i q) k)))), (4, .one (.arr (parP g l s i).length 1 (fun q _ => .int .i64 ((parP g l s i).getD q 0)))), (5, .one (.arr (hvP g v m l s i).length 1 (fun q _ => .int .i64 ((hvP g v m l s i).getD q 0)))), (6, .one (.arr 1 1 (fun _ _ => .int .i64 (s : Nat))))], 7⟩) (fun q => q ≤ ((prS g l s).getD i []).length) (fun q => ((prS g l s).getD i []).length - q) (0) (Nat.zero_le _) ?_ ?_
     · exact zi (e := by simp [hG, parP_all, hvP_all, chAtP_all, parP_zero, hvP_zero, chAtP_zero, asgP_zero, asgP_all, asgA_succ, chAt_zero, offA_zero, parA_zero, hvA_zero, asgA_zero, asgS_zero, ownL_nil, List.append_nil, List.getD_cons_zero, List.getD_cons_succ, -List.getD_eq_getElem?_getD]) (h := by simp [hG, parP_all, hvP_all, chAtP_all, parP_zero, hvP_zero, chAtP_zero, asgP_zero, asgP_all, asgA_succ, chAt_zero, offA_zero, parA_zero, hvA_zero, asgA_zero, asgS_zero, ownL_nil, List.append_nil, List.getD_cons_zero, List.getD_cons_succ, -List.getD_eq_getElem?_getD])
     rintro q hq
     refine zs (zrP ?_)
     refine zs (zy (fun hb99 => ?_) fun hb99 => ?_)
     · have hqs := asgP_succ (g := g) (l := l) (s := s) (i := i) (q := q) (by omega)
       have hqb := prS_box hr hb40 (s := s) (by omega) _ (getD_mem (d := ([] : List Int)) (show i < (prS g l s).length by omega)) _ (getD_mem (d := (0 : Int)) (show q < ((prS g l s).getD i []).length by omega))
       have hpln := parP_len (g := g) (l := l) (s := s) (i := i)
       refine zk (zs (zb (zs (zrP ?_))))
       refine zrP ?_
       refine zn (zbn (zrP ?_))
       refine zn ?_
       refine round_end (q + 1) (by omega) (by omega) ?_
       exact zi (e := by simp [hG, parP_all, hvP_all, chAtP_all, parP_zero, hvP_zero, chAtP_zero, asgP_zero, asgP_all, asgA_succ, chAt_zero, offA_zero, parA_zero, hvA_zero, asgA_zero, asgS_zero, ownL_nil, List.append_nil, List.getD_cons_zero, List.getD_cons_succ, -List.getD_eq_getElem?_getD]) (h := by simp [hG, parP_all, hvP_all, chAtP_all, parP_zero, hvP_zero, chAtP_zero, asgP_zero, asgP_all, asgA_succ, chAt_zero, offA_zero, parA_zero, hvA_zero, asgA_zero, asgS_zero, ownL_nil, List.append_nil, List.getD_cons_zero, List.getD_cons_succ, -List.getD_eq_getElem?_getD]; exact fun k hk => by rw [hqs, ownL_snoc, parP_len]; by_cases h : k = (((prS g l s).getD i []).getD q 0).toNat; (rw [if_pos h, if_pos (by omega)]); (rw [if_neg h, if_neg (by omega)]))
     obtain rfl : q = ((prS g l s).getD i []).length := (by omega)
     have hof := off_le900 hr hv s (by omega)
     have hpln := parP_len (g := g) (l := l) (s := s) (i := i)
     have hhln := hvP_len (g := g) (v := v) (m := m) (l := l) (s := s) (i := i) (by omega)
     have hchl := chAtP_own (g := g) (l := l) (s := s) (i := i)
     have hwsl := wsS_len (g := g) (v := v) (m := m) (l := l) (s := s)
     have hchs := fun j => chAtP_succ (g := g) (l := l) (s := s) (i := i) (j := j)
     have hpas := parP_succ (g := g) (l := l) (s := s) (i := i)
     have hhvs := hvP_succ (g := g) (v := v) (m := m) (l := l) (s := s) (i := i) (by omega)
     refine zx (ztx (zbx (zs ?_)))
     refine awpS_cut (α := Unit) (fun _u => ⟨[(1, ints v), (2, .int .i64 m), (3, spls l), (4, .ptr (0, 0) 0 0), (8, .ptr (1, 0) 0 0), (13, .sl (4, 0) 0 (parP g l s i).length), (14, .sl (5, 0) 0 (hvP g v m l s i).length), (15, .sl (2, 0) 0 g.states.toNat), (16, .sl (3, 0) 0 g.edges.length), (17, .ptr (6, 0) 0 0), (21, ints (wsS g v m l s)), (23, .int .i64 (i : Nat)), (51, .int .i64 g.states), (52, .int .i64 (s : Nat)), (89, rowsI (prS g l s)), (90, .int .i64 (prS g l s).length), (91, .int .i64 (i : Nat))], [(0, .one (.arr 1 3 (fun _ => grF g))), (1, .one (.arr 1 3 (fun _ j => [.int .i64 0, .int .i64 0, .nils].getD j .any))), (2, .fam (.arr g.states.toNat 1 (fun j _ => .sl (2, j + 1) 0 (chAtP g l s (i + 1) j).length)) (fun j => some (.arr (chAtP g l s (i + 1) j).length 1 (fun q _ => .int .i64 ((chAtP g l s (i + 1) j).getD q 0))))), (3, .one (.arr g.edges.length 1 (fun k _ => .int .i64 (ownL (asgA g l s ++ asgS g l s (i + 1)) k)))), (4, .one (.arr (parP g l s i).length 1 (fun q _ => .int .i64 ((parP g l s i).getD q 0)))), (5, .one (.arr (hvP g v m l s i).length 1 (fun q _ => .int .i64 ((hvP g v m l s i).getD q 0)))), (6, .one (.arr 1 1 (fun _ _ => .int .i64 (s : Nat))))], 7⟩) (fun _u => True) ?_ ?_ (by simp)
     · refine awpS_draw hR mixed [] ⟨[11], [9], [(2, 0), (6, 0)]⟩ fun mu0 => ?_
       refine zaP [0, 1, 2, 3, 4, 5, 6, 7] [] 4 [7, 6, 5, 4, 3, 2, 1, 0] ?_
       refine awpA_only (fuel := 3) (i := 8) (by decide +kernel) ?_
       refine zoP ?_
       refine awpA_only (fuel := 2) (i := 9) (by decide +kernel) ?_
       refine zoP ?_
       refine zaP [10] [] 1 [10, 9, 8, 7, 6, 5, 4, 3, 2, 1, 0] ?_
       refine awpA_only (fuel := 0) (i := 11) (by decide +kernel) ?_
       refine zoP ?_
       refine awpA_done (by decide +kernel) ?_
       refine zn ?_
       refine cut_end (()) (trivial) ?_
       refine wk_ofI (fun d => if d = (2, s + 1) then (8, 0) else d) (fun _ => false) (fun _ => false) ?_ ?_ ?_ (Nat.zero_le _) (fun d hd => absurd hd (Nat.not_lt_zero _))
       · simp [hG, parP_all, hvP_all, chAtP_all, parP_zero, hvP_zero, chAtP_zero, asgP_zero, asgP_all, asgA_succ, chAt_zero, offA_zero, parA_zero, hvA_zero, asgA_zero, asgS_zero, ownL_nil, List.append_nil, List.getD_cons_zero, List.getD_cons_succ, -List.getD_eq_getElem?_getD]
       · simp only [hchs]; simp [hG, parP_all, hvP_all, chAtP_all, parP_zero, hvP_zero, chAtP_zero, asgP_zero, asgP_all, asgA_succ, chAt_zero, offA_zero, parA_zero, hvA_zero, asgA_zero, asgS_zero, ownL_nil, List.append_nil, List.getD_cons_zero, List.getD_cons_succ, -List.getD_eq_getElem?_getD]; exact ⟨fun j _ => .inl (by by_cases h : j = s; (subst h; simp); (simp [h])), fun j => (by by_cases h : j = s; (subst h; simp [HLe, -List.getD_eq_getElem?_getD]; exact fun q hq => app_oneI (by simp [hpln]) hq); (simp [HLe, h]))⟩
       intro d d' h1 h2 _ _ h; (repeat' split at h) <;> first | (simp_all; done) | (exact h) | (subst h; simp [lkH] at h2; done) | (subst h; simp [lkH] at h1; done)
     rintro _ _
     refine awpS_draw hR mixed [] ⟨[], [3, 10], [(6, 0)]⟩ fun mu0 => ?_
     refine zaP [0, 1, 4, 5, 6, 7, 8] [] 6 [8, 7, 6, 5, 4, 1, 0] ?_
     refine awpA_two (fuel := 5) (i := 2) (k := 9) (by decide +kernel) ?_ ?_
     · refine zoP ?_
       refine awpA_two (fuel := 4) (i := 3) (k := 9) (by decide +kernel) ?_ ?_
       · refine zoP ?_
         refine awpA_only (fuel := 3) (i := 9) (by decide +kernel) ?_
         refine zoP ?_
         refine awpA_only (fuel := 2) (i := 10) (by decide +kernel) ?_
         refine zoP ?_
         refine zaP [11, 12] [] 0 [12, 11, 10, 9, 3, 2, 8, 7, 6, 5, 4, 1, 0] ?_
         refine awpA_done (by decide +kernel) ?_
         refine zn (zbn (zrP ?_))
         refine zn ?_
         refine round_end (i + 1) (by omega) (by omega) ?_
         exact zw (fun k => if k = 4 then 8 else if k = 5 then 10 else k) (fun _ => false) (fun _ => false) (e := by rw [hpas, hhvs]; simp [hG, parP_all, hvP_all, chAtP_all, parP_zero, hvP_zero, chAtP_zero, asgP_zero, asgP_all, asgA_succ, chAt_zero, offA_zero, parA_zero, hvA_zero, asgA_zero, asgS_zero, ownL_nil, List.append_nil, List.getD_cons_zero, List.getD_cons_succ, -List.getD_eq_getElem?_getD]) (h := by rw [hpas, hhvs]; simp [hG, parP_all, hvP_all, chAtP_all, parP_zero, hvP_zero, chAtP_zero, asgP_zero, asgP_all, asgA_succ, chAt_zero, offA_zero, parA_zero, hvA_zero, asgA_zero, asgS_zero, ownL_nil, List.append_nil, List.getD_cons_zero, List.getD_cons_succ, -List.getD_eq_getElem?_getD]; exact ⟨fun q hq => app_oneI rfl hq, fun q hq => app_oneI rfl hq⟩)
       refine zoP ?_
       refine awpA_only (fuel := 3) (i := 3) (by decide +kernel) ?_
       refine zoP ?_
       refine awpA_only (fuel := 2) (i := 10) (by decide +kernel) ?_
       refine zoP ?_
       refine zaP [11, 12] [] 0 [12, 11, 10, 3, 9, 2, 8, 7, 6, 5, 4, 1, 0] ?_
       refine awpA_done (by decide +kernel) ?_
       refine zn (zbn (zrP ?_))
       refine zn ?_
       refine round_end (i + 1) (by omega) (by omega) ?_
       exact zw (fun k => if k = 4 then 9 else if k = 5 then 10 else k) (fun _ => false) (fun _ => false) (e := by rw [hpas, hhvs]; simp [hG, parP_all, hvP_all, chAtP_all, parP_zero, hvP_zero, chAtP_zero, asgP_zero, asgP_all, asgA_succ, chAt_zero, offA_zero, parA_zero, hvA_zero, asgA_zero, asgS_zero, ownL_nil, List.append_nil, List.getD_cons_zero, List.getD_cons_succ, -List.getD_eq_getElem?_getD]) (h := by rw [hpas, hhvs]; simp [hG, parP_all, hvP_all, chAtP_all, parP_zero, hvP_zero, chAtP_zero, asgP_zero, asgP_all, asgA_succ, chAt_zero, offA_zero, parA_zero, hvA_zero, asgA_zero, asgS_zero, ownL_nil, List.append_nil, List.getD_cons_zero, List.getD_cons_succ, -List.getD_eq_getElem?_getD]; exact ⟨fun q hq => app_oneI rfl hq, fun q hq => app_oneI rfl hq⟩)
     refine zoP ?_
     refine awpA_only (fuel := 4) (i := 2) (by decide +kernel) ?_
     refine zoP ?_
     refine awpA_only (fuel := 3) (i := 3) (by decide +kernel) ?_
     refine zoP ?_
     refine awpA_only (fuel := 2) (i := 10) (by decide +kernel) ?_
     refine zoP ?_
     refine zaP [11, 12] [] 0 [12, 11, 10, 3, 2, 9, 8, 7, 6, 5, 4, 1, 0] ?_
     refine awpA_done (by decide +kernel) ?_
     refine zn (zbn (zrP ?_))
     refine zn ?_
     refine round_end (i + 1) (by omega) (by omega) ?_
     exact zw (fun k => if k = 4 then 9 else if k = 5 then 10 else k) (fun _ => false) (fun _ => false) (e := by rw [hpas, hhvs]; simp [hG, parP_all, hvP_all, chAtP_all, parP_zero, hvP_zero, chAtP_zero, asgP_zero, asgP_all, asgA_succ, chAt_zero, offA_zero, parA_zero, hvA_zero, asgA_zero, asgS_zero, ownL_nil, List.append_nil, List.getD_cons_zero, List.getD_cons_succ, -List.getD_eq_getElem?_getD]) (h := by rw [hpas, hhvs]; simp [hG, parP_all, hvP_all, chAtP_all, parP_zero, hvP_zero, chAtP_zero, asgP_zero, asgP_all, asgA_succ, chAt_zero, offA_zero, parA_zero, hvA_zero, asgA_zero, asgS_zero, ownL_nil, List.append_nil, List.getD_cons_zero, List.getD_cons_succ, -List.getD_eq_getElem?_getD]; exact ⟨fun q hq => app_oneI rfl hq, fun q hq => app_oneI rfl hq⟩)
   obtain rfl : i = (prS g l s).length := (by omega)
   refine zx (ztx (zbx (zn (zbn (zrP ?_)))))
   refine zn ?_
   refine round_end (s + 1) (by omega) (by omega) ?_
   exact zi (e := by simp [hG, parP_all, hvP_all, chAtP_all, parP_zero, hvP_zero, chAtP_zero, asgP_zero, asgP_all, asgA_succ, chAt_zero, offA_zero, parA_zero, hvA_zero, asgA_zero, asgS_zero, ownL_nil, List.append_nil, List.getD_cons_zero, List.getD_cons_succ, -List.getD_eq_getElem?_getD]) (h := by simp [hG, parP_all, hvP_all, chAtP_all, parP_zero, hvP_zero, chAtP_zero, asgP_zero, asgP_all, asgA_succ, chAt_zero, offA_zero, parA_zero, hvA_zero, asgA_zero, asgS_zero, ownL_nil, List.append_nil, List.getD_cons_zero, List.getD_cons_succ, -List.getD_eq_getElem?_getD])
 obtain rfl : s = g.states.toNat := (by omega)
 refine zx (ztx (zbx (zs ?_)))
 refine awpS_wk (st2 := ⟨[(1, ints v), (4, .ptr (0, 0) 0 0), (8, .ptr (1, 0) 0 0), (13, ints (parA g l g.states.toNat)), (14, ints (hvA g v m l g.states.toNat)), (15, rowsI (chsL g l)), (16, ints (owsL g l))], [(0, .one (.arr 1 3 (fun _ => grF g))), (1, .one (.arr 1 3 (fun _ j => [.int .i64 0, .int .i64 0, .nils].getD j .any)))], 2⟩) ?_ ?_
 · exact zwP (id) (fun k => decide (2 ≤ k)) (fun _ => false) (e := by simp [hG, parP_all, hvP_all, chAtP_all, parP_zero, hvP_zero, chAtP_zero, asgP_zero, asgP_all, asgA_succ, chAt_zero, offA_zero, parA_zero, hvA_zero, asgA_zero, asgS_zero, ownL_nil, List.append_nil, List.getD_cons_zero, List.getD_cons_succ, -List.getD_eq_getElem?_getD]; refine ⟨⟨chsL_len.symm, Nat.le_of_eq chsL_len, fun i hi => by rw [ch_all hi]; exact ⟨rfl, Nat.le_refl _, fun _ _ => rfl⟩⟩, owsL_len.symm, Nat.le_of_eq owsL_len, fun i hi => ?_⟩; rw [owsL_len] at hi; exact (owsL_at hi).symm)
 refine zrP ?_
 refine zs (zs (zrP ?_))
 refine zb ?_
 refine awpS_loop (α := Nat) (fun k => ⟨[(4, .ptr (0, 0) 0 0), (8, .ptr (1, 0) 0 0), (13, ints (parA g l g.states.toNat)), (14, ints (hvA g v m l g.states.toNat)), (15, rowsI (chsL g l)), (16, ints (owsL g l)), (27, .sl (2, 0) 0 (edA g l k).length), (133, edgesC g.edges), (134, .int .i64 g.edges.length), (135, .int .i64 (k : Nat))], [(0, .one (.arr 1 3 (fun _ => grF g))), (1, .one (.arr 1 3 (fun _ j => [.int .i64 0, .int .i64 0, .nils].getD j .any))), (2, .one (.arr (edA g l k).length 3 (fun q j => edgeF ((edA g l k).getD q de) j)))], 3⟩) (fun k => k ≤ g.edges.length) (fun k => g.edges.length - k) (0) (Nat.zero_le _) ?_ ?_
 · exact zw (id) (fun _ => false) (fun k => k == 2) (e := by rw [edA_zero]; simp [hG, List.getD_cons_zero, List.getD_cons_succ, -List.getD_eq_getElem?_getD]) (h := by rw [edA_zero]; simp [hG, List.getD_cons_zero, List.getD_cons_succ, -List.getD_eq_getElem?_getD])
 rintro k hk
 refine zs (zrP ?_)
 refine zs (zy (fun hb136 => ?_) fun hb136 => ?_)
 · have hkl : k < g.edges.length := (by omega)
   have hek := edge_at hv hkl
   have hecl := chL_len (g := g) (l := l) (s := (g.edges.getD k de).to.toNat)
   have hecp := prS_len hr hv (s := (g.edges.getD k de).to.toNat) (by omega)
   have hedl := edA_len hr hv k (by omega)
   have hcsa := chsL_at (g := g) (l := l) (s := (g.edges.getD k de).to.toNat) (by omega)
   have hosa := owsL_at (g := g) (l := l) hkl
   have hcsl := chsL_len (g := g) (l := l)
   have hosl := owsL_len (g := g) (l := l)
   refine zk (zs (zb (zs (zrP ?_))))
   refine zs (zrP ?_)
   refine zb ?_
   refine awpS_loop (α := Nat) (fun z => ⟨[(4, .ptr (0, 0) 0 0), (8, .ptr (1, 0) 0 0), (13, ints (parA g l g.states.toNat)), (14, ints (hvA g v m l g.states.toNat)), (15, rowsI (chsL g l)), (16, ints (owsL g l)), (27, .sl (2, 0) 0 (edP g l k z).length), (28, .int .i64 (k : Nat)), (29, .ptr (3, 0) 0 0), (133, edgesC g.edges), (134, .int .i64 g.edges.length), (135, .int .i64 (k : Nat)), (144, ints (chL g l (g.edges.getD k de).to.toNat)), (145, .int .i64 (chL g l (g.edges.getD k de).to.toNat).length), (146, .int .i64 (z : Nat))], [(0, .one (.arr 1 3 (fun _ => grF g))), (1, .one (.arr 1 3 (fun _ j => [.int .i64 0, .int .i64 0, .nils].getD j .any))), (2, .one (.arr (edP g l k z).length 3 (fun q j => edgeF ((edP g l k z).getD q de) j))), (3, .one (.arr 1 3 (fun _ j => edgeF (g.edges.getD k de) j)))], 4⟩) (fun z => z ≤ (chL g l (g.edges.getD k de).to.toNat).length) (fun z => (chL g l (g.edges.getD k de).to.toNat).length - z) (0) (Nat.zero_le _) ?_ ?_
   · exact zi (e := by rw [edP_zero, hcsa]; simp [hG, List.getD_cons_zero, List.getD_cons_succ, -List.getD_eq_getElem?_getD]) (h := by rw [edP_zero]; simp [hG, List.getD_cons_zero, List.getD_cons_succ, -List.getD_eq_getElem?_getD])
   rintro z hz2
   refine zs (zrP ?_)
   refine zs (zy (fun hb147 => ?_) fun hb147 => ?_)
   · have hqs := edP_succ (g := g) (l := l) (i := k) (k := z) (by omega)
     have hpl2 := edP_len (g := g) (l := l) (i := k) (k := z) (by omega)
     refine zk (zs (zb (zs (zrP ?_))))
     refine awpS_draw hR mixed [] ⟨[], [10], [(3, 0)]⟩ fun mu0 => ?_
     refine zaP [0, 1, 2, 3, 4, 5, 6, 7, 8] [] 3 [8, 7, 6, 5, 4, 3, 2, 1, 0] ?_
     refine awpA_only (fuel := 2) (i := 9) (by decide +kernel) ?_
     refine zoP ?_
     refine awpA_only (fuel := 1) (i := 10) (by decide +kernel) ?_
     refine zoP ?_
     refine zaP [11] [] 0 [11, 10, 9, 8, 7, 6, 5, 4, 3, 2, 1, 0] ?_
     refine awpA_done (by decide +kernel) ?_
     refine zn (zbn (zrP ?_))
     refine zn ?_
     refine round_end (z + 1) (by omega) (by omega) ?_
     exact zw (fun k => if k = 2 then 5 else k) (fun _ => false) (fun _ => false) (e := by rw [hqs]; simp [hG, List.getD_cons_zero, List.getD_cons_succ, -List.getD_eq_getElem?_getD]) (h := by rw [hqs]; simp [hG, List.getD_cons_zero, List.getD_cons_succ, -List.getD_eq_getElem?_getD]; exact fun q hq => app_edge3 (by simpa using hq) (by intro j hj; rcases (show j = 0 ∨ j = 1 ∨ j = 2 by omega) with rfl | rfl | rfl <;> first | rfl | exact congrArg (AVal.int .i64) hosa))
   obtain rfl : z = (chL g l (g.edges.getD k de).to.toNat).length := (by omega)
   refine zx (ztx (zbx (zn (zbn (zrP ?_)))))
   refine zn ?_
   refine round_end (k + 1) (by omega) (by omega) ?_
   exact zi (e := by rw [← edP_all]; simp [hG, List.getD_cons_zero, List.getD_cons_succ, -List.getD_eq_getElem?_getD]) (h := by rw [← edP_all]; simp [hG, List.getD_cons_zero, List.getD_cons_succ, -List.getD_eq_getElem?_getD])
 obtain rfl : k = g.edges.length := (by omega)
 have hedl := edA_len hr hv g.edges.length (Nat.le_refl _)
 have hpal := parA_len (g := g) (l := l) g.states.toNat
 have hof := off_le900 hr hv g.states.toNat (Nat.le_refl _)
 refine zx (ztx (zbx (zs ?_)))
 refine awpS_wk (st2 := ⟨[(4, .ptr (0, 0) 0 0), (8, .ptr (1, 0) 0 0), (13, ints (parA g l g.states.toNat)), (14, ints (hvA g v m l g.states.toNat)), (27, edgesC (edA g l g.edges.length))], [(0, .one (.arr 1 3 (fun _ => grF g))), (1, .one (.arr 1 3 (fun _ j => [.int .i64 0, .int .i64 0, .nils].getD j .any)))], 2⟩) ?_ ?_
 · exact zwP (id) (fun k => k == 2) (fun _ => false)
 refine zL (zlP 5 ?_)
 refine zcP cal86 (makeG_c g.labels ((parA g l g.states.toNat).length : Nat) (edA g l g.edges.length) (by omega)) ?_
 refine zlP 6 ?_
 refine zN (zs (zs (zrP ?_)))
 refine zy (fun hb173 => ?_) fun hb173 => ?_
 · refine zs (zrP ?_)
   refine zt ?_
   refine RetOK_of ?_
   simp [hG, List.getD_cons_zero, List.getD_cons_succ, -List.getD_eq_getElem?_getD, pureOp]
   obtain ⟨e1, e2, e3, e4⟩ := apl_2 (g := g) (v := v) (m := m) (l := l) hb40 (Classical.byContradiction fun hc => hb173 (by have := (apl_mk hRd hc).2; rw [hpal]; exact this)); rw [e1, e2, e3, e4]; exact ⟨⟨rfl, rfl, rfl⟩, rfl, rfl, rfl⟩
 refine zk (zs (zrP ?_))
 refine zt ?_
 refine RetOK_of ?_
 simp [hG, List.getD_cons_zero, List.getD_cons_succ, -List.getD_eq_getElem?_getD, pureOp]
 have hnl : ¬ (64 < offA g l g.states.toNat ∨ 1024 < (edA g l g.edges.length).length) := fun hc => apl_no hRd hc (by rw [← hpal]; exact hb173); obtain ⟨e1, e2, e3, e4⟩ := apl_3 (g := g) (v := v) (m := m) (l := l) hb40 hnl; have hmk := (apl_mk hRd hnl).1; rw [← hpal] at hmk; rw [e1, e2, e3, e4, hmk]; exact ⟨⟨rfl, rfl, Clo.le _ Clo_edgesC⟩, Clo.le _ Clo_ints, Clo.le _ Clo_ints, rfl⟩
end Go.Proofs.YtchjjiedcpfniaaGreatDoor
