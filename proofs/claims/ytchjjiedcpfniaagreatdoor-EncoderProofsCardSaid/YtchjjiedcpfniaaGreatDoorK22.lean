/- Parts of the proof: WF WG WI ND. -/
import Derived.Test.YtchjjiedcpfniaaGreatDoorK12
import Derived.Test.YtchjjiedcpfniaaGreatDoorK16
import Derived.Test.YtchjjiedcpfniaaGreatDoorK21
namespace Go.Proofs.YtchjjiedcpfniaaGreatDoor
set_option linter.unusedSimpArgs false
set_option linter.unusedVariables false
open Go Go.Lift Go.Proofs
theorem div_ok {L : List (List Int)} {l : List Int} (h : divB L l = true) : 1 < L.length ∧ (∀ p ∈ L, p ≠ [] ∧ sortedB p = true) ∧ L.flatten.Perm l := by
  unfold divB at h
  rw [Bool.and_eq_true, Bool.and_eq_true, decide_eq_true_eq, decide_eq_true_eq] at h
  obtain ⟨h1, h2, h3⟩ := h
  refine ⟨h2, fun p hp => ?_, ?_⟩
  · have := List.all_eq_true.1 h1 p hp
    simpa using this
  · rw [← h3]; exact srtI_perm.symm
noncomputable def splN (g : Gr) (v : List Int) (m : Int) (l : List Spl) (i : Nat) : Int :=
  if (l.getD i ds).st < 0 ∨ g.states ≤ (l.getD i ds).st then 25 else if 0 < i ∧ (l.getD i ds).st ≤ (l.getD (i - 1) ds).st then 10
  else if divB (l.getD i ds).parts (outR g (l.getD i ds).st) = false then 11 else if wtB g v m (l.getD i ds) = false then 16 else 0
noncomputable def rndN (g : Gr) (v : List Int) (m : Int) (l : List Spl) : Int := if baseN g v m ≠ 0 then baseN g v m else if l = [] then 5 else firstNZ (splN g v m l) (List.range l.length)
structure RndOK (l : List Spl) : Prop where
  len : l.length ≤ 1000000
  num : ∀ x ∈ l, x.parts.length ≤ 900
  part : ∀ x ∈ l, ∀ p ∈ x.parts, p.length ≤ 1024
section
variable {g : Gr} {v : List Int} {m : Int} {l : List Spl}
theorem spl_ok {x : Spl} (hv : gcheck g = 0) (hl : RndOK l) (hx : x ∈ l) (hs : 0 ≤ x.st ∧ x.st < g.states) (hd : divB x.parts (outR g x.st) = true) : SplOK g x ∧ 0 < x.parts.length := by
  obtain ⟨h1, h2, h3⟩ := div_ok hd
  rw [(out_3 hv hs).1] at h3
  refine ⟨⟨hs, by have := hl.num x hx; omega, hl.part x hx, fun p hp k hk => ?_⟩, by omega⟩
  have hm : k ∈ outL g x.st := h3.mem_iff.1 (List.mem_flatten.2 ⟨p, hp, hk⟩)
  obtain ⟨j, hj, rfl, _⟩ := outA_mem.1 hm
  omega
theorem rnd_1 (h : baseN g v m ≠ 0) : rndN g v m l = baseN g v m := if_pos h
theorem rnd_2 (h : baseN g v m = 0) (h2 : l = []) : rndN g v m l = 5 := by unfold rndN; rw [if_neg (fun h3 => h3 h), if_pos h2]
theorem rnd_at (h : baseN g v m = 0) (h2 : l ≠ []) : rndN g v m l = firstNZ (splN g v m l) (List.range l.length) := by unfold rndN; rw [if_neg (fun h3 => h3 h), if_neg h2]
theorem rnd_hit {i : Nat} (h : baseN g v m = 0) (h2 : l ≠ []) (hn : ∀ j, j < i → splN g v m l j = 0) (hi : i < l.length) {n : Int} (hs : splN g v m l i = n) (h0 : n ≠ 0) : rndN g v m l = n := by
  rw [rnd_at h h2, ← hs]
  exact firstNZ_range hn hi (by rw [hs]; exact h0)
theorem rnd_ok (h : baseN g v m = 0) (h2 : l ≠ []) (hn : ∀ j, j < l.length → splN g v m l j = 0) : rndN g v m l = 0 := by rw [rnd_at h h2]; exact firstNZ_none hn
theorem spl_1 {i : Nat} (h : (l.getD i ds).st < 0 ∨ g.states ≤ (l.getD i ds).st) : splN g v m l i = 25 := if_pos h
theorem spl_2 {i : Nat} (h : 0 ≤ (l.getD i ds).st ∧ (l.getD i ds).st < g.states) (h2 : 0 < i ∧ (l.getD i ds).st ≤ (l.getD (i - 1) ds).st) : splN g v m l i = 10 := by unfold splN; rw [if_neg (by omega), if_pos h2]
theorem spl_3 {i : Nat} (h : 0 ≤ (l.getD i ds).st ∧ (l.getD i ds).st < g.states) (h2 : ¬ (0 < i ∧ (l.getD i ds).st ≤ (l.getD (i - 1) ds).st)) (h3 : divB (l.getD i ds).parts (outR g (l.getD i ds).st) = false) : splN g v m l i = 11 := by unfold splN; rw [if_neg (by omega), if_neg h2, if_pos h3]
theorem spl_4 {i : Nat} (h : 0 ≤ (l.getD i ds).st ∧ (l.getD i ds).st < g.states) (h2 : ¬ (0 < i ∧ (l.getD i ds).st ≤ (l.getD (i - 1) ds).st)) (h3 : divB (l.getD i ds).parts (outR g (l.getD i ds).st) = true) : splN g v m l i = if wtB g v m (l.getD i ds) = false then 16 else 0 := by unfold splN; rw [if_neg (by omega), if_neg h2, if_neg (by rw [h3]; simp)]
end
set_option maxRecDepth 100000 in
set_option maxHeartbeats 1000000 in
theorem rndC_c (g : Gr) (v : List Int) (m : Int) (l : List Spl) (hr : RndOK l) : PC Tryz.prog 82 [.agg 3 (grF g), ints v, .int .i64 m, spls l] (.int .i64 (rndN g v m l)) := by
 have hrl := hr.len
 refine zp Tryz.func82 fun G hG hR => ?_
 refine zs (zrP ?_)
 refine zs (zs (zL (zlP 3 ?_)))
 refine zcP cal61 (baseC_c g v m) ?_
 refine zlP 1 ?_
 refine zN (zs (zrP ?_))
 refine zy (fun hb21 => ?_) fun hb21 => ?_
 · refine zs (zrP ?_)
   refine zt ?_
   refine RetOK_of ?_
   simp [hG, List.getD_cons_zero, List.getD_cons_succ, -List.getD_eq_getElem?_getD, pureOp]
   exact (rnd_1 hb21).symm
 obtain ⟨hv, hm, hl, hbx⟩ := vecN_zero (eigN_zero (baseN_zero hb21).1).1
 refine zk (zs (zs (zrP ?_)))
 refine zy (fun hb25 => ?_) fun hb25 => ?_
 · refine zs (zrP ?_)
   refine zt ?_
   refine RetOK_of ?_
   simp [hG, List.getD_cons_zero, List.getD_cons_succ, -List.getD_eq_getElem?_getD, pureOp]
   exact (rnd_2 hb21 hb25).symm
 have hne : l ≠ [] := (by intro h; rw [h] at hb25; simp at hb25)
 refine zk (zs (zs (zrP ?_)))
 refine zb ?_
 refine awpS_loop (α := Nat) (fun i => ⟨[(1, ints v), (2, .int .i64 m), (3, spls l), (4, .ptr (0, 0) 0 0), (26, spls l), (27, .int .i64 l.length), (28, .int .i64 i)], [(0, .one (.arr 1 3 (fun _ => grF g)))], 1⟩) (fun i => i ≤ l.length ∧ ∀ j, j < i → splN g v m l j = 0) (fun i => l.length - i) (0) (⟨Nat.zero_le _, fun j hj => absurd hj (Nat.not_lt_zero _)⟩) ?_ ?_
 · exact ziP
 rintro i ⟨hi, hn⟩
 refine zs (zrP ?_)
 refine zs (zy (fun hb29 => ?_) fun hb29 => ?_)
 · have hil : i < l.length := (by omega)
   have hxm := getD_mem (d := ds) hil
   refine zk (zs (zb (zs (zrP ?_))))
   refine zs (zs (zrP ?_))
   refine zy (fun hb42 => ?_) fun hb42 => ?_
   · refine zs (zrP ?_)
     refine zt (zbt (ztt (zbt ?_)))
     refine RetOK_of ?_
     simp [hG, List.getD_cons_zero, List.getD_cons_succ, -List.getD_eq_getElem?_getD, pureOp]
     exact (rnd_hit hb21 hne hn hil (spl_1 hb42) (by decide)).symm
   refine zk (zs (zs ?_))
   refine awpS_draw hR mixed [] ⟨[], [], []⟩ fun mu0 => ?_
   refine zaP [0, 1, 2, 3, 4, 5, 6, 7, 8, 9, 10, 11, 12] [] 0 [12, 11, 10, 9, 8, 7, 6, 5, 4, 3, 2, 1, 0] ?_
   refine awpA_done (by decide +kernel) ?_
   refine zy (fun hb55 => ?_) fun hb55 => ?_
   · refine zs (zrP ?_)
     refine zt (zbt (ztt (zbt ?_)))
     refine RetOK_of ?_
     simp [hG, List.getD_cons_zero, List.getD_cons_succ, -List.getD_eq_getElem?_getD, pureOp]
     exact (rnd_hit hb21 hne hn hil (spl_2 hb42 hb55) (by decide)).symm
   have hnx : ¬ (0 < i ∧ (l.getD i ds).st ≤ (l.getD (i - 1) ds).st) := fun h => by have := hb55 h.1; omega
   refine zk (zs (zs (zL (zlP 3 ?_))))
   refine zcP cal28 (outC_c g (l.getD i ds).st) ?_
   refine zlP 5 ?_
   refine zN (zs (zL (zlP 3 ?_)))
   refine zcP cal117 (divC_c (l.getD i ds).parts (outR g (l.getD i ds).st) (hr.num _ hxm) (hr.part _ hxm)) ?_
   refine zlP 1 ?_
   refine zN (zy (fun hb67 => ?_) fun hb67 => ?_)
   · refine zs (zrP ?_)
     refine zt (zbt (ztt (zbt ?_)))
     refine RetOK_of ?_
     simp [hG, List.getD_cons_zero, List.getD_cons_succ, -List.getD_eq_getElem?_getD, pureOp]
     exact (rnd_hit hb21 hne hn hil (spl_3 hb42 hnx hb67) (by decide)).symm
   have hso := spl_ok hv hr hxm hb42 hb67
   refine zk (zs (zL (zlP 4 ?_)))
   refine zcP cal85 (weights_c g v m (l.getD i ds) hv hl hbx hm hso.1 hso.2) ?_
   refine zlP 5 ?_
   refine zN (zs (zrP ?_))
   refine zy (fun hb77 => ?_) fun hb77 => ?_
   · refine zs (zrP ?_)
     refine zt (zbt (ztt (zbt ?_)))
     refine RetOK_of ?_
     simp [hG, List.getD_cons_zero, List.getD_cons_succ, -List.getD_eq_getElem?_getD, pureOp]
     exact (rnd_hit hb21 hne hn hil (by rw [spl_4 hb42 hnx hb67, if_pos hb77]) (by decide)).symm
   refine zk (zn (zbn (zrP ?_)))
   refine zn ?_
   refine round_end (i + 1) (⟨by omega, step_all hn (by rw [spl_4 hb42 hnx hb67, if_neg (by rw [hb77]; simp)])⟩) (by omega) ?_
   exact ziP
 refine zx (ztx (zbx (zs (zrP ?_))))
 refine zt ?_
 refine RetOK_of ?_
 simp [hG, List.getD_cons_zero, List.getD_cons_succ, -List.getD_eq_getElem?_getD, pureOp]
 exact (rnd_ok hb21 hne (fun j hj => hn j (by omega))).symm
end Go.Proofs.YtchjjiedcpfniaaGreatDoor
namespace Go.Proofs.YtchjjiedcpfniaaGreatDoor
set_option linter.unusedSimpArgs false
set_option linter.unusedVariables false
open Go Go.Lift Go.Proofs
theorem outA_asc {g : Gr} {s : Int} : ∀ i, (outA g s i).Pairwise (· < ·)
  | 0 => List.Pairwise.nil
  | i + 1 => by
    rw [outA_succ, List.pairwise_append]
    refine ⟨outA_asc i, by split <;> simp, fun a ha b hb => ?_⟩
    obtain ⟨j, hj, rfl, _⟩ := outA_mem.1 ha
    split at hb
    · have := List.mem_singleton.1 hb; omega
    · cases hb
theorem asc_nodup {l : List Int} (h : l.Pairwise (· < ·)) : l.Nodup := h.imp fun h => by omega
section
variable {L : List (List Int)} {l : List Int}
end
end Go.Proofs.YtchjjiedcpfniaaGreatDoor
namespace Go.Proofs.YtchjjiedcpfniaaGreatDoor
set_option linter.unusedSimpArgs false
set_option linter.unusedVariables false
open Go Go.Lift Go.Proofs
set_option maxRecDepth 100000 in
theorem indexS_c (l : List Spl) (q : Spl → Bool) (hfn hn : Nat) (hc : Nat → AVal) (hl : l.length ≤ 1000000) (hcal : Callable Tryz.prog hfn) (hclo : ∀ j, Clo (hc j)) (hp : ∀ x ∈ l, PC Tryz.prog hfn (.agg 2 (splF x) :: (List.range' 0 hn).map hc) (.bool (q x))) : PC Tryz.prog 83 [spls l, .fn hfn hn hc] (.int .i64 (placeG l q)) := by
 have hV : ∀ {h : Heap} {σ : Lift.Id → Lift.Id} {fz : Nat → Bool} {vz : Lift.Id → Bool} {nx j : Nat}, VLe h σ fz vz nx (hc j) (hc j) := fun {h σ fz vz nx j} => Clo.le _ (hclo j)
 have hV2 : ∀ {h : Heap} {σ : Lift.Id → Lift.Id} {fz : Nat → Bool} {vz : Lift.Id → Bool} {nx : Nat}, VLe h σ fz vz nx (.fn hfn hn hc) (.fn hfn hn hc) := fun {h σ fz vz nx} => Clo.le _ fun j _ => hclo j
 refine zp Tryz.func83 fun G hG hR => ?_
 refine zs (zr ?_ (h := by intro c K h; simp [hG, List.getD_cons_zero, List.getD_cons_succ, -List.getD_eq_getElem?_getD, hV, hV2]; first | exact z1 c h | exact ⟨.mk c, h⟩))
 refine zs (zs (zr ?_ (h := by intro c K h; simp [hG, List.getD_cons_zero, List.getD_cons_succ, -List.getD_eq_getElem?_getD, hV, hV2]; first | exact z1 c h | exact ⟨.mk c, h⟩)))
 refine zb ?_
 refine awpS_loop (α := Nat) (fun i => ⟨[(0, spls l), (1, .fn hfn hn hc), (7, .int .i64 l.length), (8, .int .i64 i)], [], 0⟩) (fun i => i ≤ l.length ∧ ∀ j, j < i → q (l.getD j ds) = false) (fun i => l.length - i) (0) (⟨Nat.zero_le _, fun j hj => absurd hj (Nat.not_lt_zero _)⟩) ?_ ?_
 · exact zi (e := by simp [hG, List.getD_cons_zero, List.getD_cons_succ, -List.getD_eq_getElem?_getD, hV, hV2]) (h := by simp [hG, List.getD_cons_zero, List.getD_cons_succ, -List.getD_eq_getElem?_getD, hV, hV2])
 rintro i ⟨hi, hn0⟩
 refine zs (zr ?_ (h := by intro c K h; simp [hG, List.getD_cons_zero, List.getD_cons_succ, -List.getD_eq_getElem?_getD, hV, hV2]; first | exact z1 c h | exact ⟨.mk c, h⟩))
 refine zs (zy (fun hb9 => ?_) fun hb9 => ?_)
 · refine zk (zs (zb (zs (zr ?_ (h := by intro c K h; simp [hG, List.getD_cons_zero, List.getD_cons_succ, -List.getD_eq_getElem?_getD, hV, hV2]; first | exact z1 c h | exact ⟨.mk c, h⟩)))))
   refine zs (zL (zl 5 ?_ (h := by intro c K h; simp [hG, List.getD_cons_zero, List.getD_cons_succ, -List.getD_eq_getElem?_getD, hV, hV2]; first | exact z1 c h | exact ⟨.mk c, h⟩)))
   refine zc hcal (hp _ (getD_mem (d := ds) (by simpa using hb9))) ?_ (a := fun hg => by simp [hG, List.getD_cons_zero, List.getD_cons_succ, -List.getD_eq_getElem?_getD, hV, hV2]) (b := fun hg => by simp [hG, List.getD_cons_zero, List.getD_cons_succ, -List.getD_eq_getElem?_getD]; first | exact argsLe_caps fun j _ => hclo j | exact ⟨Clo.le _ (fun j hj => ⟨one_splF, Clo_splF⟩), argsLe_caps fun j _ => hclo j⟩) (h := by intro K h; simp [hG, List.getD_cons_zero, List.getD_cons_succ, -List.getD_eq_getElem?_getD, hV, hV2]; exact h)
   refine zN (zy (fun hb16 => ?_) fun hb16 => ?_)
   · refine zs (zr ?_ (h := by intro c K h; simp [hG, List.getD_cons_zero, List.getD_cons_succ, -List.getD_eq_getElem?_getD, hV, hV2]; first | exact z1 c h | exact ⟨.mk c, h⟩))
     refine zt (zbt (ztt (zbt ?_)))
     refine RetOK_of ?_
     simp [hG, List.getD_cons_zero, List.getD_cons_succ, -List.getD_eq_getElem?_getD, hV, hV2]
     exact (placeG_at (by simpa using hb9) hb16 hn0).symm
   refine zk (zn (zbn (zr ?_ (h := by intro c K h; simp [hG, List.getD_cons_zero, List.getD_cons_succ, -List.getD_eq_getElem?_getD, hV, hV2]; first | exact z1 c h | exact ⟨.mk c, h⟩))))
   refine zn ?_
   refine round_end (i + 1) (⟨by omega, fun j hj => (Nat.lt_succ_iff_lt_or_eq.1 hj).elim (hn0 j) fun e => by rw [e]; exact hb16⟩) (by omega) ?_
   exact zi (e := by simp [hG, List.getD_cons_zero, List.getD_cons_succ, -List.getD_eq_getElem?_getD, hV, hV2]) (h := by simp [hG, List.getD_cons_zero, List.getD_cons_succ, -List.getD_eq_getElem?_getD, hV, hV2])
 refine zx (ztx (zbx (zs (zr ?_ (h := by intro c K h; simp [hG, List.getD_cons_zero, List.getD_cons_succ, -List.getD_eq_getElem?_getD, hV, hV2]; first | exact z1 c h | exact ⟨.mk c, h⟩)))))
 refine zt ?_
 refine RetOK_of ?_
 simp [hG, List.getD_cons_zero, List.getD_cons_succ, -List.getD_eq_getElem?_getD, hV, hV2]
 exact (placeG_none fun j hj => hn0 j (by omega)).symm
set_option maxRecDepth 100000 in
theorem ofState_c (s : Int) (x : Spl) : PC Tryz.prog 84 [.agg 2 (splF x), .vptr 1 (fun _ => .int .i64 s) 0] (.bool (decide (x.st = s))) := by
 refine zp Tryz.func84 fun G hG hR => ?_
 refine zs (zr ?_)
 refine zs (zr ?_)
 refine zt ?_
 exact zR
end Go.Proofs.YtchjjiedcpfniaaGreatDoor
namespace Go.Proofs.YtchjjiedcpfniaaGreatDoor
set_option linter.unusedSimpArgs false
set_option linter.unusedVariables false
open Go Go.Lift
theorem wtA_sum {g : Gr} {v : List Int} {m : Int} {x : Spl} : ∀ i, (wtA g v m x i).sum = v.getD x.st.toNat 0 - lfA g v m x i
  | 0 => by simp [wtA, lfA]
  | i + 1 => by
    rw [wtA_succ, List.sum_append, wtA_sum i, lfA_succ]
    simp only [List.sum_cons, List.sum_nil]
    omega
theorem wtL_sum {g : Gr} {v : List Int} {m : Int} {x : Spl} (h : 0 < x.parts.length) : (wtL g v m x).sum = v.getD x.st.toNat 0 := by
  unfold wtL
  rw [wtA_sum]
  have e : lfA g v m x x.parts.length = 0 := by
    have h1 : x.parts.length = (x.parts.length - 1) + 1 := by omega
    rw [h1, lfA_succ]
    have h2 : wtI g v m x (x.parts.length - 1) = lfA g v m x (x.parts.length - 1) := if_pos (by omega)
    rw [h2]; omega
  rw [e]; omega
theorem splO_some {l : List Spl} {s : Nat} {x : Spl} (h : splO l s = some x) : x ∈ l ∧ x.st = s := by
  unfold splO at h
  exact ⟨List.mem_of_find?_eq_some h, by simpa using List.find?_some h⟩
theorem wsS_sum {g : Gr} {v : List Int} {m : Int} {l : List Spl} {s : Nat} (h : ∀ x ∈ l, 0 < x.parts.length) : (wsS g v m l s).sum = v.getD s 0 := by
  unfold wsS
  cases hs : splO l s with
  | none => simp
  | some x =>
    obtain ⟨h1, h2⟩ := splO_some hs
    show (wtL g v m x).sum = _
    rw [wtL_sum (h x h1), h2, Int.toNat_natCast]
theorem ownF_out {k : Nat} : ∀ {a : List (Int × Nat)} {d : Int}, (∀ p ∈ a, p.1 ≠ (k : Int)) → a.foldl (fun d p => if p.1 = (k : Int) then (p.2 : Int) else d) d = d
  | [], d, _ => rfl
  | p :: a, d, h => by
    rw [List.foldl_cons, if_neg (h p (List.mem_cons_self ..))]
    exact ownF_out fun q hq => h q (List.mem_cons_of_mem _ hq)
theorem ownF_mem {k c : Nat} : ∀ {a : List (Int × Nat)} {d : Int}, (a.map (·.1)).Nodup → ((k : Int), c) ∈ a → a.foldl (fun d p => if p.1 = (k : Int) then (p.2 : Int) else d) d = c
  | p :: a, d, hn, h => by
    rw [List.map_cons, List.nodup_cons] at hn
    rw [List.foldl_cons]
    rcases List.mem_cons.1 h with h | h
    · subst h
      rw [if_pos rfl]
      exact ownF_out fun q hq e => hn.1 (List.mem_map.2 ⟨q, hq, e⟩)
    · exact ownF_mem hn.2 h
theorem ownL_mem {a : List (Int × Nat)} {k c : Nat} (hn : (a.map (·.1)).Nodup) (h : ((k : Int), c) ∈ a) : ownL a k = c := ownF_mem hn h
theorem asgS_mem {g : Gr} {l : List Spl} {s : Nat} : ∀ {i : Nat} {p : Int × Nat}, p ∈ asgS g l s i ↔ ∃ j, j < i ∧ p.1 ∈ (prS g l s).getD j [] ∧ p.2 = offA g l s + j
  | 0, p => by simp [asgS]
  | i + 1, p => by
    unfold asgS
    rw [List.mem_append, asgS_mem, List.mem_map]
    constructor
    · rintro (⟨j, h1, h2, h3⟩ | ⟨e, he, rfl⟩)
      · exact ⟨j, by omega, h2, h3⟩
      · exact ⟨i, by omega, he, rfl⟩
    · rintro ⟨j, h1, h2, h3⟩
      by_cases h : j < i
      · exact .inl ⟨j, h, h2, h3⟩
      · obtain rfl : j = i := by omega
        exact .inr ⟨p.1, h2, by rw [← h3]⟩
theorem asgA_mem {g : Gr} {l : List Spl} : ∀ {s : Nat} {p : Int × Nat}, p ∈ asgA g l s ↔ ∃ t, t < s ∧ p ∈ asgS g l t (prS g l t).length
  | 0, p => by simp [asgA]
  | s + 1, p => by
    rw [asgA_succ, List.mem_append, asgA_mem]
    constructor
    · rintro (⟨t, h1, h2⟩ | h)
      · exact ⟨t, by omega, h2⟩
      · exact ⟨s, by omega, h⟩
    · rintro ⟨t, h1, h2⟩
      by_cases h : t < s
      · exact .inl ⟨t, h, h2⟩
      · obtain rfl : t = s := by omega
        exact .inr h2
theorem parA_mem {g : Gr} {l : List Spl} : ∀ {s : Nat} {x : Int}, x ∈ parA g l s → 0 ≤ x ∧ x < (s : Int)
  | 0, x, h => by cases h
  | s + 1, x, h => by
    unfold parA at h
    rcases List.mem_append.1 h with h | h
    · have := parA_mem h; omega
    · have := List.eq_of_mem_replicate h; omega
end Go.Proofs.YtchjjiedcpfniaaGreatDoor
