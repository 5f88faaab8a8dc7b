/- Parts of the proof: UT. -/
import Derived.Test.YtchjjiedcpfniaaGreatDoorK16
import Derived.Test.YtchjjiedcpfniaaGreatDoorK34
import Derived.Test.YtchjjiedcpfniaaGreatDoorK44
import Derived.Test.YtchjjiedcpfniaaGreatDoorK46
namespace Go.Proofs.YtchjjiedcpfniaaGreatDoor
set_option linter.unusedSimpArgs false
set_option linter.unusedVariables false
open Go Go.Lift Go.Proofs
def bigP (p : Prf) : Bool := (((((decide (great9 p.g) || decide (20 < (p.g.edges.length : Int))) || decide (6 < p.g.states)) || decide (8 < (p.w.length : Int))) || p.w.any (fun n => decide (6 < n))) || decide (8 < (p.rounds.length : Int))) || p.rounds.any greatR
theorem bigP_no {p : Prf} (h : bigP p = false) : PrfOK p ∧ p.rounds.length ≤ 66 ∧ p.rounds.length ≤ 8 ∧ p.g.states ≤ 6 ∧ p.g.edges.length ≤ 20 := by
  unfold bigP at h
  simp only [Bool.or_eq_false_iff, decide_eq_false_iff_not] at h
  refine ⟨?_, by omega, by omega, by omega, by omega⟩
  exact fun l hl => greatR_no (by simpa using List.any_eq_false.1 h.2 l hl)
theorem rows_ext {a b : List (List Cell)} (h : a.length = b.length) (hn : ∀ j, j < a.length → a.getD j [] = b.getD j []) : a = b := by
  apply List.ext_getElem h
  intro i h1 h2
  have := hn i h1
  rwa [getD_get h1, getD_get h2] at this
theorem row_ext {a b : List Cell} (h : a.length = b.length) (hn : ∀ j, j < a.length → a.getD j dc = b.getD j dc) : a = b := by
  apply List.ext_getElem h
  intro i h1 h2
  have := hn i h1
  rwa [getD_get h1, getD_get h2] at this
theorem enc_ext {e d : Enc} (h1 : e.letters = d.letters) (h2 : e.block = d.block) (h3 : e.inputs = d.inputs) (h4 : e.rows = d.rows) : e = d := by
  cases e; cases d; simp only at h1 h2 h3 h4; rw [h1, h2, h3, h4]
theorem bdK_le {g : Gr} {m : Nat} : bdK g m ≤ 64 := by
  unfold bdK
  cases h : (List.range 65).find? fun i => decide ((bdS g m i).length ≤ i) with
  | none => exact Nat.zero_le _
  | some i => have := List.mem_range.1 (List.mem_of_find?_eq_some h); show i ≤ 64; omega
theorem eb_zero {p : Prf} {q n : Int} (h : ebN p q n = 0) : flN p = 0 ∧ (1 ≤ q ∧ q ≤ 16) ∧ (1 ≤ n ∧ n ≤ 16) ∧ upTo q n.toNat = p.g.labels := by
  unfold ebN at h
  split at h
  · contradiction
  · rename_i h1
    split at h
    · cases h
    · split at h
      · cases h
      · split at h
        · cases h
        · rename_i h4; exact ⟨Decidable.not_not.1 h1, by omega, by omega, Decidable.not_not.1 h4⟩
theorem ebX_len {p : Prf} {q n : Int} (hp : PrfOK p) : (ebX p q n).rows.length ≤ 1000000 ∧ ∀ r ∈ (ebX p q n).rows, r.length ≤ 1000000 := by
  by_cases h : ebN p q n = 0
  · have hF := fl_graph hp (eb_zero h).1
    have hm := hF.m
    have hk := bdK_le (g := flG p) (m := p.m.toNat)
    rw [ebX_ok h rfl]
    refine ⟨by simp; omega, fun r hr => ?_⟩
    obtain ⟨i, _, rfl⟩ := List.mem_map.1 hr
    rw [bdR_len]; omega
  · rw [ebX_no h]; exact ⟨Nat.zero_le _, fun r hr => by cases hr⟩
set_option maxRecDepth 100000 in
theorem sameAB_c (e d : Enc) (hl : e.rows.length ≤ 1000000) (hr : ∀ r ∈ e.rows, r.length ≤ 1000000) : PC Tryz.prog 9 [.agg 4 (encF e), .agg 4 (encF d)] (.bool (decide (e = d))) := by
 refine zp Tryz.func9 fun G hG hR => ?_
 refine zs (zrP ?_)
 refine zs (zs (zrP ?_))
 refine zy (fun hb34 => ?_) fun hb34 => ?_
 · refine zs (zrP ?_)
   refine zt ?_
   refine RetOK_of ?_
   simp [hG, List.getD_cons_zero, List.getD_cons_succ, -List.getD_eq_getElem?_getD, pureOp]
   intro h; rw [h] at hb34; simp at hb34
 obtain ⟨⟨⟨q1, q2⟩, q3⟩, q4⟩ := hb34
 refine zk (zs (zs (zrP ?_)))
 refine zb ?_
 refine awpS_loop (α := Nat) (fun s => ⟨[(2, .ptr (0, 0) 0 0), (3, .ptr (1, 0) 0 0), (5, .int .i64 s)], [(0, .one (.arr 1 4 (fun _ => encF e))), (1, .one (.arr 1 4 (fun _ => encF d)))], 2⟩) (fun s => s ≤ e.rows.length ∧ ∀ j, j < s → e.rows.getD j [] = d.rows.getD j []) (fun s => e.rows.length - s) (0) (⟨Nat.zero_le _, fun j hj => absurd hj (Nat.not_lt_zero _)⟩) ?_ ?_
 · exact ziP
 rintro s ⟨hs, hn⟩
 refine zs (zs (zrP ?_))
 refine zy (fun hb39 => ?_) fun hb39 => ?_
 · have hsl : s < e.rows.length := (by omega)
   have hrr := hr _ (getD_mem (d := []) hsl)
   refine zk (zs (zb (zs (zs ?_))))
   refine awpS_draw hR mixed [] ⟨[], [], []⟩ fun mu0 => ?_
   refine zaP [0, 1, 2, 3, 4, 5, 6, 7, 8, 9, 10, 11, 12] [] 0 [12, 11, 10, 9, 8, 7, 6, 5, 4, 3, 2, 1, 0] ?_
   refine awpA_done (by decide +kernel) ?_
   refine zy (fun hb54 => ?_) fun hb54 => ?_
   · refine zs (zrP ?_)
     refine zt (zbt (ztt (zbt ?_)))
     refine RetOK_of ?_
     simp [hG, List.getD_cons_zero, List.getD_cons_succ, -List.getD_eq_getElem?_getD, pureOp]
     intro h; rw [h] at hb54; exact hb54 rfl
   have hln : (e.rows.getD s []).length = (d.rows.getD s []).length := (by omega)
   refine zk (zs (zrP ?_))
   refine zb ?_
   refine awpS_loop (α := Nat) (fun i => ⟨[(2, .ptr (0, 0) 0 0), (3, .ptr (1, 0) 0 0), (5, .int .i64 s), (6, .int .i64 i)], [(0, .one (.arr 1 4 (fun _ => encF e))), (1, .one (.arr 1 4 (fun _ => encF d)))], 2⟩) (fun i => i ≤ (e.rows.getD s []).length ∧ ∀ j, j < i → (e.rows.getD s []).getD j dc = (d.rows.getD s []).getD j dc) (fun i => (e.rows.getD s []).length - i) (0) (⟨Nat.zero_le _, fun j hj => absurd hj (Nat.not_lt_zero _)⟩) ?_ ?_
   · exact ziP
   rintro i ⟨hi, hm⟩
   refine zs (zs (zrP ?_))
   refine zy (fun hb62 => ?_) fun hb62 => ?_
   · have hil : i < (e.rows.getD s []).length := (by omega)
     refine zk (zs (zb (zs ?_)))
     refine awpS_draw hR mixed [] ⟨[], [], []⟩ fun mu0 => ?_
     refine zaP [0, 1, 2, 3, 4, 5, 6, 7, 8, 9, 10, 11, 12, 13, 14, 15, 16] [] 0 [16, 15, 14, 13, 12, 11, 10, 9, 8, 7, 6, 5, 4, 3, 2, 1, 0] ?_
     refine awpA_done (by decide +kernel) ?_
     refine zy (fun hb81 => ?_) fun hb81 => ?_
     · refine zs (zrP ?_)
       refine zt (zbt (ztt (zbt (zbt (ztt (zbt ?_))))))
       refine RetOK_of ?_
       simp [hG, List.getD_cons_zero, List.getD_cons_succ, -List.getD_eq_getElem?_getD, pureOp]
       intro h; rw [h] at hb81; simp at hb81
     have hce : (e.rows.getD s []).getD i dc = (d.rows.getD s []).getD i dc := cell_eq hb81
     refine zk (zn (zbn (zrP ?_)))
     refine zn ?_
     refine round_end (i + 1) (⟨by omega, step_all hm hce⟩) (by omega) ?_
     exact ziP
   refine zx (ztx (zbx (zn (zbn (zrP ?_)))))
   refine zn ?_
   refine round_end (s + 1) (⟨by omega, step_all hn (row_ext hln fun j hj => hm j (by omega))⟩) (by omega) ?_
   exact ziP
 refine zx (ztx (zbx (zs (zrP ?_))))
 refine zt ?_
 refine RetOK_of ?_
 simp [hG, List.getD_cons_zero, List.getD_cons_succ, -List.getD_eq_getElem?_getD, pureOp]
 exact enc_ext q1 q2 q3 (rows_ext (by omega) fun j hj => hn j (by omega))
set_option maxRecDepth 100000 in
theorem indexRd_c (l : List (List Spl)) (q : (List Spl) → Bool) (hfn hn : Nat) (hc : Nat → AVal) (hl : l.length ≤ maxLen) (hcal : Callable Tryz.prog hfn) (hclo : ∀ j, Clo (hc j)) (hp : ∀ x ∈ l, PC Tryz.prog hfn (spls x :: (List.range' 0 hn).map hc) (.bool (q x))) : PC Tryz.prog 48 [rds l, .fn hfn hn hc] (.int .i64 (placeG l q)) := by
 have hV : ∀ {h : Heap} {σ : Lift.Id → Lift.Id} {fz : Nat → Bool} {vz : Lift.Id → Bool} {nx j : Nat}, VLe h σ fz vz nx (hc j) (hc j) := fun {h σ fz vz nx j} => Clo.le _ (hclo j)
 have hV2 : ∀ {h : Heap} {σ : Lift.Id → Lift.Id} {fz : Nat → Bool} {vz : Lift.Id → Bool} {nx : Nat}, VLe h σ fz vz nx (.fn hfn hn hc) (.fn hfn hn hc) := fun {h σ fz vz nx} => Clo.le _ fun j _ => hclo j
 have hML : maxLen = 9223372036854775807 := by decide
 refine zp Tryz.func48 fun G hG hR => ?_
 refine zs (zr ?_ (h := by intro c K h; simp [hG, List.getD_cons_zero, List.getD_cons_succ, -List.getD_eq_getElem?_getD, hV, hV2]; first | exact z1 c h | exact ⟨.mk c, h⟩))
 refine zs (zs (zr ?_ (h := by intro c K h; simp [hG, List.getD_cons_zero, List.getD_cons_succ, -List.getD_eq_getElem?_getD, hV, hV2]; first | exact z1 c h | exact ⟨.mk c, h⟩)))
 refine zb ?_
 refine awpS_loop (α := Nat) (fun i => ⟨[(0, rds l), (1, .fn hfn hn hc), (7, .int .i64 l.length), (8, .int .i64 i)], [], 0⟩) (fun i => i ≤ l.length ∧ ∀ j, j < i → q (l.getD j []) = false) (fun i => l.length - i) (0) (⟨Nat.zero_le _, fun j hj => absurd hj (Nat.not_lt_zero _)⟩) ?_ ?_
 · exact zi (e := by simp [hG, List.getD_cons_zero, List.getD_cons_succ, -List.getD_eq_getElem?_getD, hV, hV2]) (h := by simp [hG, List.getD_cons_zero, List.getD_cons_succ, -List.getD_eq_getElem?_getD, hV, hV2])
 rintro i ⟨hi, hn0⟩
 refine zs (zr ?_ (h := by intro c K h; simp [hG, List.getD_cons_zero, List.getD_cons_succ, -List.getD_eq_getElem?_getD, hV, hV2]; first | exact z1 c h | exact ⟨.mk c, h⟩))
 refine zs (zy (fun hb9 => ?_) fun hb9 => ?_)
 · refine zk (zs (zb (zs (zr ?_ (h := by intro c K h; simp [hG, List.getD_cons_zero, List.getD_cons_succ, -List.getD_eq_getElem?_getD, hV, hV2]; first | exact z1 c h | exact ⟨.mk c, h⟩)))))
   refine zs (zL (zl 5 ?_ (h := by intro c K h; simp [hG, List.getD_cons_zero, List.getD_cons_succ, -List.getD_eq_getElem?_getD, hV, hV2]; first | exact z1 c h | exact ⟨.mk c, h⟩)))
   refine zc hcal (hp _ (getD_mem (d := []) (by simpa using hb9))) ?_ (a := fun hg => by simp [hG, List.getD_cons_zero, List.getD_cons_succ, -List.getD_eq_getElem?_getD, hV, hV2]) (b := fun hg => by simp [hG, List.getD_cons_zero, List.getD_cons_succ, -List.getD_eq_getElem?_getD]; first | exact argsLe_caps fun j _ => hclo j | exact ⟨Clo.le _ Clo_ints, argsLe_caps fun j _ => hclo j⟩) (h := by intro K h; simp [hG, List.getD_cons_zero, List.getD_cons_succ, -List.getD_eq_getElem?_getD, hV, hV2]; exact h)
   refine zN (zy (fun hb16 => ?_) fun hb16 => ?_)
   · refine zs (zr ?_ (h := by intro c K h; simp [hG, List.getD_cons_zero, List.getD_cons_succ, -List.getD_eq_getElem?_getD, hV, hV2]; first | exact z1 c h | exact ⟨.mk c, h⟩))
     refine zt (zbt (ztt (zbt ?_)))
     refine RetOK_of ?_
     simp [hG, List.getD_cons_zero, List.getD_cons_succ, -List.getD_eq_getElem?_getD, hV, hV2]
     exact (placeG_at (by simpa using hb9) hb16 hn0).symm
   refine zk (zn (zbn (zr ?_ (h := by intro c K h; simp [hG, List.getD_cons_zero, List.getD_cons_succ, -List.getD_eq_getElem?_getD, hV, hV2]; first | exact z1 c h | exact ⟨.mk c, h⟩))))
   refine zn ?_
   refine round_end (i + 1) (⟨by omega, fun j hj => (Nat.lt_succ_iff_lt_or_eq.1 hj).elim (hn0 j) fun e => by rw [e]; exact hb16⟩) (by omega) ?_
   exact zi (e := by simp [hG, List.getD_cons_zero, List.getD_cons_succ, -List.getD_eq_getElem?_getD, hV, hV2]) (h := by simp [hG, List.getD_cons_zero, List.getD_cons_succ, -List.getD_eq_getElem?_getD, hV, hV2])
 refine zx (ztx (zbx (zs (zr ?_ (h := by intro c K h; simp [hG, List.getD_cons_zero, List.getD_cons_succ, -List.getD_eq_getElem?_getD, hV, hV2]; first | exact z1 c h | exact ⟨.mk c, h⟩)))))
 refine zt ?_
 refine RetOK_of ?_
 simp [hG, List.getD_cons_zero, List.getD_cons_succ, -List.getD_eq_getElem?_getD, hV, hV2]
 exact (placeG_none fun j hj => hn0 j (by omega)).symm
set_option maxRecDepth 100000 in
theorem indexM_c (l : List Int) (q : Int → Bool) (hfn hn : Nat) (hc : Nat → AVal) (hl : l.length ≤ maxLen) (hcal : Callable Tryz.prog hfn) (hclo : ∀ j, Clo (hc j)) (hp : ∀ x ∈ l, PC Tryz.prog hfn (.int .i64 x :: (List.range' 0 hn).map hc) (.bool (q x))) : PC Tryz.prog 47 [ints l, .fn hfn hn hc] (.int .i64 (placeG l q)) := by
 have hV : ∀ {h : Heap} {σ : Lift.Id → Lift.Id} {fz : Nat → Bool} {vz : Lift.Id → Bool} {nx j : Nat}, VLe h σ fz vz nx (hc j) (hc j) := fun {h σ fz vz nx j} => Clo.le _ (hclo j)
 have hV2 : ∀ {h : Heap} {σ : Lift.Id → Lift.Id} {fz : Nat → Bool} {vz : Lift.Id → Bool} {nx : Nat}, VLe h σ fz vz nx (.fn hfn hn hc) (.fn hfn hn hc) := fun {h σ fz vz nx} => Clo.le _ fun j _ => hclo j
 have hML : maxLen = 9223372036854775807 := by decide
 refine zp Tryz.func47 fun G hG hR => ?_
 refine zs (zr ?_ (h := by intro c K h; simp [hG, List.getD_cons_zero, List.getD_cons_succ, -List.getD_eq_getElem?_getD, hV, hV2]; first | exact z1 c h | exact ⟨.mk c, h⟩))
 refine zs (zs (zr ?_ (h := by intro c K h; simp [hG, List.getD_cons_zero, List.getD_cons_succ, -List.getD_eq_getElem?_getD, hV, hV2]; first | exact z1 c h | exact ⟨.mk c, h⟩)))
 refine zb ?_
 refine awpS_loop (α := Nat) (fun i => ⟨[(0, ints l), (1, .fn hfn hn hc), (7, .int .i64 l.length), (8, .int .i64 i)], [], 0⟩) (fun i => i ≤ l.length ∧ ∀ j, j < i → q (l.getD j 0) = false) (fun i => l.length - i) (0) (⟨Nat.zero_le _, fun j hj => absurd hj (Nat.not_lt_zero _)⟩) ?_ ?_
 · exact zi (e := by simp [hG, List.getD_cons_zero, List.getD_cons_succ, -List.getD_eq_getElem?_getD, hV, hV2]) (h := by simp [hG, List.getD_cons_zero, List.getD_cons_succ, -List.getD_eq_getElem?_getD, hV, hV2])
 rintro i ⟨hi, hn0⟩
 refine zs (zr ?_ (h := by intro c K h; simp [hG, List.getD_cons_zero, List.getD_cons_succ, -List.getD_eq_getElem?_getD, hV, hV2]; first | exact z1 c h | exact ⟨.mk c, h⟩))
 refine zs (zy (fun hb9 => ?_) fun hb9 => ?_)
 · refine zk (zs (zb (zs (zr ?_ (h := by intro c K h; simp [hG, List.getD_cons_zero, List.getD_cons_succ, -List.getD_eq_getElem?_getD, hV, hV2]; first | exact z1 c h | exact ⟨.mk c, h⟩)))))
   refine zs (zL (zl 5 ?_ (h := by intro c K h; simp [hG, List.getD_cons_zero, List.getD_cons_succ, -List.getD_eq_getElem?_getD, hV, hV2]; first | exact z1 c h | exact ⟨.mk c, h⟩)))
   refine zc hcal (hp _ (getD_mem (d := 0) (by simpa using hb9))) ?_ (a := fun hg => by simp [hG, List.getD_cons_zero, List.getD_cons_succ, -List.getD_eq_getElem?_getD, hV, hV2]) (b := fun hg => by simp [hG, List.getD_cons_zero, List.getD_cons_succ, -List.getD_eq_getElem?_getD]; first | exact argsLe_caps fun j _ => hclo j | exact ⟨Clo.le _ Clo_ints, argsLe_caps fun j _ => hclo j⟩) (h := by intro K h; simp [hG, List.getD_cons_zero, List.getD_cons_succ, -List.getD_eq_getElem?_getD, hV, hV2]; exact h)
   refine zN (zy (fun hb16 => ?_) fun hb16 => ?_)
   · refine zs (zr ?_ (h := by intro c K h; simp [hG, List.getD_cons_zero, List.getD_cons_succ, -List.getD_eq_getElem?_getD, hV, hV2]; first | exact z1 c h | exact ⟨.mk c, h⟩))
     refine zt (zbt (ztt (zbt ?_)))
     refine RetOK_of ?_
     simp [hG, List.getD_cons_zero, List.getD_cons_succ, -List.getD_eq_getElem?_getD, hV, hV2]
     exact (placeG_at (by simpa using hb9) hb16 hn0).symm
   refine zk (zn (zbn (zr ?_ (h := by intro c K h; simp [hG, List.getD_cons_zero, List.getD_cons_succ, -List.getD_eq_getElem?_getD, hV, hV2]; first | exact z1 c h | exact ⟨.mk c, h⟩))))
   refine zn ?_
   refine round_end (i + 1) (⟨by omega, fun j hj => (Nat.lt_succ_iff_lt_or_eq.1 hj).elim (hn0 j) fun e => by rw [e]; exact hb16⟩) (by omega) ?_
   exact zi (e := by simp [hG, List.getD_cons_zero, List.getD_cons_succ, -List.getD_eq_getElem?_getD, hV, hV2]) (h := by simp [hG, List.getD_cons_zero, List.getD_cons_succ, -List.getD_eq_getElem?_getD, hV, hV2])
 refine zx (ztx (zbx (zs (zr ?_ (h := by intro c K h; simp [hG, List.getD_cons_zero, List.getD_cons_succ, -List.getD_eq_getElem?_getD, hV, hV2]; first | exact z1 c h | exact ⟨.mk c, h⟩)))))
 refine zt ?_
 refine RetOK_of ?_
 simp [hG, List.getD_cons_zero, List.getD_cons_succ, -List.getD_eq_getElem?_getD, hV, hV2]
 exact (placeG_none fun j hj => hn0 j (by omega)).symm
set_option maxRecDepth 100000 in
theorem containsRd_c (l : List (List Spl)) (q : (List Spl) → Bool) (hfn hn : Nat) (hc : Nat → AVal) (hl : l.length ≤ maxLen) (hcal : Callable Tryz.prog hfn) (hclo : ∀ j, Clo (hc j)) (hp : ∀ x ∈ l, PC Tryz.prog hfn (spls x :: (List.range' 0 hn).map hc) (.bool (q x))) : PC Tryz.prog 19 [rds l, .fn hfn hn hc] (.bool (l.any q)) := by
 have hV : ∀ {h : Heap} {σ : Lift.Id → Lift.Id} {fz : Nat → Bool} {vz : Lift.Id → Bool} {nx j : Nat}, VLe h σ fz vz nx (hc j) (hc j) := fun {h σ fz vz nx j} => Clo.le _ (hclo j)
 have hV2 : ∀ {h : Heap} {σ : Lift.Id → Lift.Id} {fz : Nat → Bool} {vz : Lift.Id → Bool} {nx : Nat}, VLe h σ fz vz nx (.fn hfn hn hc) (.fn hfn hn hc) := fun {h σ fz vz nx} => Clo.le _ fun j _ => hclo j
 have hML : maxLen = 9223372036854775807 := by decide
 refine zp Tryz.func19 fun G hG hR => ?_
 refine zs (zr ?_ (h := by intro c K h; simp [hG, List.getD_cons_zero, List.getD_cons_succ, -List.getD_eq_getElem?_getD, hV, hV2]; first | exact z1 c h | exact ⟨.mk c, h⟩))
 refine zs (zL (zl 2 ?_ (h := by intro c K h; simp [hG, List.getD_cons_zero, List.getD_cons_succ, -List.getD_eq_getElem?_getD, hV, hV2]; first | exact z1 c h | exact ⟨.mk c, h⟩)))
 refine zc cal48 (indexRd_c l q hfn hn hc hl hcal hclo hp) ?_ (a := fun hg => by simp [hG, List.getD_cons_zero, List.getD_cons_succ, -List.getD_eq_getElem?_getD, hV, hV2]) (b := fun hg => by simp [hG, List.getD_cons_zero, List.getD_cons_succ, -List.getD_eq_getElem?_getD, hV, hV2]) (h := by intro K h; simp [hG, List.getD_cons_zero, List.getD_cons_succ, -List.getD_eq_getElem?_getD, hV, hV2]; exact h)
 refine zl 2 ?_ (h := by intro c K h; simp [hG, List.getD_cons_zero, List.getD_cons_succ, -List.getD_eq_getElem?_getD, hV, hV2]; first | exact z1 c h | exact ⟨.mk c, h⟩)
 refine zN (zt ?_)
 refine RetOK_of ?_
 simp [hG, List.getD_cons_zero, List.getD_cons_succ, -List.getD_eq_getElem?_getD, hV, hV2]
 rw [← placeG_any]
set_option maxRecDepth 100000 in
theorem containsM_c (l : List Int) (q : Int → Bool) (hfn hn : Nat) (hc : Nat → AVal) (hl : l.length ≤ maxLen) (hcal : Callable Tryz.prog hfn) (hclo : ∀ j, Clo (hc j)) (hp : ∀ x ∈ l, PC Tryz.prog hfn (.int .i64 x :: (List.range' 0 hn).map hc) (.bool (q x))) : PC Tryz.prog 17 [ints l, .fn hfn hn hc] (.bool (l.any q)) := by
 have hV : ∀ {h : Heap} {σ : Lift.Id → Lift.Id} {fz : Nat → Bool} {vz : Lift.Id → Bool} {nx j : Nat}, VLe h σ fz vz nx (hc j) (hc j) := fun {h σ fz vz nx j} => Clo.le _ (hclo j)
 have hV2 : ∀ {h : Heap} {σ : Lift.Id → Lift.Id} {fz : Nat → Bool} {vz : Lift.Id → Bool} {nx : Nat}, VLe h σ fz vz nx (.fn hfn hn hc) (.fn hfn hn hc) := fun {h σ fz vz nx} => Clo.le _ fun j _ => hclo j
 have hML : maxLen = 9223372036854775807 := by decide
 refine zp Tryz.func17 fun G hG hR => ?_
 refine zs (zr ?_ (h := by intro c K h; simp [hG, List.getD_cons_zero, List.getD_cons_succ, -List.getD_eq_getElem?_getD, hV, hV2]; first | exact z1 c h | exact ⟨.mk c, h⟩))
 refine zs (zL (zl 2 ?_ (h := by intro c K h; simp [hG, List.getD_cons_zero, List.getD_cons_succ, -List.getD_eq_getElem?_getD, hV, hV2]; first | exact z1 c h | exact ⟨.mk c, h⟩)))
 refine zc cal47 (indexM_c l q hfn hn hc hl hcal hclo hp) ?_ (a := fun hg => by simp [hG, List.getD_cons_zero, List.getD_cons_succ, -List.getD_eq_getElem?_getD, hV, hV2]) (b := fun hg => by simp [hG, List.getD_cons_zero, List.getD_cons_succ, -List.getD_eq_getElem?_getD, hV, hV2]) (h := by intro K h; simp [hG, List.getD_cons_zero, List.getD_cons_succ, -List.getD_eq_getElem?_getD, hV, hV2]; exact h)
 refine zl 2 ?_ (h := by intro c K h; simp [hG, List.getD_cons_zero, List.getD_cons_succ, -List.getD_eq_getElem?_getD, hV, hV2]; first | exact z1 c h | exact ⟨.mk c, h⟩)
 refine zN (zt ?_)
 refine RetOK_of ?_
 simp [hG, List.getD_cons_zero, List.getD_cons_succ, -List.getD_eq_getElem?_getD, hV, hV2]
 rw [← placeG_any]
set_option maxRecDepth 100000 in
theorem great1_c (n : Int) : PC Tryz.prog 18 [.int .i64 n] (.bool (decide (6 < n))) := by
 refine zp Tryz.func18 fun G hG hR => ?_
 refine zs (zr ?_)
 refine zs (zr ?_)
 refine zt ?_
 exact zR
set_option maxRecDepth 100000 in
theorem greatE_c (p : Prf) (hin : (p.w.length ≤ maxLen ∧ p.rounds.length ≤ maxLen ∧ ∀ x ∈ p.rounds, x.length ≤ maxLen ∧ ∀ y ∈ x, y.parts.length ≤ maxLen)) : PC Tryz.prog 5 [.agg 6 (prfF p)] (.bool (bigP p)) := by
 refine zp Tryz.func5 fun G hG hR => ?_
 refine zs (zrP ?_)
 refine zs (zL (zlP 2 ?_))
 refine zcP cal16 (great9_c p.g) ?_
 refine zlP 22 ?_
 refine zcP cal17 (containsM_c p.w (fun n => decide (6 < n)) 18 0 (fun _ => .any) hin.1 cal18 (fun _ => trivial) fun x _ => great1_c x) ?_
 refine zlP 10 ?_
 refine zcP cal19 (containsRd_c p.rounds greatR 20 0 (fun _ => .any) hin.2.1 cal20 (fun _ => trivial) fun x hx => greatR_c x (hin.2.2 x hx).1 (hin.2.2 x hx).2) ?_
 refine zlP 2 ?_
 refine zN (zt ?_)
 refine RetOK_of ?_
 simp [hG, List.getD_cons_zero, List.getD_cons_succ, -List.getD_eq_getElem?_getD, pureOp]
 unfold bigP; congr 3; rw [Bool.eq_iff_iff]; simp
end Go.Proofs.YtchjjiedcpfniaaGreatDoor
