/- Parts of the proof: WD. -/
import Derived.Test.YtchjjiedcpfniaaGreatDoorU16
import Derived.Test.YtchjjiedcpfniaaGreatDoorU19
import Derived.Test.YtchjjiedcpfniaaGreatDoorU20
namespace Go.Proofs.YtchjjiedcpfniaaGreatDoor
set_option linter.unusedSimpArgs false
set_option linter.unusedVariables false
open Go Go.Lift Go.Proofs
section
variable {g : Gr} {v : List Int} {m : Int} {x : Spl}
theorem wtB_no1 {i : Nat} (hi : i < x.parts.length) (h : wtI g v m x i < 1) : wtB g v m x = false := by
  unfold wtB
  rw [Bool.and_eq_false_iff]
  refine .inl (List.all_eq_false.2 ⟨wtI g v m x i, ?_, by simpa using h⟩)
  unfold wtL wtA
  exact List.mem_map.2 ⟨i, List.mem_range.2 hi, rfl⟩
theorem wtB_no2 (h : psV g v (x.parts.getD (x.parts.length - 1) []) < m * wtI g v m x (x.parts.length - 1)) : wtB g v m x = false := by
  unfold wtB
  rw [Bool.and_eq_false_iff]
  exact .inr (decide_eq_false (by omega))
theorem wtB_yes (h : ∀ j, j < x.parts.length → 1 ≤ wtI g v m x j) (h2 : m * wtI g v m x (x.parts.length - 1) ≤ psV g v (x.parts.getD (x.parts.length - 1) [])) : wtB g v m x = true := by
  unfold wtB
  rw [Bool.and_eq_true, decide_eq_true_eq]
  refine ⟨List.all_eq_true.2 fun n hn => ?_, h2⟩
  unfold wtL wtA at hn
  obtain ⟨j, hj, rfl⟩ := List.mem_map.1 hn
  exact decide_eq_true (h j (List.mem_range.1 hj))
theorem wt_last (hn : 0 < x.parts.length) : wtI g v m x (x.parts.length - 1) = lfA g v m x (x.parts.length - 1) := if_pos (by omega)
theorem wtB_last_no (hn : 0 < x.parts.length) (h : lfA g v m x (x.parts.length - 1) < 1 ∨ psV g v (x.parts.getD (x.parts.length - 1) []) < m * lfA g v m x (x.parts.length - 1)) : wtB g v m x = false := by
  rcases h with h | h
  · exact wtB_no1 (i := x.parts.length - 1) (by omega) (by rw [wt_last hn]; exact h)
  · exact wtB_no2 (by rw [wt_last hn]; exact h)
theorem wtB_last_yes (hn : 0 < x.parts.length) (hn2 : ∀ j, j < x.parts.length - 1 → 1 ≤ wtI g v m x j) (h : 1 ≤ lfA g v m x (x.parts.length - 1) ∧ m * lfA g v m x (x.parts.length - 1) ≤ psV g v (x.parts.getD (x.parts.length - 1) [])) : wtB g v m x = true :=
  wtB_yes (fun j hj => (Nat.lt_or_ge j (x.parts.length - 1)).elim (hn2 j) fun h2 => by rw [show j = x.parts.length - 1 by omega, wt_last hn]; exact h.1) (by rw [wt_last hn]; exact h.2)
end
def bigS (x : Spl) : Bool := decide (6 < x.parts.length) || x.parts.any fun p => decide (16 < p.length)
def greatR (l : List Spl) : Bool := l.any bigS || decide (8 < l.length)
theorem list_ext {α : Type} {d : α} {a b : List α} (hl : a.length = b.length) (h : ∀ j, j < a.length → a.getD j d = b.getD j d) : a = b := by
  refine List.ext_getElem hl fun j h1 h2 => ?_
  have := h j h1
  simpa [List.getD, h1, h2] using this
set_option maxRecDepth 100000 in
set_option maxHeartbeats 1000000 in
theorem shares_c (g : Gr) (v : List Int) (m : Int) (x : Spl) (hv : gcheck g = 0) (hl : (v.length : Int) = g.states) (hbx : BoxV v) (hm : 1 ≤ m ∧ m ≤ 256) (hx : SplOK g x) (hn : 0 < x.parts.length) : PC Tryz.prog 111 [.agg 3 (grF g), ints v, .int .i64 m, .agg 2 (splF x)] (.tup 2 (fun j => [ints (if wtB g v m x = true then wtL g v m x else []), .bool (wtB g v m x)].getD j .any)) := by
 have hxs := hx.st
 have hxn := hx.num
 have hpml := getD_mem (d := ([] : List Int)) (show x.parts.length - 1 < x.parts.length by omega)
 have hwbl := wt_box hbx hm.1 hx (show x.parts.length - 1 < x.parts.length by omega)
 have hmw := mul_le16 hm hwbl
 have hwl : wtI g v m x (x.parts.length - 1) = lfA g v m x (x.parts.length - 1) := if_pos (by omega)
 have hmw2 := hmw
 have hwb2 := hwbl
 rw [hwl] at hmw2 hwb2
 have hpsl : 0 ≤ psV g v (x.parts.getD (x.parts.length - 1) []) ∧ psV g v (x.parts.getD (x.parts.length - 1) []) ≤ ((x.parts.getD (x.parts.length - 1) []).length : Int) * 4096 := psA_box hbx _
 have hpll := hx.len _ hpml
 refine zp Tryz.func111 fun G hG hR => ?_
 refine zs (zrP ?_)
 refine zs (zrP ?_)
 refine zs (zrP ?_)
 refine zs (zs (zrP ?_))
 refine zb ?_
 refine awpS_loop (α := Nat) (fun i => ⟨[(1, ints v), (2, .int .i64 m), (4, .ptr (0, 0) 0 0), (7, .ptr (1, 0) 0 0), (10, .sl (2, 0) 0 i), (11, .int .i64 (lfA g v m x i)), (12, .int .i64 i)], [(0, .one (.arr 1 3 (fun _ => grF g))), (1, .one (.arr 1 2 (fun _ => splF x))), (2, .one (.arr i 1 (fun q _ => .int .i64 (wtI g v m x q))))], 3⟩) (fun i => i + 1 ≤ x.parts.length ∧ ∀ j, j < i → 1 ≤ wtI g v m x j) (fun i => x.parts.length - i) (0) (⟨hn, fun j hj => absurd hj (Nat.not_lt_zero _)⟩) ?_ ?_
 · exact ziP (e := by simp [hG, List.getD_cons_zero, List.getD_cons_succ, -List.getD_eq_getElem?_getD]; rfl)
 rintro i ⟨hi, hn2⟩
 refine zs (zs (zrP ?_))
 refine zy (fun hb25 => ?_) fun hb25 => ?_
 · have hil : i + 1 < x.parts.length := (by omega)
   have hpm := getD_mem (d := ([] : List Int)) (show i < x.parts.length by omega)
   have hpl := hx.len _ hpm
   have hpb := hx.box _ hpm
   have hlb := lfA_box hbx hm.1 hx i (by omega)
   have hw : wtI g v m x i = psV g v (x.parts.getD i []) / m := if_neg (by omega)
   have hwb := wt_box hbx hm.1 hx (show i < x.parts.length by omega)
   have hpsb : 0 ≤ psV g v (x.parts.getD i []) ∧ psV g v (x.parts.getD i []) ≤ ((x.parts.getD i []).length : Int) * 4096 := psA_box hbx _
   have hq1 : 0 ≤ psV g v (x.parts.getD i []) / m := Int.ediv_nonneg hpsb.1 (by omega)
   have hq2 : psV g v (x.parts.getD i []) / m ≤ psV g v (x.parts.getD i []) := Int.ediv_le_self _ hpsb.1
   refine zk (zs (zb (zs ?_)))
   refine awpS_draw hR mixed [] ⟨[], [], []⟩ fun mu0 => ?_
   refine zaP [0, 1, 2, 3, 4, 5, 6, 8] [] 3 [8, 6, 5, 4, 3, 2, 1, 0] ?_
   refine awpA_only (fuel := 2) (i := 7) (by decide +kernel) ?_
   refine zeP cal137 (sumP_c g v (x.parts.getD i []) hv hl hbx hpl hpb) ?_
   refine zaP [9, 10] [] 0 [10, 9, 7, 8, 6, 5, 4, 3, 2, 1, 0] ?_
   refine awpA_done (by decide +kernel) ?_
   refine zs (zs (zrP ?_))
   refine zy (fun hb39 => ?_) fun hb39 => ?_
   · refine zs (zrP ?_)
     refine zt (zbt (ztt (zbt ?_)))
     refine RetOK_of ?_
     simp [hG, List.getD_cons_zero, List.getD_cons_succ, -List.getD_eq_getElem?_getD, pureOp]
     rw [wtB_no1 (g := g) (v := v) (m := m) (x := x) (i := i) (by omega) (by rw [hw]; omega)]; exact ⟨fun h => absurd h Bool.false_ne_true, rfl⟩
   refine zk (zs (zrP ?_))
   refine zrP ?_
   refine zn (zbn (zrP ?_))
   refine zn ?_
   refine round_end (i + 1) (⟨by omega, step_all hn2 (by rw [hw]; omega)⟩) (by omega) ?_
   exact zw (fun k => if k = 2 then 4 else k) (fun _ => false) (fun _ => false) (e := by rw [lfA_succ, hw]; simp [hG, List.getD_cons_zero, List.getD_cons_succ, -List.getD_eq_getElem?_getD]) (h := by simp [hG, List.getD_cons_zero, List.getD_cons_succ, -List.getD_eq_getElem?_getD]; exact fun q hq => app_last hq hw)
 obtain rfl : i = x.parts.length - 1 := (by omega)
 refine zx (ztx (zbx (zs (zs ?_))))
 refine awpS_draw hR mixed [] ⟨[], [], []⟩ fun mu0 => ?_
 refine zaP [0, 1, 2, 3, 4, 5, 6, 7, 8, 9, 10, 11, 12, 14, 15, 16] [] 3 [16, 15, 14, 12, 11, 10, 9, 8, 7, 6, 5, 4, 3, 2, 1, 0] ?_
 refine awpA_only (fuel := 2) (i := 13) (by decide +kernel) ?_
 refine zeP cal137 (sumP_c g v (x.parts.getD (x.parts.length - 1) []) hv hl hbx (hx.len _ hpml) (hx.box _ hpml)) ?_
 refine zaP [17, 18] [] 0 [18, 17, 13, 16, 15, 14, 12, 11, 10, 9, 8, 7, 6, 5, 4, 3, 2, 1, 0] ?_
 refine awpA_done (by decide +kernel) ?_
 refine zy (fun hb65 => ?_) fun hb65 => ?_
 · refine zs (zrP ?_)
   refine zt ?_
   refine RetOK_of ?_
   simp [hG, List.getD_cons_zero, List.getD_cons_succ, -List.getD_eq_getElem?_getD, pureOp]
   rw [wtB_last_no hn hb65]; exact ⟨fun h => absurd h Bool.false_ne_true, rfl⟩
 refine zk (zs (zrP ?_))
 refine zt ?_
 refine RetOK_of ?_
 simp [hG, List.getD_cons_zero, List.getD_cons_succ, -List.getD_eq_getElem?_getD, pureOp]
 rw [wtB_last_yes hn hn2 hb65]; rw [if_pos rfl]; refine ⟨⟨by rw [wtL_len]; omega, by rw [wtL_len]; omega, fun q hq => ?_⟩, rfl⟩; rw [wtL_len] at hq; rw [app_last (F := wtI g v m x) (by omega) hwl]; congr 1; exact (wtA_at hq).symm
set_option maxRecDepth 100000 in
theorem greatR_c (l : List Spl) (hl : l.length ≤ maxLen) (hp : ∀ x ∈ l, x.parts.length ≤ maxLen) : PC Tryz.prog 20 [spls l] (.bool (greatR l)) := by
 have hML : maxLen = 9223372036854775807 := by decide
 refine zp Tryz.func20 fun G hG hR => ?_
 refine zs (zrP ?_)
 refine zs (zs (zrP ?_))
 refine zb ?_
 refine awpS_loop (α := Nat) (fun i => ⟨[(0, spls l), (3, .int .i64 i)], [], 0⟩) (fun i => i ≤ l.length ∧ ∀ j, j < i → bigS (l.getD j ds) = false) (fun i => l.length - i) (0) (⟨Nat.zero_le _, fun j hj => absurd hj (Nat.not_lt_zero _)⟩) ?_ ?_
 · exact ziP
 rintro i ⟨hi, hn⟩
 refine zs (zs (zrP ?_))
 refine zy (fun hb8 => ?_) fun hb8 => ?_
 · have hxm := hp _ (getD_mem (d := ds) (show i < l.length by omega))
   refine zk (zs (zb (zs (zs (zrP ?_)))))
   refine zy (fun hb17 => ?_) fun hb17 => ?_
   · refine zs (zrP ?_)
     refine zt (zbt (ztt (zbt ?_)))
     refine RetOK_of ?_
     simp [hG, List.getD_cons_zero, List.getD_cons_succ, -List.getD_eq_getElem?_getD, pureOp]
     unfold greatR; rw [any_hit (f := bigS) (d := ds) (i := i) (by omega) (by unfold bigS; rw [decide_eq_true (by omega)]; rfl)]; rfl
   refine zk (zs (zrP ?_))
   refine zb ?_
   refine awpS_loop (α := Nat) (fun k => ⟨[(0, spls l), (3, .int .i64 i), (4, .int .i64 k)], [], 0⟩) (fun k => k ≤ (l.getD i ds).parts.length ∧ ∀ j, j < k → decide (16 < ((l.getD i ds).parts.getD j []).length) = false) (fun k => (l.getD i ds).parts.length - k) (0) (⟨Nat.zero_le _, fun j hj => absurd hj (Nat.not_lt_zero _)⟩) ?_ ?_
   · exact ziP
   rintro k ⟨hk, hn2⟩
   refine zs (zs (zrP ?_))
   refine zy (fun hb25 => ?_) fun hb25 => ?_
   · refine zk (zs (zb (zs (zrP ?_))))
     refine zy (fun hb37 => ?_) fun hb37 => ?_
     · refine zs (zrP ?_)
       refine zt (zbt (ztt (zbt (zbt (ztt (zbt ?_))))))
       refine RetOK_of ?_
       simp [hG, List.getD_cons_zero, List.getD_cons_succ, -List.getD_eq_getElem?_getD, pureOp]
       unfold greatR; rw [any_hit (f := bigS) (d := ds) (i := i) (by omega) (by unfold bigS; rw [any_hit (d := ([] : List Int)) (i := k) (by omega) (decide_eq_true (by omega)), Bool.or_true])]; rfl
     refine zk (zn (zbn (zrP ?_)))
     refine zn ?_
     refine round_end (k + 1) (⟨by omega, step_all hn2 (decide_eq_false (by omega))⟩) (by omega) ?_
     exact ziP
   refine zx (ztx (zbx (zn (zbn (zrP ?_)))))
   refine zn ?_
   refine round_end (i + 1) (⟨by omega, step_all hn (by unfold bigS; rw [decide_eq_false (by omega), any_miss (d := ([] : List Int)) (fun j hj => hn2 j (by omega))]; rfl)⟩) (by omega) ?_
   exact ziP
 refine zx (ztx (zbx (zs (zrP ?_))))
 refine zt ?_
 refine RetOK_of ?_
 simp [hG, List.getD_cons_zero, List.getD_cons_succ, -List.getD_eq_getElem?_getD, pureOp]
 unfold greatR; rw [any_miss (f := bigS) (d := ds) (fun j hj => hn j (by omega)), Bool.false_or]; congr 1; simp only [eq_iff_iff]; omega
end Go.Proofs.YtchjjiedcpfniaaGreatDoor
