/-
 Walks: the weights of the parts of a split, by the program and by the reference.
-/
import Derived.Test.YthpdkmoedpcboaaNB
import Derived.Test.YthpdkmoedpcboaaWB
namespace Go.Proofs.Ythpdkmoedpcboaa
set_option linter.unusedSimpArgs false
set_option linter.unusedVariables false
open Go Go.Lift Go.Proofs
theorem mul_le16 {m x : Int} (hm : 1 ≤ m ∧ m ≤ 256) (hx : -5000000000 ≤ x ∧ x ≤ 5000000) : -1280000000000 ≤ m * x ∧ m * x ≤ 1280000000 := by
 have h1 := Int.mul_le_mul_of_nonneg_left hx.2 (show 0 ≤ m by omega)
 have h2 := Int.mul_le_mul_of_nonneg_left hx.1 (show 0 ≤ m by omega)
 omega
theorem wt_box {g : Gr} {v : List Int} {m : Int} {x : Spl} (hb : BoxV v) (hm : 1 ≤ m) (hx : SplOK g x) {i : Nat} (hi : i < x.parts.length) : -5000000000 ≤ wtI g v m x i ∧ wtI g v m x i ≤ 5000000 := by
 have h1 := lfA_box hb hm hx i hi
 have hn := hx.num
 have hl := hx.len _ (getD_mem (d := []) hi)
 have h2 := psA_box (g := g) (p := x.parts.getD i []) hb (x.parts.getD i []).length
 have h3 : 0 ≤ psV g v (x.parts.getD i []) / m := Int.ediv_nonneg h2.1 (by omega)
 have h4 : psV g v (x.parts.getD i []) / m ≤ psV g v (x.parts.getD i []) := Int.ediv_le_self _ h2.1
 have h5 : psV g v (x.parts.getD i []) ≤ ((x.parts.getD i []).length : Int) * 4096 := h2.2
 unfold wtI
 split <;> omega
set_option maxRecDepth 100000 in
theorem minC_c (l : List Int) (h0 : 0 < l.length) (hl : l.length ≤ 1000000) : PC Try.prog 42 [ints l] (.int .i64 (mnV l)) := by
 refine PC_introS T_ok Try.func42 rfl (by simp [Try.ntmps42]) fun G hG hR => ?_
 simp only [Try.ntmps42, Try.results42] at hG ⊢
 simp only [argEnv, Nat.zero_add, Nat.reduceAdd]
 refine awpS_seq ?_
 refine awpS_reg T_ok fun K hK => ?_
 simp [hG, List.getD_cons_zero, List.getD_cons_succ, -List.getD_eq_getElem?_getD]
 refine hK _ ?_
 clear K hK
 refine awpS_seq ?_
 refine awpS_seq ?_
 refine awpS_reg T_ok fun K hK => ?_
 simp [hG, List.getD_cons_zero, List.getD_cons_succ, -List.getD_eq_getElem?_getD]
 refine hK _ ?_
 clear K hK
 refine awpS_cond rfl (fun hb7 => ?_) (fun hb7 => ?_)
 ·
  simp at hb7; omega
 ·
  try simp [-List.getD_eq_getElem?_getD] at hb7
  refine awpS_skip ?_
  refine awpS_seq ?_
  refine awpS_reg T_ok fun K hK => ?_
  simp [hG, List.getD_cons_zero, List.getD_cons_succ, -List.getD_eq_getElem?_getD]
  refine ⟨Cond.mk (by omega), hK _ ?_⟩
  clear K hK
  refine awpS_seq ?_
  refine awpS_seq ?_
  refine awpS_reg T_ok fun K hK => ?_
  simp [hG, List.getD_cons_zero, List.getD_cons_succ, -List.getD_eq_getElem?_getD]
  refine hK _ ?_
  clear K hK
  refine awpS_block ?_
  refine awpS_loop (α := Nat) (fun i => ⟨[(0, ints l), (3, .int .i64 (mnA l i)), (4, .int .i64 ((i : Int) + 1))], [], 0⟩) (fun i => i + 1 ≤ l.length) (fun i => l.length - i) (0) (h0) ?_ ?_
  ·
   refine wk_of (id) (fun _ => false) (fun _ => false) ?_ ?_ rfl (Nat.zero_le _) (fun k hk => absurd hk (Nat.not_lt_zero _))
   · simp [hG, List.getD_cons_zero, List.getD_cons_succ, -List.getD_eq_getElem?_getD]; rfl
   · simp [hG, List.getD_cons_zero, List.getD_cons_succ, -List.getD_eq_getElem?_getD]
  ·
   rintro i hi
   refine awpS_seq ?_
   refine awpS_seq ?_
   refine awpS_reg T_ok fun K hK => ?_
   simp [hG, List.getD_cons_zero, List.getD_cons_succ, -List.getD_eq_getElem?_getD]
   refine hK _ ?_
   clear K hK
   refine awpS_cond rfl (fun hb15 => ?_) (fun hb15 => ?_)
   ·
    try simp [-List.getD_eq_getElem?_getD] at hb15
    refine awpS_skip ?_
    refine awpS_seq ?_
    refine awpS_block ?_
    refine awpS_reg T_ok fun K hK => ?_
    simp [hG, List.getD_cons_zero, List.getD_cons_succ, -List.getD_eq_getElem?_getD]
    refine ⟨Cond.mk (by omega), hK _ ?_⟩
    clear K hK
    refine awpS_nil ?_
    refine blockQ_norm (thenQ_norm ?_)
    refine awpS_reg T_ok fun K hK => ?_
    simp [hG, List.getD_cons_zero, List.getD_cons_succ, -List.getD_eq_getElem?_getD]
    refine ⟨Cond.mk (by omega), hK _ ?_⟩
    clear K hK
    refine awpS_nil ?_
    refine round_end (i + 1) (by omega) (by omega) ?_
    refine wk_of (id) (fun _ => false) (fun _ => false) ?_ ?_ rfl (Nat.zero_le _) (fun k hk => absurd hk (Nat.not_lt_zero _))
    · simp [hG, List.getD_cons_zero, List.getD_cons_succ, -List.getD_eq_getElem?_getD]; rfl
    · simp [hG, List.getD_cons_zero, List.getD_cons_succ, -List.getD_eq_getElem?_getD]
   ·
    try simp [-List.getD_eq_getElem?_getD] at hb15
    obtain hil : i = l.length - 1 := (by omega)
    refine awpS_exit ?_
    refine thenQ_exit (thenQ_exit ?_)
    refine blockQ_exit (thenQ_norm ?_)
    refine awpS_seq ?_
    refine awpS_reg T_ok fun K hK => ?_
    simp [hG, List.getD_cons_zero, List.getD_cons_succ, -List.getD_eq_getElem?_getD]
    refine hK _ ?_
    clear K hK
    refine awpS_ret ?_
    refine RetOK_of ?_
    simp [hG, List.getD_cons_zero, List.getD_cons_succ, -List.getD_eq_getElem?_getD]
    unfold mnV; rw [hil]

set_option maxRecDepth 100000 in
set_option maxHeartbeats 1000000 in
theorem weights_c (g : Gr) (v : List Int) (m : Int) (x : Spl) (hv : gcheck g = 0) (hl : (v.length : Int) = g.states) (hbx : BoxV v) (hm : 1 ≤ m ∧ m ≤ 256) (hx : SplOK g x) (hn : 0 < x.parts.length) : PC Try.prog 25 [.agg 3 (grF g), ints v, .int .i64 m, .agg 2 (splF x)] (.tup 2 (fun j => [ints (wtL g v m x), .bool (wtB g v m x)].getD j .any)) := by
 have hxs := hx.st
 have hxn := hx.num
 refine PC_introS T_ok Try.func25 rfl (by simp [Try.ntmps25]) fun G hG hR => ?_
 simp only [Try.ntmps25, Try.results25] at hG ⊢
 simp only [argEnv, Nat.zero_add, Nat.reduceAdd]
 refine awpS_seq ?_
 refine awpS_reg T_ok fun K hK => ?_
 simp [hG, List.getD_cons_zero, List.getD_cons_succ, -List.getD_eq_getElem?_getD, pureOp]
 refine ⟨Cond.mk (by simp [-List.getD_eq_getElem?_getD]), hK _ ?_⟩
 clear K hK
 refine awpS_seq ?_
 refine awpS_reg T_ok fun K hK => ?_
 simp [hG, List.getD_cons_zero, List.getD_cons_succ, -List.getD_eq_getElem?_getD, pureOp]
 refine ⟨Cond.mk (by omega), hK _ ?_⟩
 clear K hK
 refine awpS_seq ?_
 refine awpS_reg T_ok fun K hK => ?_
 simp [hG, List.getD_cons_zero, List.getD_cons_succ, -List.getD_eq_getElem?_getD, pureOp]
 refine hK _ ?_
 clear K hK
 refine awpS_seq ?_
 refine awpS_seq ?_
 refine awpS_reg T_ok fun K hK => ?_
 simp [hG, List.getD_cons_zero, List.getD_cons_succ, -List.getD_eq_getElem?_getD, pureOp]
 refine hK _ ?_
 clear K hK
 refine awpS_block ?_
 refine awpS_loop (α := Nat) (fun i => ⟨[(1, ints v), (2, .int .i64 m), (4, .ptr (0, 0) 0 0), (7, .ptr (1, 0) 0 0), (10, .int .i64 (lfA g v m x i)), (11, .int .i64 (psP g v x i)), (12, .sl (2, 0) 0 i), (24, rowsI x.parts), (25, .int .i64 x.parts.length), (26, .int .i64 i)], [(0, .one (.arr 1 3 (fun _ => grF g))), (1, .one (.arr 1 2 (fun _ => splF x))), (2, .one (.arr i 1 (fun q _ => .int .i64 (wtI g v m x q))))], 3⟩) (fun i => i ≤ x.parts.length) (fun i => x.parts.length - i) (0) (Nat.zero_le _) ?_ ?_
 ·
  refine wk_of (id) (fun _ => false) (fun k => k == 2) ?_ ?_ rfl (Nat.zero_le _) (fun k hk => absurd hk (Nat.not_lt_zero _))
  · simp [hG, List.getD_cons_zero, List.getD_cons_succ, -List.getD_eq_getElem?_getD]; exact ⟨rfl, rfl⟩
  · simp [hG, List.getD_cons_zero, List.getD_cons_succ, -List.getD_eq_getElem?_getD, pureOp]
 ·
  rintro i hi
  refine awpS_seq ?_
  refine awpS_reg T_ok fun K hK => ?_
  simp [hG, List.getD_cons_zero, List.getD_cons_succ, -List.getD_eq_getElem?_getD, pureOp]
  refine hK _ ?_
  clear K hK
  refine awpS_seq ?_
  refine awpS_cond rfl (fun hb27 => ?_) (fun hb27 => ?_)
  ·
   try simp [-List.getD_eq_getElem?_getD] at hb27
   have hil : i < x.parts.length := (by omega)
   have hpm := getD_mem (d := ([] : List Int)) hil
   have hpl := hx.len _ hpm
   have hpb := hx.box _ hpm
   have hlb := lfA_box hbx hm.1 hx i hil
   have hwb := wt_box hbx hm.1 hx hil
   refine awpS_skip ?_
   refine awpS_seq ?_
   refine awpS_block ?_
   refine awpS_seq ?_
   refine awpS_reg T_ok fun K hK => ?_
   simp [hG, List.getD_cons_zero, List.getD_cons_succ, -List.getD_eq_getElem?_getD, pureOp]
   refine ⟨Cond.mk (by omega), hK _ ?_⟩
   clear K hK
   refine awpS_seq ?_
   refine awpS_reg T_ok fun K hK => ?_
   simp [hG, List.getD_cons_zero, List.getD_cons_succ, -List.getD_eq_getElem?_getD, pureOp]
   refine hK _ ?_
   clear K hK
   refine awpS_seq ?_
   refine awpS_seq ?_
   refine awpS_reg T_ok fun K hK => ?_
   simp [hG, List.getD_cons_zero, List.getD_cons_succ, -List.getD_eq_getElem?_getD, pureOp]
   refine hK _ ?_
   clear K hK
   refine awpS_block ?_
   refine awpS_loop (α := Nat) (fun q => ⟨[(1, ints v), (2, .int .i64 m), (4, .ptr (0, 0) 0 0), (7, .ptr (1, 0) 0 0), (10, .int .i64 (lfA g v m x i)), (11, .int .i64 (psA g v (x.parts.getD i []) q)), (12, .sl (2, 0) 0 i), (13, .int .i64 i), (24, rowsI x.parts), (25, .int .i64 x.parts.length), (26, .int .i64 i), (31, ints (x.parts.getD i [])), (32, .int .i64 (x.parts.getD i []).length), (33, .int .i64 q)], [(0, .one (.arr 1 3 (fun _ => grF g))), (1, .one (.arr 1 2 (fun _ => splF x))), (2, .one (.arr i 1 (fun q _ => .int .i64 (wtI g v m x q))))], 3⟩) (fun q => q ≤ (x.parts.getD i []).length) (fun q => (x.parts.getD i []).length - q) (0) (Nat.zero_le _) ?_ ?_
   ·
    refine wk_of (id) (fun _ => false) (fun _ => false) ?_ ?_ rfl (Nat.zero_le _) (fun k hk => absurd hk (Nat.not_lt_zero _))
    · simp [hG, List.getD_cons_zero, List.getD_cons_succ, -List.getD_eq_getElem?_getD]; rfl
    · simp [hG, List.getD_cons_zero, List.getD_cons_succ, -List.getD_eq_getElem?_getD, pureOp]
   ·
    rintro q hq
    refine awpS_seq ?_
    refine awpS_reg T_ok fun K hK => ?_
    simp [hG, List.getD_cons_zero, List.getD_cons_succ, -List.getD_eq_getElem?_getD, pureOp]
    refine hK _ ?_
    clear K hK
    refine awpS_seq ?_
    refine awpS_cond rfl (fun hb34 => ?_) (fun hb34 => ?_)
    ·
     try simp [-List.getD_eq_getElem?_getD] at hb34
     have hki := hpb _ (getD_mem (d := (0 : Int)) (show q < (x.parts.getD i []).length by omega))
     have heb := edge_in hv (getD_mem (d := de) (show ((x.parts.getD i []).getD q 0).toNat < g.edges.length by omega))
     have hps := psA_box (g := g) (p := (x.parts.getD i [])) hbx q
     have hvb := box_at hbx (g.edges.getD ((x.parts.getD i []).getD q 0).toNat de).to.toNat
     refine awpS_skip ?_
     refine awpS_seq ?_
     refine awpS_block ?_
     refine awpS_seq ?_
     refine awpS_reg T_ok fun K hK => ?_
     simp [hG, List.getD_cons_zero, List.getD_cons_succ, -List.getD_eq_getElem?_getD, pureOp]
     refine ⟨Cond.mk (by omega), hK _ ?_⟩
     clear K hK
     refine awpS_reg T_ok fun K hK => ?_
     simp [hG, List.getD_cons_zero, List.getD_cons_succ, -List.getD_eq_getElem?_getD, pureOp]
     refine ⟨Cond.mk (by omega), hK _ ?_⟩
     clear K hK
     refine awpS_nil ?_
     refine blockQ_norm (thenQ_norm ?_)
     refine awpS_reg T_ok fun K hK => ?_
     simp [hG, List.getD_cons_zero, List.getD_cons_succ, -List.getD_eq_getElem?_getD, pureOp]
     refine ⟨Cond.mk (by omega), hK _ ?_⟩
     clear K hK
     refine awpS_nil ?_
     refine round_end (q + 1) (by omega) (by omega) ?_
     refine wk_of (id) (fun _ => false) (fun _ => false) ?_ ?_ rfl (Nat.zero_le _) (fun k hk => absurd hk (Nat.not_lt_zero _))
     · simp [hG, List.getD_cons_zero, List.getD_cons_succ, -List.getD_eq_getElem?_getD]; rfl
     · simp [hG, List.getD_cons_zero, List.getD_cons_succ, -List.getD_eq_getElem?_getD, pureOp]
    ·
     try simp [-List.getD_eq_getElem?_getD] at hb34
     obtain rfl : q = (x.parts.getD i []).length := (by omega)
     have hps := psA_box (g := g) (p := (x.parts.getD i [])) hbx (x.parts.getD i []).length
     have hq1 : 0 ≤ psA g v (x.parts.getD i []) (x.parts.getD i []).length / m := Int.ediv_nonneg hps.1 (by omega)
     have hq2 : psA g v (x.parts.getD i []) (x.parts.getD i []).length / m ≤ psA g v (x.parts.getD i []) (x.parts.getD i []).length := Int.ediv_le_self _ hps.1
     refine awpS_exit ?_
     refine thenQ_exit (thenQ_exit ?_)
     refine blockQ_exit (thenQ_norm ?_)
     refine awpS_seq ?_
     refine awpS_reg T_ok fun K hK => ?_
     simp [hG, List.getD_cons_zero, List.getD_cons_succ, -List.getD_eq_getElem?_getD, pureOp]
     refine ⟨Cond.mk (by omega), hK _ ?_⟩
     clear K hK
     refine awpS_seq ?_
     refine awpS_seq ?_
     refine awpS_reg T_ok fun K hK => ?_
     simp [hG, List.getD_cons_zero, List.getD_cons_succ, -List.getD_eq_getElem?_getD, pureOp]
     refine ⟨Cond.mk (by omega), hK _ ?_⟩
     clear K hK
     refine awpS_cond rfl (fun hb57 => ?_) (fun hb57 => ?_)
     ·
      try simp [-List.getD_eq_getElem?_getD] at hb57
      have hw : wtI g v m x i = lfA g v m x i := if_pos (by omega)
      refine awpS_reg T_ok fun K hK => ?_
      simp [hG, List.getD_cons_zero, List.getD_cons_succ, -List.getD_eq_getElem?_getD, pureOp]
      refine hK _ ?_
      clear K hK
      refine awpS_seq ?_
      refine awpS_reg T_ok fun K hK => ?_
      simp [hG, List.getD_cons_zero, List.getD_cons_succ, -List.getD_eq_getElem?_getD, pureOp]
      refine hK _ ?_
      clear K hK
      refine awpS_reg T_ok fun K hK => ?_
      simp [hG, List.getD_cons_zero, List.getD_cons_succ, -List.getD_eq_getElem?_getD, pureOp]
      refine ⟨Cond.mk (by omega), hK _ ?_⟩
      clear K hK
      refine awpS_nil ?_
      refine blockQ_norm (thenQ_norm ?_)
      refine awpS_reg T_ok fun K hK => ?_
      simp [hG, List.getD_cons_zero, List.getD_cons_succ, -List.getD_eq_getElem?_getD, pureOp]
      refine ⟨Cond.mk (by omega), hK _ ?_⟩
      clear K hK
      refine awpS_nil ?_
      refine round_end (i + 1) (by omega) (by omega) ?_
      refine wk_of (fun k => if k = 2 then 4 else k) (fun _ => false) (fun _ => false) ?_ ?_ rfl (Nat.zero_le _) (fun k hk => absurd hk (Nat.not_lt_zero _))
      · rw [lfA_succ, hw, psP_succ]; simp [hG, List.getD_cons_zero, List.getD_cons_succ, -List.getD_eq_getElem?_getD]; rfl
      · simp [hG, List.getD_cons_zero, List.getD_cons_succ, -List.getD_eq_getElem?_getD]; exact fun q hq => app_last hq hw
     ·
      try simp [-List.getD_eq_getElem?_getD] at hb57
      have hw : wtI g v m x i = psA g v (x.parts.getD i []) (x.parts.getD i []).length / m := if_neg (by omega)
      refine awpS_skip ?_
      refine awpS_seq ?_
      refine awpS_reg T_ok fun K hK => ?_
      simp [hG, List.getD_cons_zero, List.getD_cons_succ, -List.getD_eq_getElem?_getD, pureOp]
      refine ⟨Cond.mk (by omega), hK _ ?_⟩
      clear K hK
      refine awpS_reg T_ok fun K hK => ?_
      simp [hG, List.getD_cons_zero, List.getD_cons_succ, -List.getD_eq_getElem?_getD, pureOp]
      refine ⟨Cond.mk (by omega), hK _ ?_⟩
      clear K hK
      refine awpS_nil ?_
      refine blockQ_norm (thenQ_norm ?_)
      refine awpS_reg T_ok fun K hK => ?_
      simp [hG, List.getD_cons_zero, List.getD_cons_succ, -List.getD_eq_getElem?_getD, pureOp]
      refine ⟨Cond.mk (by omega), hK _ ?_⟩
      clear K hK
      refine awpS_nil ?_
      refine round_end (i + 1) (by omega) (by omega) ?_
      refine wk_of (fun k => if k = 2 then 4 else k) (fun _ => false) (fun _ => false) ?_ ?_ rfl (Nat.zero_le _) (fun k hk => absurd hk (Nat.not_lt_zero _))
      · rw [lfA_succ, hw, psP_succ]; simp [hG, List.getD_cons_zero, List.getD_cons_succ, -List.getD_eq_getElem?_getD]; rfl
      · simp [hG, List.getD_cons_zero, List.getD_cons_succ, -List.getD_eq_getElem?_getD]; exact fun q hq => app_last hq hw
  ·
   try simp [-List.getD_eq_getElem?_getD] at hb27
   obtain rfl : i = x.parts.length := (by omega)
   have hwb := wt_box hbx hm.1 hx (show x.parts.length - 1 < x.parts.length by omega)
   have hmw := mul_le16 hm hwb
   have hpp := psP_last (g := g) (v := v) hn
   refine awpS_exit ?_
   refine thenQ_exit (thenQ_exit ?_)
   refine blockQ_exit (thenQ_norm ?_)
   refine awpS_seq ?_
   refine awpS_draw hR mixed [] ⟨[], [], []⟩ fun mu0 => ?_
   refine awpA_tk T_ok [0, 1] [] (fuel := 16) [1, 0] (by decide +kernel) (by decide +kernel) rfl rfl fun K hK => ?_
   simp [hG, List.getD_cons_zero, List.getD_cons_succ, -List.getD_eq_getElem?_getD, pureOp]
   refine hK _ ?_
   clear K hK
   refine awpA_only (fuel := 15) (i := 2) (by decide +kernel) ?_
   refine awpO_callB (mem [2]) cal42 (by simp [flat]) rfl rfl rfl (fun _ => rfl) (fun hg => minC_c (wtL g v m x) (by rw [wtL_len]; exact hn) (by rw [wtL_len]; omega)) (fun hg => ?_) (fun hg => ?_) fun K hK => ?_
   · simp [hG, List.getD_cons_zero, List.getD_cons_succ, -List.getD_eq_getElem?_getD, pureOp]
   · simp [hG, List.getD_cons_zero, List.getD_cons_succ, -List.getD_eq_getElem?_getD]; exact ⟨wtL_len.symm, Nat.le_of_eq wtL_len, fun q hq => (wtA_at (by rw [wtL_len] at hq; exact hq)).symm⟩
   simp [hG, List.getD_cons_zero, List.getD_cons_succ, -List.getD_eq_getElem?_getD, pureOp]
   refine hK _ ?_
   clear K hK
   refine awpA_tk T_ok [3, 4, 5, 6, 7, 8, 9, 10, 11, 12, 13, 14, 15, 16, 17] [] (fuel := 0) [17, 16, 15, 14, 13, 12, 11, 10, 9, 8, 7, 6, 5, 4, 3, 2, 1, 0] (by decide +kernel) (by decide +kernel) rfl rfl fun K hK => ?_
   simp [hG, List.getD_cons_zero, List.getD_cons_succ, -List.getD_eq_getElem?_getD, pureOp]
   refine ⟨Cond.mk (by omega), hK _ ?_⟩
   clear K hK
   refine awpA_done (by decide +kernel) ?_
   refine awpS_ret ?_
   refine RetOK_of ?_
   simp [hG, List.getD_cons_zero, List.getD_cons_succ, -List.getD_eq_getElem?_getD, pureOp]
   refine ⟨⟨wtL_len.symm, Nat.le_of_eq wtL_len, fun q hq => (wtA_at (by rw [wtL_len] at hq; exact hq)).symm⟩, ?_⟩; unfold wtB; rw [hpp]; congr 1; rw [Bool.eq_iff_iff, decide_eq_true_eq]; exact mnV_ge (by rw [wtL_len]; exact hn)

end Go.Proofs.Ythpdkmoedpcboaa
