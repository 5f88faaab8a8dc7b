/-
  Walks: the reference's Lossless and Print.
-/
import Derived.Test.YtdojahjhijkbhaaGreatDoorVC
import Derived.Test.YtdojahjhijkbhaaGreatDoorVL
import Derived.Test.YtdojahjhijkbhaaGreatDoorQM
import Derived.Test.YtdojahjhijkbhaaGreatDoorLSM
namespace Go.Proofs.YtdojahjhijkbhaaGreatDoor
set_option linter.unusedSimpArgs false
set_option linter.unusedVariables false
open Go Go.Lift Go.Proofs

theorem app_enc {n : Nat} {X : List Pr} {r : Pr} {i : Nat} {w : Nat → Nat → AVal} (h : i < X.length + 1) (hw : w 0 0 = .int .i64 (encP n r)) : app (fun q _ => .int .i64 (encP n (X.getD q dp))) X.length w i 0 = .int .i64 (encP n ((X ++ [r]).getD i dp)) := by
  unfold app
  by_cases h2 : i < X.length
  · rw [if_pos h2]; simp [List.getD, List.getElem?_append_left h2]
  · obtain rfl : i = X.length := by omega
    rw [if_neg h2, Nat.sub_self, hw]; simp [List.getD]
theorem seen_put {n : Nat} {Q : List Pr} {p : Pr} {i : Nat} {m : Nat} (h : encP n p = m) : (if i = m then AVal.bool true else .bool (seenB n Q (i : Int))) = .bool (seenB n (Q ++ [p]) (i : Int)) := by
  rw [seenB_app, h]
  by_cases e : i = m
  · subst e; rw [if_pos rfl]; simp
  · rw [if_neg e]
    have : decide ((m : Int) = (i : Int)) = false := decide_eq_false (by omega)
    rw [this, Bool.or_false]
theorem seen_zero {n : Nat} {j : Int} : seenB n [] j = false := rfl
theorem nn_toNat {a : Nat} : ((a : Int) * (a : Int)).toNat = a * a := by rw [← Int.natCast_mul]; rfl
theorem los_no {n : Nat} {a b : List Cell} {d : Bool} {i k : Nat} {Q : List Pr} {X : Int} (hsm : seenB n Q X = decide (⟨(a.getD i dc).to, (b.getD k dc).to⟩ ∈ Q)) (h0 : 0 ≤ X) (h : (d = true → i ≠ k) → (a.getD i dc).word = (b.getD k dc).word → seenB n Q (max X 0) = true) : losIf a b d i Q k = Q := by
  by_cases hc : (a.getD i dc).word = (b.getD k dc).word ∧ (d = true → i ≠ k)
  · rw [losIf_yes hc.1 hc.2, losPut_old]
    have := h hc.2 hc.1
    rw [Int.max_eq_left h0, hsm] at this
    exact of_decide_eq_true this
  · exact losIf_no hc
theorem dec_digit {m : Int} (h : 0 ≤ m ∧ m < 100) : AVal.int .u8 (48 + m % 10) = .int .u8 (([ltr (m % 10)].getD 0 0).toNat : Int) := by
  obtain ⟨k, hk⟩ : ∃ k : Nat, m % 10 = k := ⟨(m % 10).toNat, by omega⟩
  have hk2 : k < 10 := by omega
  rw [hk]
  have : ∀ k : Nat, k < 10 → (48 + (k : Int)) = ((ltr k).toNat : Int) := by decide
  exact congrArg (AVal.int .u8) (this k hk2)
theorem dec_len {n m : Int} {w : List UInt8} (hp : (m = n ∧ w = []) ∨ (10 ≤ n ∧ m = n / 10 ∧ w = [ltr (n % 10)])) : w.length ≤ 1 := by
  rcases hp with ⟨_, rfl⟩ | ⟨_, _, rfl⟩ <;> simp
theorem dec_step {n m : Int} {w : List UInt8} (h : 0 ≤ n ∧ n < 100) (hp : (m = n ∧ w = []) ∨ (10 ≤ n ∧ m = n / 10 ∧ w = [ltr (n % 10)])) (hb : ¬ m / 10 = 0) :
    (m / 10 = n ∧ ltr (m % 10) :: w = []) ∨ (10 ≤ n ∧ m / 10 = n / 10 ∧ ltr (m % 10) :: w = [ltr (n % 10)]) := by
  rcases hp with ⟨rfl, rfl⟩ | ⟨h1, rfl, rfl⟩
  · exact .inr ⟨by omega, rfl, rfl⟩
  · omega
theorem dec_end {n m : Int} {w : List UInt8} (h : 0 ≤ n ∧ n < 100) (hp : (m = n ∧ w = []) ∨ (10 ≤ n ∧ m = n / 10 ∧ w = [ltr (n % 10)])) (hb : m / 10 = 0) : ltr (m % 10) :: w = itoa2 n := by
  unfold itoa2
  rcases hp with ⟨rfl, rfl⟩ | ⟨h1, rfl, rfl⟩
  · rw [if_pos (by omega), show m % 10 = m by omega]
  · rw [if_neg (by omega), show n / 10 % 10 = n / 10 by omega]
/-- a line of the text, as the reference writes it. -/
def rowX (e : Enc) (i k : Nat) : List UInt8 := joinB 32 (((e.rows.getD i []).take k).map cellT)
theorem rowX_zero {e : Enc} {i : Nat} : rowX e i 0 = [] := rfl
theorem rowX_take {e : Enc} {i k : Nat} (hk : k < (e.rows.getD i []).length) : ((e.rows.getD i []).take (k + 1)).map cellT = ((e.rows.getD i []).take k).map cellT ++ [cellT ((e.rows.getD i []).getD k dc)] := by
  rw [List.take_succ_eq_append_getElem hk, List.map_append, getD_get hk]
  rfl
theorem rowX_first {e : Enc} {i k : Nat} (hk : k < (e.rows.getD i []).length) (h0 : k = 0) : rowX e i (k + 1) = rowX e i k ++ cellT ((e.rows.getD i []).getD k dc) := by
  subst h0
  unfold rowX
  rw [rowX_take hk]
  rfl
theorem rowX_more {e : Enc} {i k : Nat} (hk : k < (e.rows.getD i []).length) (h0 : 0 < k) : rowX e i (k + 1) = rowX e i k ++ 32 :: cellT ((e.rows.getD i []).getD k dc) := by
  unfold rowX
  rw [rowX_take hk]
  refine joinB_succ fun h => ?_
  have := congrArg List.length h
  rw [List.length_map, List.length_take, Nat.min_eq_left (Nat.le_of_lt hk)] at this
  simp at this
  omega
theorem rowX_len {e : Enc} (hv : checkE e = 0) {i k : Nat} (hi : i < e.rows.length) (hk : k ≤ 6) : (rowX e i k).length ≤ 6 * 101 := by
  have h1 := joinB_len (c := 32) (n := 100) (l := ((e.rows.getD i []).take k).map cellT) (fun w hw => by
    obtain ⟨c, hc, rfl⟩ := List.mem_map.1 hw
    exact cells_word hv hi _ (List.mem_map.2 ⟨c, List.mem_of_mem_take hc, rfl⟩))
  rw [List.length_map, List.length_take] at h1
  exact Nat.le_trans h1 (Nat.mul_le_mul_right _ (by omega))
theorem rowX_all (e : Enc) (i : Nat) : rowT (e.rows.getD i []) = rowX e i (e.rows.getD i []).length ++ [10] := by
  unfold rowX
  rw [List.take_length]
  rfl
set_option maxRecDepth 100000 in
set_option maxHeartbeats 1000000 in
theorem losRf_c (e : Enc) : PC Tryz.prog 16 [.agg 4 (encF e)] (.tup 2 (fun j => [.bool (losR e), .int .i64 (losN e)].getD j .any)) := by
  refine PC_introS T_ok Tryz.func16 rfl (by simp [Tryz.ntmps16]) fun G hG hR => ?_
  simp only [Tryz.ntmps16, Tryz.results16] at hG ⊢
  simp only [argEnv, Nat.zero_add, Nat.reduceAdd]
  refine awpS_seq ?_
  refine awpS_reg T_ok fun K hK => ?_
  simp [hG, List.getD_cons_zero, List.getD_cons_succ, -List.getD_eq_getElem?_getD, pureOp, seen_zero, nn_toNat, los0_zero, losAdd_zero, losRow_zero]
  refine ⟨Cond.mk (by exact trivial), hK _ ?_⟩
  clear K hK
  refine awpS_seq ?_
  refine awpS_seq ?_
  refine awpS_regL ?_
  refine awpL_reg T_ok 1 fun K hK => ?_
  simp [hG, List.getD_cons_zero, List.getD_cons_succ, -List.getD_eq_getElem?_getD, pureOp, seen_zero, nn_toNat, los0_zero, losAdd_zero, losRow_zero]
  refine hK _ ?_
  clear K hK
  refine awpL_call cal20 rfl rfl (fun _ => rfl) (fun hg => checkR_c e) (fun hg => ?_) (fun hg => ?_) fun K hK => ?_
  · simp [hG, List.getD_cons_zero, List.getD_cons_succ, -List.getD_eq_getElem?_getD, pureOp, seen_zero, nn_toNat, los0_zero, losAdd_zero, losRow_zero]
  · simp [hG, List.getD_cons_zero, List.getD_cons_succ, -List.getD_eq_getElem?_getD, pureOp, seen_zero, nn_toNat, los0_zero, losAdd_zero, losRow_zero]
  simp [hG, List.getD_cons_zero, List.getD_cons_succ, -List.getD_eq_getElem?_getD, pureOp, seen_zero, nn_toNat, los0_zero, losAdd_zero, losRow_zero]
  refine hK _ ?_
  clear K hK
  refine awpL_reg T_ok 1 fun K hK => ?_
  simp [hG, List.getD_cons_zero, List.getD_cons_succ, -List.getD_eq_getElem?_getD, pureOp, seen_zero, nn_toNat, los0_zero, losAdd_zero, losRow_zero]
  refine hK _ ?_
  clear K hK
  refine awpL_nil ?_
  refine awpS_cond rfl (fun hb21 => ?_) (fun hb21 => ?_)
  ·
    try simp [-List.getD_eq_getElem?_getD] at hb21
    refine awpS_seq ?_
    refine awpS_reg T_ok fun K hK => ?_
    simp [hG, List.getD_cons_zero, List.getD_cons_succ, -List.getD_eq_getElem?_getD, pureOp, seen_zero, nn_toNat, los0_zero, losAdd_zero, losRow_zero]
    refine hK _ ?_
    clear K hK
    refine awpS_ret ?_
    refine RetOK_of ?_
    simp [hG, List.getD_cons_zero, List.getD_cons_succ, -List.getD_eq_getElem?_getD, pureOp, seen_zero, nn_toNat, los0_zero, losAdd_zero, losRow_zero]
    have h1 : losN e = 1 := (by unfold losN; rw [if_neg hb21]); have h2 : losR e = false := (by unfold losR; rw [if_neg hb21]); rw [h1, h2]; exact ⟨rfl, rfl⟩
  ·
    try simp [-List.getD_eq_getElem?_getD] at hb21
    have hv : checkE e = 0 := (by simpa using hb21)
    have h64 := rows_len hv
    have hin := (checkE_valid hv).1.inputs
    have hmm : e.rows.length * e.rows.length ≤ 64 * 64 := Nat.mul_le_mul h64 h64
    refine awpS_skip ?_
    refine awpS_seq ?_
    refine awpS_reg T_ok fun K hK => ?_
    simp [hG, List.getD_cons_zero, List.getD_cons_succ, -List.getD_eq_getElem?_getD, pureOp, seen_zero, nn_toNat, los0_zero, losAdd_zero, losRow_zero]
    refine hK _ ?_
    clear K hK
    refine awpS_seq ?_
    refine awpS_reg T_ok fun K hK => ?_
    simp [hG, List.getD_cons_zero, List.getD_cons_succ, -List.getD_eq_getElem?_getD, pureOp, seen_zero, nn_toNat, los0_zero, losAdd_zero, losRow_zero]
    refine ⟨Cond.mk (by omega), hK _ ?_⟩
    clear K hK
    refine awpS_seq ?_
    refine awpS_reg T_ok fun K hK => ?_
    simp [hG, List.getD_cons_zero, List.getD_cons_succ, -List.getD_eq_getElem?_getD, pureOp, seen_zero, nn_toNat, los0_zero, losAdd_zero, losRow_zero]
    refine hK _ ?_
    clear K hK
    refine awpS_seq ?_
    refine awpS_seq ?_
    refine awpS_reg T_ok fun K hK => ?_
    simp [hG, List.getD_cons_zero, List.getD_cons_succ, -List.getD_eq_getElem?_getD, pureOp, seen_zero, nn_toNat, los0_zero, losAdd_zero, losRow_zero]
    refine hK _ ?_
    clear K hK
    refine awpS_block ?_
    refine awpS_loop (α := Nat) (fun s => ⟨[(1, .ptr (0, 0) 0 0), (4, .int .i64 (e.rows.length : Nat)), (5, .sl (1, 0) 0 (e.rows.length * e.rows.length)), (6, .sl (2, 0) 0 (los0 e s).length), (7, .int .i64 s)], [(0, .one (.arr 1 4 (fun _ => encF e))), (1, .one (.arr (e.rows.length * e.rows.length) 1 (fun q _ => .bool (seenB e.rows.length (los0 e s) (q : Nat))))), (2, .one (.arr (los0 e s).length 1 (fun q _ => .int .i64 (encP e.rows.length ((los0 e s).getD q dp)))))], 3⟩) (fun s => s ≤ e.rows.length) (fun s => e.rows.length - s) (0) (Nat.zero_le _) ?_ ?_
    ·
      refine wk_of (id) (fun _ => false) (fun k => k == 2) ?_ ?_ rfl (Nat.zero_le _) (fun k hk => absurd hk (Nat.not_lt_zero _))
      · simp [hG, List.getD_cons_zero, List.getD_cons_succ, -List.getD_eq_getElem?_getD, pureOp, seen_zero, nn_toNat, los0_zero, losAdd_zero, losRow_zero]
      · simp [hG, List.getD_cons_zero, List.getD_cons_succ, -List.getD_eq_getElem?_getD, pureOp, seen_zero, nn_toNat, los0_zero, losAdd_zero, losRow_zero]
    ·
      rintro s hs
      refine awpS_seq ?_
      refine awpS_seq ?_
      refine awpS_reg T_ok fun K hK => ?_
      simp [hG, List.getD_cons_zero, List.getD_cons_succ, -List.getD_eq_getElem?_getD, pureOp, seen_zero, nn_toNat, los0_zero, losAdd_zero, losRow_zero]
      refine hK _ ?_
      clear K hK
      refine awpS_cond rfl (fun hb31 => ?_) (fun hb31 => ?_)
      ·
        try simp [-List.getD_eq_getElem?_getD] at hb31
        have hsl : s < e.rows.length := (by omega)
        have hre := row_eq hv hsl
        have ok0 : LosOK e (los0 e s) := losOK_nil.grow (los0_ext hv hs)
        have hE0 := los0_succ (e := e) (s := s)
        refine awpS_skip ?_
        refine awpS_seq ?_
        refine awpS_block ?_
        refine awpS_seq ?_
        refine awpS_reg T_ok fun K hK => ?_
        simp [hG, List.getD_cons_zero, List.getD_cons_succ, -List.getD_eq_getElem?_getD, pureOp, seen_zero, nn_toNat, los0_zero, losAdd_zero, losRow_zero]
        refine hK _ ?_
        clear K hK
        refine awpS_block ?_
        refine awpS_loop (α := Nat) (fun i => ⟨[(1, .ptr (0, 0) 0 0), (4, .int .i64 (e.rows.length : Nat)), (5, .sl (1, 0) 0 (e.rows.length * e.rows.length)), (6, .sl (2, 0) 0 (losAdd (e.rows.getD s []) (e.rows.getD s []) true (los0 e s) i).length), (7, .int .i64 s), (8, .int .i64 i)], [(0, .one (.arr 1 4 (fun _ => encF e))), (1, .one (.arr (e.rows.length * e.rows.length) 1 (fun q _ => .bool (seenB e.rows.length (losAdd (e.rows.getD s []) (e.rows.getD s []) true (los0 e s) i) (q : Nat))))), (2, .one (.arr (losAdd (e.rows.getD s []) (e.rows.getD s []) true (los0 e s) i).length 1 (fun q _ => .int .i64 (encP e.rows.length ((losAdd (e.rows.getD s []) (e.rows.getD s []) true (los0 e s) i).getD q dp)))))], 3⟩) (fun i => i ≤ (e.rows.getD s []).length) (fun i => (e.rows.getD s []).length - i) (0) (Nat.zero_le _) ?_ ?_
        ·
          refine wk_of (id) (fun _ => false) (fun _ => false) ?_ ?_ rfl (Nat.zero_le _) (fun k hk => absurd hk (Nat.not_lt_zero _))
          · simp [hG, List.getD_cons_zero, List.getD_cons_succ, -List.getD_eq_getElem?_getD, pureOp, seen_zero, nn_toNat, los0_zero, losAdd_zero, losRow_zero]
          · simp [hG, List.getD_cons_zero, List.getD_cons_succ, -List.getD_eq_getElem?_getD, pureOp, seen_zero, nn_toNat, los0_zero, losAdd_zero, losRow_zero]
        ·
          rintro i hi
          refine awpS_seq ?_
          refine awpS_seq ?_
          refine awpS_reg T_ok fun K hK => ?_
          simp [hG, List.getD_cons_zero, List.getD_cons_succ, -List.getD_eq_getElem?_getD, pureOp, seen_zero, nn_toNat, los0_zero, losAdd_zero, losRow_zero]
          refine hK _ ?_
          clear K hK
          refine awpS_cond rfl (fun hb37 => ?_) (fun hb37 => ?_)
          ·
            try simp [-List.getD_eq_getElem?_getD] at hb37
            have hil : i < (e.rows.getD s []).length := (by omega)
            have ok2 : LosOK e (losAdd (e.rows.getD s []) (e.rows.getD s []) true (los0 e s) i) := ok0.grow (losAdd_ext hv hsl hsl (Nat.le_of_lt hil))
            have hE2 := losAdd_succ (a := (e.rows.getD s [])) (b := (e.rows.getD s [])) (d := true) (i := i) (Q := los0 e s)
            refine awpS_skip ?_
            refine awpS_seq ?_
            refine awpS_block ?_
            refine awpS_seq ?_
            refine awpS_reg T_ok fun K hK => ?_
            simp [hG, List.getD_cons_zero, List.getD_cons_succ, -List.getD_eq_getElem?_getD, pureOp, seen_zero, nn_toNat, los0_zero, losAdd_zero, losRow_zero]
            refine hK _ ?_
            clear K hK
            refine awpS_block ?_
            refine awpS_loop (α := Nat) (fun k => ⟨[(1, .ptr (0, 0) 0 0), (4, .int .i64 (e.rows.length : Nat)), (5, .sl (1, 0) 0 (e.rows.length * e.rows.length)), (6, .sl (2, 0) 0 (losRow (e.rows.getD s []) (e.rows.getD s []) true i (losAdd (e.rows.getD s []) (e.rows.getD s []) true (los0 e s) i) k).length), (7, .int .i64 s), (8, .int .i64 i), (9, .int .i64 k)], [(0, .one (.arr 1 4 (fun _ => encF e))), (1, .one (.arr (e.rows.length * e.rows.length) 1 (fun q _ => .bool (seenB e.rows.length (losRow (e.rows.getD s []) (e.rows.getD s []) true i (losAdd (e.rows.getD s []) (e.rows.getD s []) true (los0 e s) i) k) (q : Nat))))), (2, .one (.arr (losRow (e.rows.getD s []) (e.rows.getD s []) true i (losAdd (e.rows.getD s []) (e.rows.getD s []) true (los0 e s) i) k).length 1 (fun q _ => .int .i64 (encP e.rows.length ((losRow (e.rows.getD s []) (e.rows.getD s []) true i (losAdd (e.rows.getD s []) (e.rows.getD s []) true (los0 e s) i) k).getD q dp)))))], 3⟩) (fun k => k ≤ (e.rows.getD s []).length) (fun k => (e.rows.getD s []).length - k) (0) (Nat.zero_le _) ?_ ?_
            ·
              refine wk_of (id) (fun _ => false) (fun _ => false) ?_ ?_ rfl (Nat.zero_le _) (fun k hk => absurd hk (Nat.not_lt_zero _))
              · simp [hG, List.getD_cons_zero, List.getD_cons_succ, -List.getD_eq_getElem?_getD, pureOp, seen_zero, nn_toNat, los0_zero, losAdd_zero, losRow_zero]
              · simp [hG, List.getD_cons_zero, List.getD_cons_succ, -List.getD_eq_getElem?_getD, pureOp, seen_zero, nn_toNat, los0_zero, losAdd_zero, losRow_zero]
            ·
              rintro k hk
              refine awpS_seq ?_
              refine awpS_seq ?_
              refine awpS_reg T_ok fun K hK => ?_
              simp [hG, List.getD_cons_zero, List.getD_cons_succ, -List.getD_eq_getElem?_getD, pureOp, seen_zero, nn_toNat, los0_zero, losAdd_zero, losRow_zero]
              refine hK _ ?_
              clear K hK
              refine awpS_cond rfl (fun hb43 => ?_) (fun hb43 => ?_)
              ·
                try simp [-List.getD_eq_getElem?_getD] at hb43
                have hkl : k < (e.rows.getD s []).length := (by omega)
                have ok4 : LosOK e (losRow (e.rows.getD s []) (e.rows.getD s []) true i (losAdd (e.rows.getD s []) (e.rows.getD s []) true (los0 e s) i) k) := ok2.grow (losRow_ext hv hsl hsl hil (Nat.le_of_lt hkl))
                have hE4 := losRow_succ (a := (e.rows.getD s [])) (b := (e.rows.getD s [])) (d := true) (i := i) (k := k) (Q := losAdd (e.rows.getD s []) (e.rows.getD s []) true (los0 e s) i)
                have hbi := cell_to hv hsl hil
                have hbk := cell_to hv hsl hkl
                unfold cellAt at hbi hbk
                have hbx := encP_box (p := ⟨((e.rows.getD s []).getD i dc).to, ((e.rows.getD s []).getD k dc).to⟩) ⟨hbi, hbk⟩
                have hsm := seenB_mem (Q := losRow (e.rows.getD s []) (e.rows.getD s []) true i (losAdd (e.rows.getD s []) (e.rows.getD s []) true (los0 e s) i) k) (p := ⟨((e.rows.getD s []).getD i dc).to, ((e.rows.getD s []).getD k dc).to⟩) (fun q hq => (ok4.inE q hq).2) hbk
                unfold encP at hbx hsm
                simp only at hbx hsm
                have hll := ok4.le hv
                refine awpS_skip ?_
                refine awpS_seq ?_
                refine awpS_block ?_
                refine awpS_seq ?_
                refine awpS_draw hR mixed [] ⟨[], [18, 19], [(0, 0)]⟩ fun mu0 => ?_
                refine awpA_tk T_ok [0, 1, 2, 3, 4, 5, 6, 7, 8, 9, 10, 11, 12, 13, 14, 15] [] (fuel := 4) [15, 14, 13, 12, 11, 10, 9, 8, 7, 6, 5, 4, 3, 2, 1, 0] (by decide +kernel) (by decide +kernel) rfl rfl fun K hK => ?_
                simp [hG, List.getD_cons_zero, List.getD_cons_succ, -List.getD_eq_getElem?_getD, pureOp, seen_zero, nn_toNat, los0_zero, losAdd_zero, losRow_zero]
                refine ⟨Cond.mk (by omega), hK _ ?_⟩
                clear K hK
                refine awpA_two (fuel := 3) (i := 16) (k := 17) (by decide +kernel) ?_ ?_
                ·
                  refine awpO_reg T_ok rfl ?_ fun K hK => ?_
                  · simp [hG, List.getD_cons_zero, List.getD_cons_succ, -List.getD_eq_getElem?_getD, pureOp, seen_zero, nn_toNat, los0_zero, losAdd_zero, losRow_zero]; try exact trivial
                  simp [hG, List.getD_cons_zero, List.getD_cons_succ, -List.getD_eq_getElem?_getD, pureOp, seen_zero, nn_toNat, los0_zero, losAdd_zero, losRow_zero]
                  refine hK _ ?_
                  clear K hK
                  refine awpA_only (fuel := 2) (i := 17) (by decide +kernel) ?_
                  refine awpO_reg T_ok rfl ?_ fun K hK => ?_
                  · simp [hG, List.getD_cons_zero, List.getD_cons_succ, -List.getD_eq_getElem?_getD, pureOp, seen_zero, nn_toNat, los0_zero, losAdd_zero, losRow_zero]; try exact trivial
                  simp [hG, List.getD_cons_zero, List.getD_cons_succ, -List.getD_eq_getElem?_getD, pureOp, seen_zero, nn_toNat, los0_zero, losAdd_zero, losRow_zero]
                  refine hK _ ?_
                  clear K hK
                  refine awpA_only (fuel := 1) (i := 18) (by decide +kernel) ?_
                  refine awpO_reg T_ok rfl ?_ fun K hK => ?_
                  · simp [hG, List.getD_cons_zero, List.getD_cons_succ, -List.getD_eq_getElem?_getD, pureOp, seen_zero, nn_toNat, los0_zero, losAdd_zero, losRow_zero]; try exact trivial
                  simp [hG, List.getD_cons_zero, List.getD_cons_succ, -List.getD_eq_getElem?_getD, pureOp, seen_zero, nn_toNat, los0_zero, losAdd_zero, losRow_zero]
                  refine ⟨Cond.mk (by exact trivial), hK _ ?_⟩
                  clear K hK
                  refine awpA_only (fuel := 0) (i := 19) (by decide +kernel) ?_
                  refine awpO_reg T_ok rfl ?_ fun K hK => ?_
                  · simp [hG, List.getD_cons_zero, List.getD_cons_succ, -List.getD_eq_getElem?_getD, pureOp, seen_zero, nn_toNat, los0_zero, losAdd_zero, losRow_zero]; try exact trivial
                  simp [hG, List.getD_cons_zero, List.getD_cons_succ, -List.getD_eq_getElem?_getD, pureOp, seen_zero, nn_toNat, los0_zero, losAdd_zero, losRow_zero]
                  refine ⟨Cond.mk (by exact trivial), hK _ ?_⟩
                  clear K hK
                  refine awpA_done (by decide +kernel) ?_
                  refine awpS_seq ?_
                  refine awpS_reg T_ok fun K hK => ?_
                  simp [hG, List.getD_cons_zero, List.getD_cons_succ, -List.getD_eq_getElem?_getD, pureOp, seen_zero, nn_toNat, los0_zero, losAdd_zero, losRow_zero]
                  refine ⟨Cond.mk (by (repeat (first | assumption | intro _ | exact And.intro ‹_› ‹_› | apply And.intro | omega | exact trivial | exact decide_eq_true (by assumption)))), hK _ ?_⟩
                  clear K hK
                  refine awpS_cond rfl (fun hb84 => ?_) (fun hb84 => ?_)
                  ·
                    try simp [-List.getD_eq_getElem?_getD] at hb84
                    have hsb := hb84.2
                    rw [Int.max_eq_left hbx.1, hsm] at hsb
                    have hnm := of_decide_eq_false hsb
                    have hP := (losIf_yes (d := true) hb84.1.2 (fun _ h => hb84.1.1 (by omega))).trans (losPut_new hnm)
                    refine awpS_seq ?_
                    refine awpS_reg T_ok fun K hK => ?_
                    simp [hG, List.getD_cons_zero, List.getD_cons_succ, -List.getD_eq_getElem?_getD, pureOp, seen_zero, nn_toNat, los0_zero, losAdd_zero, losRow_zero]
                    refine ⟨Cond.mk (by omega), hK _ ?_⟩
                    clear K hK
                    refine awpS_reg T_ok fun K hK => ?_
                    simp [hG, List.getD_cons_zero, List.getD_cons_succ, -List.getD_eq_getElem?_getD, pureOp, seen_zero, nn_toNat, los0_zero, losAdd_zero, losRow_zero]
                    refine ⟨Cond.mk (by omega), hK _ ?_⟩
                    clear K hK
                    refine awpS_nil ?_
                    refine blockQ_norm (thenQ_norm ?_)
                    refine awpS_reg T_ok fun K hK => ?_
                    simp [hG, List.getD_cons_zero, List.getD_cons_succ, -List.getD_eq_getElem?_getD, pureOp, seen_zero, nn_toNat, los0_zero, losAdd_zero, losRow_zero]
                    refine ⟨Cond.mk (by omega), hK _ ?_⟩
                    clear K hK
                    refine awpS_nil ?_
                    refine round_end (k + 1) (by omega) (by omega) ?_
                    refine wk_of (fun k => if k = 2 then 6 else k) (fun _ => false) (fun _ => false) ?_ ?_ rfl (Nat.zero_le _) (fun k hk => absurd hk (Nat.not_lt_zero _))
                    · rw [hE4, hP]; simp [hG, List.getD_cons_zero, List.getD_cons_succ, -List.getD_eq_getElem?_getD]
                    · rw [hE4, hP]; simp [hG, List.getD_cons_zero, List.getD_cons_succ, -List.getD_eq_getElem?_getD]; exact ⟨fun j hj => seen_put (Int.toNat_of_nonneg hbx.1).symm, fun q hq => app_enc hq rfl⟩
                  ·
                    try simp [-List.getD_eq_getElem?_getD] at hb84
                    have hP := los_no (d := true) hsm hbx.1 (fun hd hw => hb84 (fun h => hd rfl (by omega)) hw)
                    refine awpS_skip ?_
                    refine awpS_nil ?_
                    refine blockQ_norm (thenQ_norm ?_)
                    refine awpS_reg T_ok fun K hK => ?_
                    simp [hG, List.getD_cons_zero, List.getD_cons_succ, -List.getD_eq_getElem?_getD, pureOp, seen_zero, nn_toNat, los0_zero, losAdd_zero, losRow_zero]
                    refine ⟨Cond.mk (by omega), hK _ ?_⟩
                    clear K hK
                    refine awpS_nil ?_
                    refine round_end (k + 1) (by omega) (by omega) ?_
                    refine wk_of (id) (fun _ => false) (fun _ => false) ?_ ?_ rfl (Nat.zero_le _) (fun k hk => absurd hk (Nat.not_lt_zero _))
                    · rw [hE4, hP]; simp [hG, List.getD_cons_zero, List.getD_cons_succ, -List.getD_eq_getElem?_getD]
                    · rw [hE4, hP]; simp [hG, List.getD_cons_zero, List.getD_cons_succ, -List.getD_eq_getElem?_getD]
                ·
                  refine awpO_reg T_ok rfl ?_ fun K hK => ?_
                  · simp [hG, List.getD_cons_zero, List.getD_cons_succ, -List.getD_eq_getElem?_getD, pureOp, seen_zero, nn_toNat, los0_zero, losAdd_zero, losRow_zero]; try exact trivial
                  simp [hG, List.getD_cons_zero, List.getD_cons_succ, -List.getD_eq_getElem?_getD, pureOp, seen_zero, nn_toNat, los0_zero, losAdd_zero, losRow_zero]
                  refine hK _ ?_
                  clear K hK
                  refine awpA_only (fuel := 2) (i := 16) (by decide +kernel) ?_
                  refine awpO_reg T_ok rfl ?_ fun K hK => ?_
                  · simp [hG, List.getD_cons_zero, List.getD_cons_succ, -List.getD_eq_getElem?_getD, pureOp, seen_zero, nn_toNat, los0_zero, losAdd_zero, losRow_zero]; try exact trivial
                  simp [hG, List.getD_cons_zero, List.getD_cons_succ, -List.getD_eq_getElem?_getD, pureOp, seen_zero, nn_toNat, los0_zero, losAdd_zero, losRow_zero]
                  refine hK _ ?_
                  clear K hK
                  refine awpA_only (fuel := 1) (i := 18) (by decide +kernel) ?_
                  refine awpO_reg T_ok rfl ?_ fun K hK => ?_
                  · simp [hG, List.getD_cons_zero, List.getD_cons_succ, -List.getD_eq_getElem?_getD, pureOp, seen_zero, nn_toNat, los0_zero, losAdd_zero, losRow_zero]; try exact trivial
                  simp [hG, List.getD_cons_zero, List.getD_cons_succ, -List.getD_eq_getElem?_getD, pureOp, seen_zero, nn_toNat, los0_zero, losAdd_zero, losRow_zero]
                  refine ⟨Cond.mk (by exact trivial), hK _ ?_⟩
                  clear K hK
                  refine awpA_only (fuel := 0) (i := 19) (by decide +kernel) ?_
                  refine awpO_reg T_ok rfl ?_ fun K hK => ?_
                  · simp [hG, List.getD_cons_zero, List.getD_cons_succ, -List.getD_eq_getElem?_getD, pureOp, seen_zero, nn_toNat, los0_zero, losAdd_zero, losRow_zero]; try exact trivial
                  simp [hG, List.getD_cons_zero, List.getD_cons_succ, -List.getD_eq_getElem?_getD, pureOp, seen_zero, nn_toNat, los0_zero, losAdd_zero, losRow_zero]
                  refine ⟨Cond.mk (by exact trivial), hK _ ?_⟩
                  clear K hK
                  refine awpA_done (by decide +kernel) ?_
                  refine awpS_seq ?_
                  refine awpS_reg T_ok fun K hK => ?_
                  simp [hG, List.getD_cons_zero, List.getD_cons_succ, -List.getD_eq_getElem?_getD, pureOp, seen_zero, nn_toNat, los0_zero, losAdd_zero, losRow_zero]
                  refine ⟨Cond.mk (by (repeat (first | assumption | intro _ | exact And.intro ‹_› ‹_› | apply And.intro | omega | exact trivial | exact decide_eq_true (by assumption)))), hK _ ?_⟩
                  clear K hK
                  refine awpS_cond rfl (fun hb84 => ?_) (fun hb84 => ?_)
                  ·
                    try simp [-List.getD_eq_getElem?_getD] at hb84
                    have hsb := hb84.2
                    rw [Int.max_eq_left hbx.1, hsm] at hsb
                    have hnm := of_decide_eq_false hsb
                    have hP := (losIf_yes (d := true) hb84.1.2 (fun _ h => hb84.1.1 (by omega))).trans (losPut_new hnm)
                    refine awpS_seq ?_
                    refine awpS_reg T_ok fun K hK => ?_
                    simp [hG, List.getD_cons_zero, List.getD_cons_succ, -List.getD_eq_getElem?_getD, pureOp, seen_zero, nn_toNat, los0_zero, losAdd_zero, losRow_zero]
                    refine ⟨Cond.mk (by omega), hK _ ?_⟩
                    clear K hK
                    refine awpS_reg T_ok fun K hK => ?_
                    simp [hG, List.getD_cons_zero, List.getD_cons_succ, -List.getD_eq_getElem?_getD, pureOp, seen_zero, nn_toNat, los0_zero, losAdd_zero, losRow_zero]
                    refine ⟨Cond.mk (by omega), hK _ ?_⟩
                    clear K hK
                    refine awpS_nil ?_
                    refine blockQ_norm (thenQ_norm ?_)
                    refine awpS_reg T_ok fun K hK => ?_
                    simp [hG, List.getD_cons_zero, List.getD_cons_succ, -List.getD_eq_getElem?_getD, pureOp, seen_zero, nn_toNat, los0_zero, losAdd_zero, losRow_zero]
                    refine ⟨Cond.mk (by omega), hK _ ?_⟩
                    clear K hK
                    refine awpS_nil ?_
                    refine round_end (k + 1) (by omega) (by omega) ?_
                    refine wk_of (fun k => if k = 2 then 6 else k) (fun _ => false) (fun _ => false) ?_ ?_ rfl (Nat.zero_le _) (fun k hk => absurd hk (Nat.not_lt_zero _))
                    · rw [hE4, hP]; simp [hG, List.getD_cons_zero, List.getD_cons_succ, -List.getD_eq_getElem?_getD]
                    · rw [hE4, hP]; simp [hG, List.getD_cons_zero, List.getD_cons_succ, -List.getD_eq_getElem?_getD]; exact ⟨fun j hj => seen_put (Int.toNat_of_nonneg hbx.1).symm, fun q hq => app_enc hq rfl⟩
                  ·
                    try simp [-List.getD_eq_getElem?_getD] at hb84
                    have hP := los_no (d := true) hsm hbx.1 (fun hd hw => hb84 (fun h => hd rfl (by omega)) hw)
                    refine awpS_skip ?_
                    refine awpS_nil ?_
                    refine blockQ_norm (thenQ_norm ?_)
                    refine awpS_reg T_ok fun K hK => ?_
                    simp [hG, List.getD_cons_zero, List.getD_cons_succ, -List.getD_eq_getElem?_getD, pureOp, seen_zero, nn_toNat, los0_zero, losAdd_zero, losRow_zero]
                    refine ⟨Cond.mk (by omega), hK _ ?_⟩
                    clear K hK
                    refine awpS_nil ?_
                    refine round_end (k + 1) (by omega) (by omega) ?_
                    refine wk_of (id) (fun _ => false) (fun _ => false) ?_ ?_ rfl (Nat.zero_le _) (fun k hk => absurd hk (Nat.not_lt_zero _))
                    · rw [hE4, hP]; simp [hG, List.getD_cons_zero, List.getD_cons_succ, -List.getD_eq_getElem?_getD]
                    · rw [hE4, hP]; simp [hG, List.getD_cons_zero, List.getD_cons_succ, -List.getD_eq_getElem?_getD]
              ·
                try simp [-List.getD_eq_getElem?_getD] at hb43
                obtain rfl : k = (e.rows.getD s []).length := (by omega)
                refine awpS_exit ?_
                refine thenQ_exit (thenQ_exit ?_)
                refine blockQ_exit (thenQ_norm ?_)
                refine awpS_nil ?_
                refine blockQ_norm (thenQ_norm ?_)
                refine awpS_reg T_ok fun K hK => ?_
                simp [hG, List.getD_cons_zero, List.getD_cons_succ, -List.getD_eq_getElem?_getD, pureOp, seen_zero, nn_toNat, los0_zero, losAdd_zero, losRow_zero]
                refine ⟨Cond.mk (by omega), hK _ ?_⟩
                clear K hK
                refine awpS_nil ?_
                refine round_end (i + 1) (by omega) (by omega) ?_
                refine wk_of (id) (fun _ => false) (fun _ => false) ?_ ?_ rfl (Nat.zero_le _) (fun k hk => absurd hk (Nat.not_lt_zero _))
                · rw [hE2]; simp [hG, List.getD_cons_zero, List.getD_cons_succ, -List.getD_eq_getElem?_getD]
                · rw [hE2]; simp [hG, List.getD_cons_zero, List.getD_cons_succ, -List.getD_eq_getElem?_getD]
          ·
            try simp [-List.getD_eq_getElem?_getD] at hb37
            obtain rfl : i = (e.rows.getD s []).length := (by omega)
            refine awpS_exit ?_
            refine thenQ_exit (thenQ_exit ?_)
            refine blockQ_exit (thenQ_norm ?_)
            refine awpS_nil ?_
            refine blockQ_norm (thenQ_norm ?_)
            refine awpS_reg T_ok fun K hK => ?_
            simp [hG, List.getD_cons_zero, List.getD_cons_succ, -List.getD_eq_getElem?_getD, pureOp, seen_zero, nn_toNat, los0_zero, losAdd_zero, losRow_zero]
            refine ⟨Cond.mk (by omega), hK _ ?_⟩
            clear K hK
            refine awpS_nil ?_
            refine round_end (s + 1) (by omega) (by omega) ?_
            refine wk_of (id) (fun _ => false) (fun _ => false) ?_ ?_ rfl (Nat.zero_le _) (fun k hk => absurd hk (Nat.not_lt_zero _))
            · rw [hE0]; simp [hG, List.getD_cons_zero, List.getD_cons_succ, -List.getD_eq_getElem?_getD]
            · rw [hE0]; simp [hG, List.getD_cons_zero, List.getD_cons_succ, -List.getD_eq_getElem?_getD]
      ·
        try simp [-List.getD_eq_getElem?_getD] at hb31
        obtain rfl : s = e.rows.length := (by omega)
        refine awpS_exit ?_
        refine thenQ_exit (thenQ_exit ?_)
        refine blockQ_exit (thenQ_norm ?_)
        refine awpS_seq ?_
        refine awpS_seq ?_
        refine awpS_reg T_ok fun K hK => ?_
        simp [hG, List.getD_cons_zero, List.getD_cons_succ, -List.getD_eq_getElem?_getD, pureOp, seen_zero, nn_toNat, los0_zero, losAdd_zero, losRow_zero]
        refine hK _ ?_
        clear K hK
        refine awpS_block ?_
        refine awpS_loop (α := Nat) (fun i => ⟨[(1, .ptr (0, 0) 0 0), (4, .int .i64 (e.rows.length : Nat)), (5, .sl (1, 0) 0 (e.rows.length * e.rows.length)), (6, .sl (2, 0) 0 (losQ e i).length), (12, .int .i64 i)], [(0, .one (.arr 1 4 (fun _ => encF e))), (1, .one (.arr (e.rows.length * e.rows.length) 1 (fun q _ => .bool (seenB e.rows.length (losQ e i) (q : Nat))))), (2, .one (.arr (losQ e i).length 1 (fun q _ => .int .i64 (encP e.rows.length ((losQ e i).getD q dp)))))], 3⟩) (fun i => i ≤ (losQ e i).length ∧ ∀ j, j < i → ((losQ e i).getD j dp).s ≠ ((losQ e i).getD j dp).t) (fun i => 4097 - i) (0) (⟨Nat.zero_le _, fun j hj => absurd hj (Nat.not_lt_zero _)⟩) ?_ ?_
        ·
          refine wk_of (id) (fun _ => false) (fun _ => false) ?_ ?_ rfl (Nat.zero_le _) (fun k hk => absurd hk (Nat.not_lt_zero _))
          · simp [hG, List.getD_cons_zero, List.getD_cons_succ, -List.getD_eq_getElem?_getD]; rfl
          · rw [show losQ e 0 = los0 e e.rows.length from rfl]; simp [hG, List.getD_cons_zero, List.getD_cons_succ, -List.getD_eq_getElem?_getD]
        ·
          rintro i ⟨hi, hn⟩
          have hlq := (losQ_ok hv i).le hv
          refine awpS_seq ?_
          refine awpS_seq ?_
          refine awpS_reg T_ok fun K hK => ?_
          simp [hG, List.getD_cons_zero, List.getD_cons_succ, -List.getD_eq_getElem?_getD, pureOp, seen_zero, nn_toNat, los0_zero, losAdd_zero, losRow_zero]
          refine hK _ ?_
          clear K hK
          refine awpS_cond rfl (fun hb107 => ?_) (fun hb107 => ?_)
          ·
            try simp [-List.getD_eq_getElem?_getD] at hb107
            have hiq : i < (losQ e i).length := (by omega)
            have hIn := (losQ_ok hv i).at hiq
            have hen := encP_box hIn
            have hdv := encP_div (n := e.rows.length) hIn.2
            have hmd := encP_mod (n := e.rows.length) hIn.2
            have hE6 := losQ_succ hiq
            unfold losNext at hE6
            have hI1 := hIn.1
            have hI2 := hIn.2
            have hN0 : 0 < e.rows.length := (by omega)
            refine awpS_skip ?_
            refine awpS_seq ?_
            refine awpS_block ?_
            refine awpS_seq ?_
            refine awpS_draw hR mixed [] ⟨[], [], []⟩ fun mu0 => ?_
            refine awpA_tk T_ok [0, 1, 2, 3, 4, 5, 6, 7, 8, 9, 10, 11, 12, 13] [] (fuel := 0) [13, 12, 11, 10, 9, 8, 7, 6, 5, 4, 3, 2, 1, 0] (by decide +kernel) (by decide +kernel) rfl rfl fun K hK => ?_
            simp [hG, List.getD_cons_zero, List.getD_cons_succ, -List.getD_eq_getElem?_getD, pureOp, seen_zero, nn_toNat, los0_zero, losAdd_zero, losRow_zero]
            refine ⟨Cond.mk (by omega), hK _ ?_⟩
            clear K hK
            refine awpA_done (by decide +kernel) ?_
            refine awpS_seq ?_
            refine awpS_seq ?_
            refine awpS_reg T_ok fun K hK => ?_
            simp [hG, List.getD_cons_zero, List.getD_cons_succ, -List.getD_eq_getElem?_getD, pureOp, seen_zero, nn_toNat, los0_zero, losAdd_zero, losRow_zero]
            refine hK _ ?_
            clear K hK
            refine awpS_cond rfl (fun hb124 => ?_) (fun hb124 => ?_)
            ·
              try simp [-List.getD_eq_getElem?_getD] at hb124
              rw [hdv, hmd] at hb124
              refine awpS_seq ?_
              refine awpS_reg T_ok fun K hK => ?_
              simp [hG, List.getD_cons_zero, List.getD_cons_succ, -List.getD_eq_getElem?_getD, pureOp, seen_zero, nn_toNat, los0_zero, losAdd_zero, losRow_zero]
              refine hK _ ?_
              clear K hK
              refine awpS_ret ?_
              refine blockQ_ret (thenQ_ret ?_)
              refine thenQ_ret (thenQ_ret ?_)
              refine blockQ_ret (thenQ_ret ?_)
              refine RetOK_of ?_
              simp [hG, List.getD_cons_zero, List.getD_cons_succ, -List.getD_eq_getElem?_getD, pureOp, seen_zero, nn_toNat, los0_zero, losAdd_zero, losRow_zero]
              have h1 : losN e = 0 := (by unfold losN; rw [if_pos hv]); have h2 : losR e = false := (by unfold losR; rw [if_pos hv]; exact los_hit hv hiq hb124); rw [h1, h2]; exact ⟨rfl, rfl⟩
            ·
              try simp [-List.getD_eq_getElem?_getD] at hb124
              rw [hdv, hmd] at hb124
              have hrs := row_eq hv (k := ((losQ e i).getD i dp).s.toNat) (by omega)
              have hrt := row_eq hv (k := ((losQ e i).getD i dp).t.toNat) (by omega)
              refine awpS_skip ?_
              refine awpS_seq ?_
              refine awpS_reg T_ok fun K hK => ?_
              simp [hG, List.getD_cons_zero, List.getD_cons_succ, -List.getD_eq_getElem?_getD, pureOp, seen_zero, nn_toNat, los0_zero, losAdd_zero, losRow_zero]
              refine hK _ ?_
              clear K hK
              refine awpS_block ?_
              refine awpS_loop (α := Nat) (fun u => ⟨[(1, .ptr (0, 0) 0 0), (4, .int .i64 (e.rows.length : Nat)), (5, .sl (1, 0) 0 (e.rows.length * e.rows.length)), (6, .sl (2, 0) 0 (losAdd (e.rows.getD ((losQ e i).getD i dp).s.toNat []) (e.rows.getD ((losQ e i).getD i dp).t.toNat []) false (losQ e i) u).length), (12, .int .i64 i), (13, .int .i64 ((losQ e i).getD i dp).s), (14, .int .i64 ((losQ e i).getD i dp).t), (15, .int .i64 u)], [(0, .one (.arr 1 4 (fun _ => encF e))), (1, .one (.arr (e.rows.length * e.rows.length) 1 (fun q _ => .bool (seenB e.rows.length (losAdd (e.rows.getD ((losQ e i).getD i dp).s.toNat []) (e.rows.getD ((losQ e i).getD i dp).t.toNat []) false (losQ e i) u) (q : Nat))))), (2, .one (.arr (losAdd (e.rows.getD ((losQ e i).getD i dp).s.toNat []) (e.rows.getD ((losQ e i).getD i dp).t.toNat []) false (losQ e i) u).length 1 (fun q _ => .int .i64 (encP e.rows.length ((losAdd (e.rows.getD ((losQ e i).getD i dp).s.toNat []) (e.rows.getD ((losQ e i).getD i dp).t.toNat []) false (losQ e i) u).getD q dp)))))], 3⟩) (fun u => u ≤ (e.rows.getD ((losQ e i).getD i dp).s.toNat []).length) (fun u => (e.rows.getD ((losQ e i).getD i dp).s.toNat []).length - u) (0) (Nat.zero_le _) ?_ ?_
              ·
                refine wk_of (id) (fun _ => false) (fun _ => false) ?_ ?_ rfl (Nat.zero_le _) (fun k hk => absurd hk (Nat.not_lt_zero _))
                · simp [hG, List.getD_cons_zero, List.getD_cons_succ, -List.getD_eq_getElem?_getD]; exact ⟨rfl, hdv, hmd⟩
                · simp [hG, List.getD_cons_zero, List.getD_cons_succ, -List.getD_eq_getElem?_getD, pureOp, seen_zero, nn_toNat, los0_zero, losAdd_zero, losRow_zero]
              ·
                rintro u hu
                refine awpS_seq ?_
                refine awpS_seq ?_
                refine awpS_reg T_ok fun K hK => ?_
                simp [hG, List.getD_cons_zero, List.getD_cons_succ, -List.getD_eq_getElem?_getD, pureOp, seen_zero, nn_toNat, los0_zero, losAdd_zero, losRow_zero]
                refine hK _ ?_
                clear K hK
                refine awpS_cond rfl (fun hb128 => ?_) (fun hb128 => ?_)
                ·
                  try simp [-List.getD_eq_getElem?_getD] at hb128
                  have hul : u < (e.rows.getD ((losQ e i).getD i dp).s.toNat []).length := (by omega)
                  have ok8 : LosOK e (losAdd (e.rows.getD ((losQ e i).getD i dp).s.toNat []) (e.rows.getD ((losQ e i).getD i dp).t.toNat []) false (losQ e i) u) := (losQ_ok hv i).grow (losAdd_ext hv (by omega) (by omega) (Nat.le_of_lt hul))
                  have hE8 := losAdd_succ (a := (e.rows.getD ((losQ e i).getD i dp).s.toNat [])) (b := (e.rows.getD ((losQ e i).getD i dp).t.toNat [])) (d := false) (i := u) (Q := losQ e i)
                  refine awpS_skip ?_
                  refine awpS_seq ?_
                  refine awpS_block ?_
                  refine awpS_seq ?_
                  refine awpS_reg T_ok fun K hK => ?_
                  simp [hG, List.getD_cons_zero, List.getD_cons_succ, -List.getD_eq_getElem?_getD, pureOp, seen_zero, nn_toNat, los0_zero, losAdd_zero, losRow_zero]
                  refine hK _ ?_
                  clear K hK
                  refine awpS_block ?_
                  refine awpS_loop (α := Nat) (fun v => ⟨[(1, .ptr (0, 0) 0 0), (4, .int .i64 (e.rows.length : Nat)), (5, .sl (1, 0) 0 (e.rows.length * e.rows.length)), (6, .sl (2, 0) 0 (losRow (e.rows.getD ((losQ e i).getD i dp).s.toNat []) (e.rows.getD ((losQ e i).getD i dp).t.toNat []) false u (losAdd (e.rows.getD ((losQ e i).getD i dp).s.toNat []) (e.rows.getD ((losQ e i).getD i dp).t.toNat []) false (losQ e i) u) v).length), (12, .int .i64 i), (13, .int .i64 ((losQ e i).getD i dp).s), (14, .int .i64 ((losQ e i).getD i dp).t), (15, .int .i64 u), (16, .int .i64 v)], [(0, .one (.arr 1 4 (fun _ => encF e))), (1, .one (.arr (e.rows.length * e.rows.length) 1 (fun q _ => .bool (seenB e.rows.length (losRow (e.rows.getD ((losQ e i).getD i dp).s.toNat []) (e.rows.getD ((losQ e i).getD i dp).t.toNat []) false u (losAdd (e.rows.getD ((losQ e i).getD i dp).s.toNat []) (e.rows.getD ((losQ e i).getD i dp).t.toNat []) false (losQ e i) u) v) (q : Nat))))), (2, .one (.arr (losRow (e.rows.getD ((losQ e i).getD i dp).s.toNat []) (e.rows.getD ((losQ e i).getD i dp).t.toNat []) false u (losAdd (e.rows.getD ((losQ e i).getD i dp).s.toNat []) (e.rows.getD ((losQ e i).getD i dp).t.toNat []) false (losQ e i) u) v).length 1 (fun q _ => .int .i64 (encP e.rows.length ((losRow (e.rows.getD ((losQ e i).getD i dp).s.toNat []) (e.rows.getD ((losQ e i).getD i dp).t.toNat []) false u (losAdd (e.rows.getD ((losQ e i).getD i dp).s.toNat []) (e.rows.getD ((losQ e i).getD i dp).t.toNat []) false (losQ e i) u) v).getD q dp)))))], 3⟩) (fun v => v ≤ (e.rows.getD ((losQ e i).getD i dp).t.toNat []).length) (fun v => (e.rows.getD ((losQ e i).getD i dp).t.toNat []).length - v) (0) (Nat.zero_le _) ?_ ?_
                  ·
                    refine wk_of (id) (fun _ => false) (fun _ => false) ?_ ?_ rfl (Nat.zero_le _) (fun k hk => absurd hk (Nat.not_lt_zero _))
                    · simp [hG, List.getD_cons_zero, List.getD_cons_succ, -List.getD_eq_getElem?_getD, pureOp, seen_zero, nn_toNat, los0_zero, losAdd_zero, losRow_zero]
                    · simp [hG, List.getD_cons_zero, List.getD_cons_succ, -List.getD_eq_getElem?_getD, pureOp, seen_zero, nn_toNat, los0_zero, losAdd_zero, losRow_zero]
                  ·
                    rintro v hv2
                    refine awpS_seq ?_
                    refine awpS_seq ?_
                    refine awpS_reg T_ok fun K hK => ?_
                    simp [hG, List.getD_cons_zero, List.getD_cons_succ, -List.getD_eq_getElem?_getD, pureOp, seen_zero, nn_toNat, los0_zero, losAdd_zero, losRow_zero]
                    refine hK _ ?_
                    clear K hK
                    refine awpS_cond rfl (fun hb134 => ?_) (fun hb134 => ?_)
                    ·
                      try simp [-List.getD_eq_getElem?_getD] at hb134
                      have hvl : v < (e.rows.getD ((losQ e i).getD i dp).t.toNat []).length := (by omega)
                      have ok10 : LosOK e (losRow (e.rows.getD ((losQ e i).getD i dp).s.toNat []) (e.rows.getD ((losQ e i).getD i dp).t.toNat []) false u (losAdd (e.rows.getD ((losQ e i).getD i dp).s.toNat []) (e.rows.getD ((losQ e i).getD i dp).t.toNat []) false (losQ e i) u) v) := ok8.grow (losRow_ext hv (by omega) (by omega) hul (Nat.le_of_lt hvl))
                      have hE10 := losRow_succ (a := (e.rows.getD ((losQ e i).getD i dp).s.toNat [])) (b := (e.rows.getD ((losQ e i).getD i dp).t.toNat [])) (d := false) (i := u) (k := v) (Q := losAdd (e.rows.getD ((losQ e i).getD i dp).s.toNat []) (e.rows.getD ((losQ e i).getD i dp).t.toNat []) false (losQ e i) u)
                      have hbu := cell_to hv (s := ((losQ e i).getD i dp).s.toNat) (by omega) hul
                      have hbv := cell_to hv (s := ((losQ e i).getD i dp).t.toNat) (by omega) hvl
                      unfold cellAt at hbu hbv
                      have hbx := encP_box (p := ⟨((e.rows.getD ((losQ e i).getD i dp).s.toNat []).getD u dc).to, ((e.rows.getD ((losQ e i).getD i dp).t.toNat []).getD v dc).to⟩) ⟨hbu, hbv⟩
                      have hsm := seenB_mem (Q := losRow (e.rows.getD ((losQ e i).getD i dp).s.toNat []) (e.rows.getD ((losQ e i).getD i dp).t.toNat []) false u (losAdd (e.rows.getD ((losQ e i).getD i dp).s.toNat []) (e.rows.getD ((losQ e i).getD i dp).t.toNat []) false (losQ e i) u) v) (p := ⟨((e.rows.getD ((losQ e i).getD i dp).s.toNat []).getD u dc).to, ((e.rows.getD ((losQ e i).getD i dp).t.toNat []).getD v dc).to⟩) (fun q hq => (ok10.inE q hq).2) hbv
                      unfold encP at hbx hsm
                      simp only at hbx hsm
                      have hll := ok10.le hv
                      refine awpS_skip ?_
                      refine awpS_seq ?_
                      refine awpS_block ?_
                      refine awpS_seq ?_
                      refine awpS_draw hR mixed [] ⟨[], [18, 19], [(0, 0)]⟩ fun mu0 => ?_
                      refine awpA_tk T_ok [0, 1, 2, 3, 4, 5, 6, 7, 8, 9, 10, 11, 12, 13, 14, 15] [] (fuel := 4) [15, 14, 13, 12, 11, 10, 9, 8, 7, 6, 5, 4, 3, 2, 1, 0] (by decide +kernel) (by decide +kernel) rfl rfl fun K hK => ?_
                      simp [hG, List.getD_cons_zero, List.getD_cons_succ, -List.getD_eq_getElem?_getD, pureOp, seen_zero, nn_toNat, los0_zero, losAdd_zero, losRow_zero]
                      refine ⟨Cond.mk (by omega), hK _ ?_⟩
                      clear K hK
                      refine awpA_two (fuel := 3) (i := 16) (k := 17) (by decide +kernel) ?_ ?_
                      ·
                        refine awpO_reg T_ok rfl ?_ fun K hK => ?_
                        · simp [hG, List.getD_cons_zero, List.getD_cons_succ, -List.getD_eq_getElem?_getD, pureOp, seen_zero, nn_toNat, los0_zero, losAdd_zero, losRow_zero]; try exact trivial
                        simp [hG, List.getD_cons_zero, List.getD_cons_succ, -List.getD_eq_getElem?_getD, pureOp, seen_zero, nn_toNat, los0_zero, losAdd_zero, losRow_zero]
                        refine hK _ ?_
                        clear K hK
                        refine awpA_only (fuel := 2) (i := 17) (by decide +kernel) ?_
                        refine awpO_reg T_ok rfl ?_ fun K hK => ?_
                        · simp [hG, List.getD_cons_zero, List.getD_cons_succ, -List.getD_eq_getElem?_getD, pureOp, seen_zero, nn_toNat, los0_zero, losAdd_zero, losRow_zero]; try exact trivial
                        simp [hG, List.getD_cons_zero, List.getD_cons_succ, -List.getD_eq_getElem?_getD, pureOp, seen_zero, nn_toNat, los0_zero, losAdd_zero, losRow_zero]
                        refine hK _ ?_
                        clear K hK
                        refine awpA_only (fuel := 1) (i := 18) (by decide +kernel) ?_
                        refine awpO_reg T_ok rfl ?_ fun K hK => ?_
                        · simp [hG, List.getD_cons_zero, List.getD_cons_succ, -List.getD_eq_getElem?_getD, pureOp, seen_zero, nn_toNat, los0_zero, losAdd_zero, losRow_zero]; try exact trivial
                        simp [hG, List.getD_cons_zero, List.getD_cons_succ, -List.getD_eq_getElem?_getD, pureOp, seen_zero, nn_toNat, los0_zero, losAdd_zero, losRow_zero]
                        refine ⟨Cond.mk (by exact trivial), hK _ ?_⟩
                        clear K hK
                        refine awpA_only (fuel := 0) (i := 19) (by decide +kernel) ?_
                        refine awpO_reg T_ok rfl ?_ fun K hK => ?_
                        · simp [hG, List.getD_cons_zero, List.getD_cons_succ, -List.getD_eq_getElem?_getD, pureOp, seen_zero, nn_toNat, los0_zero, losAdd_zero, losRow_zero]; try exact trivial
                        simp [hG, List.getD_cons_zero, List.getD_cons_succ, -List.getD_eq_getElem?_getD, pureOp, seen_zero, nn_toNat, los0_zero, losAdd_zero, losRow_zero]
                        refine ⟨Cond.mk (by exact trivial), hK _ ?_⟩
                        clear K hK
                        refine awpA_done (by decide +kernel) ?_
                        refine awpS_seq ?_
                        refine awpS_reg T_ok fun K hK => ?_
                        simp [hG, List.getD_cons_zero, List.getD_cons_succ, -List.getD_eq_getElem?_getD, pureOp, seen_zero, nn_toNat, los0_zero, losAdd_zero, losRow_zero]
                        refine ⟨Cond.mk (by (repeat (first | assumption | intro _ | exact And.intro ‹_› ‹_› | apply And.intro | omega | exact trivial | exact decide_eq_true (by assumption)))), hK _ ?_⟩
                        clear K hK
                        refine awpS_cond rfl (fun hb170 => ?_) (fun hb170 => ?_)
                        ·
                          try simp [-List.getD_eq_getElem?_getD] at hb170
                          have hsb := hb170.2
                          rw [Int.max_eq_left hbx.1, hsm] at hsb
                          have hnm := of_decide_eq_false hsb
                          have hP := (losIf_yes (d := false) (i := u) (k := v) hb170.1 (fun h => by cases h)).trans (losPut_new hnm)
                          refine awpS_seq ?_
                          refine awpS_reg T_ok fun K hK => ?_
                          simp [hG, List.getD_cons_zero, List.getD_cons_succ, -List.getD_eq_getElem?_getD, pureOp, seen_zero, nn_toNat, los0_zero, losAdd_zero, losRow_zero]
                          refine ⟨Cond.mk (by omega), hK _ ?_⟩
                          clear K hK
                          refine awpS_reg T_ok fun K hK => ?_
                          simp [hG, List.getD_cons_zero, List.getD_cons_succ, -List.getD_eq_getElem?_getD, pureOp, seen_zero, nn_toNat, los0_zero, losAdd_zero, losRow_zero]
                          refine ⟨Cond.mk (by omega), hK _ ?_⟩
                          clear K hK
                          refine awpS_nil ?_
                          refine blockQ_norm (thenQ_norm ?_)
                          refine awpS_reg T_ok fun K hK => ?_
                          simp [hG, List.getD_cons_zero, List.getD_cons_succ, -List.getD_eq_getElem?_getD, pureOp, seen_zero, nn_toNat, los0_zero, losAdd_zero, losRow_zero]
                          refine ⟨Cond.mk (by omega), hK _ ?_⟩
                          clear K hK
                          refine awpS_nil ?_
                          refine round_end (v + 1) (by omega) (by omega) ?_
                          refine wk_of (fun k => if k = 2 then 6 else k) (fun _ => false) (fun _ => false) ?_ ?_ rfl (Nat.zero_le _) (fun k hk => absurd hk (Nat.not_lt_zero _))
                          · rw [hE10, hP]; simp [hG, List.getD_cons_zero, List.getD_cons_succ, -List.getD_eq_getElem?_getD]
                          · rw [hE10, hP]; simp [hG, List.getD_cons_zero, List.getD_cons_succ, -List.getD_eq_getElem?_getD]; exact ⟨fun j hj => seen_put (Int.toNat_of_nonneg hbx.1).symm, fun q hq => app_enc hq rfl⟩
                        ·
                          try simp [-List.getD_eq_getElem?_getD] at hb170
                          have hP := los_no (d := false) hsm hbx.1 (fun _ hw => hb170 hw)
                          refine awpS_skip ?_
                          refine awpS_nil ?_
                          refine blockQ_norm (thenQ_norm ?_)
                          refine awpS_reg T_ok fun K hK => ?_
                          simp [hG, List.getD_cons_zero, List.getD_cons_succ, -List.getD_eq_getElem?_getD, pureOp, seen_zero, nn_toNat, los0_zero, losAdd_zero, losRow_zero]
                          refine ⟨Cond.mk (by omega), hK _ ?_⟩
                          clear K hK
                          refine awpS_nil ?_
                          refine round_end (v + 1) (by omega) (by omega) ?_
                          refine wk_of (id) (fun _ => false) (fun _ => false) ?_ ?_ rfl (Nat.zero_le _) (fun k hk => absurd hk (Nat.not_lt_zero _))
                          · rw [hE10, hP]; simp [hG, List.getD_cons_zero, List.getD_cons_succ, -List.getD_eq_getElem?_getD]
                          · rw [hE10, hP]; simp [hG, List.getD_cons_zero, List.getD_cons_succ, -List.getD_eq_getElem?_getD]
                      ·
                        refine awpO_reg T_ok rfl ?_ fun K hK => ?_
                        · simp [hG, List.getD_cons_zero, List.getD_cons_succ, -List.getD_eq_getElem?_getD, pureOp, seen_zero, nn_toNat, los0_zero, losAdd_zero, losRow_zero]; try exact trivial
                        simp [hG, List.getD_cons_zero, List.getD_cons_succ, -List.getD_eq_getElem?_getD, pureOp, seen_zero, nn_toNat, los0_zero, losAdd_zero, losRow_zero]
                        refine hK _ ?_
                        clear K hK
                        refine awpA_only (fuel := 2) (i := 16) (by decide +kernel) ?_
                        refine awpO_reg T_ok rfl ?_ fun K hK => ?_
                        · simp [hG, List.getD_cons_zero, List.getD_cons_succ, -List.getD_eq_getElem?_getD, pureOp, seen_zero, nn_toNat, los0_zero, losAdd_zero, losRow_zero]; try exact trivial
                        simp [hG, List.getD_cons_zero, List.getD_cons_succ, -List.getD_eq_getElem?_getD, pureOp, seen_zero, nn_toNat, los0_zero, losAdd_zero, losRow_zero]
                        refine hK _ ?_
                        clear K hK
                        refine awpA_only (fuel := 1) (i := 18) (by decide +kernel) ?_
                        refine awpO_reg T_ok rfl ?_ fun K hK => ?_
                        · simp [hG, List.getD_cons_zero, List.getD_cons_succ, -List.getD_eq_getElem?_getD, pureOp, seen_zero, nn_toNat, los0_zero, losAdd_zero, losRow_zero]; try exact trivial
                        simp [hG, List.getD_cons_zero, List.getD_cons_succ, -List.getD_eq_getElem?_getD, pureOp, seen_zero, nn_toNat, los0_zero, losAdd_zero, losRow_zero]
                        refine ⟨Cond.mk (by exact trivial), hK _ ?_⟩
                        clear K hK
                        refine awpA_only (fuel := 0) (i := 19) (by decide +kernel) ?_
                        refine awpO_reg T_ok rfl ?_ fun K hK => ?_
                        · simp [hG, List.getD_cons_zero, List.getD_cons_succ, -List.getD_eq_getElem?_getD, pureOp, seen_zero, nn_toNat, los0_zero, losAdd_zero, losRow_zero]; try exact trivial
                        simp [hG, List.getD_cons_zero, List.getD_cons_succ, -List.getD_eq_getElem?_getD, pureOp, seen_zero, nn_toNat, los0_zero, losAdd_zero, losRow_zero]
                        refine ⟨Cond.mk (by exact trivial), hK _ ?_⟩
                        clear K hK
                        refine awpA_done (by decide +kernel) ?_
                        refine awpS_seq ?_
                        refine awpS_reg T_ok fun K hK => ?_
                        simp [hG, List.getD_cons_zero, List.getD_cons_succ, -List.getD_eq_getElem?_getD, pureOp, seen_zero, nn_toNat, los0_zero, losAdd_zero, losRow_zero]
                        refine ⟨Cond.mk (by (repeat (first | assumption | intro _ | exact And.intro ‹_› ‹_› | apply And.intro | omega | exact trivial | exact decide_eq_true (by assumption)))), hK _ ?_⟩
                        clear K hK
                        refine awpS_cond rfl (fun hb170 => ?_) (fun hb170 => ?_)
                        ·
                          try simp [-List.getD_eq_getElem?_getD] at hb170
                          have hsb := hb170.2
                          rw [Int.max_eq_left hbx.1, hsm] at hsb
                          have hnm := of_decide_eq_false hsb
                          have hP := (losIf_yes (d := false) (i := u) (k := v) hb170.1 (fun h => by cases h)).trans (losPut_new hnm)
                          refine awpS_seq ?_
                          refine awpS_reg T_ok fun K hK => ?_
                          simp [hG, List.getD_cons_zero, List.getD_cons_succ, -List.getD_eq_getElem?_getD, pureOp, seen_zero, nn_toNat, los0_zero, losAdd_zero, losRow_zero]
                          refine ⟨Cond.mk (by omega), hK _ ?_⟩
                          clear K hK
                          refine awpS_reg T_ok fun K hK => ?_
                          simp [hG, List.getD_cons_zero, List.getD_cons_succ, -List.getD_eq_getElem?_getD, pureOp, seen_zero, nn_toNat, los0_zero, losAdd_zero, losRow_zero]
                          refine ⟨Cond.mk (by omega), hK _ ?_⟩
                          clear K hK
                          refine awpS_nil ?_
                          refine blockQ_norm (thenQ_norm ?_)
                          refine awpS_reg T_ok fun K hK => ?_
                          simp [hG, List.getD_cons_zero, List.getD_cons_succ, -List.getD_eq_getElem?_getD, pureOp, seen_zero, nn_toNat, los0_zero, losAdd_zero, losRow_zero]
                          refine ⟨Cond.mk (by omega), hK _ ?_⟩
                          clear K hK
                          refine awpS_nil ?_
                          refine round_end (v + 1) (by omega) (by omega) ?_
                          refine wk_of (fun k => if k = 2 then 6 else k) (fun _ => false) (fun _ => false) ?_ ?_ rfl (Nat.zero_le _) (fun k hk => absurd hk (Nat.not_lt_zero _))
                          · rw [hE10, hP]; simp [hG, List.getD_cons_zero, List.getD_cons_succ, -List.getD_eq_getElem?_getD]
                          · rw [hE10, hP]; simp [hG, List.getD_cons_zero, List.getD_cons_succ, -List.getD_eq_getElem?_getD]; exact ⟨fun j hj => seen_put (Int.toNat_of_nonneg hbx.1).symm, fun q hq => app_enc hq rfl⟩
                        ·
                          try simp [-List.getD_eq_getElem?_getD] at hb170
                          have hP := los_no (d := false) hsm hbx.1 (fun _ hw => hb170 hw)
                          refine awpS_skip ?_
                          refine awpS_nil ?_
                          refine blockQ_norm (thenQ_norm ?_)
                          refine awpS_reg T_ok fun K hK => ?_
                          simp [hG, List.getD_cons_zero, List.getD_cons_succ, -List.getD_eq_getElem?_getD, pureOp, seen_zero, nn_toNat, los0_zero, losAdd_zero, losRow_zero]
                          refine ⟨Cond.mk (by omega), hK _ ?_⟩
                          clear K hK
                          refine awpS_nil ?_
                          refine round_end (v + 1) (by omega) (by omega) ?_
                          refine wk_of (id) (fun _ => false) (fun _ => false) ?_ ?_ rfl (Nat.zero_le _) (fun k hk => absurd hk (Nat.not_lt_zero _))
                          · rw [hE10, hP]; simp [hG, List.getD_cons_zero, List.getD_cons_succ, -List.getD_eq_getElem?_getD]
                          · rw [hE10, hP]; simp [hG, List.getD_cons_zero, List.getD_cons_succ, -List.getD_eq_getElem?_getD]
                    ·
                      try simp [-List.getD_eq_getElem?_getD] at hb134
                      obtain rfl : v = (e.rows.getD ((losQ e i).getD i dp).t.toNat []).length := (by omega)
                      refine awpS_exit ?_
                      refine thenQ_exit (thenQ_exit ?_)
                      refine blockQ_exit (thenQ_norm ?_)
                      refine awpS_nil ?_
                      refine blockQ_norm (thenQ_norm ?_)
                      refine awpS_reg T_ok fun K hK => ?_
                      simp [hG, List.getD_cons_zero, List.getD_cons_succ, -List.getD_eq_getElem?_getD, pureOp, seen_zero, nn_toNat, los0_zero, losAdd_zero, losRow_zero]
                      refine ⟨Cond.mk (by omega), hK _ ?_⟩
                      clear K hK
                      refine awpS_nil ?_
                      refine round_end (u + 1) (by omega) (by omega) ?_
                      refine wk_of (id) (fun _ => false) (fun _ => false) ?_ ?_ rfl (Nat.zero_le _) (fun k hk => absurd hk (Nat.not_lt_zero _))
                      · rw [hE8]; simp [hG, List.getD_cons_zero, List.getD_cons_succ, -List.getD_eq_getElem?_getD]
                      · rw [hE8]; simp [hG, List.getD_cons_zero, List.getD_cons_succ, -List.getD_eq_getElem?_getD]
                ·
                  try simp [-List.getD_eq_getElem?_getD] at hb128
                  obtain rfl : u = (e.rows.getD ((losQ e i).getD i dp).s.toNat []).length := (by omega)
                  refine awpS_exit ?_
                  refine thenQ_exit (thenQ_exit ?_)
                  refine blockQ_exit (thenQ_norm ?_)
                  refine awpS_nil ?_
                  refine blockQ_norm (thenQ_norm ?_)
                  refine awpS_reg T_ok fun K hK => ?_
                  simp [hG, List.getD_cons_zero, List.getD_cons_succ, -List.getD_eq_getElem?_getD, pureOp, seen_zero, nn_toNat, los0_zero, losAdd_zero, losRow_zero]
                  refine ⟨Cond.mk (by omega), hK _ ?_⟩
                  clear K hK
                  refine awpS_nil ?_
                  refine round_end (i + 1) (los_step hv hiq hn hb124) (by omega) ?_
                  refine wk_of (id) (fun _ => false) (fun _ => false) ?_ ?_ rfl (Nat.zero_le _) (fun k hk => absurd hk (Nat.not_lt_zero _))
                  · rw [hE6]; simp [hG, List.getD_cons_zero, List.getD_cons_succ, -List.getD_eq_getElem?_getD]
                  · rw [hE6]; simp [hG, List.getD_cons_zero, List.getD_cons_succ, -List.getD_eq_getElem?_getD]
          ·
            try simp [-List.getD_eq_getElem?_getD] at hb107
            refine awpS_exit ?_
            refine thenQ_exit (thenQ_exit ?_)
            refine blockQ_exit (thenQ_norm ?_)
            refine awpS_seq ?_
            refine awpS_reg T_ok fun K hK => ?_
            simp [hG, List.getD_cons_zero, List.getD_cons_succ, -List.getD_eq_getElem?_getD, pureOp, seen_zero, nn_toNat, los0_zero, losAdd_zero, losRow_zero]
            refine hK _ ?_
            clear K hK
            refine awpS_ret ?_
            refine RetOK_of ?_
            simp [hG, List.getD_cons_zero, List.getD_cons_succ, -List.getD_eq_getElem?_getD, pureOp, seen_zero, nn_toNat, los0_zero, losAdd_zero, losRow_zero]
            have h1 : losN e = 0 := (by unfold losN; rw [if_pos hv]); have h2 : losR e = true := (by unfold losR; rw [if_pos hv]; exact los_end hv (by omega) (by have := (losQ_ok hv i).len; omega) hn); rw [h1, h2]; exact ⟨rfl, rfl⟩

set_option maxRecDepth 100000 in
theorem decimal_c (n : Int) (h : 0 ≤ n ∧ n < 100) : PC Tryz.prog 54 [.int .i64 n] (.str (itoa2 n)) := by
  refine PC_introS T_ok Tryz.func54 rfl (by simp [Tryz.ntmps54]) fun G hG hR => ?_
  simp only [Tryz.ntmps54, Tryz.results54] at hG ⊢
  simp only [argEnv, Nat.zero_add, Nat.reduceAdd]
  refine awpS_seq ?_
  refine awpS_reg T_ok fun K hK => ?_
  simp [hG, List.getD_cons_zero, List.getD_cons_succ, -List.getD_eq_getElem?_getD]
  refine hK _ ?_
  clear K hK
  refine awpS_seq ?_
  refine awpS_reg T_ok fun K hK => ?_
  simp [hG, List.getD_cons_zero, List.getD_cons_succ, -List.getD_eq_getElem?_getD]
  refine hK _ ?_
  clear K hK
  refine awpS_block ?_
  refine awpS_loop (α := Int × List UInt8) (fun p => ⟨[(0, .int .i64 p.1), (3, .str p.2)], [], 0⟩) (fun p => (p.1 = n ∧ p.2 = []) ∨ (10 ≤ n ∧ p.1 = n / 10 ∧ p.2 = [ltr (n % 10)])) (fun p => p.1.toNat) ((n, [])) (.inl ⟨rfl, rfl⟩) ?_ ?_
  ·
    refine wk_of (id) (fun _ => false) (fun _ => false) ?_ ?_ rfl (Nat.zero_le _) (fun k hk => absurd hk (Nat.not_lt_zero _))
    · simp [hG, List.getD_cons_zero, List.getD_cons_succ, -List.getD_eq_getElem?_getD]
    · simp [hG, List.getD_cons_zero, List.getD_cons_succ, -List.getD_eq_getElem?_getD]
  ·
    rintro ⟨m, w⟩ hp
    simp only at hp
    have hm0 : 0 ≤ m ∧ m < 100 := (by omega)
    have hwl : w.length ≤ 1 := dec_len hp
    refine awpS_block ?_
    refine awpS_seq ?_
    refine awpS_regL ?_
    refine awpL_reg T_ok 5 fun K hK => ?_
    simp [hG, List.getD_cons_zero, List.getD_cons_succ, -List.getD_eq_getElem?_getD]
    refine ⟨Cond.mk (by omega), hK _ ?_⟩
    clear K hK
    refine awpL_bts T_ok (0, 0) 0 1 1 _ [ltr (m % 10)] rfl rfl (by decide +kernel) rfl rfl (by decide) (by decide) rfl (fun i hi => by obtain rfl : i = 0 := (by omega); exact dec_digit hm0) trivial fun K hK => ?_
    simp [hG, List.getD_cons_zero, List.getD_cons_succ, -List.getD_eq_getElem?_getD]
    refine hK _ ?_
    clear K hK
    refine awpL_reg T_ok 3 fun K hK => ?_
    simp [hG, List.getD_cons_zero, List.getD_cons_succ, -List.getD_eq_getElem?_getD]
    refine ⟨Cond.mk (by omega), hK _ ?_⟩
    clear K hK
    refine awpL_nil ?_
    refine awpS_seq ?_
    refine awpS_reg T_ok fun K hK => ?_
    simp [hG, List.getD_cons_zero, List.getD_cons_succ, -List.getD_eq_getElem?_getD]
    refine ⟨Cond.mk (by omega), hK _ ?_⟩
    clear K hK
    refine awpS_seq ?_
    refine awpS_reg T_ok fun K hK => ?_
    simp [hG, List.getD_cons_zero, List.getD_cons_succ, -List.getD_eq_getElem?_getD]
    refine hK _ ?_
    clear K hK
    refine awpS_cond rfl (fun hb15 => ?_) (fun hb15 => ?_)
    ·
      try simp [-List.getD_eq_getElem?_getD] at hb15
      refine awpS_seq ?_
      refine awpS_reg T_ok fun K hK => ?_
      simp [hG, List.getD_cons_zero, List.getD_cons_succ, -List.getD_eq_getElem?_getD]
      refine hK _ ?_
      clear K hK
      refine awpS_ret ?_
      refine blockQ_ret (thenQ_ret ?_)
      refine thenQ_ret (thenQ_ret ?_)
      refine blockQ_ret (thenQ_ret ?_)
      refine RetOK_of ?_
      simp [hG, List.getD_cons_zero, List.getD_cons_succ, -List.getD_eq_getElem?_getD]
      exact dec_end h hp hb15
    ·
      try simp [-List.getD_eq_getElem?_getD] at hb15
      refine awpS_skip ?_
      refine awpS_nil ?_
      refine blockQ_norm (thenQ_norm ?_)
      refine awpS_nil ?_
      refine round_end ((m / 10, ltr (m % 10) :: w)) (dec_step h hp hb15) (by show (m / 10).toNat < m.toNat; omega) ?_
      refine wk_of (id) (fun _ => false) (fun _ => false) ?_ ?_ rfl (Nat.zero_le _) (fun k hk => absurd hk (Nat.not_lt_zero _))
      · simp [hG, List.getD_cons_zero, List.getD_cons_succ, -List.getD_eq_getElem?_getD]
      · simp [hG, List.getD_cons_zero, List.getD_cons_succ, -List.getD_eq_getElem?_getD]

set_option maxRecDepth 100000 in
theorem printRf_c (e : Enc) (hm : Sml e) : PC Tryz.prog 18 [.agg 4 (encF e)] (.tup 2 (fun j => [.str (printX e), .int .i64 (printN e)].getD j .any)) := by
  refine PC_introS T_ok Tryz.func18 rfl (by simp [Tryz.ntmps18]) fun G hG hR => ?_
  simp only [Tryz.ntmps18, Tryz.results18] at hG ⊢
  simp only [argEnv, Nat.zero_add, Nat.reduceAdd]
  refine awpS_seq ?_
  refine awpS_reg T_ok fun K hK => ?_
  simp [hG, List.getD_cons_zero, List.getD_cons_succ, -List.getD_eq_getElem?_getD, pureOp, rowX_zero]
  refine ⟨Cond.mk (by exact trivial), hK _ ?_⟩
  clear K hK
  refine awpS_seq ?_
  refine awpS_seq ?_
  refine awpS_regL ?_
  refine awpL_reg T_ok 1 fun K hK => ?_
  simp [hG, List.getD_cons_zero, List.getD_cons_succ, -List.getD_eq_getElem?_getD, pureOp, rowX_zero]
  refine hK _ ?_
  clear K hK
  refine awpL_call cal20 rfl rfl (fun _ => rfl) (fun hg => checkR_c e) (fun hg => ?_) (fun hg => ?_) fun K hK => ?_
  · simp [hG, List.getD_cons_zero, List.getD_cons_succ, -List.getD_eq_getElem?_getD, pureOp, rowX_zero]
  · simp [hG, List.getD_cons_zero, List.getD_cons_succ, -List.getD_eq_getElem?_getD, pureOp, rowX_zero]
  simp [hG, List.getD_cons_zero, List.getD_cons_succ, -List.getD_eq_getElem?_getD, pureOp, rowX_zero]
  refine hK _ ?_
  clear K hK
  refine awpL_reg T_ok 1 fun K hK => ?_
  simp [hG, List.getD_cons_zero, List.getD_cons_succ, -List.getD_eq_getElem?_getD, pureOp, rowX_zero]
  refine hK _ ?_
  clear K hK
  refine awpL_nil ?_
  refine awpS_cond rfl (fun hb10 => ?_) (fun hb10 => ?_)
  ·
    try simp [-List.getD_eq_getElem?_getD] at hb10
    refine awpS_seq ?_
    refine awpS_reg T_ok fun K hK => ?_
    simp [hG, List.getD_cons_zero, List.getD_cons_succ, -List.getD_eq_getElem?_getD, pureOp, rowX_zero]
    refine hK _ ?_
    clear K hK
    refine awpS_ret ?_
    refine RetOK_of ?_
    simp [hG, List.getD_cons_zero, List.getD_cons_succ, -List.getD_eq_getElem?_getD, pureOp, rowX_zero]
    unfold printX printN; rw [if_pos hb10, if_pos hb10]; exact ⟨rfl, rfl⟩
  ·
    try simp [-List.getD_eq_getElem?_getD] at hb10
    have hv : checkE e = 0 := (by simpa using hb10)
    have hd := (checkE_valid hv).1
    obtain ⟨hd1, hd2, hd3⟩ := hd
    have hr6 := sml_rows hm hv
    have hi6 := sml_inputs hm hv
    have hz1 := (itoa2_len (a := e.letters)).1
    have hz2 := (itoa2_len (a := e.block)).1
    have hz3 := (itoa2_len (a := e.inputs)).1
    have hz4 := (itoa2_len (a := (e.rows.length : Int))).1
    refine awpS_skip ?_
    refine awpS_seq ?_
    refine awpS_draw hR mixed [] ⟨[], [], []⟩ fun mu0 => ?_
    refine awpA_tk T_ok [0, 1, 5, 6, 10, 11, 15, 16, 17] [] (fuel := 13) [17, 16, 15, 11, 10, 6, 5, 1, 0] (by decide +kernel) (by decide +kernel) rfl rfl fun K hK => ?_
    simp [hG, List.getD_cons_zero, List.getD_cons_succ, -List.getD_eq_getElem?_getD, pureOp, rowX_zero]
    refine ⟨Cond.mk (by exact trivial), hK _ ?_⟩
    clear K hK
    refine awpA_only (fuel := 12) (i := 2) (by decide +kernel) ?_
    refine awpO_call cal54 rfl rfl rfl (fun _ => rfl) (fun hg => decimal_c e.letters (by omega)) (fun hg => ?_) (fun hg => ?_) fun K hK => ?_
    · simp [hG, List.getD_cons_zero, List.getD_cons_succ, -List.getD_eq_getElem?_getD, pureOp, rowX_zero]
    · simp [hG, List.getD_cons_zero, List.getD_cons_succ, -List.getD_eq_getElem?_getD, pureOp, rowX_zero]
    simp [hG, List.getD_cons_zero, List.getD_cons_succ, -List.getD_eq_getElem?_getD, pureOp, rowX_zero]
    refine hK _ ?_
    clear K hK
    refine awpA_tk T_ok [3, 4] [] (fuel := 10) [4, 3, 2, 17, 16, 15, 11, 10, 6, 5, 1, 0] (by decide +kernel) (by decide +kernel) rfl rfl fun K hK => ?_
    simp [hG, List.getD_cons_zero, List.getD_cons_succ, -List.getD_eq_getElem?_getD, pureOp, rowX_zero]
    refine ⟨Cond.mk (by omega), hK _ ?_⟩
    clear K hK
    refine awpA_only (fuel := 9) (i := 7) (by decide +kernel) ?_
    refine awpO_call cal54 rfl rfl rfl (fun _ => rfl) (fun hg => decimal_c e.block (by omega)) (fun hg => ?_) (fun hg => ?_) fun K hK => ?_
    · simp [hG, List.getD_cons_zero, List.getD_cons_succ, -List.getD_eq_getElem?_getD, pureOp, rowX_zero]
    · simp [hG, List.getD_cons_zero, List.getD_cons_succ, -List.getD_eq_getElem?_getD, pureOp, rowX_zero]
    simp [hG, List.getD_cons_zero, List.getD_cons_succ, -List.getD_eq_getElem?_getD, pureOp, rowX_zero]
    refine hK _ ?_
    clear K hK
    refine awpA_tk T_ok [8, 9] [] (fuel := 7) [9, 8, 7, 4, 3, 2, 17, 16, 15, 11, 10, 6, 5, 1, 0] (by decide +kernel) (by decide +kernel) rfl rfl fun K hK => ?_
    simp [hG, List.getD_cons_zero, List.getD_cons_succ, -List.getD_eq_getElem?_getD, pureOp, rowX_zero]
    refine ⟨Cond.mk (by omega), hK _ ?_⟩
    clear K hK
    refine awpA_only (fuel := 6) (i := 12) (by decide +kernel) ?_
    refine awpO_call cal54 rfl rfl rfl (fun _ => rfl) (fun hg => decimal_c e.inputs (by omega)) (fun hg => ?_) (fun hg => ?_) fun K hK => ?_
    · simp [hG, List.getD_cons_zero, List.getD_cons_succ, -List.getD_eq_getElem?_getD, pureOp, rowX_zero]
    · simp [hG, List.getD_cons_zero, List.getD_cons_succ, -List.getD_eq_getElem?_getD, pureOp, rowX_zero]
    simp [hG, List.getD_cons_zero, List.getD_cons_succ, -List.getD_eq_getElem?_getD, pureOp, rowX_zero]
    refine hK _ ?_
    clear K hK
    refine awpA_tk T_ok [13, 14] [] (fuel := 4) [14, 13, 12, 9, 8, 7, 4, 3, 2, 17, 16, 15, 11, 10, 6, 5, 1, 0] (by decide +kernel) (by decide +kernel) rfl rfl fun K hK => ?_
    simp [hG, List.getD_cons_zero, List.getD_cons_succ, -List.getD_eq_getElem?_getD, pureOp, rowX_zero]
    refine ⟨Cond.mk (by omega), hK _ ?_⟩
    clear K hK
    refine awpA_only (fuel := 3) (i := 18) (by decide +kernel) ?_
    refine awpO_call cal54 rfl rfl rfl (fun _ => rfl) (fun hg => decimal_c (e.rows.length : Nat) (by omega)) (fun hg => ?_) (fun hg => ?_) fun K hK => ?_
    · simp [hG, List.getD_cons_zero, List.getD_cons_succ, -List.getD_eq_getElem?_getD, pureOp, rowX_zero]
    · simp [hG, List.getD_cons_zero, List.getD_cons_succ, -List.getD_eq_getElem?_getD, pureOp, rowX_zero]
    simp [hG, List.getD_cons_zero, List.getD_cons_succ, -List.getD_eq_getElem?_getD, pureOp, rowX_zero]
    refine hK _ ?_
    clear K hK
    refine awpA_tk T_ok [19, 20, 21] [] (fuel := 0) [21, 20, 19, 18, 14, 13, 12, 9, 8, 7, 4, 3, 2, 17, 16, 15, 11, 10, 6, 5, 1, 0] (by decide +kernel) (by decide +kernel) rfl rfl fun K hK => ?_
    simp [hG, List.getD_cons_zero, List.getD_cons_succ, -List.getD_eq_getElem?_getD, pureOp, rowX_zero]
    refine ⟨Cond.mk (by omega), hK _ ?_⟩
    clear K hK
    refine awpA_done (by decide +kernel) ?_
    refine awpS_seq ?_
    refine awpS_seq ?_
    refine awpS_reg T_ok fun K hK => ?_
    simp [hG, List.getD_cons_zero, List.getD_cons_succ, -List.getD_eq_getElem?_getD, pureOp, rowX_zero]
    refine hK _ ?_
    clear K hK
    refine awpS_block ?_
    refine awpS_loop (α := Nat) (fun i => ⟨[(1, .ptr (0, 0) 0 0), (4, .str (textA e i)), (5, .int .i64 i)], [(0, .one (.arr 1 4 (fun _ => encF e)))], 1⟩) (fun i => i ≤ e.rows.length) (fun i => e.rows.length - i) (0) (Nat.zero_le _) ?_ ?_
    ·
      refine wk_of (id) (fun _ => false) (fun _ => false) ?_ ?_ rfl (Nat.zero_le _) (fun k hk => absurd hk (Nat.not_lt_zero _))
      · rw [textA_zero]; simp [hG, List.getD_cons_zero, List.getD_cons_succ, -List.getD_eq_getElem?_getD]; simp [lineT, headW, joinB, encW]
      · simp [hG, List.getD_cons_zero, List.getD_cons_succ, -List.getD_eq_getElem?_getD, pureOp, rowX_zero]
    ·
      rintro i hi
      refine awpS_seq ?_
      refine awpS_seq ?_
      refine awpS_reg T_ok fun K hK => ?_
      simp [hG, List.getD_cons_zero, List.getD_cons_succ, -List.getD_eq_getElem?_getD, pureOp, rowX_zero]
      refine hK _ ?_
      clear K hK
      refine awpS_cond rfl (fun hb36 => ?_) (fun hb36 => ?_)
      ·
        try simp [-List.getD_eq_getElem?_getD] at hb36
        have hil : i < e.rows.length := (by omega)
        have hre := row_eq hv hil
        have htl := textA_len hm hv (k := i)
        have hE := textA_succ hil
        refine awpS_skip ?_
        refine awpS_seq ?_
        refine awpS_block ?_
        refine awpS_seq ?_
        refine awpS_reg T_ok fun K hK => ?_
        simp [hG, List.getD_cons_zero, List.getD_cons_succ, -List.getD_eq_getElem?_getD, pureOp, rowX_zero]
        refine hK _ ?_
        clear K hK
        refine awpS_seq ?_
        refine awpS_seq ?_
        refine awpS_reg T_ok fun K hK => ?_
        simp [hG, List.getD_cons_zero, List.getD_cons_succ, -List.getD_eq_getElem?_getD, pureOp, rowX_zero]
        refine hK _ ?_
        clear K hK
        refine awpS_block ?_
        refine awpS_loop (α := Nat) (fun k => ⟨[(1, .ptr (0, 0) 0 0), (4, .str (textA e i)), (5, .int .i64 i), (6, .str (rowX e i k)), (7, .int .i64 k)], [(0, .one (.arr 1 4 (fun _ => encF e)))], 1⟩) (fun k => k ≤ (e.rows.getD i []).length) (fun k => (e.rows.getD i []).length - k) (0) (Nat.zero_le _) ?_ ?_
        ·
          refine wk_of (id) (fun _ => false) (fun _ => false) ?_ ?_ rfl (Nat.zero_le _) (fun k hk => absurd hk (Nat.not_lt_zero _))
          · simp [hG, List.getD_cons_zero, List.getD_cons_succ, -List.getD_eq_getElem?_getD, pureOp, rowX_zero]
          · simp [hG, List.getD_cons_zero, List.getD_cons_succ, -List.getD_eq_getElem?_getD, pureOp, rowX_zero]
        ·
          rintro k hk
          refine awpS_seq ?_
          refine awpS_seq ?_
          refine awpS_reg T_ok fun K hK => ?_
          simp [hG, List.getD_cons_zero, List.getD_cons_succ, -List.getD_eq_getElem?_getD, pureOp, rowX_zero]
          refine hK _ ?_
          clear K hK
          refine awpS_cond rfl (fun hb42 => ?_) (fun hb42 => ?_)
          ·
            try simp [-List.getD_eq_getElem?_getD] at hb42
            have hkl : k < (e.rows.getD i []).length := (by omega)
            have hrx := rowX_len hv hil (k := k) (by omega)
            have hct := cell_to hv hil hkl
            have hcw := cell_wlen hv hil hkl
            unfold cellAt at hct hcw
            have hi2 := (itoa2_len (a := ((e.rows.getD i []).getD k dc).to)).1
            refine awpS_skip ?_
            refine awpS_seq ?_
            refine awpS_block ?_
            refine awpS_seq ?_
            refine awpS_seq ?_
            refine awpS_reg T_ok fun K hK => ?_
            simp [hG, List.getD_cons_zero, List.getD_cons_succ, -List.getD_eq_getElem?_getD, pureOp, rowX_zero]
            refine hK _ ?_
            clear K hK
            refine awpS_cond rfl (fun hb46 => ?_) (fun hb46 => ?_)
            ·
              try simp [-List.getD_eq_getElem?_getD] at hb46
              have hX := rowX_more hkl (by omega)
              refine awpS_reg T_ok fun K hK => ?_
              simp [hG, List.getD_cons_zero, List.getD_cons_succ, -List.getD_eq_getElem?_getD, pureOp, rowX_zero]
              refine ⟨Cond.mk (by omega), hK _ ?_⟩
              clear K hK
              refine awpS_draw hR mixed [] ⟨[], [], []⟩ fun mu0 => ?_
              refine awpA_tk T_ok [0, 1, 2, 3, 4, 5, 6, 7, 8, 9, 10, 11, 12, 13, 14, 15, 16, 17, 18, 19, 20] [] (fuel := 3) [20, 19, 18, 17, 16, 15, 14, 13, 12, 11, 10, 9, 8, 7, 6, 5, 4, 3, 2, 1, 0] (by decide +kernel) (by decide +kernel) rfl rfl fun K hK => ?_
              simp [hG, List.getD_cons_zero, List.getD_cons_succ, -List.getD_eq_getElem?_getD, pureOp, rowX_zero]
              refine ⟨Cond.mk (by omega), hK _ ?_⟩
              clear K hK
              refine awpA_only (fuel := 2) (i := 21) (by decide +kernel) ?_
              refine awpO_call cal54 rfl rfl rfl (fun _ => rfl) (fun hg => decimal_c ((e.rows.getD i []).getD k dc).to (by omega)) (fun hg => ?_) (fun hg => ?_) fun K hK => ?_
              · simp [hG, List.getD_cons_zero, List.getD_cons_succ, -List.getD_eq_getElem?_getD, pureOp, rowX_zero]
              · simp [hG, List.getD_cons_zero, List.getD_cons_succ, -List.getD_eq_getElem?_getD, pureOp, rowX_zero]
              simp [hG, List.getD_cons_zero, List.getD_cons_succ, -List.getD_eq_getElem?_getD, pureOp, rowX_zero]
              refine hK _ ?_
              clear K hK
              refine awpA_tk T_ok [22, 23] [] (fuel := 0) [23, 22, 21, 20, 19, 18, 17, 16, 15, 14, 13, 12, 11, 10, 9, 8, 7, 6, 5, 4, 3, 2, 1, 0] (by decide +kernel) (by decide +kernel) rfl rfl fun K hK => ?_
              simp [hG, List.getD_cons_zero, List.getD_cons_succ, -List.getD_eq_getElem?_getD, pureOp, rowX_zero]
              refine ⟨Cond.mk (by omega), hK _ ?_⟩
              clear K hK
              refine awpA_done (by decide +kernel) ?_
              refine awpS_nil ?_
              refine blockQ_norm (thenQ_norm ?_)
              refine awpS_reg T_ok fun K hK => ?_
              simp [hG, List.getD_cons_zero, List.getD_cons_succ, -List.getD_eq_getElem?_getD, pureOp, rowX_zero]
              refine ⟨Cond.mk (by omega), hK _ ?_⟩
              clear K hK
              refine awpS_nil ?_
              refine round_end (k + 1) (by omega) (by omega) ?_
              refine wk_of (id) (fun _ => false) (fun _ => false) ?_ ?_ rfl (Nat.zero_le _) (fun k hk => absurd hk (Nat.not_lt_zero _))
              · rw [hX]; simp [hG, List.getD_cons_zero, List.getD_cons_succ, -List.getD_eq_getElem?_getD]; simp [cellT]
              · simp [hG, List.getD_cons_zero, List.getD_cons_succ, -List.getD_eq_getElem?_getD, pureOp, rowX_zero]
            ·
              try simp [-List.getD_eq_getElem?_getD] at hb46
              have hX := rowX_first hkl (show k = 0 by omega)
              refine awpS_skip ?_
              refine awpS_draw hR mixed [] ⟨[], [], []⟩ fun mu0 => ?_
              refine awpA_tk T_ok [0, 1, 2, 3, 4, 5, 6, 7, 8, 9, 10, 11, 12, 13, 14, 15, 16, 17, 18, 19, 20] [] (fuel := 3) [20, 19, 18, 17, 16, 15, 14, 13, 12, 11, 10, 9, 8, 7, 6, 5, 4, 3, 2, 1, 0] (by decide +kernel) (by decide +kernel) rfl rfl fun K hK => ?_
              simp [hG, List.getD_cons_zero, List.getD_cons_succ, -List.getD_eq_getElem?_getD, pureOp, rowX_zero]
              refine ⟨Cond.mk (by omega), hK _ ?_⟩
              clear K hK
              refine awpA_only (fuel := 2) (i := 21) (by decide +kernel) ?_
              refine awpO_call cal54 rfl rfl rfl (fun _ => rfl) (fun hg => decimal_c ((e.rows.getD i []).getD k dc).to (by omega)) (fun hg => ?_) (fun hg => ?_) fun K hK => ?_
              · simp [hG, List.getD_cons_zero, List.getD_cons_succ, -List.getD_eq_getElem?_getD, pureOp, rowX_zero]
              · simp [hG, List.getD_cons_zero, List.getD_cons_succ, -List.getD_eq_getElem?_getD, pureOp, rowX_zero]
              simp [hG, List.getD_cons_zero, List.getD_cons_succ, -List.getD_eq_getElem?_getD, pureOp, rowX_zero]
              refine hK _ ?_
              clear K hK
              refine awpA_tk T_ok [22, 23] [] (fuel := 0) [23, 22, 21, 20, 19, 18, 17, 16, 15, 14, 13, 12, 11, 10, 9, 8, 7, 6, 5, 4, 3, 2, 1, 0] (by decide +kernel) (by decide +kernel) rfl rfl fun K hK => ?_
              simp [hG, List.getD_cons_zero, List.getD_cons_succ, -List.getD_eq_getElem?_getD, pureOp, rowX_zero]
              refine ⟨Cond.mk (by omega), hK _ ?_⟩
              clear K hK
              refine awpA_done (by decide +kernel) ?_
              refine awpS_nil ?_
              refine blockQ_norm (thenQ_norm ?_)
              refine awpS_reg T_ok fun K hK => ?_
              simp [hG, List.getD_cons_zero, List.getD_cons_succ, -List.getD_eq_getElem?_getD, pureOp, rowX_zero]
              refine ⟨Cond.mk (by omega), hK _ ?_⟩
              clear K hK
              refine awpS_nil ?_
              refine round_end (k + 1) (by omega) (by omega) ?_
              refine wk_of (id) (fun _ => false) (fun _ => false) ?_ ?_ rfl (Nat.zero_le _) (fun k hk => absurd hk (Nat.not_lt_zero _))
              · rw [hX]; simp [hG, List.getD_cons_zero, List.getD_cons_succ, -List.getD_eq_getElem?_getD]; simp [cellT]
              · simp [hG, List.getD_cons_zero, List.getD_cons_succ, -List.getD_eq_getElem?_getD, pureOp, rowX_zero]
          ·
            try simp [-List.getD_eq_getElem?_getD] at hb42
            obtain rfl : k = (e.rows.getD i []).length := (by omega)
            have hrx := rowX_len hv hil (k := (e.rows.getD i []).length) (by omega)
            have hE2 := rowX_all e i
            refine awpS_exit ?_
            refine thenQ_exit (thenQ_exit ?_)
            refine blockQ_exit (thenQ_norm ?_)
            refine awpS_reg T_ok fun K hK => ?_
            simp [hG, List.getD_cons_zero, List.getD_cons_succ, -List.getD_eq_getElem?_getD, pureOp, rowX_zero]
            refine ⟨Cond.mk (by omega), hK _ ?_⟩
            clear K hK
            refine awpS_nil ?_
            refine blockQ_norm (thenQ_norm ?_)
            refine awpS_reg T_ok fun K hK => ?_
            simp [hG, List.getD_cons_zero, List.getD_cons_succ, -List.getD_eq_getElem?_getD, pureOp, rowX_zero]
            refine ⟨Cond.mk (by omega), hK _ ?_⟩
            clear K hK
            refine awpS_nil ?_
            refine round_end (i + 1) (by omega) (by omega) ?_
            refine wk_of (id) (fun _ => false) (fun _ => false) ?_ ?_ rfl (Nat.zero_le _) (fun k hk => absurd hk (Nat.not_lt_zero _))
            · rw [hE, hE2]; simp [hG, List.getD_cons_zero, List.getD_cons_succ, -List.getD_eq_getElem?_getD]
            · simp [hG, List.getD_cons_zero, List.getD_cons_succ, -List.getD_eq_getElem?_getD, pureOp, rowX_zero]
      ·
        try simp [-List.getD_eq_getElem?_getD] at hb36
        obtain rfl : i = e.rows.length := (by omega)
        have htl := textA_len hm hv (k := e.rows.length)
        refine awpS_exit ?_
        refine thenQ_exit (thenQ_exit ?_)
        refine blockQ_exit (thenQ_norm ?_)
        refine awpS_seq ?_
        refine awpS_seq ?_
        refine awpS_reg T_ok fun K hK => ?_
        simp [hG, List.getD_cons_zero, List.getD_cons_succ, -List.getD_eq_getElem?_getD, pureOp, rowX_zero]
        refine hK _ ?_
        clear K hK
        refine awpS_cond rfl (fun hb78 => ?_) (fun hb78 => ?_)
        ·
          exact absurd hb78 (by simp; omega)
        ·
          try simp [-List.getD_eq_getElem?_getD] at hb78
          refine awpS_skip ?_
          refine awpS_seq ?_
          refine awpS_reg T_ok fun K hK => ?_
          simp [hG, List.getD_cons_zero, List.getD_cons_succ, -List.getD_eq_getElem?_getD, pureOp, rowX_zero]
          refine hK _ ?_
          clear K hK
          refine awpS_ret ?_
          refine RetOK_of ?_
          simp [hG, List.getD_cons_zero, List.getD_cons_succ, -List.getD_eq_getElem?_getD, pureOp, rowX_zero]
          unfold printX printN; rw [if_neg (fun h => h hv), if_neg (fun h => h hv), textA_all (Nat.le_refl _)]; exact ⟨rfl, rfl⟩

end Go.Proofs.YtdojahjhijkbhaaGreatDoor
