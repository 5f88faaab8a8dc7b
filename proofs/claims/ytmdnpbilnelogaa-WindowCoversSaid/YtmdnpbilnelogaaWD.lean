/-
 Walks: Covers; Search.
-/
import Derived.Test.YtmdnpbilnelogaaWC
namespace Go.Proofs.Ytmdnpbilnelogaa
set_option linter.unusedSimpArgs false
set_option linter.unusedVariables false
open Go Go.Lift Go.Proofs
theorem cov_one {d : Dec} {e : Enc} (h : checkD d ≠ 0 ∨ checkE e ≠ 0) : coversN d e = 1 := if_pos h
theorem cov_mis {d : Dec} {e : Enc} (h : checkD d = 0 ∧ checkE e = 0) (h2 : d.letters ≠ e.letters ∨ d.block ≠ e.block ∨ d.inputs ≠ e.inputs) : coversN d e = 11 := by
 unfold coversN; rw [if_neg (by rintro (h3 | h3); exact h3 h.1; exact h3 h.2), if_pos h2]
theorem cov_many {d : Dec} {e : Enc} (h : checkD d = 0 ∧ checkE e = 0) (h2 : (d.letters = e.letters ∧ d.block = e.block) ∧ d.inputs = e.inputs) (h3 : manyB e (d.past.toNat + 1 + d.future.toNat) = true) : coversN d e = 4 := by
 unfold coversN; rw [if_neg (by rintro (h3 | h3); exact h3 h.1; exact h3 h.2), if_neg (by rintro (h3 | h3 | h3); exact h3 h2.1.1; exact h3 h2.1.2; exact h3 h2.2), if_pos h3]
theorem cov_ok {d : Dec} {e : Enc} (h : checkD d = 0 ∧ checkE e = 0) (h2 : (d.letters = e.letters ∧ d.block = e.block) ∧ d.inputs = e.inputs) (h3 : manyB e (d.past.toNat + 1 + d.future.toNat) = false) : coversN d e = 0 := by
 unfold coversN; rw [if_neg (by rintro (h3 | h3); exact h3 h.1; exact h3 h.2), if_neg (by rintro (h3 | h3 | h3); exact h3 h2.1.1; exact h3 h2.1.2; exact h3 h2.2), if_neg (by rw [h3]; simp)]
theorem covB_err {d : Dec} {e : Enc} {n : Int} (h : coversN d e = n) (hn : n ≠ 0) : coversB d e = false := by
 unfold coversB; rw [h, decide_eq_false hn]; rfl
theorem covB_ok {d : Dec} {e : Enc} (h : coversN d e = 0) : coversB d e = (pathsL e d.past.toNat d.future.toNat).all (covE d) := by
 unfold coversB; rw [h]; rfl
theorem srch_one {e : Enc} {most : Int} (h : checkE e ≠ 0) : searchX e most = dd0 ∧ searchN e most = 1 := ⟨if_pos h, if_pos h⟩
theorem srch_range {e : Enc} {most : Int} (h : checkE e = 0) (h2 : most < 0 ∨ 16 ≤ most) : searchX e most = dd0 ∧ searchN e most = 2 := by
 constructor
 · unfold searchX; rw [if_neg (fun h3 => h3 h), if_pos h2]
 · unfold searchN; rw [if_neg (fun h3 => h3 h), if_pos h2]
theorem srch_at {e : Enc} {M n f : Nat} (h : checkE e = 0) (h2 : 0 ≤ (M : Int) ∧ (M : Int) < 16) (h3 : srchO e M = some (n, f)) : searchX e M = wbX e ((n : Int) - f) f ∧ searchN e M = wbN e ((n : Int) - f) f := by
 constructor
 · unfold searchX; rw [if_neg (fun h4 => h4 h), if_neg (by omega), Int.toNat_natCast, h3]
 · unfold searchN; rw [if_neg (fun h4 => h4 h), if_neg (by omega), Int.toNat_natCast, h3]
theorem srch_nil {e : Enc} {M : Nat} (h : checkE e = 0) (h2 : 0 ≤ (M : Int) ∧ (M : Int) < 16) (h3 : srchO e M = none) : searchX e M = dd0 ∧ searchN e M = 17 := by
 constructor
 · unfold searchX; rw [if_neg (fun h4 => h4 h), if_neg (by omega), Int.toNat_natCast, h3]
 · unfold searchN; rw [if_neg (fun h4 => h4 h), if_neg (by omega), Int.toNat_natCast, h3]
set_option maxRecDepth 100000 in
theorem bodyC_y (d : Dec) (hl : d.ents.length ≤ 65536) (ha : Asc d.ents) (x : Ent) {l : Nat} {rec : Loop} {vs : Array Value} (hok : RecOK rec [2, 4, 5] vs #[54, 55] (rngA Try.f29.body 0) (rngB Try.f29.body 0) 69) : YC Try.prog l rec vs ([.str x.win, .int .i64 x.inp] ++ [.vptr 6 (decF d) 0, .ptr (1, 0) 0 0, .ptr (2, 0) 0 0]) ((0, .one (.ob (lpP l rec none))) :: [(1, .one (.arr 1 1 (fun _ _ => .bool false))), (2, .one (.arr 1 1 (fun _ _ => .int .i64 0)))]) 3 (fun _ : Unit => True) (fun _ : Unit => .bool (stopC (stepC d () x).2).isNone) (fun _ : Unit => (0, .one (.ob (lpP l rec (stopC (stepC d () x).2)))) :: [(1, .one (.arr 1 1 (fun _ _ => .bool false))), (2, .one (.arr 1 1 (fun _ _ => .int .i64 0)))]) (fun _ : Unit => 3) := by
 refine YC_introJ hok rfl rfl rfl (by simp) rfl (by simp) (by simp) (by decide) fun G hG hR => ?_
 show AwpS _ _ _ _ _ ⟨[(55, .int .i64 x.inp), (54, .str x.win), (2, .vptr 6 (decF d) 0), (4, .ptr (1, 0) 0 0), (5, .ptr (2, 0) 0 0)], [(1, .one (.arr 1 1 (fun _ _ => .bool false))), (2, .one (.arr 1 1 (fun _ _ => .int .i64 0)))], 3⟩
 refine awpS_seq ?_
 refine awpS_reg T_ok fun K hK => ?_
 simp [hG, List.getD_cons_zero, List.getD_cons_succ, -List.getD_eq_getElem?_getD, pureOp]
 refine hK _ ?_
 clear K hK
 refine awpS_reg T_ok fun K hK => ?_
 simp [hG, List.getD_cons_zero, List.getD_cons_succ, -List.getD_eq_getElem?_getD, pureOp]
 refine hK _ ?_
 clear K hK
 refine awpS_nil ?_
 refine ⟨rfl, fun G hG hR => ?_⟩
 refine awpS_block ?_
 refine awpS_seq ?_
 refine awpS_regL ?_
 refine awpL_reg T_ok 2 fun K hK => ?_
 simp [hG, List.getD_cons_zero, List.getD_cons_succ, -List.getD_eq_getElem?_getD, pureOp]
 refine hK _ ?_
 clear K hK
 refine awpL_call cal46 rfl rfl (fun _ => rfl) (fun hg => find_c d x.win hl ha) (fun hg => ?_) (fun hg => ?_) fun K hK => ?_
 · simp [hG, List.getD_cons_zero, List.getD_cons_succ, -List.getD_eq_getElem?_getD, pureOp]
 · simp [hG, List.getD_cons_zero, List.getD_cons_succ, -List.getD_eq_getElem?_getD, pureOp]
 simp [hG, List.getD_cons_zero, List.getD_cons_succ, -List.getD_eq_getElem?_getD, pureOp]
 refine hK _ ?_
 clear K hK
 refine awpL_reg T_ok 5 fun K hK => ?_
 simp [hG, List.getD_cons_zero, List.getD_cons_succ, -List.getD_eq_getElem?_getD, pureOp]
 refine hK _ ?_
 clear K hK
 refine awpL_nil ?_
 refine awpS_seq ?_
 refine awpS_reg T_ok fun K hK => ?_
 simp [hG, List.getD_cons_zero, List.getD_cons_succ, -List.getD_eq_getElem?_getD, pureOp]
 refine hK _ ?_
 clear K hK
 refine awpS_cond rfl (fun hb68 => ?_) (fun hb68 => ?_)
 ·
  try simp [-List.getD_eq_getElem?_getD] at hb68
  have hst : (stepC d () x).2 = true := (by show (!decide (lookE d.ents x.win = some x.inp)) = true; rw [Bool.not_eq_true', decide_eq_false_iff_not]; intro h9; rw [h9] at hb68; simp at hb68)
  refine awpS_seq ?_
  refine awpS_reg T_ok fun K hK => ?_
  simp [hG, List.getD_cons_zero, List.getD_cons_succ, -List.getD_eq_getElem?_getD, pureOp]
  refine hK _ ?_
  clear K hK
  refine awpS_ret ?_
  refine blockQ_ret (thenQ_ret ?_)
  refine RetYJ_of (()) (id) (fun _ => false) (fun _ => false) trivial (by rw [hst]; rfl) ?_ (by rfl) (by simp) (fun k _ => ⟨rfl, rfl⟩)
  · simp [hG, List.getD_cons_zero, List.getD_cons_succ, -List.getD_eq_getElem?_getD, pureOp]
 ·
  try simp [-List.getD_eq_getElem?_getD] at hb68
  have hst : (stepC d () x).2 = false := (by show (!decide (lookE d.ents x.win = some x.inp)) = false; rw [Bool.not_eq_false', decide_eq_true_eq]; obtain ⟨v, hv⟩ := Option.ne_none_iff_exists'.1 hb68.1; have h2 := hb68.2; rw [hv] at h2 ⊢; simp at h2; rw [h2])
  refine awpS_skip ?_
  refine awpS_nil ?_
  refine blockQ_norm (thenQ_norm ?_)
  refine awpS_nil ?_
  refine RetYJ_of (()) (id) (fun _ => false) (fun _ => false) trivial (by rw [hst]; rfl) ?_ (by rfl) (by simp) (fun k _ => ⟨rfl, rfl⟩)
  · simp [hG, List.getD_cons_zero, List.getD_cons_succ, -List.getD_eq_getElem?_getD, pureOp]

def FolC (l : Nat) (rec : Loop) (vs : Array Value) (d : Dec) (e : Enc) (p n k : Nat) : Prop := ∀ (s : Int) (dn : Nat) (w : List UInt8) (i : Int), dn + k = n → (0 ≤ s ∧ s < (e.rows.length : Int)) → (w.length : Int) = (dn : Int) * e.block → FC1 Try.prog 57 [.int .i64 s, .int .i64 (dn : Nat), .str w, .int .i64 i, .vptr 1 (fun _ => .int .i64 (n : Nat)) 0, .vptr 1 (fun _ => .yld l vs 3 (fun j => [.vptr 6 (decF d) 0, .ptr (1, 0) 0 0, .ptr (2, 0) 0 0].getD j .any)) 0, .vptr 4 (encF e) 0, .vptr 1 (fun _ => .int .i64 (p : Nat)) 0, .ptr (3, 0) 0 0] [(0, .one (.ob (lpP l rec (none)))), (1, .one (.arr 1 1 (fun _ _ => .bool false))), (2, .one (.arr 1 1 (fun _ _ => .int .i64 0))), (3, .one (.arr 1 1 (fun _ _ => .fn 57 5 (fun j => [.vptr 1 (fun _ => .int .i64 (n : Nat)) 0, .vptr 1 (fun _ => .yld l vs 3 (fun j => [.vptr 6 (decF d) 0, .ptr (1, 0) 0 0, .ptr (2, 0) 0 0].getD j .any)) 0, .vptr 4 (encF e) 0, .vptr 1 (fun _ => .int .i64 (p : Nat)) 0, .ptr (3, 0) 0 0].getD j .any))))] 4 (.bool (!(goS (stepC d) () (follow e p n k s.toNat w i)).2)) [(0, .one (.ob (lpP l rec (stopC (goS (stepC d) () (follow e p n k s.toNat w i)).2)))), (1, .one (.arr 1 1 (fun _ _ => .bool false))), (2, .one (.arr 1 1 (fun _ _ => .int .i64 0))), (3, .one (.arr 1 1 (fun _ _ => .fn 57 5 (fun j => [.vptr 1 (fun _ => .int .i64 (n : Nat)) 0, .vptr 1 (fun _ => .yld l vs 3 (fun j => [.vptr 6 (decF d) 0, .ptr (1, 0) 0 0, .ptr (2, 0) 0 0].getD j .any)) 0, .vptr 4 (encF e) 0, .vptr 1 (fun _ => .int .i64 (p : Nat)) 0, .ptr (3, 0) 0 0].getD j .any))))] 4
set_option maxRecDepth 100000 in
theorem followC_c (l : Nat) (rec : Loop) (vs : Array Value) (hok : RecOK rec [2, 4, 5] vs #[54, 55] (rngA Try.f29.body 0) (rngB Try.f29.body 0) 69) (d : Dec) (hl : d.ents.length ≤ 65536) (ha : Asc d.ents) (e : Enc) (hv : checkE e = 0) (p n : Nat) (hn : n ≤ 16) (k0 : Nat) (ih : ∀ k, k < k0 → FolC l rec vs d e p n k) (s : Int) (dn : Nat) (w : List UInt8) (i : Int) (hdn : dn + k0 = n) (hs : 0 ≤ s ∧ s < (e.rows.length : Int)) (hw : (w.length : Int) = (dn : Int) * e.block) : FC1 Try.prog 57 [.int .i64 s, .int .i64 (dn : Nat), .str w, .int .i64 i, .vptr 1 (fun _ => .int .i64 (n : Nat)) 0, .vptr 1 (fun _ => .yld l vs 3 (fun j => [.vptr 6 (decF d) 0, .ptr (1, 0) 0 0, .ptr (2, 0) 0 0].getD j .any)) 0, .vptr 4 (encF e) 0, .vptr 1 (fun _ => .int .i64 (p : Nat)) 0, .ptr (3, 0) 0 0] [(0, .one (.ob (lpP l rec (none)))), (1, .one (.arr 1 1 (fun _ _ => .bool false))), (2, .one (.arr 1 1 (fun _ _ => .int .i64 0))), (3, .one (.arr 1 1 (fun _ _ => .fn 57 5 (fun j => [.vptr 1 (fun _ => .int .i64 (n : Nat)) 0, .vptr 1 (fun _ => .yld l vs 3 (fun j => [.vptr 6 (decF d) 0, .ptr (1, 0) 0 0, .ptr (2, 0) 0 0].getD j .any)) 0, .vptr 4 (encF e) 0, .vptr 1 (fun _ => .int .i64 (p : Nat)) 0, .ptr (3, 0) 0 0].getD j .any))))] 4 (.bool (!(goS (stepC d) () (follow e p n k0 s.toNat w i)).2)) [(0, .one (.ob (lpP l rec (stopC (goS (stepC d) () (follow e p n k0 s.toNat w i)).2)))), (1, .one (.arr 1 1 (fun _ _ => .bool false))), (2, .one (.arr 1 1 (fun _ _ => .int .i64 0))), (3, .one (.arr 1 1 (fun _ _ => .fn 57 5 (fun j => [.vptr 1 (fun _ => .int .i64 (n : Nat)) 0, .vptr 1 (fun _ => .yld l vs 3 (fun j => [.vptr 6 (decF d) 0, .ptr (1, 0) 0 0, .ptr (2, 0) 0 0].getD j .any)) 0, .vptr 4 (encF e) 0, .vptr 1 (fun _ => .int .i64 (p : Nat)) 0, .ptr (3, 0) 0 0].getD j .any))))] 4 := by
 have hbk := (checkE_valid hv).1.block
 have hmb := mul_bd (a := (dn : Int)) (b := e.block) (c := 16) ⟨by omega, by omega⟩ hbk
 refine FC_introS T_ok Try.func57 rfl (by simp [Try.ntmps57]) fun G hG hR => ?_
 simp only [Try.ntmps57, Try.results57] at hG ⊢
 simp only [argEnv, Nat.zero_add, Nat.reduceAdd]
 refine awpS_seq ?_
 refine awpS_reg T_ok fun K hK => ?_
 simp [hG, List.getD_cons_zero, List.getD_cons_succ, -List.getD_eq_getElem?_getD, fol_zero, go_one, folC_zero, goS_nil]
 refine hK _ ?_
 clear K hK
 refine awpS_seq ?_
 refine awpS_seq ?_
 refine awpS_reg T_ok fun K hK => ?_
 simp [hG, List.getD_cons_zero, List.getD_cons_succ, -List.getD_eq_getElem?_getD, fol_zero, go_one, folC_zero, goS_nil]
 refine hK _ ?_
 clear K hK
 refine awpS_cond rfl (fun hb19 => ?_) (fun hb19 => ?_)
 ·
  try simp [-List.getD_eq_getElem?_getD] at hb19
  obtain rfl : k0 = 0 := (by omega)
  refine awpS_seq ?_
  refine awpS_regL ?_
  refine awpL_reg T_ok 3 fun K hK => ?_
  simp [hG, List.getD_cons_zero, List.getD_cons_succ, -List.getD_eq_getElem?_getD, fol_zero, go_one, folC_zero, goS_nil]
  refine hK _ ?_
  clear K hK
  refine awpL_yieldP 0 hR [0, 1, 2] (fun _ => false) (bodyC_y d hl ha ⟨w, i⟩ hok) rfl rfl (by rw [hok.params]; rfl) rfl rfl rfl (by simp) (.inl fun _ => rfl) ?_ ?_ ?_ fun K hK x hI hno => ?_
  · simp [hG, List.getD_cons_zero, List.getD_cons_succ, -List.getD_eq_getElem?_getD, fol_zero, go_one, folC_zero, goS_nil]
  · simp [hG, List.range'_succ, List.range'_zero, List.getD_cons_zero, List.getD_cons_succ, -List.getD_eq_getElem?_getD]
  · simp [hG, List.getD_cons_zero, List.getD_cons_succ, -List.getD_eq_getElem?_getD, fol_zero, go_one, folC_zero, goS_nil]
  simp [hG, List.getD_cons_zero, List.getD_cons_succ, -List.getD_eq_getElem?_getD, fol_zero, go_one, folC_zero, goS_nil]
  refine hK _ ?_
  clear K hK
  refine awpL_reg T_ok 1 fun K hK => ?_
  simp [hG, List.getD_cons_zero, List.getD_cons_succ, -List.getD_eq_getElem?_getD, fol_zero, go_one, folC_zero, goS_nil]
  refine hK _ ?_
  clear K hK
  refine awpL_nil ?_
  refine awpS_ret ?_
  refine RetF_of (()) (id) (fun _ => false) (fun _ => false) trivial ?_ ?_ (by rfl) (by simp) (fun k _ => ⟨rfl, rfl⟩)
  · simp [hG, List.getD_cons_zero, List.getD_cons_succ, -List.getD_eq_getElem?_getD, fol_zero, go_one, folC_zero, goS_nil]
  · simp [hG, List.getD_cons_zero, List.getD_cons_succ, -List.getD_eq_getElem?_getD, fol_zero, go_one, folC_zero, goS_nil]
 ·
  try simp [-List.getD_eq_getElem?_getD] at hb19
  obtain ⟨k, rfl⟩ : ∃ k, k0 = k + 1 := ⟨k0 - 1, by omega⟩
  have hsl : s.toNat < e.rows.length := (by omega)
  have hrl := row_len hv hsl
  refine awpS_skip ?_
  refine awpS_seq ?_
  refine awpS_seq ?_
  refine awpS_reg T_ok fun K hK => ?_
  simp [hG, List.getD_cons_zero, List.getD_cons_succ, -List.getD_eq_getElem?_getD, fol_zero, go_one, folC_zero, goS_nil]
  refine ⟨Cond.mk (by omega), hK _ ?_⟩
  clear K hK
  refine awpS_block ?_
  refine awpS_loop (α := Nat) (fun c => ⟨[(0, .int .i64 s), (1, .int .i64 (dn : Nat)), (2, .str w), (3, .int .i64 i), (4, .vptr 1 (fun _ => .int .i64 (n : Nat)) 0), (5, .vptr 1 (fun _ => .yld l vs 3 (fun j => [.vptr 6 (decF d) 0, .ptr (1, 0) 0 0, .ptr (2, 0) 0 0].getD j .any)) 0), (6, .vptr 4 (encF e) 0), (7, .vptr 1 (fun _ => .int .i64 (p : Nat)) 0), (8, .ptr (3, 0) 0 0), (28, cells (e.rows.getD s.toNat [])), (29, .int .i64 (e.rows.getD s.toNat []).length), (30, .int .i64 (c : Nat))], [(0, .one (.ob (lpP l rec (none)))), (1, .one (.arr 1 1 (fun _ _ => .bool false))), (2, .one (.arr 1 1 (fun _ _ => .int .i64 0))), (3, .one (.arr 1 1 (fun _ _ => .fn 57 5 (fun j => [.vptr 1 (fun _ => .int .i64 (n : Nat)) 0, .vptr 1 (fun _ => .yld l vs 3 (fun j => [.vptr 6 (decF d) 0, .ptr (1, 0) 0 0, .ptr (2, 0) 0 0].getD j .any)) 0, .vptr 4 (encF e) 0, .vptr 1 (fun _ => .int .i64 (p : Nat)) 0, .ptr (3, 0) 0 0].getD j .any))))], 4⟩) (fun c => c ≤ (e.rows.getD s.toNat []).length ∧ (goS (stepC d) () (folC e p n k s.toNat w i c)).2 = false) (fun c => (e.rows.getD s.toNat []).length - c) (0) (⟨Nat.zero_le _, rfl⟩) ?_ ?_
  ·
   refine wk_of (id) (fun _ => false) (fun _ => false) ?_ ?_ rfl (by simp) (fun k hk => by first | exact ⟨rfl, rfl⟩ | (revert k; decide) | (obtain rfl : k = 0 := (by omega); exact ⟨rfl, rfl⟩) | (have hk2 : k = 0 ∨ k = 1 := (by omega); rcases hk2 with rfl | rfl <;> exact ⟨rfl, rfl⟩))
   · simp [hG, List.getD_cons_zero, List.getD_cons_succ, -List.getD_eq_getElem?_getD, fol_zero, go_one, folC_zero, goS_nil]
   · simp [hG, List.getD_cons_zero, List.getD_cons_succ, -List.getD_eq_getElem?_getD, fol_zero, go_one, folC_zero, goS_nil]
  ·
   rintro c ⟨hci, hc⟩
   refine awpS_seq ?_
   refine awpS_reg T_ok fun K hK => ?_
   simp [hG, List.getD_cons_zero, List.getD_cons_succ, -List.getD_eq_getElem?_getD, fol_zero, go_one, folC_zero, goS_nil]
   refine hK _ ?_
   clear K hK
   refine awpS_seq ?_
   refine awpS_cond rfl (fun hb31 => ?_) (fun hb31 => ?_)
   ·
    try simp [-List.getD_eq_getElem?_getD] at hb31
    have hil : c < (e.rows.getD s.toNat []).length := (by omega)
    have hto := cell_to hv hsl hil
    have hwl := cell_wlen hv hsl hil
    unfold cellAt at hto hwl
    have hwc : ((w ++ ((e.rows.getD s.toNat []).getD c dc).word).length : Int) = ((dn + 1 : Nat) : Int) * e.block := (by rw [List.length_append]; push_cast; rw [Int.add_mul]; omega)
    have hMC : (goS (stepC d) () (folC e p n k s.toNat w i (c + 1))) = (goS (stepC d) () (follow e p n k ((e.rows.getD s.toNat []).getD c dc).to.toNat (w ++ ((e.rows.getD s.toNat []).getD c dc).word) (if n - (k + 1) = p then (c : Int) else i))) := (by rw [folC_succ, go_more hc]; rfl)
    refine awpS_skip ?_
    refine awpS_seq ?_
    refine awpS_block ?_
    refine awpS_seq ?_
    refine awpS_reg T_ok fun K hK => ?_
    simp [hG, List.getD_cons_zero, List.getD_cons_succ, -List.getD_eq_getElem?_getD, fol_zero, go_one, folC_zero, goS_nil]
    refine ⟨Cond.mk (by simp [-List.getD_eq_getElem?_getD]; omega), hK _ ?_⟩
    clear K hK
    refine awpS_seq ?_
    refine awpS_reg T_ok fun K hK => ?_
    simp [hG, List.getD_cons_zero, List.getD_cons_succ, -List.getD_eq_getElem?_getD, fol_zero, go_one, folC_zero, goS_nil]
    refine hK _ ?_
    clear K hK
    refine awpS_seq ?_
    refine awpS_seq ?_
    refine awpS_reg T_ok fun K hK => ?_
    simp [hG, List.getD_cons_zero, List.getD_cons_succ, -List.getD_eq_getElem?_getD, fol_zero, go_one, folC_zero, goS_nil]
    refine hK _ ?_
    clear K hK
    refine awpS_cond rfl (fun hb38 => ?_) (fun hb38 => ?_)
    ·
     try simp [-List.getD_eq_getElem?_getD] at hb38
     have how : (if n - (k + 1) = p then (c : Int) else i) = (c : Int) := if_pos (by omega)
     refine awpS_reg T_ok fun K hK => ?_
     simp [hG, List.getD_cons_zero, List.getD_cons_succ, -List.getD_eq_getElem?_getD, fol_zero, go_one, folC_zero, goS_nil]
     refine hK _ ?_
     clear K hK
     refine awpS_seq ?_
     refine awpS_regL ?_
     refine awpL_reg T_ok 10 fun K hK => ?_
     simp [hG, List.getD_cons_zero, List.getD_cons_succ, -List.getD_eq_getElem?_getD, fol_zero, go_one, folC_zero, goS_nil]
     refine ⟨Cond.mk (by omega), hK _ ?_⟩
     clear K hK
     refine awpL_fc cal57 [0, 1, 2, 3] (fun _ => false) (ih k (by omega) ((e.rows.getD s.toNat []).getD c dc).to (dn + 1) (w ++ ((e.rows.getD s.toNat []).getD c dc).word) (if n - (k + 1) = p then (c : Int) else i) (by omega) hto hwc) rfl rfl rfl (by simp) (.inl fun _ => rfl) ?_ ?_ ?_ fun K hK x hI hno => ?_
     · simp [hG, List.getD_cons_zero, List.getD_cons_succ, -List.getD_eq_getElem?_getD, fol_zero, go_one, folC_zero, goS_nil]
     · simp [hG, List.range'_succ, List.range'_zero, List.getD_cons_zero, List.getD_cons_succ, -List.getD_eq_getElem?_getD]; intro h; omega
     · simp [hG, List.getD_cons_zero, List.getD_cons_succ, -List.getD_eq_getElem?_getD, fol_zero, go_one, folC_zero, goS_nil]
     simp [hG, List.getD_cons_zero, List.getD_cons_succ, -List.getD_eq_getElem?_getD, fol_zero, go_one, folC_zero, goS_nil]
     refine hK _ ?_
     clear K hK
     refine awpL_reg T_ok 1 fun K hK => ?_
     simp [hG, List.getD_cons_zero, List.getD_cons_succ, -List.getD_eq_getElem?_getD, fol_zero, go_one, folC_zero, goS_nil]
     refine hK _ ?_
     clear K hK
     refine awpL_nil ?_
     refine awpS_cond rfl (fun hb51 => ?_) (fun hb51 => ?_)
     ·
      try simp [-List.getD_eq_getElem?_getD] at hb51
      have hfs := (fol_stop (f := stepC d) (m := ()) (e := e) (past := p) (n := n) (k := k) (s := s.toNat) (w := w) (i := i) (c := c + 1) (by omega) (by rw [hMC]; exact hb51)).trans hMC
      refine awpS_seq ?_
      refine awpS_reg T_ok fun K hK => ?_
      simp [hG, List.getD_cons_zero, List.getD_cons_succ, -List.getD_eq_getElem?_getD, fol_zero, go_one, folC_zero, goS_nil]
      refine hK _ ?_
      clear K hK
      refine awpS_ret ?_
      refine blockQ_ret (thenQ_ret ?_)
      refine thenQ_ret (thenQ_ret ?_)
      refine blockQ_ret (thenQ_ret ?_)
      refine RetF_of (()) (id) (fun _ => false) (fun _ => false) trivial ?_ ?_ (by rfl) (by simp) (fun k _ => ⟨rfl, rfl⟩)
      · rw [hfs]; simp [hG, hb51, List.getD_cons_zero, List.getD_cons_succ, -List.getD_eq_getElem?_getD]
      · rw [hfs]; simp [hG, hb51, List.getD_cons_zero, List.getD_cons_succ, -List.getD_eq_getElem?_getD]
     ·
      try simp [-List.getD_eq_getElem?_getD] at hb51
      refine awpS_skip ?_
      refine awpS_nil ?_
      refine blockQ_norm (thenQ_norm ?_)
      refine awpS_reg T_ok fun K hK => ?_
      simp [hG, List.getD_cons_zero, List.getD_cons_succ, -List.getD_eq_getElem?_getD, fol_zero, go_one, folC_zero, goS_nil]
      refine ⟨Cond.mk (by omega), hK _ ?_⟩
      clear K hK
      refine awpS_nil ?_
      refine round_end (c + 1) (⟨by omega, by rw [hMC]; simpa using hb51⟩) (by omega) ?_
      refine wk_of (id) (fun _ => false) (fun _ => false) ?_ ?_ rfl (by simp) (fun k hk => by first | exact ⟨rfl, rfl⟩ | (revert k; decide) | (obtain rfl : k = 0 := (by omega); exact ⟨rfl, rfl⟩) | (have hk2 : k = 0 ∨ k = 1 := (by omega); rcases hk2 with rfl | rfl <;> exact ⟨rfl, rfl⟩))
      · simp [hG, List.getD_cons_zero, List.getD_cons_succ, -List.getD_eq_getElem?_getD, fol_zero, go_one, folC_zero, goS_nil]
      · simp [hG, hb51, List.getD_cons_zero, List.getD_cons_succ, -List.getD_eq_getElem?_getD]
    ·
     try simp [-List.getD_eq_getElem?_getD] at hb38
     have how : (if n - (k + 1) = p then (c : Int) else i) = i := if_neg (by omega)
     refine awpS_skip ?_
     refine awpS_seq ?_
     refine awpS_regL ?_
     refine awpL_reg T_ok 10 fun K hK => ?_
     simp [hG, List.getD_cons_zero, List.getD_cons_succ, -List.getD_eq_getElem?_getD, fol_zero, go_one, folC_zero, goS_nil]
     refine ⟨Cond.mk (by omega), hK _ ?_⟩
     clear K hK
     refine awpL_fc cal57 [0, 1, 2, 3] (fun _ => false) (ih k (by omega) ((e.rows.getD s.toNat []).getD c dc).to (dn + 1) (w ++ ((e.rows.getD s.toNat []).getD c dc).word) (if n - (k + 1) = p then (c : Int) else i) (by omega) hto hwc) rfl rfl rfl (by simp) (.inl fun _ => rfl) ?_ ?_ ?_ fun K hK x hI hno => ?_
     · simp [hG, List.getD_cons_zero, List.getD_cons_succ, -List.getD_eq_getElem?_getD, fol_zero, go_one, folC_zero, goS_nil]
     · simp [hG, List.range'_succ, List.range'_zero, List.getD_cons_zero, List.getD_cons_succ, -List.getD_eq_getElem?_getD]; intro h; omega
     · simp [hG, List.getD_cons_zero, List.getD_cons_succ, -List.getD_eq_getElem?_getD, fol_zero, go_one, folC_zero, goS_nil]
     simp [hG, List.getD_cons_zero, List.getD_cons_succ, -List.getD_eq_getElem?_getD, fol_zero, go_one, folC_zero, goS_nil]
     refine hK _ ?_
     clear K hK
     refine awpL_reg T_ok 1 fun K hK => ?_
     simp [hG, List.getD_cons_zero, List.getD_cons_succ, -List.getD_eq_getElem?_getD, fol_zero, go_one, folC_zero, goS_nil]
     refine hK _ ?_
     clear K hK
     refine awpL_nil ?_
     refine awpS_cond rfl (fun hb51 => ?_) (fun hb51 => ?_)
     ·
      try simp [-List.getD_eq_getElem?_getD] at hb51
      have hfs := (fol_stop (f := stepC d) (m := ()) (e := e) (past := p) (n := n) (k := k) (s := s.toNat) (w := w) (i := i) (c := c + 1) (by omega) (by rw [hMC]; exact hb51)).trans hMC
      refine awpS_seq ?_
      refine awpS_reg T_ok fun K hK => ?_
      simp [hG, List.getD_cons_zero, List.getD_cons_succ, -List.getD_eq_getElem?_getD, fol_zero, go_one, folC_zero, goS_nil]
      refine hK _ ?_
      clear K hK
      refine awpS_ret ?_
      refine blockQ_ret (thenQ_ret ?_)
      refine thenQ_ret (thenQ_ret ?_)
      refine blockQ_ret (thenQ_ret ?_)
      refine RetF_of (()) (id) (fun _ => false) (fun _ => false) trivial ?_ ?_ (by rfl) (by simp) (fun k _ => ⟨rfl, rfl⟩)
      · rw [hfs]; simp [hG, hb51, List.getD_cons_zero, List.getD_cons_succ, -List.getD_eq_getElem?_getD]
      · rw [hfs]; simp [hG, hb51, List.getD_cons_zero, List.getD_cons_succ, -List.getD_eq_getElem?_getD]
     ·
      try simp [-List.getD_eq_getElem?_getD] at hb51
      refine awpS_skip ?_
      refine awpS_nil ?_
      refine blockQ_norm (thenQ_norm ?_)
      refine awpS_reg T_ok fun K hK => ?_
      simp [hG, List.getD_cons_zero, List.getD_cons_succ, -List.getD_eq_getElem?_getD, fol_zero, go_one, folC_zero, goS_nil]
      refine ⟨Cond.mk (by omega), hK _ ?_⟩
      clear K hK
      refine awpS_nil ?_
      refine round_end (c + 1) (⟨by omega, by rw [hMC]; simpa using hb51⟩) (by omega) ?_
      refine wk_of (id) (fun _ => false) (fun _ => false) ?_ ?_ rfl (by simp) (fun k hk => by first | exact ⟨rfl, rfl⟩ | (revert k; decide) | (obtain rfl : k = 0 := (by omega); exact ⟨rfl, rfl⟩) | (have hk2 : k = 0 ∨ k = 1 := (by omega); rcases hk2 with rfl | rfl <;> exact ⟨rfl, rfl⟩))
      · simp [hG, List.getD_cons_zero, List.getD_cons_succ, -List.getD_eq_getElem?_getD, fol_zero, go_one, folC_zero, goS_nil]
      · simp [hG, hb51, List.getD_cons_zero, List.getD_cons_succ, -List.getD_eq_getElem?_getD]
   ·
    try simp [-List.getD_eq_getElem?_getD] at hb31
    obtain rfl : c = (e.rows.getD s.toNat []).length := (by omega)
    have hfe : (goS (stepC d) () (follow e p n (k + 1) s.toNat w i)) = (goS (stepC d) () (folC e p n k s.toNat w i (e.rows.getD s.toNat []).length)) := (by rw [fol_full])
    refine awpS_exit ?_
    refine thenQ_exit (thenQ_exit ?_)
    refine blockQ_exit (thenQ_norm ?_)
    refine awpS_seq ?_
    refine awpS_reg T_ok fun K hK => ?_
    simp [hG, List.getD_cons_zero, List.getD_cons_succ, -List.getD_eq_getElem?_getD, fol_zero, go_one, folC_zero, goS_nil]
    refine hK _ ?_
    clear K hK
    refine awpS_ret ?_
    refine RetF_of (()) (id) (fun _ => false) (fun _ => false) trivial ?_ ?_ (by rfl) (by simp) (fun k _ => ⟨rfl, rfl⟩)
    · rw [hfe]; simp [hG, hc, List.getD_cons_zero, List.getD_cons_succ, -List.getD_eq_getElem?_getD]
    · rw [hfe]; simp [hG, hc, List.getD_cons_zero, List.getD_cons_succ, -List.getD_eq_getElem?_getD]
theorem folC_all {l : Nat} {rec : Loop} {vs : Array Value} (hok : RecOK rec [2, 4, 5] vs #[54, 55] (rngA Try.f29.body 0) (rngB Try.f29.body 0) 69) {d : Dec} (hl : d.ents.length ≤ 65536) (ha : Asc d.ents) {e : Enc} (hv : checkE e = 0) {p n : Nat} (hn : n ≤ 16) (k : Nat) : FolC l rec vs d e p n k := Nat.strongRecOn k fun k ih s dn w i hdn hs hw => followC_c l rec vs hok d hl ha e hv p n hn k ih s dn w i hdn hs hw

set_option maxRecDepth 100000 in
theorem pathsCv_c (l : Nat) (rec : Loop) (vs : Array Value) (hok : RecOK rec [2, 4, 5] vs #[54, 55] (rngA Try.f29.body 0) (rngB Try.f29.body 0) 69) (d : Dec) (hl : d.ents.length ≤ 65536) (ha : Asc d.ents) (e : Enc) (hv : checkE e = 0) (p f : Nat) (hn : p + 1 + f ≤ 16) : FC1 Try.prog 56 [.yld l vs 3 (fun j => [.vptr 6 (decF d) 0, .ptr (1, 0) 0 0, .ptr (2, 0) 0 0].getD j .any), .vptr 1 (fun _ => .int .i64 (p : Nat)) 0, .vptr 1 (fun _ => .int .i64 (f : Nat)) 0, .vptr 4 (encF e) 0] [(0, .one (.ob (lpP l rec (none)))), (1, .one (.arr 1 1 (fun _ _ => .bool false))), (2, .one (.arr 1 1 (fun _ _ => .int .i64 0)))] 3 (.tup 0 (fun _ => .any)) [(0, .one (.ob (lpP l rec (stopC (goS (stepC d) () (pathsL e p f)).2)))), (1, .one (.arr 1 1 (fun _ _ => .bool false))), (2, .one (.arr 1 1 (fun _ _ => .int .i64 0)))] 3 := by
 have h64 := rows_len hv
 refine FC_introS T_ok Try.func56 rfl (by simp [Try.ntmps56]) fun G hG hR => ?_
 simp only [Try.ntmps56, Try.results56] at hG ⊢
 simp only [argEnv, Nat.zero_add, Nat.reduceAdd]
 refine awpS_seq ?_
 refine awpS_reg T_ok fun K hK => ?_
 simp [hG, List.getD_cons_zero, List.getD_cons_succ, -List.getD_eq_getElem?_getD, goS_nil, pathC_zero]
 refine ⟨Cond.mk (by exact trivial), hK _ ?_⟩
 clear K hK
 refine awpS_seq ?_
 refine awpS_reg T_ok fun K hK => ?_
 simp [hG, List.getD_cons_zero, List.getD_cons_succ, -List.getD_eq_getElem?_getD, goS_nil, pathC_zero]
 refine ⟨Cond.mk (by omega), hK _ ?_⟩
 clear K hK
 refine awpS_seq ?_
 refine awpS_reg T_ok fun K hK => ?_
 simp [hG, List.getD_cons_zero, List.getD_cons_succ, -List.getD_eq_getElem?_getD, goS_nil, pathC_zero]
 refine hK _ ?_
 clear K hK
 refine awpS_seq ?_
 refine awpS_reg T_ok fun K hK => ?_
 simp [hG, List.getD_cons_zero, List.getD_cons_succ, -List.getD_eq_getElem?_getD, goS_nil, pathC_zero]
 refine hK _ ?_
 clear K hK
 refine awpS_seq ?_
 refine awpS_wk (st2 := ⟨[(1, .vptr 1 (fun _ => .int .i64 (p : Nat)) 0), (2, .vptr 1 (fun _ => .int .i64 (f : Nat)) 0), (3, .vptr 4 (encF e) 0), (6, .ptr (3, 0) 0 0)], [(0, .one (.ob (lpP l rec (none)))), (1, .one (.arr 1 1 (fun _ _ => .bool false))), (2, .one (.arr 1 1 (fun _ _ => .int .i64 0))), (3, .one (.arr 1 1 (fun _ _ => .fn 57 5 (fun j => [.vptr 1 (fun _ => .int .i64 (p + 1 + f : Nat)) 0, .vptr 1 (fun _ => .yld l vs 3 (fun j => [.vptr 6 (decF d) 0, .ptr (1, 0) 0 0, .ptr (2, 0) 0 0].getD j .any)) 0, .vptr 4 (encF e) 0, .vptr 1 (fun _ => .int .i64 (p : Nat)) 0, .ptr (3, 0) 0 0].getD j .any))))], 4⟩) ?_ ?_
 ·
  refine wk_of (fun k => if k = 3 then 5 else k) (fun k => k == 3 || k == 4) (fun _ => false) ?_ ?_ rfl (by simp) (fun k hk => by first | exact ⟨rfl, rfl⟩ | (revert k; decide) | (obtain rfl : k = 0 := (by omega); exact ⟨rfl, rfl⟩) | (have hk2 : k = 0 ∨ k = 1 := (by omega); rcases hk2 with rfl | rfl <;> exact ⟨rfl, rfl⟩))
  · simp [hG, List.getD_cons_zero, List.getD_cons_succ, -List.getD_eq_getElem?_getD, goS_nil, pathC_zero]
  · simp [hG, List.getD_cons_zero, List.getD_cons_succ, -List.getD_eq_getElem?_getD, goS_nil, pathC_zero]
 refine awpS_reg T_ok fun K hK => ?_
 simp [hG, List.getD_cons_zero, List.getD_cons_succ, -List.getD_eq_getElem?_getD, goS_nil, pathC_zero]
 refine hK _ ?_
 clear K hK
 refine awpS_block ?_
 refine awpS_loop (α := Nat) (fun s => ⟨[(3, .vptr 4 (encF e) 0), (6, .ptr (3, 0) 0 0), (15, .int .i64 e.rows.length), (16, .int .i64 (s : Nat))], [(0, .one (.ob (lpP l rec (none)))), (1, .one (.arr 1 1 (fun _ _ => .bool false))), (2, .one (.arr 1 1 (fun _ _ => .int .i64 0))), (3, .one (.arr 1 1 (fun _ _ => .fn 57 5 (fun j => [.vptr 1 (fun _ => .int .i64 (p + 1 + f : Nat)) 0, .vptr 1 (fun _ => .yld l vs 3 (fun j => [.vptr 6 (decF d) 0, .ptr (1, 0) 0 0, .ptr (2, 0) 0 0].getD j .any)) 0, .vptr 4 (encF e) 0, .vptr 1 (fun _ => .int .i64 (p : Nat)) 0, .ptr (3, 0) 0 0].getD j .any))))], 4⟩) (fun s => s ≤ e.rows.length ∧ (goS (stepC d) () (pathC e p f s)).2 = false) (fun s => e.rows.length - s) (0) (⟨Nat.zero_le _, rfl⟩) ?_ ?_
 ·
  refine wk_of (id) (fun _ => false) (fun _ => false) ?_ ?_ rfl (by simp) (fun k hk => by first | exact ⟨rfl, rfl⟩ | (revert k; decide) | (obtain rfl : k = 0 := (by omega); exact ⟨rfl, rfl⟩) | (have hk2 : k = 0 ∨ k = 1 := (by omega); rcases hk2 with rfl | rfl <;> exact ⟨rfl, rfl⟩))
  · simp [hG, List.getD_cons_zero, List.getD_cons_succ, -List.getD_eq_getElem?_getD, goS_nil, pathC_zero]
  · simp [hG, List.getD_cons_zero, List.getD_cons_succ, -List.getD_eq_getElem?_getD, goS_nil, pathC_zero]
 ·
  rintro s ⟨hsi, hc⟩
  refine awpS_seq ?_
  refine awpS_reg T_ok fun K hK => ?_
  simp [hG, List.getD_cons_zero, List.getD_cons_succ, -List.getD_eq_getElem?_getD, goS_nil, pathC_zero]
  refine hK _ ?_
  clear K hK
  refine awpS_seq ?_
  refine awpS_cond rfl (fun hb17 => ?_) (fun hb17 => ?_)
  ·
   try simp [-List.getD_eq_getElem?_getD] at hb17
   have hsl : s < e.rows.length := (by omega)
   have hMC : (goS (stepC d) () (pathC e p f (s + 1))) = (goS (stepC d) () (follow e p (p + 1 + f) (p + 1 + f) s [] 0)) := (by rw [pathC_succ, go_more hc])
   refine awpS_skip ?_
   refine awpS_seq ?_
   refine awpS_block ?_
   refine awpS_seq ?_
   refine awpS_reg T_ok fun K hK => ?_
   simp [hG, List.getD_cons_zero, List.getD_cons_succ, -List.getD_eq_getElem?_getD, goS_nil, pathC_zero]
   refine hK _ ?_
   clear K hK
   refine awpS_seq ?_
   refine awpS_regL ?_
   refine awpL_reg T_ok 2 fun K hK => ?_
   simp [hG, List.getD_cons_zero, List.getD_cons_succ, -List.getD_eq_getElem?_getD, goS_nil, pathC_zero]
   refine hK _ ?_
   clear K hK
   refine awpL_fc cal57 [0, 1, 2, 3] (fun _ => false) (folC_all (l := l) (rec := rec) (vs := vs) (d := d) (e := e) (p := p) (n := p + 1 + f) hok hl ha hv hn (p + 1 + f) (s : Nat) 0 [] 0 (by omega) (by omega) (by simp)) rfl rfl rfl (by simp) (.inl fun _ => rfl) ?_ ?_ ?_ fun K hK x hI hno => ?_
   · simp [hG, List.getD_cons_zero, List.getD_cons_succ, -List.getD_eq_getElem?_getD, goS_nil, pathC_zero]
   · simp [hG, List.range'_succ, List.range'_zero, List.getD_cons_zero, List.getD_cons_succ, -List.getD_eq_getElem?_getD]
   · simp [hG, List.getD_cons_zero, List.getD_cons_succ, -List.getD_eq_getElem?_getD, goS_nil, pathC_zero]
   simp [hG, List.getD_cons_zero, List.getD_cons_succ, -List.getD_eq_getElem?_getD, goS_nil, pathC_zero]
   refine hK _ ?_
   clear K hK
   refine awpL_reg T_ok 1 fun K hK => ?_
   simp [hG, List.getD_cons_zero, List.getD_cons_succ, -List.getD_eq_getElem?_getD, goS_nil, pathC_zero]
   refine hK _ ?_
   clear K hK
   refine awpL_nil ?_
   refine awpS_cond rfl (fun hb22 => ?_) (fun hb22 => ?_)
   ·
    try simp [-List.getD_eq_getElem?_getD] at hb22
    have hfs := (path_stop (f := stepC d) (m := ()) (e := e) (p := p) (g := f) (c := s + 1) (by omega) (by rw [hMC]; exact hb22)).trans hMC
    refine awpS_ret ?_
    refine blockQ_ret (thenQ_ret ?_)
    refine thenQ_ret (thenQ_ret ?_)
    refine blockQ_ret (thenQ_ret ?_)
    refine RetF_of (()) (id) (fun _ => false) (fun _ => false) trivial ?_ ?_ (by rfl) (by simp) (fun k _ => ⟨rfl, rfl⟩)
    · simp [hG, List.getD_cons_zero, List.getD_cons_succ, -List.getD_eq_getElem?_getD, goS_nil, pathC_zero]
    · rw [hfs]; simp [hG, hb22, List.getD_cons_zero, List.getD_cons_succ, -List.getD_eq_getElem?_getD]
   ·
    try simp [-List.getD_eq_getElem?_getD] at hb22
    refine awpS_skip ?_
    refine awpS_nil ?_
    refine blockQ_norm (thenQ_norm ?_)
    refine awpS_reg T_ok fun K hK => ?_
    simp [hG, List.getD_cons_zero, List.getD_cons_succ, -List.getD_eq_getElem?_getD, goS_nil, pathC_zero]
    refine ⟨Cond.mk (by omega), hK _ ?_⟩
    clear K hK
    refine awpS_nil ?_
    refine round_end (s + 1) (⟨by omega, by rw [hMC]; simpa using hb22⟩) (by omega) ?_
    refine wk_of (id) (fun _ => false) (fun _ => false) ?_ ?_ rfl (by simp) (fun k hk => by first | exact ⟨rfl, rfl⟩ | (revert k; decide) | (obtain rfl : k = 0 := (by omega); exact ⟨rfl, rfl⟩) | (have hk2 : k = 0 ∨ k = 1 := (by omega); rcases hk2 with rfl | rfl <;> exact ⟨rfl, rfl⟩))
    · simp [hG, List.getD_cons_zero, List.getD_cons_succ, -List.getD_eq_getElem?_getD, goS_nil, pathC_zero]
    · simp [hG, hb22, List.getD_cons_zero, List.getD_cons_succ, -List.getD_eq_getElem?_getD]
  ·
   try simp [-List.getD_eq_getElem?_getD] at hb17
   obtain rfl : s = e.rows.length := (by omega)
   have hfe : (goS (stepC d) () (pathsL e p f)) = (goS (stepC d) () (pathC e p f e.rows.length)) := (by rw [path_full])
   refine awpS_exit ?_
   refine thenQ_exit (thenQ_exit ?_)
   refine blockQ_exit (thenQ_norm ?_)
   refine awpS_nil ?_
   refine RetF_of (()) (id) (fun _ => false) (fun _ => false) trivial ?_ ?_ (by rfl) (by simp) (fun k _ => ⟨rfl, rfl⟩)
   · simp [hG, List.getD_cons_zero, List.getD_cons_succ, -List.getD_eq_getElem?_getD, goS_nil, pathC_zero]
   · rw [hfe]; simp [hG, hc, List.getD_cons_zero, List.getD_cons_succ, -List.getD_eq_getElem?_getD]

set_option maxRecDepth 100000 in
theorem covers_c (d : Dec) (e : Enc) : PC Try.prog 29 [.agg 6 (decF d), .agg 4 (encF e)] (.tup 2 (fun j => [.bool (coversB d e), .int .i64 (coversN d e)].getD j .any)) := by
 refine PC_introS T_ok Try.func29 rfl (by simp [Try.ntmps29]) fun G hG hR => ?_
 simp only [Try.ntmps29, Try.results29] at hG ⊢
 simp only [argEnv, Nat.zero_add, Nat.reduceAdd]
 refine awpS_seq ?_
 refine awpS_reg T_ok fun K hK => ?_
 simp [hG, List.getD_cons_zero, List.getD_cons_succ, -List.getD_eq_getElem?_getD, pureOp]
 refine ⟨Cond.mk (by simp [-List.getD_eq_getElem?_getD]), hK _ ?_⟩
 clear K hK
 refine awpS_seq ?_
 refine awpS_block ?_
 refine awpS_seq ?_
 refine awpS_regL ?_
 refine awpL_reg T_ok 1 fun K hK => ?_
 simp [hG, List.getD_cons_zero, List.getD_cons_succ, -List.getD_eq_getElem?_getD, pureOp]
 refine hK _ ?_
 clear K hK
 refine awpL_call cal22 rfl rfl (fun _ => rfl) (fun hg => checkD_c d) (fun hg => ?_) (fun hg => ?_) fun K hK => ?_
 · simp [hG, List.getD_cons_zero, List.getD_cons_succ, -List.getD_eq_getElem?_getD, pureOp]
 · simp [hG, List.getD_cons_zero, List.getD_cons_succ, -List.getD_eq_getElem?_getD, pureOp]
 simp [hG, List.getD_cons_zero, List.getD_cons_succ, -List.getD_eq_getElem?_getD, pureOp]
 refine hK _ ?_
 clear K hK
 refine awpL_reg T_ok 3 fun K hK => ?_
 simp [hG, List.getD_cons_zero, List.getD_cons_succ, -List.getD_eq_getElem?_getD, pureOp]
 refine hK _ ?_
 clear K hK
 refine awpL_call cal37 rfl rfl (fun _ => rfl) (fun hg => check_c e) (fun hg => ?_) (fun hg => ?_) fun K hK => ?_
 · first | (simp [hG, List.getD_cons_zero, List.getD_cons_succ, -List.getD_eq_getElem?_getD, pureOp]; done) | (simp [-List.getD_eq_getElem?_getD] at hg; done) | (simp [-List.getD_eq_getElem?_getD] at hg; simp [hG, List.getD_cons_zero, List.getD_cons_succ, -List.getD_eq_getElem?_getD, pureOp]; first | omega | exact hg | (simp_all [-List.getD_eq_getElem?_getD]; done) | (simp_all [-List.getD_eq_getElem?_getD]; first | exact ⟨rfl, rfl⟩ | exact rfl))
 · first | (simp [hG, List.getD_cons_zero, List.getD_cons_succ, -List.getD_eq_getElem?_getD, pureOp]; done) | (simp [-List.getD_eq_getElem?_getD] at hg; done) | (simp [-List.getD_eq_getElem?_getD] at hg; simp [hG, List.getD_cons_zero, List.getD_cons_succ, -List.getD_eq_getElem?_getD, pureOp]; first | omega | exact hg | (simp_all [-List.getD_eq_getElem?_getD]; done) | (simp_all [-List.getD_eq_getElem?_getD]; first | exact ⟨rfl, rfl⟩ | exact rfl))
 simp [hG, List.getD_cons_zero, List.getD_cons_succ, -List.getD_eq_getElem?_getD, pureOp]
 refine hK _ ?_
 clear K hK
 refine awpL_reg T_ok 3 fun K hK => ?_
 simp [hG, List.getD_cons_zero, List.getD_cons_succ, -List.getD_eq_getElem?_getD, pureOp]
 refine hK _ ?_
 clear K hK
 refine awpL_nil ?_
 refine awpS_cond rfl (fun hb10 => ?_) (fun hb10 => ?_)
 ·
  try simp [-List.getD_eq_getElem?_getD] at hb10
  refine awpS_seq ?_
  refine awpS_reg T_ok fun K hK => ?_
  simp [hG, List.getD_cons_zero, List.getD_cons_succ, -List.getD_eq_getElem?_getD, pureOp]
  refine hK _ ?_
  clear K hK
  refine awpS_ret ?_
  refine blockQ_ret (thenQ_ret ?_)
  refine RetOK_of ?_
  simp [hG, List.getD_cons_zero, List.getD_cons_succ, -List.getD_eq_getElem?_getD, pureOp]
  have hz := cov_one hb10; rw [covB_err hz (by decide), hz]; exact ⟨rfl, rfl⟩
 ·
  try simp [-List.getD_eq_getElem?_getD] at hb10
  have hvd : checkD d = 0 := hb10.1
  have hv : checkE e = 0 := hb10.2
  have hs2 := not_badS (checkD_valid hvd).1.sides
  have hva := checkD_asc hvd
  have hvl := (checkD_valid hvd).2.1
  obtain ⟨p, hp⟩ := Int.eq_ofNat_of_zero_le hs2.1
  obtain ⟨f, hf⟩ := Int.eq_ofNat_of_zero_le hs2.2.1
  have hpf : (p + 1 + f) ≤ 16 := (by omega)
  refine awpS_seq ?_
  refine awpS_reg T_ok fun K hK => ?_
  simp [hG, List.getD_cons_zero, List.getD_cons_succ, -List.getD_eq_getElem?_getD, pureOp]
  refine hK _ ?_
  clear K hK
  refine awpS_cond rfl (fun hb19 => ?_) (fun hb19 => ?_)
  ·
   try simp [-List.getD_eq_getElem?_getD] at hb19
   refine awpS_seq ?_
   refine awpS_reg T_ok fun K hK => ?_
   simp [hG, List.getD_cons_zero, List.getD_cons_succ, -List.getD_eq_getElem?_getD, pureOp]
   refine hK _ ?_
   clear K hK
   refine awpS_ret ?_
   refine blockQ_ret (thenQ_ret ?_)
   refine RetOK_of ?_
   simp [hG, List.getD_cons_zero, List.getD_cons_succ, -List.getD_eq_getElem?_getD, pureOp]
   have hz := cov_mis hb10 (by omega); rw [covB_err hz (by decide), hz]; exact ⟨rfl, rfl⟩
  ·
   try simp [-List.getD_eq_getElem?_getD] at hb19
   refine awpS_seq ?_
   refine awpS_regL ?_
   refine awpL_reg T_ok 7 fun K hK => ?_
   simp [hG, List.getD_cons_zero, List.getD_cons_succ, -List.getD_eq_getElem?_getD, pureOp]
   refine ⟨Cond.mk (by omega), hK _ ?_⟩
   clear K hK
   refine awpL_call cal38 rfl rfl (fun _ => rfl) (fun hg => many_c e (p + 1 + f) hv hpf) (fun hg => ?_) (fun hg => ?_) fun K hK => ?_
   · simp [hG, List.getD_cons_zero, List.getD_cons_succ, -List.getD_eq_getElem?_getD, pureOp]
   · simp [hG, List.getD_cons_zero, List.getD_cons_succ, -List.getD_eq_getElem?_getD]; omega
   simp [hG, List.getD_cons_zero, List.getD_cons_succ, -List.getD_eq_getElem?_getD, pureOp]
   refine hK _ ?_
   clear K hK
   refine awpL_reg T_ok 1 fun K hK => ?_
   simp [hG, List.getD_cons_zero, List.getD_cons_succ, -List.getD_eq_getElem?_getD, pureOp]
   refine hK _ ?_
   clear K hK
   refine awpL_nil ?_
   refine awpS_cond rfl (fun hb39 => ?_) (fun hb39 => ?_)
   ·
    try simp [-List.getD_eq_getElem?_getD] at hb39
    refine awpS_seq ?_
    refine awpS_reg T_ok fun K hK => ?_
    simp [hG, List.getD_cons_zero, List.getD_cons_succ, -List.getD_eq_getElem?_getD, pureOp]
    refine hK _ ?_
    clear K hK
    refine awpS_ret ?_
    refine blockQ_ret (thenQ_ret ?_)
    refine RetOK_of ?_
    simp [hG, List.getD_cons_zero, List.getD_cons_succ, -List.getD_eq_getElem?_getD, pureOp]
    have hz := cov_many (d := d) hb10 hb19 (by rw [hp, hf]; simpa using hb39); rw [covB_err hz (by decide), hz]; exact ⟨rfl, rfl⟩
   ·
    try simp [-List.getD_eq_getElem?_getD] at hb39
    have hmn : manyB e (p + 1 + f) = false := (by simpa using hb39)
    have hgc := goC_all (d := d) (pathsL e p f)
    refine awpS_skip ?_
    refine awpS_nil ?_
    refine blockQ_norm (thenQ_norm ?_)
    refine awpS_seq ?_
    refine awpS_seq ?_
    refine awpS_regL ?_
    refine awpL_reg T_ok 5 fun K hK => ?_
    simp [hG, List.getD_cons_zero, List.getD_cons_succ, -List.getD_eq_getElem?_getD, pureOp]
    refine hK _ ?_
    clear K hK
    refine awpL_call cal39 rfl rfl (fun _ => rfl) (fun hg => paths0_c e p f) (fun hg => ?_) (fun hg => ?_) fun K hK => ?_
    · simp [hG, List.getD_cons_zero, List.getD_cons_succ, -List.getD_eq_getElem?_getD, pureOp]
    · simp [hG, List.getD_cons_zero, List.getD_cons_succ, -List.getD_eq_getElem?_getD]; exact ⟨hp, hf⟩
    simp [hG, List.getD_cons_zero, List.getD_cons_succ, -List.getD_eq_getElem?_getD, pureOp]
    refine hK _ ?_
    clear K hK
    refine awpL_nil ?_
    refine awpS_block ?_
    refine awpS_wk (st2 := ⟨[(2, .vptr 6 (decF d) 0), (4, .ptr (0, 0) 0 0), (5, .ptr (1, 0) 0 0), (53, .fn 56 3 (fun j => [.vptr 1 (fun _ => .int .i64 (p : Nat)) 0, .vptr 1 (fun _ => .int .i64 (f : Nat)) 0, .vptr 4 (encF e) 0].getD j .any))], [(0, .one (.arr 1 1 (fun _ _ => .bool false))), (1, .one (.arr 1 1 (fun _ _ => .int .i64 0)))], 2⟩) ?_ ?_
    ·
     refine wk_of (fun k => k + 2) (fun k => k == 0) (fun _ => false) ?_ ?_ rfl (Nat.zero_le _) (fun k hk => absurd hk (Nat.not_lt_zero _))
     · simp [hG, List.getD_cons_zero, List.getD_cons_succ, -List.getD_eq_getElem?_getD, pureOp]
     · simp [hG, List.getD_cons_zero, List.getD_cons_succ, -List.getD_eq_getElem?_getD, pureOp]
    refine awpS_rangeJ hR [2, 4, 5] [0, 1] (fun _ => false) cal56 rfl trivial (fun l rec vs hok => by rw [hG] at hok; exact FCY_of (pathsCv_c l rec vs hok d hvl hva e hv p f hpf)) (by simp) (by simp) (.inl fun _ => rfl) (fun l rec vs => ?_) (fun l rec => ?_) fun K hK hKr hKe x hI hno => ?_
    · simp [hG, List.range'_succ, List.range'_zero, List.getD_cons_zero, List.getD_cons_succ, -List.getD_eq_getElem?_getD]
    · simp [hG, List.getD_cons_zero, List.getD_cons_succ, -List.getD_eq_getElem?_getD, pureOp]
    by_cases hJ : (goS (stepC d) () (pathsL e p f)).2 = true
    ·
     simp [hG, List.getD_cons_zero, List.getD_cons_succ, -List.getD_eq_getElem?_getD, pureOp, hJ]
     refine hKr _ ?_
     clear K hK hKr hKe
     refine blockQ_ret (thenQ_ret ?_)
     refine RetOK_of ?_
     simp [hG, List.getD_cons_zero, List.getD_cons_succ, -List.getD_eq_getElem?_getD, pureOp, hJ]
     have hz := cov_ok (d := d) hb10 hb19 (by rw [hp, hf]; simpa using hmn); rw [covB_ok hz, hz, hp, hf, Int.toNat_natCast, Int.toNat_natCast]; rw [hgc] at hJ; simp only [Bool.not_eq_true, Bool.not_eq_eq_eq_not, Bool.not_true] at hJ; rw [hJ]; exact ⟨rfl, rfl⟩
    ·
     simp [hG, List.getD_cons_zero, List.getD_cons_succ, -List.getD_eq_getElem?_getD, pureOp, hJ]
     refine hK _ ?_
     clear K hK hKr hKe
     refine awpS_nil ?_
     refine blockQ_norm (thenQ_norm ?_)
     refine awpS_seq ?_
     refine awpS_reg T_ok fun K hK => ?_
     simp [hG, List.getD_cons_zero, List.getD_cons_succ, -List.getD_eq_getElem?_getD, pureOp]
     refine hK _ ?_
     clear K hK
     refine awpS_ret ?_
     refine RetOK_of ?_
     simp [hG, List.getD_cons_zero, List.getD_cons_succ, -List.getD_eq_getElem?_getD, pureOp]
     have hz := cov_ok (d := d) hb10 hb19 (by rw [hp, hf]; simpa using hmn); rw [covB_ok hz, hz, hp, hf, Int.toNat_natCast, Int.toNat_natCast]; have hJ2 : (pathsL e p f).all (covE d) = true := (by rw [hgc] at hJ; cases h9 : (pathsL e p f).all (covE d) with | true => rfl | false => rw [h9] at hJ; exact absurd rfl hJ); rw [hJ2]; exact ⟨rfl, rfl⟩

set_option maxRecDepth 100000 in
theorem searchW_c (e : Enc) (most : Int) : PC Try.prog 14 [.agg 4 (encF e), .int .i64 most] (.tup 2 (fun j => [.agg 6 (decF (searchX e most)), .int .i64 (searchN e most)].getD j .any)) := by
 refine PC_introS T_ok Try.func14 rfl (by simp [Try.ntmps14]) fun G hG hR => ?_
 simp only [Try.ntmps14, Try.results14] at hG ⊢
 simp only [argEnv, Nat.zero_add, Nat.reduceAdd]
 refine awpS_seq ?_
 refine awpS_reg T_ok fun K hK => ?_
 simp [hG, List.getD_cons_zero, List.getD_cons_succ, -List.getD_eq_getElem?_getD, pureOp]
 refine ⟨Cond.mk (by exact trivial), hK _ ?_⟩
 clear K hK
 refine awpS_seq ?_
 refine awpS_block ?_
 refine awpS_seq ?_
 refine awpS_regL ?_
 refine awpL_reg T_ok 1 fun K hK => ?_
 simp [hG, List.getD_cons_zero, List.getD_cons_succ, -List.getD_eq_getElem?_getD, pureOp]
 refine hK _ ?_
 clear K hK
 refine awpL_call cal37 rfl rfl (fun _ => rfl) (fun hg => check_c e) (fun hg => ?_) (fun hg => ?_) fun K hK => ?_
 · simp [hG, List.getD_cons_zero, List.getD_cons_succ, -List.getD_eq_getElem?_getD, pureOp]
 · simp [hG, List.getD_cons_zero, List.getD_cons_succ, -List.getD_eq_getElem?_getD, pureOp]
 simp [hG, List.getD_cons_zero, List.getD_cons_succ, -List.getD_eq_getElem?_getD, pureOp]
 refine hK _ ?_
 clear K hK
 refine awpL_reg T_ok 2 fun K hK => ?_
 simp [hG, List.getD_cons_zero, List.getD_cons_succ, -List.getD_eq_getElem?_getD, pureOp]
 refine hK _ ?_
 clear K hK
 refine awpL_nil ?_
 refine awpS_cond rfl (fun hb10 => ?_) (fun hb10 => ?_)
 ·
  try simp [-List.getD_eq_getElem?_getD] at hb10
  refine awpS_seq ?_
  refine awpS_reg T_ok fun K hK => ?_
  simp [hG, List.getD_cons_zero, List.getD_cons_succ, -List.getD_eq_getElem?_getD, pureOp]
  refine ⟨Cond.mk (by exact trivial), hK _ ?_⟩
  clear K hK
  refine awpS_ret ?_
  refine blockQ_ret (thenQ_ret ?_)
  refine RetOK_of ?_
  simp [hG, List.getD_cons_zero, List.getD_cons_succ, -List.getD_eq_getElem?_getD, pureOp]
  obtain ⟨e1, e2⟩ := srch_one (most := most) hb10; rw [e1, e2]; simp
 ·
  try simp [-List.getD_eq_getElem?_getD] at hb10
  have hv : checkE e = 0 := (by simpa using hb10)
  refine awpS_seq ?_
  refine awpS_reg T_ok fun K hK => ?_
  simp [hG, List.getD_cons_zero, List.getD_cons_succ, -List.getD_eq_getElem?_getD, pureOp]
  refine hK _ ?_
  clear K hK
  refine awpS_cond rfl (fun hb15 => ?_) (fun hb15 => ?_)
  ·
   try simp [-List.getD_eq_getElem?_getD] at hb15
   refine awpS_seq ?_
   refine awpS_reg T_ok fun K hK => ?_
   simp [hG, List.getD_cons_zero, List.getD_cons_succ, -List.getD_eq_getElem?_getD, pureOp]
   refine ⟨Cond.mk (by exact trivial), hK _ ?_⟩
   clear K hK
   refine awpS_ret ?_
   refine blockQ_ret (thenQ_ret ?_)
   refine RetOK_of ?_
   simp [hG, List.getD_cons_zero, List.getD_cons_succ, -List.getD_eq_getElem?_getD, pureOp]
   obtain ⟨e1, e2⟩ := srch_range hv hb15; rw [e1, e2]; simp
  ·
   try simp [-List.getD_eq_getElem?_getD] at hb15
   obtain ⟨M, rfl⟩ := Int.eq_ofNat_of_zero_le (a := most) (by omega)
   refine awpS_skip ?_
   refine awpS_nil ?_
   refine blockQ_norm (thenQ_norm ?_)
   refine awpS_seq ?_
   refine awpS_seq ?_
   refine awpS_reg T_ok fun K hK => ?_
   simp [hG, List.getD_cons_zero, List.getD_cons_succ, -List.getD_eq_getElem?_getD, pureOp]
   refine ⟨Cond.mk (by omega), hK _ ?_⟩
   clear K hK
   refine awpS_block ?_
   refine awpS_loop (α := Nat) (fun n => ⟨[(2, .ptr (0, 0) 0 0), (4, .ptr (1, 0) 0 0), (24, .int .i64 (M + 1 : Nat)), (25, .int .i64 (n : Nat))], [(0, .one (.arr 1 4 (fun _ => encF e))), (1, .one (.arr 1 6 (fun _ j => decF dd0 j)))], 2⟩) (fun n => n ≤ M + 1 ∧ NoW e n 0) (fun n => M + 1 - n) (0) (⟨Nat.zero_le _, NoW.zero⟩) ?_ ?_
   ·
    refine wk_of (id) (fun _ => false) (fun _ => false) ?_ ?_ rfl (Nat.zero_le _) (fun k hk => absurd hk (Nat.not_lt_zero _))
    · simp [hG, List.getD_cons_zero, List.getD_cons_succ, -List.getD_eq_getElem?_getD, pureOp]
    · simp [hG, List.getD_cons_zero, List.getD_cons_succ, -List.getD_eq_getElem?_getD, pureOp]
   ·
    rintro n ⟨hn, h1⟩
    refine awpS_seq ?_
    refine awpS_reg T_ok fun K hK => ?_
    simp [hG, List.getD_cons_zero, List.getD_cons_succ, -List.getD_eq_getElem?_getD, pureOp]
    refine hK _ ?_
    clear K hK
    refine awpS_seq ?_
    refine awpS_cond rfl (fun hb26 => ?_) (fun hb26 => ?_)
    ·
     try simp [-List.getD_eq_getElem?_getD] at hb26
     have hnM : n ≤ M := (by omega)
     refine awpS_skip ?_
     refine awpS_seq ?_
     refine awpS_block ?_
     refine awpS_seq ?_
     refine awpS_reg T_ok fun K hK => ?_
     simp [hG, List.getD_cons_zero, List.getD_cons_succ, -List.getD_eq_getElem?_getD, pureOp]
     refine hK _ ?_
     clear K hK
     refine awpS_seq ?_
     refine awpS_reg T_ok fun K hK => ?_
     simp [hG, List.getD_cons_zero, List.getD_cons_succ, -List.getD_eq_getElem?_getD, pureOp]
     refine ⟨Cond.mk (by omega), hK _ ?_⟩
     clear K hK
     refine awpS_block ?_
     refine awpS_loop (α := Nat) (fun f => ⟨[(2, .ptr (0, 0) 0 0), (4, .ptr (1, 0) 0 0), (6, .int .i64 (n : Nat)), (24, .int .i64 (M + 1 : Nat)), (25, .int .i64 (n : Nat)), (29, .int .i64 (n + 1 : Nat)), (30, .int .i64 (f : Nat))], [(0, .one (.arr 1 4 (fun _ => encF e))), (1, .one (.arr 1 6 (fun _ j => decF dd0 j)))], 2⟩) (fun f => f ≤ n + 1 ∧ NoW e n f) (fun f => n + 1 - f) (0) (⟨Nat.zero_le _, h1⟩) ?_ ?_
     ·
      refine wk_of (id) (fun _ => false) (fun _ => false) ?_ ?_ rfl (Nat.zero_le _) (fun k hk => absurd hk (Nat.not_lt_zero _))
      · simp [hG, List.getD_cons_zero, List.getD_cons_succ, -List.getD_eq_getElem?_getD, pureOp]
      · simp [hG, List.getD_cons_zero, List.getD_cons_succ, -List.getD_eq_getElem?_getD, pureOp]
     ·
      rintro f ⟨hf, h2⟩
      refine awpS_seq ?_
      refine awpS_reg T_ok fun K hK => ?_
      simp [hG, List.getD_cons_zero, List.getD_cons_succ, -List.getD_eq_getElem?_getD, pureOp]
      refine hK _ ?_
      clear K hK
      refine awpS_seq ?_
      refine awpS_cond rfl (fun hb31 => ?_) (fun hb31 => ?_)
      ·
       try simp [-List.getD_eq_getElem?_getD] at hb31
       have hfn : f ≤ n := (by omega)
       refine awpS_skip ?_
       refine awpS_seq ?_
       refine awpS_block ?_
       refine awpS_seq ?_
       refine awpS_reg T_ok fun K hK => ?_
       simp [hG, List.getD_cons_zero, List.getD_cons_succ, -List.getD_eq_getElem?_getD, pureOp]
       refine hK _ ?_
       clear K hK
       refine awpS_seq ?_
       refine awpS_regL ?_
       refine awpL_reg T_ok 5 fun K hK => ?_
       simp [hG, List.getD_cons_zero, List.getD_cons_succ, -List.getD_eq_getElem?_getD, pureOp]
       refine ⟨Cond.mk (by omega), hK _ ?_⟩
       clear K hK
       refine awpL_call cal13 rfl rfl (fun _ => rfl) (fun hg => buildW_c e ((n : Int) - f) f) (fun hg => ?_) (fun hg => ?_) fun K hK => ?_
       · simp [hG, List.getD_cons_zero, List.getD_cons_succ, -List.getD_eq_getElem?_getD, pureOp]
       · simp [hG, List.getD_cons_zero, List.getD_cons_succ, -List.getD_eq_getElem?_getD, pureOp]
       simp [hG, List.getD_cons_zero, List.getD_cons_succ, -List.getD_eq_getElem?_getD, pureOp]
       refine hK _ ?_
       clear K hK
       refine awpL_reg T_ok 6 fun K hK => ?_
       simp [hG, List.getD_cons_zero, List.getD_cons_succ, -List.getD_eq_getElem?_getD, pureOp]
       refine ⟨Cond.mk (by exact trivial), hK _ ?_⟩
       clear K hK
       refine awpL_nil ?_
       refine awpS_seq ?_
       refine awpS_reg T_ok fun K hK => ?_
       simp [hG, List.getD_cons_zero, List.getD_cons_succ, -List.getD_eq_getElem?_getD, pureOp]
       refine hK _ ?_
       clear K hK
       refine awpS_cond rfl (fun hb43 => ?_) (fun hb43 => ?_)
       ·
        try simp [-List.getD_eq_getElem?_getD] at hb43
        have hso := srch_hit h2 hnM hfn (by simpa using hb43)
        refine awpS_seq ?_
        refine awpS_reg T_ok fun K hK => ?_
        simp [hG, List.getD_cons_zero, List.getD_cons_succ, -List.getD_eq_getElem?_getD, pureOp]
        refine ⟨Cond.mk (by exact trivial), hK _ ?_⟩
        clear K hK
        refine awpS_ret ?_
        refine blockQ_ret (thenQ_ret ?_)
        refine thenQ_ret (thenQ_ret ?_)
        refine blockQ_ret (thenQ_ret ?_)
        refine blockQ_ret (thenQ_ret ?_)
        refine thenQ_ret (thenQ_ret ?_)
        refine blockQ_ret (thenQ_ret ?_)
        refine RetOK_of ?_
        simp [hG, List.getD_cons_zero, List.getD_cons_succ, -List.getD_eq_getElem?_getD, pureOp]
        obtain ⟨e1, e2⟩ := srch_at hv hb15 hso; rw [e1, e2]; exact ⟨⟨rfl, rfl, rfl, rfl, rfl, Clo.le _ Clo_ents⟩, rfl⟩
       ·
        try simp [-List.getD_eq_getElem?_getD] at hb43
        refine awpS_skip ?_
        refine awpS_nil ?_
        refine blockQ_norm (thenQ_norm ?_)
        refine awpS_reg T_ok fun K hK => ?_
        simp [hG, List.getD_cons_zero, List.getD_cons_succ, -List.getD_eq_getElem?_getD, pureOp]
        refine ⟨Cond.mk (by omega), hK _ ?_⟩
        clear K hK
        refine awpS_nil ?_
        refine round_end (f + 1) (⟨by omega, h2.next (by simpa using hb43)⟩) (by omega) ?_
        refine wk_of (id) (fun _ => false) (fun _ => false) ?_ ?_ rfl (Nat.zero_le _) (fun k hk => absurd hk (Nat.not_lt_zero _))
        · simp [hG, List.getD_cons_zero, List.getD_cons_succ, -List.getD_eq_getElem?_getD, pureOp]
        · simp [hG, List.getD_cons_zero, List.getD_cons_succ, -List.getD_eq_getElem?_getD, pureOp]
      ·
       try simp [-List.getD_eq_getElem?_getD] at hb31
       obtain rfl : f = n + 1 := (by omega)
       refine awpS_exit ?_
       refine thenQ_exit (thenQ_exit ?_)
       refine blockQ_exit (thenQ_norm ?_)
       refine awpS_nil ?_
       refine blockQ_norm (thenQ_norm ?_)
       refine awpS_reg T_ok fun K hK => ?_
       simp [hG, List.getD_cons_zero, List.getD_cons_succ, -List.getD_eq_getElem?_getD, pureOp]
       refine ⟨Cond.mk (by omega), hK _ ?_⟩
       clear K hK
       refine awpS_nil ?_
       refine round_end (n + 1) (⟨by omega, h2.up⟩) (by omega) ?_
       refine wk_of (id) (fun _ => false) (fun _ => false) ?_ ?_ rfl (Nat.zero_le _) (fun k hk => absurd hk (Nat.not_lt_zero _))
       · simp [hG, List.getD_cons_zero, List.getD_cons_succ, -List.getD_eq_getElem?_getD, pureOp]
       · simp [hG, List.getD_cons_zero, List.getD_cons_succ, -List.getD_eq_getElem?_getD, pureOp]
    ·
     try simp [-List.getD_eq_getElem?_getD] at hb26
     obtain rfl : n = M + 1 := (by omega)
     have hso := srch_none h1
     refine awpS_exit ?_
     refine thenQ_exit (thenQ_exit ?_)
     refine blockQ_exit (thenQ_norm ?_)
     refine awpS_seq ?_
     refine awpS_reg T_ok fun K hK => ?_
     simp [hG, List.getD_cons_zero, List.getD_cons_succ, -List.getD_eq_getElem?_getD, pureOp]
     refine ⟨Cond.mk (by exact trivial), hK _ ?_⟩
     clear K hK
     refine awpS_ret ?_
     refine RetOK_of ?_
     simp [hG, List.getD_cons_zero, List.getD_cons_succ, -List.getD_eq_getElem?_getD, pureOp]
     obtain ⟨e1, e2⟩ := srch_nil hv hb15 hso; rw [e1, e2]; simp

end Go.Proofs.Ytmdnpbilnelogaa
