/-
 Walk: the law ReductionRelabelled.
-/
import Derived.Test.YtmjkbidnghcfnaaWP
import Derived.Test.YtmjkbidnghcfnaaWH
namespace Go.Proofs.Ytmjkbidnghcfnaa
set_option linter.unusedSimpArgs false
set_option linter.unusedVariables false
open Go Go.Lift Go.Proofs

theorem mapE_app {e : Enc} {L : List (List Int)} : ∀ {a b : List Int} {s : Int}, mapE e L s (a ++ b) = mapE e L s a ++ mapE e L (runE e s a).2 b
 | [], b, s => rfl
 | x :: a, b, s => by
  simp only [List.cons_append, mapE, runE]
  rw [mapE_app (a := a)]
theorem mapE_at {e : Enc} {L : List (List Int)} {l : List Int} {s : Int} {k : Nat} (hk : k < l.length) : (mapE e L s l).getD k 0 = (L.getD (runE e s (l.take k)).2.toNat []).getD (l.getD k 0).toNat 0 := by
 have h1 : l = l.take k ++ l.getD k 0 :: l.drop (k + 1) := by
  rw [getD_get hk, List.getElem_cons_drop, List.take_append_drop]
 have h2 : mapE e L s l = mapE e L s (l.take k) ++ mapE e L (runE e s (l.take k)).2 (l.getD k 0 :: l.drop (k + 1)) := by
  rw [← mapE_app, ← h1]
 rw [h2, getD_app, if_neg (by rw [mapE_len, List.length_take]; omega), mapE_len, List.length_take, Nat.min_eq_left (by omega), Nat.sub_self]
 rfl
theorem relabelV_c (e : Enc) (L : List (List Int)) (hv : checkE e = 0) (hP : Perms e L) : PC Try.prog 29 [.agg 4 (encF e), rowsI L] (.tup 2 (fun j => [.agg 4 (encF (relE e L)), .int .i64 0].getD j .any)) := by
 have hin := (checkE_valid hv).1.inputs
 have hl := rows_len hv
 have := relabel_c e L (by rw [hP.len]; omega) (fun x hx => by
  obtain ⟨s, hs, rfl⟩ := List.mem_iff_getElem.1 hx
  have := (hP.row s (by rw [← hP.len]; exact hs)).len
  rw [getD_get hs] at this
  omega)
 rw [relX_ok (relCheck_ok hv hP), relCheck_ok hv hP] at this
 exact this
theorem sameV_c (e : Enc) (hv : checkE e = 0) : PC Try.prog 23 [.agg 4 (encF e), .agg 4 (encF e)] (.bool true) := by
 have hl := rows_len hv
 refine sameEnc_c e (by omega) fun r hr => ?_
 obtain ⟨k, hk, rfl⟩ := List.mem_iff_getElem.1 hr
 have := row_len hv hk
 rw [getD_get hk] at this
 omega
theorem scat_set {X : List Int} {n i q : Nat} (hi : i < n) (h : (X.getD i 0).toNat < n) : (if q = (X.getD i 0).toNat then AVal.int .i64 i else .int .i64 ((scat X (upI n) 0 n i).getD q 0)) = .int .i64 ((scat X (upI n) 0 n (i + 1)).getD q 0) := by
 show _ = AVal.int .i64 (((scat X (upI n) 0 n i).set (X.getD i 0).toNat ((upI n).getD i 0)).getD q 0)
 rw [getD_setL, scat_len, upI_at hi]
 by_cases e : q = (X.getD i 0).toNat
 · rw [if_pos e, if_pos ⟨e, h⟩]
 · rw [if_neg e, if_neg (fun h => e h.1)]
theorem repl_z {n q : Nat} : (List.replicate n (0 : Int)).getD q 0 = 0 := by
 simp only [List.getD_eq_getElem?_getD, List.getElem?_replicate]
 split <;> rfl
set_option maxRecDepth 100000 in
theorem relabelledLaw_c (e : Enc) (st : Int) (hst : 0 ≤ st ∧ st < 256) (l lb : List UInt8) (hlb : lb.length ≤ maxLen) : PC Try.prog 8 [.agg 4 (encF e), .int .u8 st, Lift.bytes l, Lift.bytes lb] (.bool true) := by
 obtain ⟨s, hse⟩ : ∃ s : Int, st % (e.rows.length : Int) = s := ⟨_, rfl⟩
 refine PC_introS T_ok Try.func8 rfl (by simp [Try.ntmps8]) fun G hG hR => ?_
 simp only [Try.ntmps8, Try.results8] at hG ⊢
 simp only [argEnv, Nat.zero_add, Nat.reduceAdd]
 refine awpS_seq ?_
 refine awpS_reg T_ok fun K hK => ?_
 simp [hG, List.getD_cons_zero, List.getD_cons_succ, -List.getD_eq_getElem?_getD, hse]
 refine ⟨Cond.mk (by simp [-List.getD_eq_getElem?_getD]), hK _ ?_⟩
 clear K hK
 refine awpS_seq ?_
 refine awpS_seq ?_
 refine awpS_regL ?_
 refine awpL_reg T_ok 1 fun K hK => ?_
 simp [hG, List.getD_cons_zero, List.getD_cons_succ, -List.getD_eq_getElem?_getD, hse]
 refine hK _ ?_
 clear K hK
 refine awpL_call cal11 rfl rfl (fun _ => rfl) (fun hg => fine_c e) (fun hg => ?_) (fun hg => ?_) fun K hK => ?_
 · simp [hG, List.getD_cons_zero, List.getD_cons_succ, -List.getD_eq_getElem?_getD, hse]
 · simp [hG, List.getD_cons_zero, List.getD_cons_succ, -List.getD_eq_getElem?_getD, hse]
 simp [hG, List.getD_cons_zero, List.getD_cons_succ, -List.getD_eq_getElem?_getD, hse]
 refine hK _ ?_
 clear K hK
 refine awpL_reg T_ok 1 fun K hK => ?_
 simp [hG, List.getD_cons_zero, List.getD_cons_succ, -List.getD_eq_getElem?_getD, hse]
 refine hK _ ?_
 clear K hK
 refine awpL_nil ?_
 refine awpS_cond rfl (fun hb34 => ?_) (fun hb34 => ?_)
 ·
  try simp [-List.getD_eq_getElem?_getD] at hb34
  refine awpS_seq ?_
  refine awpS_regL ?_
  refine awpL_call cal12 rfl rfl (fun _ => rfl) (fun hg => awake_c) (fun hg => ?_) (fun hg => ?_) fun K hK => ?_
  · simp [hG, List.getD_cons_zero, List.getD_cons_succ, -List.getD_eq_getElem?_getD, hse]
  · simp [hG, List.getD_cons_zero, List.getD_cons_succ, -List.getD_eq_getElem?_getD, hse]
  simp [hG, List.getD_cons_zero, List.getD_cons_succ, -List.getD_eq_getElem?_getD, hse]
  refine hK _ ?_
  clear K hK
  refine awpL_reg T_ok 1 fun K hK => ?_
  simp [hG, List.getD_cons_zero, List.getD_cons_succ, -List.getD_eq_getElem?_getD, hse]
  refine hK _ ?_
  clear K hK
  refine awpL_nil ?_
  refine awpS_ret ?_
  refine RetOK_of ?_
  simp [hG, List.getD_cons_zero, List.getD_cons_succ, -List.getD_eq_getElem?_getD, hse]
 ·
  try simp [-List.getD_eq_getElem?_getD] at hb34
  have hfi := hb34
  have hv : checkE e = 0 := (by have := hb34; simp [fineE] at this; exact this.1.2)
  have hpos := (checkE_valid hv).2.1
  have hin := (checkE_valid hv).1.inputs
  have hl64 := rows_len hv
  have hs0 : 0 ≤ s := (by rw [← hse]; exact Int.emod_nonneg _ (by omega))
  have hs1 : s < (e.rows.length : Int) := (by rw [← hse]; exact Int.emod_lt_of_pos _ (by omega))
  have hgi := inputsL_good (e := e) (l := l) hin.1
  have hli := inputsL_le (e := e) (l := l)
  have hP : Perms e (permsL e lb) := perms_ok
  have hpn := hP.len
  have hvr := rel_valid hv hP
  have hrr := rel_run hv hP hs0 hs1 hgi
  refine awpS_skip ?_
  refine awpS_seq ?_
  refine awpS_draw hR mixed [] ⟨[], [], []⟩ fun mu0 => ?_
  refine awpA_tk T_ok [0, 1, 2, 3, 4, 5, 6, 7, 9, 10] [] (fuel := 5) [10, 9, 7, 6, 5, 4, 3, 2, 1, 0] (by decide +kernel) (by decide +kernel) rfl rfl fun K hK => ?_
  simp [hG, List.getD_cons_zero, List.getD_cons_succ, -List.getD_eq_getElem?_getD, hse]
  first | refine hK _ ?_ | refine ⟨Cond.mk (by clear hK; simp [-List.getD_eq_getElem?_getD]; repeat (first | omega | exact trivial | apply And.intro)), hK _ ?_⟩
  clear K hK
  refine awpA_only (fuel := 4) (i := 8) (by decide +kernel) ?_
  refine awpO_call cal24 rfl rfl rfl (fun _ => rfl) (fun hg => inputs_c e l hv) (fun hg => ?_) (fun hg => ?_) fun K hK => ?_
  · simp [hG, List.getD_cons_zero, List.getD_cons_succ, -List.getD_eq_getElem?_getD, hse]
  · simp [hG, List.getD_cons_zero, List.getD_cons_succ, -List.getD_eq_getElem?_getD, hse]
  simp [hG, List.getD_cons_zero, List.getD_cons_succ, -List.getD_eq_getElem?_getD, hse]
  refine hK _ ?_
  clear K hK
  refine awpA_only (fuel := 3) (i := 11) (by decide +kernel) ?_
  refine awpO_call cal28 rfl rfl rfl (fun _ => rfl) (fun hg => permutations_c e lb hv hlb) (fun hg => ?_) (fun hg => ?_) fun K hK => ?_
  · simp [hG, List.getD_cons_zero, List.getD_cons_succ, -List.getD_eq_getElem?_getD, hse]
  · simp [hG, List.getD_cons_zero, List.getD_cons_succ, -List.getD_eq_getElem?_getD, hse]
  simp [hG, List.getD_cons_zero, List.getD_cons_succ, -List.getD_eq_getElem?_getD, hse]
  refine hK _ ?_
  clear K hK
  refine awpA_tk T_ok [12, 13, 14] [] (fuel := 0) [14, 13, 12, 11, 8, 10, 9, 7, 6, 5, 4, 3, 2, 1, 0] (by decide +kernel) (by decide +kernel) rfl rfl fun K hK => ?_
  simp [hG, List.getD_cons_zero, List.getD_cons_succ, -List.getD_eq_getElem?_getD, hse]
  refine hK _ ?_
  clear K hK
  refine awpA_done (by decide +kernel) ?_
  refine awpS_seq ?_
  refine awpS_regL ?_
  refine awpL_reg T_ok 2 fun K hK => ?_
  simp [hG, List.getD_cons_zero, List.getD_cons_succ, -List.getD_eq_getElem?_getD, hse]
  refine hK _ ?_
  clear K hK
  refine awpL_call cal29 rfl rfl (fun _ => rfl) (fun hg => relabelV_c e (permsL e lb) hv hP) (fun hg => ?_) (fun hg => ?_) fun K hK => ?_
  · simp [hG, List.getD_cons_zero, List.getD_cons_succ, -List.getD_eq_getElem?_getD, hse]
  · simp [hG, List.getD_cons_zero, List.getD_cons_succ, -List.getD_eq_getElem?_getD, hse]
  simp [hG, List.getD_cons_zero, List.getD_cons_succ, -List.getD_eq_getElem?_getD, hse]
  refine hK _ ?_
  clear K hK
  refine awpL_reg T_ok 6 fun K hK => ?_
  simp [hG, List.getD_cons_zero, List.getD_cons_succ, -List.getD_eq_getElem?_getD, hse]
  refine ⟨Cond.mk (by simp [-List.getD_eq_getElem?_getD]), hK _ ?_⟩
  clear K hK
  refine awpL_nil ?_
  refine awpS_seq ?_
  refine awpS_reg T_ok fun K hK => ?_
  simp [hG, List.getD_cons_zero, List.getD_cons_succ, -List.getD_eq_getElem?_getD, hse]
  refine hK _ ?_
  clear K hK
  refine awpS_seq ?_
  refine awpS_seq ?_
  refine awpS_reg T_ok fun K hK => ?_
  simp [hG, List.getD_cons_zero, List.getD_cons_succ, -List.getD_eq_getElem?_getD, hse]
  refine hK _ ?_
  clear K hK
  refine awpS_block ?_
  refine awpS_loop (α := Nat) (fun k => ⟨[(4, .ptr (0, 0) 0 0), (9, .int .i64 s), (10, ints (inputsL e l)), (11, rowsI (permsL e lb)), (12, .ptr (1, 0) 0 0), (13, .int .i64 0), (14, .sl (2, 0) 0 k), (54, rowsI (permsL e lb)), (55, .int .i64 (permsL e lb).length), (56, .int .i64 k)], [(0, .one (.arr 1 4 (fun _ => encF e))), (1, .one (.arr 1 4 (fun _ => encF (relE e (permsL e lb))))), (2, .one (.arr k 1 (fun q _ => ints (invL ((permsL e lb).getD q [])))))], 3⟩) (fun k => k ≤ (permsL e lb).length) (fun k => (permsL e lb).length - k) (0) (Nat.zero_le _) ?_ ?_
  ·
   refine wk_of (id) (fun _ => false) (fun k => k == 2) ?_ ?_ rfl (Nat.zero_le _) (fun k hk => absurd hk (Nat.not_lt_zero _))
   · simp [hG, List.getD_cons_zero, List.getD_cons_succ, -List.getD_eq_getElem?_getD, hse]
   · simp [hG, List.getD_cons_zero, List.getD_cons_succ, -List.getD_eq_getElem?_getD, hse]
  ·
   rintro k hk
   refine awpS_seq ?_
   refine awpS_reg T_ok fun K hK => ?_
   simp [hG, List.getD_cons_zero, List.getD_cons_succ, -List.getD_eq_getElem?_getD, hse]
   refine hK _ ?_
   clear K hK
   refine awpS_seq ?_
   refine awpS_cond rfl (fun hb57 => ?_) (fun hb57 => ?_)
   ·
    try simp [-List.getD_eq_getElem?_getD] at hb57
    have hpk := hP.row k (by omega)
    have hxl := hpk.len
    refine awpS_skip ?_
    refine awpS_seq ?_
    refine awpS_block ?_
    refine awpS_seq ?_
    refine awpS_reg T_ok fun K hK => ?_
    simp [hG, List.getD_cons_zero, List.getD_cons_succ, -List.getD_eq_getElem?_getD, hse]
    refine ⟨Cond.mk (by omega), hK _ ?_⟩
    clear K hK
    refine awpS_seq ?_
    refine awpS_reg T_ok fun K hK => ?_
    simp [hG, List.getD_cons_zero, List.getD_cons_succ, -List.getD_eq_getElem?_getD, hse]
    refine ⟨Cond.mk (by omega), hK _ ?_⟩
    clear K hK
    refine awpS_seq ?_
    refine awpS_seq ?_
    refine awpS_reg T_ok fun K hK => ?_
    simp [hG, List.getD_cons_zero, List.getD_cons_succ, -List.getD_eq_getElem?_getD, hse]
    refine hK _ ?_
    clear K hK
    refine awpS_block ?_
    refine awpS_loop (α := Nat) (fun i => ⟨[(4, .ptr (0, 0) 0 0), (9, .int .i64 s), (10, ints (inputsL e l)), (11, rowsI (permsL e lb)), (12, .ptr (1, 0) 0 0), (13, .int .i64 0), (14, .sl (2, 0) 0 k), (16, ints ((permsL e lb).getD k [])), (17, .sl (3, 0) 0 ((permsL e lb).getD k []).length), (54, rowsI (permsL e lb)), (55, .int .i64 (permsL e lb).length), (56, .int .i64 k), (63, ints ((permsL e lb).getD k [])), (64, .int .i64 ((permsL e lb).getD k []).length), (65, .int .i64 i)], [(0, .one (.arr 1 4 (fun _ => encF e))), (1, .one (.arr 1 4 (fun _ => encF (relE e (permsL e lb))))), (2, .one (.arr k 1 (fun q _ => ints (invL ((permsL e lb).getD q []))))), (3, .one (.arr ((permsL e lb).getD k []).length 1 (fun q _ => .int .i64 ((scat ((permsL e lb).getD k []) (upI ((permsL e lb).getD k []).length) 0 ((permsL e lb).getD k []).length (i)).getD q 0))))], 4⟩) (fun i => i ≤ ((permsL e lb).getD k []).length) (fun i => ((permsL e lb).getD k []).length - i) (0) (Nat.zero_le _) ?_ ?_
    ·
     refine wk_of (id) (fun _ => false) (fun _ => false) ?_ ?_ rfl (Nat.zero_le _) (fun k hk => absurd hk (Nat.not_lt_zero _))
     · simp [hG, List.getD_cons_zero, List.getD_cons_succ, -List.getD_eq_getElem?_getD, hse]
     · simp [hG, List.getD_cons_zero, List.getD_cons_succ, -List.getD_eq_getElem?_getD]; exact fun q hq => repl_z.symm
    ·
     rintro i hi
     refine awpS_seq ?_
     refine awpS_reg T_ok fun K hK => ?_
     simp [hG, List.getD_cons_zero, List.getD_cons_succ, -List.getD_eq_getElem?_getD, hse]
     refine hK _ ?_
     clear K hK
     refine awpS_seq ?_
     refine awpS_cond rfl (fun hb66 => ?_) (fun hb66 => ?_)
     ·
      try simp [-List.getD_eq_getElem?_getD] at hb66
      have hxi := hpk.lt i (by omega)
      refine awpS_skip ?_
      refine awpS_seq ?_
      refine awpS_block ?_
      refine awpS_seq ?_
      refine awpS_reg T_ok fun K hK => ?_
      simp [hG, List.getD_cons_zero, List.getD_cons_succ, -List.getD_eq_getElem?_getD, hse]
      refine ⟨Cond.mk (by omega), hK _ ?_⟩
      clear K hK
      refine awpS_reg T_ok fun K hK => ?_
      simp [hG, List.getD_cons_zero, List.getD_cons_succ, -List.getD_eq_getElem?_getD, hse]
      refine ⟨Cond.mk (by omega), hK _ ?_⟩
      clear K hK
      refine awpS_nil ?_
      refine blockQ_norm (thenQ_norm ?_)
      refine awpS_reg T_ok fun K hK => ?_
      simp [hG, List.getD_cons_zero, List.getD_cons_succ, -List.getD_eq_getElem?_getD, hse]
      refine ⟨Cond.mk (by omega), hK _ ?_⟩
      clear K hK
      refine awpS_nil ?_
      refine round_end (i + 1) (by omega) (by omega) ?_
      refine wk_of (id) (fun _ => false) (fun _ => false) ?_ ?_ rfl (Nat.zero_le _) (fun k hk => absurd hk (Nat.not_lt_zero _))
      · simp [hG, List.getD_cons_zero, List.getD_cons_succ, -List.getD_eq_getElem?_getD, hse]
      · simp [hG, List.getD_cons_zero, List.getD_cons_succ, -List.getD_eq_getElem?_getD]; exact fun q hq => scat_set (by omega) (by omega)
     ·
      try simp [-List.getD_eq_getElem?_getD] at hb66
      obtain rfl : i = ((permsL e lb).getD k []).length := (by omega)
      refine awpS_exit ?_
      refine thenQ_exit (thenQ_exit ?_)
      refine blockQ_exit (thenQ_norm ?_)
      refine awpS_reg T_ok fun K hK => ?_
      simp [hG, List.getD_cons_zero, List.getD_cons_succ, -List.getD_eq_getElem?_getD, hse]
      refine ⟨Cond.mk (by omega), hK _ ?_⟩
      clear K hK
      refine awpS_nil ?_
      refine blockQ_norm (thenQ_norm ?_)
      refine awpS_reg T_ok fun K hK => ?_
      simp [hG, List.getD_cons_zero, List.getD_cons_succ, -List.getD_eq_getElem?_getD, hse]
      refine ⟨Cond.mk (by omega), hK _ ?_⟩
      clear K hK
      refine awpS_nil ?_
      refine round_end (k + 1) (by omega) (by omega) ?_
      refine wk_of (fun k => if k = 2 then 5 else k) (fun k => k == 3) (fun _ => false) ?_ ?_ rfl (Nat.zero_le _) (fun k hk => absurd hk (Nat.not_lt_zero _))
      · simp [hG, List.getD_cons_zero, List.getD_cons_succ, -List.getD_eq_getElem?_getD, hse]
      · simp [hG, List.getD_cons_zero, List.getD_cons_succ, -List.getD_eq_getElem?_getD]; refine fun i hi => app_rowI (F := fun q => invL ((permsL e lb).getD q [])) hi ?_; simp [-List.getD_eq_getElem?_getD]; exact fun q hq => rfl
   ·
    try simp [-List.getD_eq_getElem?_getD] at hb57
    obtain rfl : k = (permsL e lb).length := (by omega)
    refine awpS_exit ?_
    refine thenQ_exit (thenQ_exit ?_)
    refine blockQ_exit (thenQ_norm ?_)
    refine awpS_seq ?_
    refine awpS_wk (st2 := ⟨[(4, .ptr (0, 0) 0 0), (9, .int .i64 s), (10, ints (inputsL e l)), (11, rowsI (permsL e lb)), (12, .ptr (1, 0) 0 0), (13, .int .i64 0), (14, rowsI (invs (permsL e lb)))], [(0, .one (.arr 1 4 (fun _ => encF e))), (1, .one (.arr 1 4 (fun _ => encF (relE e (permsL e lb)))))], 2⟩) ?_ ?_
    ·
     refine wk_of (id) (fun k => k == 2) (fun _ => false) ?_ ?_ rfl (Nat.zero_le _) (fun k hk => absurd hk (Nat.not_lt_zero _))
     · simp [hG, List.getD_cons_zero, List.getD_cons_succ, -List.getD_eq_getElem?_getD]; have hil : (invs (permsL e lb)).length = (permsL e lb).length := List.length_map ..; exact ⟨hil.symm, Nat.le_of_eq hil, fun q hq => (by rw [invs_at (by omega)]; exact Clo.le _ Clo_ints)⟩
     · simp [hG, List.getD_cons_zero, List.getD_cons_succ, -List.getD_eq_getElem?_getD, hse]
    refine awpS_regL ?_
    refine awpL_reg T_ok 2 fun K hK => ?_
    simp [hG, List.getD_cons_zero, List.getD_cons_succ, -List.getD_eq_getElem?_getD, hse]
    refine hK _ ?_
    clear K hK
    refine awpL_call cal29 rfl rfl (fun _ => rfl) (fun hg => by have h := relabelV_c (relE e (permsL e lb)) (invs (permsL e lb)) hvr (rel_inv hP); rw [rel_again hv hP] at h; exact h) (fun hg => ?_) (fun hg => ?_) fun K hK => ?_
    · simp [hG, List.getD_cons_zero, List.getD_cons_succ, -List.getD_eq_getElem?_getD, hse]
    · simp [hG, List.getD_cons_zero, List.getD_cons_succ, -List.getD_eq_getElem?_getD, hse]
    simp [hG, List.getD_cons_zero, List.getD_cons_succ, -List.getD_eq_getElem?_getD, hse]
    refine hK _ ?_
    clear K hK
    refine awpL_reg T_ok 6 fun K hK => ?_
    simp [hG, List.getD_cons_zero, List.getD_cons_succ, -List.getD_eq_getElem?_getD, hse]
    refine ⟨Cond.mk (by simp [-List.getD_eq_getElem?_getD]), hK _ ?_⟩
    clear K hK
    refine awpL_nil ?_
    refine awpS_seq ?_
    refine awpS_regL ?_
    refine awpL_reg T_ok 3 fun K hK => ?_
    simp [hG, List.getD_cons_zero, List.getD_cons_succ, -List.getD_eq_getElem?_getD, hse]
    refine hK _ ?_
    clear K hK
    refine awpL_call cal26 rfl rfl (fun _ => rfl) (fun hg => encodeG_c e s (inputsL e l) hv hs0 hs1 hgi (by omega)) (fun hg => ?_) (fun hg => ?_) fun K hK => ?_
    · simp [hG, List.getD_cons_zero, List.getD_cons_succ, -List.getD_eq_getElem?_getD, hse]
    · simp [hG, List.getD_cons_zero, List.getD_cons_succ, -List.getD_eq_getElem?_getD, hse]
    simp [hG, List.getD_cons_zero, List.getD_cons_succ, -List.getD_eq_getElem?_getD, hse]
    refine hK _ ?_
    clear K hK
    refine awpL_reg T_ok 7 fun K hK => ?_
    simp [hG, List.getD_cons_zero, List.getD_cons_succ, -List.getD_eq_getElem?_getD, hse]
    refine hK _ ?_
    clear K hK
    refine awpL_nil ?_
    refine awpS_seq ?_
    refine awpS_reg T_ok fun K hK => ?_
    simp [hG, List.getD_cons_zero, List.getD_cons_succ, -List.getD_eq_getElem?_getD, hse]
    refine hK _ ?_
    clear K hK
    refine awpS_seq ?_
    refine awpS_reg T_ok fun K hK => ?_
    simp [hG, List.getD_cons_zero, List.getD_cons_succ, -List.getD_eq_getElem?_getD, hse]
    refine hK _ ?_
    clear K hK
    refine awpS_seq ?_
    refine awpS_seq ?_
    refine awpS_reg T_ok fun K hK => ?_
    simp [hG, List.getD_cons_zero, List.getD_cons_succ, -List.getD_eq_getElem?_getD, hse]
    refine hK _ ?_
    clear K hK
    refine awpS_block ?_
    refine awpS_loop (α := Nat) (fun k => ⟨[(4, .ptr (0, 0) 0 0), (9, .int .i64 s), (10, ints (inputsL e l)), (11, rowsI (permsL e lb)), (12, .ptr (1, 0) 0 0), (13, .int .i64 0), (20, .ptr (2, 0) 0 0), (21, .int .i64 0), (22, .str (runE e s (inputsL e l)).1), (23, .int .i64 (runE e s (inputsL e l)).2), (24, .int .i64 0), (25, .sl (3, 0) 0 k), (26, .int .i64 (runE e s ((inputsL e l).take k)).2), (95, ints (inputsL e l)), (96, .int .i64 (inputsL e l).length), (97, .int .i64 k)], [(0, .one (.arr 1 4 (fun _ => encF e))), (1, .one (.arr 1 4 (fun _ => encF (relE e (permsL e lb))))), (2, .one (.arr 1 4 (fun _ => encF e))), (3, .one (.arr k 1 (fun q _ => .int .i64 ((mapE e (permsL e lb) s (inputsL e l)).getD q 0))))], 4⟩) (fun k => k ≤ (inputsL e l).length) (fun k => (inputsL e l).length - k) (0) (Nat.zero_le _) ?_ ?_
    ·
     refine wk_of (id) (fun _ => false) (fun k => k == 3) ?_ ?_ rfl (Nat.zero_le _) (fun k hk => absurd hk (Nat.not_lt_zero _))
     · simp [hG, List.getD_cons_zero, List.getD_cons_succ, -List.getD_eq_getElem?_getD]; rfl
     · simp [hG, List.getD_cons_zero, List.getD_cons_succ, -List.getD_eq_getElem?_getD, hse]
    ·
     rintro k hk
     refine awpS_seq ?_
     refine awpS_reg T_ok fun K hK => ?_
     simp [hG, List.getD_cons_zero, List.getD_cons_succ, -List.getD_eq_getElem?_getD, hse]
     refine hK _ ?_
     clear K hK
     refine awpS_seq ?_
     refine awpS_cond rfl (fun hb98 => ?_) (fun hb98 => ?_)
     ·
      try simp [-List.getD_eq_getElem?_getD] at hb98
      have hgk := bad_no.1 (hgi _ (getD_mem (d := 0) (show k < (inputsL e l).length by omega)))
      have hro := runE_ok hv (l := (inputsL e l).take k) hs0 hs1 (fun x hx => hgi x (List.mem_of_mem_take hx))
      have hrt := runE_take (e := e) (s := s) (l := (inputsL e l)) (k := k) (by omega)
      have hpr := (hP.row (runE e s ((inputsL e l).take k)).2.toNat (by omega)).len
      have hre := row_eq hv (k := (runE e s ((inputsL e l).take k)).2.toNat) (by omega)
      have hma := mapE_at (e := e) (L := (permsL e lb)) (s := s) (l := (inputsL e l)) (k := k) (by omega)
      unfold cellAt at hrt
      refine awpS_skip ?_
      refine awpS_seq ?_
      refine awpS_block ?_
      refine awpS_seq ?_
      refine awpS_reg T_ok fun K hK => ?_
      simp [hG, List.getD_cons_zero, List.getD_cons_succ, -List.getD_eq_getElem?_getD, hse]
      refine ⟨Cond.mk (by omega), hK _ ?_⟩
      clear K hK
      refine awpS_seq ?_
      refine awpS_reg T_ok fun K hK => ?_
      simp [hG, List.getD_cons_zero, List.getD_cons_succ, -List.getD_eq_getElem?_getD, hse]
      refine ⟨Cond.mk (by omega), hK _ ?_⟩
      clear K hK
      refine awpS_reg T_ok fun K hK => ?_
      simp [hG, List.getD_cons_zero, List.getD_cons_succ, -List.getD_eq_getElem?_getD, hse]
      refine ⟨Cond.mk (by omega), hK _ ?_⟩
      clear K hK
      refine awpS_nil ?_
      refine blockQ_norm (thenQ_norm ?_)
      refine awpS_reg T_ok fun K hK => ?_
      simp [hG, List.getD_cons_zero, List.getD_cons_succ, -List.getD_eq_getElem?_getD, hse]
      refine ⟨Cond.mk (by omega), hK _ ?_⟩
      clear K hK
      refine awpS_nil ?_
      refine round_end (k + 1) (by omega) (by omega) ?_
      refine wk_of (fun k => if k = 3 then 5 else k) (fun _ => false) (fun _ => false) ?_ ?_ rfl (Nat.zero_le _) (fun k hk => absurd hk (Nat.not_lt_zero _))
      · simp [hG, List.getD_cons_zero, List.getD_cons_succ, -List.getD_eq_getElem?_getD]; rw [hrt]
      · simp [hG, List.getD_cons_zero, List.getD_cons_succ, -List.getD_eq_getElem?_getD]; exact fun i hi => app_last (F := fun q => (mapE e (permsL e lb) s (inputsL e l)).getD q 0) hi hma
     ·
      try simp [-List.getD_eq_getElem?_getD] at hb98
      obtain rfl : k = (inputsL e l).length := (by omega)
      refine awpS_exit ?_
      refine thenQ_exit (thenQ_exit ?_)
      refine blockQ_exit (thenQ_norm ?_)
      refine awpS_seq ?_
      refine awpS_wk (st2 := ⟨[(4, .ptr (0, 0) 0 0), (9, .int .i64 s), (10, ints (inputsL e l)), (11, rowsI (permsL e lb)), (12, .ptr (1, 0) 0 0), (13, .int .i64 0), (20, .ptr (2, 0) 0 0), (21, .int .i64 0), (22, .str (runE e s (inputsL e l)).1), (23, .int .i64 (runE e s (inputsL e l)).2), (24, .int .i64 0), (25, ints (mapE e (permsL e lb) s (inputsL e l)))], [(0, .one (.arr 1 4 (fun _ => encF e))), (1, .one (.arr 1 4 (fun _ => encF (relE e (permsL e lb))))), (2, .one (.arr 1 4 (fun _ => encF e)))], 3⟩) ?_ ?_
      ·
       refine wk_of (id) (fun k => k == 3) (fun _ => false) ?_ ?_ rfl (Nat.zero_le _) (fun k hk => absurd hk (Nat.not_lt_zero _))
       · simp [hG, List.getD_cons_zero, List.getD_cons_succ, -List.getD_eq_getElem?_getD, hse]
       · simp [hG, List.getD_cons_zero, List.getD_cons_succ, -List.getD_eq_getElem?_getD, hse]
      refine awpS_regL ?_
      refine awpL_reg T_ok 3 fun K hK => ?_
      simp [hG, List.getD_cons_zero, List.getD_cons_succ, -List.getD_eq_getElem?_getD, hse]
      refine hK _ ?_
      clear K hK
      refine awpL_call cal26 rfl rfl (fun _ => rfl) (fun hg => by have h := encodeG_c (relE e (permsL e lb)) s (mapE e (permsL e lb) s (inputsL e l)) hvr hs0 (by rw [relE_len]; exact hs1) hrr.2 (by rw [mapE_len]; omega); rw [hrr.1] at h; exact h) (fun hg => ?_) (fun hg => ?_) fun K hK => ?_
      · simp [hG, List.getD_cons_zero, List.getD_cons_succ, -List.getD_eq_getElem?_getD, hse]
      · simp [hG, List.getD_cons_zero, List.getD_cons_succ, -List.getD_eq_getElem?_getD, hse]
      simp [hG, List.getD_cons_zero, List.getD_cons_succ, -List.getD_eq_getElem?_getD, hse]
      refine hK _ ?_
      clear K hK
      refine awpL_reg T_ok 7 fun K hK => ?_
      simp [hG, List.getD_cons_zero, List.getD_cons_succ, -List.getD_eq_getElem?_getD, hse]
      refine hK _ ?_
      clear K hK
      refine awpL_nil ?_
      refine awpS_seq ?_
      refine awpS_regL ?_
      refine awpL_reg T_ok 9 fun K hK => ?_
      simp [hG, List.getD_cons_zero, List.getD_cons_succ, -List.getD_eq_getElem?_getD, hse]
      refine ⟨Cond.mk (by simp [-List.getD_eq_getElem?_getD]), hK _ ?_⟩
      clear K hK
      refine awpL_call cal23 rfl rfl (fun _ => rfl) (fun hg => sameV_c e hv) (fun hg => ?_) (fun hg => ?_) fun K hK => ?_
      · first | (simp [hG, List.getD_cons_zero, List.getD_cons_succ, -List.getD_eq_getElem?_getD, hse]; done) | (simp [-List.getD_eq_getElem?_getD] at hg; done) | (simp [-List.getD_eq_getElem?_getD] at hg; simp [hG, List.getD_cons_zero, List.getD_cons_succ, -List.getD_eq_getElem?_getD, hse]; first | omega | exact hg | (simp_all [-List.getD_eq_getElem?_getD]; done) | (simp_all [-List.getD_eq_getElem?_getD]; first | exact ⟨rfl, rfl⟩ | exact rfl))
      · first | (simp [hG, List.getD_cons_zero, List.getD_cons_succ, -List.getD_eq_getElem?_getD, hse]; done) | (simp [-List.getD_eq_getElem?_getD] at hg; done) | (simp [-List.getD_eq_getElem?_getD] at hg; simp [hG, List.getD_cons_zero, List.getD_cons_succ, -List.getD_eq_getElem?_getD, hse]; first | omega | exact hg | (simp_all [-List.getD_eq_getElem?_getD]; done) | (simp_all [-List.getD_eq_getElem?_getD]; first | exact ⟨rfl, rfl⟩ | exact rfl))
      simp [hG, List.getD_cons_zero, List.getD_cons_succ, -List.getD_eq_getElem?_getD, hse]
      refine hK _ ?_
      clear K hK
      refine awpL_reg T_ok 13 fun K hK => ?_
      simp [hG, List.getD_cons_zero, List.getD_cons_succ, -List.getD_eq_getElem?_getD, hse]
      refine ⟨Cond.mk (by simp [-List.getD_eq_getElem?_getD]), hK _ ?_⟩
      clear K hK
      refine awpL_call cal25 rfl rfl (fun _ => rfl) (fun hg => check_c (relE e (permsL e lb))) (fun hg => ?_) (fun hg => ?_) fun K hK => ?_
      · first | (simp [hG, List.getD_cons_zero, List.getD_cons_succ, -List.getD_eq_getElem?_getD, hse]; done) | (simp [-List.getD_eq_getElem?_getD] at hg; done) | (simp [-List.getD_eq_getElem?_getD] at hg; simp [hG, List.getD_cons_zero, List.getD_cons_succ, -List.getD_eq_getElem?_getD, hse]; first | omega | exact hg | (simp_all [-List.getD_eq_getElem?_getD]; done) | (simp_all [-List.getD_eq_getElem?_getD]; first | exact ⟨rfl, rfl⟩ | exact rfl))
      · first | (simp [hG, List.getD_cons_zero, List.getD_cons_succ, -List.getD_eq_getElem?_getD, hse]; done) | (simp [-List.getD_eq_getElem?_getD] at hg; done) | (simp [-List.getD_eq_getElem?_getD] at hg; simp [hG, List.getD_cons_zero, List.getD_cons_succ, -List.getD_eq_getElem?_getD, hse]; first | omega | exact hg | (simp_all [-List.getD_eq_getElem?_getD]; done) | (simp_all [-List.getD_eq_getElem?_getD]; first | exact ⟨rfl, rfl⟩ | exact rfl))
      simp [hG, List.getD_cons_zero, List.getD_cons_succ, -List.getD_eq_getElem?_getD, hse]
      refine hK _ ?_
      clear K hK
      refine awpL_reg T_ok 3 fun K hK => ?_
      simp [hG, List.getD_cons_zero, List.getD_cons_succ, -List.getD_eq_getElem?_getD, hse]
      refine ⟨Cond.mk (by simp [-List.getD_eq_getElem?_getD]), hK _ ?_⟩
      clear K hK
      refine awpL_call cal12 rfl rfl (fun _ => rfl) (fun hg => awake_c) (fun hg => ?_) (fun hg => ?_) fun K hK => ?_
      · first | (simp [hG, List.getD_cons_zero, List.getD_cons_succ, -List.getD_eq_getElem?_getD, hse]; done) | (simp [-List.getD_eq_getElem?_getD] at hg; done) | (simp [-List.getD_eq_getElem?_getD] at hg; simp [hG, List.getD_cons_zero, List.getD_cons_succ, -List.getD_eq_getElem?_getD, hse]; first | omega | exact hg | (simp_all [-List.getD_eq_getElem?_getD]; done) | (simp_all [-List.getD_eq_getElem?_getD]; first | exact ⟨rfl, rfl⟩ | exact rfl))
      · first | (simp [hG, List.getD_cons_zero, List.getD_cons_succ, -List.getD_eq_getElem?_getD, hse]; done) | (simp [-List.getD_eq_getElem?_getD] at hg; done) | (simp [-List.getD_eq_getElem?_getD] at hg; simp [hG, List.getD_cons_zero, List.getD_cons_succ, -List.getD_eq_getElem?_getD, hse]; first | omega | exact hg | (simp_all [-List.getD_eq_getElem?_getD]; done) | (simp_all [-List.getD_eq_getElem?_getD]; first | exact ⟨rfl, rfl⟩ | exact rfl))
      simp [hG, List.getD_cons_zero, List.getD_cons_succ, -List.getD_eq_getElem?_getD, hse]
      refine hK _ ?_
      clear K hK
      refine awpL_reg T_ok 2 fun K hK => ?_
      simp [hG, List.getD_cons_zero, List.getD_cons_succ, -List.getD_eq_getElem?_getD, hse]
      refine hK _ ?_
      clear K hK
      refine awpL_nil ?_
      refine awpS_ret ?_
      refine RetOK_of ?_
      simp [hG, List.getD_cons_zero, List.getD_cons_succ, -List.getD_eq_getElem?_getD, hse]
      exact hvr

end Go.Proofs.Ytmjkbidnghcfnaa
