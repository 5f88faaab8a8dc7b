/-
  Walks: the paths of an encoder, yielded; what Build does with them.
-/
import Derived.Test.YtmdnpbilnelogaaWA
import Derived.Test.YtmdnpbilnelogaaNC
namespace Go.Proofs.Ytmdnpbilnelogaa
set_option linter.unusedSimpArgs false
set_option linter.unusedVariables false
open Go Go.Lift Go.Proofs

@[simp] theorem luKs {β : Type} {ev : β → AVal} {l : List (List UInt8 × β)} {k : List UInt8} : luK T 9 (mpE strK ev l) 0 (.str k) = some ((alFind l 0 k).map fun p => (p.1, ev p.2)) := luK_strK (by simp)
@[simp] theorem putK_strI {l : List (List UInt8 × Int)} {k : List UInt8} {b : Int} : putK (mpE strK intV l) ((alFind l 0 k).map fun p => (p.1, intV p.2)) (.str k) (.int .i64 b) = mpE strK intV (alPut l k b) := putK_mpE (ek := strK) (ev := intV) l k b
@[simp high] theorem HLe_si {h : Heap} {σ : Lift.Id → Lift.Id} {fz : Nat → Bool} {vz : Lift.Id → Bool} {nx : Nat} {l2 l : List (List UInt8 × Int)} (e : l2 = l) : HLe h σ fz vz nx (.mp (mpE strK intV l2)) (some (.mp (mpE strK intV l))) = True := eq_true (HLe_mpE (ek := strK) (ev := intV) (fun _ => trivial) (fun _ => trivial) e)
@[simp] theorem ren_mpSI {σ : Nat → Nat} {l : List (List UInt8 × Int)} : List.map (fun p => (ren σ p.1, ren σ p.2)) (mpE strK intV l) = mpE strK intV l := by
  conv => rhs; rw [← List.map_id (mpE strK intV l)]
  refine List.map_congr_left fun p hp => ?_
  obtain ⟨q, _, rfl⟩ := List.mem_map.1 hp
  rfl
@[simp] theorem dd0_0 : dd0.letters = 0 := rfl
@[simp] theorem dd0_1 : dd0.block = 0 := rfl
@[simp] theorem dd0_2 : dd0.inputs = 0 := rfl
@[simp] theorem dd0_3 : dd0.past = 0 := rfl
@[simp] theorem dd0_4 : dd0.future = 0 := rfl
@[simp] theorem dd0_5 : dd0.ents = [] := rfl
theorem go_one {S X : Type} {f : S → X → S × Bool} {m : S} {x : X} : goS f m [x] = f m x := by
  simp only [goS]
  split
  · rename_i h; rw [← h]
  · rename_i h
    have : (f m x).2 = false := by simpa using h
    rw [← this]
/-- yield, as Build's loop hands it over. -/
def yB (l : Nat) (vs : Array Value) : AVal := .yld l vs 3 (fun j => [.ptr (1, 0) 0 0, .ptr (3, 0) 0 0, .ptr (4, 0) 0 0].getD j .any)
@[simp] theorem VLe_yld {h : Heap} {σ : Lift.Id → Lift.Id} {fz : Nat → Bool} {vz : Lift.Id → Bool} {x l l' n n' : Nat} {vs vs' : Array Value} {f f' : Nat → AVal} : VLe h σ fz vz x (.yld l vs n f) (.yld l' vs' n' f') = (l' = l ∧ vs' = vs ∧ n' = n ∧ ∀ j, j < n → VLe h σ fz vz x (f j) (f' j)) := rfl
theorem fol_zero {e : Enc} {p n s : Nat} {w : List UInt8} {i : Int} : follow e p n 0 s w i = [⟨w, i⟩] := rfl
theorem goS_nil {S X : Type} {f : S → X → S × Bool} {s : S} : goS f s [] = (s, false) := rfl
set_option maxRecDepth 100000 in
theorem bodyB_y (m : List (List UInt8 × Int)) (x : Ent) {l : Nat} {rec : Loop} {vs : Array Value} (hok : RecOK rec [8, 6, 7] vs #[52, 53] (rngA Try.f13.body 0) (rngB Try.f13.body 0) 95) : YC Try.prog l rec vs ([.str x.win, .int .i64 x.inp] ++ [.ptr (1, 0) 0 0, .ptr (3, 0) 0 0, .ptr (4, 0) 0 0]) ((0, .one (.ob (lpP l rec none))) :: [(1, .one (.arr 1 1 (fun _ _ => .map (2, 0)))), (2, .one (.mp (mpE strK intV m))), (3, .one (.arr 1 6 (fun _ j => decF dd0 j))), (4, .one (.arr 1 1 (fun _ _ => .int .i64 (0))))]) 5 (fun _ : Unit => True) (fun _ : Unit => .bool (stopC (stepM m x).2).isNone) (fun _ : Unit => (0, .one (.ob (lpP l rec (stopC (stepM m x).2)))) :: [(1, .one (.arr 1 1 (fun _ _ => .map (2, 0)))), (2, .one (.mp (mpE strK intV (stepM m x).1))), (3, .one (.arr 1 6 (fun _ j => decF dd0 j))), (4, .one (.arr 1 1 (fun _ _ => .int .i64 (errI (stepM m x).2))))]) (fun _ : Unit => 5) := by
  refine YC_introJ hok rfl rfl rfl (by simp) rfl (by simp) (by simp) (by decide) fun G hG hR => ?_
  show AwpS _ _ _ _ _ ⟨[(53, .int .i64 x.inp), (52, .str x.win), (8, .ptr (1, 0) 0 0), (6, .ptr (3, 0) 0 0), (7, .ptr (4, 0) 0 0)], [(1, .one (.arr 1 1 (fun _ _ => .map (2, 0)))), (2, .one (.mp (mpE strK intV m))), (3, .one (.arr 1 6 (fun _ j => decF dd0 j))), (4, .one (.arr 1 1 (fun _ _ => .int .i64 (0))))], 5⟩
  refine awpS_seq ?_
  refine awpS_reg T_ok fun K hK => ?_
  simp [hG, List.getD_cons_zero, List.getD_cons_succ, -List.getD_eq_getElem?_getD, pureOp]
  refine hK _ ?_
  clear K hK
  refine awpS_reg T_ok fun K hK => ?_
  simp [hG, List.getD_cons_zero, List.getD_cons_succ, -List.getD_eq_getElem?_getD, pureOp]
  refine hK _ ?_
  clear K hK
  refine awpS_nil ?_
  refine ⟨rfl, fun G hG hR => ?_⟩
  refine awpS_block ?_
  refine awpS_seq ?_
  refine awpS_seq ?_
  refine awpS_reg T_ok fun K hK => ?_
  simp [hG, List.getD_cons_zero, List.getD_cons_succ, -List.getD_eq_getElem?_getD, pureOp]
  refine hK _ ?_
  clear K hK
  refine awpS_seq ?_
  refine awpS_reg T_ok fun K hK => ?_
  simp [hG, List.getD_cons_zero, List.getD_cons_succ, -List.getD_eq_getElem?_getD, pureOp]
  refine hK _ ?_
  clear K hK
  refine awpS_cond rfl (fun hb65 => ?_) (fun hb65 => ?_)
  ·
    try simp [-List.getD_eq_getElem?_getD] at hb65
    obtain ⟨k, hk⟩ := Option.isSome_iff_exists.1 hb65.1
    have hst := stepM_stop hk (by have h2 := hb65.2; rw [hk] at h2; exact h2)
    refine awpS_seq ?_
    refine awpS_reg T_ok fun K hK => ?_
    simp [hG, List.getD_cons_zero, List.getD_cons_succ, -List.getD_eq_getElem?_getD, pureOp]
    refine ⟨Cond.mk (by simp [-List.getD_eq_getElem?_getD]), hK _ ?_⟩
    clear K hK
    refine awpS_ret ?_
    refine blockQ_ret (thenQ_ret ?_)
    refine RetYJ_of (()) (id) (fun _ => false) (fun _ => false) trivial (by rw [hst]; rfl) ?_ (by rfl) (by simp) (fun k _ => ⟨rfl, rfl⟩)
    · rw [hst]; simp [hG, List.getD_cons_zero, List.getD_cons_succ, -List.getD_eq_getElem?_getD]
  ·
    try simp [-List.getD_eq_getElem?_getD] at hb65
    have hst := stepM_go (m := m) (x := x) (fun k hk => by have h2 := hb65 (by rw [hk]; rfl); rw [hk] at h2; exact h2)
    refine awpS_skip ?_
    refine awpS_reg T_ok fun K hK => ?_
    simp [hG, List.getD_cons_zero, List.getD_cons_succ, -List.getD_eq_getElem?_getD, pureOp]
    refine hK _ ?_
    clear K hK
    refine awpS_nil ?_
    refine blockQ_norm (thenQ_norm ?_)
    refine awpS_nil ?_
    refine RetYJ_of (()) (id) (fun _ => false) (fun _ => false) trivial (by rw [hst]; rfl) ?_ (by rfl) (by simp) (fun k _ => ⟨rfl, rfl⟩)
    · rw [hst]; simp [hG, List.getD_cons_zero, List.getD_cons_succ, -List.getD_eq_getElem?_getD]

def FolB (l : Nat) (rec : Loop) (vs : Array Value) (e : Enc) (p n k : Nat) : Prop := ∀ (s : Int) (dn : Nat) (w : List UInt8) (i : Int) (m : List (List UInt8 × Int)), dn + k = n → (0 ≤ s ∧ s < (e.rows.length : Int)) → (w.length : Int) = (dn : Int) * e.block → FC1 Try.prog 57 [.int .i64 s, .int .i64 (dn : Nat), .str w, .int .i64 i, .vptr 1 (fun _ => .int .i64 (n : Nat)) 0, .vptr 1 (fun _ => .yld l vs 3 (fun j => [.ptr (1, 0) 0 0, .ptr (3, 0) 0 0, .ptr (4, 0) 0 0].getD j .any)) 0, .vptr 4 (encF e) 0, .vptr 1 (fun _ => .int .i64 (p : Nat)) 0, .ptr (5, 0) 0 0] [(0, .one (.ob (lpP l rec (none)))), (1, .one (.arr 1 1 (fun _ _ => .map (2, 0)))), (2, .one (.mp (mpE strK intV m))), (3, .one (.arr 1 6 (fun _ j => decF dd0 j))), (4, .one (.arr 1 1 (fun _ _ => .int .i64 (0)))), (5, .one (.arr 1 1 (fun _ _ => .fn 57 5 (fun j => [.vptr 1 (fun _ => .int .i64 (n : Nat)) 0, .vptr 1 (fun _ => .yld l vs 3 (fun j => [.ptr (1, 0) 0 0, .ptr (3, 0) 0 0, .ptr (4, 0) 0 0].getD j .any)) 0, .vptr 4 (encF e) 0, .vptr 1 (fun _ => .int .i64 (p : Nat)) 0, .ptr (5, 0) 0 0].getD j .any))))] 6 (.bool (!(goS stepM (m) (follow e p n (k) (s.toNat) (w) (i))).2)) [(0, .one (.ob (lpP l rec (stopC ((goS stepM (m) (follow e p n (k) (s.toNat) (w) (i))).2))))), (1, .one (.arr 1 1 (fun _ _ => .map (2, 0)))), (2, .one (.mp (mpE strK intV (goS stepM (m) (follow e p n (k) (s.toNat) (w) (i))).1))), (3, .one (.arr 1 6 (fun _ j => decF dd0 j))), (4, .one (.arr 1 1 (fun _ _ => .int .i64 (errI ((goS stepM (m) (follow e p n (k) (s.toNat) (w) (i))).2))))), (5, .one (.arr 1 1 (fun _ _ => .fn 57 5 (fun j => [.vptr 1 (fun _ => .int .i64 (n : Nat)) 0, .vptr 1 (fun _ => .yld l vs 3 (fun j => [.ptr (1, 0) 0 0, .ptr (3, 0) 0 0, .ptr (4, 0) 0 0].getD j .any)) 0, .vptr 4 (encF e) 0, .vptr 1 (fun _ => .int .i64 (p : Nat)) 0, .ptr (5, 0) 0 0].getD j .any))))] 6
set_option maxRecDepth 100000 in
theorem followB_c (l : Nat) (rec : Loop) (vs : Array Value) (hok : RecOK rec [8, 6, 7] vs #[52, 53] (rngA Try.f13.body 0) (rngB Try.f13.body 0) 95) (e : Enc) (hv : checkE e = 0) (p n : Nat) (hn : n ≤ 16) (k0 : Nat) (ih : ∀ k, k < k0 → FolB l rec vs e p n k) (s : Int) (dn : Nat) (w : List UInt8) (i : Int) (m : List (List UInt8 × Int)) (hdn : dn + k0 = n) (hs : 0 ≤ s ∧ s < (e.rows.length : Int)) (hw : (w.length : Int) = (dn : Int) * e.block) : FC1 Try.prog 57 [.int .i64 s, .int .i64 (dn : Nat), .str w, .int .i64 i, .vptr 1 (fun _ => .int .i64 (n : Nat)) 0, .vptr 1 (fun _ => .yld l vs 3 (fun j => [.ptr (1, 0) 0 0, .ptr (3, 0) 0 0, .ptr (4, 0) 0 0].getD j .any)) 0, .vptr 4 (encF e) 0, .vptr 1 (fun _ => .int .i64 (p : Nat)) 0, .ptr (5, 0) 0 0] [(0, .one (.ob (lpP l rec (none)))), (1, .one (.arr 1 1 (fun _ _ => .map (2, 0)))), (2, .one (.mp (mpE strK intV m))), (3, .one (.arr 1 6 (fun _ j => decF dd0 j))), (4, .one (.arr 1 1 (fun _ _ => .int .i64 (0)))), (5, .one (.arr 1 1 (fun _ _ => .fn 57 5 (fun j => [.vptr 1 (fun _ => .int .i64 (n : Nat)) 0, .vptr 1 (fun _ => .yld l vs 3 (fun j => [.ptr (1, 0) 0 0, .ptr (3, 0) 0 0, .ptr (4, 0) 0 0].getD j .any)) 0, .vptr 4 (encF e) 0, .vptr 1 (fun _ => .int .i64 (p : Nat)) 0, .ptr (5, 0) 0 0].getD j .any))))] 6 (.bool (!(goS stepM (m) (follow e p n (k0) (s.toNat) (w) (i))).2)) [(0, .one (.ob (lpP l rec (stopC ((goS stepM (m) (follow e p n (k0) (s.toNat) (w) (i))).2))))), (1, .one (.arr 1 1 (fun _ _ => .map (2, 0)))), (2, .one (.mp (mpE strK intV (goS stepM (m) (follow e p n (k0) (s.toNat) (w) (i))).1))), (3, .one (.arr 1 6 (fun _ j => decF dd0 j))), (4, .one (.arr 1 1 (fun _ _ => .int .i64 (errI ((goS stepM (m) (follow e p n (k0) (s.toNat) (w) (i))).2))))), (5, .one (.arr 1 1 (fun _ _ => .fn 57 5 (fun j => [.vptr 1 (fun _ => .int .i64 (n : Nat)) 0, .vptr 1 (fun _ => .yld l vs 3 (fun j => [.ptr (1, 0) 0 0, .ptr (3, 0) 0 0, .ptr (4, 0) 0 0].getD j .any)) 0, .vptr 4 (encF e) 0, .vptr 1 (fun _ => .int .i64 (p : Nat)) 0, .ptr (5, 0) 0 0].getD j .any))))] 6 := by
  have hbk := (checkE_valid hv).1.block
  have hmb := mul_bd (a := (dn : Int)) (b := e.block) (c := 16) ⟨by omega, by omega⟩ hbk
  refine FC_introS T_ok Try.func57 rfl (by simp [Try.ntmps57]) fun G hG hR => ?_
  simp only [Try.ntmps57, Try.results57] at hG ⊢
  simp only [argEnv, Nat.zero_add, Nat.reduceAdd]
  refine awpS_seq ?_
  refine awpS_reg T_ok fun K hK => ?_
  simp [hG, List.getD_cons_zero, List.getD_cons_succ, -List.getD_eq_getElem?_getD, fol_zero, go_one, folC_zero, goS_nil]
  refine hK _ ?_
  clear K hK
  refine awpS_seq ?_
  refine awpS_seq ?_
  refine awpS_reg T_ok fun K hK => ?_
  simp [hG, List.getD_cons_zero, List.getD_cons_succ, -List.getD_eq_getElem?_getD, fol_zero, go_one, folC_zero, goS_nil]
  refine hK _ ?_
  clear K hK
  refine awpS_cond rfl (fun hb19 => ?_) (fun hb19 => ?_)
  ·
    try simp [-List.getD_eq_getElem?_getD] at hb19
    obtain rfl : k0 = 0 := (by omega)
    refine awpS_seq ?_
    refine awpS_regL ?_
    refine awpL_reg T_ok 3 fun K hK => ?_
    simp [hG, List.getD_cons_zero, List.getD_cons_succ, -List.getD_eq_getElem?_getD, fol_zero, go_one, folC_zero, goS_nil]
    refine hK _ ?_
    clear K hK
    refine awpL_yieldP 0 hR [0, 1, 2, 3, 4] (fun _ => false) (bodyB_y m ⟨w, i⟩ hok) rfl rfl (by rw [hok.params]; rfl) rfl rfl rfl (by simp) (.inl fun _ => rfl) ?_ ?_ ?_ fun K hK x hI hno => ?_
    · simp [hG, List.getD_cons_zero, List.getD_cons_succ, -List.getD_eq_getElem?_getD, fol_zero, go_one, folC_zero, goS_nil]
    · simp [hG, List.range'_succ, List.range'_zero, List.getD_cons_zero, List.getD_cons_succ, -List.getD_eq_getElem?_getD]
    · simp [hG, List.getD_cons_zero, List.getD_cons_succ, -List.getD_eq_getElem?_getD, fol_zero, go_one, folC_zero, goS_nil]
    simp [hG, List.getD_cons_zero, List.getD_cons_succ, -List.getD_eq_getElem?_getD, fol_zero, go_one, folC_zero, goS_nil]
    refine hK _ ?_
    clear K hK
    refine awpL_reg T_ok 1 fun K hK => ?_
    simp [hG, List.getD_cons_zero, List.getD_cons_succ, -List.getD_eq_getElem?_getD, fol_zero, go_one, folC_zero, goS_nil]
    refine hK _ ?_
    clear K hK
    refine awpL_nil ?_
    refine awpS_ret ?_
    refine RetF_of (()) (id) (fun _ => false) (fun _ => false) trivial ?_ ?_ (by rfl) (by simp) (fun k _ => ⟨rfl, rfl⟩)
    · simp [hG, List.getD_cons_zero, List.getD_cons_succ, -List.getD_eq_getElem?_getD, fol_zero, go_one, folC_zero, goS_nil]
    · simp [hG, List.getD_cons_zero, List.getD_cons_succ, -List.getD_eq_getElem?_getD, fol_zero, go_one, folC_zero, goS_nil]
  ·
    try simp [-List.getD_eq_getElem?_getD] at hb19
    obtain ⟨k, rfl⟩ : ∃ k, k0 = k + 1 := ⟨k0 - 1, by omega⟩
    have hsl : s.toNat < e.rows.length := (by omega)
    have hrl := row_len hv hsl
    refine awpS_skip ?_
    refine awpS_seq ?_
    refine awpS_seq ?_
    refine awpS_reg T_ok fun K hK => ?_
    simp [hG, List.getD_cons_zero, List.getD_cons_succ, -List.getD_eq_getElem?_getD, fol_zero, go_one, folC_zero, goS_nil]
    refine ⟨Cond.mk (by omega), hK _ ?_⟩
    clear K hK
    refine awpS_block ?_
    refine awpS_loop (α := Nat) (fun c => ⟨[(0, .int .i64 s), (1, .int .i64 (dn : Nat)), (2, .str w), (3, .int .i64 i), (4, .vptr 1 (fun _ => .int .i64 (n : Nat)) 0), (5, .vptr 1 (fun _ => .yld l vs 3 (fun j => [.ptr (1, 0) 0 0, .ptr (3, 0) 0 0, .ptr (4, 0) 0 0].getD j .any)) 0), (6, .vptr 4 (encF e) 0), (7, .vptr 1 (fun _ => .int .i64 (p : Nat)) 0), (8, .ptr (5, 0) 0 0), (28, cells (e.rows.getD s.toNat [])), (29, .int .i64 (e.rows.getD s.toNat []).length), (30, .int .i64 (c : Nat))], [(0, .one (.ob (lpP l rec (none)))), (1, .one (.arr 1 1 (fun _ _ => .map (2, 0)))), (2, .one (.mp (mpE strK intV (goS stepM m (folC e p n k s.toNat w i c)).1))), (3, .one (.arr 1 6 (fun _ j => decF dd0 j))), (4, .one (.arr 1 1 (fun _ _ => .int .i64 (0)))), (5, .one (.arr 1 1 (fun _ _ => .fn 57 5 (fun j => [.vptr 1 (fun _ => .int .i64 (n : Nat)) 0, .vptr 1 (fun _ => .yld l vs 3 (fun j => [.ptr (1, 0) 0 0, .ptr (3, 0) 0 0, .ptr (4, 0) 0 0].getD j .any)) 0, .vptr 4 (encF e) 0, .vptr 1 (fun _ => .int .i64 (p : Nat)) 0, .ptr (5, 0) 0 0].getD j .any))))], 6⟩) (fun c => c ≤ (e.rows.getD s.toNat []).length ∧ (goS stepM m (folC e p n k s.toNat w i c)).2 = false) (fun c => (e.rows.getD s.toNat []).length - c) (0) (⟨Nat.zero_le _, rfl⟩) ?_ ?_
    ·
      refine wk_of (id) (fun _ => false) (fun _ => false) ?_ ?_ rfl (by simp) (fun k hk => by first | exact ⟨rfl, rfl⟩ | (revert k; decide) | (obtain rfl : k = 0 := (by omega); exact ⟨rfl, rfl⟩) | (have hk2 : k = 0 ∨ k = 1 := (by omega); rcases hk2 with rfl | rfl <;> exact ⟨rfl, rfl⟩))
      · simp [hG, List.getD_cons_zero, List.getD_cons_succ, -List.getD_eq_getElem?_getD, fol_zero, go_one, folC_zero, goS_nil]
      · simp [hG, List.getD_cons_zero, List.getD_cons_succ, -List.getD_eq_getElem?_getD, fol_zero, go_one, folC_zero, goS_nil]
    ·
      rintro c ⟨hci, hc⟩
      refine awpS_seq ?_
      refine awpS_reg T_ok fun K hK => ?_
      simp [hG, List.getD_cons_zero, List.getD_cons_succ, -List.getD_eq_getElem?_getD, fol_zero, go_one, folC_zero, goS_nil]
      refine hK _ ?_
      clear K hK
      refine awpS_seq ?_
      refine awpS_cond rfl (fun hb31 => ?_) (fun hb31 => ?_)
      ·
        try simp [-List.getD_eq_getElem?_getD] at hb31
        have hil : c < (e.rows.getD s.toNat []).length := (by omega)
        have hto := cell_to hv hsl hil
        have hwl := cell_wlen hv hsl hil
        unfold cellAt at hto hwl
        have hwc : ((w ++ ((e.rows.getD s.toNat []).getD c dc).word).length : Int) = ((dn + 1 : Nat) : Int) * e.block := (by rw [List.length_append]; push_cast; rw [Int.add_mul]; omega)
        have hMC : goS stepM m (folC e p n k s.toNat w i (c + 1)) = (goS stepM ((goS stepM m (folC e p n k s.toNat w i c)).1) (follow e p n (k) (((e.rows.getD s.toNat []).getD c dc).to.toNat) (w ++ ((e.rows.getD s.toNat []).getD c dc).word) ((if n - (k + 1) = p then (c : Int) else i)))) := (by rw [folC_succ, go_more hc]; rfl)
        refine awpS_skip ?_
        refine awpS_seq ?_
        refine awpS_block ?_
        refine awpS_seq ?_
        refine awpS_reg T_ok fun K hK => ?_
        simp [hG, List.getD_cons_zero, List.getD_cons_succ, -List.getD_eq_getElem?_getD, fol_zero, go_one, folC_zero, goS_nil]
        refine ⟨Cond.mk (by simp [-List.getD_eq_getElem?_getD]; omega), hK _ ?_⟩
        clear K hK
        refine awpS_seq ?_
        refine awpS_reg T_ok fun K hK => ?_
        simp [hG, List.getD_cons_zero, List.getD_cons_succ, -List.getD_eq_getElem?_getD, fol_zero, go_one, folC_zero, goS_nil]
        refine hK _ ?_
        clear K hK
        refine awpS_seq ?_
        refine awpS_seq ?_
        refine awpS_reg T_ok fun K hK => ?_
        simp [hG, List.getD_cons_zero, List.getD_cons_succ, -List.getD_eq_getElem?_getD, fol_zero, go_one, folC_zero, goS_nil]
        refine hK _ ?_
        clear K hK
        refine awpS_cond rfl (fun hb38 => ?_) (fun hb38 => ?_)
        ·
          try simp [-List.getD_eq_getElem?_getD] at hb38
          have how : (if n - (k + 1) = p then (c : Int) else i) = (c : Int) := if_pos (by omega)
          refine awpS_reg T_ok fun K hK => ?_
          simp [hG, List.getD_cons_zero, List.getD_cons_succ, -List.getD_eq_getElem?_getD, fol_zero, go_one, folC_zero, goS_nil]
          refine hK _ ?_
          clear K hK
          refine awpS_seq ?_
          refine awpS_regL ?_
          refine awpL_reg T_ok 10 fun K hK => ?_
          simp [hG, List.getD_cons_zero, List.getD_cons_succ, -List.getD_eq_getElem?_getD, fol_zero, go_one, folC_zero, goS_nil]
          refine ⟨Cond.mk (by omega), hK _ ?_⟩
          clear K hK
          refine awpL_fc cal57 [0, 1, 2, 3, 4, 5] (fun _ => false) (ih k (by omega) ((e.rows.getD s.toNat []).getD c dc).to (dn + 1) (w ++ ((e.rows.getD s.toNat []).getD c dc).word) (if n - (k + 1) = p then (c : Int) else i) (goS stepM m (folC e p n k s.toNat w i c)).1 (by omega) hto hwc) rfl rfl rfl (by simp) (.inl fun _ => rfl) ?_ ?_ ?_ fun K hK x hI hno => ?_
          · simp [hG, List.getD_cons_zero, List.getD_cons_succ, -List.getD_eq_getElem?_getD, fol_zero, go_one, folC_zero, goS_nil]
          · simp [hG, List.range'_succ, List.range'_zero, List.getD_cons_zero, List.getD_cons_succ, -List.getD_eq_getElem?_getD]; intro h; omega
          · simp [hG, List.getD_cons_zero, List.getD_cons_succ, -List.getD_eq_getElem?_getD, fol_zero, go_one, folC_zero, goS_nil]
          simp [hG, List.getD_cons_zero, List.getD_cons_succ, -List.getD_eq_getElem?_getD, fol_zero, go_one, folC_zero, goS_nil]
          refine hK _ ?_
          clear K hK
          refine awpL_reg T_ok 1 fun K hK => ?_
          simp [hG, List.getD_cons_zero, List.getD_cons_succ, -List.getD_eq_getElem?_getD, fol_zero, go_one, folC_zero, goS_nil]
          refine hK _ ?_
          clear K hK
          refine awpL_nil ?_
          refine awpS_cond rfl (fun hb51 => ?_) (fun hb51 => ?_)
          ·
            try simp [-List.getD_eq_getElem?_getD] at hb51
            have hfs := (fol_stop (f := stepM) (m := m) (e := e) (past := p) (n := n) (k := k) (s := s.toNat) (w := w) (i := i) (c := c + 1) (by omega) (by rw [hMC]; exact hb51)).trans hMC
            refine awpS_seq ?_
            refine awpS_reg T_ok fun K hK => ?_
            simp [hG, List.getD_cons_zero, List.getD_cons_succ, -List.getD_eq_getElem?_getD, fol_zero, go_one, folC_zero, goS_nil]
            refine hK _ ?_
            clear K hK
            refine awpS_ret ?_
            refine blockQ_ret (thenQ_ret ?_)
            refine thenQ_ret (thenQ_ret ?_)
            refine blockQ_ret (thenQ_ret ?_)
            refine RetF_of (()) (id) (fun _ => false) (fun _ => false) trivial ?_ ?_ (by rfl) (by simp) (fun k _ => ⟨rfl, rfl⟩)
            · rw [hfs]; simp [hG, hb51, List.getD_cons_zero, List.getD_cons_succ, -List.getD_eq_getElem?_getD]
            · rw [hfs]; simp [hG, hb51, List.getD_cons_zero, List.getD_cons_succ, -List.getD_eq_getElem?_getD]
          ·
            try simp [-List.getD_eq_getElem?_getD] at hb51
            refine awpS_skip ?_
            refine awpS_nil ?_
            refine blockQ_norm (thenQ_norm ?_)
            refine awpS_reg T_ok fun K hK => ?_
            simp [hG, List.getD_cons_zero, List.getD_cons_succ, -List.getD_eq_getElem?_getD, fol_zero, go_one, folC_zero, goS_nil]
            refine ⟨Cond.mk (by omega), hK _ ?_⟩
            clear K hK
            refine awpS_nil ?_
            refine round_end (c + 1) (⟨by omega, by rw [hMC]; simpa using hb51⟩) (by omega) ?_
            refine wk_of (id) (fun _ => false) (fun _ => false) ?_ ?_ rfl (by simp) (fun k hk => by first | exact ⟨rfl, rfl⟩ | (revert k; decide) | (obtain rfl : k = 0 := (by omega); exact ⟨rfl, rfl⟩) | (have hk2 : k = 0 ∨ k = 1 := (by omega); rcases hk2 with rfl | rfl <;> exact ⟨rfl, rfl⟩))
            · simp [hG, List.getD_cons_zero, List.getD_cons_succ, -List.getD_eq_getElem?_getD, fol_zero, go_one, folC_zero, goS_nil]
            · rw [hMC]; simp [hG, hb51, List.getD_cons_zero, List.getD_cons_succ, -List.getD_eq_getElem?_getD]
        ·
          try simp [-List.getD_eq_getElem?_getD] at hb38
          have how : (if n - (k + 1) = p then (c : Int) else i) = i := if_neg (by omega)
          refine awpS_skip ?_
          refine awpS_seq ?_
          refine awpS_regL ?_
          refine awpL_reg T_ok 10 fun K hK => ?_
          simp [hG, List.getD_cons_zero, List.getD_cons_succ, -List.getD_eq_getElem?_getD, fol_zero, go_one, folC_zero, goS_nil]
          refine ⟨Cond.mk (by omega), hK _ ?_⟩
          clear K hK
          refine awpL_fc cal57 [0, 1, 2, 3, 4, 5] (fun _ => false) (ih k (by omega) ((e.rows.getD s.toNat []).getD c dc).to (dn + 1) (w ++ ((e.rows.getD s.toNat []).getD c dc).word) (if n - (k + 1) = p then (c : Int) else i) (goS stepM m (folC e p n k s.toNat w i c)).1 (by omega) hto hwc) rfl rfl rfl (by simp) (.inl fun _ => rfl) ?_ ?_ ?_ fun K hK x hI hno => ?_
          · simp [hG, List.getD_cons_zero, List.getD_cons_succ, -List.getD_eq_getElem?_getD, fol_zero, go_one, folC_zero, goS_nil]
          · simp [hG, List.range'_succ, List.range'_zero, List.getD_cons_zero, List.getD_cons_succ, -List.getD_eq_getElem?_getD]; intro h; omega
          · simp [hG, List.getD_cons_zero, List.getD_cons_succ, -List.getD_eq_getElem?_getD, fol_zero, go_one, folC_zero, goS_nil]
          simp [hG, List.getD_cons_zero, List.getD_cons_succ, -List.getD_eq_getElem?_getD, fol_zero, go_one, folC_zero, goS_nil]
          refine hK _ ?_
          clear K hK
          refine awpL_reg T_ok 1 fun K hK => ?_
          simp [hG, List.getD_cons_zero, List.getD_cons_succ, -List.getD_eq_getElem?_getD, fol_zero, go_one, folC_zero, goS_nil]
          refine hK _ ?_
          clear K hK
          refine awpL_nil ?_
          refine awpS_cond rfl (fun hb51 => ?_) (fun hb51 => ?_)
          ·
            try simp [-List.getD_eq_getElem?_getD] at hb51
            have hfs := (fol_stop (f := stepM) (m := m) (e := e) (past := p) (n := n) (k := k) (s := s.toNat) (w := w) (i := i) (c := c + 1) (by omega) (by rw [hMC]; exact hb51)).trans hMC
            refine awpS_seq ?_
            refine awpS_reg T_ok fun K hK => ?_
            simp [hG, List.getD_cons_zero, List.getD_cons_succ, -List.getD_eq_getElem?_getD, fol_zero, go_one, folC_zero, goS_nil]
            refine hK _ ?_
            clear K hK
            refine awpS_ret ?_
            refine blockQ_ret (thenQ_ret ?_)
            refine thenQ_ret (thenQ_ret ?_)
            refine blockQ_ret (thenQ_ret ?_)
            refine RetF_of (()) (id) (fun _ => false) (fun _ => false) trivial ?_ ?_ (by rfl) (by simp) (fun k _ => ⟨rfl, rfl⟩)
            · rw [hfs]; simp [hG, hb51, List.getD_cons_zero, List.getD_cons_succ, -List.getD_eq_getElem?_getD]
            · rw [hfs]; simp [hG, hb51, List.getD_cons_zero, List.getD_cons_succ, -List.getD_eq_getElem?_getD]
          ·
            try simp [-List.getD_eq_getElem?_getD] at hb51
            refine awpS_skip ?_
            refine awpS_nil ?_
            refine blockQ_norm (thenQ_norm ?_)
            refine awpS_reg T_ok fun K hK => ?_
            simp [hG, List.getD_cons_zero, List.getD_cons_succ, -List.getD_eq_getElem?_getD, fol_zero, go_one, folC_zero, goS_nil]
            refine ⟨Cond.mk (by omega), hK _ ?_⟩
            clear K hK
            refine awpS_nil ?_
            refine round_end (c + 1) (⟨by omega, by rw [hMC]; simpa using hb51⟩) (by omega) ?_
            refine wk_of (id) (fun _ => false) (fun _ => false) ?_ ?_ rfl (by simp) (fun k hk => by first | exact ⟨rfl, rfl⟩ | (revert k; decide) | (obtain rfl : k = 0 := (by omega); exact ⟨rfl, rfl⟩) | (have hk2 : k = 0 ∨ k = 1 := (by omega); rcases hk2 with rfl | rfl <;> exact ⟨rfl, rfl⟩))
            · simp [hG, List.getD_cons_zero, List.getD_cons_succ, -List.getD_eq_getElem?_getD, fol_zero, go_one, folC_zero, goS_nil]
            · rw [hMC]; simp [hG, hb51, List.getD_cons_zero, List.getD_cons_succ, -List.getD_eq_getElem?_getD]
      ·
        try simp [-List.getD_eq_getElem?_getD] at hb31
        obtain rfl : c = (e.rows.getD s.toNat []).length := (by omega)
        have hfe : goS stepM m (follow e p n (k + 1) s.toNat w i) = goS stepM m (folC e p n k s.toNat w i (e.rows.getD s.toNat []).length) := (by rw [fol_full])
        refine awpS_exit ?_
        refine thenQ_exit (thenQ_exit ?_)
        refine blockQ_exit (thenQ_norm ?_)
        refine awpS_seq ?_
        refine awpS_reg T_ok fun K hK => ?_
        simp [hG, List.getD_cons_zero, List.getD_cons_succ, -List.getD_eq_getElem?_getD, fol_zero, go_one, folC_zero, goS_nil]
        refine hK _ ?_
        clear K hK
        refine awpS_ret ?_
        refine RetF_of (()) (id) (fun _ => false) (fun _ => false) trivial ?_ ?_ (by rfl) (by simp) (fun k _ => ⟨rfl, rfl⟩)
        · rw [hfe]; simp [hG, hc, List.getD_cons_zero, List.getD_cons_succ, -List.getD_eq_getElem?_getD]
        · rw [hfe]; simp [hG, hc, List.getD_cons_zero, List.getD_cons_succ, -List.getD_eq_getElem?_getD]
theorem folB_all {l : Nat} {rec : Loop} {vs : Array Value} (hok : RecOK rec [8, 6, 7] vs #[52, 53] (rngA Try.f13.body 0) (rngB Try.f13.body 0) 95) {e : Enc} (hv : checkE e = 0) {p n : Nat} (hn : n ≤ 16) (k : Nat) : FolB l rec vs e p n k := Nat.strongRecOn k fun k ih s dn w i m hdn hs hw => followB_c l rec vs hok e hv p n hn k ih s dn w i m hdn hs hw

set_option maxRecDepth 100000 in
theorem pathsB_c (l : Nat) (rec : Loop) (vs : Array Value) (hok : RecOK rec [8, 6, 7] vs #[52, 53] (rngA Try.f13.body 0) (rngB Try.f13.body 0) 95) (e : Enc) (hv : checkE e = 0) (p f : Nat) (hn : p + 1 + f ≤ 16) (m : List (List UInt8 × Int)) : FC1 Try.prog 56 [.yld l vs 3 (fun j => [.ptr (1, 0) 0 0, .ptr (3, 0) 0 0, .ptr (4, 0) 0 0].getD j .any), .vptr 1 (fun _ => .int .i64 (p : Nat)) 0, .vptr 1 (fun _ => .int .i64 (f : Nat)) 0, .vptr 4 (encF e) 0] [(0, .one (.ob (lpP l rec (none)))), (1, .one (.arr 1 1 (fun _ _ => .map (2, 0)))), (2, .one (.mp (mpE strK intV m))), (3, .one (.arr 1 6 (fun _ j => decF dd0 j))), (4, .one (.arr 1 1 (fun _ _ => .int .i64 (0))))] 5 (.tup 0 (fun _ => .any)) [(0, .one (.ob (lpP l rec (stopC (goS stepM m (pathsL e p f)).2)))), (1, .one (.arr 1 1 (fun _ _ => .map (2, 0)))), (2, .one (.mp (mpE strK intV (goS stepM m (pathsL e p f)).1))), (3, .one (.arr 1 6 (fun _ j => decF dd0 j))), (4, .one (.arr 1 1 (fun _ _ => .int .i64 (errI (goS stepM m (pathsL e p f)).2))))] 5 := by
  have h64 := rows_len hv
  refine FC_introS T_ok Try.func56 rfl (by simp [Try.ntmps56]) fun G hG hR => ?_
  simp only [Try.ntmps56, Try.results56] at hG ⊢
  simp only [argEnv, Nat.zero_add, Nat.reduceAdd]
  refine awpS_seq ?_
  refine awpS_reg T_ok fun K hK => ?_
  simp [hG, List.getD_cons_zero, List.getD_cons_succ, -List.getD_eq_getElem?_getD, goS_nil, pathC_zero]
  refine ⟨Cond.mk (by exact trivial), hK _ ?_⟩
  clear K hK
  refine awpS_seq ?_
  refine awpS_reg T_ok fun K hK => ?_
  simp [hG, List.getD_cons_zero, List.getD_cons_succ, -List.getD_eq_getElem?_getD, goS_nil, pathC_zero]
  refine ⟨Cond.mk (by omega), hK _ ?_⟩
  clear K hK
  refine awpS_seq ?_
  refine awpS_reg T_ok fun K hK => ?_
  simp [hG, List.getD_cons_zero, List.getD_cons_succ, -List.getD_eq_getElem?_getD, goS_nil, pathC_zero]
  refine hK _ ?_
  clear K hK
  refine awpS_seq ?_
  refine awpS_reg T_ok fun K hK => ?_
  simp [hG, List.getD_cons_zero, List.getD_cons_succ, -List.getD_eq_getElem?_getD, goS_nil, pathC_zero]
  refine hK _ ?_
  clear K hK
  refine awpS_seq ?_
  refine awpS_wk (st2 := ⟨[(1, .vptr 1 (fun _ => .int .i64 (p : Nat)) 0), (2, .vptr 1 (fun _ => .int .i64 (f : Nat)) 0), (3, .vptr 4 (encF e) 0), (6, .ptr (5, 0) 0 0)], [(0, .one (.ob (lpP l rec (none)))), (1, .one (.arr 1 1 (fun _ _ => .map (2, 0)))), (2, .one (.mp (mpE strK intV m))), (3, .one (.arr 1 6 (fun _ j => decF dd0 j))), (4, .one (.arr 1 1 (fun _ _ => .int .i64 (0)))), (5, .one (.arr 1 1 (fun _ _ => .fn 57 5 (fun j => [.vptr 1 (fun _ => .int .i64 (p + 1 + f : Nat)) 0, .vptr 1 (fun _ => .yld l vs 3 (fun j => [.ptr (1, 0) 0 0, .ptr (3, 0) 0 0, .ptr (4, 0) 0 0].getD j .any)) 0, .vptr 4 (encF e) 0, .vptr 1 (fun _ => .int .i64 (p : Nat)) 0, .ptr (5, 0) 0 0].getD j .any))))], 6⟩) ?_ ?_
  ·
    refine wk_of (fun k => if k = 5 then 7 else k) (fun k => k == 5 || k == 6) (fun _ => false) ?_ ?_ rfl (by simp) (fun k hk => by first | exact ⟨rfl, rfl⟩ | (revert k; decide) | (obtain rfl : k = 0 := (by omega); exact ⟨rfl, rfl⟩) | (have hk2 : k = 0 ∨ k = 1 := (by omega); rcases hk2 with rfl | rfl <;> exact ⟨rfl, rfl⟩))
    · simp [hG, List.getD_cons_zero, List.getD_cons_succ, -List.getD_eq_getElem?_getD, goS_nil, pathC_zero]
    · simp [hG, List.getD_cons_zero, List.getD_cons_succ, -List.getD_eq_getElem?_getD, goS_nil, pathC_zero]
  refine awpS_reg T_ok fun K hK => ?_
  simp [hG, List.getD_cons_zero, List.getD_cons_succ, -List.getD_eq_getElem?_getD, goS_nil, pathC_zero]
  refine hK _ ?_
  clear K hK
  refine awpS_block ?_
  refine awpS_loop (α := Nat) (fun s => ⟨[(3, .vptr 4 (encF e) 0), (6, .ptr (5, 0) 0 0), (15, .int .i64 e.rows.length), (16, .int .i64 (s : Nat))], [(0, .one (.ob (lpP l rec (none)))), (1, .one (.arr 1 1 (fun _ _ => .map (2, 0)))), (2, .one (.mp (mpE strK intV (goS stepM m (pathC e p f s)).1))), (3, .one (.arr 1 6 (fun _ j => decF dd0 j))), (4, .one (.arr 1 1 (fun _ _ => .int .i64 (0)))), (5, .one (.arr 1 1 (fun _ _ => .fn 57 5 (fun j => [.vptr 1 (fun _ => .int .i64 (p + 1 + f : Nat)) 0, .vptr 1 (fun _ => .yld l vs 3 (fun j => [.ptr (1, 0) 0 0, .ptr (3, 0) 0 0, .ptr (4, 0) 0 0].getD j .any)) 0, .vptr 4 (encF e) 0, .vptr 1 (fun _ => .int .i64 (p : Nat)) 0, .ptr (5, 0) 0 0].getD j .any))))], 6⟩) (fun s => s ≤ e.rows.length ∧ (goS stepM m (pathC e p f s)).2 = false) (fun s => e.rows.length - s) (0) (⟨Nat.zero_le _, rfl⟩) ?_ ?_
  ·
    refine wk_of (id) (fun _ => false) (fun _ => false) ?_ ?_ rfl (by simp) (fun k hk => by first | exact ⟨rfl, rfl⟩ | (revert k; decide) | (obtain rfl : k = 0 := (by omega); exact ⟨rfl, rfl⟩) | (have hk2 : k = 0 ∨ k = 1 := (by omega); rcases hk2 with rfl | rfl <;> exact ⟨rfl, rfl⟩))
    · simp [hG, List.getD_cons_zero, List.getD_cons_succ, -List.getD_eq_getElem?_getD, goS_nil, pathC_zero]
    · simp [hG, List.getD_cons_zero, List.getD_cons_succ, -List.getD_eq_getElem?_getD, goS_nil, pathC_zero]
  ·
    rintro s ⟨hsi, hc⟩
    refine awpS_seq ?_
    refine awpS_reg T_ok fun K hK => ?_
    simp [hG, List.getD_cons_zero, List.getD_cons_succ, -List.getD_eq_getElem?_getD, goS_nil, pathC_zero]
    refine hK _ ?_
    clear K hK
    refine awpS_seq ?_
    refine awpS_cond rfl (fun hb17 => ?_) (fun hb17 => ?_)
    ·
      try simp [-List.getD_eq_getElem?_getD] at hb17
      have hsl : s < e.rows.length := (by omega)
      have hMC : goS stepM m (pathC e p f (s + 1)) = (goS stepM (goS stepM m (pathC e p f s)).1 (follow e p (p + 1 + f) (p + 1 + f) s [] 0)) := (by rw [pathC_succ, go_more hc])
      refine awpS_skip ?_
      refine awpS_seq ?_
      refine awpS_block ?_
      refine awpS_seq ?_
      refine awpS_reg T_ok fun K hK => ?_
      simp [hG, List.getD_cons_zero, List.getD_cons_succ, -List.getD_eq_getElem?_getD, goS_nil, pathC_zero]
      refine hK _ ?_
      clear K hK
      refine awpS_seq ?_
      refine awpS_regL ?_
      refine awpL_reg T_ok 2 fun K hK => ?_
      simp [hG, List.getD_cons_zero, List.getD_cons_succ, -List.getD_eq_getElem?_getD, goS_nil, pathC_zero]
      refine hK _ ?_
      clear K hK
      refine awpL_fc cal57 [0, 1, 2, 3, 4, 5] (fun _ => false) (folB_all (l := l) (rec := rec) (vs := vs) (e := e) (p := p) (n := p + 1 + f) hok hv hn (p + 1 + f) (s : Nat) 0 [] 0 (goS stepM m (pathC e p f s)).1 (by omega) (by omega) (by simp)) rfl rfl rfl (by simp) (.inl fun _ => rfl) ?_ ?_ ?_ fun K hK x hI hno => ?_
      · simp [hG, List.getD_cons_zero, List.getD_cons_succ, -List.getD_eq_getElem?_getD, goS_nil, pathC_zero]
      · simp [hG, List.range'_succ, List.range'_zero, List.getD_cons_zero, List.getD_cons_succ, -List.getD_eq_getElem?_getD]
      · simp [hG, List.getD_cons_zero, List.getD_cons_succ, -List.getD_eq_getElem?_getD, goS_nil, pathC_zero]
      simp [hG, List.getD_cons_zero, List.getD_cons_succ, -List.getD_eq_getElem?_getD, goS_nil, pathC_zero]
      refine hK _ ?_
      clear K hK
      refine awpL_reg T_ok 1 fun K hK => ?_
      simp [hG, List.getD_cons_zero, List.getD_cons_succ, -List.getD_eq_getElem?_getD, goS_nil, pathC_zero]
      refine hK _ ?_
      clear K hK
      refine awpL_nil ?_
      refine awpS_cond rfl (fun hb22 => ?_) (fun hb22 => ?_)
      ·
        try simp [-List.getD_eq_getElem?_getD] at hb22
        have hfs := (path_stop (f := stepM) (m := m) (e := e) (p := p) (g := f) (c := s + 1) (by omega) (by rw [hMC]; exact hb22)).trans hMC
        refine awpS_ret ?_
        refine blockQ_ret (thenQ_ret ?_)
        refine thenQ_ret (thenQ_ret ?_)
        refine blockQ_ret (thenQ_ret ?_)
        refine RetF_of (()) (id) (fun _ => false) (fun _ => false) trivial ?_ ?_ (by rfl) (by simp) (fun k _ => ⟨rfl, rfl⟩)
        · simp [hG, List.getD_cons_zero, List.getD_cons_succ, -List.getD_eq_getElem?_getD, goS_nil, pathC_zero]
        · rw [hfs]; simp [hG, hb22, List.getD_cons_zero, List.getD_cons_succ, -List.getD_eq_getElem?_getD]
      ·
        try simp [-List.getD_eq_getElem?_getD] at hb22
        refine awpS_skip ?_
        refine awpS_nil ?_
        refine blockQ_norm (thenQ_norm ?_)
        refine awpS_reg T_ok fun K hK => ?_
        simp [hG, List.getD_cons_zero, List.getD_cons_succ, -List.getD_eq_getElem?_getD, goS_nil, pathC_zero]
        refine ⟨Cond.mk (by omega), hK _ ?_⟩
        clear K hK
        refine awpS_nil ?_
        refine round_end (s + 1) (⟨by omega, by rw [hMC]; simpa using hb22⟩) (by omega) ?_
        refine wk_of (id) (fun _ => false) (fun _ => false) ?_ ?_ rfl (by simp) (fun k hk => by first | exact ⟨rfl, rfl⟩ | (revert k; decide) | (obtain rfl : k = 0 := (by omega); exact ⟨rfl, rfl⟩) | (have hk2 : k = 0 ∨ k = 1 := (by omega); rcases hk2 with rfl | rfl <;> exact ⟨rfl, rfl⟩))
        · simp [hG, List.getD_cons_zero, List.getD_cons_succ, -List.getD_eq_getElem?_getD, goS_nil, pathC_zero]
        · rw [hMC]; simp [hG, hb22, List.getD_cons_zero, List.getD_cons_succ, -List.getD_eq_getElem?_getD]
    ·
      try simp [-List.getD_eq_getElem?_getD] at hb17
      obtain rfl : s = e.rows.length := (by omega)
      have hfe : goS stepM m (pathsL e p f) = goS stepM m (pathC e p f e.rows.length) := (by rw [path_full])
      refine awpS_exit ?_
      refine thenQ_exit (thenQ_exit ?_)
      refine blockQ_exit (thenQ_norm ?_)
      refine awpS_nil ?_
      refine RetF_of (()) (id) (fun _ => false) (fun _ => false) trivial ?_ ?_ (by rfl) (by simp) (fun k _ => ⟨rfl, rfl⟩)
      · simp [hG, List.getD_cons_zero, List.getD_cons_succ, -List.getD_eq_getElem?_getD, goS_nil, pathC_zero]
      · rw [hfe]; simp [hG, hc, List.getD_cons_zero, List.getD_cons_succ, -List.getD_eq_getElem?_getD]

end Go.Proofs.Ytmdnpbilnelogaa
