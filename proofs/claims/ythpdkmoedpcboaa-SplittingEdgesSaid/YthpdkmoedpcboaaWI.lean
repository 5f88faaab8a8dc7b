/-
 Walks: splits found in a round; rounds compared.
-/
import Derived.Test.YthpdkmoedpcboaaWG
import Derived.Test.YthpdkmoedpcboaaNC
namespace Go.Proofs.Ythpdkmoedpcboaa
set_option linter.unusedSimpArgs false
set_option linter.unusedVariables false
open Go Go.Lift Go.Proofs
set_option maxRecDepth 100000 in
theorem indexS_c (l : List Spl) (q : Spl → Bool) (hfn hn : Nat) (hc : Nat → AVal) (hl : l.length ≤ 1000000) (hcal : Callable Try.prog hfn) (hclo : ∀ j, Clo (hc j)) (hp : ∀ x ∈ l, PC Try.prog hfn (.agg 2 (splF x) :: (List.range' 0 hn).map hc) (.bool (q x))) : PC Try.prog 23 [spls l, .fn hfn hn hc] (.int .i64 (placeG l q)) := by
 have hV : ∀ {h : Heap} {σ : Lift.Id → Lift.Id} {fz : Nat → Bool} {vz : Lift.Id → Bool} {nx j : Nat}, VLe h σ fz vz nx (hc j) (hc j) := fun {h σ fz vz nx j} => Clo.le _ (hclo j)
 have hV2 : ∀ {h : Heap} {σ : Lift.Id → Lift.Id} {fz : Nat → Bool} {vz : Lift.Id → Bool} {nx : Nat}, VLe h σ fz vz nx (.fn hfn hn hc) (.fn hfn hn hc) := fun {h σ fz vz nx} => Clo.le _ fun j _ => hclo j
 refine PC_introS T_ok Try.func23 rfl (by simp [Try.ntmps23]) fun G hG hR => ?_
 simp only [Try.ntmps23, Try.results23] at hG ⊢
 simp only [argEnv, Nat.zero_add, Nat.reduceAdd]
 refine awpS_seq ?_
 refine awpS_reg T_ok fun K hK => ?_
 simp [hG, List.getD_cons_zero, List.getD_cons_succ, -List.getD_eq_getElem?_getD, hV, hV2]
 refine hK _ ?_
 clear K hK
 refine awpS_seq ?_
 refine awpS_seq ?_
 refine awpS_reg T_ok fun K hK => ?_
 simp [hG, List.getD_cons_zero, List.getD_cons_succ, -List.getD_eq_getElem?_getD, hV, hV2]
 refine hK _ ?_
 clear K hK
 refine awpS_block ?_
 refine awpS_loop (α := Nat) (fun i => ⟨[(0, spls l), (1, .fn hfn hn hc), (7, .int .i64 l.length), (8, .int .i64 i)], [], 0⟩) (fun i => i ≤ l.length ∧ ∀ j, j < i → q (l.getD j ds) = false) (fun i => l.length - i) (0) (⟨Nat.zero_le _, fun j hj => absurd hj (Nat.not_lt_zero _)⟩) ?_ ?_
 ·
  refine wk_of (id) (fun _ => false) (fun _ => false) ?_ ?_ rfl (Nat.zero_le _) (fun k hk => absurd hk (Nat.not_lt_zero _))
  · simp [hG, List.getD_cons_zero, List.getD_cons_succ, -List.getD_eq_getElem?_getD, hV, hV2]
  · simp [hG, List.getD_cons_zero, List.getD_cons_succ, -List.getD_eq_getElem?_getD, hV, hV2]
 ·
  rintro i ⟨hi, hn0⟩
  refine awpS_seq ?_
  refine awpS_reg T_ok fun K hK => ?_
  simp [hG, List.getD_cons_zero, List.getD_cons_succ, -List.getD_eq_getElem?_getD, hV, hV2]
  refine hK _ ?_
  clear K hK
  refine awpS_seq ?_
  refine awpS_cond rfl (fun hb9 => ?_) (fun hb9 => ?_)
  ·
   try simp [-List.getD_eq_getElem?_getD] at hb9
   refine awpS_skip ?_
   refine awpS_seq ?_
   refine awpS_block ?_
   refine awpS_seq ?_
   refine awpS_reg T_ok fun K hK => ?_
   simp [hG, List.getD_cons_zero, List.getD_cons_succ, -List.getD_eq_getElem?_getD, hV, hV2]
   refine hK _ ?_
   clear K hK
   refine awpS_seq ?_
   refine awpS_regL ?_
   refine awpL_reg T_ok 5 fun K hK => ?_
   simp [hG, List.getD_cons_zero, List.getD_cons_succ, -List.getD_eq_getElem?_getD, hV, hV2]
   refine ⟨Cond.mk (by omega), hK _ ?_⟩
   clear K hK
   refine awpL_call hcal rfl rfl (fun _ => rfl) (fun hg => hp _ (getD_mem (d := ds) (by simpa using hb9))) (fun hg => ?_) (fun hg => ?_) fun K hK => ?_
   · simp [hG, List.getD_cons_zero, List.getD_cons_succ, -List.getD_eq_getElem?_getD, hV, hV2]
   · simp [hG, List.getD_cons_zero, List.getD_cons_succ, -List.getD_eq_getElem?_getD]; first | exact argsLe_caps fun j _ => hclo j | exact ⟨Clo.le _ (fun j hj => ⟨one_splF, Clo_splF⟩), argsLe_caps fun j _ => hclo j⟩
   simp [hG, List.getD_cons_zero, List.getD_cons_succ, -List.getD_eq_getElem?_getD, hV, hV2]
   refine hK _ ?_
   clear K hK
   refine awpL_nil ?_
   refine awpS_cond rfl (fun hb16 => ?_) (fun hb16 => ?_)
   ·
    try simp [-List.getD_eq_getElem?_getD] at hb16
    refine awpS_seq ?_
    refine awpS_reg T_ok fun K hK => ?_
    simp [hG, List.getD_cons_zero, List.getD_cons_succ, -List.getD_eq_getElem?_getD, hV, hV2]
    refine hK _ ?_
    clear K hK
    refine awpS_ret ?_
    refine blockQ_ret (thenQ_ret ?_)
    refine thenQ_ret (thenQ_ret ?_)
    refine blockQ_ret (thenQ_ret ?_)
    refine RetOK_of ?_
    simp [hG, List.getD_cons_zero, List.getD_cons_succ, -List.getD_eq_getElem?_getD, hV, hV2]
    exact (placeG_at (by simpa using hb9) hb16 hn0).symm
   ·
    try simp [-List.getD_eq_getElem?_getD] at hb16
    refine awpS_skip ?_
    refine awpS_nil ?_
    refine blockQ_norm (thenQ_norm ?_)
    refine awpS_reg T_ok fun K hK => ?_
    simp [hG, List.getD_cons_zero, List.getD_cons_succ, -List.getD_eq_getElem?_getD, hV, hV2]
    refine ⟨Cond.mk (by omega), hK _ ?_⟩
    clear K hK
    refine awpS_nil ?_
    refine round_end (i + 1) (⟨by omega, fun j hj => (Nat.lt_succ_iff_lt_or_eq.1 hj).elim (hn0 j) fun e => by rw [e]; exact hb16⟩) (by omega) ?_
    refine wk_of (id) (fun _ => false) (fun _ => false) ?_ ?_ rfl (Nat.zero_le _) (fun k hk => absurd hk (Nat.not_lt_zero _))
    · simp [hG, List.getD_cons_zero, List.getD_cons_succ, -List.getD_eq_getElem?_getD, hV, hV2]
    · simp [hG, List.getD_cons_zero, List.getD_cons_succ, -List.getD_eq_getElem?_getD, hV, hV2]
  ·
   try simp [-List.getD_eq_getElem?_getD] at hb9
   refine awpS_exit ?_
   refine thenQ_exit (thenQ_exit ?_)
   refine blockQ_exit (thenQ_norm ?_)
   refine awpS_seq ?_
   refine awpS_reg T_ok fun K hK => ?_
   simp [hG, List.getD_cons_zero, List.getD_cons_succ, -List.getD_eq_getElem?_getD, hV, hV2]
   refine hK _ ?_
   clear K hK
   refine awpS_ret ?_
   refine RetOK_of ?_
   simp [hG, List.getD_cons_zero, List.getD_cons_succ, -List.getD_eq_getElem?_getD, hV, hV2]
   exact (placeG_none fun j hj => hn0 j (by omega)).symm

set_option maxRecDepth 100000 in
theorem ofState_c (s : Int) (x : Spl) : PC Try.prog 24 [.agg 2 (splF x), .vptr 1 (fun _ => .int .i64 s) 0] (.bool (decide (x.st = s))) := by
 refine PC_introS T_ok Try.func24 rfl (by simp [Try.ntmps24]) fun G hG hR => ?_
 simp only [Try.ntmps24, Try.results24] at hG ⊢
 simp only [argEnv, Nat.zero_add, Nat.reduceAdd]
 refine awpS_seq ?_
 refine awpS_reg T_ok fun K hK => ?_
 simp [hG, List.getD_cons_zero, List.getD_cons_succ, -List.getD_eq_getElem?_getD]
 refine ⟨Cond.mk (by exact trivial), hK _ ?_⟩
 clear K hK
 refine awpS_seq ?_
 refine awpS_reg T_ok fun K hK => ?_
 simp [hG, List.getD_cons_zero, List.getD_cons_succ, -List.getD_eq_getElem?_getD]
 refine hK _ ?_
 clear K hK
 refine awpS_ret ?_
 refine RetOK_of ?_
 simp [hG, List.getD_cons_zero, List.getD_cons_succ, -List.getD_eq_getElem?_getD]

set_option maxRecDepth 100000 in
theorem sameRd_c (a b : List Spl) (ha : RndOK a) : PC Try.prog 21 [spls a, spls b] (.bool (decide (a = b))) := by
 have hML : maxLen = 9223372036854775807 := by decide
 have hal := ha.len
 refine PC_introS T_ok Try.func21 rfl (by simp [Try.ntmps21]) fun G hG hR => ?_
 simp only [Try.ntmps21, Try.results21] at hG ⊢
 simp only [argEnv, Nat.zero_add, Nat.reduceAdd]
 refine awpS_seq ?_
 refine awpS_reg T_ok fun K hK => ?_
 simp [hG, List.getD_cons_zero, List.getD_cons_succ, -List.getD_eq_getElem?_getD, pureOp]
 refine hK _ ?_
 clear K hK
 refine awpS_seq ?_
 refine awpS_seq ?_
 refine awpS_reg T_ok fun K hK => ?_
 simp [hG, List.getD_cons_zero, List.getD_cons_succ, -List.getD_eq_getElem?_getD, pureOp]
 refine hK _ ?_
 clear K hK
 refine awpS_cond rfl (fun hb11 => ?_) (fun hb11 => ?_)
 ·
  try simp [-List.getD_eq_getElem?_getD] at hb11
  refine awpS_seq ?_
  refine awpS_reg T_ok fun K hK => ?_
  simp [hG, List.getD_cons_zero, List.getD_cons_succ, -List.getD_eq_getElem?_getD, pureOp]
  refine hK _ ?_
  clear K hK
  refine awpS_ret ?_
  refine RetOK_of ?_
  simp [hG, List.getD_cons_zero, List.getD_cons_succ, -List.getD_eq_getElem?_getD, pureOp]
  intro h; rw [h] at hb11; omega
 ·
  try simp [-List.getD_eq_getElem?_getD] at hb11
  refine awpS_skip ?_
  refine awpS_seq ?_
  refine awpS_seq ?_
  refine awpS_reg T_ok fun K hK => ?_
  simp [hG, List.getD_cons_zero, List.getD_cons_succ, -List.getD_eq_getElem?_getD, pureOp]
  refine hK _ ?_
  clear K hK
  refine awpS_block ?_
  refine awpS_loop (α := Nat) (fun i => ⟨[(0, spls a), (1, spls b), (5, .int .i64 i)], [], 0⟩) (fun i => a.length = b.length ∧ i ≤ a.length ∧ ∀ j, j < i → a.getD j ds = b.getD j ds) (fun i => a.length - i) (0) (⟨by omega, Nat.zero_le _, fun j hj => absurd hj (Nat.not_lt_zero _)⟩) ?_ ?_
  ·
   refine wk_of (id) (fun _ => false) (fun _ => false) ?_ ?_ rfl (Nat.zero_le _) (fun k hk => absurd hk (Nat.not_lt_zero _))
   · simp [hG, List.getD_cons_zero, List.getD_cons_succ, -List.getD_eq_getElem?_getD, pureOp]
   · simp [hG, List.getD_cons_zero, List.getD_cons_succ, -List.getD_eq_getElem?_getD, pureOp]
  ·
   rintro i ⟨h3, hi, hn⟩
   refine awpS_seq ?_
   refine awpS_seq ?_
   refine awpS_reg T_ok fun K hK => ?_
   simp [hG, List.getD_cons_zero, List.getD_cons_succ, -List.getD_eq_getElem?_getD, pureOp]
   refine hK _ ?_
   clear K hK
   refine awpS_cond rfl (fun hb15 => ?_) (fun hb15 => ?_)
   ·
    try simp [-List.getD_eq_getElem?_getD] at hb15
    have him := getD_mem (d := ds) (show i < a.length by omega)
    have hpn := ha.num _ him
    refine awpS_skip ?_
    refine awpS_seq ?_
    refine awpS_block ?_
    refine awpS_seq ?_
    refine awpS_seq ?_
    refine awpS_draw hR mixed [] ⟨[], [], []⟩ fun mu0 => ?_
    refine awpA_tk T_ok [0, 1, 2, 3, 4, 5, 6, 7, 8, 9, 10, 11, 12, 13, 14, 15, 16, 17, 18, 19, 20, 21, 22, 23, 24, 25] [] (fuel := 0) [25, 24, 23, 22, 21, 20, 19, 18, 17, 16, 15, 14, 13, 12, 11, 10, 9, 8, 7, 6, 5, 4, 3, 2, 1, 0] (by decide +kernel) (by decide +kernel) rfl rfl fun K hK => ?_
    simp [hG, List.getD_cons_zero, List.getD_cons_succ, -List.getD_eq_getElem?_getD, pureOp]
    refine ⟨Cond.mk (by (repeat (first | assumption | intro _ | exact And.intro ‹_› ‹_› | apply And.intro | omega | exact trivial | exact decide_eq_true (by assumption)))), hK _ ?_⟩
    clear K hK
    refine awpA_done (by decide +kernel) ?_
    refine awpS_cond rfl (fun hb43 => ?_) (fun hb43 => ?_)
    ·
     try simp [-List.getD_eq_getElem?_getD] at hb43
     refine awpS_seq ?_
     refine awpS_reg T_ok fun K hK => ?_
     simp [hG, List.getD_cons_zero, List.getD_cons_succ, -List.getD_eq_getElem?_getD, pureOp]
     refine hK _ ?_
     clear K hK
     refine awpS_ret ?_
     refine blockQ_ret (thenQ_ret ?_)
     refine thenQ_ret (thenQ_ret ?_)
     refine blockQ_ret (thenQ_ret ?_)
     refine RetOK_of ?_
     simp [hG, List.getD_cons_zero, List.getD_cons_succ, -List.getD_eq_getElem?_getD, pureOp]
     intro h; rw [h] at hb43; simp at hb43
    ·
     try simp [-List.getD_eq_getElem?_getD] at hb43
     refine awpS_skip ?_
     refine awpS_seq ?_
     refine awpS_reg T_ok fun K hK => ?_
     simp [hG, List.getD_cons_zero, List.getD_cons_succ, -List.getD_eq_getElem?_getD, pureOp]
     refine hK _ ?_
     clear K hK
     refine awpS_block ?_
     refine awpS_loop (α := Nat) (fun k => ⟨[(0, spls a), (1, spls b), (5, .int .i64 i), (6, .int .i64 k)], [], 0⟩) (fun k => k ≤ (a.getD i ds).parts.length ∧ ∀ j, j < k → (a.getD i ds).parts.getD j [] = (b.getD i ds).parts.getD j []) (fun k => (a.getD i ds).parts.length - k) (0) (⟨Nat.zero_le _, fun j hj => absurd hj (Nat.not_lt_zero _)⟩) ?_ ?_
     ·
      refine wk_of (id) (fun _ => false) (fun _ => false) ?_ ?_ rfl (Nat.zero_le _) (fun k hk => absurd hk (Nat.not_lt_zero _))
      · simp [hG, List.getD_cons_zero, List.getD_cons_succ, -List.getD_eq_getElem?_getD, pureOp]
      · simp [hG, List.getD_cons_zero, List.getD_cons_succ, -List.getD_eq_getElem?_getD, pureOp]
     ·
      rintro k ⟨hk, hn2⟩
      refine awpS_seq ?_
      refine awpS_seq ?_
      refine awpS_reg T_ok fun K hK => ?_
      simp [hG, List.getD_cons_zero, List.getD_cons_succ, -List.getD_eq_getElem?_getD, pureOp]
      refine ⟨Cond.mk (by omega), hK _ ?_⟩
      clear K hK
      refine awpS_cond rfl (fun hb51 => ?_) (fun hb51 => ?_)
      ·
       try simp [-List.getD_eq_getElem?_getD] at hb51
       have hkl : k < (a.getD i ds).parts.length := (by omega)
       have hpp := ha.part _ him _ (getD_mem (d := ([] : List Int)) hkl)
       refine awpS_skip ?_
       refine awpS_seq ?_
       refine awpS_block ?_
       refine awpS_seq ?_
       refine awpS_draw hR mixed [] ⟨[], [], []⟩ fun mu0 => ?_
       refine awpA_tk T_ok [0, 1, 2, 3, 4, 5, 6, 7, 8, 9, 10, 11, 12, 13, 14, 15] [] (fuel := 2) [15, 14, 13, 12, 11, 10, 9, 8, 7, 6, 5, 4, 3, 2, 1, 0] (by decide +kernel) (by decide +kernel) rfl rfl fun K hK => ?_
       simp [hG, List.getD_cons_zero, List.getD_cons_succ, -List.getD_eq_getElem?_getD, pureOp]
       refine ⟨Cond.mk (by omega), hK _ ?_⟩
       clear K hK
       refine awpA_only (fuel := 1) (i := 16) (by decide +kernel) ?_
       refine awpO_call cal15 rfl rfl rfl (fun _ => rfl) (fun hg => sameL_c ((a.getD i ds).parts.getD k []) ((b.getD i ds).parts.getD k []) (by omega)) (fun hg => ?_) (fun hg => ?_) fun K hK => ?_
       · simp [hG, List.getD_cons_zero, List.getD_cons_succ, -List.getD_eq_getElem?_getD, pureOp]
       · simp [hG, List.getD_cons_zero, List.getD_cons_succ, -List.getD_eq_getElem?_getD, pureOp]
       simp [hG, List.getD_cons_zero, List.getD_cons_succ, -List.getD_eq_getElem?_getD, pureOp]
       refine hK _ ?_
       clear K hK
       refine awpA_tk T_ok [17] [] (fuel := 0) [17, 16, 15, 14, 13, 12, 11, 10, 9, 8, 7, 6, 5, 4, 3, 2, 1, 0] (by decide +kernel) (by decide +kernel) rfl rfl fun K hK => ?_
       simp [hG, List.getD_cons_zero, List.getD_cons_succ, -List.getD_eq_getElem?_getD, pureOp]
       refine hK _ ?_
       clear K hK
       refine awpA_done (by decide +kernel) ?_
       refine awpS_cond rfl (fun hb71 => ?_) (fun hb71 => ?_)
       ·
        try simp [-List.getD_eq_getElem?_getD] at hb71
        refine awpS_seq ?_
        refine awpS_reg T_ok fun K hK => ?_
        simp [hG, List.getD_cons_zero, List.getD_cons_succ, -List.getD_eq_getElem?_getD, pureOp]
        refine hK _ ?_
        clear K hK
        refine awpS_ret ?_
        refine blockQ_ret (thenQ_ret ?_)
        refine thenQ_ret (thenQ_ret ?_)
        refine blockQ_ret (thenQ_ret ?_)
        refine blockQ_ret (thenQ_ret ?_)
        refine thenQ_ret (thenQ_ret ?_)
        refine blockQ_ret (thenQ_ret ?_)
        refine RetOK_of ?_
        simp [hG, List.getD_cons_zero, List.getD_cons_succ, -List.getD_eq_getElem?_getD, pureOp]
        intro h; rw [h] at hb71; exact hb71 rfl
       ·
        try simp [-List.getD_eq_getElem?_getD] at hb71
        refine awpS_skip ?_
        refine awpS_nil ?_
        refine blockQ_norm (thenQ_norm ?_)
        refine awpS_reg T_ok fun K hK => ?_
        simp [hG, List.getD_cons_zero, List.getD_cons_succ, -List.getD_eq_getElem?_getD, pureOp]
        refine ⟨Cond.mk (by omega), hK _ ?_⟩
        clear K hK
        refine awpS_nil ?_
        refine round_end (k + 1) (⟨by omega, step_all hn2 hb71⟩) (by omega) ?_
        refine wk_of (id) (fun _ => false) (fun _ => false) ?_ ?_ rfl (Nat.zero_le _) (fun k hk => absurd hk (Nat.not_lt_zero _))
        · simp [hG, List.getD_cons_zero, List.getD_cons_succ, -List.getD_eq_getElem?_getD, pureOp]
        · simp [hG, List.getD_cons_zero, List.getD_cons_succ, -List.getD_eq_getElem?_getD, pureOp]
      ·
       try simp [-List.getD_eq_getElem?_getD] at hb51
       refine awpS_exit ?_
       refine thenQ_exit (thenQ_exit ?_)
       refine blockQ_exit (thenQ_norm ?_)
       refine awpS_nil ?_
       refine blockQ_norm (thenQ_norm ?_)
       refine awpS_reg T_ok fun K hK => ?_
       simp [hG, List.getD_cons_zero, List.getD_cons_succ, -List.getD_eq_getElem?_getD, pureOp]
       refine ⟨Cond.mk (by omega), hK _ ?_⟩
       clear K hK
       refine awpS_nil ?_
       refine round_end (i + 1) (⟨h3, by omega, step_all hn (spl_ext hb43.1 (list_ext (d := ([] : List Int)) (by omega) fun j hj => hn2 j (by omega)))⟩) (by omega) ?_
       refine wk_of (id) (fun _ => false) (fun _ => false) ?_ ?_ rfl (Nat.zero_le _) (fun k hk => absurd hk (Nat.not_lt_zero _))
       · simp [hG, List.getD_cons_zero, List.getD_cons_succ, -List.getD_eq_getElem?_getD, pureOp]
       · simp [hG, List.getD_cons_zero, List.getD_cons_succ, -List.getD_eq_getElem?_getD, pureOp]
   ·
    try simp [-List.getD_eq_getElem?_getD] at hb15
    refine awpS_exit ?_
    refine thenQ_exit (thenQ_exit ?_)
    refine blockQ_exit (thenQ_norm ?_)
    refine awpS_seq ?_
    refine awpS_reg T_ok fun K hK => ?_
    simp [hG, List.getD_cons_zero, List.getD_cons_succ, -List.getD_eq_getElem?_getD, pureOp]
    refine hK _ ?_
    clear K hK
    refine awpS_ret ?_
    refine RetOK_of ?_
    simp [hG, List.getD_cons_zero, List.getD_cons_succ, -List.getD_eq_getElem?_getD, pureOp]
    exact list_ext (d := ds) h3 fun j hj => hn j (by omega)

end Go.Proofs.Ythpdkmoedpcboaa
