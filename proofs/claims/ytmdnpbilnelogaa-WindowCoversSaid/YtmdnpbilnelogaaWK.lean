/-
 Walks: law WindowCovers.
-/
import Derived.Test.YtmdnpbilnelogaaWI
import Derived.Test.YtmdnpbilnelogaaDF
namespace Go.Proofs.Ytmdnpbilnelogaa
set_option linter.unusedSimpArgs false
set_option linter.unusedVariables false
open Go Go.Lift Go.Proofs
theorem cov_factsI {e : Enc} {p f : Int} (hp : 0 ≤ p) (hf : 0 ≤ f) (h : wbN e p f = 0) :
  (coversN (wbX e p f) e = 0 ∧ coversB (wbX e p f) e = true) ∧ (∀ i, i < (wbX e p f).ents.length → coversN (withE (wbX e p f) (lessL (wbX e p f).ents i)) e = 0 ∧ coversB (withE (wbX e p f) (lessL (wbX e p f).ents i)) e = false) ∧
   (∀ i, i < (wbX e p f).ents.length → 2 ≤ e.inputs → coversN (withE (wbX e p f) (nextL (wbX e p f).ents i e.inputs)) e = 0 ∧ coversB (withE (wbX e p f) (nextL (wbX e p f).ents i e.inputs)) e = false) ∧
   (0 < (wbX e p f).ents.length ∧ (wbX e p f).ents.length ≤ 65536) ∧ ∀ i, i < (wbX e p f).ents.length → 0 ≤ ((wbX e p f).ents.getD i den).inp ∧ ((wbX e p f).ents.getD i den).inp < e.inputs := by
 obtain ⟨p, rfl⟩ := Int.eq_ofNat_of_zero_le hp
 obtain ⟨f, rfl⟩ := Int.eq_ofNat_of_zero_le hf
 obtain ⟨hcv, hX⟩ := built_valid h
 obtain ⟨hv, hs, hmn, hb⟩ := wb_zero h
 rw [Int.toNat_natCast, Int.toNat_natCast] at hb
 refine ⟨covers_built h, fun i hi => covers_less h hi, fun i hi h2 => covers_next h h2 hi, ⟨by rw [hX]; exact built_pos hv hb, (checkD_valid hcv).2.1⟩, fun i hi => ?_⟩
 have := (valid_mem hcv _ (getD_mem (d := den) hi)).2.2
 have hin : (wbX e p f).inputs = e.inputs := by rw [hX]
 rw [hin] at this
 exact this
@[simp] theorem withE_letters {d : Dec} {l : List Ent} : (withE d l).letters = d.letters := rfl
@[simp] theorem withE_block {d : Dec} {l : List Ent} : (withE d l).block = d.block := rfl
@[simp] theorem withE_inputs {d : Dec} {l : List Ent} : (withE d l).inputs = d.inputs := rfl
@[simp] theorem withE_past {d : Dec} {l : List Ent} : (withE d l).past = d.past := rfl
@[simp] theorem withE_future {d : Dec} {l : List Ent} : (withE d l).future = d.future := rfl
@[simp] theorem withE_ents {d : Dec} {l : List Ent} : (withE d l).ents = l := rfl
theorem nextL_len {l : List Ent} {i : Nat} {n : Int} : (nextL l i n).length = l.length := by unfold nextL; rw [List.length_set]
theorem nextL_get {l : List Ent} {i : Nat} {n : Int} (hi : i < l.length) {q : Nat} : (nextL l i n).getD q den = if q = i then nextX (l.getD i den) n else l.getD q den := by
 unfold nextL
 simp only [List.getD_eq_getElem?_getD, List.getElem?_set]
 by_cases h : q = i
 · subst h; simp [hi]
 · rw [if_neg (Ne.symm h), if_neg h]
theorem getD_left {l m : List Ent} {q : Nat} (h : q < l.length) : (l ++ m).getD q den = l.getD q den := by
 simp only [List.getD_eq_getElem?_getD, List.getElem?_append_left h]
set_option maxRecDepth 100000 in
theorem cloneN_c (l : List Ent) (hl : l.length ≤ 1000000) : FC1 Try.prog 32 [ents l] [] 0 (.sl (0, 0) 0 l.length) [(0, .one (.arr l.length 2 (fun i j => entF (l.getD i den) j)))] 1 := by
 refine FC_introS T_ok Try.func32 rfl (by simp [Try.ntmps32]) fun G hG hR => ?_
 simp only [Try.ntmps32, Try.results32] at hG ⊢
 simp only [argEnv, Nat.zero_add, Nat.reduceAdd]
 refine awpS_seq ?_
 refine awpS_reg T_ok fun K hK => ?_
 simp [hG, List.getD_cons_zero, List.getD_cons_succ, -List.getD_eq_getElem?_getD]
 refine hK _ ?_
 clear K hK
 refine awpS_seq ?_
 refine awpS_seq ?_
 refine awpS_reg T_ok fun K hK => ?_
 simp [hG, List.getD_cons_zero, List.getD_cons_succ, -List.getD_eq_getElem?_getD]
 refine hK _ ?_
 clear K hK
 refine awpS_condU rfl (fun hb4 => ?_) ?_
 ·
  refine awpS_seq ?_
  refine awpS_reg T_ok fun K hK => ?_
  simp [hG, List.getD_cons_zero, List.getD_cons_succ, -List.getD_eq_getElem?_getD]
  refine hK _ ?_
  clear K hK
  refine awpS_ret ?_
  refine RetF_of (()) (id) (fun _ => false) (fun _ => true) trivial ?_ ?_ (by rfl) (by simp) (fun k hk => absurd hk (Nat.not_lt_zero _))
  · simp [hG]; exact hb4
  · simp [hG]; exact hb4
 ·
  refine awpS_skip ?_
  refine awpS_seq ?_
  refine awpS_reg T_ok fun K hK => ?_
  simp [hG, List.getD_cons_zero, List.getD_cons_succ, -List.getD_eq_getElem?_getD]
  refine ⟨Cond.mk (by omega), hK _ ?_⟩
  clear K hK
  refine awpS_ret ?_
  refine RetF_of (()) (fun _ => 1) (fun _ => false) (fun _ => false) trivial ?_ ?_ (by rfl) (by simp) (fun k hk => absurd hk (Nat.not_lt_zero _))
  · simp [hG, List.getD_cons_zero, List.getD_cons_succ, -List.getD_eq_getElem?_getD]
  · simp [hG, List.getD_cons_zero, List.getD_cons_succ, -List.getD_eq_getElem?_getD]

set_option maxRecDepth 100000 in
set_option maxHeartbeats 1000000 in
theorem coversLaw_c (e : Enc) (hle : e.rows.length ≤ maxLen) (hre : ∀ r ∈ e.rows, r.length ≤ maxLen) (a : Int) (ha : 0 ≤ a ∧ a < 256) (b : Int) (hb : 0 ≤ b ∧ b < 256) (c : Int) (hc : 0 ≤ c ∧ c < 256) : PC Try.prog 9 [.agg 4 (encF e), .int .u8 a, .int .u8 b, .int .u8 c] (.bool true) := by
 refine PC_introS T_ok Try.func9 rfl (by simp [Try.ntmps9]) fun G hG hR => ?_
 simp only [Try.ntmps9, Try.results9] at hG ⊢
 simp only [argEnv, Nat.zero_add, Nat.reduceAdd]
 refine awpS_seq ?_
 refine awpS_reg T_ok fun K hK => ?_
 simp [hG, List.getD_cons_zero, List.getD_cons_succ, -List.getD_eq_getElem?_getD, pureOp]
 refine ⟨Cond.mk (by exact trivial), hK _ ?_⟩
 clear K hK
 refine awpS_seq ?_
 refine awpS_reg T_ok fun K hK => ?_
 simp [hG, List.getD_cons_zero, List.getD_cons_succ, -List.getD_eq_getElem?_getD, pureOp]
 refine ⟨Cond.mk (by omega), hK _ ?_⟩
 clear K hK
 refine awpS_seq ?_
 refine awpS_seq ?_
 refine awpS_regL ?_
 refine awpL_reg T_ok 1 fun K hK => ?_
 simp [hG, List.getD_cons_zero, List.getD_cons_succ, -List.getD_eq_getElem?_getD, pureOp]
 refine hK _ ?_
 clear K hK
 refine awpL_call cal11 rfl rfl (fun _ => rfl) (fun hg => fineWn_c e hle hre) (fun hg => ?_) (fun hg => ?_) fun K hK => ?_
 · simp [hG, List.getD_cons_zero, List.getD_cons_succ, -List.getD_eq_getElem?_getD, pureOp]
 · simp [hG, List.getD_cons_zero, List.getD_cons_succ, -List.getD_eq_getElem?_getD, pureOp]
 simp [hG, List.getD_cons_zero, List.getD_cons_succ, -List.getD_eq_getElem?_getD, pureOp]
 refine hK _ ?_
 clear K hK
 refine awpL_reg T_ok 1 fun K hK => ?_
 simp [hG, List.getD_cons_zero, List.getD_cons_succ, -List.getD_eq_getElem?_getD, pureOp]
 refine hK _ ?_
 clear K hK
 refine awpL_nil ?_
 refine awpS_cond rfl (fun hb30 => ?_) (fun hb30 => ?_)
 ·
  try simp [-List.getD_eq_getElem?_getD] at hb30
  refine awpS_seq ?_
  refine awpS_regL ?_
  refine awpL_call cal12 rfl rfl (fun _ => rfl) (fun hg => awake_c) (fun hg => ?_) (fun hg => ?_) fun K hK => ?_
  · simp [hG, List.getD_cons_zero, List.getD_cons_succ, -List.getD_eq_getElem?_getD, pureOp]
  · simp [hG, List.getD_cons_zero, List.getD_cons_succ, -List.getD_eq_getElem?_getD, pureOp]
  simp [hG, List.getD_cons_zero, List.getD_cons_succ, -List.getD_eq_getElem?_getD, pureOp]
  refine hK _ ?_
  clear K hK
  refine awpL_reg T_ok 1 fun K hK => ?_
  simp [hG, List.getD_cons_zero, List.getD_cons_succ, -List.getD_eq_getElem?_getD, pureOp]
  refine hK _ ?_
  clear K hK
  refine awpL_nil ?_
  refine awpS_ret ?_
  refine RetOK_of ?_
  simp [hG, List.getD_cons_zero, List.getD_cons_succ, -List.getD_eq_getElem?_getD, pureOp]
 ·
  try simp [-List.getD_eq_getElem?_getD] at hb30
  obtain ⟨hv, hr4, hi4⟩ := fineW_ok hb30
  have hin := (checkE_valid hv).1.inputs
  refine awpS_skip ?_
  refine awpS_seq ?_
  refine awpS_regL ?_
  refine awpL_reg T_ok 3 fun K hK => ?_
  simp [hG, List.getD_cons_zero, List.getD_cons_succ, -List.getD_eq_getElem?_getD, pureOp]
  refine hK _ ?_
  clear K hK
  refine awpL_call cal13 rfl rfl (fun _ => rfl) (fun hg => buildW_c e (a % 2) (b % 2)) (fun hg => ?_) (fun hg => ?_) fun K hK => ?_
  · simp [hG, List.getD_cons_zero, List.getD_cons_succ, -List.getD_eq_getElem?_getD, pureOp]
  · simp [hG, List.getD_cons_zero, List.getD_cons_succ, -List.getD_eq_getElem?_getD, pureOp]
  simp [hG, List.getD_cons_zero, List.getD_cons_succ, -List.getD_eq_getElem?_getD, pureOp]
  refine hK _ ?_
  clear K hK
  refine awpL_reg T_ok 6 fun K hK => ?_
  simp [hG, List.getD_cons_zero, List.getD_cons_succ, -List.getD_eq_getElem?_getD, pureOp]
  refine ⟨Cond.mk (by exact trivial), hK _ ?_⟩
  clear K hK
  refine awpL_nil ?_
  refine awpS_seq ?_
  refine awpS_seq ?_
  refine awpS_reg T_ok fun K hK => ?_
  simp [hG, List.getD_cons_zero, List.getD_cons_succ, -List.getD_eq_getElem?_getD, pureOp]
  refine hK _ ?_
  clear K hK
  refine awpS_cond rfl (fun hb40 => ?_) (fun hb40 => ?_)
  ·
   try simp [-List.getD_eq_getElem?_getD] at hb40
   refine awpS_seq ?_
   refine awpS_regL ?_
   refine awpL_call cal12 rfl rfl (fun _ => rfl) (fun hg => awake_c) (fun hg => ?_) (fun hg => ?_) fun K hK => ?_
   · simp [hG, List.getD_cons_zero, List.getD_cons_succ, -List.getD_eq_getElem?_getD, pureOp]
   · simp [hG, List.getD_cons_zero, List.getD_cons_succ, -List.getD_eq_getElem?_getD, pureOp]
   simp [hG, List.getD_cons_zero, List.getD_cons_succ, -List.getD_eq_getElem?_getD, pureOp]
   refine hK _ ?_
   clear K hK
   refine awpL_reg T_ok 1 fun K hK => ?_
   simp [hG, List.getD_cons_zero, List.getD_cons_succ, -List.getD_eq_getElem?_getD, pureOp]
   refine hK _ ?_
   clear K hK
   refine awpL_nil ?_
   refine awpS_ret ?_
   refine RetOK_of ?_
   simp [hG, List.getD_cons_zero, List.getD_cons_succ, -List.getD_eq_getElem?_getD, pureOp]
  ·
   try simp [-List.getD_eq_getElem?_getD] at hb40
   obtain ⟨c0, c1, c2, c3, c4⟩ := cov_factsI (e := e) (p := a % 2) (f := b % 2) (by omega) (by omega) hb40
   refine awpS_skip ?_
   refine awpS_seq ?_
   refine awpS_regL ?_
   refine awpL_reg T_ok 2 fun K hK => ?_
   simp [hG, List.getD_cons_zero, List.getD_cons_succ, -List.getD_eq_getElem?_getD, pureOp]
   refine hK _ ?_
   clear K hK
   refine awpL_call cal29 rfl rfl (fun _ => rfl) (fun hg => covers_c (wbX e (a % 2) (b % 2)) e) (fun hg => ?_) (fun hg => ?_) fun K hK => ?_
   · simp [hG, List.getD_cons_zero, List.getD_cons_succ, -List.getD_eq_getElem?_getD, pureOp]
   · simp [hG, List.getD_cons_zero, List.getD_cons_succ, -List.getD_eq_getElem?_getD, pureOp]
   simp [hG, List.getD_cons_zero, List.getD_cons_succ, -List.getD_eq_getElem?_getD, pureOp]
   refine hK _ ?_
   clear K hK
   refine awpL_reg T_ok 5 fun K hK => ?_
   simp [hG, List.getD_cons_zero, List.getD_cons_succ, -List.getD_eq_getElem?_getD, pureOp]
   refine hK _ ?_
   clear K hK
   refine awpL_nil ?_
   refine awpS_seq ?_
   refine awpS_seq ?_
   refine awpS_reg T_ok fun K hK => ?_
   simp [hG, List.getD_cons_zero, List.getD_cons_succ, -List.getD_eq_getElem?_getD, pureOp]
   refine hK _ ?_
   clear K hK
   refine awpS_cond rfl (fun hb59 => ?_) (fun hb59 => ?_)
   ·
    try simp [-List.getD_eq_getElem?_getD] at hb59
    refine awpS_seq ?_
    refine awpS_reg T_ok fun K hK => ?_
    simp [hG, List.getD_cons_zero, List.getD_cons_succ, -List.getD_eq_getElem?_getD, pureOp]
    refine hK _ ?_
    clear K hK
    refine awpS_ret ?_
    refine RetOK_of ?_
    simp [hG, List.getD_cons_zero, List.getD_cons_succ, -List.getD_eq_getElem?_getD, pureOp]
    rcases hb59 with (h | h) | h; exact h c0.1; rw [c0.2] at h; cases h; rw [h] at c3; exact absurd c3.1 (Nat.lt_irrefl 0)
   ·
    try simp [-List.getD_eq_getElem?_getD] at hb59
    have hcm : 0 ≤ c % (wbX e (a % 2) (b % 2)).ents.length ∧ c % (wbX e (a % 2) (b % 2)).ents.length < (wbX e (a % 2) (b % 2)).ents.length := ⟨Int.emod_nonneg _ (by omega), Int.emod_lt_of_pos _ (by omega)⟩
    obtain ⟨i, hie⟩ := Int.eq_ofNat_of_zero_le hcm.1
    have hil : i < (wbX e (a % 2) (b % 2)).ents.length := (by omega)
    have c1i := c1 _ hil
    have c2i := c2 _ hil
    have c4i := c4 _ hil
    have hll := lessL_len hil
    refine awpS_skip ?_
    refine awpS_seq ?_
    refine awpS_reg T_ok fun K hK => ?_
    simp [hG, List.getD_cons_zero, List.getD_cons_succ, -List.getD_eq_getElem?_getD, pureOp]
    refine ⟨Cond.mk (by omega), hK _ ?_⟩
    clear K hK
    refine awpS_seq ?_
    refine awpS_wk (st2 := ⟨[(4, .ptr (0, 0) 0 0), (11, .ptr (1, 0) 0 0), (15, .int .i64 (i : Nat))], [(0, .one (.arr 1 4 (fun _ => encF e))), (1, .one (.arr 1 6 (fun _ => decF (wbX e (a % 2) (b % 2)))))], 2⟩) ?_ ?_
    ·
     refine wk_of (id) (fun _ => false) (fun _ => false) ?_ ?_ rfl (Nat.zero_le _) (fun k hk => absurd hk (Nat.not_lt_zero _))
     · simp [hG, List.getD_cons_zero, List.getD_cons_succ, -List.getD_eq_getElem?_getD]; omega
     · simp [hG, List.getD_cons_zero, List.getD_cons_succ, -List.getD_eq_getElem?_getD, pureOp]
    refine awpS_reg T_ok fun K hK => ?_
    simp [hG, List.getD_cons_zero, List.getD_cons_succ, -List.getD_eq_getElem?_getD, pureOp]
    refine ⟨Cond.mk (by exact trivial), hK _ ?_⟩
    clear K hK
    refine awpS_seq ?_
    refine awpS_regL ?_
    refine awpL_reg T_ok 2 fun K hK => ?_
    simp [hG, List.getD_cons_zero, List.getD_cons_succ, -List.getD_eq_getElem?_getD, pureOp]
    refine hK _ ?_
    clear K hK
    refine awpL_fc cal32 [] (fun _ => false) (cloneN_c (wbX e (a % 2) (b % 2)).ents (by omega)) rfl rfl rfl (by simp) (.inl fun _ => rfl) ?_ ?_ ?_ fun K hK x hI hno => ?_
    · simp [hG, List.getD_cons_zero, List.getD_cons_succ, -List.getD_eq_getElem?_getD, pureOp]
    · simp [hG, List.getD_cons_zero, List.getD_cons_succ, -List.getD_eq_getElem?_getD, pureOp]
    · simp [hG, List.getD_cons_zero, List.getD_cons_succ, -List.getD_eq_getElem?_getD, pureOp]
    simp [hG, List.getD_cons_zero, List.getD_cons_succ, -List.getD_eq_getElem?_getD, pureOp]
    refine hK _ ?_
    clear K hK
    refine awpL_reg T_ok 3 fun K hK => ?_
    simp [hG, List.getD_cons_zero, List.getD_cons_succ, -List.getD_eq_getElem?_getD, pureOp]
    refine ⟨Cond.mk (by omega), hK _ ?_⟩
    clear K hK
    refine awpL_fc cal31 [3] (fun _ => false) (delE_c (wbX e (a % 2) (b % 2)).ents i hil (by omega)) rfl rfl rfl (by simp) (.inl fun _ => rfl) ?_ ?_ ?_ fun K hK x hI hno => ?_
    · simp [hG, List.getD_cons_zero, List.getD_cons_succ, -List.getD_eq_getElem?_getD, pureOp]
    · simp [hG, List.getD_cons_zero, List.getD_cons_succ, -List.getD_eq_getElem?_getD, pureOp]
    · simp [hG, List.getD_cons_zero, List.getD_cons_succ, -List.getD_eq_getElem?_getD, pureOp]
    simp [hG, List.getD_cons_zero, List.getD_cons_succ, -List.getD_eq_getElem?_getD, pureOp]
    refine hK _ ?_
    clear K hK
    refine awpL_reg T_ok 2 fun K hK => ?_
    simp [hG, List.getD_cons_zero, List.getD_cons_succ, -List.getD_eq_getElem?_getD, pureOp]
    refine hK _ ?_
    clear K hK
    refine awpL_nil ?_
    refine awpS_seq ?_
    refine awpS_wk (st2 := ⟨[(4, .ptr (0, 0) 0 0), (11, .ptr (1, 0) 0 0), (15, .int .i64 (i : Nat)), (16, .ptr (2, 0) 0 0)], [(0, .one (.arr 1 4 (fun _ => encF e))), (1, .one (.arr 1 6 (fun _ => decF (wbX e (a % 2) (b % 2))))), (2, .one (.arr 1 6 (fun _ => decF (withE (wbX e (a % 2) (b % 2)) (lessL (wbX e (a % 2) (b % 2)).ents i)))))], 3⟩) ?_ ?_
    ·
     refine wk_of (id) (fun k => k == 3) (fun _ => false) ?_ ?_ rfl (Nat.zero_le _) (fun k hk => absurd hk (Nat.not_lt_zero _))
     · simp [hG, List.getD_cons_zero, List.getD_cons_succ, -List.getD_eq_getElem?_getD, pureOp]
     · simp [hG, List.getD_cons_zero, List.getD_cons_succ, -List.getD_eq_getElem?_getD]; exact ⟨hll.symm, by omega, fun q hq => by rw [getD_left hq]; exact ⟨rfl, rfl⟩⟩
    refine awpS_regL ?_
    refine awpL_reg T_ok 2 fun K hK => ?_
    simp [hG, List.getD_cons_zero, List.getD_cons_succ, -List.getD_eq_getElem?_getD, pureOp]
    refine hK _ ?_
    clear K hK
    refine awpL_call cal29 rfl rfl (fun _ => rfl) (fun hg => covers_c (withE (wbX e (a % 2) (b % 2)) (lessL (wbX e (a % 2) (b % 2)).ents i)) e) (fun hg => ?_) (fun hg => ?_) fun K hK => ?_
    · simp [hG, List.getD_cons_zero, List.getD_cons_succ, -List.getD_eq_getElem?_getD, pureOp]
    · simp [hG, List.getD_cons_zero, List.getD_cons_succ, -List.getD_eq_getElem?_getD, pureOp]
    simp [hG, List.getD_cons_zero, List.getD_cons_succ, -List.getD_eq_getElem?_getD, pureOp]
    refine hK _ ?_
    clear K hK
    refine awpL_reg T_ok 5 fun K hK => ?_
    simp [hG, List.getD_cons_zero, List.getD_cons_succ, -List.getD_eq_getElem?_getD, pureOp]
    refine hK _ ?_
    clear K hK
    refine awpL_nil ?_
    refine awpS_seq ?_
    refine awpS_seq ?_
    refine awpS_reg T_ok fun K hK => ?_
    simp [hG, List.getD_cons_zero, List.getD_cons_succ, -List.getD_eq_getElem?_getD, pureOp]
    refine hK _ ?_
    clear K hK
    refine awpS_cond rfl (fun hb85 => ?_) (fun hb85 => ?_)
    ·
     try simp [-List.getD_eq_getElem?_getD] at hb85
     refine awpS_seq ?_
     refine awpS_reg T_ok fun K hK => ?_
     simp [hG, List.getD_cons_zero, List.getD_cons_succ, -List.getD_eq_getElem?_getD, pureOp]
     refine hK _ ?_
     clear K hK
     refine awpS_ret ?_
     refine RetOK_of ?_
     simp [hG, List.getD_cons_zero, List.getD_cons_succ, -List.getD_eq_getElem?_getD, pureOp]
     rcases hb85 with h | h; exact h c1i.1; rw [c1i.2] at h; cases h
    ·
     try simp [-List.getD_eq_getElem?_getD] at hb85
     refine awpS_skip ?_
     refine awpS_seq ?_
     refine awpS_seq ?_
     refine awpS_reg T_ok fun K hK => ?_
     simp [hG, List.getD_cons_zero, List.getD_cons_succ, -List.getD_eq_getElem?_getD, pureOp]
     refine hK _ ?_
     clear K hK
     refine awpS_cond rfl (fun hb88 => ?_) (fun hb88 => ?_)
     ·
      try simp [-List.getD_eq_getElem?_getD] at hb88
      refine awpS_seq ?_
      refine awpS_regL ?_
      refine awpL_call cal12 rfl rfl (fun _ => rfl) (fun hg => awake_c) (fun hg => ?_) (fun hg => ?_) fun K hK => ?_
      · simp [hG, List.getD_cons_zero, List.getD_cons_succ, -List.getD_eq_getElem?_getD, pureOp]
      · simp [hG, List.getD_cons_zero, List.getD_cons_succ, -List.getD_eq_getElem?_getD, pureOp]
      simp [hG, List.getD_cons_zero, List.getD_cons_succ, -List.getD_eq_getElem?_getD, pureOp]
      refine hK _ ?_
      clear K hK
      refine awpL_reg T_ok 1 fun K hK => ?_
      simp [hG, List.getD_cons_zero, List.getD_cons_succ, -List.getD_eq_getElem?_getD, pureOp]
      refine hK _ ?_
      clear K hK
      refine awpL_nil ?_
      refine awpS_ret ?_
      refine RetOK_of ?_
      simp [hG, List.getD_cons_zero, List.getD_cons_succ, -List.getD_eq_getElem?_getD, pureOp]
     ·
      try simp [-List.getD_eq_getElem?_getD] at hb88
      refine awpS_skip ?_
      refine awpS_seq ?_
      refine awpS_reg T_ok fun K hK => ?_
      simp [hG, List.getD_cons_zero, List.getD_cons_succ, -List.getD_eq_getElem?_getD, pureOp]
      refine ⟨Cond.mk (by omega), hK _ ?_⟩
      clear K hK
      refine awpS_seq ?_
      refine awpS_regL ?_
      refine awpL_reg T_ok 2 fun K hK => ?_
      simp [hG, List.getD_cons_zero, List.getD_cons_succ, -List.getD_eq_getElem?_getD, pureOp]
      refine hK _ ?_
      clear K hK
      refine awpL_fc cal32 [] (fun _ => false) (cloneN_c (wbX e (a % 2) (b % 2)).ents (by omega)) rfl rfl rfl (by simp) (.inl fun _ => rfl) ?_ ?_ ?_ fun K hK x hI hno => ?_
      · simp [hG, List.getD_cons_zero, List.getD_cons_succ, -List.getD_eq_getElem?_getD, pureOp]
      · simp [hG, List.getD_cons_zero, List.getD_cons_succ, -List.getD_eq_getElem?_getD, pureOp]
      · simp [hG, List.getD_cons_zero, List.getD_cons_succ, -List.getD_eq_getElem?_getD, pureOp]
      simp [hG, List.getD_cons_zero, List.getD_cons_succ, -List.getD_eq_getElem?_getD, pureOp]
      refine hK _ ?_
      clear K hK
      refine awpL_reg T_ok 2 fun K hK => ?_
      simp [hG, List.getD_cons_zero, List.getD_cons_succ, -List.getD_eq_getElem?_getD, pureOp]
      refine hK _ ?_
      clear K hK
      refine awpL_nil ?_
      refine awpS_seq ?_
      refine awpS_draw hR mixed [] ⟨[15], [], []⟩ fun mu0 => ?_
      refine awpA_tk T_ok [0, 1, 2, 3, 4, 5, 6, 7, 8, 9, 10, 11, 12] [] (fuel := 3) [12, 11, 10, 9, 8, 7, 6, 5, 4, 3, 2, 1, 0] (by decide +kernel) (by decide +kernel) rfl rfl fun K hK => ?_
      simp [hG, List.getD_cons_zero, List.getD_cons_succ, -List.getD_eq_getElem?_getD, pureOp]
      refine ⟨Cond.mk (by omega), hK _ ?_⟩
      clear K hK
      refine awpA_only (fuel := 2) (i := 13) (by decide +kernel) ?_
      refine awpO_reg T_ok rfl ?_ fun K hK => ?_
      · simp [hG, List.getD_cons_zero, List.getD_cons_succ, -List.getD_eq_getElem?_getD, pureOp]; try exact trivial
      simp [hG, List.getD_cons_zero, List.getD_cons_succ, -List.getD_eq_getElem?_getD, pureOp]
      refine ⟨Cond.mk (by omega), hK _ ?_⟩
      clear K hK
      refine awpA_tk T_ok [14] [] (fuel := 1) [14, 13, 12, 11, 10, 9, 8, 7, 6, 5, 4, 3, 2, 1, 0] (by decide +kernel) (by decide +kernel) rfl rfl fun K hK => ?_
      simp [hG, List.getD_cons_zero, List.getD_cons_succ, -List.getD_eq_getElem?_getD, pureOp]
      refine hK _ ?_
      clear K hK
      refine awpA_only (fuel := 0) (i := 15) (by decide +kernel) ?_
      refine awpO_reg T_ok rfl ?_ fun K hK => ?_
      · simp [hG, List.getD_cons_zero, List.getD_cons_succ, -List.getD_eq_getElem?_getD, pureOp]; try exact trivial
      simp [hG, List.getD_cons_zero, List.getD_cons_succ, -List.getD_eq_getElem?_getD, pureOp]
      refine ⟨Cond.mk (by omega), hK _ ?_⟩
      clear K hK
      refine awpA_done (by decide +kernel) ?_
      refine awpS_seq ?_
      refine awpS_wk (st2 := ⟨[(4, .ptr (0, 0) 0 0), (11, .ptr (1, 0) 0 0), (15, .int .i64 (i : Nat)), (19, .ptr (3, 0) 0 0)], [(0, .one (.arr 1 4 (fun _ => encF e))), (1, .one (.arr 1 6 (fun _ => decF (wbX e (a % 2) (b % 2))))), (2, .one (.arr 1 6 (fun _ => decF (withE (wbX e (a % 2) (b % 2)) (lessL (wbX e (a % 2) (b % 2)).ents i))))), (3, .one (.arr 1 6 (fun _ => decF (withE (wbX e (a % 2) (b % 2)) (nextL (wbX e (a % 2) (b % 2)).ents i e.inputs)))))], 4⟩) ?_ ?_
      ·
       refine wk_of (id) (fun k => k == 4) (fun _ => false) ?_ ?_ rfl (Nat.zero_le _) (fun k hk => absurd hk (Nat.not_lt_zero _))
       · simp [hG, List.getD_cons_zero, List.getD_cons_succ, -List.getD_eq_getElem?_getD, pureOp]
       · simp [hG, List.getD_cons_zero, List.getD_cons_succ, -List.getD_eq_getElem?_getD]; exact ⟨nextL_len.symm, Nat.le_of_eq nextL_len, fun q hq => by by_cases h : q = i; (rw [nextL_get hil, if_pos h, if_pos h, h]; exact ⟨rfl, rfl⟩); (rw [nextL_get hil, if_neg h, if_neg h]; exact ⟨rfl, rfl⟩)⟩
      refine awpS_regL ?_
      refine awpL_reg T_ok 2 fun K hK => ?_
      simp [hG, List.getD_cons_zero, List.getD_cons_succ, -List.getD_eq_getElem?_getD, pureOp]
      refine hK _ ?_
      clear K hK
      refine awpL_call cal29 rfl rfl (fun _ => rfl) (fun hg => covers_c (withE (wbX e (a % 2) (b % 2)) (nextL (wbX e (a % 2) (b % 2)).ents i e.inputs)) e) (fun hg => ?_) (fun hg => ?_) fun K hK => ?_
      · simp [hG, List.getD_cons_zero, List.getD_cons_succ, -List.getD_eq_getElem?_getD, pureOp]
      · simp [hG, List.getD_cons_zero, List.getD_cons_succ, -List.getD_eq_getElem?_getD, pureOp]
      simp [hG, List.getD_cons_zero, List.getD_cons_succ, -List.getD_eq_getElem?_getD, pureOp]
      refine hK _ ?_
      clear K hK
      refine awpL_reg T_ok 5 fun K hK => ?_
      simp [hG, List.getD_cons_zero, List.getD_cons_succ, -List.getD_eq_getElem?_getD, pureOp]
      refine hK _ ?_
      clear K hK
      refine awpL_nil ?_
      refine awpS_seq ?_
      refine awpS_regL ?_
      refine awpL_reg T_ok 7 fun K hK => ?_
      simp [hG, List.getD_cons_zero, List.getD_cons_succ, -List.getD_eq_getElem?_getD, pureOp]
      refine hK _ ?_
      clear K hK
      refine awpL_call cal12 rfl rfl (fun _ => rfl) (fun hg => awake_c) (fun hg => ?_) (fun hg => ?_) fun K hK => ?_
      · first | (simp [hG, List.getD_cons_zero, List.getD_cons_succ, -List.getD_eq_getElem?_getD, pureOp]; done) | (simp [-List.getD_eq_getElem?_getD] at hg; done) | (simp [-List.getD_eq_getElem?_getD] at hg; simp [hG, List.getD_cons_zero, List.getD_cons_succ, -List.getD_eq_getElem?_getD, pureOp]; first | omega | exact hg | (simp_all [-List.getD_eq_getElem?_getD]; done) | (simp_all [-List.getD_eq_getElem?_getD]; first | exact ⟨rfl, rfl⟩ | exact rfl))
      · first | (simp [hG, List.getD_cons_zero, List.getD_cons_succ, -List.getD_eq_getElem?_getD, pureOp]; done) | (simp [-List.getD_eq_getElem?_getD] at hg; done) | (simp [-List.getD_eq_getElem?_getD] at hg; simp [hG, List.getD_cons_zero, List.getD_cons_succ, -List.getD_eq_getElem?_getD, pureOp]; first | omega | exact hg | (simp_all [-List.getD_eq_getElem?_getD]; done) | (simp_all [-List.getD_eq_getElem?_getD]; first | exact ⟨rfl, rfl⟩ | exact rfl))
      simp [hG, List.getD_cons_zero, List.getD_cons_succ, -List.getD_eq_getElem?_getD, pureOp]
      refine hK _ ?_
      clear K hK
      refine awpL_reg T_ok 2 fun K hK => ?_
      simp [hG, List.getD_cons_zero, List.getD_cons_succ, -List.getD_eq_getElem?_getD, pureOp]
      refine hK _ ?_
      clear K hK
      refine awpL_nil ?_
      refine awpS_ret ?_
      refine RetOK_of ?_
      simp [hG, List.getD_cons_zero, List.getD_cons_succ, -List.getD_eq_getElem?_getD, pureOp]
      exact c2i (by omega)

end Go.Proofs.Ytmdnpbilnelogaa
