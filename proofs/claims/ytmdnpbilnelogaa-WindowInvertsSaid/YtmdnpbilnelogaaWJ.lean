/-
 Walks: law WindowInverts.
-/
import Derived.Test.YtmdnpbilnelogaaWI
namespace Go.Proofs.Ytmdnpbilnelogaa
set_option linter.unusedSimpArgs false
set_option linter.unusedVariables false
open Go Go.Lift Go.Proofs
def inpL (e : Enc) (l : List UInt8) : List Int := l.map fun x => (x.toNat : Int) % e.inputs
theorem inpL_len {e : Enc} {l : List UInt8} : (inpL e l).length = l.length := by simp [inpL]
theorem inpL_at {e : Enc} {l : List UInt8} {k : Nat} (h : k < l.length) : (inpL e l).getD k 0 = ((l.getD k 0).toNat : Int) % e.inputs := by
 unfold inpL
 rw [getD_get (by rw [List.length_map]; exact h), List.getElem_map, getD_get h]
theorem inpL_good {e : Enc} (hv : checkE e = 0) {l : List UInt8} : ∀ i ∈ inpL e l, badI e i = false := fun i hi => by
 have hin := (checkE_valid hv).1.inputs
 obtain ⟨x, _, rfl⟩ := List.mem_map.1 hi
 exact bad_no.2 ⟨Int.emod_nonneg _ (by omega), Int.emod_lt_of_pos _ (by omega)⟩
theorem inpL_any {e : Enc} (hv : checkE e = 0) {l : List UInt8} : (inpL e l).any (badI e) = false := List.any_eq_false.2 fun i hi => by rw [inpL_good hv i hi]; simp
theorem bytes_take {l : List UInt8} {i q : Nat} (h : q < i) : (l.take i).getD q 0 = l.getD q 0 := by
 simp [List.getD, List.getElem?_take, h]
@[simp] theorem vecF_bytes {l : List UInt8} {i j : Nat} : vecF (fun (x : UInt8) (_ : Nat) => AVal.int .u8 x.toNat) 0 l i j = .int .u8 (l.getD i 0).toNat := rfl
@[simp] theorem vecF_ints {l : List Int} {i j : Nat} : vecF (fun (x : Int) (_ : Nat) => AVal.int .i64 x) 0 l i j = .int .i64 (l.getD i 0) := rfl
@[simp] theorem strip_encR {e : Enc} {s : Int} {l : List Int} : strip (encodeR e s l) = (encodeR e s l, True) := rfl
theorem enc_fine {e : Enc} (hv : checkE e = 0) {s : Int} (h0 : 0 ≤ s) (h1 : s < (e.rows.length : Int)) {l : List Int} (hg : l.any (badI e) = false) (hl : l.length ≤ 100) : encodeN e s l = 0 := by
 have hb := (checkE_valid hv).1.block
 have hm := mul_bd (a := (l.length : Int)) (b := e.block) (c := 100) (by omega) hb
 unfold encodeN
 rw [if_neg (fun h => h hv), if_neg (by omega), if_neg (by rw [hg]; exact Bool.false_ne_true), if_neg (by omega)]
theorem invertsI {e : Enc} (hv : checkE e = 0) {p f s : Int} {l : List UInt8} (hp : 0 ≤ p) (hf : 0 ≤ f) (h : wbN e p f = 0) (h0 : 0 ≤ s) (h1 : s < (e.rows.length : Int)) (hl : l.length ≤ 8) :
  encodeN e s (inpL e l) = 0 ∧ encodeW e s (inpL e l) = (runE e s (inpL e l)).1 ∧ (encodeW e s (inpL e l)).length ≤ 1000 ∧ decodeN (wbX e p f) (encodeW e s (inpL e l)) = 0 ∧ decodeL (wbX e p f) (encodeW e s (inpL e l)) = ((inpL e l).take (l.length - f.toNat)).drop p.toNat ∧ checkD (wbX e p f) = 0 := by
 obtain ⟨p, rfl⟩ := Int.eq_ofNat_of_zero_le hp
 obtain ⟨f, rfl⟩ := Int.eq_ofNat_of_zero_le hf
 have hn := enc_fine hv h0 h1 (inpL_any hv (l := l)) (by rw [inpL_len]; omega)
 have hw : encodeW e s (inpL e l) = (runE e s (inpL e l)).1 := if_pos hn
 obtain ⟨k1, k2⟩ := inverts h h0 h1 (inpL_good hv (l := l)) (by rw [inpL_len]; omega)
 have hk := (runE_ok hv h0 h1 (inpL_good hv (l := l))).2.2
 have hb := (checkE_valid hv).1.block
 have hm := mul_bd (a := ((inpL e l).length : Int)) (b := e.block) (c := 8) (by rw [inpL_len]; omega) hb
 rw [inpL_len] at k2
 rw [hw]
 exact ⟨hn, rfl, by omega, k1, by rw [Int.toNat_natCast, Int.toNat_natCast]; exact k2, (built_valid h).1⟩
theorem wbX_ents {e : Enc} {p f : Int} (h : wbN e p f ≠ 0) : (wbX e p f).ents = [] := by rw [wbX_no rfl h]; rfl
set_option maxRecDepth 100000 in
theorem inputs_c (e : Enc) (l : List UInt8) (b : Int) (hb : 0 ≤ b ∧ b < 256) (hv : checkE e = 0) (hll : l.length ≤ maxLen) : PC Try.prog 33 [.agg 4 (encF e), Lift.bytes l, .int .u8 b] (.tup 2 (fun j => [ints (inpL e (l.take 8)), .int .i64 (b % e.rows.length)].getD j .any)) := by
 have hin := (checkE_valid hv).1.inputs
 have hr0 := (checkE_valid hv).2.1
 have h64 := rows_len hv
 have hML : maxLen = 9223372036854775807 := by decide
 have h8 : (l.take 8).length = min 8 l.length := List.length_take
 refine PC_introS T_ok Try.func33 rfl (by simp [Try.ntmps33]) fun G hG hR => ?_
 simp only [Try.ntmps33, Try.results33] at hG ⊢
 simp only [argEnv, Nat.zero_add, Nat.reduceAdd]
 refine awpS_seq ?_
 refine awpS_reg T_ok fun K hK => ?_
 simp [hG, List.getD_cons_zero, List.getD_cons_succ, -List.getD_eq_getElem?_getD, pureOp]
 refine ⟨Cond.mk (by exact trivial), hK _ ?_⟩
 clear K hK
 refine awpS_seq ?_
 refine awpS_reg T_ok fun K hK => ?_
 simp [hG, List.getD_cons_zero, List.getD_cons_succ, -List.getD_eq_getElem?_getD, pureOp]
 refine hK _ ?_
 clear K hK
 refine awpS_seq ?_
 refine awpS_seq ?_
 refine awpS_reg T_ok fun K hK => ?_
 simp [hG, List.getD_cons_zero, List.getD_cons_succ, -List.getD_eq_getElem?_getD, pureOp]
 refine ⟨Cond.mk (by simp [-List.getD_eq_getElem?_getD]; omega), hK _ ?_⟩
 clear K hK
 refine awpS_block ?_
 refine awpS_loop (α := Nat) (fun k => ⟨[(2, .int .u8 b), (3, .ptr (0, 0) 0 0), (8, .sl (1, 0) 0 k), (15, Lift.bytes (l.take 8)), (16, .int .i64 (l.take 8).length), (17, .int .i64 k)], [(0, .one (.arr 1 4 (fun _ => encF e))), (1, .one (.arr k 1 (fun i _ => .int .i64 ((inpL e (l.take 8)).getD i 0))))], 2⟩) (fun k => k ≤ (l.take 8).length) (fun k => (l.take 8).length - k) (0) (Nat.zero_le _) ?_ ?_
 ·
  refine wk_of (id) (fun _ => false) (fun k => k == 1) ?_ ?_ rfl (Nat.zero_le _) (fun k hk => absurd hk (Nat.not_lt_zero _))
  · simp [hG, List.getD_cons_zero, List.getD_cons_succ, -List.getD_eq_getElem?_getD]; exact ⟨⟨by omega, fun i hi => by rw [bytes_take (by omega)]⟩, by omega⟩
  · simp [hG, List.getD_cons_zero, List.getD_cons_succ, -List.getD_eq_getElem?_getD, pureOp]
 ·
  rintro k hk
  refine awpS_seq ?_
  refine awpS_reg T_ok fun K hK => ?_
  simp [hG, List.getD_cons_zero, List.getD_cons_succ, -List.getD_eq_getElem?_getD, pureOp]
  refine hK _ ?_
  clear K hK
  refine awpS_seq ?_
  refine awpS_cond rfl (fun hb18 => ?_) (fun hb18 => ?_)
  ·
   try simp [-List.getD_eq_getElem?_getD] at hb18
   have hat := inpL_at (e := e) (l := (l.take 8)) (k := k) (by omega)
   refine awpS_skip ?_
   refine awpS_seq ?_
   refine awpS_block ?_
   refine awpS_seq ?_
   refine awpS_reg T_ok fun K hK => ?_
   simp [hG, List.getD_cons_zero, List.getD_cons_succ, -List.getD_eq_getElem?_getD, pureOp]
   refine ⟨Cond.mk (by omega), hK _ ?_⟩
   clear K hK
   refine awpS_reg T_ok fun K hK => ?_
   simp [hG, List.getD_cons_zero, List.getD_cons_succ, -List.getD_eq_getElem?_getD, pureOp]
   first | refine hK _ ?_ | refine ⟨Cond.mk (by have hb8 := ((l.take 8).getD k 0).toNat_lt; clear hK hat; (try simp [-List.getD_eq_getElem?_getD]); repeat (first | omega | apply And.intro)), hK _ ?_⟩
   clear K hK
   refine awpS_nil ?_
   refine blockQ_norm (thenQ_norm ?_)
   refine awpS_reg T_ok fun K hK => ?_
   simp [hG, List.getD_cons_zero, List.getD_cons_succ, -List.getD_eq_getElem?_getD, pureOp]
   refine ⟨Cond.mk (by omega), hK _ ?_⟩
   clear K hK
   refine awpS_nil ?_
   refine round_end (k + 1) (by omega) (by omega) ?_
   refine wk_of (fun k => if k = 1 then 3 else k) (fun _ => false) (fun _ => false) ?_ ?_ rfl (Nat.zero_le _) (fun k hk => absurd hk (Nat.not_lt_zero _))
   · simp [hG, List.getD_cons_zero, List.getD_cons_succ, -List.getD_eq_getElem?_getD, pureOp]
   · simp [hG, List.getD_cons_zero, List.getD_cons_succ, -List.getD_eq_getElem?_getD]; exact fun i hi => app_last hi hat
  ·
   try simp [-List.getD_eq_getElem?_getD] at hb18
   obtain rfl : k = (l.take 8).length := (by omega)
   refine awpS_exit ?_
   refine thenQ_exit (thenQ_exit ?_)
   refine blockQ_exit (thenQ_norm ?_)
   refine awpS_seq ?_
   refine awpS_draw hR mixed [] ⟨[], [], []⟩ fun mu0 => ?_
   refine awpA_tk T_ok [0, 1, 2, 3, 4, 5, 6, 7, 8] [] (fuel := 0) [8, 7, 6, 5, 4, 3, 2, 1, 0] (by decide +kernel) (by decide +kernel) rfl rfl fun K hK => ?_
   simp [hG, List.getD_cons_zero, List.getD_cons_succ, -List.getD_eq_getElem?_getD, pureOp]
   refine ⟨Cond.mk (by (repeat (first | assumption | intro _ | exact And.intro ‹_› ‹_› | apply And.intro | omega | exact trivial | exact decide_eq_true (by assumption)))), hK _ ?_⟩
   clear K hK
   refine awpA_done (by decide +kernel) ?_
   refine awpS_ret ?_
   refine RetOK_of ?_
   simp [hG, List.getD_cons_zero, List.getD_cons_succ, -List.getD_eq_getElem?_getD, pureOp]
   rw [inpL_len]; exact ⟨h8.symm, Nat.le_of_eq h8⟩

set_option maxRecDepth 100000 in
set_option maxHeartbeats 1000000 in
theorem invertsLaw_c (e : Enc) (hle : e.rows.length ≤ maxLen) (hre : ∀ r ∈ e.rows, r.length ≤ maxLen) (a : Int) (ha : 0 ≤ a ∧ a < 256) (b : Int) (hb : 0 ≤ b ∧ b < 256) (l : List UInt8) (hll : l.length ≤ maxLen) (c : Int) (hc : 0 ≤ c ∧ c < 256) : PC Try.prog 10 [.agg 4 (encF e), .int .u8 a, .int .u8 b, Lift.bytes l, .int .u8 c] (.bool true) := by
 refine PC_introS T_ok Try.func10 rfl (by simp [Try.ntmps10]) fun G hG hR => ?_
 simp only [Try.ntmps10, Try.results10] at hG ⊢
 simp only [argEnv, Nat.zero_add, Nat.reduceAdd]
 refine awpS_seq ?_
 refine awpS_reg T_ok fun K hK => ?_
 simp [hG, List.getD_cons_zero, List.getD_cons_succ, -List.getD_eq_getElem?_getD, pureOp]
 refine ⟨Cond.mk (by exact trivial), hK _ ?_⟩
 clear K hK
 refine awpS_seq ?_
 refine awpS_reg T_ok fun K hK => ?_
 simp [hG, List.getD_cons_zero, List.getD_cons_succ, -List.getD_eq_getElem?_getD, pureOp]
 refine ⟨Cond.mk (by omega), hK _ ?_⟩
 clear K hK
 refine awpS_seq ?_
 refine awpS_seq ?_
 refine awpS_regL ?_
 refine awpL_reg T_ok 1 fun K hK => ?_
 simp [hG, List.getD_cons_zero, List.getD_cons_succ, -List.getD_eq_getElem?_getD, pureOp]
 refine hK _ ?_
 clear K hK
 refine awpL_call cal11 rfl rfl (fun _ => rfl) (fun hg => fineWn_c e hle hre) (fun hg => ?_) (fun hg => ?_) fun K hK => ?_
 · simp [hG, List.getD_cons_zero, List.getD_cons_succ, -List.getD_eq_getElem?_getD, pureOp]
 · simp [hG, List.getD_cons_zero, List.getD_cons_succ, -List.getD_eq_getElem?_getD, pureOp]
 simp [hG, List.getD_cons_zero, List.getD_cons_succ, -List.getD_eq_getElem?_getD, pureOp]
 refine hK _ ?_
 clear K hK
 refine awpL_reg T_ok 7 fun K hK => ?_
 simp [hG, List.getD_cons_zero, List.getD_cons_succ, -List.getD_eq_getElem?_getD, pureOp]
 refine ⟨Cond.mk (by (repeat (first | assumption | intro _ | exact And.intro ‹_› ‹_› | apply And.intro | omega | exact trivial | exact decide_eq_true (by assumption)))), hK _ ?_⟩
 clear K hK
 refine awpL_nil ?_
 refine awpS_cond rfl (fun hb36 => ?_) (fun hb36 => ?_)
 ·
  try simp [-List.getD_eq_getElem?_getD] at hb36
  refine awpS_seq ?_
  refine awpS_regL ?_
  refine awpL_call cal12 rfl rfl (fun _ => rfl) (fun hg => awake_c) (fun hg => ?_) (fun hg => ?_) fun K hK => ?_
  · simp [hG, List.getD_cons_zero, List.getD_cons_succ, -List.getD_eq_getElem?_getD, pureOp]
  · simp [hG, List.getD_cons_zero, List.getD_cons_succ, -List.getD_eq_getElem?_getD, pureOp]
  simp [hG, List.getD_cons_zero, List.getD_cons_succ, -List.getD_eq_getElem?_getD, pureOp]
  refine hK _ ?_
  clear K hK
  refine awpL_reg T_ok 1 fun K hK => ?_
  simp [hG, List.getD_cons_zero, List.getD_cons_succ, -List.getD_eq_getElem?_getD, pureOp]
  refine hK _ ?_
  clear K hK
  refine awpL_nil ?_
  refine awpS_ret ?_
  refine RetOK_of ?_
  simp [hG, List.getD_cons_zero, List.getD_cons_succ, -List.getD_eq_getElem?_getD, pureOp]
 ·
  try simp [-List.getD_eq_getElem?_getD] at hb36
  obtain ⟨hv, hr4, hi4⟩ := fineW_ok hb36.1
  have hwo := wb_orI hv hr4 hi4 (p := a % 3) (f := b % 3) (by omega) (by omega) (by omega)
  have hr0 := (checkE_valid hv).2.1
  have h8 : (l.take 8).length = min 8 l.length := List.length_take
  refine awpS_skip ?_
  refine awpS_seq ?_
  refine awpS_regL ?_
  refine awpL_reg T_ok 3 fun K hK => ?_
  simp [hG, List.getD_cons_zero, List.getD_cons_succ, -List.getD_eq_getElem?_getD, pureOp]
  refine hK _ ?_
  clear K hK
  refine awpL_call cal13 rfl rfl (fun _ => rfl) (fun hg => buildW_c e (a % 3) (b % 3)) (fun hg => ?_) (fun hg => ?_) fun K hK => ?_
  · simp [hG, List.getD_cons_zero, List.getD_cons_succ, -List.getD_eq_getElem?_getD, pureOp]
  · simp [hG, List.getD_cons_zero, List.getD_cons_succ, -List.getD_eq_getElem?_getD, pureOp]
  simp [hG, List.getD_cons_zero, List.getD_cons_succ, -List.getD_eq_getElem?_getD, pureOp]
  refine hK _ ?_
  clear K hK
  refine awpL_reg T_ok 6 fun K hK => ?_
  simp [hG, List.getD_cons_zero, List.getD_cons_succ, -List.getD_eq_getElem?_getD, pureOp]
  refine ⟨Cond.mk (by exact trivial), hK _ ?_⟩
  clear K hK
  refine awpL_nil ?_
  refine awpS_seq ?_
  refine awpS_seq ?_
  refine awpS_reg T_ok fun K hK => ?_
  simp [hG, List.getD_cons_zero, List.getD_cons_succ, -List.getD_eq_getElem?_getD, pureOp]
  refine hK _ ?_
  clear K hK
  refine awpS_cond rfl (fun hb46 => ?_) (fun hb46 => ?_)
  ·
   try simp [-List.getD_eq_getElem?_getD] at hb46
   have hwe := wbX_ents hb46
   refine awpS_seq ?_
   refine awpS_regL ?_
   refine awpL_reg T_ok 9 fun K hK => ?_
   simp [hG, List.getD_cons_zero, List.getD_cons_succ, -List.getD_eq_getElem?_getD, pureOp]
   refine hK _ ?_
   clear K hK
   refine awpL_call cal12 rfl rfl (fun _ => rfl) (fun hg => awake_c) (fun hg => ?_) (fun hg => ?_) fun K hK => ?_
   · first | (simp [hG, List.getD_cons_zero, List.getD_cons_succ, -List.getD_eq_getElem?_getD, pureOp]; done) | (simp [-List.getD_eq_getElem?_getD] at hg; done) | (simp [-List.getD_eq_getElem?_getD] at hg; simp [hG, List.getD_cons_zero, List.getD_cons_succ, -List.getD_eq_getElem?_getD, pureOp]; first | omega | exact hg | (simp_all [-List.getD_eq_getElem?_getD]; done) | (simp_all [-List.getD_eq_getElem?_getD]; first | exact ⟨rfl, rfl⟩ | exact rfl))
   · first | (simp [hG, List.getD_cons_zero, List.getD_cons_succ, -List.getD_eq_getElem?_getD, pureOp]; done) | (simp [-List.getD_eq_getElem?_getD] at hg; done) | (simp [-List.getD_eq_getElem?_getD] at hg; simp [hG, List.getD_cons_zero, List.getD_cons_succ, -List.getD_eq_getElem?_getD, pureOp]; first | omega | exact hg | (simp_all [-List.getD_eq_getElem?_getD]; done) | (simp_all [-List.getD_eq_getElem?_getD]; first | exact ⟨rfl, rfl⟩ | exact rfl))
   simp [hG, List.getD_cons_zero, List.getD_cons_succ, -List.getD_eq_getElem?_getD, pureOp]
   refine hK _ ?_
   clear K hK
   refine awpL_reg T_ok 2 fun K hK => ?_
   simp [hG, List.getD_cons_zero, List.getD_cons_succ, -List.getD_eq_getElem?_getD, pureOp]
   refine hK _ ?_
   clear K hK
   refine awpL_nil ?_
   refine awpS_ret ?_
   refine RetOK_of ?_
   simp [hG, List.getD_cons_zero, List.getD_cons_succ, -List.getD_eq_getElem?_getD, pureOp]
   exact ⟨by omega, hwe⟩
  ·
   try simp [-List.getD_eq_getElem?_getD] at hb46
   obtain ⟨q1, q2, q3, q4, q5, q6⟩ := invertsI hv (p := a % 3) (f := b % 3) (s := c % e.rows.length) (l := (l.take 8)) (by omega) (by omega) (by omega) (Int.emod_nonneg _ (by omega)) (Int.emod_lt_of_pos _ (by omega)) (by omega)
   have q7 := congrArg List.length q5
   rw [List.length_drop, List.length_take, inpL_len] at q7
   have q8 : (inpL e (l.take 8)).length = (l.take 8).length := inpL_len
   refine awpS_skip ?_
   refine awpS_seq ?_
   refine awpS_regL ?_
   refine awpL_reg T_ok 3 fun K hK => ?_
   simp [hG, List.getD_cons_zero, List.getD_cons_succ, -List.getD_eq_getElem?_getD, pureOp]
   refine hK _ ?_
   clear K hK
   refine awpL_call cal33 rfl rfl (fun _ => rfl) (fun hg => inputs_c e l c hc hv hll) (fun hg => ?_) (fun hg => ?_) fun K hK => ?_
   · simp [hG, List.getD_cons_zero, List.getD_cons_succ, -List.getD_eq_getElem?_getD, pureOp]
   · simp [hG, List.getD_cons_zero, List.getD_cons_succ, -List.getD_eq_getElem?_getD, pureOp]
   simp [hG, List.getD_cons_zero, List.getD_cons_succ, -List.getD_eq_getElem?_getD, pureOp]
   refine hK _ ?_
   clear K hK
   refine awpL_reg T_ok 5 fun K hK => ?_
   simp [hG, List.getD_cons_zero, List.getD_cons_succ, -List.getD_eq_getElem?_getD, pureOp]
   refine hK _ ?_
   clear K hK
   refine awpL_nil ?_
   refine awpS_seq ?_
   refine awpS_regL ?_
   refine awpL_reg T_ok 3 fun K hK => ?_
   simp [hG, List.getD_cons_zero, List.getD_cons_succ, -List.getD_eq_getElem?_getD, pureOp]
   refine hK _ ?_
   clear K hK
   refine awpL_call cal34 rfl rfl (fun _ => rfl) (fun hg => encode_c e (c % e.rows.length) (inpL e (l.take 8)) (by rw [inpL_len]; omega)) (fun hg => ?_) (fun hg => ?_) fun K hK => ?_
   · simp [hG, List.getD_cons_zero, List.getD_cons_succ, -List.getD_eq_getElem?_getD, pureOp]
   · simp [hG, List.getD_cons_zero, List.getD_cons_succ, -List.getD_eq_getElem?_getD, pureOp]
   simp [hG, List.getD_cons_zero, List.getD_cons_succ, -List.getD_eq_getElem?_getD, pureOp]
   refine hK _ ?_
   clear K hK
   refine awpL_reg T_ok 7 fun K hK => ?_
   simp [hG, List.getD_cons_zero, List.getD_cons_succ, -List.getD_eq_getElem?_getD, pureOp]
   refine ⟨Cond.mk (by simp [-List.getD_eq_getElem?_getD]), hK _ ?_⟩
   clear K hK
   refine awpL_nil ?_
   refine awpS_seq ?_
   refine awpS_regL ?_
   refine awpL_reg T_ok 2 fun K hK => ?_
   simp [hG, List.getD_cons_zero, List.getD_cons_succ, -List.getD_eq_getElem?_getD, pureOp]
   refine hK _ ?_
   clear K hK
   refine awpL_call cal18 rfl rfl (fun _ => rfl) (fun hg => decode_c (wbX e (a % 3) (b % 3)) (encodeW e (c % e.rows.length) (inpL e (l.take 8))) (by omega)) (fun hg => ?_) (fun hg => ?_) fun K hK => ?_
   · simp [hG, List.getD_cons_zero, List.getD_cons_succ, -List.getD_eq_getElem?_getD, pureOp]
   · simp [hG, List.getD_cons_zero, List.getD_cons_succ, -List.getD_eq_getElem?_getD, pureOp]
   simp [hG, List.getD_cons_zero, List.getD_cons_succ, -List.getD_eq_getElem?_getD, pureOp]
   refine hK _ ?_
   clear K hK
   refine awpL_reg T_ok 5 fun K hK => ?_
   simp [hG, List.getD_cons_zero, List.getD_cons_succ, -List.getD_eq_getElem?_getD, pureOp]
   refine ⟨Cond.mk (by simp [-List.getD_eq_getElem?_getD]; (repeat (first | assumption | intro _ | exact And.intro ‹_› ‹_› | apply And.intro | omega | exact trivial | exact decide_eq_true (by assumption)))), hK _ ?_⟩
   clear K hK
   refine awpL_nil ?_
   refine awpS_seq ?_
   refine awpS_seq ?_
   refine awpS_regL ?_
   refine awpL_reg T_ok 8 fun K hK => ?_
   simp [hG, List.getD_cons_zero, List.getD_cons_succ, -List.getD_eq_getElem?_getD, pureOp]
   refine hK _ ?_
   clear K hK
   refine awpL_call cal22 rfl rfl (fun _ => rfl) (fun hg => checkD_c (wbX e (a % 3) (b % 3))) (fun hg => ?_) (fun hg => ?_) fun K hK => ?_
   · first | (simp [hG, List.getD_cons_zero, List.getD_cons_succ, -List.getD_eq_getElem?_getD, pureOp]; done) | (simp [-List.getD_eq_getElem?_getD] at hg; done) | (simp [-List.getD_eq_getElem?_getD] at hg; simp [hG, List.getD_cons_zero, List.getD_cons_succ, -List.getD_eq_getElem?_getD, pureOp]; first | omega | exact hg | (simp_all [-List.getD_eq_getElem?_getD]; done) | (simp_all [-List.getD_eq_getElem?_getD]; first | exact ⟨rfl, rfl⟩ | exact rfl))
   · first | (simp [hG, List.getD_cons_zero, List.getD_cons_succ, -List.getD_eq_getElem?_getD, pureOp]; done) | (simp [-List.getD_eq_getElem?_getD] at hg; done) | (simp [-List.getD_eq_getElem?_getD] at hg; simp [hG, List.getD_cons_zero, List.getD_cons_succ, -List.getD_eq_getElem?_getD, pureOp]; first | omega | exact hg | (simp_all [-List.getD_eq_getElem?_getD]; done) | (simp_all [-List.getD_eq_getElem?_getD]; first | exact ⟨rfl, rfl⟩ | exact rfl))
   simp [hG, List.getD_cons_zero, List.getD_cons_succ, -List.getD_eq_getElem?_getD, pureOp]
   refine hK _ ?_
   clear K hK
   refine awpL_reg T_ok 2 fun K hK => ?_
   simp [hG, List.getD_cons_zero, List.getD_cons_succ, -List.getD_eq_getElem?_getD, pureOp]
   refine hK _ ?_
   clear K hK
   refine awpL_nil ?_
   refine awpS_cond rfl (fun hb89 => ?_) (fun hb89 => ?_)
   ·
    try simp [-List.getD_eq_getElem?_getD] at hb89
    refine awpS_seq ?_
    refine awpS_reg T_ok fun K hK => ?_
    simp [hG, List.getD_cons_zero, List.getD_cons_succ, -List.getD_eq_getElem?_getD, pureOp]
    refine hK _ ?_
    clear K hK
    refine awpS_ret ?_
    refine RetOK_of ?_
    simp [hG, List.getD_cons_zero, List.getD_cons_succ, -List.getD_eq_getElem?_getD, pureOp]
    omega
   ·
    try simp [-List.getD_eq_getElem?_getD] at hb89
    refine awpS_skip ?_
    refine awpS_seq ?_
    refine awpS_seq ?_
    refine awpS_reg T_ok fun K hK => ?_
    simp [hG, List.getD_cons_zero, List.getD_cons_succ, -List.getD_eq_getElem?_getD, pureOp]
    refine ⟨Cond.mk (by omega), hK _ ?_⟩
    clear K hK
    refine awpS_cond rfl (fun hb95 => ?_) (fun hb95 => ?_)
    ·
     try simp [-List.getD_eq_getElem?_getD] at hb95
     refine awpS_seq ?_
     refine awpS_regL ?_
     refine awpL_reg T_ok 4 fun K hK => ?_
     simp [hG, List.getD_cons_zero, List.getD_cons_succ, -List.getD_eq_getElem?_getD, pureOp]
     refine hK _ ?_
     clear K hK
     refine awpL_call cal12 rfl rfl (fun _ => rfl) (fun hg => awake_c) (fun hg => ?_) (fun hg => ?_) fun K hK => ?_
     · first | (simp [hG, List.getD_cons_zero, List.getD_cons_succ, -List.getD_eq_getElem?_getD, pureOp]; done) | (simp [-List.getD_eq_getElem?_getD] at hg; done) | (simp [-List.getD_eq_getElem?_getD] at hg; simp [hG, List.getD_cons_zero, List.getD_cons_succ, -List.getD_eq_getElem?_getD, pureOp]; first | omega | exact hg | (simp_all [-List.getD_eq_getElem?_getD]; done) | (simp_all [-List.getD_eq_getElem?_getD]; first | exact ⟨rfl, rfl⟩ | exact rfl))
     · first | (simp [hG, List.getD_cons_zero, List.getD_cons_succ, -List.getD_eq_getElem?_getD, pureOp]; done) | (simp [-List.getD_eq_getElem?_getD] at hg; done) | (simp [-List.getD_eq_getElem?_getD] at hg; simp [hG, List.getD_cons_zero, List.getD_cons_succ, -List.getD_eq_getElem?_getD, pureOp]; first | omega | exact hg | (simp_all [-List.getD_eq_getElem?_getD]; done) | (simp_all [-List.getD_eq_getElem?_getD]; first | exact ⟨rfl, rfl⟩ | exact rfl))
     simp [hG, List.getD_cons_zero, List.getD_cons_succ, -List.getD_eq_getElem?_getD, pureOp]
     refine hK _ ?_
     clear K hK
     refine awpL_reg T_ok 2 fun K hK => ?_
     simp [hG, List.getD_cons_zero, List.getD_cons_succ, -List.getD_eq_getElem?_getD, pureOp]
     refine hK _ ?_
     clear K hK
     refine awpL_nil ?_
     refine awpS_ret ?_
     refine RetOK_of ?_
     simp [hG, List.getD_cons_zero, List.getD_cons_succ, -List.getD_eq_getElem?_getD, pureOp]
     exact List.eq_nil_of_length_eq_zero (by omega)
    ·
     try simp [-List.getD_eq_getElem?_getD] at hb95
     refine awpS_skip ?_
     refine awpS_seq ?_
     refine awpS_regL ?_
     refine awpL_reg T_ok 8 fun K hK => ?_
     simp [hG, List.getD_cons_zero, List.getD_cons_succ, -List.getD_eq_getElem?_getD, pureOp]
     refine ⟨Cond.mk (by omega), hK _ ?_⟩
     clear K hK
     refine awpL_call cal23 rfl rfl (fun _ => rfl) (fun hg => equalI_c (decodeL (wbX e (a % 3) (b % 3)) (encodeW e (c % e.rows.length) (inpL e (l.take 8)))) (decodeL (wbX e (a % 3) (b % 3)) (encodeW e (c % e.rows.length) (inpL e (l.take 8)))) (by omega)) (fun hg => ?_) (fun hg => ?_) fun K hK => ?_
     · simp [hG, List.getD_cons_zero, List.getD_cons_succ, -List.getD_eq_getElem?_getD, pureOp]
     · simp [hG, List.getD_cons_zero, List.getD_cons_succ, -List.getD_eq_getElem?_getD]; exact ⟨by omega, fun i hi => by rw [q5, getD_drop, getD_take (by omega)]⟩
     simp [hG, List.getD_cons_zero, List.getD_cons_succ, -List.getD_eq_getElem?_getD, pureOp]
     refine hK _ ?_
     clear K hK
     refine awpL_reg T_ok 1 fun K hK => ?_
     simp [hG, List.getD_cons_zero, List.getD_cons_succ, -List.getD_eq_getElem?_getD, pureOp]
     refine hK _ ?_
     clear K hK
     refine awpL_call cal12 rfl rfl (fun _ => rfl) (fun hg => awake_c) (fun hg => ?_) (fun hg => ?_) fun K hK => ?_
     · first | (simp [hG, List.getD_cons_zero, List.getD_cons_succ, -List.getD_eq_getElem?_getD, pureOp]; done) | (simp [-List.getD_eq_getElem?_getD] at hg; done) | (simp [-List.getD_eq_getElem?_getD] at hg; simp [hG, List.getD_cons_zero, List.getD_cons_succ, -List.getD_eq_getElem?_getD, pureOp]; first | omega | exact hg | (simp_all [-List.getD_eq_getElem?_getD]; done) | (simp_all [-List.getD_eq_getElem?_getD]; first | exact ⟨rfl, rfl⟩ | exact rfl))
     · first | (simp [hG, List.getD_cons_zero, List.getD_cons_succ, -List.getD_eq_getElem?_getD, pureOp]; done) | (simp [-List.getD_eq_getElem?_getD] at hg; done) | (simp [-List.getD_eq_getElem?_getD] at hg; simp [hG, List.getD_cons_zero, List.getD_cons_succ, -List.getD_eq_getElem?_getD, pureOp]; first | omega | exact hg | (simp_all [-List.getD_eq_getElem?_getD]; done) | (simp_all [-List.getD_eq_getElem?_getD]; first | exact ⟨rfl, rfl⟩ | exact rfl))
     simp [hG, List.getD_cons_zero, List.getD_cons_succ, -List.getD_eq_getElem?_getD, pureOp]
     refine hK _ ?_
     clear K hK
     refine awpL_reg T_ok 2 fun K hK => ?_
     simp [hG, List.getD_cons_zero, List.getD_cons_succ, -List.getD_eq_getElem?_getD, pureOp]
     refine hK _ ?_
     clear K hK
     refine awpL_nil ?_
     refine awpS_ret ?_
     refine RetOK_of ?_
     simp [hG, List.getD_cons_zero, List.getD_cons_succ, -List.getD_eq_getElem?_getD, pureOp]

end Go.Proofs.Ytmdnpbilnelogaa
