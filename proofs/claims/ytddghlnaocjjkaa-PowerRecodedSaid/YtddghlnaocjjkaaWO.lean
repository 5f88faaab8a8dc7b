/-
  Walks: the law PowerRecoded.
-/
import Derived.Test.YtddghlnaocjjkaaWN
import Derived.Test.YtddghlnaocjjkaaWI
namespace Go.Proofs.Ytddghlnaocjjkaa
set_option linter.unusedSimpArgs false
set_option linter.unusedVariables false
open Go Go.Lift Go.Proofs

def modI (a : List UInt8) (k q : Nat) : Int := (((a.getD (q % a.length) 0).toNat % k : Nat) : Int)
def modL (a : List UInt8) (k m : Nat) : List Int := (List.range m).map (modI a k)
def ownL (m : Nat) : List Int := (List.range m).map fun (i : Nat) => (i : Int)
def viaL (a b : List Int) : List Int := a.map fun n => b.getD n.toNat 0
theorem modL_len {a : List UInt8} {k m : Nat} : (modL a k m).length = m := by simp [modL]
theorem ownL_len {m : Nat} : (ownL m).length = m := by simp [ownL]
theorem viaL_len {a b : List Int} : (viaL a b).length = a.length := by simp [viaL]
theorem modL_at {a : List UInt8} {k m q : Nat} (h : q < m) : (modL a k m).getD q 0 = modI a k q := by simp [modL, List.getD, h]
theorem ownL_at {m q : Nat} (h : q < m) : (ownL m).getD q 0 = q := by simp [ownL, List.getD, h]
theorem viaL_at {a b : List Int} {q : Nat} (h : q < a.length) : (viaL a b).getD q 0 = b.getD (a.getD q 0).toNat 0 := by simp [viaL, List.getD, h]
theorem modI_box {a : List UInt8} {k q : Nat} (hk : 0 < k) : 0 ≤ modI a k q ∧ modI a k q < k := by
  unfold modI
  have := Nat.mod_lt (a.getD (q % a.length) 0).toNat hk
  omega
theorem modL_box {a : List UInt8} {k m : Nat} (hk : 0 < k) : ∀ n ∈ modL a k m, 0 ≤ n ∧ n < k := fun n hn => by
  obtain ⟨q, _, rfl⟩ := List.mem_map.1 hn
  exact modI_box hk
theorem recX_len {g : Gr} {n : Int} {l : List Int} : (recX g n l).edges.length ≤ 1000000 := by
  unfold recX
  split
  · simp
  · by_cases h : mkN n g.states (recE g l) = 0
    · rw [mk_ok h]
      have := (gcheck_valid (show gcheck ⟨n, g.states, normE (recE g l)⟩ = 0 from h)).1.ed
      simp only at this ⊢; omega
    · rw [mk_no rfl h]; simp
theorem rec_law {g : Gr} {a b : List UInt8} (hv : gcheck g = 0) : (recN g g.labels (ownL g.labels.toNat) = 0 ∧ recX g g.labels (ownL g.labels.toNat) = g) ∧ recN g 4 (modL a 4 g.labels.toNat) = 0 ∧ recN (recX g 4 (modL a 4 g.labels.toNat)) 3 (modL b 3 4) = 0 ∧
    recN g 3 (viaL (modL a 4 g.labels.toNat) (modL b 3 4)) = 0 ∧ recX (recX g 4 (modL a 4 g.labels.toNat)) 3 (modL b 3 4) = recX g 3 (viaL (modL a 4 g.labels.toNat) (modL b 3 4)) := by
  have hz := (gcheck_valid hv).1
  have hlb := hz.lab
  have hbox : ∀ n ∈ viaL (modL a 4 g.labels.toNat) (modL b 3 4), 0 ≤ n ∧ n < 3 := fun n hn => by
    obtain ⟨m, hm, rfl⟩ := List.mem_map.1 hn
    have h4 := modL_box (by decide) m hm
    exact modL_box (k := 3) (by decide) _ (getD_mem (by rw [modL_len]; omega))
  have h1 := rec_ok hv (labels := g.labels) (l := ownL g.labels.toNat) hlb (by rw [ownL_len]; omega) (fun n hn => by
    obtain ⟨i, hi, rfl⟩ := List.mem_map.1 hn
    have := List.mem_range.1 hi
    omega)
  have h2 := rec_ok hv (labels := 4) (l := modL a 4 g.labels.toNat) (by omega) (by rw [modL_len]; omega) (modL_box (by decide))
  have h4 := rec_ok hv (labels := 3) (l := viaL (modL a 4 g.labels.toNat) (modL b 3 4)) (by omega) (by rw [viaL_len, modL_len]; omega) hbox
  have hv2 : gcheck (recX g 4 (modL a 4 g.labels.toNat)) = 0 := by
    have h5 := rec_mk hv (labels := 4) (l := modL a 4 g.labels.toNat) (by omega) (by rw [modL_len]; omega) (List.any_eq_false.2 fun n hn => by
      have := modL_box (k := 4) (by decide) n hn
      unfold outB; simp; omega)
    have h6 : mkN 4 g.states (recE g (modL a 4 g.labels.toNat)) = 0 := by rw [← h5.1]; exact h2.1
    rw [h2.2]; exact h6
  have h3 := rec_ok hv2 (labels := 3) (l := modL b 3 4) (by omega) (by rw [modL_len, h2.2]; rfl) (modL_box (by decide))
  refine ⟨⟨h1.1, ?_⟩, h2.1, h3.1, h4.1, ?_⟩
  · rw [h1.2, rec_own hv fun i hi => ownL_at (by omega)]
  · rw [h3.2, h4.2, h2.2]
    congr 1
    refine rec_rec fun x hx => ?_
    have h5 := edge_in hv hx
    rw [viaL_at (by rw [modL_len]; omega)]
theorem app_fnI {F : Nat → Int} {i j : Nat} {v : AVal} {w : Nat → Nat → AVal} (hv : v = .int .i64 (F i)) (hj : j < i + 1) : app (fun q _ => .int .i64 (F q)) i (fun a c => if a = 0 ∧ c = 0 then v else w a c) j 0 = .int .i64 (F j) := by
  unfold app
  by_cases h : j < i
  · rw [if_pos h]
  · obtain rfl : j = i := by omega
    rw [if_neg h, Nat.sub_self]; simpa using hv
theorem modI_eq {a : List UInt8} {k q : Nat} : ((a.getD ((q : Int) % (a.length : Int)).toNat 0).toNat : Int) % (k : Int) = modI a k q := by
  have h : ((q : Int) % (a.length : Int)).toNat = q % a.length := by rw [← Int.natCast_emod, Int.toNat_natCast]
  unfold modI
  rw [h, Int.natCast_emod]
theorem modL_all {a : List UInt8} {k m : Nat} : m = (modL a k m).length ∧ (modL a k m).length ≤ m ∧ ∀ i, i < (modL a k m).length → modI a k i = (modL a k m).getD i 0 :=
  ⟨modL_len.symm, Nat.le_of_eq modL_len, fun i hi => by rw [modL_len] at hi; exact (modL_at hi).symm⟩
theorem ownL_all {m : Nat} : m = (ownL m).length ∧ (ownL m).length ≤ m ∧ ∀ i, i < (ownL m).length → (i : Int) = (ownL m).getD i 0 :=
  ⟨ownL_len.symm, Nat.le_of_eq ownL_len, fun i hi => by rw [ownL_len] at hi; exact (ownL_at hi).symm⟩
theorem viaL_all {a b : List Int} {m : Nat} (hm : a.length = m) : m = (viaL a b).length ∧ (viaL a b).length ≤ m ∧ ∀ i, i < (viaL a b).length → b.getD (a.getD i 0).toNat 0 = (viaL a b).getD i 0 :=
  ⟨by rw [viaL_len, hm], by rw [viaL_len, hm]; exact Nat.le_refl _, fun i hi => by rw [viaL_len] at hi; exact (viaL_at hi).symm⟩
theorem u8_max (b : UInt8) : ((b.toNat : Nat) : Int) ≤ 9223372036854775807 := by have := b.toNat_lt; omega
set_option maxRecDepth 100000 in
theorem recodedLaw_c (g : Gr) (a b : List UInt8) : PC Try.prog 7 [.agg 3 (grF g), Lift.bytes a, Lift.bytes b] (.bool true) := by
  refine PC_introS T_ok Try.func7 rfl (by simp [Try.ntmps7]) fun G hG hR => ?_
  simp only [Try.ntmps7, Try.results7] at hG ⊢
  simp only [argEnv, Nat.zero_add, Nat.reduceAdd]
  refine awpS_seq ?_
  refine awpS_reg T_ok fun K hK => ?_
  simp [hG, List.getD_cons_zero, List.getD_cons_succ, -List.getD_eq_getElem?_getD]
  first | refine hK _ ?_ | refine ⟨Cond.mk (by first | omega | (simp [-List.getD_eq_getElem?_getD]; done) | (simp [-List.getD_eq_getElem?_getD]; omega) | (simp [-List.getD_eq_getElem?_getD]; repeat (first | intro _ | exact And.intro ‹_› ‹_› | apply And.intro | assumption | omega | exact decide_eq_true (by assumption)))), hK _ ?_⟩
  clear K hK
  refine awpS_seq ?_
  refine awpS_seq ?_
  refine awpS_regL ?_
  refine awpL_reg T_ok 1 fun K hK => ?_
  simp [hG, List.getD_cons_zero, List.getD_cons_succ, -List.getD_eq_getElem?_getD]
  first | refine hK _ ?_ | refine ⟨Cond.mk (by first | omega | (simp [-List.getD_eq_getElem?_getD]; done) | (simp [-List.getD_eq_getElem?_getD]; omega) | (simp [-List.getD_eq_getElem?_getD]; repeat (first | intro _ | exact And.intro ‹_› ‹_› | apply And.intro | assumption | omega | exact decide_eq_true (by assumption)))), hK _ ?_⟩
  clear K hK
  refine awpL_call cal10 rfl rfl (fun _ => rfl) (fun hg => great_c g) (fun hg => ?_) (fun hg => ?_) fun K hK => ?_
  · simp [hG, List.getD_cons_zero, List.getD_cons_succ, -List.getD_eq_getElem?_getD]
  · simp [hG, List.getD_cons_zero, List.getD_cons_succ, -List.getD_eq_getElem?_getD]
  simp [hG, List.getD_cons_zero, List.getD_cons_succ, -List.getD_eq_getElem?_getD]
  refine hK _ ?_
  clear K hK
  refine awpL_reg T_ok 2 fun K hK => ?_
  simp [hG, List.getD_cons_zero, List.getD_cons_succ, -List.getD_eq_getElem?_getD]
  first | refine hK _ ?_ | refine ⟨Cond.mk (by first | omega | (simp [-List.getD_eq_getElem?_getD]; done) | (simp [-List.getD_eq_getElem?_getD]; omega) | (simp [-List.getD_eq_getElem?_getD]; repeat (first | intro _ | exact And.intro ‹_› ‹_› | apply And.intro | assumption | omega | exact decide_eq_true (by assumption)))), hK _ ?_⟩
  clear K hK
  refine awpL_call cal17 rfl rfl (fun _ => rfl) (fun hg => check_c g) (fun hg => ?_) (fun hg => ?_) fun K hK => ?_
  · first | (simp [hG, List.getD_cons_zero, List.getD_cons_succ, -List.getD_eq_getElem?_getD]; done) | (simp [-List.getD_eq_getElem?_getD] at hg; done) | (simp [-List.getD_eq_getElem?_getD] at hg; simp [hG, List.getD_cons_zero, List.getD_cons_succ, -List.getD_eq_getElem?_getD]; first | omega | exact hg | (simp_all [-List.getD_eq_getElem?_getD]; done) | (simp_all [-List.getD_eq_getElem?_getD]; first | exact ⟨rfl, rfl⟩ | exact rfl))
  · first | (simp [hG, List.getD_cons_zero, List.getD_cons_succ, -List.getD_eq_getElem?_getD]; done) | (simp [-List.getD_eq_getElem?_getD] at hg; done) | (simp [-List.getD_eq_getElem?_getD] at hg; simp [hG, List.getD_cons_zero, List.getD_cons_succ, -List.getD_eq_getElem?_getD]; first | omega | exact hg | (simp_all [-List.getD_eq_getElem?_getD]; done) | (simp_all [-List.getD_eq_getElem?_getD]; first | exact ⟨rfl, rfl⟩ | exact rfl))
  simp [hG, List.getD_cons_zero, List.getD_cons_succ, -List.getD_eq_getElem?_getD]
  refine hK _ ?_
  clear K hK
  refine awpL_reg T_ok 17 fun K hK => ?_
  simp [hG, List.getD_cons_zero, List.getD_cons_succ, -List.getD_eq_getElem?_getD]
  first | refine hK _ ?_ | refine ⟨Cond.mk (by first | omega | (simp [-List.getD_eq_getElem?_getD]; done) | (simp [-List.getD_eq_getElem?_getD]; omega) | (simp [-List.getD_eq_getElem?_getD]; repeat (first | intro _ | exact And.intro ‹_› ‹_› | apply And.intro | assumption | omega | exact decide_eq_true (by assumption)))), hK _ ?_⟩
  clear K hK
  refine awpL_nil ?_
  refine awpS_cond rfl (fun hb42 => ?_) (fun hb42 => ?_)
  ·
    try simp [-List.getD_eq_getElem?_getD] at hb42
    refine awpS_seq ?_
    refine awpS_regL ?_
    refine awpL_call cal11 rfl rfl (fun _ => rfl) (fun hg => awake_c) (fun hg => ?_) (fun hg => ?_) fun K hK => ?_
    · simp [hG, List.getD_cons_zero, List.getD_cons_succ, -List.getD_eq_getElem?_getD]
    · simp [hG, List.getD_cons_zero, List.getD_cons_succ, -List.getD_eq_getElem?_getD]
    simp [hG, List.getD_cons_zero, List.getD_cons_succ, -List.getD_eq_getElem?_getD]
    refine hK _ ?_
    clear K hK
    refine awpL_reg T_ok 1 fun K hK => ?_
    simp [hG, List.getD_cons_zero, List.getD_cons_succ, -List.getD_eq_getElem?_getD]
    first | refine hK _ ?_ | refine ⟨Cond.mk (by first | omega | (simp [-List.getD_eq_getElem?_getD]; done) | (simp [-List.getD_eq_getElem?_getD]; omega) | (simp [-List.getD_eq_getElem?_getD]; repeat (first | intro _ | exact And.intro ‹_› ‹_› | apply And.intro | assumption | omega | exact decide_eq_true (by assumption)))), hK _ ?_⟩
    clear K hK
    refine awpL_nil ?_
    refine awpS_ret ?_
    refine RetOK_of ?_
    simp [hG, List.getD_cons_zero, List.getD_cons_succ, -List.getD_eq_getElem?_getD]
  ·
    try simp [-List.getD_eq_getElem?_getD] at hb42
    have hv : gcheck g = 0 := hb42.1.1.1.2
    have hlb := (gcheck_valid hv).1.lab
    have hal : 0 < a.length := List.length_pos_iff.2 hb42.1.1.2
    have hbl : 0 < b.length := List.length_pos_iff.2 hb42.1.2
    have hfl := modL_len (a := a) (k := 4) (m := g.labels.toNat)
    have hsl := modL_len (a := b) (k := 3) (m := 4)
    refine awpS_skip ?_
    refine awpS_seq ?_
    refine awpS_reg T_ok fun K hK => ?_
    simp [hG, List.getD_cons_zero, List.getD_cons_succ, -List.getD_eq_getElem?_getD]
    first | refine hK _ ?_ | refine ⟨Cond.mk (by first | omega | (simp [-List.getD_eq_getElem?_getD]; done) | (simp [-List.getD_eq_getElem?_getD]; omega) | (simp [-List.getD_eq_getElem?_getD]; repeat (first | intro _ | exact And.intro ‹_› ‹_› | apply And.intro | assumption | omega | exact decide_eq_true (by assumption)))), hK _ ?_⟩
    clear K hK
    refine awpS_seq ?_
    refine awpS_seq ?_
    refine awpS_reg T_ok fun K hK => ?_
    simp [hG, List.getD_cons_zero, List.getD_cons_succ, -List.getD_eq_getElem?_getD]
    first | refine hK _ ?_ | refine ⟨Cond.mk (by first | omega | (simp [-List.getD_eq_getElem?_getD]; done) | (simp [-List.getD_eq_getElem?_getD]; omega) | (simp [-List.getD_eq_getElem?_getD]; repeat (first | intro _ | exact And.intro ‹_› ‹_› | apply And.intro | assumption | omega | exact decide_eq_true (by assumption)))), hK _ ?_⟩
    clear K hK
    refine awpS_block ?_
    refine awpS_loop (α := Nat) (fun i => ⟨[(1, Lift.bytes a), (2, Lift.bytes b), (3, .ptr (0, 0) 0 0), (7, .sl (1, 0) 0 i), (8, .sl (2, 0) 0 i), (9, .nils), (10, .nils), (45, .int .i64 g.labels), (46, .int .i64 i)], [(0, .one (.arr 1 3 (fun _ => grF g))), (1, .one (.arr i 1 (fun q _ => .int .i64 (q : Int)))), (2, .one (.arr i 1 (fun q _ => .int .i64 (modI a 4 q))))], 3⟩) (fun i => i ≤ g.labels.toNat) (fun i => g.labels.toNat - i) (0) (Nat.zero_le _) ?_ ?_
    ·
      refine wk_of (id) (fun _ => false) (fun k => k == 1 || k == 2) ?_ ?_ rfl (Nat.zero_le _) (fun k hk => absurd hk (Nat.not_lt_zero _))
      · simp [hG, List.getD_cons_zero, List.getD_cons_succ, -List.getD_eq_getElem?_getD]
      · simp [hG, List.getD_cons_zero, List.getD_cons_succ, -List.getD_eq_getElem?_getD]
    ·
      rintro i hi
      refine awpS_seq ?_
      refine awpS_reg T_ok fun K hK => ?_
      simp [hG, List.getD_cons_zero, List.getD_cons_succ, -List.getD_eq_getElem?_getD]
      first | refine hK _ ?_ | refine ⟨Cond.mk (by first | omega | (simp [-List.getD_eq_getElem?_getD]; done) | (simp [-List.getD_eq_getElem?_getD]; omega) | (simp [-List.getD_eq_getElem?_getD]; repeat (first | intro _ | exact And.intro ‹_› ‹_› | apply And.intro | assumption | omega | exact decide_eq_true (by assumption)))), hK _ ?_⟩
      clear K hK
      refine awpS_seq ?_
      refine awpS_cond rfl (fun hb47 => ?_) (fun hb47 => ?_)
      ·
        try simp [-List.getD_eq_getElem?_getD] at hb47
        have hmi : 0 ≤ (i : Int) % (a.length : Int) ∧ (i : Int) % (a.length : Int) < a.length := ⟨Int.emod_nonneg _ (by omega), Int.emod_lt_of_pos _ (by omega)⟩
        refine awpS_skip ?_
        refine awpS_seq ?_
        refine awpS_block ?_
        refine awpS_seq ?_
        refine awpS_reg T_ok fun K hK => ?_
        simp [hG, List.getD_cons_zero, List.getD_cons_succ, -List.getD_eq_getElem?_getD]
        first | refine hK _ ?_ | refine ⟨Cond.mk (by first | omega | (simp [-List.getD_eq_getElem?_getD]; done) | (simp [-List.getD_eq_getElem?_getD]; omega) | (simp [-List.getD_eq_getElem?_getD]; repeat (first | intro _ | exact And.intro ‹_› ‹_› | apply And.intro | assumption | omega | exact decide_eq_true (by assumption)))), hK _ ?_⟩
        clear K hK
        refine awpS_seq ?_
        refine awpS_reg T_ok fun K hK => ?_
        simp [hG, List.getD_cons_zero, List.getD_cons_succ, -List.getD_eq_getElem?_getD]
        first | refine hK _ ?_ | refine ⟨Cond.mk (by first | omega | (simp [-List.getD_eq_getElem?_getD]; done) | (simp [-List.getD_eq_getElem?_getD]; omega) | (simp [-List.getD_eq_getElem?_getD]; repeat (first | intro _ | exact And.intro ‹_› ‹_› | apply And.intro | assumption | omega | exact decide_eq_true (by assumption)))), hK _ ?_⟩
        clear K hK
        refine awpS_reg T_ok fun K hK => ?_
        simp [hG, List.getD_cons_zero, List.getD_cons_succ, -List.getD_eq_getElem?_getD]
        first | refine hK _ ?_ | refine ⟨Cond.mk (by exact ⟨hal, hmi, u8_max _, by omega, by omega⟩), hK _ ?_⟩
        clear K hK
        refine awpS_nil ?_
        refine blockQ_norm (thenQ_norm ?_)
        refine awpS_reg T_ok fun K hK => ?_
        simp [hG, List.getD_cons_zero, List.getD_cons_succ, -List.getD_eq_getElem?_getD]
        first | refine hK _ ?_ | refine ⟨Cond.mk (by first | omega | (simp [-List.getD_eq_getElem?_getD]; done) | (simp [-List.getD_eq_getElem?_getD]; omega) | (simp [-List.getD_eq_getElem?_getD]; repeat (first | intro _ | exact And.intro ‹_› ‹_› | apply And.intro | assumption | omega | exact decide_eq_true (by assumption)))), hK _ ?_⟩
        clear K hK
        refine awpS_nil ?_
        refine round_end (i + 1) (by omega) (by omega) ?_
        refine wk_of (fun k => if k = 1 then 4 else if k = 2 then 6 else k) (fun _ => false) (fun _ => false) ?_ ?_ rfl (Nat.zero_le _) (fun k hk => absurd hk (Nat.not_lt_zero _))
        · simp [hG, List.getD_cons_zero, List.getD_cons_succ, -List.getD_eq_getElem?_getD]
        · simp [hG, List.getD_cons_zero, List.getD_cons_succ, -List.getD_eq_getElem?_getD]; exact ⟨fun q => app_fnI (F := fun q => (q : Int)) rfl, fun q => app_fnI (F := modI a 4) (congrArg _ (modI_eq (k := 4)))⟩
      ·
        try simp [-List.getD_eq_getElem?_getD] at hb47
        obtain rfl : i = g.labels.toNat := (by omega)
        refine awpS_exit ?_
        refine thenQ_exit (thenQ_exit ?_)
        refine blockQ_exit (thenQ_norm ?_)
        refine awpS_seq ?_
        refine awpS_seq ?_
        refine awpS_wk (st2 := ⟨[(1, Lift.bytes a), (2, Lift.bytes b), (3, .ptr (0, 0) 0 0), (7, ints (ownL g.labels.toNat)), (8, ints (modL a 4 g.labels.toNat)), (9, .nils), (10, .nils)], [(0, .one (.arr 1 3 (fun _ => grF g)))], 1⟩) ?_ ?_
        ·
          refine wk_of (id) (fun k => k == 1 || k == 2) (fun _ => false) ?_ ?_ rfl (Nat.zero_le _) (fun k hk => absurd hk (Nat.not_lt_zero _))
          · simp [hG, List.getD_cons_zero, List.getD_cons_succ, -List.getD_eq_getElem?_getD]; exact ⟨ownL_all, modL_all⟩
          · simp [hG, List.getD_cons_zero, List.getD_cons_succ, -List.getD_eq_getElem?_getD]
        refine awpS_reg T_ok fun K hK => ?_
        simp [hG, List.getD_cons_zero, List.getD_cons_succ, -List.getD_eq_getElem?_getD]
        first | refine hK _ ?_ | refine ⟨Cond.mk (by first | omega | (simp [-List.getD_eq_getElem?_getD]; done) | (simp [-List.getD_eq_getElem?_getD]; omega) | (simp [-List.getD_eq_getElem?_getD]; repeat (first | intro _ | exact And.intro ‹_› ‹_› | apply And.intro | assumption | omega | exact decide_eq_true (by assumption)))), hK _ ?_⟩
        clear K hK
        refine awpS_block ?_
        refine awpS_loop (α := Nat) (fun i => ⟨[(1, Lift.bytes a), (2, Lift.bytes b), (3, .ptr (0, 0) 0 0), (7, ints (ownL g.labels.toNat)), (8, ints (modL a 4 g.labels.toNat)), (9, .sl (1, 0) 0 i), (10, .nils), (66, .int .i64 i)], [(0, .one (.arr 1 3 (fun _ => grF g))), (1, .one (.arr i 1 (fun q _ => .int .i64 (modI b 3 q))))], 2⟩) (fun i => i ≤ 4) (fun i => 4 - i) (0) (Nat.zero_le _) ?_ ?_
        ·
          refine wk_of (id) (fun _ => false) (fun k => k == 1) ?_ ?_ rfl (Nat.zero_le _) (fun k hk => absurd hk (Nat.not_lt_zero _))
          · simp [hG, List.getD_cons_zero, List.getD_cons_succ, -List.getD_eq_getElem?_getD]
          · simp [hG, List.getD_cons_zero, List.getD_cons_succ, -List.getD_eq_getElem?_getD]
        ·
          rintro i hi
          refine awpS_seq ?_
          refine awpS_reg T_ok fun K hK => ?_
          simp [hG, List.getD_cons_zero, List.getD_cons_succ, -List.getD_eq_getElem?_getD]
          first | refine hK _ ?_ | refine ⟨Cond.mk (by first | omega | (simp [-List.getD_eq_getElem?_getD]; done) | (simp [-List.getD_eq_getElem?_getD]; omega) | (simp [-List.getD_eq_getElem?_getD]; repeat (first | intro _ | exact And.intro ‹_› ‹_› | apply And.intro | assumption | omega | exact decide_eq_true (by assumption)))), hK _ ?_⟩
          clear K hK
          refine awpS_seq ?_
          refine awpS_cond rfl (fun hb67 => ?_) (fun hb67 => ?_)
          ·
            try simp [-List.getD_eq_getElem?_getD] at hb67
            have hmi : 0 ≤ (i : Int) % (b.length : Int) ∧ (i : Int) % (b.length : Int) < b.length := ⟨Int.emod_nonneg _ (by omega), Int.emod_lt_of_pos _ (by omega)⟩
            refine awpS_skip ?_
            refine awpS_seq ?_
            refine awpS_block ?_
            refine awpS_seq ?_
            refine awpS_reg T_ok fun K hK => ?_
            simp [hG, List.getD_cons_zero, List.getD_cons_succ, -List.getD_eq_getElem?_getD]
            first | refine hK _ ?_ | refine ⟨Cond.mk (by first | omega | (simp [-List.getD_eq_getElem?_getD]; done) | (simp [-List.getD_eq_getElem?_getD]; omega) | (simp [-List.getD_eq_getElem?_getD]; repeat (first | intro _ | exact And.intro ‹_› ‹_› | apply And.intro | assumption | omega | exact decide_eq_true (by assumption)))), hK _ ?_⟩
            clear K hK
            refine awpS_reg T_ok fun K hK => ?_
            simp [hG, List.getD_cons_zero, List.getD_cons_succ, -List.getD_eq_getElem?_getD]
            first | refine hK _ ?_ | refine ⟨Cond.mk (by exact ⟨hbl, hmi, u8_max _, by omega, by omega⟩), hK _ ?_⟩
            clear K hK
            refine awpS_nil ?_
            refine blockQ_norm (thenQ_norm ?_)
            refine awpS_reg T_ok fun K hK => ?_
            simp [hG, List.getD_cons_zero, List.getD_cons_succ, -List.getD_eq_getElem?_getD]
            first | refine hK _ ?_ | refine ⟨Cond.mk (by first | omega | (simp [-List.getD_eq_getElem?_getD]; done) | (simp [-List.getD_eq_getElem?_getD]; omega) | (simp [-List.getD_eq_getElem?_getD]; repeat (first | intro _ | exact And.intro ‹_› ‹_› | apply And.intro | assumption | omega | exact decide_eq_true (by assumption)))), hK _ ?_⟩
            clear K hK
            refine awpS_nil ?_
            refine round_end (i + 1) (by omega) (by omega) ?_
            refine wk_of (fun k => if k = 1 then 3 else k) (fun _ => false) (fun _ => false) ?_ ?_ rfl (Nat.zero_le _) (fun k hk => absurd hk (Nat.not_lt_zero _))
            · simp [hG, List.getD_cons_zero, List.getD_cons_succ, -List.getD_eq_getElem?_getD]
            · simp [hG, List.getD_cons_zero, List.getD_cons_succ, -List.getD_eq_getElem?_getD]; exact fun q => app_fnI (F := modI b 3) (congrArg _ (modI_eq (k := 3)))
          ·
            try simp [-List.getD_eq_getElem?_getD] at hb67
            obtain rfl : i = 4 := (by omega)
            refine awpS_exit ?_
            refine thenQ_exit (thenQ_exit ?_)
            refine blockQ_exit (thenQ_norm ?_)
            refine awpS_seq ?_
            refine awpS_seq ?_
            refine awpS_wk (st2 := ⟨[(1, Lift.bytes a), (2, Lift.bytes b), (3, .ptr (0, 0) 0 0), (7, ints (ownL g.labels.toNat)), (8, ints (modL a 4 g.labels.toNat)), (9, ints (modL b 3 4)), (10, .nils)], [(0, .one (.arr 1 3 (fun _ => grF g)))], 1⟩) ?_ ?_
            ·
              refine wk_of (id) (fun k => k == 1) (fun _ => false) ?_ ?_ rfl (Nat.zero_le _) (fun k hk => absurd hk (Nat.not_lt_zero _))
              · simp [hG, List.getD_cons_zero, List.getD_cons_succ, -List.getD_eq_getElem?_getD]; exact modL_all
              · simp [hG, List.getD_cons_zero, List.getD_cons_succ, -List.getD_eq_getElem?_getD]
            refine awpS_reg T_ok fun K hK => ?_
            simp [hG, List.getD_cons_zero, List.getD_cons_succ, -List.getD_eq_getElem?_getD]
            first | refine hK _ ?_ | refine ⟨Cond.mk (by first | omega | (simp [-List.getD_eq_getElem?_getD]; done) | (simp [-List.getD_eq_getElem?_getD]; omega) | (simp [-List.getD_eq_getElem?_getD]; repeat (first | intro _ | exact And.intro ‹_› ‹_› | apply And.intro | assumption | omega | exact decide_eq_true (by assumption)))), hK _ ?_⟩
            clear K hK
            refine awpS_block ?_
            refine awpS_loop (α := Nat) (fun i => ⟨[(1, Lift.bytes a), (2, Lift.bytes b), (3, .ptr (0, 0) 0 0), (7, ints (ownL g.labels.toNat)), (8, ints (modL a 4 g.labels.toNat)), (9, ints (modL b 3 4)), (10, .sl (1, 0) 0 i), (82, ints (modL a 4 g.labels.toNat)), (83, .int .i64 (modL a 4 g.labels.toNat).length), (84, .int .i64 i)], [(0, .one (.arr 1 3 (fun _ => grF g))), (1, .one (.arr i 1 (fun q _ => .int .i64 ((modL b 3 4).getD ((modL a 4 g.labels.toNat).getD q 0).toNat 0))))], 2⟩) (fun i => i ≤ g.labels.toNat) (fun i => g.labels.toNat - i) (0) (Nat.zero_le _) ?_ ?_
            ·
              refine wk_of (id) (fun _ => false) (fun k => k == 1) ?_ ?_ rfl (Nat.zero_le _) (fun k hk => absurd hk (Nat.not_lt_zero _))
              · simp [hG, List.getD_cons_zero, List.getD_cons_succ, -List.getD_eq_getElem?_getD]
              · simp [hG, List.getD_cons_zero, List.getD_cons_succ, -List.getD_eq_getElem?_getD]
            ·
              rintro i hi
              refine awpS_seq ?_
              refine awpS_reg T_ok fun K hK => ?_
              simp [hG, List.getD_cons_zero, List.getD_cons_succ, -List.getD_eq_getElem?_getD]
              first | refine hK _ ?_ | refine ⟨Cond.mk (by first | omega | (simp [-List.getD_eq_getElem?_getD]; done) | (simp [-List.getD_eq_getElem?_getD]; omega) | (simp [-List.getD_eq_getElem?_getD]; repeat (first | intro _ | exact And.intro ‹_› ‹_› | apply And.intro | assumption | omega | exact decide_eq_true (by assumption)))), hK _ ?_⟩
              clear K hK
              refine awpS_seq ?_
              refine awpS_cond rfl (fun hb85 => ?_) (fun hb85 => ?_)
              ·
                try simp [-List.getD_eq_getElem?_getD] at hb85
                have hfi := modL_box (a := a) (k := 4) (m := g.labels.toNat) (by decide) _ (getD_mem (d := 0) (show i < (modL a 4 g.labels.toNat).length by omega))
                refine awpS_skip ?_
                refine awpS_seq ?_
                refine awpS_block ?_
                refine awpS_seq ?_
                refine awpS_reg T_ok fun K hK => ?_
                simp [hG, List.getD_cons_zero, List.getD_cons_succ, -List.getD_eq_getElem?_getD]
                first | refine hK _ ?_ | refine ⟨Cond.mk (by first | omega | (simp [-List.getD_eq_getElem?_getD]; done) | (simp [-List.getD_eq_getElem?_getD]; omega) | (simp [-List.getD_eq_getElem?_getD]; repeat (first | intro _ | exact And.intro ‹_› ‹_› | apply And.intro | assumption | omega | exact decide_eq_true (by assumption)))), hK _ ?_⟩
                clear K hK
                refine awpS_reg T_ok fun K hK => ?_
                simp [hG, List.getD_cons_zero, List.getD_cons_succ, -List.getD_eq_getElem?_getD]
                first | refine hK _ ?_ | refine ⟨Cond.mk (by first | omega | (simp [-List.getD_eq_getElem?_getD]; done) | (simp [-List.getD_eq_getElem?_getD]; omega) | (simp [-List.getD_eq_getElem?_getD]; repeat (first | intro _ | exact And.intro ‹_› ‹_› | apply And.intro | assumption | omega | exact decide_eq_true (by assumption)))), hK _ ?_⟩
                clear K hK
                refine awpS_nil ?_
                refine blockQ_norm (thenQ_norm ?_)
                refine awpS_reg T_ok fun K hK => ?_
                simp [hG, List.getD_cons_zero, List.getD_cons_succ, -List.getD_eq_getElem?_getD]
                first | refine hK _ ?_ | refine ⟨Cond.mk (by first | omega | (simp [-List.getD_eq_getElem?_getD]; done) | (simp [-List.getD_eq_getElem?_getD]; omega) | (simp [-List.getD_eq_getElem?_getD]; repeat (first | intro _ | exact And.intro ‹_› ‹_› | apply And.intro | assumption | omega | exact decide_eq_true (by assumption)))), hK _ ?_⟩
                clear K hK
                refine awpS_nil ?_
                refine round_end (i + 1) (by omega) (by omega) ?_
                refine wk_of (fun k => if k = 1 then 3 else k) (fun _ => false) (fun _ => false) ?_ ?_ rfl (Nat.zero_le _) (fun k hk => absurd hk (Nat.not_lt_zero _))
                · simp [hG, List.getD_cons_zero, List.getD_cons_succ, -List.getD_eq_getElem?_getD]
                · simp [hG, List.getD_cons_zero, List.getD_cons_succ, -List.getD_eq_getElem?_getD]; exact fun q => app_fnI (F := fun q => (modL b 3 4).getD ((modL a 4 g.labels.toNat).getD q 0).toNat 0) rfl
              ·
                try simp [-List.getD_eq_getElem?_getD] at hb85
                obtain rfl : i = g.labels.toNat := (by omega)
                refine awpS_exit ?_
                refine thenQ_exit (thenQ_exit ?_)
                refine blockQ_exit (thenQ_norm ?_)
                refine awpS_seq ?_
                refine awpS_wk (st2 := ⟨[(1, Lift.bytes a), (2, Lift.bytes b), (3, .ptr (0, 0) 0 0), (7, ints (ownL g.labels.toNat)), (8, ints (modL a 4 g.labels.toNat)), (9, ints (modL b 3 4)), (10, ints (viaL (modL a 4 g.labels.toNat) (modL b 3 4)))], [(0, .one (.arr 1 3 (fun _ => grF g)))], 1⟩) ?_ ?_
                ·
                  refine wk_of (id) (fun k => k == 1) (fun _ => false) ?_ ?_ rfl (Nat.zero_le _) (fun k hk => absurd hk (Nat.not_lt_zero _))
                  · simp [hG, List.getD_cons_zero, List.getD_cons_succ, -List.getD_eq_getElem?_getD]; exact viaL_all hfl
                  · simp [hG, List.getD_cons_zero, List.getD_cons_succ, -List.getD_eq_getElem?_getD]
                refine awpS_regL ?_
                refine awpL_reg T_ok 4 fun K hK => ?_
                simp [hG, List.getD_cons_zero, List.getD_cons_succ, -List.getD_eq_getElem?_getD]
                first | refine hK _ ?_ | refine ⟨Cond.mk (by first | omega | (simp [-List.getD_eq_getElem?_getD]; done) | (simp [-List.getD_eq_getElem?_getD]; omega) | (simp [-List.getD_eq_getElem?_getD]; repeat (first | intro _ | exact And.intro ‹_› ‹_› | apply And.intro | assumption | omega | exact decide_eq_true (by assumption)))), hK _ ?_⟩
                clear K hK
                refine awpL_call cal24 rfl rfl (fun _ => rfl) (fun hg => recode_c g g.labels (ownL g.labels.toNat) (by rw [ownL_len]; omega)) (fun hg => ?_) (fun hg => ?_) fun K hK => ?_
                · simp [hG, List.getD_cons_zero, List.getD_cons_succ, -List.getD_eq_getElem?_getD]
                · simp [hG, List.getD_cons_zero, List.getD_cons_succ, -List.getD_eq_getElem?_getD]
                simp [hG, List.getD_cons_zero, List.getD_cons_succ, -List.getD_eq_getElem?_getD]
                refine hK _ ?_
                clear K hK
                refine awpL_reg T_ok 6 fun K hK => ?_
                simp [hG, List.getD_cons_zero, List.getD_cons_succ, -List.getD_eq_getElem?_getD]
                first | refine hK _ ?_ | refine ⟨Cond.mk (by first | omega | (simp [-List.getD_eq_getElem?_getD]; done) | (simp [-List.getD_eq_getElem?_getD]; omega) | (simp [-List.getD_eq_getElem?_getD]; repeat (first | intro _ | exact And.intro ‹_› ‹_› | apply And.intro | assumption | omega | exact decide_eq_true (by assumption)))), hK _ ?_⟩
                clear K hK
                refine awpL_nil ?_
                refine awpS_seq ?_
                refine awpS_regL ?_
                refine awpL_reg T_ok 2 fun K hK => ?_
                simp [hG, List.getD_cons_zero, List.getD_cons_succ, -List.getD_eq_getElem?_getD]
                first | refine hK _ ?_ | refine ⟨Cond.mk (by first | omega | (simp [-List.getD_eq_getElem?_getD]; done) | (simp [-List.getD_eq_getElem?_getD]; omega) | (simp [-List.getD_eq_getElem?_getD]; repeat (first | intro _ | exact And.intro ‹_› ‹_› | apply And.intro | assumption | omega | exact decide_eq_true (by assumption)))), hK _ ?_⟩
                clear K hK
                refine awpL_call cal24 rfl rfl (fun _ => rfl) (fun hg => recode_c g 4 (modL a 4 g.labels.toNat) (by rw [modL_len]; omega)) (fun hg => ?_) (fun hg => ?_) fun K hK => ?_
                · simp [hG, List.getD_cons_zero, List.getD_cons_succ, -List.getD_eq_getElem?_getD]
                · simp [hG, List.getD_cons_zero, List.getD_cons_succ, -List.getD_eq_getElem?_getD]
                simp [hG, List.getD_cons_zero, List.getD_cons_succ, -List.getD_eq_getElem?_getD]
                refine hK _ ?_
                clear K hK
                refine awpL_reg T_ok 6 fun K hK => ?_
                simp [hG, List.getD_cons_zero, List.getD_cons_succ, -List.getD_eq_getElem?_getD]
                first | refine hK _ ?_ | refine ⟨Cond.mk (by first | omega | (simp [-List.getD_eq_getElem?_getD]; done) | (simp [-List.getD_eq_getElem?_getD]; omega) | (simp [-List.getD_eq_getElem?_getD]; repeat (first | intro _ | exact And.intro ‹_› ‹_› | apply And.intro | assumption | omega | exact decide_eq_true (by assumption)))), hK _ ?_⟩
                clear K hK
                refine awpL_nil ?_
                refine awpS_seq ?_
                refine awpS_seq ?_
                refine awpS_regL ?_
                refine awpL_reg T_ok 9 fun K hK => ?_
                simp [hG, List.getD_cons_zero, List.getD_cons_succ, -List.getD_eq_getElem?_getD]
                first | refine hK _ ?_ | refine ⟨Cond.mk (by first | omega | (simp [-List.getD_eq_getElem?_getD]; done) | (simp [-List.getD_eq_getElem?_getD]; omega) | (simp [-List.getD_eq_getElem?_getD]; repeat (first | intro _ | exact And.intro ‹_› ‹_› | apply And.intro | assumption | omega | exact decide_eq_true (by assumption)))), hK _ ?_⟩
                clear K hK
                refine awpL_call cal18 rfl rfl (fun _ => rfl) (fun hg => graphSame_c (recX g g.labels (ownL g.labels.toNat)) g recX_len) (fun hg => ?_) (fun hg => ?_) fun K hK => ?_
                · first | (simp [hG, List.getD_cons_zero, List.getD_cons_succ, -List.getD_eq_getElem?_getD]; done) | (simp [-List.getD_eq_getElem?_getD] at hg; done) | (simp [-List.getD_eq_getElem?_getD] at hg; simp [hG, List.getD_cons_zero, List.getD_cons_succ, -List.getD_eq_getElem?_getD]; first | omega | exact hg | (simp_all [-List.getD_eq_getElem?_getD]; done) | (simp_all [-List.getD_eq_getElem?_getD]; first | exact ⟨rfl, rfl⟩ | exact rfl))
                · first | (simp [hG, List.getD_cons_zero, List.getD_cons_succ, -List.getD_eq_getElem?_getD]; done) | (simp [-List.getD_eq_getElem?_getD] at hg; done) | (simp [-List.getD_eq_getElem?_getD] at hg; simp [hG, List.getD_cons_zero, List.getD_cons_succ, -List.getD_eq_getElem?_getD]; first | omega | exact hg | (simp_all [-List.getD_eq_getElem?_getD]; done) | (simp_all [-List.getD_eq_getElem?_getD]; first | exact ⟨rfl, rfl⟩ | exact rfl))
                simp [hG, List.getD_cons_zero, List.getD_cons_succ, -List.getD_eq_getElem?_getD]
                refine hK _ ?_
                clear K hK
                refine awpL_reg T_ok 2 fun K hK => ?_
                simp [hG, List.getD_cons_zero, List.getD_cons_succ, -List.getD_eq_getElem?_getD]
                first | refine hK _ ?_ | refine ⟨Cond.mk (by first | omega | (simp [-List.getD_eq_getElem?_getD]; done) | (simp [-List.getD_eq_getElem?_getD]; omega) | (simp [-List.getD_eq_getElem?_getD]; repeat (first | intro _ | exact And.intro ‹_› ‹_› | apply And.intro | assumption | omega | exact decide_eq_true (by assumption)))), hK _ ?_⟩
                clear K hK
                refine awpL_nil ?_
                refine awpS_cond rfl (fun hb121 => ?_) (fun hb121 => ?_)
                ·
                  try simp [-List.getD_eq_getElem?_getD] at hb121
                  refine awpS_seq ?_
                  refine awpS_reg T_ok fun K hK => ?_
                  simp [hG, List.getD_cons_zero, List.getD_cons_succ, -List.getD_eq_getElem?_getD]
                  first | refine hK _ ?_ | refine ⟨Cond.mk (by first | omega | (simp [-List.getD_eq_getElem?_getD]; done) | (simp [-List.getD_eq_getElem?_getD]; omega) | (simp [-List.getD_eq_getElem?_getD]; repeat (first | intro _ | exact And.intro ‹_› ‹_› | apply And.intro | assumption | omega | exact decide_eq_true (by assumption)))), hK _ ?_⟩
                  clear K hK
                  refine awpS_ret ?_
                  refine RetOK_of ?_
                  simp [hG, List.getD_cons_zero, List.getD_cons_succ, -List.getD_eq_getElem?_getD]
                  obtain ⟨⟨hN1, hX1⟩, hN2, hN3, hN4, hX⟩ := rec_law (a := a) (b := b) hv; rw [hX1] at hb121; rw [sameG_self] at hb121; simp [hN1, hN2] at hb121
                ·
                  try simp [-List.getD_eq_getElem?_getD] at hb121
                  refine awpS_skip ?_
                  refine awpS_seq ?_
                  refine awpS_regL ?_
                  refine awpL_reg T_ok 2 fun K hK => ?_
                  simp [hG, List.getD_cons_zero, List.getD_cons_succ, -List.getD_eq_getElem?_getD]
                  first | refine hK _ ?_ | refine ⟨Cond.mk (by first | omega | (simp [-List.getD_eq_getElem?_getD]; done) | (simp [-List.getD_eq_getElem?_getD]; omega) | (simp [-List.getD_eq_getElem?_getD]; repeat (first | intro _ | exact And.intro ‹_› ‹_› | apply And.intro | assumption | omega | exact decide_eq_true (by assumption)))), hK _ ?_⟩
                  clear K hK
                  refine awpL_call cal24 rfl rfl (fun _ => rfl) (fun hg => recode_c (recX g 4 (modL a 4 g.labels.toNat)) 3 (modL b 3 4) (by rw [modL_len]; omega)) (fun hg => ?_) (fun hg => ?_) fun K hK => ?_
                  · simp [hG, List.getD_cons_zero, List.getD_cons_succ, -List.getD_eq_getElem?_getD]
                  · simp [hG, List.getD_cons_zero, List.getD_cons_succ, -List.getD_eq_getElem?_getD]
                  simp [hG, List.getD_cons_zero, List.getD_cons_succ, -List.getD_eq_getElem?_getD]
                  refine hK _ ?_
                  clear K hK
                  refine awpL_reg T_ok 6 fun K hK => ?_
                  simp [hG, List.getD_cons_zero, List.getD_cons_succ, -List.getD_eq_getElem?_getD]
                  first | refine hK _ ?_ | refine ⟨Cond.mk (by first | omega | (simp [-List.getD_eq_getElem?_getD]; done) | (simp [-List.getD_eq_getElem?_getD]; omega) | (simp [-List.getD_eq_getElem?_getD]; repeat (first | intro _ | exact And.intro ‹_› ‹_› | apply And.intro | assumption | omega | exact decide_eq_true (by assumption)))), hK _ ?_⟩
                  clear K hK
                  refine awpL_nil ?_
                  refine awpS_seq ?_
                  refine awpS_regL ?_
                  refine awpL_reg T_ok 2 fun K hK => ?_
                  simp [hG, List.getD_cons_zero, List.getD_cons_succ, -List.getD_eq_getElem?_getD]
                  first | refine hK _ ?_ | refine ⟨Cond.mk (by first | omega | (simp [-List.getD_eq_getElem?_getD]; done) | (simp [-List.getD_eq_getElem?_getD]; omega) | (simp [-List.getD_eq_getElem?_getD]; repeat (first | intro _ | exact And.intro ‹_› ‹_› | apply And.intro | assumption | omega | exact decide_eq_true (by assumption)))), hK _ ?_⟩
                  clear K hK
                  refine awpL_call cal24 rfl rfl (fun _ => rfl) (fun hg => recode_c g 3 (viaL (modL a 4 g.labels.toNat) (modL b 3 4)) (by rw [viaL_len, modL_len]; omega)) (fun hg => ?_) (fun hg => ?_) fun K hK => ?_
                  · simp [hG, List.getD_cons_zero, List.getD_cons_succ, -List.getD_eq_getElem?_getD]
                  · simp [hG, List.getD_cons_zero, List.getD_cons_succ, -List.getD_eq_getElem?_getD]
                  simp [hG, List.getD_cons_zero, List.getD_cons_succ, -List.getD_eq_getElem?_getD]
                  refine hK _ ?_
                  clear K hK
                  refine awpL_reg T_ok 6 fun K hK => ?_
                  simp [hG, List.getD_cons_zero, List.getD_cons_succ, -List.getD_eq_getElem?_getD]
                  first | refine hK _ ?_ | refine ⟨Cond.mk (by first | omega | (simp [-List.getD_eq_getElem?_getD]; done) | (simp [-List.getD_eq_getElem?_getD]; omega) | (simp [-List.getD_eq_getElem?_getD]; repeat (first | intro _ | exact And.intro ‹_› ‹_› | apply And.intro | assumption | omega | exact decide_eq_true (by assumption)))), hK _ ?_⟩
                  clear K hK
                  refine awpL_nil ?_
                  refine awpS_seq ?_
                  refine awpS_regL ?_
                  refine awpL_reg T_ok 9 fun K hK => ?_
                  simp [hG, List.getD_cons_zero, List.getD_cons_succ, -List.getD_eq_getElem?_getD]
                  first | refine hK _ ?_ | refine ⟨Cond.mk (by first | omega | (simp [-List.getD_eq_getElem?_getD]; done) | (simp [-List.getD_eq_getElem?_getD]; omega) | (simp [-List.getD_eq_getElem?_getD]; repeat (first | intro _ | exact And.intro ‹_› ‹_› | apply And.intro | assumption | omega | exact decide_eq_true (by assumption)))), hK _ ?_⟩
                  clear K hK
                  refine awpL_call cal18 rfl rfl (fun _ => rfl) (fun hg => graphSame_c (recX (recX g 4 (modL a 4 g.labels.toNat)) 3 (modL b 3 4)) (recX g 3 (viaL (modL a 4 g.labels.toNat) (modL b 3 4))) recX_len) (fun hg => ?_) (fun hg => ?_) fun K hK => ?_
                  · first | (simp [hG, List.getD_cons_zero, List.getD_cons_succ, -List.getD_eq_getElem?_getD]; done) | (simp [-List.getD_eq_getElem?_getD] at hg; done) | (simp [-List.getD_eq_getElem?_getD] at hg; simp [hG, List.getD_cons_zero, List.getD_cons_succ, -List.getD_eq_getElem?_getD]; first | omega | exact hg | (simp_all [-List.getD_eq_getElem?_getD]; done) | (simp_all [-List.getD_eq_getElem?_getD]; first | exact ⟨rfl, rfl⟩ | exact rfl))
                  · first | (simp [hG, List.getD_cons_zero, List.getD_cons_succ, -List.getD_eq_getElem?_getD]; done) | (simp [-List.getD_eq_getElem?_getD] at hg; done) | (simp [-List.getD_eq_getElem?_getD] at hg; simp [hG, List.getD_cons_zero, List.getD_cons_succ, -List.getD_eq_getElem?_getD]; first | omega | exact hg | (simp_all [-List.getD_eq_getElem?_getD]; done) | (simp_all [-List.getD_eq_getElem?_getD]; first | exact ⟨rfl, rfl⟩ | exact rfl))
                  simp [hG, List.getD_cons_zero, List.getD_cons_succ, -List.getD_eq_getElem?_getD]
                  refine hK _ ?_
                  clear K hK
                  refine awpL_reg T_ok 2 fun K hK => ?_
                  simp [hG, List.getD_cons_zero, List.getD_cons_succ, -List.getD_eq_getElem?_getD]
                  first | refine hK _ ?_ | refine ⟨Cond.mk (by first | omega | (simp [-List.getD_eq_getElem?_getD]; done) | (simp [-List.getD_eq_getElem?_getD]; omega) | (simp [-List.getD_eq_getElem?_getD]; repeat (first | intro _ | exact And.intro ‹_› ‹_› | apply And.intro | assumption | omega | exact decide_eq_true (by assumption)))), hK _ ?_⟩
                  clear K hK
                  refine awpL_call cal11 rfl rfl (fun _ => rfl) (fun hg => awake_c) (fun hg => ?_) (fun hg => ?_) fun K hK => ?_
                  · first | (simp [hG, List.getD_cons_zero, List.getD_cons_succ, -List.getD_eq_getElem?_getD]; done) | (simp [-List.getD_eq_getElem?_getD] at hg; done) | (simp [-List.getD_eq_getElem?_getD] at hg; simp [hG, List.getD_cons_zero, List.getD_cons_succ, -List.getD_eq_getElem?_getD]; first | omega | exact hg | (simp_all [-List.getD_eq_getElem?_getD]; done) | (simp_all [-List.getD_eq_getElem?_getD]; first | exact ⟨rfl, rfl⟩ | exact rfl))
                  · first | (simp [hG, List.getD_cons_zero, List.getD_cons_succ, -List.getD_eq_getElem?_getD]; done) | (simp [-List.getD_eq_getElem?_getD] at hg; done) | (simp [-List.getD_eq_getElem?_getD] at hg; simp [hG, List.getD_cons_zero, List.getD_cons_succ, -List.getD_eq_getElem?_getD]; first | omega | exact hg | (simp_all [-List.getD_eq_getElem?_getD]; done) | (simp_all [-List.getD_eq_getElem?_getD]; first | exact ⟨rfl, rfl⟩ | exact rfl))
                  simp [hG, List.getD_cons_zero, List.getD_cons_succ, -List.getD_eq_getElem?_getD]
                  refine hK _ ?_
                  clear K hK
                  refine awpL_reg T_ok 2 fun K hK => ?_
                  simp [hG, List.getD_cons_zero, List.getD_cons_succ, -List.getD_eq_getElem?_getD]
                  first | refine hK _ ?_ | refine ⟨Cond.mk (by first | omega | (simp [-List.getD_eq_getElem?_getD]; done) | (simp [-List.getD_eq_getElem?_getD]; omega) | (simp [-List.getD_eq_getElem?_getD]; repeat (first | intro _ | exact And.intro ‹_› ‹_› | apply And.intro | assumption | omega | exact decide_eq_true (by assumption)))), hK _ ?_⟩
                  clear K hK
                  refine awpL_nil ?_
                  refine awpS_ret ?_
                  refine RetOK_of ?_
                  simp [hG, List.getD_cons_zero, List.getD_cons_succ, -List.getD_eq_getElem?_getD]
                  obtain ⟨⟨hN1, hX1⟩, hN2, hN3, hN4, hX⟩ := rec_law (a := a) (b := b) hv; rw [hX]; exact ⟨⟨hN3, hN4⟩, sameG_self⟩

end Go.Proofs.Ytddghlnaocjjkaa
