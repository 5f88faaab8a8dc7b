/-
  Walk: Same.
-/
import Derived.Test.YtmjkbidnghcfnaaWP
import Derived.Test.YtmjkbidnghcfnaaPV
namespace Go.Proofs.Ytmjkbidnghcfnaa
set_option linter.unusedSimpArgs false
set_option linter.unusedVariables false
open Go Go.Lift Go.Proofs

def prK (x : Pr) : AVal := aggL [.int .i64 x.s, .int .i64 x.t]
@[simp] theorem aggL_pr {a c : Int} : aggL [.int .i64 a, .int .i64 c] = prK ⟨a, c⟩ := rfl
theorem kEq_pr (a b : Pr) : kEq T 87 (prK a) (prK b) = some (decide (a = b)) := by
  have : kEq T 87 (prK a) (prK b) = some (decide (a.s = b.s) && (decide (a.t = b.t) && true)) := by
    simp [prK, aggL]
  rw [this]
  congr 1
  rw [Bool.eq_iff_iff]
  simp only [Bool.and_eq_true, decide_eq_true_eq, Bool.and_true]
  obtain ⟨a1, a2⟩ := a
  obtain ⟨b1, b2⟩ := b
  simp
def luKy := luK
theorem luK_congr2 {l : List (AVal × AVal)} {f g : Nat → AVal} (h : f 0 = g 0 ∧ f 1 = g 1) : ∀ i, luK T 87 l i (.agg 2 f) = luK T 87 l i (.agg 2 g) := by
  obtain ⟨h0, h1⟩ := h
  induction l with
  | nil => intro i; rfl
  | cons p l ih =>
    intro i
    obtain ⟨a, v⟩ := p
    have hk : kEq T 87 (.agg 2 f) a = kEq T 87 (.agg 2 g) a := by
      cases a <;> simp [h0, h1]
    simp only [luK, hk, ih (i + 1)]
@[simp] theorem luK87 {l : List (Pr × Bool)} {f : Nat → AVal} : luK T 87 (mpE prK boolV l) 0 (.agg 2 f) = (match f 0, f 1 with
    | .int .i64 a, .int .i64 b => some ((alFind l 0 (⟨a, b⟩ : Pr)).map fun p => (p.1, boolV p.2))
    | _, _ => luKy T 87 (mpE prK boolV l) 0 (.agg 2 f)) := by
  split
  · rename_i a b h0 h1
    rw [← luK_mpE (ek := prK) (ev := boolV) kEq_pr l 0 ⟨a, b⟩]
    exact luK_congr2 ⟨h0, h1⟩ 0
  · rfl
@[simp] theorem putK_pr {l : List (Pr × Bool)} {k : Pr} {v : Bool} : putK (mpE prK boolV l) ((alFind l 0 k).map fun p => (p.1, boolV p.2)) (prK k) (.bool v) = mpE prK boolV (alPut l k v) := putK_mpE (ek := prK) (ev := boolV) l k v
@[simp high] theorem HLe_pr {h : Heap} {σ : Lift.Id → Lift.Id} {fz : Nat → Bool} {vz : Lift.Id → Bool} {nx : Nat} {l2 l : List (Pr × Bool)} (e : l2 = l) : HLe h σ fz vz nx (.mp (mpE prK boolV l2)) (some (.mp (mpE prK boolV l))) = True := eq_true (HLe_mpE (ek := prK) (ev := boolV) (fun a => by simp [prK, aggL, Clo]) (fun _ => trivial) e)
/-- what is seen. -/
def seenL (F : List Fnd) : List (Pr × Bool) := F.map fun x => (x.pr, true)
def fndF (x : Fnd) (j : Nat) : AVal := match j with
  | 0 => .int .i64 x.pr.s
  | 1 => .int .i64 x.pr.t
  | _ => ints x.list
@[simp] theorem fndF0 {x : Fnd} : fndF x 0 = .int .i64 x.pr.s := rfl
@[simp] theorem fndF1 {x : Fnd} : fndF x 1 = .int .i64 x.pr.t := rfl
@[simp] theorem fndF2 {x : Fnd} : fndF x 2 = ints x.list := rfl
@[simp] theorem one_fndF {x : Fnd} {j : Nat} : (fndF x j).one = true := by unfold fndF; split <;> rfl
@[simp] theorem Clo_fndF {x : Fnd} {j : Nat} : Clo (fndF x j) := by unfold fndF; split <;> first | trivial | exact Clo_ints
theorem seen_get {F : List Fnd} {p : Pr} : alGet (seenL F) p = if p ∈ F.map Fnd.pr then some true else none := by
  unfold seenL
  induction F with
  | nil => rfl
  | cons x F ih =>
    simp only [List.map_cons, alGet]
    by_cases h : p = x.pr
    · rw [if_pos h, if_pos (by rw [h]; exact List.mem_cons_self ..)]
    · rw [if_neg h, ih]
      by_cases h2 : p ∈ F.map Fnd.pr
      · rw [if_pos h2, if_pos (List.mem_cons_of_mem _ h2)]
      · rw [if_neg h2, if_neg (fun e => (List.mem_cons.1 e).elim h h2)]
theorem put_newB {m : List (Pr × Bool)} {k : Pr} {v : Bool} (h : alGet m k = none) : alPut m k v = m ++ [(k, v)] := by
  induction m with
  | nil => rfl
  | cons p m ih =>
    obtain ⟨a, b⟩ := p
    simp only [alGet] at h
    by_cases hk : k = a
    · rw [if_pos hk] at h; cases h
    · rw [if_neg hk] at h
      simp only [alPut, if_neg hk, ih h, List.cons_append]
theorem seen_put {F : List Fnd} {y : Fnd} (h : ¬ y.pr ∈ F.map Fnd.pr) : alPut (seenL F) y.pr true = seenL (F ++ [y]) := by
  rw [put_newB (by rw [seen_get, if_neg h])]
  simp [seenL]
/-- why two states are not compared. -/
def sameNs (a b : Enc) (s t : Int) : Int := if checkE a ≠ 0 ∨ checkE b ≠ 0 then 1 else if ¬ (a.letters = b.letters ∧ a.block = b.block ∧ a.inputs = b.inputs) then 11 else if s < 0 ∨ (a.rows.length : Int) ≤ s ∨ t < 0 ∨ (b.rows.length : Int) ≤ t then 25 else 0
noncomputable def sameLs (a b : Enc) (s t : Int) : List Int := if sameNs a b s t = 0 then (sameD a b s t).getD [] else []
noncomputable def sameBs (a b : Enc) (s t : Int) : Bool := if sameNs a b s t = 0 then (sameD a b s t).isNone else false
theorem same_err {a b : Enc} {s t : Int} {n : Int} (h : sameNs a b s t = n) (hn : n ≠ 0) : sameLs a b s t = [] ∧ sameBs a b s t = false := by
  unfold sameLs sameBs
  rw [h, if_neg hn, if_neg hn]
  exact ⟨rfl, rfl⟩
theorem same_ok {a b : Enc} {s t : Int} (h : sameNs a b s t = 0) : sameLs a b s t = (sameD a b s t).getD [] ∧ sameBs a b s t = (sameD a b s t).isNone := by
  unfold sameLs sameBs
  rw [if_pos h, if_pos h]
  exact ⟨rfl, rfl⟩
theorem fRow_new {a b : Enc} {F : List Fnd} {x : Fnd} {i : Nat} (h : ¬ nextP a b x.pr i ∈ (fRow a b F x i).map Fnd.pr) : fRow a b F x (i + 1) = fRow a b F x i ++ [nextF a b x i] := if_neg h
theorem fRow_old {a b : Enc} {F : List Fnd} {x : Fnd} {i : Nat} (h : nextP a b x.pr i ∈ (fRow a b F x i).map Fnd.pr) : fRow a b F x (i + 1) = fRow a b F x i := if_pos h
theorem seen_no {F : List Fnd} {p : Pr} (h : (alGet (seenL F) p).getD false = false) : ¬ p ∈ F.map Fnd.pr := fun hm => by
  rw [seen_get, if_pos hm] at h; cases h
theorem seen_yes {F : List Fnd} {p : Pr} (h : (alGet (seenL F) p).getD false = true) : p ∈ F.map Fnd.pr := by
  by_cases hm : p ∈ F.map Fnd.pr
  · exact hm
  · rw [seen_get, if_neg hm] at h; cases h
theorem NoMis.succ {a b : Enc} {p : Pr} {n : Nat} (h : NoMis a b p n) (h2 : (cellAt a p.s.toNat n).word = (cellAt b p.t.toNat n).word) : NoMis a b p (n + 1) := fun j hj => by
  rcases Nat.lt_succ_iff_lt_or_eq.1 hj with h3 | h3
  · exact h j h3
  · rw [h3]; exact h2
theorem noMis_next {a b : Enc} {s t : Int} {k n : Nat} (hkl : k < (fAt a b s t k).length) (h : ∀ j, j < k → NoMis a b ((fAt a b s t k).getD j dfn).pr n) (hx : NoMis a b ((fAt a b s t k).getD k dfn).pr n) : ∀ j, j < k + 1 → NoMis a b ((fAt a b s t (k + 1)).getD j dfn).pr n := fun j hj => by
  rw [preF (fAt_pre k) (by omega)]
  rcases Nat.lt_succ_iff_lt_or_eq.1 hj with h3 | h3
  · exact h j h3
  · rw [h3]; exact hx
theorem fnd_app {Q : List Fnd} {y : Fnd} {lo q j : Nat} {w : Nat → Nat → AVal} (hq : q < Q.length - lo + 1) (hw : w 0 j = fndF y j) : app (fun i j => fndF (Q.getD (lo + i) dfn) j) (Q.length - lo) w q j = fndF ((Q.drop lo ++ [y]).getD q dfn) j := by
  rw [getD_app]
  unfold app
  rw [List.length_drop]
  by_cases h2 : q < Q.length - lo
  · rw [if_pos h2, if_pos h2]
    simp [List.getD_eq_getElem?_getD, List.getElem?_drop]
  · have : q - (Q.length - lo) = 0 := by omega
    rw [if_neg h2, if_neg h2, this, hw]
    rfl
set_option maxRecDepth 100000 in
theorem same_c (a b : Enc) (s t : Int) : PC Try.prog 27 [.agg 4 (encF a), .agg 4 (encF b), .int .i64 s, .int .i64 t] (.tup 3 (fun j => [ints (sameLs a b s t), .bool (sameBs a b s t), .int .i64 (sameNs a b s t)].getD j .any)) := by
  refine PC_introS T_ok Try.func27 rfl (by simp [Try.ntmps27]) fun G hG hR => ?_
  simp only [Try.ntmps27, Try.results27] at hG ⊢
  simp only [argEnv, Nat.zero_add, Nat.reduceAdd]
  refine awpS_seq ?_
  refine awpS_reg T_ok fun K hK => ?_
  simp [hG, List.getD_cons_zero, List.getD_cons_succ, -List.getD_eq_getElem?_getD]
  refine ⟨Cond.mk (by simp [-List.getD_eq_getElem?_getD]), hK _ ?_⟩
  clear K hK
  refine awpS_seq ?_
  refine awpS_block ?_
  refine awpS_seq ?_
  refine awpS_regL ?_
  refine awpL_reg T_ok 1 fun K hK => ?_
  simp [hG, List.getD_cons_zero, List.getD_cons_succ, -List.getD_eq_getElem?_getD]
  refine hK _ ?_
  clear K hK
  refine awpL_call cal25 rfl rfl (fun _ => rfl) (fun hg => check_c a) (fun hg => ?_) (fun hg => ?_) fun K hK => ?_
  · simp [hG, List.getD_cons_zero, List.getD_cons_succ, -List.getD_eq_getElem?_getD]
  · simp [hG, List.getD_cons_zero, List.getD_cons_succ, -List.getD_eq_getElem?_getD]
  simp [hG, List.getD_cons_zero, List.getD_cons_succ, -List.getD_eq_getElem?_getD]
  refine hK _ ?_
  clear K hK
  refine awpL_reg T_ok 3 fun K hK => ?_
  simp [hG, List.getD_cons_zero, List.getD_cons_succ, -List.getD_eq_getElem?_getD]
  refine ⟨Cond.mk (by simp [-List.getD_eq_getElem?_getD]), hK _ ?_⟩
  clear K hK
  refine awpL_call cal25 rfl rfl (fun _ => rfl) (fun hg => check_c b) (fun hg => ?_) (fun hg => ?_) fun K hK => ?_
  · first | (simp [hG, List.getD_cons_zero, List.getD_cons_succ, -List.getD_eq_getElem?_getD]; done) | (simp [-List.getD_eq_getElem?_getD] at hg; done) | (simp [-List.getD_eq_getElem?_getD] at hg; simp [hG, List.getD_cons_zero, List.getD_cons_succ, -List.getD_eq_getElem?_getD]; first | omega | exact hg | (simp_all [-List.getD_eq_getElem?_getD]; done) | (simp_all [-List.getD_eq_getElem?_getD]; first | exact ⟨rfl, rfl⟩ | exact rfl))
  · first | (simp [hG, List.getD_cons_zero, List.getD_cons_succ, -List.getD_eq_getElem?_getD]; done) | (simp [-List.getD_eq_getElem?_getD] at hg; done) | (simp [-List.getD_eq_getElem?_getD] at hg; simp [hG, List.getD_cons_zero, List.getD_cons_succ, -List.getD_eq_getElem?_getD]; first | omega | exact hg | (simp_all [-List.getD_eq_getElem?_getD]; done) | (simp_all [-List.getD_eq_getElem?_getD]; first | exact ⟨rfl, rfl⟩ | exact rfl))
  simp [hG, List.getD_cons_zero, List.getD_cons_succ, -List.getD_eq_getElem?_getD]
  refine hK _ ?_
  clear K hK
  refine awpL_reg T_ok 3 fun K hK => ?_
  simp [hG, List.getD_cons_zero, List.getD_cons_succ, -List.getD_eq_getElem?_getD]
  refine ⟨Cond.mk (by simp [-List.getD_eq_getElem?_getD]), hK _ ?_⟩
  clear K hK
  refine awpL_nil ?_
  refine awpS_cond rfl (fun hb19 => ?_) (fun hb19 => ?_)
  ·
    try simp [-List.getD_eq_getElem?_getD] at hb19
    refine awpS_seq ?_
    refine awpS_reg T_ok fun K hK => ?_
    simp [hG, List.getD_cons_zero, List.getD_cons_succ, -List.getD_eq_getElem?_getD]
    refine hK _ ?_
    clear K hK
    refine awpS_ret ?_
    refine blockQ_ret (thenQ_ret ?_)
    refine RetOK_of ?_
    simp [hG, List.getD_cons_zero, List.getD_cons_succ, -List.getD_eq_getElem?_getD]
    have hN : sameNs a b s t = 1 := (by unfold sameNs; rw [if_pos hb19]); exact ⟨(same_err hN (by omega)).1, (same_err hN (by omega)).2, hN.symm⟩
  ·
    try simp [-List.getD_eq_getElem?_getD] at hb19
    have hva := hb19.1
    have hvb := hb19.2
    have hin := (checkE_valid hva).1.inputs
    have hla := rows_len hva
    have hlb := rows_len hvb
    refine awpS_seq ?_
    refine awpS_reg T_ok fun K hK => ?_
    simp [hG, List.getD_cons_zero, List.getD_cons_succ, -List.getD_eq_getElem?_getD]
    refine ⟨Cond.mk (by simp [-List.getD_eq_getElem?_getD]), hK _ ?_⟩
    clear K hK
    refine awpS_cond rfl (fun hb28 => ?_) (fun hb28 => ?_)
    ·
      try simp [-List.getD_eq_getElem?_getD] at hb28
      refine awpS_seq ?_
      refine awpS_reg T_ok fun K hK => ?_
      simp [hG, List.getD_cons_zero, List.getD_cons_succ, -List.getD_eq_getElem?_getD]
      refine hK _ ?_
      clear K hK
      refine awpS_ret ?_
      refine blockQ_ret (thenQ_ret ?_)
      refine RetOK_of ?_
      simp [hG, List.getD_cons_zero, List.getD_cons_succ, -List.getD_eq_getElem?_getD]
      have hN : sameNs a b s t = 11 := (by unfold sameNs; rw [if_neg (by rintro (h | h) <;> exact h (by assumption)), if_pos (by omega)]); exact ⟨(same_err hN (by omega)).1, (same_err hN (by omega)).2, hN.symm⟩
    ·
      try simp [-List.getD_eq_getElem?_getD] at hb28
      have hmm : a.letters = b.letters ∧ a.block = b.block ∧ a.inputs = b.inputs := ⟨hb28.1.1, hb28.1.2, hb28.2⟩
      refine awpS_seq ?_
      refine awpS_reg T_ok fun K hK => ?_
      simp [hG, List.getD_cons_zero, List.getD_cons_succ, -List.getD_eq_getElem?_getD]
      refine ⟨Cond.mk (by simp [-List.getD_eq_getElem?_getD]), hK _ ?_⟩
      clear K hK
      refine awpS_cond rfl (fun hb48 => ?_) (fun hb48 => ?_)
      ·
        try simp [-List.getD_eq_getElem?_getD] at hb48
        refine awpS_seq ?_
        refine awpS_reg T_ok fun K hK => ?_
        simp [hG, List.getD_cons_zero, List.getD_cons_succ, -List.getD_eq_getElem?_getD]
        refine hK _ ?_
        clear K hK
        refine awpS_ret ?_
        refine blockQ_ret (thenQ_ret ?_)
        refine RetOK_of ?_
        simp [hG, List.getD_cons_zero, List.getD_cons_succ, -List.getD_eq_getElem?_getD]
        have hN : sameNs a b s t = 25 := (by unfold sameNs; rw [if_neg (by rintro (h | h) <;> exact h (by assumption)), if_neg (by exact fun h => h hmm), if_pos (by omega)]); exact ⟨(same_err hN (by omega)).1, (same_err hN (by omega)).2, hN.symm⟩
      ·
        try simp [-List.getD_eq_getElem?_getD] at hb48
        have hst : (0 ≤ s ∧ s < (a.rows.length : Int)) ∧ 0 ≤ t ∧ t < (b.rows.length : Int) := ⟨hb48.1.1, hb48.1.2, hb48.2⟩
        have hN : sameNs a b s t = 0 := (by unfold sameNs; rw [if_neg (by rintro (h | h) <;> exact h (by assumption)), if_neg (by exact fun h => h hmm), if_neg (by omega)])
        refine awpS_skip ?_
        refine awpS_nil ?_
        refine blockQ_norm (thenQ_norm ?_)
        refine awpS_seq ?_
        refine awpS_reg T_ok fun K hK => ?_
        simp [hG, List.getD_cons_zero, List.getD_cons_succ, -List.getD_eq_getElem?_getD]
        refine ⟨Cond.mk (by simp [-List.getD_eq_getElem?_getD]), hK _ ?_⟩
        clear K hK
        refine awpS_seq ?_
        refine awpS_reg T_ok fun K hK => ?_
        simp [hG, List.getD_cons_zero, List.getD_cons_succ, -List.getD_eq_getElem?_getD]
        refine ⟨Cond.mk (by simp [-List.getD_eq_getElem?_getD]), hK _ ?_⟩
        clear K hK
        refine awpS_seq ?_
        refine awpS_block ?_
        refine awpS_loop (α := Nat × Nat × List Fnd) (fun p => ⟨[(4, .ptr (0, 0) 0 0), (5, .ptr (1, 0) 0 0), (11, .map (2, 0)), (12, .sl (3, 0) p.2.1 (p.2.2.length - p.2.1))], [(0, .one (.arr 1 4 (fun _ => encF a))), (1, .one (.arr 1 4 (fun _ => encF b))), (2, .one (.mp (mpE prK boolV (seenL (fAt a b s t p.1))))), (3, .one (.arr p.2.2.length 3 (fun q j => fndF (p.2.2.getD q dfn) j)))], 4⟩) (fun p => QF (fAt a b s t p.1) p.1 p.2.1 p.2.2 ∧ ∀ j, j < p.1 → NoMis a b ((fAt a b s t p.1).getD j dfn).pr a.inputs.toNat) (fun p => 4097 - p.1) ((0, 0, [⟨⟨s, t⟩, []⟩])) (⟨⟨Nat.zero_le _, Nat.zero_le _, rfl⟩, fun j hj => absurd hj (Nat.not_lt_zero _)⟩) ?_ ?_
        ·
          refine wk_of (id) (fun _ => false) (fun _ => false) ?_ ?_ rfl (Nat.zero_le _) (fun k hk => absurd hk (Nat.not_lt_zero _))
          · simp [hG, List.getD_cons_zero, List.getD_cons_succ, -List.getD_eq_getElem?_getD]
          · simp [hG, List.getD_cons_zero, List.getD_cons_succ, -List.getD_eq_getElem?_getD]; exact of_eq_true (HLe_pr (l := [((⟨s, t⟩ : Pr), true)]) rfl)
        ·
          rintro ⟨k, lo, Q⟩ ⟨hq, hnom⟩
          simp only at hq hnom
          have hqn := hq.len
          have hqle := hq.le
          have hok := fAt_ok hva hvb hmm.2.2 hst.1 hst.2 k
          have hol := hok.le hva hvb
          have hql2 := hq.le2
          refine awpS_seq ?_
          refine awpS_seq ?_
          refine awpS_reg T_ok fun K hK => ?_
          simp [hG, List.getD_cons_zero, List.getD_cons_succ, -List.getD_eq_getElem?_getD]
          refine hK _ ?_
          clear K hK
          refine awpS_cond rfl (fun hb81 => ?_) (fun hb81 => ?_)
          ·
            try simp [-List.getD_eq_getElem?_getD] at hb81
            have hkl : k < (fAt a b s t k).length := (by omega)
            have hhd := hq.head hkl
            have hpop := hq.pop hkl
            have hxok := hok.lt _ (getD_mem (d := dfn) hkl)
            have hxsh := hok.short _ (getD_mem (d := dfn) hkl)
            refine awpS_skip ?_
            refine awpS_block ?_
            refine awpS_seq ?_
            refine awpS_reg T_ok fun K hK => ?_
            simp [hG, List.getD_cons_zero, List.getD_cons_succ, -List.getD_eq_getElem?_getD]
            refine ⟨Cond.mk (by simp [-List.getD_eq_getElem?_getD]; omega), hK _ ?_⟩
            clear K hK
            refine awpS_seq ?_
            refine awpS_reg T_ok fun K hK => ?_
            simp [hG, List.getD_cons_zero, List.getD_cons_succ, -List.getD_eq_getElem?_getD]
            refine ⟨Cond.mk (by omega), hK _ ?_⟩
            clear K hK
            refine awpS_seq ?_
            refine awpS_reg T_ok fun K hK => ?_
            simp [hG, List.getD_cons_zero, List.getD_cons_succ, -List.getD_eq_getElem?_getD]
            refine hK _ ?_
            clear K hK
            refine awpS_block ?_
            refine awpS_loop (α := Nat × Nat × List Fnd) (fun p => ⟨[(4, .ptr (0, 0) 0 0), (5, .ptr (1, 0) 0 0), (11, .map (2, 0)), (12, .sl (3, 0) p.2.1 (p.2.2.length - p.2.1)), (13, .ptr (4, 0) 0 0), (88, .int .i64 a.inputs), (89, .int .i64 p.1)], [(0, .one (.arr 1 4 (fun _ => encF a))), (1, .one (.arr 1 4 (fun _ => encF b))), (2, .one (.mp (mpE prK boolV (seenL (fRow a b (fAt a b s t k) ((fAt a b s t k).getD k dfn) (p.1)))))), (3, .one (.arr p.2.2.length 3 (fun q j => fndF (p.2.2.getD q dfn) j))), (4, .one (.arr 1 3 (fun _ j => fndF ((fAt a b s t k).getD k dfn) j)))], 5⟩) (fun p => QF (fRow a b (fAt a b s t k) ((fAt a b s t k).getD k dfn) (p.1)) (k + 1) p.2.1 p.2.2 ∧ p.1 ≤ a.inputs.toNat ∧ NoMis a b ((fAt a b s t k).getD k dfn).pr p.1) (fun p => a.inputs.toNat - p.1) ((0, lo + 1, Q)) (⟨hpop, Nat.zero_le _, fun j hj => absurd hj (Nat.not_lt_zero _)⟩) ?_ ?_
            ·
              refine wk_of (id) (fun _ => false) (fun _ => false) ?_ ?_ rfl (Nat.zero_le _) (fun k hk => absurd hk (Nat.not_lt_zero _))
              · simp [hG, List.getD_cons_zero, List.getD_cons_succ, -List.getD_eq_getElem?_getD]; omega
              · simp [hG, List.getD_cons_zero, List.getD_cons_succ, -List.getD_eq_getElem?_getD]; rw [hhd]; exact ⟨of_eq_true (HLe_pr rfl), rfl, rfl, Clo.le _ Clo_ints⟩
            ·
              rintro ⟨i, lo2, Q2⟩ ⟨hq2, hi, hnm⟩
              simp only at hq2 hi hnm
              have hqn2 := hq2.len
              have hqle2 := hq2.le
              refine awpS_seq ?_
              refine awpS_reg T_ok fun K hK => ?_
              simp [hG, List.getD_cons_zero, List.getD_cons_succ, -List.getD_eq_getElem?_getD]
              refine hK _ ?_
              clear K hK
              refine awpS_seq ?_
              refine awpS_cond rfl (fun hb90 => ?_) (fun hb90 => ?_)
              ·
                try simp [-List.getD_eq_getElem?_getD] at hb90
                have hil : i < a.inputs.toNat := (by omega)
                have hfr := (fRow_ok hva hvb hmm.2.2 hok (getD_mem (d := dfn) hkl) i hi).le hva hvb
                have hra := row_eq hva (k := ((fAt a b s t k).getD k dfn).pr.s.toNat) (by omega)
                have hrb := row_eq hvb (k := ((fAt a b s t k).getD k dfn).pr.t.toNat) (by omega)
                refine awpS_skip ?_
                refine awpS_seq ?_
                refine awpS_block ?_
                refine awpS_seq ?_
                refine awpS_reg T_ok fun K hK => ?_
                simp [hG, List.getD_cons_zero, List.getD_cons_succ, -List.getD_eq_getElem?_getD]
                refine hK _ ?_
                clear K hK
                refine awpS_seq ?_
                refine awpS_cut (α := Unit) (fun _u => ⟨[(4, .ptr (0, 0) 0 0), (5, .ptr (1, 0) 0 0), (11, .map (2, 0)), (12, .sl (3, 0) lo2 (Q2.length - lo2)), (13, .ptr (4, 0) 0 0), (14, .int .i64 i), (15, .ptr (5, 0) 0 0), (16, .ptr (6, 0) 0 0), (88, .int .i64 a.inputs), (89, .int .i64 i)], [(0, .one (.arr 1 4 (fun _ => encF a))), (1, .one (.arr 1 4 (fun _ => encF b))), (2, .one (.mp (mpE prK boolV (seenL (fRow a b (fAt a b s t k) ((fAt a b s t k).getD k dfn) (i)))))), (3, .one (.arr Q2.length 3 (fun q j => fndF (Q2.getD q dfn) j))), (4, .one (.arr 1 3 (fun _ j => fndF ((fAt a b s t k).getD k dfn) j))), (5, .one (.arr 1 2 (fun _ => cellF ((a.rows.getD ((fAt a b s t k).getD k dfn).pr.s.toNat []).getD i dc)))), (6, .one (.arr 1 2 (fun _ => cellF ((b.rows.getD ((fAt a b s t k).getD k dfn).pr.t.toNat []).getD i dc))))], 7⟩) (fun _u => True) ?_ ?_ (by simp)
                ·
                  refine awpS_draw hR mixed [] ⟨[], [22, 23], [(0, 0), (1, 0), (4, 0)]⟩ fun mu0 => ?_
                  refine awpA_tk T_ok [0, 1, 2, 3, 4, 5, 6, 7, 8, 9, 10, 11, 12, 13, 14, 15, 16, 17, 18, 19] [] (fuel := 4) [19, 18, 17, 16, 15, 14, 13, 12, 11, 10, 9, 8, 7, 6, 5, 4, 3, 2, 1, 0] (by decide +kernel) (by decide +kernel) rfl rfl fun K hK => ?_
                  simp [hG, List.getD_cons_zero, List.getD_cons_succ, -List.getD_eq_getElem?_getD]
                  refine ⟨Cond.mk (by omega), hK _ ?_⟩
                  clear K hK
                  refine awpA_two (fuel := 3) (i := 20) (k := 21) (by decide +kernel) ?_ ?_
                  ·
                    refine awpO_reg T_ok rfl ?_ fun K hK => ?_
                    · simp [hG, List.getD_cons_zero, List.getD_cons_succ, -List.getD_eq_getElem?_getD]
                    simp [hG, List.getD_cons_zero, List.getD_cons_succ, -List.getD_eq_getElem?_getD]
                    refine hK _ ?_
                    clear K hK
                    refine awpA_only (fuel := 2) (i := 21) (by decide +kernel) ?_
                    refine awpO_reg T_ok rfl ?_ fun K hK => ?_
                    · simp [hG, List.getD_cons_zero, List.getD_cons_succ, -List.getD_eq_getElem?_getD]
                    simp [hG, List.getD_cons_zero, List.getD_cons_succ, -List.getD_eq_getElem?_getD]
                    refine hK _ ?_
                    clear K hK
                    refine awpA_only (fuel := 1) (i := 22) (by decide +kernel) ?_
                    refine awpO_reg T_ok rfl ?_ fun K hK => ?_
                    · simp [hG, List.getD_cons_zero, List.getD_cons_succ, -List.getD_eq_getElem?_getD]
                    simp [hG, List.getD_cons_zero, List.getD_cons_succ, -List.getD_eq_getElem?_getD]
                    refine ⟨Cond.mk (by simp [-List.getD_eq_getElem?_getD]), hK _ ?_⟩
                    clear K hK
                    refine awpA_only (fuel := 0) (i := 23) (by decide +kernel) ?_
                    refine awpO_reg T_ok rfl ?_ fun K hK => ?_
                    · simp [hG, List.getD_cons_zero, List.getD_cons_succ, -List.getD_eq_getElem?_getD]
                    simp [hG, List.getD_cons_zero, List.getD_cons_succ, -List.getD_eq_getElem?_getD]
                    refine ⟨Cond.mk (by simp [-List.getD_eq_getElem?_getD]), hK _ ?_⟩
                    clear K hK
                    refine awpA_done (by decide +kernel) ?_
                    refine awpS_nil ?_
                    refine cut_end (()) (trivial) ?_
                    refine wk_of (id) (fun _ => false) (fun _ => false) ?_ ?_ rfl (Nat.zero_le _) (fun k hk => absurd hk (Nat.not_lt_zero _))
                    · simp [hG, List.getD_cons_zero, List.getD_cons_succ, -List.getD_eq_getElem?_getD]
                    · simp [hG, List.getD_cons_zero, List.getD_cons_succ, -List.getD_eq_getElem?_getD]
                  ·
                    refine awpO_reg T_ok rfl ?_ fun K hK => ?_
                    · simp [hG, List.getD_cons_zero, List.getD_cons_succ, -List.getD_eq_getElem?_getD]
                    simp [hG, List.getD_cons_zero, List.getD_cons_succ, -List.getD_eq_getElem?_getD]
                    refine hK _ ?_
                    clear K hK
                    refine awpA_only (fuel := 2) (i := 20) (by decide +kernel) ?_
                    refine awpO_reg T_ok rfl ?_ fun K hK => ?_
                    · simp [hG, List.getD_cons_zero, List.getD_cons_succ, -List.getD_eq_getElem?_getD]
                    simp [hG, List.getD_cons_zero, List.getD_cons_succ, -List.getD_eq_getElem?_getD]
                    refine hK _ ?_
                    clear K hK
                    refine awpA_only (fuel := 1) (i := 22) (by decide +kernel) ?_
                    refine awpO_reg T_ok rfl ?_ fun K hK => ?_
                    · simp [hG, List.getD_cons_zero, List.getD_cons_succ, -List.getD_eq_getElem?_getD]
                    simp [hG, List.getD_cons_zero, List.getD_cons_succ, -List.getD_eq_getElem?_getD]
                    refine ⟨Cond.mk (by simp [-List.getD_eq_getElem?_getD]), hK _ ?_⟩
                    clear K hK
                    refine awpA_only (fuel := 0) (i := 23) (by decide +kernel) ?_
                    refine awpO_reg T_ok rfl ?_ fun K hK => ?_
                    · simp [hG, List.getD_cons_zero, List.getD_cons_succ, -List.getD_eq_getElem?_getD]
                    simp [hG, List.getD_cons_zero, List.getD_cons_succ, -List.getD_eq_getElem?_getD]
                    refine ⟨Cond.mk (by simp [-List.getD_eq_getElem?_getD]), hK _ ?_⟩
                    clear K hK
                    refine awpA_done (by decide +kernel) ?_
                    refine awpS_nil ?_
                    refine cut_end (()) (trivial) ?_
                    refine wk_of (fun k => if k = 5 then 6 else if k = 6 then 5 else k) (fun _ => false) (fun _ => false) ?_ ?_ rfl (Nat.zero_le _) (fun k hk => absurd hk (Nat.not_lt_zero _))
                    · simp [hG, List.getD_cons_zero, List.getD_cons_succ, -List.getD_eq_getElem?_getD]
                    · simp [hG, List.getD_cons_zero, List.getD_cons_succ, -List.getD_eq_getElem?_getD]
                ·
                  rintro ⟨⟩ -
                  refine awpS_seq ?_
                  refine awpS_regL ?_
                  refine awpL_reg T_ok 2 fun K hK => ?_
                  simp [hG, List.getD_cons_zero, List.getD_cons_succ, -List.getD_eq_getElem?_getD]
                  refine hK _ ?_
                  clear K hK
                  refine awpL_fc cal50 [] (fun _ => false) (cloneI_c ((fAt a b s t k).getD k dfn).list (by omega)) rfl rfl rfl (by simp) (.inl fun _ => rfl) ?_ ?_ ?_ fun K hK x hI hno => ?_
                  · simp [hG, List.getD_cons_zero, List.getD_cons_succ, -List.getD_eq_getElem?_getD]
                  · simp [hG, List.getD_cons_zero, List.getD_cons_succ, -List.getD_eq_getElem?_getD]
                  · simp [hG, List.getD_cons_zero, List.getD_cons_succ, -List.getD_eq_getElem?_getD]
                  simp [hG, List.getD_cons_zero, List.getD_cons_succ, -List.getD_eq_getElem?_getD]
                  refine hK _ ?_
                  clear K hK
                  refine awpL_reg T_ok 4 fun K hK => ?_
                  simp [hG, List.getD_cons_zero, List.getD_cons_succ, -List.getD_eq_getElem?_getD]
                  refine ⟨Cond.mk (by omega), hK _ ?_⟩
                  clear K hK
                  refine awpL_nil ?_
                  refine awpS_seq ?_
                  refine awpS_seq ?_
                  refine awpS_wk (st2 := ⟨[(4, .ptr (0, 0) 0 0), (5, .ptr (1, 0) 0 0), (11, .map (2, 0)), (12, .sl (3, 0) lo2 (Q2.length - lo2)), (13, .ptr (4, 0) 0 0), (14, .int .i64 i), (15, .ptr (5, 0) 0 0), (16, .ptr (6, 0) 0 0), (17, ints (((fAt a b s t k).getD k dfn).list ++ [(i : Int)])), (88, .int .i64 a.inputs), (89, .int .i64 i)], [(0, .one (.arr 1 4 (fun _ => encF a))), (1, .one (.arr 1 4 (fun _ => encF b))), (2, .one (.mp (mpE prK boolV (seenL (fRow a b (fAt a b s t k) ((fAt a b s t k).getD k dfn) (i)))))), (3, .one (.arr Q2.length 3 (fun q j => fndF (Q2.getD q dfn) j))), (4, .one (.arr 1 3 (fun _ j => fndF ((fAt a b s t k).getD k dfn) j))), (5, .one (.arr 1 2 (fun _ => cellF ((a.rows.getD ((fAt a b s t k).getD k dfn).pr.s.toNat []).getD i dc)))), (6, .one (.arr 1 2 (fun _ => cellF ((b.rows.getD ((fAt a b s t k).getD k dfn).pr.t.toNat []).getD i dc))))], 7⟩) ?_ ?_
                  ·
                    refine wk_of (id) (fun k => k == 9) (fun _ => false) ?_ ?_ rfl (Nat.zero_le _) (fun k hk => absurd hk (Nat.not_lt_zero _))
                    · simp [hG, List.getD_cons_zero, List.getD_cons_succ, -List.getD_eq_getElem?_getD]; exact fun q hq => app_one hq
                    · simp [hG, List.getD_cons_zero, List.getD_cons_succ, -List.getD_eq_getElem?_getD]
                  refine awpS_reg T_ok fun K hK => ?_
                  simp [hG, List.getD_cons_zero, List.getD_cons_succ, -List.getD_eq_getElem?_getD]
                  refine hK _ ?_
                  clear K hK
                  refine awpS_cond rfl (fun hb122 => ?_) (fun hb122 => ?_)
                  ·
                    try simp [-List.getD_eq_getElem?_getD] at hb122
                    refine awpS_seq ?_
                    refine awpS_reg T_ok fun K hK => ?_
                    simp [hG, List.getD_cons_zero, List.getD_cons_succ, -List.getD_eq_getElem?_getD]
                    refine hK _ ?_
                    clear K hK
                    refine awpS_ret ?_
                    refine blockQ_ret (thenQ_ret ?_)
                    refine thenQ_ret (thenQ_ret ?_)
                    refine blockQ_ret (thenQ_ret ?_)
                    refine blockQ_ret (thenQ_ret ?_)
                    refine thenQ_ret (thenQ_ret ?_)
                    refine blockQ_ret (thenQ_ret ?_)
                    refine RetOK_of ?_
                    simp [hG, List.getD_cons_zero, List.getD_cons_succ, -List.getD_eq_getElem?_getD]
                    have hbad : Bad a b s t k i := ⟨hkl, hil, hnom, hnm, hb122⟩; have ho := same_ok hN; rw [sameD_bad hbad] at ho; rw [ho.1, ho.2, hN]; exact ⟨Clo.le _ Clo_ints, rfl, rfl⟩
                  ·
                    try simp [-List.getD_eq_getElem?_getD] at hb122
                    refine awpS_skip ?_
                    refine awpS_seq ?_
                    refine awpS_reg T_ok fun K hK => ?_
                    simp [hG, List.getD_cons_zero, List.getD_cons_succ, -List.getD_eq_getElem?_getD]
                    refine ⟨Cond.mk (by omega), hK _ ?_⟩
                    clear K hK
                    refine awpS_seq ?_
                    refine awpS_reg T_ok fun K hK => ?_
                    simp [hG, List.getD_cons_zero, List.getD_cons_succ, -List.getD_eq_getElem?_getD]
                    refine hK _ ?_
                    clear K hK
                    refine awpS_cond rfl (fun hb132 => ?_) (fun hb132 => ?_)
                    ·
                      try simp [-List.getD_eq_getElem?_getD] at hb132
                      have hnw := seen_no hb132
                      have hE := fRow_new (a := a) (b := b) (F := (fAt a b s t k)) (x := ((fAt a b s t k).getD k dfn)) (i := i) hnw
                      refine awpS_seq ?_
                      refine awpS_reg T_ok fun K hK => ?_
                      simp [hG, List.getD_cons_zero, List.getD_cons_succ, -List.getD_eq_getElem?_getD]
                      refine hK _ ?_
                      clear K hK
                      refine awpS_reg T_ok fun K hK => ?_
                      simp [hG, List.getD_cons_zero, List.getD_cons_succ, -List.getD_eq_getElem?_getD]
                      refine ⟨Cond.mk (by simp [-List.getD_eq_getElem?_getD]; omega), hK _ ?_⟩
                      clear K hK
                      refine awpS_nil ?_
                      refine blockQ_norm (thenQ_norm ?_)
                      refine awpS_reg T_ok fun K hK => ?_
                      simp [hG, List.getD_cons_zero, List.getD_cons_succ, -List.getD_eq_getElem?_getD]
                      refine ⟨Cond.mk (by omega), hK _ ?_⟩
                      clear K hK
                      refine awpS_nil ?_
                      refine round_end ((i + 1, 0, Q2.drop lo2 ++ [nextF a b ((fAt a b s t k).getD k dfn) i])) (⟨by simp only; rw [hE]; exact hq2.push, by simp only; omega, hnm.succ hb122⟩) (by simp only; omega) ?_
                      refine wk_of (fun k => if k = 3 then 9 else k) (fun _ => false) (fun _ => false) ?_ ?_ rfl (Nat.zero_le _) (fun k hk => absurd hk (Nat.not_lt_zero _))
                      · simp [hG, List.getD_cons_zero, List.getD_cons_succ, -List.getD_eq_getElem?_getD]
                      · simp [hG, List.getD_cons_zero, List.getD_cons_succ, -List.getD_eq_getElem?_getD]; refine ⟨of_eq_true (HLe_pr (by rw [hE]; exact (seen_put (y := nextF a b ((fAt a b s t k).getD k dfn) i) hnw).symm)), fun q hq => ⟨fnd_app (j := 0) hq rfl, fnd_app (j := 1) hq rfl, ?_⟩⟩; rw [fnd_app (j := 2) (y := nextF a b ((fAt a b s t k).getD k dfn) i) hq rfl]; exact Clo.le _ Clo_ints
                    ·
                      try simp [-List.getD_eq_getElem?_getD] at hb132
                      have hE := fRow_old (a := a) (b := b) (F := (fAt a b s t k)) (x := ((fAt a b s t k).getD k dfn)) (i := i) (seen_yes hb132)
                      refine awpS_skip ?_
                      refine awpS_nil ?_
                      refine blockQ_norm (thenQ_norm ?_)
                      refine awpS_reg T_ok fun K hK => ?_
                      simp [hG, List.getD_cons_zero, List.getD_cons_succ, -List.getD_eq_getElem?_getD]
                      refine ⟨Cond.mk (by omega), hK _ ?_⟩
                      clear K hK
                      refine awpS_nil ?_
                      refine round_end ((i + 1, lo2, Q2)) (⟨by simp only; rw [hE]; exact hq2, by simp only; omega, hnm.succ hb122⟩) (by simp only; omega) ?_
                      refine wk_of (id) (fun _ => false) (fun _ => false) ?_ ?_ rfl (Nat.zero_le _) (fun k hk => absurd hk (Nat.not_lt_zero _))
                      · simp [hG, List.getD_cons_zero, List.getD_cons_succ, -List.getD_eq_getElem?_getD]
                      · simp [hG, List.getD_cons_zero, List.getD_cons_succ, -List.getD_eq_getElem?_getD]; exact of_eq_true (HLe_pr (by rw [hE]))
              ·
                try simp [-List.getD_eq_getElem?_getD] at hb90
                obtain rfl : i = a.inputs.toNat := (by omega)
                have hE : fAt a b s t (k + 1) = (fRow a b (fAt a b s t k) ((fAt a b s t k).getD k dfn) (a.inputs.toNat)) := fAt_step hkl
                refine awpS_exit ?_
                refine thenQ_exit (thenQ_exit ?_)
                refine blockQ_exit (thenQ_norm ?_)
                refine awpS_nil ?_
                refine blockQ_norm (thenQ_norm ?_)
                refine awpS_nil ?_
                refine round_end ((k + 1, lo2, Q2)) (⟨by simp only; rw [hE]; exact hq2, noMis_next hkl hnom hnm⟩) (by simp only; omega) ?_
                refine wk_of (id) (fun _ => false) (fun _ => false) ?_ ?_ rfl (Nat.zero_le _) (fun k hk => absurd hk (Nat.not_lt_zero _))
                · simp [hG, List.getD_cons_zero, List.getD_cons_succ, -List.getD_eq_getElem?_getD]
                · rw [hE]; simp [hG, List.getD_cons_zero, List.getD_cons_succ, -List.getD_eq_getElem?_getD]
          ·
            try simp [-List.getD_eq_getElem?_getD] at hb81
            have hkn : (fAt a b s t k).length ≤ k := (by omega)
            refine awpS_exit ?_
            refine thenQ_exit (thenQ_exit ?_)
            refine blockQ_exit (thenQ_norm ?_)
            refine awpS_seq ?_
            refine awpS_reg T_ok fun K hK => ?_
            simp [hG, List.getD_cons_zero, List.getD_cons_succ, -List.getD_eq_getElem?_getD]
            refine hK _ ?_
            clear K hK
            refine awpS_ret ?_
            refine RetOK_of ?_
            simp [hG, List.getD_cons_zero, List.getD_cons_succ, -List.getD_eq_getElem?_getD]
            have ho := same_ok hN; rw [sameD_none hkn (fun j hj => hnom j (by omega))] at ho; exact ⟨ho.1, ho.2, hN.symm⟩

end Go.Proofs.Ytmjkbidnghcfnaa
