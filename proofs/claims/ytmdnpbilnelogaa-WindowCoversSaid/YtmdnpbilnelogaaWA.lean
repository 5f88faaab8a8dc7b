/-
  Walks: comparison of words, validity of decoders, what is found, decoding; the reference's.
-/
import Derived.Test.YtmdnpbilnelogaaNB
import Derived.Test.YtmdnpbilnelogaaVA
namespace Go.Proofs.Ytmdnpbilnelogaa
set_option linter.unusedSimpArgs false
set_option linter.unusedVariables false
open Go Go.Lift Go.Proofs

theorem less_diff : ∀ {a b : List UInt8} {i : Nat}, i < a.length → i < b.length → (∀ j, j < i → a.getD j 0 = b.getD j 0) → a.getD i 0 < b.getD i 0 → Op.bytesLess a b = true
  | x :: a, y :: b, 0, _, _, _, h => by
    simp only [List.getD_cons_zero] at h
    simp [Op.bytesLess, h]
  | x :: a, y :: b, i + 1, h1, h2, h3, h => by
    have hx := h3 0 (Nat.succ_pos _)
    simp only [List.getD_cons_zero] at hx
    have := less_diff (a := a) (b := b) (i := i) (by simpa using h1) (by simpa using h2) (fun j hj => by simpa using h3 (j + 1) (by omega)) (by simpa using h)
    simp [Op.bytesLess, hx, this]
  | [], _, i, h1, _, _, _ => absurd h1 (Nat.not_lt_zero i)
  | _ :: _, [], i, _, h2, _, _ => absurd h2 (Nat.not_lt_zero i)
theorem less_pre : ∀ {a b : List UInt8}, a.length < b.length → (∀ j, j < a.length → a.getD j 0 = b.getD j 0) → Op.bytesLess a b = true
  | [], y :: b, _, _ => rfl
  | x :: a, y :: b, h1, h3 => by
    have hx := h3 0 (Nat.succ_pos _)
    simp only [List.getD_cons_zero] at hx
    have := less_pre (a := a) (b := b) (by simpa using h1) (fun j hj => by simpa using h3 (j + 1) (by simpa using hj))
    simp [Op.bytesLess, hx, this]
  | _, [], h1, _ => absurd h1 (Nat.not_lt_zero _)
theorem cmpS_lt {a b : List UInt8} (h : Op.bytesLess a b = true) : cmpS a b = -1 := if_pos h
theorem cmpS_gt {a b : List UInt8} (h : Op.bytesLess b a = true) : cmpS a b = 1 := by unfold cmpS; rw [if_neg (by rw [less_asymm h]; simp), if_pos h]
theorem get_bang (s : List UInt8) (i : Nat) (hi : i < s.length) : (ByteArray.mk ⟨s⟩)[i]! = s.getD i 0 := by
  have hsz : i < (ByteArray.mk ⟨s⟩).size := hi
  rw [getElem!_pos (ByteArray.mk ⟨s⟩) i hsz]
  show s[i] = _
  simp [List.getD, hi]
theorem cmp_cmpS (a b : List UInt8) : Extern.BytealgCompare.cmp ⟨⟨a⟩⟩ ⟨⟨b⟩⟩ = cmpS a b := by
  unfold Extern.BytealgCompare.cmp
  have h1 : (ByteArray.mk ⟨a⟩).size = a.length := rfl
  have h2 : (ByteArray.mk ⟨b⟩).size = b.length := rfl
  rw [h1, h2]
  cases hf : (List.range (min a.length b.length)).find? fun i => (ByteArray.mk ⟨a⟩)[i]! != (ByteArray.mk ⟨b⟩)[i]! with
  | some i =>
    rw [List.find?_range_eq_some] at hf
    obtain ⟨e1, e2, e3⟩ := hf
    have hi : i < min a.length b.length := by simpa using e2
    have hne : a.getD i 0 ≠ b.getD i 0 := by
      rw [get_bang a i (by omega), get_bang b i (by omega)] at e1
      simpa using e1
    have heq : ∀ j, j < i → a.getD j 0 = b.getD j 0 := fun j hj => by
      have := e3 j hj
      rw [get_bang a j (by omega), get_bang b j (by omega)] at this
      simpa using this
    simp only
    rw [get_bang a i (by omega), get_bang b i (by omega)]
    by_cases hl : a.getD i 0 < b.getD i 0
    · rw [if_pos hl, cmpS_lt (less_diff (by omega) (by omega) heq hl)]
    · have hg : b.getD i 0 < a.getD i 0 := by
        rcases Nat.lt_trichotomy (a.getD i 0).toNat (b.getD i 0).toNat with h | h | h
        · exact absurd (UInt8.lt_iff_toNat_lt.2 h) hl
        · exact absurd (UInt8.toNat_inj.1 h) hne
        · exact UInt8.lt_iff_toNat_lt.2 h
      rw [if_neg hl, cmpS_gt (less_diff (by omega) (by omega) (fun j hj => (heq j hj).symm) hg)]
  | none =>
    rw [List.find?_eq_none] at hf
    have heq : ∀ j, j < min a.length b.length → a.getD j 0 = b.getD j 0 := fun j hj => by
      have := hf j (List.mem_range.2 hj)
      rw [get_bang a j (by omega), get_bang b j (by omega)] at this
      simpa using this
    simp only
    by_cases hl : a.length < b.length
    · rw [if_pos hl, cmpS_lt (less_pre hl fun j hj => heq j (by omega))]
    · rw [if_neg hl]
      by_cases hg : a.length > b.length
      · rw [if_pos hg, cmpS_gt (less_pre hg fun j hj => (heq j (by omega)).symm)]
      · rw [if_neg hg]
        have : a = b := List.ext_getElem (by omega) fun j hj1 hj2 => by
          have := heq j (by omega)
          simpa [List.getD, hj1, hj2] using this
        subst this
        exact (cmpS_zero.2 rfl).symm
theorem cmp_px (a b : List UInt8) : PX Try.prog 78 [.str a, .str b] (.int .i64 (cmpS a b)) := by
  rintro c vals hargs
  match vals, hargs with
  | [x, y], ⟨h1, h2, _⟩ =>
    simp only [Rel] at h1 h2
    subst h1 h2
    refine ⟨.int .i64 (cmpS a b), fun w => ?_, fun _ => rfl⟩
    rw [run_callFunc_extern (fn := Try.f78) (by kernel_rfl) (by decide +kernel) (by decide +kernel) (by kernel_rfl) (show Extern.find _ = some Extern.BytealgCompare.compare from by kernel_rfl)]
    have : Extern.BytealgCompare.compare [Value.string ⟨⟨a⟩⟩, .string ⟨⟨b⟩⟩].toArray = (do pure (goInt (Extern.BytealgCompare.cmp (← Extern.Bytes.bytesOf (.string ⟨⟨a⟩⟩)) (← Extern.Bytes.bytesOf (.string ⟨⟨b⟩⟩))))) := rfl
    rw [this]
    simp only [Extern.Bytes.bytesOf, Sem.run_bind, Sem.run_pure, Result.andThen_ok, cmp_cmpS]
    rfl

/-- halves. -/
theorem half_nat {i j : Nat} : (((i : Int) + (j : Int)) / 2).toNat = (i + j) / 2 := by omega
theorem half_int {i j : Nat} : ((i : Int) + (j : Int)) / 2 = ((i + j) / 2 : Nat) := by omega
theorem half_mid {i j : Nat} (h : i < j) : i ≤ (i + j) / 2 ∧ (i + j) / 2 < j := by omega
/-- how far a search has come. -/
structure Bis (l : List Ent) (w : List UInt8) (i j : Nat) : Prop where
  le : i ≤ j
  len : j ≤ l.length
  lo : ∀ k, k < i → lessE w (l.getD k den) = true
  hi : ∀ k, j ≤ k → k < l.length → lessE w (l.getD k den) = false
theorem Bis.zero {l : List Ent} {w : List UInt8} : Bis l w 0 l.length := ⟨Nat.zero_le _, Nat.le_refl _, fun k h => absurd h (Nat.not_lt_zero _), fun k h1 h2 => absurd h2 (Nat.not_lt.2 h1)⟩
theorem Bis.up {l : List Ent} {w : List UInt8} {i j m : Nat} (h : Bis l w i j) (ha : Asc l) (hm : m < j) (hl : lessE w (l.getD m den) = true) (hi : i ≤ m) : Bis l w (m + 1) j :=
  ⟨hm, h.len, fun k hk => by
    rcases Nat.lt_or_ge k m with h1 | h1
    · have hlen := h.len
      unfold lessE at hl ⊢
      exact less_trans (asc_at ha h1 (by omega)) hl
    · obtain rfl : k = m := by omega
      exact hl, h.hi⟩
theorem Bis.down {l : List Ent} {w : List UInt8} {i j m : Nat} (h : Bis l w i j) (ha : Asc l) (hm : m < j) (hl : lessE w (l.getD m den) = false) (hi : i ≤ m) : Bis l w i m :=
  ⟨hi, Nat.le_trans (Nat.le_of_lt hm) h.len, h.lo, fun k h1 h2 => by
    rcases Nat.lt_or_ge m k with h3 | h3
    · cases h4 : lessE w (l.getD k den) with
      | false => rfl
      | true =>
        unfold lessE at h4 hl
        rw [less_trans (asc_at ha h3 h2) h4] at hl; cases hl
    · obtain rfl : k = m := by omega
      exact hl⟩
theorem Bis.fin {l : List Ent} {w : List UInt8} {i j : Nat} (h : Bis l w i j) (hij : j ≤ i) : i = lowE l w := by
  have := h.le
  obtain rfl : i = j := by omega
  exact (low_of h.len h.lo h.hi).symm
/-- is there such an entry? -/
theorem look_has {l : List Ent} (h : Asc l) (w : List UInt8) : (lookE l w).isSome = (decide (lowE l w < l.length) && decide ((l.getD (lowE l w) den).win = w)) := by
  rw [look_low h]
  by_cases hc : lowE l w < l.length ∧ (l.getD (lowE l w) den).win = w
  · rw [if_pos hc, decide_eq_true hc.1, decide_eq_true hc.2]; rfl
  · rw [if_neg hc]
    rcases Classical.not_and_iff_not_or_not.1 hc with h1 | h1
    · rw [decide_eq_false h1]; rfl
    · rw [decide_eq_false h1, Bool.and_false]; rfl
theorem look_hit {l : List Ent} (h : Asc l) {w : List UInt8} (h1 : lowE l w < l.length) (h2 : (l.getD (lowE l w) den).win = w) : lookE l w = some (l.getD (lowE l w) den).inp := by rw [look_low h, if_pos ⟨h1, h2⟩]
theorem look_miss {l : List Ent} (h : Asc l) {w : List UInt8} (h2 : ¬ (lowE l w < l.length ∧ (l.getD (lowE l w) den).win = w)) : lookE l w = none := by rw [look_low h, if_neg h2]
theorem cut_take {w : List UInt8} {a : Nat} {n : Int} (hn : 0 ≤ n) : (w.take ((a : Int) + n).toNat).drop a = (w.drop a).take n.toNat := by
  rw [List.drop_take]
  congr 1
  omega
theorem decL_at {d : Dec} {w : List UInt8} {k : Nat} (h : k < decCnt d w) : ((List.range (decCnt d w)).map (decAt d w)).getD k 0 = decAt d w k := by
  simp [List.getD, h]
/-- where a block begins. -/
def atK (d : Dec) (k : Nat) : Nat := k * d.block.toNat
theorem atK_zero (d : Dec) : atK d 0 = 0 := Nat.zero_mul _
theorem atK_succ (d : Dec) (k : Nat) : atK d (k + 1) = atK d k + d.block.toNat := Nat.succ_mul ..
theorem at_more {d : Dec} {w : List UInt8} (hb : 1 ≤ d.block) {k : Nat} : atK d k + (winN d).toNat ≤ w.length ↔ k < decCnt d w := dec_more hb
theorem decCnt_le (d : Dec) (w : List UInt8) : decCnt d w ≤ w.length + 1 := by
  unfold decCnt
  split
  · have := Nat.div_le_self (w.length - (winN d).toNat) d.block.toNat
    omega
  · omega
theorem atK_le {d : Dec} (hb : d.block ≤ 16) (k : Nat) : atK d k ≤ k * 16 := Nat.mul_le_mul_left _ (by omega)
theorem app_last {F : Nat → Int} {s i : Nat} {c : Int} {w : Nat → Nat → AVal} (hi : i < s + 1) (h : F s = c) : app (fun j _ => .int .i64 (F j)) s (fun i j => if i = 0 ∧ j = 0 then .int .i64 c else w i j) i 0 = .int .i64 (F i) := by
  unfold app
  by_cases e : i < s
  · rw [if_pos e]
  · obtain rfl : i = s := by omega
    rw [if_neg e, Nat.sub_self, h]; rfl
set_option maxRecDepth 100000 in
theorem cmpB_c (a b : List UInt8) : PC Try.prog 61 [.str a, .str b] (.int .i64 (cmpS a b)) := by
  refine PC_introS T_ok Try.func61 rfl (by simp [Try.ntmps61]) fun G hG hR => ?_
  simp only [Try.ntmps61, Try.results61] at hG ⊢
  simp only [argEnv, Nat.zero_add, Nat.reduceAdd]
  refine awpS_seq ?_
  refine awpS_reg T_ok fun K hK => ?_
  simp [hG, List.getD_cons_zero, List.getD_cons_succ, -List.getD_eq_getElem?_getD]
  refine hK _ ?_
  clear K hK
  refine awpS_seq ?_
  refine awpS_regL ?_
  refine awpL_reg T_ok 2 fun K hK => ?_
  simp [hG, List.getD_cons_zero, List.getD_cons_succ, -List.getD_eq_getElem?_getD]
  refine hK _ ?_
  clear K hK
  refine awpL_px (cmp_px a b) rfl rfl rfl ?_ ?_ fun K hK => ?_
  · simp [hG, List.getD_cons_zero, List.getD_cons_succ, -List.getD_eq_getElem?_getD]
  · simp [hG, List.getD_cons_zero, List.getD_cons_succ, -List.getD_eq_getElem?_getD]
  simp [hG, List.getD_cons_zero, List.getD_cons_succ, -List.getD_eq_getElem?_getD]
  refine hK _ ?_
  clear K hK
  refine awpL_reg T_ok 1 fun K hK => ?_
  simp [hG, List.getD_cons_zero, List.getD_cons_succ, -List.getD_eq_getElem?_getD]
  refine hK _ ?_
  clear K hK
  refine awpL_nil ?_
  refine awpS_ret ?_
  refine RetOK_of ?_
  simp [hG, List.getD_cons_zero, List.getD_cons_succ, -List.getD_eq_getElem?_getD]

set_option maxRecDepth 100000 in
theorem cmpW_c (a b : List UInt8) : PC Try.prog 43 [.str a, .str b] (.int .i64 (cmpS a b)) := by
  refine PC_introS T_ok Try.func43 rfl (by simp [Try.ntmps43]) fun G hG hR => ?_
  simp only [Try.ntmps43, Try.results43] at hG ⊢
  simp only [argEnv, Nat.zero_add, Nat.reduceAdd]
  refine awpS_seq ?_
  refine awpS_reg T_ok fun K hK => ?_
  simp [hG, List.getD_cons_zero, List.getD_cons_succ, -List.getD_eq_getElem?_getD]
  refine hK _ ?_
  clear K hK
  refine awpS_seq ?_
  refine awpS_regL ?_
  refine awpL_reg T_ok 2 fun K hK => ?_
  simp [hG, List.getD_cons_zero, List.getD_cons_succ, -List.getD_eq_getElem?_getD]
  refine hK _ ?_
  clear K hK
  refine awpL_call cal61 rfl rfl (fun _ => rfl) (fun hg => cmpB_c a b) (fun hg => ?_) (fun hg => ?_) fun K hK => ?_
  · simp [hG, List.getD_cons_zero, List.getD_cons_succ, -List.getD_eq_getElem?_getD]
  · simp [hG, List.getD_cons_zero, List.getD_cons_succ, -List.getD_eq_getElem?_getD]
  simp [hG, List.getD_cons_zero, List.getD_cons_succ, -List.getD_eq_getElem?_getD]
  refine hK _ ?_
  clear K hK
  refine awpL_reg T_ok 1 fun K hK => ?_
  simp [hG, List.getD_cons_zero, List.getD_cons_succ, -List.getD_eq_getElem?_getD]
  refine hK _ ?_
  clear K hK
  refine awpL_nil ?_
  refine awpS_ret ?_
  refine RetOK_of ?_
  simp [hG, List.getD_cons_zero, List.getD_cons_succ, -List.getD_eq_getElem?_getD]

set_option maxRecDepth 100000 in
theorem cmpE0_c (a b : Ent) : PC Try.prog 42 [.agg 2 (entF a), .agg 2 (entF b)] (.int .i64 (cmpS a.win b.win)) := by
  refine PC_introS T_ok Try.func42 rfl (by simp [Try.ntmps42]) fun G hG hR => ?_
  simp only [Try.ntmps42, Try.results42] at hG ⊢
  simp only [argEnv, Nat.zero_add, Nat.reduceAdd]
  refine awpS_seq ?_
  refine awpS_reg T_ok fun K hK => ?_
  simp [hG, List.getD_cons_zero, List.getD_cons_succ, -List.getD_eq_getElem?_getD]
  refine ⟨Cond.mk (by simp [-List.getD_eq_getElem?_getD]), hK _ ?_⟩
  clear K hK
  refine awpS_seq ?_
  refine awpS_regL ?_
  refine awpL_reg T_ok 4 fun K hK => ?_
  simp [hG, List.getD_cons_zero, List.getD_cons_succ, -List.getD_eq_getElem?_getD]
  refine hK _ ?_
  clear K hK
  refine awpL_call cal43 rfl rfl (fun _ => rfl) (fun hg => cmpW_c a.win b.win) (fun hg => ?_) (fun hg => ?_) fun K hK => ?_
  · simp [hG, List.getD_cons_zero, List.getD_cons_succ, -List.getD_eq_getElem?_getD]
  · simp [hG, List.getD_cons_zero, List.getD_cons_succ, -List.getD_eq_getElem?_getD]
  simp [hG, List.getD_cons_zero, List.getD_cons_succ, -List.getD_eq_getElem?_getD]
  refine hK _ ?_
  clear K hK
  refine awpL_reg T_ok 1 fun K hK => ?_
  simp [hG, List.getD_cons_zero, List.getD_cons_succ, -List.getD_eq_getElem?_getD]
  refine hK _ ?_
  clear K hK
  refine awpL_nil ?_
  refine awpS_ret ?_
  refine RetOK_of ?_
  simp [hG, List.getD_cons_zero, List.getD_cons_succ, -List.getD_eq_getElem?_getD]

set_option maxRecDepth 100000 in
theorem cmpF_c (x : Ent) (w : List UInt8) : PC Try.prog 64 [.agg 2 (entF x), .str w] (.int .i64 (cmpS x.win w)) := by
  refine PC_introS T_ok Try.func64 rfl (by simp [Try.ntmps64]) fun G hG hR => ?_
  simp only [Try.ntmps64, Try.results64] at hG ⊢
  simp only [argEnv, Nat.zero_add, Nat.reduceAdd]
  refine awpS_seq ?_
  refine awpS_reg T_ok fun K hK => ?_
  simp [hG, List.getD_cons_zero, List.getD_cons_succ, -List.getD_eq_getElem?_getD]
  refine ⟨Cond.mk (by exact trivial), hK _ ?_⟩
  clear K hK
  refine awpS_seq ?_
  refine awpS_regL ?_
  refine awpL_reg T_ok 3 fun K hK => ?_
  simp [hG, List.getD_cons_zero, List.getD_cons_succ, -List.getD_eq_getElem?_getD]
  refine hK _ ?_
  clear K hK
  refine awpL_call cal43 rfl rfl (fun _ => rfl) (fun hg => cmpW_c x.win w) (fun hg => ?_) (fun hg => ?_) fun K hK => ?_
  · simp [hG, List.getD_cons_zero, List.getD_cons_succ, -List.getD_eq_getElem?_getD]
  · simp [hG, List.getD_cons_zero, List.getD_cons_succ, -List.getD_eq_getElem?_getD]
  simp [hG, List.getD_cons_zero, List.getD_cons_succ, -List.getD_eq_getElem?_getD]
  refine hK _ ?_
  clear K hK
  refine awpL_reg T_ok 1 fun K hK => ?_
  simp [hG, List.getD_cons_zero, List.getD_cons_succ, -List.getD_eq_getElem?_getD]
  refine hK _ ?_
  clear K hK
  refine awpL_nil ?_
  refine awpS_ret ?_
  refine RetOK_of ?_
  simp [hG, List.getD_cons_zero, List.getD_cons_succ, -List.getD_eq_getElem?_getD]

set_option maxRecDepth 100000 in
theorem bsearchE_c (l : List Ent) (w : List UInt8) (hl : l.length ≤ 1000000) (ha : Asc l) : PC Try.prog 63 [ents l, .str w, .fn 64 0 (fun _ => .any)] (.tup 2 (fun j => [.int .i64 (lowE l w : Nat), .bool (lookE l w).isSome].getD j .any)) := by
  refine PC_introS T_ok Try.func63 rfl (by simp [Try.ntmps63]) fun G hG hR => ?_
  simp only [Try.ntmps63, Try.results63] at hG ⊢
  simp only [argEnv, Nat.zero_add, Nat.reduceAdd]
  refine awpS_seq ?_
  refine awpS_reg T_ok fun K hK => ?_
  simp [hG, List.getD_cons_zero, List.getD_cons_succ, -List.getD_eq_getElem?_getD, half_nat, pureOp]
  refine hK _ ?_
  clear K hK
  refine awpS_seq ?_
  refine awpS_reg T_ok fun K hK => ?_
  simp [hG, List.getD_cons_zero, List.getD_cons_succ, -List.getD_eq_getElem?_getD, half_nat, pureOp]
  refine hK _ ?_
  clear K hK
  refine awpS_seq ?_
  refine awpS_reg T_ok fun K hK => ?_
  simp [hG, List.getD_cons_zero, List.getD_cons_succ, -List.getD_eq_getElem?_getD, half_nat, pureOp]
  refine hK _ ?_
  clear K hK
  refine awpS_seq ?_
  refine awpS_block ?_
  refine awpS_loop (α := Nat × Nat) (fun p => ⟨[(0, ents l), (1, .str w), (2, .fn 64 0 (fun _ => .any)), (8, .int .i64 l.length), (9, .int .i64 p.1), (10, .int .i64 p.2)], [], 0⟩) (fun p => Bis l w p.1 p.2) (fun p => p.2 - p.1) ((0, l.length)) (Bis.zero) ?_ ?_
  ·
    refine wk_of (id) (fun _ => false) (fun _ => false) ?_ ?_ rfl (Nat.zero_le _) (fun k hk => absurd hk (Nat.not_lt_zero _))
    · simp [hG, List.getD_cons_zero, List.getD_cons_succ, -List.getD_eq_getElem?_getD, half_nat, pureOp]
    · simp [hG, List.getD_cons_zero, List.getD_cons_succ, -List.getD_eq_getElem?_getD, half_nat, pureOp]
  ·
    rintro ⟨i, j⟩ hB
    simp only at hB
    have hle := hB.le
    have hlen := hB.len
    refine awpS_seq ?_
    refine awpS_seq ?_
    refine awpS_reg T_ok fun K hK => ?_
    simp [hG, List.getD_cons_zero, List.getD_cons_succ, -List.getD_eq_getElem?_getD, half_nat, pureOp]
    refine hK _ ?_
    clear K hK
    refine awpS_cond rfl (fun hb17 => ?_) (fun hb17 => ?_)
    ·
      try simp [-List.getD_eq_getElem?_getD] at hb17
      refine awpS_skip ?_
      refine awpS_block ?_
      refine awpS_seq ?_
      refine awpS_reg T_ok fun K hK => ?_
      simp [hG, List.getD_cons_zero, List.getD_cons_succ, -List.getD_eq_getElem?_getD, half_nat, pureOp]
      refine ⟨Cond.mk (by omega), hK _ ?_⟩
      clear K hK
      refine awpS_seq ?_
      refine awpS_regL ?_
      refine awpL_reg T_ok 6 fun K hK => ?_
      simp [hG, List.getD_cons_zero, List.getD_cons_succ, -List.getD_eq_getElem?_getD, half_nat, pureOp]
      refine ⟨Cond.mk (by omega), hK _ ?_⟩
      clear K hK
      refine awpL_call cal64 rfl rfl (fun _ => rfl) (fun hg => cmpF_c (l.getD ((i + j) / 2) den) w) (fun hg => ?_) (fun hg => ?_) fun K hK => ?_
      · simp [hG, List.getD_cons_zero, List.getD_cons_succ, -List.getD_eq_getElem?_getD, half_nat, pureOp]
      · simp [hG, List.getD_cons_zero, List.getD_cons_succ, -List.getD_eq_getElem?_getD, half_nat, pureOp]
      simp [hG, List.getD_cons_zero, List.getD_cons_succ, -List.getD_eq_getElem?_getD, half_nat, pureOp]
      refine hK _ ?_
      clear K hK
      refine awpL_reg T_ok 1 fun K hK => ?_
      simp [hG, List.getD_cons_zero, List.getD_cons_succ, -List.getD_eq_getElem?_getD, half_nat, pureOp]
      refine hK _ ?_
      clear K hK
      refine awpL_nil ?_
      refine awpS_cond rfl (fun hb31 => ?_) (fun hb31 => ?_)
      ·
        try simp [-List.getD_eq_getElem?_getD] at hb31
        refine awpS_reg T_ok fun K hK => ?_
        simp [hG, List.getD_cons_zero, List.getD_cons_succ, -List.getD_eq_getElem?_getD, half_nat, pureOp]
        refine ⟨Cond.mk (by omega), hK _ ?_⟩
        clear K hK
        refine awpS_nil ?_
        refine blockQ_norm (thenQ_norm ?_)
        refine awpS_nil ?_
        refine round_end (((i + j) / 2 + 1, j)) (hB.up ha (by omega) (cmpS_neg.1 (by simpa using hb31)) (by omega)) (by simp only; omega) ?_
        refine wk_of (id) (fun _ => false) (fun _ => false) ?_ ?_ rfl (Nat.zero_le _) (fun k hk => absurd hk (Nat.not_lt_zero _))
        · simp [hG, List.getD_cons_zero, List.getD_cons_succ, -List.getD_eq_getElem?_getD, half_nat, pureOp]
        · simp [hG, List.getD_cons_zero, List.getD_cons_succ, -List.getD_eq_getElem?_getD, half_nat, pureOp]
      ·
        try simp [-List.getD_eq_getElem?_getD] at hb31
        refine awpS_reg T_ok fun K hK => ?_
        simp [hG, List.getD_cons_zero, List.getD_cons_succ, -List.getD_eq_getElem?_getD, half_nat, pureOp]
        refine hK _ ?_
        clear K hK
        refine awpS_nil ?_
        refine blockQ_norm (thenQ_norm ?_)
        refine awpS_nil ?_
        refine round_end ((i, (i + j) / 2)) (hB.down ha (by omega) (by unfold lessE; have := mt cmpS_neg.2 (by simpa using hb31); simpa using this) (by omega)) (by simp only; omega) ?_
        refine wk_of (id) (fun _ => false) (fun _ => false) ?_ ?_ rfl (Nat.zero_le _) (fun k hk => absurd hk (Nat.not_lt_zero _))
        · simp [hG, List.getD_cons_zero, List.getD_cons_succ, -List.getD_eq_getElem?_getD, half_nat, pureOp]
        · simp [hG, List.getD_cons_zero, List.getD_cons_succ, -List.getD_eq_getElem?_getD, half_nat, pureOp]
    ·
      try simp [-List.getD_eq_getElem?_getD] at hb17
      have hfin := hB.fin (by omega)
      refine awpS_exit ?_
      refine thenQ_exit (thenQ_exit ?_)
      refine blockQ_exit (thenQ_norm ?_)
      refine awpS_seq ?_
      refine awpS_regL ?_
      refine awpL_reg T_ok 11 fun K hK => ?_
      simp [hG, List.getD_cons_zero, List.getD_cons_succ, -List.getD_eq_getElem?_getD, half_nat, pureOp]
      refine hK _ ?_
      clear K hK
      refine awpL_call cal64 rfl rfl (fun _ => rfl) (fun hg => cmpF_c (l.getD i den) w) (fun hg => ?_) (fun hg => ?_) fun K hK => ?_
      · first | (simp [hG, List.getD_cons_zero, List.getD_cons_succ, -List.getD_eq_getElem?_getD, half_nat, pureOp]; done) | (simp [-List.getD_eq_getElem?_getD] at hg; done) | (simp [-List.getD_eq_getElem?_getD] at hg; simp [hG, List.getD_cons_zero, List.getD_cons_succ, -List.getD_eq_getElem?_getD, half_nat, pureOp]; first | omega | exact hg | (simp_all [-List.getD_eq_getElem?_getD]; done) | (simp_all [-List.getD_eq_getElem?_getD]; first | exact ⟨rfl, rfl⟩ | exact rfl))
      · first | (simp [hG, List.getD_cons_zero, List.getD_cons_succ, -List.getD_eq_getElem?_getD, half_nat, pureOp]; done) | (simp [-List.getD_eq_getElem?_getD] at hg; done) | (simp [-List.getD_eq_getElem?_getD] at hg; simp [hG, List.getD_cons_zero, List.getD_cons_succ, -List.getD_eq_getElem?_getD, half_nat, pureOp]; first | omega | exact hg | (simp_all [-List.getD_eq_getElem?_getD]; done) | (simp_all [-List.getD_eq_getElem?_getD]; first | exact ⟨rfl, rfl⟩ | exact rfl))
      simp [hG, List.getD_cons_zero, List.getD_cons_succ, -List.getD_eq_getElem?_getD, half_nat, pureOp]
      refine hK _ ?_
      clear K hK
      refine awpL_reg T_ok 4 fun K hK => ?_
      simp [hG, List.getD_cons_zero, List.getD_cons_succ, -List.getD_eq_getElem?_getD, half_nat, pureOp]
      refine hK _ ?_
      clear K hK
      refine awpL_nil ?_
      refine awpS_ret ?_
      refine RetOK_of ?_
      simp [hG, List.getD_cons_zero, List.getD_cons_succ, -List.getD_eq_getElem?_getD, half_nat, pureOp]
      subst hfin; refine ⟨rfl, ?_⟩; rw [look_has ha]; congr 1; rw [Bool.eq_iff_iff]; simp only [decide_eq_true_eq]; exact cmpS_zero

set_option maxRecDepth 100000 in
theorem checkD_c (d : Dec) : PC Try.prog 22 [.agg 6 (decF d)] (.int .i64 (checkD d)) := by
  refine PC_introS T_ok Try.func22 rfl (by simp [Try.ntmps22]) fun G hG hR => ?_
  simp only [Try.ntmps22, Try.results22] at hG ⊢
  simp only [argEnv, Nat.zero_add, Nat.reduceAdd]
  refine awpS_seq ?_
  refine awpS_reg T_ok fun K hK => ?_
  simp [hG, List.getD_cons_zero, List.getD_cons_succ, -List.getD_eq_getElem?_getD, pureOp, leq_less]
  refine ⟨Cond.mk (by exact trivial), hK _ ?_⟩
  clear K hK
  refine awpS_seq ?_
  refine awpS_block ?_
  refine awpS_seq ?_
  refine awpS_reg T_ok fun K hK => ?_
  simp [hG, List.getD_cons_zero, List.getD_cons_succ, -List.getD_eq_getElem?_getD, pureOp, leq_less]
  refine hK _ ?_
  clear K hK
  refine awpS_cond rfl (fun hb6 => ?_) (fun hb6 => ?_)
  ·
    try simp [-List.getD_eq_getElem?_getD] at hb6
    refine awpS_seq ?_
    refine awpS_reg T_ok fun K hK => ?_
    simp [hG, List.getD_cons_zero, List.getD_cons_succ, -List.getD_eq_getElem?_getD, pureOp, leq_less]
    refine hK _ ?_
    clear K hK
    refine awpS_ret ?_
    refine blockQ_ret (thenQ_ret ?_)
    refine RetOK_of ?_
    simp [hG, List.getD_cons_zero, List.getD_cons_succ, -List.getD_eq_getElem?_getD, pureOp, leq_less]
    exact (checkD_letters (by omega)).symm
  ·
    try simp [-List.getD_eq_getElem?_getD] at hb6
    refine awpS_seq ?_
    refine awpS_reg T_ok fun K hK => ?_
    simp [hG, List.getD_cons_zero, List.getD_cons_succ, -List.getD_eq_getElem?_getD, pureOp, leq_less]
    refine ⟨Cond.mk (by omega), hK _ ?_⟩
    clear K hK
    refine awpS_cond rfl (fun hb15 => ?_) (fun hb15 => ?_)
    ·
      try simp [-List.getD_eq_getElem?_getD] at hb15
      refine awpS_seq ?_
      refine awpS_reg T_ok fun K hK => ?_
      simp [hG, List.getD_cons_zero, List.getD_cons_succ, -List.getD_eq_getElem?_getD, pureOp, leq_less]
      refine hK _ ?_
      clear K hK
      refine awpS_ret ?_
      refine blockQ_ret (thenQ_ret ?_)
      refine RetOK_of ?_
      simp [hG, List.getD_cons_zero, List.getD_cons_succ, -List.getD_eq_getElem?_getD, pureOp, leq_less]
      exact (checkD_range hb6 (by unfold badS; omega)).symm
    ·
      try simp [-List.getD_eq_getElem?_getD] at hb15
      refine awpS_seq ?_
      refine awpS_reg T_ok fun K hK => ?_
      simp [hG, List.getD_cons_zero, List.getD_cons_succ, -List.getD_eq_getElem?_getD, pureOp, leq_less]
      refine hK _ ?_
      clear K hK
      refine awpS_cond rfl (fun hb57 => ?_) (fun hb57 => ?_)
      ·
        try simp [-List.getD_eq_getElem?_getD] at hb57
        refine awpS_seq ?_
        refine awpS_reg T_ok fun K hK => ?_
        simp [hG, List.getD_cons_zero, List.getD_cons_succ, -List.getD_eq_getElem?_getD, pureOp, leq_less]
        refine hK _ ?_
        clear K hK
        refine awpS_ret ?_
        refine blockQ_ret (thenQ_ret ?_)
        refine RetOK_of ?_
        simp [hG, List.getD_cons_zero, List.getD_cons_succ, -List.getD_eq_getElem?_getD, pureOp, leq_less]
        exact (checkD_limit ⟨by omega, by omega, by omega, by unfold badS; omega⟩ (by omega)).symm
      ·
        try simp [-List.getD_eq_getElem?_getD] at hb57
        have hd : DDims d := ⟨by omega, by omega, by omega, by unfold badS; omega⟩
        have hsz : d.ents.length ≤ 65536 := (by omega)
        have hss := not_badS hd.sides
        have hbk := hd.block
        have hwn := winN_bd hd
        unfold winN at hwn
        refine awpS_skip ?_
        refine awpS_nil ?_
        refine blockQ_norm (thenQ_norm ?_)
        refine awpS_seq ?_
        refine awpS_seq ?_
        refine awpS_reg T_ok fun K hK => ?_
        simp [hG, List.getD_cons_zero, List.getD_cons_succ, -List.getD_eq_getElem?_getD, pureOp, leq_less]
        refine hK _ ?_
        clear K hK
        refine awpS_block ?_
        refine awpS_loop (α := Nat) (fun k => ⟨[(1, .ptr (0, 0) 0 0), (63, ents d.ents), (64, .int .i64 d.ents.length), (65, .int .i64 k)], [(0, .one (.arr 1 6 (fun _ => decF d)))], 1⟩) (fun k => k ≤ d.ents.length ∧ ∀ j, j < k → entN d j = 0) (fun k => d.ents.length - k) (0) (⟨Nat.zero_le _, fun j hj => absurd hj (Nat.not_lt_zero _)⟩) ?_ ?_
        ·
          refine wk_of (id) (fun _ => false) (fun _ => false) ?_ ?_ rfl (Nat.zero_le _) (fun k hk => absurd hk (Nat.not_lt_zero _))
          · simp [hG, List.getD_cons_zero, List.getD_cons_succ, -List.getD_eq_getElem?_getD, pureOp, leq_less]
          · simp [hG, List.getD_cons_zero, List.getD_cons_succ, -List.getD_eq_getElem?_getD, pureOp, leq_less]
        ·
          rintro k ⟨hk, hn⟩
          refine awpS_seq ?_
          refine awpS_reg T_ok fun K hK => ?_
          simp [hG, List.getD_cons_zero, List.getD_cons_succ, -List.getD_eq_getElem?_getD, pureOp, leq_less]
          refine hK _ ?_
          clear K hK
          refine awpS_seq ?_
          refine awpS_cond rfl (fun hb66 => ?_) (fun hb66 => ?_)
          ·
            try simp [-List.getD_eq_getElem?_getD] at hb66
            refine awpS_skip ?_
            refine awpS_seq ?_
            refine awpS_block ?_
            refine awpS_seq ?_
            refine awpS_reg T_ok fun K hK => ?_
            simp [hG, List.getD_cons_zero, List.getD_cons_succ, -List.getD_eq_getElem?_getD, pureOp, leq_less]
            refine ⟨Cond.mk (by simp [-List.getD_eq_getElem?_getD]; omega), hK _ ?_⟩
            clear K hK
            refine awpS_seq ?_
            refine awpS_seq ?_
            refine awpS_reg T_ok fun K hK => ?_
            simp [hG, List.getD_cons_zero, List.getD_cons_succ, -List.getD_eq_getElem?_getD, pureOp, leq_less]
            refine ⟨Cond.mk (by omega), hK _ ?_⟩
            clear K hK
            refine awpS_cond rfl (fun hb82 => ?_) (fun hb82 => ?_)
            ·
              try simp [-List.getD_eq_getElem?_getD] at hb82
              refine awpS_seq ?_
              refine awpS_reg T_ok fun K hK => ?_
              simp [hG, List.getD_cons_zero, List.getD_cons_succ, -List.getD_eq_getElem?_getD, pureOp, leq_less]
              refine hK _ ?_
              clear K hK
              refine awpS_ret ?_
              refine blockQ_ret (thenQ_ret ?_)
              refine thenQ_ret (thenQ_ret ?_)
              refine blockQ_ret (thenQ_ret ?_)
              refine RetOK_of ?_
              simp [hG, List.getD_cons_zero, List.getD_cons_succ, -List.getD_eq_getElem?_getD, pureOp, leq_less]
              exact (checkD_ent hd hsz hn (by omega) (entN_len (by omega)) (by decide)).symm
            ·
              try simp [-List.getD_eq_getElem?_getD] at hb82
              refine awpS_skip ?_
              refine awpS_seq ?_
              refine awpS_seq ?_
              refine awpS_regL ?_
              refine awpL_reg T_ok 4 fun K hK => ?_
              simp [hG, List.getD_cons_zero, List.getD_cons_succ, -List.getD_eq_getElem?_getD, pureOp, leq_less]
              refine hK _ ?_
              clear K hK
              refine awpL_call cal24 rfl rfl (fun _ => rfl) (fun hg => wcheck_c d.letters (d.ents.getD k den).win) (fun hg => ?_) (fun hg => ?_) fun K hK => ?_
              · simp [hG, List.getD_cons_zero, List.getD_cons_succ, -List.getD_eq_getElem?_getD, pureOp, leq_less]
              · simp [hG, List.getD_cons_zero, List.getD_cons_succ, -List.getD_eq_getElem?_getD, pureOp, leq_less]
              simp [hG, List.getD_cons_zero, List.getD_cons_succ, -List.getD_eq_getElem?_getD, pureOp, leq_less]
              refine hK _ ?_
              clear K hK
              refine awpL_reg T_ok 1 fun K hK => ?_
              simp [hG, List.getD_cons_zero, List.getD_cons_succ, -List.getD_eq_getElem?_getD, pureOp, leq_less]
              refine hK _ ?_
              clear K hK
              refine awpL_nil ?_
              refine awpS_seq ?_
              refine awpS_reg T_ok fun K hK => ?_
              simp [hG, List.getD_cons_zero, List.getD_cons_succ, -List.getD_eq_getElem?_getD, pureOp, leq_less]
              refine hK _ ?_
              clear K hK
              refine awpS_cond rfl (fun hb89 => ?_) (fun hb89 => ?_)
              ·
                try simp [-List.getD_eq_getElem?_getD] at hb89
                refine awpS_seq ?_
                refine awpS_reg T_ok fun K hK => ?_
                simp [hG, List.getD_cons_zero, List.getD_cons_succ, -List.getD_eq_getElem?_getD, pureOp, leq_less]
                refine hK _ ?_
                clear K hK
                refine awpS_ret ?_
                refine blockQ_ret (thenQ_ret ?_)
                refine thenQ_ret (thenQ_ret ?_)
                refine blockQ_ret (thenQ_ret ?_)
                refine RetOK_of ?_
                simp [hG, List.getD_cons_zero, List.getD_cons_succ, -List.getD_eq_getElem?_getD, pureOp, leq_less]
                exact (checkD_ent hd hsz hn (by omega) (entN_word (by omega) hb89) hb89).symm
              ·
                try simp [-List.getD_eq_getElem?_getD] at hb89
                refine awpS_skip ?_
                refine awpS_seq ?_
                refine awpS_seq ?_
                refine awpS_reg T_ok fun K hK => ?_
                simp [hG, List.getD_cons_zero, List.getD_cons_succ, -List.getD_eq_getElem?_getD, pureOp, leq_less]
                refine hK _ ?_
                clear K hK
                refine awpS_cond rfl (fun hb100 => ?_) (fun hb100 => ?_)
                ·
                  try simp [-List.getD_eq_getElem?_getD] at hb100
                  refine awpS_seq ?_
                  refine awpS_reg T_ok fun K hK => ?_
                  simp [hG, List.getD_cons_zero, List.getD_cons_succ, -List.getD_eq_getElem?_getD, pureOp, leq_less]
                  refine hK _ ?_
                  clear K hK
                  refine awpS_ret ?_
                  refine blockQ_ret (thenQ_ret ?_)
                  refine thenQ_ret (thenQ_ret ?_)
                  refine blockQ_ret (thenQ_ret ?_)
                  refine RetOK_of ?_
                  simp [hG, List.getD_cons_zero, List.getD_cons_succ, -List.getD_eq_getElem?_getD, pureOp, leq_less]
                  exact (checkD_ent hd hsz hn (by omega) (entN_inp (by omega) hb89 (by omega)) (by decide)).symm
                ·
                  try simp [-List.getD_eq_getElem?_getD] at hb100
                  refine awpS_skip ?_
                  refine awpS_seq ?_
                  refine awpS_draw hR mixed [] ⟨[], [], []⟩ fun mu0 => ?_
                  refine awpA_tk T_ok [0, 1, 2, 3, 4, 5, 6, 7, 8, 9, 10, 11, 12, 13] [] (fuel := 0) [13, 12, 11, 10, 9, 8, 7, 6, 5, 4, 3, 2, 1, 0] (by decide +kernel) (by decide +kernel) rfl rfl fun K hK => ?_
                  simp [hG, List.getD_cons_zero, List.getD_cons_succ, -List.getD_eq_getElem?_getD, pureOp, leq_less]
                  refine ⟨Cond.mk (by omega), hK _ ?_⟩
                  clear K hK
                  refine awpA_done (by decide +kernel) ?_
                  refine awpS_cond rfl (fun hb114 => ?_) (fun hb114 => ?_)
                  ·
                    try simp [-List.getD_eq_getElem?_getD] at hb114
                    refine awpS_seq ?_
                    refine awpS_reg T_ok fun K hK => ?_
                    simp [hG, List.getD_cons_zero, List.getD_cons_succ, -List.getD_eq_getElem?_getD, pureOp, leq_less]
                    refine hK _ ?_
                    clear K hK
                    refine awpS_ret ?_
                    refine blockQ_ret (thenQ_ret ?_)
                    refine thenQ_ret (thenQ_ret ?_)
                    refine blockQ_ret (thenQ_ret ?_)
                    refine RetOK_of ?_
                    simp [hG, List.getD_cons_zero, List.getD_cons_succ, -List.getD_eq_getElem?_getD, pureOp, leq_less]
                    exact (checkD_ent hd hsz hn (by omega) (entN_ord (by omega) hb89 (by omega) hb114) (by decide)).symm
                  ·
                    try simp [-List.getD_eq_getElem?_getD] at hb114
                    refine awpS_skip ?_
                    refine awpS_nil ?_
                    refine blockQ_norm (thenQ_norm ?_)
                    refine awpS_reg T_ok fun K hK => ?_
                    simp [hG, List.getD_cons_zero, List.getD_cons_succ, -List.getD_eq_getElem?_getD, pureOp, leq_less]
                    refine ⟨Cond.mk (by omega), hK _ ?_⟩
                    clear K hK
                    refine awpS_nil ?_
                    refine round_end (k + 1) (⟨by omega, step_all hn (entN_ok (by omega) (by omega) (by omega) (fun h => by have := hb114 h.1; rw [this] at h; cases h.2))⟩) (by omega) ?_
                    refine wk_of (id) (fun _ => false) (fun _ => false) ?_ ?_ rfl (Nat.zero_le _) (fun k hk => absurd hk (Nat.not_lt_zero _))
                    · simp [hG, List.getD_cons_zero, List.getD_cons_succ, -List.getD_eq_getElem?_getD, pureOp, leq_less]
                    · simp [hG, List.getD_cons_zero, List.getD_cons_succ, -List.getD_eq_getElem?_getD, pureOp, leq_less]
          ·
            try simp [-List.getD_eq_getElem?_getD] at hb66
            refine awpS_exit ?_
            refine thenQ_exit (thenQ_exit ?_)
            refine blockQ_exit (thenQ_norm ?_)
            refine awpS_seq ?_
            refine awpS_reg T_ok fun K hK => ?_
            simp [hG, List.getD_cons_zero, List.getD_cons_succ, -List.getD_eq_getElem?_getD, pureOp, leq_less]
            refine hK _ ?_
            clear K hK
            refine awpS_ret ?_
            refine RetOK_of ?_
            simp [hG, List.getD_cons_zero, List.getD_cons_succ, -List.getD_eq_getElem?_getD, pureOp, leq_less]
            exact (checkD_ok hd hsz (fun j hj => hn j (by omega))).symm

set_option maxRecDepth 100000 in
theorem find_c (d : Dec) (w : List UInt8) (hl : d.ents.length ≤ 65536) (ha : Asc d.ents) : PC Try.prog 46 [.agg 6 (decF d), .str w] (.tup 2 (fun j => [.int .i64 ((lookE d.ents w).getD 0), .bool (lookE d.ents w).isSome].getD j .any)) := by
  refine PC_introS T_ok Try.func46 rfl (by simp [Try.ntmps46]) fun G hG hR => ?_
  simp only [Try.ntmps46, Try.results46] at hG ⊢
  simp only [argEnv, Nat.zero_add, Nat.reduceAdd]
  refine awpS_seq ?_
  refine awpS_reg T_ok fun K hK => ?_
  simp [hG, List.getD_cons_zero, List.getD_cons_succ, -List.getD_eq_getElem?_getD]
  refine ⟨Cond.mk (by exact trivial), hK _ ?_⟩
  clear K hK
  refine awpS_seq ?_
  refine awpS_regL ?_
  refine awpL_reg T_ok 3 fun K hK => ?_
  simp [hG, List.getD_cons_zero, List.getD_cons_succ, -List.getD_eq_getElem?_getD]
  refine hK _ ?_
  clear K hK
  refine awpL_call cal63 rfl rfl (fun _ => rfl) (fun hg => bsearchE_c d.ents w (by omega) ha) (fun hg => ?_) (fun hg => ?_) fun K hK => ?_
  · simp [hG, List.getD_cons_zero, List.getD_cons_succ, -List.getD_eq_getElem?_getD]
  · simp [hG, List.getD_cons_zero, List.getD_cons_succ, -List.getD_eq_getElem?_getD]
  simp [hG, List.getD_cons_zero, List.getD_cons_succ, -List.getD_eq_getElem?_getD]
  refine hK _ ?_
  clear K hK
  refine awpL_reg T_ok 5 fun K hK => ?_
  simp [hG, List.getD_cons_zero, List.getD_cons_succ, -List.getD_eq_getElem?_getD]
  refine hK _ ?_
  clear K hK
  refine awpL_nil ?_
  refine awpS_seq ?_
  refine awpS_seq ?_
  refine awpS_reg T_ok fun K hK => ?_
  simp [hG, List.getD_cons_zero, List.getD_cons_succ, -List.getD_eq_getElem?_getD]
  refine hK _ ?_
  clear K hK
  refine awpS_cond rfl (fun hb16 => ?_) (fun hb16 => ?_)
  ·
    try simp [-List.getD_eq_getElem?_getD] at hb16
    refine awpS_seq ?_
    refine awpS_reg T_ok fun K hK => ?_
    simp [hG, List.getD_cons_zero, List.getD_cons_succ, -List.getD_eq_getElem?_getD]
    refine hK _ ?_
    clear K hK
    refine awpS_ret ?_
    refine RetOK_of ?_
    simp [hG, List.getD_cons_zero, List.getD_cons_succ, -List.getD_eq_getElem?_getD]
    simp [hb16]
  ·
    try simp [-List.getD_eq_getElem?_getD] at hb16
    rw [look_has ha] at hb16
    simp only [Bool.and_eq_true, decide_eq_true_eq] at hb16
    refine awpS_skip ?_
    refine awpS_seq ?_
    refine awpS_reg T_ok fun K hK => ?_
    simp [hG, List.getD_cons_zero, List.getD_cons_succ, -List.getD_eq_getElem?_getD]
    refine ⟨Cond.mk (by omega), hK _ ?_⟩
    clear K hK
    refine awpS_ret ?_
    refine RetOK_of ?_
    simp [hG, List.getD_cons_zero, List.getD_cons_succ, -List.getD_eq_getElem?_getD]
    rw [look_hit ha hb16.1 hb16.2]; exact ⟨rfl, rfl⟩

set_option maxRecDepth 100000 in
theorem known0_c (d : Dec) (w : List UInt8) : PC Try.prog 20 [.agg 6 (decF d), .str w] (.tup 2 (fun j => [.int .i64 (knownI d w), .int .i64 (knownN d w)].getD j .any)) := by
  refine PC_introS T_ok Try.func20 rfl (by simp [Try.ntmps20]) fun G hG hR => ?_
  simp only [Try.ntmps20, Try.results20] at hG ⊢
  simp only [argEnv, Nat.zero_add, Nat.reduceAdd]
  refine awpS_seq ?_
  refine awpS_reg T_ok fun K hK => ?_
  simp [hG, List.getD_cons_zero, List.getD_cons_succ, -List.getD_eq_getElem?_getD]
  refine ⟨Cond.mk (by exact trivial), hK _ ?_⟩
  clear K hK
  refine awpS_seq ?_
  refine awpS_seq ?_
  refine awpS_regL ?_
  refine awpL_reg T_ok 1 fun K hK => ?_
  simp [hG, List.getD_cons_zero, List.getD_cons_succ, -List.getD_eq_getElem?_getD]
  refine hK _ ?_
  clear K hK
  refine awpL_call cal22 rfl rfl (fun _ => rfl) (fun hg => checkD_c d) (fun hg => ?_) (fun hg => ?_) fun K hK => ?_
  · simp [hG, List.getD_cons_zero, List.getD_cons_succ, -List.getD_eq_getElem?_getD]
  · simp [hG, List.getD_cons_zero, List.getD_cons_succ, -List.getD_eq_getElem?_getD]
  simp [hG, List.getD_cons_zero, List.getD_cons_succ, -List.getD_eq_getElem?_getD]
  refine hK _ ?_
  clear K hK
  refine awpL_reg T_ok 1 fun K hK => ?_
  simp [hG, List.getD_cons_zero, List.getD_cons_succ, -List.getD_eq_getElem?_getD]
  refine hK _ ?_
  clear K hK
  refine awpL_nil ?_
  refine awpS_cond rfl (fun hb10 => ?_) (fun hb10 => ?_)
  ·
    try simp [-List.getD_eq_getElem?_getD] at hb10
    refine awpS_seq ?_
    refine awpS_reg T_ok fun K hK => ?_
    simp [hG, List.getD_cons_zero, List.getD_cons_succ, -List.getD_eq_getElem?_getD]
    refine hK _ ?_
    clear K hK
    refine awpS_ret ?_
    refine RetOK_of ?_
    simp [hG, List.getD_cons_zero, List.getD_cons_succ, -List.getD_eq_getElem?_getD]
    unfold knownI knownN; rw [if_pos hb10, if_pos hb10]; exact ⟨rfl, rfl⟩
  ·
    try simp [-List.getD_eq_getElem?_getD] at hb10
    have hv : checkD d = 0 := (by simpa using hb10)
    have hva := checkD_asc hv
    have hv2 := (checkD_valid hv).2.1
    refine awpS_skip ?_
    refine awpS_seq ?_
    refine awpS_regL ?_
    refine awpL_reg T_ok 2 fun K hK => ?_
    simp [hG, List.getD_cons_zero, List.getD_cons_succ, -List.getD_eq_getElem?_getD]
    refine hK _ ?_
    clear K hK
    refine awpL_call cal46 rfl rfl (fun _ => rfl) (fun hg => find_c d w hv2 hva) (fun hg => ?_) (fun hg => ?_) fun K hK => ?_
    · simp [hG, List.getD_cons_zero, List.getD_cons_succ, -List.getD_eq_getElem?_getD]
    · simp [hG, List.getD_cons_zero, List.getD_cons_succ, -List.getD_eq_getElem?_getD]
    simp [hG, List.getD_cons_zero, List.getD_cons_succ, -List.getD_eq_getElem?_getD]
    refine hK _ ?_
    clear K hK
    refine awpL_reg T_ok 5 fun K hK => ?_
    simp [hG, List.getD_cons_zero, List.getD_cons_succ, -List.getD_eq_getElem?_getD]
    refine hK _ ?_
    clear K hK
    refine awpL_nil ?_
    refine awpS_seq ?_
    refine awpS_seq ?_
    refine awpS_reg T_ok fun K hK => ?_
    simp [hG, List.getD_cons_zero, List.getD_cons_succ, -List.getD_eq_getElem?_getD]
    refine hK _ ?_
    clear K hK
    refine awpS_cond rfl (fun hb18 => ?_) (fun hb18 => ?_)
    ·
      try simp [-List.getD_eq_getElem?_getD] at hb18
      refine awpS_seq ?_
      refine awpS_reg T_ok fun K hK => ?_
      simp [hG, List.getD_cons_zero, List.getD_cons_succ, -List.getD_eq_getElem?_getD]
      refine hK _ ?_
      clear K hK
      refine awpS_ret ?_
      refine RetOK_of ?_
      simp [hG, List.getD_cons_zero, List.getD_cons_succ, -List.getD_eq_getElem?_getD]
      unfold knownI knownN; rw [if_neg (fun h => h hv), if_neg (fun h => h hv), hb18]; exact ⟨rfl, rfl⟩
    ·
      try simp [-List.getD_eq_getElem?_getD] at hb18
      refine awpS_skip ?_
      refine awpS_seq ?_
      refine awpS_reg T_ok fun K hK => ?_
      simp [hG, List.getD_cons_zero, List.getD_cons_succ, -List.getD_eq_getElem?_getD]
      refine hK _ ?_
      clear K hK
      refine awpS_ret ?_
      refine RetOK_of ?_
      simp [hG, List.getD_cons_zero, List.getD_cons_succ, -List.getD_eq_getElem?_getD]
      unfold knownI knownN; rw [if_neg (fun h => h hv), if_neg (fun h => h hv), if_pos hb18]; exact ⟨rfl, rfl⟩

set_option maxRecDepth 100000 in
theorem many_c (e : Enc) (n : Nat) (hv : checkE e = 0) (hn : n ≤ 16) : PC Try.prog 38 [.agg 4 (encF e), .int .i64 n] (.bool (manyB e n)) := by
  have hr := (checkE_valid hv).2.1
  have h64 := rows_len hv
  have hin := (checkE_valid hv).1.inputs
  refine PC_introS T_ok Try.func38 rfl (by simp [Try.ntmps38]) fun G hG hR => ?_
  simp only [Try.ntmps38, Try.results38] at hG ⊢
  simp only [argEnv, Nat.zero_add, Nat.reduceAdd]
  refine awpS_seq ?_
  refine awpS_reg T_ok fun K hK => ?_
  simp [hG, List.getD_cons_zero, List.getD_cons_succ, -List.getD_eq_getElem?_getD]
  refine ⟨Cond.mk (by exact trivial), hK _ ?_⟩
  clear K hK
  refine awpS_seq ?_
  refine awpS_reg T_ok fun K hK => ?_
  simp [hG, List.getD_cons_zero, List.getD_cons_succ, -List.getD_eq_getElem?_getD]
  refine hK _ ?_
  clear K hK
  refine awpS_seq ?_
  refine awpS_seq ?_
  refine awpS_reg T_ok fun K hK => ?_
  simp [hG, List.getD_cons_zero, List.getD_cons_succ, -List.getD_eq_getElem?_getD]
  refine hK _ ?_
  clear K hK
  refine awpS_block ?_
  refine awpS_loop (α := Nat) (fun i => ⟨[(2, .ptr (0, 0) 0 0), (5, .int .i64 (cntN e i : Nat)), (9, .int .i64 n), (10, .int .i64 i)], [(0, .one (.arr 1 4 (fun _ => encF e)))], 1⟩) (fun i => i ≤ n ∧ cntN e i ≤ 65536) (fun i => n - i) (0) (⟨Nat.zero_le _, by unfold cntN; simp; omega⟩) ?_ ?_
  ·
    refine wk_of (id) (fun _ => false) (fun _ => false) ?_ ?_ rfl (Nat.zero_le _) (fun k hk => absurd hk (Nat.not_lt_zero _))
    · simp [hG, List.getD_cons_zero, List.getD_cons_succ, -List.getD_eq_getElem?_getD]; unfold cntN; simp
    · simp [hG, List.getD_cons_zero, List.getD_cons_succ, -List.getD_eq_getElem?_getD]
  ·
    rintro i ⟨hi, hc⟩
    have hcs := cnt_succ (e := e) (i := i)
    have hmb := cnt_mul (e := e) hc hin
    refine awpS_seq ?_
    refine awpS_reg T_ok fun K hK => ?_
    simp [hG, List.getD_cons_zero, List.getD_cons_succ, -List.getD_eq_getElem?_getD]
    refine hK _ ?_
    clear K hK
    refine awpS_seq ?_
    refine awpS_cond rfl (fun hb11 => ?_) (fun hb11 => ?_)
    ·
      try simp [-List.getD_eq_getElem?_getD] at hb11
      refine awpS_skip ?_
      refine awpS_seq ?_
      refine awpS_block ?_
      refine awpS_seq ?_
      refine awpS_reg T_ok fun K hK => ?_
      simp [hG, List.getD_cons_zero, List.getD_cons_succ, -List.getD_eq_getElem?_getD]
      refine ⟨Cond.mk (by omega), hK _ ?_⟩
      clear K hK
      refine awpS_seq ?_
      refine awpS_reg T_ok fun K hK => ?_
      simp [hG, List.getD_cons_zero, List.getD_cons_succ, -List.getD_eq_getElem?_getD]
      refine hK _ ?_
      clear K hK
      refine awpS_cond rfl (fun hb17 => ?_) (fun hb17 => ?_)
      ·
        try simp [-List.getD_eq_getElem?_getD] at hb17
        refine awpS_seq ?_
        refine awpS_reg T_ok fun K hK => ?_
        simp [hG, List.getD_cons_zero, List.getD_cons_succ, -List.getD_eq_getElem?_getD]
        refine hK _ ?_
        clear K hK
        refine awpS_ret ?_
        refine blockQ_ret (thenQ_ret ?_)
        refine thenQ_ret (thenQ_ret ?_)
        refine blockQ_ret (thenQ_ret ?_)
        refine RetOK_of ?_
        simp [hG, List.getD_cons_zero, List.getD_cons_succ, -List.getD_eq_getElem?_getD]
        exact many_yes (n := n) hin.1 (i := i + 1) (by omega) (by have := hmb.1; omega)
      ·
        try simp [-List.getD_eq_getElem?_getD] at hb17
        refine awpS_skip ?_
        refine awpS_nil ?_
        refine blockQ_norm (thenQ_norm ?_)
        refine awpS_reg T_ok fun K hK => ?_
        simp [hG, List.getD_cons_zero, List.getD_cons_succ, -List.getD_eq_getElem?_getD]
        refine ⟨Cond.mk (by omega), hK _ ?_⟩
        clear K hK
        refine awpS_nil ?_
        refine round_end (i + 1) (⟨by omega, by omega⟩) (by omega) ?_
        refine wk_of (id) (fun _ => false) (fun _ => false) ?_ ?_ rfl (Nat.zero_le _) (fun k hk => absurd hk (Nat.not_lt_zero _))
        · simp [hG, List.getD_cons_zero, List.getD_cons_succ, -List.getD_eq_getElem?_getD]; exact hmb.1
        · simp [hG, List.getD_cons_zero, List.getD_cons_succ, -List.getD_eq_getElem?_getD]
    ·
      try simp [-List.getD_eq_getElem?_getD] at hb11
      refine awpS_exit ?_
      refine thenQ_exit (thenQ_exit ?_)
      refine blockQ_exit (thenQ_norm ?_)
      refine awpS_seq ?_
      refine awpS_reg T_ok fun K hK => ?_
      simp [hG, List.getD_cons_zero, List.getD_cons_succ, -List.getD_eq_getElem?_getD]
      refine hK _ ?_
      clear K hK
      refine awpS_ret ?_
      refine RetOK_of ?_
      simp [hG, List.getD_cons_zero, List.getD_cons_succ, -List.getD_eq_getElem?_getD]
      obtain rfl : i = n := (by omega); unfold manyB; simp only [decide_eq_decide]; omega

set_option maxRecDepth 100000 in
theorem sides_c (p f : Int) : PC Try.prog 44 [.int .i64 p, .int .i64 f] (.int .i64 (if badS p f then 2 else 0)) := by
  refine PC_introS T_ok Try.func44 rfl (by simp [Try.ntmps44]) fun G hG hR => ?_
  simp only [Try.ntmps44, Try.results44] at hG ⊢
  simp only [argEnv, Nat.zero_add, Nat.reduceAdd]
  refine awpS_seq ?_
  refine awpS_reg T_ok fun K hK => ?_
  simp [hG, List.getD_cons_zero, List.getD_cons_succ, -List.getD_eq_getElem?_getD, pureOp]
  refine hK _ ?_
  clear K hK
  refine awpS_seq ?_
  refine awpS_seq ?_
  refine awpS_reg T_ok fun K hK => ?_
  simp [hG, List.getD_cons_zero, List.getD_cons_succ, -List.getD_eq_getElem?_getD, pureOp]
  refine ⟨Cond.mk (by omega), hK _ ?_⟩
  clear K hK
  refine awpS_cond rfl (fun hb25 => ?_) (fun hb25 => ?_)
  ·
    try simp [-List.getD_eq_getElem?_getD] at hb25
    refine awpS_seq ?_
    refine awpS_reg T_ok fun K hK => ?_
    simp [hG, List.getD_cons_zero, List.getD_cons_succ, -List.getD_eq_getElem?_getD, pureOp]
    refine hK _ ?_
    clear K hK
    refine awpS_ret ?_
    refine RetOK_of ?_
    simp [hG, List.getD_cons_zero, List.getD_cons_succ, -List.getD_eq_getElem?_getD, pureOp]
    unfold badS; omega
  ·
    try simp [-List.getD_eq_getElem?_getD] at hb25
    refine awpS_skip ?_
    refine awpS_seq ?_
    refine awpS_reg T_ok fun K hK => ?_
    simp [hG, List.getD_cons_zero, List.getD_cons_succ, -List.getD_eq_getElem?_getD, pureOp]
    refine hK _ ?_
    clear K hK
    refine awpS_ret ?_
    refine RetOK_of ?_
    simp [hG, List.getD_cons_zero, List.getD_cons_succ, -List.getD_eq_getElem?_getD, pureOp]
    unfold badS; omega

set_option maxRecDepth 100000 in
theorem checkDR_c (d : Dec) : PC Try.prog 17 [.agg 6 (decF d)] (.int .i64 (checkD d)) := by
  refine PC_introS T_ok Try.func17 rfl (by simp [Try.ntmps17]) fun G hG hR => ?_
  simp only [Try.ntmps17, Try.results17] at hG ⊢
  simp only [argEnv, Nat.zero_add, Nat.reduceAdd]
  refine awpS_seq ?_
  refine awpS_reg T_ok fun K hK => ?_
  simp [hG, List.getD_cons_zero, List.getD_cons_succ, -List.getD_eq_getElem?_getD, pureOp, leq_less]
  refine ⟨Cond.mk (by exact trivial), hK _ ?_⟩
  clear K hK
  refine awpS_seq ?_
  refine awpS_seq ?_
  refine awpS_reg T_ok fun K hK => ?_
  simp [hG, List.getD_cons_zero, List.getD_cons_succ, -List.getD_eq_getElem?_getD, pureOp, leq_less]
  refine hK _ ?_
  clear K hK
  refine awpS_cond rfl (fun hb13 => ?_) (fun hb13 => ?_)
  ·
    try simp [-List.getD_eq_getElem?_getD] at hb13
    refine awpS_seq ?_
    refine awpS_reg T_ok fun K hK => ?_
    simp [hG, List.getD_cons_zero, List.getD_cons_succ, -List.getD_eq_getElem?_getD, pureOp, leq_less]
    refine hK _ ?_
    clear K hK
    refine awpS_ret ?_
    refine RetOK_of ?_
    simp [hG, List.getD_cons_zero, List.getD_cons_succ, -List.getD_eq_getElem?_getD, pureOp, leq_less]
    exact (checkD_letters (by omega)).symm
  ·
    try simp [-List.getD_eq_getElem?_getD] at hb13
    refine awpS_skip ?_
    refine awpS_seq ?_
    refine awpS_seq ?_
    refine awpS_regL ?_
    refine awpL_reg T_ok 23 fun K hK => ?_
    simp [hG, List.getD_cons_zero, List.getD_cons_succ, -List.getD_eq_getElem?_getD, pureOp, leq_less]
    refine hK _ ?_
    clear K hK
    refine awpL_call cal44 rfl rfl (fun _ => rfl) (fun hg => sides_c d.past d.future) (fun hg => ?_) (fun hg => ?_) fun K hK => ?_
    · first | (simp [hG, List.getD_cons_zero, List.getD_cons_succ, -List.getD_eq_getElem?_getD, pureOp, leq_less]; done) | (simp [-List.getD_eq_getElem?_getD] at hg; done) | (simp [-List.getD_eq_getElem?_getD] at hg; simp [hG, List.getD_cons_zero, List.getD_cons_succ, -List.getD_eq_getElem?_getD, pureOp, leq_less]; first | omega | exact hg | (simp_all [-List.getD_eq_getElem?_getD]; done) | (simp_all [-List.getD_eq_getElem?_getD]; first | exact ⟨rfl, rfl⟩ | exact rfl))
    · first | (simp [hG, List.getD_cons_zero, List.getD_cons_succ, -List.getD_eq_getElem?_getD, pureOp, leq_less]; done) | (simp [-List.getD_eq_getElem?_getD] at hg; done) | (simp [-List.getD_eq_getElem?_getD] at hg; simp [hG, List.getD_cons_zero, List.getD_cons_succ, -List.getD_eq_getElem?_getD, pureOp, leq_less]; first | omega | exact hg | (simp_all [-List.getD_eq_getElem?_getD]; done) | (simp_all [-List.getD_eq_getElem?_getD]; first | exact ⟨rfl, rfl⟩ | exact rfl))
    simp [hG, List.getD_cons_zero, List.getD_cons_succ, -List.getD_eq_getElem?_getD, pureOp, leq_less]
    refine hK _ ?_
    clear K hK
    refine awpL_reg T_ok 2 fun K hK => ?_
    simp [hG, List.getD_cons_zero, List.getD_cons_succ, -List.getD_eq_getElem?_getD, pureOp, leq_less]
    refine hK _ ?_
    clear K hK
    refine awpL_nil ?_
    refine awpS_cond rfl (fun hb39 => ?_) (fun hb39 => ?_)
    ·
      try simp [-List.getD_eq_getElem?_getD] at hb39
      refine awpS_seq ?_
      refine awpS_reg T_ok fun K hK => ?_
      simp [hG, List.getD_cons_zero, List.getD_cons_succ, -List.getD_eq_getElem?_getD, pureOp, leq_less]
      refine hK _ ?_
      clear K hK
      refine awpS_ret ?_
      refine RetOK_of ?_
      simp [hG, List.getD_cons_zero, List.getD_cons_succ, -List.getD_eq_getElem?_getD, pureOp, leq_less]
      exact (checkD_range hb13 (by by_cases hs : badS d.past d.future; exact .inr (.inr hs); simp only [hs, or_false] at hb39; omega)).symm
    ·
      try simp [-List.getD_eq_getElem?_getD] at hb39
      refine awpS_skip ?_
      refine awpS_seq ?_
      refine awpS_seq ?_
      refine awpS_reg T_ok fun K hK => ?_
      simp [hG, List.getD_cons_zero, List.getD_cons_succ, -List.getD_eq_getElem?_getD, pureOp, leq_less]
      refine hK _ ?_
      clear K hK
      refine awpS_cond rfl (fun hb43 => ?_) (fun hb43 => ?_)
      ·
        try simp [-List.getD_eq_getElem?_getD] at hb43
        refine awpS_seq ?_
        refine awpS_reg T_ok fun K hK => ?_
        simp [hG, List.getD_cons_zero, List.getD_cons_succ, -List.getD_eq_getElem?_getD, pureOp, leq_less]
        refine hK _ ?_
        clear K hK
        refine awpS_ret ?_
        refine RetOK_of ?_
        simp [hG, List.getD_cons_zero, List.getD_cons_succ, -List.getD_eq_getElem?_getD, pureOp, leq_less]
        exact (checkD_limit ⟨by omega, by omega, by omega, hb39.2⟩ (by omega)).symm
      ·
        try simp [-List.getD_eq_getElem?_getD] at hb43
        have hd : DDims d := ⟨by omega, by omega, by omega, hb39.2⟩
        have hsz : d.ents.length ≤ 65536 := (by omega)
        have hss := not_badS hd.sides
        have hbk := hd.block
        have hwn := winN_bd hd
        unfold winN at hwn
        refine awpS_skip ?_
        refine awpS_seq ?_
        refine awpS_seq ?_
        refine awpS_reg T_ok fun K hK => ?_
        simp [hG, List.getD_cons_zero, List.getD_cons_succ, -List.getD_eq_getElem?_getD, pureOp, leq_less]
        refine hK _ ?_
        clear K hK
        refine awpS_block ?_
        refine awpS_loop (α := Nat) (fun k => ⟨[(1, .ptr (0, 0) 0 0), (3, .int .i64 k)], [(0, .one (.arr 1 6 (fun _ => decF d)))], 1⟩) (fun k => k ≤ d.ents.length ∧ ∀ j, j < k → entN d j = 0) (fun k => d.ents.length - k) (0) (⟨Nat.zero_le _, fun j hj => absurd hj (Nat.not_lt_zero _)⟩) ?_ ?_
        ·
          refine wk_of (id) (fun _ => false) (fun _ => false) ?_ ?_ rfl (Nat.zero_le _) (fun k hk => absurd hk (Nat.not_lt_zero _))
          · simp [hG, List.getD_cons_zero, List.getD_cons_succ, -List.getD_eq_getElem?_getD, pureOp, leq_less]
          · simp [hG, List.getD_cons_zero, List.getD_cons_succ, -List.getD_eq_getElem?_getD, pureOp, leq_less]
        ·
          rintro k ⟨hk, hn⟩
          refine awpS_seq ?_
          refine awpS_seq ?_
          refine awpS_reg T_ok fun K hK => ?_
          simp [hG, List.getD_cons_zero, List.getD_cons_succ, -List.getD_eq_getElem?_getD, pureOp, leq_less]
          refine hK _ ?_
          clear K hK
          refine awpS_cond rfl (fun hb48 => ?_) (fun hb48 => ?_)
          ·
            try simp [-List.getD_eq_getElem?_getD] at hb48
            refine awpS_skip ?_
            refine awpS_seq ?_
            refine awpS_block ?_
            refine awpS_seq ?_
            refine awpS_reg T_ok fun K hK => ?_
            simp [hG, List.getD_cons_zero, List.getD_cons_succ, -List.getD_eq_getElem?_getD, pureOp, leq_less]
            refine ⟨Cond.mk (by simp [-List.getD_eq_getElem?_getD]; omega), hK _ ?_⟩
            clear K hK
            refine awpS_seq ?_
            refine awpS_seq ?_
            refine awpS_reg T_ok fun K hK => ?_
            simp [hG, List.getD_cons_zero, List.getD_cons_succ, -List.getD_eq_getElem?_getD, pureOp, leq_less]
            refine ⟨Cond.mk (by omega), hK _ ?_⟩
            clear K hK
            refine awpS_cond rfl (fun hb68 => ?_) (fun hb68 => ?_)
            ·
              try simp [-List.getD_eq_getElem?_getD] at hb68
              refine awpS_seq ?_
              refine awpS_reg T_ok fun K hK => ?_
              simp [hG, List.getD_cons_zero, List.getD_cons_succ, -List.getD_eq_getElem?_getD, pureOp, leq_less]
              refine hK _ ?_
              clear K hK
              refine awpS_ret ?_
              refine blockQ_ret (thenQ_ret ?_)
              refine thenQ_ret (thenQ_ret ?_)
              refine blockQ_ret (thenQ_ret ?_)
              refine RetOK_of ?_
              simp [hG, List.getD_cons_zero, List.getD_cons_succ, -List.getD_eq_getElem?_getD, pureOp, leq_less]
              exact (checkD_ent hd hsz hn (by omega) (entN_len (by omega)) (by decide)).symm
            ·
              try simp [-List.getD_eq_getElem?_getD] at hb68
              refine awpS_skip ?_
              refine awpS_seq ?_
              refine awpS_seq ?_
              refine awpS_regL ?_
              refine awpL_reg T_ok 4 fun K hK => ?_
              simp [hG, List.getD_cons_zero, List.getD_cons_succ, -List.getD_eq_getElem?_getD, pureOp, leq_less]
              refine hK _ ?_
              clear K hK
              refine awpL_call cal45 rfl rfl (fun _ => rfl) (fun hg => wcheckR_c d.letters (d.ents.getD k den).win) (fun hg => ?_) (fun hg => ?_) fun K hK => ?_
              · simp [hG, List.getD_cons_zero, List.getD_cons_succ, -List.getD_eq_getElem?_getD, pureOp, leq_less]
              · simp [hG, List.getD_cons_zero, List.getD_cons_succ, -List.getD_eq_getElem?_getD, pureOp, leq_less]
              simp [hG, List.getD_cons_zero, List.getD_cons_succ, -List.getD_eq_getElem?_getD, pureOp, leq_less]
              refine hK _ ?_
              clear K hK
              refine awpL_reg T_ok 1 fun K hK => ?_
              simp [hG, List.getD_cons_zero, List.getD_cons_succ, -List.getD_eq_getElem?_getD, pureOp, leq_less]
              refine hK _ ?_
              clear K hK
              refine awpL_nil ?_
              refine awpS_seq ?_
              refine awpS_reg T_ok fun K hK => ?_
              simp [hG, List.getD_cons_zero, List.getD_cons_succ, -List.getD_eq_getElem?_getD, pureOp, leq_less]
              refine hK _ ?_
              clear K hK
              refine awpS_cond rfl (fun hb75 => ?_) (fun hb75 => ?_)
              ·
                try simp [-List.getD_eq_getElem?_getD] at hb75
                refine awpS_seq ?_
                refine awpS_reg T_ok fun K hK => ?_
                simp [hG, List.getD_cons_zero, List.getD_cons_succ, -List.getD_eq_getElem?_getD, pureOp, leq_less]
                refine hK _ ?_
                clear K hK
                refine awpS_ret ?_
                refine blockQ_ret (thenQ_ret ?_)
                refine thenQ_ret (thenQ_ret ?_)
                refine blockQ_ret (thenQ_ret ?_)
                refine RetOK_of ?_
                simp [hG, List.getD_cons_zero, List.getD_cons_succ, -List.getD_eq_getElem?_getD, pureOp, leq_less]
                exact (checkD_ent hd hsz hn (by omega) (entN_word (by omega) hb75) hb75).symm
              ·
                try simp [-List.getD_eq_getElem?_getD] at hb75
                refine awpS_skip ?_
                refine awpS_seq ?_
                refine awpS_seq ?_
                refine awpS_reg T_ok fun K hK => ?_
                simp [hG, List.getD_cons_zero, List.getD_cons_succ, -List.getD_eq_getElem?_getD, pureOp, leq_less]
                refine hK _ ?_
                clear K hK
                refine awpS_cond rfl (fun hb86 => ?_) (fun hb86 => ?_)
                ·
                  try simp [-List.getD_eq_getElem?_getD] at hb86
                  refine awpS_seq ?_
                  refine awpS_reg T_ok fun K hK => ?_
                  simp [hG, List.getD_cons_zero, List.getD_cons_succ, -List.getD_eq_getElem?_getD, pureOp, leq_less]
                  refine hK _ ?_
                  clear K hK
                  refine awpS_ret ?_
                  refine blockQ_ret (thenQ_ret ?_)
                  refine thenQ_ret (thenQ_ret ?_)
                  refine blockQ_ret (thenQ_ret ?_)
                  refine RetOK_of ?_
                  simp [hG, List.getD_cons_zero, List.getD_cons_succ, -List.getD_eq_getElem?_getD, pureOp, leq_less]
                  exact (checkD_ent hd hsz hn (by omega) (entN_inp (by omega) hb75 (by omega)) (by decide)).symm
                ·
                  try simp [-List.getD_eq_getElem?_getD] at hb86
                  refine awpS_skip ?_
                  refine awpS_seq ?_
                  refine awpS_draw hR mixed [] ⟨[], [], []⟩ fun mu0 => ?_
                  refine awpA_tk T_ok [0, 1, 2, 3, 4, 5, 6, 7, 8, 9, 10, 11, 12, 13] [] (fuel := 0) [13, 12, 11, 10, 9, 8, 7, 6, 5, 4, 3, 2, 1, 0] (by decide +kernel) (by decide +kernel) rfl rfl fun K hK => ?_
                  simp [hG, List.getD_cons_zero, List.getD_cons_succ, -List.getD_eq_getElem?_getD, pureOp, leq_less]
                  refine ⟨Cond.mk (by omega), hK _ ?_⟩
                  clear K hK
                  refine awpA_done (by decide +kernel) ?_
                  refine awpS_cond rfl (fun hb100 => ?_) (fun hb100 => ?_)
                  ·
                    try simp [-List.getD_eq_getElem?_getD] at hb100
                    refine awpS_seq ?_
                    refine awpS_reg T_ok fun K hK => ?_
                    simp [hG, List.getD_cons_zero, List.getD_cons_succ, -List.getD_eq_getElem?_getD, pureOp, leq_less]
                    refine hK _ ?_
                    clear K hK
                    refine awpS_ret ?_
                    refine blockQ_ret (thenQ_ret ?_)
                    refine thenQ_ret (thenQ_ret ?_)
                    refine blockQ_ret (thenQ_ret ?_)
                    refine RetOK_of ?_
                    simp [hG, List.getD_cons_zero, List.getD_cons_succ, -List.getD_eq_getElem?_getD, pureOp, leq_less]
                    exact (checkD_ent hd hsz hn (by omega) (entN_ord (by omega) hb75 (by omega) hb100) (by decide)).symm
                  ·
                    try simp [-List.getD_eq_getElem?_getD] at hb100
                    refine awpS_skip ?_
                    refine awpS_nil ?_
                    refine blockQ_norm (thenQ_norm ?_)
                    refine awpS_reg T_ok fun K hK => ?_
                    simp [hG, List.getD_cons_zero, List.getD_cons_succ, -List.getD_eq_getElem?_getD, pureOp, leq_less]
                    refine ⟨Cond.mk (by omega), hK _ ?_⟩
                    clear K hK
                    refine awpS_nil ?_
                    refine round_end (k + 1) (⟨by omega, step_all hn (entN_ok (by omega) (by omega) (by omega) (fun h => by have := hb100 h.1; rw [this] at h; cases h.2))⟩) (by omega) ?_
                    refine wk_of (id) (fun _ => false) (fun _ => false) ?_ ?_ rfl (Nat.zero_le _) (fun k hk => absurd hk (Nat.not_lt_zero _))
                    · simp [hG, List.getD_cons_zero, List.getD_cons_succ, -List.getD_eq_getElem?_getD, pureOp, leq_less]
                    · simp [hG, List.getD_cons_zero, List.getD_cons_succ, -List.getD_eq_getElem?_getD, pureOp, leq_less]
          ·
            try simp [-List.getD_eq_getElem?_getD] at hb48
            refine awpS_exit ?_
            refine thenQ_exit (thenQ_exit ?_)
            refine blockQ_exit (thenQ_norm ?_)
            refine awpS_seq ?_
            refine awpS_reg T_ok fun K hK => ?_
            simp [hG, List.getD_cons_zero, List.getD_cons_succ, -List.getD_eq_getElem?_getD, pureOp, leq_less]
            refine hK _ ?_
            clear K hK
            refine awpS_ret ?_
            refine RetOK_of ?_
            simp [hG, List.getD_cons_zero, List.getD_cons_succ, -List.getD_eq_getElem?_getD, pureOp, leq_less]
            exact (checkD_ok hd hsz (fun j hj => hn j (by omega))).symm

set_option maxRecDepth 100000 in
theorem place_c (l : List Ent) (w : List UInt8) (hl : l.length ≤ 1000000) (ha : Asc l) : PC Try.prog 47 [ents l, .str w] (.int .i64 (lowE l w : Nat)) := by
  refine PC_introS T_ok Try.func47 rfl (by simp [Try.ntmps47]) fun G hG hR => ?_
  simp only [Try.ntmps47, Try.results47] at hG ⊢
  simp only [argEnv, Nat.zero_add, Nat.reduceAdd]
  refine awpS_seq ?_
  refine awpS_reg T_ok fun K hK => ?_
  simp [hG, List.getD_cons_zero, List.getD_cons_succ, -List.getD_eq_getElem?_getD, half_nat]
  refine hK _ ?_
  clear K hK
  refine awpS_seq ?_
  refine awpS_reg T_ok fun K hK => ?_
  simp [hG, List.getD_cons_zero, List.getD_cons_succ, -List.getD_eq_getElem?_getD, half_nat]
  refine hK _ ?_
  clear K hK
  refine awpS_seq ?_
  refine awpS_block ?_
  refine awpS_loop (α := Nat × Nat) (fun p => ⟨[(0, ents l), (1, .str w), (5, .int .i64 p.1), (6, .int .i64 p.2)], [], 0⟩) (fun p => Bis l w p.1 p.2) (fun p => p.2 - p.1) ((0, l.length)) (Bis.zero) ?_ ?_
  ·
    refine wk_of (id) (fun _ => false) (fun _ => false) ?_ ?_ rfl (Nat.zero_le _) (fun k hk => absurd hk (Nat.not_lt_zero _))
    · simp [hG, List.getD_cons_zero, List.getD_cons_succ, -List.getD_eq_getElem?_getD, half_nat]
    · simp [hG, List.getD_cons_zero, List.getD_cons_succ, -List.getD_eq_getElem?_getD, half_nat]
  ·
    rintro ⟨i, j⟩ hB
    simp only at hB
    have hle := hB.le
    have hlen := hB.len
    refine awpS_seq ?_
    refine awpS_seq ?_
    refine awpS_reg T_ok fun K hK => ?_
    simp [hG, List.getD_cons_zero, List.getD_cons_succ, -List.getD_eq_getElem?_getD, half_nat]
    refine hK _ ?_
    clear K hK
    refine awpS_cond rfl (fun hb12 => ?_) (fun hb12 => ?_)
    ·
      try simp [-List.getD_eq_getElem?_getD] at hb12
      refine awpS_skip ?_
      refine awpS_block ?_
      refine awpS_seq ?_
      refine awpS_reg T_ok fun K hK => ?_
      simp [hG, List.getD_cons_zero, List.getD_cons_succ, -List.getD_eq_getElem?_getD, half_nat]
      refine ⟨Cond.mk (by omega), hK _ ?_⟩
      clear K hK
      refine awpS_seq ?_
      refine awpS_reg T_ok fun K hK => ?_
      simp [hG, List.getD_cons_zero, List.getD_cons_succ, -List.getD_eq_getElem?_getD, half_nat]
      refine ⟨Cond.mk (by omega), hK _ ?_⟩
      clear K hK
      refine awpS_cond rfl (fun hb23 => ?_) (fun hb23 => ?_)
      ·
        try simp [-List.getD_eq_getElem?_getD] at hb23
        refine awpS_reg T_ok fun K hK => ?_
        simp [hG, List.getD_cons_zero, List.getD_cons_succ, -List.getD_eq_getElem?_getD, half_nat]
        refine ⟨Cond.mk (by omega), hK _ ?_⟩
        clear K hK
        refine awpS_nil ?_
        refine blockQ_norm (thenQ_norm ?_)
        refine awpS_nil ?_
        refine round_end (((i + j) / 2 + 1, j)) (hB.up ha (by omega) (by unfold lessE; simpa using hb23) (by omega)) (by simp only; omega) ?_
        refine wk_of (id) (fun _ => false) (fun _ => false) ?_ ?_ rfl (Nat.zero_le _) (fun k hk => absurd hk (Nat.not_lt_zero _))
        · simp [hG, List.getD_cons_zero, List.getD_cons_succ, -List.getD_eq_getElem?_getD, half_nat]
        · simp [hG, List.getD_cons_zero, List.getD_cons_succ, -List.getD_eq_getElem?_getD, half_nat]
      ·
        try simp [-List.getD_eq_getElem?_getD] at hb23
        refine awpS_reg T_ok fun K hK => ?_
        simp [hG, List.getD_cons_zero, List.getD_cons_succ, -List.getD_eq_getElem?_getD, half_nat]
        refine hK _ ?_
        clear K hK
        refine awpS_nil ?_
        refine blockQ_norm (thenQ_norm ?_)
        refine awpS_nil ?_
        refine round_end ((i, (i + j) / 2)) (hB.down ha (by omega) (by unfold lessE; simpa using hb23) (by omega)) (by simp only; omega) ?_
        refine wk_of (id) (fun _ => false) (fun _ => false) ?_ ?_ rfl (Nat.zero_le _) (fun k hk => absurd hk (Nat.not_lt_zero _))
        · simp [hG, List.getD_cons_zero, List.getD_cons_succ, -List.getD_eq_getElem?_getD, half_nat]
        · simp [hG, List.getD_cons_zero, List.getD_cons_succ, -List.getD_eq_getElem?_getD, half_nat]
    ·
      try simp [-List.getD_eq_getElem?_getD] at hb12
      have hfin := hB.fin (by omega)
      refine awpS_exit ?_
      refine thenQ_exit (thenQ_exit ?_)
      refine blockQ_exit (thenQ_norm ?_)
      refine awpS_seq ?_
      refine awpS_reg T_ok fun K hK => ?_
      simp [hG, List.getD_cons_zero, List.getD_cons_succ, -List.getD_eq_getElem?_getD, half_nat]
      refine hK _ ?_
      clear K hK
      refine awpS_ret ?_
      refine RetOK_of ?_
      simp [hG, List.getD_cons_zero, List.getD_cons_succ, -List.getD_eq_getElem?_getD, half_nat]
      subst hfin; rfl

set_option maxRecDepth 100000 in
theorem knownR_c (d : Dec) (w : List UInt8) : PC Try.prog 21 [.agg 6 (decF d), .str w] (.tup 2 (fun j => [.int .i64 (knownI d w), .int .i64 (knownN d w)].getD j .any)) := by
  refine PC_introS T_ok Try.func21 rfl (by simp [Try.ntmps21]) fun G hG hR => ?_
  simp only [Try.ntmps21, Try.results21] at hG ⊢
  simp only [argEnv, Nat.zero_add, Nat.reduceAdd]
  refine awpS_seq ?_
  refine awpS_reg T_ok fun K hK => ?_
  simp [hG, List.getD_cons_zero, List.getD_cons_succ, -List.getD_eq_getElem?_getD, pureOp]
  refine ⟨Cond.mk (by exact trivial), hK _ ?_⟩
  clear K hK
  refine awpS_seq ?_
  refine awpS_seq ?_
  refine awpS_regL ?_
  refine awpL_reg T_ok 1 fun K hK => ?_
  simp [hG, List.getD_cons_zero, List.getD_cons_succ, -List.getD_eq_getElem?_getD, pureOp]
  refine hK _ ?_
  clear K hK
  refine awpL_call cal17 rfl rfl (fun _ => rfl) (fun hg => checkDR_c d) (fun hg => ?_) (fun hg => ?_) fun K hK => ?_
  · simp [hG, List.getD_cons_zero, List.getD_cons_succ, -List.getD_eq_getElem?_getD, pureOp]
  · simp [hG, List.getD_cons_zero, List.getD_cons_succ, -List.getD_eq_getElem?_getD, pureOp]
  simp [hG, List.getD_cons_zero, List.getD_cons_succ, -List.getD_eq_getElem?_getD, pureOp]
  refine hK _ ?_
  clear K hK
  refine awpL_reg T_ok 1 fun K hK => ?_
  simp [hG, List.getD_cons_zero, List.getD_cons_succ, -List.getD_eq_getElem?_getD, pureOp]
  refine hK _ ?_
  clear K hK
  refine awpL_nil ?_
  refine awpS_cond rfl (fun hb9 => ?_) (fun hb9 => ?_)
  ·
    try simp [-List.getD_eq_getElem?_getD] at hb9
    refine awpS_seq ?_
    refine awpS_reg T_ok fun K hK => ?_
    simp [hG, List.getD_cons_zero, List.getD_cons_succ, -List.getD_eq_getElem?_getD, pureOp]
    refine hK _ ?_
    clear K hK
    refine awpS_ret ?_
    refine RetOK_of ?_
    simp [hG, List.getD_cons_zero, List.getD_cons_succ, -List.getD_eq_getElem?_getD, pureOp]
    unfold knownI knownN; rw [if_pos hb9, if_pos hb9]; exact ⟨rfl, rfl⟩
  ·
    try simp [-List.getD_eq_getElem?_getD] at hb9
    have hv : checkD d = 0 := (by simpa using hb9)
    have hva := checkD_asc hv
    have hv2 := (checkD_valid hv).2.1
    refine awpS_skip ?_
    refine awpS_seq ?_
    refine awpS_seq ?_
    refine awpS_regL ?_
    refine awpL_reg T_ok 3 fun K hK => ?_
    simp [hG, List.getD_cons_zero, List.getD_cons_succ, -List.getD_eq_getElem?_getD, pureOp]
    refine hK _ ?_
    clear K hK
    refine awpL_call cal47 rfl rfl (fun _ => rfl) (fun hg => place_c d.ents w (by omega) hva) (fun hg => ?_) (fun hg => ?_) fun K hK => ?_
    · simp [hG, List.getD_cons_zero, List.getD_cons_succ, -List.getD_eq_getElem?_getD, pureOp]
    · simp [hG, List.getD_cons_zero, List.getD_cons_succ, -List.getD_eq_getElem?_getD, pureOp]
    simp [hG, List.getD_cons_zero, List.getD_cons_succ, -List.getD_eq_getElem?_getD, pureOp]
    refine hK _ ?_
    clear K hK
    refine awpL_reg T_ok 1 fun K hK => ?_
    simp [hG, List.getD_cons_zero, List.getD_cons_succ, -List.getD_eq_getElem?_getD, pureOp]
    refine hK _ ?_
    clear K hK
    refine awpL_nil ?_
    refine awpS_seq ?_
    refine awpS_reg T_ok fun K hK => ?_
    simp [hG, List.getD_cons_zero, List.getD_cons_succ, -List.getD_eq_getElem?_getD, pureOp]
    refine hK _ ?_
    clear K hK
    refine awpS_cond rfl (fun hb28 => ?_) (fun hb28 => ?_)
    ·
      try simp [-List.getD_eq_getElem?_getD] at hb28
      refine awpS_seq ?_
      refine awpS_reg T_ok fun K hK => ?_
      simp [hG, List.getD_cons_zero, List.getD_cons_succ, -List.getD_eq_getElem?_getD, pureOp]
      refine ⟨Cond.mk (by omega), hK _ ?_⟩
      clear K hK
      refine awpS_ret ?_
      refine RetOK_of ?_
      simp [hG, List.getD_cons_zero, List.getD_cons_succ, -List.getD_eq_getElem?_getD, pureOp]
      have hlh := look_hit hva hb28.1 hb28.2; unfold knownI knownN; rw [if_neg (fun h => h hv), if_neg (fun h => h hv), hlh]; exact ⟨rfl, rfl⟩
    ·
      try simp [-List.getD_eq_getElem?_getD] at hb28
      refine awpS_skip ?_
      refine awpS_seq ?_
      refine awpS_reg T_ok fun K hK => ?_
      simp [hG, List.getD_cons_zero, List.getD_cons_succ, -List.getD_eq_getElem?_getD, pureOp]
      refine hK _ ?_
      clear K hK
      refine awpS_ret ?_
      refine RetOK_of ?_
      simp [hG, List.getD_cons_zero, List.getD_cons_succ, -List.getD_eq_getElem?_getD, pureOp]
      have hlm := look_miss hva (w := w) (fun h => hb28 h.1 h.2); unfold knownI knownN; rw [if_neg (fun h => h hv), if_neg (fun h => h hv), hlm]; exact ⟨rfl, rfl⟩

set_option maxRecDepth 100000 in
theorem manyR_c (e : Enc) (n : Nat) (hv : checkE e = 0) (hn : n ≤ 16) : PC Try.prog 50 [.agg 4 (encF e), .int .i64 n] (.bool (!manyB e n)) := by
  have hr := (checkE_valid hv).2.1
  have h64 := rows_len hv
  have hin := (checkE_valid hv).1.inputs
  refine PC_introS T_ok Try.func50 rfl (by simp [Try.ntmps50]) fun G hG hR => ?_
  simp only [Try.ntmps50, Try.results50] at hG ⊢
  simp only [argEnv, Nat.zero_add, Nat.reduceAdd]
  refine awpS_seq ?_
  refine awpS_reg T_ok fun K hK => ?_
  simp [hG, List.getD_cons_zero, List.getD_cons_succ, -List.getD_eq_getElem?_getD]
  refine ⟨Cond.mk (by exact trivial), hK _ ?_⟩
  clear K hK
  refine awpS_seq ?_
  refine awpS_reg T_ok fun K hK => ?_
  simp [hG, List.getD_cons_zero, List.getD_cons_succ, -List.getD_eq_getElem?_getD]
  refine hK _ ?_
  clear K hK
  refine awpS_seq ?_
  refine awpS_seq ?_
  refine awpS_reg T_ok fun K hK => ?_
  simp [hG, List.getD_cons_zero, List.getD_cons_succ, -List.getD_eq_getElem?_getD]
  refine hK _ ?_
  clear K hK
  refine awpS_block ?_
  refine awpS_loop (α := Nat) (fun i => ⟨[(1, .int .i64 n), (2, .ptr (0, 0) 0 0), (5, .int .i64 (cntN e i : Nat)), (6, .int .i64 i)], [(0, .one (.arr 1 4 (fun _ => encF e)))], 1⟩) (fun i => i ≤ n ∧ cntN e i ≤ 65536) (fun i => n - i) (0) (⟨Nat.zero_le _, by unfold cntN; simp; omega⟩) ?_ ?_
  ·
    refine wk_of (id) (fun _ => false) (fun _ => false) ?_ ?_ rfl (Nat.zero_le _) (fun k hk => absurd hk (Nat.not_lt_zero _))
    · simp [hG, List.getD_cons_zero, List.getD_cons_succ, -List.getD_eq_getElem?_getD]; unfold cntN; simp
    · simp [hG, List.getD_cons_zero, List.getD_cons_succ, -List.getD_eq_getElem?_getD]
  ·
    rintro i ⟨hi, hc⟩
    have hcs := cnt_succ (e := e) (i := i)
    have hmb := cnt_mul (e := e) hc hin
    refine awpS_seq ?_
    refine awpS_seq ?_
    refine awpS_reg T_ok fun K hK => ?_
    simp [hG, List.getD_cons_zero, List.getD_cons_succ, -List.getD_eq_getElem?_getD]
    refine hK _ ?_
    clear K hK
    refine awpS_cond rfl (fun hb12 => ?_) (fun hb12 => ?_)
    ·
      try simp [-List.getD_eq_getElem?_getD] at hb12
      refine awpS_skip ?_
      refine awpS_seq ?_
      refine awpS_block ?_
      refine awpS_seq ?_
      refine awpS_reg T_ok fun K hK => ?_
      simp [hG, List.getD_cons_zero, List.getD_cons_succ, -List.getD_eq_getElem?_getD]
      refine ⟨Cond.mk (by omega), hK _ ?_⟩
      clear K hK
      refine awpS_seq ?_
      refine awpS_reg T_ok fun K hK => ?_
      simp [hG, List.getD_cons_zero, List.getD_cons_succ, -List.getD_eq_getElem?_getD]
      refine hK _ ?_
      clear K hK
      refine awpS_cond rfl (fun hb20 => ?_) (fun hb20 => ?_)
      ·
        try simp [-List.getD_eq_getElem?_getD] at hb20
        refine awpS_seq ?_
        refine awpS_reg T_ok fun K hK => ?_
        simp [hG, List.getD_cons_zero, List.getD_cons_succ, -List.getD_eq_getElem?_getD]
        refine hK _ ?_
        clear K hK
        refine awpS_ret ?_
        refine blockQ_ret (thenQ_ret ?_)
        refine thenQ_ret (thenQ_ret ?_)
        refine blockQ_ret (thenQ_ret ?_)
        refine RetOK_of ?_
        simp [hG, List.getD_cons_zero, List.getD_cons_succ, -List.getD_eq_getElem?_getD]
        rw [many_yes (n := n) hin.1 (i := i + 1) (by omega) (by have := hmb.1; omega)]
      ·
        try simp [-List.getD_eq_getElem?_getD] at hb20
        refine awpS_skip ?_
        refine awpS_nil ?_
        refine blockQ_norm (thenQ_norm ?_)
        refine awpS_reg T_ok fun K hK => ?_
        simp [hG, List.getD_cons_zero, List.getD_cons_succ, -List.getD_eq_getElem?_getD]
        refine ⟨Cond.mk (by omega), hK _ ?_⟩
        clear K hK
        refine awpS_nil ?_
        refine round_end (i + 1) (⟨by omega, by omega⟩) (by omega) ?_
        refine wk_of (id) (fun _ => false) (fun _ => false) ?_ ?_ rfl (Nat.zero_le _) (fun k hk => absurd hk (Nat.not_lt_zero _))
        · simp [hG, List.getD_cons_zero, List.getD_cons_succ, -List.getD_eq_getElem?_getD]; exact hmb.1
        · simp [hG, List.getD_cons_zero, List.getD_cons_succ, -List.getD_eq_getElem?_getD]
    ·
      try simp [-List.getD_eq_getElem?_getD] at hb12
      refine awpS_exit ?_
      refine thenQ_exit (thenQ_exit ?_)
      refine blockQ_exit (thenQ_norm ?_)
      refine awpS_seq ?_
      refine awpS_reg T_ok fun K hK => ?_
      simp [hG, List.getD_cons_zero, List.getD_cons_succ, -List.getD_eq_getElem?_getD]
      refine hK _ ?_
      clear K hK
      refine awpS_ret ?_
      refine RetOK_of ?_
      simp [hG, List.getD_cons_zero, List.getD_cons_succ, -List.getD_eq_getElem?_getD]
      obtain rfl : i = n := (by omega); unfold manyB; simp only [← decide_not, decide_eq_decide] <;> omega

set_option maxRecDepth 100000 in
theorem decode_c (d : Dec) (w : List UInt8) (hlen : w.length ≤ 1000000) : PC Try.prog 18 [.agg 6 (decF d), .str w] (decodeR d w) := by
  refine PC_introS T_ok Try.func18 rfl (by simp [Try.ntmps18]) fun G hG hR => ?_
  simp only [Try.ntmps18, Try.results18] at hG ⊢
  simp only [argEnv, Nat.zero_add, Nat.reduceAdd]
  refine awpS_seq ?_
  refine awpS_reg T_ok fun K hK => ?_
  simp [hG, List.getD_cons_zero, List.getD_cons_succ, -List.getD_eq_getElem?_getD]
  refine ⟨Cond.mk (by exact trivial), hK _ ?_⟩
  clear K hK
  refine awpS_seq ?_
  refine awpS_seq ?_
  refine awpS_regL ?_
  refine awpL_reg T_ok 1 fun K hK => ?_
  simp [hG, List.getD_cons_zero, List.getD_cons_succ, -List.getD_eq_getElem?_getD]
  refine hK _ ?_
  clear K hK
  refine awpL_call cal22 rfl rfl (fun _ => rfl) (fun hg => checkD_c d) (fun hg => ?_) (fun hg => ?_) fun K hK => ?_
  · simp [hG, List.getD_cons_zero, List.getD_cons_succ, -List.getD_eq_getElem?_getD]
  · simp [hG, List.getD_cons_zero, List.getD_cons_succ, -List.getD_eq_getElem?_getD]
  simp [hG, List.getD_cons_zero, List.getD_cons_succ, -List.getD_eq_getElem?_getD]
  refine hK _ ?_
  clear K hK
  refine awpL_reg T_ok 1 fun K hK => ?_
  simp [hG, List.getD_cons_zero, List.getD_cons_succ, -List.getD_eq_getElem?_getD]
  refine hK _ ?_
  clear K hK
  refine awpL_nil ?_
  refine awpS_cond rfl (fun hb14 => ?_) (fun hb14 => ?_)
  ·
    try simp [-List.getD_eq_getElem?_getD] at hb14
    refine awpS_seq ?_
    refine awpS_reg T_ok fun K hK => ?_
    simp [hG, List.getD_cons_zero, List.getD_cons_succ, -List.getD_eq_getElem?_getD]
    refine hK _ ?_
    clear K hK
    refine awpS_ret ?_
    refine RetOK_of ?_
    simp [hG, List.getD_cons_zero, List.getD_cons_succ, -List.getD_eq_getElem?_getD]
    rw [decode_err (decode_one hb14) (by decide)]; simp [hG, List.getD_cons_zero, List.getD_cons_succ, -List.getD_eq_getElem?_getD]
  ·
    try simp [-List.getD_eq_getElem?_getD] at hb14
    have hv : checkD d = 0 := (by simpa using hb14)
    have hva := checkD_asc hv
    have hd := (checkD_valid hv).1
    have hv2 := (checkD_valid hv).2.1
    have hbk := hd.block
    have hss := not_badS hd.sides
    have hwn := winN_bd hd
    have hwd : (d.past + 1 + d.future) * d.block = winN d := rfl
    refine awpS_skip ?_
    refine awpS_seq ?_
    refine awpS_seq ?_
    refine awpS_regL ?_
    refine awpL_reg T_ok 3 fun K hK => ?_
    simp [hG, List.getD_cons_zero, List.getD_cons_succ, -List.getD_eq_getElem?_getD]
    refine hK _ ?_
    clear K hK
    refine awpL_call cal24 rfl rfl (fun _ => rfl) (fun hg => wcheck_c d.letters w) (fun hg => ?_) (fun hg => ?_) fun K hK => ?_
    · simp [hG, List.getD_cons_zero, List.getD_cons_succ, -List.getD_eq_getElem?_getD]
    · simp [hG, List.getD_cons_zero, List.getD_cons_succ, -List.getD_eq_getElem?_getD]
    simp [hG, List.getD_cons_zero, List.getD_cons_succ, -List.getD_eq_getElem?_getD]
    refine hK _ ?_
    clear K hK
    refine awpL_reg T_ok 1 fun K hK => ?_
    simp [hG, List.getD_cons_zero, List.getD_cons_succ, -List.getD_eq_getElem?_getD]
    refine hK _ ?_
    clear K hK
    refine awpL_nil ?_
    refine awpS_seq ?_
    refine awpS_reg T_ok fun K hK => ?_
    simp [hG, List.getD_cons_zero, List.getD_cons_succ, -List.getD_eq_getElem?_getD]
    refine hK _ ?_
    clear K hK
    refine awpS_cond rfl (fun hb20 => ?_) (fun hb20 => ?_)
    ·
      try simp [-List.getD_eq_getElem?_getD] at hb20
      refine awpS_seq ?_
      refine awpS_reg T_ok fun K hK => ?_
      simp [hG, List.getD_cons_zero, List.getD_cons_succ, -List.getD_eq_getElem?_getD]
      refine hK _ ?_
      clear K hK
      refine awpS_ret ?_
      refine RetOK_of ?_
      simp [hG, List.getD_cons_zero, List.getD_cons_succ, -List.getD_eq_getElem?_getD]
      rw [decode_err (decode_word hv hb20) hb20]; simp [hG, List.getD_cons_zero, List.getD_cons_succ, -List.getD_eq_getElem?_getD]
    ·
      try simp [-List.getD_eq_getElem?_getD] at hb20
      have hwc : wordCheck d.letters w = 0 := (by simpa using hb20)
      refine awpS_skip ?_
      refine awpS_seq ?_
      refine awpS_seq ?_
      refine awpS_reg T_ok fun K hK => ?_
      simp [hG, List.getD_cons_zero, List.getD_cons_succ, -List.getD_eq_getElem?_getD]
      refine ⟨Cond.mk (by omega), hK _ ?_⟩
      clear K hK
      refine awpS_cond rfl (fun hb27 => ?_) (fun hb27 => ?_)
      ·
        try simp [-List.getD_eq_getElem?_getD] at hb27
        refine awpS_seq ?_
        refine awpS_reg T_ok fun K hK => ?_
        simp [hG, List.getD_cons_zero, List.getD_cons_succ, -List.getD_eq_getElem?_getD]
        refine hK _ ?_
        clear K hK
        refine awpS_ret ?_
        refine RetOK_of ?_
        simp [hG, List.getD_cons_zero, List.getD_cons_succ, -List.getD_eq_getElem?_getD]
        rw [decode_err (decode_len hv hwc hb27) (by decide)]; simp [hG, List.getD_cons_zero, List.getD_cons_succ, -List.getD_eq_getElem?_getD]
      ·
        try simp [-List.getD_eq_getElem?_getD] at hb27
        have hno := decode_ok hv hwc (by simpa using hb27)
        rw [decodeR_ok hno]
        refine awpS_skip ?_
        refine awpS_seq ?_
        refine awpS_reg T_ok fun K hK => ?_
        simp [hG, List.getD_cons_zero, List.getD_cons_succ, -List.getD_eq_getElem?_getD]
        refine hK _ ?_
        clear K hK
        refine awpS_seq ?_
        refine awpS_reg T_ok fun K hK => ?_
        simp [hG, List.getD_cons_zero, List.getD_cons_succ, -List.getD_eq_getElem?_getD]
        refine ⟨Cond.mk (by omega), hK _ ?_⟩
        clear K hK
        refine awpS_seq ?_
        refine awpS_seq ?_
        refine awpS_reg T_ok fun K hK => ?_
        simp [hG, List.getD_cons_zero, List.getD_cons_succ, -List.getD_eq_getElem?_getD]
        refine hK _ ?_
        clear K hK
        refine awpS_block ?_
        refine awpS_loop (α := Nat) (fun k => ⟨[(1, .str w), (2, .ptr (0, 0) 0 0), (7, .sl (1, 0) 0 k), (8, .int .i64 (winN d)), (9, .int .i64 (atK d k : Nat))], [(0, .one (.arr 1 6 (fun _ => decF d))), (1, .one (.arr k 1 (fun i _ => .int .i64 (((List.range (decCnt d w)).map (decAt d w)).getD i 0))))], 2⟩) (fun k => k ≤ decCnt d w) (fun k => decCnt d w - k) (0) (Nat.zero_le _) ?_ ?_
        ·
          refine wk_of (id) (fun _ => false) (fun k => k == 1) ?_ ?_ rfl (Nat.zero_le _) (fun k hk => absurd hk (Nat.not_lt_zero _))
          · simp [hG, List.getD_cons_zero, List.getD_cons_succ, -List.getD_eq_getElem?_getD]; exact ⟨hwd, by rw [atK_zero]; rfl⟩
          · simp [hG, List.getD_cons_zero, List.getD_cons_succ, -List.getD_eq_getElem?_getD]
        ·
          rintro k hk
          have hbi : (d.block.toNat : Int) = d.block := Int.toNat_of_nonneg (by omega)
          have hwi : ((winN d).toNat : Int) = winN d := Int.toNat_of_nonneg (by omega)
          have hks := atK_succ d k
          have hmore := at_more (d := d) (w := w) hbk.1 (k := k)
          have hcut := cut_take (w := w) (a := atK d k) (n := winN d) (by omega)
          have hcl := decCnt_le d w
          have hak := atK_le hbk.2 k
          refine awpS_seq ?_
          refine awpS_seq ?_
          refine awpS_reg T_ok fun K hK => ?_
          simp [hG, List.getD_cons_zero, List.getD_cons_succ, -List.getD_eq_getElem?_getD]
          refine ⟨Cond.mk (by omega), hK _ ?_⟩
          clear K hK
          refine awpS_cond rfl (fun hb42 => ?_) (fun hb42 => ?_)
          ·
            try simp [-List.getD_eq_getElem?_getD] at hb42
            have hkc : k < decCnt d w := hmore.1 (by omega)
            have hat := decL_at (d := d) (w := w) hkc
            refine awpS_skip ?_
            refine awpS_seq ?_
            refine awpS_block ?_
            refine awpS_seq ?_
            refine awpS_draw hR mixed [] ⟨[], [], []⟩ fun mu0 => ?_
            refine awpA_tk T_ok [0, 1, 2, 3, 4, 5, 6] [] (fuel := 6) [6, 5, 4, 3, 2, 1, 0] (by decide +kernel) (by decide +kernel) rfl rfl fun K hK => ?_
            simp [hG, List.getD_cons_zero, List.getD_cons_succ, -List.getD_eq_getElem?_getD]
            refine ⟨Cond.mk (by omega), hK _ ?_⟩
            clear K hK
            refine awpA_only (fuel := 5) (i := 7) (by decide +kernel) ?_
            refine awpO_call cal46 rfl rfl rfl (fun _ => rfl) (fun hg => find_c d ((w.drop (atK d k)).take (winN d).toNat) hv2 hva) (fun hg => ?_) (fun hg => ?_) fun K hK => ?_
            · simp [hG, List.getD_cons_zero, List.getD_cons_succ, -List.getD_eq_getElem?_getD]
            · simp [hG, List.getD_cons_zero, List.getD_cons_succ, -List.getD_eq_getElem?_getD]; exact hcut
            simp [hG, List.getD_cons_zero, List.getD_cons_succ, -List.getD_eq_getElem?_getD]
            refine hK _ ?_
            clear K hK
            refine awpA_tk T_ok [8, 9, 10, 11, 12] [] (fuel := 0) [12, 11, 10, 9, 8, 7, 6, 5, 4, 3, 2, 1, 0] (by decide +kernel) (by decide +kernel) rfl rfl fun K hK => ?_
            simp [hG, List.getD_cons_zero, List.getD_cons_succ, -List.getD_eq_getElem?_getD]
            refine hK _ ?_
            clear K hK
            refine awpA_done (by decide +kernel) ?_
            refine awpS_seq ?_
            refine awpS_seq ?_
            refine awpS_reg T_ok fun K hK => ?_
            simp [hG, List.getD_cons_zero, List.getD_cons_succ, -List.getD_eq_getElem?_getD]
            refine hK _ ?_
            clear K hK
            refine awpS_cond rfl (fun hb59 => ?_) (fun hb59 => ?_)
            ·
              try simp [-List.getD_eq_getElem?_getD] at hb59
              have ha2 : decAt d w k = -1 := (by show (lookE d.ents ((w.drop (atK d k)).take (winN d).toNat)).getD (-1) = _; rw [hb59]; rfl)
              rw [ha2] at hat
              refine awpS_reg T_ok fun K hK => ?_
              simp [hG, List.getD_cons_zero, List.getD_cons_succ, -List.getD_eq_getElem?_getD]
              refine hK _ ?_
              clear K hK
              refine awpS_reg T_ok fun K hK => ?_
              simp [hG, List.getD_cons_zero, List.getD_cons_succ, -List.getD_eq_getElem?_getD]
              refine ⟨Cond.mk (by omega), hK _ ?_⟩
              clear K hK
              refine awpS_nil ?_
              refine blockQ_norm (thenQ_norm ?_)
              refine awpS_reg T_ok fun K hK => ?_
              simp [hG, List.getD_cons_zero, List.getD_cons_succ, -List.getD_eq_getElem?_getD]
              refine ⟨Cond.mk (by omega), hK _ ?_⟩
              clear K hK
              refine awpS_nil ?_
              refine round_end (k + 1) (by omega) (by omega) ?_
              refine wk_of (fun k => if k = 1 then 3 else k) (fun _ => false) (fun _ => false) ?_ ?_ rfl (Nat.zero_le _) (fun k hk => absurd hk (Nat.not_lt_zero _))
              · simp [hG, List.getD_cons_zero, List.getD_cons_succ, -List.getD_eq_getElem?_getD]; omega
              · simp [hG, List.getD_cons_zero, List.getD_cons_succ, -List.getD_eq_getElem?_getD]; exact fun i hi => app_last hi hat
            ·
              try simp [-List.getD_eq_getElem?_getD] at hb59
              have ha2 : decAt d w k = (lookE d.ents ((w.drop (atK d k)).take (winN d).toNat)).getD 0 := (by obtain ⟨v, hv9⟩ := Option.isSome_iff_exists.1 hb59; show (lookE d.ents ((w.drop (atK d k)).take (winN d).toNat)).getD (-1) = _; rw [hv9]; rfl)
              rw [ha2] at hat
              refine awpS_skip ?_
              refine awpS_reg T_ok fun K hK => ?_
              simp [hG, List.getD_cons_zero, List.getD_cons_succ, -List.getD_eq_getElem?_getD]
              refine ⟨Cond.mk (by omega), hK _ ?_⟩
              clear K hK
              refine awpS_nil ?_
              refine blockQ_norm (thenQ_norm ?_)
              refine awpS_reg T_ok fun K hK => ?_
              simp [hG, List.getD_cons_zero, List.getD_cons_succ, -List.getD_eq_getElem?_getD]
              refine ⟨Cond.mk (by omega), hK _ ?_⟩
              clear K hK
              refine awpS_nil ?_
              refine round_end (k + 1) (by omega) (by omega) ?_
              refine wk_of (fun k => if k = 1 then 3 else k) (fun _ => false) (fun _ => false) ?_ ?_ rfl (Nat.zero_le _) (fun k hk => absurd hk (Nat.not_lt_zero _))
              · simp [hG, List.getD_cons_zero, List.getD_cons_succ, -List.getD_eq_getElem?_getD]; omega
              · simp [hG, List.getD_cons_zero, List.getD_cons_succ, -List.getD_eq_getElem?_getD]; exact fun i hi => app_last hi hat
          ·
            try simp [-List.getD_eq_getElem?_getD] at hb42
            have hke : k = decCnt d w := (by have := mt hmore.2; omega)
            refine awpS_exit ?_
            refine thenQ_exit (thenQ_exit ?_)
            refine blockQ_exit (thenQ_norm ?_)
            refine awpS_seq ?_
            refine awpS_reg T_ok fun K hK => ?_
            simp [hG, List.getD_cons_zero, List.getD_cons_succ, -List.getD_eq_getElem?_getD]
            refine hK _ ?_
            clear K hK
            refine awpS_ret ?_
            refine RetOK_of ?_
            simp [hG, List.getD_cons_zero, List.getD_cons_succ, -List.getD_eq_getElem?_getD]
            omega

set_option maxRecDepth 100000 in
theorem decodeRf_c (d : Dec) (w : List UInt8) (hlen : w.length ≤ 1000000) : PC Try.prog 19 [.agg 6 (decF d), .str w] (decodeR d w) := by
  refine PC_introS T_ok Try.func19 rfl (by simp [Try.ntmps19]) fun G hG hR => ?_
  simp only [Try.ntmps19, Try.results19] at hG ⊢
  simp only [argEnv, Nat.zero_add, Nat.reduceAdd]
  refine awpS_seq ?_
  refine awpS_reg T_ok fun K hK => ?_
  simp [hG, List.getD_cons_zero, List.getD_cons_succ, -List.getD_eq_getElem?_getD, pureOp]
  refine ⟨Cond.mk (by exact trivial), hK _ ?_⟩
  clear K hK
  refine awpS_seq ?_
  refine awpS_seq ?_
  refine awpS_regL ?_
  refine awpL_reg T_ok 1 fun K hK => ?_
  simp [hG, List.getD_cons_zero, List.getD_cons_succ, -List.getD_eq_getElem?_getD, pureOp]
  refine hK _ ?_
  clear K hK
  refine awpL_call cal17 rfl rfl (fun _ => rfl) (fun hg => checkDR_c d) (fun hg => ?_) (fun hg => ?_) fun K hK => ?_
  · simp [hG, List.getD_cons_zero, List.getD_cons_succ, -List.getD_eq_getElem?_getD, pureOp]
  · simp [hG, List.getD_cons_zero, List.getD_cons_succ, -List.getD_eq_getElem?_getD, pureOp]
  simp [hG, List.getD_cons_zero, List.getD_cons_succ, -List.getD_eq_getElem?_getD, pureOp]
  refine hK _ ?_
  clear K hK
  refine awpL_reg T_ok 1 fun K hK => ?_
  simp [hG, List.getD_cons_zero, List.getD_cons_succ, -List.getD_eq_getElem?_getD, pureOp]
  refine hK _ ?_
  clear K hK
  refine awpL_nil ?_
  refine awpS_cond rfl (fun hb13 => ?_) (fun hb13 => ?_)
  ·
    try simp [-List.getD_eq_getElem?_getD] at hb13
    refine awpS_seq ?_
    refine awpS_reg T_ok fun K hK => ?_
    simp [hG, List.getD_cons_zero, List.getD_cons_succ, -List.getD_eq_getElem?_getD, pureOp]
    refine hK _ ?_
    clear K hK
    refine awpS_ret ?_
    refine RetOK_of ?_
    simp [hG, List.getD_cons_zero, List.getD_cons_succ, -List.getD_eq_getElem?_getD, pureOp]
    rw [decode_err (decode_one hb13) (by decide)]; simp [hG, List.getD_cons_zero, List.getD_cons_succ, -List.getD_eq_getElem?_getD]
  ·
    try simp [-List.getD_eq_getElem?_getD] at hb13
    have hv : checkD d = 0 := (by simpa using hb13)
    have hva := checkD_asc hv
    have hd := (checkD_valid hv).1
    have hv2 := (checkD_valid hv).2.1
    have hbk := hd.block
    have hss := not_badS hd.sides
    have hwn := winN_bd hd
    have hwd : (d.past + 1 + d.future) * d.block = winN d := rfl
    refine awpS_skip ?_
    refine awpS_seq ?_
    refine awpS_seq ?_
    refine awpS_regL ?_
    refine awpL_reg T_ok 3 fun K hK => ?_
    simp [hG, List.getD_cons_zero, List.getD_cons_succ, -List.getD_eq_getElem?_getD, pureOp]
    refine hK _ ?_
    clear K hK
    refine awpL_call cal45 rfl rfl (fun _ => rfl) (fun hg => wcheckR_c d.letters w) (fun hg => ?_) (fun hg => ?_) fun K hK => ?_
    · simp [hG, List.getD_cons_zero, List.getD_cons_succ, -List.getD_eq_getElem?_getD, pureOp]
    · simp [hG, List.getD_cons_zero, List.getD_cons_succ, -List.getD_eq_getElem?_getD, pureOp]
    simp [hG, List.getD_cons_zero, List.getD_cons_succ, -List.getD_eq_getElem?_getD, pureOp]
    refine hK _ ?_
    clear K hK
    refine awpL_reg T_ok 1 fun K hK => ?_
    simp [hG, List.getD_cons_zero, List.getD_cons_succ, -List.getD_eq_getElem?_getD, pureOp]
    refine hK _ ?_
    clear K hK
    refine awpL_nil ?_
    refine awpS_seq ?_
    refine awpS_reg T_ok fun K hK => ?_
    simp [hG, List.getD_cons_zero, List.getD_cons_succ, -List.getD_eq_getElem?_getD, pureOp]
    refine hK _ ?_
    clear K hK
    refine awpS_cond rfl (fun hb20 => ?_) (fun hb20 => ?_)
    ·
      try simp [-List.getD_eq_getElem?_getD] at hb20
      refine awpS_seq ?_
      refine awpS_reg T_ok fun K hK => ?_
      simp [hG, List.getD_cons_zero, List.getD_cons_succ, -List.getD_eq_getElem?_getD, pureOp]
      refine hK _ ?_
      clear K hK
      refine awpS_ret ?_
      refine RetOK_of ?_
      simp [hG, List.getD_cons_zero, List.getD_cons_succ, -List.getD_eq_getElem?_getD, pureOp]
      rw [decode_err (decode_word hv hb20) hb20]; simp [hG, List.getD_cons_zero, List.getD_cons_succ, -List.getD_eq_getElem?_getD]
    ·
      try simp [-List.getD_eq_getElem?_getD] at hb20
      have hwc : wordCheck d.letters w = 0 := (by simpa using hb20)
      refine awpS_skip ?_
      refine awpS_seq ?_
      refine awpS_seq ?_
      refine awpS_reg T_ok fun K hK => ?_
      simp [hG, List.getD_cons_zero, List.getD_cons_succ, -List.getD_eq_getElem?_getD, pureOp]
      refine ⟨Cond.mk (by omega), hK _ ?_⟩
      clear K hK
      refine awpS_cond rfl (fun hb28 => ?_) (fun hb28 => ?_)
      ·
        try simp [-List.getD_eq_getElem?_getD] at hb28
        refine awpS_seq ?_
        refine awpS_reg T_ok fun K hK => ?_
        simp [hG, List.getD_cons_zero, List.getD_cons_succ, -List.getD_eq_getElem?_getD, pureOp]
        refine hK _ ?_
        clear K hK
        refine awpS_ret ?_
        refine RetOK_of ?_
        simp [hG, List.getD_cons_zero, List.getD_cons_succ, -List.getD_eq_getElem?_getD, pureOp]
        rw [decode_err (decode_len hv hwc hb28) (by decide)]; simp [hG, List.getD_cons_zero, List.getD_cons_succ, -List.getD_eq_getElem?_getD]
      ·
        try simp [-List.getD_eq_getElem?_getD] at hb28
        have hno := decode_ok hv hwc (by simpa using hb28)
        rw [decodeR_ok hno]
        refine awpS_skip ?_
        refine awpS_seq ?_
        refine awpS_reg T_ok fun K hK => ?_
        simp [hG, List.getD_cons_zero, List.getD_cons_succ, -List.getD_eq_getElem?_getD, pureOp]
        refine hK _ ?_
        clear K hK
        refine awpS_seq ?_
        refine awpS_reg T_ok fun K hK => ?_
        simp [hG, List.getD_cons_zero, List.getD_cons_succ, -List.getD_eq_getElem?_getD, pureOp]
        refine ⟨Cond.mk (by omega), hK _ ?_⟩
        clear K hK
        refine awpS_seq ?_
        refine awpS_seq ?_
        refine awpS_reg T_ok fun K hK => ?_
        simp [hG, List.getD_cons_zero, List.getD_cons_succ, -List.getD_eq_getElem?_getD, pureOp]
        refine hK _ ?_
        clear K hK
        refine awpS_block ?_
        refine awpS_loop (α := Nat) (fun k => ⟨[(1, .str w), (2, .ptr (0, 0) 0 0), (7, .sl (1, 0) 0 k), (8, .int .i64 (winN d)), (9, .int .i64 (atK d k : Nat))], [(0, .one (.arr 1 6 (fun _ => decF d))), (1, .one (.arr k 1 (fun i _ => .int .i64 (((List.range (decCnt d w)).map (decAt d w)).getD i 0))))], 2⟩) (fun k => k ≤ decCnt d w) (fun k => decCnt d w - k) (0) (Nat.zero_le _) ?_ ?_
        ·
          refine wk_of (id) (fun _ => false) (fun _ => false) ?_ ?_ rfl (Nat.zero_le _) (fun k hk => absurd hk (Nat.not_lt_zero _))
          · simp [hG, List.getD_cons_zero, List.getD_cons_succ, -List.getD_eq_getElem?_getD]; exact ⟨hwd, by rw [atK_zero]; rfl⟩
          · simp [hG, List.getD_cons_zero, List.getD_cons_succ, -List.getD_eq_getElem?_getD, pureOp]
        ·
          rintro k hk
          have hbi : (d.block.toNat : Int) = d.block := Int.toNat_of_nonneg (by omega)
          have hwi : ((winN d).toNat : Int) = winN d := Int.toNat_of_nonneg (by omega)
          have hks := atK_succ d k
          have hmore := at_more (d := d) (w := w) hbk.1 (k := k)
          have hcut := cut_take (w := w) (a := atK d k) (n := winN d) (by omega)
          have hcl := decCnt_le d w
          have hak := atK_le hbk.2 k
          refine awpS_seq ?_
          refine awpS_seq ?_
          refine awpS_reg T_ok fun K hK => ?_
          simp [hG, List.getD_cons_zero, List.getD_cons_succ, -List.getD_eq_getElem?_getD, pureOp]
          refine ⟨Cond.mk (by omega), hK _ ?_⟩
          clear K hK
          refine awpS_cond rfl (fun hb45 => ?_) (fun hb45 => ?_)
          ·
            try simp [-List.getD_eq_getElem?_getD] at hb45
            have hkc : k < decCnt d w := hmore.1 (by omega)
            have hat := decL_at (d := d) (w := w) hkc
            refine awpS_skip ?_
            refine awpS_seq ?_
            refine awpS_block ?_
            refine awpS_seq ?_
            refine awpS_draw hR mixed [] ⟨[], [], []⟩ fun mu0 => ?_
            refine awpA_tk T_ok [0, 1, 2, 3, 4, 5, 6, 7] [] (fuel := 2) [7, 6, 5, 4, 3, 2, 1, 0] (by decide +kernel) (by decide +kernel) rfl rfl fun K hK => ?_
            simp [hG, List.getD_cons_zero, List.getD_cons_succ, -List.getD_eq_getElem?_getD, pureOp]
            refine ⟨Cond.mk (by omega), hK _ ?_⟩
            clear K hK
            refine awpA_only (fuel := 1) (i := 8) (by decide +kernel) ?_
            refine awpO_call cal47 rfl rfl rfl (fun _ => rfl) (fun hg => place_c d.ents ((w.drop (atK d k)).take (winN d).toNat) (by omega) hva) (fun hg => ?_) (fun hg => ?_) fun K hK => ?_
            · simp [hG, List.getD_cons_zero, List.getD_cons_succ, -List.getD_eq_getElem?_getD, pureOp]
            · simp [hG, List.getD_cons_zero, List.getD_cons_succ, -List.getD_eq_getElem?_getD]; exact hcut
            simp [hG, List.getD_cons_zero, List.getD_cons_succ, -List.getD_eq_getElem?_getD, pureOp]
            refine hK _ ?_
            clear K hK
            refine awpA_tk T_ok [9] [] (fuel := 0) [9, 8, 7, 6, 5, 4, 3, 2, 1, 0] (by decide +kernel) (by decide +kernel) rfl rfl fun K hK => ?_
            simp [hG, List.getD_cons_zero, List.getD_cons_succ, -List.getD_eq_getElem?_getD, pureOp]
            refine hK _ ?_
            clear K hK
            refine awpA_done (by decide +kernel) ?_
            refine awpS_seq ?_
            refine awpS_draw hR mixed [] ⟨[], [], []⟩ fun mu0 => ?_
            refine awpA_tk T_ok [0, 1, 2, 3, 4, 5, 6, 7, 8, 9, 10, 11, 12, 13, 14, 15, 16, 17, 18, 19] [] (fuel := 0) [19, 18, 17, 16, 15, 14, 13, 12, 11, 10, 9, 8, 7, 6, 5, 4, 3, 2, 1, 0] (by decide +kernel) (by decide +kernel) rfl rfl fun K hK => ?_
            simp [hG, List.getD_cons_zero, List.getD_cons_succ, -List.getD_eq_getElem?_getD, pureOp]
            refine ⟨Cond.mk (by simp [-List.getD_eq_getElem?_getD]; (repeat (first | assumption | intro _ | exact And.intro ‹_› ‹_› | apply And.intro | omega | exact trivial | exact decide_eq_true (by assumption)))), hK _ ?_⟩
            clear K hK
            refine awpA_done (by decide +kernel) ?_
            refine awpS_cond rfl (fun hb78 => ?_) (fun hb78 => ?_)
            ·
              try simp [-List.getD_eq_getElem?_getD] at hb78
              rw [hcut] at hb78
              have ha2 : decAt d w k = (d.ents.getD (lowE d.ents ((w.drop (atK d k)).take (winN d).toNat)) den).inp := (by show (lookE d.ents ((w.drop (atK d k)).take (winN d).toNat)).getD (-1) = _; rw [look_hit hva hb78.1 hb78.2]; rfl)
              rw [ha2] at hat
              refine awpS_reg T_ok fun K hK => ?_
              simp [hG, List.getD_cons_zero, List.getD_cons_succ, -List.getD_eq_getElem?_getD, pureOp]
              refine ⟨Cond.mk (by omega), hK _ ?_⟩
              clear K hK
              refine awpS_nil ?_
              refine blockQ_norm (thenQ_norm ?_)
              refine awpS_reg T_ok fun K hK => ?_
              simp [hG, List.getD_cons_zero, List.getD_cons_succ, -List.getD_eq_getElem?_getD, pureOp]
              refine ⟨Cond.mk (by omega), hK _ ?_⟩
              clear K hK
              refine awpS_nil ?_
              refine round_end (k + 1) (by omega) (by omega) ?_
              refine wk_of (fun k => if k = 1 then 3 else k) (fun _ => false) (fun _ => false) ?_ ?_ rfl (Nat.zero_le _) (fun k hk => absurd hk (Nat.not_lt_zero _))
              · simp [hG, List.getD_cons_zero, List.getD_cons_succ, -List.getD_eq_getElem?_getD]; omega
              · simp [hG, List.getD_cons_zero, List.getD_cons_succ, -List.getD_eq_getElem?_getD]; exact fun i hi => app_last hi hat
            ·
              try simp [-List.getD_eq_getElem?_getD] at hb78
              rw [hcut] at hb78
              have ha2 : decAt d w k = -1 := (by show (lookE d.ents ((w.drop (atK d k)).take (winN d).toNat)).getD (-1) = _; rw [look_miss hva (fun h => hb78 h.1 h.2)]; rfl)
              rw [ha2] at hat
              refine awpS_reg T_ok fun K hK => ?_
              simp [hG, List.getD_cons_zero, List.getD_cons_succ, -List.getD_eq_getElem?_getD, pureOp]
              refine ⟨Cond.mk (by omega), hK _ ?_⟩
              clear K hK
              refine awpS_nil ?_
              refine blockQ_norm (thenQ_norm ?_)
              refine awpS_reg T_ok fun K hK => ?_
              simp [hG, List.getD_cons_zero, List.getD_cons_succ, -List.getD_eq_getElem?_getD, pureOp]
              refine ⟨Cond.mk (by omega), hK _ ?_⟩
              clear K hK
              refine awpS_nil ?_
              refine round_end (k + 1) (by omega) (by omega) ?_
              refine wk_of (fun k => if k = 1 then 3 else k) (fun _ => false) (fun _ => false) ?_ ?_ rfl (Nat.zero_le _) (fun k hk => absurd hk (Nat.not_lt_zero _))
              · simp [hG, List.getD_cons_zero, List.getD_cons_succ, -List.getD_eq_getElem?_getD]; omega
              · simp [hG, List.getD_cons_zero, List.getD_cons_succ, -List.getD_eq_getElem?_getD]; exact fun i hi => app_last hi hat
          ·
            try simp [-List.getD_eq_getElem?_getD] at hb45
            have hke : k = decCnt d w := (by have := mt hmore.2; omega)
            refine awpS_exit ?_
            refine thenQ_exit (thenQ_exit ?_)
            refine blockQ_exit (thenQ_norm ?_)
            refine awpS_seq ?_
            refine awpS_reg T_ok fun K hK => ?_
            simp [hG, List.getD_cons_zero, List.getD_cons_succ, -List.getD_eq_getElem?_getD, pureOp]
            refine hK _ ?_
            clear K hK
            refine awpS_ret ?_
            refine RetOK_of ?_
            simp [hG, List.getD_cons_zero, List.getD_cons_succ, -List.getD_eq_getElem?_getD, pureOp]
            omega

end Go.Proofs.Ytmdnpbilnelogaa
