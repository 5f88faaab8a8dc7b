/-
  Decoders: validity, decoding; the paths of an encoder, and the decoder that is built of them.
-/
import Derived.Test.YtmdnpbilnelogaaNA
namespace Go.Proofs.Ytmdnpbilnelogaa
set_option linter.unusedSimpArgs false
set_option linter.unusedVariables false
open Go Go.Lift

def badS (p f : Int) : Prop := p < 0 ∨ f < 0 ∨ 16 ≤ p ∨ 16 - p ≤ f
instance (p f : Int) : Decidable (badS p f) := inferInstanceAs (Decidable (_ ∨ _))
/-- why an entry is not as it must be. -/
def entN (d : Dec) (i : Nat) : Int :=
  if ((d.ents.getD i den).win.length : Int) ≠ (d.past + 1 + d.future) * d.block then 11
  else if wordCheck d.letters (d.ents.getD i den).win ≠ 0 then wordCheck d.letters (d.ents.getD i den).win
  else if (d.ents.getD i den).inp < 0 ∨ d.inputs ≤ (d.ents.getD i den).inp then 2
  else if 0 < i ∧ Op.bytesLess (d.ents.getD (i - 1) den).win (d.ents.getD i den).win = false then 10 else 0
/-- why a decoder is not valid. -/
def checkD (d : Dec) : Int :=
  if d.letters < 1 ∨ 16 < d.letters then 12 else if (d.block < 1 ∨ 16 < d.block) ∨ (d.inputs < 1 ∨ 256 < d.inputs) ∨ badS d.past d.future then 2
  else if 65536 < d.ents.length then 4 else firstNZ (entN d) (List.range d.ents.length)
structure DDims (d : Dec) : Prop where
  letters : 1 ≤ d.letters ∧ d.letters ≤ 16
  block : 1 ≤ d.block ∧ d.block ≤ 16
  inputs : 1 ≤ d.inputs ∧ d.inputs ≤ 256
  sides : ¬ badS d.past d.future
theorem not_badS {p f : Int} (h : ¬ badS p f) : 0 ≤ p ∧ 0 ≤ f ∧ p ≤ 15 ∧ p + f ≤ 15 := by unfold badS at h; omega
theorem firstR_hit {f : Nat → Int} {n k : Nat} (h0 : ∀ j, j < k → f j = 0) (hk : k < n) {m : Int} (h : f k = m) (hm : m ≠ 0) : firstNZ f (List.range n) = m := by
  have hg : ∀ j, j < n → (List.range n).getD j 0 = j := fun j hj => by simp [List.getD, hj]
  have := firstNZ_hit (f := f) (d := 0) (l := List.range n) (k := k) (fun j hj => by rw [hg j (by omega)]; exact h0 j hj) (by simpa using hk) (by rw [hg k hk, h]; exact hm)
  rw [this, hg k hk, h]
theorem firstR_zero {f : Nat → Int} {n : Nat} (h0 : ∀ j, j < n → f j = 0) : firstNZ f (List.range n) = 0 :=
  firstNZ_zeroL (d := 0) fun j hj => by
    have hj' : j < n := by simpa using hj
    have : (List.range n).getD j 0 = j := by simp [List.getD, hj']
    rw [this]; exact h0 j hj'
section
variable {d : Dec}
theorem checkD_letters (h : ¬ (1 ≤ d.letters ∧ d.letters ≤ 16)) : checkD d = 12 := by unfold checkD; rw [if_pos (by omega)]
theorem checkD_range (h : 1 ≤ d.letters ∧ d.letters ≤ 16) (h2 : (d.block < 1 ∨ 16 < d.block) ∨ (d.inputs < 1 ∨ 256 < d.inputs) ∨ badS d.past d.future) : checkD d = 2 := by unfold checkD; rw [if_neg (by omega), if_pos h2]
theorem ddims_no (h : DDims d) : ¬ ((d.block < 1 ∨ 16 < d.block) ∨ (d.inputs < 1 ∨ 256 < d.inputs) ∨ badS d.past d.future) := by
  rintro (h1 | h1 | h1)
  · have := h.block; omega
  · have := h.inputs; omega
  · exact h.sides h1
theorem checkD_limit (h : DDims d) (h2 : 65536 < d.ents.length) : checkD d = 4 := by
  have := h.letters
  unfold checkD; rw [if_neg (by omega), if_neg (ddims_no h), if_pos h2]
theorem checkD_ents (h : DDims d) (h2 : d.ents.length ≤ 65536) : checkD d = firstNZ (entN d) (List.range d.ents.length) := by
  have := h.letters
  unfold checkD; rw [if_neg (by omega), if_neg (ddims_no h), if_neg (by omega)]
theorem checkD_ent (h : DDims d) (h2 : d.ents.length ≤ 65536) {k : Nat} (h0 : ∀ j, j < k → entN d j = 0) (hk : k < d.ents.length) {m : Int} (hn : entN d k = m) (hm : m ≠ 0) : checkD d = m := by
  rw [checkD_ents h h2]; exact firstR_hit h0 hk hn hm
theorem checkD_ok (h : DDims d) (h2 : d.ents.length ≤ 65536) (h0 : ∀ j, j < d.ents.length → entN d j = 0) : checkD d = 0 := by
  rw [checkD_ents h h2]; exact firstR_zero h0
theorem checkD_valid (h : checkD d = 0) : DDims d ∧ d.ents.length ≤ 65536 ∧ ∀ j, j < d.ents.length → entN d j = 0 := by
  unfold checkD at h
  split at h
  · cases h
  · rename_i h1
    split at h
    · cases h
    · rename_i h2
      split at h
      · cases h
      · rename_i h3
        refine ⟨⟨by omega, ?_, ?_, fun hb => h2 (.inr (.inr hb))⟩, by omega, fun j hj => firstNZ_all h j (List.mem_range.2 hj)⟩
        · have := fun hb => h2 (.inl hb); omega
        · have := fun hb => h2 (.inr (.inl hb)); omega
theorem entN_len {i : Nat} (h : ((d.ents.getD i den).win.length : Int) ≠ (d.past + 1 + d.future) * d.block) : entN d i = 11 := if_pos h
theorem entN_word {i : Nat} (h : ((d.ents.getD i den).win.length : Int) = (d.past + 1 + d.future) * d.block) (h2 : wordCheck d.letters (d.ents.getD i den).win ≠ 0) : entN d i = wordCheck d.letters (d.ents.getD i den).win := by
  unfold entN; rw [if_neg (fun h3 => h3 h), if_pos h2]
theorem entN_inp {i : Nat} (h : ((d.ents.getD i den).win.length : Int) = (d.past + 1 + d.future) * d.block) (h2 : wordCheck d.letters (d.ents.getD i den).win = 0) (h3 : (d.ents.getD i den).inp < 0 ∨ d.inputs ≤ (d.ents.getD i den).inp) : entN d i = 2 := by
  unfold entN; rw [if_neg (fun h3 => h3 h), if_neg (fun h3 => h3 h2), if_pos h3]
theorem entN_ord {i : Nat} (h : ((d.ents.getD i den).win.length : Int) = (d.past + 1 + d.future) * d.block) (h2 : wordCheck d.letters (d.ents.getD i den).win = 0) (h3 : 0 ≤ (d.ents.getD i den).inp ∧ (d.ents.getD i den).inp < d.inputs)
    (h4 : 0 < i ∧ Op.bytesLess (d.ents.getD (i - 1) den).win (d.ents.getD i den).win = false) : entN d i = 10 := by
  unfold entN; rw [if_neg (fun h3 => h3 h), if_neg (fun h3 => h3 h2), if_neg (by omega), if_pos h4]
theorem entN_ok {i : Nat} (h : ((d.ents.getD i den).win.length : Int) = (d.past + 1 + d.future) * d.block) (h2 : wordCheck d.letters (d.ents.getD i den).win = 0) (h3 : 0 ≤ (d.ents.getD i den).inp ∧ (d.ents.getD i den).inp < d.inputs)
    (h4 : ¬ (0 < i ∧ Op.bytesLess (d.ents.getD (i - 1) den).win (d.ents.getD i den).win = false)) : entN d i = 0 := by
  unfold entN; rw [if_neg (fun h3 => h3 h), if_neg (fun h3 => h3 h2), if_neg (by omega), if_neg h4]
theorem entN_valid {i : Nat} (h : entN d i = 0) : ((d.ents.getD i den).win.length : Int) = (d.past + 1 + d.future) * d.block ∧ wordCheck d.letters (d.ents.getD i den).win = 0 ∧ (0 ≤ (d.ents.getD i den).inp ∧ (d.ents.getD i den).inp < d.inputs) ∧
    (0 < i → Op.bytesLess (d.ents.getD (i - 1) den).win (d.ents.getD i den).win = true) := by
  unfold entN at h
  split at h
  · cases h
  · rename_i h1
    split at h
    · rename_i h2; exact absurd h h2
    · rename_i h2
      split at h
      · cases h
      · rename_i h3
        split at h
        · cases h
        · rename_i h4
          exact ⟨Classical.byContradiction h1, Classical.byContradiction h2, by omega, fun hi => by simpa using fun hb => h4 ⟨hi, hb⟩⟩
theorem checkD_asc (h : checkD d = 0) : Asc d.ents := asc_of fun i hi => by
  have := (entN_valid ((checkD_valid h).2.2 (i + 1) hi)).2.2.2 (Nat.succ_pos _)
  simpa using this
end

/-- how many letters a window has. -/
def winN (d : Dec) : Int := (d.past + 1 + d.future) * d.block
theorem winN_bd {d : Dec} (h : DDims d) : d.block ≤ winN d ∧ winN d ≤ 256 := by
  obtain ⟨h1, h2, h3, h4⟩ := not_badS h.sides
  have hb := h.block
  unfold winN
  have ha : 1 ≤ d.past + 1 + d.future ∧ d.past + 1 + d.future ≤ 16 := by omega
  have k1 := Int.mul_le_mul_of_nonneg_right ha.1 (show 0 ≤ d.block by omega)
  have k2 := Int.mul_le_mul_of_nonneg_right ha.2 (show 0 ≤ d.block by omega)
  have k3 := Int.mul_le_mul_of_nonneg_left hb.2 (show (0 : Int) ≤ 16 by omega)
  omega
/-- the decoded input of a block. -/
def decAt (d : Dec) (w : List UInt8) (k : Nat) : Int := (lookE d.ents ((w.drop (k * d.block.toNat)).take (winN d).toNat)).getD (-1)
def decCnt (d : Dec) (w : List UInt8) : Nat := if (winN d).toNat ≤ w.length then (w.length - (winN d).toNat) / d.block.toNat + 1 else 0
theorem dec_more {d : Dec} {w : List UInt8} (hb : 1 ≤ d.block) {k : Nat} : k * d.block.toNat + (winN d).toNat ≤ w.length ↔ k < decCnt d w := by
  unfold decCnt
  by_cases h : (winN d).toNat ≤ w.length
  · rw [if_pos h, Nat.lt_succ_iff, Nat.le_div_iff_mul_le (by omega)]
    omega
  · rw [if_neg h]; omega
def decodeN (d : Dec) (w : List UInt8) : Int :=
  if checkD d ≠ 0 then 1 else if wordCheck d.letters w ≠ 0 then wordCheck d.letters w else if (w.length : Int) % d.block ≠ 0 then 11 else 0
def decodeL (d : Dec) (w : List UInt8) : List Int := if decodeN d w = 0 then (List.range (decCnt d w)).map (decAt d w) else []
def decodeR (d : Dec) (w : List UInt8) : AVal := .tup 2 (fun j => [ints (decodeL d w), .int .i64 (decodeN d w)].getD j .any)
theorem decode_err {d : Dec} {w : List UInt8} {n : Int} (h : decodeN d w = n) (hn : n ≠ 0) : decodeR d w = .tup 2 (fun j => [ints [], .int .i64 n].getD j .any) := by
  unfold decodeR decodeL
  rw [h, if_neg hn]
theorem decode_one {d : Dec} {w : List UInt8} (h : checkD d ≠ 0) : decodeN d w = 1 := if_pos h
theorem decode_word {d : Dec} {w : List UInt8} (h : checkD d = 0) (h2 : wordCheck d.letters w ≠ 0) : decodeN d w = wordCheck d.letters w := by unfold decodeN; rw [if_neg (fun h3 => h3 h), if_pos h2]
theorem decode_len {d : Dec} {w : List UInt8} (h : checkD d = 0) (h2 : wordCheck d.letters w = 0) (h3 : (w.length : Int) % d.block ≠ 0) : decodeN d w = 11 := by unfold decodeN; rw [if_neg (fun h3 => h3 h), if_neg (fun h3 => h3 h2), if_pos h3]
theorem decode_ok {d : Dec} {w : List UInt8} (h : checkD d = 0) (h2 : wordCheck d.letters w = 0) (h3 : (w.length : Int) % d.block = 0) : decodeN d w = 0 := by unfold decodeN; rw [if_neg (fun h3 => h3 h), if_neg (fun h3 => h3 h2), if_neg (fun h4 => h4 h3)]
theorem decodeR_ok {d : Dec} {w : List UInt8} (h : decodeN d w = 0) : decodeR d w = .tup 2 (fun j => [ints ((List.range (decCnt d w)).map (decAt d w)), .int .i64 0].getD j .any) := by
  unfold decodeR decodeL
  rw [h, if_pos rfl]
def knownN (d : Dec) (w : List UInt8) : Int := if checkD d ≠ 0 then 1 else if (lookE d.ents w).isSome then 0 else 6
def knownI (d : Dec) (w : List UInt8) : Int := if checkD d ≠ 0 then 0 else (lookE d.ents w).getD 0

/-- what the paths of k more cells write. -/
def follow (e : Enc) (past n : Nat) : Nat → Nat → List UInt8 → Int → List Ent
  | 0, _, w, i => [⟨w, i⟩]
  | k + 1, s, w, i => (List.range (e.rows.getD s []).length).flatMap fun c => follow e past n k (cellAt e s c).to.toNat (w ++ (cellAt e s c).word) (if n - (k + 1) = past then (c : Int) else i)
def pathsL (e : Enc) (p f : Nat) : List Ent := (List.range e.rows.length).flatMap fun s => follow e p (p + 1 + f) (p + 1 + f) s [] 0
/-- one more window. -/
def stepE (l : List Ent) (x : Ent) : List Ent × Bool := match lookE l x.win with
  | some k => (l, decide (k ≠ x.inp))
  | none => (putE l x, false)
def builtE (e : Enc) (p f : Nat) : List Ent × Bool := goS stepE [] (pathsL e p f)
def cntN (e : Enc) (n : Nat) : Nat := e.rows.length * e.inputs.toNat ^ n
theorem cnt_mono {e : Enc} (h : 1 ≤ e.inputs) {i n : Nat} (hi : i ≤ n) : cntN e i ≤ cntN e n := Nat.mul_le_mul_left _ (Nat.pow_le_pow_right (by omega) hi)
theorem cnt_succ {e : Enc} {i : Nat} : cntN e (i + 1) = cntN e i * e.inputs.toNat := by unfold cntN; rw [Nat.pow_succ, Nat.mul_assoc]
theorem cnt_mul {e : Enc} {i : Nat} (h : cntN e i ≤ 65536) (hin : 1 ≤ e.inputs ∧ e.inputs ≤ 256) : ((cntN e i : Nat) : Int) * e.inputs = ((cntN e (i + 1) : Nat) : Int) ∧ cntN e (i + 1) ≤ 16777216 := by
  rw [cnt_succ]
  refine ⟨by rw [Int.natCast_mul, Int.toNat_of_nonneg (by omega)], ?_⟩
  have := Nat.mul_le_mul h (show e.inputs.toNat ≤ 256 by omega)
  omega
def manyB (e : Enc) (n : Nat) : Bool := decide (65536 < cntN e n)
theorem many_yes {e : Enc} (h : 1 ≤ e.inputs) {i n : Nat} (hi : i ≤ n) (h2 : 65536 < cntN e i) : manyB e n = true := by
  have := cnt_mono h hi
  simp only [manyB, decide_eq_true_eq]; omega
def wbN (e : Enc) (p f : Int) : Int :=
  if checkE e ≠ 0 then 1 else if badS p f then 2 else if manyB e (p.toNat + 1 + f.toNat) = true then 4 else if (builtE e p.toNat f.toNat).2 = true then 17 else 0
def dd0 : Dec := ⟨0, 0, 0, 0, 0, []⟩
def wbX (e : Enc) (p f : Int) : Dec := if wbN e p f = 0 then ⟨e.letters, e.block, e.inputs, p, f, (builtE e p.toNat f.toNat).1⟩ else dd0
theorem wb_one {e : Enc} {p f : Int} (h : checkE e ≠ 0) : wbN e p f = 1 := if_pos h
theorem wb_side {e : Enc} {p f : Int} (h : checkE e = 0) (h2 : badS p f) : wbN e p f = 2 := by unfold wbN; rw [if_neg (fun h3 => h3 h), if_pos h2]
theorem wb_many {e : Enc} {p f : Int} (h : checkE e = 0) (h2 : ¬ badS p f) (h3 : manyB e (p.toNat + 1 + f.toNat) = true) : wbN e p f = 4 := by unfold wbN; rw [if_neg (fun h3 => h3 h), if_neg h2, if_pos h3]
theorem wb_stop {e : Enc} {p f : Int} (h : checkE e = 0) (h2 : ¬ badS p f) (h3 : manyB e (p.toNat + 1 + f.toNat) = false) (h4 : (builtE e p.toNat f.toNat).2 = true) : wbN e p f = 17 := by
  unfold wbN; rw [if_neg (fun h3 => h3 h), if_neg h2, if_neg (by rw [h3]; simp), if_pos h4]
theorem wb_ok {e : Enc} {p f : Int} (h : checkE e = 0) (h2 : ¬ badS p f) (h3 : manyB e (p.toNat + 1 + f.toNat) = false) (h4 : (builtE e p.toNat f.toNat).2 = false) : wbN e p f = 0 := by
  unfold wbN; rw [if_neg (fun h3 => h3 h), if_neg h2, if_neg (by rw [h3]; simp), if_neg (by rw [h4]; simp)]
theorem wbX_no {e : Enc} {p f n : Int} (h : wbN e p f = n) (hn : n ≠ 0) : wbX e p f = dd0 := if_neg (by rw [h]; exact hn)
theorem wbX_ok {e : Enc} {p f : Int} (h : wbN e p f = 0) : wbX e p f = ⟨e.letters, e.block, e.inputs, p, f, (builtE e p.toNat f.toNat).1⟩ := if_pos h
theorem wb_zero {e : Enc} {p f : Int} (h : wbN e p f = 0) : checkE e = 0 ∧ ¬ badS p f ∧ manyB e (p.toNat + 1 + f.toNat) = false ∧ (builtE e p.toNat f.toNat).2 = false := by
  unfold wbN at h
  split at h
  · cases h
  · rename_i h1
    split at h
    · cases h
    · rename_i h2
      split at h
      · cases h
      · rename_i h3
        split at h
        · cases h
        · rename_i h4
          exact ⟨Classical.byContradiction h1, h2, by simpa using h3, by simpa using h4⟩

theorem stepE_asc {l : List Ent} {x : Ent} (h : Asc l) : Asc (stepE l x).1 := by
  unfold stepE
  cases hl : lookE l x.win with
  | some k => exact h
  | none => exact putE_asc h hl
theorem stepE_mem {l : List Ent} {x : Ent} (h : Asc l) (hn : (stepE l x).2 = false) (y : Ent) : y ∈ (stepE l x).1 ↔ y ∈ l ∨ y = x := by
  unfold stepE at hn ⊢
  cases hl : lookE l x.win with
  | some k =>
    rw [hl] at hn
    simp only [decide_eq_false_iff_not, ne_eq, Classical.not_not] at hn
    have hm := (look_some h).1 hl
    have hx : x ∈ l := by
      have : x = ⟨x.win, k⟩ := by rw [hn]
      rw [this]; exact hm
    exact ⟨.inl, fun h => h.elim id fun e => e ▸ hx⟩
  | none =>
    show y ∈ putE l x ↔ _
    rw [putE_perm.mem_iff, List.mem_cons]
    exact ⟨fun h => h.elim .inr .inl, fun h => h.elim .inr .inl⟩
theorem stepE_stop {l : List Ent} {x : Ent} (h : Asc l) (hn : (stepE l x).2 = true) : ∃ y ∈ l, y.win = x.win ∧ y.inp ≠ x.inp := by
  unfold stepE at hn
  cases hl : lookE l x.win with
  | some k =>
    rw [hl] at hn
    simp only [decide_eq_true_eq] at hn
    exact ⟨_, (look_some h).1 hl, rfl, hn⟩
  | none => rw [hl] at hn; cases hn
theorem go_asc : ∀ (L : List Ent) {m : List Ent}, Asc m → Asc (goS stepE m L).1
  | [], m, h => h
  | x :: L, m, h => by
    simp only [goS]
    split
    · exact stepE_asc h
    · exact go_asc L (stepE_asc h)
theorem go_mem : ∀ (L : List Ent) {m : List Ent}, Asc m → (goS stepE m L).2 = false → ∀ y, y ∈ (goS stepE m L).1 ↔ y ∈ m ∨ y ∈ L
  | [], m, h, _, y => by simp [goS]
  | x :: L, m, h, hn, y => by
    simp only [goS] at hn ⊢
    by_cases hs : (stepE m x).2 = true
    · rw [if_pos hs] at hn; cases hn
    · rw [if_neg hs] at hn ⊢
      rw [go_mem L (stepE_asc h) hn, stepE_mem h (by simpa using hs), List.mem_cons, or_assoc]
theorem go_stop : ∀ (L : List Ent) {m : List Ent}, Asc m → (goS stepE m L).2 = true → ∃ x ∈ L, ∃ y, (y ∈ m ∨ y ∈ L) ∧ y.win = x.win ∧ y.inp ≠ x.inp
  | [], m, h, hn => by cases hn
  | x :: L, m, h, hn => by
    simp only [goS] at hn
    by_cases hs : (stepE m x).2 = true
    · obtain ⟨y, hy, h1, h2⟩ := stepE_stop h hs
      exact ⟨x, List.mem_cons_self .., y, .inl hy, h1, h2⟩
    · rw [if_neg hs] at hn
      obtain ⟨z, hz, y, hy, h1, h2⟩ := go_stop L (stepE_asc h) hn
      refine ⟨z, List.mem_cons_of_mem _ hz, y, ?_, h1, h2⟩
      rw [stepE_mem h (by simpa using hs)] at hy
      rcases hy with (hy | rfl) | hy
      · exact .inl hy
      · exact .inr (List.mem_cons_self ..)
      · exact .inr (List.mem_cons_of_mem _ hy)
theorem asc_nil : Asc [] := List.Pairwise.nil
theorem built_asc {e : Enc} {p f : Nat} : Asc (builtE e p f).1 := go_asc _ asc_nil
theorem built_mem {e : Enc} {p f : Nat} (h : (builtE e p f).2 = false) (y : Ent) : y ∈ (builtE e p f).1 ↔ y ∈ pathsL e p f := by
  have := go_mem _ asc_nil h y
  unfold builtE
  simpa using this
theorem built_ok {e : Enc} {p f : Nat} : (builtE e p f).2 = false ↔ ∀ x ∈ pathsL e p f, ∀ y ∈ pathsL e p f, x.win = y.win → x.inp = y.inp := by
  constructor
  · intro h x hx y hy he
    have h1 := (built_mem h x).2 hx
    have h2 := (built_mem h y).2 hy
    rw [asc_inj built_asc h1 h2 he]
  · intro h
    cases hb : (builtE e p f).2 with
    | false => rfl
    | true =>
      obtain ⟨x, hx, y, hy, h1, h2⟩ := go_stop _ asc_nil hb
      rcases hy with hy | hy
      · cases hy
      · exact absurd (h y hy x hx h1) h2

theorem fs_hit {β : Type} {g : Nat → Option β} {n k : Nat} {v : β} (h0 : ∀ j, j < k → g j = none) (hk : k < n) (h : g k = some v) : (List.range n).findSome? g = some v := by
  have : List.range n = List.range k ++ k :: List.range' (k + 1) (n - k - 1) := by
    rw [List.range_eq_range', List.range_eq_range']
    have h1 : n = k + (1 + (n - k - 1)) := by omega
    conv => lhs; rw [h1, ← List.range'_append_1]
    congr 1
    rw [Nat.zero_add, Nat.add_comm 1, List.range'_succ]
  rw [this, List.findSome?_append, List.findSome?_cons, h]
  have h2 : (List.range k).findSome? g = none := by
    rw [List.findSome?_eq_none_iff]
    exact fun x hx => h0 x (List.mem_range.1 hx)
  rw [h2]; rfl
theorem fs_none {β : Type} {g : Nat → Option β} {n : Nat} (h0 : ∀ j, j < n → g j = none) : (List.range n).findSome? g = none := by
  rw [List.findSome?_eq_none_iff]
  exact fun x hx => h0 x (List.mem_range.1 hx)
def srchF (e : Enc) (n f : Nat) : Option (Nat × Nat) := if wbN e ((n : Int) - f) f ≠ 17 then some (n, f) else none
def srchO (e : Enc) (most : Nat) : Option (Nat × Nat) := (List.range (most + 1)).findSome? fun n => (List.range (n + 1)).findSome? (srchF e n)
def searchN (e : Enc) (most : Int) : Int := if checkE e ≠ 0 then 1 else if most < 0 ∨ 16 ≤ most then 2 else match srchO e most.toNat with
  | some (n, f) => wbN e ((n : Int) - f) f
  | none => 17
def searchX (e : Enc) (most : Int) : Dec := if checkE e ≠ 0 then dd0 else if most < 0 ∨ 16 ≤ most then dd0 else match srchO e most.toNat with
  | some (n, f) => wbX e ((n : Int) - f) f
  | none => dd0
/-- no earlier window suffices. -/
def NoW (e : Enc) (n f : Nat) : Prop := ∀ n' f', f' ≤ n' → (n' < n ∨ (n' = n ∧ f' < f)) → wbN e ((n' : Int) - f') f' = 17
theorem srch_hit {e : Enc} {most n f : Nat} (h0 : NoW e n f) (hn : n ≤ most) (hf : f ≤ n) (h : wbN e ((n : Int) - f) f ≠ 17) : srchO e most = some (n, f) := by
  refine fs_hit (k := n) (fun j hj => fs_none fun i hi => ?_) (by omega) (fs_hit (k := f) (fun i hi => ?_) (by omega) ?_)
  · unfold srchF; rw [if_neg (fun h2 => h2 (h0 j i (by omega) (.inl hj)))]
  · unfold srchF; rw [if_neg (fun h2 => h2 (h0 n i (by omega) (.inr ⟨rfl, hi⟩)))]
  · unfold srchF; rw [if_pos h]
theorem srch_none {e : Enc} {most : Nat} (h0 : NoW e (most + 1) 0) : srchO e most = none :=
  fs_none fun j hj => fs_none fun i hi => by unfold srchF; rw [if_neg (fun h2 => h2 (h0 j i (by omega) (.inl hj)))]
theorem NoW.next {e : Enc} {n f : Nat} (h : NoW e n f) (hf : wbN e ((n : Int) - f) f = 17) : NoW e n (f + 1) := fun n' f' h1 h2 => by
  rcases h2 with h2 | ⟨rfl, h2⟩
  · exact h n' f' h1 (.inl h2)
  · by_cases hc : f' < f
    · exact h n' f' h1 (.inr ⟨rfl, hc⟩)
    · obtain rfl : f' = f := by omega
      exact hf
theorem NoW.up {e : Enc} {n : Nat} (h : NoW e n (n + 1)) : NoW e (n + 1) 0 := fun n' f' h1 h2 => by
  rcases h2 with h2 | ⟨_, h2⟩
  · by_cases hc : n' < n
    · exact h n' f' h1 (.inl hc)
    · exact h n' f' h1 (.inr ⟨by omega, by omega⟩)
  · omega
theorem NoW.zero {e : Enc} : NoW e 0 0 := fun n' f' h1 h2 => by omega
def coversN (d : Dec) (e : Enc) : Int := if checkD d ≠ 0 ∨ checkE e ≠ 0 then 1 else if d.letters ≠ e.letters ∨ d.block ≠ e.block ∨ d.inputs ≠ e.inputs then 11 else if manyB e (d.past.toNat + 1 + d.future.toNat) = true then 4 else 0
def covE (d : Dec) (x : Ent) : Bool := decide (lookE d.ents x.win = some x.inp)
def coversB (d : Dec) (e : Enc) : Bool := decide (coversN d e = 0) && (pathsL e d.past.toNat d.future.toNat).all (covE d)
end Go.Proofs.Ytmdnpbilnelogaa
