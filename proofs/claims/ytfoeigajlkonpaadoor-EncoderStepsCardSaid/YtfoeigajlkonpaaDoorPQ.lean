/-
  Plain: powers of numbers up to a limit, bits.
-/
import Derived.Test.YtfoeigajlkonpaaDoorPI
namespace Go.Proofs.YtfoeigajlkonpaaDoor
set_option linter.unusedSimpArgs false
set_option linter.unusedVariables false
open Go Go.Lift

def great9 (g : Gr) : Prop := 30 < (g.edges.length : Int) ∨ (10 < g.states ∧ g.states ≤ 64)
instance (g : Gr) : Decidable (great9 g) := inferInstanceAs (Decidable (_ ∨ _))

/-- q to the n, or the first power that is greater than 256. -/
def upTo (q : Int) : Nat → Int
  | 0 => 1
  | n + 1 => if 256 < upTo q n then upTo q n else upTo q n * q
theorem upTo_low {q : Int} : ∀ {n : Nat}, upTo q n ≤ 256 → upTo q n = q ^ n
  | 0, _ => by simp [upTo]
  | n + 1, h => by
    unfold upTo at h ⊢
    split at h
    · omega
    · rename_i h2
      rw [if_neg h2, upTo_low (n := n) (by omega), Int.pow_succ]
theorem upTo_pow {q : Int} : ∀ {n : Nat}, (∀ k, k < n → q ^ k ≤ 256) → upTo q n = q ^ n
  | 0, _ => by simp [upTo]
  | n + 1, h => by
    have h1 := upTo_pow (n := n) fun k hk => h k (by omega)
    have h2 := h n (by omega)
    unfold upTo
    rw [h1, if_neg (by omega), Int.pow_succ]
theorem upTo_stay {q : Int} {k : Nat} (h : 256 < upTo q k) : ∀ {n : Nat}, k ≤ n → upTo q n = upTo q k
  | 0, hn => by have : k = 0 := by omega
                rw [this]
  | n + 1, hn => by
    rcases Nat.lt_or_ge n k with h1 | h1
    · rw [show n + 1 = k by omega]
    · have h2 := upTo_stay h h1
      rw [upTo, h2, if_pos h]
theorem pow_mono_le {q : Int} (hq : 1 ≤ q) {k n : Nat} (h : k ≤ n) : q ^ k ≤ q ^ n := by
  obtain ⟨d, rfl⟩ : ∃ d, n = k + d := ⟨n - k, by omega⟩
  rw [Int.pow_add]
  have h1 : 1 ≤ q ^ d := Int.pow_pos (by omega)
  have h0 : 1 ≤ q ^ k := Int.pow_pos (by omega)
  calc q ^ k = q ^ k * 1 := by omega
    _ ≤ q ^ k * q ^ d := Int.mul_le_mul_of_nonneg_left h1 (by omega)
/-- the limit is kept exactly if the power is not greater. -/
theorem upTo_iff {q : Int} (hq : 1 ≤ q) {n : Nat} : upTo q n ≤ 256 ↔ q ^ n ≤ 256 := by
  constructor
  · intro h; rw [← upTo_low h]; exact h
  · intro h
    rw [upTo_pow fun k hk => Int.le_trans (pow_mono_le hq (by omega)) h]
    exact h
theorem mul_box {a q : Int} (h1 : 1 ≤ a) (h2 : a ≤ 256) (hq : 1 ≤ q ∧ q ≤ 256) : 1 ≤ a * q ∧ a * q ≤ 65536 := by
  constructor
  · have := Int.mul_le_mul h1 hq.1 (by omega) (by omega); omega
  · have := Int.mul_le_mul h2 hq.2 (by omega) (by omega); omega
theorem upTo_over {q : Int} {k n : Nat} (hle : ∀ j, j ≤ k → q ^ j ≤ 256) (h : 256 < q ^ k * q) (hn : k < n) : q ^ k * q = upTo q n := by
  have h1 : upTo q (k + 1) = q ^ (k + 1) := upTo_pow fun j hj => hle j (by omega)
  rw [upTo_stay (k := k + 1) (by rw [h1, Int.pow_succ]; exact h) (by omega), h1, Int.pow_succ]

/-- a set of numbers below k, as bits. -/
def msk (f : Nat → Bool) : Nat → Nat
  | 0 => 0
  | k + 1 => msk f k ||| (if f k then 2 ^ k else 0)
theorem msk_bit {f : Nat → Bool} : ∀ {k t : Nat}, (msk f k).testBit t = (decide (t < k) && f t)
  | 0, t => by simp [msk]
  | k + 1, t => by
    rw [msk, Nat.testBit_or, msk_bit]
    by_cases h : f k = true
    · rw [if_pos h, Nat.testBit_two_pow]
      by_cases h2 : k = t
      · subst h2; simp [h]
      · have : decide (t < k + 1) = decide (t < k) := by rw [decide_eq_decide]; omega
        simp [h2, this]
    · rw [if_neg h]
      by_cases h2 : t = k
      · subst h2; simp [h]
      · have : decide (t < k + 1) = decide (t < k) := by rw [decide_eq_decide]; omega
        simp [this]
theorem msk_lt {f : Nat → Bool} : ∀ {k : Nat}, msk f k < 2 ^ k
  | 0 => by simp [msk]
  | k + 1 => by
    rw [msk]
    apply Nat.or_lt_two_pow
    · exact Nat.lt_of_lt_of_le msk_lt (Nat.pow_le_pow_right (by omega) (by omega))
    · split
      · exact Nat.pow_lt_pow_right (by omega) (by omega)
      · exact Nat.two_pow_pos _
def m64 (f : Nat → Bool) : Nat := msk f 64
theorem m64_bit {f : Nat → Bool} {t : Nat} : (m64 f).testBit t = (decide (t < 64) && f t) := msk_bit
theorem m64_lt {f : Nat → Bool} : m64 f < 18446744073709551616 := msk_lt
@[simp] theorem m64_le {f : Nat → Bool} : (m64 f : Int) ≤ 18446744073709551615 := by have := @m64_lt f; omega
theorem m64_ext {n : Nat} {f : Nat → Bool} (h : ∀ t, n.testBit t = (decide (t < 64) && f t)) : n = m64 f :=
  Nat.eq_of_testBit_eq fun t => by rw [h, m64_bit]
theorem m64_congr {f g : Nat → Bool} (h : ∀ t, t < 64 → f t = g t) : m64 f = m64 g := m64_ext fun t => by
  rw [m64_bit]
  by_cases ht : t < 64
  · rw [h t ht]
  · simp [ht]
theorem m64_none : m64 (fun _ => false) = 0 := (m64_ext fun t => by simp).symm
theorem m64_or {f g : Nat → Bool} : m64 f ||| m64 g = m64 fun t => f t || g t := m64_ext fun t => by
  rw [Nat.testBit_or, m64_bit, m64_bit]; cases decide (t < 64) <;> simp
theorem m64_put {f : Nat → Bool} {u : Nat} (hu : u < 64) : m64 f ||| 2 ^ u = m64 fun t => f t || decide (t = u) := m64_ext fun t => by
  rw [Nat.testBit_or, m64_bit, Nat.testBit_two_pow]
  by_cases h : t = u
  · subst h; simp [hu]
  · have : ¬ u = t := fun e => h e.symm
    simp [h, this]
/-- the code's test of a bit. -/
theorem bit_test {n t : Nat} : (bandI ((n : Int) / 2 ^ t) 1 = 1) ↔ n.testBit t = true := by
  unfold bandI
  have h1 : ((n : Int) / 2 ^ t).toNat = n / 2 ^ t := by
    have : ((n : Int) / 2 ^ t) = ((n / 2 ^ t : Nat) : Int) := by simp
    rw [this]; rfl
  rw [h1, Nat.testBit_eq_decide_div_mod_eq]
  simp only [decide_eq_true_eq]
  rw [show ((1 : Int).toNat) = 1 from rfl, Nat.and_one_is_mod]
  omega
@[simp] theorem bandI_test {f : Nat → Bool} {t : Nat} (ht : t < 64) : (bandI ((m64 f : Nat) / 2 ^ t) 1 = 1) = (f t = true) := by
  rw [eq_iff_iff, bit_test, m64_bit]; simp [ht]
theorem borI_m64 {f g : Nat → Bool} : borI (m64 f : Nat) (m64 g : Nat) = (m64 fun t => f t || g t : Nat) := by
  unfold borI; rw [Int.toNat_natCast, Int.toNat_natCast, m64_or]
theorem borI_put {f : Nat → Bool} {u : Nat} (hu : u < 64) : borI (m64 f : Nat) (1 * 2 ^ u) = (m64 fun t => f t || decide (t = u) : Nat) := by
  unfold borI
  have : ((1 * 2 ^ u : Int)).toNat = 2 ^ u := by
    rw [Int.one_mul]
    have : ((2 : Int) ^ u) = ((2 ^ u : Nat) : Int) := by simp
    rw [this]; rfl
  rw [this, Int.toNat_natCast, m64_put hu]
theorem pow_box {u : Nat} (hu : u < 64) : (1 * 2 ^ u : Int) ≤ 18446744073709551615 := by
  have h : (2 : Nat) ^ u ≤ 2 ^ 63 := Nat.pow_le_pow_right (by omega) (by omega)
  have : ((2 : Int) ^ u) = ((2 ^ u : Nat) : Int) := by simp
  rw [Int.one_mul, this]; omega
end Go.Proofs.YtfoeigajlkonpaaDoor
