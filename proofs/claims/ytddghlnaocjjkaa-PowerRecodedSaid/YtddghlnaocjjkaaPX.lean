/-
  Plain: blocks and labels are inverse to each other, and in the same order.
-/
import Derived.Test.YtddghlnaocjjkaaPU
namespace Go.Proofs.Ytddghlnaocjjkaa
set_option linter.unusedSimpArgs false
set_option linter.unusedVariables false
open Go Go.Lift

theorem valW_div {q : Int} {w : List UInt8} (hq : 1 ≤ q) (hd : Dig q w) : ∀ {d k : Nat}, k + d = w.length → valW q w / q ^ d = valW q (w.take k)
  | 0, k, h => by
    have : k = w.length := by omega
    subst this
    simp
  | d + 1, k, h => by
    have h1 := valW_div hq hd (d := d) (k := k + 1) (by omega)
    have h2 := hd k (by omega)
    have h0 := (valW_lt hq hd (k := w.length) (Nat.le_refl _)).1
    rw [List.take_length] at h0
    rw [← div_step hq h0, h1, valW_step (by omega), Int.add_ediv_of_dvd_left (Int.dvd_mul_left ..), Int.mul_ediv_cancel _ (by omega), Int.ediv_eq_zero_of_lt h2.1 h2.2, Int.add_zero]
theorem ltr_idx {c : UInt8} (h : 0 ≤ idxB letters c) : ltr (idxB letters c) = c := by
  obtain ⟨k, h1, h2, h3⟩ := first_at letters c (idxB_ge.1 h)
  rw [idxB_some letters c k h1 h2 h3]
  exact h3
theorem block_label {q : Int} {w : List UInt8} (hq : 1 ≤ q) (hd : Dig q w) : blockL q w.length (valW q w) = w := by
  apply List.ext_getElem
  · simp
  · intro j h1 h2
    have e := blockL_at (q := q) (l := valW q w) h2
    rw [getD_get h1] at e
    have h3 := hd j h2
    rw [e, valW_div hq hd (d := w.length - 1 - j) (k := j + 1) (by omega), valW_step h2, Int.add_comm, Int.add_mul_emod_self_right, Int.emod_eq_of_lt h3.1 h3.2, ltr_idx h3.1, getD_get h2]
theorem block_label_ok {q : Int} {w : List UInt8} (hq : 1 ≤ q ∧ q ≤ 16) (hd : Dig q w) (hl : w.length ≤ 16) : blockN q w.length (valW q w) = 0 ∧ blockX q w.length (valW q w) = w := by
  have h0 := valW_lt hq.1 hd (k := w.length) (Nat.le_refl _)
  rw [List.take_length] at h0
  have hN : blockN q w.length (valW q w) = 0 := by
    unfold blockN
    rw [if_neg (by omega), if_neg (by omega), Int.toNat_natCast, Int.ediv_eq_zero_of_lt h0.1 h0.2, if_neg (by omega)]
  refine ⟨hN, ?_⟩
  rw [block_ok hN, Int.toNat_natCast, block_label hq.1 hd]
theorem val_cons {q : Int} {c : UInt8} {w : List UInt8} : valW q (c :: w) = idxB letters c * q ^ w.length + valW q w := by
  have key : ∀ (w : List UInt8) (a : Int), w.foldl (fun a c => a * q + idxB letters c) a = a * q ^ w.length + valW q w := by
    intro w
    induction w with
    | nil => intro a; simp [valW]
    | cons x w ih =>
      intro a
      have h2 : valW q (x :: w) = (0 * q + idxB letters x) * q ^ w.length + valW q w := by
        show (x :: w).foldl _ 0 = _
        rw [List.foldl_cons, ih]
      rw [List.foldl_cons, ih, h2, List.length_cons, Int.pow_succ', Int.add_mul, Int.add_mul]
      rw [Int.zero_mul, Int.zero_mul, Int.zero_add, Int.mul_assoc, Int.add_assoc]
  have := key w (0 * q + idxB letters c)
  show (c :: w).foldl _ 0 = _
  rw [List.foldl_cons, this, Int.zero_mul, Int.zero_add]
theorem dig_cons {q : Int} {c : UInt8} {w : List UInt8} (h : Dig q (c :: w)) : (0 ≤ idxB letters c ∧ idxB letters c < q) ∧ Dig q w :=
  ⟨by simpa using h 0 (by simp), fun k hk => by simpa using h (k + 1) (by simpa using hk)⟩
/-- the letters are in the order of their bytes. -/
theorem idx_lt {a b : UInt8} (ha : 0 ≤ idxB letters a) (hb : 0 ≤ idxB letters b) : idxB letters a < idxB letters b ↔ a < b := by
  obtain ⟨i, h1, h2, h3⟩ := first_at letters a (idxB_ge.1 ha)
  obtain ⟨j, k1, k2, k3⟩ := first_at letters b (idxB_ge.1 hb)
  rw [idxB_some letters a i h1 h2 h3, idxB_some letters b j k1 k2 k3, ← h3, ← k3]
  have : ∀ i, i < 16 → ∀ j, j < 16 → (i < j ↔ letters.getD i 0 < letters.getD j 0) := by decide
  rw [← this i h1 j k1]; omega
theorem idx_inj {a b : UInt8} (ha : 0 ≤ idxB letters a) (h : idxB letters a = idxB letters b) : a = b := by
  rw [← ltr_idx ha, h, ltr_idx (by omega)]
theorem val_order {q : Int} (hq : 1 ≤ q) : ∀ {u v : List UInt8}, u.length = v.length → Dig q u → Dig q v → (valW q u < valW q v ↔ Op.bytesLess u v = true) ∧ (valW q u = valW q v ↔ u = v)
  | [], [], _, _, _ => by simp [Op.bytesLess]
  | [], _ :: _, h, _, _ => by simp at h
  | _ :: _, [], h, _, _ => by simp at h
  | a :: u, b :: v, h, hu, hv => by
    obtain ⟨ha, hu2⟩ := dig_cons hu
    obtain ⟨hb, hv2⟩ := dig_cons hv
    have hl : u.length = v.length := by simpa using h
    obtain ⟨i1, i2⟩ := val_order hq hl hu2 hv2
    have bu := valW_lt hq hu2 (k := u.length) (Nat.le_refl _)
    have bv := valW_lt hq hv2 (k := v.length) (Nat.le_refl _)
    rw [List.take_length] at bu bv
    rw [val_cons, val_cons, ← hl]
    rw [← hl] at bv
    have hp : 1 ≤ q ^ u.length := Int.pow_pos (by omega)
    rcases Int.lt_trichotomy (idxB letters a) (idxB letters b) with h1 | h1 | h1
    · have h2 := (idx_lt ha.1 hb.1).1 h1
      have h3 : (idxB letters a + 1) * q ^ u.length ≤ idxB letters b * q ^ u.length := Int.mul_le_mul_of_nonneg_right (by omega) (by omega)
      rw [Int.add_mul, Int.one_mul] at h3
      have hne : a ≠ b := fun e => by subst e; omega
      refine ⟨⟨fun _ => by unfold Op.bytesLess; simp [h2], fun _ => by omega⟩, ⟨fun e => by omega, fun e => absurd (List.cons.inj e).1 hne⟩⟩
    · have h2 := idx_inj ha.1 h1
      subst h2
      refine ⟨?_, ?_⟩
      · rw [show Op.bytesLess (a :: u) (a :: v) = Op.bytesLess u v by simp [Op.bytesLess], ← i1]; omega
      · constructor
        · intro e; rw [i2.1 (by omega)]
        · intro e; rw [i2.2 (List.cons.inj e).2]
    · have h2 := (idx_lt hb.1 ha.1).1 h1
      have h3 : (idxB letters b + 1) * q ^ u.length ≤ idxB letters a * q ^ u.length := Int.mul_le_mul_of_nonneg_right (by omega) (by omega)
      rw [Int.add_mul, Int.one_mul] at h3
      have hne : a ≠ b := fun e => by subst e; omega
      have h4 : ¬ a < b := fun h => by have := (idx_lt ha.1 hb.1).2 h; omega
      refine ⟨⟨fun e => by omega, fun e => by unfold Op.bytesLess at e; simp [h4] at e; exact absurd e.1 hne⟩, ⟨fun e => by omega, fun e => absurd (List.cons.inj e).1 hne⟩⟩
theorem label_same {q : Int} {u v : List UInt8} (hl : u.length = v.length) (hu : wordCheck q u = 0) (hv : wordCheck q v = 0) : labelN q u = labelN q v := by
  unfold labelN; rw [hu, hv, hl]
theorem label_four {q : Int} {u : List UInt8} (hu : wordCheck q u = 0) (hl : u.length ≤ 16) (h : labelN q u ≠ 0) : labelN q u = 4 := by
  unfold labelN at h ⊢
  rw [hu] at h ⊢
  simp only [ne_eq, not_true_eq_false, if_false] at h ⊢
  rw [if_neg (by omega)] at h ⊢
  split
  · rfl
  · rename_i h2; rw [if_neg h2] at h; exact absurd rfl h
end Go.Proofs.Ytddghlnaocjjkaa
