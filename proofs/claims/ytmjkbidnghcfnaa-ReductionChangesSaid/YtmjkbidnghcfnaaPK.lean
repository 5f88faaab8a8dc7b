/-
  Plain: what an encoder writes.
-/
import Derived.Test.YtmjkbidnghcfnaaPF
namespace Go.Proofs.Ytmjkbidnghcfnaa
set_option linter.unusedVariables false
open Go Go.Lift

/-- what is written from a state, and where it ends. -/
def runE (e : Enc) (s : Int) : List Int → List UInt8 × Int
  | [] => ([], s)
  | i :: r => ((cellAt e s.toNat i.toNat).word ++ (runE e (cellAt e s.toNat i.toNat).to r).1, (runE e (cellAt e s.toNat i.toNat).to r).2)
theorem runE_snoc {e : Enc} : ∀ {l : List Int} {s i : Int}, runE e s (l ++ [i]) = ((runE e s l).1 ++ (cellAt e (runE e s l).2.toNat i.toNat).word, (cellAt e (runE e s l).2.toNat i.toNat).to)
  | [], s, i => by simp [runE]
  | x :: l, s, i => by
    simp only [List.cons_append, runE]
    rw [runE_snoc (l := l)]
    simp
theorem runE_take {e : Enc} {l : List Int} {s : Int} {k : Nat} (hk : k < l.length) : runE e s (l.take (k + 1)) = ((runE e s (l.take k)).1 ++ (cellAt e (runE e s (l.take k)).2.toNat (l.getD k 0).toNat).word, (cellAt e (runE e s (l.take k)).2.toNat (l.getD k 0).toNat).to) := by
  have : l.take (k + 1) = l.take k ++ [l.getD k 0] := by
    rw [List.take_add_one, List.getElem?_eq_getElem hk]
    simp [List.getD, hk]
  rw [this, runE_snoc]

/-- inputs of an encoder. -/
def badI (e : Enc) (i : Int) : Bool := decide (i < 0) || decide (e.inputs ≤ i)
theorem cell_wlen {e : Enc} (h : checkE e = 0) {s i : Nat} (hs : s < e.rows.length) (hi : i < (e.rows.getD s []).length) : ((cellAt e s i).word.length : Int) = e.block := by
  have h1 := (rowCheck_valid ((checkE_valid h).2.2.2 _ (getD_mem (d := []) hs))).2 _ (getD_mem (d := dc) hi)
  unfold cellCheck at h1
  unfold cellAt
  split at h1
  · cases h1
  · split at h1
    · cases h1
    · rename_i h2
      exact Classical.byContradiction fun h3 => h2 (.inl h3)
theorem bad_no {e : Enc} {i : Int} : badI e i = false ↔ 0 ≤ i ∧ i < e.inputs := by
  simp [badI]
theorem runE_ok {e : Enc} (hv : checkE e = 0) : ∀ {l : List Int} {s : Int}, 0 ≤ s → s < (e.rows.length : Int) → (∀ i ∈ l, badI e i = false) →
    0 ≤ (runE e s l).2 ∧ (runE e s l).2 < (e.rows.length : Int) ∧ ((runE e s l).1.length : Int) = (l.length : Int) * e.block
  | [], s, h0, h1, _ => by simp [runE]; omega
  | i :: l, s, h0, h1, h2 => by
    have hi := bad_no.1 (h2 i (by simp))
    have hr := row_eq hv (k := s.toNat) (by omega)
    have hc := cell_to hv (s := s.toNat) (i := i.toNat) (by omega) (by omega)
    have hw := cell_wlen hv (s := s.toNat) (i := i.toNat) (by omega) (by omega)
    obtain ⟨k1, k2, k3⟩ := runE_ok hv (l := l) (s := (cellAt e s.toNat i.toNat).to) hc.1 hc.2 (fun x hx => h2 x (by simp [hx]))
    simp only [runE]
    refine ⟨k1, k2, ?_⟩
    rw [List.length_append, Int.natCast_add, k3, hw, List.length_cons, Int.natCast_add, Int.add_mul]
    omega

theorem mul_bd {a b c : Int} (ha : 0 ≤ a ∧ a ≤ c) (hb : 1 ≤ b ∧ b ≤ 16) : 0 ≤ a * b ∧ a * b ≤ c * 16 := ⟨Int.mul_nonneg ha.1 (by omega), Int.le_trans (Int.mul_le_mul_of_nonneg_right ha.2 (by omega)) (Int.mul_le_mul_of_nonneg_left hb.2 (by omega))⟩
theorem run_at {e : Enc} (hv : checkE e = 0) {s : Int} {l : List Int} (h0 : 0 ≤ s) (h1 : s < (e.rows.length : Int)) (hg : l.any (badI e) = false) (hm : (l.length : Int) * e.block ≤ 65536) {k : Nat} (hk : k ≤ l.length) :
    (0 ≤ (runE e s (l.take k)).2 ∧ (runE e s (l.take k)).2 < (e.rows.length : Int)) ∧ ((runE e s (l.take k)).1.length : Int) = (k : Int) * e.block ∧ (runE e s (l.take k)).1.length ≤ 65536 := by
  have hb := (checkE_valid hv).1.block
  have hg' : ∀ x ∈ l.take k, badI e x = false := fun x hx => by
    have := List.any_eq_false.1 hg x (List.mem_of_mem_take hx)
    simpa using this
  obtain ⟨k1, k2, k3⟩ := runE_ok hv h0 h1 hg'
  rw [List.length_take, Nat.min_eq_left hk] at k3
  refine ⟨⟨k1, k2⟩, k3, ?_⟩
  have : (k : Int) * e.block ≤ l.length * e.block := Int.mul_le_mul_of_nonneg_right (by omega) (by omega)
  omega
theorem good_at {e : Enc} {l : List Int} (hg : l.any (badI e) = false) {k : Nat} (hk : k < l.length) : badI e (l.getD k 0) = false := by
  have := List.any_eq_false.1 hg _ (getD_mem (d := 0) hk)
  simpa using this
theorem run_ne {e : Enc} {w : List UInt8} {k : Nat} (hb : 1 ≤ e.block) (hk : 0 < k) (h : (w.length : Int) = (k : Int) * e.block) : w ≠ [] := by
  rintro rfl
  have := Int.mul_le_mul_of_nonneg_left hb (show (0 : Int) ≤ k by omega)
  simp only [List.length_nil] at h
  omega

/-- what Encode answers. -/
def encodeN (e : Enc) (s : Int) (l : List Int) : Int :=
  if checkE e ≠ 0 then 1 else if s < 0 ∨ (e.rows.length : Int) ≤ s then 25 else if l.any (badI e) = true then 2 else if 65536 < (l.length : Int) * e.block then 4 else 0
def encodeW (e : Enc) (s : Int) (l : List Int) : List UInt8 := if encodeN e s l = 0 then (runE e s l).1 else []
def encodeT (e : Enc) (s : Int) (l : List Int) : Int := if encodeN e s l = 0 then (runE e s l).2 else 0
def encodeR (e : Enc) (s : Int) (l : List Int) : AVal := .tup 3 (fun j => [.str (encodeW e s l), .int .i64 (encodeT e s l), .int .i64 (encodeN e s l)].getD j .any)
theorem encodeR_err {e : Enc} {s : Int} {l : List Int} {n : Int} (h : encodeN e s l = n) (hn : n ≠ 0) : encodeR e s l = .tup 3 (fun j => [.str [], .int .i64 0, .int .i64 n].getD j .any) := by
  unfold encodeR encodeW encodeT
  rw [h, if_neg hn, if_neg hn]
theorem encodeR_ok {e : Enc} {s : Int} {l : List Int} (h : encodeN e s l = 0) : encodeR e s l = .tup 3 (fun j => [.str (runE e s l).1, .int .i64 (runE e s l).2, .int .i64 0].getD j .any) := by
  unfold encodeR encodeW encodeT
  rw [if_pos h, if_pos h, h]
end Go.Proofs.Ytmjkbidnghcfnaa
