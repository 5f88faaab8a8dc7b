/- Parts of the proof: VA. -/
import Derived.Sort.Walk0
import Derived.Test.YtoafgeobhhlplaaZF10
import Derived.Test.YtoafgeobhhlplaaZF11
import Derived.Test.YtoafgeobhhlplaaZF13
import Derived.Test.YtoafgeobhhlplaaZF21
import Derived.Test.YtoafgeobhhlplaaZF22
namespace Go.Proofs.Ytoafgeobhhlplaa
set_option linter.unusedSimpArgs false
set_option linter.unusedVariables false
open Go Go.Lift Go.Proofs
@[simp] theorem VLe_fn_fn {h : Heap} {σ : Lift.Id → Lift.Id} {fz : Nat → Bool} {vz : Lift.Id → Bool} {y g n g' n' : Nat} {f f' : Nat → AVal} : VLe h σ fz vz y (.fn g n f) (.fn g' n' f') = (g' = g ∧ n' = n ∧ ∀ j, j < n → VLe h σ fz vz y (f j) (f' j)) := rfl
@[simp] theorem VLe_vptr_ptr {h : Heap} {σ : Lift.Id → Lift.Id} {fz : Nat → Bool} {vz : Lift.Id → Bool} {y s off k off' : Nat} {id : Lift.Id} {f : Nat → AVal} : VLe h σ fz vz y (.vptr s f off) (.ptr id k off') = (off' = off ∧ fz id.1 = true ∧ match lkH h id with
    | some (.arr N s' g) => s' = s ∧ k < N ∧ ∀ j, j < s → (f j).one = true ∧ VLe h σ fz vz y (f j) (g k j)
    | _ => False) := by
  simp only [VLe]
  cases lkH h id with
  | none => rfl
  | some o => cases o <;> rfl
theorem idxp (s : List UInt8) (b : UInt8) : PX Try.prog 101 [.str s, .int .u8 b.toNat] (.int .i64 (idxB s b)) := indexByte_px (fn := Try.f101) (by kernel_rfl) (by decide +kernel) (by decide +kernel) (by kernel_rfl) (by kernel_rfl) s b
theorem less_irrefl (a : List UInt8) : Op.bytesLess a a = false := by
  rw [Go.Proofs.bytesLess_eq, decide_eq_false_iff_not]
  exact List.lt_irrefl a
theorem less_trans {a b c : List UInt8} (h1 : Op.bytesLess a b = true) (h2 : Op.bytesLess b c = true) : Op.bytesLess a c = true := by
  rw [Go.Proofs.bytesLess_eq, decide_eq_true_eq] at *
  exact List.lt_trans h1 h2
theorem less_total {a b : List UInt8} (h1 : Op.bytesLess a b = false) (h2 : Op.bytesLess b a = false) : a = b := by
  rw [Go.Proofs.bytesLess_eq, decide_eq_false_iff_not] at *
  exact List.le_antisymm (List.not_lt.1 h2) (List.not_lt.1 h1)
theorem less_asymm {a b : List UInt8} (h : Op.bytesLess a b = true) : Op.bytesLess b a = false := by
  cases h2 : Op.bytesLess b a with
  | false => rfl
  | true => have := less_trans h h2; rw [less_irrefl] at this; cases this
def cmpS (a b : List UInt8) : Int := if Op.bytesLess a b = true then -1 else if Op.bytesLess b a = true then 1 else 0
theorem cmpS_neg {a b : List UInt8} : cmpS a b < 0 ↔ Op.bytesLess a b = true := by
  unfold cmpS
  split
  · rename_i h; simp [h]
  · rename_i h; split <;> simp [h]
theorem cmpS_zero {a b : List UInt8} : cmpS a b = 0 ↔ a = b := by
  unfold cmpS
  split
  · rename_i h; constructor
    · intro e; cases e
    · intro e; rw [e, less_irrefl] at h; cases h
  · rename_i h1; split
    · rename_i h; constructor
      · intro e; cases e
      · intro e; rw [e, less_irrefl] at h; cases h
    · rename_i h2; exact ⟨fun _ => less_total (by simpa using h1) (by simpa using h2), fun _ => rfl⟩
theorem less_diff : ∀ {a b : List UInt8} {i : Nat}, i < a.length → i < b.length → (∀ j, j < i → a.getD j 0 = b.getD j 0) → a.getD i 0 < b.getD i 0 → Op.bytesLess a b = true
  | x :: a, y :: b, 0, _, _, _, h => by
    simp only [List.getD_cons_zero] at h
    simp [Op.bytesLess, h]
  | x :: a, y :: b, i + 1, h1, h2, h3, h => by
    have hx := h3 0 (Nat.succ_pos _)
    simp only [List.getD_cons_zero] at hx
    have := less_diff (a := a) (b := b) (i := i) (by simpa using h1) (by simpa using h2) (fun j hj => by simpa using h3 (j + 1) (by omega)) (by simpa using h)
    simp [Op.bytesLess, hx, this]
  | [], _, i, h1, _, _, _ => absurd h1 (Nat.not_lt_zero i)
  | _ :: _, [], i, _, h2, _, _ => absurd h2 (Nat.not_lt_zero i)
theorem less_pre : ∀ {a b : List UInt8}, a.length < b.length → (∀ j, j < a.length → a.getD j 0 = b.getD j 0) → Op.bytesLess a b = true
  | [], y :: b, _, _ => rfl
  | x :: a, y :: b, h1, h3 => by
    have hx := h3 0 (Nat.succ_pos _)
    simp only [List.getD_cons_zero] at hx
    have := less_pre (a := a) (b := b) (by simpa using h1) (fun j hj => by simpa using h3 (j + 1) (by simpa using hj))
    simp [Op.bytesLess, hx, this]
  | _, [], h1, _ => absurd h1 (Nat.not_lt_zero _)
theorem cmpS_lt {a b : List UInt8} (h : Op.bytesLess a b = true) : cmpS a b = -1 := if_pos h
theorem cmpS_gt {a b : List UInt8} (h : Op.bytesLess b a = true) : cmpS a b = 1 := by unfold cmpS; rw [if_neg (by rw [less_asymm h]; simp), if_pos h]
theorem get_bang (s : List UInt8) (i : Nat) (hi : i < s.length) : (ByteArray.mk ⟨s⟩)[i]! = s.getD i 0 := by
  have hsz : i < (ByteArray.mk ⟨s⟩).size := hi
  rw [getElem!_pos (ByteArray.mk ⟨s⟩) i hsz]
  show s[i] = _
  simp [List.getD, hi]
theorem cmp_cmpS (a b : List UInt8) : Extern.BytealgCompare.cmp ⟨⟨a⟩⟩ ⟨⟨b⟩⟩ = cmpS a b := by
  unfold Extern.BytealgCompare.cmp
  have h1 : (ByteArray.mk ⟨a⟩).size = a.length := rfl
  have h2 : (ByteArray.mk ⟨b⟩).size = b.length := rfl
  rw [h1, h2]
  cases hf : (List.range (min a.length b.length)).find? fun i => (ByteArray.mk ⟨a⟩)[i]! != (ByteArray.mk ⟨b⟩)[i]! with
  | some i =>
    rw [List.find?_range_eq_some] at hf
    obtain ⟨e1, e2, e3⟩ := hf
    have hi : i < min a.length b.length := by simpa using e2
    have hne : a.getD i 0 ≠ b.getD i 0 := by
      rw [get_bang a i (by omega), get_bang b i (by omega)] at e1
      simpa using e1
    have heq : ∀ j, j < i → a.getD j 0 = b.getD j 0 := fun j hj => by
      have := e3 j hj
      rw [get_bang a j (by omega), get_bang b j (by omega)] at this
      simpa using this
    simp only
    rw [get_bang a i (by omega), get_bang b i (by omega)]
    by_cases hl : a.getD i 0 < b.getD i 0
    · rw [if_pos hl, cmpS_lt (less_diff (by omega) (by omega) heq hl)]
    · have hg : b.getD i 0 < a.getD i 0 := by
        rcases Nat.lt_trichotomy (a.getD i 0).toNat (b.getD i 0).toNat with h | h | h
        · exact absurd (UInt8.lt_iff_toNat_lt.2 h) hl
        · exact absurd (UInt8.toNat_inj.1 h) hne
        · exact UInt8.lt_iff_toNat_lt.2 h
      rw [if_neg hl, cmpS_gt (less_diff (by omega) (by omega) (fun j hj => (heq j hj).symm) hg)]
  | none =>
    rw [List.find?_eq_none] at hf
    have heq : ∀ j, j < min a.length b.length → a.getD j 0 = b.getD j 0 := fun j hj => by
      have := hf j (List.mem_range.2 hj)
      rw [get_bang a j (by omega), get_bang b j (by omega)] at this
      simpa using this
    simp only
    by_cases hl : a.length < b.length
    · rw [if_pos hl, cmpS_lt (less_pre hl fun j hj => heq j (by omega))]
    · rw [if_neg hl]
      by_cases hg : a.length > b.length
      · rw [if_pos hg, cmpS_gt (less_pre hg fun j hj => (heq j (by omega)).symm)]
      · rw [if_neg hg]
        have : a = b := List.ext_getElem (by omega) fun j hj1 hj2 => by
          have := heq j (by omega)
          simpa [List.getD, hj1, hj2] using this
        subst this
        exact (cmpS_zero.2 rfl).symm
theorem cmp_px (a b : List UInt8) : PX Try.prog 102 [.str a, .str b] (.int .i64 (cmpS a b)) := by
  rintro c vals hargs
  match vals, hargs with
  | [x, y], ⟨h1, h2, _⟩ =>
    simp only [Rel] at h1 h2
    subst h1 h2
    refine ⟨.int .i64 (cmpS a b), fun w => ?_, fun _ => rfl⟩
    rw [run_callFunc_extern (fn := Try.f102) (by kernel_rfl) (by decide +kernel) (by decide +kernel) (by kernel_rfl) (show Extern.find _ = some Extern.BytealgCompare.compare from by kernel_rfl)]
    have : Extern.BytealgCompare.compare [Value.string ⟨⟨a⟩⟩, .string ⟨⟨b⟩⟩].toArray = (do pure (goInt (Extern.BytealgCompare.cmp (← Extern.Bytes.bytesOf (.string ⟨⟨a⟩⟩)) (← Extern.Bytes.bytesOf (.string ⟨⟨b⟩⟩))))) := rfl
    rw [this]
    simp only [Extern.Bytes.bytesOf, Sem.run_bind, Sem.run_pure, Result.andThen_ok, cmp_cmpS]
    rfl
theorem less_dec {a b : List UInt8} : Op.bytesLess a b = decide (a < b) := Go.Proofs.bytesLess_eq a b
def orL (l : List Int) : Int := (l.find? fun x => decide (x ≠ 0)).getD 0
theorem before_neg {a b : List UInt8} (ha : a.length ≤ 1000000) (hb : b.length ≤ 1000000) : orL [if a.length < b.length then -1 else if b.length < a.length then 1 else 0, cmpS a b] < 0 ↔ lessW a b := by
  unfold lessW orL
  rcases Nat.lt_trichotomy a.length b.length with h | h | h
  · rw [if_pos (by omega)]
    simp [h]
  · rw [if_neg (by omega), if_neg (by omega)]
    have : cmpS a b < 0 ↔ a < b := by rw [cmpS_neg, less_dec, decide_eq_true_eq]
    by_cases hz : cmpS a b = 0
    · have := cmpS_zero.1 hz
      subst this
      simp [hz, List.lt_irrefl]
    · simp [hz, this, h]
  · rw [if_neg (by omega), if_pos (by omega)]
    simp; omega
set_option maxRecDepth 100000 in
theorem nanI_c (n : Int) : PC Try.prog 78 [.int .i64 n] (.bool false) := by
 refine zp Try.func78 fun G hG hR => ?_
 refine zs (zr ?_)
 refine zs (zr ?_)
 refine zt ?_
 exact zR
set_option maxRecDepth 100000 in
theorem cmpI_c (a b : Int) : PC Try.prog 84 [.int .i64 a, .int .i64 b] (.int .i64 (if a < b then -1 else if b < a then 1 else 0)) := by
 refine zp Try.func84 fun G hG hR => ?_
 refine zs (zr ?_)
 refine zs (zL (zl 1 ?_))
 refine zc cal78 (nanI_c a) ?_
 refine zl 1 ?_
 refine zN (zs (zL (zl 1 ?_)))
 refine zc cal78 (nanI_c b) ?_
 refine zl 1 ?_
 refine zN (zs (zs (zr ?_)))
 refine awpS_cond rfl (fun hb11 => ?_) (fun hb11 => ?_)
 · simp at hb11
 try simp [-List.getD_eq_getElem?_getD] at hb11
 refine zk (zs (zs (zr ?_)))
 refine awpS_cond rfl (fun hb13 => ?_) (fun hb13 => ?_)
 · simp at hb13
 try simp [-List.getD_eq_getElem?_getD] at hb13
 refine zk (zs (zs (zr ?_)))
 refine zy (fun hb16 => ?_) fun hb16 => ?_
 · refine zs (zr ?_)
   refine zt ?_
   refine RetOK_of ?_
   simp [hG, List.getD_cons_zero, List.getD_cons_succ, -List.getD_eq_getElem?_getD]
   intro _; omega
 refine zk (zs (zs (zr ?_)))
 refine zy (fun hb19 => ?_) fun hb19 => ?_
 · refine zs (zr ?_)
   refine zt ?_
   refine RetOK_of ?_
   simp [hG, List.getD_cons_zero, List.getD_cons_succ, -List.getD_eq_getElem?_getD]
   rw [if_neg (by omega), if_pos hb19]
 refine zk (zs (zr ?_))
 refine zt ?_
 refine RetOK_of ?_
 simp [hG, List.getD_cons_zero, List.getD_cons_succ, -List.getD_eq_getElem?_getD]
 rw [if_neg (by omega), if_neg (by omega)]
set_option maxRecDepth 100000 in
theorem known_c (q : Int) : PC Try.prog 81 [.int .i64 q] (.bool (decide (1 ≤ q ∧ q ≤ 16))) := by
 refine zp Try.func81 fun G hG hR => ?_
 refine zs (zr ?_)
 refine zs (zr ?_)
 refine zt ?_
 exact zR
set_option maxRecDepth 100000 in
theorem idx0_c (s : List UInt8) (b : UInt8) : PC Try.prog 94 [.str s, .int .u8 b.toNat] (.int .i64 (idxB s b)) := by
 refine zp Try.func94 fun G hG hR => ?_
 refine zs (zr ?_)
 refine zs (zL (zl 2 ?_))
 refine awpL_px (idxp s b) rfl rfl rfl ?_ ?_ fun K hK => ?_
 · simp [hG, List.getD_cons_zero, List.getD_cons_succ, -List.getD_eq_getElem?_getD]
 · simp [hG, List.getD_cons_zero, List.getD_cons_succ, -List.getD_eq_getElem?_getD]
 simp [hG, List.getD_cons_zero, List.getD_cons_succ, -List.getD_eq_getElem?_getD]
 refine hK _ ?_
 clear K hK
 refine zl 1 ?_
 refine zN (zt ?_)
 exact zR
set_option maxRecDepth 100000 in
theorem idx_c (s : List UInt8) (b : UInt8) : PC Try.prog 82 [.str s, .int .u8 b.toNat] (.int .i64 (idxB s b)) := by
 refine zp Try.func82 fun G hG hR => ?_
 refine zs (zr ?_)
 refine zs (zL (zl 2 ?_))
 refine zc cal94 (idx0_c s b) ?_
 refine zl 1 ?_
 refine zN (zt ?_)
 exact zR
set_option maxRecDepth 100000 in
theorem wcheck_c (q : Int) (w : List UInt8) : PC Try.prog 64 [.int .i64 q, .str w] (.int .i64 (wordCheck q w)) := by
 refine zp Try.func64 fun G hG hR => ?_
 refine zs (zr ?_)
 refine zs (zb (zs (zL (zl 1 ?_))))
 refine zc cal81 (known_c q) ?_
 refine zl 2 ?_
 refine zN (zy (fun hb6 => ?_) fun hb6 => ?_)
 · refine zs (zr ?_)
   refine zt (zbt ?_)
   refine RetOK_of ?_
   simp [hG, List.getD_cons_zero, List.getD_cons_succ, -List.getD_eq_getElem?_getD]
   exact (wordCheck_bad (by omega)).symm
 refine zs (zr ?_)
 refine zy (fun hb10 => ?_) fun hb10 => ?_
 · refine zs (zr ?_)
   refine zt (zbt ?_)
   refine RetOK_of ?_
   simp [hG, List.getD_cons_zero, List.getD_cons_succ, -List.getD_eq_getElem?_getD]
   exact (wordCheck_long hb6 (by omega)).symm
 refine zk (zn (zbn (zs (zs (zr ?_)))))
 refine zb ?_
 refine awpS_loop (α := Nat) (fun k => ⟨[(0, .int .i64 q), (1, .str w), (15, .int .i64 w.length), (16, .int .i64 k)], [], 0⟩) (fun k => (1 ≤ q ∧ q ≤ 16) ∧ w.length ≤ 65536 ∧ k ≤ w.length ∧ ∀ j, j < k → 0 ≤ idxB (letters.take q.toNat) (w.getD j 0)) (fun k => w.length - k) (0) (⟨by simpa using hb6, by omega, Nat.zero_le _, fun j hj => absurd hj (Nat.not_lt_zero _)⟩) ?_ ?_
 · exact zi
 rintro k ⟨hq, hl, hk, hn⟩
 refine zs (zr ?_)
 refine zs (zy (fun hb17 => ?_) fun hb17 => ?_)
 · refine zk (zs (zb (zs (zr ?_))))
   refine zs ?_
   refine awpS_draw hR mixed [] ⟨[], [], []⟩ fun mu0 => ?_
   refine za [0, 1, 2, 3, 4] [] 2 [4, 3, 2, 1, 0] ?_
   refine awpA_only (fuel := 1) (i := 5) (by decide +kernel) ?_
   refine ze cal82 (idx_c (letters.take q.toNat) (w.getD k 0)) ?_ (b := fun hg => by simp [hG]; rfl)
   refine za [6] [] 0 [6, 5, 4, 3, 2, 1, 0] ?_
   refine awpA_done (by decide +kernel) ?_
   refine zy (fun hb25 => ?_) fun hb25 => ?_
   · refine zs (zr ?_)
     refine zt (zbt (ztt (zbt ?_)))
     refine RetOK_of ?_
     simp [hG, List.getD_cons_zero, List.getD_cons_succ, -List.getD_eq_getElem?_getD]
     exact (wordCheck_not hq hl hb17 hb25).symm
   refine zk (zn (zbn (zr ?_)))
   refine zn ?_
   refine round_end (k + 1) (⟨hq, hl, by omega, step_all hn (by omega)⟩) (by omega) ?_
   exact zi
 refine zx (ztx (zbx (zs (zr ?_))))
 refine zt ?_
 refine RetOK_of ?_
 simp [hG, List.getD_cons_zero, List.getD_cons_succ, -List.getD_eq_getElem?_getD]
 exact (wordCheck_ok hq hl (fun j hj => hn j (by omega))).symm
set_option maxRecDepth 100000 in
theorem digit_c (c : UInt8) : PC Try.prog 59 [.int .u8 c.toNat] (.int .i64 (idxB letters c)) := by
 refine zp Try.func59 fun G hG hR => ?_
 refine zs (zr ?_)
 refine zs (zs (zr ?_))
 refine zb ?_
 refine awpS_loop (α := Nat) (fun k => ⟨[(0, .int .u8 c.toNat), (3, .int .i64 k)], [], 0⟩) (fun k => k ≤ 16 ∧ ∀ j, j < k → letters.getD j 0 ≠ c) (fun k => 16 - k) (0) (⟨Nat.zero_le _, fun j hj => absurd hj (Nat.not_lt_zero _)⟩) ?_ ?_
 · exact zi
 rintro k ⟨hk, hn⟩
 refine zs (zs (zr ?_))
 refine zy (fun hb5 => ?_) fun hb5 => ?_
 · refine zk (zs (zb (zs (zr ?_))))
   refine zy (fun hb11 => ?_) fun hb11 => ?_
   · refine zs (zr ?_)
     refine zt (zbt (ztt (zbt ?_)))
     refine RetOK_of ?_
     simp [hG, List.getD_cons_zero, List.getD_cons_succ, -List.getD_eq_getElem?_getD]
     rw [idxB_some letters c k (by show k < 16; omega) hn (UInt8.toNat_inj.1 (Int.ofNat_inj.1 hb11))]
   refine zk (zn (zbn (zr ?_)))
   refine zn ?_
   refine round_end (k + 1) (⟨by omega, digit_step hn (fun h => hb11 (by rw [Int.ofNat_inj]; exact h))⟩) (by omega) ?_
   exact zi
 refine zx (ztx (zbx (zs (zr ?_))))
 refine zt ?_
 refine RetOK_of ?_
 simp [hG, List.getD_cons_zero, List.getD_cons_succ, -List.getD_eq_getElem?_getD]
 rw [idxB_none letters c (fun j hj => hn j (by have : j < 16 := hj; omega))]
set_option maxRecDepth 100000 in
theorem wcheckR_c (q : Int) (w : List UInt8) : PC Try.prog 31 [.int .i64 q, .str w] (.int .i64 (wordCheck q w)) := by
 refine zp Try.func31 fun G hG hR => ?_
 refine zs (zr ?_)
 refine zs (zs (zr ?_))
 refine zy (fun hb12 => ?_) fun hb12 => ?_
 · refine zs (zr ?_)
   refine zt ?_
   refine RetOK_of ?_
   simp [hG, List.getD_cons_zero, List.getD_cons_succ, -List.getD_eq_getElem?_getD]
   exact (wordCheck_bad (by omega)).symm
 refine zk (zs (zs (zr ?_)))
 refine zy (fun hb15 => ?_) fun hb15 => ?_
 · refine zs (zr ?_)
   refine zt ?_
   refine RetOK_of ?_
   simp [hG, List.getD_cons_zero, List.getD_cons_succ, -List.getD_eq_getElem?_getD]
   exact (wordCheck_long (by omega) (by omega)).symm
 refine zk (zs (zs (zr ?_)))
 refine zb ?_
 refine awpS_loop (α := Nat) (fun k => ⟨[(0, .int .i64 q), (1, .str w), (5, .int .i64 k)], [], 0⟩) (fun k => (1 ≤ q ∧ q ≤ 16) ∧ w.length ≤ 65536 ∧ k ≤ w.length ∧ ∀ j, j < k → 0 ≤ idxB (letters.take q.toNat) (w.getD j 0)) (fun k => w.length - k) (0) (⟨by omega, by omega, Nat.zero_le _, fun j hj => absurd hj (Nat.not_lt_zero _)⟩) ?_ ?_
 · exact zi
 rintro k ⟨hq, hl, hk, hn⟩
 refine zs (zs (zr ?_))
 refine zy (fun hb19 => ?_) fun hb19 => ?_
 · refine zk (zs (zb (zs (zL (zl 3 ?_)))))
   refine zc cal59 (digit_c (w.getD k 0)) ?_
   refine zl 1 ?_
   refine zN (zs (zr ?_))
   refine zy (fun hb32 => ?_) fun hb32 => ?_
   · refine zs (zr ?_)
     refine zt (zbt (ztt (zbt ?_)))
     refine RetOK_of ?_
     simp [hG, List.getD_cons_zero, List.getD_cons_succ, -List.getD_eq_getElem?_getD]
     exact (wordCheck_not hq hl (by omega) (word_bad hq (by omega))).symm
   refine zk (zn (zbn (zr ?_)))
   refine zn ?_
   refine round_end (k + 1) (⟨hq, hl, by omega, word_step hn (by omega) (by omega)⟩) (by omega) ?_
   exact zi
 refine zx (ztx (zbx (zs (zr ?_))))
 refine zt ?_
 refine RetOK_of ?_
 simp [hG, List.getD_cons_zero, List.getD_cons_succ, -List.getD_eq_getElem?_getD]
 exact (wordCheck_ok hq hl (fun j hj => hn j (by omega))).symm
set_option maxRecDepth 100000 in
theorem cmpB_c (a b : List UInt8) : PC Try.prog 95 [.str a, .str b] (.int .i64 (cmpS a b)) := by
 refine zp Try.func95 fun G hG hR => ?_
 refine zs (zr ?_)
 refine zs (zL (zl 2 ?_))
 refine awpL_px (cmp_px a b) rfl rfl rfl ?_ ?_ fun K hK => ?_
 · simp [hG, List.getD_cons_zero, List.getD_cons_succ, -List.getD_eq_getElem?_getD]
 · simp [hG, List.getD_cons_zero, List.getD_cons_succ, -List.getD_eq_getElem?_getD]
 simp [hG, List.getD_cons_zero, List.getD_cons_succ, -List.getD_eq_getElem?_getD]
 refine hK _ ?_
 clear K hK
 refine zl 1 ?_
 refine zN (zt ?_)
 exact zR
set_option maxRecDepth 100000 in
theorem cmpW_c (a b : List UInt8) : PC Try.prog 85 [.str a, .str b] (.int .i64 (cmpS a b)) := by
 refine zp Try.func85 fun G hG hR => ?_
 refine zs (zr ?_)
 refine zs (zL (zl 2 ?_))
 refine zc cal95 (cmpB_c a b) ?_
 refine zl 1 ?_
 refine zN (zt ?_)
 exact zR
end Go.Proofs.Ytoafgeobhhlplaa
