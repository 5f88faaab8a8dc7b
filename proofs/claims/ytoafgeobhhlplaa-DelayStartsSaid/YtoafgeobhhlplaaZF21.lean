/- Parts of the proof: DI DJ DK. -/
import Derived.Test.YtoafgeobhhlplaaZF20
namespace Go.Proofs.Ytoafgeobhhlplaa
set_option linter.unusedSimpArgs false
set_option linter.unusedVariables false
open Go Go.Lift
structure Cd where
  q : Int
  ws : List Wd
def cdF (c : Cd) (j : Nat) : AVal := match j with
  | 0 => .int .i64 c.q
  | _ => strs c.ws
section
variable {c : Cd} {j : Nat} {ρ : Nat → Nat}
@[simp] theorem cdF0 : cdF c 0 = .int .i64 c.q := rfl
@[simp] theorem cdF1 : cdF c 1 = strs c.ws := rfl
@[simp] theorem one_cdF : (cdF c j).one = true := by unfold cdF; split <;> rfl
@[simp] theorem Clo_cdF : Clo (cdF c j) := by unfold cdF; split <;> first | trivial | exact Clo_strs
@[simp] theorem ren_cdF : ren ρ (cdF c j) = cdF c j := by unfold cdF; split <;> first | rfl | exact ren_strs
end
def cdE (c : Cd) (i : Nat) : Int := if (c.ws.getD i []).length = 0 then 5 else if 32 < (c.ws.getD i []).length then 4 else if wordCheck c.q (c.ws.getD i []) ≠ 0 then 13 else if 0 < i ∧ ¬ lessW (c.ws.getD (i - 1) []) (c.ws.getD i []) then 10 else 0
def cdN (c : Cd) : Int := if c.q < 2 ∨ 16 < c.q then 12 else if c.ws.length = 0 then 5 else if 64 < c.ws.length then 4 else firstNZ (cdE c) (List.range c.ws.length)
structure CdOK (c : Cd) : Prop where
  q : 2 ≤ c.q ∧ c.q ≤ 16
  n : 1 ≤ c.ws.length ∧ c.ws.length ≤ 64
  ne : ∀ w ∈ c.ws, w ≠ []
  len : ∀ w ∈ c.ws, w.length ≤ 32
  chk : ∀ w ∈ c.ws, wordCheck c.q w = 0
  asc : c.ws.Pairwise lessW
section
variable {c : Cd}
theorem lessW_trans {a b d : Wd} (h : lessW a b) (h2 : lessW b d) : lessW a d := by
  unfold lessW at *
  rcases h with h | ⟨h, h3⟩ <;> rcases h2 with h2 | ⟨h2, h4⟩
  · exact .inl (by omega)
  · exact .inl (by omega)
  · exact .inl (by omega)
  · exact .inr ⟨by omega, List.lt_trans h3 h4⟩
theorem lessW_ne {a b : Wd} (h : lessW a b) : a ≠ b := by
  rintro rfl
  rcases h with h | ⟨_, h⟩
  · omega
  · exact absurd h (List.lt_irrefl a)
theorem cd_1 (h : c.q < 2 ∨ 16 < c.q) : cdN c = 12 := if_pos h
theorem cd_2 (h : 2 ≤ c.q ∧ c.q ≤ 16) (h2 : c.ws.length = 0) : cdN c = 5 := by unfold cdN; rw [if_neg (by omega), if_pos h2]
theorem cd_3 (h : 2 ≤ c.q ∧ c.q ≤ 16) (h2 : 64 < c.ws.length) : cdN c = 4 := by unfold cdN; rw [if_neg (by omega), if_neg (by omega), if_pos h2]
theorem cd_4 (h : 2 ≤ c.q ∧ c.q ≤ 16) (h2 : c.ws.length ≠ 0) (h3 : c.ws.length ≤ 64) {i : Nat} (hi : i < c.ws.length) (hn : ∀ j, j < i → cdE c j = 0) (he : cdE c i ≠ 0) : cdN c = cdE c i := by unfold cdN; rw [if_neg (by omega), if_neg h2, if_neg (by omega), firstNZ_range hn hi he]
theorem cd_5 (h : 2 ≤ c.q ∧ c.q ≤ 16) (h2 : c.ws.length ≠ 0) (h3 : c.ws.length ≤ 64) (hn : ∀ j, j < c.ws.length → cdE c j = 0) : cdN c = 0 := by unfold cdN; rw [if_neg (by omega), if_neg h2, if_neg (by omega), firstNZ_none hn]
theorem cdE_1 {i : Nat} (h : (c.ws.getD i []).length = 0) : cdE c i = 5 := if_pos h
theorem cdE_2 {i : Nat} (h : (c.ws.getD i []).length ≠ 0) (h2 : 32 < (c.ws.getD i []).length) : cdE c i = 4 := by unfold cdE; rw [if_neg h, if_pos h2]
theorem cdE_3 {i : Nat} (h : (c.ws.getD i []).length ≠ 0) (h2 : (c.ws.getD i []).length ≤ 32) (h3 : wordCheck c.q (c.ws.getD i []) ≠ 0) : cdE c i = 13 := by unfold cdE; rw [if_neg h, if_neg (by omega), if_pos h3]
theorem cdE_4 {i : Nat} (h : (c.ws.getD i []).length ≠ 0) (h2 : (c.ws.getD i []).length ≤ 32) (h3 : wordCheck c.q (c.ws.getD i []) = 0) (h4 : 0 < i) (h5 : ¬ lessW (c.ws.getD (i - 1) []) (c.ws.getD i [])) : cdE c i = 10 := by unfold cdE; rw [if_neg h, if_neg (by omega), if_neg (fun k => k h3), if_pos ⟨h4, h5⟩]
theorem cdE_5 {i : Nat} (h : (c.ws.getD i []).length ≠ 0) (h2 : (c.ws.getD i []).length ≤ 32) (h3 : wordCheck c.q (c.ws.getD i []) = 0) (h4 : 0 < i → lessW (c.ws.getD (i - 1) []) (c.ws.getD i [])) : cdE c i = 0 := by unfold cdE; rw [if_neg h, if_neg (by omega), if_neg (fun k => k h3), if_neg (fun k => k.2 (h4 k.1))]
theorem cdE_zero {i : Nat} (h : cdE c i = 0) : (c.ws.getD i []).length ≠ 0 ∧ (c.ws.getD i []).length ≤ 32 ∧ wordCheck c.q (c.ws.getD i []) = 0 ∧ (0 < i → lessW (c.ws.getD (i - 1) []) (c.ws.getD i [])) := by
  unfold cdE at h
  split at h
  · cases h
  · split at h
    · cases h
    · split at h
      · cases h
      · split at h
        · cases h
        · rename_i h1 h2 h3 h4
          exact ⟨h1, by omega, Classical.byContradiction h3, fun h5 => Classical.byContradiction fun h6 => h4 ⟨h5, h6⟩⟩
theorem cd_ok (h : cdN c = 0) : CdOK c := by
  unfold cdN at h
  split at h
  · cases h
  · split at h
    · cases h
    · split at h
      · cases h
      · rename_i h1 h2 h3
        have hz := firstNZ_zero h
        have hat : ∀ w ∈ c.ws, ∃ i, i < c.ws.length ∧ c.ws.getD i [] = w := fun w hw => W_at hw
        have hp : ∀ i j, i < j → j < c.ws.length → lessW (c.ws.getD i []) (c.ws.getD j []) := by
          intro i j hij
          induction j with
          | zero => omega
          | succ j ih =>
            intro hj
            have h4 := (cdE_zero (hz (j + 1) hj)).2.2.2 (by omega)
            rw [Nat.add_sub_cancel] at h4
            rcases Nat.lt_or_ge i j with h5 | h5
            · exact lessW_trans (ih h5 (by omega)) h4
            · obtain rfl : i = j := by omega
              exact h4
        refine ⟨by omega, by omega, fun w hw => ?_, fun w hw => ?_, fun w hw => ?_, ?_⟩
        · obtain ⟨i, hi, rfl⟩ := hat w hw
          exact fun e => (cdE_zero (hz i hi)).1 (by rw [e]; rfl)
        · obtain ⟨i, hi, rfl⟩ := hat w hw
          exact (cdE_zero (hz i hi)).2.1
        · obtain ⟨i, hi, rfl⟩ := hat w hw
          exact (cdE_zero (hz i hi)).2.2.1
        · rw [List.pairwise_iff_getElem]
          intro i j hi hj hij
          have := hp i j hij hj
          rwa [List.getD_eq_getElem?_getD, List.getElem?_eq_getElem hi, List.getD_eq_getElem?_getD, List.getElem?_eq_getElem hj] at this
theorem CdOK.nd (h : CdOK c) : c.ws.Nodup := h.asc.imp fun h => lessW_ne h
theorem ltrD_idx {x : UInt8} (h : 0 ≤ idxB letters x) : letters.getD (idxB letters x).toNat 0 = x := by
  obtain ⟨k, h1, h2, h3⟩ := first_at letters x (idxB_ge.1 h)
  rw [idxB_some letters x k h1 h2 h3]; exact h3
theorem chk_lt {q : Int} {w : Wd} (h : wordCheck q w = 0) : LtOK q.toNat w := fun x hx => by
  obtain ⟨k, hk, e⟩ := List.mem_iff_getElem.1 hx
  have := (word_dig h).2 k hk
  rw [getD_get hk, e] at this
  exact ⟨(idxB letters x).toNat, by omega, ltrD_idx this.1⟩
theorem CdOK.lt (h : CdOK c) : ∀ w ∈ c.ws, LtOK c.q.toNat w := fun w hw => chk_lt (h.chk w hw)
def bigC (c : Cd) : Bool := decide (6 < c.ws.length ∧ c.ws.length ≤ 64 ∨ 65 < c.ws.length) || c.ws.any fun w => decide (6 < w.length ∧ w.length ≤ 32 ∨ 33 < w.length)
theorem big_ok (h : bigC c = false) (ho : CdOK c) : c.ws.length ≤ 6 ∧ ∀ w ∈ c.ws, w.length ≤ 6 := by
  unfold bigC at h
  rw [Bool.or_eq_false_iff, decide_eq_false_iff_not] at h
  have := ho.n
  refine ⟨by omega, fun w hw => ?_⟩
  have h1 := List.any_eq_false.1 h.2 w hw
  have h2 := ho.len w hw
  simp only [decide_eq_true_eq] at h1
  omega
end
end Go.Proofs.Ytoafgeobhhlplaa
namespace Go.Proofs.Ytoafgeobhhlplaa
set_option linter.unusedSimpArgs false
set_option linter.unusedVariables false
open Go Go.Lift
def dlD (c : Cd) : Int := if cdN c = 0 then (((dlR c.ws).getD 0 : Nat) : Int) else 0
def dlB (c : Cd) : Bool := decide (cdN c = 0) && (dlR c.ws).isSome
def arN (c : Cd) : Int := if cdN c = 0 then 0 else 1
def bdN (c : Cd) (n : Int) : Int := if cdN c ≠ 0 then 1 else if n < 0 ∨ 4096 < n then 2 else 0
noncomputable def wsW (c : Cd) (n : Int) : Wd := if bdN c n = 0 then ((wtF c.ws c.q.toNat n.toNat).map (·.2)).getD [] else []
noncomputable def wsX (c : Cd) (n : Int) : Int := if bdN c n = 0 then ((wtF c.ws c.q.toNat n.toNat).map fun p => ((p.1 : Nat) : Int)).getD 0 else 0
noncomputable def wsY (c : Cd) (n : Int) : Int := if bdN c n = 0 then ((wtF c.ws c.q.toNat n.toNat).map fun p => othN c.ws p.2 p.1).getD 0 else 0
noncomputable def wsB (c : Cd) (n : Int) : Bool := decide (bdN c n = 0) && (wtF c.ws c.q.toNat n.toNat).isSome
noncomputable def woW (c : Cd) : Wd := if dlB c = true ∧ dlD c ≠ 0 then wsW c (dlD c - 1) else []
noncomputable def woB (c : Cd) : Bool := if dlB c = true ∧ dlD c ≠ 0 then wsB c (dlD c - 1) else false
def ckN (c : Cd) (w : Wd) : Int := if cdN c ≠ 0 then 1 else wordCheck c.q w
def pfL (c : Cd) (w : Wd) : List Int := if ckN c w = 0 then preL c.ws w else []
def reN (c : Cd) (d : Int) (w : Wd) : Int := if ckN c w ≠ 0 then ckN c w else if d < 0 ∨ 4096 < d then 2 else 0
def reL (c : Cd) (d : Int) (w : Wd) : List Int := if reN c d w = 0 then (rdR c.ws d.toNat w).1 else []
def reM (c : Cd) (d : Int) (w : Wd) : Int := if reN c d w = 0 then (((rdR c.ws d.toNat w).2 : Nat) : Int) else 0
section
variable {c : Cd}
theorem dl_yes (ho : cdN c = 0) {d : Nat} (h : DlIs c.ws d) : dlR c.ws = some d := by
  have hc := cd_ok ho
  cases hr : dlR c.ws with
  | none => exact absurd (dlR_no hc.ne (by have := hc.n; omega) hr) h.not
  | some e => rw [(dlR_is hc.ne hc.nd hr).one h]
theorem dl_not (ho : cdN c = 0) (h : DlNo c.ws) : dlR c.ws = none := by
  have hc := cd_ok ho
  cases hr : dlR c.ws with
  | none => rfl
  | some e => exact absurd h (dlR_is hc.ne hc.nd hr).not
end
def fstC (W : List Wd) (q i n : Nat) : Option Wd := (lngW W q i n (W.getD i [])).map fun s => s.drop (W.getD i []).length
theorem fst_C {W : List Wd} {q i n : Nat} (hW : ∀ w ∈ W, LtOK q w) : fstW W q i n = fstC W q i n := by
  unfold fstC
  rw [lng_fst hW]
  cases fstW W q i n with
  | none => rfl
  | some u => simp
def two : Cd := ⟨2, [[48], [48, 48, 49]]⟩
def thr : Cd := ⟨2, [[48], [48, 49], [49, 49]]⟩
theorem two_ok : cdN two = 0 := by decide +kernel
theorem thr_ok : cdN thr = 0 := by decide +kernel
theorem two_dl : dlR two.ws = some 2 := by decide +kernel
theorem thr_dl : dlR thr.ws = none := by decide +kernel
theorem two_re : rdR two.ws 2 [48, 48, 48, 49, 48, 48, 49, 48] = ([0, 1], 4) := by decide +kernel
theorem two_ck : wordCheck 2 [48, 48, 48, 49, 48, 48, 49, 48] = 0 := by decide +kernel
theorem two_f0 : fstC two.ws 2 0 1 = some [48] := by decide +kernel
theorem two_f1 : fstC two.ws 2 1 1 = none := by decide +kernel
theorem two_wt : wtF two.ws 2 1 = some (0, [48, 48]) := by
  have hW := (cd_ok two_ok).lt
  have h0 : fstW two.ws 2 0 1 = some [48] := (fst_C hW).trans two_f0
  have h1 : fstW two.ws 2 1 1 = none := (fst_C hW).trans two_f1
  show wtU two.ws 2 1 1 (wtU two.ws 2 1 0 none) = _
  rw [wtU_none h1, wtU_first h0]; rfl
end Go.Proofs.Ytoafgeobhhlplaa
namespace Go.Proofs.Ytoafgeobhhlplaa
set_option linter.unusedSimpArgs false
set_option linter.unusedVariables false
open Go Go.Lift
theorem lt_chk {q : Int} {w : Wd} (hq : 1 ≤ q ∧ q ≤ 16) (hl : w.length ≤ 65536) (h : LtOK q.toNat w) : wordCheck q w = 0 := by
  refine wordCheck_ok hq hl fun k hk => idxB_ge.2 ?_
  obtain ⟨i, hi, e⟩ := h _ (getD_mem (d := (0 : UInt8)) hk)
  rw [← e]
  have h16 : letters.length = 16 := by decide
  have hil : i < (letters.take q.toNat).length := by rw [List.length_take]; omega
  have : letters.getD i 0 = (letters.take q.toNat)[i] := by
    rw [List.getElem_take, getD_get (show i < letters.length by omega)]
  rw [this]; exact List.getElem_mem hil
theorem lt_sub {q : Nat} {u w : Wd} (h : LtOK q w) (hs : ∀ x ∈ u, x ∈ w) : LtOK q u := fun x hx => h x (hs x hx)
section
variable {c : Cd}
theorem msg_lt (hc : CdOK c) {l : List Int} (h : ∀ k ∈ l, 0 ≤ k ∧ k < (c.ws.length : Int)) : LtOK c.q.toNat (msg c.ws l) := fun x hx => by
  obtain ⟨k, hk, h1⟩ := List.mem_flatMap.1 hx
  have := h k hk
  exact hc.lt _ (W_mem (show k.toNat < c.ws.length by omega)) x h1
theorem msg_len (hb : ∀ w ∈ c.ws, w.length ≤ 6) : ∀ {l : List Int}, (∀ k ∈ l, 0 ≤ k ∧ k < (c.ws.length : Int)) → (msg c.ws l).length ≤ 6 * l.length
  | [], _ => Nat.zero_le _
  | k :: l, h => by
    have ih := msg_len hb (l := l) fun j hj => h j (List.mem_cons_of_mem _ hj)
    have h1 := h k List.mem_cons_self
    have h2 := hb _ (W_mem (show k.toNat < c.ws.length by omega))
    rw [msg_cons, List.length_append, List.length_cons]
    omega
theorem msg_chk (hc : CdOK c) (hb : ∀ w ∈ c.ws, w.length ≤ 6) {l : List Int} (h : ∀ k ∈ l, 0 ≤ k ∧ k < (c.ws.length : Int)) (hl : l.length ≤ 12) {n : Nat} : wordCheck c.q ((msg c.ws l).take n) = 0 := by
  have := msg_len hb h
  refine lt_chk (by have := hc.q; omega) (by rw [List.length_take]; omega) (lt_sub (msg_lt hc h) fun x hx => List.mem_of_mem_take hx)
theorem ck_len {w : Wd} (h : ckN c w = 0) : w.length ≤ 1000000 := by
  unfold ckN wordCheck at h
  split at h
  · cases h
  · split at h
    · cases h
    · split at h
      · cases h
      · omega
theorem ck_ok (ho : cdN c = 0) {w : Wd} (h : wordCheck c.q w = 0) : ckN c w = 0 := by unfold ckN; rw [if_neg (fun k => k ho)]; exact h
theorem pf_ok (ho : cdN c = 0) {w : Wd} (h : wordCheck c.q w = 0) : pfL c w = preL c.ws w := if_pos (ck_ok ho h)
end
end Go.Proofs.Ytoafgeobhhlplaa
