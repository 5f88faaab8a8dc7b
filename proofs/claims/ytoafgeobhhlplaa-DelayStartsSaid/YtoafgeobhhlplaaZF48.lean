/- Parts of the proof: WA DS. -/
import Derived.Test.YtoafgeobhhlplaaZF22
import Derived.Test.YtoafgeobhhlplaaZF44
import Derived.Test.YtoafgeobhhlplaaZF47
namespace Go.Proofs.Ytoafgeobhhlplaa
set_option linter.unusedSimpArgs false
set_option linter.unusedVariables false
open Go Go.Lift Go.Proofs
theorem pf_len (c : Cd) (w : Wd) : (pfL c w).length ≤ 1000000 := by
  unfold pfL
  split
  · rename_i h
    have h1 := (cd_ok (ck_code h)).n
    have h2 := preA_len (W := c.ws) (v := w) (n := c.ws.length)
    show (preA c.ws w c.ws.length).length ≤ _
    omega
  · exact Nat.zero_le _
end Go.Proofs.Ytoafgeobhhlplaa
namespace Go.Proofs.Ytoafgeobhhlplaa
set_option linter.unusedSimpArgs false
set_option linter.unusedVariables false
open Go Go.Lift
theorem chk_take {q : Int} {v : Wd} (h : wordCheck q v = 0) {n : Nat} : wordCheck q (v.take n) = 0 := by
  unfold wordCheck at h ⊢
  split at h
  · cases h
  · rename_i h1
    rw [if_neg h1]
    split at h
    · cases h
    · rename_i h2
      rw [if_neg (by rw [List.length_take]; omega)]
      split at h
      · rename_i h3
        rw [if_pos fun c hc => h3 c (List.mem_of_mem_take hc)]
      · cases h
def listL (c : Cd) (l : List UInt8) : List Int := (l.take 12).map fun x => ((x.toNat % c.ws.length : Nat) : Int)
section
variable {c : Cd} {l : List UInt8}
theorem listL_len : (listL c l).length = min 12 l.length := by simp [listL]
theorem listL_at {k : Nat} (hk : k < (l.take 12).length) : (listL c l).getD k 0 = ((((l.take 12).getD k 0).toNat % c.ws.length : Nat) : Int) := by
  unfold listL
  simp only [List.getD_eq_getElem?_getD, List.getElem?_map, List.getElem?_eq_getElem hk]
  rfl
theorem listL_ok (h0 : 0 < c.ws.length) : ∀ k ∈ listL c l, 0 ≤ k ∧ k < (c.ws.length : Int) := by
  intro k hk
  obtain ⟨x, _, rfl⟩ := List.mem_map.1 hk
  have := Nat.mod_lt x.toNat h0
  omega
end
section
variable {W : List Wd} {l : List Int}
theorem msg_take {k : Nat} (hk : k < l.length) : msg W (l.take (k + 1)) = msg W (l.take k) ++ W.getD (l.getD k 0).toNat [] := by
  rw [← tkS_getD (d := (0 : Int)) hk]
  unfold msg
  rw [List.flatMap_append]
  simp
theorem msg_pre {k : Nat} : (msg W (l.take k)).length ≤ (msg W l).length := by
  conv => rhs; rw [← List.take_append_drop k l]
  unfold msg
  rw [List.flatMap_append, List.length_append]
  omega
end
section
variable {c : Cd}
end
section
variable {W : List Wd}
theorem pre_nil : (preL W []).length = W.length := by
  unfold preL preA
  have e : ((List.range W.length).filter fun k => stB W k []) = List.range W.length := List.filter_eq_self.2 fun k _ => rd_nil
  rw [e]; simp
theorem pre_less {v : Wd} {x : Int} {n : Nat} (h : x ∈ preL W v) : x ∈ preL W (v.take n) := by
  obtain ⟨k, hk, e, h1⟩ := pre_mem.1 h
  exact pre_mem.2 ⟨k, hk, e, rd_less' (List.take_prefix _ _) h1⟩
theorem pre_word {v : Wd} {x : Int} (h : x ∈ preL W v) : 0 ≤ x ∧ x < (W.length : Int) ∧ (W.getD x.toNat [] <+: v ∨ v <+: W.getD x.toNat []) := by
  obtain ⟨k, hk, rfl, h1⟩ := pre_mem.1 h
  refine ⟨by omega, by omega, ?_⟩
  rw [Int.toNat_natCast]
  rcases rd_pre.1 h1 with h2 | ⟨h2, _⟩
  · exact .inr h2
  · exact .inl h2
end
end Go.Proofs.Ytoafgeobhhlplaa
