/-
  Plain: powers of powers.
-/
import Derived.Test.YtfoeigajlkonpaaDoorPV
import Derived.Test.YtfoeigajlkonpaaDoorPT
namespace Go.Proofs.YtfoeigajlkonpaaDoor
set_option linter.unusedSimpArgs false
set_option linter.unusedVariables false
open Go Go.Lift

theorem then_assoc {a b c : Rl} : thenR a (thenR b c) = thenR (thenR a b) c := by
  funext s t
  unfold thenR
  rw [Bool.eq_iff_iff]
  simp only [List.any_eq_true, List.mem_range, Bool.and_eq_true]
  constructor
  · rintro ⟨u, hu, h1, v, hv, h2, h3⟩
    exact ⟨v, hv, ⟨u, hu, h1, h2⟩, h3⟩
  · rintro ⟨v, hv, ⟨u, hu, h1, h2⟩, h3⟩
    exact ⟨u, hu, h1, v, hv, h2, h3⟩
theorem longer_assoc {M K S : List Rl} : longer M (longer K S) = longer (longer M K) S := by
  unfold longer
  rw [List.flatMap_assoc]
  congr 1
  funext m
  rw [List.map_flatMap, List.flatMap_map]
  congr 1
  funext k
  rw [List.map_map]
  congr 1
  funext s
  exact then_assoc
theorem pwL_add {g : Gr} {m : Nat} : ∀ {k : Nat}, longer (pwL g m) (pwL g k) = pwL g (m + k + 1)
  | 0 => rfl
  | k + 1 => by
    show longer (pwL g m) (longer (pwL g k) (stepsL g)) = longer (pwL g (m + k + 1)) (stepsL g)
    rw [longer_assoc, pwL_add]
theorem eRow_mem {B : List Rl} {s l m : Nat} {x : Edge} : x ∈ eRow B s l m ↔ ∃ t, t < m ∧ bit B s l t = true ∧ x = ⟨s, l, t⟩ := by
  unfold eRow
  rw [List.mem_flatMap]
  constructor
  · rintro ⟨t, ht, h⟩
    split at h
    · rename_i h2; exact ⟨t, List.mem_range.1 ht, h2, by simpa using h⟩
    · cases h
  · rintro ⟨t, ht, h2, rfl⟩
    exact ⟨t, List.mem_range.2 ht, by rw [if_pos h2]; simp⟩
theorem eLab_mem {n : Nat} {B : List Rl} {s m : Nat} {x : Edge} : x ∈ eLab n B s m ↔ ∃ l, l < m ∧ x ∈ eRow B s l n := by
  unfold eLab
  rw [List.mem_flatMap]
  simp only [List.mem_range]
theorem eAll_mem {n : Nat} {B : List Rl} {m : Nat} {x : Edge} : x ∈ eAll n B m ↔ ∃ s l t, s < m ∧ l < B.length ∧ t < n ∧ bit B s l t = true ∧ x = ⟨s, l, t⟩ := by
  unfold eAll
  rw [List.mem_flatMap]
  constructor
  · rintro ⟨s, hs, h⟩
    obtain ⟨l, hl, h⟩ := eLab_mem.1 h
    obtain ⟨t, ht, h, e⟩ := eRow_mem.1 h
    exact ⟨s, l, t, List.mem_range.1 hs, hl, ht, h, e⟩
  · rintro ⟨s, l, t, hs, hl, ht, h, e⟩
    exact ⟨s, List.mem_range.2 hs, eLab_mem.2 ⟨l, hl, eRow_mem.2 ⟨t, ht, h, e⟩⟩⟩
theorem eAll_asc {n : Nat} {B : List Rl} {m : Nat} : (eAll n B m).Pairwise ltE := by
  unfold eAll
  refine List.pairwise_flatMap.2 ⟨fun s _ => ?_, List.pairwise_lt_range.imp fun {s s'} h x hx y hy => ?_⟩
  · unfold eLab
    refine List.pairwise_flatMap.2 ⟨fun l _ => ?_, List.pairwise_lt_range.imp fun {l l'} h x hx y hy => ?_⟩
    · unfold eRow
      refine List.pairwise_flatMap.2 ⟨fun t _ => ?_, List.pairwise_lt_range.imp fun {t t'} h x hx y hy => ?_⟩
      · split <;> simp
      · split at hx
        · split at hy
          · have e1 : x = ⟨s, l, t⟩ := by simpa using hx
            have e2 : y = ⟨s, l, t'⟩ := by simpa using hy
            subst e1 e2
            exact Or.inr ⟨rfl, Or.inr ⟨rfl, (by show (t : Int) < t'; omega)⟩⟩
          · cases hy
        · cases hx
    · obtain ⟨t, _, _, e1⟩ := eRow_mem.1 hx
      obtain ⟨t', _, _, e2⟩ := eRow_mem.1 hy
      subst e1 e2
      exact Or.inr ⟨rfl, Or.inl (by show (l : Int) < l'; omega)⟩
  · obtain ⟨l, _, hx⟩ := eLab_mem.1 hx
    obtain ⟨l', _, hy⟩ := eLab_mem.1 hy
    obtain ⟨t, _, _, e1⟩ := eRow_mem.1 hx
    obtain ⟨t', _, _, e2⟩ := eRow_mem.1 hy
    subst e1 e2
    exact Or.inl (by show (s : Int) < s'; omega)
/-- relations lead between states only. -/
def Sup (n : Nat) (r : Rl) : Prop := ∀ s t, r s t = true → s < n ∧ t < n
theorem edge_in {g : Gr} (hv : gcheck g = 0) {x : Edge} (hx : x ∈ g.edges) : (0 ≤ x.frm ∧ x.frm < g.states) ∧ (0 ≤ x.lab ∧ x.lab < g.labels) ∧ (0 ≤ x.to ∧ x.to < g.states) := by
  obtain ⟨k, hk, rfl⟩ := List.mem_iff_getElem.1 hx
  have h := (gcheck_valid hv).2 k hk
  rw [← getD_get (d := de) hk]
  unfold edgeCheck at h
  split at h
  · cases h
  · rename_i h2
    unfold edgeOut at h2
    omega
theorem step_sup {g : Gr} (hv : gcheck g = 0) {r : Rl} (h : r ∈ stepsL g) : Sup g.states.toNat r := by
  obtain ⟨l, hl, rfl⟩ := List.mem_map.1 h
  intro s t hst
  obtain ⟨x, hx, he⟩ := List.any_eq_true.1 hst
  have := edge_in hv hx
  simp only [decide_eq_true_eq] at he
  omega
theorem then_sup {n : Nat} {a b : Rl} (ha : Sup n a) (hb : Sup n b) : Sup n (thenR a b) := by
  intro s t h
  obtain ⟨u, _, hu⟩ := List.any_eq_true.1 h
  rw [Bool.and_eq_true] at hu
  exact ⟨(ha s u hu.1).1, (hb u t hu.2).2⟩
theorem pw_sup {g : Gr} (hv : gcheck g = 0) : ∀ {k : Nat} {r : Rl}, r ∈ pwL g k → Sup g.states.toNat r
  | 0, r, h => step_sup hv h
  | k + 1, r, h => by
    obtain ⟨b, hb, hr⟩ := List.mem_flatMap.1 h
    obtain ⟨o, ho, rfl⟩ := List.mem_map.1 hr
    exact then_sup (pw_sup hv hb) (step_sup hv ho)
theorem bit_sup {g : Gr} (hv : gcheck g = 0) {k s l t : Nat} (h : bit (pwL g k) s l t = true) : s < g.states.toNat ∧ l < (pwL g k).length ∧ t < g.states.toNat := by
  unfold bit at h
  by_cases hl : l < (pwL g k).length
  · have := pw_sup hv (getD_mem (d := r0) hl) s t h
    exact ⟨this.1, hl, this.2⟩
  · rw [show (pwL g k).getD l r0 = r0 by simp [List.getD, Nat.not_lt.1 hl]] at h
    cases h
/-- the edges of a power, as relations. -/
theorem steps_pow {g : Gr} (hv : gcheck g = 0) {n : Int} {L S : Int} (hL : L = (pwL g (n.toNat - 1)).length) : stepsL ⟨L, S, powE g n⟩ = pwL g (n.toNat - 1) := by
  apply List.ext_getElem
  · rw [stepsL_len]; simp [hL]
  · intro l h1 h2
    rw [stepsL_len] at h1
    have e1 := stepsL_at (g := ⟨L, S, powE g n⟩) h1
    rw [getD_get (by rw [stepsL_len]; exact h1)] at e1
    rw [e1]
    funext s t
    rw [Bool.eq_iff_iff]
    have hb : bit (pwL g (n.toNat - 1)) s l t = (pwL g (n.toNat - 1))[l] s t := by unfold bit; rw [getD_get h2]
    rw [← hb]
    constructor
    · intro h
      obtain ⟨x, hx, he⟩ := List.any_eq_true.1 h
      obtain ⟨s', l', t', _, _, _, hbit, rfl⟩ := eAll_mem.1 hx
      simp only [decide_eq_true_eq] at he
      have h3 : l' = l := by omega
      have h4 : s' = s := by omega
      have h5 : t' = t := by omega
      subst h3 h4 h5
      exact hbit
    · intro h
      obtain ⟨h3, h4, h5⟩ := bit_sup hv h
      exact List.any_eq_true.2 ⟨⟨s, l, t⟩, eAll_mem.2 ⟨s, l, t, h3, h4, h5, h, rfl⟩, by simp⟩
theorem pw_pow {g : Gr} (hv : gcheck g = 0) {n : Int} (hn : 1 ≤ n) {L S : Int} (hL : L = (pwL g (n.toNat - 1)).length) : ∀ {k : Nat}, pwL ⟨L, S, powE g n⟩ k = pwL g ((k + 1) * n.toNat - 1)
  | 0 => by rw [show (0 + 1) * n.toNat - 1 = n.toNat - 1 by omega]; exact steps_pow hv hL
  | k + 1 => by
    show longer (pwL ⟨L, S, powE g n⟩ k) (stepsL ⟨L, S, powE g n⟩) = _
    rw [pw_pow hv hn hL, steps_pow hv hL, pwL_add]
    have h1 : 1 ≤ (k + 1) * n.toNat := Nat.mul_pos (by omega) (by omega)
    have h2 : (k + 1 + 1) * n.toNat = (k + 1) * n.toNat + n.toNat := by rw [Nat.add_mul (k + 1), Nat.one_mul]
    congr 1
    omega
/-- what a power says when it is one. -/
theorem pow_facts {g : Gr} {n : Int} (h : powN g n = 0) : gcheck g = 0 ∧ (1 ≤ n ∧ n ≤ 16) ∧ upTo g.labels n.toNat ≤ 256 ∧ (powE g n).length ≤ 1024 := by
  unfold powN at h
  split at h
  · cases h
  · rename_i h1
    split at h
    · cases h
    · split at h
      · cases h
      · split at h
        · cases h
        · exact ⟨Classical.byContradiction h1, by omega, by omega, by omega⟩
theorem pow_len {g : Gr} (hl : 1 ≤ g.labels ∧ g.labels ≤ 256) {n : Int} (hn : 1 ≤ n) : ((pwL g (n.toNat - 1)).length : Int) = g.labels ^ n.toNat := by
  rw [pwL_len, show n.toNat - 1 + 1 = n.toNat by omega, Int.natCast_pow, Int.toNat_of_nonneg (by omega)]
theorem pow_valid {g : Gr} {n : Int} (h : powN g n = 0) : gcheck (powX g n) = 0 := by
  obtain ⟨hv, hn, hu, he⟩ := pow_facts h
  have hz := (gcheck_valid hv).1
  have hlb := hz.lab
  have hst := hz.st
  have hlen := pow_len hlb hn.1
  have hup := (upTo_iff hlb.1).1 hu
  have hpos : 1 ≤ g.labels ^ n.toNat := Int.pow_pos (by omega)
  rw [pow_ok h]
  refine gcheck_make ⟨by omega, by omega⟩ hst he eAll_asc fun x hx => ?_
  obtain ⟨s, l, t, h1, h2, h3, _, rfl⟩ := eAll_mem.1 hx
  simp only
  omega
/-- a power of a power. -/
theorem pow_pow {g : Gr} {a b : Int} (ha : powN g a = 0) (hab : powN g (a * b) = 0) (hb : 1 ≤ b ∧ b ≤ 16) : powN (powX g a) b = 0 ∧ powX (powX g a) b = powX g (a * b) := by
  obtain ⟨hv, hn, hu, he⟩ := pow_facts ha
  obtain ⟨_, hn2, hu2, he2⟩ := pow_facts hab
  have hlb := (gcheck_valid hv).1.lab
  have hlen := pow_len hlb hn.1
  have hval := pow_valid ha
  have hpos : 1 ≤ g.labels ^ a.toNat := Int.pow_pos (by omega)
  have e : powX g a = ⟨(pwL g (a.toNat - 1)).length, g.states, powE g a⟩ := pow_ok ha
  have hm : (a * b).toNat = b.toNat * a.toNat := by
    rw [Nat.mul_comm]
    have : ((a * b).toNat : Int) = (a.toNat * b.toNat : Nat) := by
      rw [Int.toNat_of_nonneg (by omega), Int.natCast_mul, Int.toNat_of_nonneg (by omega), Int.toNat_of_nonneg (by omega)]
    omega
  have hpw : pwL (powX g a) (b.toNat - 1) = pwL g ((a * b).toNat - 1) := by
    rw [e, pw_pow hv hn.1 rfl, show b.toNat - 1 + 1 = b.toNat by omega, hm]
  have hE : powE (powX g a) b = powE g (a * b) := by
    unfold powE
    rw [hpw, e]
  have hup : upTo (powX g a).labels b.toNat ≤ 256 := by
    rw [e]
    simp only
    rw [hlen]
    refine (upTo_iff hpos).2 ?_
    have h1 := (upTo_iff hlb.1).1 hu2
    rw [hm, Nat.mul_comm, Int.pow_mul] at h1
    exact h1
  have hN : powN (powX g a) b = 0 := by
    unfold powN
    rw [if_neg (by omega), if_neg (by omega), if_neg (by omega), hE, if_neg (by omega)]
  refine ⟨hN, ?_⟩
  rw [pow_ok hN, pow_ok hab, hpw, hE, e]
end Go.Proofs.YtfoeigajlkonpaaDoor
