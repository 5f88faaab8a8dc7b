/-
  Lists of inputs in order, as numbers written with digits; the paths of an encoder by them.
-/
import Derived.Test.YtmdnpbilnelogaaNC
namespace Go.Proofs.Ytmdnpbilnelogaa
set_option linter.unusedSimpArgs false
set_option linter.unusedVariables false
open Go Go.Lift

/-- the k digits of t to the base I, the greatest first. -/
def digs (I : Nat) : Nat → Nat → List Int
  | 0, _ => []
  | k + 1, t => (t / I ^ k : Nat) :: digs I k (t % I ^ k)
theorem digs_len {I : Nat} : ∀ {k t : Nat}, (digs I k t).length = k
  | 0, _ => rfl
  | k + 1, t => by simp [digs, digs_len (k := k)]
theorem digs_ok {I : Nat} (hI : 0 < I) : ∀ {k t : Nat}, t < I ^ k → ∀ d ∈ digs I k t, 0 ≤ d ∧ d < (I : Int)
  | 0, _, _, d, hd => by cases hd
  | k + 1, t, ht, d, hd => by
    simp only [digs, List.mem_cons] at hd
    rcases hd with rfl | hd
    · have : t / I ^ k < I := by rw [Nat.div_lt_iff_lt_mul (Nat.pow_pos hI)]; rwa [Nat.pow_succ, Nat.mul_comm] at ht
      generalize t / I ^ k = z at this
      exact ⟨Int.natCast_nonneg z, by omega⟩
    · exact digs_ok hI (Nat.mod_lt _ (Nat.pow_pos hI)) d hd
theorem flat_range {β : Type} (g : Nat → Nat → β) (M : Nat) (hM : 0 < M) : ∀ c : Nat, ((List.range c).flatMap fun a => (List.range M).map (g a)) = (List.range (c * M)).map fun t => g (t / M) (t % M)
  | 0 => by simp
  | c + 1 => by
    rw [List.range_succ, List.flatMap_append, List.flatMap_singleton, flat_range g M hM c, Nat.succ_mul, List.range_add, List.map_append, List.map_map]
    congr 1
    apply List.map_congr_left
    intro t ht
    have ht' : t < M := List.mem_range.1 ht
    have h1 : (c * M + t) / M = c := by rw [Nat.add_comm, Nat.add_mul_div_right _ _ hM, Nat.div_eq_of_lt ht', Nat.zero_add]
    have h2 : (c * M + t) % M = t := by rw [Nat.add_comm, Nat.add_mul_mod_self_right, Nat.mod_eq_of_lt ht']
    simp only [Function.comp, h1, h2]
/-- what is written for inputs. -/
def entOf (e : Enc) (p s : Nat) (l : List Int) : Ent := ⟨(runE e s l).1, l.getD p 0⟩
def entK (e : Enc) (p n k s : Nat) (w : List UInt8) (i : Int) (l : List Int) : Ent := ⟨w ++ (runE e s l).1, if n - k ≤ p ∧ p < n then l.getD (p - (n - k)) 0 else i⟩
theorem follow_digs {e : Enc} (hv : checkE e = 0) {p n : Nat} : ∀ (k : Nat) {s : Nat} {w : List UInt8} {i : Int}, k ≤ n → s < e.rows.length →
    follow e p n k s w i = (List.range (e.inputs.toNat ^ k)).map fun t => entK e p n k s w i (digs e.inputs.toNat k t)
  | 0, s, w, i, _, _ => by
    have : (if n - 0 ≤ p ∧ p < n then ([] : List Int).getD (p - (n - 0)) 0 else i) = i := if_neg (by omega)
    simp only [follow, Nat.pow_zero, List.range_one, List.map_cons, List.map_nil, digs, entK, runE, List.append_nil, this]
  | k + 1, s, w, i, hk, hs => by
    have hr := row_eq hv hs
    have hin := (checkE_valid hv).1.inputs
    have hI : 0 < e.inputs.toNat := by omega
    have hlen : (e.rows.getD s []).length = e.inputs.toNat := by omega
    have hstep : ∀ c, c < e.inputs.toNat → follow e p n k (cellAt e s c).to.toNat (w ++ (cellAt e s c).word) (if n - (k + 1) = p then (c : Int) else i) = (List.range (e.inputs.toNat ^ k)).map fun t => entK e p n (k + 1) s w i ((c : Int) :: digs e.inputs.toNat k t) := fun c hc => by
      have hcl : c < (e.rows.getD s []).length := by omega
      have hto := cell_to hv hs hcl
      rw [follow_digs hv k (by omega) (by omega)]
      apply List.map_congr_left
      intro t _
      unfold entK
      have hrun : runE e s ((c : Int) :: digs e.inputs.toNat k t) = ((cellAt e s c).word ++ (runE e (cellAt e s c).to (digs e.inputs.toNat k t)).1, (runE e (cellAt e s c).to (digs e.inputs.toNat k t)).2) := by
        simp only [runE, Int.toNat_natCast]
      have hto2 : ((cellAt e s c).to.toNat : Int) = (cellAt e s c).to := Int.toNat_of_nonneg hto.1
      rw [hrun, hto2, List.append_assoc]
      congr 1
      by_cases h1 : n - k ≤ p ∧ p < n
      · rw [if_pos h1, if_pos (by omega)]
        have : p - (n - (k + 1)) = (p - (n - k)) + 1 := by omega
        rw [this, List.getD_cons_succ]
      · rw [if_neg h1]
        by_cases h2 : n - (k + 1) = p
        · rw [if_pos h2, if_pos (by omega), show p - (n - (k + 1)) = 0 by omega, List.getD_cons_zero]
        · rw [if_neg h2, if_neg (by omega)]
    have hM : 0 < e.inputs.toNat ^ k := Nat.pow_pos hI
    have h1 : follow e p n (k + 1) s w i = (List.range e.inputs.toNat).flatMap fun (c : Nat) => (List.range (e.inputs.toNat ^ k)).map fun t => entK e p n (k + 1) s w i ((c : Int) :: digs e.inputs.toNat k t) := by
      simp only [follow]
      rw [hlen]
      rw [List.flatMap_def, List.flatMap_def]
      congr 1
      apply List.map_congr_left
      intro c hc
      exact hstep c (List.mem_range.1 hc)
    rw [h1, flat_range (fun c t => entK e p n (k + 1) s w i ((c : Int) :: digs e.inputs.toNat k t)) _ hM, Nat.pow_succ, Nat.mul_comm]
    rfl
/-- the windows that the first states write, then those of the first t lists of inputs. -/
def occS (e : Enc) (p n s : Nat) : List Ent := (List.range s).flatMap fun s => (List.range (e.inputs.toNat ^ n)).map fun t => entOf e p s (digs e.inputs.toNat n t)
def occT (e : Enc) (p n s t : Nat) : List Ent := occS e p n s ++ (List.range t).map fun t => entOf e p s (digs e.inputs.toNat n t)
theorem occT_zero {e : Enc} {p n s : Nat} : occT e p n s 0 = occS e p n s := by simp [occT]
theorem occT_succ {e : Enc} {p n s t : Nat} : occT e p n s (t + 1) = occT e p n s t ++ [entOf e p s (digs e.inputs.toNat n t)] := by
  unfold occT
  rw [List.range_succ, List.map_append, List.map_singleton, List.append_assoc]
theorem occS_succ {e : Enc} {p n s : Nat} : occS e p n (s + 1) = occT e p n s (e.inputs.toNat ^ n) := by
  unfold occT occS
  rw [List.range_succ, List.flatMap_append, List.flatMap_singleton]
theorem occS_zero {e : Enc} {p n : Nat} : occS e p n 0 = [] := rfl
theorem paths_occ {e : Enc} (hv : checkE e = 0) {p f : Nat} : pathsL e p f = occS e p (p + 1 + f) e.rows.length := by
  unfold pathsL occS
  rw [List.flatMap_def, List.flatMap_def]
  congr 1
  apply List.map_congr_left
  intro s hs
  rw [follow_digs hv _ (Nat.le_refl _) (List.mem_range.1 hs)]
  apply List.map_congr_left
  intro t _
  unfold entK entOf
  rw [List.nil_append, if_pos (by omega)]
  congr 2
  omega

/-- the number of digits. -/
def dval (I : Nat) (l : List Int) : Nat := l.foldl (fun v d => v * I + d.toNat) 0
theorem dval_from {I : Nat} : ∀ (l : List Int) (v : Nat), l.foldl (fun v d => v * I + d.toNat) v = v * I ^ l.length + dval I l
  | [], v => by simp [dval]
  | d :: l, v => by
    have h1 := dval_from (I := I) l (v * I + d.toNat)
    have h2 := dval_from (I := I) l (0 * I + d.toNat)
    unfold dval
    simp only [List.foldl_cons, List.length_cons]
    rw [h1, h2, Nat.zero_mul, Nat.zero_add, Nat.add_mul, Nat.pow_succ, Nat.mul_assoc, Nat.mul_comm I, Nat.add_assoc]
theorem dval_cons {I : Nat} {d : Int} {l : List Int} : dval I (d :: l) = d.toNat * I ^ l.length + dval I l := by
  have := dval_from (I := I) l (0 * I + d.toNat)
  rw [Nat.zero_mul, Nat.zero_add] at this
  show l.foldl (fun v d => v * I + d.toNat) (0 * I + d.toNat) = _
  rw [Nat.zero_mul, Nat.zero_add]; exact this
theorem dval_app {I : Nat} {a b : List Int} : dval I (a ++ b) = dval I a * I ^ b.length + dval I b := by
  unfold dval
  rw [List.foldl_append]
  exact dval_from b _
theorem dval_lt {I : Nat} (hI : 0 < I) : ∀ {l : List Int}, (∀ d ∈ l, 0 ≤ d ∧ d < (I : Int)) → dval I l < I ^ l.length
  | [], _ => by simp [dval]
  | d :: l, h => by
    have h1 := dval_lt hI (l := l) fun x hx => h x (List.mem_cons_of_mem _ hx)
    have h2 := h d (List.mem_cons_self ..)
    rw [dval_cons, List.length_cons, Nat.pow_succ, Nat.mul_comm _ I]
    have h3 : (d.toNat + 1) * I ^ l.length ≤ I * I ^ l.length := Nat.mul_le_mul_right _ (by omega)
    rw [Nat.succ_mul] at h3
    omega
theorem dval_digs {I : Nat} (hI : 0 < I) : ∀ {k t : Nat}, t < I ^ k → dval I (digs I k t) = t
  | 0, t, ht => by simp only [Nat.pow_zero] at ht; simp [digs, dval]; omega
  | k + 1, t, ht => by
    simp only [digs]
    rw [dval_cons, digs_len, dval_digs hI (Nat.mod_lt _ (Nat.pow_pos hI)), Int.toNat_natCast, Nat.mul_comm]
    exact Nat.div_add_mod t _
theorem digs_dval {I : Nat} (hI : 0 < I) : ∀ {l : List Int}, (∀ d ∈ l, 0 ≤ d ∧ d < (I : Int)) → digs I l.length (dval I l) = l
  | [], _ => rfl
  | d :: l, h => by
    have hl : ∀ x ∈ l, 0 ≤ x ∧ x < (I : Int) := fun x hx => h x (List.mem_cons_of_mem _ hx)
    have h1 := dval_lt hI hl
    have h2 := h d (List.mem_cons_self ..)
    have hp : 0 < I ^ l.length := Nat.pow_pos hI
    simp only [List.length_cons, digs]
    rw [dval_cons]
    have e1 : (d.toNat * I ^ l.length + dval I l) / I ^ l.length = d.toNat := by rw [Nat.add_comm, Nat.add_mul_div_right _ _ hp, Nat.div_eq_of_lt h1, Nat.zero_add]
    have e2 : (d.toNat * I ^ l.length + dval I l) % I ^ l.length = dval I l := by rw [Nat.add_comm, Nat.add_mul_mod_self_right, Nat.mod_eq_of_lt h1]
    rw [e1, e2, digs_dval hI hl, Int.toNat_of_nonneg h2.1]
theorem dval_top {I : Nat} (hI : 0 < I) : ∀ m : Nat, dval I (List.replicate m ((I : Int) - 1)) + 1 = I ^ m
  | 0 => rfl
  | m + 1 => by
    have ih := dval_top hI m
    rw [List.replicate_succ, dval_cons, List.length_replicate, Nat.pow_succ]
    have : ((I : Int) - 1).toNat = I - 1 := by omega
    rw [this, Nat.add_assoc, ih, Nat.mul_comm (I ^ m), ← Nat.succ_mul, Nat.succ_eq_add_one, Nat.sub_add_cancel hI]
theorem dval_zero {I : Nat} : ∀ m : Nat, dval I (List.replicate m 0) = 0
  | 0 => rfl
  | m + 1 => by rw [List.replicate_succ, dval_cons, dval_zero m]; simp
/-- the digits of the next number. -/
def bump (l : List Int) (i q : Nat) : Int := if q < i then l.getD q 0 else if q = i then l.getD i 0 + 1 else 0
theorem digs_next {I k t i : Nat} (hI : 0 < I) (ht : t < I ^ k) (hi : i < k) (hd : (digs I k t).getD i 0 ≠ (I : Int) - 1) (hz : ∀ q, i < q → q < k → (digs I k t).getD q 0 = (I : Int) - 1) :
    t + 1 < I ^ k ∧ ∀ q, q < k → (digs I k (t + 1)).getD q 0 = bump (digs I k t) i q := by
  have hl := digs_len (I := I) (k := k) (t := t)
  have hok := digs_ok hI ht
  have hiok := hok _ (getD_mem (d := (0 : Int)) (show i < (digs I k t).length by omega))
  have hsplit : digs I k t = (digs I k t).take i ++ ((digs I k t).getD i 0 :: List.replicate (k - i - 1) ((I : Int) - 1)) := by
    apply List.ext_getElem
    · simp; omega
    · intro q h1 h2
      have hq : q < k := by omega
      have hg : (digs I k t)[q] = (digs I k t).getD q 0 := by simp [List.getD, h1]
      rw [List.getElem_append]
      split
      · simp
      · rename_i h3
        have h3' : i ≤ q := by simp at h3; omega
        rw [List.getElem_cons]
        split
        · rename_i h4
          have : q = i := by simp at h4; omega
          subst this; exact hg
        · rename_i h4
          have : i < q := by simp at h4; omega
          rw [List.getElem_replicate, hg]
          exact hz q this hq
  let N : List Int := (digs I k t).take i ++ (((digs I k t).getD i 0 + 1) :: List.replicate (k - i - 1) 0)
  have hNl : N.length = k := by simp [N]; omega
  have hNok : ∀ d ∈ N, 0 ≤ d ∧ d < (I : Int) := fun d hd' => by
    rcases List.mem_append.1 hd' with h | h
    · exact hok d (List.mem_of_mem_take h)
    · rcases List.mem_cons.1 h with rfl | h
      · omega
      · have := List.eq_of_mem_replicate h
        subst this
        exact ⟨Int.le_refl _, by omega⟩
  have hNv : dval I N = t + 1 := by
    have h1 := dval_digs hI ht
    rw [hsplit, dval_app, dval_cons] at h1
    simp only [List.length_cons, List.length_replicate] at h1
    have htop := dval_top hI (k - i - 1)
    show dval I ((digs I k t).take i ++ _) = _
    rw [dval_app, dval_cons, dval_zero]
    simp only [List.length_cons, List.length_replicate]
    have : ((digs I k t).getD i 0 + 1).toNat = ((digs I k t).getD i 0).toNat + 1 := by omega
    rw [this, Nat.succ_mul]
    omega
  have hlt := dval_lt hI hNok
  rw [hNv, hNl] at hlt
  refine ⟨hlt, fun q hq => ?_⟩
  have hN : digs I k (t + 1) = N := by
    have := digs_dval hI hNok
    rwa [hNv, hNl] at this
  rw [hN]
  unfold bump
  by_cases h1 : q < i
  · rw [if_pos h1]
    simp only [N, List.getD_eq_getElem?_getD]
    rw [List.getElem?_append_left (by simp; omega), List.getElem?_take_of_lt h1]
  · rw [if_neg h1]
    simp only [N, List.getD_eq_getElem?_getD]
    rw [List.getElem?_append_right (by simp; omega)]
    have hti : ((digs I k t).take i).length = i := by simp; omega
    rw [hti]
    by_cases h2 : q = i
    · subst h2; rw [if_pos rfl, Nat.sub_self]; simp
    · rw [if_neg h2, show q - i = (q - i - 1) + 1 by omega, List.getElem?_cons_succ, List.getElem?_replicate]
      split <;> rfl
theorem digs_last {I k t : Nat} (hI : 0 < I) (ht : t < I ^ k) (hz : ∀ q, q < k → (digs I k t).getD q 0 = (I : Int) - 1) : t + 1 = I ^ k := by
  have h1 := dval_digs hI ht
  have : digs I k t = List.replicate k ((I : Int) - 1) := by
    apply List.ext_getElem
    · rw [digs_len, List.length_replicate]
    · intro q h1 h2
      have hq : q < k := by simpa using h2
      have := hz q hq
      rw [List.getElem_replicate, ← this]
      simp [List.getD, h1]
  rw [this] at h1
  rw [← h1]
  exact dval_top hI k
theorem digs_zero {I : Nat} (hI : 0 < I) : ∀ (k : Nat), digs I k 0 = List.replicate k 0
  | 0 => rfl
  | k + 1 => by simp only [digs, Nat.zero_div, Nat.zero_mod, digs_zero hI k, List.replicate_succ]; rfl
/-- while an entry is put in: those behind j are moved. -/
def shG (l : List Ent) (j q : Nat) : Ent := if j < q then l.getD (q - 1) den else (l ++ [den]).getD q den
theorem shG_start {l : List Ent} {q : Nat} (h : q < l.length + 1) : shG l l.length q = (l ++ [den]).getD q den := if_neg (by omega)
theorem shG_step {l : List Ent} {j q : Nat} (hj : 0 < j) (hjl : j ≤ l.length) : shG l (j - 1) q = if q = j then (l ++ [den]).getD (j - 1) den else shG l j q := by
  unfold shG
  by_cases h1 : q = j
  · subst h1
    rw [if_pos rfl, if_pos (by omega)]
    simp only [List.getD_eq_getElem?_getD]
    rw [List.getElem?_append_left (by omega)]
  · rw [if_neg h1]
    by_cases h2 : j < q
    · rw [if_pos h2, if_pos (by omega)]
    · rw [if_neg h2, if_neg (by omega)]
theorem shG_put {l : List Ent} {x : Ent} {q : Nat} (hq : q < l.length + 1) : (putE l x).getD q den = if q = lowE l x.win then x else shG l (lowE l x.win) q := by
  have hle := lowE_le (l := l) (w := x.win)
  unfold putE shG
  simp only [List.getD_eq_getElem?_getD]
  have htl : (l.take (lowE l x.win)).length = lowE l x.win := by simp; omega
  by_cases h1 : q = lowE l x.win
  · rw [if_pos h1, List.getElem?_append_right (by omega), htl, h1, Nat.sub_self]; rfl
  · rw [if_neg h1]
    by_cases h2 : lowE l x.win < q
    · rw [if_pos h2, List.getElem?_append_right (by omega), htl, show q - lowE l x.win = (q - lowE l x.win - 1) + 1 by omega, List.getElem?_cons_succ, List.getElem?_drop]
      congr 2
      omega
    · rw [if_neg h2, List.getElem?_append_left (by omega), List.getElem?_take_of_lt (by omega), List.getElem?_append_left (by omega)]
end Go.Proofs.Ytmdnpbilnelogaa
