/- Parts of the proof: DE. -/
import Derived.Test.YtoafgeobhhlplaaZF13
import Derived.Test.YtoafgeobhhlplaaZF17
namespace Go.Proofs.Ytoafgeobhhlplaa
set_option linter.unusedSimpArgs false
set_option linter.unusedVariables false
open Go Go.Lift
abbrev Rc := Wd × Wd
def sucA (W : List Wd) (p : Rc) : Nat → List Rc
  | 0 => []
  | i + 1 => sucA W p i ++ aft W p (letters.getD i 0)
def sucs (W : List Wd) (q : Nat) (p : Rc) : List Rc := sucA W p q
def LtOK (q : Nat) (s : Wd) : Prop := ∀ c ∈ s, ∃ i, i < q ∧ letters.getD i 0 = c
def RcOK (q : Nat) (p : Rc) : Prop := LtOK q p.1 ∧ LtOK q p.2
def HV (W : List Wd) (p : Rc) (v : Nat) : Prop := Gn W v p.1 p.2 ∧ ¬ Gn W (v + 1) p.1 p.2
section
variable {W : List Wd} {q : Nat}
theorem suc_mem {p r : Rc} : ∀ {n : Nat}, r ∈ sucA W p n ↔ ∃ i, i < n ∧ r ∈ aft W p (letters.getD i 0)
  | 0 => by simp [sucA]
  | n + 1 => by
    show r ∈ sucA W p n ++ _ ↔ _
    rw [List.mem_append, suc_mem]
    constructor
    · rintro (⟨i, hi, h⟩ | h)
      · exact ⟨i, by omega, h⟩
      · exact ⟨n, by omega, h⟩
    · rintro ⟨i, hi, h⟩
      rcases Nat.lt_or_ge i n with h2 | h2
      · exact .inl ⟨i, h2, h⟩
      · obtain rfl : i = n := by omega
        exact .inr h
theorem rst_ok (hW : ∀ w ∈ W, LtOK q w) {s t : Wd} {l : UInt8} (hs : LtOK q s) (h : t ∈ rst W s l) : LtOK q t ∧ ∃ i, i < q ∧ letters.getD i 0 = l := by
  cases s with
  | nil =>
    have h1 := hW _ (rst_nil.1 h)
    exact ⟨fun c hc => h1 c (List.mem_cons_of_mem _ hc), h1 l List.mem_cons_self⟩
  | cons a r =>
    obtain ⟨rfl, rfl⟩ := rst_cons.1 h
    exact ⟨fun c hc => hs c (List.mem_cons_of_mem _ hc), hs _ List.mem_cons_self⟩
theorem Gn_suc (hW : ∀ w ∈ W, LtOK q w) {p : Rc} (hp : RcOK q p) {n : Nat} : Gn W (n + 1) p.1 p.2 ↔ ∃ r ∈ sucs W q p, Gn W n r.1 r.2 := by
  rw [Gn_succ]
  constructor
  · rintro ⟨l, r, hr, hg⟩
    obtain ⟨i, hi, e⟩ := (rst_ok hW hp.1 (aft_mem.1 hr).1).2
    exact ⟨r, suc_mem.2 ⟨i, hi, by rw [e]; exact hr⟩, hg⟩
  · rintro ⟨r, hr, hg⟩
    obtain ⟨i, _, h⟩ := suc_mem.1 hr
    exact ⟨_, r, h, hg⟩
theorem HV.one {p : Rc} {v w : Nat} (h : HV W p v) (h2 : HV W p w) : v = w := by
  rcases Nat.lt_trichotomy v w with h3 | h3 | h3
  · exact absurd (Gn_less (by omega) h2.1) h.2
  · exact h3
  · exact absurd (Gn_less (by omega) h.1) h2.2
theorem hv_max (hW : ∀ w ∈ W, LtOK q w) {p : Rc} (hp : RcOK q p) {m : Nat} (h1 : ∀ y ∈ sucs W q p, ∃ v, HV W y v ∧ v + 1 ≤ m) (h2 : m = 0 ∨ ∃ y ∈ sucs W q p, ∃ v, HV W y v ∧ m = v + 1) : HV W p m := by
  constructor
  · rcases h2 with rfl | ⟨y, hy, v, hv, rfl⟩
    · exact Gn_zero
    · exact (Gn_suc hW hp).2 ⟨y, hy, hv.1⟩
  · intro hg
    obtain ⟨y, hy, h3⟩ := (Gn_suc hW hp).1 hg
    obtain ⟨v, hv, hle⟩ := h1 y hy
    exact hv.2 (Gn_less hle h3)
theorem inf_all (hW : ∀ w ∈ W, LtOK q w) {U : Rc → Prop} (hU : ∀ x, U x → RcOK q x ∧ ∃ y ∈ sucs W q x, U y) : ∀ n x, U x → Gn W n x.1 x.2
  | 0, _, _ => Gn_zero
  | n + 1, x, hx => by
    obtain ⟨h1, y, hy, h2⟩ := hU x hx
    exact (Gn_suc hW h1).2 ⟨y, hy, inf_all hW hU n y h2⟩
def lfv (W : List Wd) (q : Nat) (E : List Rc) (y : Rc) : Nat := (sucs W q y).countP fun z => !decide (z ∈ E)
theorem countP_split {E : List Rc} {x : Rc} (hx : x ∉ E) : ∀ l : List Rc, (l.countP fun z => !decide (z ∈ E)) = (l.countP fun z => !decide (z ∈ E ++ [x])) + l.count x
  | [] => rfl
  | a :: l => by
    have ih := countP_split hx l
    rw [List.countP_cons, List.countP_cons, List.count_cons, ih]
    by_cases h : a ∈ E
    · have h2 : a ≠ x := fun e => hx (e ▸ h)
      simp [h, h2]
    · by_cases h2 : a = x
      · subst h2; simp [h]; omega
      · simp [h, h2]; omega
theorem lfv_snoc {E : List Rc} {x y : Rc} (hx : x ∉ E) : lfv W q E y = lfv W q (E ++ [x]) y + (sucs W q y).count x := countP_split hx _
theorem lfv_zero {E : List Rc} {y : Rc} : lfv W q E y = 0 ↔ ∀ z ∈ sucs W q y, z ∈ E := by
  unfold lfv
  rw [List.countP_eq_zero]
  constructor
  · intro h z hz
    have := h z hz
    simpa using this
  · intro h z hz
    simpa using h z hz
def befL (W : List Wd) (q : Nat) (K : List Rc) (y : Rc) : List Rc := K.flatMap fun p => List.replicate ((sucs W q p).count y) p
theorem bef_count {y p : Rc} : ∀ {K : List Rc}, K.Nodup → p ∈ K → (befL W q K y).count p = (sucs W q p).count y
  | [], _, h => by cases h
  | a :: K, hn, h => by
    rw [List.nodup_cons] at hn
    show (List.replicate _ a ++ befL W q K y).count p = _
    rw [List.count_append, List.count_replicate]
    have h0 : ∀ {K : List Rc}, p ∉ K → (befL W q K y).count p = 0 := fun {K} hk => by
      rw [List.count_eq_zero]
      intro hm
      obtain ⟨b, hb, h2⟩ := List.mem_flatMap.1 hm
      have := (List.mem_replicate.1 h2).2
      exact hk (this ▸ hb)
    rcases List.mem_cons.1 h with rfl | h
    · rw [h0 hn.1]; simp
    · have h2 : ¬ a = p := fun e => hn.1 (e ▸ h)
      rw [bef_count hn.2 h]; simp [h2]
theorem bef_mem {y p : Rc} {K : List Rc} : p ∈ befL W q K y ↔ p ∈ K ∧ y ∈ sucs W q p := by
  unfold befL
  rw [List.mem_flatMap]
  constructor
  · rintro ⟨b, hb, h2⟩
    obtain ⟨h3, rfl⟩ := List.mem_replicate.1 h2
    exact ⟨hb, List.count_pos_iff.1 (Nat.pos_of_ne_zero h3)⟩
  · rintro ⟨h1, h2⟩
    exact ⟨p, h1, List.mem_replicate.2 ⟨Nat.pos_iff_ne_zero.1 (List.count_pos_iff.2 h2), rfl⟩⟩
def forever : Int := 9223372036854775807
structure Clr (W : List Wd) (q : Nat) (K : List Rc) : Prop where
  nd : K.Nodup
  ok : ∀ x ∈ K, RcOK q x
  suc : ∀ x ∈ K, ∀ y ∈ sucs W q x, y ∈ K
structure Peel (W : List Wd) (q : Nat) (K E Q : List Rc) (lv mv rv : Rc → Int) : Prop where
  nd : (E ++ Q).Nodup
  sub : ∀ x ∈ E ++ Q, x ∈ K
  lf : ∀ y ∈ K, lv y = lfv W q E y
  q0 : ∀ y ∈ K, (y ∈ E ++ Q ↔ lfv W q E y = 0)
  up : ∀ y ∈ K, ∀ z ∈ sucs W q y, z ∈ E → ∃ v : Nat, HV W z v ∧ (v : Int) + 1 ≤ mv y
  at_ : ∀ y ∈ K, mv y = 0 ∨ ∃ z ∈ sucs W q y, z ∈ E ∧ ∃ v : Nat, HV W z v ∧ mv y = (v : Int) + 1
  re : ∀ x ∈ E, ∃ v : Nat, HV W x v ∧ rv x = v
  fo : ∀ x ∈ K, x ∉ E → rv x = forever
structure PeelJ (W : List Wd) (q : Nat) (K E Q : List Rc) (x : Rc) (j : Nat) (lv mv rv : Rc → Int) : Prop where
  nd : ((E ++ [x]) ++ Q).Nodup
  sub : ∀ y ∈ (E ++ [x]) ++ Q, y ∈ K
  lf : ∀ y ∈ K, lv y = (lfv W q E y : Int) - ((befL W q K x).take j).count y
  q0 : ∀ y ∈ K, (y ∈ (E ++ [x]) ++ Q ↔ lv y = 0)
  up : ∀ y ∈ K, ∀ z ∈ sucs W q y, (z ∈ E ∨ (z = x ∧ y ∈ (befL W q K x).take j)) → ∃ v : Nat, HV W z v ∧ (v : Int) + 1 ≤ mv y
  at_ : ∀ y ∈ K, mv y = 0 ∨ ∃ z ∈ sucs W q y, z ∈ E ++ [x] ∧ ∃ v : Nat, HV W z v ∧ mv y = (v : Int) + 1
  re : ∀ y ∈ E ++ [x], ∃ v : Nat, HV W y v ∧ rv y = v
  fo : ∀ y ∈ K, y ∉ E ++ [x] → rv y = forever
theorem Peel.head (hW : ∀ w ∈ W, LtOK q w) {K E Q : List Rc} {x : Rc} {lv mv rv : Rc → Int} (hK : Clr W q K) (h : Peel W q K E (x :: Q) lv mv rv) :
    x ∈ K ∧ x ∉ E ∧ ∃ v : Nat, HV W x v ∧ mv x = v := by
  have hx : x ∈ E ++ x :: Q := List.mem_append_right _ List.mem_cons_self
  have hxK := h.sub x hx
  have hall := lfv_zero.1 ((h.q0 x hxK).1 hx)
  have hxE : x ∉ E := by
    have := h.nd
    rw [List.nodup_append] at this
    exact fun hE => this.2.2 x hE x List.mem_cons_self rfl
  refine ⟨hxK, hxE, ?_⟩
  rcases h.at_ x hxK with h0 | ⟨z, hz, hzE, v, hv, e⟩
  · refine ⟨0, hv_max hW (hK.ok x hxK) (fun y hy => ?_) (.inl rfl), h0⟩
    obtain ⟨v, hv, hle⟩ := h.up x hxK y hy (hall y hy)
    omega
  · refine ⟨v + 1, hv_max hW (hK.ok x hxK) (fun y hy => ?_) (.inr ⟨z, hz, v, hv, rfl⟩), by omega⟩
    obtain ⟨w, hw, hle⟩ := h.up x hxK y hy (hall y hy)
    exact ⟨w, hw, by omega⟩
theorem Peel.take (hW : ∀ w ∈ W, LtOK q w) {K E Q : List Rc} {x : Rc} {lv mv rv : Rc → Int} (hK : Clr W q K) (h : Peel W q K E (x :: Q) lv mv rv) :
    PeelJ W q K E Q x 0 lv mv (fun y => if y = x then mv x else rv y) := by
  obtain ⟨hxK, hxE, v, hv, e⟩ := h.head hW hK
  have hp : ((E ++ [x]) ++ Q) = E ++ x :: Q := by simp
  constructor
  · rw [hp]; exact h.nd
  · rw [hp]; exact h.sub
  · intro y hy; rw [h.lf y hy]; simp
  · intro y hy; rw [hp, h.q0 y hy, h.lf y hy]; omega
  · rintro y hy z hz (h1 | ⟨_, h1⟩)
    · exact h.up y hy z hz h1
    · simp at h1
  · intro y hy
    rcases h.at_ y hy with h1 | ⟨z, hz, hzE, w, hw, e2⟩
    · exact .inl h1
    · exact .inr ⟨z, hz, List.mem_append_left _ hzE, w, hw, e2⟩
  · intro y hy
    by_cases hyx : y = x
    · subst hyx; exact ⟨v, hv, by simp [e]⟩
    · obtain ⟨w, hw, e2⟩ := h.re y (by simpa [hyx] using hy)
      exact ⟨w, hw, by rw [if_neg hyx]; exact e2⟩
  · intro y hy hn
    have hyx : y ≠ x := fun e => hn (by subst e; simp)
    show (if y = x then _ else _) = _
    rw [if_neg hyx]
    exact h.fo y hy fun hE => hn (List.mem_append_left _ hE)
theorem PeelJ.step {K E Q : List Rc} {x : Rc} {j : Nat} {lv mv rv : Rc → Int} (hK : Clr W q K) (hxK : x ∈ K) (hxE : x ∉ E) (h : PeelJ W q K E Q x j lv mv rv) {v : Nat} (hv : HV W x v) (hj : j < (befL W q K x).length) {y : Rc} (hy : (befL W q K x)[j] = y) :
    y ∈ K ∧ 0 < lv y ∧ PeelJ W q K E (if lv y - 1 = 0 then Q ++ [y] else Q) x (j + 1) (fun z => if z = y then lv y - 1 else lv z) (fun z => if z = y then max (mv y) ((v : Int) + 1) else mv z) rv := by
  have hym : y ∈ befL W q K x := hy ▸ List.getElem_mem hj
  obtain ⟨hyK, hys⟩ := bef_mem.1 hym
  have htk : (befL W q K x).take (j + 1) = (befL W q K x).take j ++ [y] := by rw [List.take_succ_eq_append_getElem hj, hy]
  have hcnt : ((befL W q K x).take (j + 1)).count y ≤ (befL W q K x).count y := List.Sublist.count_le _ (List.take_sublist _ _)
  have hc2 : ((befL W q K x).take (j + 1)).count y = ((befL W q K x).take j).count y + 1 := by rw [htk, List.count_append]; simp
  have hc3 : ∀ z, z ≠ y → ((befL W q K x).take (j + 1)).count z = ((befL W q K x).take j).count z := fun z hz => by
    rw [htk, List.count_append]; simp [Ne.symm hz]
  have hsn := lfv_snoc (W := W) (q := q) (y := y) hxE
  have hbc := bef_count (W := W) (q := q) (y := x) hK.nd hyK
  have hpos : 0 < lv y := by rw [h.lf y hyK]; omega
  have hyn : y ∉ (E ++ [x]) ++ Q := fun hm => by have := (h.q0 y hyK).1 hm; omega
  refine ⟨hyK, hpos, ?_⟩
  have hset : ∀ z, z ∈ (E ++ [x]) ++ (if lv y - 1 = 0 then Q ++ [y] else Q) ↔ (z ∈ (E ++ [x]) ++ Q ∨ (z = y ∧ lv y - 1 = 0)) := fun z => by
    by_cases h0 : lv y - 1 = 0
    · rw [if_pos h0]; simp [h0, or_assoc]
    · rw [if_neg h0]; simp [h0]
  constructor
  · by_cases h0 : lv y - 1 = 0
    · rw [if_pos h0, ← List.append_assoc, List.nodup_append]
      exact ⟨h.nd, by simp, fun a ha b hb e => by rw [List.mem_singleton.1 hb] at e; subst e; exact hyn ha⟩
    · rw [if_neg h0]; exact h.nd
  · intro z hz
    rcases (hset z).1 hz with h1 | ⟨rfl, _⟩
    · exact h.sub z h1
    · exact hyK
  · intro z hz
    by_cases e : z = y
    · subst e; simp only [if_true]; rw [h.lf z hz, hc2]; omega
    · simp only [if_neg e]; rw [h.lf z hz, hc3 z e]
  · intro z hz
    rw [hset]
    by_cases e : z = y
    · subst e; rw [if_pos rfl]
      exact ⟨fun h1 => h1.elim (fun h2 => absurd h2 hyn) fun h2 => h2.2, fun h1 => .inr ⟨rfl, h1⟩⟩
    · simp only [if_neg e]
      rw [← h.q0 z hz]
      exact ⟨fun h1 => h1.elim id fun h2 => absurd h2.1 e, .inl⟩
  · rintro z hz t ht h1
    by_cases e : z = y
    · subst e
      simp only [if_true]
      rcases h1 with h1 | ⟨rfl, _⟩
      · obtain ⟨w, hw, hle⟩ := h.up z hz t ht (.inl h1)
        exact ⟨w, hw, by omega⟩
      · exact ⟨v, hv, by omega⟩
    · simp only [if_neg e]
      refine h.up z hz t ht (h1.imp id fun h2 => ⟨h2.1, ?_⟩)
      have := h2.2
      rw [htk] at this
      simpa [e] using this
  · intro z hz
    by_cases e : z = y
    · subst e
      simp only [if_true]
      by_cases hm : mv z ≤ (v : Int) + 1
      · exact .inr ⟨x, hys, by simp, v, hv, by omega⟩
      · rcases h.at_ z hz with h1 | h1
        · omega
        · obtain ⟨t, ht, htE, w, hw, e2⟩ := h1
          exact .inr ⟨t, ht, htE, w, hw, by omega⟩
    · simp only [if_neg e]; exact h.at_ z hz
  · exact h.re
  · exact h.fo
theorem PeelJ.done {K E Q : List Rc} {x : Rc} {lv mv rv : Rc → Int} (hK : Clr W q K) (hxK : x ∈ K) (hxE : x ∉ E) (h : PeelJ W q K E Q x (befL W q K x).length lv mv rv) : Peel W q K (E ++ [x]) Q lv mv rv := by
  have hlf : ∀ y ∈ K, lv y = lfv W q (E ++ [x]) y := fun y hy => by
    rw [h.lf y hy, List.take_length, bef_count hK.nd hy]
    have := lfv_snoc (W := W) (q := q) (y := y) hxE
    omega
  constructor
  · exact h.nd
  · exact h.sub
  · exact hlf
  · intro y hy; rw [h.q0 y hy, hlf y hy]; omega
  · intro y hy z hz hzE
    rcases List.mem_append.1 hzE with h1 | h1
    · exact h.up y hy z hz (.inl h1)
    · have h2 := List.mem_singleton.1 h1
      subst h2
      exact h.up y hy z hz (.inr ⟨rfl, by rw [List.take_length]; exact bef_mem.2 ⟨hy, hz⟩⟩)
  · exact h.at_
  · exact h.re
  · exact h.fo
def RvOK (W : List Wd) (p : Rc) (r : Int) : Prop := (∃ v : Nat, HV W p v ∧ r = v) ∨ (r = forever ∧ ∀ n, Gn W n p.1 p.2)
theorem Peel.fin (hW : ∀ w ∈ W, LtOK q w) {K E : List Rc} {lv mv rv : Rc → Int} (hK : Clr W q K) (h : Peel W q K E [] lv mv rv) : ∀ x ∈ K, RvOK W x (rv x) := by
  intro x hx
  by_cases hE : x ∈ E
  · exact .inl (h.re x hE)
  · refine .inr ⟨h.fo x hx hE, fun n => inf_all hW (U := fun y => y ∈ K ∧ y ∉ E) (fun y hy => ⟨hK.ok y hy.1, ?_⟩) n x ⟨hx, hE⟩⟩
    refine Classical.byContradiction fun hc => hy.2 ?_
    have : lfv W q E y = 0 := lfv_zero.2 fun z hz => Classical.byContradiction fun hzE => hc ⟨z, hz, hK.suc y hy.1 z hz, hzE⟩
    simpa using (h.q0 y hy.1).2 this
end
end Go.Proofs.Ytoafgeobhhlplaa
