/- Parts of the proof: DN. -/
import Derived.Test.YtoafgeobhhlplaaZF37
namespace Go.Proofs.Ytoafgeobhhlplaa
set_option linter.unusedSimpArgs false
set_option linter.unusedVariables false
open Go Go.Lift
theorem al_put {α β : Type} [DecidableEq α] : ∀ {m : List (α × β)} {k j : α} {v : β}, alGet (alPut m k v) j = if j = k then some v else alGet m j
  | [], k, j, v => rfl
  | (a, b) :: m, k, j, v => by
    simp only [alPut]
    by_cases h : k = a
    · subst h
      rw [if_pos rfl]
      simp only [alGet]
      by_cases h2 : j = k
      · rw [if_pos h2, if_pos h2]
      · rw [if_neg h2, if_neg h2, if_neg h2]
    · rw [if_neg h]
      simp only [alGet]
      rw [al_put (m := m)]
      by_cases h3 : j = a
      · subst h3
        rw [if_pos rfl, if_neg (fun e => h e.symm), if_pos rfl]
      · rw [if_neg h3, if_neg h3]
theorem al_putD {α β : Type} [DecidableEq α] {m : List (α × β)} {k j : α} {v d : β} : (alGet (alPut m k v) j).getD d = if j = k then v else (alGet m j).getD d := by
  rw [al_put]; split <;> rfl
theorem al_keys {α β : Type} [DecidableEq α] : ∀ {m : List (α × β)} {k : α} {v : β}, (alPut m k v).map (·.1) = if k ∈ m.map (·.1) then m.map (·.1) else m.map (·.1) ++ [k]
  | [], k, v => rfl
  | (a, b) :: m, k, v => by
    simp only [alPut]
    by_cases h : k = a
    · subst h; simp
    · rw [if_neg h, List.map_cons, List.map_cons, al_keys (m := m)]
      by_cases h2 : k ∈ m.map (·.1)
      · rw [if_pos h2, if_pos (List.mem_cons_of_mem _ h2)]
      · rw [if_neg h2, if_neg (fun e => (List.mem_cons.1 e).elim h h2)]; rfl
theorem al_nd {α β : Type} [DecidableEq α] {m : List (α × β)} {k : α} {v : β} (h : (m.map (·.1)).Nodup) : ((alPut m k v).map (·.1)).Nodup := by
  rw [al_keys]
  split
  · exact h
  · rename_i h2
    rw [List.nodup_append]
    exact ⟨h, by simp, fun a ha b hb e => by rw [List.mem_singleton.1 hb] at e; exact h2 (e ▸ ha)⟩
section
variable {W : List Wd} {q : Nat}
def BoxR (W : List Wd) (p : Rc) : Prop := p.1 ∈ sufL W ∧ p.2 ∈ sufL W
theorem box_aft {p r : Rc} {l : UInt8} (h : BoxR W p) (hr : r ∈ aft W p l) : BoxR W r := by
  obtain ⟨h1, h2⟩ := aft_mem.1 hr
  exact ⟨suf_rst h.1 h1, suf_rst h.2 h2⟩
theorem box_at {i : Nat} {s : Wd} (h : AtM W i s) : BoxR W ([], s) := by
  obtain ⟨y, hy, _, h2⟩ := h
  exact ⟨sfx_mem.2 (.inl rfl), suf_run (fun t ht => by rw [List.mem_singleton.1 ht]; exact sfx_mem.2 (.inr ⟨_, W_mem hy, List.suffix_refl _⟩)) h2⟩
theorem lt_suf (hW : ∀ w ∈ W, LtOK q w) {s : Wd} (h : s ∈ sufL W) : LtOK q s := by
  rcases sfx_mem.1 h with rfl | ⟨w, hw, h⟩
  · intro c hc; cases hc
  · exact fun c hc => hW w hw c (h.mem hc)
theorem box_ok (hW : ∀ w ∈ W, LtOK q w) {p : Rc} (h : BoxR W p) : RcOK q p := ⟨lt_suf hW h.1, lt_suf hW h.2⟩
theorem box_len (hv : ∀ w ∈ W, w.length ≤ 32) (hn : W.length ≤ 64) {K : List Rc} (h : K.Nodup) (hb : ∀ p ∈ K, BoxR W p) : K.length ≤ 4464769 := by
  have h1 := List.Nodup.length_le_of_subset (l₁ := K) (l₂ := (sufL W).flatMap fun a => (sufL W).map fun b => (a, b)) h fun p hp => by
    obtain ⟨h2, h3⟩ := hb p hp
    exact List.mem_flatMap.2 ⟨p.1, h2, List.mem_map.2 ⟨p.2, h3, rfl⟩⟩
  have h2 : ∀ L : List Wd, (L.flatMap fun a => (sufL W).map fun b => ((a, b) : Rc)).length = L.length * (sufL W).length := fun L => by
    induction L with
    | nil => simp
    | cons a L ih => rw [List.flatMap_cons, List.length_append, ih, List.length_map, List.length_cons, Nat.add_mul, Nat.one_mul, Nat.add_comm]
  rw [h2] at h1
  have h3 := sfx_len hv hn
  have := Nat.mul_le_mul h3 h3
  omega
theorem aft_len (hn : 1 ≤ W.length ∧ W.length ≤ 64) {p : Rc} {l : UInt8} : (aft W p l).length ≤ 4096 := by
  rw [← aftI_full]
  refine Nat.le_trans (aftI_len _) ?_
  have h1 := rst_len (W := W) (s := p.1) (l := l) hn.1
  have h2 := rst_len (W := W) (s := p.2) (l := l) hn.1
  exact Nat.le_trans (Nat.mul_le_mul (Nat.le_trans h1 hn.2) (Nat.le_trans h2 hn.2)) (by decide)
theorem sucA_len (hn : 1 ≤ W.length ∧ W.length ≤ 64) {p : Rc} : ∀ n, (sucA W p n).length ≤ n * 4096
  | 0 => Nat.le_refl _
  | n + 1 => by
    have h1 := sucA_len hn (p := p) n
    have h2 := aft_len hn (p := p) (l := letters.getD n 0)
    show (sucA W p n ++ _).length ≤ _
    rw [List.length_append]; omega
theorem bef_len (hn : 1 ≤ W.length ∧ W.length ≤ 64) (hq : q ≤ 16) {y : Rc} : ∀ {D : List Rc}, (befL W q D y).length ≤ D.length * 65536
  | [] => Nat.le_refl _
  | p :: D => by
    have h1 := bef_len hn hq (y := y) (D := D)
    have h2 := sucA_len hn (p := p) q
    have h3 : (sucs W q p).count y ≤ (sucs W q p).length := List.count_le_length
    have h4 : (sucs W q p).length = (sucA W p q).length := rfl
    show (List.replicate _ p ++ befL W q D y).length ≤ _
    rw [List.length_append, List.length_replicate, List.length_cons]
    have : q * 4096 ≤ 65536 := by omega
    omega
structure Fst (W : List Wd) (q : Nat) (D Q : List Rc) (B : List (Rc × List Rc)) (L : List (Rc × Int)) : Prop where
  nd : (D ++ Q).Nodup
  box : ∀ x ∈ D ++ Q, BoxR W x
  at_ : ∀ i, i < W.length → ∀ s, AtM W i s → (([], s) : Rc) ∈ D ++ Q
  suc : ∀ x ∈ D, ∀ y ∈ sucs W q x, y ∈ D ++ Q
  bf : ∀ y, (alGet B y).getD [] = befL W q D y
  bn : (B.map (·.1)).Nodup
  lf : ∀ y, (alGet L y).getD 0 = if y ∈ D then ((sucs W q y).length : Int) else 0
structure FstJ (W : List Wd) (q : Nat) (D : List Rc) (x : Rc) (T Q : List Rc) (B : List (Rc × List Rc)) (L : List (Rc × Int)) : Prop where
  nd : (D ++ x :: Q).Nodup
  box : ∀ y ∈ D ++ x :: Q, BoxR W y
  at_ : ∀ i, i < W.length → ∀ s, AtM W i s → (([], s) : Rc) ∈ D ++ x :: Q
  suc : ∀ y ∈ D, ∀ z ∈ sucs W q y, z ∈ D ++ x :: Q
  sux : ∀ z ∈ T, z ∈ D ++ x :: Q
  bf : ∀ y, (alGet B y).getD [] = befL W q D y ++ List.replicate (T.count y) x
  bn : (B.map (·.1)).Nodup
  lf : ∀ y, (alGet L y).getD 0 = if y ∈ D then ((sucs W q y).length : Int) else if y = x then (T.length : Int) else 0
def bPut (B : List (Rc × List Rc)) (y x : Rc) : List (Rc × List Rc) := alPut B y ((alGet B y).getD [] ++ [x])
def lPut (L : List (Rc × Int)) (x : Rc) : List (Rc × Int) := alPut L x ((alGet L x).getD 0 + 1)
theorem Fst.take {D Q : List Rc} {x : Rc} {B : List (Rc × List Rc)} {L : List (Rc × Int)} (h : Fst W q D (x :: Q) B L) : FstJ W q D x [] Q B L :=
  ⟨h.nd, h.box, h.at_, h.suc, fun z hz => (by cases hz), fun y => by rw [h.bf y]; simp, h.bn, fun y => by rw [h.lf y]; simp⟩
theorem FstJ.xD {D T Q : List Rc} {x : Rc} {B : List (Rc × List Rc)} {L : List (Rc × Int)} (h : FstJ W q D x T Q B L) : x ∉ D := fun hx => by
  have := h.nd
  rw [List.nodup_append] at this
  exact this.2.2 x hx x List.mem_cons_self rfl
theorem FstJ.step {D T Q : List Rc} {x y : Rc} {B : List (Rc × List Rc)} {L : List (Rc × Int)} (h : FstJ W q D x T Q B L) (hy : BoxR W y) : FstJ W q D x (T ++ [y]) (if y ∈ D ++ x :: Q then Q else Q ++ [y]) (bPut B y x) (lPut L x) := by
  have hs : ∀ z, z ∈ D ++ x :: (if y ∈ D ++ x :: Q then Q else Q ++ [y]) ↔ z ∈ D ++ x :: Q ∨ z = y := fun z => by
    by_cases hm : y ∈ D ++ x :: Q
    · rw [if_pos hm]; exact ⟨.inl, fun k => k.elim id fun e => e ▸ hm⟩
    · rw [if_neg hm]; simp [or_assoc]
  constructor
  · by_cases hm : y ∈ D ++ x :: Q
    · rw [if_pos hm]; exact h.nd
    · rw [if_neg hm, ← List.cons_append, ← List.append_assoc, List.nodup_append]
      exact ⟨h.nd, by simp, fun a ha b hb e => by rw [List.mem_singleton.1 hb] at e; exact hm (e ▸ ha)⟩
  · intro z hz
    rcases (hs z).1 hz with h1 | rfl
    · exact h.box z h1
    · exact hy
  · exact fun i hi s hA => (hs _).2 (.inl (h.at_ i hi s hA))
  · exact fun a ha z hz => (hs z).2 (.inl (h.suc a ha z hz))
  · intro z hz
    rcases List.mem_append.1 hz with h1 | h1
    · exact (hs z).2 (.inl (h.sux z h1))
    · exact (hs z).2 (.inr (List.mem_singleton.1 h1))
  · intro z
    unfold bPut
    rw [al_putD, List.count_append]
    by_cases e : z = y
    · subst e
      rw [if_pos rfl, h.bf z]
      simp [List.replicate_succ']
    · rw [if_neg e, h.bf z]
      simp [show ¬ y = z from fun k => e k.symm]
  · exact al_nd h.bn
  · intro z
    unfold lPut
    rw [al_putD]
    by_cases e : z = x
    · subst e
      have := h.lf z
      rw [if_neg h.xD, if_pos rfl] at this
      rw [if_pos rfl, this, if_neg h.xD, if_pos rfl, List.length_append]
      simp
    · rw [if_neg e, h.lf z, if_neg e, if_neg e]
theorem FstJ.done {D Q : List Rc} {x : Rc} {B : List (Rc × List Rc)} {L : List (Rc × Int)} (h : FstJ W q D x (sucs W q x) Q B L) : Fst W q (D ++ [x]) Q B L := by
  have e : (D ++ [x]) ++ Q = D ++ x :: Q := by simp
  constructor
  · rw [e]; exact h.nd
  · rw [e]; exact h.box
  · rw [e]; exact h.at_
  · rw [e]
    intro y hy z hz
    rcases List.mem_append.1 hy with h1 | h1
    · exact h.suc y h1 z hz
    · rw [List.mem_singleton.1 h1] at hz; exact h.sux z hz
  · intro y
    rw [h.bf y]
    unfold befL
    rw [List.flatMap_append]; simp
  · exact h.bn
  · intro y
    rw [h.lf y]
    by_cases e1 : y ∈ D
    · rw [if_pos e1, if_pos (List.mem_append_left _ e1)]
    · by_cases e2 : y = x
      · subst e2; rw [if_neg e1, if_pos rfl, if_pos (by simp)]
      · rw [if_neg e1, if_neg e2, if_neg (by simp [e1, e2])]
theorem Fst.clr (hW : ∀ w ∈ W, LtOK q w) {D : List Rc} {B : List (Rc × List Rc)} {L : List (Rc × Int)} (h : Fst W q D [] B L) : Clr W q D := by
  have e : D ++ [] = D := List.append_nil D
  refine ⟨e ▸ h.nd, fun x hx => box_ok hW (h.box x (e.symm ▸ hx)), fun x hx y hy => ?_⟩
  have := h.suc x hx y hy
  rwa [e] at this
structure Ini (W : List Wd) (n : Nat) (K : List Rc) : Prop where
  nd : K.Nodup
  box : ∀ x ∈ K, BoxR W x
  at_ : ∀ i, i < n → ∀ s, AtM W i s → (([], s) : Rc) ∈ K
theorem ini_zero : Ini W 0 [] := ⟨List.nodup_nil, fun x hx => (by cases hx), fun i hi => absurd hi (Nat.not_lt_zero _)⟩
theorem ini_succ {n : Nat} {K L : List Rc} (h : Ini W n K) (hL : AtL W n L) : Ini W (n + 1) (addL K L) := by
  refine ⟨addL_nd h.nd, fun x hx => ?_, fun i hi s hs => ?_⟩
  · rcases addL_mem.1 hx with h1 | h1
    · exact h.box x h1
    · obtain ⟨h2, h3⟩ := (hL.mem x).1 h1
      have := box_at h3
      rw [← h2] at this
      exact this
  · refine addL_mem.2 ?_
    rcases Nat.lt_or_ge i n with h1 | h1
    · exact .inl (h.at_ i h1 s hs)
    · obtain rfl : i = n := by omega
      exact .inr ((hL.mem _).2 ⟨rfl, hs⟩)
theorem ini_fst {K : List Rc} (h : Ini W W.length K) : Fst W q [] K [] [] :=
  ⟨by simpa using h.nd, by simpa using h.box, by simpa using h.at_, fun x hx => (by cases hx), fun y => rfl, by simp, fun y => by simp [alGet]⟩
theorem peel_ini {K : List Rc} (hK : Clr W q K) {L : List (Rc × Int)} (hl : ∀ y ∈ K, (alGet L y).getD 0 = ((sucs W q y).length : Int)) {o : List Nat} (ho : o.Perm (List.range K.length)) {rv : Rc → Int} (hr : ∀ x ∈ K, rv x = forever) :
    Peel W q K [] ((o.map fun d => K.getD d dRc).filter fun x => decide ((alGet L x).getD 0 = 0)) (fun y => (alGet L y).getD 0) (fun _ => 0) rv := by
  have hlf : ∀ y, lfv W q [] y = (sucs W q y).length := fun y => by unfold lfv; simp
  have hm : ∀ y, y ∈ (o.map fun d => K.getD d dRc).filter (fun x => decide ((alGet L x).getD 0 = 0)) ↔ y ∈ K ∧ (alGet L y).getD 0 = 0 := fun y => by
    rw [List.mem_filter, perm_all ho, decide_eq_true_eq]
  constructor
  · exact (perm_nd hK.nd ho).sublist List.filter_sublist
  · exact fun x hx => ((hm x).1 hx).1
  · exact fun y hy => by rw [hl y hy, hlf]
  · intro y hy
    rw [List.nil_append, hm, hl y hy, hlf]
    exact ⟨fun h => by omega, fun h => ⟨hy, by omega⟩⟩
  · exact fun y hy z hz hE => by cases hE
  · exact fun y hy => .inl rfl
  · exact fun x hx => by cases hx
  · exact fun x hx _ => hr x hx
end
end Go.Proofs.Ytoafgeobhhlplaa
