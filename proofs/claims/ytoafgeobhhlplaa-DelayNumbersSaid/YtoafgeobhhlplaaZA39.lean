/- Parts of the proof: VM DN DO. -/
import Derived.Test.YtoafgeobhhlplaaZA21
import Derived.Test.YtoafgeobhhlplaaZA37
import Derived.Test.YtoafgeobhhlplaaZA38
namespace Go.Proofs.Ytoafgeobhhlplaa
set_option linter.unusedSimpArgs false
set_option linter.unusedVariables false
open Go Go.Lift Go.Proofs
def fvM (K : List Rc) : List (Rc × Int) := K.map fun x => (x, forever)
theorem fvM_get {x : Rc} : ∀ {K : List Rc}, alGet (fvM K) x = if x ∈ K then some forever else none
  | [] => rfl
  | a :: K => by
    show (if x = a then some forever else alGet (fvM K) x) = _
    rw [fvM_get]
    by_cases h : x = a
    · rw [if_pos h, if_pos (by rw [h]; exact List.mem_cons_self)]
    · rw [if_neg h]
      by_cases h2 : x ∈ K
      · rw [if_pos h2, if_pos (List.mem_cons_of_mem _ h2)]
      · rw [if_neg h2, if_neg (fun e => (List.mem_cons.1 e).elim h h2)]
theorem al_new {β : Type} {k : Rc} {v : β} : ∀ {m : List (Rc × β)}, alGet m k = none → alPut m k v = m ++ [(k, v)]
  | [], _ => rfl
  | (a, b) :: m, h => by
    simp only [alGet] at h
    by_cases hk : k = a
    · rw [if_pos hk] at h; cases h
    · rw [if_neg hk] at h
      simp only [alPut, if_neg hk, al_new h, List.cons_append]
theorem fvM_put {x : Rc} {K : List Rc} (h : x ∉ K) : alPut (fvM K) x 9223372036854775807 = fvM (addG K x) := by
  rw [al_new (by rw [fvM_get, if_neg h])]
  unfold addG fvM
  rw [if_neg h, List.map_append]; rfl
theorem fvM_in {x : Rc} {K : List Rc} (h : (alGet (fvM K) x).isSome = true) : x ∈ K := by
  rw [fvM_get] at h
  by_cases h2 : x ∈ K
  · exact h2
  · rw [if_neg h2] at h; cases h
theorem fvM_out {x : Rc} {K : List Rc} (h : alGet (fvM K) x = none) : x ∉ K := fun h2 => by rw [fvM_get, if_pos h2] at h; cases h
def adQ (K : List Rc) (A Q : List Rc) (x : Rc) : List Rc × List Rc := if x ∈ K then (A, Q) else ([], Q ++ [x])
theorem adQ_in {K A Q : List Rc} {x : Rc} (h : x ∈ K) : adQ K A Q x = (A, Q) := if_pos h
theorem adQ_out {K A Q : List Rc} {x : Rc} (h : x ∉ K) : adQ K A Q x = ([], Q ++ [x]) := if_neg h
theorem addG_in {K : List Rc} {x : Rc} (h : x ∈ K) : addG K x = K := if_pos h
theorem app_oneQ {A Q : List Rc} {x : Rc} {w : Nat → Nat → AVal} {i j : Nat} (hw : w 0 j = rcF x j) (hi : i < Q.length + 1) : app (fun y => rcF ((A ++ Q).getD (A.length + y) dRc)) Q.length w i j = rcF ((Q ++ [x]).getD i dRc) j := by
  have e : (fun y => rcF ((A ++ Q).getD (A.length + y) dRc)) = fun y => rcF (Q.getD y dRc) := by
    funext y
    congr 1
    simp only [List.getD_eq_getElem?_getD]
    rw [List.getElem?_append_right (by omega), Nat.add_sub_cancel_left]
  rw [e]
  exact app_oneR hw hi
set_option maxRecDepth 100000 in
theorem add_c (c : Cd) (K A Q : List Rc) (x : Rc) (hb : A.length + Q.length ≤ 5000000) : FC1 Try.prog 66 [.agg 2 (rcF x), .ptr (0, 0) 0 0, .ptr (1, 0) 0 0] [(0, .one (.arr 1 3 (fun _ => rvF c (.map (2, 0))))), (1, .one (.arr 1 1 (fun _ _ => .sl (3, 0) A.length Q.length))), (2, .one (.mp (mpE rcK intV (fvM K)))), (3, .one (.arr (A.length + Q.length) 2 (fun y => rcF ((A ++ Q).getD y dRc))))] 4 (.tup 0 (fun _ => .any)) [(0, .one (.arr 1 3 (fun _ => rvF c (.map (2, 0))))), (1, .one (.arr 1 1 (fun _ _ => .sl (4, 0) (adQ K A Q x).1.length (adQ K A Q x).2.length))), (2, .one (.mp (mpE rcK intV (fvM (addG K x))))), (4, .one (.arr ((adQ K A Q x).1.length + (adQ K A Q x).2.length) 2 (fun y => rcF (((adQ K A Q x).1 ++ (adQ K A Q x).2).getD y dRc))))] 5 := by
 refine FC_introS T_ok Try.func66 rfl (by simp [Try.ntmps66]) fun G hG hR => ?_
 simp only [Try.ntmps66, Try.results66] at hG ⊢
 simp only [argEnv, Nat.zero_add, Nat.reduceAdd]
 refine zs (zrP ?_)
 refine zs (zrP ?_)
 refine zs (zrP ?_)
 refine zy (fun hb14 => ?_) fun hb14 => ?_
 · have hx := fvM_out (by simpa using hb14)
   have hfp := fvM_put hx
   have had := adQ_out (A := A) (Q := Q) hx
   refine zs (zrP ?_)
   refine zrP ?_
   refine zn ?_
   refine RetF_of (()) (fun k => if k = 4 then 6 else k) (fun _ => false) (fun _ => false) trivial ?_ ?_ (by rfl) (by simp) (fun k hk => ⟨if_neg (by omega), rfl⟩)
   · simp [hG, List.getD_cons_zero, List.getD_cons_succ, -List.getD_eq_getElem?_getD, pureOp]
   rw [had, ← hfp]; simp [hG, pureOp, List.getD_cons_zero, List.getD_cons_succ, -List.getD_eq_getElem?_getD]; exact fun i hi => ⟨app_oneQ (j := 0) rfl hi, app_oneQ (j := 1) rfl hi⟩
 have hx := fvM_in (by simpa using hb14)
 have had := adQ_in (A := A) (Q := Q) hx
 have hag := addG_in hx
 refine zk (zn ?_)
 refine RetF_of (()) (fun k => if k = 4 then 3 else k) (fun _ => false) (fun _ => false) trivial ?_ ?_ (by rfl) (by simp) (fun k hk => ⟨if_neg (by omega), rfl⟩)
 · simp [hG, List.getD_cons_zero, List.getD_cons_succ, -List.getD_eq_getElem?_getD, pureOp]
 rw [had, hag]; simp [hG, pureOp, List.getD_cons_zero, List.getD_cons_succ, -List.getD_eq_getElem?_getD]
end Go.Proofs.Ytoafgeobhhlplaa
namespace Go.Proofs.Ytoafgeobhhlplaa
set_option linter.unusedSimpArgs false
set_option linter.unusedVariables false
open Go Go.Lift
theorem al_put {α β : Type} [DecidableEq α] : ∀ {m : List (α × β)} {k j : α} {v : β}, alGet (alPut m k v) j = if j = k then some v else alGet m j
  | [], k, j, v => rfl
  | (a, b) :: m, k, j, v => by
    simp only [alPut]
    by_cases h : k = a
    · subst h
      rw [if_pos rfl]
      simp only [alGet]
      by_cases h2 : j = k
      · rw [if_pos h2, if_pos h2]
      · rw [if_neg h2, if_neg h2, if_neg h2]
    · rw [if_neg h]
      simp only [alGet]
      rw [al_put (m := m)]
      by_cases h3 : j = a
      · subst h3
        rw [if_pos rfl, if_neg (fun e => h e.symm), if_pos rfl]
      · rw [if_neg h3, if_neg h3]
theorem al_putD {α β : Type} [DecidableEq α] {m : List (α × β)} {k j : α} {v d : β} : (alGet (alPut m k v) j).getD d = if j = k then v else (alGet m j).getD d := by
  rw [al_put]; split <;> rfl
theorem al_keys {α β : Type} [DecidableEq α] : ∀ {m : List (α × β)} {k : α} {v : β}, (alPut m k v).map (·.1) = if k ∈ m.map (·.1) then m.map (·.1) else m.map (·.1) ++ [k]
  | [], k, v => rfl
  | (a, b) :: m, k, v => by
    simp only [alPut]
    by_cases h : k = a
    · subst h; simp
    · rw [if_neg h, List.map_cons, List.map_cons, al_keys (m := m)]
      by_cases h2 : k ∈ m.map (·.1)
      · rw [if_pos h2, if_pos (List.mem_cons_of_mem _ h2)]
      · rw [if_neg h2, if_neg (fun e => (List.mem_cons.1 e).elim h h2)]; rfl
theorem al_nd {α β : Type} [DecidableEq α] {m : List (α × β)} {k : α} {v : β} (h : (m.map (·.1)).Nodup) : ((alPut m k v).map (·.1)).Nodup := by
  rw [al_keys]
  split
  · exact h
  · rename_i h2
    rw [List.nodup_append]
    exact ⟨h, by simp, fun a ha b hb e => by rw [List.mem_singleton.1 hb] at e; exact h2 (e ▸ ha)⟩
section
variable {W : List Wd} {q : Nat}
def BoxR (W : List Wd) (p : Rc) : Prop := p.1 ∈ sufL W ∧ p.2 ∈ sufL W
theorem box_aft {p r : Rc} {l : UInt8} (h : BoxR W p) (hr : r ∈ aft W p l) : BoxR W r := by
  obtain ⟨h1, h2⟩ := aft_mem.1 hr
  exact ⟨suf_rst h.1 h1, suf_rst h.2 h2⟩
theorem box_at {i : Nat} {s : Wd} (h : AtM W i s) : BoxR W ([], s) := by
  obtain ⟨y, hy, _, h2⟩ := h
  exact ⟨sfx_mem.2 (.inl rfl), suf_run (fun t ht => by rw [List.mem_singleton.1 ht]; exact sfx_mem.2 (.inr ⟨_, W_mem hy, List.suffix_refl _⟩)) h2⟩
theorem lt_suf (hW : ∀ w ∈ W, LtOK q w) {s : Wd} (h : s ∈ sufL W) : LtOK q s := by
  rcases sfx_mem.1 h with rfl | ⟨w, hw, h⟩
  · intro c hc; cases hc
  · exact fun c hc => hW w hw c (h.mem hc)
theorem box_ok (hW : ∀ w ∈ W, LtOK q w) {p : Rc} (h : BoxR W p) : RcOK q p := ⟨lt_suf hW h.1, lt_suf hW h.2⟩
theorem box_len (hv : ∀ w ∈ W, w.length ≤ 32) (hn : W.length ≤ 64) {K : List Rc} (h : K.Nodup) (hb : ∀ p ∈ K, BoxR W p) : K.length ≤ 4464769 := by
  have h1 := List.Nodup.length_le_of_subset (l₁ := K) (l₂ := (sufL W).flatMap fun a => (sufL W).map fun b => (a, b)) h fun p hp => by
    obtain ⟨h2, h3⟩ := hb p hp
    exact List.mem_flatMap.2 ⟨p.1, h2, List.mem_map.2 ⟨p.2, h3, rfl⟩⟩
  have h2 : ∀ L : List Wd, (L.flatMap fun a => (sufL W).map fun b => ((a, b) : Rc)).length = L.length * (sufL W).length := fun L => by
    induction L with
    | nil => simp
    | cons a L ih => rw [List.flatMap_cons, List.length_append, ih, List.length_map, List.length_cons, Nat.add_mul, Nat.one_mul, Nat.add_comm]
  rw [h2] at h1
  have h3 := sfx_len hv hn
  have := Nat.mul_le_mul h3 h3
  omega
theorem aft_len (hn : 1 ≤ W.length ∧ W.length ≤ 64) {p : Rc} {l : UInt8} : (aft W p l).length ≤ 4096 := by
  rw [← aftI_full]
  refine Nat.le_trans (aftI_len _) ?_
  have h1 := rst_len (W := W) (s := p.1) (l := l) hn.1
  have h2 := rst_len (W := W) (s := p.2) (l := l) hn.1
  exact Nat.le_trans (Nat.mul_le_mul (Nat.le_trans h1 hn.2) (Nat.le_trans h2 hn.2)) (by decide)
theorem sucA_len (hn : 1 ≤ W.length ∧ W.length ≤ 64) {p : Rc} : ∀ n, (sucA W p n).length ≤ n * 4096
  | 0 => Nat.le_refl _
  | n + 1 => by
    have h1 := sucA_len hn (p := p) n
    have h2 := aft_len hn (p := p) (l := letters.getD n 0)
    show (sucA W p n ++ _).length ≤ _
    rw [List.length_append]; omega
theorem bef_len (hn : 1 ≤ W.length ∧ W.length ≤ 64) (hq : q ≤ 16) {y : Rc} : ∀ {D : List Rc}, (befL W q D y).length ≤ D.length * 65536
  | [] => Nat.le_refl _
  | p :: D => by
    have h1 := bef_len hn hq (y := y) (D := D)
    have h2 := sucA_len hn (p := p) q
    have h3 : (sucs W q p).count y ≤ (sucs W q p).length := List.count_le_length
    have h4 : (sucs W q p).length = (sucA W p q).length := rfl
    show (List.replicate _ p ++ befL W q D y).length ≤ _
    rw [List.length_append, List.length_replicate, List.length_cons]
    have : q * 4096 ≤ 65536 := by omega
    omega
structure Fst (W : List Wd) (q : Nat) (D Q : List Rc) (B : List (Rc × List Rc)) (L : List (Rc × Int)) : Prop where
  nd : (D ++ Q).Nodup
  box : ∀ x ∈ D ++ Q, BoxR W x
  at_ : ∀ i, i < W.length → ∀ s, AtM W i s → (([], s) : Rc) ∈ D ++ Q
  suc : ∀ x ∈ D, ∀ y ∈ sucs W q x, y ∈ D ++ Q
  bf : ∀ y, (alGet B y).getD [] = befL W q D y
  bn : (B.map (·.1)).Nodup
  lf : ∀ y, (alGet L y).getD 0 = if y ∈ D then ((sucs W q y).length : Int) else 0
structure FstJ (W : List Wd) (q : Nat) (D : List Rc) (x : Rc) (T Q : List Rc) (B : List (Rc × List Rc)) (L : List (Rc × Int)) : Prop where
  nd : (D ++ x :: Q).Nodup
  box : ∀ y ∈ D ++ x :: Q, BoxR W y
  at_ : ∀ i, i < W.length → ∀ s, AtM W i s → (([], s) : Rc) ∈ D ++ x :: Q
  suc : ∀ y ∈ D, ∀ z ∈ sucs W q y, z ∈ D ++ x :: Q
  sux : ∀ z ∈ T, z ∈ D ++ x :: Q
  bf : ∀ y, (alGet B y).getD [] = befL W q D y ++ List.replicate (T.count y) x
  bn : (B.map (·.1)).Nodup
  lf : ∀ y, (alGet L y).getD 0 = if y ∈ D then ((sucs W q y).length : Int) else if y = x then (T.length : Int) else 0
def bPut (B : List (Rc × List Rc)) (y x : Rc) : List (Rc × List Rc) := alPut B y ((alGet B y).getD [] ++ [x])
def lPut (L : List (Rc × Int)) (x : Rc) : List (Rc × Int) := alPut L x ((alGet L x).getD 0 + 1)
theorem Fst.take {D Q : List Rc} {x : Rc} {B : List (Rc × List Rc)} {L : List (Rc × Int)} (h : Fst W q D (x :: Q) B L) : FstJ W q D x [] Q B L :=
  ⟨h.nd, h.box, h.at_, h.suc, fun z hz => (by cases hz), fun y => by rw [h.bf y]; simp, h.bn, fun y => by rw [h.lf y]; simp⟩
theorem FstJ.xD {D T Q : List Rc} {x : Rc} {B : List (Rc × List Rc)} {L : List (Rc × Int)} (h : FstJ W q D x T Q B L) : x ∉ D := fun hx => by
  have := h.nd
  rw [List.nodup_append] at this
  exact this.2.2 x hx x List.mem_cons_self rfl
theorem FstJ.step {D T Q : List Rc} {x y : Rc} {B : List (Rc × List Rc)} {L : List (Rc × Int)} (h : FstJ W q D x T Q B L) (hy : BoxR W y) : FstJ W q D x (T ++ [y]) (if y ∈ D ++ x :: Q then Q else Q ++ [y]) (bPut B y x) (lPut L x) := by
  have hs : ∀ z, z ∈ D ++ x :: (if y ∈ D ++ x :: Q then Q else Q ++ [y]) ↔ z ∈ D ++ x :: Q ∨ z = y := fun z => by
    by_cases hm : y ∈ D ++ x :: Q
    · rw [if_pos hm]; exact ⟨.inl, fun k => k.elim id fun e => e ▸ hm⟩
    · rw [if_neg hm]; simp [or_assoc]
  constructor
  · by_cases hm : y ∈ D ++ x :: Q
    · rw [if_pos hm]; exact h.nd
    · rw [if_neg hm, ← List.cons_append, ← List.append_assoc, List.nodup_append]
      exact ⟨h.nd, by simp, fun a ha b hb e => by rw [List.mem_singleton.1 hb] at e; exact hm (e ▸ ha)⟩
  · intro z hz
    rcases (hs z).1 hz with h1 | rfl
    · exact h.box z h1
    · exact hy
  · exact fun i hi s hA => (hs _).2 (.inl (h.at_ i hi s hA))
  · exact fun a ha z hz => (hs z).2 (.inl (h.suc a ha z hz))
  · intro z hz
    rcases List.mem_append.1 hz with h1 | h1
    · exact (hs z).2 (.inl (h.sux z h1))
    · exact (hs z).2 (.inr (List.mem_singleton.1 h1))
  · intro z
    unfold bPut
    rw [al_putD, List.count_append]
    by_cases e : z = y
    · subst e
      rw [if_pos rfl, h.bf z]
      simp [List.replicate_succ']
    · rw [if_neg e, h.bf z]
      simp [show ¬ y = z from fun k => e k.symm]
  · exact al_nd h.bn
  · intro z
    unfold lPut
    rw [al_putD]
    by_cases e : z = x
    · subst e
      have := h.lf z
      rw [if_neg h.xD, if_pos rfl] at this
      rw [if_pos rfl, this, if_neg h.xD, if_pos rfl, List.length_append]
      simp
    · rw [if_neg e, h.lf z, if_neg e, if_neg e]
theorem FstJ.done {D Q : List Rc} {x : Rc} {B : List (Rc × List Rc)} {L : List (Rc × Int)} (h : FstJ W q D x (sucs W q x) Q B L) : Fst W q (D ++ [x]) Q B L := by
  have e : (D ++ [x]) ++ Q = D ++ x :: Q := by simp
  constructor
  · rw [e]; exact h.nd
  · rw [e]; exact h.box
  · rw [e]; exact h.at_
  · rw [e]
    intro y hy z hz
    rcases List.mem_append.1 hy with h1 | h1
    · exact h.suc y h1 z hz
    · rw [List.mem_singleton.1 h1] at hz; exact h.sux z hz
  · intro y
    rw [h.bf y]
    unfold befL
    rw [List.flatMap_append]; simp
  · exact h.bn
  · intro y
    rw [h.lf y]
    by_cases e1 : y ∈ D
    · rw [if_pos e1, if_pos (List.mem_append_left _ e1)]
    · by_cases e2 : y = x
      · subst e2; rw [if_neg e1, if_pos rfl, if_pos (by simp)]
      · rw [if_neg e1, if_neg e2, if_neg (by simp [e1, e2])]
theorem Fst.clr (hW : ∀ w ∈ W, LtOK q w) {D : List Rc} {B : List (Rc × List Rc)} {L : List (Rc × Int)} (h : Fst W q D [] B L) : Clr W q D := by
  have e : D ++ [] = D := List.append_nil D
  refine ⟨e ▸ h.nd, fun x hx => box_ok hW (h.box x (e.symm ▸ hx)), fun x hx y hy => ?_⟩
  have := h.suc x hx y hy
  rwa [e] at this
structure Ini (W : List Wd) (n : Nat) (K : List Rc) : Prop where
  nd : K.Nodup
  box : ∀ x ∈ K, BoxR W x
  at_ : ∀ i, i < n → ∀ s, AtM W i s → (([], s) : Rc) ∈ K
theorem ini_zero : Ini W 0 [] := ⟨List.nodup_nil, fun x hx => (by cases hx), fun i hi => absurd hi (Nat.not_lt_zero _)⟩
theorem ini_succ {n : Nat} {K L : List Rc} (h : Ini W n K) (hL : AtL W n L) : Ini W (n + 1) (addL K L) := by
  refine ⟨addL_nd h.nd, fun x hx => ?_, fun i hi s hs => ?_⟩
  · rcases addL_mem.1 hx with h1 | h1
    · exact h.box x h1
    · obtain ⟨h2, h3⟩ := (hL.mem x).1 h1
      have := box_at h3
      rw [← h2] at this
      exact this
  · refine addL_mem.2 ?_
    rcases Nat.lt_or_ge i n with h1 | h1
    · exact .inl (h.at_ i h1 s hs)
    · obtain rfl : i = n := by omega
      exact .inr ((hL.mem _).2 ⟨rfl, hs⟩)
theorem ini_fst {K : List Rc} (h : Ini W W.length K) : Fst W q [] K [] [] :=
  ⟨by simpa using h.nd, by simpa using h.box, by simpa using h.at_, fun x hx => (by cases hx), fun y => rfl, by simp, fun y => by simp [alGet]⟩
theorem peel_ini {K : List Rc} (hK : Clr W q K) {L : List (Rc × Int)} (hl : ∀ y ∈ K, (alGet L y).getD 0 = ((sucs W q y).length : Int)) {o : List Nat} (ho : o.Perm (List.range K.length)) {rv : Rc → Int} (hr : ∀ x ∈ K, rv x = forever) :
    Peel W q K [] ((o.map fun d => K.getD d dRc).filter fun x => decide ((alGet L x).getD 0 = 0)) (fun y => (alGet L y).getD 0) (fun _ => 0) rv := by
  have hlf : ∀ y, lfv W q [] y = (sucs W q y).length := fun y => by unfold lfv; simp
  have hm : ∀ y, y ∈ (o.map fun d => K.getD d dRc).filter (fun x => decide ((alGet L x).getD 0 = 0)) ↔ y ∈ K ∧ (alGet L y).getD 0 = 0 := fun y => by
    rw [List.mem_filter, perm_all ho, decide_eq_true_eq]
  constructor
  · exact (perm_nd hK.nd ho).sublist List.filter_sublist
  · exact fun x hx => ((hm x).1 hx).1
  · exact fun y hy => by rw [hl y hy, hlf]
  · intro y hy
    rw [List.nil_append, hm, hl y hy, hlf]
    exact ⟨fun h => by omega, fun h => ⟨hy, by omega⟩⟩
  · exact fun y hy z hz hE => by cases hE
  · exact fun y hy => .inl rfl
  · exact fun x hx => by cases hx
  · exact fun x hx _ => hr x hx
end
end Go.Proofs.Ytoafgeobhhlplaa
namespace Go.Proofs.Ytoafgeobhhlplaa
set_option linter.unusedSimpArgs false
set_option linter.unusedVariables false
open Go Go.Lift
def idxB : Nat → List (Rc × List Rc) → List (Rc × (Nat × Nat))
  | _, [] => []
  | n, (y, l) :: B => (y, (n, l.length)) :: idxB (n + 1) B
def rowB (B : List (Rc × List Rc)) (i : Nat) : Option HObj := (B[i]?).map fun p => .arr p.2.length 2 (fun y => rcF (p.2.getD y dRc))
theorem idx_keys : ∀ {B : List (Rc × List Rc)} {n : Nat}, (idxB n B).map (·.1) = B.map (·.1)
  | [], _ => rfl
  | (y, l) :: B, n => by
    show y :: (idxB (n + 1) B).map (·.1) = y :: B.map (·.1)
    rw [idx_keys]
theorem idx_none {y : Rc} : ∀ {B : List (Rc × List Rc)} {n : Nat}, alGet (idxB n B) y = none ↔ alGet B y = none
  | [], _ => by simp [idxB, alGet]
  | (a, l) :: B, n => by
    show (if y = a then _ else alGet (idxB (n + 1) B) y) = none ↔ (if y = a then _ else alGet B y) = none
    by_cases h : y = a
    · rw [if_pos h, if_pos h]; simp
    · rw [if_neg h, if_neg h]; exact idx_none
theorem idx_some {y : Rc} {l : List Rc} : ∀ {B : List (Rc × List Rc)} {n : Nat}, alGet B y = some l → ∃ r, r < B.length ∧ B[r]? = some (y, l) ∧ alGet (idxB n B) y = some (n + r, l.length)
  | [], _, h => by cases h
  | (a, m) :: B, n, h => by
    simp only [alGet] at h
    by_cases e : y = a
    · rw [if_pos e] at h
      cases h
      refine ⟨0, by simp, by simp [e], ?_⟩
      show (if y = a then some (n, l.length) else _) = _
      rw [if_pos e]; rfl
    · rw [if_neg e] at h
      obtain ⟨r, h1, h2, h3⟩ := idx_some (n := n + 1) h
      refine ⟨r + 1, by simpa using h1, by simpa using h2, ?_⟩
      show (if y = a then _ else alGet (idxB (n + 1) B) y) = _
      rw [if_neg e, h3]
      congr 2; omega
theorem idx_new {y x : Rc} {B : List (Rc × List Rc)} (h : alGet B y = none) : bPut B y x = B ++ [(y, [x])] ∧ ∀ n, idxB n (bPut B y x) = alPut (idxB n B) y (n + B.length, 1) := by
  have e : bPut B y x = alPut B y [x] := by unfold bPut; rw [h]; rfl
  rw [e]
  clear e
  induction B with
  | nil => exact ⟨rfl, fun n => rfl⟩
  | cons p B ih =>
    obtain ⟨a, l⟩ := p
    simp only [alGet] at h
    by_cases e : y = a
    · rw [if_pos e] at h; cases h
    · rw [if_neg e] at h
      obtain ⟨h1, h2⟩ := ih h
      simp only [alPut, if_neg e]
      refine ⟨by rw [h1]; rfl, fun n => ?_⟩
      show (a, (n, l.length)) :: idxB (n + 1) (alPut B y [x]) = (if y = a then _ else (a, (n, l.length)) :: alPut (idxB (n + 1) B) y (n + (B.length + 1), 1))
      rw [if_neg e, h2, show n + 1 + B.length = n + (B.length + 1) by omega]
theorem idx_old {y x : Rc} {l : List Rc} {B : List (Rc × List Rc)} {r : Nat} (hb : (B.map (·.1)).Nodup) (h : alGet B y = some l) (hr : B[r]? = some (y, l)) : bPut B y x = B.set r (y, l ++ [x]) ∧ ∀ n, idxB n (bPut B y x) = alPut (idxB n B) y (n + r, l.length + 1) := by
  have e : bPut B y x = alPut B y (l ++ [x]) := by unfold bPut; rw [h]; rfl
  rw [e]
  clear e
  induction B generalizing r with
  | nil => cases h
  | cons p B ih =>
    obtain ⟨a, m⟩ := p
    rw [List.map_cons, List.nodup_cons] at hb
    simp only [alGet] at h
    by_cases e : y = a
    · subst e
      rw [if_pos rfl] at h
      cases h
      have hr0 : r = 0 := by
        rcases Nat.eq_zero_or_pos r with h0 | h0
        · exact h0
        · exfalso
          obtain ⟨k, rfl⟩ : ∃ k, r = k + 1 := ⟨r - 1, by omega⟩
          rw [List.getElem?_cons_succ] at hr
          exact hb.1 (List.mem_map.2 ⟨_, List.mem_of_getElem? hr, rfl⟩)
      subst hr0
      simp only [alPut, if_true]
      refine ⟨rfl, fun n => ?_⟩
      show (y, (n, (l ++ [x]).length)) :: idxB (n + 1) B = (if y = y then (y, (n + 0, l.length + 1)) :: idxB (n + 1) B else _)
      rw [if_pos rfl, List.length_append]; rfl
    · rw [if_neg e] at h
      obtain ⟨k, rfl⟩ : ∃ k, r = k + 1 := ⟨r - 1, by
        rcases Nat.eq_zero_or_pos r with h0 | h0
        · subst h0
          rw [List.getElem?_cons_zero] at hr
          injection hr with hr
          exact absurd (congrArg Prod.fst hr).symm e
        · omega⟩
      rw [List.getElem?_cons_succ] at hr
      obtain ⟨h1, h2⟩ := ih hb.2 h hr
      simp only [alPut, if_neg e]
      refine ⟨by rw [h1]; rfl, fun n => ?_⟩
      show (a, (n, m.length)) :: idxB (n + 1) (alPut B y (l ++ [x])) = (if y = a then _ else (a, (n, m.length)) :: alPut (idxB (n + 1) B) y (n + (k + 1), l.length + 1))
      rw [if_neg e, h2, show n + 1 + k = n + (k + 1) by omega]
end Go.Proofs.Ytoafgeobhhlplaa
