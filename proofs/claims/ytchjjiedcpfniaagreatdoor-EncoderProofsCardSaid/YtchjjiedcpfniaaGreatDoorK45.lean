/- Parts of the proof: UQ EA EB. -/
import Derived.Test.YtchjjiedcpfniaaGreatDoorK11
import Derived.Test.YtchjjiedcpfniaaGreatDoorK15
import Derived.Test.YtchjjiedcpfniaaGreatDoorK16
import Derived.Test.YtchjjiedcpfniaaGreatDoorK29
import Derived.Test.YtchjjiedcpfniaaGreatDoorK44
namespace Go.Proofs.YtchjjiedcpfniaaGreatDoor
set_option linter.unusedSimpArgs false
set_option linter.unusedVariables false
open Go Go.Lift Go.Proofs
theorem upTo_pos {q : Int} (hq : 1 ≤ q) : ∀ k, 1 ≤ upTo q k
  | 0 => by simp [upTo]
  | k + 1 => by
    have h := upTo_pos hq k
    unfold upTo
    split
    · exact h
    · have := Int.mul_le_mul h hq (by omega) (by omega)
      omega
theorem upTo_next {q : Int} {k : Nat} (h : ¬ 256 < upTo q k) : upTo q (k + 1) = upTo q k * q := if_neg h
set_option maxRecDepth 100000 in
theorem raiseE_c (q n : Int) (hq : 1 ≤ q ∧ q ≤ 256) (hn : n ≤ 1000) : PC Tryz.prog 26 [.int .i64 q, .int .i64 n] (.int .i64 (upTo q n.toNat)) := by
 refine zp Tryz.func26 fun G hG hR => ?_
 refine zs (zr ?_)
 refine zs (zr ?_)
 refine zs (zs (zr ?_))
 refine zb ?_
 refine awpS_loop (α := Nat) (fun k => ⟨[(0, .int .i64 q), (5, .int .i64 (upTo q k)), (6, .int .i64 n), (7, .int .i64 k)], [], 0⟩) (fun k => k ≤ n.toNat) (fun k => n.toNat - k) (0) (Nat.zero_le _) ?_ ?_
 · exact zi (e := by simp [hG, List.getD_cons_zero, List.getD_cons_succ, -List.getD_eq_getElem?_getD]; try rfl)
 rintro k hk
 refine zs (zr ?_)
 refine zs (zy (fun hb8 => ?_) fun hb8 => ?_)
 · have hpos := upTo_pos hq.1 k
   refine zk (zs (zb (zs (zs (zr ?_)))))
   refine zy (fun hb10 => ?_) fun hb10 => ?_
   · refine zs (zr ?_)
     refine zt (zbt (ztt (zbt ?_)))
     refine RetOK_of ?_
     simp [hG, List.getD_cons_zero, List.getD_cons_succ, -List.getD_eq_getElem?_getD]
     exact (upTo_stay hb10 (by omega)).symm
   have hE := upTo_next (q := q) (k := k) (by omega)
   have hmul := mul_box hpos (by omega) hq
   refine zk (zr ?_)
   refine zn (zbn (zr ?_))
   refine zn ?_
   refine round_end (k + 1) (by omega) (by omega) ?_
   exact zi (e := by rw [hE]; simp [hG, List.getD_cons_zero, List.getD_cons_succ, -List.getD_eq_getElem?_getD])
 obtain rfl : k = n.toNat := (by omega)
 refine zx (ztx (zbx (zs (zr ?_))))
 refine zt ?_
 exact zR
end Go.Proofs.YtchjjiedcpfniaaGreatDoor
namespace Go.Proofs.YtchjjiedcpfniaaGreatDoor
set_option linter.unusedSimpArgs false
set_option linter.unusedVariables false
open Go Go.Lift
def meetT (S : List Int) (t : Int) : List Int := if t ∈ S then S else S ++ [t]
theorem meet_old {S : List Int} {t : Int} (h : t ∈ S) : meetT S t = S := if_pos h
theorem meet_new {S : List Int} {t : Int} (h : t ∉ S) : meetT S t = S ++ [t] := if_neg h
theorem meet_pre {S : List Int} {t : Int} : S <+: meetT S t := by
  unfold meetT
  split
  · exact List.prefix_refl _
  · exact List.prefix_append _ _
theorem meet_mem {S : List Int} {t : Int} : t ∈ meetT S t := by
  unfold meetT
  split
  · assumption
  · simp
theorem place_new {S : List Int} {t : Int} (h : t ∉ S) : placeI (S ++ [t]) t = S.length := by
  refine placeI_some _ _ _ (by simp) (fun j hj => ?_) (by simp [List.getD])
  have : (S ++ [t]).getD j 0 = S.getD j 0 := by simp [List.getD, List.getElem?_append_left hj]
  rw [this]
  exact fun e => h (e ▸ getD_mem hj)
theorem place_out {S : List Int} {t : Int} : placeI S t < 0 ↔ t ∉ S := by
  have := placeI_mem S t
  constructor
  · intro h k; have := this.2 k; omega
  · intro h
    refine Int.not_le.1 fun k => h (this.1 k)
section
variable (g : Gr) (q n : Int)
def edgK (l : List Int) (k : Nat) : Edge := g.edges.getD (l.getD k 0).toNat de
def rwS (l : List Int) (S : List Int) : Nat → List Int
  | 0 => S
  | k + 1 => meetT (rwS l S k) (edgK g l k).to
def rwC (l : List Int) (S : List Int) (k : Nat) : Cell := ⟨placeI (rwS g l S (k + 1)) (edgK g l k).to, blockX q n (edgK g l k).lab⟩
def bdS (m : Nat) : Nat → List Int
  | 0 => [0]
  | i + 1 => rwS g (outL g ((bdS m i).getD i 0)) (bdS m i) m
def bdR (m i : Nat) : List Cell := (List.range m).map (rwC g q n (outL g ((bdS g m i).getD i 0)) (bdS g m i))
def bdK (m : Nat) : Nat := ((List.range 65).find? fun i => decide ((bdS g m i).length ≤ i)).getD 0
def bdE (m : Nat) : Enc := ⟨q, n, m, (List.range (bdK g m)).map (bdR g q n m)⟩
end
section
variable {g : Gr} {q n : Int} {l S : List Int} {k m i : Nat}
theorem rwS_zero : rwS g l S 0 = S := rfl
theorem rwS_pre : ∀ k, S <+: rwS g l S k
  | 0 => List.prefix_refl _
  | k + 1 => (rwS_pre k).trans meet_pre
theorem rwS_old (h : 0 ≤ placeI (rwS g l S k) (edgK g l k).to) : rwS g l S (k + 1) = rwS g l S k := meet_old ((placeI_mem _ _).1 h)
theorem rwS_new (h : placeI (rwS g l S k) (edgK g l k).to < 0) : rwS g l S (k + 1) = rwS g l S k ++ [(edgK g l k).to] := meet_new (place_out.1 h)
theorem rwC_old (h : 0 ≤ placeI (rwS g l S k) (edgK g l k).to) : rwC g q n l S k = ⟨placeI (rwS g l S k) (edgK g l k).to, blockX q n (edgK g l k).lab⟩ := by
  unfold rwC; rw [rwS_old h]
theorem rwC_new (h : placeI (rwS g l S k) (edgK g l k).to < 0) : rwC g q n l S k = ⟨((rwS g l S k).length : Int), blockX q n (edgK g l k).lab⟩ := by
  unfold rwC; rw [rwS_new h, place_new (place_out.1 h)]
structure Met (g : Gr) (S : List Int) : Prop where
  nd : S.Nodup
  box : ∀ t ∈ S, 0 ≤ t ∧ t < g.states
theorem Met.len (h : Met g S) : S.length ≤ g.states.toNat := by
  have h1 := List.Nodup.length_le_of_subset (l₁ := S) (l₂ := (List.range g.states.toNat).map fun k : Nat => (k : Int)) h.nd fun t ht => by
    have := h.box t ht
    exact List.mem_map.2 ⟨t.toNat, List.mem_range.2 (by omega), by omega⟩
  simpa using h1
theorem Met.add (h : Met g S) {t : Int} (ht : 0 ≤ t ∧ t < g.states) : Met g (meetT S t) := by
  by_cases h1 : t ∈ S
  · rw [meet_old h1]; exact h
  · rw [meet_new h1]
    refine ⟨?_, fun x hx => ?_⟩
    · rw [List.nodup_append]
      exact ⟨h.nd, by simp, fun a ha b hb e => by rw [List.mem_singleton.1 hb] at e; exact h1 (e ▸ ha)⟩
    · rcases List.mem_append.1 hx with h2 | h2
      · exact h.box x h2
      · rw [List.mem_singleton.1 h2]; exact ht
theorem edg_mem (hl : ∀ x ∈ l, 0 ≤ x ∧ x < (g.edges.length : Int)) (hk : k < l.length) : edgK g l k ∈ g.edges := by
  have := hl _ (getD_mem (d := (0 : Int)) hk)
  exact getD_mem (d := de) (show (l.getD k 0).toNat < g.edges.length by omega)
theorem outL_box {s : Int} : ∀ x ∈ outL g s, 0 ≤ x ∧ x < (g.edges.length : Int) := by
  have key : ∀ i, ∀ x ∈ outA g s i, 0 ≤ x ∧ x < (i : Int) := by
    intro i
    induction i with
    | zero => intro x hx; cases hx
    | succ i ih =>
      intro x hx
      rw [outA_succ] at hx
      rcases List.mem_append.1 hx with h | h
      · have := ih x h; omega
      · split at h
        · rw [List.mem_singleton.1 h]; omega
        · cases h
  exact key _
theorem rwS_met (hf : Fit g) (hl : ∀ x ∈ l, 0 ≤ x ∧ x < (g.edges.length : Int)) (h : Met g S) : ∀ k, k ≤ l.length → Met g (rwS g l S k)
  | 0, _ => h
  | k + 1, hk => (rwS_met hf hl h k (by omega)).add (hf.to _ (edg_mem hl (by omega)))
def OutOK (g : Gr) (m : Nat) : Prop := ∀ s : Int, 0 ≤ s → s < g.states → m ≤ (outL g s).length
theorem bdS_met (hf : Fit g) (h0 : 0 < g.states) (hm : OutOK g m) : ∀ i, Met g (bdS g m i)
  | 0 => ⟨by simp [bdS], fun t ht => by rw [List.mem_singleton.1 ht]; exact ⟨Int.le_refl _, h0⟩⟩
  | i + 1 => by
    have ih := bdS_met hf h0 hm i
    have hb : 0 ≤ (bdS g m i).getD i 0 ∧ (bdS g m i).getD i 0 < g.states := by
      by_cases hi : i < (bdS g m i).length
      · exact ih.box _ (getD_mem hi)
      · rw [List.getD_eq_getElem?_getD, List.getElem?_eq_none (by omega)]; exact ⟨Int.le_refl _, h0⟩
    exact rwS_met hf outL_box ih m (hm _ hb.1 hb.2)
theorem bdS_pre : bdS g m i <+: bdS g m (i + 1) := rwS_pre m
theorem bdS_pre' : ∀ d, bdS g m i <+: bdS g m (i + d)
  | 0 => List.prefix_refl _
  | d + 1 => (bdS_pre' d).trans bdS_pre
theorem bdR_len : (bdR g q n m i).length = m := by simp [bdR]
theorem bdR_at (hk : k < m) : (bdR g q n m i).getD k dc = rwC g q n (outL g ((bdS g m i).getD i 0)) (bdS g m i) k := by simp [bdR, List.getD, hk]
theorem bdK_at (hf : Fit g) (h0 : 0 < g.states) (hm : OutOK g m) (hn : ∀ j, j < i → j < (bdS g m j).length) (h : (bdS g m i).length ≤ i) (hi : i ≤ 64) : bdK g m = i := by
  have e : ((List.range 65).find? fun i => decide ((bdS g m i).length ≤ i)) = some i := List.find?_eq_some_iff_getElem.2 ⟨decide_eq_true h, i, by simp; omega, by simp, fun j hj => by rw [List.getElem_range]; have := hn j hj; simp; omega⟩
  unfold bdK
  rw [e]; rfl
end
end Go.Proofs.YtchjjiedcpfniaaGreatDoor
namespace Go.Proofs.YtchjjiedcpfniaaGreatDoor
set_option linter.unusedSimpArgs false
set_option linter.unusedVariables false
open Go Go.Lift
theorem sumA_one {g : Gr} {v : List Int} {s : Nat} (hf : Fit g) (hv : ∀ t : Int, 0 ≤ t → t < g.states → v.getD t.toNat 0 = 1) : ∀ i, i ≤ g.edges.length → sumA g v i s = ((outA g s i).length : Int)
  | 0, _ => rfl
  | i + 1, hi => by
    have ih := sumA_one (s := s) hf hv i (by omega)
    have hm : g.edges.getD i de ∈ g.edges := getD_mem (by omega)
    have ht := hf.to _ hm
    rw [sumA_succ, outA_succ, ih]
    by_cases h : (g.edges.getD i de).frm = (s : Int)
    · rw [if_pos h, if_pos h, hv _ ht.1 ht.2, List.length_append, List.length_singleton]; omega
    · rw [if_neg h, if_neg h]; simp
theorem ones_at {v : List Int} (h : onesB v = true) {k : Nat} (hk : k < v.length) : v.getD k 0 = 1 := by
  unfold onesB at h
  have := List.all_eq_true.1 h _ (getD_mem (d := (0 : Int)) hk)
  simpa using this
structure FinG (p : Prf) : Prop where
  gv : gcheck (flG p) = 0
  fit : Fit (flG p)
  st : 0 < (flG p).states
  m : 1 ≤ p.m ∧ p.m ≤ 256
  out : OutOK (flG p) p.m.toNat
  orig : ((flO p).length : Int) = (flG p).states
  obox : ∀ s ∈ flO p, 0 ≤ s ∧ s < p.g.states
theorem fl_graph {p : Prf} (hp : PrfOK p) (h : flN p = 0) : FinG p := by
  obtain ⟨hb, h64, hn, h1⟩ := flN_zero h
  obtain ⟨h2, h3, h4⟩ := fl_inv hp hb _ (Nat.le_refl _) hn
  obtain ⟨e1, e2⟩ := flG_ok h
  obtain ⟨h5, h6, h7⟩ := eigN_zero (baseN_zero h2).1
  obtain ⟨h8, h9, h10, h11⟩ := vecN_zero h5
  have hst : 0 < (flS p p.rounds.length).1.states := by
    rcases Int.lt_or_le 0 (flS p p.rounds.length).1.states with h12 | h12
    · exact h12
    · exfalso
      have : (flS p p.rounds.length).2.1 = [] := List.length_eq_zero_iff.1 (by have := (gcheck_fit h8).st; omega)
      rw [this] at h6
      simp at h6
  rw [← e1] at h3 h7 h8 h10 hst
  rw [← e2] at h3 h4
  refine ⟨h8, gcheck_fit h8, hst, h9, ?_, h3, h4⟩
  intro s hs0 hs
  have hv : ∀ t : Int, 0 ≤ t → t < (flG p).states → (flS p p.rounds.length).2.1.getD t.toNat 0 = 1 := fun t ht0 ht => ones_at h1 (by omega)
  have h13 := sumA_one (s := s.toNat) (gcheck_fit h8) hv _ (Nat.le_refl _)
  have h14 : ¬ sumV (flG p) (flS p p.rounds.length).2.1 s.toNat < p.m * (flS p p.rounds.length).2.1.getD s.toNat 0 := fun hc => by
    rw [low_yes (by omega) hc] at h7; cases h7
  rw [hv s hs0 hs] at h14
  have e3 : ((s.toNat : Nat) : Int) = s := Int.toNat_of_nonneg hs0
  rw [e3] at h13
  unfold sumV at h14
  rw [h13] at h14
  show p.m.toNat ≤ (outA (flG p) s (flG p).edges.length).length
  omega
theorem flS_lab {p : Prf} (hp : PrfOK p) : ∀ i, i ≤ p.rounds.length → (∀ j, j < i → flE p j = 0) → (flS p i).1.labels = p.g.labels
  | 0, _, _ => rfl
  | i + 1, hi, hn => by
    have ih := flS_lab hp i (by omega) fun j hj => hn j (by omega)
    obtain ⟨_, e1, _⟩ := apl_step (hp.at (i := i)) (hn i (by omega))
    rw [flS_succ, e1]
    exact ih
theorem fl_lab {p : Prf} (hp : PrfOK p) (h : flN p = 0) : (flG p).labels = p.g.labels := by
  obtain ⟨_, _, hn, _⟩ := flN_zero h
  rw [(flG_ok h).1]
  exact flS_lab hp _ (Nat.le_refl _) hn
theorem edg_lab {g : Gr} (h : gcheck g = 0) {x : Edge} (hx : x ∈ g.edges) : 0 ≤ x.lab ∧ x.lab < g.labels := by
  obtain ⟨_, he⟩ := gcheck_valid h
  obtain ⟨j, hj, hje⟩ := List.mem_iff_getElem.1 hx
  have h1 := he j hj
  unfold edgeCheck at h1
  rw [show g.edges.getD j de = x by simp [List.getD, hj, hje]] at h1
  by_cases ho : edgeOut g x
  · rw [if_pos ho] at h1; cases h1
  · unfold edgeOut at ho; omega
theorem lab_block {q n l : Int} (hq : 1 ≤ q ∧ q ≤ 16) (hn : 1 ≤ n ∧ n ≤ 16) (h0 : 0 ≤ l) (h : l < upTo q n.toNat) (h2 : upTo q n.toNat ≤ 256) : blockN q n l = 0 := by
  have e := upTo_low h2
  rw [e] at h
  unfold blockN
  rw [if_neg (by omega), if_neg (by omega), if_neg]
  rw [Int.ediv_eq_zero_of_lt h0 h]
  omega
noncomputable def ebN (p : Prf) (q n : Int) : Int := if flN p ≠ 0 then flN p else if q < 1 ∨ 16 < q then 12 else if n < 1 ∨ 16 < n then 2 else if upTo q n.toNat ≠ p.g.labels then 11 else 0
noncomputable def ebX (p : Prf) (q n : Int) : Enc := if ebN p q n = 0 then { bdE (flG p) q n p.m.toNat with inputs := p.m } else ⟨0, 0, 0, []⟩
end Go.Proofs.YtchjjiedcpfniaaGreatDoor
