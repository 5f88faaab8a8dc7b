/- Parts of the proof: EC. -/
import Derived.Test.YtchjjiedcpfniaaGreatDoorK30
import Derived.Test.YtchjjiedcpfniaaGreatDoorK47
namespace Go.Proofs.YtchjjiedcpfniaaGreatDoor
set_option linter.unusedSimpArgs false
set_option linter.unusedVariables false
open Go Go.Lift
theorem idx_ltr {d : Int} (h0 : 0 ≤ d) (h : d < 16) : idxB letters (ltr d) = d := by
  have key : ∀ k : Fin 16, idxB letters (ltr (k.val : Int)) = (k.val : Int) := by decide
  have := key ⟨d.toNat, by omega⟩
  simp only at this
  rwa [Int.toNat_of_nonneg h0] at this
section
variable {q l : Int} {n : Nat}
theorem blk_dig (hq : 1 ≤ q ∧ q ≤ 16) : Dig q (blockL q n l) := fun k hk => by
  rw [blockL_len] at hk
  rw [blockL_at hk]
  have h1 := Int.emod_nonneg (l / q ^ (n - 1 - k)) (show q ≠ 0 by omega)
  have h2 := Int.emod_lt_of_pos (l / q ^ (n - 1 - k)) (show 0 < q by omega)
  rw [idx_ltr h1 (by omega)]
  exact ⟨h1, h2⟩
theorem blk_word (hq : 1 ≤ q ∧ q ≤ 16) (hn : n ≤ 16) : wordCheck q (blockL q n l) = 0 := wordCheck_ok hq (by rw [blockL_len]; omega) fun k hk => idxB_take.2 ⟨(blk_dig hq k hk).1, by have := (blk_dig hq k hk).2; omega⟩
theorem pow_mod {a b : Int} (ha : 0 < a) (hb : 0 < b) : l % (a * b) = (l / a % b) * a + l % a := by
  have h1 := Int.emod_add_mul_ediv l a
  have h2 := Int.emod_add_mul_ediv (l / a) b
  have h3 := Int.emod_nonneg l (show a ≠ 0 by omega)
  have h4 := Int.emod_lt_of_pos l ha
  have h5 := Int.emod_nonneg (l / a) (show b ≠ 0 by omega)
  have h6 := Int.emod_lt_of_pos (l / a) hb
  have e : l = ((l / a % b) * a + l % a) + (a * b) * (l / a / b) := by
    have e1 : a * (l / a % b + b * (l / a / b)) = a * (l / a) := by rw [h2]
    rw [Int.mul_add, ← Int.mul_assoc] at e1
    rw [Int.mul_comm (l / a % b) a]
    omega
  have h7 : 0 ≤ (l / a % b) * a := Int.mul_nonneg h5 (by omega)
  have h8 : (l / a % b + 1) * a ≤ b * a := Int.mul_le_mul_of_nonneg_right (by omega) (by omega)
  rw [Int.add_mul, Int.one_mul, Int.mul_comm b a] at h8
  have h9 : l % (a * b) = (((l / a % b) * a + l % a) + (a * b) * (l / a / b)) % (a * b) := by rw [← e]
  rw [h9, Int.add_mul_emod_self_left, Int.emod_eq_of_lt (by omega) (by omega)]
theorem blk_val (hq : 1 ≤ q ∧ q ≤ 16) : ∀ n : Nat, valW q (blockL q n l) = l % q ^ n
  | 0 => by simp [blockL, valW, Int.emod_one]
  | n + 1 => by
    have hp : (0 : Int) < q ^ n := Int.pow_pos (by omega)
    have h5 := Int.emod_nonneg (l / q ^ n) (show q ≠ 0 by omega)
    have h6 := Int.emod_lt_of_pos (l / q ^ n) (show 0 < q by omega)
    rw [blockL_succ, val_cons, idx_ltr h5 (by omega), blockL_len, blk_val hq n, Int.pow_succ, pow_mod hp (by omega)]
end
theorem pre_getD {a b : List Int} (h : a <+: b) {i : Nat} (hi : i < a.length) : a.getD i 0 = b.getD i 0 := by
  obtain ⟨t, rfl⟩ := h
  simp [List.getD, List.getElem?_append_left hi]
theorem place_at : ∀ {S : List Int} {t : Int}, t ∈ S → 0 ≤ placeI S t ∧ placeI S t < S.length ∧ S.getD (placeI S t).toNat 0 = t
  | x :: r, t, h => by
    by_cases hx : x = t
    · subst hx; simp only [placeI, if_true]; refine ⟨Int.le_refl _, by simp, by simp⟩
    · have hr : t ∈ r := (List.mem_cons.1 h).resolve_left fun e => hx e.symm
      obtain ⟨h1, h2, h3⟩ := place_at hr
      have e : placeI (x :: r) t = placeI r t + 1 := by simp only [placeI]; rw [if_neg hx, if_neg (by omega)]
      rw [e, show (placeI r t + 1).toNat = (placeI r t).toNat + 1 by omega]
      refine ⟨by omega, by rw [List.length_cons]; omega, by simpa using h3⟩
theorem outA_frm {g : Gr} {s : Int} : ∀ i, ∀ x ∈ outA g s i, (g.edges.getD x.toNat de).frm = s
  | 0, x, h => by cases h
  | i + 1, x, h => by
    rw [outA_succ] at h
    rcases List.mem_append.1 h with h1 | h1
    · exact outA_frm i x h1
    · split at h1
      · rename_i h2; rw [List.mem_singleton.1 h1]; exact h2
      · cases h1
section
variable {g : Gr} {m i k : Nat} {q n : Int}
theorem bdK_spec (hf : Fit g) (h0 : 0 < g.states) (hm : OutOK g m) : (bdS g m (bdK g m)).length = bdK g m ∧ 0 < bdK g m ∧ bdK g m ≤ 64 ∧ ∀ j, j < bdK g m → j < (bdS g m j).length := by
  have hs := hf.st
  have hk := bdK_le (g := g) (m := m)
  have key : (bdS g m (bdK g m)).length ≤ bdK g m ∧ ∀ j, j < bdK g m → j < (bdS g m j).length := by
    cases h : (List.range 65).find? fun i => decide ((bdS g m i).length ≤ i) with
    | none =>
      exfalso
      have := List.find?_eq_none.1 h 64 (by simp)
      have h2 := (bdS_met hf h0 hm 64).len
      simp at this
      omega
    | some i =>
      have e : bdK g m = i := by unfold bdK; rw [h]; rfl
      rw [e]
      obtain ⟨h1, j, hj, h2, h3⟩ := List.find?_eq_some_iff_getElem.1 h
      rw [List.getElem_range] at h2
      subst h2
      refine ⟨by simpa using h1, fun a ha => ?_⟩
      have := h3 a ha
      rw [List.getElem_range] at this
      simpa using this
  have h1 : 0 < bdK g m := by
    rcases Nat.eq_zero_or_pos (bdK g m) with h | h
    · have := key.1; rw [h] at this; simp [bdS] at this
    · exact h
  have h2 := key.2 (bdK g m - 1) (by omega)
  have h3 := (bdS_pre' (g := g) (m := m) (i := bdK g m - 1) 1).length_le
  rw [show bdK g m - 1 + 1 = bdK g m by omega] at h3
  exact ⟨by omega, h1, hk, key.2⟩
def bdT (g : Gr) (m : Nat) : List Int := bdS g m (bdK g m)
theorem bd_pre (hi : i ≤ bdK g m) : bdS g m i <+: bdT g m := by
  have := bdS_pre' (g := g) (m := m) (i := i) (bdK g m - i)
  rwa [show i + (bdK g m - i) = bdK g m by omega] at this
theorem bd_row (hf : Fit g) (h0 : 0 < g.states) (hm : OutOK g m) (hi : i < bdK g m) : (bdS g m i).getD i 0 = (bdT g m).getD i 0 := pre_getD (bd_pre (by omega)) ((bdK_spec hf h0 hm).2.2.2 i hi)
def bdX (g : Gr) (m i k : Nat) : Edge := edgK g (outL g ((bdT g m).getD i 0)) k
theorem bd_cell (hf : Fit g) (h0 : 0 < g.states) (hm : OutOK g m) (hi : i < bdK g m) (hk : k < m) :
    ∃ c : Cell, (bdR g q n m i).getD k dc = c ∧ c.word = blockX q n (bdX g m i k).lab ∧ bdX g m i k ∈ g.edges ∧ (bdX g m i k).frm = (bdT g m).getD i 0 ∧ 0 ≤ c.to ∧ c.to < (bdK g m : Int) ∧ (bdT g m).getD c.to.toNat 0 = (bdX g m i k).to := by
  have hT : (bdT g m).getD i 0 ∈ bdT g m := getD_mem (by show i < (bdS g m (bdK g m)).length; rw [(bdK_spec hf h0 hm).1]; exact hi)
  have hb := (bdS_met hf h0 hm (bdK g m)).box _ hT
  have hol := hm _ hb.1 hb.2
  have hx : bdX g m i k ∈ g.edges := edg_mem outL_box (by omega)
  have hp : rwS g (outL g ((bdT g m).getD i 0)) (bdS g m i) (k + 1) <+: bdT g m := by
    have h1 : bdS g m (i + 1) <+: bdT g m := bd_pre (by omega)
    rw [show bdS g m (i + 1) = rwS g (outL g ((bdS g m i).getD i 0)) (bdS g m i) m from rfl, bd_row hf h0 hm hi] at h1
    refine List.IsPrefix.trans ?_ h1
    have key : ∀ d, rwS g (outL g ((bdT g m).getD i 0)) (bdS g m i) (k + 1) <+: rwS g (outL g ((bdT g m).getD i 0)) (bdS g m i) (k + 1 + d) := by
      intro d
      induction d with
      | zero => exact List.prefix_refl _
      | succ d ih => exact ih.trans meet_pre
    have := key (m - (k + 1))
    rwa [show k + 1 + (m - (k + 1)) = m by omega] at this
  obtain ⟨h1, h2, h3⟩ := place_at (S := rwS g (outL g ((bdT g m).getD i 0)) (bdS g m i) (k + 1)) (t := (bdX g m i k).to) meet_mem
  have hl := hp.length_le
  rw [show (bdT g m).length = bdK g m from (bdK_spec hf h0 hm).1] at hl
  refine ⟨_, bdR_at hk, ?_, hx, ?_, ?_, ?_, ?_⟩
  · rw [bd_row hf h0 hm hi]; rfl
  · exact outA_frm _ _ (getD_mem (d := (0 : Int)) (show k < (outL g ((bdT g m).getD i 0)).length by omega))
  · rw [bd_row hf h0 hm hi]; exact h1
  · rw [bd_row hf h0 hm hi]
    show placeI _ _ < _
    exact Int.lt_of_lt_of_le h2 (by omega)
  · rw [bd_row hf h0 hm hi]
    show (bdT g m).getD (placeI _ _).toNat 0 = _
    rw [← pre_getD hp (by have : (placeI (rwS g (outL g ((bdT g m).getD i 0)) (bdS g m i) (k + 1)) (edgK g (outL g ((bdT g m).getD i 0)) k).to) < _ := h2; omega)]
    exact h3
end
theorem spl_old {g : Gr} {v : List Int} {m : Int} {l : List Spl} (h : Rd g v m l) {x : Edge} (hx : x ∈ (splG g l).edges) : oldE g l x ∈ g.edges ∧ x.frm.toNat < (parA g l g.states.toNat).length ∧ x.to.toNat < (parA g l g.states.toNat).length := by
  have hx2 : x ∈ edA g l g.edges.length := norm_mem.1 hx
  have he := h.ends hx2
  obtain ⟨k, c, h1, h2, rfl⟩ := edA_mem.1 hx2
  rw [h.spE_old h1 h2, parA_len]
  exact ⟨getD_mem h1, by omega, by omega⟩
def liftE (o : List Int) (x : Edge) : Edge := ⟨o.getD x.frm.toNat 0, x.lab, o.getD x.to.toNat 0⟩
theorem fl_edge {p : Prf} (hp : PrfOK p) (hb : baseN p.g p.w p.m = 0) : ∀ i, i ≤ p.rounds.length → (∀ j, j < i → flE p j = 0) → ∀ x ∈ (flS p i).1.edges, liftE (flS p i).2.2 x ∈ p.g.edges
  | 0, _, _, x, hx => by
    have hv := (vecN_zero (eigN_zero (baseN_zero hb).1).1).1
    have hf := gcheck_fit hv
    have hx2 : x ∈ p.g.edges := hx
    have h1 := hf.frm _ hx2
    have h2 := hf.to _ hx2
    have e : liftE (iotaI p.g.states.toNat) x = x := by
      unfold liftE
      rw [iotaI_at (by omega), iotaI_at (by omega), Int.toNat_of_nonneg h1.1, Int.toNat_of_nonneg h2.1]
    show liftE (iotaI p.g.states.toNat) x ∈ _
    rw [e]; exact hx2
  | i + 1, hi, hn, x, hx => by
    obtain ⟨hRd, e1, e2, e3, ho, he⟩ := apl_step (hp.at (i := i)) (hn i (by omega))
    rw [flS_succ, e1] at hx
    obtain ⟨h1, h2, h3⟩ := spl_old hRd hx
    have ih := fl_edge hp hb i (by omega) (fun j hj => hn j (by omega)) _ h1
    rw [flS_succ, e3]
    unfold liftE oldE at *
    simp only at ih ⊢
    rw [pickL_at h2, pickL_at h3]
    exact ih
section
variable {p : Prf} {q n : Int} (hp : PrfOK p) (h : ebN p q n = 0)
include hp h
omit hp in
theorem eb_rows : (ebX p q n).rows.length = bdK (flG p) p.m.toNat := by rw [ebX_ok h rfl]; simp
theorem eb_cell {i k : Nat} (hi : i < bdK (flG p) p.m.toNat) (hk : k < p.m.toNat) : ∃ c : Cell, cellAt (ebX p q n) i k = c ∧ c.word = blockX q n (bdX (flG p) p.m.toNat i k).lab ∧ bdX (flG p) p.m.toNat i k ∈ (flG p).edges ∧ (bdX (flG p) p.m.toNat i k).frm = (bdT (flG p) p.m.toNat).getD i 0 ∧ 0 ≤ c.to ∧ c.to < (bdK (flG p) p.m.toNat : Int) ∧ (bdT (flG p) p.m.toNat).getD c.to.toNat 0 = (bdX (flG p) p.m.toNat i k).to := by
  have hF := fl_graph hp (eb_zero h).1
  obtain ⟨c, h1, h2⟩ := bd_cell (q := q) (n := n) hF.fit hF.st hF.out hi hk
  refine ⟨c, ?_, h2⟩
  unfold cellAt
  rw [ebX_ok h rfl]
  simp only
  rw [rows_at hi]; exact h1
theorem eb_lab {x : Edge} (hx : x ∈ (flG p).edges) : 0 ≤ x.lab ∧ x.lab < q ^ n.toNat ∧ x.lab < p.g.labels ∧ blockX q n x.lab = blockL q n.toNat x.lab := by
  obtain ⟨hf, hq, hn, hu⟩ := eb_zero h
  have hF := fl_graph hp hf
  have hl := edg_lab hF.gv hx
  rw [fl_lab hp hf] at hl
  have h256 := (gcheck_valid hF.gv).1.lab
  rw [fl_lab hp hf] at h256
  have hb := lab_block hq hn hl.1 (show x.lab < upTo q n.toNat by omega) (by omega)
  refine ⟨hl.1, ?_, hl.2, block_ok hb⟩
  rw [← upTo_low (q := q) (n := n.toNat) (by omega)]; omega
theorem eb_word {x : Edge} (hx : x ∈ (flG p).edges) : (blockX q n x.lab).length = n ∧ wordCheck q (blockX q n x.lab) = 0 ∧ valW q (blockX q n x.lab) = x.lab := by
  obtain ⟨hf, hq, hn, hu⟩ := eb_zero h
  obtain ⟨h1, h2, h3, h4⟩ := eb_lab hp h hx
  rw [h4, blockL_len]
  exact ⟨by omega, blk_word hq (by omega), by rw [blk_val hq, Int.emod_eq_of_lt h1 h2]⟩
theorem eb_check : checkE (ebX p q n) = 0 := by
  obtain ⟨hf, hq, hn, hu⟩ := eb_zero h
  have hF := fl_graph hp hf
  obtain ⟨s1, s2, s3, s4⟩ := bdK_spec hF.fit hF.st hF.out
  have hr := eb_rows h
  have e1 : (ebX p q n).letters = q ∧ (ebX p q n).block = n ∧ (ebX p q n).inputs = p.m := by rw [ebX_ok h rfl]; exact ⟨rfl, rfl, rfl⟩
  rw [checkE_rows ⟨by omega, by omega, by have := hF.m; omega⟩ (by omega) (by omega)]
  refine firstNZ_zeroL (d := []) fun i hi => ?_
  rw [hr] at hi
  have hrow : (ebX p q n).rows.getD i [] = bdR (flG p) q n p.m.toNat i := by rw [ebX_ok h rfl]; exact rows_at hi
  have hlen : ((ebX p q n).rows.getD i []).length = p.m.toNat := by rw [hrow, bdR_len]
  refine rowCheck_ok (by have := hF.m; omega) fun k hk => ?_
  rw [hlen] at hk
  obtain ⟨c, c1, c2, c3, c4, c5, c6, c7⟩ := eb_cell hp h hi hk
  have e2 : ((ebX p q n).rows.getD i []).getD k dc = c := c1
  rw [e2]
  obtain ⟨w1, w2, w3⟩ := eb_word hp h c3
  refine cellCheck_ok (by omega) ?_
  rw [c2, e1.1, e1.2.1]
  exact ⟨w1, w2⟩
end
def setQ (e : Enc) (g : Gr) (s : Int) (l : List Int) : Nat → List Int
  | 0 => iotaI g.states.toNat
  | j + 1 => stepL g (valW e.letters (cellAt e (runE e s (l.take j)).2.toNat (l.getD j 0).toNat).word) (setQ e g s l j)
theorem iotaI_asc : ∀ n, (iotaI n).Pairwise (· < ·) := fun n => by
  unfold iotaI
  exact List.pairwise_map.2 ((List.pairwise_lt_range).imp fun h => by omega)
theorem setQ_ok {e : Enc} {g : Gr} (hg : gcheck g = 0) {s : Int} {l : List Int} : ∀ j, (setQ e g s l j).Pairwise (· < ·) ∧ (∀ x ∈ setQ e g s l j, 0 ≤ x ∧ x < g.states)
  | 0 => ⟨iotaI_asc _, fun x hx => by
    obtain ⟨k, hk, rfl⟩ := List.mem_map.1 (show x ∈ (List.range g.states.toNat).map fun s : Nat => (s : Int) from hx)
    have := List.mem_range.1 hk
    omega⟩
  | j + 1 => ⟨step_asc, step_box hg⟩
theorem setQ_mem {p : Prf} {q n : Int} (hp : PrfOK p) (h : ebN p q n = 0) {s : Int} {l : List Int} (h0 : 0 ≤ s ∧ s < ((ebX p q n).rows.length : Int)) (hgd : ∀ i ∈ l, badI (ebX p q n) i = false) : ∀ {j : Nat}, j ≤ l.length → (flO p).getD ((bdT (flG p) p.m.toNat).getD (runE (ebX p q n) s (l.take j)).2.toNat 0).toNat 0 ∈ setQ (ebX p q n) p.g s l j
  | 0, _ => by
    have hf := (eb_zero h).1
    have hF := fl_graph hp hf
    have hr := eb_rows h
    have hs := bdK_spec hF.fit hF.st hF.out
    have hb := (bdS_met hF.fit hF.st hF.out (bdK (flG p) p.m.toNat)).box _ (getD_mem (d := (0 : Int)) (show s.toNat < (bdS (flG p) p.m.toNat (bdK (flG p) p.m.toNat)).length by omega))
    have ho := hF.orig
    have hob := hF.obox _ (getD_mem (d := (0 : Int)) (show ((bdT (flG p) p.m.toNat).getD s.toNat 0).toNat < (flO p).length by unfold bdT; omega))
    show (flO p).getD ((bdT (flG p) p.m.toNat).getD s.toNat 0).toNat 0 ∈ iotaI p.g.states.toNat
    exact List.mem_map.2 ⟨((flO p).getD ((bdT (flG p) p.m.toNat).getD s.toNat 0).toNat 0).toNat, List.mem_range.2 (by omega), by omega⟩
  | j + 1, hj => by
    have hv := eb_check hp h
    have hf := (eb_zero h).1
    have hF := fl_graph hp hf
    have ih := setQ_mem hp h h0 hgd (j := j) (by omega)
    have hgt : ∀ i ∈ l.take j, badI (ebX p q n) i = false := fun i hi => hgd i (List.mem_of_mem_take hi)
    obtain ⟨k1, k2, k3⟩ := runE_ok hv h0.1 h0.2 hgt
    have hi := bad_no.1 (hgd _ (getD_mem (d := 0) (show j < l.length by omega)))
    have e1 : (ebX p q n).letters = q ∧ (ebX p q n).inputs = p.m := by rw [ebX_ok h rfl]; exact ⟨rfl, rfl⟩
    rw [eb_rows h] at k2
    rw [e1.2] at hi
    obtain ⟨c, c1, c2, c3, c4, c5, c6, c7⟩ := eb_cell hp h (i := (runE (ebX p q n) s (l.take j)).2.toNat) (k := (l.getD j 0).toNat) (by omega) (by omega)
    obtain ⟨w1, w2, w3⟩ := eb_word hp h c3
    rw [runE_take (by omega)]
    simp only
    rw [c1, c7]
    refine step_mem.2 ⟨_, ih, liftE (flO p) (bdX (flG p) p.m.toNat (runE (ebX p q n) s (l.take j)).2.toNat (l.getD j 0).toNat), ?_, ?_, ?_, rfl⟩
    · obtain ⟨hb, h64, hn, _⟩ := flN_zero hf
      have := fl_edge hp hb _ (Nat.le_refl _) hn _ (by rw [← (flG_ok hf).1]; exact c3)
      rwa [← (flG_ok hf).2] at this
    · show (flO p).getD (bdX _ _ _ _).frm.toNat 0 = _
      rw [c4]
    · show (bdX _ _ _ _).lab = valW _ _
      rw [c1, c2, e1.1, w3]
end Go.Proofs.YtchjjiedcpfniaaGreatDoor
