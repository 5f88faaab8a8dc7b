/- Parts of the proof: XP. -/
import Derived.Test.YthpdkmoedpcboaaGreatPR48
namespace Go.Proofs.YthpdkmoedpcboaaGreat
set_option linter.unusedSimpArgs false
set_option linter.unusedVariables false
open Go Go.Lift Go.Proofs
theorem sumV_keep {g : Gr} {c : List Int} (hc : c.Pairwise (· < ·)) (hp : ∀ x ∈ c, 0 ≤ x) {w : List Int} {i : Nat} (hi : i < c.length) (h0 : ∀ x ∈ g.edges, x.frm = c.getD i 0 → x.to ∉ c → w.getD x.to.toNat 0 = 0) :
    sumV (keptG g c) (pickL w c) i = sumV g w (c.getD i 0).toNat := by
  have hci : (((c.getD i 0).toNat : Nat) : Int) = c.getD i 0 := by
    have := hp _ (getD_mem (d := (0 : Int)) hi); omega
  rw [sumV_map, sumV_map, hci]
  show (((g.edges.take g.edges.length).filter (inBoth c)).map (mapE c) |>.map _).sum = _
  rw [List.take_length, List.map_map, ← sum_filter]
  congr 1
  refine List.map_congr_left fun x hx => ?_
  by_cases hb : inBoth c x = true
  · rw [if_pos hb]
    obtain ⟨h1, h2⟩ := inBoth_mem hb
    show (if (rankI c x.frm : Int) = (i : Int) then (pickL w c).getD ((rankI c x.to : Int)).toNat 0 else 0) = _
    have e1 : ((rankI c x.to : Int)).toNat = rankI c x.to := by omega
    rw [e1, pickL_at (rank_lt hc h2), at_rank hc h2]
    have e2 : ((rankI c x.frm : Int) = (i : Int)) ↔ x.frm = c.getD i 0 := by
      constructor
      · intro h
        have h3 : rankI c x.frm = i := by omega
        rw [← at_rank hc h1, h3]
      · intro h
        rw [h, rank_at hc i hi]
    by_cases h : x.frm = c.getD i 0
    · rw [if_pos (e2.2 h), if_pos h]
    · rw [if_neg (fun h3 => h (e2.1 h3)), if_neg h]
  · rw [if_neg hb]
    by_cases h : x.frm = c.getD i 0
    · rw [if_pos h]
      have h1 : x.frm ∈ c := h ▸ getD_mem hi
      refine (h0 x hx h fun h2 => hb ?_).symm
      unfold inBoth hasI
      rw [decide_eq_true h1, decide_eq_true h2]; rfl
    · rw [if_neg h]
theorem base_keep {g : Gr} {m : Int} (hg : gcheck g = 0) (hm : 1 ≤ m ∧ m ≤ 256) {c : List Int} (hc : c.Pairwise (· < ·)) (hp : ∀ x ∈ c, 0 ≤ x) (hl : c.length ≤ 64) (hl0 : 0 < c.length) {w : List Int}
    (hw : ∀ x ∈ c, 1 ≤ w.getD x.toNat 0 ∧ w.getD x.toNat 0 ≤ 4096) (he : ∀ x ∈ c, m * w.getD x.toNat 0 ≤ sumV g w x.toNat)
    (h0 : ∀ x ∈ g.edges, x.frm ∈ c → x.to ∉ c → w.getD x.to.toNat 0 = 0) : baseN (keptG g c) (pickL w c) m = 0 := by
  have hlen : (pickL w c).length = c.length := pickL_len
  have hbx : ∀ n ∈ pickL w c, 1 ≤ n ∧ n ≤ 4096 := fun n hn => by
    obtain ⟨x, hx, rfl⟩ := List.mem_map.1 (show n ∈ c.map fun s => w.getD s.toNat 0 from hn)
    exact hw x hx
  have hvec : vecN (keptG g c) (pickL w c) m = 0 := by
    rw [vecN_4 (keep_valid hg hc hl) hm (by rw [hlen]; rfl), if_neg]
    rw [List.any_eq_true]
    rintro ⟨n, hn, hb⟩
    have := hbx n hn
    simp only [badV, decide_eq_true_eq] at hb
    omega
  have hal : ((pickL w c).all fun n => decide (n = 0)) = false := by
    rw [List.all_eq_false]
    have h1 : (pickL w c).getD 0 0 ∈ pickL w c := getD_mem (by omega)
    refine ⟨_, h1, ?_⟩
    have := hbx _ h1
    simp only [decide_eq_true_eq]
    omega
  have hlow : lowS (keptG g c) (pickL w c) m = false := low_no fun s hs => by
    have hs' : s < c.length := by
      have : (s : Int) < (c.length : Int) := hs
      omega
    have hx := getD_mem (d := (0 : Int)) hs'
    rw [sumV_keep hc hp hs' fun x hx h1 h2 => h0 x hx (h1 ▸ getD_mem hs') h2, pickL_at hs']
    have := he _ hx
    omega
  rw [baseN_2 (by rw [eigN_3 hvec hal, if_neg (by rw [hlow]; simp)]), if_neg]
  intro h
  have := hbx 0 (by unfold hasI at h; simpa using h)
  omega
section
variable {g : Gr} {v : List Int} {m : Int}
theorem eig_low (h : eigN g v m = 0) {s : Nat} (hs : (s : Int) < g.states) : m * v.getD s 0 ≤ sumV g v s := by
  refine Int.not_lt.1 fun hc => ?_
  have := low_yes hs hc
  rw [(eigN_zero h).2.2] at this
  cases this
theorem lst_low (h : eigN g v m = 0) : ∀ k (s : Nat), (s : Int) < g.states → m * (lstI g m v k).getD s 0 ≤ sumV g (lstI g m v k) s
  | 0, s, hs => by rw [lstI_zero]; exact eig_low h hs
  | k + 1, s, hs => by
    obtain ⟨hg, hm, hl, hb⟩ := vecN_zero (eigN_zero h).1
    obtain ⟨b1, b2⟩ := lst_box (g := g) hm.1 hb k
    cases hlo : lowI g m (lstI g m v k) with
    | none => rw [lstI_none hlo]; exact lst_low h k s hs
    | some q =>
      rw [lstI_some hlo]
      obtain ⟨hq, hq0, _⟩ := lowI_in hlo
      have hd := decV_box b1 hq0
      obtain ⟨c1, c2⟩ := gre_box (g := g) (m := m) hm.1 hd
      have hfix := gre_fix (g := g) (m := m) hm.1 hd
      generalize greV g (decV (lstI g m v k) q) m = w at hfix c1 c2
      have hsl : s < w.length := by rw [c2, decV_len, b2]; omega
      have h1 := nxtV_at (g := g) (v := w) (m := m) hsl
      rw [hfix] at h1
      have h2 : w.getD s 0 ≤ sumV g w s / m := by
        unfold nxC at h1; omega
      rw [Int.mul_comm]
      exact (Int.le_ediv_iff_mul_le (by omega)).1 h2
theorem lea_low (h : eigN g v m = 0) {s : Nat} (hs : (s : Int) < g.states) : m * (leaL g v m).getD s 0 ≤ sumV g (leaL g v m) s := by
  rw [leaL_2 h]; exact lst_low h _ s hs
theorem sup_in (h : eigN g v m = 0) {x : Int} : x ∈ supL (leaL g v m) ↔ (0 ≤ x ∧ x < g.states) ∧ 0 < (leaL g v m).getD x.toNat 0 := by
  obtain ⟨hg, hm, hl, hb⟩ := vecN_zero (eigN_zero h).1
  obtain ⟨_, h2, _⟩ := lea_ok h
  unfold supL
  rw [supA_mem]
  constructor
  · rintro ⟨j, hj, rfl, h3⟩
    exact ⟨by omega, by simpa using h3⟩
  · rintro ⟨h3, h4⟩
    exact ⟨x.toNat, by omega, by omega, h4⟩
theorem bg0_base (h : eigN g v m = 0) : baseN (bg0 g v m) (bw0 g v m) m = 0 := by
  obtain ⟨hg, hm, hl, hb⟩ := vecN_zero (eigN_zero h).1
  obtain ⟨h1, h2, h3⟩ := lea_ok h
  have hst := (gcheck_valid hg).1.st
  refine base_keep hg hm supL_asc (fun x hx => ((sup_in h).1 hx).1.1) (Nat.le_trans (supA_len _) (by omega)) h3 (fun x hx => ?_) (fun x hx => ?_) (fun x hx _ hn => ?_)
  · have h4 := ((sup_in h).1 hx).2
    have h5 := box_at h1 x.toNat
    omega
  · have h4 := ((sup_in h).1 hx).1
    exact lea_low h (by omega)
  · have h5 := box_at h1 x.to.toNat
    have h6 := edge_in hg hx
    have h7 : ¬ 0 < (leaL g v m).getD x.to.toNat 0 := fun hc => hn ((sup_in h).2 ⟨h6.2.2, hc⟩)
    omega
theorem bg_base (h : eigN g v m = 0) : baseN (bg g v m) (bw g v m) m = 0 := by
  have hb0 := bg0_base h
  obtain ⟨hg, hm, hl, hb⟩ := vecN_zero (eigN_zero (baseN_zero hb0).1).1
  obtain ⟨h1, h2, h3, h4, h5⟩ := bc_ok h
  have hsk : bc g v m ∈ sks (bg0 g v m) := getD_mem h1
  have hlv : leaves (bg0 g v m) (bc g v m) = false := by
    have := (List.mem_filter.1 hsk).2
    simpa using this
  refine base_keep hg hm h2 (fun x hx => (h3 x hx).1) h4 h5 (fun x hx => ?_) (fun x hx => ?_) (fun x hx hf hn => ?_)
  · exact (baseN_zero hb0).2 _ (getD_mem (by have := h3 x hx; omega))
  · exact eig_low (baseN_zero hb0).1 (by have := h3 x hx; omega)
  · exfalso
    unfold leaves at hlv
    have h6 := List.any_eq_false.1 hlv x hx
    apply h6
    unfold hasI
    rw [decide_eq_true hf, decide_eq_false hn]; rfl
noncomputable def bQ (g : Gr) (v : List Int) (m : Int) (k : Nat) : Prf := ⟨bg g v m, bw g v m, m, bRs g v m k⟩
theorem bErr_eig (h : bErr g v m = 0) : eigN g v m = 0 := Classical.byContradiction fun hc => by rw [(bErr_1 hc).1] at h; exact hc h
theorem bP_Q (h : bErr g v m = 0) : bP g v m = bQ g v m (bK g v m) := if_pos h
theorem bStop_low {j : Nat} (hj : j < bK g v m) : onesB (bS g v m j).2 = false ∧ bE g v m j = 0 ∧ cNo (bS g v m j).1 (bS g v m j).2 m = 0 ∧ aplN (bS g v m j).1 (bS g v m j).2 m (bR g v m j) = 0 ∧ RndOK (bR g v m j) := by
  have hs := bK_low hj
  unfold bStop at hs
  rw [Bool.or_eq_false_iff, Bool.or_eq_false_iff] at hs
  have hz : bE g v m j = 0 := by simpa using hs.2
  have hc0 : cNo (bS g v m j).1 (bS g v m j).2 m = 0 := Classical.byContradiction fun hc => by rw [bE_1 hc] at hz; exact hc hz
  exact ⟨hs.1.1, hz, hc0, by rw [bE_2 hc0] at hz; exact hz, (cls_ok hc0).2.ok⟩
theorem bQ_S {k : Nat} : ∀ i, i ≤ k → (flS (bQ g v m k) i).1 = (bS g v m i).1 ∧ (flS (bQ g v m k) i).2.1 = (bS g v m i).2
  | 0, _ => ⟨rfl, rfl⟩
  | i + 1, hi => by
    obtain ⟨h1, h2⟩ := bQ_S (k := k) i (by omega)
    have e : (bQ g v m k).rounds.getD i [] = bR g v m i := bRs_at (by omega)
    rw [flS_succ, bS_succ, h1, h2, e]
    exact ⟨rfl, rfl⟩
theorem bQ_E {k i : Nat} (hi : i < k) (hk : k ≤ bK g v m) : flE (bQ g v m k) i = 0 := by
  obtain ⟨h1, h2⟩ := bQ_S (g := g) (v := v) (m := m) (k := k) i (by omega)
  have e : (bQ g v m k).rounds.getD i [] = bR g v m i := bRs_at hi
  rw [flE_eq, h1, h2, e]
  exact (bStop_low (by omega)).2.2.2.1
theorem bQ_len {k : Nat} : (bQ g v m k).rounds.length = k := bRs_len
theorem bQ_no (h : bErr g v m = 0) {k : Nat} (hk : k ≤ bK g v m) : flN (bQ g v m k) = if onesB (bS g v m k).2 = false then 23 else 0 := by
  have hK := bK_le (g := g) (v := v) (m := m)
  rw [fl_4 (p := bQ g v m k) (bg_base (bErr_eig h)) (by rw [bQ_len]; omega) (fun j hj => bQ_E (by rw [bQ_len] at hj; exact hj) hk), bQ_len, (bQ_S k (Nat.le_refl _)).2]
theorem bS_ones (h : bErr g v m = 0) : onesB (bS g v m (bK g v m)).2 = true := by
  have h0 := bErr_eig h
  unfold bErr at h
  rw [if_neg (fun hc => hc h0)] at h
  split at h
  · assumption
  · split at h
    · cases h
    · rename_i h1 h2
      exfalso
      have hK := bK_le (g := g) (v := v) (m := m)
      have : bStop g v m (bK g v m) = true := by
        unfold bK
        cases hf : (List.range 65).find? (bStop g v m) with
        | none => exact absurd (by unfold bK; rw [hf]; rfl) h2
        | some k => exact List.find?_some hf
      unfold bStop at this
      rw [Bool.or_eq_true, Bool.or_eq_true] at this
      rcases this with (h3 | h3) | h3
      · exact h1 h3
      · exact h2 (of_decide_eq_true h3)
      · exact of_decide_eq_true h3 h
theorem bP_yes (h : bErr g v m = 0) : flN (bP g v m) = 0 := by
  rw [bP_Q h, bQ_no h (Nat.le_refl _), bS_ones h]; rfl
theorem bQ_ok {k : Nat} (hk : k ≤ bK g v m) : PrfOK (bQ g v m k) := fun l hl => by
  obtain ⟨j, hj, rfl⟩ := List.mem_map.1 (show l ∈ (List.range k).map (bR g v m) from hl)
  exact (bStop_low (by have := List.mem_range.1 hj; omega)).2.2.2.2
theorem bQ_short (h : bErr g v m = 0) {k : Nat} (hk : k < bK g v m) : flN (bQ g v m k) = 23 := by
  rw [bQ_no h (by omega), (bStop_low hk).1]; rfl
theorem sumV_out {w : List Int} {W : Int} (hW : ∀ j, w.getD j 0 ≤ W) (s : Nat) : ∀ i, sumA g w i s ≤ ((outA g s i).length : Int) * W
  | 0 => by simp [sumA, outA]
  | i + 1 => by
    have ih := sumV_out hW s i
    have h1 := hW (g.edges.getD i de).to.toNat
    rw [sumA_succ, outA_succ, List.length_append]
    by_cases h : (g.edges.getD i de).frm = (s : Int)
    · rw [if_pos h, if_pos h]
      have : (((outA g s i).length + [(i : Int)].length : Nat) : Int) * W = ((outA g s i).length : Int) * W + W := by
        rw [show [(i : Int)].length = 1 from rfl, Int.natCast_add, Int.add_mul]; simp
      rw [this]; omega
    · rw [if_neg h, if_neg h]
      simpa using ih
theorem raise_no {p : Prf} {k : Nat} {W : Int} (hk : k < p.w.length) (hW0 : 1 ≤ W) (hW : ∀ j, p.w.getD j 0 ≤ W) (hm : ((outL p.g k).length : Int) < p.m) : flN ⟨p.g, p.w.set k W, p.m, p.rounds⟩ ≠ 0 := fun h => by
  obtain ⟨hb, _⟩ := flN_zero h
  have he := (baseN_zero hb).1
  have hl := (vecN_zero (eigN_zero he).1).2.2.1
  have hl' : (((p.w.set k W).length : Nat) : Int) = p.g.states := hl
  rw [List.length_set] at hl'
  have h1 := eig_low he (s := k) (by show (k : Int) < p.g.states; omega)
  have h2 : (p.w.set k W).getD k 0 = W := by simp [List.getD, hk]
  have h3 := sumV_out (g := p.g) (w := p.w.set k W) (W := W) (fun j => by
    by_cases hj : j = k
    · subst hj; rw [h2]; exact Int.le_refl _
    · rw [show (p.w.set k W).getD j 0 = p.w.getD j 0 by simp [List.getD, List.getElem?_set, Ne.symm hj]]; exact hW j) k p.g.edges.length
  have h4 : p.m * (p.w.set k W).getD k 0 ≤ sumV p.g (p.w.set k W) k := h1
  rw [h2] at h4
  have h5 : sumV p.g (p.w.set k W) k ≤ ((outL p.g k).length : Int) * W := h3
  have h6 : (((outL p.g k).length : Int) + 1) * W ≤ p.m * W := Int.mul_le_mul_of_nonneg_right (by omega) (by omega)
  rw [Int.add_mul] at h6
  omega
end
end Go.Proofs.YthpdkmoedpcboaaGreat
