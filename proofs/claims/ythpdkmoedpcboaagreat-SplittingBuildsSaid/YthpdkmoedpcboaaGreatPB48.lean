/- Parts of the proof: XK. -/
import Derived.Test.YthpdkmoedpcboaaGreatPB47
namespace Go.Proofs.YthpdkmoedpcboaaGreat
set_option linter.unusedSimpArgs false
set_option linter.unusedVariables false
open Go Go.Lift Go.Proofs
theorem to_lt {g : Gr} (hf : Fit g) {x : Edge} (hx : x ∈ g.edges) : x.to.toNat < g.n := by
  have := hf.to x hx; unfold Gr.n; omega
theorem frm_lt {g : Gr} (hf : Fit g) {x : Edge} (hx : x ∈ g.edges) : x.frm.toNat < g.n := by
  have := hf.frm x hx; unfold Gr.n; omega
theorem frm_nat {g : Gr} (hf : Fit g) {x : Edge} (hx : x ∈ g.edges) : ((x.frm.toNat : Nat) : Int) = x.frm := by
  have := hf.frm x hx; omega
theorem sink_of {g : Gr} (hf : Fit g) : ∀ (m s : Nat), s < g.n → g.n - unseen (reachL g s) ≤ m → ∃ t, t < g.n ∧ Rch g s t ∧ leaves g (compL g t) = false
  | 0, s, hs, h => by
    exfalso
    have h1 : unseen (reachL g s) < g.n := by
      have := unseen_set (l := (reachL g s).set s false) (s := s) (by simpa using hs) (by rw [getD_set, if_pos ⟨rfl, by simpa using hs⟩])
      have e : ((reachL g s).set s false).set s true = reachL g s := by
        rw [List.set_set]
        refine eq_of_getD (d := false) (by simp) fun j hj => ?_
        rw [getD_set]
        split
        · rename_i e; rw [e.1]; exact ((reachL_at hs).2 .refl).symm
        · rfl
      rw [e] at this
      have h2 := unseen_le ((reachL g s).set s false)
      simp at h2
      omega
    omega
  | m + 1, s, hs, h => by
    cases hl : leaves g (compL g s) with
    | false => exact ⟨s, hs, .refl, hl⟩
    | true =>
      unfold leaves at hl
      obtain ⟨x, hx, hq⟩ := List.any_eq_true.1 hl
      rw [Bool.and_eq_true, Bool.not_eq_true'] at hq
      have hfl := frm_lt hf hx
      have htl := to_lt hf hx
      have h1 : mutB g s x.frm.toNat = true := by
        have := hq.1
        unfold hasI at this
        rw [decide_eq_true_eq, ← frm_nat hf hx] at this
        exact (comp_mem.1 this).2
      have hto : ((x.to.toNat : Nat) : Int) = x.to := by have := hf.to x hx; omega
      have h2 : ¬ mutB g s x.to.toNat = true := fun hm => by
        have := hq.2
        unfold hasI at this
        rw [decide_eq_false_iff_not, ← hto] at this
        exact this (comp_mem.2 ⟨htl, hm⟩)
      have hsf := ((mutB_iff hf hs hfl).1 h1)
      have hst : Rch g s x.to.toNat := hsf.1.step hx (frm_nat hf hx).symm
      have hts : ¬ Rch g x.to.toNat s := fun hr => h2 ((mutB_iff hf hs htl).2 ⟨hst, hr⟩)
      have hlt : unseen (reachL g s) < unseen (reachL g x.to.toNat) := by
        refine unseen_strict (by simp) (fun t ht => ?_) (fun e => hts ?_)
        · rcases Nat.lt_or_ge t g.n with hn | hn
          · exact (reachL_at hn).2 (hst.trans ((reachL_at hn).1 ht))
          · simp [List.getD, List.getElem?_eq_none (show (reachL g x.to.toNat).length ≤ t by simpa using hn)] at ht
        · have := (reachL_at (g := g) (s := s) hs).2 .refl
          rw [← e] at this
          exact (reachL_at hs).1 this
      have hle := unseen_le (reachL g x.to.toNat)
      simp at hle
      obtain ⟨t, ht, hr, hn⟩ := sink_of hf m x.to.toNat htl (by omega)
      exact ⟨t, ht, hst.trans hr, hn⟩
theorem compAt_asc {g : Gr} {s k : Nat} : (compAt g s k).Pairwise (· < ·) := by
  unfold compAt
  rw [List.pairwise_map]
  exact (List.Pairwise.filter _ List.pairwise_lt_range).imp fun h => by omega
theorem keep_mem {g : Gr} {c : List Int} {y : Edge} : y ∈ (keptG g c).edges ↔ ∃ x ∈ g.edges, inBoth c x = true ∧ y = mapE c x := by
  show y ∈ keepE g c g.edges.length ↔ _
  unfold keepE
  rw [List.take_length, List.mem_map]
  constructor
  · rintro ⟨x, hx, rfl⟩
    exact ⟨x, (List.mem_filter.1 hx).1, (List.mem_filter.1 hx).2, rfl⟩
  · rintro ⟨x, hx, hb, rfl⟩
    exact ⟨x, List.mem_filter.2 ⟨hx, hb⟩, rfl⟩
theorem keep_asc {g : Gr} (hg : gcheck g = 0) {c : List Int} (hc : c.Pairwise (· < ·)) : (keptG g c).edges.Pairwise ltE := by
  show (keepE g c g.edges.length).Pairwise ltE
  unfold keepE
  rw [List.take_length, List.pairwise_map]
  refine List.Pairwise.imp_of_mem ?_ ((edges_asc hg).filter _)
  intro a b ha hb h
  have h1 := inBoth_mem (List.mem_filter.1 ha).2
  have h2 := inBoth_mem (List.mem_filter.1 hb).2
  unfold ltE at h ⊢
  show (rankI c a.frm : Int) < (rankI c b.frm : Int) ∨ ((rankI c a.frm : Int) = (rankI c b.frm : Int) ∧ (a.lab < b.lab ∨ (a.lab = b.lab ∧ (rankI c a.to : Int) < (rankI c b.to : Int))))
  rcases h with h | ⟨e, h | ⟨e2, h⟩⟩
  · have := rank_mono hc h1.1 h2.1 h; omega
  · rw [e]; omega
  · have := rank_mono hc h1.2 h2.2 h; rw [e]; omega
theorem keep_valid {g : Gr} (hg : gcheck g = 0) {c : List Int} (hc : c.Pairwise (· < ·)) (hl : c.length ≤ 64) : gcheck (keptG g c) = 0 := by
  have hz := (gcheck_valid hg).1
  have hv := (gcheck_valid hg).2
  have hk := keepE_len (g := g) (c := c) (i := g.edges.length)
  have hed := hz.ed
  refine gcheck_ok ⟨hz.1, ⟨Int.natCast_nonneg _, by show (c.length : Int) ≤ 64; omega⟩, by show (keepE g c g.edges.length).length ≤ 1024; omega⟩ fun j hj => ?_
  have hm := getD_mem (d := de) hj
  obtain ⟨x, hx, hb, e⟩ := keep_mem.1 hm
  have hb' := inBoth_mem hb
  have r1 := rank_lt hc hb'.1
  have r2 := rank_lt hc hb'.2
  have hlab : 0 ≤ x.lab ∧ x.lab < g.labels := by
    obtain ⟨i, hi, rfl⟩ := List.mem_iff_getElem.1 hx
    have := hv i hi
    unfold edgeCheck at this
    rw [getD_get hi] at this
    by_cases ho : edgeOut g g.edges[i]
    · rw [if_pos ho] at this; cases this
    · unfold edgeOut at ho; omega
  unfold edgeCheck
  rw [if_neg, if_neg]
  · rintro ⟨h0, h⟩
    have := List.pairwise_iff_getElem.1 (keep_asc hg hc) (j - 1) j (by omega) hj (by omega)
    rw [← cmp_lt, ← getD_get (d := de) (show j - 1 < (keptG g c).edges.length by omega), ← getD_get (d := de) hj] at this
    omega
  · rw [e]
    unfold edgeOut
    show ¬ ((rankI c x.frm : Int) < 0 ∨ (c.length : Int) ≤ (rankI c x.frm : Int) ∨ (rankI c x.to : Int) < 0 ∨ (c.length : Int) ≤ (rankI c x.to : Int) ∨ x.lab < 0 ∨ g.labels ≤ x.lab)
    omega
noncomputable def sks (g : Gr) : List (List Int) := (CL g).filter fun c => !leaves g c
theorem n_states {g : Gr} (hg : gcheck g = 0) : (g.n : Int) = g.states := by have := (gcheck_fit hg).st; unfold Gr.n; omega
theorem sks_some {g : Gr} (hg : gcheck g = 0) (hn : 0 < g.states) : 0 < (sks g).length := by
  have hf := gcheck_fit hg
  have hns := n_states hg
  obtain ⟨t, ht, _, hl⟩ := sink_of hf (g.n - unseen (reachL g 0)) 0 (by omega) (Nat.le_refl _)
  refine List.length_pos_of_mem (a := compL g t) (List.mem_filter.2 ⟨?_, by rw [hl]; rfl⟩)
  rw [CL_ok hg]
  exact comps_cover hf ht
theorem sks_row {g : Gr} (hg : gcheck g = 0) {c : List Int} (h : c ∈ sks g) : c.Pairwise (· < ·) ∧ (∀ x ∈ c, 0 ≤ x ∧ x < g.states) ∧ c.length ≤ 64 ∧ 0 < c.length := by
  have h1 := (List.mem_filter.1 h).1
  have h3 := CL_row h1
  rw [CL_ok hg] at h1
  obtain ⟨s, hs, _, rfl⟩ := comps_mem.1 h1
  refine ⟨compAt_asc, fun x hx => ?_, h3, compL_pos hs⟩
  obtain ⟨t, rfl, ht, _⟩ := comp_nonneg hx
  have := n_states hg
  omega
def bg0 (g : Gr) (v : List Int) (m : Int) : Gr := keptG g (supL (leaL g v m))
def bw0 (g : Gr) (v : List Int) (m : Int) : List Int := pickL (leaL g v m) (supL (leaL g v m))
noncomputable def bc (g : Gr) (v : List Int) (m : Int) : List Int := (sks (bg0 g v m)).getD 0 []
noncomputable def bg (g : Gr) (v : List Int) (m : Int) : Gr := keptG (bg0 g v m) (bc g v m)
noncomputable def bw (g : Gr) (v : List Int) (m : Int) : List Int := pickL (bw0 g v m) (bc g v m)
noncomputable def bS (g : Gr) (v : List Int) (m : Int) : Nat → Gr × List Int
  | 0 => (bg g v m, bw g v m)
  | k + 1 => (aplG (bS g v m k).1 (bS g v m k).2 m (cLs (bS g v m k).1 (bS g v m k).2 m), aplW (bS g v m k).1 (bS g v m k).2 m (cLs (bS g v m k).1 (bS g v m k).2 m))
noncomputable def bR (g : Gr) (v : List Int) (m : Int) (k : Nat) : List Spl := cLs (bS g v m k).1 (bS g v m k).2 m
noncomputable def bE (g : Gr) (v : List Int) (m : Int) (k : Nat) : Int := if cNo (bS g v m k).1 (bS g v m k).2 m ≠ 0 then cNo (bS g v m k).1 (bS g v m k).2 m else aplN (bS g v m k).1 (bS g v m k).2 m (bR g v m k)
noncomputable def bRs (g : Gr) (v : List Int) (m : Int) (k : Nat) : List (List Spl) := (List.range k).map (bR g v m)
theorem supL_asc {v : List Int} : (supL v).Pairwise (· < ·) := supA_asc _
theorem lst_all0 {g : Gr} {m : Int} {v : List Int} (hm : 1 ≤ m) (hb : BoxV v) (h : v.all (fun n => decide (n = 0)) = false) : ∀ k, (lstI g m v k).all (fun n => decide (n = 0)) = false
  | 0 => h
  | k + 1 => by
    cases hl : lowI g m (lstI g m v k) with
    | none => rw [lstI_none hl]; exact lst_all0 hm hb h k
    | some s => rw [lstI_some hl]; exact (lowI_in hl).2.2
theorem lea_ok {g : Gr} {v : List Int} {m : Int} (h : eigN g v m = 0) : BoxV (leaL g v m) ∧ (leaL g v m).length = v.length ∧ 0 < (supL (leaL g v m)).length := by
  obtain ⟨hv, hal, _⟩ := eigN_zero h
  obtain ⟨hg, hm, hl, hb⟩ := vecN_zero hv
  obtain ⟨h1, h2⟩ := lst_box (g := g) hm.1 hb (v.sum.toNat + 1)
  rw [leaL_2 h]
  refine ⟨h1, h2, ?_⟩
  have h3 := lst_all0 (g := g) hm.1 hb hal (v.sum.toNat + 1)
  obtain ⟨x, hx, hx0⟩ := List.all_eq_false.1 h3
  have hx0' : x ≠ 0 := by simpa using hx0
  obtain ⟨j, hj, rfl⟩ := List.mem_iff_getElem.1 hx
  have hbx := h1 _ hx
  exact List.length_pos_of_mem (a := (j : Int)) (supA_mem.2 ⟨j, hj, rfl, by show (lstI g m v (v.sum.toNat + 1)).getD j 0 > 0; rw [getD_get hj]; omega⟩)
theorem bg0_ok {g : Gr} {v : List Int} {m : Int} (h : eigN g v m = 0) : gcheck (bg0 g v m) = 0 ∧ 0 < (bg0 g v m).states ∧ ((bw0 g v m).length : Int) = (bg0 g v m).states := by
  obtain ⟨hv, _, _⟩ := eigN_zero h
  obtain ⟨hg, hm, hl, hb⟩ := vecN_zero hv
  obtain ⟨h1, h2, h3⟩ := lea_ok h
  have hst := (gcheck_valid hg).1.st
  have h4 : (supL (leaL g v m)).length ≤ 64 := Nat.le_trans (supA_len _) (by omega)
  exact ⟨keep_valid hg supL_asc h4, by show 0 < ((supL (leaL g v m)).length : Int); omega, by show ((pickL _ _).length : Int) = ((supL (leaL g v m)).length : Int); rw [pickL_len]⟩
theorem bc_ok {g : Gr} {v : List Int} {m : Int} (h : eigN g v m = 0) : 0 < (sks (bg0 g v m)).length ∧ (bc g v m).Pairwise (· < ·) ∧ (∀ x ∈ bc g v m, 0 ≤ x ∧ x < (bg0 g v m).states) ∧ (bc g v m).length ≤ 64 ∧ 0 < (bc g v m).length := by
  obtain ⟨h1, h2, _⟩ := bg0_ok h
  have h3 := sks_some h1 h2
  obtain ⟨a, b, c, d⟩ := sks_row h1 (getD_mem (d := []) h3)
  exact ⟨h3, a, b, c, d⟩
noncomputable def bStop (g : Gr) (v : List Int) (m : Int) (k : Nat) : Bool := onesB (bS g v m k).2 || decide (k = 64) || decide (bE g v m k ≠ 0)
noncomputable def bK (g : Gr) (v : List Int) (m : Int) : Nat := ((List.range 65).find? (bStop g v m)).getD 64
noncomputable def bErr (g : Gr) (v : List Int) (m : Int) : Int := if eigN g v m ≠ 0 then eigN g v m else if onesB (bS g v m (bK g v m)).2 = true then 0 else if bK g v m = 64 then 4 else bE g v m (bK g v m)
noncomputable def bP (g : Gr) (v : List Int) (m : Int) : Prf := if bErr g v m = 0 then ⟨bg g v m, bw g v m, m, bRs g v m (bK g v m)⟩ else ⟨⟨0, 0, []⟩, [], 0, []⟩
theorem bStop_no {g : Gr} {v : List Int} {m : Int} {k : Nat} (h1 : onesB (bS g v m k).2 = false) (h2 : k ≠ 64) (h3 : bE g v m k = 0) : bStop g v m k = false := by
  unfold bStop; rw [h1, decide_eq_false h2, decide_eq_false (fun h => h h3)]; rfl
theorem bK_at {g : Gr} {v : List Int} {m : Int} {k : Nat} (hk : k ≤ 64) (hn : ∀ j, j < k → bStop g v m j = false) (h : bStop g v m k = true) : bK g v m = k := by
  have e : (List.range 65).find? (bStop g v m) = some k := by
    rw [List.find?_eq_some_iff_getElem]
    refine ⟨h, k, by simp; omega, by simp, fun j hj => ?_⟩
    rw [List.getElem_range, hn j hj]; rfl
  unfold bK; rw [e]; rfl
theorem bErr_1 {g : Gr} {v : List Int} {m : Int} (h : eigN g v m ≠ 0) : bErr g v m = eigN g v m ∧ bP g v m = ⟨⟨0, 0, []⟩, [], 0, []⟩ := by
  have e : bErr g v m = eigN g v m := if_pos h
  exact ⟨e, by unfold bP; rw [e, if_neg h]⟩
theorem bErr_2 {g : Gr} {v : List Int} {m : Int} {k : Nat} (h : eigN g v m = 0) (hk : k ≤ 64) (hn : ∀ j, j < k → bStop g v m j = false) (h1 : onesB (bS g v m k).2 = true) : bErr g v m = 0 ∧ bP g v m = ⟨bg g v m, bw g v m, m, bRs g v m k⟩ := by
  have hK := bK_at hk hn (by unfold bStop; rw [h1]; rfl)
  have e : bErr g v m = 0 := by unfold bErr; rw [hK, if_neg (fun h2 => h2 h), if_pos h1]
  exact ⟨e, by unfold bP; rw [e, if_pos rfl, hK]⟩
theorem bErr_3 {g : Gr} {v : List Int} {m : Int} (h : eigN g v m = 0) (hn : ∀ j, j < 64 → bStop g v m j = false) (h1 : onesB (bS g v m 64).2 = false) : bErr g v m = 4 ∧ bP g v m = ⟨⟨0, 0, []⟩, [], 0, []⟩ := by
  have hK := bK_at (Nat.le_refl 64) hn (by unfold bStop; rw [decide_eq_true rfl]; simp)
  have e : bErr g v m = 4 := by unfold bErr; rw [hK, if_neg (fun h2 => h2 h), h1, if_neg (by simp), if_pos rfl]
  exact ⟨e, by unfold bP; rw [e]; rfl⟩
theorem bErr_4 {g : Gr} {v : List Int} {m : Int} {k : Nat} (h : eigN g v m = 0) (hk : k < 64) (hn : ∀ j, j < k → bStop g v m j = false) (h1 : onesB (bS g v m k).2 = false) (h2 : bE g v m k ≠ 0) : bErr g v m = bE g v m k ∧ bP g v m = ⟨⟨0, 0, []⟩, [], 0, []⟩ := by
  have hK := bK_at (by omega) hn (by unfold bStop; rw [decide_eq_true h2]; simp)
  have e : bErr g v m = bE g v m k := by unfold bErr; rw [hK, if_neg (fun h2 => h2 h), h1, if_neg (by simp), if_neg (by omega)]
  exact ⟨e, by unfold bP; rw [e, if_neg h2]⟩
theorem bRs_zero {g : Gr} {v : List Int} {m : Int} : bRs g v m 0 = [] := rfl
theorem bRs_succ {g : Gr} {v : List Int} {m : Int} {k : Nat} : bRs g v m (k + 1) = bRs g v m k ++ [bR g v m k] := by simp [bRs, List.range_succ]
theorem bRs_len {g : Gr} {v : List Int} {m : Int} {k : Nat} : (bRs g v m k).length = k := by simp [bRs]
theorem bE_1 {g : Gr} {v : List Int} {m : Int} {k : Nat} (h : cNo (bS g v m k).1 (bS g v m k).2 m ≠ 0) : bE g v m k = cNo (bS g v m k).1 (bS g v m k).2 m := if_pos h
theorem bE_2 {g : Gr} {v : List Int} {m : Int} {k : Nat} (h : cNo (bS g v m k).1 (bS g v m k).2 m = 0) : bE g v m k = aplN (bS g v m k).1 (bS g v m k).2 m (bR g v m k) := if_neg (fun h2 => h2 h)
theorem bS_succ {g : Gr} {v : List Int} {m : Int} {k : Nat} : bS g v m (k + 1) = (aplG (bS g v m k).1 (bS g v m k).2 m (bR g v m k), aplW (bS g v m k).1 (bS g v m k).2 m (bR g v m k)) := rfl
theorem sinksK_c (g : Gr) : PC Tryz.prog 57 [.agg 3 (grF g)] (.tup 2 (fun j => [rowsI (sks g), .int .i64 (if gcheck g = 0 then 0 else 1)].getD j .any)) := by
  have := sinks_c g; rw [CL_filt] at this; exact this
theorem refSinksK_c (g : Gr) : PC Tryz.prog 62 [.agg 3 (grF g)] (.tup 2 (fun j => [rowsI (sks g), .int .i64 (if gcheck g = 0 then 0 else 1)].getD j .any)) := by
  have := refSinks_c g; rw [CL_filt] at this; exact this
noncomputable def pBF (g : Gr) (v : List Int) (m : Int) (k j : Nat) : AVal := [.int .i64 (bg g v m).labels, .int .i64 (bg g v m).states, edgesC (bg g v m).edges, ints (bw g v m), .int .i64 m, .sl (3, 0) 0 k].getD j .any
theorem bw_len {g : Gr} {v : List Int} {m : Int} (h : eigN g v m = 0) : (bw g v m).length ≤ 64 := by
  show (pickL _ _).length ≤ 64
  rw [pickL_len]; exact (bc_ok h).2.2.2.1
end Go.Proofs.YthpdkmoedpcboaaGreat
