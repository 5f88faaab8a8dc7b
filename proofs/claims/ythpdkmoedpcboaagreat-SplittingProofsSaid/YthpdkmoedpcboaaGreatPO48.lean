/- Parts of the proof: XH XJ XK. -/
import Derived.Test.YthpdkmoedpcboaaGreatPO15
import Derived.Test.YthpdkmoedpcboaaGreatPO47
namespace Go.Proofs.YthpdkmoedpcboaaGreat
set_option linter.unusedSimpArgs false
set_option linter.unusedVariables false
open Go Go.Lift Go.Proofs
def placeQ (l : List Edge) (q : Edge → Bool) : Int := if l.any q then (l.findIdx q : Nat) else -1
theorem placeQ_at {l : List Edge} {q : Edge → Bool} {i : Nat} (hi : i < l.length) (hq : q (l.getD i de) = true) (hn : ∀ j, j < i → q (l.getD j de) = false) : placeQ l q = i := by
  unfold placeQ
  have hg : ∀ j (hj : j < l.length), l.getD j de = l[j] := fun j hj => by simp [List.getD, hj]
  rw [if_pos (List.any_eq_true.2 ⟨l[i], List.getElem_mem hi, by rw [← hg]; exact hq⟩)]
  have : l.findIdx q = i := (List.findIdx_eq hi).2 ⟨by rw [← hg]; exact hq, fun j hj => by rw [← hg]; exact hn j hj⟩
  rw [this]
theorem placeQ_none {l : List Edge} {q : Edge → Bool} (hn : ∀ j, j < l.length → q (l.getD j de) = false) : placeQ l q = -1 := by
  unfold placeQ
  rw [if_neg]
  intro h
  obtain ⟨x, hx, hq⟩ := List.any_eq_true.1 h
  obtain ⟨j, hj, rfl⟩ := List.mem_iff_getElem.1 hx
  have := hn j hj
  rw [show l.getD j de = l[j] by simp [List.getD, hj]] at this
  rw [this] at hq; cases hq
theorem placeQ_any {l : List Edge} {q : Edge → Bool} : decide (0 ≤ placeQ l q) = l.any q := by
  unfold placeQ
  split
  · rename_i h; rw [h]; simp
  · rename_i h; simp only [Bool.not_eq_true] at h; rw [h]; simp
def leaves (g : Gr) (c : List Int) : Bool := g.edges.any fun x => hasI c x.frm && !hasI c x.to
set_option maxRecDepth 100000 in
theorem indexQ_c (l : List Edge) (q : Edge → Bool) (hfn hn : Nat) (hc : Nat → AVal) (hl : l.length ≤ 1024) (hcal : Callable Tryz.prog hfn) (hclo : ∀ j, Clo (hc j)) (hp : ∀ x ∈ l, PC Tryz.prog hfn (.agg 3 (edgeF x) :: (List.range' 0 hn).map hc) (.bool (q x))) : PC Tryz.prog 132 [edgesC l, .fn hfn hn hc] (.int .i64 (placeQ l q)) := by
 have hV : ∀ {h : Heap} {σ : Lift.Id → Lift.Id} {fz : Nat → Bool} {vz : Lift.Id → Bool} {nx j : Nat}, VLe h σ fz vz nx (hc j) (hc j) := fun {h σ fz vz nx j} => Clo.le _ (hclo j)
 refine zp Tryz.func132 fun G hG hR => ?_
 refine zs (zr ?_ (h := by intro c K h; simp [hG, List.getD_cons_zero, List.getD_cons_succ, -List.getD_eq_getElem?_getD, hV]; first | exact z1 c h | exact ⟨.mk c, h⟩))
 refine zs (zs (zr ?_ (h := by intro c K h; simp [hG, List.getD_cons_zero, List.getD_cons_succ, -List.getD_eq_getElem?_getD, hV]; first | exact z1 c h | exact ⟨.mk c, h⟩)))
 refine zb ?_
 refine awpS_loop (α := Nat) (fun i => ⟨[(0, edgesC l), (1, .fn hfn hn hc), (7, .int .i64 l.length), (8, .int .i64 i)], [], 0⟩) (fun i => i ≤ l.length ∧ ∀ j, j < i → q (l.getD j de) = false) (fun i => l.length - i) (0) (⟨Nat.zero_le _, fun j hj => absurd hj (Nat.not_lt_zero _)⟩) ?_ ?_
 · exact zi (e := by simp [hG, List.getD_cons_zero, List.getD_cons_succ, -List.getD_eq_getElem?_getD, hV]) (h := by simp [hG, List.getD_cons_zero, List.getD_cons_succ, -List.getD_eq_getElem?_getD, hV])
 rintro i ⟨hi, hn0⟩
 refine zs (zr ?_ (h := by intro c K h; simp [hG, List.getD_cons_zero, List.getD_cons_succ, -List.getD_eq_getElem?_getD, hV]; first | exact z1 c h | exact ⟨.mk c, h⟩))
 refine zs (zy (fun hb9 => ?_) fun hb9 => ?_)
 · refine zk (zs (zb (zs (zr ?_ (h := by intro c K h; simp [hG, List.getD_cons_zero, List.getD_cons_succ, -List.getD_eq_getElem?_getD, hV]; first | exact z1 c h | exact ⟨.mk c, h⟩)))))
   refine zs (zL (zl 5 ?_ (h := by intro c K h; simp [hG, List.getD_cons_zero, List.getD_cons_succ, -List.getD_eq_getElem?_getD, hV]; first | exact z1 c h | exact ⟨.mk c, h⟩)))
   refine zc hcal (hp _ (getD_mem (d := de) (by simpa using hb9))) ?_ (a := fun hg => by simp [hG, List.getD_cons_zero, List.getD_cons_succ, -List.getD_eq_getElem?_getD, hV]) (b := fun hg => by simp [hG, List.getD_cons_zero, List.getD_cons_succ, -List.getD_eq_getElem?_getD]; exact argsLe_caps fun j _ => hclo j) (h := by intro K h; simp [hG, List.getD_cons_zero, List.getD_cons_succ, -List.getD_eq_getElem?_getD, hV]; exact h)
   refine zN (zy (fun hb16 => ?_) fun hb16 => ?_)
   · refine zs (zr ?_ (h := by intro c K h; simp [hG, List.getD_cons_zero, List.getD_cons_succ, -List.getD_eq_getElem?_getD, hV]; first | exact z1 c h | exact ⟨.mk c, h⟩))
     refine zt (zbt (ztt (zbt ?_)))
     refine RetOK_of ?_
     simp [hG, List.getD_cons_zero, List.getD_cons_succ, -List.getD_eq_getElem?_getD, hV]
     exact (placeQ_at (by simpa using hb9) hb16 hn0).symm
   refine zk (zn (zbn (zr ?_ (h := by intro c K h; simp [hG, List.getD_cons_zero, List.getD_cons_succ, -List.getD_eq_getElem?_getD, hV]; first | exact z1 c h | exact ⟨.mk c, h⟩))))
   refine zn ?_
   refine round_end (i + 1) (⟨by omega, fun j hj => (Nat.lt_succ_iff_lt_or_eq.1 hj).elim (hn0 j) fun e => by rw [e]; exact hb16⟩) (by omega) ?_
   exact zi (e := by simp [hG, List.getD_cons_zero, List.getD_cons_succ, -List.getD_eq_getElem?_getD, hV]) (h := by simp [hG, List.getD_cons_zero, List.getD_cons_succ, -List.getD_eq_getElem?_getD, hV])
 refine zx (ztx (zbx (zs (zr ?_ (h := by intro c K h; simp [hG, List.getD_cons_zero, List.getD_cons_succ, -List.getD_eq_getElem?_getD, hV]; first | exact z1 c h | exact ⟨.mk c, h⟩)))))
 refine zt ?_
 refine RetOK_of ?_
 simp [hG, List.getD_cons_zero, List.getD_cons_succ, -List.getD_eq_getElem?_getD, hV]
 exact (placeQ_none fun j hj => hn0 j (by omega)).symm
set_option maxRecDepth 100000 in
theorem containsQ_c (l : List Edge) (q : Edge → Bool) (hfn hn : Nat) (hc : Nat → AVal) (hl : l.length ≤ 1024) (hcal : Callable Tryz.prog hfn) (hclo : ∀ j, Clo (hc j)) (hp : ∀ x ∈ l, PC Tryz.prog hfn (.agg 3 (edgeF x) :: (List.range' 0 hn).map hc) (.bool (q x))) : PC Tryz.prog 95 [edgesC l, .fn hfn hn hc] (.bool (l.any q)) := by
 have hV : ∀ {h : Heap} {σ : Lift.Id → Lift.Id} {fz : Nat → Bool} {vz : Lift.Id → Bool} {nx j : Nat}, VLe h σ fz vz nx (hc j) (hc j) := fun {h σ fz vz nx j} => Clo.le _ (hclo j)
 refine zp Tryz.func95 fun G hG hR => ?_
 refine zs (zr ?_ (h := by intro c K h; simp [hG, List.getD_cons_zero, List.getD_cons_succ, -List.getD_eq_getElem?_getD, hV]; first | exact z1 c h | exact ⟨.mk c, h⟩))
 refine zs (zL (zl 2 ?_ (h := by intro c K h; simp [hG, List.getD_cons_zero, List.getD_cons_succ, -List.getD_eq_getElem?_getD, hV]; first | exact z1 c h | exact ⟨.mk c, h⟩)))
 refine zc cal132 (indexQ_c l q hfn hn hc hl hcal hclo hp) ?_ (a := fun hg => by simp [hG, List.getD_cons_zero, List.getD_cons_succ, -List.getD_eq_getElem?_getD, hV]) (b := fun hg => by simp [hG, List.getD_cons_zero, List.getD_cons_succ, -List.getD_eq_getElem?_getD, hV]) (h := by intro K h; simp [hG, List.getD_cons_zero, List.getD_cons_succ, -List.getD_eq_getElem?_getD, hV]; exact h)
 refine zl 2 ?_ (h := by intro c K h; simp [hG, List.getD_cons_zero, List.getD_cons_succ, -List.getD_eq_getElem?_getD, hV]; first | exact z1 c h | exact ⟨.mk c, h⟩)
 refine zN (zt ?_)
 refine RetOK_of ?_
 simp [hG, List.getD_cons_zero, List.getD_cons_succ, -List.getD_eq_getElem?_getD, hV]
 rw [← placeQ_any]
set_option maxRecDepth 100000 in
theorem sink2_c (c : List Int) (x : Edge) (hl : c.length ≤ 64) : PC Tryz.prog 96 [.agg 3 (edgeF x), .vptr 1 (fun _ => ints c) 0] (.bool (hasI c x.frm && !hasI c x.to)) := by
 refine zp Tryz.func96 fun G hG hR => ?_
 refine zs (zr ?_)
 refine zs (zL (zl 3 ?_))
 refine zc cal71 (containsI_c c x.frm (by omega)) ?_
 refine zl 4 ?_
 refine zc cal71 (containsI_c c x.to (by omega)) ?_
 refine zl 3 ?_
 refine zN (zt ?_)
 exact zR
set_option maxRecDepth 100000 in
theorem sink1_c (g : Gr) (c : List Int) (hl : c.length ≤ 64) (hed : g.edges.length ≤ 1024) : PC Tryz.prog 94 [ints c, .vptr 3 (grF g) 0] (.bool (!leaves g c)) := by
 refine zp Tryz.func94 fun G hG hR => ?_
 refine zs (zr ?_)
 refine zs (zL (zl 3 ?_))
 refine awpL_callB (mem [0]) cal95 (by simp [flat]) rfl rfl (fun _ => rfl) (fun hg => containsQ_c g.edges (fun x => hasI c x.frm && !hasI c x.to) 96 1 (fun _ => .vptr 1 (fun _ => ints c) 0) hed cal96 (fun _ => by simp) fun x _ => sink2_c c x hl) (fun hg => ?_) (fun hg => ?_) fun K hK => ?_
 · simp [hG, List.getD_cons_zero, List.getD_cons_succ, -List.getD_eq_getElem?_getD]
 · simp [hG, List.getD_cons_zero, List.getD_cons_succ, -List.getD_eq_getElem?_getD]
 simp [hG, List.getD_cons_zero, List.getD_cons_succ, -List.getD_eq_getElem?_getD]
 refine hK _ ?_
 clear K hK
 refine zl 2 ?_
 refine zN (zt ?_)
 refine RetOK_of ?_
 simp [hG, List.getD_cons_zero, List.getD_cons_succ, -List.getD_eq_getElem?_getD]
 rfl
set_option maxRecDepth 100000 in
theorem sinks_c (g : Gr) : PC Tryz.prog 57 [.agg 3 (grF g)] (.tup 2 (fun j => [rowsI (if gcheck g = 0 then (compsL g).filter (fun c => !leaves g c) else []), .int .i64 (if gcheck g = 0 then 0 else 1)].getD j .any)) := by
 refine zp Tryz.func57 fun G hG hR => ?_
 refine zs (zr ?_)
 refine zs ?_
 refine awpS_wk (st2 := ⟨[(1, .vptr 3 (grF g) 0)], [], 0⟩) ?_ ?_
 · exact zw (id) (fun _ => true) (fun _ => false)
 refine zL (zl 2 ?_)
 refine zc cal93 (some_c g (fun c => !leaves g c) 94 1 (fun _ => .vptr 3 (grF g) 0) cal94 (fun _ => by simp) fun hgc s hs => sink1_c g (compL g s) (Nat.le_trans compAt_len (by have := (gcheck_fit hgc).st; unfold Gr.n; omega)) (gcheck_valid hgc).1.ed) ?_
 refine zl 4 ?_
 refine zN (zt ?_)
 exact zR
end Go.Proofs.YthpdkmoedpcboaaGreat
namespace Go.Proofs.YthpdkmoedpcboaaGreat
set_option linter.unusedSimpArgs false
set_option linter.unusedVariables false
open Go Go.Lift Go.Proofs
noncomputable def CL (g : Gr) : List (List Int) := if gcheck g = 0 then compsL g else []
theorem CL_lt {g : Gr} {k : Nat} (h : k < (CL g).length) : gcheck g = 0 := by
  unfold CL at h
  split at h
  · assumption
  · simp at h
theorem CL_ok {g : Gr} (h : gcheck g = 0) : CL g = compsL g := if_pos h
theorem CL_row {g : Gr} {c : List Int} (h : c ∈ CL g) : c.length ≤ 64 := by
  have hg := CL_lt (k := 0) (List.length_pos_of_mem h)
  rw [CL_ok hg] at h
  obtain ⟨s, _, rfl⟩ := List.mem_map.1 h
  have := (gcheck_fit hg).st
  have := compAt_len (g := g) (s := s) (k := g.n)
  unfold compL
  unfold Gr.n at *
  omega
theorem mutB_iff {g : Gr} (hf : Fit g) {s t : Nat} (hs : s < g.n) (ht : t < g.n) : mutB g s t = true ↔ Rch g s t ∧ Rch g t s := by
  unfold mutB
  rw [Bool.and_eq_true, reachL_at ht, reachL_at hs]
theorem mutB_comm {g : Gr} {s t : Nat} : mutB g s t = mutB g t s := by unfold mutB; exact Bool.and_comm _ _
theorem mutB_trans {g : Gr} (hf : Fit g) {s t u : Nat} (hs : s < g.n) (ht : t < g.n) (hu : u < g.n) (h : mutB g s t = true) (k : mutB g t u = true) : mutB g s u = true := by
  rw [mutB_iff hf] at h k ⊢ <;> first | assumption | exact ⟨h.1.trans k.1, k.2.trans h.2⟩
theorem compL_mut {g : Gr} (hf : Fit g) {s t : Nat} (hs : s < g.n) (ht : t < g.n) (h : mutB g s t = true) : compL g s = compL g t := by
  unfold compL compAt
  congr 1
  apply List.filter_congr
  intro u hu
  have hu' : u < g.n := by simpa using hu
  rw [Bool.eq_iff_iff]
  exact ⟨fun h2 => mutB_trans hf ht hs hu' (by rw [mutB_comm]; exact h) h2, fun h2 => mutB_trans hf hs ht hu' h h2⟩
theorem least_of {g : Gr} (hf : Fit g) {s : Nat} (hs : s < g.n) : ∃ m, m < g.n ∧ least g m = true ∧ mutB g m s = true := by
  obtain ⟨m, hm, hmn, hms⟩ := comp_nonneg (getD_mem (d := 0) (compL_pos hs))
  have hh := compAt_head g.n (compL_pos hs)
  refine ⟨m, hmn, (least_iff hmn).2 fun t ht hmt => ?_, by rw [mutB_comm]; exact hms⟩
  have h1 := hh _ (comp_mem.2 ⟨ht, mutB_trans hf hs hmn ht hms hmt⟩)
  have h2 : (compAt g s g.n).getD 0 0 = (m : Int) := hm
  omega
theorem comps_mem {g : Gr} {c : List Int} : c ∈ compsL g ↔ ∃ s, s < g.n ∧ least g s = true ∧ c = compL g s := by
  unfold compsL compsAt
  simp only [List.mem_map, List.mem_filter, List.mem_range]
  exact ⟨fun ⟨s, h, e⟩ => ⟨s, h.1, h.2, e.symm⟩, fun ⟨s, h1, h2, e⟩ => ⟨s, ⟨h1, h2⟩, e.symm⟩⟩
theorem comps_cover {g : Gr} (hf : Fit g) {s : Nat} (hs : s < g.n) : compL g s ∈ compsL g := by
  obtain ⟨m, hm, hl, hms⟩ := least_of hf hs
  exact comps_mem.2 ⟨m, hm, hl, (compL_mut hf hm hs hms).symm⟩
theorem CL_filt {g : Gr} {f : List Int → Bool} : (if gcheck g = 0 then (compsL g).filter f else []) = (CL g).filter f := by
  unfold CL; split <;> simp
end Go.Proofs.YthpdkmoedpcboaaGreat
namespace Go.Proofs.YthpdkmoedpcboaaGreat
set_option linter.unusedSimpArgs false
set_option linter.unusedVariables false
open Go Go.Lift Go.Proofs
theorem to_lt {g : Gr} (hf : Fit g) {x : Edge} (hx : x ∈ g.edges) : x.to.toNat < g.n := by
  have := hf.to x hx; unfold Gr.n; omega
theorem frm_lt {g : Gr} (hf : Fit g) {x : Edge} (hx : x ∈ g.edges) : x.frm.toNat < g.n := by
  have := hf.frm x hx; unfold Gr.n; omega
theorem frm_nat {g : Gr} (hf : Fit g) {x : Edge} (hx : x ∈ g.edges) : ((x.frm.toNat : Nat) : Int) = x.frm := by
  have := hf.frm x hx; omega
theorem sink_of {g : Gr} (hf : Fit g) : ∀ (m s : Nat), s < g.n → g.n - unseen (reachL g s) ≤ m → ∃ t, t < g.n ∧ Rch g s t ∧ leaves g (compL g t) = false
  | 0, s, hs, h => by
    exfalso
    have h1 : unseen (reachL g s) < g.n := by
      have := unseen_set (l := (reachL g s).set s false) (s := s) (by simpa using hs) (by rw [getD_set, if_pos ⟨rfl, by simpa using hs⟩])
      have e : ((reachL g s).set s false).set s true = reachL g s := by
        rw [List.set_set]
        refine eq_of_getD (d := false) (by simp) fun j hj => ?_
        rw [getD_set]
        split
        · rename_i e; rw [e.1]; exact ((reachL_at hs).2 .refl).symm
        · rfl
      rw [e] at this
      have h2 := unseen_le ((reachL g s).set s false)
      simp at h2
      omega
    omega
  | m + 1, s, hs, h => by
    cases hl : leaves g (compL g s) with
    | false => exact ⟨s, hs, .refl, hl⟩
    | true =>
      unfold leaves at hl
      obtain ⟨x, hx, hq⟩ := List.any_eq_true.1 hl
      rw [Bool.and_eq_true, Bool.not_eq_true'] at hq
      have hfl := frm_lt hf hx
      have htl := to_lt hf hx
      have h1 : mutB g s x.frm.toNat = true := by
        have := hq.1
        unfold hasI at this
        rw [decide_eq_true_eq, ← frm_nat hf hx] at this
        exact (comp_mem.1 this).2
      have hto : ((x.to.toNat : Nat) : Int) = x.to := by have := hf.to x hx; omega
      have h2 : ¬ mutB g s x.to.toNat = true := fun hm => by
        have := hq.2
        unfold hasI at this
        rw [decide_eq_false_iff_not, ← hto] at this
        exact this (comp_mem.2 ⟨htl, hm⟩)
      have hsf := ((mutB_iff hf hs hfl).1 h1)
      have hst : Rch g s x.to.toNat := hsf.1.step hx (frm_nat hf hx).symm
      have hts : ¬ Rch g x.to.toNat s := fun hr => h2 ((mutB_iff hf hs htl).2 ⟨hst, hr⟩)
      have hlt : unseen (reachL g s) < unseen (reachL g x.to.toNat) := by
        refine unseen_strict (by simp) (fun t ht => ?_) (fun e => hts ?_)
        · rcases Nat.lt_or_ge t g.n with hn | hn
          · exact (reachL_at hn).2 (hst.trans ((reachL_at hn).1 ht))
          · simp [List.getD, List.getElem?_eq_none (show (reachL g x.to.toNat).length ≤ t by simpa using hn)] at ht
        · have := (reachL_at (g := g) (s := s) hs).2 .refl
          rw [← e] at this
          exact (reachL_at hs).1 this
      have hle := unseen_le (reachL g x.to.toNat)
      simp at hle
      obtain ⟨t, ht, hr, hn⟩ := sink_of hf m x.to.toNat htl (by omega)
      exact ⟨t, ht, hst.trans hr, hn⟩
theorem compAt_asc {g : Gr} {s k : Nat} : (compAt g s k).Pairwise (· < ·) := by
  unfold compAt
  rw [List.pairwise_map]
  exact (List.Pairwise.filter _ List.pairwise_lt_range).imp fun h => by omega
theorem keep_mem {g : Gr} {c : List Int} {y : Edge} : y ∈ (keptG g c).edges ↔ ∃ x ∈ g.edges, inBoth c x = true ∧ y = mapE c x := by
  show y ∈ keepE g c g.edges.length ↔ _
  unfold keepE
  rw [List.take_length, List.mem_map]
  constructor
  · rintro ⟨x, hx, rfl⟩
    exact ⟨x, (List.mem_filter.1 hx).1, (List.mem_filter.1 hx).2, rfl⟩
  · rintro ⟨x, hx, hb, rfl⟩
    exact ⟨x, List.mem_filter.2 ⟨hx, hb⟩, rfl⟩
theorem keep_asc {g : Gr} (hg : gcheck g = 0) {c : List Int} (hc : c.Pairwise (· < ·)) : (keptG g c).edges.Pairwise ltE := by
  show (keepE g c g.edges.length).Pairwise ltE
  unfold keepE
  rw [List.take_length, List.pairwise_map]
  refine List.Pairwise.imp_of_mem ?_ ((edges_asc hg).filter _)
  intro a b ha hb h
  have h1 := inBoth_mem (List.mem_filter.1 ha).2
  have h2 := inBoth_mem (List.mem_filter.1 hb).2
  unfold ltE at h ⊢
  show (rankI c a.frm : Int) < (rankI c b.frm : Int) ∨ ((rankI c a.frm : Int) = (rankI c b.frm : Int) ∧ (a.lab < b.lab ∨ (a.lab = b.lab ∧ (rankI c a.to : Int) < (rankI c b.to : Int))))
  rcases h with h | ⟨e, h | ⟨e2, h⟩⟩
  · have := rank_mono hc h1.1 h2.1 h; omega
  · rw [e]; omega
  · have := rank_mono hc h1.2 h2.2 h; rw [e]; omega
theorem keep_valid {g : Gr} (hg : gcheck g = 0) {c : List Int} (hc : c.Pairwise (· < ·)) (hl : c.length ≤ 64) : gcheck (keptG g c) = 0 := by
  have hz := (gcheck_valid hg).1
  have hv := (gcheck_valid hg).2
  have hk := keepE_len (g := g) (c := c) (i := g.edges.length)
  have hed := hz.ed
  refine gcheck_ok ⟨hz.1, ⟨Int.natCast_nonneg _, by show (c.length : Int) ≤ 64; omega⟩, by show (keepE g c g.edges.length).length ≤ 1024; omega⟩ fun j hj => ?_
  have hm := getD_mem (d := de) hj
  obtain ⟨x, hx, hb, e⟩ := keep_mem.1 hm
  have hb' := inBoth_mem hb
  have r1 := rank_lt hc hb'.1
  have r2 := rank_lt hc hb'.2
  have hlab : 0 ≤ x.lab ∧ x.lab < g.labels := by
    obtain ⟨i, hi, rfl⟩ := List.mem_iff_getElem.1 hx
    have := hv i hi
    unfold edgeCheck at this
    rw [getD_get hi] at this
    by_cases ho : edgeOut g g.edges[i]
    · rw [if_pos ho] at this; cases this
    · unfold edgeOut at ho; omega
  unfold edgeCheck
  rw [if_neg, if_neg]
  · rintro ⟨h0, h⟩
    have := List.pairwise_iff_getElem.1 (keep_asc hg hc) (j - 1) j (by omega) hj (by omega)
    rw [← cmp_lt, ← getD_get (d := de) (show j - 1 < (keptG g c).edges.length by omega), ← getD_get (d := de) hj] at this
    omega
  · rw [e]
    unfold edgeOut
    show ¬ ((rankI c x.frm : Int) < 0 ∨ (c.length : Int) ≤ (rankI c x.frm : Int) ∨ (rankI c x.to : Int) < 0 ∨ (c.length : Int) ≤ (rankI c x.to : Int) ∨ x.lab < 0 ∨ g.labels ≤ x.lab)
    omega
noncomputable def sks (g : Gr) : List (List Int) := (CL g).filter fun c => !leaves g c
theorem n_states {g : Gr} (hg : gcheck g = 0) : (g.n : Int) = g.states := by have := (gcheck_fit hg).st; unfold Gr.n; omega
theorem sks_some {g : Gr} (hg : gcheck g = 0) (hn : 0 < g.states) : 0 < (sks g).length := by
  have hf := gcheck_fit hg
  have hns := n_states hg
  obtain ⟨t, ht, _, hl⟩ := sink_of hf (g.n - unseen (reachL g 0)) 0 (by omega) (Nat.le_refl _)
  refine List.length_pos_of_mem (a := compL g t) (List.mem_filter.2 ⟨?_, by rw [hl]; rfl⟩)
  rw [CL_ok hg]
  exact comps_cover hf ht
theorem sks_row {g : Gr} (hg : gcheck g = 0) {c : List Int} (h : c ∈ sks g) : c.Pairwise (· < ·) ∧ (∀ x ∈ c, 0 ≤ x ∧ x < g.states) ∧ c.length ≤ 64 ∧ 0 < c.length := by
  have h1 := (List.mem_filter.1 h).1
  have h3 := CL_row h1
  rw [CL_ok hg] at h1
  obtain ⟨s, hs, _, rfl⟩ := comps_mem.1 h1
  refine ⟨compAt_asc, fun x hx => ?_, h3, compL_pos hs⟩
  obtain ⟨t, rfl, ht, _⟩ := comp_nonneg hx
  have := n_states hg
  omega
def bg0 (g : Gr) (v : List Int) (m : Int) : Gr := keptG g (supL (leaL g v m))
def bw0 (g : Gr) (v : List Int) (m : Int) : List Int := pickL (leaL g v m) (supL (leaL g v m))
noncomputable def bc (g : Gr) (v : List Int) (m : Int) : List Int := (sks (bg0 g v m)).getD 0 []
noncomputable def bg (g : Gr) (v : List Int) (m : Int) : Gr := keptG (bg0 g v m) (bc g v m)
noncomputable def bw (g : Gr) (v : List Int) (m : Int) : List Int := pickL (bw0 g v m) (bc g v m)
noncomputable def bS (g : Gr) (v : List Int) (m : Int) : Nat → Gr × List Int
  | 0 => (bg g v m, bw g v m)
  | k + 1 => (aplG (bS g v m k).1 (bS g v m k).2 m (cLs (bS g v m k).1 (bS g v m k).2 m), aplW (bS g v m k).1 (bS g v m k).2 m (cLs (bS g v m k).1 (bS g v m k).2 m))
noncomputable def bR (g : Gr) (v : List Int) (m : Int) (k : Nat) : List Spl := cLs (bS g v m k).1 (bS g v m k).2 m
noncomputable def bE (g : Gr) (v : List Int) (m : Int) (k : Nat) : Int := if cNo (bS g v m k).1 (bS g v m k).2 m ≠ 0 then cNo (bS g v m k).1 (bS g v m k).2 m else aplN (bS g v m k).1 (bS g v m k).2 m (bR g v m k)
noncomputable def bRs (g : Gr) (v : List Int) (m : Int) (k : Nat) : List (List Spl) := (List.range k).map (bR g v m)
theorem supL_asc {v : List Int} : (supL v).Pairwise (· < ·) := supA_asc _
theorem lst_all0 {g : Gr} {m : Int} {v : List Int} (hm : 1 ≤ m) (hb : BoxV v) (h : v.all (fun n => decide (n = 0)) = false) : ∀ k, (lstI g m v k).all (fun n => decide (n = 0)) = false
  | 0 => h
  | k + 1 => by
    cases hl : lowI g m (lstI g m v k) with
    | none => rw [lstI_none hl]; exact lst_all0 hm hb h k
    | some s => rw [lstI_some hl]; exact (lowI_in hl).2.2
theorem lea_ok {g : Gr} {v : List Int} {m : Int} (h : eigN g v m = 0) : BoxV (leaL g v m) ∧ (leaL g v m).length = v.length ∧ 0 < (supL (leaL g v m)).length := by
  obtain ⟨hv, hal, _⟩ := eigN_zero h
  obtain ⟨hg, hm, hl, hb⟩ := vecN_zero hv
  obtain ⟨h1, h2⟩ := lst_box (g := g) hm.1 hb (v.sum.toNat + 1)
  rw [leaL_2 h]
  refine ⟨h1, h2, ?_⟩
  have h3 := lst_all0 (g := g) hm.1 hb hal (v.sum.toNat + 1)
  obtain ⟨x, hx, hx0⟩ := List.all_eq_false.1 h3
  have hx0' : x ≠ 0 := by simpa using hx0
  obtain ⟨j, hj, rfl⟩ := List.mem_iff_getElem.1 hx
  have hbx := h1 _ hx
  exact List.length_pos_of_mem (a := (j : Int)) (supA_mem.2 ⟨j, hj, rfl, by show (lstI g m v (v.sum.toNat + 1)).getD j 0 > 0; rw [getD_get hj]; omega⟩)
theorem bg0_ok {g : Gr} {v : List Int} {m : Int} (h : eigN g v m = 0) : gcheck (bg0 g v m) = 0 ∧ 0 < (bg0 g v m).states ∧ ((bw0 g v m).length : Int) = (bg0 g v m).states := by
  obtain ⟨hv, _, _⟩ := eigN_zero h
  obtain ⟨hg, hm, hl, hb⟩ := vecN_zero hv
  obtain ⟨h1, h2, h3⟩ := lea_ok h
  have hst := (gcheck_valid hg).1.st
  have h4 : (supL (leaL g v m)).length ≤ 64 := Nat.le_trans (supA_len _) (by omega)
  exact ⟨keep_valid hg supL_asc h4, by show 0 < ((supL (leaL g v m)).length : Int); omega, by show ((pickL _ _).length : Int) = ((supL (leaL g v m)).length : Int); rw [pickL_len]⟩
theorem bc_ok {g : Gr} {v : List Int} {m : Int} (h : eigN g v m = 0) : 0 < (sks (bg0 g v m)).length ∧ (bc g v m).Pairwise (· < ·) ∧ (∀ x ∈ bc g v m, 0 ≤ x ∧ x < (bg0 g v m).states) ∧ (bc g v m).length ≤ 64 ∧ 0 < (bc g v m).length := by
  obtain ⟨h1, h2, _⟩ := bg0_ok h
  have h3 := sks_some h1 h2
  obtain ⟨a, b, c, d⟩ := sks_row h1 (getD_mem (d := []) h3)
  exact ⟨h3, a, b, c, d⟩
noncomputable def bStop (g : Gr) (v : List Int) (m : Int) (k : Nat) : Bool := onesB (bS g v m k).2 || decide (k = 64) || decide (bE g v m k ≠ 0)
noncomputable def bK (g : Gr) (v : List Int) (m : Int) : Nat := ((List.range 65).find? (bStop g v m)).getD 64
noncomputable def bErr (g : Gr) (v : List Int) (m : Int) : Int := if eigN g v m ≠ 0 then eigN g v m else if onesB (bS g v m (bK g v m)).2 = true then 0 else if bK g v m = 64 then 4 else bE g v m (bK g v m)
noncomputable def bP (g : Gr) (v : List Int) (m : Int) : Prf := if bErr g v m = 0 then ⟨bg g v m, bw g v m, m, bRs g v m (bK g v m)⟩ else ⟨⟨0, 0, []⟩, [], 0, []⟩
theorem bStop_no {g : Gr} {v : List Int} {m : Int} {k : Nat} (h1 : onesB (bS g v m k).2 = false) (h2 : k ≠ 64) (h3 : bE g v m k = 0) : bStop g v m k = false := by
  unfold bStop; rw [h1, decide_eq_false h2, decide_eq_false (fun h => h h3)]; rfl
theorem bK_at {g : Gr} {v : List Int} {m : Int} {k : Nat} (hk : k ≤ 64) (hn : ∀ j, j < k → bStop g v m j = false) (h : bStop g v m k = true) : bK g v m = k := by
  have e : (List.range 65).find? (bStop g v m) = some k := by
    rw [List.find?_eq_some_iff_getElem]
    refine ⟨h, k, by simp; omega, by simp, fun j hj => ?_⟩
    rw [List.getElem_range, hn j hj]; rfl
  unfold bK; rw [e]; rfl
theorem bErr_1 {g : Gr} {v : List Int} {m : Int} (h : eigN g v m ≠ 0) : bErr g v m = eigN g v m ∧ bP g v m = ⟨⟨0, 0, []⟩, [], 0, []⟩ := by
  have e : bErr g v m = eigN g v m := if_pos h
  exact ⟨e, by unfold bP; rw [e, if_neg h]⟩
theorem bErr_2 {g : Gr} {v : List Int} {m : Int} {k : Nat} (h : eigN g v m = 0) (hk : k ≤ 64) (hn : ∀ j, j < k → bStop g v m j = false) (h1 : onesB (bS g v m k).2 = true) : bErr g v m = 0 ∧ bP g v m = ⟨bg g v m, bw g v m, m, bRs g v m k⟩ := by
  have hK := bK_at hk hn (by unfold bStop; rw [h1]; rfl)
  have e : bErr g v m = 0 := by unfold bErr; rw [hK, if_neg (fun h2 => h2 h), if_pos h1]
  exact ⟨e, by unfold bP; rw [e, if_pos rfl, hK]⟩
theorem bErr_3 {g : Gr} {v : List Int} {m : Int} (h : eigN g v m = 0) (hn : ∀ j, j < 64 → bStop g v m j = false) (h1 : onesB (bS g v m 64).2 = false) : bErr g v m = 4 ∧ bP g v m = ⟨⟨0, 0, []⟩, [], 0, []⟩ := by
  have hK := bK_at (Nat.le_refl 64) hn (by unfold bStop; rw [decide_eq_true rfl]; simp)
  have e : bErr g v m = 4 := by unfold bErr; rw [hK, if_neg (fun h2 => h2 h), h1, if_neg (by simp), if_pos rfl]
  exact ⟨e, by unfold bP; rw [e]; rfl⟩
theorem bErr_4 {g : Gr} {v : List Int} {m : Int} {k : Nat} (h : eigN g v m = 0) (hk : k < 64) (hn : ∀ j, j < k → bStop g v m j = false) (h1 : onesB (bS g v m k).2 = false) (h2 : bE g v m k ≠ 0) : bErr g v m = bE g v m k ∧ bP g v m = ⟨⟨0, 0, []⟩, [], 0, []⟩ := by
  have hK := bK_at (by omega) hn (by unfold bStop; rw [decide_eq_true h2]; simp)
  have e : bErr g v m = bE g v m k := by unfold bErr; rw [hK, if_neg (fun h2 => h2 h), h1, if_neg (by simp), if_neg (by omega)]
  exact ⟨e, by unfold bP; rw [e, if_neg h2]⟩
theorem bRs_zero {g : Gr} {v : List Int} {m : Int} : bRs g v m 0 = [] := rfl
theorem bRs_succ {g : Gr} {v : List Int} {m : Int} {k : Nat} : bRs g v m (k + 1) = bRs g v m k ++ [bR g v m k] := by simp [bRs, List.range_succ]
theorem bRs_len {g : Gr} {v : List Int} {m : Int} {k : Nat} : (bRs g v m k).length = k := by simp [bRs]
theorem bE_1 {g : Gr} {v : List Int} {m : Int} {k : Nat} (h : cNo (bS g v m k).1 (bS g v m k).2 m ≠ 0) : bE g v m k = cNo (bS g v m k).1 (bS g v m k).2 m := if_pos h
theorem bE_2 {g : Gr} {v : List Int} {m : Int} {k : Nat} (h : cNo (bS g v m k).1 (bS g v m k).2 m = 0) : bE g v m k = aplN (bS g v m k).1 (bS g v m k).2 m (bR g v m k) := if_neg (fun h2 => h2 h)
theorem bS_succ {g : Gr} {v : List Int} {m : Int} {k : Nat} : bS g v m (k + 1) = (aplG (bS g v m k).1 (bS g v m k).2 m (bR g v m k), aplW (bS g v m k).1 (bS g v m k).2 m (bR g v m k)) := rfl
theorem sinksK_c (g : Gr) : PC Tryz.prog 57 [.agg 3 (grF g)] (.tup 2 (fun j => [rowsI (sks g), .int .i64 (if gcheck g = 0 then 0 else 1)].getD j .any)) := by
  have := sinks_c g; rw [CL_filt] at this; exact this
noncomputable def pBF (g : Gr) (v : List Int) (m : Int) (k j : Nat) : AVal := [.int .i64 (bg g v m).labels, .int .i64 (bg g v m).states, edgesC (bg g v m).edges, ints (bw g v m), .int .i64 m, .sl (3, 0) 0 k].getD j .any
theorem bw_len {g : Gr} {v : List Int} {m : Int} (h : eigN g v m = 0) : (bw g v m).length ≤ 64 := by
  show (pickL _ _).length ≤ 64
  rw [pickL_len]; exact (bc_ok h).2.2.2.1
end Go.Proofs.YthpdkmoedpcboaaGreat
