/- Parts of the proof: YC. -/
import Derived.Test.YthpdkmoedpcboaaGreatPO15
import Derived.Test.YthpdkmoedpcboaaGreatPO36
import Derived.Test.YthpdkmoedpcboaaGreatPO38
namespace Go.Proofs.YthpdkmoedpcboaaGreat
set_option linter.unusedSimpArgs false
set_option linter.unusedVariables false
open Go Go.Lift Go.Proofs
def dp2 : List UInt8 × List Int := ([], [])
def ntM (g : Gr) (p : List UInt8 × List Int) (i : Nat) : List (List UInt8 × List Int) := ((List.range i).filter fun j => decide (stepL g (idxB letters (ltrB j)) p.2 ≠ [])).map fun j => (p.1 ++ [ltrB j], stepL g (idxB letters (ltrB j)) p.2)
def nxM (g : Gr) (m : List (List UInt8 × List Int)) (o : List Nat) : List (List UInt8 × List Int) := (o.map fun i => m.getD i dp2).flatMap fun p => ntM g p g.labels.toNat
def wrdM (g : Gr) (L : List Int) (n : Nat) : List (List UInt8 × List Int) := (wrd g L n).map fun w => (w, setA g L w)
theorem ntM_zero {g : Gr} {p : List UInt8 × List Int} : ntM g p 0 = [] := rfl
theorem nxM_nil {g : Gr} {m : List (List UInt8 × List Int)} : nxM g m [] = [] := rfl
theorem nxM_snoc {g : Gr} {m : List (List UInt8 × List Int)} {o : List Nat} {i : Nat} : nxM g m (o ++ [i]) = nxM g m o ++ ntM g (m.getD i dp2) g.labels.toNat := by
  unfold nxM
  rw [List.map_append, List.flatMap_append]
  simp
theorem ntM_yes {g : Gr} {p : List UInt8 × List Int} {i : Nat} (h : stepL g (idxB letters (ltrB i)) p.2 ≠ []) : ntM g p (i + 1) = ntM g p i ++ [(p.1 ++ [ltrB i], stepL g (idxB letters (ltrB i)) p.2)] := by
  unfold ntM
  simp [List.range_succ, List.filter_append, h]
theorem ntM_no {g : Gr} {p : List UInt8 × List Int} {i : Nat} (h : stepL g (idxB letters (ltrB i)) p.2 = []) : ntM g p (i + 1) = ntM g p i := by
  unfold ntM
  simp [List.range_succ, List.filter_append, h]
theorem ntM_len {g : Gr} {p : List UInt8 × List Int} {i : Nat} : (ntM g p i).length ≤ i := by
  unfold ntM
  rw [List.length_map]
  exact Nat.le_trans (List.length_filter_le _ _) (by rw [List.length_range]; exact Nat.le_refl _)
theorem nxM_len {g : Gr} {m : List (List UInt8 × List Int)} : ∀ {o : List Nat}, (nxM g m o).length ≤ o.length * g.labels.toNat
  | [] => by simp [nxM]
  | i :: o => by
    have h1 := nxM_len (g := g) (m := m) (o := o)
    have h2 := ntM_len (g := g) (p := m.getD i dp2) (i := g.labels.toNat)
    show (ntM g (m.getD i dp2) g.labels.toNat ++ nxM g m o).length ≤ _
    rw [List.length_append, List.length_cons, Nat.add_mul]
    omega
theorem wrdM_succ {g : Gr} {L : List Int} {k : Nat} : wrdM g L (k + 1) = (wrdM g L k).flatMap fun p => ntM g p g.labels.toNat := by
  unfold wrdM
  rw [wrd_succ]
  unfold nxtW
  rw [List.map_flatMap, List.flatMap_map]
  congr 1
  funext w
  unfold keyT ntM
  rw [List.map_map]
  have e : ∀ j, setA g L (w ++ [ltrB j]) = stepL g (idxB letters (ltrB j)) (setA g L w) := fun j => setA_snoc
  simp only [e]
  refine List.map_congr_left fun j _ => ?_
  show (w ++ [ltrB j], setA g L (w ++ [ltrB j])) = _
  rw [e]
theorem getD_perm {α : Type} {m : List α} {o : List Nat} {d : α} (h : o.Perm (List.range m.length)) : (o.map fun i => m.getD i d).Perm m := by
  have h1 := h.map fun i => m.getD i d
  have h2 : ((List.range m.length).map fun i => m.getD i d) = m := by
    apply List.ext_getElem
    · simp
    · intro i hi1 hi2
      simp [List.getD, hi2]
  rwa [h2] at h1
theorem nxM_perm {g : Gr} {L : List Int} {k : Nat} {m : List (List UInt8 × List Int)} {o : List Nat} (hm : m.Perm (wrdM g L k)) (ho : o.Perm (List.range m.length)) : (nxM g m o).Perm (wrdM g L (k + 1)) := by
  rw [wrdM_succ]
  exact ((getD_perm ho).trans hm).flatMap_right _
theorem wrdM_fst {g : Gr} {L : List Int} {k : Nat} : (wrdM g L k).map (·.1) = wrd g L k := by unfold wrdM; rw [List.map_map]; exact List.map_id _
theorem keys_nodup {g : Gr} {L : List Int} {k : Nat} {m : List (List UInt8 × List Int)} (hg : g.labels ≤ 16) (hm : m.Perm (wrdM g L k)) : (m.map (·.1)).Nodup := by
  rw [(hm.map (·.1)).nodup_iff, wrdM_fst]; exact wrd_nodup hg k
theorem ent_ok {g : Gr} {L : List Int} {k : Nat} (hv : gcheck g = 0) (hL : SetOK g L) {m : List (List UInt8 × List Int)} (hm : m.Perm (wrdM g L k)) {p : List UInt8 × List Int} (hp : p ∈ m) : SetOK g p.2 := by
  obtain ⟨w, _, rfl⟩ := List.mem_map.1 (hm.mem_iff.1 hp)
  exact setA_ok hv hL
theorem ent_len {g : Gr} {L : List Int} {k : Nat} {m : List (List UInt8 × List Int)} (hm : m.Perm (wrdM g L k)) {p : List UInt8 × List Int} (hp : p ∈ m) : p.1.length = k := by
  obtain ⟨w, hw, rfl⟩ := List.mem_map.1 (hm.mem_iff.1 hp)
  exact wrd_wlen hw
theorem m_len {g : Gr} {L : List Int} {k : Nat} {m : List (List UInt8 × List Int)} (hg : g.labels ≤ 3) (hk : k ≤ 5) (hm : m.Perm (wrdM g L k)) : m.length ≤ 3 ^ k := by
  rw [hm.length_eq]
  unfold wrdM
  rw [List.length_map]
  exact Nat.le_trans (wrd_len k) (Nat.pow_le_pow_left (by omega) _)
theorem alPut_new {α β : Type} [DecidableEq α] : ∀ {l : List (α × β)} {k : α} {v : β}, k ∉ l.map (·.1) → alPut l k v = l ++ [(k, v)]
  | [], _, _, _ => rfl
  | (a, b) :: l, k, v, h => by
    have h1 : k ≠ a := fun e => h (by simp [e])
    have h2 : k ∉ l.map (·.1) := fun e => h (by simp at e ⊢; exact .inr e)
    show (if k = a then _ else (a, b) :: alPut l k v) = _
    rw [if_neg h1, alPut_new h2]; rfl
theorem key_fresh {g : Gr} {m : List (List UInt8 × List Int)} (hn : (m.map (·.1)).Nodup) {done left : List Nat} {i0 i : Nat} (hz : (done ++ left).Perm (List.range m.length)) (hi : i0 ∈ left) (hil : i0 < m.length) (h16 : i < 16) :
    (m.getD i0 dp2).1 ++ [ltrB i] ∉ (nxM g m done ++ ntM g (m.getD i0 dp2) i).map (·.1) := by
  intro h
  rw [List.map_append, List.mem_append] at h
  rcases h with h | h
  · obtain ⟨q, hq, e⟩ := List.mem_map.1 h
    obtain ⟨r, hr, hq⟩ := List.mem_flatMap.1 hq
    obtain ⟨d, hd, rfl⟩ := List.mem_map.1 hr
    obtain ⟨j, _, rfl⟩ := List.mem_map.1 hq
    have e1 := (List.append_inj' (show (m.getD d dp2).1 ++ [ltrB j] = (m.getD i0 dp2).1 ++ [ltrB i] from e) rfl).1
    have hdl : d < m.length := List.mem_range.1 (hz.mem_iff.1 (List.mem_append_left _ hd))
    have hdi : d ≠ i0 := fun e2 => by
      subst e2
      have := (hz.nodup_iff).2 List.nodup_range
      rw [List.nodup_append] at this
      exact this.2.2 d hd d hi rfl
    have h1 : (m.map (·.1))[d]'(by simpa using hdl) = (m.map (·.1))[i0]'(by simpa using hil) := by
      simp only [List.getElem_map]
      rw [getD_get hdl, getD_get hil] at e1
      exact e1
    have hpw := List.pairwise_iff_getElem.1 hn
    rcases Nat.lt_trichotomy d i0 with h2 | h2 | h2
    · exact hpw d i0 (by simpa using hdl) (by simpa using hil) h2 h1
    · exact hdi h2
    · exact hpw i0 d (by simpa using hil) (by simpa using hdl) h2 h1.symm
  · obtain ⟨q, hq, e⟩ := List.mem_map.1 h
    obtain ⟨j, hj, rfl⟩ := List.mem_map.1 hq
    have hj2 := List.mem_range.1 (List.mem_filter.1 hj).1
    have e1 := List.append_cancel_left (show (m.getD i0 dp2).1 ++ [ltrB j] = (m.getD i0 dp2).1 ++ [ltrB i] from e)
    injection e1 with e1 _
    have := ltr_inj (show j < 16 by omega) h16 e1
    omega
theorem idx_ltr0 : ∀ i : Nat, i < 16 → idxB letters (ltrB i) = (i : Int) := by decide +kernel
theorem idx_ltr {i : Nat} (h : i < 16) : idxB letters (ltrB i) = (i : Int) := idx_ltr0 i h
theorem ltr_low0 : ∀ i : Nat, i < 16 → (ltrB i).toNat < 128 := by decide +kernel
theorem ltr_low {i : Nat} (h : i < 16) : (ltrB i).toNat < 128 := ltr_low0 i h
theorem wrd_stop {g : Gr} {L : List Int} {k : Nat} (h : wrdM g L k = []) : ∀ d, wrdM g L (k + d) = []
  | 0 => h
  | d + 1 => by rw [← Nat.add_assoc, wrdM_succ, wrd_stop h d]; rfl
@[simp] theorem luKs {β : Type} {ev : β → AVal} {l : List (List UInt8 × β)} {k : List UInt8} : luK T 9 (mpE strK ev l) 0 (.str k) = some ((alFind l 0 k).map fun p => (p.1, ev p.2)) := luK_strK (by simp)
@[simp] theorem putK_strL {l : List (List UInt8 × List Int)} {k : List UInt8} {b : List Int} : putK (mpE strK ints l) ((alFind l 0 k).map fun p => (p.1, ints p.2)) (.str k) (ints b) = mpE strK ints (alPut l k b) := putK_mpE (ek := strK) (ev := ints) l k b
@[simp high] theorem HLe_sl {h : Heap} {σ : Lift.Id → Lift.Id} {fz : Nat → Bool} {vz : Lift.Id → Bool} {nx : Nat} {l2 l : List (List UInt8 × List Int)} (e : l2 = l) : HLe h σ fz vz nx (.mp (mpE strK ints l2)) (some (.mp (mpE strK ints l))) = True := eq_true (HLe_mpE (ek := strK) (ev := ints) (fun _ => trivial) (fun _ => Clo_ints) e)
theorem HLe_mm {α β : Type} {ek : α → AVal} {ev : β → AVal} (h1 : ∀ a, Clo (ek a)) (h2 : ∀ b, Clo (ev b)) {h : Heap} {σ : Lift.Id → Lift.Id} {fz : Nat → Bool} {vz : Lift.Id → Bool} {nx : Nat} {q : MQ} {l : List (α × β)} : HLe h σ fz vz nx (.mi q (mpE ek ev l)) (some (.mi q (mpE ek ev l))) ∧ HLe h σ fz vz nx (.mp (mpE ek ev l)) (some (.mi q (mpE ek ev l))) := by
  have := HLe_mpE (h := h) (σ := σ) (fz := fz) (vz := vz) (nx := nx) h1 h2 (rfl : l = l)
  exact ⟨⟨rfl, this.1, this.2⟩, this⟩
@[simp high] theorem HLe_sl_mm {h : Heap} {σ : Lift.Id → Lift.Id} {fz : Nat → Bool} {vz : Lift.Id → Bool} {nx : Nat} {q : MQ} {l : List (List UInt8 × List Int)} : HLe h σ fz vz nx (.mi q (mpE strK ints l)) (some (.mi q (mpE strK ints l))) = True := eq_true (HLe_mm (ek := strK) (ev := ints) (fun _ => trivial) (fun _ => Clo_ints)).1
@[simp high] theorem HLe_sl_mp {h : Heap} {σ : Lift.Id → Lift.Id} {fz : Nat → Bool} {vz : Lift.Id → Bool} {nx : Nat} {q : MQ} {l : List (List UInt8 × List Int)} : HLe h σ fz vz nx (.mp (mpE strK ints l)) (some (.mi q (mpE strK ints l))) = True := eq_true (HLe_mm (ek := strK) (ev := ints) (fun _ => trivial) (fun _ => Clo_ints)).2
@[simp high] theorem HLe_it {h : Heap} {σ : Lift.Id → Lift.Id} {fz : Nat → Bool} {vz : Lift.Id → Bool} {nx : Nat} {q : MQ} {l : List Nat} {c : Option Nat} : HLe h σ fz vz nx (.ob (itP q l none)) (some (.ob (itP q l c))) = True := eq_true fun b x hx => by
  obtain ⟨seen, h1, h2, h3, h4, _⟩ := hx
  exact ⟨seen, h1, h2, h3, h4, fun i e => by cases e⟩
@[simp] theorem ren_mpSL {σ : Nat → Nat} {l : List (List UInt8 × List Int)} : List.map (fun p => (ren σ p.1, ren σ p.2)) (mpE strK ints l) = mpE strK ints l := by
  conv => rhs; rw [← List.map_id (mpE strK ints l)]
  refine List.map_congr_left fun p hp => ?_
  obtain ⟨q, _, rfl⟩ := List.mem_map.1 hp
  show (ren σ (.str q.1), ren σ (ints q.2)) = _
  rw [ren_ints]; rfl
def enL (p : List UInt8 × List Int) (j : Nat) : AVal := match j with
  | 0 => .str p.1
  | _ => ints p.2
@[simp] theorem enL_zero {p : List UInt8 × List Int} : enL p 0 = .str p.1 := rfl
@[simp] theorem enL_one {p : List UInt8 × List Int} : enL p 1 = ints p.2 := rfl
theorem enF_sl {m : List (List UInt8 × List Int)} {i : Nat} (h : i < m.length) : enF (mpE strK ints m) i = enL (m.getD i dp2) := by
  have hg : (mpE strK ints m).getD i (.any, .any) = (.str (m.getD i dp2).1, ints (m.getD i dp2).2) := by
    simp [mpE, List.getD, h]
    rfl
  funext j
  cases j with
  | zero => show ((mpE strK ints m).getD i (.any, .any)).1 = _; rw [hg]; rfl
  | succ j => show ((mpE strK ints m).getD i (.any, .any)).2 = _; rw [hg]; rfl
theorem left_step {n : Nat} {done left : List Nat} {i : Nat} (h : (done ++ left).Perm (List.range n)) (hi : i ∈ left) : ((done ++ [i]) ++ left.erase i).Perm (List.range n) ∧ (left.erase i).length < left.length := by
  refine ⟨List.Perm.trans ?_ h, by rw [List.length_erase_of_mem hi]; have := List.length_pos_of_mem hi; omega⟩
  rw [List.append_assoc]
  exact (List.perm_cons_erase hi).symm.append_left done
theorem done_len {n : Nat} {done left : List Nat} (h : (done ++ left).Perm (List.range n)) : done.length + left.length = n := by
  have := h.length_eq
  simpa using this
theorem nx_some {left : List Nat} {n : Nat} {c : Option Nat} (h : nxOK left n c) (hs : c.isSome = true) : ∃ i, c = some i ∧ i ∈ left ∧ i < n := by
  obtain ⟨i, rfl⟩ := Option.isSome_iff_exists.1 hs
  exact ⟨i, rfl, h⟩
theorem nx_none {left : List Nat} {n : Nat} {c : Option Nat} (h : nxOK left n c) (hs : c = none) : left = [] := by
  subst hs; exact h
@[simp] theorem putK_emp {k : List UInt8} {L : List Int} : putK [] none (.str k) (ints L) = mpE strK ints [(k, L)] := rfl
set_option maxRecDepth 100000 in
set_option maxHeartbeats 1000000 in
theorem listW_c (g : Gr) (L : List Int) (n : Nat) (hv : gcheck g = 0) (hL : SetOK g L) (hlab : g.labels ≤ 3) (hn : n ≤ 5) : FC Tryz.prog 47 [.agg 3 (grF g), ints L, .int .i64 (n : Nat)] [] 0 (fun m : List (List UInt8 × List Int) => m.Perm (wrdM g L n)) (fun m : List (List UInt8 × List Int) => .tup 2 (fun j => [.map (0, 0), .bool true].getD j .any)) (fun m : List (List UInt8 × List Int) => [(0, .one (.mp (mpE strK ints m)))]) (fun m : List (List UInt8 × List Int) => 1) := by
 refine FC_introS T_ok Tryz.func47 rfl (by simp [Tryz.ntmps47]) fun G hG hR => ?_
 simp only [Tryz.ntmps47, Tryz.results47] at hG ⊢
 simp only [argEnv, Nat.zero_add, Nat.reduceAdd]
 refine zs (zrP ?_)
 refine zs (zrP ?_)
 refine zs (zs (zrP ?_))
 refine awpS_cut (α := List (List UInt8 × List Int)) (fun m => ⟨[(2, .int .i64 (n : Nat)), (3, .ptr (0, 0) 0 0), (8, .map (1, 0))], [(0, .one (.arr 1 3 (fun _ => grF g))), (1, .one (.mp (mpE strK ints m)))], 2⟩) (fun m => m.Perm (wrdM g L 0)) ?_ ?_ (by simp)
 · refine zy (fun hb18 => ?_) fun hb18 => ?_
   · refine zrP ?_
     refine zn ?_
     refine cut_end ([(([] : List UInt8), L)]) (by rw [show wrdM g L 0 = [([], L)] by unfold wrdM wrd; rw [if_neg (by intro h; subst h; simp at hb18)]; rfl]) ?_
     exact ziP
   refine zk (zn ?_)
   refine cut_end ([]) (by rw [show wrdM g L 0 = [] by unfold wrdM wrd; rw [if_pos (by first | assumption | exact List.length_eq_zero_iff.1 (by omega))]; rfl]) ?_
   exact ziP
 rintro m hm0
 refine zs (zs (zrP ?_))
 refine zb ?_
 refine awpS_loop (α := Nat × List (List UInt8 × List Int)) (fun z => ⟨[(3, .ptr (0, 0) 0 0), (8, .map (1, 0)), (21, .int .i64 (n : Nat)), (22, .int .i64 (z.1 : Nat))], [(0, .one (.arr 1 3 (fun _ => grF g))), (1, .one (.mp (mpE strK ints z.2)))], 2⟩) (fun z => z.1 ≤ n ∧ z.2.Perm (wrdM g L z.1)) (fun z => n - z.1) ((0, m)) (⟨Nat.zero_le _, hm0⟩) ?_ ?_
 · exact ziP
 rintro ⟨k, m⟩ ⟨hk, hm⟩
 simp only at hk hm
 refine zs (zrP ?_)
 refine zs (zy (fun hb23 => ?_) fun hb23 => ?_)
 · have hml := m_len hlab (by omega) hm
   have hnd := keys_nodup (by omega) hm
   have hkn : k < n := (by omega)
   have h81 : 3 ^ k ≤ 81 := (by rcases (show k = 0 ∨ k = 1 ∨ k = 2 ∨ k = 3 ∨ k = 4 by omega) with rfl | rfl | rfl | rfl | rfl <;> decide)
   refine zk (zs (zb (zs (zrP ?_))))
   refine zs (zs (zL (zlP 1 ?_)))
   refine awpL_range (id := (1, 0)) Tryz.underlying81 rfl rfl rfl rfl trivial fun K hK q hq => ?_
   simp [hG, List.getD_cons_zero, List.getD_cons_succ, -List.getD_eq_getElem?_getD, pureOp]
   refine hK _ ?_
   clear K hK
   refine zN (zb ?_)
   refine awpS_loop (α := List Nat × List Nat) (fun z => ⟨[(3, .ptr (0, 0) 0 0), (9, .map (2, 0)), (21, .int .i64 (n : Nat)), (22, .int .i64 (k : Nat)), (26, .ptr (3, 0) 0 0)], [(0, .one (.arr 1 3 (fun _ => grF g))), (1, .one (.mi q (mpE strK ints m))), (2, .one (.mp (mpE strK ints (nxM g m z.1)))), (3, .one (.ob (itP q z.2 none)))], 4⟩) (fun z => (z.1 ++ z.2).Perm (List.range m.length)) (fun z => z.2.length) (([], List.range m.length)) (List.Perm.refl _) ?_ ?_
   · exact ziP (h := by rw [nxM_nil, nil_mpE]; simp [hG, List.getD_cons_zero, List.getD_cons_succ, -List.getD_eq_getElem?_getD])
   rintro ⟨done, left⟩ hz
   simp only at hz
   refine zs (zL ?_)
   refine awpL_next (id := (1, 0)) (by decide) rfl rfl rfl rfl rfl trivial fun K hK c hc => ?_
   simp [hG, List.getD_cons_zero, List.getD_cons_succ, -List.getD_eq_getElem?_getD, pureOp]
   refine hK _ ?_
   clear K hK
   refine zlP 1 ?_
   refine zN (zs (zy (fun hb28 => ?_) fun hb28 => ?_))
   · rw [length_mpE] at hc
     obtain ⟨i0, rfl, hi0, hil⟩ := nx_some hc hb28
     have hst := left_step hz hi0
     have hpo := ent_ok hv hL hm (getD_mem (d := dp2) hil)
     have hpl := ent_len hm (getD_mem (d := dp2) hil)
     have hdl := done_len hz
     refine zk (zb (zs (zL ?_)))
     refine awpL_entry (id := (1, 0)) rfl rfl rfl rfl rfl trivial fun K hK => ?_; rw [enF_sl hil]
     simp [hG, List.getD_cons_zero, List.getD_cons_succ, -List.getD_eq_getElem?_getD, pureOp]
     refine hK _ ?_
     clear K hK
     refine zlP 4 ?_
     refine zN (zs (zs (zrP ?_)))
     refine zb ?_
     refine awpS_loop (α := Nat) (fun i => ⟨[(3, .ptr (0, 0) 0 0), (9, .map (2, 0)), (10, .str (m.getD i0 dp2).1), (11, ints (m.getD i0 dp2).2), (21, .int .i64 (n : Nat)), (22, .int .i64 (k : Nat)), (26, .ptr (3, 0) 0 0), (33, .int .i64 g.labels), (34, .int .i64 (i : Nat))], [(0, .one (.arr 1 3 (fun _ => grF g))), (1, .one (.mi q (mpE strK ints m))), (2, .one (.mp (mpE strK ints (nxM g m done ++ ntM g (m.getD i0 dp2) i)))), (3, .one (.ob (itP q (left.erase i0) none)))], 4⟩) (fun i => i ≤ g.labels.toNat) (fun i => g.labels.toNat - i) (0) (Nat.zero_le _) ?_ ?_
     · exact ziP (h := by rw [ntM_zero, List.append_nil]; simp [hG, List.getD_cons_zero, List.getD_cons_succ, -List.getD_eq_getElem?_getD])
     rintro i hi
     refine zs (zrP ?_)
     refine zs (zy (fun hb35 => ?_) fun hb35 => ?_)
     · have hfr := key_fresh (g := g) hnd hz hi0 hil (show i < 16 by omega)
       refine zk (zs (zb (zs (zrP ?_))))
       refine zs (zrP ?_)
       refine zs (zL (zlP 3 ?_))
       refine zcP cal81 (langStep_c g (m.getD i0 dp2).2 hv hpo (ltrB i) (by rw [idx_ltr (by omega)]; omega)) ?_ (b := fun hg => by simp [hG, List.getD_cons_zero, List.getD_cons_succ, -List.getD_eq_getElem?_getD]; rfl)
       refine zlP 1 ?_
       refine zN (zs (zrP ?_))
       refine zy (fun hb45 => ?_) fun hb45 => ?_
       · have hne : (stepL g (idxB letters (ltrB i)) (m.getD i0 dp2).2) ≠ [] := (fun h => by rw [h] at hb45; simp at hb45)
         have hal := alPut_new (v := (stepL g (idxB letters (ltrB i)) (m.getD i0 dp2).2)) hfr
         have hnt := ntM_yes hne
         refine zL (zlP 3 ?_)
         refine awpL_its T_ok (ltrB i) rfl rfl (by decide) rfl (ltr_low (by omega)) trivial fun K hK => ?_
         simp [hG, List.getD_cons_zero, List.getD_cons_succ, -List.getD_eq_getElem?_getD, pureOp]
         refine hK _ ?_
         clear K hK
         refine zlP 3 ?_
         refine zN (zn (zbn (zrP ?_)))
         refine zn ?_
         refine round_end (i + 1) (by omega) (by omega) ?_
         exact ziP (h := by rw [hal, hnt, ← List.append_assoc]; simp [hG, List.getD_cons_zero, List.getD_cons_succ, -List.getD_eq_getElem?_getD])
       have hne : (stepL g (idxB letters (ltrB i)) (m.getD i0 dp2).2) = [] := (by first | assumption | exact List.length_eq_zero_iff.1 (by omega))
       have hnt := ntM_no hne
       refine zk (zn (zbn (zrP ?_)))
       refine zn ?_
       refine round_end (i + 1) (by omega) (by omega) ?_
       exact ziP (h := by rw [hnt]; simp [hG, List.getD_cons_zero, List.getD_cons_succ, -List.getD_eq_getElem?_getD])
     obtain rfl : i = g.labels.toNat := (by omega)
     have hxl := nxM_len (g := g) (m := m) (o := done)
     have hx3 := Nat.mul_le_mul_left done.length (show g.labels.toNat ≤ 3 by omega)
     have hnl := ntM_len (g := g) (p := (m.getD i0 dp2)) (i := g.labels.toNat)
     refine zx (ztx (zbx (zs (zL (zlP 1 ?_)))))
     refine awpL_lenm T_ok T81 rfl (id := (2, 0)) (l := mpE strK ints (nxM g m done ++ ntM g (m.getD i0 dp2) g.labels.toNat)) rfl rfl (by simp [hG, List.getD_cons_zero, List.getD_cons_succ, -List.getD_eq_getElem?_getD, pureOp]) (by simp [hG, List.getD_cons_zero, List.getD_cons_succ, -List.getD_eq_getElem?_getD, pureOp]) (by simp [hG, List.getD_cons_zero, List.getD_cons_succ, -List.getD_eq_getElem?_getD, pureOp]) fun K hK => ?_
     simp [hG, List.getD_cons_zero, List.getD_cons_succ, -List.getD_eq_getElem?_getD, pureOp]
     refine hK _ ?_
     clear K hK
     refine zlP 1 ?_
     refine zN ?_
     refine awpS_cond rfl (fun hb55 => ?_) (fun hb55 => ?_)
     · exfalso; simp [-List.getD_eq_getElem?_getD] at hb55; omega
     try simp [-List.getD_eq_getElem?_getD] at hb55
     refine zk (zn (zbn (zn ?_)))
     refine round_end ((done ++ [i0], left.erase i0)) (hst.1) (hst.2) ?_
     exact ziP (h := by rw [nxM_snoc]; simp [hG, List.getD_cons_zero, List.getD_cons_succ, -List.getD_eq_getElem?_getD])
   obtain rfl := nx_none hc (by simpa using hb28)
   rw [List.append_nil] at hz
   have hnx := nxM_perm hm hz
   have hdl := hz.length_eq
   rw [List.length_range] at hdl
   have hxl := nxM_len (g := g) (m := m) (o := done)
   have hx3 := Nat.mul_le_mul_left done.length (show g.labels.toNat ≤ 3 by omega)
   refine zx (ztx (zbx (zs (zrP ?_))))
   refine zs (zL (zlP 1 ?_))
   refine awpL_lenm T_ok T81 rfl (id := (2, 0)) (l := mpE strK ints (nxM g m done)) rfl rfl (by simp [hG, List.getD_cons_zero, List.getD_cons_succ, -List.getD_eq_getElem?_getD, pureOp]) (by simp [hG, List.getD_cons_zero, List.getD_cons_succ, -List.getD_eq_getElem?_getD, pureOp]) (by simp [hG, List.getD_cons_zero, List.getD_cons_succ, -List.getD_eq_getElem?_getD, pureOp]) fun K hK => ?_
   simp [hG, List.getD_cons_zero, List.getD_cons_succ, -List.getD_eq_getElem?_getD, pureOp]
   refine hK _ ?_
   clear K hK
   refine zlP 1 ?_
   refine zN (zy (fun hb59 => ?_) fun hb59 => ?_)
   · have hn0 : nxM g m done = [] := (by first | assumption | exact List.length_eq_zero_iff.1 (by omega))
     have hw0 : wrdM g L (k + 1) = [] := (by have := hnx.length_eq; rw [hn0] at this; exact List.length_eq_zero_iff.1 (by simpa using this.symm))
     have hwn := wrd_stop hw0 (n - (k + 1))
     rw [show k + 1 + (n - (k + 1)) = n by omega] at hwn
     refine zx ?_
     refine blockQ_exit_ne (by decide) (thenQ_exit ?_)
     refine ztx (zbx (zs (zrP ?_)))
     refine zt ?_
     refine RetF_of (nxM g m done) (fun k => k + 2) (fun _ => false) (fun _ => false) (by rw [hn0, hwn]) ?_ ?_ (by rfl) (by simp) (fun k hk => absurd hk (Nat.not_lt_zero _))
     · simp [hG, List.getD_cons_zero, List.getD_cons_succ, -List.getD_eq_getElem?_getD, pureOp]
     simp [hG, List.getD_cons_zero, List.getD_cons_succ, -List.getD_eq_getElem?_getD, pureOp]
   refine zk (zn (zbn (zrP ?_)))
   refine zn ?_
   refine round_end ((k + 1, nxM g m done)) (⟨by simp only; omega, hnx⟩) (by simp only; omega) ?_
   exact zwP (fun k => if k = 1 then 2 else k) (fun _ => false) (fun _ => false)
 obtain rfl : k = n := (by omega)
 refine zx (ztx (zbx (zs (zrP ?_))))
 refine zt ?_
 refine RetF_of (m) (fun k => k + 1) (fun _ => false) (fun _ => false) hm ?_ ?_ (by rfl) (by simp) (fun k hk => absurd hk (Nat.not_lt_zero _))
 · simp [hG, List.getD_cons_zero, List.getD_cons_succ, -List.getD_eq_getElem?_getD, pureOp]
 simp [hG, List.getD_cons_zero, List.getD_cons_succ, -List.getD_eq_getElem?_getD, pureOp]
end Go.Proofs.YthpdkmoedpcboaaGreat
