/- Parts of the proof: VN. -/
import Derived.Test.YtoafgeobhhlplaaZU09
import Derived.Test.YtoafgeobhhlplaaZU14
import Derived.Test.YtoafgeobhhlplaaZU18
namespace Go.Proofs.Ytoafgeobhhlplaa
set_option linter.unusedSimpArgs false
set_option linter.unusedVariables false
open Go Go.Lift Go.Proofs
theorem adQ_self {K : List Rc} {x : Rc} : adQ K [] K x = ([], addG K x) := by
  unfold adQ addG
  split <;> rfl
theorem ini_len {c : Cd} (hv : CdOK c) {n : Nat} {K L M : List Rc} (h : Ini c.ws n K) (hL : AtL c.ws n L) (hM : ∀ x ∈ M, x ∈ L) : (addL K M).length ≤ 4464769 := by
  refine box_len hv.len hv.n.2 (addL_nd h.nd) fun x hx => ?_
  rcases addL_mem.1 hx with h1 | h1
  · exact h.box x h1
  · obtain ⟨h2, h3⟩ := (hL.mem x).1 (hM x h1)
    have := box_at h3
    rw [← h2] at this
    exact this
@[simp] theorem rc_eta {p : Rc} : (p.1, p.2) = p := rfl
@[simp] theorem fvM_nil : fvM [] = [] := rfl
theorem ren_rcK {ρ : Nat → Nat} {x : Rc} : ren ρ (rcK x) = rcK x := by
  unfold rcK aggL
  simp only [ren]
  congr 1
  funext j
  rcases j with _ | _ | j <;> rfl
@[simp] theorem ren_mpR {ρ : Nat → Nat} {l : List (Rc × Int)} : List.map (fun p => (ren ρ p.1, ren ρ p.2)) (mpE rcK intV l) = mpE rcK intV l := by
  unfold mpE
  rw [List.map_map]
  refine List.map_congr_left fun p _ => ?_
  show (ren ρ (rcK p.1), ren ρ (intV p.2)) = _
  rw [ren_rcK]; rfl
def evR (k : Nat) (p : Nat × Nat) : AVal := .sl (k, p.1 + 1) 0 p.2
@[simp] theorem evR_at {k a b : Nat} : evR k (a, b) = .sl (k, a + 1) 0 b := rfl
theorem mpE_id {k : Nat} {l : List (Rc × (Nat × Nat))} : mpE rcK (evR k) l = mpE rcK id (l.map fun p => (p.1, evR k p.2)) := by simp [mpE]
theorem find_map {k : Nat} {x : Rc} : ∀ {l : List (Rc × (Nat × Nat))} {i : Nat}, alFind (l.map fun p => (p.1, evR k p.2)) i x = (alFind l i x).map fun p => (p.1, evR k p.2)
  | [], _ => rfl
  | (a, b) :: l, i => by
    simp only [List.map_cons, alFind]
    split
    · rfl
    · exact find_map
@[simp] theorem putK_fam {l : List (Rc × (Nat × Nat))} {k : Nat} {x : Rc} {V : AVal} : putK (mpE rcK (evR k) l) ((alFind l 0 x).map fun p => (p.1, evR k p.2)) (rcK x) V = mpE rcK id (alPut (l.map fun p => (p.1, evR k p.2)) x V) := by
  have h := putK_mpE (ek := rcK) (ev := id) (l.map fun p => (p.1, evR k p.2)) x V
  rw [find_map, Option.map_map] at h
  rw [mpE_id]
  exact h
@[simp] theorem ren_fam {ρ : Nat → Nat} {k : Nat} {l : List (Rc × (Nat × Nat))} : List.map (fun p => (ren ρ p.1, ren ρ p.2)) (mpE rcK (evR k) l) = mpE rcK (evR (ρ k)) l := by
  unfold mpE
  rw [List.map_map]
  refine List.map_congr_left fun p _ => ?_
  show (ren ρ (rcK p.1), ren ρ (evR k p.2)) = _
  rw [ren_rcK]; rfl
theorem Clo_rcK {x : Rc} : Clo (rcK x) := by
  intro j hj
  match j, hj with
  | 0, _ => exact trivial
  | 1, _ => exact trivial
section
variable {h : Heap} {σ : Lift.Id → Lift.Id} {fz : Nat → Bool} {vz : Lift.Id → Bool} {nx : Nat}
theorem HLe_cons {a2 b2 a b : AVal} {l2 l : List (AVal × AVal)} (h1 : VLe h σ fz vz nx a2 a) (h2 : VLe h σ fz vz nx b2 b) (h3 : HLe h σ fz vz nx (.mp l2) (some (.mp l))) : HLe h σ fz vz nx (.mp ((a2, b2) :: l2)) (some (.mp ((a, b) :: l))) := by
  obtain ⟨h4, h5⟩ := h3
  refine ⟨by simp [h4], fun i hi hi' => ?_⟩
  cases i with
  | zero => exact ⟨h1, h2⟩
  | succ i => exact h5 i (by simpa using hi) (by simpa using hi')
theorem HLe_nil : HLe h σ fz vz nx (.mp []) (some (.mp [])) := ⟨rfl, fun i hi => absurd hi (Nat.not_lt_zero _)⟩
theorem fam_le {k k2 : Nat} : ∀ {l : List (Rc × (Nat × Nat))}, (∀ p ∈ l, VLe h σ fz vz nx (evR k2 p.2) (evR k p.2)) → HLe h σ fz vz nx (.mp (mpE rcK (evR k2) l)) (some (.mp (mpE rcK (evR k) l)))
  | [], _ => HLe_nil
  | p :: l, hl => HLe_cons (Clo.le _ Clo_rcK) (hl p (List.mem_cons_self ..)) (fam_le fun q hq => hl q (List.mem_cons_of_mem _ hq))
theorem put_le {k k2 : Nat} {x : Rc} {b : Nat × Nat} {V : AVal} (hV : VLe h σ fz vz nx (evR k2 b) V) : ∀ {l : List (Rc × (Nat × Nat))}, (l.map (·.1)).Nodup → (∀ p ∈ l, p.1 ≠ x → VLe h σ fz vz nx (evR k2 p.2) (evR k p.2)) → HLe h σ fz vz nx (.mp (mpE rcK (evR k2) (alPut l x b))) (some (.mp (mpE rcK id (alPut (l.map fun p => (p.1, evR k p.2)) x V))))
  | [], _, _ => HLe_cons (Clo.le _ Clo_rcK) hV HLe_nil
  | (a, c) :: l, hn, hl => by
    rw [List.map_cons, List.nodup_cons] at hn
    simp only [List.map_cons, alPut]
    by_cases e : x = a
    · subst e
      rw [if_pos rfl, if_pos rfl]
      refine HLe_cons (Clo.le _ Clo_rcK) hV ?_
      have := fam_le (h := h) (σ := σ) (fz := fz) (vz := vz) (nx := nx) (k := k) (k2 := k2) (l := l) fun q hq => hl q (List.mem_cons_of_mem _ hq) (fun e => hn.1 (by rw [← e]; exact List.mem_map.2 ⟨q, hq, rfl⟩))
      rw [mpE_id (k := k)] at this
      exact this
    · rw [if_neg e, if_neg e]
      exact HLe_cons (Clo.le _ Clo_rcK) (hl _ (List.mem_cons_self ..) (fun e2 => e e2.symm)) (put_le hV hn.2 fun q hq => hl q (List.mem_cons_of_mem _ hq))
end
theorem evR_le {h : Heap} {σ : Lift.Id → Lift.Id} {fz : Nat → Bool} {vz : Lift.Id → Bool} {nx k k2 : Nat} {p : Nat × Nat} (hs : σ (k2, p.1 + 1) = (k, p.1 + 1)) (hn : k2 < nx) (hv : vz (k2, p.1 + 1) = false) : VLe h σ fz vz nx (evR k2 p) (evR k p) := by
  unfold evR
  simp [VLe, hs, hn, hv]
theorem evR_new {h : Heap} {σ : Lift.Id → Lift.Id} {fz : Nat → Bool} {vz : Lift.Id → Bool} {nx n k2 a b : Nat} (hs : σ (k2, a + 1) = (n, 0)) (hn : k2 < nx) (hv : vz (k2, a + 1) = false) : VLe h σ fz vz nx (evR k2 (a, b)) (.sl (n, 0) 0 b) := by
  unfold evR
  simp [VLe, hs, hn, hv]
theorem alFind_lt {α β : Type} [DecidableEq α] : ∀ (l : List (α × β)) (i : Nat) (k : α) (j : Nat) (v : β), alFind l i k = some (j, v) → j < i + l.length
  | [], _, _, _, _, h => by cases h
  | (a, b) :: r, i, k, j, v, h => by
    simp only [alFind] at h
    by_cases hk : k = a
    · rw [if_pos hk] at h; cases h; simp
    · rw [if_neg hk] at h
      have := alFind_lt r (i + 1) k j v h
      simp only [List.length_cons]; omega
def RvB (W : List Wd) (p : Rc) (r : Int) : Prop := (∃ v : Nat, HV W p v ∧ r = v ∧ v ≤ 4464769) ∨ (r = forever ∧ ∀ n, Gn W n p.1 p.2)
theorem RvB.ok {W : List Wd} {p : Rc} {r : Int} (h : RvB W p r) : RvOK W p r := h.imp (fun ⟨v, h1, h2, _⟩ => ⟨v, h1, h2⟩) id
theorem fin_b {W : List Wd} {q : Nat} (hW : ∀ w ∈ W, LtOK q w) {K E : List Rc} {lv mv rv : Rc → Int} (hK : Clr W q K) (h : Peel W q K E [] lv mv rv) (hb : ∀ x ∈ E, rv x ≤ 4464769) : ∀ x ∈ K, RvB W x (rv x) := by
  intro x hx
  by_cases hE : x ∈ E
  · obtain ⟨v, h1, h2⟩ := h.re x hE
    exact .inl ⟨v, h1, h2, by have := hb x hE; omega⟩
  · refine .inr ⟨h.fo x hx hE, fun n => inf_all hW (U := fun y => y ∈ K ∧ y ∉ E) (fun y hy => ⟨hK.ok y hy.1, ?_⟩) n x ⟨hx, hE⟩⟩
    refine Classical.byContradiction fun hc => hy.2 ?_
    have : lfv W q E y = 0 := lfv_zero.2 fun z hz => Classical.byContradiction fun hzE => hc ⟨z, hz, hK.suc y hy.1 z hz, hzE⟩
    simpa using (h.q0 y hy.1).2 this
def ReachOK (c : Cd) (m : List (Rc × Int)) : Prop := ∃ K, Clr c.ws c.q.toNat K ∧ (∀ x ∈ K, BoxR c.ws x) ∧ (∀ i, i < c.ws.length → ∀ s, AtM c.ws i s → (([], s) : Rc) ∈ K) ∧ ∀ x ∈ K, RvB c.ws x ((alGet m x).getD 0)
@[simp] theorem getD_mid {A Q : List Rc} {x d : Rc} : (A ++ x :: Q).getD A.length d = x := by
  simp [List.getD_eq_getElem?_getD]
theorem adQ_snd {K A Q : List Rc} {x : Rc} : (adQ K A Q x).2 = if x ∈ K then Q else Q ++ [x] := by unfold adQ; split <;> rfl
theorem adQ_fst {K A Q : List Rc} {x : Rc} : (adQ K A Q x).1.length ≤ A.length := by
  unfold adQ; split
  · exact Nat.le_refl _
  · exact Nat.zero_le _
theorem adQ_all {D A Q : List Rc} {x y : Rc} : addG (D ++ x :: Q) y = D ++ x :: (adQ (D ++ x :: Q) A Q y).2 := by
  rw [adQ_snd]; unfold addG; split
  · rfl
  · simp
@[simp] theorem rowB_nil {i : Nat} : rowB [] i = none := rfl
@[simp] theorem idxB_nil {n : Nat} : idxB n [] = [] := by simp [idxB]
theorem bef_row {B : List (Rc × List Rc)} {y : Rc} (h : ¬ alGet (idxB 0 B) y = none) : ∃ l r, alGet B y = some l ∧ r < B.length ∧ B[r]? = some (y, l) ∧ alGet (idxB 0 B) y = some (r, l.length) ∧ rowB B r = some (.arr l.length 2 (fun y => rcF (l.getD y dRc))) := by
  obtain ⟨l, hl⟩ := Option.ne_none_iff_exists'.1 (fun e => h (idx_none.2 e))
  obtain ⟨r, h1, h2, h3⟩ := idx_some (n := 0) hl
  rw [Nat.zero_add] at h3
  exact ⟨l, r, hl, h1, h2, h3, by unfold rowB; rw [h2]; rfl⟩
theorem findB_lt {B : List (Rc × List Rc)} {y : Rc} {k : Nat} : ∀ p : Nat × AVal, ((alFind (idxB 0 B) 0 y).map fun p => (p.1, evR k p.2)) = some p → p.1 < (mpE rcK (evR k) (idxB 0 B)).length := fun p h => by
  cases hf : alFind (idxB 0 B) 0 y with
  | none => rw [hf] at h; cases h
  | some q =>
    rw [hf] at h
    simp only [Option.map_some, Option.some.injEq] at h
    subst h
    obtain ⟨j, b⟩ := q
    have := alFind_lt _ _ _ _ _ hf
    simp only [length_mpE]
    omega
@[simp] theorem entF_zero {v : AVal} {n : Int} : entF v n 0 = v := rfl
theorem rows_le {h : Heap} {σ : Lift.Id → Lift.Id} {fz : Nat → Bool} {vz : Lift.Id → Bool} {nx : Nat} {B : List (Rc × List Rc)} : ∀ i o, rowB B i = some o → HLe h σ fz vz nx o (rowB B i) := fun i o ho => by
  rw [ho]
  unfold rowB at ho
  cases hb : B[i]? with
  | none => rw [hb] at ho; cases ho
  | some p =>
    rw [hb] at ho
    cases ho
    exact ⟨Nat.le_refl _, rfl, fun k hk j hj => ⟨one_rcF, Clo.le _ Clo_rcF⟩⟩
theorem alFind_lt2 {l : List (Rc × Int)} {k : Rc} : ∀ p : Nat × AVal, ((alFind l 0 k).map fun p => (p.1, intV p.2)) = some p → p.1 < (mpE rcK intV l).length := fun p h => by
  cases hf : alFind l 0 k with
  | none => rw [hf] at h; cases h
  | some q =>
    rw [hf] at h
    simp only [Option.map_some, Option.some.injEq] at h
    subst h
    obtain ⟨j, b⟩ := q
    have := alFind_lt _ _ _ _ _ hf
    simp only [length_mpE]
    omega
@[simp] theorem delH_succ {h : Heap} {k i : Nat} : delH h (k, i + 1) = h.map (fun e => if e.1 = k then (e.1, e.2.del i) else e) := rfl
@[simp] theorem del_one {o : HObj} {i : Nat} : (HEnt.one o).del i = .one o := rfl
@[simp] theorem del_typ {t : TypeId} {o : HObj} {i : Nat} : (HEnt.typ t o).del i = .typ t o := rfl
@[simp] theorem del_fam {o : HObj} {r : Nat → Option HObj} {i : Nat} : (HEnt.fam o r).del i = .fam o (fun j => if j = i then none else r j) := rfl
theorem idx_mem {p : Rc × (Nat × Nat)} : ∀ {B : List (Rc × List Rc)} {n : Nat}, p ∈ idxB n B → n ≤ p.2.1 ∧ p.2.1 < n + B.length ∧ ∃ l, B[p.2.1 - n]? = some (p.1, l)
  | [], n, h => by simp at h
  | (y, l) :: B, n, h => by
    unfold idxB at h
    rcases List.mem_cons.1 h with rfl | h
    · exact ⟨Nat.le_refl _, by simp, l, by simp⟩
    · obtain ⟨h1, h2, m, h3⟩ := idx_mem h
      refine ⟨by omega, by simp only [List.length_cons]; omega, m, ?_⟩
      rw [show p.2.1 - n = (p.2.1 - (n + 1)) + 1 by omega, List.getElem?_cons_succ]
      exact h3
section
variable {h : Heap} {σ : Lift.Id → Lift.Id} {fz : Nat → Bool} {vz : Lift.Id → Bool} {nx n : Nat} {B : List (Rc × List Rc)} {x y : Rc}
theorem put_new (hB : alGet B y = none) (hn : (B.map (·.1)).Nodup) (h1 : σ (5, B.length + 1) = (n, 0)) (h2 : ∀ r, r ≠ B.length → σ (5, r + 1) = (5, r + 1)) (hv : ∀ d, vz d = false) (hx : 5 < nx) : HLe h σ fz vz nx (.mp (mpE rcK (evR 5) (idxB 0 (bPut B y x)))) (some (.mp (mpE rcK id (alPut ((idxB 0 B).map fun p => (p.1, evR 5 p.2)) y (.sl (n, 0) 0 1))))) := by
  rw [(idx_new hB).2, Nat.zero_add]
  refine put_le (evR_new h1 hx (hv _)) (by rw [idx_keys]; exact hn) fun p hp hne => ?_
  obtain ⟨_, h4, _⟩ := idx_mem hp
  exact evR_le (h2 _ (by omega)) hx (hv _)
theorem put_old {l : List Rc} {r : Nat} (hB : alGet B y = some l) (hr : B[r]? = some (y, l)) (hn : (B.map (·.1)).Nodup) (h1 : σ (5, r + 1) = (n, 0)) (h2 : ∀ k, k ≠ r → σ (5, k + 1) = (5, k + 1)) (hv : ∀ d, vz d = false) (hx : 5 < nx) : HLe h σ fz vz nx (.mp (mpE rcK (evR 5) (idxB 0 (bPut B y x)))) (some (.mp (mpE rcK id (alPut ((idxB 0 B).map fun p => (p.1, evR 5 p.2)) y (.sl (n, 0) 0 (l.length + 1)))))) := by
  rw [(idx_old hn hB hr).2, Nat.zero_add]
  refine put_le (evR_new h1 hx (hv _)) (by rw [idx_keys]; exact hn) fun p hp hne => ?_
  obtain ⟨_, _, m, h4⟩ := idx_mem hp
  refine evR_le (h2 _ fun e => hne ?_) hx (hv _)
  rw [e, Nat.sub_zero, hr] at h4
  injection h4 with h4
  exact (congrArg Prod.fst h4).symm
theorem row_new {i : Nat} (hB : alGet B y = none) : rowB (bPut B y x) i = if i = B.length then some (.arr 1 2 (fun k => rcF ([x].getD k dRc))) else rowB B i := by
  rw [(idx_new hB).1]
  unfold rowB
  by_cases e : i = B.length
  · subst e
    rw [if_pos rfl, List.getElem?_append_right (Nat.le_refl _), Nat.sub_self]; rfl
  · rw [if_neg e]
    rcases Nat.lt_or_ge i B.length with h1 | h1
    · rw [List.getElem?_append_left h1]
    · rw [List.getElem?_eq_none (by rw [List.length_append]; simp; omega), List.getElem?_eq_none h1]
theorem row_old {i r : Nat} {l : List Rc} (hB : alGet B y = some l) (hr : B[r]? = some (y, l)) (hn : (B.map (·.1)).Nodup) : rowB (bPut B y x) i = if i = r then some (.arr (l.length + 1) 2 (fun k => rcF ((l ++ [x]).getD k dRc))) else rowB B i := by
  rw [(idx_old hn hB hr).1]
  unfold rowB
  have hrl : r < B.length := by
    rcases Nat.lt_or_ge r B.length with h1 | h1
    · exact h1
    · rw [List.getElem?_eq_none h1] at hr; cases hr
  by_cases e : i = r
  · subst e
    rw [if_pos rfl, List.getElem?_set_self hrl]; simp
  · rw [if_neg e, List.getElem?_set_ne (fun k => e k.symm)]
end
theorem take_getD {α : Type} {d : α} {L : List α} {j : Nat} (h : j < L.length) : L.take j ++ [L.getD j d] = L.take (j + 1) := by
  rw [List.take_succ_eq_append_getElem h]
  simp [List.getD, h]
@[simp high] theorem HLe_rc_mm {h : Heap} {σ : Lift.Id → Lift.Id} {fz : Nat → Bool} {vz : Lift.Id → Bool} {nx : Nat} {q : MQ} {l : List (Rc × Int)} : HLe h σ fz vz nx (.mi q (mpE rcK intV l)) (some (.mi q (mpE rcK intV l))) = True := eq_true (HLe_mm (ek := rcK) (ev := intV) (fun _ => Clo_rcK) (fun _ => trivial)).1
@[simp high] theorem HLe_rc_mp {h : Heap} {σ : Lift.Id → Lift.Id} {fz : Nat → Bool} {vz : Lift.Id → Bool} {nx : Nat} {q : MQ} {l : List (Rc × Int)} : HLe h σ fz vz nx (.mp (mpE rcK intV l)) (some (.mi q (mpE rcK intV l))) = True := eq_true (HLe_mm (ek := rcK) (ev := intV) (fun _ => Clo_rcK) (fun _ => trivial)).2
def enR (x : Rc) (j : Nat) : AVal := match j with
  | 0 => .agg 2 (fun j => [AVal.str x.1, AVal.str x.2].getD j .any)
  | _ => .int .i64 forever
@[simp] theorem enR_zero {x : Rc} : enR x 0 = .agg 2 (fun j => [AVal.str x.1, AVal.str x.2].getD j .any) := rfl
theorem enF_fv {F : List Rc} {i : Nat} (h : i < F.length) : enF (mpE rcK intV (fvM F)) i = enR (F.getD i dRc) := by
  have hg : (mpE rcK intV (fvM F)).getD i (.any, .any) = (rcK (F.getD i dRc), .int .i64 forever) := by
    simp [mpE, fvM, List.getD, h]
    rfl
  funext j
  cases j with
  | zero => show ((mpE rcK intV (fvM F)).getD i (.any, .any)).1 = _; rw [hg]; rfl
  | succ j => show ((mpE rcK intV (fvM F)).getD i (.any, .any)).2 = _; rw [hg]; rfl
@[simp] theorem fvM_len {K : List Rc} : (fvM K).length = K.length := by simp [fvM]
def enD (D : List Rc) (L : List (Rc × Int)) (o : List Nat) : List Rc := (o.map fun d => D.getD d dRc).filter fun x => decide ((alGet L x).getD 0 = 0)
@[simp] theorem enD_nil {D : List Rc} {L : List (Rc × Int)} : enD D L [] = [] := rfl
theorem enD_yes {D : List Rc} {L : List (Rc × Int)} {o : List Nat} {i : Nat} (h : (alGet L (D.getD i dRc)).getD 0 = 0) : enD D L (o ++ [i]) = enD D L o ++ [D.getD i dRc] := by
  unfold enD; rw [List.map_append, List.filter_append]; simp [h, -List.getD_eq_getElem?_getD]
theorem enD_not {D : List Rc} {L : List (Rc × Int)} {o : List Nat} {i : Nat} (h : ¬ (alGet L (D.getD i dRc)).getD 0 = 0) : enD D L (o ++ [i]) = enD D L o := by
  unfold enD; rw [List.map_append, List.filter_append]; simp [h, -List.getD_eq_getElem?_getD]
theorem enD_len {D : List Rc} {L : List (Rc × Int)} {o : List Nat} : (enD D L o).length ≤ o.length := by
  unfold enD
  refine Nat.le_trans (List.length_filter_le _ _) ?_
  rw [List.length_map]; exact Nat.le_refl _
theorem Fst.fin {W : List Wd} {q : Nat} {D : List Rc} {B : List (Rc × List Rc)} {L : List (Rc × Int)} (h : Fst W q D [] B L) : (∀ x ∈ D, BoxR W x) ∧ (∀ i, i < W.length → ∀ s, AtM W i s → (([], s) : Rc) ∈ D) ∧ ∀ y ∈ D, (alGet L y).getD 0 = ((sucs W q y).length : Int) :=
  ⟨fun x hx => h.box x (by simpa using hx), fun i hi s hs => by simpa using h.at_ i hi s hs, fun y hy => by rw [h.lf y, if_pos hy]⟩
def rowO (l : List Rc) : HObj := .arr l.length 2 (fun y => rcF (l.getD y dRc))
def rowX (B : List (Rc × List Rc)) (w : Nat × List Rc) (i : Nat) : Option HObj := if i = w.1 then some (rowO w.2) else rowB B i
@[simp] theorem rowX_at {B : List (Rc × List Rc)} {w : Nat × List Rc} : rowX B w w.1 = some (rowO w.2) := if_pos rfl
section
variable {h : Heap} {σ : Lift.Id → Lift.Id} {fz : Nat → Bool} {vz : Lift.Id → Bool} {nx : Nat} {B : List (Rc × List Rc)} {w : Nat × List Rc}
theorem fam_same (h1 : ∀ r, r < B.length → σ (5, r + 1) = (5, r + 1)) (h2 : ∀ r, r < B.length → vz (5, r + 1) = false) (hx : 5 < nx) : HLe h σ fz vz nx (.mp (mpE rcK (evR 5) (idxB 0 B))) (some (.mp (mpE rcK (evR 5) (idxB 0 B)))) := fam_le fun p hp => by
  obtain ⟨_, h4, _⟩ := idx_mem hp
  exact evR_le (h1 _ (by omega)) hx (h2 _ (by omega))
theorem rowO_le {l : List Rc} : HLe h σ fz vz nx (rowO l) (some (rowO l)) := ⟨Nat.le_refl _, rfl, fun k hk j hj => ⟨one_rcF, Clo.le _ Clo_rcF⟩⟩
theorem rowX_le : ∀ i o, rowX B w i = some o → HLe h σ fz vz nx o (rowX B w i) := fun i o ho => by
  by_cases e : i = w.1
  · subst e
    rw [rowX_at] at ho ⊢
    cases ho
    exact rowO_le
  · have e2 : rowX B w i = rowB B i := if_neg e
    rw [e2] at ho ⊢
    exact rows_le i o ho
theorem rowX_back (hw : ∀ o, rowB B w.1 = some o → o = rowO w.2) : ∀ i o, rowB B i = some o → HLe h σ fz vz nx o (rowX B w i) := fun i o ho => by
  by_cases e : i = w.1
  · subst e
    rw [rowX_at, hw o ho]
    exact rowO_le
  · have e2 : rowX B w i = rowB B i := if_neg e
    rw [e2]
    exact rows_le i o ho
end
theorem rowB_out {B : List (Rc × List Rc)} : rowB B B.length = none := by
  unfold rowB; rw [List.getElem?_eq_none (Nat.le_refl _)]; rfl
theorem bef_none {B : List (Rc × List Rc)} {W : List Wd} {q : Nat} {D : List Rc} {x : Rc} (h : (alGet B x).getD [] = befL W q D x) (h0 : alGet B x = none) : befL W q D x = [] := by rw [← h, h0]; rfl
theorem bef_some {B : List (Rc × List Rc)} {W : List Wd} {q : Nat} {D l : List Rc} {x : Rc} (h : (alGet B x).getD [] = befL W q D x) (h0 : alGet B x = some l) : befL W q D x = l := by rw [← h, h0]; rfl
theorem rowX_none {h : Heap} {σ : Lift.Id → Lift.Id} {fz : Nat → Bool} {vz : Lift.Id → Bool} {nx : Nat} {B : List (Rc × List Rc)} : ∀ i o, rowX B (B.length, []) i = some o → if i = B.length then (match o with | .arr n s f => n = 0 | _ => False) else HLe h σ fz vz nx o (rowB B i) := fun i o ho => by
  by_cases e : i = B.length
  · rw [if_pos e]
    have e2 : rowX B (B.length, []) i = some (rowO []) := if_pos e
    rw [e2] at ho
    cases ho
    rfl
  · rw [if_neg e]
    have e2 : rowX B (B.length, []) i = rowB B i := if_neg e
    rw [e2] at ho
    exact rows_le i o ho
theorem rowX_some {h : Heap} {σ : Lift.Id → Lift.Id} {fz : Nat → Bool} {vz : Lift.Id → Bool} {nx : Nat} {B : List (Rc × List Rc)} {r : Nat} {l : List Rc} (hr : rowB B r = some (.arr l.length 2 (fun y => rcF (l.getD y dRc)))) : ∀ i o, rowX B (r, l) i = some o → HLe h σ fz vz nx o (rowB B i) := fun i o ho => by
  have e2 : rowX B (r, l) i = rowB B i := by
    by_cases e : i = r
    · subst e; rw [hr]; exact if_pos rfl
    · exact if_neg e
  rw [e2] at ho
  exact rows_le i o ho
theorem row_get {L l : List Rc} (e : l = L) {j : Nat} (h : j < L.length) : L[j] = l.getD j dRc := by subst e; simp [List.getD, h]
@[simp] theorem rowX_self {B : List (Rc × List Rc)} {r : Nat} {l : List Rc} : rowX B (r, l) r = some (.arr l.length 2 (fun y => rcF (l.getD y dRc))) := if_pos rfl
set_option maxRecDepth 100000 in
set_option maxHeartbeats 2000000 in
theorem newRaces_c (c : Cd) (hv : CdOK c) : FC Try.prog 39 [.agg 2 (cdF c)] [] 0 (fun m : List (Rc × Int) => ReachOK c m) (fun m : List (Rc × Int) => .agg 3 (rvF c (.map (0, 0)))) (fun m : List (Rc × Int) => [(0, .one (.mp (mpE rcK intV m)))]) (fun m : List (Rc × Int) => 1) := by
 have hWn := hv.n
 have hq16 := hv.q
 refine FC_introS T_ok Try.func39 rfl (by simp [Try.ntmps39]) fun G hG hR => ?_
 simp only [Try.ntmps39, Try.results39] at hG ⊢
 simp only [argEnv, Nat.zero_add, Nat.reduceAdd]
 refine zs (zr ?_ (h := by intro c K h; simp [hG, List.getD_cons_zero, List.getD_cons_succ, -List.getD_eq_getElem?_getD, pureOp, addL_nil, adQ_self, al_put, enD_nil, wMap]; first | exact z1 c h | exact ⟨.mk c, h⟩))
 refine zs (zr ?_ (h := by intro c K h; simp [hG, List.getD_cons_zero, List.getD_cons_succ, -List.getD_eq_getElem?_getD, pureOp, addL_nil, adQ_self, al_put, enD_nil, wMap]; first | exact z1 c h | exact ⟨.mk c, h⟩))
 refine zs (zr ?_ (h := by intro c K h; simp [hG, List.getD_cons_zero, List.getD_cons_succ, -List.getD_eq_getElem?_getD, pureOp, addL_nil, adQ_self, al_put, enD_nil, wMap]; first | exact z1 c h | exact ⟨.mk c, h⟩))
 refine zs (zr ?_ (h := by intro c K h; simp [hG, List.getD_cons_zero, List.getD_cons_succ, -List.getD_eq_getElem?_getD, pureOp, addL_nil, adQ_self, al_put, enD_nil, wMap]; first | exact z1 c h | exact ⟨.mk c, h⟩))
 refine zs (zs (zr ?_ (h := by intro c K h; simp [hG, List.getD_cons_zero, List.getD_cons_succ, -List.getD_eq_getElem?_getD, pureOp, addL_nil, adQ_self, al_put, enD_nil, wMap]; first | exact z1 c h | exact ⟨.mk c, h⟩)))
 refine zb ?_
 refine awpS_loop (α := Nat × List Rc) (fun z => ⟨[(1, .vptr 2 (cdF c) 0), (2, .ptr (0, 0) 0 0), (3, .ptr (1, 0) 0 0), (4, .ptr (2, 0) 0 0), (5, .fn 66 2 (fun j => [.ptr (1, 0) 0 0, .ptr (2, 0) 0 0].getD j .any)), (26, strs c.ws), (27, .int .i64 c.ws.length), (28, .int .i64 (z.1 : Nat))], [(0, .one (.arr 1 3 (fun _ j => [.int .i64 0, .nils, .nilmap].getD j .any))), (1, .one (.arr 1 3 (fun _ => rvF c (.map (3, 0))))), (2, .one (.arr 1 1 (fun _ _ => .sl (4, 0) ([] : List Rc).length z.2.length))), (3, .one (.mp (mpE rcK intV (fvM z.2)))), (4, .one (.arr (([] : List Rc).length + z.2.length) 2 (fun y => rcF ((([] : List Rc) ++ z.2).getD y dRc))))], 5⟩) (fun z => z.1 ≤ c.ws.length ∧ Ini c.ws z.1 z.2) (fun z => c.ws.length - z.1) ((0, [])) (⟨Nat.zero_le _, ini_zero⟩) ?_ ?_
 · exact zw (fun k => if k = 0 then 1 else if k = 1 then 3 else if k = 2 then 4 else if k = 3 then 2 else k) (fun k => k == 0) (fun k => k == 4) (e := by simp [hG, List.getD_cons_zero, List.getD_cons_succ, -List.getD_eq_getElem?_getD, pureOp, addL_nil, adQ_self, al_put, enD_nil, wMap]) (h := by simp [hG, List.getD_cons_zero, List.getD_cons_succ, -List.getD_eq_getElem?_getD, pureOp, addL_nil, adQ_self, al_put, enD_nil, wMap])
 rintro ⟨i, K⟩ ⟨hi, hK⟩
 simp only at hi hK
 refine zs (zr ?_ (h := by intro c K h; simp [hG, List.getD_cons_zero, List.getD_cons_succ, -List.getD_eq_getElem?_getD, pureOp, addL_nil, adQ_self, al_put, enD_nil, wMap]; first | exact z1 c h | exact ⟨.mk c, h⟩))
 refine zs (zy (fun hb29 => ?_) fun hb29 => ?_)
 · refine zk (zs (zb (zs (zr ?_ (h := by intro c K h; simp [hG, List.getD_cons_zero, List.getD_cons_succ, -List.getD_eq_getElem?_getD, pureOp, addL_nil, adQ_self, al_put, enD_nil, wMap]; first | exact z1 c h | exact ⟨.mk c, h⟩)))))
   refine zs (zL (zl 2 ?_ (h := by intro c K h; simp [hG, List.getD_cons_zero, List.getD_cons_succ, -List.getD_eq_getElem?_getD, pureOp, addL_nil, adQ_self, al_put, enD_nil, wMap]; first | exact z1 c h | exact ⟨.mk c, h⟩)))
   refine zf cal40 [3] (atR_c c hv i hb29 (fvM K)) (fun L hI hno => ?_) (a := by simp [hG, List.getD_cons_zero, List.getD_cons_succ, -List.getD_eq_getElem?_getD, pureOp, addL_nil, adQ_self, al_put, enD_nil, wMap]) (b := by simp [hG, List.range'_succ, List.range'_zero, List.getD_cons_zero, List.getD_cons_succ, -List.getD_eq_getElem?_getD]) (c := by simp [hG, List.getD_cons_zero, List.getD_cons_succ, -List.getD_eq_getElem?_getD, pureOp, addL_nil, adQ_self, al_put, enD_nil, wMap]) (h := by intro K h L hI hno; simp [hG, List.getD_cons_zero, List.getD_cons_succ, -List.getD_eq_getElem?_getD, pureOp, addL_nil, adQ_self, al_put, enD_nil, wMap]; exact h L hI hno)
   refine zl 2 ?_ (h := by intro c K h; simp [hG, List.getD_cons_zero, List.getD_cons_succ, -List.getD_eq_getElem?_getD, pureOp, addL_nil, adQ_self, al_put, enD_nil, wMap]; first | exact z1 c h | exact ⟨.mk c, h⟩)
   refine zN (zb ?_)
   refine awpS_loop (α := Nat) (fun j => ⟨[(1, .vptr 2 (cdF c) 0), (2, .ptr (0, 0) 0 0), (3, .ptr (1, 0) 0 0), (4, .ptr (2, 0) 0 0), (5, .fn 66 2 (fun j => [.ptr (1, 0) 0 0, .ptr (2, 0) 0 0].getD j .any)), (26, strs c.ws), (27, .int .i64 c.ws.length), (28, .int .i64 (i : Nat)), (33, rcs L), (34, .int .i64 L.length), (35, .int .i64 (j : Nat))], [(0, .one (.arr 1 3 (fun _ j => [.int .i64 0, .nils, .nilmap].getD j .any))), (1, .one (.arr 1 3 (fun _ => rvF c (.map (3, 0))))), (2, .one (.arr 1 1 (fun _ _ => .sl (4, 0) ([] : List Rc).length (addL K (L.take j)).length))), (3, .one (.mp (mpE rcK intV (fvM (addL K (L.take j)))))), (4, .one (.arr (([] : List Rc).length + (addL K (L.take j)).length) 2 (fun y => rcF ((([] : List Rc) ++ (addL K (L.take j))).getD y dRc))))], 5⟩) (fun j => j ≤ L.length) (fun j => L.length - j) (0) (Nat.zero_le _) ?_ ?_
   · exact zi (e := by simp [hG, List.getD_cons_zero, List.getD_cons_succ, -List.getD_eq_getElem?_getD, pureOp, addL_nil, adQ_self, al_put, enD_nil, wMap]) (h := by simp [hG, List.getD_cons_zero, List.getD_cons_succ, -List.getD_eq_getElem?_getD, pureOp, addL_nil, adQ_self, al_put, enD_nil, wMap])
   rintro j hj
   refine zs (zr ?_ (h := by intro c K h; simp [hG, List.getD_cons_zero, List.getD_cons_succ, -List.getD_eq_getElem?_getD, pureOp, addL_nil, adQ_self, al_put, enD_nil, wMap]; first | exact z1 c h | exact ⟨.mk c, h⟩))
   refine zs (zy (fun hb36 => ?_) fun hb36 => ?_)
   · have hLb := at_len hv.len hWn.2 hI
     have hat := addL_take (d := dRc) (F := K) hb36
     refine zk (zs (zb (zs (zr ?_ (h := by intro c K h; simp [hG, List.getD_cons_zero, List.getD_cons_succ, -List.getD_eq_getElem?_getD, pureOp, addL_nil, adQ_self, al_put, enD_nil, wMap]; first | exact z1 c h | exact ⟨.mk c, h⟩)))))
     refine zL (zl 2 ?_ (h := by intro c K h; simp [hG, List.getD_cons_zero, List.getD_cons_succ, -List.getD_eq_getElem?_getD, pureOp, addL_nil, adQ_self, al_put, enD_nil, wMap]; first | exact z1 c h | exact ⟨.mk c, h⟩))
     refine zf cal66 [1, 2, 3, 4] (add_c c (addL K (L.take j)) [] (addL K (L.take j)) (L.getD j dRc) (by have := ini_len hv hK hI (M := L.take j) (fun x hx => List.mem_of_mem_take hx); simpa using (by omega : (addL K (L.take j)).length ≤ 5000000))) (fun u hI hno => ?_) (a := by simp [hG, List.getD_cons_zero, List.getD_cons_succ, -List.getD_eq_getElem?_getD, pureOp, addL_nil, adQ_self, al_put, enD_nil, wMap]) (b := by simp [hG, List.range'_succ, List.range'_zero, List.getD_cons_zero, List.getD_cons_succ, -List.getD_eq_getElem?_getD]) (c := by simp [hG, List.getD_cons_zero, List.getD_cons_succ, -List.getD_eq_getElem?_getD, pureOp, addL_nil, adQ_self, al_put, enD_nil, wMap]) (h := by intro K h u hI hno; simp [hG, List.getD_cons_zero, List.getD_cons_succ, -List.getD_eq_getElem?_getD, pureOp, addL_nil, adQ_self, al_put, enD_nil, wMap]; exact h u hI hno)
     refine zN (zn (zbn (zr ?_ (h := by intro c K h; simp [hG, List.getD_cons_zero, List.getD_cons_succ, -List.getD_eq_getElem?_getD, pureOp, addL_nil, adQ_self, al_put, enD_nil, wMap]; first | exact z1 c h | exact ⟨.mk c, h⟩))))
     refine zn ?_
     refine round_end (j + 1) (by omega) (by omega) ?_
     exact zw (fun k => if k = 4 then 6 else k) (fun _ => false) (fun _ => false) (e := by simp [hG, List.getD_cons_zero, List.getD_cons_succ, -List.getD_eq_getElem?_getD, pureOp, addL_nil, adQ_self, al_put, enD_nil, wMap]) (h := by rw [hat]; simp [hG, pureOp, List.getD_cons_zero, List.getD_cons_succ, -List.getD_eq_getElem?_getD])
   obtain rfl : j = L.length := (by omega)
   rw [List.take_length]
   refine zx (ztx (zbx (zn (zbn (zr ?_ (h := by intro c K h; simp [hG, List.getD_cons_zero, List.getD_cons_succ, -List.getD_eq_getElem?_getD, pureOp, addL_nil, adQ_self, al_put, enD_nil, wMap]; first | exact z1 c h | exact ⟨.mk c, h⟩))))))
   refine zn ?_
   refine round_end ((i + 1, addL K L)) (⟨by simp only; omega, ini_succ hK hI⟩) (by simp only; omega) ?_
   exact zi (e := by simp [hG, List.getD_cons_zero, List.getD_cons_succ, -List.getD_eq_getElem?_getD, pureOp, addL_nil, adQ_self, al_put, enD_nil, wMap]) (h := by simp [hG, List.getD_cons_zero, List.getD_cons_succ, -List.getD_eq_getElem?_getD, pureOp, addL_nil, adQ_self, al_put, enD_nil, wMap])
 obtain rfl : i = c.ws.length := (by omega)
 refine zx (ztx (zbx (zs (zr ?_ (h := by intro c K h; simp [hG, List.getD_cons_zero, List.getD_cons_succ, -List.getD_eq_getElem?_getD, pureOp, addL_nil, adQ_self, al_put, enD_nil, wMap]; first | exact z1 c h | exact ⟨.mk c, h⟩)))))
 refine zs (zb ?_)
 refine awpS_loop (α := List Rc × List Rc × List Rc × List (Rc × List Rc) × List (Rc × Int)) (fun z => ⟨[(1, .vptr 2 (cdF c) 0), (2, .ptr (0, 0) 0 0), (3, .ptr (1, 0) 0 0), (4, .ptr (2, 0) 0 0), (5, .fn 66 2 (fun j => [.ptr (1, 0) 0 0, .ptr (2, 0) 0 0].getD j .any)), (9, .map (5, 0)), (10, .map (6, 0))], [(0, .one (.arr 1 3 (fun _ j => [.int .i64 0, .nils, .nilmap].getD j .any))), (1, .one (.arr 1 3 (fun _ => rvF c (.map (3, 0))))), (2, .one (.arr 1 1 (fun _ _ => .sl (4, 0) z.2.1.length z.2.2.1.length))), (3, .one (.mp (mpE rcK intV (fvM (z.1 ++ z.2.2.1))))), (4, .one (.arr (z.2.1.length + z.2.2.1.length) 2 (fun y => rcF ((z.2.1 ++ z.2.2.1).getD y dRc)))), (5, .fam (.mp (mpE rcK (evR 5) (idxB 0 z.2.2.2.1))) (rowB z.2.2.2.1)), (6, .one (.mp (mpE rcK intV z.2.2.2.2)))], 7⟩) (fun z => Fst c.ws c.q.toNat z.1 z.2.2.1 z.2.2.2.1 z.2.2.2.2 ∧ z.2.1.length ≤ z.1.length) (fun z => 4464770 - z.1.length) (([], [], K, [], [])) (⟨ini_fst hK, Nat.le_refl _⟩) ?_ ?_
 · exact zi (e := by simp [hG, List.getD_cons_zero, List.getD_cons_succ, -List.getD_eq_getElem?_getD, pureOp, addL_nil, adQ_self, al_put, enD_nil, wMap]) (h := by simp [hG, List.getD_cons_zero, List.getD_cons_succ, -List.getD_eq_getElem?_getD, pureOp, addL_nil, adQ_self, al_put, enD_nil, wMap])
 rintro ⟨D, A, Q, B, L⟩ ⟨hF, hA⟩
 simp only at hF hA
 refine zs (zs (zr ?_ (h := by intro c K h; simp [hG, List.getD_cons_zero, List.getD_cons_succ, -List.getD_eq_getElem?_getD, pureOp, addL_nil, adQ_self, al_put, enD_nil, wMap]; first | exact z1 c h | exact ⟨.mk c, h⟩)))
 refine zy (fun hb48 => ?_) fun hb48 => ?_
 · obtain ⟨x, Q1, rfl⟩ : ∃ x Q2, Q = x :: Q2 := (by cases Q with | nil => exact absurd hb48 (by simp) | cons x Q2 => exact ⟨x, Q2, rfl⟩)
   have hbl := box_len hv.len hWn.2 hF.nd hF.box
   simp only [List.length_append, List.length_cons] at hbl
   refine zk (zb (zs (zr ?_ (h := by intro c K h; simp [hG, List.getD_cons_zero, List.getD_cons_succ, -List.getD_eq_getElem?_getD, pureOp, addL_nil, adQ_self, al_put, enD_nil, wMap]; first | exact z1 c h | exact ⟨.mk c, h⟩))))
   refine zs (zr ?_ (h := by intro c K h; simp [hG, List.getD_cons_zero, List.getD_cons_succ, -List.getD_eq_getElem?_getD, pureOp, addL_nil, adQ_self, al_put, enD_nil, wMap]; first | exact z1 c h | exact ⟨.mk c, h⟩))
   refine zs (zr ?_ (h := by intro c K h; simp [hG, List.getD_cons_zero, List.getD_cons_succ, -List.getD_eq_getElem?_getD, pureOp, addL_nil, adQ_self, al_put, enD_nil, wMap]; first | exact z1 c h | exact ⟨.mk c, h⟩))
   refine zb ?_
   refine awpS_loop (α := Nat × List Rc × List Rc × List (Rc × List Rc) × List (Rc × Int)) (fun z => ⟨[(1, .vptr 2 (cdF c) 0), (2, .ptr (0, 0) 0 0), (3, .ptr (1, 0) 0 0), (4, .ptr (2, 0) 0 0), (5, .fn 66 2 (fun j => [.ptr (1, 0) 0 0, .ptr (2, 0) 0 0].getD j .any)), (9, .map (5, 0)), (10, .map (6, 0)), (11, .vptr 2 (rcF x) 0), (55, .int .i64 c.q), (56, .int .i64 (z.1 : Nat))], [(0, .one (.arr 1 3 (fun _ j => [.int .i64 0, .nils, .nilmap].getD j .any))), (1, .one (.arr 1 3 (fun _ => rvF c (.map (3, 0))))), (2, .one (.arr 1 1 (fun _ _ => .sl (4, 0) z.2.1.length z.2.2.1.length))), (3, .one (.mp (mpE rcK intV (fvM (D ++ x :: z.2.2.1))))), (4, .one (.arr (z.2.1.length + z.2.2.1.length) 2 (fun y => rcF ((z.2.1 ++ z.2.2.1).getD y dRc)))), (5, .fam (.mp (mpE rcK (evR 5) (idxB 0 z.2.2.2.1))) (rowB z.2.2.2.1)), (6, .one (.mp (mpE rcK intV z.2.2.2.2)))], 7⟩) (fun z => z.1 ≤ c.q.toNat ∧ FstJ c.ws c.q.toNat D x (sucA c.ws x z.1) z.2.2.1 z.2.2.2.1 z.2.2.2.2 ∧ z.2.1.length ≤ D.length + 1) (fun z => c.q.toNat - z.1) ((0, A ++ [x], Q1, B, L)) (⟨Nat.zero_le _, hF.take, by simp only [List.length_append, List.length_singleton]; omega⟩) ?_ ?_
   · exact zw (id) (fun k => k == 7) (fun _ => false) (e := by simp [hG, List.getD_cons_zero, List.getD_cons_succ, -List.getD_eq_getElem?_getD, pureOp, addL_nil, adQ_self, al_put, enD_nil, wMap]) (h := by simp [hG, pureOp, List.getD_cons_zero, List.getD_cons_succ, -List.getD_eq_getElem?_getD]; first | exact ⟨fam_le fun p _ => evR_le rfl (by decide) rfl, rows_le⟩ | exact ⟨by omega, fam_le fun p _ => evR_le rfl (by decide) rfl, rows_le⟩ | exact fam_le fun p _ => evR_le rfl (by decide) rfl | (trace "XXX"; trace_state))
   rintro ⟨i, A1, Q2, B1, L1⟩ ⟨hi2, hJ, hA1⟩
   simp only at hi2 hJ hA1
   refine zs (zr ?_ (h := by intro c K h; simp [hG, List.getD_cons_zero, List.getD_cons_succ, -List.getD_eq_getElem?_getD, pureOp, addL_nil, adQ_self, al_put, enD_nil, wMap]; first | exact z1 c h | exact ⟨.mk c, h⟩))
   refine zs (zy (fun hb57 => ?_) fun hb57 => ?_)
   · refine zk (zs (zb (zs (zr ?_ (h := by intro c K h; simp [hG, List.getD_cons_zero, List.getD_cons_succ, -List.getD_eq_getElem?_getD, pureOp, addL_nil, adQ_self, al_put, enD_nil, wMap]; first | exact z1 c h | exact ⟨.mk c, h⟩)))))
     refine zs ?_
     refine awpS_draw hR mixed [] ⟨[], [4], [(1, 0)]⟩ fun mu0 => ?_
     refine za [0, 1, 2, 3, 6] [] 2 [6, 3, 2, 1, 0] ?_ (h := by intro c K h; simp [hG, List.getD_cons_zero, List.getD_cons_succ, -List.getD_eq_getElem?_getD, pureOp, addL_nil, adQ_self, al_put, enD_nil, wMap]; first | exact z1 c h | exact ⟨.mk c, h⟩)
     refine awpA_only (fuel := 1) (i := 4) (by decide +kernel) ?_
     refine awpO_fcr cal67 [3] (fun _ => false) (after_c c hv x (letters.getD i 0) (fvM (D ++ x :: Q2))) rfl ⟨by decide, by decide, by simp⟩ rfl rfl rfl (by simp) (.inl fun _ => rfl) ?_ ?_ ?_ fun K hK u hI hno => ?_
     · simp [hG, List.getD_cons_zero, List.getD_cons_succ, -List.getD_eq_getElem?_getD, pureOp, addL_nil, adQ_self, al_put, enD_nil, wMap]
     · simp [hG, List.range'_succ, List.range'_zero, List.getD_cons_zero, List.getD_cons_succ, -List.getD_eq_getElem?_getD]; rfl
     · simp [hG, List.getD_cons_zero, List.getD_cons_succ, -List.getD_eq_getElem?_getD, pureOp, addL_nil, adQ_self, al_put, enD_nil, wMap]
     simp [hG, List.getD_cons_zero, List.getD_cons_succ, -List.getD_eq_getElem?_getD, pureOp, addL_nil, adQ_self, al_put, enD_nil, wMap]
     refine hK _ ?_
     clear K hK
     refine za [5] [] 0 [5, 4, 6, 3, 2, 1, 0] ?_ (h := by intro c K h; simp [hG, List.getD_cons_zero, List.getD_cons_succ, -List.getD_eq_getElem?_getD, pureOp, addL_nil, adQ_self, al_put, enD_nil, wMap]; first | exact z1 c h | exact ⟨.mk c, h⟩)
     refine awpA_done (by decide +kernel) ?_
     refine zb ?_
     refine awpS_loop (α := Nat × List Rc × List Rc × List (Rc × List Rc) × List (Rc × Int)) (fun z => ⟨[(1, .vptr 2 (cdF c) 0), (2, .ptr (0, 0) 0 0), (3, .ptr (1, 0) 0 0), (4, .ptr (2, 0) 0 0), (5, .fn 66 2 (fun j => [.ptr (1, 0) 0 0, .ptr (2, 0) 0 0].getD j .any)), (9, .map (5, 0)), (10, .map (6, 0)), (11, .vptr 2 (rcF x) 0), (55, .int .i64 c.q), (56, .int .i64 (i : Nat)), (63, rcs (aft c.ws x (letters.getD i 0))), (64, .int .i64 (aft c.ws x (letters.getD i 0)).length), (65, .int .i64 (z.1 : Nat))], [(0, .one (.arr 1 3 (fun _ j => [.int .i64 0, .nils, .nilmap].getD j .any))), (1, .one (.arr 1 3 (fun _ => rvF c (.map (3, 0))))), (2, .one (.arr 1 1 (fun _ _ => .sl (4, 0) z.2.1.length z.2.2.1.length))), (3, .one (.mp (mpE rcK intV (fvM (D ++ x :: z.2.2.1))))), (4, .one (.arr (z.2.1.length + z.2.2.1.length) 2 (fun y => rcF ((z.2.1 ++ z.2.2.1).getD y dRc)))), (5, .fam (.mp (mpE rcK (evR 5) (idxB 0 z.2.2.2.1))) (rowB z.2.2.2.1)), (6, .one (.mp (mpE rcK intV z.2.2.2.2)))], 7⟩) (fun z => z.1 ≤ (aft c.ws x (letters.getD i 0)).length ∧ FstJ c.ws c.q.toNat D x (sucA c.ws x i ++ (aft c.ws x (letters.getD i 0)).take z.1) z.2.2.1 z.2.2.2.1 z.2.2.2.2 ∧ z.2.1.length ≤ D.length + 1) (fun z => (aft c.ws x (letters.getD i 0)).length - z.1) ((0, A1, Q2, B1, L1)) (⟨Nat.zero_le _, by simpa using hJ, hA1⟩) ?_ ?_
     · exact zi (e := by simp [hG, List.getD_cons_zero, List.getD_cons_succ, -List.getD_eq_getElem?_getD, pureOp, addL_nil, adQ_self, al_put, enD_nil, wMap]) (h := by simp [hG, pureOp, List.getD_cons_zero, List.getD_cons_succ, -List.getD_eq_getElem?_getD]; first | exact ⟨fam_le fun p _ => evR_le rfl (by decide) rfl, rows_le⟩ | exact ⟨by omega, fam_le fun p _ => evR_le rfl (by decide) rfl, rows_le⟩ | exact fam_le fun p _ => evR_le rfl (by decide) rfl | (trace "XXX"; trace_state))
     rintro ⟨j, A2, Q3, B2, L2⟩ ⟨hj, hJ2, hA2⟩
     simp only at hj hJ2 hA2
     refine zs (zr ?_ (h := by intro c K h; simp [hG, List.getD_cons_zero, List.getD_cons_succ, -List.getD_eq_getElem?_getD, pureOp, addL_nil, adQ_self, al_put, enD_nil, wMap]; first | exact z1 c h | exact ⟨.mk c, h⟩))
     refine zs (zy (fun hb66 => ?_) fun hb66 => ?_)
     · have hyb : BoxR c.ws ((aft c.ws x (letters.getD i 0)).getD j dRc) := box_aft (hJ2.box x (by simp)) (getD_mem hb66)
       have hbl2 := box_len hv.len hWn.2 hJ2.nd hJ2.box
       simp only [List.length_append, List.length_cons] at hbl2
       have hst := hJ2.step hyb
       have hal := aft_len hWn (p := x) (l := letters.getD i 0)
       have hlx := hJ2.lf x
       rw [if_neg hJ2.xD, if_pos rfl, List.length_append, List.length_take] at hlx
       have hsl := sucA_len hWn (p := x) i
       have haq := adQ_all (D := D) (A := A2) (Q := Q3) (x := x) (y := ((aft c.ws x (letters.getD i 0)).getD j dRc))
       refine zk (zs (zb (zs (zr ?_ (h := by intro c K h; simp [hG, List.getD_cons_zero, List.getD_cons_succ, -List.getD_eq_getElem?_getD, pureOp, addL_nil, adQ_self, al_put, enD_nil, wMap]; first | exact z1 c h | exact ⟨.mk c, h⟩)))))
       refine zs ?_
       refine awpS_cut (α := Unit) (fun _u => ⟨[(1, .vptr 2 (cdF c) 0), (2, .ptr (0, 0) 0 0), (3, .ptr (1, 0) 0 0), (4, .ptr (2, 0) 0 0), (5, .fn 66 2 (fun j => [.ptr (1, 0) 0 0, .ptr (2, 0) 0 0].getD j .any)), (9, .map (5, 0)), (10, .map (6, 0)), (11, .vptr 2 (rcF x) 0), (14, .vptr 2 (rcF ((aft c.ws x (letters.getD i 0)).getD j dRc)) 0), (55, .int .i64 c.q), (56, .int .i64 (i : Nat)), (63, rcs (aft c.ws x (letters.getD i 0))), (64, .int .i64 (aft c.ws x (letters.getD i 0)).length), (65, .int .i64 (j : Nat))], [(0, .one (.arr 1 3 (fun _ j => [.int .i64 0, .nils, .nilmap].getD j .any))), (1, .one (.arr 1 3 (fun _ => rvF c (.map (3, 0))))), (2, .one (.arr 1 1 (fun _ _ => .sl (4, 0) A2.length Q3.length))), (3, .one (.mp (mpE rcK intV (fvM (D ++ x :: Q3))))), (4, .one (.arr (A2.length + Q3.length) 2 (fun y => rcF ((A2 ++ Q3).getD y dRc)))), (5, .fam (.mp (mpE rcK (evR 5) (idxB 0 (bPut B2 ((aft c.ws x (letters.getD i 0)).getD j dRc) x)))) (rowB (bPut B2 ((aft c.ws x (letters.getD i 0)).getD j dRc) x))), (6, .one (.mp (mpE rcK intV L2)))], 7⟩) (fun _u => True) ?_ ?_ (by simp)
       · by_cases hx : alGet (idxB 0 B2) ((aft c.ws x (letters.getD i 0)).getD j dRc) = none
         · have hB0 := idx_none.1 hx
           refine zL (zl 4 ?_ (h := by intro c K h; simp [hG, List.getD_cons_zero, List.getD_cons_succ, -List.getD_eq_getElem?_getD, pureOp, hx]; first | exact z1 c h | exact ⟨.mk c, h⟩) (c := by first | omega | (refine ⟨?_, ?_⟩ <;> omega)))
           refine awpL_mentry T_ok T100 rfl T65 (id := (5, 0)) (l := mpE rcK (evR 5) (idxB 0 B2)) (r := ((alFind (idxB 0 B2) 0 ((aft c.ws x (letters.getD i 0)).getD j dRc)).map fun p => (p.1, evR 5 p.2))) rfl rfl (by simp [hG, List.getD_cons_zero, List.getD_cons_succ, -List.getD_eq_getElem?_getD, pureOp, hx]) (by simp [hG, List.getD_cons_zero, List.getD_cons_succ, -List.getD_eq_getElem?_getD, pureOp, hx]) (by simp [hG, List.getD_cons_zero, List.getD_cons_succ, -List.getD_eq_getElem?_getD, pureOp, hx]) (by simp [hG, List.getD_cons_zero, List.getD_cons_succ, -List.getD_eq_getElem?_getD, pureOp, hx]) (by simp [hG, List.getD_cons_zero, List.getD_cons_succ, -List.getD_eq_getElem?_getD, pureOp, hx]) fun K hK q => ?_
           simp [hG, List.getD_cons_zero, List.getD_cons_succ, -List.getD_eq_getElem?_getD, pureOp, hx, mkL]
           refine hK _ ?_
           clear K hK
           refine zl 3 ?_ (h := by intro c K h; simp [hG, List.getD_cons_zero, List.getD_cons_succ, -List.getD_eq_getElem?_getD, pureOp, hx]; first | exact z1 c h | exact ⟨.mk c, h⟩) (c := by first | omega | (refine ⟨?_, ?_⟩ <;> omega))
           refine awpL_estore (id := (5, 0)) (l := mpE rcK (evR 5) (idxB 0 B2)) (r := ((alFind (idxB 0 B2) 0 ((aft c.ws x (letters.getD i 0)).getD j dRc)).map fun p => (p.1, evR 5 p.2))) (q := q) (k := rcK ((aft c.ws x (letters.getD i 0)).getD j dRc)) (v0 := .nils) rfl rfl (by simp [hG, List.getD_cons_zero, List.getD_cons_succ, -List.getD_eq_getElem?_getD, pureOp, hx]) (by simp [hG, List.getD_cons_zero, List.getD_cons_succ, -List.getD_eq_getElem?_getD, pureOp, hx]) findB_lt (by simp [hG, List.getD_cons_zero, List.getD_cons_succ, -List.getD_eq_getElem?_getD, pureOp, hx]) (by simp [hG, List.getD_cons_zero, List.getD_cons_succ, -List.getD_eq_getElem?_getD, pureOp, hx]) fun K hK => ?_
           simp [hG, List.getD_cons_zero, List.getD_cons_succ, -List.getD_eq_getElem?_getD, pureOp, hx]
           refine hK _ ?_
           clear K hK
           refine zN (zn ?_)
           refine cut_end (()) (trivial) ?_
           refine wk_ofI (fun d => if d.1 = 5 ∧ d.2 = B2.length + 1 then (9, 0) else d) (fun k => k == 7) (fun _ => false) ?_ ?_ ?_ (Nat.zero_le _) (fun d hd => absurd hd (Nat.not_lt_zero _))
           · simp [hG, pureOp, List.getD_cons_zero, List.getD_cons_succ, -List.getD_eq_getElem?_getD]
           · simp [hG, pureOp, List.getD_cons_zero, List.getD_cons_succ, -List.getD_eq_getElem?_getD]; refine ⟨put_new hB0 hJ2.bn (if_pos ⟨rfl, rfl⟩) (fun k hk => if_neg (fun e => hk (by have := e.2; simpa using this))) (fun _ => rfl) (by decide), ?_⟩; intro i o ho; rw [row_new hB0] at ho; by_cases h : i = B2.length; (rw [if_pos h] at ho; cases ho; simp [h]); (rw [if_neg h] at ho; simp [h, -List.getD_eq_getElem?_getD]; exact rows_le i o ho)
           intro d d' h1 h2 _ _ h; have k1 := lkH_keys h1; have k2 := lkH_keys h2; simp at k1 k2; obtain ⟨a, b⟩ := d; obtain ⟨a2, b2⟩ := d'; simp only at k1 k2 h; (repeat' split at h) <;> simp only [Prod.mk.injEq] at h ⊢ <;> omega
         obtain ⟨l, r, hB0, hr1, hr2, hr3, hrow⟩ := bef_row hx
         have hbf := congrArg List.length (hJ2.bf ((aft c.ws x (letters.getD i 0)).getD j dRc))
         rw [hB0, List.length_append, List.length_replicate, Option.getD_some] at hbf
         have hbn := bef_len hWn (show c.q.toNat ≤ 16 by omega) (y := ((aft c.ws x (letters.getD i 0)).getD j dRc)) (D := D)
         have htc : (sucA c.ws x i ++ (aft c.ws x (letters.getD i 0)).take j).count ((aft c.ws x (letters.getD i 0)).getD j dRc) ≤ (sucA c.ws x i ++ (aft c.ws x (letters.getD i 0)).take j).length := List.count_le_length
         rw [List.length_append, List.length_take] at htc
         refine zL (zl 4 ?_ (h := by intro c K h; simp [hG, List.getD_cons_zero, List.getD_cons_succ, -List.getD_eq_getElem?_getD, pureOp, hr3, hrow]; first | exact z1 c h | exact ⟨.mk c, h⟩) (c := by first | omega | (refine ⟨?_, ?_⟩ <;> omega)))
         refine awpL_mentry T_ok T100 rfl T65 (id := (5, 0)) (l := mpE rcK (evR 5) (idxB 0 B2)) (r := ((alFind (idxB 0 B2) 0 ((aft c.ws x (letters.getD i 0)).getD j dRc)).map fun p => (p.1, evR 5 p.2))) rfl rfl (by simp [hG, List.getD_cons_zero, List.getD_cons_succ, -List.getD_eq_getElem?_getD, pureOp, hr3, hrow]) (by simp [hG, List.getD_cons_zero, List.getD_cons_succ, -List.getD_eq_getElem?_getD, pureOp, hr3, hrow]) (by simp [hG, List.getD_cons_zero, List.getD_cons_succ, -List.getD_eq_getElem?_getD, pureOp, hr3, hrow]) (by simp [hG, List.getD_cons_zero, List.getD_cons_succ, -List.getD_eq_getElem?_getD, pureOp, hr3, hrow]) (by simp [hG, List.getD_cons_zero, List.getD_cons_succ, -List.getD_eq_getElem?_getD, pureOp, hr3, hrow]) fun K hK q => ?_
         simp [hG, List.getD_cons_zero, List.getD_cons_succ, -List.getD_eq_getElem?_getD, pureOp, hr3, hrow, mkL]
         refine hK _ ?_
         clear K hK
         refine zl 3 ?_ (h := by intro c K h; simp [hG, List.getD_cons_zero, List.getD_cons_succ, -List.getD_eq_getElem?_getD, pureOp, hr3, hrow]; first | exact z1 c h | exact ⟨.mk c, h⟩) (c := by first | omega | (refine ⟨?_, ?_⟩ <;> omega))
         refine awpL_estore (id := (5, 0)) (l := mpE rcK (evR 5) (idxB 0 B2)) (r := ((alFind (idxB 0 B2) 0 ((aft c.ws x (letters.getD i 0)).getD j dRc)).map fun p => (p.1, evR 5 p.2))) (q := q) (k := rcK ((aft c.ws x (letters.getD i 0)).getD j dRc)) (v0 := .sl (5, r + 1) 0 l.length) rfl rfl (by simp [hG, List.getD_cons_zero, List.getD_cons_succ, -List.getD_eq_getElem?_getD, pureOp, hr3, hrow]) (by simp [hG, List.getD_cons_zero, List.getD_cons_succ, -List.getD_eq_getElem?_getD, pureOp, hr3, hrow]) findB_lt (by simp [hG, List.getD_cons_zero, List.getD_cons_succ, -List.getD_eq_getElem?_getD, pureOp, hr3, hrow]) (by simp [hG, List.getD_cons_zero, List.getD_cons_succ, -List.getD_eq_getElem?_getD, pureOp, hr3, hrow]) fun K hK => ?_
         simp [hG, List.getD_cons_zero, List.getD_cons_succ, -List.getD_eq_getElem?_getD, pureOp, hr3, hrow]
         refine hK _ ?_
         clear K hK
         refine zN (zn ?_)
         refine cut_end (()) (trivial) ?_
         refine wk_ofI (fun d => if d.1 = 5 ∧ d.2 = r + 1 then (9, 0) else d) (fun k => k == 7) (fun _ => false) ?_ ?_ ?_ (Nat.zero_le _) (fun d hd => absurd hd (Nat.not_lt_zero _))
         · simp [hG, pureOp, List.getD_cons_zero, List.getD_cons_succ, -List.getD_eq_getElem?_getD]
         · simp [hG, pureOp, List.getD_cons_zero, List.getD_cons_succ, -List.getD_eq_getElem?_getD]; refine ⟨put_old hB0 hr2 hJ2.bn (if_pos ⟨rfl, rfl⟩) (fun k hk => if_neg (fun e => hk (by have := e.2; simpa using this))) (fun _ => rfl) (by decide), ?_⟩; intro i o ho; rw [row_old hB0 hr2 hJ2.bn] at ho; by_cases h : i = r; (rw [if_pos h] at ho; cases ho; simp [h, -List.getD_eq_getElem?_getD]; exact fun i hi => ⟨app_oneR (j := 0) rfl hi, app_oneR (j := 1) rfl hi⟩); (rw [if_neg h] at ho; simp [h, -List.getD_eq_getElem?_getD]; exact rows_le i o ho)
         intro d d' h1 h2 _ _ h; have k1 := lkH_keys h1; have k2 := lkH_keys h2; simp at k1 k2; obtain ⟨a, b⟩ := d; obtain ⟨a2, b2⟩ := d'; simp only at k1 k2 h; (repeat' split at h) <;> simp only [Prod.mk.injEq] at h ⊢ <;> omega
       rintro _ _
       refine zs ?_
       refine awpS_draw hR mixed [(4, (6, 0)), (6, (6, 0))] ⟨[], [], []⟩ fun mu0 => ?_
       refine za [0, 1] [] 5 [1, 0] ?_ (h := by intro c K h; simp [hG, List.getD_cons_zero, List.getD_cons_succ, -List.getD_eq_getElem?_getD, pureOp, addL_nil, adQ_self, al_put, enD_nil, wMap]; first | exact z1 c h | exact ⟨.mk c, h⟩)
       refine awpA_two (fuel := 4) (i := 2) (k := 4) (by decide +kernel) ?_ ?_
       · refine zo ?_ (hw := by simp [hG, List.getD_cons_zero, List.getD_cons_succ, -List.getD_eq_getElem?_getD, pureOp, addL_nil, adQ_self, al_put, enD_nil, wMap]; (try exact trivial)) (h := by intro c K h; simp [hG, List.getD_cons_zero, List.getD_cons_succ, -List.getD_eq_getElem?_getD, pureOp, addL_nil, adQ_self, al_put, enD_nil, wMap]; first | exact z1 c h | exact ⟨.mk c, h⟩)
         refine za [3] [(6, 0)] 3 [3, 2, 1, 0] ?_ (h := by intro c K h; simp [hG, List.getD_cons_zero, List.getD_cons_succ, -List.getD_eq_getElem?_getD, pureOp, addL_nil, adQ_self, al_put, enD_nil, wMap]; first | exact z1 c h | exact ⟨.mk c, h⟩)
         refine awpA_only (fuel := 2) (i := 4) (by decide +kernel) ?_
         refine awpO_entry T_ok T61 rfl T3 (id := (6, 0)) (l := mpE rcK intV L2) (r := ((alFind L2 0 x).map fun p => (p.1, intV p.2))) rfl rfl rfl (by simp [hG, List.getD_cons_zero, List.getD_cons_succ, -List.getD_eq_getElem?_getD, pureOp]) (by simp [hG, List.getD_cons_zero, List.getD_cons_succ, -List.getD_eq_getElem?_getD, pureOp]) (by simp [hG, List.getD_cons_zero, List.getD_cons_succ, -List.getD_eq_getElem?_getD, pureOp]) (by simp [hG, List.getD_cons_zero, List.getD_cons_succ, -List.getD_eq_getElem?_getD, pureOp]) (by simp [hG, List.getD_cons_zero, List.getD_cons_succ, -List.getD_eq_getElem?_getD, pureOp]) (by simp [wOK]) fun K hK q => ?_
         simp [hG, List.getD_cons_zero, List.getD_cons_succ, -List.getD_eq_getElem?_getD, pureOp, mkL]
         refine hK _ ?_
         clear K hK
         refine za [5] [] 1 [5, 4, 3, 2, 1, 0] ?_ (h := by intro c K h; simp [hG, List.getD_cons_zero, List.getD_cons_succ, -List.getD_eq_getElem?_getD, pureOp, addL_nil, adQ_self, al_put, enD_nil, wMap]; first | exact z1 c h | exact ⟨.mk c, h⟩)
         refine awpA_only (fuel := 0) (i := 6) (by decide +kernel) ?_
         refine awpO_estore (id := (6, 0)) (l := mpE rcK intV L2) (r := ((alFind L2 0 x).map fun p => (p.1, intV p.2))) (q := q) (k := rcK x) (v0 := .int .i64 ((alGet L2 x).getD 0)) rfl rfl rfl (by simp [hG, List.getD_cons_zero, List.getD_cons_succ, -List.getD_eq_getElem?_getD, pureOp]) (by simp [hG, List.getD_cons_zero, List.getD_cons_succ, -List.getD_eq_getElem?_getD, pureOp]) alFind_lt2 (by simp [hG, List.getD_cons_zero, List.getD_cons_succ, -List.getD_eq_getElem?_getD, pureOp]) (by simp [hG, List.getD_cons_zero, List.getD_cons_succ, -List.getD_eq_getElem?_getD, pureOp]) (by simp [wOK]) fun K hK => ?_
         simp [hG, List.getD_cons_zero, List.getD_cons_succ, -List.getD_eq_getElem?_getD, pureOp]
         refine hK _ ?_
         clear K hK
         refine awpA_done (by decide +kernel) ?_
         refine zL (zl 2 ?_ (h := by intro c K h; simp [hG, List.getD_cons_zero, List.getD_cons_succ, -List.getD_eq_getElem?_getD, pureOp, addL_nil, adQ_self, al_put, enD_nil, wMap]; first | exact z1 c h | exact ⟨.mk c, h⟩))
         refine zf cal66 [1, 2, 3, 4] (add_c c (D ++ x :: Q3) A2 Q3 ((aft c.ws x (letters.getD i 0)).getD j dRc) (by omega)) (fun u hI hno => ?_) (a := by simp [hG, List.getD_cons_zero, List.getD_cons_succ, -List.getD_eq_getElem?_getD, pureOp, addL_nil, adQ_self, al_put, enD_nil, wMap]) (b := by simp [hG, List.range'_succ, List.range'_zero, List.getD_cons_zero, List.getD_cons_succ, -List.getD_eq_getElem?_getD]) (c := by simp [hG, List.getD_cons_zero, List.getD_cons_succ, -List.getD_eq_getElem?_getD, pureOp, addL_nil, adQ_self, al_put, enD_nil, wMap]) (h := by intro K h u hI hno; simp [hG, List.getD_cons_zero, List.getD_cons_succ, -List.getD_eq_getElem?_getD, pureOp, addL_nil, adQ_self, al_put, enD_nil, wMap]; exact h u hI hno)
         refine zN (zn (zbn (zr ?_ (h := by intro c K h; simp [hG, List.getD_cons_zero, List.getD_cons_succ, -List.getD_eq_getElem?_getD, pureOp, addL_nil, adQ_self, al_put, enD_nil, wMap]; first | exact z1 c h | exact ⟨.mk c, h⟩))))
         refine zn ?_
         refine round_end ((j + 1, (adQ (D ++ x :: Q3) A2 Q3 ((aft c.ws x (letters.getD i 0)).getD j dRc)).1, (adQ (D ++ x :: Q3) A2 Q3 ((aft c.ws x (letters.getD i 0)).getD j dRc)).2, bPut B2 ((aft c.ws x (letters.getD i 0)).getD j dRc) x, lPut L2 x)) (⟨by simp only; omega, by have h9 := hst; rw [List.append_assoc, take_getD hb66, ← adQ_snd (A := A2)] at h9; exact h9, by simp only; have := adQ_fst (K := (D ++ x :: Q3)) (A := A2) (Q := Q3) (x := ((aft c.ws x (letters.getD i 0)).getD j dRc)); omega⟩) (by simp only; omega) ?_
         exact zw (fun k => if k = 4 then 7 else k) (fun _ => false) (fun _ => false) (e := by simp [hG, List.getD_cons_zero, List.getD_cons_succ, -List.getD_eq_getElem?_getD, pureOp, addL_nil, adQ_self, al_put, enD_nil, wMap]) (h := by simp [hG, ← haq, lPut, pureOp, List.getD_cons_zero, List.getD_cons_succ, -List.getD_eq_getElem?_getD]; first | exact ⟨fam_le fun p _ => evR_le rfl (by decide) rfl, rows_le⟩ | exact ⟨by omega, fam_le fun p _ => evR_le rfl (by decide) rfl, rows_le⟩ | exact fam_le fun p _ => evR_le rfl (by decide) rfl | (trace "XXX"; trace_state))
       refine awpO_entry T_ok T61 rfl T3 (id := (6, 0)) (l := mpE rcK intV L2) (r := ((alFind L2 0 x).map fun p => (p.1, intV p.2))) rfl rfl rfl (by simp [hG, List.getD_cons_zero, List.getD_cons_succ, -List.getD_eq_getElem?_getD, pureOp]) (by simp [hG, List.getD_cons_zero, List.getD_cons_succ, -List.getD_eq_getElem?_getD, pureOp]) (by simp [hG, List.getD_cons_zero, List.getD_cons_succ, -List.getD_eq_getElem?_getD, pureOp]) (by simp [hG, List.getD_cons_zero, List.getD_cons_succ, -List.getD_eq_getElem?_getD, pureOp]) (by simp [hG, List.getD_cons_zero, List.getD_cons_succ, -List.getD_eq_getElem?_getD, pureOp]) (by simp [wOK]) fun K hK q => ?_
       simp [hG, List.getD_cons_zero, List.getD_cons_succ, -List.getD_eq_getElem?_getD, pureOp, mkL]
       refine hK _ ?_
       clear K hK
       refine za [5] [] 3 [5, 4, 1, 0] ?_ (h := by intro c K h; simp [hG, List.getD_cons_zero, List.getD_cons_succ, -List.getD_eq_getElem?_getD, pureOp, addL_nil, adQ_self, al_put, enD_nil, wMap]; first | exact z1 c h | exact ⟨.mk c, h⟩)
       refine awpA_only (fuel := 2) (i := 2) (by decide +kernel) ?_
       refine zo ?_ (hw := by simp [hG, List.getD_cons_zero, List.getD_cons_succ, -List.getD_eq_getElem?_getD, pureOp, addL_nil, adQ_self, al_put, enD_nil, wMap]; (try exact trivial)) (h := by intro c K h; simp [hG, List.getD_cons_zero, List.getD_cons_succ, -List.getD_eq_getElem?_getD, pureOp, addL_nil, adQ_self, al_put, enD_nil, wMap]; first | exact z1 c h | exact ⟨.mk c, h⟩)
       refine za [3] [] 1 [3, 2, 5, 4, 1, 0] ?_ (h := by intro c K h; simp [hG, List.getD_cons_zero, List.getD_cons_succ, -List.getD_eq_getElem?_getD, pureOp, addL_nil, adQ_self, al_put, enD_nil, wMap]; first | exact z1 c h | exact ⟨.mk c, h⟩)
       refine awpA_only (fuel := 0) (i := 6) (by decide +kernel) ?_
       refine awpO_estore (id := (6, 0)) (l := mpE rcK intV L2) (r := ((alFind L2 0 x).map fun p => (p.1, intV p.2))) (q := q) (k := rcK x) (v0 := .int .i64 ((alGet L2 x).getD 0)) rfl rfl rfl (by simp [hG, List.getD_cons_zero, List.getD_cons_succ, -List.getD_eq_getElem?_getD, pureOp]) (by simp [hG, List.getD_cons_zero, List.getD_cons_succ, -List.getD_eq_getElem?_getD, pureOp]) alFind_lt2 (by simp [hG, List.getD_cons_zero, List.getD_cons_succ, -List.getD_eq_getElem?_getD, pureOp]) (by simp [hG, List.getD_cons_zero, List.getD_cons_succ, -List.getD_eq_getElem?_getD, pureOp]) (by simp [wOK]) fun K hK => ?_
       simp [hG, List.getD_cons_zero, List.getD_cons_succ, -List.getD_eq_getElem?_getD, pureOp]
       refine hK _ ?_
       clear K hK
       refine awpA_done (by decide +kernel) ?_
       refine zL (zl 2 ?_ (h := by intro c K h; simp [hG, List.getD_cons_zero, List.getD_cons_succ, -List.getD_eq_getElem?_getD, pureOp, addL_nil, adQ_self, al_put, enD_nil, wMap]; first | exact z1 c h | exact ⟨.mk c, h⟩))
       refine zf cal66 [1, 2, 3, 4] (add_c c (D ++ x :: Q3) A2 Q3 ((aft c.ws x (letters.getD i 0)).getD j dRc) (by omega)) (fun u hI hno => ?_) (a := by simp [hG, List.getD_cons_zero, List.getD_cons_succ, -List.getD_eq_getElem?_getD, pureOp, addL_nil, adQ_self, al_put, enD_nil, wMap]) (b := by simp [hG, List.range'_succ, List.range'_zero, List.getD_cons_zero, List.getD_cons_succ, -List.getD_eq_getElem?_getD]) (c := by simp [hG, List.getD_cons_zero, List.getD_cons_succ, -List.getD_eq_getElem?_getD, pureOp, addL_nil, adQ_self, al_put, enD_nil, wMap]) (h := by intro K h u hI hno; simp [hG, List.getD_cons_zero, List.getD_cons_succ, -List.getD_eq_getElem?_getD, pureOp, addL_nil, adQ_self, al_put, enD_nil, wMap]; exact h u hI hno)
       refine zN (zn (zbn (zr ?_ (h := by intro c K h; simp [hG, List.getD_cons_zero, List.getD_cons_succ, -List.getD_eq_getElem?_getD, pureOp, addL_nil, adQ_self, al_put, enD_nil, wMap]; first | exact z1 c h | exact ⟨.mk c, h⟩))))
       refine zn ?_
       refine round_end ((j + 1, (adQ (D ++ x :: Q3) A2 Q3 ((aft c.ws x (letters.getD i 0)).getD j dRc)).1, (adQ (D ++ x :: Q3) A2 Q3 ((aft c.ws x (letters.getD i 0)).getD j dRc)).2, bPut B2 ((aft c.ws x (letters.getD i 0)).getD j dRc) x, lPut L2 x)) (⟨by simp only; omega, by have h9 := hst; rw [List.append_assoc, take_getD hb66, ← adQ_snd (A := A2)] at h9; exact h9, by simp only; have := adQ_fst (K := (D ++ x :: Q3)) (A := A2) (Q := Q3) (x := ((aft c.ws x (letters.getD i 0)).getD j dRc)); omega⟩) (by simp only; omega) ?_
       exact zw (fun k => if k = 4 then 7 else k) (fun _ => false) (fun _ => false) (e := by simp [hG, List.getD_cons_zero, List.getD_cons_succ, -List.getD_eq_getElem?_getD, pureOp, addL_nil, adQ_self, al_put, enD_nil, wMap]) (h := by simp [hG, ← haq, lPut, pureOp, List.getD_cons_zero, List.getD_cons_succ, -List.getD_eq_getElem?_getD]; first | exact ⟨fam_le fun p _ => evR_le rfl (by decide) rfl, rows_le⟩ | exact ⟨by omega, fam_le fun p _ => evR_le rfl (by decide) rfl, rows_le⟩ | exact fam_le fun p _ => evR_le rfl (by decide) rfl | (trace "XXX"; trace_state))
     obtain rfl : j = (aft c.ws x (letters.getD i 0)).length := (by omega)
     rw [List.take_length] at hJ2
     refine zx (ztx (zbx (zn (zbn (zr ?_ (h := by intro c K h; simp [hG, List.getD_cons_zero, List.getD_cons_succ, -List.getD_eq_getElem?_getD, pureOp, addL_nil, adQ_self, al_put, enD_nil, wMap]; first | exact z1 c h | exact ⟨.mk c, h⟩))))))
     refine zn ?_
     refine round_end ((i + 1, A2, Q3, B2, L2)) (⟨by simp only; omega, hJ2, hA2⟩) (by simp only; omega) ?_
     exact zi (e := by simp [hG, List.getD_cons_zero, List.getD_cons_succ, -List.getD_eq_getElem?_getD, pureOp, addL_nil, adQ_self, al_put, enD_nil, wMap]) (h := by simp [hG, pureOp, List.getD_cons_zero, List.getD_cons_succ, -List.getD_eq_getElem?_getD]; first | exact ⟨fam_le fun p _ => evR_le rfl (by decide) rfl, rows_le⟩ | exact ⟨by omega, fam_le fun p _ => evR_le rfl (by decide) rfl, rows_le⟩ | exact fam_le fun p _ => evR_le rfl (by decide) rfl | (trace "XXX"; trace_state))
   obtain rfl : i = c.q.toNat := (by omega)
   refine zx (ztx (zbx (zn (zbn (zn ?_)))))
   refine round_end ((D ++ [x], A1, Q2, B1, L1)) (⟨hJ.done, by simp only [List.length_append, List.length_singleton]; omega⟩) (by simp only [List.length_append, List.length_singleton]; omega) ?_
   exact zi (e := by simp [hG, List.getD_cons_zero, List.getD_cons_succ, -List.getD_eq_getElem?_getD, pureOp, addL_nil, adQ_self, al_put, enD_nil, wMap]) (h := by simp [hG, pureOp, List.getD_cons_zero, List.getD_cons_succ, -List.getD_eq_getElem?_getD]; first | exact ⟨fam_le fun p _ => evR_le rfl (by decide) rfl, rows_le⟩ | exact ⟨by omega, fam_le fun p _ => evR_le rfl (by decide) rfl, rows_le⟩ | exact fam_le fun p _ => evR_le rfl (by decide) rfl | (trace "XXX"; trace_state))
 obtain rfl : Q = [] := (by simpa using hb48)
 have hclr := hF.clr hv.lt
 obtain ⟨hbx, hat0, hlf⟩ := hF.fin
 have hbD := box_len hv.len hWn.2 hclr.nd hbx
 rw [List.append_nil]
 refine zx (ztx (zbx (zs (zr ?_ (h := by intro c K h; simp [hG, List.getD_cons_zero, List.getD_cons_succ, -List.getD_eq_getElem?_getD, pureOp, addL_nil, adQ_self, al_put, enD_nil, wMap]; first | exact z1 c h | exact ⟨.mk c, h⟩)))))
 refine zs (zs (zL (zl 2 ?_ (h := by intro c K h; simp [hG, List.getD_cons_zero, List.getD_cons_succ, -List.getD_eq_getElem?_getD, pureOp, addL_nil, adQ_self, al_put, enD_nil, wMap]; first | exact z1 c h | exact ⟨.mk c, h⟩))))
 refine awpL_range (id := (3, 0)) Try.underlying61 rfl rfl rfl rfl trivial fun K hK q hq => ?_
 simp [hG, List.getD_cons_zero, List.getD_cons_succ, -List.getD_eq_getElem?_getD, pureOp, addL_nil, adQ_self, al_put, enD_nil, wMap]
 refine hK _ ?_
 clear K hK
 refine zN (zb ?_)
 refine awpS_loop (α := List Nat × List Nat) (fun z => ⟨[(2, .ptr (0, 0) 0 0), (3, .ptr (1, 0) 0 0), (9, .map (5, 0)), (10, .map (6, 0)), (15, .sl (8, 0) 0 (enD D L z.1).length), (90, .ptr (7, 0) 0 0)], [(0, .one (.arr 1 3 (fun _ j => [.int .i64 0, .nils, .nilmap].getD j .any))), (1, .one (.arr 1 3 (fun _ => rvF c (.map (3, 0))))), (3, .one (.mi q (mpE rcK intV (fvM D)))), (5, .fam (.mp (mpE rcK (evR 5) (idxB 0 B))) (rowB B)), (6, .one (.mp (mpE rcK intV L))), (7, .one (.ob (itP q z.2 none))), (8, .one (.arr (enD D L z.1).length 2 (fun y => rcF ((enD D L z.1).getD y dRc))))], 9⟩) (fun z => (z.1 ++ z.2).Perm (List.range D.length)) (fun z => z.2.length) (([], List.range D.length)) (List.Perm.refl _) ?_ ?_
 · exact zw (id) (fun _ => false) (fun k => k == 8) (e := by simp [hG, List.getD_cons_zero, List.getD_cons_succ, -List.getD_eq_getElem?_getD, pureOp, addL_nil, adQ_self, al_put, enD_nil, wMap]) (h := by simp [hG, pureOp, List.getD_cons_zero, List.getD_cons_succ, -List.getD_eq_getElem?_getD]; first | exact ⟨fam_le fun p _ => evR_le rfl (by decide) rfl, rows_le⟩ | exact ⟨by omega, fam_le fun p _ => evR_le rfl (by decide) rfl, rows_le⟩ | exact fam_le fun p _ => evR_le rfl (by decide) rfl | (trace "XXX"; trace_state))
 rintro ⟨done, left⟩ hz
 simp only at hz
 refine zs (zL ?_)
 refine awpL_next (id := (3, 0)) (by decide) rfl rfl rfl rfl rfl trivial fun K hK cc hc => ?_
 simp [hG, List.getD_cons_zero, List.getD_cons_succ, -List.getD_eq_getElem?_getD, pureOp, addL_nil, adQ_self, al_put, enD_nil, wMap]
 refine hK _ ?_
 clear K hK
 refine zl 1 ?_ (h := by intro c K h; simp [hG, List.getD_cons_zero, List.getD_cons_succ, -List.getD_eq_getElem?_getD, pureOp, addL_nil, adQ_self, al_put, enD_nil, wMap]; first | exact z1 c h | exact ⟨.mk c, h⟩)
 refine zN (zs (zy (fun hb92 => ?_) fun hb92 => ?_))
 · rw [length_mpE, fvM_len] at hc
   obtain ⟨i0, rfl, hi0, hil⟩ := nx_some hc hb92
   have hst := left_step hz hi0
   have hdl := done_len hz
   have hel := enD_len (D := D) (L := L) (o := done)
   refine zk (zb (zs (zL ?_)))
   refine awpL_entry (id := (3, 0)) rfl rfl rfl rfl rfl trivial fun K hK => ?_; rw [enF_fv hil]
   simp [hG, List.getD_cons_zero, List.getD_cons_succ, -List.getD_eq_getElem?_getD, pureOp, addL_nil, adQ_self, al_put, enD_nil, wMap]
   refine hK _ ?_
   clear K hK
   refine zl 3 ?_ (h := by intro c K h; simp [hG, List.getD_cons_zero, List.getD_cons_succ, -List.getD_eq_getElem?_getD, pureOp, addL_nil, adQ_self, al_put, enD_nil, wMap]; first | exact z1 c h | exact ⟨.mk c, h⟩)
   refine zN (zs (zr ?_ (h := by intro c K h; simp [hG, List.getD_cons_zero, List.getD_cons_succ, -List.getD_eq_getElem?_getD, pureOp, addL_nil, adQ_self, al_put, enD_nil, wMap]; first | exact z1 c h | exact ⟨.mk c, h⟩)))
   refine zy (fun hb98 => ?_) fun hb98 => ?_
   · have hes := enD_yes (o := done) hb98
     refine zr ?_ (h := by intro c K h; simp [hG, List.getD_cons_zero, List.getD_cons_succ, -List.getD_eq_getElem?_getD, pureOp, addL_nil, adQ_self, al_put, enD_nil, wMap]; first | exact z1 c h | exact ⟨.mk c, h⟩)
     refine zn (zbn (zn ?_))
     refine round_end ((done ++ [i0], left.erase i0)) (hst.1) (hst.2) ?_
     exact zw (fun k => if k = 8 then 11 else k) (fun _ => false) (fun _ => false) (e := by rw [hes]; simp [hG, pureOp, List.getD_cons_zero, List.getD_cons_succ, -List.getD_eq_getElem?_getD]) (h := by rw [hes]; simp [hG, pureOp, List.getD_cons_zero, List.getD_cons_succ, -List.getD_eq_getElem?_getD]; exact ⟨⟨fam_le fun p _ => evR_le rfl (by decide) rfl, rows_le⟩, fun i hi => ⟨app_oneR (j := 0) rfl hi, app_oneR (j := 1) rfl hi⟩⟩)
   have hes := enD_not (o := done) hb98
   refine zk (zn (zbn (zn ?_)))
   refine round_end ((done ++ [i0], left.erase i0)) (hst.1) (hst.2) ?_
   exact zi (e := by rw [hes]; simp [hG, pureOp, List.getD_cons_zero, List.getD_cons_succ, -List.getD_eq_getElem?_getD]) (h := by rw [hes]; simp [hG, pureOp, List.getD_cons_zero, List.getD_cons_succ, -List.getD_eq_getElem?_getD]; first | exact ⟨fam_le fun p _ => evR_le rfl (by decide) rfl, rows_le⟩ | exact ⟨by omega, fam_le fun p _ => evR_le rfl (by decide) rfl, rows_le⟩ | exact fam_le fun p _ => evR_le rfl (by decide) rfl | (trace "XXX"; trace_state))
 obtain rfl := nx_none hc (by simpa using hb92)
 rw [List.append_nil] at hz
 refine zx (ztx (zbx (zs (zr ?_ (h := by intro c K h; simp [hG, List.getD_cons_zero, List.getD_cons_succ, -List.getD_eq_getElem?_getD, pureOp, addL_nil, adQ_self, al_put, enD_nil, wMap]; first | exact z1 c h | exact ⟨.mk c, h⟩)))))
 refine zs (zb ?_)
 refine awpS_loop (α := List Rc × List Rc × List Rc × List (Rc × Int) × List (Rc × Int) × List (Rc × Int)) (fun z => ⟨[(2, .ptr (0, 0) 0 0), (3, .ptr (1, 0) 0 0), (9, .map (5, 0)), (10, .map (6, 0)), (15, .sl (8, 0) z.2.1.length z.2.2.1.length), (17, .map (9, 0))], [(0, .one (.arr 1 3 (fun _ j => [.int .i64 0, .nils, .nilmap].getD j .any))), (1, .one (.arr 1 3 (fun _ => rvF c (.map (3, 0))))), (3, .one (.mp (mpE rcK intV z.2.2.2.2.2))), (5, .fam (.mp (mpE rcK (evR 5) (idxB 0 B))) (rowB B)), (6, .one (.mp (mpE rcK intV z.2.2.2.1))), (8, .one (.arr (z.2.1.length + z.2.2.1.length) 2 (fun y => rcF ((z.2.1 ++ z.2.2.1).getD y dRc)))), (9, .one (.mp (mpE rcK intV z.2.2.2.2.1)))], 10⟩) (fun z => Peel c.ws c.q.toNat D z.1 z.2.2.1 (fun y => (alGet z.2.2.2.1 y).getD 0) (fun y => (alGet z.2.2.2.2.1 y).getD 0) (fun y => (alGet z.2.2.2.2.2 y).getD 0) ∧ z.2.1.length ≤ z.1.length ∧ (∀ y, (alGet z.2.2.2.2.1 y).getD 0 ≤ (z.1.length : Int)) ∧ ∀ y ∈ z.1, (alGet z.2.2.2.2.2 y).getD 0 ≤ 4464769) (fun z => 4464770 - z.1.length) (([], [], enD D L done, L, [], fvM D)) (⟨peel_ini hclr hlf hz fun x hx => by rw [fvM_get, if_pos hx]; rfl, Nat.le_refl _, fun y => Int.le_refl _, fun y hy => (by cases hy)⟩) ?_ ?_
 · exact zi (e := by simp [hG, List.getD_cons_zero, List.getD_cons_succ, -List.getD_eq_getElem?_getD, pureOp, addL_nil, adQ_self, al_put, enD_nil, wMap]) (h := by simp [hG, pureOp, List.getD_cons_zero, List.getD_cons_succ, -List.getD_eq_getElem?_getD]; first | exact ⟨fam_le fun p _ => evR_le rfl (by decide) rfl, rows_le⟩ | exact ⟨by omega, fam_le fun p _ => evR_le rfl (by decide) rfl, rows_le⟩ | exact fam_le fun p _ => evR_le rfl (by decide) rfl | (trace "XXX"; trace_state))
 rintro ⟨E, A, Q, Lm, Mm, Rm⟩ ⟨hP, hA, hM, hRb⟩
 simp only at hP hA hM hRb
 refine zs (zs (zr ?_ (h := by intro c K h; simp [hG, List.getD_cons_zero, List.getD_cons_succ, -List.getD_eq_getElem?_getD, pureOp, addL_nil, adQ_self, al_put, enD_nil, wMap]; first | exact z1 c h | exact ⟨.mk c, h⟩)))
 refine zy (fun hb106 => ?_) fun hb106 => ?_
 · obtain ⟨x, Q1, rfl⟩ : ∃ x Q2, Q = x :: Q2 := (by cases Q with | nil => exact absurd hb106 (by simp) | cons x Q2 => exact ⟨x, Q2, rfl⟩)
   obtain ⟨hxK, hxE, v, hv1, hmx⟩ := hP.head hv.lt hclr
   have hPJ := hP.take hv.lt hclr
   have hel2 := List.Nodup.length_le_of_subset hP.nd hP.sub
   simp only [List.length_append, List.length_cons] at hel2
   have hrv : (fun y => (alGet (alPut Rm x ((alGet Mm x).getD 0)) y).getD 0) = fun y => if y = x then (alGet Mm x).getD 0 else (alGet Rm y).getD 0 := funext fun y => al_putD
   refine zk (zb (zs (zr ?_ (h := by intro c K h; simp [hG, List.getD_cons_zero, List.getD_cons_succ, -List.getD_eq_getElem?_getD, pureOp, addL_nil, adQ_self, al_put, enD_nil, wMap]; first | exact z1 c h | exact ⟨.mk c, h⟩))))
   refine zs (zr ?_ (h := by intro c K h; simp [hG, List.getD_cons_zero, List.getD_cons_succ, -List.getD_eq_getElem?_getD, pureOp, addL_nil, adQ_self, al_put, enD_nil, wMap]; first | exact z1 c h | exact ⟨.mk c, h⟩))
   refine zs ?_
   refine awpS_draw hR mixed [(6, (3, 0))] ⟨[], [], []⟩ fun mu0 => ?_
   refine za [0, 1, 2, 3, 4] [] 2 [4, 3, 2, 1, 0] ?_ (h := by intro c K h; simp [hG, List.getD_cons_zero, List.getD_cons_succ, -List.getD_eq_getElem?_getD, pureOp, addL_nil, adQ_self, al_put, enD_nil, wMap]; first | exact z1 c h | exact ⟨.mk c, h⟩)
   refine awpA_only (fuel := 1) (i := 5) (by decide +kernel) ?_
   refine zo ?_ (hw := by simp [hG, List.getD_cons_zero, List.getD_cons_succ, -List.getD_eq_getElem?_getD, pureOp, addL_nil, adQ_self, al_put, enD_nil, wMap]; (try exact trivial)) (h := by intro c K h; simp [hG, List.getD_cons_zero, List.getD_cons_succ, -List.getD_eq_getElem?_getD, pureOp, addL_nil, adQ_self, al_put, enD_nil, wMap]; first | exact z1 c h | exact ⟨.mk c, h⟩)
   refine awpA_only (fuel := 0) (i := 6) (by decide +kernel) ?_
   refine zo ?_ (hw := by simp [hG, List.getD_cons_zero, List.getD_cons_succ, -List.getD_eq_getElem?_getD, pureOp, addL_nil, adQ_self, al_put, enD_nil, wMap]; (try exact trivial)) (h := by intro c K h; simp [hG, List.getD_cons_zero, List.getD_cons_succ, -List.getD_eq_getElem?_getD, pureOp, addL_nil, adQ_self, al_put, enD_nil, wMap]; first | exact z1 c h | exact ⟨.mk c, h⟩)
   refine awpA_done (by decide +kernel) ?_
   refine zs ?_
   refine awpS_cut (α := Nat × List Rc) (fun w0 => ⟨[(2, .ptr (0, 0) 0 0), (3, .ptr (1, 0) 0 0), (9, .map (5, 0)), (10, .map (6, 0)), (15, .sl (8, 0) (A ++ [x]).length Q1.length), (17, .map (9, 0)), (18, .vptr 2 (rcF x) 0), (120, .sl (5, w0.1 + 1) 0 w0.2.length), (121, .int .i64 w0.2.length), (122, .int .i64 0)], [(0, .one (.arr 1 3 (fun _ j => [.int .i64 0, .nils, .nilmap].getD j .any))), (1, .one (.arr 1 3 (fun _ => rvF c (.map (3, 0))))), (3, .one (.mp (mpE rcK intV (alPut Rm x ((alGet Mm x).getD 0))))), (5, .fam (.mp (mpE rcK (evR 5) (idxB 0 B))) (rowX B w0)), (6, .one (.mp (mpE rcK intV Lm))), (8, .one (.arr ((A ++ [x]).length + Q1.length) 2 (fun y => rcF (((A ++ [x]) ++ Q1).getD y dRc)))), (9, .one (.mp (mpE rcK intV Mm)))], 10⟩) (fun w0 => w0.2 = befL c.ws c.q.toNat D x ∧ ∀ o, rowB B w0.1 = some o → o = rowO w0.2) ?_ ?_ (by simp)
   · by_cases hx : alGet (idxB 0 B) x = none
     · have hB0 := idx_none.1 hx
       refine zr ?_ (h := by intro c K h; simp [hG, List.getD_cons_zero, List.getD_cons_succ, -List.getD_eq_getElem?_getD, pureOp, addL_nil, adQ_self, al_put, enD_nil, wMap, hx]; first | exact z1 c h | exact ⟨.mk c, h⟩)
       refine zn ?_
       refine cut_end ((B.length, [])) (⟨(bef_none (hF.bf x) hB0).symm, fun o ho => by rw [rowB_out] at ho; cases ho⟩) ?_
       refine wk_ofI (fun d => d) (fun k => k == 10) (fun d => decide (d.1 = 5 ∧ d.2 = B.length + 1)) ?_ ?_ ?_ (Nat.zero_le _) (fun d hd => absurd hd (Nat.not_lt_zero _))
       · simp [hG, pureOp, List.getD_cons_zero, List.getD_cons_succ, -List.getD_eq_getElem?_getD]
       · simp [hG, pureOp, List.getD_cons_zero, List.getD_cons_succ, -List.getD_eq_getElem?_getD]; exact ⟨⟨fam_same (fun r _ => rfl) (fun r hr => by simp; omega) (by decide), rowX_none⟩, by omega⟩
       intro d d' h1 h2 _ _ h; have k1 := lkH_keys h1; have k2 := lkH_keys h2; simp at k1 k2; obtain ⟨a, b⟩ := d; obtain ⟨a2, b2⟩ := d'; simp only at k1 k2 h; (repeat' split at h) <;> simp only [Prod.mk.injEq] at h ⊢ <;> omega
     obtain ⟨l, r, hB0, hr1, hr2, hr3, hrow⟩ := bef_row hx
     refine zr ?_ (h := by intro c K h; simp [hG, List.getD_cons_zero, List.getD_cons_succ, -List.getD_eq_getElem?_getD, pureOp, addL_nil, adQ_self, al_put, enD_nil, wMap, hr3, hrow]; first | exact z1 c h | exact ⟨.mk c, h⟩)
     refine zn ?_
     refine cut_end ((r, l)) (⟨(bef_some (hF.bf x) hB0).symm, fun o ho => by rw [hrow] at ho; cases ho; rfl⟩) ?_
     refine wk_ofI (fun d => d) (fun k => k == 10) (fun _ => false) ?_ ?_ ?_ (Nat.zero_le _) (fun d hd => absurd hd (Nat.not_lt_zero _))
     · simp [hG, pureOp, List.getD_cons_zero, List.getD_cons_succ, -List.getD_eq_getElem?_getD]
     · simp [hG, pureOp, List.getD_cons_zero, List.getD_cons_succ, -List.getD_eq_getElem?_getD]; exact ⟨⟨fam_same (fun r _ => rfl) (fun _ _ => rfl) (by decide), rowX_some hrow⟩, by omega⟩
     intro d d' h1 h2 _ _ h; have k1 := lkH_keys h1; have k2 := lkH_keys h2; simp at k1 k2; obtain ⟨a, b⟩ := d; obtain ⟨a2, b2⟩ := d'; simp only at k1 k2 h; (repeat' split at h) <;> simp only [Prod.mk.injEq] at h ⊢ <;> omega
   rintro ⟨ri, l⟩ ⟨hl0, hro⟩
   refine zb ?_
   refine awpS_loop (α := Nat × List Rc × List Rc × List (Rc × Int) × List (Rc × Int)) (fun z => ⟨[(2, .ptr (0, 0) 0 0), (3, .ptr (1, 0) 0 0), (9, .map (5, 0)), (10, .map (6, 0)), (15, .sl (8, 0) z.2.1.length z.2.2.1.length), (17, .map (9, 0)), (18, .vptr 2 (rcF x) 0), (120, .sl (5, ri + 1) 0 l.length), (121, .int .i64 l.length), (122, .int .i64 (z.1 : Nat))], [(0, .one (.arr 1 3 (fun _ j => [.int .i64 0, .nils, .nilmap].getD j .any))), (1, .one (.arr 1 3 (fun _ => rvF c (.map (3, 0))))), (3, .one (.mp (mpE rcK intV (alPut Rm x ((alGet Mm x).getD 0))))), (5, .fam (.mp (mpE rcK (evR 5) (idxB 0 B))) (rowX B (ri, l))), (6, .one (.mp (mpE rcK intV z.2.2.2.1))), (8, .one (.arr (z.2.1.length + z.2.2.1.length) 2 (fun y => rcF ((z.2.1 ++ z.2.2.1).getD y dRc)))), (9, .one (.mp (mpE rcK intV z.2.2.2.2)))], 10⟩) (fun z => z.1 ≤ l.length ∧ PeelJ c.ws c.q.toNat D E z.2.2.1 x z.1 (fun y => (alGet z.2.2.2.1 y).getD 0) (fun y => (alGet z.2.2.2.2 y).getD 0) (fun y => (alGet (alPut Rm x ((alGet Mm x).getD 0)) y).getD 0) ∧ (alGet z.2.2.2.2 x).getD 0 = (v : Int) ∧ z.2.1.length ≤ E.length + 1 ∧ ∀ y, (alGet z.2.2.2.2 y).getD 0 ≤ (E.length : Int) + 1) (fun z => l.length - z.1) ((0, A ++ [x], Q1, Lm, Mm)) (⟨Nat.zero_le _, by rw [hrv]; exact hPJ, hmx, by simp only [List.length_append, List.length_singleton]; omega, fun y => by have := hM y; simp only; omega⟩) ?_ ?_
   · exact zi (e := by simp [hG, List.getD_cons_zero, List.getD_cons_succ, -List.getD_eq_getElem?_getD, pureOp, addL_nil, adQ_self, al_put, enD_nil, wMap]) (h := by simp [hG, pureOp, List.getD_cons_zero, List.getD_cons_succ, -List.getD_eq_getElem?_getD]; exact ⟨fam_same (fun r _ => rfl) (fun _ _ => rfl) (by decide), rowX_le⟩)
   rintro ⟨j, A1, Q2, Lm1, Mm1⟩ ⟨hj, hPJ1, hmx1, hA1, hM1⟩
   simp only at hj hPJ1 hmx1 hA1 hM1
   refine zs (zr ?_ (h := by intro c K h; simp [hG, List.getD_cons_zero, List.getD_cons_succ, -List.getD_eq_getElem?_getD, pureOp, addL_nil, adQ_self, al_put, enD_nil, wMap]; first | exact z1 c h | exact ⟨.mk c, h⟩))
   refine zs (zy (fun hb123 => ?_) fun hb123 => ?_)
   · obtain ⟨hyK, hlp, hst⟩ := hPJ1.step hclr hxK hxE hv1 (j := j) (y := (l.getD j dRc)) (by rw [← hl0]; exact hb123) (row_get hl0 _)
     have hmy := hM1 (l.getD j dRc)
     have hmx2 := hM x
     have hlu := hPJ1.lf _ hyK
     have hlc : lfv c.ws c.q.toNat E (l.getD j dRc) ≤ (sucs c.ws c.q.toNat (l.getD j dRc)).length := List.countP_le_length
     have hsl2 := sucA_len hWn (p := (l.getD j dRc)) c.q.toNat
     have hsl3 : (sucs c.ws c.q.toNat (l.getD j dRc)).length = (sucA c.ws (l.getD j dRc) c.q.toNat).length := rfl
     have hql := List.Nodup.length_le_of_subset hPJ1.nd hPJ1.sub
     simp only [List.length_append, List.length_singleton] at hql
     have hl1 : l.length = (befL c.ws c.q.toNat D x).length := congrArg List.length hl0
     have hl2 := bef_len hWn (show c.q.toNat ≤ 16 by omega) (y := x) (D := D)
     have e1 : (fun z => (alGet (alPut Lm1 (l.getD j dRc) ((alGet Lm1 (l.getD j dRc)).getD 0 - 1)) z).getD 0) = fun z => if z = (l.getD j dRc) then (alGet Lm1 (l.getD j dRc)).getD 0 - 1 else (alGet Lm1 z).getD 0 := funext fun z => al_putD
     have e2 : (fun z => (alGet (alPut Mm1 (l.getD j dRc) (max ((alGet Mm1 (l.getD j dRc)).getD 0) ((alGet Mm1 x).getD 0 + 1))) z).getD 0) = fun z => if z = (l.getD j dRc) then max ((alGet Mm1 (l.getD j dRc)).getD 0) ((v : Int) + 1) else (alGet Mm1 z).getD 0 := funext fun z => by rw [al_putD, hmx1]
     refine zk (zs (zb (zs (zr ?_ (h := by intro c K h; simp [hG, List.getD_cons_zero, List.getD_cons_succ, -List.getD_eq_getElem?_getD, pureOp, addL_nil, adQ_self, al_put, enD_nil, wMap]; first | exact z1 c h | exact ⟨.mk c, h⟩)))))
     refine zs ?_
     refine awpS_draw hR mixed [(10, (9, 0))] ⟨[], [], []⟩ fun mu0 => ?_
     refine za [0, 1, 2, 3, 5, 6] [] 5 [6, 5, 3, 2, 1, 0] ?_ (h := by intro c K h; simp [hG, List.getD_cons_zero, List.getD_cons_succ, -List.getD_eq_getElem?_getD, pureOp, addL_nil, adQ_self, al_put, enD_nil, wMap]; first | exact z1 c h | exact ⟨.mk c, h⟩)
     refine awpA_two (fuel := 4) (i := 4) (k := 7) (by decide +kernel) ?_ ?_
     · refine zo ?_ (hw := by simp [hG, List.getD_cons_zero, List.getD_cons_succ, -List.getD_eq_getElem?_getD, pureOp, addL_nil, adQ_self, al_put, enD_nil, wMap]; (try exact trivial)) (h := by intro c K h; simp [hG, List.getD_cons_zero, List.getD_cons_succ, -List.getD_eq_getElem?_getD, pureOp, addL_nil, adQ_self, al_put, enD_nil, wMap]; first | exact z1 c h | exact ⟨.mk c, h⟩)
       refine awpA_only (fuel := 3) (i := 7) (by decide +kernel) ?_
       refine zo ?_ (hw := by simp [hG, List.getD_cons_zero, List.getD_cons_succ, -List.getD_eq_getElem?_getD, pureOp, addL_nil, adQ_self, al_put, enD_nil, wMap]; (try exact trivial)) (h := by intro c K h; simp [hG, List.getD_cons_zero, List.getD_cons_succ, -List.getD_eq_getElem?_getD, pureOp, addL_nil, adQ_self, al_put, enD_nil, wMap]; first | exact z1 c h | exact ⟨.mk c, h⟩)
       refine za [8, 9] [] 1 [9, 8, 7, 4, 6, 5, 3, 2, 1, 0] ?_ (h := by intro c K h; simp [hG, List.getD_cons_zero, List.getD_cons_succ, -List.getD_eq_getElem?_getD, pureOp, addL_nil, adQ_self, al_put, enD_nil, wMap]; first | exact z1 c h | exact ⟨.mk c, h⟩)
       refine awpA_only (fuel := 0) (i := 10) (by decide +kernel) ?_
       refine zo ?_ (hw := by simp [hG, List.getD_cons_zero, List.getD_cons_succ, -List.getD_eq_getElem?_getD, pureOp, addL_nil, adQ_self, al_put, enD_nil, wMap]; (try exact trivial)) (h := by intro c K h; simp [hG, List.getD_cons_zero, List.getD_cons_succ, -List.getD_eq_getElem?_getD, pureOp, addL_nil, adQ_self, al_put, enD_nil, wMap]; first | exact z1 c h | exact ⟨.mk c, h⟩)
       refine awpA_done (by decide +kernel) ?_
       refine zs ?_
       refine awpS_draw hR mixed [(4, (6, 0)), (6, (6, 0))] ⟨[], [], []⟩ fun mu0 => ?_
       refine za [0, 1] [] 5 [1, 0] ?_ (h := by intro c K h; simp [hG, List.getD_cons_zero, List.getD_cons_succ, -List.getD_eq_getElem?_getD, pureOp, addL_nil, adQ_self, al_put, enD_nil, wMap]; first | exact z1 c h | exact ⟨.mk c, h⟩)
       refine awpA_two (fuel := 4) (i := 2) (k := 4) (by decide +kernel) ?_ ?_
       · refine zo ?_ (hw := by simp [hG, List.getD_cons_zero, List.getD_cons_succ, -List.getD_eq_getElem?_getD, pureOp, addL_nil, adQ_self, al_put, enD_nil, wMap]; (try exact trivial)) (h := by intro c K h; simp [hG, List.getD_cons_zero, List.getD_cons_succ, -List.getD_eq_getElem?_getD, pureOp, addL_nil, adQ_self, al_put, enD_nil, wMap]; first | exact z1 c h | exact ⟨.mk c, h⟩)
         refine za [3] [(6, 0)] 3 [3, 2, 1, 0] ?_ (h := by intro c K h; simp [hG, List.getD_cons_zero, List.getD_cons_succ, -List.getD_eq_getElem?_getD, pureOp, addL_nil, adQ_self, al_put, enD_nil, wMap]; first | exact z1 c h | exact ⟨.mk c, h⟩)
         refine awpA_only (fuel := 2) (i := 4) (by decide +kernel) ?_
         refine awpO_entry T_ok T61 rfl T3 (id := (6, 0)) (l := mpE rcK intV Lm1) (r := ((alFind Lm1 0 (l.getD j dRc)).map fun p => (p.1, intV p.2))) rfl rfl rfl (by simp [hG, List.getD_cons_zero, List.getD_cons_succ, -List.getD_eq_getElem?_getD, pureOp]) (by simp [hG, List.getD_cons_zero, List.getD_cons_succ, -List.getD_eq_getElem?_getD, pureOp]) (by simp [hG, List.getD_cons_zero, List.getD_cons_succ, -List.getD_eq_getElem?_getD, pureOp]) (by simp [hG, List.getD_cons_zero, List.getD_cons_succ, -List.getD_eq_getElem?_getD, pureOp]) (by simp [hG, List.getD_cons_zero, List.getD_cons_succ, -List.getD_eq_getElem?_getD, pureOp]) (by simp [wOK]) fun K hK q => ?_
         simp [hG, List.getD_cons_zero, List.getD_cons_succ, -List.getD_eq_getElem?_getD, pureOp, mkL]
         refine hK _ ?_
         clear K hK
         refine za [5] [] 1 [5, 4, 3, 2, 1, 0] ?_ (h := by intro c K h; simp [hG, List.getD_cons_zero, List.getD_cons_succ, -List.getD_eq_getElem?_getD, pureOp, addL_nil, adQ_self, al_put, enD_nil, wMap]; first | exact z1 c h | exact ⟨.mk c, h⟩)
         refine awpA_only (fuel := 0) (i := 6) (by decide +kernel) ?_
         refine awpO_estore (id := (6, 0)) (l := mpE rcK intV Lm1) (r := ((alFind Lm1 0 (l.getD j dRc)).map fun p => (p.1, intV p.2))) (q := q) (k := rcK (l.getD j dRc)) (v0 := .int .i64 ((alGet Lm1 (l.getD j dRc)).getD 0)) rfl rfl rfl (by simp [hG, List.getD_cons_zero, List.getD_cons_succ, -List.getD_eq_getElem?_getD, pureOp]) (by simp [hG, List.getD_cons_zero, List.getD_cons_succ, -List.getD_eq_getElem?_getD, pureOp]) alFind_lt2 (by simp [hG, List.getD_cons_zero, List.getD_cons_succ, -List.getD_eq_getElem?_getD, pureOp]) (by simp [hG, List.getD_cons_zero, List.getD_cons_succ, -List.getD_eq_getElem?_getD, pureOp]) (by simp [wOK]) fun K hK => ?_
         simp [hG, List.getD_cons_zero, List.getD_cons_succ, -List.getD_eq_getElem?_getD, pureOp]
         refine hK _ ?_
         clear K hK
         refine awpA_done (by decide +kernel) ?_
         refine zs (zr ?_ (h := by intro c K h; simp [hG, List.getD_cons_zero, List.getD_cons_succ, -List.getD_eq_getElem?_getD, pureOp, addL_nil, adQ_self, al_put, enD_nil, wMap]; first | exact z1 c h | exact ⟨.mk c, h⟩))
         refine zy (fun hb145 => ?_) fun hb145 => ?_
         · refine zr ?_ (h := by intro c K h; simp [hG, List.getD_cons_zero, List.getD_cons_succ, -List.getD_eq_getElem?_getD, pureOp, addL_nil, adQ_self, al_put, enD_nil, wMap]; first | exact z1 c h | exact ⟨.mk c, h⟩)
           refine zn (zbn (zr ?_ (h := by intro c K h; simp [hG, List.getD_cons_zero, List.getD_cons_succ, -List.getD_eq_getElem?_getD, pureOp, addL_nil, adQ_self, al_put, enD_nil, wMap]; first | exact z1 c h | exact ⟨.mk c, h⟩)))
           refine zn ?_
           refine round_end ((j + 1, [], Q2 ++ [(l.getD j dRc)], (alPut Lm1 (l.getD j dRc) ((alGet Lm1 (l.getD j dRc)).getD 0 - 1)), (alPut Mm1 (l.getD j dRc) (max ((alGet Mm1 (l.getD j dRc)).getD 0) ((alGet Mm1 x).getD 0 + 1))))) (⟨by simp only; omega, by simp only; rw [e1, e2]; have h9 := hst; (try simp only at h9); rw [if_pos (by omega)] at h9; exact h9, by (try simp only); rw [al_putD, if_neg (fun e => by have h0 := (hPJ1.q0 x hxK).1 (by simp); (try simp only at h0 hlp); rw [← e] at hlp; omega)]; exact hmx1, by simp, fun z => by (try simp only); rw [al_putD]; have h1 := hM1 z; split <;> omega⟩) (by simp only; omega) ?_
           exact zw (fun k => if k = 8 then 12 else k) (fun _ => false) (fun _ => false) (e := by simp [hG, List.getD_cons_zero, List.getD_cons_succ, -List.getD_eq_getElem?_getD, pureOp, addL_nil, adQ_self, al_put, enD_nil, wMap]) (h := by simp [hG, pureOp, List.getD_cons_zero, List.getD_cons_succ, -List.getD_eq_getElem?_getD]; exact ⟨⟨fam_same (fun r _ => rfl) (fun _ _ => rfl) (by decide), rowX_le⟩, fun i hi => ⟨app_oneQ (j := 0) rfl hi, app_oneQ (j := 1) rfl hi⟩⟩)
         refine zk (zn (zbn (zr ?_ (h := by intro c K h; simp [hG, List.getD_cons_zero, List.getD_cons_succ, -List.getD_eq_getElem?_getD, pureOp, addL_nil, adQ_self, al_put, enD_nil, wMap]; first | exact z1 c h | exact ⟨.mk c, h⟩))))
         refine zn ?_
         refine round_end ((j + 1, A1, Q2, (alPut Lm1 (l.getD j dRc) ((alGet Lm1 (l.getD j dRc)).getD 0 - 1)), (alPut Mm1 (l.getD j dRc) (max ((alGet Mm1 (l.getD j dRc)).getD 0) ((alGet Mm1 x).getD 0 + 1))))) (⟨by simp only; omega, by simp only; rw [e1, e2]; have h9 := hst; (try simp only at h9); rw [if_neg (by omega)] at h9; exact h9, by (try simp only); rw [al_putD, if_neg (fun e => by have h0 := (hPJ1.q0 x hxK).1 (by simp); (try simp only at h0 hlp); rw [← e] at hlp; omega)]; exact hmx1, by simp only; omega, fun z => by (try simp only); rw [al_putD]; have h1 := hM1 z; split <;> omega⟩) (by simp only; omega) ?_
         exact zi (e := by simp [hG, List.getD_cons_zero, List.getD_cons_succ, -List.getD_eq_getElem?_getD, pureOp, addL_nil, adQ_self, al_put, enD_nil, wMap]) (h := by simp [hG, pureOp, List.getD_cons_zero, List.getD_cons_succ, -List.getD_eq_getElem?_getD]; exact ⟨fam_same (fun r _ => rfl) (fun _ _ => rfl) (by decide), rowX_le⟩)
       refine awpO_entry T_ok T61 rfl T3 (id := (6, 0)) (l := mpE rcK intV Lm1) (r := ((alFind Lm1 0 (l.getD j dRc)).map fun p => (p.1, intV p.2))) rfl rfl rfl (by simp [hG, List.getD_cons_zero, List.getD_cons_succ, -List.getD_eq_getElem?_getD, pureOp]) (by simp [hG, List.getD_cons_zero, List.getD_cons_succ, -List.getD_eq_getElem?_getD, pureOp]) (by simp [hG, List.getD_cons_zero, List.getD_cons_succ, -List.getD_eq_getElem?_getD, pureOp]) (by simp [hG, List.getD_cons_zero, List.getD_cons_succ, -List.getD_eq_getElem?_getD, pureOp]) (by simp [hG, List.getD_cons_zero, List.getD_cons_succ, -List.getD_eq_getElem?_getD, pureOp]) (by simp [wOK]) fun K hK q => ?_
       simp [hG, List.getD_cons_zero, List.getD_cons_succ, -List.getD_eq_getElem?_getD, pureOp, mkL]
       refine hK _ ?_
       clear K hK
       refine za [5] [] 3 [5, 4, 1, 0] ?_ (h := by intro c K h; simp [hG, List.getD_cons_zero, List.getD_cons_succ, -List.getD_eq_getElem?_getD, pureOp, addL_nil, adQ_self, al_put, enD_nil, wMap]; first | exact z1 c h | exact ⟨.mk c, h⟩)
       refine awpA_only (fuel := 2) (i := 2) (by decide +kernel) ?_
       refine zo ?_ (hw := by simp [hG, List.getD_cons_zero, List.getD_cons_succ, -List.getD_eq_getElem?_getD, pureOp, addL_nil, adQ_self, al_put, enD_nil, wMap]; (try exact trivial)) (h := by intro c K h; simp [hG, List.getD_cons_zero, List.getD_cons_succ, -List.getD_eq_getElem?_getD, pureOp, addL_nil, adQ_self, al_put, enD_nil, wMap]; first | exact z1 c h | exact ⟨.mk c, h⟩)
       refine za [3] [] 1 [3, 2, 5, 4, 1, 0] ?_ (h := by intro c K h; simp [hG, List.getD_cons_zero, List.getD_cons_succ, -List.getD_eq_getElem?_getD, pureOp, addL_nil, adQ_self, al_put, enD_nil, wMap]; first | exact z1 c h | exact ⟨.mk c, h⟩)
       refine awpA_only (fuel := 0) (i := 6) (by decide +kernel) ?_
       refine awpO_estore (id := (6, 0)) (l := mpE rcK intV Lm1) (r := ((alFind Lm1 0 (l.getD j dRc)).map fun p => (p.1, intV p.2))) (q := q) (k := rcK (l.getD j dRc)) (v0 := .int .i64 ((alGet Lm1 (l.getD j dRc)).getD 0)) rfl rfl rfl (by simp [hG, List.getD_cons_zero, List.getD_cons_succ, -List.getD_eq_getElem?_getD, pureOp]) (by simp [hG, List.getD_cons_zero, List.getD_cons_succ, -List.getD_eq_getElem?_getD, pureOp]) alFind_lt2 (by simp [hG, List.getD_cons_zero, List.getD_cons_succ, -List.getD_eq_getElem?_getD, pureOp]) (by simp [hG, List.getD_cons_zero, List.getD_cons_succ, -List.getD_eq_getElem?_getD, pureOp]) (by simp [wOK]) fun K hK => ?_
       simp [hG, List.getD_cons_zero, List.getD_cons_succ, -List.getD_eq_getElem?_getD, pureOp]
       refine hK _ ?_
       clear K hK
       refine awpA_done (by decide +kernel) ?_
       refine zs (zr ?_ (h := by intro c K h; simp [hG, List.getD_cons_zero, List.getD_cons_succ, -List.getD_eq_getElem?_getD, pureOp, addL_nil, adQ_self, al_put, enD_nil, wMap]; first | exact z1 c h | exact ⟨.mk c, h⟩))
       refine zy (fun hb145 => ?_) fun hb145 => ?_
       · refine zr ?_ (h := by intro c K h; simp [hG, List.getD_cons_zero, List.getD_cons_succ, -List.getD_eq_getElem?_getD, pureOp, addL_nil, adQ_self, al_put, enD_nil, wMap]; first | exact z1 c h | exact ⟨.mk c, h⟩)
         refine zn (zbn (zr ?_ (h := by intro c K h; simp [hG, List.getD_cons_zero, List.getD_cons_succ, -List.getD_eq_getElem?_getD, pureOp, addL_nil, adQ_self, al_put, enD_nil, wMap]; first | exact z1 c h | exact ⟨.mk c, h⟩)))
         refine zn ?_
         refine round_end ((j + 1, [], Q2 ++ [(l.getD j dRc)], (alPut Lm1 (l.getD j dRc) ((alGet Lm1 (l.getD j dRc)).getD 0 - 1)), (alPut Mm1 (l.getD j dRc) (max ((alGet Mm1 (l.getD j dRc)).getD 0) ((alGet Mm1 x).getD 0 + 1))))) (⟨by simp only; omega, by simp only; rw [e1, e2]; have h9 := hst; (try simp only at h9); rw [if_pos (by omega)] at h9; exact h9, by (try simp only); rw [al_putD, if_neg (fun e => by have h0 := (hPJ1.q0 x hxK).1 (by simp); (try simp only at h0 hlp); rw [← e] at hlp; omega)]; exact hmx1, by simp, fun z => by (try simp only); rw [al_putD]; have h1 := hM1 z; split <;> omega⟩) (by simp only; omega) ?_
         exact zw (fun k => if k = 8 then 12 else k) (fun _ => false) (fun _ => false) (e := by simp [hG, List.getD_cons_zero, List.getD_cons_succ, -List.getD_eq_getElem?_getD, pureOp, addL_nil, adQ_self, al_put, enD_nil, wMap]) (h := by simp [hG, pureOp, List.getD_cons_zero, List.getD_cons_succ, -List.getD_eq_getElem?_getD]; exact ⟨⟨fam_same (fun r _ => rfl) (fun _ _ => rfl) (by decide), rowX_le⟩, fun i hi => ⟨app_oneQ (j := 0) rfl hi, app_oneQ (j := 1) rfl hi⟩⟩)
       refine zk (zn (zbn (zr ?_ (h := by intro c K h; simp [hG, List.getD_cons_zero, List.getD_cons_succ, -List.getD_eq_getElem?_getD, pureOp, addL_nil, adQ_self, al_put, enD_nil, wMap]; first | exact z1 c h | exact ⟨.mk c, h⟩))))
       refine zn ?_
       refine round_end ((j + 1, A1, Q2, (alPut Lm1 (l.getD j dRc) ((alGet Lm1 (l.getD j dRc)).getD 0 - 1)), (alPut Mm1 (l.getD j dRc) (max ((alGet Mm1 (l.getD j dRc)).getD 0) ((alGet Mm1 x).getD 0 + 1))))) (⟨by simp only; omega, by simp only; rw [e1, e2]; have h9 := hst; (try simp only at h9); rw [if_neg (by omega)] at h9; exact h9, by (try simp only); rw [al_putD, if_neg (fun e => by have h0 := (hPJ1.q0 x hxK).1 (by simp); (try simp only at h0 hlp); rw [← e] at hlp; omega)]; exact hmx1, by simp only; omega, fun z => by (try simp only); rw [al_putD]; have h1 := hM1 z; split <;> omega⟩) (by simp only; omega) ?_
       exact zi (e := by simp [hG, List.getD_cons_zero, List.getD_cons_succ, -List.getD_eq_getElem?_getD, pureOp, addL_nil, adQ_self, al_put, enD_nil, wMap]) (h := by simp [hG, pureOp, List.getD_cons_zero, List.getD_cons_succ, -List.getD_eq_getElem?_getD]; exact ⟨fam_same (fun r _ => rfl) (fun _ _ => rfl) (by decide), rowX_le⟩)
     refine zo ?_ (hw := by simp [hG, List.getD_cons_zero, List.getD_cons_succ, -List.getD_eq_getElem?_getD, pureOp, addL_nil, adQ_self, al_put, enD_nil, wMap]; (try exact trivial)) (h := by intro c K h; simp [hG, List.getD_cons_zero, List.getD_cons_succ, -List.getD_eq_getElem?_getD, pureOp, addL_nil, adQ_self, al_put, enD_nil, wMap]; first | exact z1 c h | exact ⟨.mk c, h⟩)
     refine za [8] [] 3 [8, 7, 6, 5, 3, 2, 1, 0] ?_ (h := by intro c K h; simp [hG, List.getD_cons_zero, List.getD_cons_succ, -List.getD_eq_getElem?_getD, pureOp, addL_nil, adQ_self, al_put, enD_nil, wMap]; first | exact z1 c h | exact ⟨.mk c, h⟩)
     refine awpA_only (fuel := 2) (i := 4) (by decide +kernel) ?_
     refine zo ?_ (hw := by simp [hG, List.getD_cons_zero, List.getD_cons_succ, -List.getD_eq_getElem?_getD, pureOp, addL_nil, adQ_self, al_put, enD_nil, wMap]; (try exact trivial)) (h := by intro c K h; simp [hG, List.getD_cons_zero, List.getD_cons_succ, -List.getD_eq_getElem?_getD, pureOp, addL_nil, adQ_self, al_put, enD_nil, wMap]; first | exact z1 c h | exact ⟨.mk c, h⟩)
     refine za [9] [] 1 [9, 4, 8, 7, 6, 5, 3, 2, 1, 0] ?_ (h := by intro c K h; simp [hG, List.getD_cons_zero, List.getD_cons_succ, -List.getD_eq_getElem?_getD, pureOp, addL_nil, adQ_self, al_put, enD_nil, wMap]; first | exact z1 c h | exact ⟨.mk c, h⟩)
     refine awpA_only (fuel := 0) (i := 10) (by decide +kernel) ?_
     refine zo ?_ (hw := by simp [hG, List.getD_cons_zero, List.getD_cons_succ, -List.getD_eq_getElem?_getD, pureOp, addL_nil, adQ_self, al_put, enD_nil, wMap]; (try exact trivial)) (h := by intro c K h; simp [hG, List.getD_cons_zero, List.getD_cons_succ, -List.getD_eq_getElem?_getD, pureOp, addL_nil, adQ_self, al_put, enD_nil, wMap]; first | exact z1 c h | exact ⟨.mk c, h⟩)
     refine awpA_done (by decide +kernel) ?_
     refine zs ?_
     refine awpS_draw hR mixed [(4, (6, 0)), (6, (6, 0))] ⟨[], [], []⟩ fun mu0 => ?_
     refine za [0, 1] [] 5 [1, 0] ?_ (h := by intro c K h; simp [hG, List.getD_cons_zero, List.getD_cons_succ, -List.getD_eq_getElem?_getD, pureOp, addL_nil, adQ_self, al_put, enD_nil, wMap]; first | exact z1 c h | exact ⟨.mk c, h⟩)
     refine awpA_two (fuel := 4) (i := 2) (k := 4) (by decide +kernel) ?_ ?_
     · refine zo ?_ (hw := by simp [hG, List.getD_cons_zero, List.getD_cons_succ, -List.getD_eq_getElem?_getD, pureOp, addL_nil, adQ_self, al_put, enD_nil, wMap]; (try exact trivial)) (h := by intro c K h; simp [hG, List.getD_cons_zero, List.getD_cons_succ, -List.getD_eq_getElem?_getD, pureOp, addL_nil, adQ_self, al_put, enD_nil, wMap]; first | exact z1 c h | exact ⟨.mk c, h⟩)
       refine za [3] [(6, 0)] 3 [3, 2, 1, 0] ?_ (h := by intro c K h; simp [hG, List.getD_cons_zero, List.getD_cons_succ, -List.getD_eq_getElem?_getD, pureOp, addL_nil, adQ_self, al_put, enD_nil, wMap]; first | exact z1 c h | exact ⟨.mk c, h⟩)
       refine awpA_only (fuel := 2) (i := 4) (by decide +kernel) ?_
       refine awpO_entry T_ok T61 rfl T3 (id := (6, 0)) (l := mpE rcK intV Lm1) (r := ((alFind Lm1 0 (l.getD j dRc)).map fun p => (p.1, intV p.2))) rfl rfl rfl (by simp [hG, List.getD_cons_zero, List.getD_cons_succ, -List.getD_eq_getElem?_getD, pureOp]) (by simp [hG, List.getD_cons_zero, List.getD_cons_succ, -List.getD_eq_getElem?_getD, pureOp]) (by simp [hG, List.getD_cons_zero, List.getD_cons_succ, -List.getD_eq_getElem?_getD, pureOp]) (by simp [hG, List.getD_cons_zero, List.getD_cons_succ, -List.getD_eq_getElem?_getD, pureOp]) (by simp [hG, List.getD_cons_zero, List.getD_cons_succ, -List.getD_eq_getElem?_getD, pureOp]) (by simp [wOK]) fun K hK q => ?_
       simp [hG, List.getD_cons_zero, List.getD_cons_succ, -List.getD_eq_getElem?_getD, pureOp, mkL]
       refine hK _ ?_
       clear K hK
       refine za [5] [] 1 [5, 4, 3, 2, 1, 0] ?_ (h := by intro c K h; simp [hG, List.getD_cons_zero, List.getD_cons_succ, -List.getD_eq_getElem?_getD, pureOp, addL_nil, adQ_self, al_put, enD_nil, wMap]; first | exact z1 c h | exact ⟨.mk c, h⟩)
       refine awpA_only (fuel := 0) (i := 6) (by decide +kernel) ?_
       refine awpO_estore (id := (6, 0)) (l := mpE rcK intV Lm1) (r := ((alFind Lm1 0 (l.getD j dRc)).map fun p => (p.1, intV p.2))) (q := q) (k := rcK (l.getD j dRc)) (v0 := .int .i64 ((alGet Lm1 (l.getD j dRc)).getD 0)) rfl rfl rfl (by simp [hG, List.getD_cons_zero, List.getD_cons_succ, -List.getD_eq_getElem?_getD, pureOp]) (by simp [hG, List.getD_cons_zero, List.getD_cons_succ, -List.getD_eq_getElem?_getD, pureOp]) alFind_lt2 (by simp [hG, List.getD_cons_zero, List.getD_cons_succ, -List.getD_eq_getElem?_getD, pureOp]) (by simp [hG, List.getD_cons_zero, List.getD_cons_succ, -List.getD_eq_getElem?_getD, pureOp]) (by simp [wOK]) fun K hK => ?_
       simp [hG, List.getD_cons_zero, List.getD_cons_succ, -List.getD_eq_getElem?_getD, pureOp]
       refine hK _ ?_
       clear K hK
       refine awpA_done (by decide +kernel) ?_
       refine zs (zr ?_ (h := by intro c K h; simp [hG, List.getD_cons_zero, List.getD_cons_succ, -List.getD_eq_getElem?_getD, pureOp, addL_nil, adQ_self, al_put, enD_nil, wMap]; first | exact z1 c h | exact ⟨.mk c, h⟩))
       refine zy (fun hb145 => ?_) fun hb145 => ?_
       · refine zr ?_ (h := by intro c K h; simp [hG, List.getD_cons_zero, List.getD_cons_succ, -List.getD_eq_getElem?_getD, pureOp, addL_nil, adQ_self, al_put, enD_nil, wMap]; first | exact z1 c h | exact ⟨.mk c, h⟩)
         refine zn (zbn (zr ?_ (h := by intro c K h; simp [hG, List.getD_cons_zero, List.getD_cons_succ, -List.getD_eq_getElem?_getD, pureOp, addL_nil, adQ_self, al_put, enD_nil, wMap]; first | exact z1 c h | exact ⟨.mk c, h⟩)))
         refine zn ?_
         refine round_end ((j + 1, [], Q2 ++ [(l.getD j dRc)], (alPut Lm1 (l.getD j dRc) ((alGet Lm1 (l.getD j dRc)).getD 0 - 1)), (alPut Mm1 (l.getD j dRc) (max ((alGet Mm1 (l.getD j dRc)).getD 0) ((alGet Mm1 x).getD 0 + 1))))) (⟨by simp only; omega, by simp only; rw [e1, e2]; have h9 := hst; (try simp only at h9); rw [if_pos (by omega)] at h9; exact h9, by (try simp only); rw [al_putD, if_neg (fun e => by have h0 := (hPJ1.q0 x hxK).1 (by simp); (try simp only at h0 hlp); rw [← e] at hlp; omega)]; exact hmx1, by simp, fun z => by (try simp only); rw [al_putD]; have h1 := hM1 z; split <;> omega⟩) (by simp only; omega) ?_
         exact zw (fun k => if k = 8 then 12 else k) (fun _ => false) (fun _ => false) (e := by simp [hG, List.getD_cons_zero, List.getD_cons_succ, -List.getD_eq_getElem?_getD, pureOp, addL_nil, adQ_self, al_put, enD_nil, wMap]) (h := by simp [hG, pureOp, List.getD_cons_zero, List.getD_cons_succ, -List.getD_eq_getElem?_getD]; exact ⟨⟨fam_same (fun r _ => rfl) (fun _ _ => rfl) (by decide), rowX_le⟩, fun i hi => ⟨app_oneQ (j := 0) rfl hi, app_oneQ (j := 1) rfl hi⟩⟩)
       refine zk (zn (zbn (zr ?_ (h := by intro c K h; simp [hG, List.getD_cons_zero, List.getD_cons_succ, -List.getD_eq_getElem?_getD, pureOp, addL_nil, adQ_self, al_put, enD_nil, wMap]; first | exact z1 c h | exact ⟨.mk c, h⟩))))
       refine zn ?_
       refine round_end ((j + 1, A1, Q2, (alPut Lm1 (l.getD j dRc) ((alGet Lm1 (l.getD j dRc)).getD 0 - 1)), (alPut Mm1 (l.getD j dRc) (max ((alGet Mm1 (l.getD j dRc)).getD 0) ((alGet Mm1 x).getD 0 + 1))))) (⟨by simp only; omega, by simp only; rw [e1, e2]; have h9 := hst; (try simp only at h9); rw [if_neg (by omega)] at h9; exact h9, by (try simp only); rw [al_putD, if_neg (fun e => by have h0 := (hPJ1.q0 x hxK).1 (by simp); (try simp only at h0 hlp); rw [← e] at hlp; omega)]; exact hmx1, by simp only; omega, fun z => by (try simp only); rw [al_putD]; have h1 := hM1 z; split <;> omega⟩) (by simp only; omega) ?_
       exact zi (e := by simp [hG, List.getD_cons_zero, List.getD_cons_succ, -List.getD_eq_getElem?_getD, pureOp, addL_nil, adQ_self, al_put, enD_nil, wMap]) (h := by simp [hG, pureOp, List.getD_cons_zero, List.getD_cons_succ, -List.getD_eq_getElem?_getD]; exact ⟨fam_same (fun r _ => rfl) (fun _ _ => rfl) (by decide), rowX_le⟩)
     refine awpO_entry T_ok T61 rfl T3 (id := (6, 0)) (l := mpE rcK intV Lm1) (r := ((alFind Lm1 0 (l.getD j dRc)).map fun p => (p.1, intV p.2))) rfl rfl rfl (by simp [hG, List.getD_cons_zero, List.getD_cons_succ, -List.getD_eq_getElem?_getD, pureOp]) (by simp [hG, List.getD_cons_zero, List.getD_cons_succ, -List.getD_eq_getElem?_getD, pureOp]) (by simp [hG, List.getD_cons_zero, List.getD_cons_succ, -List.getD_eq_getElem?_getD, pureOp]) (by simp [hG, List.getD_cons_zero, List.getD_cons_succ, -List.getD_eq_getElem?_getD, pureOp]) (by simp [hG, List.getD_cons_zero, List.getD_cons_succ, -List.getD_eq_getElem?_getD, pureOp]) (by simp [wOK]) fun K hK q => ?_
     simp [hG, List.getD_cons_zero, List.getD_cons_succ, -List.getD_eq_getElem?_getD, pureOp, mkL]
     refine hK _ ?_
     clear K hK
     refine za [5] [] 3 [5, 4, 1, 0] ?_ (h := by intro c K h; simp [hG, List.getD_cons_zero, List.getD_cons_succ, -List.getD_eq_getElem?_getD, pureOp, addL_nil, adQ_self, al_put, enD_nil, wMap]; first | exact z1 c h | exact ⟨.mk c, h⟩)
     refine awpA_only (fuel := 2) (i := 2) (by decide +kernel) ?_
     refine zo ?_ (hw := by simp [hG, List.getD_cons_zero, List.getD_cons_succ, -List.getD_eq_getElem?_getD, pureOp, addL_nil, adQ_self, al_put, enD_nil, wMap]; (try exact trivial)) (h := by intro c K h; simp [hG, List.getD_cons_zero, List.getD_cons_succ, -List.getD_eq_getElem?_getD, pureOp, addL_nil, adQ_self, al_put, enD_nil, wMap]; first | exact z1 c h | exact ⟨.mk c, h⟩)
     refine za [3] [] 1 [3, 2, 5, 4, 1, 0] ?_ (h := by intro c K h; simp [hG, List.getD_cons_zero, List.getD_cons_succ, -List.getD_eq_getElem?_getD, pureOp, addL_nil, adQ_self, al_put, enD_nil, wMap]; first | exact z1 c h | exact ⟨.mk c, h⟩)
     refine awpA_only (fuel := 0) (i := 6) (by decide +kernel) ?_
     refine awpO_estore (id := (6, 0)) (l := mpE rcK intV Lm1) (r := ((alFind Lm1 0 (l.getD j dRc)).map fun p => (p.1, intV p.2))) (q := q) (k := rcK (l.getD j dRc)) (v0 := .int .i64 ((alGet Lm1 (l.getD j dRc)).getD 0)) rfl rfl rfl (by simp [hG, List.getD_cons_zero, List.getD_cons_succ, -List.getD_eq_getElem?_getD, pureOp]) (by simp [hG, List.getD_cons_zero, List.getD_cons_succ, -List.getD_eq_getElem?_getD, pureOp]) alFind_lt2 (by simp [hG, List.getD_cons_zero, List.getD_cons_succ, -List.getD_eq_getElem?_getD, pureOp]) (by simp [hG, List.getD_cons_zero, List.getD_cons_succ, -List.getD_eq_getElem?_getD, pureOp]) (by simp [wOK]) fun K hK => ?_
     simp [hG, List.getD_cons_zero, List.getD_cons_succ, -List.getD_eq_getElem?_getD, pureOp]
     refine hK _ ?_
     clear K hK
     refine awpA_done (by decide +kernel) ?_
     refine zs (zr ?_ (h := by intro c K h; simp [hG, List.getD_cons_zero, List.getD_cons_succ, -List.getD_eq_getElem?_getD, pureOp, addL_nil, adQ_self, al_put, enD_nil, wMap]; first | exact z1 c h | exact ⟨.mk c, h⟩))
     refine zy (fun hb145 => ?_) fun hb145 => ?_
     · refine zr ?_ (h := by intro c K h; simp [hG, List.getD_cons_zero, List.getD_cons_succ, -List.getD_eq_getElem?_getD, pureOp, addL_nil, adQ_self, al_put, enD_nil, wMap]; first | exact z1 c h | exact ⟨.mk c, h⟩)
       refine zn (zbn (zr ?_ (h := by intro c K h; simp [hG, List.getD_cons_zero, List.getD_cons_succ, -List.getD_eq_getElem?_getD, pureOp, addL_nil, adQ_self, al_put, enD_nil, wMap]; first | exact z1 c h | exact ⟨.mk c, h⟩)))
       refine zn ?_
       refine round_end ((j + 1, [], Q2 ++ [(l.getD j dRc)], (alPut Lm1 (l.getD j dRc) ((alGet Lm1 (l.getD j dRc)).getD 0 - 1)), (alPut Mm1 (l.getD j dRc) (max ((alGet Mm1 (l.getD j dRc)).getD 0) ((alGet Mm1 x).getD 0 + 1))))) (⟨by simp only; omega, by simp only; rw [e1, e2]; have h9 := hst; (try simp only at h9); rw [if_pos (by omega)] at h9; exact h9, by (try simp only); rw [al_putD, if_neg (fun e => by have h0 := (hPJ1.q0 x hxK).1 (by simp); (try simp only at h0 hlp); rw [← e] at hlp; omega)]; exact hmx1, by simp, fun z => by (try simp only); rw [al_putD]; have h1 := hM1 z; split <;> omega⟩) (by simp only; omega) ?_
       exact zw (fun k => if k = 8 then 12 else k) (fun _ => false) (fun _ => false) (e := by simp [hG, List.getD_cons_zero, List.getD_cons_succ, -List.getD_eq_getElem?_getD, pureOp, addL_nil, adQ_self, al_put, enD_nil, wMap]) (h := by simp [hG, pureOp, List.getD_cons_zero, List.getD_cons_succ, -List.getD_eq_getElem?_getD]; exact ⟨⟨fam_same (fun r _ => rfl) (fun _ _ => rfl) (by decide), rowX_le⟩, fun i hi => ⟨app_oneQ (j := 0) rfl hi, app_oneQ (j := 1) rfl hi⟩⟩)
     refine zk (zn (zbn (zr ?_ (h := by intro c K h; simp [hG, List.getD_cons_zero, List.getD_cons_succ, -List.getD_eq_getElem?_getD, pureOp, addL_nil, adQ_self, al_put, enD_nil, wMap]; first | exact z1 c h | exact ⟨.mk c, h⟩))))
     refine zn ?_
     refine round_end ((j + 1, A1, Q2, (alPut Lm1 (l.getD j dRc) ((alGet Lm1 (l.getD j dRc)).getD 0 - 1)), (alPut Mm1 (l.getD j dRc) (max ((alGet Mm1 (l.getD j dRc)).getD 0) ((alGet Mm1 x).getD 0 + 1))))) (⟨by simp only; omega, by simp only; rw [e1, e2]; have h9 := hst; (try simp only at h9); rw [if_neg (by omega)] at h9; exact h9, by (try simp only); rw [al_putD, if_neg (fun e => by have h0 := (hPJ1.q0 x hxK).1 (by simp); (try simp only at h0 hlp); rw [← e] at hlp; omega)]; exact hmx1, by simp only; omega, fun z => by (try simp only); rw [al_putD]; have h1 := hM1 z; split <;> omega⟩) (by simp only; omega) ?_
     exact zi (e := by simp [hG, List.getD_cons_zero, List.getD_cons_succ, -List.getD_eq_getElem?_getD, pureOp, addL_nil, adQ_self, al_put, enD_nil, wMap]) (h := by simp [hG, pureOp, List.getD_cons_zero, List.getD_cons_succ, -List.getD_eq_getElem?_getD]; exact ⟨fam_same (fun r _ => rfl) (fun _ _ => rfl) (by decide), rowX_le⟩)
   obtain rfl : j = l.length := (by omega)
   have hl1 : l.length = (befL c.ws c.q.toNat D x).length := congrArg List.length hl0
   rw [hl1] at hPJ1
   refine zx (ztx (zbx (zn (zbn (zn ?_)))))
   refine round_end ((E ++ [x], A1, Q2, Lm1, Mm1, (alPut Rm x ((alGet Mm x).getD 0)))) (⟨hPJ1.done hclr hxK hxE, by simp only [List.length_append, List.length_singleton]; omega, fun y => by simp only [List.length_append, List.length_singleton]; have := hM1 y; omega, fun y hy => by (try simp only); rw [al_putD]; split; (have := hM x; omega); rename_i hne; exact hRb y ((List.mem_append.1 hy).elim id fun h => absurd (List.mem_singleton.1 h) hne)⟩) (by simp only [List.length_append, List.length_singleton]; omega) ?_
   exact zi (e := by simp [hG, List.getD_cons_zero, List.getD_cons_succ, -List.getD_eq_getElem?_getD, pureOp, addL_nil, adQ_self, al_put, enD_nil, wMap]) (h := by simp [hG, pureOp, List.getD_cons_zero, List.getD_cons_succ, -List.getD_eq_getElem?_getD]; exact ⟨fam_same (fun r _ => rfl) (fun _ _ => rfl) (by decide), rowX_back hro⟩)
 obtain rfl : Q = [] := (by simpa using hb106)
 refine zx (ztx (zbx (zs (zr ?_ (h := by intro c K h; simp [hG, List.getD_cons_zero, List.getD_cons_succ, -List.getD_eq_getElem?_getD, pureOp, addL_nil, adQ_self, al_put, enD_nil, wMap]; first | exact z1 c h | exact ⟨.mk c, h⟩)))))
 refine zt ?_
 refine RetF_of (Rm) (fun k => if k = 0 then 3 else k) (fun _ => false) (fun _ => false) ⟨D, hclr, hbx, hat0, fin_b hv.lt hclr hP hRb⟩ ?_ ?_ (by rfl) (by simp) (fun k hk => absurd hk (Nat.not_lt_zero _))
 · simp [hG, List.getD_cons_zero, List.getD_cons_succ, -List.getD_eq_getElem?_getD, pureOp, addL_nil, adQ_self, al_put, enD_nil, wMap]
 simp [hG, List.getD_cons_zero, List.getD_cons_succ, -List.getD_eq_getElem?_getD, pureOp, addL_nil, adQ_self, al_put, enD_nil, wMap]
end Go.Proofs.Ytoafgeobhhlplaa
