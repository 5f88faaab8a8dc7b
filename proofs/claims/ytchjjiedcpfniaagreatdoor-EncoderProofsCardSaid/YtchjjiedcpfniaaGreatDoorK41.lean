/- Parts of the proof: UJ. -/
import Derived.Test.YtchjjiedcpfniaaGreatDoorK16
import Derived.Test.YtchjjiedcpfniaaGreatDoorK35
import Derived.Test.YtchjjiedcpfniaaGreatDoorK39
import Derived.Test.YtchjjiedcpfniaaGreatDoorK40
namespace Go.Proofs.YtchjjiedcpfniaaGreatDoor
set_option linter.unusedSimpArgs false
set_option linter.unusedVariables false
open Go Go.Lift Go.Proofs
def edK (x : Edge) : AVal := aggL [.int .i64 x.frm, .int .i64 x.lab, .int .i64 x.to]
@[simp] theorem aggL_ed {a b c : Int} : aggL [.int .i64 a, .int .i64 b, .int .i64 c] = edK ⟨a, b, c⟩ := rfl
theorem kEq_ed (a b : Edge) : kEq T 69 (edK a) (edK b) = some (decide (a = b)) := by
  have : kEq T 69 (edK a) (edK b) = some (decide (a.frm = b.frm) && (decide (a.lab = b.lab) && (decide (a.to = b.to) && true))) := by
    simp [edK, aggL]
  rw [this]
  congr 1
  rw [Bool.eq_iff_iff]
  simp only [Bool.and_eq_true, decide_eq_true_eq, Bool.and_true]
  obtain ⟨a1, a2, a3⟩ := a
  obtain ⟨b1, b2, b3⟩ := b
  simp
def luKx := luK
theorem luK_congr {l : List (AVal × AVal)} {f g : Nat → AVal} (h : f 0 = g 0 ∧ f 1 = g 1 ∧ f 2 = g 2) : ∀ i, luK T 69 l i (.agg 3 f) = luK T 69 l i (.agg 3 g) := by
  obtain ⟨h0, h1, h2⟩ := h
  induction l with
  | nil => intro i; rfl
  | cons p l ih =>
    intro i
    obtain ⟨a, v⟩ := p
    have hk : kEq T 69 (.agg 3 f) a = kEq T 69 (.agg 3 g) a := by
      cases a <;> simp [h0, h1, h2]
    simp only [luK, hk, ih (i + 1)]
@[simp] theorem luKed {l : List (Edge × Int)} {f : Nat → AVal} : luK T 69 (mpE edK intV l) 0 (.agg 3 f) = (match f 0, f 1, f 2 with
    | .int .i64 a, .int .i64 b, .int .i64 c => some ((alFind l 0 (⟨a, b, c⟩ : Edge)).map fun p => (p.1, intV p.2))
    | _, _, _ => luKx T 69 (mpE edK intV l) 0 (.agg 3 f)) := by
  split
  · rename_i a b c h0 h1 h2
    rw [← luK_mpE (ek := edK) (ev := intV) kEq_ed l 0 ⟨a, b, c⟩]
    exact luK_congr ⟨h0, h1, h2⟩ 0
  · rfl
@[simp] theorem putK_ei {l : List (Edge × Int)} {k : Edge} {v : Int} : putK (mpE edK intV l) ((alFind l 0 k).map fun p => (p.1, intV p.2)) (edK k) (.int .i64 v) = mpE edK intV (alPut l k v) := putK_mpE (ek := edK) (ev := intV) l k v
@[simp high] theorem HLe_ei {h : Heap} {σ : Lift.Id → Lift.Id} {fz : Nat → Bool} {vz : Lift.Id → Bool} {nx : Nat} {l2 l : List (Edge × Int)} (e : l2 = l) : HLe h σ fz vz nx (.mp (mpE edK intV l2)) (some (.mp (mpE edK intV l))) = True := eq_true (HLe_mpE (ek := edK) (ev := intV) (fun a => by simp [edK, aggL, Clo]) (fun _ => trivial) e)
@[simp] theorem nextM_nil : nextM [] = [] := rfl
theorem folA_take {st : Sb} {t : Int} {w : List UInt8} {b : Nat} (h : b < w.length) (h0 : 0 ≤ folA st t (w.take b)) : folA st t (w.take (b + 1)) = sbTo st (folA st t (w.take b)) (idxB letters (w.getD b 0)) := by
  unfold folA at *
  rw [List.take_succ_eq_append_getElem h, List.foldl_append, getD_get h]
  show (if _ then _ else _) = _
  rw [if_neg (by omega)]
theorem folA_bad {st : Sb} {t : Int} {w : List UInt8} {b : Nat} (h : folA st t (w.take b) < 0) : folA st t w < 0 := by
  have : folA st t w = folA st (folA st t (w.take b)) (w.drop b) := by
    conv => lhs; rw [← List.take_append_drop b w]
    unfold folA
    rw [List.foldl_append]
  rw [this]
  exact folA_neg h
section
variable {e : Enc} {g : Gr} (hv : checkE e = 0) (hvg : gcheck g = 0) (hl : g.labels = e.letters) (h0 : 0 < g.states) (hN : buildN g = 0)
include hvg h0 hN
theorem wst_len : (sbAt g 65).all.length ≤ 64 ∧ (sbAt g 65).es.length ≤ 1024 := sb_done fun ho => by rw [buildN_over hvg h0 ho] at hN; omega
theorem wst_edges : buildG g = ⟨g.labels, (sbAt g 65).all.length, (sbAt g 65).es⟩ := by
  have _h := hvg
  unfold buildG
  rw [if_neg (by omega), if_neg (by omega)]
theorem wst_to : ∀ x ∈ (sbAt g 65).es, 0 ≤ x.to := fun x hx => by
  obtain ⟨t, l, q, rfl, _⟩ := (build_fin hvg h0 hN).edg x hx
  exact Int.natCast_nonneg q
include hv hl
theorem wqok : QOK (InW e (sbAt g 65)) (e.rows.length * (sbAt g 65).all.length) (wi0 e.rows.length) (wiNx e (sbAt g 65)) := wi_ok hv (build_fin hvg h0 hN) hl
theorem wn_le : e.rows.length * (sbAt g 65).all.length ≤ 4096 := by
  have _h := hl
  exact Nat.mul_le_mul (rows_len hv) (wst_len hvg h0 hN).1
theorem wi_len (i : Nat) : (wiQ e (sbAt g 65) i).length ≤ 4096 := Nat.le_trans ((wqok hv hvg hl h0 hN).bd i) (wn_le hv hvg hl h0 hN)
theorem wi0_len {s : Nat} (hs : s ≤ e.rows.length) : (wi0 s).length ≤ 4096 := by
  have h1 := wi0_ext (st := sbAt g 65) (build_fin hvg h0 hN) hs
  exact Nat.le_trans ((wqok hv hvg hl h0 hN).len _ (h1.nd List.nodup_nil) fun p hp => (h1.new p hp).elim (fun hx => by cases hx) id) (wn_le hv hvg hl h0 hN)
theorem wi_at {i : Nat} (hi : i < (wiQ e (sbAt g 65) i).length) : InW e (sbAt g 65) ((wiQ e (sbAt g 65) i).getD i dp) := (wqok hv hvg hl h0 hN).at hi
theorem wiR {i : Nat} (hi : i < (wiQ e (sbAt g 65) i).length) {k : Nat} (hk : k ≤ (e.rows.getD ((wiQ e (sbAt g 65) i).getD i dp).s.toNat []).length) :
    (wiRow e (sbAt g 65) ((wiQ e (sbAt g 65) i).getD i dp) (wiQ e (sbAt g 65) i) k).length ≤ 4096 ∧ (wiRow e (sbAt g 65) ((wiQ e (sbAt g 65) i).getD i dp) (wiQ e (sbAt g 65) i) k).getD i dp = (wiQ e (sbAt g 65) i).getD i dp ∧
      i < (wiRow e (sbAt g 65) ((wiQ e (sbAt g 65) i).getD i dp) (wiQ e (sbAt g 65) i) k).length := by
  have hq := wqok hv hvg hl h0 hN
  have h1 := wiRow_ext hv (build_fin hvg h0 hN) hl (wi_at hv hvg hl h0 hN hi) hk (Q := wiQ e (sbAt g 65) i)
  refine ⟨Nat.le_trans (hq.len _ (h1.nd (hq.ok i).1) fun p hp => (h1.new p hp).elim ((hq.ok i).2 p) id) (wn_le hv hvg hl h0 hN), pre_at h1.pre hi, ?_⟩
  have := h1.pre.length_le
  omega
theorem wi_false {i : Nat} (hi : i < (wiQ e (sbAt g 65) i).length) {k : Nat} (hk : k < (e.rows.getD ((wiQ e (sbAt g 65) i).getD i dp).s.toNat []).length) (h : folA (sbAt g 65) ((wiQ e (sbAt g 65) i).getD i dp).t (cellAt e ((wiQ e (sbAt g 65) i).getD i dp).s.toNat k).word < 0) :
    wiB e (sbAt g 65) = false := by
  have h2 : (wiQ e (sbAt g 65) (e.rows.length * (sbAt g 65).all.length)).any (wiBad e (sbAt g 65)) = true := (wqok hv hvg hl h0 hN).hit hi (by
    unfold wiBad
    rw [List.any_eq_true]
    exact ⟨k, List.mem_range.2 hk, decide_eq_true h⟩)
  unfold wiB
  rw [h2]
  rfl
theorem wi_true {i : Nat} (hi : (wiQ e (sbAt g 65) i).length ≤ i) (hi2 : i ≤ (wiQ e (sbAt g 65) i).length) (h : ∀ j, j < i → wiBad e (sbAt g 65) ((wiQ e (sbAt g 65) i).getD j dp) = false) : wiB e (sbAt g 65) = true := by
  have hb := (wqok hv hvg hl h0 hN).bd i
  have h2 : (wiQ e (sbAt g 65) (e.rows.length * (sbAt g 65).all.length)).any (wiBad e (sbAt g 65)) = false := q_end hi (by unfold wiQ at hi2; omega) h
  unfold wiB
  rw [h2]
  rfl
theorem wi_step {i : Nat} (hi : i < (wiQ e (sbAt g 65) i).length) (hn : ∀ j, j < i → wiBad e (sbAt g 65) ((wiQ e (sbAt g 65) i).getD j dp) = false)
    (hm : ∀ k, k < (e.rows.getD ((wiQ e (sbAt g 65) i).getD i dp).s.toNat []).length → 0 ≤ folA (sbAt g 65) ((wiQ e (sbAt g 65) i).getD i dp).t (cellAt e ((wiQ e (sbAt g 65) i).getD i dp).s.toNat k).word) :
    i + 1 ≤ (wiQ e (sbAt g 65) (i + 1)).length ∧ ∀ j, j < i + 1 → wiBad e (sbAt g 65) ((wiQ e (sbAt g 65) (i + 1)).getD j dp) = false := by
  have h1 := ((wqok hv hvg hl h0 hN).step i).pre
  have h2 := h1.length_le
  refine ⟨by unfold wiQ at *; omega, fun j hj => ?_⟩
  have h3 : (wiQ e (sbAt g 65) (i + 1)).getD j dp = (wiQ e (sbAt g 65) i).getD j dp := pre_at h1 (by unfold wiQ at *; omega)
  rw [h3]
  rcases Nat.lt_succ_iff_lt_or_eq.1 hj with h | rfl
  · exact hn j h
  · unfold wiBad
    rw [List.any_eq_false]
    intro k hk
    have := hm k (List.mem_range.1 hk)
    intro hc
    have := of_decide_eq_true hc
    omega
end
theorem wiQ_succ {e : Enc} {st : Sb} {i : Nat} (h : i < (wiQ e st i).length) : wiQ e st (i + 1) = wiRow e st ((wiQ e st i).getD i dp) (wiQ e st i) (e.rows.getD ((wiQ e st i).getD i dp).s.toNat []).length := qAt_succ h
theorem wiIf_yes {e : Enc} {st : Sb} {p : Pr} {Q : List Pr} {k : Nat} (h : 0 ≤ folA st p.t (cellAt e p.s.toNat k).word) : wiRow e st p Q (k + 1) = losPut (wiRow e st p Q k) ⟨(cellAt e p.s.toNat k).to, folA st p.t (cellAt e p.s.toNat k).word⟩ := by
  rw [wiRow_succ]
  unfold wiIf
  rw [if_neg (by omega)]
theorem wi0_zero : wi0 0 = [] := rfl
theorem wiRow_zero {e : Enc} {st : Sb} {p : Pr} {Q : List Pr} : wiRow e st p Q 0 = Q := rfl
theorem wiQ_zero {e : Enc} {st : Sb} : wiQ e st 0 = wi0 e.rows.length := rfl
theorem states_pos {g : Gr} (hv : gcheck g = 0) (h : ¬ (buildG g).states = 0) : 0 < g.states := by
  have h1 := (gcheck_valid hv).1.st
  refine Classical.byContradiction fun h2 => h ?_
  have h3 : g.states = 0 := by omega
  unfold buildG
  split
  · rfl
  · first | rfl | (rw [if_pos h3])
theorem within0 {e : Enc} {g : Gr} (h : ¬ checkE e = 0 ∨ ¬ gcheck g = 0) : withinB e g = false ∧ 1 = withinN e g := by
  have h1 : withinN e g = 1 := withinN_arg h
  exact ⟨withinB_err (by rw [h1]; decide), h1.symm⟩
theorem within1 {e : Enc} {g : Gr} (hv : checkE e = 0) (hvg : gcheck g = 0) (h : ¬ g.labels = e.letters) : withinB e g = false ∧ 11 = withinN e g := by
  have h1 := withinN_mis hv hvg h
  exact ⟨withinB_err (by rw [h1]; decide), h1.symm⟩
theorem within2 {e : Enc} {g : Gr} (hv : checkE e = 0) (hvg : gcheck g = 0) (hl : g.labels = e.letters) (h : ¬ buildN g = 0) : withinB e g = false ∧ buildN g = withinN e g := by
  have h1 := withinN_ok hv hvg hl
  exact ⟨withinB_err (by rw [h1]; exact h), h1.symm⟩
theorem within3 {e : Enc} {g : Gr} (hv : checkE e = 0) (hvg : gcheck g = 0) (hl : g.labels = e.letters) (hN : buildN g = 0) (h : (buildG g).states = 0) : withinB e g = false ∧ 0 = withinN e g := by
  have h1 := withinN_ok hv hvg hl
  refine ⟨withinB_none fun h0 => ?_, by rw [h1, hN]⟩
  rw [wst_edges hvg h0 hN] at h
  have h2 : (((sbAt g 65).all.length : Nat) : Int) = 0 := h
  have := (build_fin hvg h0 hN).ne
  omega
theorem within4 {e : Enc} {g : Gr} (hv : checkE e = 0) (hvg : gcheck g = 0) (hl : g.labels = e.letters) (h0 : 0 < g.states) (hN : buildN g = 0) {b : Bool} (h : wiB e (sbAt g 65) = b) : withinB e g = b ∧ 0 = withinN e g := by
  have h1 := withinN_ok hv hvg hl
  exact ⟨by rw [withinB_ok (by rw [h1]; exact hN) h0]; exact h, by rw [h1, hN]⟩
theorem next_none {st : Sb} {t k : Int} (h : ∀ x ∈ st.es, 0 ≤ x.to) (hn : alGet (nextM st.es) ⟨t, k, 0⟩ = none) : sbTo st t k < 0 := by
  have h1 := (sbTo_get (t := t) (k := k) h).1
  rw [hn] at h1
  have := of_decide_eq_false h1.symm
  omega
theorem next_some {st : Sb} {t k : Int} (h : ∀ x ∈ st.es, 0 ≤ x.to) (hn : (alGet (nextM st.es) ⟨t, k, 0⟩).isSome = true) : 0 ≤ sbTo st t k ∧ (alGet (nextM st.es) ⟨t, k, 0⟩).getD 0 = sbTo st t k := by
  have h1 := sbTo_get (t := t) (k := k) h
  rw [hn] at h1
  have h2 := of_decide_eq_true h1.1.symm
  exact ⟨h2, by rw [h1.2 h2]; rfl⟩
section
variable {e : Enc} {g : Gr} {st : Sb} (hst : sbAt g 65 = st) (hv : checkE e = 0) (hvg : gcheck g = 0) (hl : g.labels = e.letters) (h0 : 0 < g.states) (hN : buildN g = 0)
include hst hvg h0 hN
theorem vst_len : st.all.length ≤ 64 ∧ st.es.length ≤ 1024 := by subst hst; exact wst_len hvg h0 hN
theorem vst_edges : (buildG g).edges = st.es := by subst hst; rw [wst_edges hvg h0 hN]
theorem vst_to : ∀ x ∈ st.es, 0 ≤ x.to := by subst hst; exact wst_to hvg h0 hN
theorem vst_fin : SbFin g st := by subst hst; exact build_fin hvg h0 hN
include hv hl
theorem v_len (i : Nat) : (wiQ e st i).length ≤ 4096 := by subst hst; exact wi_len hv hvg hl h0 hN i
theorem v_at {i : Nat} (hi : i < (wiQ e st i).length) : InW e st ((wiQ e st i).getD i dp) := by subst hst; exact wi_at hv hvg hl h0 hN hi
theorem vR {i : Nat} (hi : i < (wiQ e st i).length) {k : Nat} (hk : k ≤ (e.rows.getD ((wiQ e st i).getD i dp).s.toNat []).length) :
    (wiRow e st ((wiQ e st i).getD i dp) (wiQ e st i) k).length ≤ 4096 ∧ (wiRow e st ((wiQ e st i).getD i dp) (wiQ e st i) k).getD i dp = (wiQ e st i).getD i dp ∧
      i < (wiRow e st ((wiQ e st i).getD i dp) (wiQ e st i) k).length := by subst hst; exact wiR hv hvg hl h0 hN hi hk
theorem v_false {i : Nat} (hi : i < (wiQ e st i).length) {k : Nat} (hk : k < (e.rows.getD ((wiQ e st i).getD i dp).s.toNat []).length) (h : folA st ((wiQ e st i).getD i dp).t (cellAt e ((wiQ e st i).getD i dp).s.toNat k).word < 0) :
    wiB e st = false := by subst hst; exact wi_false hv hvg hl h0 hN hi hk h
theorem v_true {i : Nat} (hi : (wiQ e st i).length ≤ i) (hi2 : i ≤ (wiQ e st i).length) (h : ∀ j, j < i → wiBad e st ((wiQ e st i).getD j dp) = false) : wiB e st = true := by subst hst; exact wi_true hv hvg hl h0 hN hi hi2 h
theorem v_step {i : Nat} (hi : i < (wiQ e st i).length) (hn : ∀ j, j < i → wiBad e st ((wiQ e st i).getD j dp) = false)
    (hm : ∀ k, k < (e.rows.getD ((wiQ e st i).getD i dp).s.toNat []).length → 0 ≤ folA st ((wiQ e st i).getD i dp).t (cellAt e ((wiQ e st i).getD i dp).s.toNat k).word) :
    i + 1 ≤ (wiQ e st (i + 1)).length ∧ ∀ j, j < i + 1 → wiBad e st ((wiQ e st (i + 1)).getD j dp) = false := by subst hst; exact wi_step hv hvg hl h0 hN hi hn hm
theorem within5 {b : Bool} (h : wiB e st = b) : withinB e g = b ∧ 0 = withinN e g := by subst hst; exact within4 hv hvg hl h0 hN h
end
set_option maxRecDepth 100000 in
theorem losPutC_c (Q : List Pr) (hQ : Q.length ≤ 100000) (p : Pr) : FC1 Tryz.prog 51 [.agg 2 (prF p), .ptr (0, 0) 0 0, .ptr (1, 0) 0 0] [(0, .one (.arr 1 1 (fun _ _ => .map (2, 0)))), (1, .one (.arr 1 1 (fun _ _ => .sl (3, 0) 0 (Q).length))), (2, .one (.mp (mpE prK boolV (seenP (Q))))), (3, .one (.arr (Q).length 2 (fun q j => prF ((Q).getD q dp) j)))] 4 (.tup 0 (fun _ => .any)) [(0, .one (.arr 1 1 (fun _ _ => .map (2, 0)))), (1, .one (.arr 1 1 (fun _ _ => .sl (4, 0) 0 (losPut Q p).length))), (2, .one (.mp (mpE prK boolV (seenP (losPut Q p))))), (4, .one (.arr (losPut Q p).length 2 (fun q j => prF ((losPut Q p).getD q dp) j)))] 5 := by
 refine FC_introS T_ok Tryz.func51 rfl (by simp [Tryz.ntmps51]) fun G hG hR => ?_
 simp only [Tryz.ntmps51, Tryz.results51] at hG ⊢
 simp only [argEnv, Nat.zero_add, Nat.reduceAdd]
 refine zs (zr ?_)
 refine zs (zr ?_)
 refine zy (fun hb7 => ?_) fun hb7 => ?_
 · have hnm := seenP_no hb7
   have hE : losPut Q p = Q ++ [p] := if_neg hnm
   refine zs (zr ?_)
   refine zr ?_
   refine zn ?_
   refine RetF_of (()) (fun k => if k = 4 then 6 else k) (fun _ => false) (fun _ => false) trivial ?_ ?_ (by rfl) (by simp) (fun k hk => ⟨if_neg (by omega), rfl⟩)
   · simp [hG, List.getD_cons_zero, List.getD_cons_succ, -List.getD_eq_getElem?_getD]
   rw [hE]; simp [hG, List.getD_cons_zero, List.getD_cons_succ, -List.getD_eq_getElem?_getD]; exact ⟨of_eq_true (HLe_pr (seenP_put hnm).symm), fun q hq => ⟨pr_app (j := 0) hq rfl, pr_app (j := 1) hq rfl⟩⟩
 have hE : losPut Q p = Q := if_pos (seenP_yes (by simpa using hb7))
 refine zk (zn ?_)
 refine RetF_of (()) (fun k => if k = 4 then 3 else k) (fun _ => false) (fun _ => false) trivial ?_ ?_ (by rfl) (by simp) (fun k hk => ⟨if_neg (by omega), rfl⟩)
 · simp [hG, List.getD_cons_zero, List.getD_cons_succ, -List.getD_eq_getElem?_getD]
 rw [hE]; simp [hG, List.getD_cons_zero, List.getD_cons_succ, -List.getD_eq_getElem?_getD]
set_option maxRecDepth 100000 in
set_option maxHeartbeats 2000000 in
theorem within_c (e : Enc) (g : Gr) : PC Tryz.prog 23 [.agg 4 (encF e), .agg 3 (grF g)] (.tup 2 (fun j => [.bool (withinB e g), .int .i64 (withinN e g)].getD j .any)) := by
 refine zp Tryz.func23 fun G hG hR => ?_
 refine zs (zr ?_ (h := by intro c K h; simp [hG, List.getD_cons_zero, List.getD_cons_succ, -List.getD_eq_getElem?_getD, wi0_zero, wiRow_zero, nextM_nil]; first | exact z1 c h | exact ⟨.mk c, h⟩))
 refine zs (zb (zs (zL (zl 1 ?_ (h := by intro c K h; simp [hG, List.getD_cons_zero, List.getD_cons_succ, -List.getD_eq_getElem?_getD, wi0_zero, wiRow_zero, nextM_nil]; first | exact z1 c h | exact ⟨.mk c, h⟩)))))
 refine zc cal11 (check_c e) ?_ (a := fun hg => by simp [hG, List.getD_cons_zero, List.getD_cons_succ, -List.getD_eq_getElem?_getD, wi0_zero, wiRow_zero, nextM_nil]) (b := fun hg => by simp [hG, List.getD_cons_zero, List.getD_cons_succ, -List.getD_eq_getElem?_getD, wi0_zero, wiRow_zero, nextM_nil]) (h := by intro K h; simp [hG, List.getD_cons_zero, List.getD_cons_succ, -List.getD_eq_getElem?_getD, wi0_zero, wiRow_zero, nextM_nil]; exact h)
 refine zl 3 ?_ (h := by intro c K h; simp [hG, List.getD_cons_zero, List.getD_cons_succ, -List.getD_eq_getElem?_getD, wi0_zero, wiRow_zero, nextM_nil]; first | exact z1 c h | exact ⟨.mk c, h⟩)
 refine zc cal42 (checkC_c g) ?_ (a := fun hg => by first | (simp [hG, List.getD_cons_zero, List.getD_cons_succ, -List.getD_eq_getElem?_getD, wi0_zero, wiRow_zero, nextM_nil]; done) | (simp [-List.getD_eq_getElem?_getD] at hg; done) | (simp [-List.getD_eq_getElem?_getD] at hg; simp [hG, List.getD_cons_zero, List.getD_cons_succ, -List.getD_eq_getElem?_getD, wi0_zero, wiRow_zero, nextM_nil]; first | omega | exact hg | (simp_all [-List.getD_eq_getElem?_getD]; done) | (simp_all [-List.getD_eq_getElem?_getD]; first | exact ⟨rfl, rfl⟩ | exact rfl))) (b := fun hg => by first | (simp [hG, List.getD_cons_zero, List.getD_cons_succ, -List.getD_eq_getElem?_getD, wi0_zero, wiRow_zero, nextM_nil]; done) | (simp [-List.getD_eq_getElem?_getD] at hg; done) | (simp [-List.getD_eq_getElem?_getD] at hg; simp [hG, List.getD_cons_zero, List.getD_cons_succ, -List.getD_eq_getElem?_getD, wi0_zero, wiRow_zero, nextM_nil]; first | omega | exact hg | (simp_all [-List.getD_eq_getElem?_getD]; done) | (simp_all [-List.getD_eq_getElem?_getD]; first | exact ⟨rfl, rfl⟩ | exact rfl))) (h := by intro K h; simp [hG, List.getD_cons_zero, List.getD_cons_succ, -List.getD_eq_getElem?_getD, wi0_zero, wiRow_zero, nextM_nil]; exact h)
 refine zl 3 ?_ (h := by intro c K h; simp [hG, List.getD_cons_zero, List.getD_cons_succ, -List.getD_eq_getElem?_getD, wi0_zero, wiRow_zero, nextM_nil]; first | exact z1 c h | exact ⟨.mk c, h⟩)
 refine zN (zy (fun hb24 => ?_) fun hb24 => ?_)
 · refine zs (zr ?_ (h := by intro c K h; simp [hG, List.getD_cons_zero, List.getD_cons_succ, -List.getD_eq_getElem?_getD, wi0_zero, wiRow_zero, nextM_nil]; first | exact z1 c h | exact ⟨.mk c, h⟩))
   refine zt (zbt ?_)
   refine RetOK_of ?_
   simp [hG, List.getD_cons_zero, List.getD_cons_succ, -List.getD_eq_getElem?_getD, wi0_zero, wiRow_zero, nextM_nil]
   exact within0 hb24
 have hv : checkE e = 0 := hb24.1
 have hvg : gcheck g = 0 := hb24.2
 have h64 := rows_len hv
 refine zs (zr ?_ (h := by intro c K h; simp [hG, List.getD_cons_zero, List.getD_cons_succ, -List.getD_eq_getElem?_getD, wi0_zero, wiRow_zero, nextM_nil]; first | exact z1 c h | exact ⟨.mk c, h⟩))
 refine zy (fun hb33 => ?_) fun hb33 => ?_
 · refine zs (zr ?_ (h := by intro c K h; simp [hG, List.getD_cons_zero, List.getD_cons_succ, -List.getD_eq_getElem?_getD, wi0_zero, wiRow_zero, nextM_nil]; first | exact z1 c h | exact ⟨.mk c, h⟩))
   refine zt (zbt ?_)
   refine RetOK_of ?_
   simp [hG, List.getD_cons_zero, List.getD_cons_succ, -List.getD_eq_getElem?_getD, wi0_zero, wiRow_zero, nextM_nil]
   exact within1 hv hvg hb33
 have hl : g.labels = e.letters := (by omega)
 refine zk (zn (zbn (zs (zL (zl 1 ?_ (h := by intro c K h; simp [hG, List.getD_cons_zero, List.getD_cons_succ, -List.getD_eq_getElem?_getD, wi0_zero, wiRow_zero, nextM_nil]; first | exact z1 c h | exact ⟨.mk c, h⟩))))))
 refine zc cal50 (build_c g) ?_ (a := fun hg => by simp [hG, List.getD_cons_zero, List.getD_cons_succ, -List.getD_eq_getElem?_getD, wi0_zero, wiRow_zero, nextM_nil]) (b := fun hg => by simp [hG, List.getD_cons_zero, List.getD_cons_succ, -List.getD_eq_getElem?_getD, wi0_zero, wiRow_zero, nextM_nil]) (h := by intro K h; simp [hG, List.getD_cons_zero, List.getD_cons_succ, -List.getD_eq_getElem?_getD, wi0_zero, wiRow_zero, nextM_nil]; exact h)
 refine zl 8 ?_ (h := by intro c K h; simp [hG, List.getD_cons_zero, List.getD_cons_succ, -List.getD_eq_getElem?_getD, wi0_zero, wiRow_zero, nextM_nil]; first | exact z1 c h | exact ⟨.mk c, h⟩)
 refine zN (zs (zs (zr ?_ (h := by intro c K h; simp [hG, List.getD_cons_zero, List.getD_cons_succ, -List.getD_eq_getElem?_getD, wi0_zero, wiRow_zero, nextM_nil]; first | exact z1 c h | exact ⟨.mk c, h⟩))))
 refine zy (fun hb46 => ?_) fun hb46 => ?_
 · refine zs (zr ?_ (h := by intro c K h; simp [hG, List.getD_cons_zero, List.getD_cons_succ, -List.getD_eq_getElem?_getD, wi0_zero, wiRow_zero, nextM_nil]; first | exact z1 c h | exact ⟨.mk c, h⟩))
   refine zt ?_
   refine RetOK_of ?_
   simp [hG, List.getD_cons_zero, List.getD_cons_succ, -List.getD_eq_getElem?_getD, wi0_zero, wiRow_zero, nextM_nil]
   exact within2 hv hvg hl hb46
 have hN : buildN g = 0 := (by omega)
 refine zk (zs (zs (zr ?_ (h := by intro c K h; simp [hG, List.getD_cons_zero, List.getD_cons_succ, -List.getD_eq_getElem?_getD, wi0_zero, wiRow_zero, nextM_nil]; first | exact z1 c h | exact ⟨.mk c, h⟩))))
 refine zy (fun hb50 => ?_) fun hb50 => ?_
 · refine zs (zr ?_ (h := by intro c K h; simp [hG, List.getD_cons_zero, List.getD_cons_succ, -List.getD_eq_getElem?_getD, wi0_zero, wiRow_zero, nextM_nil]; first | exact z1 c h | exact ⟨.mk c, h⟩))
   refine zt ?_
   refine RetOK_of ?_
   simp [hG, List.getD_cons_zero, List.getD_cons_succ, -List.getD_eq_getElem?_getD, wi0_zero, wiRow_zero, nextM_nil]
   exact within3 hv hvg hl hN hb50
 have h0 : 0 < g.states := states_pos hvg hb50
 obtain ⟨st, hst⟩ : ∃ st, sbAt g 65 = st := ⟨_, rfl⟩
 have hBE := vst_edges hst hvg h0 hN
 have hwl := vst_len hst hvg h0 hN
 have hfn := vst_fin hst hvg h0 hN
 have hto := vst_to hst hvg h0 hN
 refine zk (zs (zr ?_ (h := by intro c K h; simp [hG, List.getD_cons_zero, List.getD_cons_succ, -List.getD_eq_getElem?_getD, wi0_zero, wiRow_zero, nextM_nil]; first | exact z1 c h | exact ⟨.mk c, h⟩)))
 refine zs (zs (zr ?_ (h := by intro c K h; simp [hG, List.getD_cons_zero, List.getD_cons_succ, -List.getD_eq_getElem?_getD, wi0_zero, wiRow_zero, nextM_nil]; first | exact z1 c h | exact ⟨.mk c, h⟩)))
 refine zb ?_
 refine awpS_loop (α := Nat) (fun k => ⟨[(2, .ptr (0, 0) 0 0), (6, .ptr (2, 0) 0 0), (9, .map (3, 0)), (53, edgesC (buildG g).edges), (54, .int .i64 (buildG g).edges.length), (55, .int .i64 k)], [(0, .one (.arr 1 4 (fun _ => encF e))), (3, .one (.mp (mpE edK intV (nextM ((buildG g).edges.take k)))))], 4⟩) (fun k => k ≤ (buildG g).edges.length) (fun k => (buildG g).edges.length - k) (0) (Nat.zero_le _) ?_ ?_
 · exact zi (e := by simp [hG, List.getD_cons_zero, List.getD_cons_succ, -List.getD_eq_getElem?_getD, wi0_zero, wiRow_zero, nextM_nil]) (h := by simp [hG, List.getD_cons_zero, List.getD_cons_succ, -List.getD_eq_getElem?_getD, wi0_zero, wiRow_zero, nextM_nil])
 rintro k hk
 refine zs (zr ?_ (h := by intro c K h; simp [hG, List.getD_cons_zero, List.getD_cons_succ, -List.getD_eq_getElem?_getD, wi0_zero, wiRow_zero, nextM_nil]; first | exact z1 c h | exact ⟨.mk c, h⟩))
 refine zs (zy (fun hb56 => ?_) fun hb56 => ?_)
 · have hbl : (buildG g).edges.length ≤ 1024 := (by rw [hBE]; exact hwl.2)
   refine zk (zs (zb (zs (zr ?_ (h := by intro c K h; simp [hG, List.getD_cons_zero, List.getD_cons_succ, -List.getD_eq_getElem?_getD, wi0_zero, wiRow_zero, nextM_nil]; first | exact z1 c h | exact ⟨.mk c, h⟩)))))
   refine zr ?_ (h := by intro c K h; simp [hG, List.getD_cons_zero, List.getD_cons_succ, -List.getD_eq_getElem?_getD, wi0_zero, wiRow_zero, nextM_nil]; first | exact z1 c h | exact ⟨.mk c, h⟩)
   refine zn (zbn (zr ?_ (h := by intro c K h; simp [hG, List.getD_cons_zero, List.getD_cons_succ, -List.getD_eq_getElem?_getD, wi0_zero, wiRow_zero, nextM_nil]; first | exact z1 c h | exact ⟨.mk c, h⟩)))
   refine zn ?_
   refine round_end (k + 1) (by omega) (by omega) ?_
   exact zi (e := by simp [hG, List.getD_cons_zero, List.getD_cons_succ, -List.getD_eq_getElem?_getD, wi0_zero, wiRow_zero, nextM_nil]) (h := by simp [hG, List.getD_cons_zero, List.getD_cons_succ, -List.getD_eq_getElem?_getD]; exact of_eq_true (HLe_ei (nextM_put (by rw [hBE]; exact hfn.srt) (by omega)).symm))
 obtain rfl : k = (buildG g).edges.length := (by omega)
 refine zx (ztx (zbx (zs (zr ?_ (h := by intro c K h; simp [hG, List.getD_cons_zero, List.getD_cons_succ, -List.getD_eq_getElem?_getD, wi0_zero, wiRow_zero, nextM_nil]; first | exact z1 c h | exact ⟨.mk c, h⟩)))))
 refine zs (zr ?_ (h := by intro c K h; simp [hG, List.getD_cons_zero, List.getD_cons_succ, -List.getD_eq_getElem?_getD, wi0_zero, wiRow_zero, nextM_nil]; first | exact z1 c h | exact ⟨.mk c, h⟩))
 refine zs (zr ?_ (h := by intro c K h; simp [hG, List.getD_cons_zero, List.getD_cons_succ, -List.getD_eq_getElem?_getD, wi0_zero, wiRow_zero, nextM_nil]; first | exact z1 c h | exact ⟨.mk c, h⟩))
 refine zs (zs (zr ?_ (h := by intro c K h; simp [hG, List.getD_cons_zero, List.getD_cons_succ, -List.getD_eq_getElem?_getD, wi0_zero, wiRow_zero, nextM_nil]; first | exact z1 c h | exact ⟨.mk c, h⟩)))
 refine zb ?_
 refine awpS_loop (α := Nat) (fun s => ⟨[(2, .ptr (0, 0) 0 0), (9, .map (3, 0)), (12, .ptr (5, 0) 0 0), (13, .ptr (6, 0) 0 0), (14, .fn 51 2 (fun j => [.ptr (5, 0) 0 0, .ptr (6, 0) 0 0].getD j .any)), (71, rowsC e.rows), (72, .int .i64 e.rows.length), (73, .int .i64 s)], [(0, .one (.arr 1 4 (fun _ => encF e))), (3, .one (.mp (mpE edK intV (nextM st.es)))), (4, .one (.mp (mpE prK boolV (seenP (wi0 s))))), (5, .one (.arr 1 1 (fun _ _ => .map (4, 0)))), (6, .one (.arr 1 1 (fun _ _ => .sl (7, 0) 0 (wi0 s).length))), (7, .one (.arr (wi0 s).length 2 (fun q j => prF ((wi0 s).getD q dp) j)))], 8⟩) (fun s => s ≤ e.rows.length) (fun s => e.rows.length - s) (0) (Nat.zero_le _) ?_ ?_
 · exact zw (id) (fun _ => false) (fun k => k == 7) (e := by simp [hG, List.getD_cons_zero, List.getD_cons_succ, -List.getD_eq_getElem?_getD, wi0_zero, wiRow_zero, nextM_nil]) (h := by simp [hG, wi0_zero, List.getD_cons_zero, List.getD_cons_succ, -List.getD_eq_getElem?_getD]; exact of_eq_true (HLe_ei (congrArg nextM hBE.symm)))
 rintro s hs
 refine zs (zr ?_ (h := by intro c K h; simp [hG, List.getD_cons_zero, List.getD_cons_succ, -List.getD_eq_getElem?_getD, wi0_zero, wiRow_zero, nextM_nil]; first | exact z1 c h | exact ⟨.mk c, h⟩))
 refine zs (zy (fun hb74 => ?_) fun hb74 => ?_)
 · have hE := wi0_succ (s := s)
   refine zk (zs (zb (zs (zr ?_ (h := by intro c K h; simp [hG, List.getD_cons_zero, List.getD_cons_succ, -List.getD_eq_getElem?_getD, wi0_zero, wiRow_zero, nextM_nil]; first | exact z1 c h | exact ⟨.mk c, h⟩)))))
   refine zL (zl 3 ?_ (h := by intro c K h; simp [hG, List.getD_cons_zero, List.getD_cons_succ, -List.getD_eq_getElem?_getD, wi0_zero, wiRow_zero, nextM_nil]; first | exact z1 c h | exact ⟨.mk c, h⟩))
   refine zf cal51 [5, 6, 4, 7] (losPutC_c (wi0 s) (by have := wi0_len hv hvg hl h0 hN hs; omega) ⟨(s : Int), 0⟩) (fun x hI hno => ?_) (a := by simp [hG, List.getD_cons_zero, List.getD_cons_succ, -List.getD_eq_getElem?_getD, wi0_zero, wiRow_zero, nextM_nil]) (b := by simp [hG, List.range'_succ, List.range'_zero, List.getD_cons_zero, List.getD_cons_succ, -List.getD_eq_getElem?_getD]) (c := by simp [hG, List.getD_cons_zero, List.getD_cons_succ, -List.getD_eq_getElem?_getD, wi0_zero, wiRow_zero, nextM_nil]) (h := by intro K h x hI hno; simp [hG, List.getD_cons_zero, List.getD_cons_succ, -List.getD_eq_getElem?_getD, wi0_zero, wiRow_zero, nextM_nil]; exact h x hI hno)
   refine zN (zn (zbn (zr ?_ (h := by intro c K h; simp [hG, List.getD_cons_zero, List.getD_cons_succ, -List.getD_eq_getElem?_getD, wi0_zero, wiRow_zero, nextM_nil]; first | exact z1 c h | exact ⟨.mk c, h⟩))))
   refine zn ?_
   refine round_end (s + 1) (by omega) (by omega) ?_
   exact zw (fun k => if k = 7 then 8 else k) (fun _ => false) (fun _ => false) (e := by simp [hG, List.getD_cons_zero, List.getD_cons_succ, -List.getD_eq_getElem?_getD, wi0_zero, wiRow_zero, nextM_nil]) (h := by rw [hE]; simp [hG, List.getD_cons_zero, List.getD_cons_succ, -List.getD_eq_getElem?_getD])
 obtain rfl : s = e.rows.length := (by omega)
 refine zx (ztx (zbx (zs (zs (zr ?_ (h := by intro c K h; simp [hG, List.getD_cons_zero, List.getD_cons_succ, -List.getD_eq_getElem?_getD, wi0_zero, wiRow_zero, nextM_nil]; first | exact z1 c h | exact ⟨.mk c, h⟩))))))
 refine zb ?_
 refine awpS_loop (α := Nat) (fun i => ⟨[(2, .ptr (0, 0) 0 0), (9, .map (3, 0)), (12, .ptr (5, 0) 0 0), (13, .ptr (6, 0) 0 0), (14, .fn 51 2 (fun j => [.ptr (5, 0) 0 0, .ptr (6, 0) 0 0].getD j .any)), (16, .int .i64 i)], [(0, .one (.arr 1 4 (fun _ => encF e))), (3, .one (.mp (mpE edK intV (nextM st.es)))), (4, .one (.mp (mpE prK boolV (seenP ((wiQ e st i)))))), (5, .one (.arr 1 1 (fun _ _ => .map (4, 0)))), (6, .one (.arr 1 1 (fun _ _ => .sl (7, 0) 0 ((wiQ e st i)).length))), (7, .one (.arr ((wiQ e st i)).length 2 (fun q j => prF (((wiQ e st i)).getD q dp) j)))], 8⟩) (fun i => i ≤ (wiQ e st i).length ∧ ∀ j, j < i → wiBad e st ((wiQ e st i).getD j dp) = false) (fun i => 4097 - i) (0) (⟨Nat.zero_le _, fun j hj => absurd hj (Nat.not_lt_zero _)⟩) ?_ ?_
 · exact zi (e := by simp [hG, List.getD_cons_zero, List.getD_cons_succ, -List.getD_eq_getElem?_getD, wi0_zero, wiRow_zero, nextM_nil]) (h := by rw [wiQ_zero]; simp [hG, List.getD_cons_zero, List.getD_cons_succ, -List.getD_eq_getElem?_getD])
 rintro i ⟨hi, hn⟩
 have hql := v_len hst hv hvg hl h0 hN i
 refine zs (zs (zr ?_ (h := by intro c K h; simp [hG, List.getD_cons_zero, List.getD_cons_succ, -List.getD_eq_getElem?_getD, wi0_zero, wiRow_zero, nextM_nil]; first | exact z1 c h | exact ⟨.mk c, h⟩)))
 refine zy (fun hb84 => ?_) fun hb84 => ?_
 · have hil : i < (wiQ e st i).length := (by omega)
   have hat := v_at hst hv hvg hl h0 hN hil
   obtain ⟨⟨ha1, ha2⟩, ha3, ha4⟩ := hat
   have hrl := row_len hv (k := ((wiQ e st i).getD i dp).s.toNat) (by omega)
   refine zk (zs (zb (zs ?_)))
   refine awpS_draw hR mixed [] ⟨[], [], []⟩ fun mu0 => ?_
   refine za [0, 1, 2, 3, 4, 5, 6, 7, 8, 9, 10] [] 0 [10, 9, 8, 7, 6, 5, 4, 3, 2, 1, 0] ?_ (h := by intro c K h; simp [hG, List.getD_cons_zero, List.getD_cons_succ, -List.getD_eq_getElem?_getD, wi0_zero, wiRow_zero, nextM_nil]; first | exact z1 c h | exact ⟨.mk c, h⟩)
   refine awpA_done (by decide +kernel) ?_
   refine zb ?_
   refine awpS_loop (α := Nat) (fun k => ⟨[(2, .ptr (0, 0) 0 0), (9, .map (3, 0)), (12, .ptr (5, 0) 0 0), (13, .ptr (6, 0) 0 0), (14, .fn 51 2 (fun j => [.ptr (5, 0) 0 0, .ptr (6, 0) 0 0].getD j .any)), (16, .int .i64 i), (95, cells (e.rows.getD ((wiQ e st i).getD i dp).s.toNat [])), (96, .int .i64 (e.rows.getD ((wiQ e st i).getD i dp).s.toNat []).length), (97, .int .i64 k)], [(0, .one (.arr 1 4 (fun _ => encF e))), (3, .one (.mp (mpE edK intV (nextM st.es)))), (4, .one (.mp (mpE prK boolV (seenP ((wiRow e st ((wiQ e st i).getD i dp) (wiQ e st i) k)))))), (5, .one (.arr 1 1 (fun _ _ => .map (4, 0)))), (6, .one (.arr 1 1 (fun _ _ => .sl (7, 0) 0 ((wiRow e st ((wiQ e st i).getD i dp) (wiQ e st i) k)).length))), (7, .one (.arr ((wiRow e st ((wiQ e st i).getD i dp) (wiQ e st i) k)).length 2 (fun q j => prF (((wiRow e st ((wiQ e st i).getD i dp) (wiQ e st i) k)).getD q dp) j)))], 8⟩) (fun k => k ≤ (e.rows.getD ((wiQ e st i).getD i dp).s.toNat []).length ∧ ∀ j, j < k → 0 ≤ folA st ((wiQ e st i).getD i dp).t (cellAt e ((wiQ e st i).getD i dp).s.toNat j).word) (fun k => (e.rows.getD ((wiQ e st i).getD i dp).s.toNat []).length - k) (0) (⟨Nat.zero_le _, fun j hj => absurd hj (Nat.not_lt_zero _)⟩) ?_ ?_
   · exact zi (e := by simp [hG, List.getD_cons_zero, List.getD_cons_succ, -List.getD_eq_getElem?_getD, wi0_zero, wiRow_zero, nextM_nil]) (h := by simp [hG, List.getD_cons_zero, List.getD_cons_succ, -List.getD_eq_getElem?_getD, wi0_zero, wiRow_zero, nextM_nil])
   rintro k ⟨hk, hm⟩
   refine zs (zr ?_ (h := by intro c K h; simp [hG, List.getD_cons_zero, List.getD_cons_succ, -List.getD_eq_getElem?_getD, wi0_zero, wiRow_zero, nextM_nil]; first | exact z1 c h | exact ⟨.mk c, h⟩))
   refine zs (zy (fun hb98 => ?_) fun hb98 => ?_)
   · have hkl : k < (e.rows.getD ((wiQ e st i).getD i dp).s.toNat []).length := (by omega)
     obtain ⟨hw1, hw2, hw3⟩ := vR hst hv hvg hl h0 hN hil hk
     have hwl2 := cell_wlen hv (s := ((wiQ e st i).getD i dp).s.toNat) (by omega) hkl
     have hbk := (checkE_valid hv).1.block
     refine zk (zs (zb (zs (zr ?_ (h := by intro c K h; simp [hG, List.getD_cons_zero, List.getD_cons_succ, -List.getD_eq_getElem?_getD, wi0_zero, wiRow_zero, nextM_nil]; first | exact z1 c h | exact ⟨.mk c, h⟩)))))
     refine zs (zr ?_ (h := by intro c K h; simp [hG, List.getD_cons_zero, List.getD_cons_succ, -List.getD_eq_getElem?_getD, wi0_zero, wiRow_zero, nextM_nil]; first | exact z1 c h | exact ⟨.mk c, h⟩))
     refine zs (zs (zL (zl 2 ?_ (h := by intro c K h; simp [hG, List.getD_cons_zero, List.getD_cons_succ, -List.getD_eq_getElem?_getD, wi0_zero, wiRow_zero, nextM_nil]; first | exact z1 c h | exact ⟨.mk c, h⟩))))
     refine awpL_stb T_ok ((cellAt e ((wiQ e st i).getD i dp).s.toNat k).word) rfl rfl (by decide) rfl (by simp) fun K hK => ?_
     simp [hG, List.getD_cons_zero, List.getD_cons_succ, -List.getD_eq_getElem?_getD, wi0_zero, wiRow_zero, nextM_nil]
     refine hK _ ?_
     clear K hK
     refine zl 2 ?_ (h := by intro c K h; simp [hG, List.getD_cons_zero, List.getD_cons_succ, -List.getD_eq_getElem?_getD, wi0_zero, wiRow_zero, nextM_nil]; first | exact z1 c h | exact ⟨.mk c, h⟩)
     refine zN (zb ?_)
     refine awpS_loop (α := Nat) (fun b => ⟨[(2, .ptr (0, 0) 0 0), (9, .map (3, 0)), (12, .ptr (5, 0) 0 0), (13, .ptr (6, 0) 0 0), (14, .fn 51 2 (fun j => [.ptr (5, 0) 0 0, .ptr (6, 0) 0 0].getD j .any)), (16, .int .i64 i), (18, .ptr (8, 0) 0 0), (19, .int .i64 (folA st ((wiQ e st i).getD i dp).t ((cellAt e ((wiQ e st i).getD i dp).s.toNat k).word.take b))), (95, cells (e.rows.getD ((wiQ e st i).getD i dp).s.toNat [])), (96, .int .i64 (e.rows.getD ((wiQ e st i).getD i dp).s.toNat []).length), (97, .int .i64 k), (108, Lift.bytes (cellAt e ((wiQ e st i).getD i dp).s.toNat k).word), (109, .int .i64 (cellAt e ((wiQ e st i).getD i dp).s.toNat k).word.length), (110, .int .i64 b)], [(0, .one (.arr 1 4 (fun _ => encF e))), (3, .one (.mp (mpE edK intV (nextM st.es)))), (4, .one (.mp (mpE prK boolV (seenP ((wiRow e st ((wiQ e st i).getD i dp) (wiQ e st i) k)))))), (5, .one (.arr 1 1 (fun _ _ => .map (4, 0)))), (6, .one (.arr 1 1 (fun _ _ => .sl (7, 0) 0 ((wiRow e st ((wiQ e st i).getD i dp) (wiQ e st i) k)).length))), (7, .one (.arr ((wiRow e st ((wiQ e st i).getD i dp) (wiQ e st i) k)).length 2 (fun q j => prF (((wiRow e st ((wiQ e st i).getD i dp) (wiQ e st i) k)).getD q dp) j))), (8, .one (.arr 1 2 (fun _ => cellF (cellAt e ((wiQ e st i).getD i dp).s.toNat k))))], 9⟩) (fun b => b ≤ (cellAt e ((wiQ e st i).getD i dp).s.toNat k).word.length ∧ 0 ≤ (folA st ((wiQ e st i).getD i dp).t ((cellAt e ((wiQ e st i).getD i dp).s.toNat k).word.take b))) (fun b => (cellAt e ((wiQ e st i).getD i dp).s.toNat k).word.length - b) (0) (⟨Nat.zero_le _, ha3⟩) ?_ ?_
     · exact zi (e := by simp [hG, List.getD_cons_zero, List.getD_cons_succ, -List.getD_eq_getElem?_getD]; exact congrArg Pr.t hw2) (h := by simp [hG, List.getD_cons_zero, List.getD_cons_succ, -List.getD_eq_getElem?_getD]; exact ⟨rfl, rfl⟩)
     rintro b ⟨hb, hfb⟩
     refine zs (zr ?_ (h := by intro c K h; simp [hG, List.getD_cons_zero, List.getD_cons_succ, -List.getD_eq_getElem?_getD, wi0_zero, wiRow_zero, nextM_nil]; first | exact z1 c h | exact ⟨.mk c, h⟩))
     refine zs (zy (fun hb111 => ?_) fun hb111 => ?_)
     · have hbl2 : b < (cellAt e ((wiQ e st i).getD i dp).s.toNat k).word.length := (by omega)
       have hst2 := folA_take hbl2 hfb
       refine zk (zs (zb (zs (zr ?_ (h := by intro c K h; simp [hG, List.getD_cons_zero, List.getD_cons_succ, -List.getD_eq_getElem?_getD, wi0_zero, wiRow_zero, nextM_nil]; first | exact z1 c h | exact ⟨.mk c, h⟩)))))
       refine zs (zL (zl 3 ?_ (h := by intro c K h; simp [hG, List.getD_cons_zero, List.getD_cons_succ, -List.getD_eq_getElem?_getD, wi0_zero, wiRow_zero, nextM_nil]; first | exact z1 c h | exact ⟨.mk c, h⟩)))
       refine zc cal41 (idx_c letters ((cellAt e ((wiQ e st i).getD i dp).s.toNat k).word.getD b 0)) ?_ (a := fun hg => by simp [hG, List.getD_cons_zero, List.getD_cons_succ, -List.getD_eq_getElem?_getD, wi0_zero, wiRow_zero, nextM_nil]) (b := fun hg => by simp [hG, List.getD_cons_zero, List.getD_cons_succ, -List.getD_eq_getElem?_getD]; rfl) (h := by intro K h; simp [hG, List.getD_cons_zero, List.getD_cons_succ, -List.getD_eq_getElem?_getD, wi0_zero, wiRow_zero, nextM_nil]; exact h)
       refine zl 7 ?_ (h := by intro c K h; simp [hG, List.getD_cons_zero, List.getD_cons_succ, -List.getD_eq_getElem?_getD, wi0_zero, wiRow_zero, nextM_nil]; first | exact z1 c h | exact ⟨.mk c, h⟩)
       refine zN (zs (zs (zr ?_ (h := by intro c K h; simp [hG, List.getD_cons_zero, List.getD_cons_succ, -List.getD_eq_getElem?_getD, wi0_zero, wiRow_zero, nextM_nil]; first | exact z1 c h | exact ⟨.mk c, h⟩))))
       refine zy (fun hb124 => ?_) fun hb124 => ?_
       · have hng := next_none hto hb124
         have hwf := v_false hst hv hvg hl h0 hN hil hkl (folA_bad (b := b + 1) (by rw [hst2]; exact hng))
         refine zs (zr ?_ (h := by intro c K h; simp [hG, List.getD_cons_zero, List.getD_cons_succ, -List.getD_eq_getElem?_getD, wi0_zero, wiRow_zero, nextM_nil]; first | exact z1 c h | exact ⟨.mk c, h⟩))
         refine zt (zbt (ztt (zbt (zbt (ztt (zbt (zbt (ztt (zbt ?_)))))))))
         refine RetOK_of ?_
         simp [hG, List.getD_cons_zero, List.getD_cons_succ, -List.getD_eq_getElem?_getD, wi0_zero, wiRow_zero, nextM_nil]
         exact within5 hst hv hvg hl h0 hN hwf
       obtain ⟨hns, hnv⟩ := next_some hto hb124
       refine zk (zr ?_ (h := by intro c K h; simp [hG, List.getD_cons_zero, List.getD_cons_succ, -List.getD_eq_getElem?_getD, wi0_zero, wiRow_zero, nextM_nil]; first | exact z1 c h | exact ⟨.mk c, h⟩))
       refine zn (zbn (zr ?_ (h := by intro c K h; simp [hG, List.getD_cons_zero, List.getD_cons_succ, -List.getD_eq_getElem?_getD, wi0_zero, wiRow_zero, nextM_nil]; first | exact z1 c h | exact ⟨.mk c, h⟩)))
       refine zn ?_
       refine round_end (b + 1) (⟨by omega, by rw [hst2]; exact hns⟩) (by omega) ?_
       exact zi (e := by rw [hst2]; simp [hG, List.getD_cons_zero, List.getD_cons_succ, -List.getD_eq_getElem?_getD]; exact hnv) (h := by simp [hG, List.getD_cons_zero, List.getD_cons_succ, -List.getD_eq_getElem?_getD, wi0_zero, wiRow_zero, nextM_nil])
     obtain rfl : b = (cellAt e ((wiQ e st i).getD i dp).s.toNat k).word.length := (by omega)
     have hpos : 0 ≤ folA st ((wiQ e st i).getD i dp).t (cellAt e ((wiQ e st i).getD i dp).s.toNat k).word := (by have h := hfb; rwa [List.take_length] at h)
     refine zx (ztx (zbx (zL (zl 5 ?_ (h := by intro c K h; simp [hG, List.getD_cons_zero, List.getD_cons_succ, -List.getD_eq_getElem?_getD, wi0_zero, wiRow_zero, nextM_nil]; first | exact z1 c h | exact ⟨.mk c, h⟩)))))
     refine zf cal51 [5, 6, 4, 7] (losPutC_c (wiRow e st ((wiQ e st i).getD i dp) (wiQ e st i) k) (by omega) ⟨(cellAt e ((wiQ e st i).getD i dp).s.toNat k).to, folA st ((wiQ e st i).getD i dp).t (cellAt e ((wiQ e st i).getD i dp).s.toNat k).word⟩) (fun x hI hno => ?_) (a := by simp [hG, List.getD_cons_zero, List.getD_cons_succ, -List.getD_eq_getElem?_getD, wi0_zero, wiRow_zero, nextM_nil]) (b := by simp [hG, List.range'_succ, List.range'_zero, List.getD_cons_zero, List.getD_cons_succ, -List.getD_eq_getElem?_getD]) (c := by simp [hG, List.getD_cons_zero, List.getD_cons_succ, -List.getD_eq_getElem?_getD, wi0_zero, wiRow_zero, nextM_nil]) (h := by intro K h x hI hno; simp [hG, List.getD_cons_zero, List.getD_cons_succ, -List.getD_eq_getElem?_getD, wi0_zero, wiRow_zero, nextM_nil]; exact h x hI hno)
     refine zN (zn (zbn (zr ?_ (h := by intro c K h; simp [hG, List.getD_cons_zero, List.getD_cons_succ, -List.getD_eq_getElem?_getD, wi0_zero, wiRow_zero, nextM_nil]; first | exact z1 c h | exact ⟨.mk c, h⟩))))
     refine zn ?_
     refine round_end (k + 1) (⟨by omega, step_all hm hpos⟩) (by omega) ?_
     exact zw (fun k => if k = 7 then 9 else k) (fun _ => false) (fun _ => false) (e := by simp [hG, List.getD_cons_zero, List.getD_cons_succ, -List.getD_eq_getElem?_getD, wi0_zero, wiRow_zero, nextM_nil]) (h := by rw [wiIf_yes hpos]; simp [hG, List.getD_cons_zero, List.getD_cons_succ, -List.getD_eq_getElem?_getD])
   obtain rfl : k = (e.rows.getD ((wiQ e st i).getD i dp).s.toNat []).length := (by omega)
   have hE := wiQ_succ hil
   refine zx (ztx (zbx (zn (zbn (zr ?_ (h := by intro c K h; simp [hG, List.getD_cons_zero, List.getD_cons_succ, -List.getD_eq_getElem?_getD, wi0_zero, wiRow_zero, nextM_nil]; first | exact z1 c h | exact ⟨.mk c, h⟩))))))
   refine zn ?_
   refine round_end (i + 1) (v_step hst hv hvg hl h0 hN hil hn hm) (by omega) ?_
   exact zi (e := by simp [hG, List.getD_cons_zero, List.getD_cons_succ, -List.getD_eq_getElem?_getD, wi0_zero, wiRow_zero, nextM_nil]) (h := by rw [hE]; simp [hG, List.getD_cons_zero, List.getD_cons_succ, -List.getD_eq_getElem?_getD])
 refine zx (ztx (zbx (zs (zr ?_ (h := by intro c K h; simp [hG, List.getD_cons_zero, List.getD_cons_succ, -List.getD_eq_getElem?_getD, wi0_zero, wiRow_zero, nextM_nil]; first | exact z1 c h | exact ⟨.mk c, h⟩)))))
 refine zt ?_
 refine RetOK_of ?_
 simp [hG, List.getD_cons_zero, List.getD_cons_succ, -List.getD_eq_getElem?_getD, wi0_zero, wiRow_zero, nextM_nil]
 exact within5 hst hv hvg hl h0 hN (v_true hst hv hvg hl h0 hN (by omega) hi hn)
end Go.Proofs.YtchjjiedcpfniaaGreatDoor
