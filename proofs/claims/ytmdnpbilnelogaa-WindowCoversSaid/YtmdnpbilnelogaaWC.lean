/-
  Walks: maps.All, Build.
-/
import Derived.Test.YtmdnpbilnelogaaWB
import Derived.Test.YtmdnpbilnelogaaSE
namespace Go.Proofs.Ytmdnpbilnelogaa
set_option linter.unusedSimpArgs false
set_option linter.unusedVariables false
open Go Go.Lift Go.Proofs

@[simp] theorem mpE_len {α β : Type} {ek : α → AVal} {ev : β → AVal} {l : List (α × β)} : (mpE ek ev l).length = l.length := List.length_map ..
theorem HLe_mm {α β : Type} {ek : α → AVal} {ev : β → AVal} (h1 : ∀ a, Clo (ek a)) (h2 : ∀ b, Clo (ev b)) {h : Heap} {σ : Lift.Id → Lift.Id} {fz : Nat → Bool} {vz : Lift.Id → Bool} {nx : Nat} {q : MQ} {l : List (α × β)} : HLe h σ fz vz nx (.mi q (mpE ek ev l)) (some (.mi q (mpE ek ev l))) ∧ HLe h σ fz vz nx (.mp (mpE ek ev l)) (some (.mi q (mpE ek ev l))) := by
  have := HLe_mpE (h := h) (σ := σ) (fz := fz) (vz := vz) (nx := nx) h1 h2 (rfl : l = l)
  exact ⟨⟨rfl, this.1, this.2⟩, this⟩
@[simp high] theorem HLe_si_mm {h : Heap} {σ : Lift.Id → Lift.Id} {fz : Nat → Bool} {vz : Lift.Id → Bool} {nx : Nat} {q : MQ} {l : List (List UInt8 × Int)} : HLe h σ fz vz nx (.mi q (mpE strK intV l)) (some (.mi q (mpE strK intV l))) = True := eq_true (HLe_mm (ek := strK) (ev := intV) (fun _ => trivial) (fun _ => trivial)).1
@[simp high] theorem HLe_si_mp {h : Heap} {σ : Lift.Id → Lift.Id} {fz : Nat → Bool} {vz : Lift.Id → Bool} {nx : Nat} {q : MQ} {l : List (List UInt8 × Int)} : HLe h σ fz vz nx (.mp (mpE strK intV l)) (some (.mi q (mpE strK intV l))) = True := eq_true (HLe_mm (ek := strK) (ev := intV) (fun _ => trivial) (fun _ => trivial)).2
@[simp high] theorem HLe_it {h : Heap} {σ : Lift.Id → Lift.Id} {fz : Nat → Bool} {vz : Lift.Id → Bool} {nx : Nat} {q : MQ} {l : List Nat} {c : Option Nat} : HLe h σ fz vz nx (.ob (itP q l none)) (some (.ob (itP q l c))) = True := eq_true fun b x hx => by
  obtain ⟨seen, h1, h2, h3, h4, _⟩ := hx
  exact ⟨seen, h1, h2, h3, h4, fun i e => by cases e⟩
def dw : List UInt8 × Int := ([], 0)
def enS (p : List UInt8 × Int) (j : Nat) : AVal := match j with
  | 0 => .str p.1
  | _ => .int .i64 p.2
@[simp] theorem enS_zero {p : List UInt8 × Int} : enS p 0 = .str p.1 := rfl
@[simp] theorem enS_one {p : List UInt8 × Int} : enS p 1 = .int .i64 p.2 := rfl
theorem enF_mp {m : List (List UInt8 × Int)} {i : Nat} (h : i < m.length) : enF (mpE strK intV m) i = enS (m.getD i dw) := by
  have hg : (mpE strK intV m).getD i (.any, .any) = (.str (m.getD i dw).1, .int .i64 (m.getD i dw).2) := by
    simp [mpE, List.getD, h]
    exact ⟨rfl, rfl⟩
  funext j
  cases j with
  | zero => show ((mpE strK intV m).getD i (.any, .any)).1 = _; rw [hg]; rfl
  | succ j => show ((mpE strK intV m).getD i (.any, .any)).2 = _; rw [hg]; rfl
/-- entries of a map, in an order. -/
def ordL (m : List (List UInt8 × Int)) (o : List Nat) : List Ent := o.map fun i => mkE (m.getD i dw)
theorem ordL_snoc {m : List (List UInt8 × Int)} {o : List Nat} {i : Nat} : ordL m (o ++ [i]) = ordL m o ++ [⟨(m.getD i dw).1, (m.getD i dw).2⟩] := by simp [ordL, mkE]
theorem ordL_len {m : List (List UInt8 × Int)} {o : List Nat} : (ordL m o).length = o.length := List.length_map ..
theorem ordL_perm {m : List (List UInt8 × Int)} {o : List Nat} (h : o.Perm (List.range m.length)) : (ordL m o).Perm (m.map mkE) := by
  have h1 : (ordL m o).Perm (ordL m (List.range m.length)) := h.map _
  have h2 : ordL m (List.range m.length) = m.map mkE := by
    unfold ordL
    apply List.ext_getElem
    · simp
    · intro i hi1 hi2
      have hi : i < m.length := by simpa using hi2
      simp [List.getD, hi]
  rw [← h2]; exact h1
theorem left_step {n : Nat} {done left : List Nat} {i : Nat} (h : (done ++ left).Perm (List.range n)) (hi : i ∈ left) : ((done ++ [i]) ++ left.erase i).Perm (List.range n) ∧ (left.erase i).length < left.length := by
  refine ⟨List.Perm.trans ?_ h, by rw [List.length_erase_of_mem hi]; have := List.length_pos_of_mem hi; omega⟩
  rw [List.append_assoc]
  exact (List.perm_cons_erase hi).symm.append_left done
theorem done_len {n : Nat} {done left : List Nat} (h : (done ++ left).Perm (List.range n)) : done.length + left.length = n := by
  have := h.length_eq
  simpa using this
theorem getD_app {α : Type} {X Y : List α} {i : Nat} {d : α} : (X ++ Y).getD i d = if i < X.length then X.getD i d else Y.getD (i - X.length) d := by
  simp only [List.getD_eq_getElem?_getD, List.getElem?_append]
  split <;> rfl
theorem app_ent {X : List Ent} {r : Ent} {i j : Nat} {w : Nat → Nat → AVal} (hi : i < X.length + 1) (hw : w 0 j = entF r j) : app (fun q j => entF (X.getD q den) j) X.length w i j = entF ((X ++ [r]).getD i den) j := by
  rw [getD_app]
  unfold app
  by_cases h2 : i < X.length
  · rw [if_pos h2, if_pos h2]
  · have : i - X.length = 0 := by omega
    rw [if_neg h2, if_neg h2, this, hw]
    rfl
theorem ordL_nil {m : List (List UInt8 × Int)} : ordL m [] = [] := rfl
theorem nx_some {left : List Nat} {n : Nat} {c : Option Nat} (h : nxOK left n c) (hs : c.isSome = true) : ∃ i, c = some i ∧ i ∈ left ∧ i < n := by
  obtain ⟨i, rfl⟩ := Option.isSome_iff_exists.1 hs
  exact ⟨i, rfl, h⟩
theorem nx_none {left : List Nat} {n : Nat} {c : Option Nat} (h : nxOK left n c) (hs : c = none) : left = [] := by
  subst hs; exact h
theorem follow_len {e : Enc} (hv : checkE e = 0) {p n : Nat} : ∀ (k : Nat) {s : Nat} {w : List UInt8} {i : Int}, s < e.rows.length → (follow e p n k s w i).length = e.inputs.toNat ^ k
  | 0, s, w, i, _ => rfl
  | k + 1, s, w, i, hs => by
    have hr := row_eq hv hs
    have hin := (checkE_valid hv).1.inputs
    simp only [follow, List.length_flatMap]
    have : (List.map (fun c => (follow e p n k (cellAt e s c).to.toNat (w ++ (cellAt e s c).word) (if n - (k + 1) = p then (c : Int) else i)).length) (List.range (e.rows.getD s []).length)) = List.replicate (e.rows.getD s []).length (e.inputs.toNat ^ k) := by
      apply List.ext_getElem
      · simp
      · intro j hj1 hj2
        have hj : j < (e.rows.getD s []).length := by simpa using hj2
        have hc := cell_to hv hs hj
        simp only [List.getElem_map, List.getElem_range, List.getElem_replicate]
        exact follow_len hv k (by omega)
    rw [this, List.sum_replicate_nat, Nat.pow_succ, Nat.mul_comm]
    congr 1
    omega
theorem paths_len {e : Enc} (hv : checkE e = 0) {p f : Nat} : (pathsL e p f).length = cntN e (p + 1 + f) := by
  unfold pathsL cntN
  simp only [List.length_flatMap]
  have : (List.map (fun s => (follow e p (p + 1 + f) (p + 1 + f) s [] 0).length) (List.range e.rows.length)) = List.replicate e.rows.length (e.inputs.toNat ^ (p + 1 + f)) := by
    apply List.ext_getElem
    · simp
    · intro j hj1 hj2
      have hj : j < e.rows.length := by simpa using hj2
      simp only [List.getElem_map, List.getElem_range, List.getElem_replicate]
      exact follow_len hv _ hj
  rw [this, List.sum_replicate_nat]
theorem go_len : ∀ (L : List Ent) {m : List Ent}, (goS stepE m L).1.length ≤ m.length + L.length
  | [], m => Nat.le_refl _
  | x :: L, m => by
    have h1 : (stepE m x).1.length ≤ m.length + 1 := by
      unfold stepE
      cases lookE m x.win with
      | some k => exact Nat.le_succ _
      | none => rw [(putE_perm (l := m) (x := x)).length_eq]; exact Nat.le_refl _
    simp only [goS]
    split
    · simp only [List.length_cons]; omega
    · have := go_len L (m := (stepE m x).1)
      simp only [List.length_cons]; omega
theorem built_len {e : Enc} (hv : checkE e = 0) {p f : Nat} (hm : manyB e (p + 1 + f) = false) : (builtE e p f).1.length ≤ 65536 := by
  have h1 := go_len (pathsL e p f) (m := [])
  rw [paths_len hv] at h1
  simp only [manyB, decide_eq_false_iff_not, Nat.not_lt] at hm
  unfold builtE
  simp only [List.length_nil] at h1
  omega
theorem built_pos {e : Enc} (hv : checkE e = 0) {p f : Nat} (h : (builtE e p f).2 = false) : 0 < (builtE e p f).1.length := by
  have h1 := paths_len hv (p := p) (f := f)
  have hr := (checkE_valid hv).2.1
  have hin := (checkE_valid hv).1.inputs
  have h2 : 0 < cntN e (p + 1 + f) := Nat.mul_pos hr (Nat.pow_pos (by omega))
  cases hp : pathsL e p f with
  | nil => rw [hp] at h1; simp only [List.length_nil] at h1; omega
  | cons x L => exact List.length_pos_of_mem ((built_mem h x).2 (by rw [hp]; exact List.mem_cons_self ..))
/-- what the sort hands back. -/
theorem sort_fin {y l L : List Ent} (hy : y.Perm L) (hL : L.Perm l) (ha : Asc l) (hs : ∀ i j, i < j → j < y.length → ¬ cmpN (y.getD j den) (y.getD i den) < 0) : y = l := by
  have hp := hy.trans hL
  refine asc_ext (List.pairwise_iff_getElem.2 fun i j hi hj hij => ?_) ha hp
  have h1 := hs i j hij hj
  have hgi : y.getD i den = y[i] := by simp [List.getD, hi]
  have hgj : y.getD j den = y[j] := by simp [List.getD, hj]
  rw [hgi, hgj] at h1
  unfold cmpN at h1
  rw [cmpS_neg] at h1
  cases h2 : Op.bytesLess y[i].win y[j].win with
  | true => rfl
  | false =>
    have e := less_total h2 (by simpa using h1)
    have e2 := asc_inj ha (hp.mem_iff.1 (List.getElem_mem hi)) (hp.mem_iff.1 (List.getElem_mem hj)) e
    have hn : y.Nodup := hp.nodup_iff.2 (List.nodup_iff_pairwise_ne.2 (ha.imp fun hab e => by rw [e, less_irrefl] at hab; cases hab))
    have := (List.getElem_inj hn).1 e2
    omega
set_option maxRecDepth 100000 in
theorem paths0_c (e : Enc) (p f : Nat) : PC Try.prog 39 [.agg 4 (encF e), .int .i64 (p : Nat), .int .i64 (f : Nat)] (.fn 56 3 (fun j => [.vptr 1 (fun _ => .int .i64 (p : Nat)) 0, .vptr 1 (fun _ => .int .i64 (f : Nat)) 0, .vptr 4 (encF e) 0].getD j .any)) := by
  refine PC_introS T_ok Try.func39 rfl (by simp [Try.ntmps39]) fun G hG hR => ?_
  simp only [Try.ntmps39, Try.results39] at hG ⊢
  simp only [argEnv, Nat.zero_add, Nat.reduceAdd]
  refine awpS_seq ?_
  refine awpS_reg T_ok fun K hK => ?_
  simp [hG, List.getD_cons_zero, List.getD_cons_succ, -List.getD_eq_getElem?_getD]
  refine ⟨Cond.mk (by simp [-List.getD_eq_getElem?_getD]), hK _ ?_⟩
  clear K hK
  refine awpS_seq ?_
  refine awpS_reg T_ok fun K hK => ?_
  simp [hG, List.getD_cons_zero, List.getD_cons_succ, -List.getD_eq_getElem?_getD]
  refine hK _ ?_
  clear K hK
  refine awpS_ret ?_
  refine RetOK_of ?_
  simp [hG, List.getD_cons_zero, List.getD_cons_succ, -List.getD_eq_getElem?_getD]

set_option maxRecDepth 100000 in
theorem all0_c (m : List (List UInt8 × Int)) : FC1 Try.prog 40 [.map (0, 0)] [(0, .one (.mp (mpE strK intV m)))] 1 (.fn 58 1 (fun _ => .ptr (1, 0) 0 0)) [(0, .one (.mp (mpE strK intV m))), (1, .one (.arr 1 1 (fun _ _ => .map (0, 0))))] 2 := by
  refine FC_introS T_ok Try.func40 rfl (by simp [Try.ntmps40]) fun G hG hR => ?_
  simp only [Try.ntmps40, Try.results40] at hG ⊢
  simp only [argEnv, Nat.zero_add, Nat.reduceAdd]
  refine awpS_seq ?_
  refine awpS_reg T_ok fun K hK => ?_
  simp [hG, List.getD_cons_zero, List.getD_cons_succ, -List.getD_eq_getElem?_getD]
  refine hK _ ?_
  clear K hK
  refine awpS_seq ?_
  refine awpS_reg T_ok fun K hK => ?_
  simp [hG, List.getD_cons_zero, List.getD_cons_succ, -List.getD_eq_getElem?_getD]
  refine hK _ ?_
  clear K hK
  refine awpS_ret ?_
  refine RetF_of (()) (id) (fun _ => false) (fun _ => false) trivial ?_ ?_ (by rfl) (by simp) (fun k hk => ⟨rfl, rfl⟩)
  · simp [hG, List.getD_cons_zero, List.getD_cons_succ, -List.getD_eq_getElem?_getD]
  · simp [hG, List.getD_cons_zero, List.getD_cons_succ, -List.getD_eq_getElem?_getD]

set_option maxRecDepth 100000 in
theorem bodyD_y (e : Enc) (p f : Nat) (L : List Ent) (x : Ent) (hL : L.length ≤ 100000) {l : Nat} {rec : Loop} {vs : Array Value} (hok : RecOK rec [13] vs #[81, 82] (rngA Try.f13.body 1) (rngB Try.f13.body 1) 95) : YC Try.prog l rec vs ([.str x.win, .int .i64 x.inp] ++ [.ptr (1, 0) 0 0]) ((0, .one (.ob (lpP l rec none))) :: [(1, .one (.arr 1 6 (fun _ j => [.int .i64 e.letters, .int .i64 e.block, .int .i64 e.inputs, .int .i64 (p : Nat), .int .i64 (f : Nat), .sl (2, 0) 0 (L).length].getD j .any))), (2, .one (.arr (L).length 2 (fun i j => entF ((L).getD i den) j)))]) 3 (fun _ : Unit => True) (fun _ : Unit => .bool ((none : Option Code)).isNone) (fun _ : Unit => (0, .one (.ob (lpP l rec ((none : Option Code))))) :: [(1, .one (.arr 1 6 (fun _ j => [.int .i64 e.letters, .int .i64 e.block, .int .i64 e.inputs, .int .i64 (p : Nat), .int .i64 (f : Nat), .sl (3, 0) 0 (L ++ [x]).length].getD j .any))), (3, .one (.arr (L ++ [x]).length 2 (fun i j => entF ((L ++ [x]).getD i den) j)))]) (fun _ : Unit => 4) := by
  refine YC_introJ hok rfl rfl rfl (by simp) rfl (by simp) (by simp) (by decide) fun G hG hR => ?_
  show AwpS _ _ _ _ _ ⟨[(82, .int .i64 x.inp), (81, .str x.win), (13, .ptr (1, 0) 0 0)], [(1, .one (.arr 1 6 (fun _ j => [.int .i64 e.letters, .int .i64 e.block, .int .i64 e.inputs, .int .i64 (p : Nat), .int .i64 (f : Nat), .sl (2, 0) 0 (L).length].getD j .any))), (2, .one (.arr (L).length 2 (fun i j => entF ((L).getD i den) j)))], 3⟩
  refine awpS_seq ?_
  refine awpS_reg T_ok fun K hK => ?_
  simp [hG, List.getD_cons_zero, List.getD_cons_succ, -List.getD_eq_getElem?_getD]
  refine hK _ ?_
  clear K hK
  refine awpS_reg T_ok fun K hK => ?_
  simp [hG, List.getD_cons_zero, List.getD_cons_succ, -List.getD_eq_getElem?_getD]
  refine hK _ ?_
  clear K hK
  refine awpS_nil ?_
  refine ⟨rfl, fun G hG hR => ?_⟩
  refine awpS_block ?_
  refine awpS_reg T_ok fun K hK => ?_
  simp [hG, List.getD_cons_zero, List.getD_cons_succ, -List.getD_eq_getElem?_getD]
  refine ⟨Cond.mk (by simp [-List.getD_eq_getElem?_getD]; omega), hK _ ?_⟩
  clear K hK
  refine awpS_nil ?_
  refine blockQ_norm (thenQ_norm ?_)
  refine awpS_nil ?_
  refine RetYJ_of (()) (fun k => if k = 3 then 4 else k) (fun _ => false) (fun _ => false) trivial (rfl) ?_ (by rfl) (by simp) (fun k hk => ⟨if_neg (by omega), rfl⟩)
  · simp [hG, List.getD_cons_zero, List.getD_cons_succ, -List.getD_eq_getElem?_getD]; exact fun i hi => ⟨app_ent (j := 0) hi rfl, app_ent (j := 1) hi rfl⟩

set_option maxRecDepth 100000 in
theorem allD_c (l : Nat) (rec : Loop) (vs : Array Value) (hok : RecOK rec [13] vs #[81, 82] (rngA Try.f13.body 1) (rngB Try.f13.body 1) 95) (e : Enc) (p f : Nat) (m : List (List UInt8 × Int)) (hm : m.length ≤ 70000) : FC Try.prog 58 [.yld l vs 1 (fun j => [.ptr (1, 0) 0 0].getD j .any), .ptr (4, 0) 0 0] [(0, .one (.ob (lpP l rec (none)))), (1, .one (.arr 1 6 (fun _ j => [.int .i64 e.letters, .int .i64 e.block, .int .i64 e.inputs, .int .i64 (p : Nat), .int .i64 (f : Nat), .sl (2, 0) 0 (([] : List Ent)).length].getD j .any))), (2, .one (.arr (([] : List Ent)).length 2 (fun i j => entF ((([] : List Ent)).getD i den) j))), (3, .one (.mp (mpE strK intV m))), (4, .one (.arr 1 1 (fun _ _ => .map (3, 0))))] 5 (fun o : List Nat => o.Perm (List.range m.length)) (fun o : List Nat => .tup 0 (fun _ => .any)) (fun o : List Nat => [(0, .one (.ob (lpP l rec (none)))), (1, .one (.arr 1 6 (fun _ j => [.int .i64 e.letters, .int .i64 e.block, .int .i64 e.inputs, .int .i64 (p : Nat), .int .i64 (f : Nat), .sl (5, 0) 0 (ordL m o).length].getD j .any))), (5, .one (.arr (ordL m o).length 2 (fun i j => entF ((ordL m o).getD i den) j))), (3, .one (.mp (mpE strK intV m))), (4, .one (.arr 1 1 (fun _ _ => .map (3, 0))))]) (fun o : List Nat => 6) := by
  refine FC_introS T_ok Try.func58 rfl (by simp [Try.ntmps58]) fun G hG hR => ?_
  simp only [Try.ntmps58, Try.results58] at hG ⊢
  simp only [argEnv, Nat.zero_add, Nat.reduceAdd]
  refine awpS_seq ?_
  refine awpS_regL ?_
  refine awpL_reg T_ok 1 fun K hK => ?_
  simp [hG, List.getD_cons_zero, List.getD_cons_succ, -List.getD_eq_getElem?_getD, ordL_nil]
  refine hK _ ?_
  clear K hK
  refine awpL_range (id := (3, 0)) Try.underlying70 rfl rfl rfl rfl trivial fun K hK q hq => ?_
  simp [hG, List.getD_cons_zero, List.getD_cons_succ, -List.getD_eq_getElem?_getD, ordL_nil]
  refine hK _ ?_
  clear K hK
  refine awpL_nil ?_
  refine awpS_block ?_
  refine awpS_loop (α := List Nat × List Nat) (fun z => ⟨[(0, .yld l vs 1 (fun j => [.ptr (1, 0) 0 0].getD j .any)), (1, .ptr (4, 0) 0 0), (6, .ptr (6, 0) 0 0)], [(0, .one (.ob (lpP l rec (none)))), (1, .one (.arr 1 6 (fun _ j => [.int .i64 e.letters, .int .i64 e.block, .int .i64 e.inputs, .int .i64 (p : Nat), .int .i64 (f : Nat), .sl (5, 0) 0 (ordL m z.1).length].getD j .any))), (5, .one (.arr (ordL m z.1).length 2 (fun i j => entF ((ordL m z.1).getD i den) j))), (3, .one (.mi q (mpE strK intV m))), (4, .one (.arr 1 1 (fun _ _ => .map (3, 0)))), (6, .one (.ob (itP q z.2 none)))], 7⟩) (fun z => (z.1 ++ z.2).Perm (List.range m.length)) (fun z => z.2.length) (([], List.range m.length)) (List.Perm.refl _) ?_ ?_
  ·
    refine wk_of (fun k => if k = 5 then 2 else if k = 6 then 5 else k) (fun _ => false) (fun _ => false) ?_ ?_ rfl (by simp) (fun k hk => by first | exact ⟨rfl, rfl⟩ | (revert k; decide) | (obtain rfl : k = 0 := (by omega); exact ⟨rfl, rfl⟩) | (have hk2 : k = 0 ∨ k = 1 := (by omega); rcases hk2 with rfl | rfl <;> exact ⟨rfl, rfl⟩))
    · simp [hG, List.getD_cons_zero, List.getD_cons_succ, -List.getD_eq_getElem?_getD, ordL_nil]
    · simp [hG, List.getD_cons_zero, List.getD_cons_succ, -List.getD_eq_getElem?_getD, ordL_nil]
  ·
    rintro ⟨done, left⟩ hz
    simp only at hz
    have hdl := done_len hz
    refine awpS_seq ?_
    refine awpS_regL ?_
    refine awpL_next (id := (3, 0)) (by decide) rfl rfl rfl rfl rfl trivial fun K hK c hc => ?_
    simp [hG, List.getD_cons_zero, List.getD_cons_succ, -List.getD_eq_getElem?_getD, ordL_nil]
    refine hK _ ?_
    clear K hK
    refine awpL_reg T_ok 1 fun K hK => ?_
    simp [hG, List.getD_cons_zero, List.getD_cons_succ, -List.getD_eq_getElem?_getD, ordL_nil]
    refine hK _ ?_
    clear K hK
    refine awpL_nil ?_
    refine awpS_seq ?_
    refine awpS_cond rfl (fun hb8 => ?_) (fun hb8 => ?_)
    ·
      try simp [-List.getD_eq_getElem?_getD] at hb8
      rw [mpE_len] at hc
      obtain ⟨i, rfl, hil, hci⟩ := nx_some hc hb8
      have hst := left_step hz hil
      refine awpS_skip ?_
      refine awpS_block ?_
      refine awpS_seq ?_
      refine awpS_regL ?_
      refine awpL_entry (id := (3, 0)) rfl rfl rfl rfl rfl trivial fun K hK => ?_; rw [enF_mp hci]
      simp [hG, List.getD_cons_zero, List.getD_cons_succ, -List.getD_eq_getElem?_getD, ordL_nil]
      refine hK _ ?_
      clear K hK
      refine awpL_reg T_ok 4 fun K hK => ?_
      simp [hG, List.getD_cons_zero, List.getD_cons_succ, -List.getD_eq_getElem?_getD, ordL_nil]
      refine hK _ ?_
      clear K hK
      refine awpL_nil ?_
      refine awpS_seq ?_
      refine awpS_regL ?_
      refine awpL_reg T_ok 3 fun K hK => ?_
      simp [hG, List.getD_cons_zero, List.getD_cons_succ, -List.getD_eq_getElem?_getD, ordL_nil]
      refine hK _ ?_
      clear K hK
      refine awpL_yieldP 0 hR [0, 1, 5] (fun _ => false) (bodyD_y e p f (ordL m done) ⟨(m.getD i dw).1, (m.getD i dw).2⟩ (by rw [ordL_len]; omega) hok) rfl rfl (by rw [hok.params]; rfl) rfl rfl rfl (by simp) (.inl fun _ => rfl) ?_ ?_ ?_ fun K hK x hI hno => ?_
      · simp [hG, List.getD_cons_zero, List.getD_cons_succ, -List.getD_eq_getElem?_getD, ordL_nil]
      · simp [hG, List.range'_succ, List.range'_zero, List.getD_cons_zero, List.getD_cons_succ, -List.getD_eq_getElem?_getD]
      · simp [hG, List.getD_cons_zero, List.getD_cons_succ, -List.getD_eq_getElem?_getD, ordL_nil]
      simp [hG, List.getD_cons_zero, List.getD_cons_succ, -List.getD_eq_getElem?_getD, ordL_nil]
      refine hK _ ?_
      clear K hK
      refine awpL_reg T_ok 1 fun K hK => ?_
      simp [hG, List.getD_cons_zero, List.getD_cons_succ, -List.getD_eq_getElem?_getD, ordL_nil]
      refine hK _ ?_
      clear K hK
      refine awpL_nil ?_
      refine awpS_cond rfl (fun hb16 => ?_) (fun hb16 => ?_)
      ·
        simp at hb16
      ·
        try simp [-List.getD_eq_getElem?_getD] at hb16
        refine awpS_skip ?_
        refine awpS_nil ?_
        refine blockQ_norm (thenQ_norm ?_)
        refine awpS_nil ?_
        refine round_end ((done ++ [i], left.erase i)) (hst.1) (hst.2) ?_
        refine wk_of (fun k => if k = 5 then 7 else k) (fun _ => false) (fun _ => false) ?_ ?_ rfl (by simp) (fun k hk => by first | exact ⟨rfl, rfl⟩ | (revert k; decide) | (obtain rfl : k = 0 := (by omega); exact ⟨rfl, rfl⟩) | (have hk2 : k = 0 ∨ k = 1 := (by omega); rcases hk2 with rfl | rfl <;> exact ⟨rfl, rfl⟩))
        · simp [hG, List.getD_cons_zero, List.getD_cons_succ, -List.getD_eq_getElem?_getD, ordL_nil]
        · rw [ordL_snoc]; simp [hG, List.getD_cons_zero, List.getD_cons_succ, -List.getD_eq_getElem?_getD]
    ·
      try simp [-List.getD_eq_getElem?_getD] at hb8
      obtain rfl := nx_none hc (by simpa using hb8)
      rw [List.append_nil] at hz
      refine awpS_exit ?_
      refine thenQ_exit (thenQ_exit ?_)
      refine blockQ_exit (thenQ_norm ?_)
      refine awpS_nil ?_
      refine RetF_of (done) (id) (fun _ => false) (fun _ => false) hz ?_ ?_ (by rfl) (by simp) (fun k hk => ⟨rfl, rfl⟩)
      · simp [hG, List.getD_cons_zero, List.getD_cons_succ, -List.getD_eq_getElem?_getD, ordL_nil]
      · simp [hG, List.getD_cons_zero, List.getD_cons_succ, -List.getD_eq_getElem?_getD, ordL_nil]

set_option maxRecDepth 100000 in
theorem buildW_c (e : Enc) (pz fz : Int) : PC Try.prog 13 [.agg 4 (encF e), .int .i64 pz, .int .i64 fz] (.tup 2 (fun j => [.agg 6 (decF (wbX e pz fz)), .int .i64 (wbN e pz fz)].getD j .any)) := by
  refine PC_introS T_ok Try.func13 rfl (by simp [Try.ntmps13]) fun G hG hR => ?_
  simp only [Try.ntmps13, Try.results13] at hG ⊢
  simp only [argEnv, Nat.zero_add, Nat.reduceAdd]
  refine awpS_seq ?_
  refine awpS_reg T_ok fun K hK => ?_
  simp [hG, List.getD_cons_zero, List.getD_cons_succ, -List.getD_eq_getElem?_getD, pureOp]
  refine ⟨Cond.mk (by exact trivial), hK _ ?_⟩
  clear K hK
  refine awpS_seq ?_
  refine awpS_block ?_
  refine awpS_seq ?_
  refine awpS_regL ?_
  refine awpL_reg T_ok 1 fun K hK => ?_
  simp [hG, List.getD_cons_zero, List.getD_cons_succ, -List.getD_eq_getElem?_getD, pureOp]
  refine hK _ ?_
  clear K hK
  refine awpL_call cal37 rfl rfl (fun _ => rfl) (fun hg => check_c e) (fun hg => ?_) (fun hg => ?_) fun K hK => ?_
  · simp [hG, List.getD_cons_zero, List.getD_cons_succ, -List.getD_eq_getElem?_getD, pureOp]
  · simp [hG, List.getD_cons_zero, List.getD_cons_succ, -List.getD_eq_getElem?_getD, pureOp]
  simp [hG, List.getD_cons_zero, List.getD_cons_succ, -List.getD_eq_getElem?_getD, pureOp]
  refine hK _ ?_
  clear K hK
  refine awpL_reg T_ok 2 fun K hK => ?_
  simp [hG, List.getD_cons_zero, List.getD_cons_succ, -List.getD_eq_getElem?_getD, pureOp]
  refine hK _ ?_
  clear K hK
  refine awpL_nil ?_
  refine awpS_cond rfl (fun hb16 => ?_) (fun hb16 => ?_)
  ·
    try simp [-List.getD_eq_getElem?_getD] at hb16
    refine awpS_seq ?_
    refine awpS_reg T_ok fun K hK => ?_
    simp [hG, List.getD_cons_zero, List.getD_cons_succ, -List.getD_eq_getElem?_getD, pureOp]
    refine ⟨Cond.mk (by simp [-List.getD_eq_getElem?_getD]), hK _ ?_⟩
    clear K hK
    refine awpS_ret ?_
    refine blockQ_ret (thenQ_ret ?_)
    refine RetOK_of ?_
    simp [hG, List.getD_cons_zero, List.getD_cons_succ, -List.getD_eq_getElem?_getD, pureOp]
    rw [wbX_no (wb_one hb16) (by decide), wb_one hb16]; simp
  ·
    try simp [-List.getD_eq_getElem?_getD] at hb16
    have hv : checkE e = 0 := (by simpa using hb16)
    refine awpS_seq ?_
    refine awpS_reg T_ok fun K hK => ?_
    simp [hG, List.getD_cons_zero, List.getD_cons_succ, -List.getD_eq_getElem?_getD, pureOp]
    refine ⟨Cond.mk (by omega), hK _ ?_⟩
    clear K hK
    refine awpS_cond rfl (fun hb21 => ?_) (fun hb21 => ?_)
    ·
      try simp [-List.getD_eq_getElem?_getD] at hb21
      refine awpS_seq ?_
      refine awpS_reg T_ok fun K hK => ?_
      simp [hG, List.getD_cons_zero, List.getD_cons_succ, -List.getD_eq_getElem?_getD, pureOp]
      refine ⟨Cond.mk (by simp [-List.getD_eq_getElem?_getD]), hK _ ?_⟩
      clear K hK
      refine awpS_ret ?_
      refine blockQ_ret (thenQ_ret ?_)
      refine RetOK_of ?_
      simp [hG, List.getD_cons_zero, List.getD_cons_succ, -List.getD_eq_getElem?_getD, pureOp]
      have hz := wb_side hv (show badS pz fz by unfold badS; omega); rw [wbX_no hz (by decide), hz]; simp
    ·
      try simp [-List.getD_eq_getElem?_getD] at hb21
      have hs : ¬ badS pz fz := (by unfold badS; omega)
      have hs2 := not_badS hs
      obtain ⟨p, rfl⟩ := Int.eq_ofNat_of_zero_le hs2.1
      obtain ⟨f, rfl⟩ := Int.eq_ofNat_of_zero_le hs2.2.1
      have hpf : (p + 1 + f) ≤ 16 := (by omega)
      refine awpS_seq ?_
      refine awpS_regL ?_
      refine awpL_reg T_ok 5 fun K hK => ?_
      simp [hG, List.getD_cons_zero, List.getD_cons_succ, -List.getD_eq_getElem?_getD, pureOp]
      refine ⟨Cond.mk (by omega), hK _ ?_⟩
      clear K hK
      refine awpL_call cal38 rfl rfl (fun _ => rfl) (fun hg => many_c e (p + 1 + f) hv hpf) (fun hg => ?_) (fun hg => ?_) fun K hK => ?_
      · simp [hG, List.getD_cons_zero, List.getD_cons_succ, -List.getD_eq_getElem?_getD, pureOp]
      · simp [hG, List.getD_cons_zero, List.getD_cons_succ, -List.getD_eq_getElem?_getD, pureOp]
      simp [hG, List.getD_cons_zero, List.getD_cons_succ, -List.getD_eq_getElem?_getD, pureOp]
      refine hK _ ?_
      clear K hK
      refine awpL_reg T_ok 1 fun K hK => ?_
      simp [hG, List.getD_cons_zero, List.getD_cons_succ, -List.getD_eq_getElem?_getD, pureOp]
      refine hK _ ?_
      clear K hK
      refine awpL_nil ?_
      refine awpS_cond rfl (fun hb39 => ?_) (fun hb39 => ?_)
      ·
        try simp [-List.getD_eq_getElem?_getD] at hb39
        refine awpS_seq ?_
        refine awpS_reg T_ok fun K hK => ?_
        simp [hG, List.getD_cons_zero, List.getD_cons_succ, -List.getD_eq_getElem?_getD, pureOp]
        refine ⟨Cond.mk (by simp [-List.getD_eq_getElem?_getD]), hK _ ?_⟩
        clear K hK
        refine awpS_ret ?_
        refine blockQ_ret (thenQ_ret ?_)
        refine RetOK_of ?_
        simp [hG, List.getD_cons_zero, List.getD_cons_succ, -List.getD_eq_getElem?_getD, pureOp]
        have hz := wb_many (p := (p : Int)) (f := (f : Int)) hv hs (by simpa using hb39); rw [wbX_no hz (by decide), hz]; simp
      ·
        try simp [-List.getD_eq_getElem?_getD] at hb39
        have hmn : manyB e (p + 1 + f) = false := (by simpa using hb39)
        obtain ⟨hg1, hg2⟩ : (goS stepM [] (pathsL e p f)).2 = (builtE e p f).2 ∧ RM (goS stepM [] (pathsL e p f)).1 (builtE e p f).1 := RM.go (pathsL e p f) RM.nil
        refine awpS_skip ?_
        refine awpS_nil ?_
        refine blockQ_norm (thenQ_norm ?_)
        refine awpS_seq ?_
        refine awpS_reg T_ok fun K hK => ?_
        simp [hG, List.getD_cons_zero, List.getD_cons_succ, -List.getD_eq_getElem?_getD, pureOp]
        refine hK _ ?_
        clear K hK
        refine awpS_seq ?_
        refine awpS_seq ?_
        refine awpS_regL ?_
        refine awpL_reg T_ok 3 fun K hK => ?_
        simp [hG, List.getD_cons_zero, List.getD_cons_succ, -List.getD_eq_getElem?_getD, pureOp]
        refine hK _ ?_
        clear K hK
        refine awpL_call cal39 rfl rfl (fun _ => rfl) (fun hg => paths0_c e p f) (fun hg => ?_) (fun hg => ?_) fun K hK => ?_
        · simp [hG, List.getD_cons_zero, List.getD_cons_succ, -List.getD_eq_getElem?_getD, pureOp]
        · simp [hG, List.getD_cons_zero, List.getD_cons_succ, -List.getD_eq_getElem?_getD, pureOp]
        simp [hG, List.getD_cons_zero, List.getD_cons_succ, -List.getD_eq_getElem?_getD, pureOp]
        refine hK _ ?_
        clear K hK
        refine awpL_nil ?_
        refine awpS_block ?_
        refine awpS_wk (st2 := ⟨[(1, .int .i64 (p : Nat)), (2, .int .i64 (f : Nat)), (3, .ptr (0, 0) 0 0), (6, .ptr (1, 0) 0 0), (7, .ptr (2, 0) 0 0), (8, .ptr (3, 0) 0 0), (51, .fn 56 3 (fun j => [.vptr 1 (fun _ => .int .i64 (p : Nat)) 0, .vptr 1 (fun _ => .int .i64 (f : Nat)) 0, .vptr 4 (encF e) 0].getD j .any))], [(0, .one (.arr 1 4 (fun _ => encF e))), (1, .one (.arr 1 6 (fun _ j => decF dd0 j))), (2, .one (.arr 1 1 (fun _ _ => .int .i64 0))), (3, .one (.arr 1 1 (fun _ _ => .map (4, 0)))), (4, .one (.mp (mpE strK intV [])))], 5⟩) ?_ ?_
        ·
          refine wk_of (fun k => if k = 3 then 4 else if k = 4 then 3 else k) (fun _ => false) (fun _ => false) ?_ ?_ rfl (Nat.zero_le _) (fun k hk => absurd hk (Nat.not_lt_zero _))
          · simp [hG, List.getD_cons_zero, List.getD_cons_succ, -List.getD_eq_getElem?_getD, pureOp]
          · simp [hG, List.getD_cons_zero, List.getD_cons_succ, -List.getD_eq_getElem?_getD, pureOp]
        refine awpS_rangeJ hR [8, 6, 7] [3, 4, 1, 2] (fun _ => false) cal56 rfl trivial (fun l rec vs hok => by rw [hG] at hok; exact FCY_of (pathsB_c l rec vs hok e hv p f hpf [])) (by simp) (by simp) (.inl fun _ => rfl) (fun l rec vs => ?_) (fun l rec => ?_) fun K hK hKr hKe x hI hno => ?_
        · simp [hG, List.range'_succ, List.range'_zero, List.getD_cons_zero, List.getD_cons_succ, -List.getD_eq_getElem?_getD]
        · simp [hG, List.getD_cons_zero, List.getD_cons_succ, -List.getD_eq_getElem?_getD, pureOp]
        by_cases hJ : (goS stepM [] (pathsL e p f)).2 = true
        ·
          simp [hG, List.getD_cons_zero, List.getD_cons_succ, -List.getD_eq_getElem?_getD, pureOp, hJ]
          refine hKr _ ?_
          clear K hK hKr hKe
          refine blockQ_ret (thenQ_ret ?_)
          refine RetOK_of ?_
          simp [hG, List.getD_cons_zero, List.getD_cons_succ, -List.getD_eq_getElem?_getD, pureOp, hJ]
          have hz := wb_stop (p := (p : Int)) (f := (f : Int)) hv hs (by simpa using hmn) (by rw [Int.toNat_natCast, Int.toNat_natCast, ← hg1]; exact hJ); rw [wbX_no hz (by decide), hz]; simp
        ·
          simp [hG, List.getD_cons_zero, List.getD_cons_succ, -List.getD_eq_getElem?_getD, pureOp, hJ]
          refine hK _ ?_
          clear K hK hKr hKe
          have hb2 : (builtE e p f).2 = false := (by rw [← hg1]; simpa using hJ)
          have hbl := built_len hv hmn
          have hbp := built_pos hv hb2
          have hml : (goS stepM [] (pathsL e p f)).1.length = (builtE e p f).1.length := (by have := hg2.perm.length_eq; simpa using this.symm)
          refine awpS_nil ?_
          refine blockQ_norm (thenQ_norm ?_)
          refine awpS_seq ?_
          refine awpS_reg T_ok fun K hK => ?_
          simp [hG, List.getD_cons_zero, List.getD_cons_succ, -List.getD_eq_getElem?_getD, pureOp]
          refine ⟨Cond.mk (by omega), hK _ ?_⟩
          clear K hK
          refine awpS_seq ?_
          refine awpS_seq ?_
          refine awpS_regL ?_
          refine awpL_reg T_ok 1 fun K hK => ?_
          simp [hG, List.getD_cons_zero, List.getD_cons_succ, -List.getD_eq_getElem?_getD, pureOp]
          refine hK _ ?_
          clear K hK
          refine awpL_fc cal40 [4] (fun _ => false) (all0_c (goS stepM [] (pathsL e p f)).1) rfl rfl rfl (by simp) (.inl fun _ => rfl) ?_ ?_ ?_ fun K hK x hI hno => ?_
          · simp [hG, List.getD_cons_zero, List.getD_cons_succ, -List.getD_eq_getElem?_getD, pureOp]
          · simp [hG, List.getD_cons_zero, List.getD_cons_succ, -List.getD_eq_getElem?_getD, pureOp]
          · simp [hG, List.getD_cons_zero, List.getD_cons_succ, -List.getD_eq_getElem?_getD, pureOp]
          simp [hG, List.getD_cons_zero, List.getD_cons_succ, -List.getD_eq_getElem?_getD, pureOp]
          refine hK _ ?_
          clear K hK
          refine awpL_nil ?_
          refine awpS_block ?_
          refine awpS_wk (st2 := ⟨[(6, .ptr (1, 0) 0 0), (7, .ptr (2, 0) 0 0), (13, .ptr (3, 0) 0 0), (80, .fn 58 1 (fun _ => .ptr (6, 0) 0 0))], [(1, .one (.arr 1 6 (fun _ j => decF dd0 j))), (2, .one (.arr 1 1 (fun _ _ => .int .i64 0))), (3, .one (.arr 1 6 (fun _ j => [.int .i64 e.letters, .int .i64 e.block, .int .i64 e.inputs, .int .i64 (p : Nat), .int .i64 (f : Nat), .sl (4, 0) 0 (([] : List Ent)).length].getD j .any))), (4, .one (.arr (([] : List Ent)).length 2 (fun i j => entF ((([] : List Ent)).getD i den) j))), (5, .one (.mp (mpE strK intV (goS stepM [] (pathsL e p f)).1))), (6, .one (.arr 1 1 (fun _ _ => .map (5, 0))))], 7⟩) ?_ ?_
          ·
            refine wk_of (fun k => if k = 3 then 6 else if k = 5 then 4 else if k = 6 then 7 else k) (fun _ => false) (fun k => k == 4) ?_ ?_ rfl (Nat.zero_le _) (fun k hk => absurd hk (Nat.not_lt_zero _))
            · simp [hG, List.getD_cons_zero, List.getD_cons_succ, -List.getD_eq_getElem?_getD, pureOp]
            · simp [hG, List.getD_cons_zero, List.getD_cons_succ, -List.getD_eq_getElem?_getD, pureOp]
          refine awpS_rangeJ hR [13] [3, 4, 5, 6] (fun _ => false) cal58 rfl trivial (fun l rec vs hok => by rw [hG] at hok; exact FCY_of (allD_c l rec vs hok e p f (goS stepM [] (pathsL e p f)).1 (by omega))) (by simp) (by simp) (.inl fun _ => rfl) (fun l rec vs => ?_) (fun l rec => ?_) fun K hK hKr hKe o hI hno => ?_
          · simp [hG, List.range'_succ, List.range'_zero, List.getD_cons_zero, List.getD_cons_succ, -List.getD_eq_getElem?_getD]
          · simp [hG, List.getD_cons_zero, List.getD_cons_succ, -List.getD_eq_getElem?_getD, pureOp]
          have hperm := hI
          have hol := hperm.length_eq
          simp [hG, List.getD_cons_zero, List.getD_cons_succ, -List.getD_eq_getElem?_getD, pureOp]
          refine hK _ ?_
          clear K hK hKr hKe
          refine awpS_nil ?_
          refine blockQ_norm (thenQ_norm ?_)
          refine awpS_seq ?_
          refine awpS_regL ?_
          refine awpL_reg T_ok 2 fun K hK => ?_
          simp [hG, List.getD_cons_zero, List.getD_cons_succ, -List.getD_eq_getElem?_getD, pureOp]
          refine hK _ ?_
          clear K hK
          refine awpL_fc cal41 [8] (fun _ => false) (sortE_pos (ordL (goS stepM [] (pathsL e p f)).1 o) (by rw [ordL_len]; simp at hol; omega) (by rw [ordL_len]; simp at hol; omega)) rfl rfl rfl (by simp) (.inl fun _ => rfl) ?_ ?_ ?_ fun K hK y hI hno => ?_
          · simp [hG, List.getD_cons_zero, List.getD_cons_succ, -List.getD_eq_getElem?_getD, pureOp]
          · simp [hG, List.getD_cons_zero, List.getD_cons_succ, -List.getD_eq_getElem?_getD, pureOp]
          · simp [hG, hinE, List.getD_cons_zero, List.getD_cons_succ, -List.getD_eq_getElem?_getD]
          have hsort := hI
          simp [hG, List.getD_cons_zero, List.getD_cons_succ, -List.getD_eq_getElem?_getD, pureOp]
          refine hK _ ?_
          clear K hK
          refine awpL_nil ?_
          refine awpS_seq ?_
          refine awpS_reg T_ok fun K hK => ?_
          simp [hG, List.getD_cons_zero, List.getD_cons_succ, -List.getD_eq_getElem?_getD, pureOp]
          refine ⟨Cond.mk (by simp [-List.getD_eq_getElem?_getD]), hK _ ?_⟩
          clear K hK
          refine awpS_ret ?_
          refine RetOK_of ?_
          simp [hG, List.getD_cons_zero, List.getD_cons_succ, -List.getD_eq_getElem?_getD, pureOp]
          have hz := wb_ok (p := (p : Int)) (f := (f : Int)) hv hs (by simpa using hmn) (by rw [Int.toNat_natCast, Int.toNat_natCast]; exact hb2); rw [wbX_ok hz, hz]; simp only [Int.toNat_natCast]; have hye := sort_fin hsort.1 ((ordL_perm hperm).trans hg2.perm.symm) hg2.asc hsort.2; subst hye; have hyl := hsort.1.length_eq; simp only [true_and, and_true]; first | exact ⟨by omega, by omega, fun _ _ => ⟨rfl, rfl⟩⟩ | exact ⟨by omega, by omega, fun _ _ => trivial⟩ | exact ⟨by omega, by omega⟩

end Go.Proofs.Ytmdnpbilnelogaa
