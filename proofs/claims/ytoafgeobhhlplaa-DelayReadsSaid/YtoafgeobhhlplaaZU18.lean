/- Parts of the proof: VL VM DN DO. -/
import Derived.Test.YtoafgeobhhlplaaZU09
import Derived.Test.YtoafgeobhhlplaaZU14
import Derived.Test.YtoafgeobhhlplaaZU17
namespace Go.Proofs.Ytoafgeobhhlplaa
set_option linter.unusedSimpArgs false
set_option linter.unusedVariables false
open Go Go.Lift Go.Proofs
@[simp] theorem luKs {β : Type} {ev : β → AVal} {l : List (List UInt8 × β)} {k : List UInt8} : luK T 9 (mpE strK ev l) 0 (.str k) = some ((alFind l 0 k).map fun p => (p.1, ev p.2)) := luK_strK (by simp)
theorem HLe_mm {α β : Type} {ek : α → AVal} {ev : β → AVal} (h1 : ∀ a, Clo (ek a)) (h2 : ∀ b, Clo (ev b)) {h : Heap} {σ : Lift.Id → Lift.Id} {fz : Nat → Bool} {vz : Lift.Id → Bool} {nx : Nat} {q : MQ} {l : List (α × β)} : HLe h σ fz vz nx (.mi q (mpE ek ev l)) (some (.mi q (mpE ek ev l))) ∧ HLe h σ fz vz nx (.mp (mpE ek ev l)) (some (.mi q (mpE ek ev l))) := by
  have := HLe_mpE (h := h) (σ := σ) (fz := fz) (vz := vz) (nx := nx) h1 h2 (rfl : l = l)
  exact ⟨⟨rfl, this.1, this.2⟩, this⟩
@[simp high] theorem HLe_sb_mm {h : Heap} {σ : Lift.Id → Lift.Id} {fz : Nat → Bool} {vz : Lift.Id → Bool} {nx : Nat} {q : MQ} {l : List (List UInt8 × Bool)} : HLe h σ fz vz nx (.mi q (mpE strK boolV l)) (some (.mi q (mpE strK boolV l))) = True := eq_true (HLe_mm (ek := strK) (ev := boolV) (fun _ => trivial) (fun _ => trivial)).1
@[simp high] theorem HLe_sb_mp {h : Heap} {σ : Lift.Id → Lift.Id} {fz : Nat → Bool} {vz : Lift.Id → Bool} {nx : Nat} {q : MQ} {l : List (List UInt8 × Bool)} : HLe h σ fz vz nx (.mp (mpE strK boolV l)) (some (.mi q (mpE strK boolV l))) = True := eq_true (HLe_mm (ek := strK) (ev := boolV) (fun _ => trivial) (fun _ => trivial)).2
@[simp high] theorem HLe_it {h : Heap} {σ : Lift.Id → Lift.Id} {fz : Nat → Bool} {vz : Lift.Id → Bool} {nx : Nat} {q : MQ} {l : List Nat} {c : Option Nat} : HLe h σ fz vz nx (.ob (itP q l none)) (some (.ob (itP q l c))) = True := eq_true fun b x hx => by
  obtain ⟨seen, h1, h2, h3, h4, _⟩ := hx
  exact ⟨seen, h1, h2, h3, h4, fun i e => by cases e⟩
theorem left_step {n : Nat} {done left : List Nat} {i : Nat} (h : (done ++ left).Perm (List.range n)) (hi : i ∈ left) : ((done ++ [i]) ++ left.erase i).Perm (List.range n) ∧ (left.erase i).length < left.length := by
  refine ⟨List.Perm.trans ?_ h, by rw [List.length_erase_of_mem hi]; have := List.length_pos_of_mem hi; omega⟩
  rw [List.append_assoc]
  exact (List.perm_cons_erase hi).symm.append_left done
theorem done_len {n : Nat} {done left : List Nat} (h : (done ++ left).Perm (List.range n)) : done.length + left.length = n := by
  have := h.length_eq
  simpa using this
theorem nx_some {left : List Nat} {n : Nat} {c : Option Nat} (h : nxOK left n c) (hs : c.isSome = true) : ∃ i, c = some i ∧ i ∈ left ∧ i < n := by
  obtain ⟨i, rfl⟩ := Option.isSome_iff_exists.1 hs
  exact ⟨i, rfl, h⟩
theorem nx_none {left : List Nat} {n : Nat} {c : Option Nat} (h : nxOK left n c) (hs : c = none) : left = [] := by
  subst hs; exact h
def enS (s : Wd) (j : Nat) : AVal := match j with
  | 0 => .str s
  | _ => .bool true
@[simp] theorem enS_zero {s : Wd} : enS s 0 = .str s := rfl
theorem enF_sb {F : List Wd} {i : Nat} (h : i < F.length) : enF (mpE strK boolV (seenG F)) i = enS (F.getD i []) := by
  have hg : (mpE strK boolV (seenG F)).getD i (.any, .any) = (.str (F.getD i []), .bool true) := by
    simp [mpE, seenG, List.getD, h]
    exact ⟨rfl, rfl⟩
  funext j
  cases j with
  | zero => show ((mpE strK boolV (seenG F)).getD i (.any, .any)).1 = _; rw [hg]; rfl
  | succ j => show ((mpE strK boolV (seenG F)).getD i (.any, .any)).2 = _; rw [hg]; rfl
@[simp] theorem ren_mpSB {σ : Nat → Nat} {l : List (List UInt8 × Bool)} : List.map (fun p => (ren σ p.1, ren σ p.2)) (mpE strK boolV l) = mpE strK boolV l := by
  conv => rhs; rw [← List.map_id (mpE strK boolV l)]
  refine List.map_congr_left fun p hp => ?_
  obtain ⟨q, _, rfl⟩ := List.mem_map.1 hp
  rfl
@[simp] theorem putK_empS {k : List UInt8} {b : Bool} : putK [] none (.str k) (.bool b) = mpE strK boolV [(k, b)] := rfl
theorem done_snoc {β : Type} {f : Nat → List β} {done : List Nat} {i : Nat} : (done ++ [i]).flatMap f = done.flatMap f ++ f i := by rw [List.flatMap_append]; simp
attribute [simp] seenG_put
@[simp] theorem seenG_one {k : Wd} : seenG [k] = [(k, true)] := rfl
theorem asc_nd {W : List Wd} (h : W.Pairwise lessW) : W.Nodup := List.nodup_iff_pairwise_ne.2 (h.imp lessW_ne)
theorem pre_anti {W : List Wd} (h : W.Nodup) {k i : Nat} (hk : k < W.length) (hi : i < W.length) (hne : k ≠ i) (h1 : W.getD k [] <+: W.getD i []) (h2 : W.getD i [] <+: W.getD k []) : False := by
  have e : W.getD k [] = W.getD i [] := h1.eq_of_length_le h2.length_le
  simp only [List.getD, List.getElem?_eq_getElem hk, List.getElem?_eq_getElem hi, Option.getD_some] at e
  have hpw := List.pairwise_iff_getElem.1 (List.nodup_iff_pairwise_ne.1 h)
  rcases Nat.lt_trichotomy k i with h3 | h3 | h3
  · exact hpw k i hk hi h3 e
  · exact hne h3
  · exact hpw i k hi hk h3 e.symm
theorem nowS_next {W : List Wd} {x : Wd} {a n : Nat} {N : List Wd} (h : NowS W ((x.drop a).take n) N) (hn : a + n < x.length) {o : List Nat} (ho : o.Perm (List.range N.length)) : NowS W ((x.drop a).take (n + 1)) (addL [] (o.flatMap fun d => rst W (N.getD d []) (x.getD (a + n) 0))) := by
  have hl : n < (x.drop a).length := by rw [List.length_drop]; omega
  have e : (x.drop a).take (n + 1) = (x.drop a).take n ++ [x.getD (a + n) 0] := by
    rw [List.take_succ_eq_append_getElem hl]
    congr 2
    simp [List.getD, hn]
  rw [e]
  exact nowS_step h ho
theorem app_dn {F : List Wd} {done : List Nat} {i0 : Nat} {w : Nat → Nat → AVal} {i j : Nat} (hw : w 0 j = rcF ([], F.getD i0 []) j) (hi : i < done.length + 1) : app (fun y => rcF ((done.map fun d => (([], F.getD d []) : Rc)).getD y dRc)) done.length w i j = rcF (((done.map fun d => (([], F.getD d []) : Rc)) ++ [([], F.getD i0 [])]).getD i dRc) j := by
  have := app_oneR (K := done.map fun d => (([], F.getD d []) : Rc)) (x := ([], F.getD i0 [])) hw (by rw [List.length_map]; exact hi)
  rw [List.length_map] at this
  exact this
set_option maxRecDepth 100000 in
set_option maxHeartbeats 1000000 in
theorem atR_c (c : Cd) (hv : CdOK c) (i : Nat) (hi : i < c.ws.length) (m : List (Rc × Int)) : FC Try.prog 40 [.agg 3 (rvF c (.map (0, 0))), .int .i64 (i : Nat)] [(0, .one (.mp (mpE rcK intV m)))] 1 (fun L : List Rc => AtL c.ws i L) (fun L : List Rc => rcs L) (fun L : List Rc => [(0, .one (.mp (mpE rcK intV m)))]) (fun L : List Rc => 1) := by
 have hWn := hv.n
 have hxl := hv.len _ (W_mem hi)
 have hnd := asc_nd hv.asc
 refine FC_introS T_ok Try.func40 rfl (by simp [Try.ntmps40]) fun G hG hR => ?_
 simp only [Try.ntmps40, Try.results40] at hG ⊢
 simp only [argEnv, Nat.zero_add, Nat.reduceAdd]
 refine zs (zr ?_ (h := by intro c K h; simp [hG, List.getD_cons_zero, List.getD_cons_succ, -List.getD_eq_getElem?_getD, pureOp, addL_nil, seenG_nil]; first | exact z1 c h | exact ⟨.mk c, h⟩))
 refine zs (zr ?_ (h := by intro c K h; simp [hG, List.getD_cons_zero, List.getD_cons_succ, -List.getD_eq_getElem?_getD, pureOp, addL_nil, seenG_nil]; first | exact z1 c h | exact ⟨.mk c, h⟩))
 refine zs (zr ?_ (h := by intro c K h; simp [hG, List.getD_cons_zero, List.getD_cons_succ, -List.getD_eq_getElem?_getD, pureOp, addL_nil, seenG_nil]; first | exact z1 c h | exact ⟨.mk c, h⟩))
 refine zs (zs (zr ?_ (h := by intro c K h; simp [hG, List.getD_cons_zero, List.getD_cons_succ, -List.getD_eq_getElem?_getD, pureOp, addL_nil, seenG_nil]; first | exact z1 c h | exact ⟨.mk c, h⟩)))
 refine zb ?_
 refine awpS_loop (α := Nat × List Wd) (fun z => ⟨[(1, .int .i64 (i : Nat)), (2, .vptr 3 (rvF c (.map (0, 0))) 0), (5, .str (c.ws.getD i [])), (6, .map (1, 0)), (27, strs c.ws), (28, .int .i64 c.ws.length), (29, .int .i64 (z.1 : Nat))], [(0, .one (.mp (mpE rcK intV m))), (1, .one (.mp (mpE strK boolV (seenG z.2))))], 2⟩) (fun z => z.1 ≤ c.ws.length ∧ FndOK c.ws i z.1 z.2) (fun z => c.ws.length - z.1) ((0, [])) (⟨Nat.zero_le _, fnd_zero⟩) ?_ ?_
 · refine wk_of (fun k => if k = 1 then 2 else k) (fun k => k == 1) (fun _ => false) ?_ ?_ rfl (by simp) (fun k hk => by first | exact ⟨rfl, rfl⟩ | (revert k; decide) | (obtain rfl : k = 0 := (by omega); exact ⟨rfl, rfl⟩) | (have hk2 : k = 0 ∨ k = 1 := (by omega); rcases hk2 with rfl | rfl <;> exact ⟨rfl, rfl⟩))
   · simp [hG, List.getD_cons_zero, List.getD_cons_succ, -List.getD_eq_getElem?_getD, pureOp, addL_nil, seenG_nil]
   simp [hG, List.getD_cons_zero, List.getD_cons_succ, -List.getD_eq_getElem?_getD, pureOp, addL_nil, seenG_nil]
 rintro ⟨k, F⟩ ⟨hk, hF⟩
 simp only at hk hF
 refine zs (zr ?_ (h := by intro c K h; simp [hG, List.getD_cons_zero, List.getD_cons_succ, -List.getD_eq_getElem?_getD, pureOp, addL_nil, seenG_nil]; first | exact z1 c h | exact ⟨.mk c, h⟩))
 refine zs (zy (fun hb30 => ?_) fun hb30 => ?_)
 · have hyl := hv.len _ (W_mem hb30)
   refine zk (zs (zb (zs (zr ?_ (h := by intro c K h; simp [hG, List.getD_cons_zero, List.getD_cons_succ, -List.getD_eq_getElem?_getD, pureOp, addL_nil, seenG_nil]; first | exact z1 c h | exact ⟨.mk c, h⟩)))))
   refine zs (zs (zr ?_ (h := by intro c K h; simp [hG, List.getD_cons_zero, List.getD_cons_succ, -List.getD_eq_getElem?_getD, pureOp, addL_nil, seenG_nil]; first | exact z1 c h | exact ⟨.mk c, h⟩)))
   refine zy (fun hb36 => ?_) fun hb36 => ?_
   · obtain rfl : k = i := (by omega)
     refine zx (zbx (zr ?_ (h := by intro c K h; simp [hG, List.getD_cons_zero, List.getD_cons_succ, -List.getD_eq_getElem?_getD, pureOp, addL_nil, seenG_nil]; first | exact z1 c h | exact ⟨.mk c, h⟩)))
     refine zn ?_
     refine round_end ((k + 1, F)) (⟨by simp only; omega, fnd_same hF⟩) (by simp only; omega) ?_
     refine wk_of (id) (fun _ => false) (fun _ => false) ?_ ?_ rfl (by simp) (fun k hk => by first | exact ⟨rfl, rfl⟩ | (revert k; decide) | (obtain rfl : k = 0 := (by omega); exact ⟨rfl, rfl⟩) | (have hk2 : k = 0 ∨ k = 1 := (by omega); rcases hk2 with rfl | rfl <;> exact ⟨rfl, rfl⟩))
     · simp [hG, List.getD_cons_zero, List.getD_cons_succ, -List.getD_eq_getElem?_getD, pureOp, addL_nil, seenG_nil]
     simp [hG, List.getD_cons_zero, List.getD_cons_succ, -List.getD_eq_getElem?_getD, pureOp, addL_nil, seenG_nil]
   have hki : k ≠ i := (by omega)
   refine zk (zs (zs (zL (zl 2 ?_ (h := by intro c K h; simp [hG, List.getD_cons_zero, List.getD_cons_succ, -List.getD_eq_getElem?_getD, pureOp, addL_nil, seenG_nil]; first | exact z1 c h | exact ⟨.mk c, h⟩)))))
   refine zc cal27 (preW_c (c.ws.getD k []) (c.ws.getD i [])) ?_ (a := fun hg => by simp [hG, List.getD_cons_zero, List.getD_cons_succ, -List.getD_eq_getElem?_getD, pureOp, addL_nil, seenG_nil]) (b := fun hg => by simp [hG, List.getD_cons_zero, List.getD_cons_succ, -List.getD_eq_getElem?_getD, pureOp, addL_nil, seenG_nil]) (h := by intro K h; simp [hG, List.getD_cons_zero, List.getD_cons_succ, -List.getD_eq_getElem?_getD, pureOp, addL_nil, seenG_nil]; exact h)
   refine zN (zy (fun hb39 => ?_) fun hb39 => ?_)
   · have hin := fnd_in hF hki hb39
     have hpl := hb39.length_le
     refine zL (zl 4 ?_ (h := by intro c K h; simp [hG, List.getD_cons_zero, List.getD_cons_succ, -List.getD_eq_getElem?_getD, pureOp, addL_nil, seenG_nil]; first | exact z1 c h | exact ⟨.mk c, h⟩))
     refine zl 1 ?_ (h := by intro c K h; simp [hG, List.getD_cons_zero, List.getD_cons_succ, -List.getD_eq_getElem?_getD, pureOp, addL_nil, seenG_nil]; first | exact z1 c h | exact ⟨.mk c, h⟩)
     refine zl 1 ?_ (h := by intro c K h; simp [hG, List.getD_cons_zero, List.getD_cons_succ, -List.getD_eq_getElem?_getD, pureOp, addL_nil, seenG_nil]; first | exact z1 c h | exact ⟨.mk c, h⟩)
     refine zN (zs (zs (zL (zl 2 ?_ (h := by intro c K h; simp [hG, List.getD_cons_zero, List.getD_cons_succ, -List.getD_eq_getElem?_getD, pureOp, addL_nil, seenG_nil]; first | exact z1 c h | exact ⟨.mk c, h⟩)))))
     refine zc cal27 (preW_c (c.ws.getD i []) (c.ws.getD k [])) ?_ (a := fun hg => by simp [hG, List.getD_cons_zero, List.getD_cons_succ, -List.getD_eq_getElem?_getD, pureOp, addL_nil, seenG_nil]) (b := fun hg => by simp [hG, List.getD_cons_zero, List.getD_cons_succ, -List.getD_eq_getElem?_getD, pureOp, addL_nil, seenG_nil]) (h := by intro K h; simp [hG, List.getD_cons_zero, List.getD_cons_succ, -List.getD_eq_getElem?_getD, pureOp, addL_nil, seenG_nil]; exact h)
     refine zl 1 ?_ (h := by intro c K h; simp [hG, List.getD_cons_zero, List.getD_cons_succ, -List.getD_eq_getElem?_getD, pureOp, addL_nil, seenG_nil]; first | exact z1 c h | exact ⟨.mk c, h⟩)
     refine zN ?_
     refine awpS_cond rfl (fun hb48 => ?_) (fun hb48 => ?_)
     · try simp [-List.getD_eq_getElem?_getD] at hb48
       refine zx (zbx (zr ?_ (h := by intro c K h; simp [hG, List.getD_cons_zero, List.getD_cons_succ, -List.getD_eq_getElem?_getD, pureOp, addL_nil, seenG_nil]; first | exact z1 c h | exact ⟨.mk c, h⟩)))
       refine zn ?_
       refine round_end ((k + 1, addG F ((c.ws.getD k []).drop (c.ws.getD i []).length))) (⟨by simp only; omega, hin⟩) (by simp only; omega) ?_
       refine wk_of (id) (fun _ => false) (fun _ => false) ?_ ?_ rfl (by simp) (fun k hk => by first | exact ⟨rfl, rfl⟩ | (revert k; decide) | (obtain rfl : k = 0 := (by omega); exact ⟨rfl, rfl⟩) | (have hk2 : k = 0 ∨ k = 1 := (by omega); rcases hk2 with rfl | rfl <;> exact ⟨rfl, rfl⟩))
       · simp [hG, List.getD_cons_zero, List.getD_cons_succ, -List.getD_eq_getElem?_getD, pureOp, addL_nil, seenG_nil]
       simp [hG, pureOp, List.getD_cons_zero, List.getD_cons_succ, -List.getD_eq_getElem?_getD]
     exact absurd (pre_anti hnd hb30 hi hki (by simpa [-List.getD_eq_getElem?_getD] using hb48) hb39) id
   refine zk (zs (zs (zL (zl 2 ?_ (h := by intro c K h; simp [hG, List.getD_cons_zero, List.getD_cons_succ, -List.getD_eq_getElem?_getD, pureOp, addL_nil, seenG_nil]; first | exact z1 c h | exact ⟨.mk c, h⟩)))))
   refine zc cal27 (preW_c (c.ws.getD i []) (c.ws.getD k [])) ?_ (a := fun hg => by simp [hG, List.getD_cons_zero, List.getD_cons_succ, -List.getD_eq_getElem?_getD, pureOp, addL_nil, seenG_nil]) (b := fun hg => by simp [hG, List.getD_cons_zero, List.getD_cons_succ, -List.getD_eq_getElem?_getD, pureOp, addL_nil, seenG_nil]) (h := by intro K h; simp [hG, List.getD_cons_zero, List.getD_cons_succ, -List.getD_eq_getElem?_getD, pureOp, addL_nil, seenG_nil]; exact h)
   refine zl 1 ?_ (h := by intro c K h; simp [hG, List.getD_cons_zero, List.getD_cons_succ, -List.getD_eq_getElem?_getD, pureOp, addL_nil, seenG_nil]; first | exact z1 c h | exact ⟨.mk c, h⟩)
   refine zN (zy (fun hb48 => ?_) fun hb48 => ?_)
   · refine zx (zbx (zr ?_ (h := by intro c K h; simp [hG, List.getD_cons_zero, List.getD_cons_succ, -List.getD_eq_getElem?_getD, pureOp, addL_nil, seenG_nil]; first | exact z1 c h | exact ⟨.mk c, h⟩)))
     refine zn ?_
     refine round_end ((k + 1, F)) (⟨by simp only; omega, fnd_off hF hb39 (by simpa [-List.getD_eq_getElem?_getD] using hb48)⟩) (by simp only; omega) ?_
     refine wk_of (id) (fun _ => false) (fun _ => false) ?_ ?_ rfl (by simp) (fun k hk => by first | exact ⟨rfl, rfl⟩ | (revert k; decide) | (obtain rfl : k = 0 := (by omega); exact ⟨rfl, rfl⟩) | (have hk2 : k = 0 ∨ k = 1 := (by omega); rcases hk2 with rfl | rfl <;> exact ⟨rfl, rfl⟩))
     · simp [hG, List.getD_cons_zero, List.getD_cons_succ, -List.getD_eq_getElem?_getD, pureOp, addL_nil, seenG_nil]
     simp [hG, List.getD_cons_zero, List.getD_cons_succ, -List.getD_eq_getElem?_getD, pureOp, addL_nil, seenG_nil]
   have hqp : (c.ws.getD k []) <+: (c.ws.getD i []) := (by simpa [-List.getD_eq_getElem?_getD] using hb48)
   have hpl2 := hqp.length_le
   refine zk (zs (zr ?_ (h := by intro c K h; simp [hG, List.getD_cons_zero, List.getD_cons_succ, -List.getD_eq_getElem?_getD, pureOp, addL_nil, seenG_nil]; first | exact z1 c h | exact ⟨.mk c, h⟩)))
   refine zs (zs (zr ?_ (h := by intro c K h; simp [hG, List.getD_cons_zero, List.getD_cons_succ, -List.getD_eq_getElem?_getD, pureOp, addL_nil, seenG_nil]; first | exact z1 c h | exact ⟨.mk c, h⟩)))
   refine zb ?_
   refine awpS_loop (α := Nat × List Wd) (fun z => ⟨[(1, .int .i64 (i : Nat)), (2, .vptr 3 (rvF c (.map (0, 0))) 0), (5, .str (c.ws.getD i [])), (6, .map (1, 0)), (8, .str (c.ws.getD k [])), (9, .map (2, 0)), (10, .int .i64 ((c.ws.getD k []).length + z.1 : Nat)), (27, strs c.ws), (28, .int .i64 c.ws.length), (29, .int .i64 (k : Nat))], [(0, .one (.mp (mpE rcK intV m))), (1, .one (.mp (mpE strK boolV (seenG F)))), (2, .one (.mp (mpE strK boolV (seenG z.2))))], 3⟩) (fun z => (c.ws.getD k []).length + z.1 ≤ (c.ws.getD i []).length ∧ NowS c.ws (((c.ws.getD i []).drop (c.ws.getD k []).length).take z.1) z.2) (fun z => (c.ws.getD i []).length - ((c.ws.getD k []).length + z.1)) ((0, [[]])) (⟨hpl2, nowS_zero⟩) ?_ ?_
   · refine wk_of (id) (fun _ => false) (fun _ => false) ?_ ?_ rfl (by simp) (fun k hk => by first | exact ⟨rfl, rfl⟩ | (revert k; decide) | (obtain rfl : k = 0 := (by omega); exact ⟨rfl, rfl⟩) | (have hk2 : k = 0 ∨ k = 1 := (by omega); rcases hk2 with rfl | rfl <;> exact ⟨rfl, rfl⟩))
     · simp [hG, List.getD_cons_zero, List.getD_cons_succ, -List.getD_eq_getElem?_getD, pureOp, addL_nil, seenG_nil]
     simp [hG, List.getD_cons_zero, List.getD_cons_succ, -List.getD_eq_getElem?_getD, pureOp, addL_nil, seenG_nil]
   rintro ⟨n, N⟩ ⟨hnn, hN⟩
   simp only at hnn hN
   refine zs (zs (zr ?_ (h := by intro c K h; simp [hG, List.getD_cons_zero, List.getD_cons_succ, -List.getD_eq_getElem?_getD, pureOp, addL_nil, seenG_nil]; first | exact z1 c h | exact ⟨.mk c, h⟩)))
   refine zy (fun hb56 => ?_) fun hb56 => ?_
   · have hnl := nowS_len hv.len hWn.2 hN
     have hct : (((c.ws.getD k []).length : Int) + (n : Int)).toNat = (c.ws.getD k []).length + n := by omega
     refine zk (zs (zb (zs (zr ?_ (h := by intro c K h; simp [hG, List.getD_cons_zero, List.getD_cons_succ, -List.getD_eq_getElem?_getD, pureOp, addL_nil, seenG_nil]; first | exact z1 c h | exact ⟨.mk c, h⟩)))))
     refine zs (zs (zL (zl 1 ?_ (h := by intro c K h; simp [hG, List.getD_cons_zero, List.getD_cons_succ, -List.getD_eq_getElem?_getD, pureOp, addL_nil, seenG_nil]; first | exact z1 c h | exact ⟨.mk c, h⟩))))
     refine awpL_range (id := (2, 0)) Try.underlying102 rfl rfl rfl rfl trivial fun K hK q hq => ?_
     simp [hG, List.getD_cons_zero, List.getD_cons_succ, -List.getD_eq_getElem?_getD, pureOp, addL_nil, seenG_nil]
     refine hK _ ?_
     clear K hK
     refine zN (zb ?_)
     refine awpS_loop (α := List Nat × List Nat) (fun z => ⟨[(1, .int .i64 (i : Nat)), (2, .vptr 3 (rvF c (.map (0, 0))) 0), (5, .str (c.ws.getD i [])), (6, .map (1, 0)), (8, .str (c.ws.getD k [])), (10, .int .i64 ((c.ws.getD k []).length + n : Nat)), (11, .map (3, 0)), (27, strs c.ws), (28, .int .i64 c.ws.length), (29, .int .i64 (k : Nat)), (61, .ptr (4, 0) 0 0)], [(0, .one (.mp (mpE rcK intV m))), (1, .one (.mp (mpE strK boolV (seenG F)))), (2, .one (.mi q (mpE strK boolV (seenG N)))), (3, .one (.mp (mpE strK boolV (seenG (addL [] (z.1.flatMap fun d => rst c.ws (N.getD d []) ((c.ws.getD i []).getD ((c.ws.getD k []).length + n) 0))))))), (4, .one (.ob (itP q z.2 none)))], 5⟩) (fun z => (z.1 ++ z.2).Perm (List.range N.length)) (fun z => z.2.length) (([], List.range N.length)) (List.Perm.refl _) ?_ ?_
     · refine wk_of (id) (fun _ => false) (fun _ => false) ?_ ?_ rfl (by simp) (fun k hk => by first | exact ⟨rfl, rfl⟩ | (revert k; decide) | (obtain rfl : k = 0 := (by omega); exact ⟨rfl, rfl⟩) | (have hk2 : k = 0 ∨ k = 1 := (by omega); rcases hk2 with rfl | rfl <;> exact ⟨rfl, rfl⟩))
       · simp [hG, List.getD_cons_zero, List.getD_cons_succ, -List.getD_eq_getElem?_getD, pureOp, addL_nil, seenG_nil]
       simp [hG, List.getD_cons_zero, List.getD_cons_succ, -List.getD_eq_getElem?_getD, pureOp, addL_nil, seenG_nil]
     rintro ⟨done, left⟩ hz
     simp only at hz
     refine zs (zL ?_)
     refine awpL_next (id := (2, 0)) (by decide) rfl rfl rfl rfl rfl trivial fun K hK cc hc => ?_
     simp [hG, List.getD_cons_zero, List.getD_cons_succ, -List.getD_eq_getElem?_getD, pureOp, addL_nil, seenG_nil]
     refine hK _ ?_
     clear K hK
     refine zl 1 ?_ (h := by intro c K h; simp [hG, List.getD_cons_zero, List.getD_cons_succ, -List.getD_eq_getElem?_getD, pureOp, addL_nil, seenG_nil]; first | exact z1 c h | exact ⟨.mk c, h⟩)
     refine zN (zs (zy (fun hb63 => ?_) fun hb63 => ?_))
     · rw [length_mpE, seenG_len] at hc
       obtain ⟨i0, rfl, hi0, hil⟩ := nx_some hc hb63
       have hst := left_step hz hi0
       refine zk (zb (zs (zL ?_)))
       refine awpL_entry (id := (2, 0)) rfl rfl rfl rfl rfl trivial fun K hK => ?_; rw [enF_sb hil]
       simp [hG, List.getD_cons_zero, List.getD_cons_succ, -List.getD_eq_getElem?_getD, pureOp, addL_nil, seenG_nil]
       refine hK _ ?_
       clear K hK
       refine zl 2 ?_ (h := by intro c K h; simp [hG, List.getD_cons_zero, List.getD_cons_succ, -List.getD_eq_getElem?_getD, pureOp, addL_nil, seenG_nil]; first | exact z1 c h | exact ⟨.mk c, h⟩)
       refine zN (zs ?_)
       refine awpS_draw hR mixed [] ⟨[], [], []⟩ fun mu0 => ?_
       refine za [0, 1, 2, 3, 4, 5, 8] [] 2 [8, 5, 4, 3, 2, 1, 0] ?_ (h := by intro c K h; simp [hG, List.getD_cons_zero, List.getD_cons_succ, -List.getD_eq_getElem?_getD, pureOp, addL_nil, seenG_nil]; first | exact z1 c h | exact ⟨.mk c, h⟩)
       refine awpA_only (fuel := 1) (i := 6) (by decide +kernel) ?_
       refine ze cal68 (rests_c c hv (N.getD i0 []) ((c.ws.getD i []).getD ((c.ws.getD k []).length + n) 0)) ?_ (a := fun hg => by simp [hG, List.getD_cons_zero, List.getD_cons_succ, -List.getD_eq_getElem?_getD, pureOp, addL_nil, seenG_nil]) (b := fun hg => by simp [hG, pureOp, List.getD_cons_zero, List.getD_cons_succ, -List.getD_eq_getElem?_getD]; rw [hct]) (h := by intro K h; simp [hG, List.getD_cons_zero, List.getD_cons_succ, -List.getD_eq_getElem?_getD, pureOp, addL_nil, seenG_nil]; exact h)
       refine za [7] [] 0 [7, 6, 8, 5, 4, 3, 2, 1, 0] ?_ (h := by intro c K h; simp [hG, List.getD_cons_zero, List.getD_cons_succ, -List.getD_eq_getElem?_getD, pureOp, addL_nil, seenG_nil]; first | exact z1 c h | exact ⟨.mk c, h⟩)
       refine awpA_done (by decide +kernel) ?_
       refine zb ?_
       refine awpS_loop (α := Nat) (fun j => ⟨[(1, .int .i64 (i : Nat)), (2, .vptr 3 (rvF c (.map (0, 0))) 0), (5, .str (c.ws.getD i [])), (6, .map (1, 0)), (8, .str (c.ws.getD k [])), (10, .int .i64 ((c.ws.getD k []).length + n : Nat)), (11, .map (3, 0)), (27, strs c.ws), (28, .int .i64 c.ws.length), (29, .int .i64 (k : Nat)), (61, .ptr (4, 0) 0 0), (72, strs (rst c.ws (N.getD i0 []) ((c.ws.getD i []).getD ((c.ws.getD k []).length + n) 0))), (73, .int .i64 (rst c.ws (N.getD i0 []) ((c.ws.getD i []).getD ((c.ws.getD k []).length + n) 0)).length), (74, .int .i64 (j : Nat))], [(0, .one (.mp (mpE rcK intV m))), (1, .one (.mp (mpE strK boolV (seenG F)))), (2, .one (.mi q (mpE strK boolV (seenG N)))), (3, .one (.mp (mpE strK boolV (seenG (addL (addL [] (done.flatMap fun d => rst c.ws (N.getD d []) ((c.ws.getD i []).getD ((c.ws.getD k []).length + n) 0))) ((rst c.ws (N.getD i0 []) ((c.ws.getD i []).getD ((c.ws.getD k []).length + n) 0)).take j)))))), (4, .one (.ob (itP q (left.erase i0) none)))], 5⟩) (fun j => j ≤ (rst c.ws (N.getD i0 []) ((c.ws.getD i []).getD ((c.ws.getD k []).length + n) 0)).length) (fun j => (rst c.ws (N.getD i0 []) ((c.ws.getD i []).getD ((c.ws.getD k []).length + n) 0)).length - j) (0) (Nat.zero_le _) ?_ ?_
       · refine wk_of (id) (fun _ => false) (fun _ => false) ?_ ?_ rfl (by simp) (fun k hk => by first | exact ⟨rfl, rfl⟩ | (revert k; decide) | (obtain rfl : k = 0 := (by omega); exact ⟨rfl, rfl⟩) | (have hk2 : k = 0 ∨ k = 1 := (by omega); rcases hk2 with rfl | rfl <;> exact ⟨rfl, rfl⟩))
         · simp [hG, List.getD_cons_zero, List.getD_cons_succ, -List.getD_eq_getElem?_getD, pureOp, addL_nil, seenG_nil]
         simp [hG, List.getD_cons_zero, List.getD_cons_succ, -List.getD_eq_getElem?_getD, pureOp, addL_nil, seenG_nil]
       rintro j hj
       refine zs (zr ?_ (h := by intro c K h; simp [hG, List.getD_cons_zero, List.getD_cons_succ, -List.getD_eq_getElem?_getD, pureOp, addL_nil, seenG_nil]; first | exact z1 c h | exact ⟨.mk c, h⟩))
       refine zs (zy (fun hb75 => ?_) fun hb75 => ?_)
       · have hrl := rst_len (W := c.ws) (s := N.getD i0 []) (l := ((c.ws.getD i []).getD ((c.ws.getD k []).length + n) 0)) hWn.1
         have hat := addL_take (d := ([] : Wd)) (F := addL [] (done.flatMap fun d => rst c.ws (N.getD d []) ((c.ws.getD i []).getD ((c.ws.getD k []).length + n) 0))) hb75
         refine zk (zs (zb (zs (zr ?_ (h := by intro c K h; simp [hG, List.getD_cons_zero, List.getD_cons_succ, -List.getD_eq_getElem?_getD, pureOp, addL_nil, seenG_nil]; first | exact z1 c h | exact ⟨.mk c, h⟩)))))
         refine zr ?_ (h := by intro c K h; simp [hG, List.getD_cons_zero, List.getD_cons_succ, -List.getD_eq_getElem?_getD, pureOp, addL_nil, seenG_nil]; first | exact z1 c h | exact ⟨.mk c, h⟩)
         refine zn (zbn (zr ?_ (h := by intro c K h; simp [hG, List.getD_cons_zero, List.getD_cons_succ, -List.getD_eq_getElem?_getD, pureOp, addL_nil, seenG_nil]; first | exact z1 c h | exact ⟨.mk c, h⟩)))
         refine zn ?_
         refine round_end (j + 1) (by omega) (by omega) ?_
         refine wk_of (id) (fun _ => false) (fun _ => false) ?_ ?_ rfl (by simp) (fun k hk => by first | exact ⟨rfl, rfl⟩ | (revert k; decide) | (obtain rfl : k = 0 := (by omega); exact ⟨rfl, rfl⟩) | (have hk2 : k = 0 ∨ k = 1 := (by omega); rcases hk2 with rfl | rfl <;> exact ⟨rfl, rfl⟩))
         · simp [hG, List.getD_cons_zero, List.getD_cons_succ, -List.getD_eq_getElem?_getD, pureOp, addL_nil, seenG_nil]
         rw [hat]; simp [hG, pureOp, List.getD_cons_zero, List.getD_cons_succ, -List.getD_eq_getElem?_getD]
       obtain rfl : j = (rst c.ws (N.getD i0 []) ((c.ws.getD i []).getD ((c.ws.getD k []).length + n) 0)).length := (by omega)
       have hrl := rst_len (W := c.ws) (s := N.getD i0 []) (l := ((c.ws.getD i []).getD ((c.ws.getD k []).length + n) 0)) hWn.1
       refine zx (ztx (zbx (zn (zbn (zn ?_)))))
       refine round_end ((done ++ [i0], left.erase i0)) (hst.1) (hst.2) ?_
       refine wk_of (id) (fun _ => false) (fun _ => false) ?_ ?_ rfl (by simp) (fun k hk => by first | exact ⟨rfl, rfl⟩ | (revert k; decide) | (obtain rfl : k = 0 := (by omega); exact ⟨rfl, rfl⟩) | (have hk2 : k = 0 ∨ k = 1 := (by omega); rcases hk2 with rfl | rfl <;> exact ⟨rfl, rfl⟩))
       · simp [hG, List.getD_cons_zero, List.getD_cons_succ, -List.getD_eq_getElem?_getD, pureOp, addL_nil, seenG_nil]
       rw [done_snoc, addL_app]; simp [hG, pureOp, List.getD_cons_zero, List.getD_cons_succ, -List.getD_eq_getElem?_getD]
     obtain rfl := nx_none hc (by simpa using hb63)
     rw [List.append_nil] at hz
     refine zx (ztx (zbx (zr ?_ (h := by intro c K h; simp [hG, List.getD_cons_zero, List.getD_cons_succ, -List.getD_eq_getElem?_getD, pureOp, addL_nil, seenG_nil]; first | exact z1 c h | exact ⟨.mk c, h⟩))))
     refine zn (zbn (zr ?_ (h := by intro c K h; simp [hG, List.getD_cons_zero, List.getD_cons_succ, -List.getD_eq_getElem?_getD, pureOp, addL_nil, seenG_nil]; first | exact z1 c h | exact ⟨.mk c, h⟩)))
     refine zn ?_
     refine round_end ((n + 1, addL [] (done.flatMap fun d => rst c.ws (N.getD d []) ((c.ws.getD i []).getD ((c.ws.getD k []).length + n) 0)))) (⟨by simp only; omega, nowS_next hN (by omega) hz⟩) (by simp only; omega) ?_
     refine wk_of (fun k => if k = 2 then 3 else k) (fun _ => false) (fun _ => false) ?_ ?_ rfl (by simp) (fun k hk => by first | exact ⟨rfl, rfl⟩ | (revert k; decide) | (obtain rfl : k = 0 := (by omega); exact ⟨rfl, rfl⟩) | (have hk2 : k = 0 ∨ k = 1 := (by omega); rcases hk2 with rfl | rfl <;> exact ⟨rfl, rfl⟩))
     · simp [hG, pureOp, List.getD_cons_zero, List.getD_cons_succ, -List.getD_eq_getElem?_getD]; omega
     simp [hG, List.getD_cons_zero, List.getD_cons_succ, -List.getD_eq_getElem?_getD, pureOp, addL_nil, seenG_nil]
   have hne : (c.ws.getD k []).length + n = (c.ws.getD i []).length := (by omega)
   rw [List.take_of_length_le (by rw [List.length_drop]; omega)] at hN
   have hnl := nowS_len hv.len hWn.2 hN
   refine zx (ztx (zbx (zs (zL (zl 1 ?_ (h := by intro c K h; simp [hG, List.getD_cons_zero, List.getD_cons_succ, -List.getD_eq_getElem?_getD, pureOp, addL_nil, seenG_nil]; first | exact z1 c h | exact ⟨.mk c, h⟩))))))
   refine awpL_range (id := (2, 0)) Try.underlying102 rfl rfl rfl rfl trivial fun K hK q hq => ?_
   simp [hG, List.getD_cons_zero, List.getD_cons_succ, -List.getD_eq_getElem?_getD, pureOp, addL_nil, seenG_nil]
   refine hK _ ?_
   clear K hK
   refine zN (zb ?_)
   refine awpS_loop (α := List Nat × List Nat) (fun z => ⟨[(1, .int .i64 (i : Nat)), (2, .vptr 3 (rvF c (.map (0, 0))) 0), (5, .str (c.ws.getD i [])), (6, .map (1, 0)), (27, strs c.ws), (28, .int .i64 c.ws.length), (29, .int .i64 (k : Nat)), (83, .ptr (3, 0) 0 0)], [(0, .one (.mp (mpE rcK intV m))), (1, .one (.mp (mpE strK boolV (seenG (addL F (z.1.map fun d => N.getD d [])))))), (2, .one (.mi q (mpE strK boolV (seenG N)))), (3, .one (.ob (itP q z.2 none)))], 4⟩) (fun z => (z.1 ++ z.2).Perm (List.range N.length)) (fun z => z.2.length) (([], List.range N.length)) (List.Perm.refl _) ?_ ?_
   · refine wk_of (id) (fun _ => false) (fun _ => false) ?_ ?_ rfl (by simp) (fun k hk => by first | exact ⟨rfl, rfl⟩ | (revert k; decide) | (obtain rfl : k = 0 := (by omega); exact ⟨rfl, rfl⟩) | (have hk2 : k = 0 ∨ k = 1 := (by omega); rcases hk2 with rfl | rfl <;> exact ⟨rfl, rfl⟩))
     · simp [hG, List.getD_cons_zero, List.getD_cons_succ, -List.getD_eq_getElem?_getD, pureOp, addL_nil, seenG_nil]
     simp [hG, List.getD_cons_zero, List.getD_cons_succ, -List.getD_eq_getElem?_getD, pureOp, addL_nil, seenG_nil]
   rintro ⟨done, left⟩ hz
   simp only at hz
   refine zs (zL ?_)
   refine awpL_next (id := (2, 0)) (by decide) rfl rfl rfl rfl rfl trivial fun K hK cc hc => ?_
   simp [hG, List.getD_cons_zero, List.getD_cons_succ, -List.getD_eq_getElem?_getD, pureOp, addL_nil, seenG_nil]
   refine hK _ ?_
   clear K hK
   refine zl 1 ?_ (h := by intro c K h; simp [hG, List.getD_cons_zero, List.getD_cons_succ, -List.getD_eq_getElem?_getD, pureOp, addL_nil, seenG_nil]; first | exact z1 c h | exact ⟨.mk c, h⟩)
   refine zN (zs (zy (fun hb85 => ?_) fun hb85 => ?_))
   · rw [length_mpE, seenG_len] at hc
     obtain ⟨i0, rfl, hi0, hil⟩ := nx_some hc hb85
     have hst := left_step hz hi0
     refine zk (zb (zs (zL ?_)))
     refine awpL_entry (id := (2, 0)) rfl rfl rfl rfl rfl trivial fun K hK => ?_; rw [enF_sb hil]
     simp [hG, List.getD_cons_zero, List.getD_cons_succ, -List.getD_eq_getElem?_getD, pureOp, addL_nil, seenG_nil]
     refine hK _ ?_
     clear K hK
     refine zl 2 ?_ (h := by intro c K h; simp [hG, List.getD_cons_zero, List.getD_cons_succ, -List.getD_eq_getElem?_getD, pureOp, addL_nil, seenG_nil]; first | exact z1 c h | exact ⟨.mk c, h⟩)
     refine zN (zr ?_ (h := by intro c K h; simp [hG, List.getD_cons_zero, List.getD_cons_succ, -List.getD_eq_getElem?_getD, pureOp, addL_nil, seenG_nil]; first | exact z1 c h | exact ⟨.mk c, h⟩))
     refine zn (zbn (zn ?_))
     refine round_end ((done ++ [i0], left.erase i0)) (hst.1) (hst.2) ?_
     refine wk_of (id) (fun _ => false) (fun _ => false) ?_ ?_ rfl (by simp) (fun k hk => by first | exact ⟨rfl, rfl⟩ | (revert k; decide) | (obtain rfl : k = 0 := (by omega); exact ⟨rfl, rfl⟩) | (have hk2 : k = 0 ∨ k = 1 := (by omega); rcases hk2 with rfl | rfl <;> exact ⟨rfl, rfl⟩))
     · simp [hG, List.getD_cons_zero, List.getD_cons_succ, -List.getD_eq_getElem?_getD, pureOp, addL_nil, seenG_nil]
     rw [List.map_append, List.map_singleton, addL_snoc]; simp [hG, pureOp, List.getD_cons_zero, List.getD_cons_succ, -List.getD_eq_getElem?_getD]
   obtain rfl := nx_none hc (by simpa using hb85)
   rw [List.append_nil] at hz
   refine zx (ztx (zbx (zn (zbn (zr ?_ (h := by intro c K h; simp [hG, List.getD_cons_zero, List.getD_cons_succ, -List.getD_eq_getElem?_getD, pureOp, addL_nil, seenG_nil]; first | exact z1 c h | exact ⟨.mk c, h⟩))))))
   refine zn ?_
   refine round_end ((k + 1, addL F (done.map fun d => N.getD d []))) (⟨by simp only; omega, fnd_over hF hki hqp hN hz⟩) (by simp only; omega) ?_
   refine wk_of (id) (fun _ => false) (fun _ => false) ?_ ?_ rfl (by simp) (fun k hk => by first | exact ⟨rfl, rfl⟩ | (revert k; decide) | (obtain rfl : k = 0 := (by omega); exact ⟨rfl, rfl⟩) | (have hk2 : k = 0 ∨ k = 1 := (by omega); rcases hk2 with rfl | rfl <;> exact ⟨rfl, rfl⟩))
   · simp [hG, List.getD_cons_zero, List.getD_cons_succ, -List.getD_eq_getElem?_getD, pureOp, addL_nil, seenG_nil]
   simp [hG, List.getD_cons_zero, List.getD_cons_succ, -List.getD_eq_getElem?_getD, pureOp, addL_nil, seenG_nil]
 obtain rfl : k = c.ws.length := (by omega)
 have hfl := fnd_len hv.len hWn.2 (Nat.le_refl _) hF
 refine zx (ztx (zbx (zs (zr ?_ (h := by intro c K h; simp [hG, List.getD_cons_zero, List.getD_cons_succ, -List.getD_eq_getElem?_getD, pureOp, addL_nil, seenG_nil]; first | exact z1 c h | exact ⟨.mk c, h⟩)))))
 refine zs (zs (zL (zl 1 ?_ (h := by intro c K h; simp [hG, List.getD_cons_zero, List.getD_cons_succ, -List.getD_eq_getElem?_getD, pureOp, addL_nil, seenG_nil]; first | exact z1 c h | exact ⟨.mk c, h⟩))))
 refine awpL_range (id := (1, 0)) Try.underlying102 rfl rfl rfl rfl trivial fun K hK q hq => ?_
 simp [hG, List.getD_cons_zero, List.getD_cons_succ, -List.getD_eq_getElem?_getD, pureOp, addL_nil, seenG_nil]
 refine hK _ ?_
 clear K hK
 refine zN (zb ?_)
 refine awpS_loop (α := List Nat × List Nat) (fun z => ⟨[(16, .sl (3, 0) 0 z.1.length), (92, .ptr (2, 0) 0 0)], [(0, .one (.mp (mpE rcK intV m))), (1, .one (.mi q (mpE strK boolV (seenG F)))), (2, .one (.ob (itP q z.2 none))), (3, .one (.arr z.1.length 2 (fun y => rcF ((z.1.map fun d => (([], F.getD d []) : Rc)).getD y dRc))))], 4⟩) (fun z => (z.1 ++ z.2).Perm (List.range F.length)) (fun z => z.2.length) (([], List.range F.length)) (List.Perm.refl _) ?_ ?_
 · refine wk_of (id) (fun _ => false) (fun k => k == 3) ?_ ?_ rfl (by simp) (fun k hk => by first | exact ⟨rfl, rfl⟩ | (revert k; decide) | (obtain rfl : k = 0 := (by omega); exact ⟨rfl, rfl⟩) | (have hk2 : k = 0 ∨ k = 1 := (by omega); rcases hk2 with rfl | rfl <;> exact ⟨rfl, rfl⟩))
   · simp [hG, List.getD_cons_zero, List.getD_cons_succ, -List.getD_eq_getElem?_getD, pureOp, addL_nil, seenG_nil]
   simp [hG, List.getD_cons_zero, List.getD_cons_succ, -List.getD_eq_getElem?_getD, pureOp, addL_nil, seenG_nil]
 rintro ⟨done, left⟩ hz
 simp only at hz
 have hdl := done_len hz
 refine zs (zL ?_)
 refine awpL_next (id := (1, 0)) (by decide) rfl rfl rfl rfl rfl trivial fun K hK cc hc => ?_
 simp [hG, List.getD_cons_zero, List.getD_cons_succ, -List.getD_eq_getElem?_getD, pureOp, addL_nil, seenG_nil]
 refine hK _ ?_
 clear K hK
 refine zl 1 ?_ (h := by intro c K h; simp [hG, List.getD_cons_zero, List.getD_cons_succ, -List.getD_eq_getElem?_getD, pureOp, addL_nil, seenG_nil]; first | exact z1 c h | exact ⟨.mk c, h⟩)
 refine zN (zs (zy (fun hb94 => ?_) fun hb94 => ?_))
 · rw [length_mpE, seenG_len] at hc
   obtain ⟨i0, rfl, hi0, hil⟩ := nx_some hc hb94
   have hst := left_step hz hi0
   refine zk (zb (zs (zL ?_)))
   refine awpL_entry (id := (1, 0)) rfl rfl rfl rfl rfl trivial fun K hK => ?_; rw [enF_sb hil]
   simp [hG, List.getD_cons_zero, List.getD_cons_succ, -List.getD_eq_getElem?_getD, pureOp, addL_nil, seenG_nil]
   refine hK _ ?_
   clear K hK
   refine zl 2 ?_ (h := by intro c K h; simp [hG, List.getD_cons_zero, List.getD_cons_succ, -List.getD_eq_getElem?_getD, pureOp, addL_nil, seenG_nil]; first | exact z1 c h | exact ⟨.mk c, h⟩)
   refine zN (zr ?_ (h := by intro c K h; simp [hG, List.getD_cons_zero, List.getD_cons_succ, -List.getD_eq_getElem?_getD, pureOp, addL_nil, seenG_nil]; first | exact z1 c h | exact ⟨.mk c, h⟩))
   refine zn (zbn (zn ?_))
   refine round_end ((done ++ [i0], left.erase i0)) (hst.1) (hst.2) ?_
   refine wk_of (fun k => if k = 3 then 5 else k) (fun _ => false) (fun _ => false) ?_ ?_ rfl (by simp) (fun k hk => by first | exact ⟨rfl, rfl⟩ | (revert k; decide) | (obtain rfl : k = 0 := (by omega); exact ⟨rfl, rfl⟩) | (have hk2 : k = 0 ∨ k = 1 := (by omega); rcases hk2 with rfl | rfl <;> exact ⟨rfl, rfl⟩))
   · simp [hG, List.getD_cons_zero, List.getD_cons_succ, -List.getD_eq_getElem?_getD, pureOp, addL_nil, seenG_nil]
   simp [hG, pureOp, List.getD_cons_zero, List.getD_cons_succ, -List.getD_eq_getElem?_getD]; exact fun i hi => ⟨app_dn (j := 0) rfl hi, app_dn (j := 1) rfl hi⟩
 obtain rfl := nx_none hc (by simpa using hb94)
 rw [List.append_nil] at hz
 refine zx (ztx (zbx (zs (zr ?_ (h := by intro c K h; simp [hG, List.getD_cons_zero, List.getD_cons_succ, -List.getD_eq_getElem?_getD, pureOp, addL_nil, seenG_nil]; first | exact z1 c h | exact ⟨.mk c, h⟩)))))
 refine zt ?_
 refine RetF_of ((done.map fun d => (([], F.getD d []) : Rc))) (id) (fun k => k == 3) (fun _ => false) (at_list hF hz) ?_ ?_ (by rfl) (by simp) (fun k hk => ⟨rfl, rfl⟩)
 · simp [hG, pureOp, List.getD_cons_zero, List.getD_cons_succ, -List.getD_eq_getElem?_getD]
 simp [hG, List.getD_cons_zero, List.getD_cons_succ, -List.getD_eq_getElem?_getD, pureOp, addL_nil, seenG_nil]
def fvM (K : List Rc) : List (Rc × Int) := K.map fun x => (x, forever)
theorem fvM_get {x : Rc} : ∀ {K : List Rc}, alGet (fvM K) x = if x ∈ K then some forever else none
  | [] => rfl
  | a :: K => by
    show (if x = a then some forever else alGet (fvM K) x) = _
    rw [fvM_get]
    by_cases h : x = a
    · rw [if_pos h, if_pos (by rw [h]; exact List.mem_cons_self)]
    · rw [if_neg h]
      by_cases h2 : x ∈ K
      · rw [if_pos h2, if_pos (List.mem_cons_of_mem _ h2)]
      · rw [if_neg h2, if_neg (fun e => (List.mem_cons.1 e).elim h h2)]
theorem al_new {β : Type} {k : Rc} {v : β} : ∀ {m : List (Rc × β)}, alGet m k = none → alPut m k v = m ++ [(k, v)]
  | [], _ => rfl
  | (a, b) :: m, h => by
    simp only [alGet] at h
    by_cases hk : k = a
    · rw [if_pos hk] at h; cases h
    · rw [if_neg hk] at h
      simp only [alPut, if_neg hk, al_new h, List.cons_append]
theorem fvM_put {x : Rc} {K : List Rc} (h : x ∉ K) : alPut (fvM K) x 9223372036854775807 = fvM (addG K x) := by
  rw [al_new (by rw [fvM_get, if_neg h])]
  unfold addG fvM
  rw [if_neg h, List.map_append]; rfl
theorem fvM_in {x : Rc} {K : List Rc} (h : (alGet (fvM K) x).isSome = true) : x ∈ K := by
  rw [fvM_get] at h
  by_cases h2 : x ∈ K
  · exact h2
  · rw [if_neg h2] at h; cases h
theorem fvM_out {x : Rc} {K : List Rc} (h : alGet (fvM K) x = none) : x ∉ K := fun h2 => by rw [fvM_get, if_pos h2] at h; cases h
def adQ (K : List Rc) (A Q : List Rc) (x : Rc) : List Rc × List Rc := if x ∈ K then (A, Q) else ([], Q ++ [x])
theorem adQ_in {K A Q : List Rc} {x : Rc} (h : x ∈ K) : adQ K A Q x = (A, Q) := if_pos h
theorem adQ_out {K A Q : List Rc} {x : Rc} (h : x ∉ K) : adQ K A Q x = ([], Q ++ [x]) := if_neg h
theorem addG_in {K : List Rc} {x : Rc} (h : x ∈ K) : addG K x = K := if_pos h
theorem app_oneQ {A Q : List Rc} {x : Rc} {w : Nat → Nat → AVal} {i j : Nat} (hw : w 0 j = rcF x j) (hi : i < Q.length + 1) : app (fun y => rcF ((A ++ Q).getD (A.length + y) dRc)) Q.length w i j = rcF ((Q ++ [x]).getD i dRc) j := by
  have e : (fun y => rcF ((A ++ Q).getD (A.length + y) dRc)) = fun y => rcF (Q.getD y dRc) := by
    funext y
    congr 1
    simp only [List.getD_eq_getElem?_getD]
    rw [List.getElem?_append_right (by omega), Nat.add_sub_cancel_left]
  rw [e]
  exact app_oneR hw hi
set_option maxRecDepth 100000 in
theorem add_c (c : Cd) (K A Q : List Rc) (x : Rc) (hb : A.length + Q.length ≤ 5000000) : FC1 Try.prog 66 [.agg 2 (rcF x), .ptr (0, 0) 0 0, .ptr (1, 0) 0 0] [(0, .one (.arr 1 3 (fun _ => rvF c (.map (2, 0))))), (1, .one (.arr 1 1 (fun _ _ => .sl (3, 0) A.length Q.length))), (2, .one (.mp (mpE rcK intV (fvM K)))), (3, .one (.arr (A.length + Q.length) 2 (fun y => rcF ((A ++ Q).getD y dRc))))] 4 (.tup 0 (fun _ => .any)) [(0, .one (.arr 1 3 (fun _ => rvF c (.map (2, 0))))), (1, .one (.arr 1 1 (fun _ _ => .sl (4, 0) (adQ K A Q x).1.length (adQ K A Q x).2.length))), (2, .one (.mp (mpE rcK intV (fvM (addG K x))))), (4, .one (.arr ((adQ K A Q x).1.length + (adQ K A Q x).2.length) 2 (fun y => rcF (((adQ K A Q x).1 ++ (adQ K A Q x).2).getD y dRc))))] 5 := by
 refine FC_introS T_ok Try.func66 rfl (by simp [Try.ntmps66]) fun G hG hR => ?_
 simp only [Try.ntmps66, Try.results66] at hG ⊢
 simp only [argEnv, Nat.zero_add, Nat.reduceAdd]
 refine zs (zrP ?_)
 refine zs (zrP ?_)
 refine zs (zrP ?_)
 refine zy (fun hb14 => ?_) fun hb14 => ?_
 · have hx := fvM_out (by simpa using hb14)
   have hfp := fvM_put hx
   have had := adQ_out (A := A) (Q := Q) hx
   refine zs (zrP ?_)
   refine zrP ?_
   refine zn ?_
   refine RetF_of (()) (fun k => if k = 4 then 6 else k) (fun _ => false) (fun _ => false) trivial ?_ ?_ (by rfl) (by simp) (fun k hk => ⟨if_neg (by omega), rfl⟩)
   · simp [hG, List.getD_cons_zero, List.getD_cons_succ, -List.getD_eq_getElem?_getD, pureOp]
   rw [had, ← hfp]; simp [hG, pureOp, List.getD_cons_zero, List.getD_cons_succ, -List.getD_eq_getElem?_getD]; exact fun i hi => ⟨app_oneQ (j := 0) rfl hi, app_oneQ (j := 1) rfl hi⟩
 have hx := fvM_in (by simpa using hb14)
 have had := adQ_in (A := A) (Q := Q) hx
 have hag := addG_in hx
 refine zk (zn ?_)
 refine RetF_of (()) (fun k => if k = 4 then 3 else k) (fun _ => false) (fun _ => false) trivial ?_ ?_ (by rfl) (by simp) (fun k hk => ⟨if_neg (by omega), rfl⟩)
 · simp [hG, List.getD_cons_zero, List.getD_cons_succ, -List.getD_eq_getElem?_getD, pureOp]
 rw [had, hag]; simp [hG, pureOp, List.getD_cons_zero, List.getD_cons_succ, -List.getD_eq_getElem?_getD]
end Go.Proofs.Ytoafgeobhhlplaa
namespace Go.Proofs.Ytoafgeobhhlplaa
set_option linter.unusedSimpArgs false
set_option linter.unusedVariables false
open Go Go.Lift
theorem al_put {α β : Type} [DecidableEq α] : ∀ {m : List (α × β)} {k j : α} {v : β}, alGet (alPut m k v) j = if j = k then some v else alGet m j
  | [], k, j, v => rfl
  | (a, b) :: m, k, j, v => by
    simp only [alPut]
    by_cases h : k = a
    · subst h
      rw [if_pos rfl]
      simp only [alGet]
      by_cases h2 : j = k
      · rw [if_pos h2, if_pos h2]
      · rw [if_neg h2, if_neg h2, if_neg h2]
    · rw [if_neg h]
      simp only [alGet]
      rw [al_put (m := m)]
      by_cases h3 : j = a
      · subst h3
        rw [if_pos rfl, if_neg (fun e => h e.symm), if_pos rfl]
      · rw [if_neg h3, if_neg h3]
theorem al_putD {α β : Type} [DecidableEq α] {m : List (α × β)} {k j : α} {v d : β} : (alGet (alPut m k v) j).getD d = if j = k then v else (alGet m j).getD d := by
  rw [al_put]; split <;> rfl
theorem al_keys {α β : Type} [DecidableEq α] : ∀ {m : List (α × β)} {k : α} {v : β}, (alPut m k v).map (·.1) = if k ∈ m.map (·.1) then m.map (·.1) else m.map (·.1) ++ [k]
  | [], k, v => rfl
  | (a, b) :: m, k, v => by
    simp only [alPut]
    by_cases h : k = a
    · subst h; simp
    · rw [if_neg h, List.map_cons, List.map_cons, al_keys (m := m)]
      by_cases h2 : k ∈ m.map (·.1)
      · rw [if_pos h2, if_pos (List.mem_cons_of_mem _ h2)]
      · rw [if_neg h2, if_neg (fun e => (List.mem_cons.1 e).elim h h2)]; rfl
theorem al_nd {α β : Type} [DecidableEq α] {m : List (α × β)} {k : α} {v : β} (h : (m.map (·.1)).Nodup) : ((alPut m k v).map (·.1)).Nodup := by
  rw [al_keys]
  split
  · exact h
  · rename_i h2
    rw [List.nodup_append]
    exact ⟨h, by simp, fun a ha b hb e => by rw [List.mem_singleton.1 hb] at e; exact h2 (e ▸ ha)⟩
section
variable {W : List Wd} {q : Nat}
def BoxR (W : List Wd) (p : Rc) : Prop := p.1 ∈ sufL W ∧ p.2 ∈ sufL W
theorem box_aft {p r : Rc} {l : UInt8} (h : BoxR W p) (hr : r ∈ aft W p l) : BoxR W r := by
  obtain ⟨h1, h2⟩ := aft_mem.1 hr
  exact ⟨suf_rst h.1 h1, suf_rst h.2 h2⟩
theorem box_at {i : Nat} {s : Wd} (h : AtM W i s) : BoxR W ([], s) := by
  obtain ⟨y, hy, _, h2⟩ := h
  exact ⟨sfx_mem.2 (.inl rfl), suf_run (fun t ht => by rw [List.mem_singleton.1 ht]; exact sfx_mem.2 (.inr ⟨_, W_mem hy, List.suffix_refl _⟩)) h2⟩
theorem lt_suf (hW : ∀ w ∈ W, LtOK q w) {s : Wd} (h : s ∈ sufL W) : LtOK q s := by
  rcases sfx_mem.1 h with rfl | ⟨w, hw, h⟩
  · intro c hc; cases hc
  · exact fun c hc => hW w hw c (h.mem hc)
theorem box_ok (hW : ∀ w ∈ W, LtOK q w) {p : Rc} (h : BoxR W p) : RcOK q p := ⟨lt_suf hW h.1, lt_suf hW h.2⟩
theorem box_len (hv : ∀ w ∈ W, w.length ≤ 32) (hn : W.length ≤ 64) {K : List Rc} (h : K.Nodup) (hb : ∀ p ∈ K, BoxR W p) : K.length ≤ 4464769 := by
  have h1 := List.Nodup.length_le_of_subset (l₁ := K) (l₂ := (sufL W).flatMap fun a => (sufL W).map fun b => (a, b)) h fun p hp => by
    obtain ⟨h2, h3⟩ := hb p hp
    exact List.mem_flatMap.2 ⟨p.1, h2, List.mem_map.2 ⟨p.2, h3, rfl⟩⟩
  have h2 : ∀ L : List Wd, (L.flatMap fun a => (sufL W).map fun b => ((a, b) : Rc)).length = L.length * (sufL W).length := fun L => by
    induction L with
    | nil => simp
    | cons a L ih => rw [List.flatMap_cons, List.length_append, ih, List.length_map, List.length_cons, Nat.add_mul, Nat.one_mul, Nat.add_comm]
  rw [h2] at h1
  have h3 := sfx_len hv hn
  have := Nat.mul_le_mul h3 h3
  omega
theorem aft_len (hn : 1 ≤ W.length ∧ W.length ≤ 64) {p : Rc} {l : UInt8} : (aft W p l).length ≤ 4096 := by
  rw [← aftI_full]
  refine Nat.le_trans (aftI_len _) ?_
  have h1 := rst_len (W := W) (s := p.1) (l := l) hn.1
  have h2 := rst_len (W := W) (s := p.2) (l := l) hn.1
  exact Nat.le_trans (Nat.mul_le_mul (Nat.le_trans h1 hn.2) (Nat.le_trans h2 hn.2)) (by decide)
theorem sucA_len (hn : 1 ≤ W.length ∧ W.length ≤ 64) {p : Rc} : ∀ n, (sucA W p n).length ≤ n * 4096
  | 0 => Nat.le_refl _
  | n + 1 => by
    have h1 := sucA_len hn (p := p) n
    have h2 := aft_len hn (p := p) (l := letters.getD n 0)
    show (sucA W p n ++ _).length ≤ _
    rw [List.length_append]; omega
theorem bef_len (hn : 1 ≤ W.length ∧ W.length ≤ 64) (hq : q ≤ 16) {y : Rc} : ∀ {D : List Rc}, (befL W q D y).length ≤ D.length * 65536
  | [] => Nat.le_refl _
  | p :: D => by
    have h1 := bef_len hn hq (y := y) (D := D)
    have h2 := sucA_len hn (p := p) q
    have h3 : (sucs W q p).count y ≤ (sucs W q p).length := List.count_le_length
    have h4 : (sucs W q p).length = (sucA W p q).length := rfl
    show (List.replicate _ p ++ befL W q D y).length ≤ _
    rw [List.length_append, List.length_replicate, List.length_cons]
    have : q * 4096 ≤ 65536 := by omega
    omega
structure Fst (W : List Wd) (q : Nat) (D Q : List Rc) (B : List (Rc × List Rc)) (L : List (Rc × Int)) : Prop where
  nd : (D ++ Q).Nodup
  box : ∀ x ∈ D ++ Q, BoxR W x
  at_ : ∀ i, i < W.length → ∀ s, AtM W i s → (([], s) : Rc) ∈ D ++ Q
  suc : ∀ x ∈ D, ∀ y ∈ sucs W q x, y ∈ D ++ Q
  bf : ∀ y, (alGet B y).getD [] = befL W q D y
  bn : (B.map (·.1)).Nodup
  lf : ∀ y, (alGet L y).getD 0 = if y ∈ D then ((sucs W q y).length : Int) else 0
structure FstJ (W : List Wd) (q : Nat) (D : List Rc) (x : Rc) (T Q : List Rc) (B : List (Rc × List Rc)) (L : List (Rc × Int)) : Prop where
  nd : (D ++ x :: Q).Nodup
  box : ∀ y ∈ D ++ x :: Q, BoxR W y
  at_ : ∀ i, i < W.length → ∀ s, AtM W i s → (([], s) : Rc) ∈ D ++ x :: Q
  suc : ∀ y ∈ D, ∀ z ∈ sucs W q y, z ∈ D ++ x :: Q
  sux : ∀ z ∈ T, z ∈ D ++ x :: Q
  bf : ∀ y, (alGet B y).getD [] = befL W q D y ++ List.replicate (T.count y) x
  bn : (B.map (·.1)).Nodup
  lf : ∀ y, (alGet L y).getD 0 = if y ∈ D then ((sucs W q y).length : Int) else if y = x then (T.length : Int) else 0
def bPut (B : List (Rc × List Rc)) (y x : Rc) : List (Rc × List Rc) := alPut B y ((alGet B y).getD [] ++ [x])
def lPut (L : List (Rc × Int)) (x : Rc) : List (Rc × Int) := alPut L x ((alGet L x).getD 0 + 1)
theorem Fst.take {D Q : List Rc} {x : Rc} {B : List (Rc × List Rc)} {L : List (Rc × Int)} (h : Fst W q D (x :: Q) B L) : FstJ W q D x [] Q B L :=
  ⟨h.nd, h.box, h.at_, h.suc, fun z hz => (by cases hz), fun y => by rw [h.bf y]; simp, h.bn, fun y => by rw [h.lf y]; simp⟩
theorem FstJ.xD {D T Q : List Rc} {x : Rc} {B : List (Rc × List Rc)} {L : List (Rc × Int)} (h : FstJ W q D x T Q B L) : x ∉ D := fun hx => by
  have := h.nd
  rw [List.nodup_append] at this
  exact this.2.2 x hx x List.mem_cons_self rfl
theorem FstJ.step {D T Q : List Rc} {x y : Rc} {B : List (Rc × List Rc)} {L : List (Rc × Int)} (h : FstJ W q D x T Q B L) (hy : BoxR W y) : FstJ W q D x (T ++ [y]) (if y ∈ D ++ x :: Q then Q else Q ++ [y]) (bPut B y x) (lPut L x) := by
  have hs : ∀ z, z ∈ D ++ x :: (if y ∈ D ++ x :: Q then Q else Q ++ [y]) ↔ z ∈ D ++ x :: Q ∨ z = y := fun z => by
    by_cases hm : y ∈ D ++ x :: Q
    · rw [if_pos hm]; exact ⟨.inl, fun k => k.elim id fun e => e ▸ hm⟩
    · rw [if_neg hm]; simp [or_assoc]
  constructor
  · by_cases hm : y ∈ D ++ x :: Q
    · rw [if_pos hm]; exact h.nd
    · rw [if_neg hm, ← List.cons_append, ← List.append_assoc, List.nodup_append]
      exact ⟨h.nd, by simp, fun a ha b hb e => by rw [List.mem_singleton.1 hb] at e; exact hm (e ▸ ha)⟩
  · intro z hz
    rcases (hs z).1 hz with h1 | rfl
    · exact h.box z h1
    · exact hy
  · exact fun i hi s hA => (hs _).2 (.inl (h.at_ i hi s hA))
  · exact fun a ha z hz => (hs z).2 (.inl (h.suc a ha z hz))
  · intro z hz
    rcases List.mem_append.1 hz with h1 | h1
    · exact (hs z).2 (.inl (h.sux z h1))
    · exact (hs z).2 (.inr (List.mem_singleton.1 h1))
  · intro z
    unfold bPut
    rw [al_putD, List.count_append]
    by_cases e : z = y
    · subst e
      rw [if_pos rfl, h.bf z]
      simp [List.replicate_succ']
    · rw [if_neg e, h.bf z]
      simp [show ¬ y = z from fun k => e k.symm]
  · exact al_nd h.bn
  · intro z
    unfold lPut
    rw [al_putD]
    by_cases e : z = x
    · subst e
      have := h.lf z
      rw [if_neg h.xD, if_pos rfl] at this
      rw [if_pos rfl, this, if_neg h.xD, if_pos rfl, List.length_append]
      simp
    · rw [if_neg e, h.lf z, if_neg e, if_neg e]
theorem FstJ.done {D Q : List Rc} {x : Rc} {B : List (Rc × List Rc)} {L : List (Rc × Int)} (h : FstJ W q D x (sucs W q x) Q B L) : Fst W q (D ++ [x]) Q B L := by
  have e : (D ++ [x]) ++ Q = D ++ x :: Q := by simp
  constructor
  · rw [e]; exact h.nd
  · rw [e]; exact h.box
  · rw [e]; exact h.at_
  · rw [e]
    intro y hy z hz
    rcases List.mem_append.1 hy with h1 | h1
    · exact h.suc y h1 z hz
    · rw [List.mem_singleton.1 h1] at hz; exact h.sux z hz
  · intro y
    rw [h.bf y]
    unfold befL
    rw [List.flatMap_append]; simp
  · exact h.bn
  · intro y
    rw [h.lf y]
    by_cases e1 : y ∈ D
    · rw [if_pos e1, if_pos (List.mem_append_left _ e1)]
    · by_cases e2 : y = x
      · subst e2; rw [if_neg e1, if_pos rfl, if_pos (by simp)]
      · rw [if_neg e1, if_neg e2, if_neg (by simp [e1, e2])]
theorem Fst.clr (hW : ∀ w ∈ W, LtOK q w) {D : List Rc} {B : List (Rc × List Rc)} {L : List (Rc × Int)} (h : Fst W q D [] B L) : Clr W q D := by
  have e : D ++ [] = D := List.append_nil D
  refine ⟨e ▸ h.nd, fun x hx => box_ok hW (h.box x (e.symm ▸ hx)), fun x hx y hy => ?_⟩
  have := h.suc x hx y hy
  rwa [e] at this
structure Ini (W : List Wd) (n : Nat) (K : List Rc) : Prop where
  nd : K.Nodup
  box : ∀ x ∈ K, BoxR W x
  at_ : ∀ i, i < n → ∀ s, AtM W i s → (([], s) : Rc) ∈ K
theorem ini_zero : Ini W 0 [] := ⟨List.nodup_nil, fun x hx => (by cases hx), fun i hi => absurd hi (Nat.not_lt_zero _)⟩
theorem ini_succ {n : Nat} {K L : List Rc} (h : Ini W n K) (hL : AtL W n L) : Ini W (n + 1) (addL K L) := by
  refine ⟨addL_nd h.nd, fun x hx => ?_, fun i hi s hs => ?_⟩
  · rcases addL_mem.1 hx with h1 | h1
    · exact h.box x h1
    · obtain ⟨h2, h3⟩ := (hL.mem x).1 h1
      have := box_at h3
      rw [← h2] at this
      exact this
  · refine addL_mem.2 ?_
    rcases Nat.lt_or_ge i n with h1 | h1
    · exact .inl (h.at_ i h1 s hs)
    · obtain rfl : i = n := by omega
      exact .inr ((hL.mem _).2 ⟨rfl, hs⟩)
theorem ini_fst {K : List Rc} (h : Ini W W.length K) : Fst W q [] K [] [] :=
  ⟨by simpa using h.nd, by simpa using h.box, by simpa using h.at_, fun x hx => (by cases hx), fun y => rfl, by simp, fun y => by simp [alGet]⟩
theorem peel_ini {K : List Rc} (hK : Clr W q K) {L : List (Rc × Int)} (hl : ∀ y ∈ K, (alGet L y).getD 0 = ((sucs W q y).length : Int)) {o : List Nat} (ho : o.Perm (List.range K.length)) {rv : Rc → Int} (hr : ∀ x ∈ K, rv x = forever) :
    Peel W q K [] ((o.map fun d => K.getD d dRc).filter fun x => decide ((alGet L x).getD 0 = 0)) (fun y => (alGet L y).getD 0) (fun _ => 0) rv := by
  have hlf : ∀ y, lfv W q [] y = (sucs W q y).length := fun y => by unfold lfv; simp
  have hm : ∀ y, y ∈ (o.map fun d => K.getD d dRc).filter (fun x => decide ((alGet L x).getD 0 = 0)) ↔ y ∈ K ∧ (alGet L y).getD 0 = 0 := fun y => by
    rw [List.mem_filter, perm_all ho, decide_eq_true_eq]
  constructor
  · exact (perm_nd hK.nd ho).sublist List.filter_sublist
  · exact fun x hx => ((hm x).1 hx).1
  · exact fun y hy => by rw [hl y hy, hlf]
  · intro y hy
    rw [List.nil_append, hm, hl y hy, hlf]
    exact ⟨fun h => by omega, fun h => ⟨hy, by omega⟩⟩
  · exact fun y hy z hz hE => by cases hE
  · exact fun y hy => .inl rfl
  · exact fun x hx => by cases hx
  · exact fun x hx _ => hr x hx
end
def idxB : Nat → List (Rc × List Rc) → List (Rc × (Nat × Nat))
  | _, [] => []
  | n, (y, l) :: B => (y, (n, l.length)) :: idxB (n + 1) B
def rowB (B : List (Rc × List Rc)) (i : Nat) : Option HObj := (B[i]?).map fun p => .arr p.2.length 2 (fun y => rcF (p.2.getD y dRc))
theorem idx_keys : ∀ {B : List (Rc × List Rc)} {n : Nat}, (idxB n B).map (·.1) = B.map (·.1)
  | [], _ => rfl
  | (y, l) :: B, n => by
    show y :: (idxB (n + 1) B).map (·.1) = y :: B.map (·.1)
    rw [idx_keys]
theorem idx_none {y : Rc} : ∀ {B : List (Rc × List Rc)} {n : Nat}, alGet (idxB n B) y = none ↔ alGet B y = none
  | [], _ => by simp [idxB, alGet]
  | (a, l) :: B, n => by
    show (if y = a then _ else alGet (idxB (n + 1) B) y) = none ↔ (if y = a then _ else alGet B y) = none
    by_cases h : y = a
    · rw [if_pos h, if_pos h]; simp
    · rw [if_neg h, if_neg h]; exact idx_none
theorem idx_some {y : Rc} {l : List Rc} : ∀ {B : List (Rc × List Rc)} {n : Nat}, alGet B y = some l → ∃ r, r < B.length ∧ B[r]? = some (y, l) ∧ alGet (idxB n B) y = some (n + r, l.length)
  | [], _, h => by cases h
  | (a, m) :: B, n, h => by
    simp only [alGet] at h
    by_cases e : y = a
    · rw [if_pos e] at h
      cases h
      refine ⟨0, by simp, by simp [e], ?_⟩
      show (if y = a then some (n, l.length) else _) = _
      rw [if_pos e]; rfl
    · rw [if_neg e] at h
      obtain ⟨r, h1, h2, h3⟩ := idx_some (n := n + 1) h
      refine ⟨r + 1, by simpa using h1, by simpa using h2, ?_⟩
      show (if y = a then _ else alGet (idxB (n + 1) B) y) = _
      rw [if_neg e, h3]
      congr 2; omega
theorem idx_new {y x : Rc} {B : List (Rc × List Rc)} (h : alGet B y = none) : bPut B y x = B ++ [(y, [x])] ∧ ∀ n, idxB n (bPut B y x) = alPut (idxB n B) y (n + B.length, 1) := by
  have e : bPut B y x = alPut B y [x] := by unfold bPut; rw [h]; rfl
  rw [e]
  clear e
  induction B with
  | nil => exact ⟨rfl, fun n => rfl⟩
  | cons p B ih =>
    obtain ⟨a, l⟩ := p
    simp only [alGet] at h
    by_cases e : y = a
    · rw [if_pos e] at h; cases h
    · rw [if_neg e] at h
      obtain ⟨h1, h2⟩ := ih h
      simp only [alPut, if_neg e]
      refine ⟨by rw [h1]; rfl, fun n => ?_⟩
      show (a, (n, l.length)) :: idxB (n + 1) (alPut B y [x]) = (if y = a then _ else (a, (n, l.length)) :: alPut (idxB (n + 1) B) y (n + (B.length + 1), 1))
      rw [if_neg e, h2, show n + 1 + B.length = n + (B.length + 1) by omega]
theorem idx_old {y x : Rc} {l : List Rc} {B : List (Rc × List Rc)} {r : Nat} (hb : (B.map (·.1)).Nodup) (h : alGet B y = some l) (hr : B[r]? = some (y, l)) : bPut B y x = B.set r (y, l ++ [x]) ∧ ∀ n, idxB n (bPut B y x) = alPut (idxB n B) y (n + r, l.length + 1) := by
  have e : bPut B y x = alPut B y (l ++ [x]) := by unfold bPut; rw [h]; rfl
  rw [e]
  clear e
  induction B generalizing r with
  | nil => cases h
  | cons p B ih =>
    obtain ⟨a, m⟩ := p
    rw [List.map_cons, List.nodup_cons] at hb
    simp only [alGet] at h
    by_cases e : y = a
    · subst e
      rw [if_pos rfl] at h
      cases h
      have hr0 : r = 0 := by
        rcases Nat.eq_zero_or_pos r with h0 | h0
        · exact h0
        · exfalso
          obtain ⟨k, rfl⟩ : ∃ k, r = k + 1 := ⟨r - 1, by omega⟩
          rw [List.getElem?_cons_succ] at hr
          exact hb.1 (List.mem_map.2 ⟨_, List.mem_of_getElem? hr, rfl⟩)
      subst hr0
      simp only [alPut, if_true]
      refine ⟨rfl, fun n => ?_⟩
      show (y, (n, (l ++ [x]).length)) :: idxB (n + 1) B = (if y = y then (y, (n + 0, l.length + 1)) :: idxB (n + 1) B else _)
      rw [if_pos rfl, List.length_append]; rfl
    · rw [if_neg e] at h
      obtain ⟨k, rfl⟩ : ∃ k, r = k + 1 := ⟨r - 1, by
        rcases Nat.eq_zero_or_pos r with h0 | h0
        · subst h0
          rw [List.getElem?_cons_zero] at hr
          injection hr with hr
          exact absurd (congrArg Prod.fst hr).symm e
        · omega⟩
      rw [List.getElem?_cons_succ] at hr
      obtain ⟨h1, h2⟩ := ih hb.2 h hr
      simp only [alPut, if_neg e]
      refine ⟨by rw [h1]; rfl, fun n => ?_⟩
      show (a, (n, m.length)) :: idxB (n + 1) (alPut B y (l ++ [x])) = (if y = a then _ else (a, (n, m.length)) :: alPut (idxB (n + 1) B) y (n + (k + 1), l.length + 1))
      rw [if_neg e, h2, show n + 1 + k = n + (k + 1) by omega]
end Go.Proofs.Ytoafgeobhhlplaa
