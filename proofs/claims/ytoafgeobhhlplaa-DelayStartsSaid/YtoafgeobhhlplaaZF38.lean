/- Parts of the proof: VL. -/
import Derived.Test.YtoafgeobhhlplaaZF22
import Derived.Test.YtoafgeobhhlplaaZF28
import Derived.Test.YtoafgeobhhlplaaZF36
import Derived.Test.YtoafgeobhhlplaaZF37
namespace Go.Proofs.Ytoafgeobhhlplaa
set_option linter.unusedSimpArgs false
set_option linter.unusedVariables false
open Go Go.Lift Go.Proofs
@[simp] theorem luKs {β : Type} {ev : β → AVal} {l : List (List UInt8 × β)} {k : List UInt8} : luK T 9 (mpE strK ev l) 0 (.str k) = some ((alFind l 0 k).map fun p => (p.1, ev p.2)) := luK_strK (by simp)
theorem HLe_mm {α β : Type} {ek : α → AVal} {ev : β → AVal} (h1 : ∀ a, Clo (ek a)) (h2 : ∀ b, Clo (ev b)) {h : Heap} {σ : Lift.Id → Lift.Id} {fz : Nat → Bool} {vz : Lift.Id → Bool} {nx : Nat} {q : MQ} {l : List (α × β)} : HLe h σ fz vz nx (.mi q (mpE ek ev l)) (some (.mi q (mpE ek ev l))) ∧ HLe h σ fz vz nx (.mp (mpE ek ev l)) (some (.mi q (mpE ek ev l))) := by
  have := HLe_mpE (h := h) (σ := σ) (fz := fz) (vz := vz) (nx := nx) h1 h2 (rfl : l = l)
  exact ⟨⟨rfl, this.1, this.2⟩, this⟩
@[simp high] theorem HLe_sb_mm {h : Heap} {σ : Lift.Id → Lift.Id} {fz : Nat → Bool} {vz : Lift.Id → Bool} {nx : Nat} {q : MQ} {l : List (List UInt8 × Bool)} : HLe h σ fz vz nx (.mi q (mpE strK boolV l)) (some (.mi q (mpE strK boolV l))) = True := eq_true (HLe_mm (ek := strK) (ev := boolV) (fun _ => trivial) (fun _ => trivial)).1
@[simp high] theorem HLe_sb_mp {h : Heap} {σ : Lift.Id → Lift.Id} {fz : Nat → Bool} {vz : Lift.Id → Bool} {nx : Nat} {q : MQ} {l : List (List UInt8 × Bool)} : HLe h σ fz vz nx (.mp (mpE strK boolV l)) (some (.mi q (mpE strK boolV l))) = True := eq_true (HLe_mm (ek := strK) (ev := boolV) (fun _ => trivial) (fun _ => trivial)).2
@[simp high] theorem HLe_it {h : Heap} {σ : Lift.Id → Lift.Id} {fz : Nat → Bool} {vz : Lift.Id → Bool} {nx : Nat} {q : MQ} {l : List Nat} {c : Option Nat} : HLe h σ fz vz nx (.ob (itP q l none)) (some (.ob (itP q l c))) = True := eq_true fun b x hx => by
  obtain ⟨seen, h1, h2, h3, h4, _⟩ := hx
  exact ⟨seen, h1, h2, h3, h4, fun i e => by cases e⟩
theorem left_step {n : Nat} {done left : List Nat} {i : Nat} (h : (done ++ left).Perm (List.range n)) (hi : i ∈ left) : ((done ++ [i]) ++ left.erase i).Perm (List.range n) ∧ (left.erase i).length < left.length := by
  refine ⟨List.Perm.trans ?_ h, by rw [List.length_erase_of_mem hi]; have := List.length_pos_of_mem hi; omega⟩
  rw [List.append_assoc]
  exact (List.perm_cons_erase hi).symm.append_left done
theorem done_len {n : Nat} {done left : List Nat} (h : (done ++ left).Perm (List.range n)) : done.length + left.length = n := by
  have := h.length_eq
  simpa using this
theorem nx_some {left : List Nat} {n : Nat} {c : Option Nat} (h : nxOK left n c) (hs : c.isSome = true) : ∃ i, c = some i ∧ i ∈ left ∧ i < n := by
  obtain ⟨i, rfl⟩ := Option.isSome_iff_exists.1 hs
  exact ⟨i, rfl, h⟩
theorem nx_none {left : List Nat} {n : Nat} {c : Option Nat} (h : nxOK left n c) (hs : c = none) : left = [] := by
  subst hs; exact h
def enS (s : Wd) (j : Nat) : AVal := match j with
  | 0 => .str s
  | _ => .bool true
@[simp] theorem enS_zero {s : Wd} : enS s 0 = .str s := rfl
theorem enF_sb {F : List Wd} {i : Nat} (h : i < F.length) : enF (mpE strK boolV (seenG F)) i = enS (F.getD i []) := by
  have hg : (mpE strK boolV (seenG F)).getD i (.any, .any) = (.str (F.getD i []), .bool true) := by
    simp [mpE, seenG, List.getD, h]
    exact ⟨rfl, rfl⟩
  funext j
  cases j with
  | zero => show ((mpE strK boolV (seenG F)).getD i (.any, .any)).1 = _; rw [hg]; rfl
  | succ j => show ((mpE strK boolV (seenG F)).getD i (.any, .any)).2 = _; rw [hg]; rfl
@[simp] theorem ren_mpSB {σ : Nat → Nat} {l : List (List UInt8 × Bool)} : List.map (fun p => (ren σ p.1, ren σ p.2)) (mpE strK boolV l) = mpE strK boolV l := by
  conv => rhs; rw [← List.map_id (mpE strK boolV l)]
  refine List.map_congr_left fun p hp => ?_
  obtain ⟨q, _, rfl⟩ := List.mem_map.1 hp
  rfl
@[simp] theorem putK_empS {k : List UInt8} {b : Bool} : putK [] none (.str k) (.bool b) = mpE strK boolV [(k, b)] := rfl
theorem done_snoc {β : Type} {f : Nat → List β} {done : List Nat} {i : Nat} : (done ++ [i]).flatMap f = done.flatMap f ++ f i := by rw [List.flatMap_append]; simp
attribute [simp] seenG_put
@[simp] theorem seenG_one {k : Wd} : seenG [k] = [(k, true)] := rfl
theorem asc_nd {W : List Wd} (h : W.Pairwise lessW) : W.Nodup := List.nodup_iff_pairwise_ne.2 (h.imp lessW_ne)
theorem pre_anti {W : List Wd} (h : W.Nodup) {k i : Nat} (hk : k < W.length) (hi : i < W.length) (hne : k ≠ i) (h1 : W.getD k [] <+: W.getD i []) (h2 : W.getD i [] <+: W.getD k []) : False := by
  have e : W.getD k [] = W.getD i [] := h1.eq_of_length_le h2.length_le
  simp only [List.getD, List.getElem?_eq_getElem hk, List.getElem?_eq_getElem hi, Option.getD_some] at e
  have hpw := List.pairwise_iff_getElem.1 (List.nodup_iff_pairwise_ne.1 h)
  rcases Nat.lt_trichotomy k i with h3 | h3 | h3
  · exact hpw k i hk hi h3 e
  · exact hne h3
  · exact hpw i k hi hk h3 e.symm
theorem nowS_next {W : List Wd} {x : Wd} {a n : Nat} {N : List Wd} (h : NowS W ((x.drop a).take n) N) (hn : a + n < x.length) {o : List Nat} (ho : o.Perm (List.range N.length)) : NowS W ((x.drop a).take (n + 1)) (addL [] (o.flatMap fun d => rst W (N.getD d []) (x.getD (a + n) 0))) := by
  have hl : n < (x.drop a).length := by rw [List.length_drop]; omega
  have e : (x.drop a).take (n + 1) = (x.drop a).take n ++ [x.getD (a + n) 0] := by
    rw [List.take_succ_eq_append_getElem hl]
    congr 2
    simp [List.getD, hn]
  rw [e]
  exact nowS_step h ho
theorem app_dn {F : List Wd} {done : List Nat} {i0 : Nat} {w : Nat → Nat → AVal} {i j : Nat} (hw : w 0 j = rcF ([], F.getD i0 []) j) (hi : i < done.length + 1) : app (fun y => rcF ((done.map fun d => (([], F.getD d []) : Rc)).getD y dRc)) done.length w i j = rcF (((done.map fun d => (([], F.getD d []) : Rc)) ++ [([], F.getD i0 [])]).getD i dRc) j := by
  have := app_oneR (K := done.map fun d => (([], F.getD d []) : Rc)) (x := ([], F.getD i0 [])) hw (by rw [List.length_map]; exact hi)
  rw [List.length_map] at this
  exact this
set_option maxRecDepth 100000 in
set_option maxHeartbeats 1000000 in
theorem atR_c (c : Cd) (hv : CdOK c) (i : Nat) (hi : i < c.ws.length) (m : List (Rc × Int)) : FC Try.prog 40 [.agg 3 (rvF c (.map (0, 0))), .int .i64 (i : Nat)] [(0, .one (.mp (mpE rcK intV m)))] 1 (fun L : List Rc => AtL c.ws i L) (fun L : List Rc => rcs L) (fun L : List Rc => [(0, .one (.mp (mpE rcK intV m)))]) (fun L : List Rc => 1) := by
 have hWn := hv.n
 have hxl := hv.len _ (W_mem hi)
 have hnd := asc_nd hv.asc
 refine FC_introS T_ok Try.func40 rfl (by simp [Try.ntmps40]) fun G hG hR => ?_
 simp only [Try.ntmps40, Try.results40] at hG ⊢
 simp only [argEnv, Nat.zero_add, Nat.reduceAdd]
 refine zs (zr ?_ (h := by intro c K h; simp [hG, List.getD_cons_zero, List.getD_cons_succ, -List.getD_eq_getElem?_getD, pureOp, addL_nil, seenG_nil]; first | exact z1 c h | exact ⟨.mk c, h⟩))
 refine zs (zr ?_ (h := by intro c K h; simp [hG, List.getD_cons_zero, List.getD_cons_succ, -List.getD_eq_getElem?_getD, pureOp, addL_nil, seenG_nil]; first | exact z1 c h | exact ⟨.mk c, h⟩))
 refine zs (zr ?_ (h := by intro c K h; simp [hG, List.getD_cons_zero, List.getD_cons_succ, -List.getD_eq_getElem?_getD, pureOp, addL_nil, seenG_nil]; first | exact z1 c h | exact ⟨.mk c, h⟩))
 refine zs (zs (zr ?_ (h := by intro c K h; simp [hG, List.getD_cons_zero, List.getD_cons_succ, -List.getD_eq_getElem?_getD, pureOp, addL_nil, seenG_nil]; first | exact z1 c h | exact ⟨.mk c, h⟩)))
 refine zb ?_
 refine awpS_loop (α := Nat × List Wd) (fun z => ⟨[(1, .int .i64 (i : Nat)), (2, .vptr 3 (rvF c (.map (0, 0))) 0), (5, .str (c.ws.getD i [])), (6, .map (1, 0)), (27, strs c.ws), (28, .int .i64 c.ws.length), (29, .int .i64 (z.1 : Nat))], [(0, .one (.mp (mpE rcK intV m))), (1, .one (.mp (mpE strK boolV (seenG z.2))))], 2⟩) (fun z => z.1 ≤ c.ws.length ∧ FndOK c.ws i z.1 z.2) (fun z => c.ws.length - z.1) ((0, [])) (⟨Nat.zero_le _, fnd_zero⟩) ?_ ?_
 · refine wk_of (fun k => if k = 1 then 2 else k) (fun k => k == 1) (fun _ => false) ?_ ?_ rfl (by simp) (fun k hk => by first | exact ⟨rfl, rfl⟩ | (revert k; decide) | (obtain rfl : k = 0 := (by omega); exact ⟨rfl, rfl⟩) | (have hk2 : k = 0 ∨ k = 1 := (by omega); rcases hk2 with rfl | rfl <;> exact ⟨rfl, rfl⟩))
   · simp [hG, List.getD_cons_zero, List.getD_cons_succ, -List.getD_eq_getElem?_getD, pureOp, addL_nil, seenG_nil]
   simp [hG, List.getD_cons_zero, List.getD_cons_succ, -List.getD_eq_getElem?_getD, pureOp, addL_nil, seenG_nil]
 rintro ⟨k, F⟩ ⟨hk, hF⟩
 simp only at hk hF
 refine zs (zr ?_ (h := by intro c K h; simp [hG, List.getD_cons_zero, List.getD_cons_succ, -List.getD_eq_getElem?_getD, pureOp, addL_nil, seenG_nil]; first | exact z1 c h | exact ⟨.mk c, h⟩))
 refine zs (zy (fun hb30 => ?_) fun hb30 => ?_)
 · have hyl := hv.len _ (W_mem hb30)
   refine zk (zs (zb (zs (zr ?_ (h := by intro c K h; simp [hG, List.getD_cons_zero, List.getD_cons_succ, -List.getD_eq_getElem?_getD, pureOp, addL_nil, seenG_nil]; first | exact z1 c h | exact ⟨.mk c, h⟩)))))
   refine zs (zs (zr ?_ (h := by intro c K h; simp [hG, List.getD_cons_zero, List.getD_cons_succ, -List.getD_eq_getElem?_getD, pureOp, addL_nil, seenG_nil]; first | exact z1 c h | exact ⟨.mk c, h⟩)))
   refine zy (fun hb36 => ?_) fun hb36 => ?_
   · obtain rfl : k = i := (by omega)
     refine zx (zbx (zr ?_ (h := by intro c K h; simp [hG, List.getD_cons_zero, List.getD_cons_succ, -List.getD_eq_getElem?_getD, pureOp, addL_nil, seenG_nil]; first | exact z1 c h | exact ⟨.mk c, h⟩)))
     refine zn ?_
     refine round_end ((k + 1, F)) (⟨by simp only; omega, fnd_same hF⟩) (by simp only; omega) ?_
     refine wk_of (id) (fun _ => false) (fun _ => false) ?_ ?_ rfl (by simp) (fun k hk => by first | exact ⟨rfl, rfl⟩ | (revert k; decide) | (obtain rfl : k = 0 := (by omega); exact ⟨rfl, rfl⟩) | (have hk2 : k = 0 ∨ k = 1 := (by omega); rcases hk2 with rfl | rfl <;> exact ⟨rfl, rfl⟩))
     · simp [hG, List.getD_cons_zero, List.getD_cons_succ, -List.getD_eq_getElem?_getD, pureOp, addL_nil, seenG_nil]
     simp [hG, List.getD_cons_zero, List.getD_cons_succ, -List.getD_eq_getElem?_getD, pureOp, addL_nil, seenG_nil]
   have hki : k ≠ i := (by omega)
   refine zk (zs (zs (zL (zl 2 ?_ (h := by intro c K h; simp [hG, List.getD_cons_zero, List.getD_cons_succ, -List.getD_eq_getElem?_getD, pureOp, addL_nil, seenG_nil]; first | exact z1 c h | exact ⟨.mk c, h⟩)))))
   refine zc cal27 (preW_c (c.ws.getD k []) (c.ws.getD i [])) ?_ (a := fun hg => by simp [hG, List.getD_cons_zero, List.getD_cons_succ, -List.getD_eq_getElem?_getD, pureOp, addL_nil, seenG_nil]) (b := fun hg => by simp [hG, List.getD_cons_zero, List.getD_cons_succ, -List.getD_eq_getElem?_getD, pureOp, addL_nil, seenG_nil]) (h := by intro K h; simp [hG, List.getD_cons_zero, List.getD_cons_succ, -List.getD_eq_getElem?_getD, pureOp, addL_nil, seenG_nil]; exact h)
   refine zN (zy (fun hb39 => ?_) fun hb39 => ?_)
   · have hin := fnd_in hF hki hb39
     have hpl := hb39.length_le
     refine zL (zl 4 ?_ (h := by intro c K h; simp [hG, List.getD_cons_zero, List.getD_cons_succ, -List.getD_eq_getElem?_getD, pureOp, addL_nil, seenG_nil]; first | exact z1 c h | exact ⟨.mk c, h⟩))
     refine zl 1 ?_ (h := by intro c K h; simp [hG, List.getD_cons_zero, List.getD_cons_succ, -List.getD_eq_getElem?_getD, pureOp, addL_nil, seenG_nil]; first | exact z1 c h | exact ⟨.mk c, h⟩)
     refine zl 1 ?_ (h := by intro c K h; simp [hG, List.getD_cons_zero, List.getD_cons_succ, -List.getD_eq_getElem?_getD, pureOp, addL_nil, seenG_nil]; first | exact z1 c h | exact ⟨.mk c, h⟩)
     refine zN (zs (zs (zL (zl 2 ?_ (h := by intro c K h; simp [hG, List.getD_cons_zero, List.getD_cons_succ, -List.getD_eq_getElem?_getD, pureOp, addL_nil, seenG_nil]; first | exact z1 c h | exact ⟨.mk c, h⟩)))))
     refine zc cal27 (preW_c (c.ws.getD i []) (c.ws.getD k [])) ?_ (a := fun hg => by simp [hG, List.getD_cons_zero, List.getD_cons_succ, -List.getD_eq_getElem?_getD, pureOp, addL_nil, seenG_nil]) (b := fun hg => by simp [hG, List.getD_cons_zero, List.getD_cons_succ, -List.getD_eq_getElem?_getD, pureOp, addL_nil, seenG_nil]) (h := by intro K h; simp [hG, List.getD_cons_zero, List.getD_cons_succ, -List.getD_eq_getElem?_getD, pureOp, addL_nil, seenG_nil]; exact h)
     refine zl 1 ?_ (h := by intro c K h; simp [hG, List.getD_cons_zero, List.getD_cons_succ, -List.getD_eq_getElem?_getD, pureOp, addL_nil, seenG_nil]; first | exact z1 c h | exact ⟨.mk c, h⟩)
     refine zN ?_
     refine awpS_cond rfl (fun hb48 => ?_) (fun hb48 => ?_)
     · try simp [-List.getD_eq_getElem?_getD] at hb48
       refine zx (zbx (zr ?_ (h := by intro c K h; simp [hG, List.getD_cons_zero, List.getD_cons_succ, -List.getD_eq_getElem?_getD, pureOp, addL_nil, seenG_nil]; first | exact z1 c h | exact ⟨.mk c, h⟩)))
       refine zn ?_
       refine round_end ((k + 1, addG F ((c.ws.getD k []).drop (c.ws.getD i []).length))) (⟨by simp only; omega, hin⟩) (by simp only; omega) ?_
       refine wk_of (id) (fun _ => false) (fun _ => false) ?_ ?_ rfl (by simp) (fun k hk => by first | exact ⟨rfl, rfl⟩ | (revert k; decide) | (obtain rfl : k = 0 := (by omega); exact ⟨rfl, rfl⟩) | (have hk2 : k = 0 ∨ k = 1 := (by omega); rcases hk2 with rfl | rfl <;> exact ⟨rfl, rfl⟩))
       · simp [hG, List.getD_cons_zero, List.getD_cons_succ, -List.getD_eq_getElem?_getD, pureOp, addL_nil, seenG_nil]
       simp [hG, pureOp, List.getD_cons_zero, List.getD_cons_succ, -List.getD_eq_getElem?_getD]
     exact absurd (pre_anti hnd hb30 hi hki (by simpa [-List.getD_eq_getElem?_getD] using hb48) hb39) id
   refine zk (zs (zs (zL (zl 2 ?_ (h := by intro c K h; simp [hG, List.getD_cons_zero, List.getD_cons_succ, -List.getD_eq_getElem?_getD, pureOp, addL_nil, seenG_nil]; first | exact z1 c h | exact ⟨.mk c, h⟩)))))
   refine zc cal27 (preW_c (c.ws.getD i []) (c.ws.getD k [])) ?_ (a := fun hg => by simp [hG, List.getD_cons_zero, List.getD_cons_succ, -List.getD_eq_getElem?_getD, pureOp, addL_nil, seenG_nil]) (b := fun hg => by simp [hG, List.getD_cons_zero, List.getD_cons_succ, -List.getD_eq_getElem?_getD, pureOp, addL_nil, seenG_nil]) (h := by intro K h; simp [hG, List.getD_cons_zero, List.getD_cons_succ, -List.getD_eq_getElem?_getD, pureOp, addL_nil, seenG_nil]; exact h)
   refine zl 1 ?_ (h := by intro c K h; simp [hG, List.getD_cons_zero, List.getD_cons_succ, -List.getD_eq_getElem?_getD, pureOp, addL_nil, seenG_nil]; first | exact z1 c h | exact ⟨.mk c, h⟩)
   refine zN (zy (fun hb48 => ?_) fun hb48 => ?_)
   · refine zx (zbx (zr ?_ (h := by intro c K h; simp [hG, List.getD_cons_zero, List.getD_cons_succ, -List.getD_eq_getElem?_getD, pureOp, addL_nil, seenG_nil]; first | exact z1 c h | exact ⟨.mk c, h⟩)))
     refine zn ?_
     refine round_end ((k + 1, F)) (⟨by simp only; omega, fnd_off hF hb39 (by simpa [-List.getD_eq_getElem?_getD] using hb48)⟩) (by simp only; omega) ?_
     refine wk_of (id) (fun _ => false) (fun _ => false) ?_ ?_ rfl (by simp) (fun k hk => by first | exact ⟨rfl, rfl⟩ | (revert k; decide) | (obtain rfl : k = 0 := (by omega); exact ⟨rfl, rfl⟩) | (have hk2 : k = 0 ∨ k = 1 := (by omega); rcases hk2 with rfl | rfl <;> exact ⟨rfl, rfl⟩))
     · simp [hG, List.getD_cons_zero, List.getD_cons_succ, -List.getD_eq_getElem?_getD, pureOp, addL_nil, seenG_nil]
     simp [hG, List.getD_cons_zero, List.getD_cons_succ, -List.getD_eq_getElem?_getD, pureOp, addL_nil, seenG_nil]
   have hqp : (c.ws.getD k []) <+: (c.ws.getD i []) := (by simpa [-List.getD_eq_getElem?_getD] using hb48)
   have hpl2 := hqp.length_le
   refine zk (zs (zr ?_ (h := by intro c K h; simp [hG, List.getD_cons_zero, List.getD_cons_succ, -List.getD_eq_getElem?_getD, pureOp, addL_nil, seenG_nil]; first | exact z1 c h | exact ⟨.mk c, h⟩)))
   refine zs (zs (zr ?_ (h := by intro c K h; simp [hG, List.getD_cons_zero, List.getD_cons_succ, -List.getD_eq_getElem?_getD, pureOp, addL_nil, seenG_nil]; first | exact z1 c h | exact ⟨.mk c, h⟩)))
   refine zb ?_
   refine awpS_loop (α := Nat × List Wd) (fun z => ⟨[(1, .int .i64 (i : Nat)), (2, .vptr 3 (rvF c (.map (0, 0))) 0), (5, .str (c.ws.getD i [])), (6, .map (1, 0)), (8, .str (c.ws.getD k [])), (9, .map (2, 0)), (10, .int .i64 ((c.ws.getD k []).length + z.1 : Nat)), (27, strs c.ws), (28, .int .i64 c.ws.length), (29, .int .i64 (k : Nat))], [(0, .one (.mp (mpE rcK intV m))), (1, .one (.mp (mpE strK boolV (seenG F)))), (2, .one (.mp (mpE strK boolV (seenG z.2))))], 3⟩) (fun z => (c.ws.getD k []).length + z.1 ≤ (c.ws.getD i []).length ∧ NowS c.ws (((c.ws.getD i []).drop (c.ws.getD k []).length).take z.1) z.2) (fun z => (c.ws.getD i []).length - ((c.ws.getD k []).length + z.1)) ((0, [[]])) (⟨hpl2, nowS_zero⟩) ?_ ?_
   · refine wk_of (id) (fun _ => false) (fun _ => false) ?_ ?_ rfl (by simp) (fun k hk => by first | exact ⟨rfl, rfl⟩ | (revert k; decide) | (obtain rfl : k = 0 := (by omega); exact ⟨rfl, rfl⟩) | (have hk2 : k = 0 ∨ k = 1 := (by omega); rcases hk2 with rfl | rfl <;> exact ⟨rfl, rfl⟩))
     · simp [hG, List.getD_cons_zero, List.getD_cons_succ, -List.getD_eq_getElem?_getD, pureOp, addL_nil, seenG_nil]
     simp [hG, List.getD_cons_zero, List.getD_cons_succ, -List.getD_eq_getElem?_getD, pureOp, addL_nil, seenG_nil]
   rintro ⟨n, N⟩ ⟨hnn, hN⟩
   simp only at hnn hN
   refine zs (zs (zr ?_ (h := by intro c K h; simp [hG, List.getD_cons_zero, List.getD_cons_succ, -List.getD_eq_getElem?_getD, pureOp, addL_nil, seenG_nil]; first | exact z1 c h | exact ⟨.mk c, h⟩)))
   refine zy (fun hb56 => ?_) fun hb56 => ?_
   · have hnl := nowS_len hv.len hWn.2 hN
     have hct : (((c.ws.getD k []).length : Int) + (n : Int)).toNat = (c.ws.getD k []).length + n := by omega
     refine zk (zs (zb (zs (zr ?_ (h := by intro c K h; simp [hG, List.getD_cons_zero, List.getD_cons_succ, -List.getD_eq_getElem?_getD, pureOp, addL_nil, seenG_nil]; first | exact z1 c h | exact ⟨.mk c, h⟩)))))
     refine zs (zs (zL (zl 1 ?_ (h := by intro c K h; simp [hG, List.getD_cons_zero, List.getD_cons_succ, -List.getD_eq_getElem?_getD, pureOp, addL_nil, seenG_nil]; first | exact z1 c h | exact ⟨.mk c, h⟩))))
     refine awpL_range (id := (2, 0)) Try.underlying102 rfl rfl rfl rfl trivial fun K hK q hq => ?_
     simp [hG, List.getD_cons_zero, List.getD_cons_succ, -List.getD_eq_getElem?_getD, pureOp, addL_nil, seenG_nil]
     refine hK _ ?_
     clear K hK
     refine zN (zb ?_)
     refine awpS_loop (α := List Nat × List Nat) (fun z => ⟨[(1, .int .i64 (i : Nat)), (2, .vptr 3 (rvF c (.map (0, 0))) 0), (5, .str (c.ws.getD i [])), (6, .map (1, 0)), (8, .str (c.ws.getD k [])), (10, .int .i64 ((c.ws.getD k []).length + n : Nat)), (11, .map (3, 0)), (27, strs c.ws), (28, .int .i64 c.ws.length), (29, .int .i64 (k : Nat)), (61, .ptr (4, 0) 0 0)], [(0, .one (.mp (mpE rcK intV m))), (1, .one (.mp (mpE strK boolV (seenG F)))), (2, .one (.mi q (mpE strK boolV (seenG N)))), (3, .one (.mp (mpE strK boolV (seenG (addL [] (z.1.flatMap fun d => rst c.ws (N.getD d []) ((c.ws.getD i []).getD ((c.ws.getD k []).length + n) 0))))))), (4, .one (.ob (itP q z.2 none)))], 5⟩) (fun z => (z.1 ++ z.2).Perm (List.range N.length)) (fun z => z.2.length) (([], List.range N.length)) (List.Perm.refl _) ?_ ?_
     · refine wk_of (id) (fun _ => false) (fun _ => false) ?_ ?_ rfl (by simp) (fun k hk => by first | exact ⟨rfl, rfl⟩ | (revert k; decide) | (obtain rfl : k = 0 := (by omega); exact ⟨rfl, rfl⟩) | (have hk2 : k = 0 ∨ k = 1 := (by omega); rcases hk2 with rfl | rfl <;> exact ⟨rfl, rfl⟩))
       · simp [hG, List.getD_cons_zero, List.getD_cons_succ, -List.getD_eq_getElem?_getD, pureOp, addL_nil, seenG_nil]
       simp [hG, List.getD_cons_zero, List.getD_cons_succ, -List.getD_eq_getElem?_getD, pureOp, addL_nil, seenG_nil]
     rintro ⟨done, left⟩ hz
     simp only at hz
     refine zs (zL ?_)
     refine awpL_next (id := (2, 0)) (by decide) rfl rfl rfl rfl rfl trivial fun K hK cc hc => ?_
     simp [hG, List.getD_cons_zero, List.getD_cons_succ, -List.getD_eq_getElem?_getD, pureOp, addL_nil, seenG_nil]
     refine hK _ ?_
     clear K hK
     refine zl 1 ?_ (h := by intro c K h; simp [hG, List.getD_cons_zero, List.getD_cons_succ, -List.getD_eq_getElem?_getD, pureOp, addL_nil, seenG_nil]; first | exact z1 c h | exact ⟨.mk c, h⟩)
     refine zN (zs (zy (fun hb63 => ?_) fun hb63 => ?_))
     · rw [length_mpE, seenG_len] at hc
       obtain ⟨i0, rfl, hi0, hil⟩ := nx_some hc hb63
       have hst := left_step hz hi0
       refine zk (zb (zs (zL ?_)))
       refine awpL_entry (id := (2, 0)) rfl rfl rfl rfl rfl trivial fun K hK => ?_; rw [enF_sb hil]
       simp [hG, List.getD_cons_zero, List.getD_cons_succ, -List.getD_eq_getElem?_getD, pureOp, addL_nil, seenG_nil]
       refine hK _ ?_
       clear K hK
       refine zl 2 ?_ (h := by intro c K h; simp [hG, List.getD_cons_zero, List.getD_cons_succ, -List.getD_eq_getElem?_getD, pureOp, addL_nil, seenG_nil]; first | exact z1 c h | exact ⟨.mk c, h⟩)
       refine zN (zs ?_)
       refine awpS_draw hR mixed [] ⟨[], [], []⟩ fun mu0 => ?_
       refine za [0, 1, 2, 3, 4, 5, 8] [] 2 [8, 5, 4, 3, 2, 1, 0] ?_ (h := by intro c K h; simp [hG, List.getD_cons_zero, List.getD_cons_succ, -List.getD_eq_getElem?_getD, pureOp, addL_nil, seenG_nil]; first | exact z1 c h | exact ⟨.mk c, h⟩)
       refine awpA_only (fuel := 1) (i := 6) (by decide +kernel) ?_
       refine ze cal68 (rests_c c hv (N.getD i0 []) ((c.ws.getD i []).getD ((c.ws.getD k []).length + n) 0)) ?_ (a := fun hg => by simp [hG, List.getD_cons_zero, List.getD_cons_succ, -List.getD_eq_getElem?_getD, pureOp, addL_nil, seenG_nil]) (b := fun hg => by simp [hG, pureOp, List.getD_cons_zero, List.getD_cons_succ, -List.getD_eq_getElem?_getD]; rw [hct]) (h := by intro K h; simp [hG, List.getD_cons_zero, List.getD_cons_succ, -List.getD_eq_getElem?_getD, pureOp, addL_nil, seenG_nil]; exact h)
       refine za [7] [] 0 [7, 6, 8, 5, 4, 3, 2, 1, 0] ?_ (h := by intro c K h; simp [hG, List.getD_cons_zero, List.getD_cons_succ, -List.getD_eq_getElem?_getD, pureOp, addL_nil, seenG_nil]; first | exact z1 c h | exact ⟨.mk c, h⟩)
       refine awpA_done (by decide +kernel) ?_
       refine zb ?_
       refine awpS_loop (α := Nat) (fun j => ⟨[(1, .int .i64 (i : Nat)), (2, .vptr 3 (rvF c (.map (0, 0))) 0), (5, .str (c.ws.getD i [])), (6, .map (1, 0)), (8, .str (c.ws.getD k [])), (10, .int .i64 ((c.ws.getD k []).length + n : Nat)), (11, .map (3, 0)), (27, strs c.ws), (28, .int .i64 c.ws.length), (29, .int .i64 (k : Nat)), (61, .ptr (4, 0) 0 0), (72, strs (rst c.ws (N.getD i0 []) ((c.ws.getD i []).getD ((c.ws.getD k []).length + n) 0))), (73, .int .i64 (rst c.ws (N.getD i0 []) ((c.ws.getD i []).getD ((c.ws.getD k []).length + n) 0)).length), (74, .int .i64 (j : Nat))], [(0, .one (.mp (mpE rcK intV m))), (1, .one (.mp (mpE strK boolV (seenG F)))), (2, .one (.mi q (mpE strK boolV (seenG N)))), (3, .one (.mp (mpE strK boolV (seenG (addL (addL [] (done.flatMap fun d => rst c.ws (N.getD d []) ((c.ws.getD i []).getD ((c.ws.getD k []).length + n) 0))) ((rst c.ws (N.getD i0 []) ((c.ws.getD i []).getD ((c.ws.getD k []).length + n) 0)).take j)))))), (4, .one (.ob (itP q (left.erase i0) none)))], 5⟩) (fun j => j ≤ (rst c.ws (N.getD i0 []) ((c.ws.getD i []).getD ((c.ws.getD k []).length + n) 0)).length) (fun j => (rst c.ws (N.getD i0 []) ((c.ws.getD i []).getD ((c.ws.getD k []).length + n) 0)).length - j) (0) (Nat.zero_le _) ?_ ?_
       · refine wk_of (id) (fun _ => false) (fun _ => false) ?_ ?_ rfl (by simp) (fun k hk => by first | exact ⟨rfl, rfl⟩ | (revert k; decide) | (obtain rfl : k = 0 := (by omega); exact ⟨rfl, rfl⟩) | (have hk2 : k = 0 ∨ k = 1 := (by omega); rcases hk2 with rfl | rfl <;> exact ⟨rfl, rfl⟩))
         · simp [hG, List.getD_cons_zero, List.getD_cons_succ, -List.getD_eq_getElem?_getD, pureOp, addL_nil, seenG_nil]
         simp [hG, List.getD_cons_zero, List.getD_cons_succ, -List.getD_eq_getElem?_getD, pureOp, addL_nil, seenG_nil]
       rintro j hj
       refine zs (zr ?_ (h := by intro c K h; simp [hG, List.getD_cons_zero, List.getD_cons_succ, -List.getD_eq_getElem?_getD, pureOp, addL_nil, seenG_nil]; first | exact z1 c h | exact ⟨.mk c, h⟩))
       refine zs (zy (fun hb75 => ?_) fun hb75 => ?_)
       · have hrl := rst_len (W := c.ws) (s := N.getD i0 []) (l := ((c.ws.getD i []).getD ((c.ws.getD k []).length + n) 0)) hWn.1
         have hat := addL_take (d := ([] : Wd)) (F := addL [] (done.flatMap fun d => rst c.ws (N.getD d []) ((c.ws.getD i []).getD ((c.ws.getD k []).length + n) 0))) hb75
         refine zk (zs (zb (zs (zr ?_ (h := by intro c K h; simp [hG, List.getD_cons_zero, List.getD_cons_succ, -List.getD_eq_getElem?_getD, pureOp, addL_nil, seenG_nil]; first | exact z1 c h | exact ⟨.mk c, h⟩)))))
         refine zr ?_ (h := by intro c K h; simp [hG, List.getD_cons_zero, List.getD_cons_succ, -List.getD_eq_getElem?_getD, pureOp, addL_nil, seenG_nil]; first | exact z1 c h | exact ⟨.mk c, h⟩)
         refine zn (zbn (zr ?_ (h := by intro c K h; simp [hG, List.getD_cons_zero, List.getD_cons_succ, -List.getD_eq_getElem?_getD, pureOp, addL_nil, seenG_nil]; first | exact z1 c h | exact ⟨.mk c, h⟩)))
         refine zn ?_
         refine round_end (j + 1) (by omega) (by omega) ?_
         refine wk_of (id) (fun _ => false) (fun _ => false) ?_ ?_ rfl (by simp) (fun k hk => by first | exact ⟨rfl, rfl⟩ | (revert k; decide) | (obtain rfl : k = 0 := (by omega); exact ⟨rfl, rfl⟩) | (have hk2 : k = 0 ∨ k = 1 := (by omega); rcases hk2 with rfl | rfl <;> exact ⟨rfl, rfl⟩))
         · simp [hG, List.getD_cons_zero, List.getD_cons_succ, -List.getD_eq_getElem?_getD, pureOp, addL_nil, seenG_nil]
         rw [hat]; simp [hG, pureOp, List.getD_cons_zero, List.getD_cons_succ, -List.getD_eq_getElem?_getD]
       obtain rfl : j = (rst c.ws (N.getD i0 []) ((c.ws.getD i []).getD ((c.ws.getD k []).length + n) 0)).length := (by omega)
       have hrl := rst_len (W := c.ws) (s := N.getD i0 []) (l := ((c.ws.getD i []).getD ((c.ws.getD k []).length + n) 0)) hWn.1
       refine zx (ztx (zbx (zn (zbn (zn ?_)))))
       refine round_end ((done ++ [i0], left.erase i0)) (hst.1) (hst.2) ?_
       refine wk_of (id) (fun _ => false) (fun _ => false) ?_ ?_ rfl (by simp) (fun k hk => by first | exact ⟨rfl, rfl⟩ | (revert k; decide) | (obtain rfl : k = 0 := (by omega); exact ⟨rfl, rfl⟩) | (have hk2 : k = 0 ∨ k = 1 := (by omega); rcases hk2 with rfl | rfl <;> exact ⟨rfl, rfl⟩))
       · simp [hG, List.getD_cons_zero, List.getD_cons_succ, -List.getD_eq_getElem?_getD, pureOp, addL_nil, seenG_nil]
       rw [done_snoc, addL_app]; simp [hG, pureOp, List.getD_cons_zero, List.getD_cons_succ, -List.getD_eq_getElem?_getD]
     obtain rfl := nx_none hc (by simpa using hb63)
     rw [List.append_nil] at hz
     refine zx (ztx (zbx (zr ?_ (h := by intro c K h; simp [hG, List.getD_cons_zero, List.getD_cons_succ, -List.getD_eq_getElem?_getD, pureOp, addL_nil, seenG_nil]; first | exact z1 c h | exact ⟨.mk c, h⟩))))
     refine zn (zbn (zr ?_ (h := by intro c K h; simp [hG, List.getD_cons_zero, List.getD_cons_succ, -List.getD_eq_getElem?_getD, pureOp, addL_nil, seenG_nil]; first | exact z1 c h | exact ⟨.mk c, h⟩)))
     refine zn ?_
     refine round_end ((n + 1, addL [] (done.flatMap fun d => rst c.ws (N.getD d []) ((c.ws.getD i []).getD ((c.ws.getD k []).length + n) 0)))) (⟨by simp only; omega, nowS_next hN (by omega) hz⟩) (by simp only; omega) ?_
     refine wk_of (fun k => if k = 2 then 3 else k) (fun _ => false) (fun _ => false) ?_ ?_ rfl (by simp) (fun k hk => by first | exact ⟨rfl, rfl⟩ | (revert k; decide) | (obtain rfl : k = 0 := (by omega); exact ⟨rfl, rfl⟩) | (have hk2 : k = 0 ∨ k = 1 := (by omega); rcases hk2 with rfl | rfl <;> exact ⟨rfl, rfl⟩))
     · simp [hG, pureOp, List.getD_cons_zero, List.getD_cons_succ, -List.getD_eq_getElem?_getD]; omega
     simp [hG, List.getD_cons_zero, List.getD_cons_succ, -List.getD_eq_getElem?_getD, pureOp, addL_nil, seenG_nil]
   have hne : (c.ws.getD k []).length + n = (c.ws.getD i []).length := (by omega)
   rw [List.take_of_length_le (by rw [List.length_drop]; omega)] at hN
   have hnl := nowS_len hv.len hWn.2 hN
   refine zx (ztx (zbx (zs (zL (zl 1 ?_ (h := by intro c K h; simp [hG, List.getD_cons_zero, List.getD_cons_succ, -List.getD_eq_getElem?_getD, pureOp, addL_nil, seenG_nil]; first | exact z1 c h | exact ⟨.mk c, h⟩))))))
   refine awpL_range (id := (2, 0)) Try.underlying102 rfl rfl rfl rfl trivial fun K hK q hq => ?_
   simp [hG, List.getD_cons_zero, List.getD_cons_succ, -List.getD_eq_getElem?_getD, pureOp, addL_nil, seenG_nil]
   refine hK _ ?_
   clear K hK
   refine zN (zb ?_)
   refine awpS_loop (α := List Nat × List Nat) (fun z => ⟨[(1, .int .i64 (i : Nat)), (2, .vptr 3 (rvF c (.map (0, 0))) 0), (5, .str (c.ws.getD i [])), (6, .map (1, 0)), (27, strs c.ws), (28, .int .i64 c.ws.length), (29, .int .i64 (k : Nat)), (83, .ptr (3, 0) 0 0)], [(0, .one (.mp (mpE rcK intV m))), (1, .one (.mp (mpE strK boolV (seenG (addL F (z.1.map fun d => N.getD d [])))))), (2, .one (.mi q (mpE strK boolV (seenG N)))), (3, .one (.ob (itP q z.2 none)))], 4⟩) (fun z => (z.1 ++ z.2).Perm (List.range N.length)) (fun z => z.2.length) (([], List.range N.length)) (List.Perm.refl _) ?_ ?_
   · refine wk_of (id) (fun _ => false) (fun _ => false) ?_ ?_ rfl (by simp) (fun k hk => by first | exact ⟨rfl, rfl⟩ | (revert k; decide) | (obtain rfl : k = 0 := (by omega); exact ⟨rfl, rfl⟩) | (have hk2 : k = 0 ∨ k = 1 := (by omega); rcases hk2 with rfl | rfl <;> exact ⟨rfl, rfl⟩))
     · simp [hG, List.getD_cons_zero, List.getD_cons_succ, -List.getD_eq_getElem?_getD, pureOp, addL_nil, seenG_nil]
     simp [hG, List.getD_cons_zero, List.getD_cons_succ, -List.getD_eq_getElem?_getD, pureOp, addL_nil, seenG_nil]
   rintro ⟨done, left⟩ hz
   simp only at hz
   refine zs (zL ?_)
   refine awpL_next (id := (2, 0)) (by decide) rfl rfl rfl rfl rfl trivial fun K hK cc hc => ?_
   simp [hG, List.getD_cons_zero, List.getD_cons_succ, -List.getD_eq_getElem?_getD, pureOp, addL_nil, seenG_nil]
   refine hK _ ?_
   clear K hK
   refine zl 1 ?_ (h := by intro c K h; simp [hG, List.getD_cons_zero, List.getD_cons_succ, -List.getD_eq_getElem?_getD, pureOp, addL_nil, seenG_nil]; first | exact z1 c h | exact ⟨.mk c, h⟩)
   refine zN (zs (zy (fun hb85 => ?_) fun hb85 => ?_))
   · rw [length_mpE, seenG_len] at hc
     obtain ⟨i0, rfl, hi0, hil⟩ := nx_some hc hb85
     have hst := left_step hz hi0
     refine zk (zb (zs (zL ?_)))
     refine awpL_entry (id := (2, 0)) rfl rfl rfl rfl rfl trivial fun K hK => ?_; rw [enF_sb hil]
     simp [hG, List.getD_cons_zero, List.getD_cons_succ, -List.getD_eq_getElem?_getD, pureOp, addL_nil, seenG_nil]
     refine hK _ ?_
     clear K hK
     refine zl 2 ?_ (h := by intro c K h; simp [hG, List.getD_cons_zero, List.getD_cons_succ, -List.getD_eq_getElem?_getD, pureOp, addL_nil, seenG_nil]; first | exact z1 c h | exact ⟨.mk c, h⟩)
     refine zN (zr ?_ (h := by intro c K h; simp [hG, List.getD_cons_zero, List.getD_cons_succ, -List.getD_eq_getElem?_getD, pureOp, addL_nil, seenG_nil]; first | exact z1 c h | exact ⟨.mk c, h⟩))
     refine zn (zbn (zn ?_))
     refine round_end ((done ++ [i0], left.erase i0)) (hst.1) (hst.2) ?_
     refine wk_of (id) (fun _ => false) (fun _ => false) ?_ ?_ rfl (by simp) (fun k hk => by first | exact ⟨rfl, rfl⟩ | (revert k; decide) | (obtain rfl : k = 0 := (by omega); exact ⟨rfl, rfl⟩) | (have hk2 : k = 0 ∨ k = 1 := (by omega); rcases hk2 with rfl | rfl <;> exact ⟨rfl, rfl⟩))
     · simp [hG, List.getD_cons_zero, List.getD_cons_succ, -List.getD_eq_getElem?_getD, pureOp, addL_nil, seenG_nil]
     rw [List.map_append, List.map_singleton, addL_snoc]; simp [hG, pureOp, List.getD_cons_zero, List.getD_cons_succ, -List.getD_eq_getElem?_getD]
   obtain rfl := nx_none hc (by simpa using hb85)
   rw [List.append_nil] at hz
   refine zx (ztx (zbx (zn (zbn (zr ?_ (h := by intro c K h; simp [hG, List.getD_cons_zero, List.getD_cons_succ, -List.getD_eq_getElem?_getD, pureOp, addL_nil, seenG_nil]; first | exact z1 c h | exact ⟨.mk c, h⟩))))))
   refine zn ?_
   refine round_end ((k + 1, addL F (done.map fun d => N.getD d []))) (⟨by simp only; omega, fnd_over hF hki hqp hN hz⟩) (by simp only; omega) ?_
   refine wk_of (id) (fun _ => false) (fun _ => false) ?_ ?_ rfl (by simp) (fun k hk => by first | exact ⟨rfl, rfl⟩ | (revert k; decide) | (obtain rfl : k = 0 := (by omega); exact ⟨rfl, rfl⟩) | (have hk2 : k = 0 ∨ k = 1 := (by omega); rcases hk2 with rfl | rfl <;> exact ⟨rfl, rfl⟩))
   · simp [hG, List.getD_cons_zero, List.getD_cons_succ, -List.getD_eq_getElem?_getD, pureOp, addL_nil, seenG_nil]
   simp [hG, List.getD_cons_zero, List.getD_cons_succ, -List.getD_eq_getElem?_getD, pureOp, addL_nil, seenG_nil]
 obtain rfl : k = c.ws.length := (by omega)
 have hfl := fnd_len hv.len hWn.2 (Nat.le_refl _) hF
 refine zx (ztx (zbx (zs (zr ?_ (h := by intro c K h; simp [hG, List.getD_cons_zero, List.getD_cons_succ, -List.getD_eq_getElem?_getD, pureOp, addL_nil, seenG_nil]; first | exact z1 c h | exact ⟨.mk c, h⟩)))))
 refine zs (zs (zL (zl 1 ?_ (h := by intro c K h; simp [hG, List.getD_cons_zero, List.getD_cons_succ, -List.getD_eq_getElem?_getD, pureOp, addL_nil, seenG_nil]; first | exact z1 c h | exact ⟨.mk c, h⟩))))
 refine awpL_range (id := (1, 0)) Try.underlying102 rfl rfl rfl rfl trivial fun K hK q hq => ?_
 simp [hG, List.getD_cons_zero, List.getD_cons_succ, -List.getD_eq_getElem?_getD, pureOp, addL_nil, seenG_nil]
 refine hK _ ?_
 clear K hK
 refine zN (zb ?_)
 refine awpS_loop (α := List Nat × List Nat) (fun z => ⟨[(16, .sl (3, 0) 0 z.1.length), (92, .ptr (2, 0) 0 0)], [(0, .one (.mp (mpE rcK intV m))), (1, .one (.mi q (mpE strK boolV (seenG F)))), (2, .one (.ob (itP q z.2 none))), (3, .one (.arr z.1.length 2 (fun y => rcF ((z.1.map fun d => (([], F.getD d []) : Rc)).getD y dRc))))], 4⟩) (fun z => (z.1 ++ z.2).Perm (List.range F.length)) (fun z => z.2.length) (([], List.range F.length)) (List.Perm.refl _) ?_ ?_
 · refine wk_of (id) (fun _ => false) (fun k => k == 3) ?_ ?_ rfl (by simp) (fun k hk => by first | exact ⟨rfl, rfl⟩ | (revert k; decide) | (obtain rfl : k = 0 := (by omega); exact ⟨rfl, rfl⟩) | (have hk2 : k = 0 ∨ k = 1 := (by omega); rcases hk2 with rfl | rfl <;> exact ⟨rfl, rfl⟩))
   · simp [hG, List.getD_cons_zero, List.getD_cons_succ, -List.getD_eq_getElem?_getD, pureOp, addL_nil, seenG_nil]
   simp [hG, List.getD_cons_zero, List.getD_cons_succ, -List.getD_eq_getElem?_getD, pureOp, addL_nil, seenG_nil]
 rintro ⟨done, left⟩ hz
 simp only at hz
 have hdl := done_len hz
 refine zs (zL ?_)
 refine awpL_next (id := (1, 0)) (by decide) rfl rfl rfl rfl rfl trivial fun K hK cc hc => ?_
 simp [hG, List.getD_cons_zero, List.getD_cons_succ, -List.getD_eq_getElem?_getD, pureOp, addL_nil, seenG_nil]
 refine hK _ ?_
 clear K hK
 refine zl 1 ?_ (h := by intro c K h; simp [hG, List.getD_cons_zero, List.getD_cons_succ, -List.getD_eq_getElem?_getD, pureOp, addL_nil, seenG_nil]; first | exact z1 c h | exact ⟨.mk c, h⟩)
 refine zN (zs (zy (fun hb94 => ?_) fun hb94 => ?_))
 · rw [length_mpE, seenG_len] at hc
   obtain ⟨i0, rfl, hi0, hil⟩ := nx_some hc hb94
   have hst := left_step hz hi0
   refine zk (zb (zs (zL ?_)))
   refine awpL_entry (id := (1, 0)) rfl rfl rfl rfl rfl trivial fun K hK => ?_; rw [enF_sb hil]
   simp [hG, List.getD_cons_zero, List.getD_cons_succ, -List.getD_eq_getElem?_getD, pureOp, addL_nil, seenG_nil]
   refine hK _ ?_
   clear K hK
   refine zl 2 ?_ (h := by intro c K h; simp [hG, List.getD_cons_zero, List.getD_cons_succ, -List.getD_eq_getElem?_getD, pureOp, addL_nil, seenG_nil]; first | exact z1 c h | exact ⟨.mk c, h⟩)
   refine zN (zr ?_ (h := by intro c K h; simp [hG, List.getD_cons_zero, List.getD_cons_succ, -List.getD_eq_getElem?_getD, pureOp, addL_nil, seenG_nil]; first | exact z1 c h | exact ⟨.mk c, h⟩))
   refine zn (zbn (zn ?_))
   refine round_end ((done ++ [i0], left.erase i0)) (hst.1) (hst.2) ?_
   refine wk_of (fun k => if k = 3 then 5 else k) (fun _ => false) (fun _ => false) ?_ ?_ rfl (by simp) (fun k hk => by first | exact ⟨rfl, rfl⟩ | (revert k; decide) | (obtain rfl : k = 0 := (by omega); exact ⟨rfl, rfl⟩) | (have hk2 : k = 0 ∨ k = 1 := (by omega); rcases hk2 with rfl | rfl <;> exact ⟨rfl, rfl⟩))
   · simp [hG, List.getD_cons_zero, List.getD_cons_succ, -List.getD_eq_getElem?_getD, pureOp, addL_nil, seenG_nil]
   simp [hG, pureOp, List.getD_cons_zero, List.getD_cons_succ, -List.getD_eq_getElem?_getD]; exact fun i hi => ⟨app_dn (j := 0) rfl hi, app_dn (j := 1) rfl hi⟩
 obtain rfl := nx_none hc (by simpa using hb94)
 rw [List.append_nil] at hz
 refine zx (ztx (zbx (zs (zr ?_ (h := by intro c K h; simp [hG, List.getD_cons_zero, List.getD_cons_succ, -List.getD_eq_getElem?_getD, pureOp, addL_nil, seenG_nil]; first | exact z1 c h | exact ⟨.mk c, h⟩)))))
 refine zt ?_
 refine RetF_of ((done.map fun d => (([], F.getD d []) : Rc))) (id) (fun k => k == 3) (fun _ => false) (at_list hF hz) ?_ ?_ (by rfl) (by simp) (fun k hk => ⟨rfl, rfl⟩)
 · simp [hG, pureOp, List.getD_cons_zero, List.getD_cons_succ, -List.getD_eq_getElem?_getD]
 simp [hG, List.getD_cons_zero, List.getD_cons_succ, -List.getD_eq_getElem?_getD, pureOp, addL_nil, seenG_nil]
end Go.Proofs.Ytoafgeobhhlplaa
