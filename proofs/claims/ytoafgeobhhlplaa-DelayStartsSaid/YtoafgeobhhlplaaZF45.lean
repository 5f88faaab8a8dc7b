/- Parts of the proof: VT. -/
import Derived.Test.YtoafgeobhhlplaaZF22
import Derived.Test.YtoafgeobhhlplaaZF44
namespace Go.Proofs.Ytoafgeobhhlplaa
set_option linter.unusedSimpArgs false
set_option linter.unusedVariables false
open Go Go.Lift Go.Proofs
@[simp] theorem putK_rcB {l : List (Rc × Bool)} {k : Rc} {v : Bool} : putK (mpE rcK boolV l) ((alFind l 0 k).map fun p => (p.1, boolV p.2)) (rcK k) (.bool v) = mpE rcK boolV (alPut l k v) := putK_mpE (ek := rcK) (ev := boolV) l k v
@[simp high] theorem HLe_rcB {h : Heap} {σ : Lift.Id → Lift.Id} {fz : Nat → Bool} {vz : Lift.Id → Bool} {nx : Nat} {l2 l : List (Rc × Bool)} (e : l2 = l) : HLe h σ fz vz nx (.mp (mpE rcK boolV l2)) (some (.mp (mpE rcK boolV l))) = True := eq_true (HLe_mpE (ek := rcK) (ev := boolV) (fun _ => Clo_rcK) (fun _ => trivial) e)
@[simp high] theorem HLe_rcb_mm {h : Heap} {σ : Lift.Id → Lift.Id} {fz : Nat → Bool} {vz : Lift.Id → Bool} {nx : Nat} {q : MQ} {l : List (Rc × Bool)} : HLe h σ fz vz nx (.mi q (mpE rcK boolV l)) (some (.mi q (mpE rcK boolV l))) = True := eq_true (HLe_mm (ek := rcK) (ev := boolV) (fun _ => Clo_rcK) (fun _ => trivial)).1
@[simp high] theorem HLe_rcb_mp {h : Heap} {σ : Lift.Id → Lift.Id} {fz : Nat → Bool} {vz : Lift.Id → Bool} {nx : Nat} {q : MQ} {l : List (Rc × Bool)} : HLe h σ fz vz nx (.mp (mpE rcK boolV l)) (some (.mi q (mpE rcK boolV l))) = True := eq_true (HLe_mm (ek := rcK) (ev := boolV) (fun _ => Clo_rcK) (fun _ => trivial)).2
@[simp] theorem ren_mpRB {ρ : Nat → Nat} {l : List (Rc × Bool)} : List.map (fun p => (ren ρ p.1, ren ρ p.2)) (mpE rcK boolV l) = mpE rcK boolV l := by
  unfold mpE
  rw [List.map_map]
  refine List.map_congr_left fun p _ => ?_
  show (ren ρ (rcK p.1), ren ρ (boolV p.2)) = _
  rw [ren_rcK]; rfl
def enRB (x : Rc) (j : Nat) : AVal := match j with
  | 0 => .agg 2 (fun j => [AVal.str x.1, AVal.str x.2].getD j .any)
  | _ => .bool true
@[simp] theorem enRB_zero {x : Rc} : enRB x 0 = .agg 2 (fun j => [AVal.str x.1, AVal.str x.2].getD j .any) := rfl
theorem enF_rb {F : List Rc} {i : Nat} (h : i < F.length) : enF (mpE rcK boolV (seenG F)) i = enRB (F.getD i dRc) := by
  have hg : (mpE rcK boolV (seenG F)).getD i (.any, .any) = (rcK (F.getD i dRc), .bool true) := by
    simp [mpE, seenG, List.getD, h]
    rfl
  funext j
  cases j with
  | zero => show ((mpE rcK boolV (seenG F)).getD i (.any, .any)).1 = _; rw [hg]; rfl
  | succ j => show ((mpE rcK boolV (seenG F)).getD i (.any, .any)).2 = _; rw [hg]; rfl
def selfA (p : Nat) : Bool → AVal
  | true => .ptr (p, 0) 0 0
  | false => .nilp
@[simp] theorem selfA_true {p : Nat} : selfA p true = .ptr (p, 0) 0 0 := rfl
@[simp] theorem selfA_false {p : Nat} : selfA p false = .nilp := rfl
@[simp] theorem one_selfA {p : Nat} {b : Bool} : (selfA p b).one = true := by cases b <;> rfl
@[simp] theorem VLe_selfA {h : Heap} {σ : Lift.Id → Lift.Id} {fz : Nat → Bool} {vz : Lift.Id → Bool} {x p : Nat} {b : Bool} : VLe h σ fz vz x (selfA p b) (selfA p b) = (b = true → VLe h σ fz vz x (.ptr (p, 0) 0 0) (.ptr (p, 0) 0 0)) := by
  cases b <;> simp [VLe]
@[simp] theorem VLe_bufA {h : Heap} {σ : Lift.Id → Lift.Id} {fz : Nat → Bool} {vz : Lift.Id → Bool} {x p m : Nat} {b : Bool} : VLe h σ fz vz x (bufA b p m) (bufA b p m) = (b = true → VLe h σ fz vz x (.sl (p, 0) 0 m) (.sl (p, 0) 0 m)) := by
  cases b <;> simp [VLe]
set_option maxRecDepth 100000 in
set_option maxHeartbeats 1000000 in
theorem first_c (c : Cd) (hv : CdOK c) (i : Nat) (hi : i < c.ws.length) (n : Nat) (hn : n ≤ 4096) (m : List (Rc × Int)) (hRO : ReachOK c m) : FC1 Try.prog 52 [.agg 3 (rvF c (.map (0, 0))), .int .i64 (i : Nat), .int .i64 (n : Nat)] [(0, .one (.mp (mpE rcK intV m)))] 1 (.tup 2 (fun j => [.str ((fstW c.ws c.q.toNat i n).getD []), .bool (fstW c.ws c.q.toNat i n).isSome].getD j .any)) [(0, .one (.mp (mpE rcK intV m)))] 1 := by
 have hML : maxLen = 9223372036854775807 := by decide
 have hWn := hv.n
 have hq16 := hv.q
 obtain ⟨K, hclr, hbx, hat0, hrv⟩ := hRO
 refine FC_introS T_ok Try.func52 rfl (by simp [Try.ntmps52]) fun G hG hR => ?_
 simp only [Try.ntmps52, Try.results52] at hG ⊢
 simp only [argEnv, Nat.zero_add, Nat.reduceAdd]
 refine zs (zr ?_ (h := by intro c K h; simp [hG, List.getD_cons_zero, List.getD_cons_succ, -List.getD_eq_getElem?_getD, pureOp, addL_nil, seenG_nil, gnF_nil, fiN_nil]; first | exact z1 c h | exact ⟨.mk c, h⟩))
 refine zs (zr ?_ (h := by intro c K h; simp [hG, List.getD_cons_zero, List.getD_cons_succ, -List.getD_eq_getElem?_getD, pureOp, addL_nil, seenG_nil, gnF_nil, fiN_nil]; first | exact z1 c h | exact ⟨.mk c, h⟩))
 refine zs (zr ?_ (h := by intro c K h; simp [hG, List.getD_cons_zero, List.getD_cons_succ, -List.getD_eq_getElem?_getD, pureOp, addL_nil, seenG_nil, gnF_nil, fiN_nil]; first | exact z1 c h | exact ⟨.mk c, h⟩))
 refine zs (zs (zL (zl 2 ?_ (h := by intro c K h; simp [hG, List.getD_cons_zero, List.getD_cons_succ, -List.getD_eq_getElem?_getD, pureOp, addL_nil, seenG_nil, gnF_nil, fiN_nil]; first | exact z1 c h | exact ⟨.mk c, h⟩))))
 refine zf cal40 [0] (atR_c c hv i hi m) (fun L hI hno => ?_) (a := by simp [hG, List.getD_cons_zero, List.getD_cons_succ, -List.getD_eq_getElem?_getD, pureOp, addL_nil, seenG_nil, gnF_nil, fiN_nil]) (b := by simp [hG, List.range'_succ, List.range'_zero, List.getD_cons_zero, List.getD_cons_succ, -List.getD_eq_getElem?_getD]) (c := by simp [hG, List.getD_cons_zero, List.getD_cons_succ, -List.getD_eq_getElem?_getD, pureOp, addL_nil, seenG_nil, gnF_nil, fiN_nil]) (h := by intro K h L hI hno; simp [hG, List.getD_cons_zero, List.getD_cons_succ, -List.getD_eq_getElem?_getD, pureOp, addL_nil, seenG_nil, gnF_nil, fiN_nil]; exact h L hI hno)
 refine zl 2 ?_ (h := by intro c K h; simp [hG, List.getD_cons_zero, List.getD_cons_succ, -List.getD_eq_getElem?_getD, pureOp, addL_nil, seenG_nil, gnF_nil, fiN_nil]; first | exact z1 c h | exact ⟨.mk c, h⟩)
 refine zN (zb ?_)
 refine awpS_loop (α := Nat) (fun j => ⟨[(2, .int .i64 (n : Nat)), (3, .vptr 3 (rvF c (.map (0, 0))) 0), (8, .ptr (1, 0) 0 0), (9, .map (3, 0)), (22, rcs L), (23, .int .i64 L.length), (24, .int .i64 (j : Nat))], [(0, .one (.mp (mpE rcK intV m))), (1, .typ 87 (.arr 1 2 (fun _ j => bF (.nilp) (.nils) j))), (3, .one (.mp (mpE rcK boolV (seenG (addL [] (gnF c.ws n (L.take j)))))))], 4⟩) (fun j => j ≤ L.length) (fun j => L.length - j) (0) (Nat.zero_le _) ?_ ?_
 · refine wk_of (fun k => if k = 1 then 2 else k) (fun k => k == 1) (fun _ => false) ?_ ?_ rfl (by simp) (fun k hk => by first | exact ⟨rfl, rfl⟩ | (revert k; decide) | (obtain rfl : k = 0 := (by omega); exact ⟨rfl, rfl⟩) | (have hk2 : k = 0 ∨ k = 1 := (by omega); rcases hk2 with rfl | rfl <;> exact ⟨rfl, rfl⟩))
   · simp [hG, List.getD_cons_zero, List.getD_cons_succ, -List.getD_eq_getElem?_getD, pureOp, addL_nil, seenG_nil, gnF_nil, fiN_nil]
   simp [hG, List.getD_cons_zero, List.getD_cons_succ, -List.getD_eq_getElem?_getD, pureOp, addL_nil, seenG_nil, gnF_nil, fiN_nil]
 rintro j hj
 refine zs (zr ?_ (h := by intro c K h; simp [hG, List.getD_cons_zero, List.getD_cons_succ, -List.getD_eq_getElem?_getD, pureOp, addL_nil, seenG_nil, gnF_nil, fiN_nil]; first | exact z1 c h | exact ⟨.mk c, h⟩))
 refine zs (zy (fun hb25 => ?_) fun hb25 => ?_)
 · have hLb := at_len hv.len hWn.2 hI
   obtain ⟨hp1, hp2⟩ := (hI.mem _).1 (getD_mem (d := dRc) hb25)
   have hpe : (([], (L.getD j dRc).2) : Rc) = L.getD j dRc := (by rw [← hp1])
   have hpK : L.getD j dRc ∈ K := (by rw [← hpe]; exact hat0 i hi _ hp2)
   have hge := rv_ge (hrv _ hpK).ok (n := n) (by omega)
   refine zk (zs (zb (zs (zr ?_ (h := by intro c K h; simp [hG, List.getD_cons_zero, List.getD_cons_succ, -List.getD_eq_getElem?_getD, pureOp, addL_nil, seenG_nil, gnF_nil, fiN_nil]; first | exact z1 c h | exact ⟨.mk c, h⟩)))))
   refine zs (zr ?_ (h := by intro c K h; simp [hG, List.getD_cons_zero, List.getD_cons_succ, -List.getD_eq_getElem?_getD, pureOp, addL_nil, seenG_nil, gnF_nil, fiN_nil]; first | exact z1 c h | exact ⟨.mk c, h⟩))
   refine zy (fun hb33 => ?_) fun hb33 => ?_
   · have hst := gnF_yes (W := c.ws) (k := n) hb25 (hge.1 hb33)
     refine zr ?_ (h := by intro c K h; simp [hG, List.getD_cons_zero, List.getD_cons_succ, -List.getD_eq_getElem?_getD, pureOp, addL_nil, seenG_nil, gnF_nil, fiN_nil]; first | exact z1 c h | exact ⟨.mk c, h⟩)
     refine zn (zbn (zr ?_ (h := by intro c K h; simp [hG, List.getD_cons_zero, List.getD_cons_succ, -List.getD_eq_getElem?_getD, pureOp, addL_nil, seenG_nil, gnF_nil, fiN_nil]; first | exact z1 c h | exact ⟨.mk c, h⟩)))
     refine zn ?_
     refine round_end (j + 1) (by omega) (by omega) ?_
     refine wk_of (id) (fun _ => false) (fun _ => false) ?_ ?_ rfl (by simp) (fun k hk => by first | exact ⟨rfl, rfl⟩ | (revert k; decide) | (obtain rfl : k = 0 := (by omega); exact ⟨rfl, rfl⟩) | (have hk2 : k = 0 ∨ k = 1 := (by omega); rcases hk2 with rfl | rfl <;> exact ⟨rfl, rfl⟩))
     · simp [hG, List.getD_cons_zero, List.getD_cons_succ, -List.getD_eq_getElem?_getD, pureOp, addL_nil, seenG_nil, gnF_nil, fiN_nil]
     rw [hst, addL_snoc]; simp [hG, pureOp, List.getD_cons_zero, List.getD_cons_succ, -List.getD_eq_getElem?_getD]
   have hst := gnF_not (W := c.ws) (k := n) hb25 (fun h => by have := hge.2 h; omega)
   refine zk (zn (zbn (zr ?_ (h := by intro c K h; simp [hG, List.getD_cons_zero, List.getD_cons_succ, -List.getD_eq_getElem?_getD, pureOp, addL_nil, seenG_nil, gnF_nil, fiN_nil]; first | exact z1 c h | exact ⟨.mk c, h⟩))))
   refine zn ?_
   refine round_end (j + 1) (by omega) (by omega) ?_
   refine wk_of (id) (fun _ => false) (fun _ => false) ?_ ?_ rfl (by simp) (fun k hk => by first | exact ⟨rfl, rfl⟩ | (revert k; decide) | (obtain rfl : k = 0 := (by omega); exact ⟨rfl, rfl⟩) | (have hk2 : k = 0 ∨ k = 1 := (by omega); rcases hk2 with rfl | rfl <;> exact ⟨rfl, rfl⟩))
   · simp [hG, List.getD_cons_zero, List.getD_cons_succ, -List.getD_eq_getElem?_getD, pureOp, addL_nil, seenG_nil, gnF_nil, fiN_nil]
   rw [hst]; simp [hG, pureOp, List.getD_cons_zero, List.getD_cons_succ, -List.getD_eq_getElem?_getD]
 obtain rfl : j = L.length := (by omega)
 have hF0 : FirJ c.ws c.q.toNat i n K [] (addL [] (gnF c.ws n L)) := fir_ini hI (addL_nd List.nodup_nil) (fun p hp => by rw [addL_mem, gnF_mem] at hp; rcases hp with h | ⟨h, _⟩; (cases h); obtain ⟨e, h2⟩ := (hI.mem p).1 h; have := hat0 i hi _ h2; rw [← e] at this; exact this) (fun p => by rw [addL_mem, gnF_mem]; simp)
 rw [List.take_length]
 refine zx (ztx (zbx (zs (zs (zr ?_ (h := by intro c K h; simp [hG, List.getD_cons_zero, List.getD_cons_succ, -List.getD_eq_getElem?_getD, pureOp, addL_nil, seenG_nil, gnF_nil, fiN_nil]; first | exact z1 c h | exact ⟨.mk c, h⟩))))))
 refine zb ?_
 refine awpS_loop (α := Wd × List Rc) (fun z => ⟨[(2, .int .i64 (n : Nat)), (3, .vptr 3 (rvF c (.map (0, 0))) 0), (8, .ptr (1, 0) 0 0), (9, .map (3, 0)), (12, .int .i64 ((n : Nat) - 1 - (z.1.length : Nat) : Int))], [(0, .one (.mp (mpE rcK intV m))), (1, .typ 87 (.arr 1 2 (fun _ j => bF (selfA 1 (posB z.1.length)) (bufA (posB z.1.length) 2 z.1.length) j))), (2, .typ 5 (.arr (z.1).length 1 (byF (z.1)))), (3, .one (.mp (mpE rcK boolV (seenG z.2))))], 4⟩) (fun z => FirJ c.ws c.q.toNat i n K z.1 z.2) (fun z => n - z.1.length) (([], addL [] (gnF c.ws n L))) (hF0) ?_ ?_
 · refine wk_of (id) (fun _ => false) (fun k => k == 2) ?_ ?_ rfl (by simp) (fun k hk => by first | exact ⟨rfl, rfl⟩ | (revert k; decide) | (obtain rfl : k = 0 := (by omega); exact ⟨rfl, rfl⟩) | (have hk2 : k = 0 ∨ k = 1 := (by omega); rcases hk2 with rfl | rfl <;> exact ⟨rfl, rfl⟩))
   · simp [hG, List.getD_cons_zero, List.getD_cons_succ, -List.getD_eq_getElem?_getD, pureOp, addL_nil, seenG_nil, gnF_nil, fiN_nil]
   simp [hG, List.getD_cons_zero, List.getD_cons_succ, -List.getD_eq_getElem?_getD, pureOp, addL_nil, seenG_nil, gnF_nil, fiN_nil]
 rintro ⟨u, N⟩ hF
 simp only at hF
 refine zs (zs (zr ?_ (h := by intro c K h; simp [hG, List.getD_cons_zero, List.getD_cons_succ, -List.getD_eq_getElem?_getD, pureOp, addL_nil, seenG_nil, gnF_nil, fiN_nil]; first | exact z1 c h | exact ⟨.mk c, h⟩)))
 refine zy (fun hb40 => ?_) fun hb40 => ?_
 · have hle := hF.le
   obtain ⟨k, hk⟩ : ∃ k, n - u.length = k + 1 := ⟨n - u.length - 1, by omega⟩
   refine zk (zs (zb (zs (zr ?_ (h := by intro c K h; simp [hG, List.getD_cons_zero, List.getD_cons_succ, -List.getD_eq_getElem?_getD, pureOp, addL_nil, seenG_nil, gnF_nil, fiN_nil]; first | exact z1 c h | exact ⟨.mk c, h⟩)))))
   refine zs (zs (zr ?_ (h := by intro c K h; simp [hG, List.getD_cons_zero, List.getD_cons_succ, -List.getD_eq_getElem?_getD, pureOp, addL_nil, seenG_nil, gnF_nil, fiN_nil]; first | exact z1 c h | exact ⟨.mk c, h⟩)))
   refine zb ?_
   refine awpS_loop (α := Nat × Bool × Wd × List Rc) (fun z => ⟨[(2, .int .i64 (n : Nat)), (3, .vptr 3 (rvF c (.map (0, 0))) 0), (8, .ptr (1, 0) 0 0), (9, .map (3, 0)), (12, .int .i64 (k : Nat)), (13, .bool z.2.1), (14, .int .i64 (z.1 : Nat))], [(0, .one (.mp (mpE rcK intV m))), (1, .typ 87 (.arr 1 2 (fun _ j => bF (selfA 1 (posB z.2.2.1.length)) (bufA (posB z.2.2.1.length) 2 z.2.2.1.length) j))), (2, .typ 5 (.arr (z.2.2.1).length 1 (byF (z.2.2.1)))), (3, .one (.mp (mpE rcK boolV (seenG z.2.2.2))))], 4⟩) (fun z => z.1 ≤ c.q.toNat ∧ (z.2.1 = false → u = z.2.2.1 ∧ N = z.2.2.2 ∧ ∀ j, j < z.1 → ¬ exO c.ws i k (u ++ [letters.getD j 0])) ∧ (z.2.1 = true → FirJ c.ws c.q.toNat i n K z.2.2.1 z.2.2.2 ∧ z.2.2.1.length = u.length + 1)) (fun z => c.q.toNat - z.1) ((0, false, u, N)) (⟨Nat.zero_le _, fun _ => ⟨rfl, rfl, fun j hj => absurd hj (Nat.not_lt_zero _)⟩, fun h => (by cases h)⟩) ?_ ?_
   · refine wk_of (id) (fun _ => false) (fun _ => false) ?_ ?_ rfl (by simp) (fun k hk => by first | exact ⟨rfl, rfl⟩ | (revert k; decide) | (obtain rfl : k = 0 := (by omega); exact ⟨rfl, rfl⟩) | (have hk2 : k = 0 ∨ k = 1 := (by omega); rcases hk2 with rfl | rfl <;> exact ⟨rfl, rfl⟩))
     · simp [hG, pureOp, List.getD_cons_zero, List.getD_cons_succ, -List.getD_eq_getElem?_getD]; omega
     simp [hG, List.getD_cons_zero, List.getD_cons_succ, -List.getD_eq_getElem?_getD, pureOp, addL_nil, seenG_nil, gnF_nil, fiN_nil]
   rintro ⟨j, f, u2, N2⟩ ⟨hj, hf, ht⟩
   simp only at hj hf ht
   refine zs (zs (zr ?_ (h := by intro c K h; simp [hG, List.getD_cons_zero, List.getD_cons_succ, -List.getD_eq_getElem?_getD, pureOp, addL_nil, seenG_nil, gnF_nil, fiN_nil]; first | exact z1 c h | exact ⟨.mk c, h⟩)))
   refine zy (fun hb51 => ?_) fun hb51 => ?_
   · obtain ⟨hjq, rfl⟩ := hb51
     obtain ⟨hu2, hN2, hno1⟩ := hf rfl
     subst hu2
     subst hN2
     have hnb := box_len hv.len hWn.2 hF.nd (fun p hp => hbx p (hF.sub p hp))
     refine zk (zs (zb (zs (zr ?_ (h := by intro c K h; simp [hG, List.getD_cons_zero, List.getD_cons_succ, -List.getD_eq_getElem?_getD, pureOp, addL_nil, seenG_nil, gnF_nil, fiN_nil]; first | exact z1 c h | exact ⟨.mk c, h⟩)))))
     refine zs (zs (zL (zl 1 ?_ (h := by intro c K h; simp [hG, List.getD_cons_zero, List.getD_cons_succ, -List.getD_eq_getElem?_getD, pureOp, addL_nil, seenG_nil, gnF_nil, fiN_nil]; first | exact z1 c h | exact ⟨.mk c, h⟩))))
     refine awpL_range (id := (3, 0)) Try.underlying108 rfl rfl rfl rfl trivial fun K hK q hq => ?_
     simp [hG, List.getD_cons_zero, List.getD_cons_succ, -List.getD_eq_getElem?_getD, pureOp, addL_nil, seenG_nil, gnF_nil, fiN_nil]
     refine hK _ ?_
     clear K hK
     refine zN (zb ?_)
     refine awpS_loop (α := List Nat × List Nat) (fun z => ⟨[(2, .int .i64 (n : Nat)), (3, .vptr 3 (rvF c (.map (0, 0))) 0), (8, .ptr (1, 0) 0 0), (9, .map (3, 0)), (12, .int .i64 (k : Nat)), (14, .int .i64 (j : Nat)), (15, .map (4, 0)), (56, .ptr (5, 0) 0 0)], [(0, .one (.mp (mpE rcK intV m))), (1, .typ 87 (.arr 1 2 (fun _ j => bF (selfA 1 (posB u.length)) (bufA (posB u.length) 2 u.length) j))), (2, .typ 5 (.arr (u).length 1 (byF (u)))), (3, .one (.mi q (mpE rcK boolV (seenG N)))), (4, .one (.mp (mpE rcK boolV (seenG (fiN c.ws k N z.1 (letters.getD j 0)))))), (5, .one (.ob (itP q z.2 none)))], 6⟩) (fun z => (z.1 ++ z.2).Perm (List.range N.length)) (fun z => z.2.length) (([], List.range N.length)) (List.Perm.refl _) ?_ ?_
     · refine wk_of (id) (fun _ => false) (fun _ => false) ?_ ?_ rfl (by simp) (fun k hk => by first | exact ⟨rfl, rfl⟩ | (revert k; decide) | (obtain rfl : k = 0 := (by omega); exact ⟨rfl, rfl⟩) | (have hk2 : k = 0 ∨ k = 1 := (by omega); rcases hk2 with rfl | rfl <;> exact ⟨rfl, rfl⟩))
       · simp [hG, List.getD_cons_zero, List.getD_cons_succ, -List.getD_eq_getElem?_getD, pureOp, addL_nil, seenG_nil, gnF_nil, fiN_nil]
       simp [hG, List.getD_cons_zero, List.getD_cons_succ, -List.getD_eq_getElem?_getD, pureOp, addL_nil, seenG_nil, gnF_nil, fiN_nil]
     rintro ⟨done, left⟩ hz
     simp only at hz
     refine zs (zL ?_)
     refine awpL_next (id := (3, 0)) (by decide) rfl rfl rfl rfl rfl trivial fun K hK cc hc => ?_
     simp [hG, List.getD_cons_zero, List.getD_cons_succ, -List.getD_eq_getElem?_getD, pureOp, addL_nil, seenG_nil, gnF_nil, fiN_nil]
     refine hK _ ?_
     clear K hK
     refine zl 1 ?_ (h := by intro c K h; simp [hG, List.getD_cons_zero, List.getD_cons_succ, -List.getD_eq_getElem?_getD, pureOp, addL_nil, seenG_nil, gnF_nil, fiN_nil]; first | exact z1 c h | exact ⟨.mk c, h⟩)
     refine zN (zs (zy (fun hb58 => ?_) fun hb58 => ?_))
     · rw [length_mpE, seenG_len] at hc
       obtain ⟨i0, rfl, hi0, hil⟩ := nx_some hc hb58
       have hst0 := left_step hz hi0
       refine zk (zb (zs (zL ?_)))
       refine awpL_entry (id := (3, 0)) rfl rfl rfl rfl rfl trivial fun K hK => ?_; rw [enF_rb hil]
       simp [hG, List.getD_cons_zero, List.getD_cons_succ, -List.getD_eq_getElem?_getD, pureOp, addL_nil, seenG_nil, gnF_nil, fiN_nil]
       refine hK _ ?_
       clear K hK
       refine zl 3 ?_ (h := by intro c K h; simp [hG, List.getD_cons_zero, List.getD_cons_succ, -List.getD_eq_getElem?_getD, pureOp, addL_nil, seenG_nil, gnF_nil, fiN_nil]; first | exact z1 c h | exact ⟨.mk c, h⟩)
       refine zN (zs ?_)
       refine awpS_draw hR mixed [] ⟨[], [4], [(6, 0)]⟩ fun mu0 => ?_
       refine za [0, 1, 2, 3, 6] [] 2 [6, 3, 2, 1, 0] ?_ (h := by intro c K h; simp [hG, List.getD_cons_zero, List.getD_cons_succ, -List.getD_eq_getElem?_getD, pureOp, addL_nil, seenG_nil, gnF_nil, fiN_nil]; first | exact z1 c h | exact ⟨.mk c, h⟩)
       refine awpA_only (fuel := 1) (i := 4) (by decide +kernel) ?_
       refine awpO_fcr cal67 [0] (fun _ => false) (after_c c hv (N.getD i0 dRc) (letters.getD j 0) m) rfl ⟨by decide, by decide, by simp⟩ rfl rfl rfl (by simp) (.inl fun _ => rfl) ?_ ?_ ?_ fun K hK x hI hno => ?_
       · simp [hG, List.getD_cons_zero, List.getD_cons_succ, -List.getD_eq_getElem?_getD, pureOp, addL_nil, seenG_nil, gnF_nil, fiN_nil]
       · simp [hG, List.range'_succ, List.range'_zero, List.getD_cons_zero, List.getD_cons_succ, -List.getD_eq_getElem?_getD]; rfl
       · simp [hG, List.getD_cons_zero, List.getD_cons_succ, -List.getD_eq_getElem?_getD, pureOp, addL_nil, seenG_nil, gnF_nil, fiN_nil]
       simp [hG, List.getD_cons_zero, List.getD_cons_succ, -List.getD_eq_getElem?_getD, pureOp, addL_nil, seenG_nil, gnF_nil, fiN_nil]
       refine hK _ ?_
       clear K hK
       refine za [5] [] 0 [5, 4, 6, 3, 2, 1, 0] ?_ (h := by intro c K h; simp [hG, List.getD_cons_zero, List.getD_cons_succ, -List.getD_eq_getElem?_getD, pureOp, addL_nil, seenG_nil, gnF_nil, fiN_nil]; first | exact z1 c h | exact ⟨.mk c, h⟩)
       refine awpA_done (by decide +kernel) ?_
       refine zb ?_
       refine awpS_loop (α := Nat) (fun e => ⟨[(2, .int .i64 (n : Nat)), (3, .vptr 3 (rvF c (.map (0, 0))) 0), (8, .ptr (1, 0) 0 0), (9, .map (3, 0)), (12, .int .i64 (k : Nat)), (14, .int .i64 (j : Nat)), (15, .map (4, 0)), (56, .ptr (5, 0) 0 0), (65, rcs (aft c.ws (N.getD i0 dRc) (letters.getD j 0))), (66, .int .i64 (aft c.ws (N.getD i0 dRc) (letters.getD j 0)).length), (67, .int .i64 (e : Nat))], [(0, .one (.mp (mpE rcK intV m))), (1, .typ 87 (.arr 1 2 (fun _ j => bF (selfA 1 (posB u.length)) (bufA (posB u.length) 2 u.length) j))), (2, .typ 5 (.arr (u).length 1 (byF (u)))), (3, .one (.mi q (mpE rcK boolV (seenG N)))), (4, .one (.mp (mpE rcK boolV (seenG (addL (fiN c.ws k N done (letters.getD j 0)) (gnF c.ws k ((aft c.ws (N.getD i0 dRc) (letters.getD j 0)).take e))))))), (5, .one (.ob (itP q (left.erase i0) none)))], 6⟩) (fun e => e ≤ (aft c.ws (N.getD i0 dRc) (letters.getD j 0)).length) (fun e => (aft c.ws (N.getD i0 dRc) (letters.getD j 0)).length - e) (0) (Nat.zero_le _) ?_ ?_
       · refine wk_of (id) (fun _ => false) (fun _ => false) ?_ ?_ rfl (by simp) (fun k hk => by first | exact ⟨rfl, rfl⟩ | (revert k; decide) | (obtain rfl : k = 0 := (by omega); exact ⟨rfl, rfl⟩) | (have hk2 : k = 0 ∨ k = 1 := (by omega); rcases hk2 with rfl | rfl <;> exact ⟨rfl, rfl⟩))
         · simp [hG, List.getD_cons_zero, List.getD_cons_succ, -List.getD_eq_getElem?_getD, pureOp, addL_nil, seenG_nil, gnF_nil, fiN_nil]
         simp [hG, List.getD_cons_zero, List.getD_cons_succ, -List.getD_eq_getElem?_getD, pureOp, addL_nil, seenG_nil, gnF_nil, fiN_nil]
       rintro e he
       refine zs (zr ?_ (h := by intro c K h; simp [hG, List.getD_cons_zero, List.getD_cons_succ, -List.getD_eq_getElem?_getD, pureOp, addL_nil, seenG_nil, gnF_nil, fiN_nil]; first | exact z1 c h | exact ⟨.mk c, h⟩))
       refine zs (zy (fun hb68 => ?_) fun hb68 => ?_)
       · have hal := aft_len hWn (p := N.getD i0 dRc) (l := (letters.getD j 0))
         have hyK : (aft c.ws (N.getD i0 dRc) (letters.getD j 0)).getD e dRc ∈ K := aft_in hclr (hF.sub _ (getD_mem (d := dRc) hil)) (show j < c.q.toNat by omega) (getD_mem hb68)
         have hge := rv_ge (hrv _ hyK).ok (n := k) (by omega)
         refine zk (zs (zb (zs (zr ?_ (h := by intro c K h; simp [hG, List.getD_cons_zero, List.getD_cons_succ, -List.getD_eq_getElem?_getD, pureOp, addL_nil, seenG_nil, gnF_nil, fiN_nil]; first | exact z1 c h | exact ⟨.mk c, h⟩)))))
         refine zs (zr ?_ (h := by intro c K h; simp [hG, List.getD_cons_zero, List.getD_cons_succ, -List.getD_eq_getElem?_getD, pureOp, addL_nil, seenG_nil, gnF_nil, fiN_nil]; first | exact z1 c h | exact ⟨.mk c, h⟩))
         refine zy (fun hb76 => ?_) fun hb76 => ?_
         · have hst := gnF_yes (W := c.ws) (k := k) hb68 (hge.1 hb76)
           refine zr ?_ (h := by intro c K h; simp [hG, List.getD_cons_zero, List.getD_cons_succ, -List.getD_eq_getElem?_getD, pureOp, addL_nil, seenG_nil, gnF_nil, fiN_nil]; first | exact z1 c h | exact ⟨.mk c, h⟩)
           refine zn (zbn (zr ?_ (h := by intro c K h; simp [hG, List.getD_cons_zero, List.getD_cons_succ, -List.getD_eq_getElem?_getD, pureOp, addL_nil, seenG_nil, gnF_nil, fiN_nil]; first | exact z1 c h | exact ⟨.mk c, h⟩)))
           refine zn ?_
           refine round_end (e + 1) (by omega) (by omega) ?_
           refine wk_of (id) (fun _ => false) (fun _ => false) ?_ ?_ rfl (by simp) (fun k hk => by first | exact ⟨rfl, rfl⟩ | (revert k; decide) | (obtain rfl : k = 0 := (by omega); exact ⟨rfl, rfl⟩) | (have hk2 : k = 0 ∨ k = 1 := (by omega); rcases hk2 with rfl | rfl <;> exact ⟨rfl, rfl⟩))
           · simp [hG, List.getD_cons_zero, List.getD_cons_succ, -List.getD_eq_getElem?_getD, pureOp, addL_nil, seenG_nil, gnF_nil, fiN_nil]
           rw [hst, addL_snoc]; simp [hG, pureOp, List.getD_cons_zero, List.getD_cons_succ, -List.getD_eq_getElem?_getD]
         have hst := gnF_not (W := c.ws) (k := k) hb68 (fun h => by have := hge.2 h; omega)
         refine zk (zn (zbn (zr ?_ (h := by intro c K h; simp [hG, List.getD_cons_zero, List.getD_cons_succ, -List.getD_eq_getElem?_getD, pureOp, addL_nil, seenG_nil, gnF_nil, fiN_nil]; first | exact z1 c h | exact ⟨.mk c, h⟩))))
         refine zn ?_
         refine round_end (e + 1) (by omega) (by omega) ?_
         refine wk_of (id) (fun _ => false) (fun _ => false) ?_ ?_ rfl (by simp) (fun k hk => by first | exact ⟨rfl, rfl⟩ | (revert k; decide) | (obtain rfl : k = 0 := (by omega); exact ⟨rfl, rfl⟩) | (have hk2 : k = 0 ∨ k = 1 := (by omega); rcases hk2 with rfl | rfl <;> exact ⟨rfl, rfl⟩))
         · simp [hG, List.getD_cons_zero, List.getD_cons_succ, -List.getD_eq_getElem?_getD, pureOp, addL_nil, seenG_nil, gnF_nil, fiN_nil]
         rw [hst]; simp [hG, pureOp, List.getD_cons_zero, List.getD_cons_succ, -List.getD_eq_getElem?_getD]
       obtain rfl : e = (aft c.ws (N.getD i0 dRc) (letters.getD j 0)).length := (by omega)
       refine zx (ztx (zbx (zn (zbn (zn ?_)))))
       refine round_end ((done ++ [i0], left.erase i0)) (hst0.1) (hst0.2) ?_
       refine wk_of (id) (fun _ => false) (fun _ => false) ?_ ?_ rfl (by simp) (fun k hk => by first | exact ⟨rfl, rfl⟩ | (revert k; decide) | (obtain rfl : k = 0 := (by omega); exact ⟨rfl, rfl⟩) | (have hk2 : k = 0 ∨ k = 1 := (by omega); rcases hk2 with rfl | rfl <;> exact ⟨rfl, rfl⟩))
       · simp [hG, List.getD_cons_zero, List.getD_cons_succ, -List.getD_eq_getElem?_getD, pureOp, addL_nil, seenG_nil, gnF_nil, fiN_nil]
       rw [fiN_row]; simp [hG, pureOp, List.getD_cons_zero, List.getD_cons_succ, -List.getD_eq_getElem?_getD]
     obtain rfl := nx_none hc (by simpa using hb58)
     rw [List.append_nil] at hz
     refine zx (ztx (zbx (zs (zr ?_ (h := by intro c K h; simp [hG, List.getD_cons_zero, List.getD_cons_succ, -List.getD_eq_getElem?_getD, pureOp, addL_nil, seenG_nil, gnF_nil, fiN_nil]; first | exact z1 c h | exact ⟨.mk c, h⟩)))))
     refine zs (zr ?_ (h := by intro c K h; simp [hG, List.getD_cons_zero, List.getD_cons_succ, -List.getD_eq_getElem?_getD, pureOp, addL_nil, seenG_nil, gnF_nil, fiN_nil]; first | exact z1 c h | exact ⟨.mk c, h⟩))
     refine zy (fun hb83 => ?_) fun hb83 => ?_
     · have hne : fiN c.ws k N done (letters.getD j 0) ≠ [] := List.length_pos_iff.1 hb83
       have hnp : decide (0 < (fiN c.ws k N done (letters.getD j 0)).length) = true := decide_eq_true hb83
       refine zs (zL (zl 2 ?_ (h := by intro c K h; simp [hG, List.getD_cons_zero, List.getD_cons_succ, -List.getD_eq_getElem?_getD, pureOp, addL_nil, seenG_nil, gnF_nil, fiN_nil]; first | exact z1 c h | exact ⟨.mk c, h⟩)))
       refine awpL_fc cal75 [1, 2] (fun _ => false) (writeByte_c (posB u.length) u (letters.getD j 0) (by omega)) rfl rfl rfl (by simp) (.inl fun _ => rfl) ?_ ?_ ?_ fun K hK x hI hno => ?_
       · simp [hG, List.getD_cons_zero, List.getD_cons_succ, -List.getD_eq_getElem?_getD, pureOp, addL_nil, seenG_nil, gnF_nil, fiN_nil]
       · simp [hG, List.range'_succ, List.range'_zero, List.getD_cons_zero, List.getD_cons_succ, -List.getD_eq_getElem?_getD]; rfl
       · cases hp : posB u.length with
           | true => simp [hG, pureOp, List.getD_cons_zero, List.getD_cons_succ, -List.getD_eq_getElem?_getD]
           | false => obtain rfl := List.length_eq_zero_iff.1 (posB_no hp); simp [hG, pureOp, List.getD_cons_zero, List.getD_cons_succ, -List.getD_eq_getElem?_getD]
       simp [hG, List.getD_cons_zero, List.getD_cons_succ, -List.getD_eq_getElem?_getD, pureOp, addL_nil, seenG_nil, gnF_nil, fiN_nil]
       refine hK _ ?_
       clear K hK
       refine zN (zr ?_ (h := by intro c K h; simp [hG, List.getD_cons_zero, List.getD_cons_succ, -List.getD_eq_getElem?_getD, pureOp, addL_nil, seenG_nil, gnF_nil, fiN_nil]; first | exact z1 c h | exact ⟨.mk c, h⟩))
       refine zn (zbn (zr ?_ (h := by intro c K h; simp [hG, List.getD_cons_zero, List.getD_cons_succ, -List.getD_eq_getElem?_getD, pureOp, addL_nil, seenG_nil, gnF_nil, fiN_nil]; first | exact z1 c h | exact ⟨.mk c, h⟩)))
       refine zn ?_
       refine round_end ((j + 1, true, u ++ [(letters.getD j 0)], fiN c.ws k N done (letters.getD j 0))) (⟨by simp only; omega, fun h => (by cases h), fun _ => ⟨fir_next hF hk hv.lt hclr hz (show j < c.q.toNat by omega) hno1 hne, by simp⟩⟩) (by simp only; omega) ?_
       refine wk_of (fun k => if k = 2 then 6 else if k = 3 then 4 else k) (fun _ => false) (fun _ => false) ?_ ?_ rfl (by simp) (fun k hk => by first | exact ⟨rfl, rfl⟩ | (revert k; decide) | (obtain rfl : k = 0 := (by omega); exact ⟨rfl, rfl⟩) | (have hk2 : k = 0 ∨ k = 1 := (by omega); rcases hk2 with rfl | rfl <;> exact ⟨rfl, rfl⟩))
       · rw [hnp]; simp [hG, pureOp, List.getD_cons_zero, List.getD_cons_succ, -List.getD_eq_getElem?_getD]
       simp [hG, List.getD_cons_zero, List.getD_cons_succ, -List.getD_eq_getElem?_getD, pureOp, addL_nil, seenG_nil, gnF_nil, fiN_nil]
     have hne := fir_miss hF hk hz (l := (letters.getD j 0)) (by simpa using hb83)
     have hnp : decide (0 < (fiN c.ws k N done (letters.getD j 0)).length) = false := (by simpa using hb83)
     refine zk (zn (zbn (zr ?_ (h := by intro c K h; simp [hG, List.getD_cons_zero, List.getD_cons_succ, -List.getD_eq_getElem?_getD, pureOp, addL_nil, seenG_nil, gnF_nil, fiN_nil]; first | exact z1 c h | exact ⟨.mk c, h⟩))))
     refine zn ?_
     refine round_end ((j + 1, false, u, N)) (⟨by simp only; omega, fun _ => ⟨rfl, rfl, step_all hno1 hne⟩, fun h => (by cases h)⟩) (by simp only; omega) ?_
     refine wk_of (id) (fun _ => false) (fun _ => false) ?_ ?_ rfl (by simp) (fun k hk => by first | exact ⟨rfl, rfl⟩ | (revert k; decide) | (obtain rfl : k = 0 := (by omega); exact ⟨rfl, rfl⟩) | (have hk2 : k = 0 ∨ k = 1 := (by omega); rcases hk2 with rfl | rfl <;> exact ⟨rfl, rfl⟩))
     · rw [hnp]; simp [hG, pureOp, List.getD_cons_zero, List.getD_cons_succ, -List.getD_eq_getElem?_getD]
     simp [hG, List.getD_cons_zero, List.getD_cons_succ, -List.getD_eq_getElem?_getD, pureOp, addL_nil, seenG_nil, gnF_nil, fiN_nil]
   refine zx (ztx (zbx (zs (zr ?_ (h := by intro c K h; simp [hG, List.getD_cons_zero, List.getD_cons_succ, -List.getD_eq_getElem?_getD, pureOp, addL_nil, seenG_nil, gnF_nil, fiN_nil]; first | exact z1 c h | exact ⟨.mk c, h⟩)))))
   refine zy (fun hb89 => ?_) fun hb89 => ?_
   · obtain rfl : f = false := (by simpa using hb89)
     obtain ⟨hu2, hN2, hno⟩ := hf rfl
     subst hu2
     subst hN2
     obtain rfl : j = c.q.toNat := (by simp at hb51; omega)
     have hfn := fir_none hF hk hv.lt hno
     refine zs (zr ?_ (h := by intro c K h; simp [hG, List.getD_cons_zero, List.getD_cons_succ, -List.getD_eq_getElem?_getD, pureOp, addL_nil, seenG_nil, gnF_nil, fiN_nil]; first | exact z1 c h | exact ⟨.mk c, h⟩))
     refine zt (zbt (ztt (zbt ?_)))
     refine RetF_of (()) (id) (fun _ => false) (fun _ => false) trivial ?_ ?_ (by rfl) (by simp) (fun k hk => ⟨rfl, rfl⟩)
     · rw [hfn]; simp [hG, pureOp, List.getD_cons_zero, List.getD_cons_succ, -List.getD_eq_getElem?_getD]
     simp [hG, List.getD_cons_zero, List.getD_cons_succ, -List.getD_eq_getElem?_getD, pureOp, addL_nil, seenG_nil, gnF_nil, fiN_nil]
   obtain rfl : f = true := (by simpa using hb89)
   obtain ⟨hF2, hl2⟩ := ht rfl
   refine zk (zn (zbn (zr ?_ (h := by intro c K h; simp [hG, List.getD_cons_zero, List.getD_cons_succ, -List.getD_eq_getElem?_getD, pureOp, addL_nil, seenG_nil, gnF_nil, fiN_nil]; first | exact z1 c h | exact ⟨.mk c, h⟩))))
   refine zn ?_
   refine round_end ((u2, N2)) (hF2) (by simp only; omega) ?_
   refine wk_of (id) (fun _ => false) (fun _ => false) ?_ ?_ rfl (by simp) (fun k hk => by first | exact ⟨rfl, rfl⟩ | (revert k; decide) | (obtain rfl : k = 0 := (by omega); exact ⟨rfl, rfl⟩) | (have hk2 : k = 0 ∨ k = 1 := (by omega); rcases hk2 with rfl | rfl <;> exact ⟨rfl, rfl⟩))
   · simp [hG, pureOp, List.getD_cons_zero, List.getD_cons_succ, -List.getD_eq_getElem?_getD]; omega
   simp [hG, List.getD_cons_zero, List.getD_cons_succ, -List.getD_eq_getElem?_getD, pureOp, addL_nil, seenG_nil, gnF_nil, fiN_nil]
 have hle := hF.le
 have hun : u.length = n := (by omega)
 obtain ⟨hf1, hf2⟩ := fir_fin hF hun
 refine zx (ztx (zbx (zs ?_)))
 by_cases hsp : posB u.length = true
 · have hwne : u ≠ [] := (fun e => by have := posB_yes hsp; rw [e] at this; exact absurd this (Nat.lt_irrefl 0))
   refine zL ?_
   refine zf cal58 [1, 2] (stringB (S := 2) (off := 0) (hin := [(0, .typ 87 (.arr 1 2 (fun _ j => bF (.ptr (0, 0) 0 0) (.sl (1, 0) 0 u.length) j))), (1, .typ 5 (.arr (u).length 1 (byF (u))))]) (nin := 2) (l := u) (id := (1, 0)) rfl (by omega) rfl rfl rfl (Nat.le_refl _) hwne (fun i hi => rfl) (by omega)) (fun x hI hno => ?_) (a := by simp [hG, List.getD_cons_zero, List.getD_cons_succ, -List.getD_eq_getElem?_getD, pureOp, addL_nil, seenG_nil, gnF_nil, fiN_nil, hsp]) (b := by simp [hG, List.getD_cons_zero, List.getD_cons_succ, -List.getD_eq_getElem?_getD, pureOp, addL_nil, seenG_nil, gnF_nil, fiN_nil, hsp]) (c := by simp [hG, List.getD_cons_zero, List.getD_cons_succ, -List.getD_eq_getElem?_getD, pureOp, addL_nil, seenG_nil, gnF_nil, fiN_nil, hsp]) (h := by intro K h x hI hno; simp [hG, List.getD_cons_zero, List.getD_cons_succ, -List.getD_eq_getElem?_getD, pureOp, addL_nil, seenG_nil, gnF_nil, fiN_nil, hsp]; exact h x hI hno)
   refine zl 5 ?_ (h := by intro c K h; simp [hG, List.getD_cons_zero, List.getD_cons_succ, -List.getD_eq_getElem?_getD, pureOp, addL_nil, seenG_nil, gnF_nil, fiN_nil, hsp]; first | exact z1 c h | exact ⟨.mk c, h⟩)
   refine zN (zt ?_)
   refine RetF_of (()) (id) (fun _ => false) (fun _ => false) trivial ?_ ?_ (by rfl) (by simp) (fun k hk => ⟨rfl, rfl⟩)
   · rw [hf1, hf2]; simp [hG, pureOp, List.getD_cons_zero, List.getD_cons_succ, -List.getD_eq_getElem?_getD]
   simp [hG, List.getD_cons_zero, List.getD_cons_succ, -List.getD_eq_getElem?_getD, pureOp, addL_nil, seenG_nil, gnF_nil, fiN_nil, hsp]
 obtain rfl : u = [] := List.length_eq_zero_iff.1 (posB_no (by simpa using hsp))
 refine zL ?_
 refine zf cal58 [1] (stringNilB (S := 2) (off := 0) (hin := [(0, .typ 87 (.arr 1 2 (fun _ j => bF (.nilp) (.nils) j)))]) (nin := 1) rfl (by omega) rfl) (fun x hI hno => ?_) (a := by simp [hG, List.getD_cons_zero, List.getD_cons_succ, -List.getD_eq_getElem?_getD, pureOp, addL_nil, seenG_nil, gnF_nil, fiN_nil, hsp]) (b := by simp [hG, List.getD_cons_zero, List.getD_cons_succ, -List.getD_eq_getElem?_getD, pureOp, addL_nil, seenG_nil, gnF_nil, fiN_nil, hsp]) (c := by simp [hG, List.getD_cons_zero, List.getD_cons_succ, -List.getD_eq_getElem?_getD, pureOp, addL_nil, seenG_nil, gnF_nil, fiN_nil, hsp]) (h := by intro K h x hI hno; simp [hG, List.getD_cons_zero, List.getD_cons_succ, -List.getD_eq_getElem?_getD, pureOp, addL_nil, seenG_nil, gnF_nil, fiN_nil, hsp]; exact h x hI hno)
 refine zl 5 ?_ (h := by intro c K h; simp [hG, List.getD_cons_zero, List.getD_cons_succ, -List.getD_eq_getElem?_getD, pureOp, addL_nil, seenG_nil, gnF_nil, fiN_nil, hsp]; first | exact z1 c h | exact ⟨.mk c, h⟩)
 refine zN (zt ?_)
 refine RetF_of (()) (id) (fun _ => false) (fun _ => false) trivial ?_ ?_ (by rfl) (by simp) (fun k hk => ⟨rfl, rfl⟩)
 · rw [hf1, hf2]; simp [hG, pureOp, List.getD_cons_zero, List.getD_cons_succ, -List.getD_eq_getElem?_getD]
 simp [hG, List.getD_cons_zero, List.getD_cons_succ, -List.getD_eq_getElem?_getD, pureOp, addL_nil, seenG_nil, gnF_nil, fiN_nil, hsp]
end Go.Proofs.Ytoafgeobhhlplaa
