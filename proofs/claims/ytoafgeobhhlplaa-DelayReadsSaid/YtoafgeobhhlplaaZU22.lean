/- Parts of the proof: DR VV VW WA RD DS. -/
import Derived.Test.YtoafgeobhhlplaaRows
import Derived.Test.YtoafgeobhhlplaaZU08
import Derived.Test.YtoafgeobhhlplaaZU11
import Derived.Test.YtoafgeobhhlplaaZU13
import Derived.Test.YtoafgeobhhlplaaZU14
import Derived.Test.YtoafgeobhhlplaaZU16
import Derived.Test.YtoafgeobhhlplaaZU17
import Derived.Test.YtoafgeobhhlplaaZU20
import Derived.Test.YtoafgeobhhlplaaZU21
namespace Go.Proofs.Ytoafgeobhhlplaa
set_option linter.unusedSimpArgs false
set_option linter.unusedVariables false
open Go Go.Lift
section
variable {W : List Wd} {q x : Nat}
theorem lng_shut {k : Nat} {w : Wd} (h : opB W x w = false) : lngW W q x k w = none := by
  cases k <;> (unfold lngW; rw [if_neg (by rw [h]; decide)])
theorem lng_end {w : Wd} (h : opB W x w = true) : lngW W q x 0 w = some w := if_pos h
theorem lng_hit {k i : Nat} {w s : Wd} (h : opB W x w = true) (hi : i < q) (hn : ∀ j, j < i → lngW W q x k (w ++ [letters.getD j 0]) = none) (hs : lngW W q x k (w ++ [letters.getD i 0]) = some s) : lngW W q x (k + 1) w = some s := by
  unfold lngW
  rw [if_pos h]
  obtain ⟨d, rfl⟩ : ∃ d, q = i + (d + 1) := ⟨q - i - 1, by omega⟩
  rw [List.range_add, List.findSome?_append]
  have e : (List.range i).findSome? (fun j => lngW W (i + (d + 1)) x k (w ++ [letters.getD j 0])) = none := List.findSome?_eq_none_iff.2 fun j hj => hn j (List.mem_range.1 hj)
  rw [e, List.range_succ_eq_map]
  simp only [List.map_cons, List.findSome?_cons, Nat.add_zero, hs, Option.none_or]
theorem lng_miss {k : Nat} {w : Wd} (hn : ∀ j, j < q → lngW W q x k (w ++ [letters.getD j 0]) = none) : lngW W q x (k + 1) w = none := by
  unfold lngW
  split
  · exact List.findSome?_eq_none_iff.2 fun j hj => hn j (List.mem_range.1 hj)
  · rfl
def rxO (o : Option (Nat × Wd)) : Int := match o with
  | some p => (p.1 : Int)
  | none => 0
def ryO (o : Option (Nat × Wd)) : Wd := match o with
  | some p => p.2
  | none => []
theorem rwU_yes (hW : ∀ w ∈ W, LtOK q w) {d n k : Nat} {o : Option (Nat × Wd)} (hn : (W.getD k []).length = n) (h : (lngW W q k d (W.getD k [])).isSome = true) (h2 : o.isSome = false ∨ (lngW W q k d (W.getD k [])).getD [] < ryO o) : rwU W q d n k o = some (k, (lngW W q k d (W.getD k [])).getD []) := by
  rw [lng_fst hW] at h h2 ⊢
  cases hu : fstW W q k d with
  | none => rw [hu] at h; cases h
  | some u =>
    rw [hu] at h2
    cases o with
    | none => exact rwU_first hn hu
    | some p =>
      rcases h2 with h2 | h2
      · cases h2
      · exact rwU_less hn hu h2
theorem rwU_not (hW : ∀ w ∈ W, LtOK q w) {d n k : Nat} {o : Option (Nat × Wd)} (hn : (W.getD k []).length = n) (h : ¬ ((lngW W q k d (W.getD k [])).isSome = true ∧ (o.isSome = false ∨ (lngW W q k d (W.getD k [])).getD [] < ryO o))) : rwU W q d n k o = o := by
  rw [lng_fst hW] at h
  cases hu : fstW W q k d with
  | none => exact rwU_none hu
  | some u =>
    rw [hu] at h
    cases o with
    | none => exact absurd ⟨rfl, .inl rfl⟩ h
    | some p => exact rwU_keep hn hu fun hl => h ⟨rfl, .inr hl⟩
section
variable (hW : ∀ w ∈ W, LtOK q w) (hs : ∀ i j, i < j → j < W.length → (W.getD i []).length ≤ (W.getD j []).length) (hne : ∀ w ∈ W, w ≠ []) (hlen : ∀ w ∈ W, w.length ≤ 32)
include hW hs hne
theorem rw_fin {d m : Nat} {p : Nat × Wd} (hn : ∀ k, 1 ≤ k → k < m → rwA W q d k W.length = none) (h : rwA W q d m W.length = some p) : wtF W q d = some p := by
  obtain ⟨h1, h2⟩ := rw_same hW hs (d := d) (Nat.le_refl W.length)
  cases ht : wtF W q d with
  | none => rw [h1 m ht] at h; cases h
  | some r =>
    obtain ⟨b, w⟩ := r
    obtain ⟨h3, h4⟩ := h2 b w ht
    have hb := (wtA_some hW ht).1
    have hp := List.length_pos_iff.2 (hne _ (W_mem hb))
    rcases Nat.lt_trichotomy m (W.getD b []).length with h5 | h5 | h5
    · rw [h4 m h5] at h; cases h
    · rw [h5, h3] at h; rw [← h]
    · rw [hn _ hp h5] at h3; cases h3
include hlen
theorem rw_out {d : Nat} (hn : ∀ k, 1 ≤ k → k < 33 → rwA W q d k W.length = none) : wtF W q d = none := by
  obtain ⟨h1, h2⟩ := rw_same hW hs (d := d) (Nat.le_refl W.length)
  cases ht : wtF W q d with
  | none => rfl
  | some r =>
    obtain ⟨b, w⟩ := r
    obtain ⟨h3, h4⟩ := h2 b w ht
    have hb := (wtA_some hW ht).1
    have hp := List.length_pos_iff.2 (hne _ (W_mem hb))
    have := hlen _ (W_mem hb)
    rw [hn _ hp (by omega)] at h3; cases h3
end
end
theorem asc_len {c : Cd} (hv : CdOK c) (i j : Nat) (hij : i < j) (hj : j < c.ws.length) : (c.ws.getD i []).length ≤ (c.ws.getD j []).length := by
  have h := List.pairwise_iff_getElem.1 hv.asc i j (by omega) hj hij
  have e1 : c.ws.getD i [] = c.ws[i] := by rw [List.getD_eq_getElem?_getD, List.getElem?_eq_getElem (by omega)]; rfl
  have e2 : c.ws.getD j [] = c.ws[j] := by rw [List.getD_eq_getElem?_getD, List.getElem?_eq_getElem hj]; rfl
  rw [e1, e2]
  rcases h with h | h
  · omega
  · omega
end Go.Proofs.Ytoafgeobhhlplaa
namespace Go.Proofs.Ytoafgeobhhlplaa
set_option linter.unusedSimpArgs false
set_option linter.unusedVariables false
open Go Go.Lift Go.Proofs
@[simp] theorem rxO_none : rxO none = 0 := rfl
@[simp] theorem ryO_none : ryO none = [] := rfl
@[simp] theorem rxO_some {b : Nat} {w : Wd} : rxO (some (b, w)) = b := rfl
@[simp] theorem ryO_some {b : Nat} {w : Wd} : ryO (some (b, w)) = w := rfl
theorem rwA_zero {W : List Wd} {q d n : Nat} : rwA W q d n 0 = none := rfl
theorem one_lt {i : Nat} (hi : i < 16) : ([48, 49, 50, 51, 52, 53, 54, 55, 56, 57, 97, 98, 99, 100, 101, 102].take (i + 1)).drop i = [letters.getD i 0] := by
  rcases i with _ | _ | _ | _ | _ | _ | _ | _ | _ | _ | _ | _ | _ | _ | _ | _ | i <;> first | rfl | omega
theorem dlD_pos {c : Cd} : 0 ≤ dlD c := by
  unfold dlD; split <;> omega
theorem dlB_ar {c : Cd} (h : dlB c = true) : arN c = 0 ∧ cdN c = 0 := by
  unfold dlB at h
  rw [Bool.and_eq_true, decide_eq_true_eq] at h
  exact ⟨if_pos h.1, h.1⟩
theorem wo_zero {c : Cd} (h : dlB c = true ∧ dlD c ≠ 0) (hd : dlD c ≤ 100) : bdN c (dlD c - 1) = arN c ∧ arN c = 0 := by
  obtain ⟨h1, h2⟩ := dlB_ar h.1
  have := dlD_pos (c := c)
  refine ⟨?_, h1⟩
  rw [h1]
  unfold bdN
  rw [if_neg (fun k => k h2), if_neg (by omega)]
theorem wo_no {c : Cd} (h : ¬ (dlB c = true ∧ dlD c ≠ 0)) : woW c = [] ∧ woB c = false := by
  unfold woW woB; rw [if_neg h, if_neg h]; exact ⟨rfl, rfl⟩
theorem wo_yes {c : Cd} (h : dlB c = true ∧ dlD c ≠ 0) : woW c = wsW c (dlD c - 1) ∧ woB c = wsB c (dlD c - 1) := by
  unfold woW woB; rw [if_pos h, if_pos h]; exact ⟨rfl, rfl⟩
def LngC (c : Cd) (x n k : Nat) : Prop := ∀ w : Wd, w.length + k = n → PC Try.prog 54 [.agg 2 (cdF c), .str w, .int .i64 (x : Nat), .int .i64 (n : Nat)] (.tup 2 (fun j => [.str ((lngW c.ws c.q.toNat x k w).getD []), .bool (lngW c.ws c.q.toNat x k w).isSome].getD j .any))
set_option maxRecDepth 100000 in
theorem longerR_c (c : Cd) (hl : c.ws.length ≤ maxLen) (hv : CdOK c) (x : Nat) (hx : x < c.ws.length) (n : Nat) (hn : n ≤ 100000) (k0 : Nat) (ih : ∀ k, k < k0 → LngC c x n k) (w : List UInt8) (hwk : w.length + k0 = n) : PC Try.prog 54 [.agg 2 (cdF c), .str w, .int .i64 (x : Nat), .int .i64 (n : Nat)] (.tup 2 (fun j => [.str ((lngW c.ws c.q.toNat x k0 w).getD []), .bool (lngW c.ws c.q.toNat x k0 w).isSome].getD j .any)) := by
 have hML : maxLen = 9223372036854775807 := by decide
 have hWn := hv.n
 have hq16 := hv.q
 refine zp Try.func54 fun G hG hR => ?_
 refine zs (zrP ?_)
 refine zs (zs (zL (zlP 3 ?_)))
 refine zcP cal76 (openR_c c hl hv w (by omega) x hx) ?_
 refine zlP 1 ?_
 refine zN (zy (fun hb17 => ?_) fun hb17 => ?_)
 · have hop : opB c.ws x w = false := (by simpa using hb17)
   refine zs (zrP ?_)
   refine zt ?_
   refine RetOK_of ?_
   simp [hG, List.getD_cons_zero, List.getD_cons_succ, -List.getD_eq_getElem?_getD, pureOp]
   rw [lng_shut hop]; exact ⟨rfl, rfl⟩
 have hop : opB c.ws x w = true := (by simpa using hb17)
 refine zk (zs (zs (zrP ?_)))
 refine zy (fun hb21 => ?_) fun hb21 => ?_
 · obtain rfl : k0 = 0 := (by omega)
   refine zs (zrP ?_)
   refine zt ?_
   refine RetOK_of ?_
   simp [hG, List.getD_cons_zero, List.getD_cons_succ, -List.getD_eq_getElem?_getD, pureOp]
   rw [lng_end hop]; exact ⟨rfl, rfl⟩
 obtain ⟨k1, rfl⟩ : ∃ k, k0 = k + 1 := ⟨k0 - 1, by omega⟩
 refine zk (zs (zs (zrP ?_)))
 refine zb ?_
 refine awpS_loop (α := Nat) (fun i => ⟨[(1, .str w), (2, .int .i64 (x : Nat)), (3, .int .i64 (n : Nat)), (4, .vptr 2 (cdF c) 0), (10, .int .i64 (i : Nat))], [], 0⟩) (fun i => i ≤ c.q.toNat ∧ ∀ j, j < i → lngW c.ws c.q.toNat x k1 (w ++ [letters.getD j 0]) = none) (fun i => c.q.toNat - i) (0) (⟨Nat.zero_le _, fun j hj => absurd hj (Nat.not_lt_zero _)⟩) ?_ ?_
 · exact zwP (id) (fun k => k == 0) (fun _ => false)
 rintro i ⟨hi, hnn⟩
 refine zs (zs (zrP ?_))
 refine zy (fun hb26 => ?_) fun hb26 => ?_
 · have hi16 : i < 16 := (by omega)
   have hlt := one_lt hi16
   refine zk (zs (zb (zs ?_)))
   refine awpS_draw hR mixed [] ⟨[], [], []⟩ fun mu0 => ?_
   refine zaP [0, 1, 2, 3, 4, 5, 6, 7, 8] [] 6 [8, 7, 6, 5, 4, 3, 2, 1, 0] ?_
   refine awpA_only (fuel := 5) (i := 9) (by decide +kernel) ?_
   refine zeP cal54 (ih k1 (by omega) (w ++ [letters.getD i 0]) (by rw [List.length_append, List.length_singleton]; omega)) ?_ (b := fun hg => by simp [hG, List.getD_cons_zero, List.getD_cons_succ, -List.getD_eq_getElem?_getD]; first | exact hlt | (rw [hlt]) | simp [hlt])
   refine zaP [10, 11, 12, 13, 14] [] 0 [14, 13, 12, 11, 10, 9, 8, 7, 6, 5, 4, 3, 2, 1, 0] ?_
   refine awpA_done (by decide +kernel) ?_
   refine zs (zrP ?_)
   refine zy (fun hb42 => ?_) fun hb42 => ?_
   · obtain ⟨s, hs⟩ := Option.isSome_iff_exists.1 hb42
     have hh := lng_hit hop (show i < c.q.toNat by omega) hnn hs
     refine zs (zrP ?_)
     refine zt (zbt (ztt (zbt ?_)))
     refine RetOK_of ?_
     simp [hG, List.getD_cons_zero, List.getD_cons_succ, -List.getD_eq_getElem?_getD, pureOp]
     rw [hh, hs]; exact ⟨rfl, rfl⟩
   have hh : (lngW c.ws c.q.toNat x k1 (w ++ [letters.getD i 0])) = none := (by simpa using hb42)
   refine zk (zn (zbn (zrP ?_)))
   refine zn ?_
   refine round_end (i + 1) (⟨by omega, step_all hnn hh⟩) (by omega) ?_
   exact ziP
 obtain rfl : i = c.q.toNat := (by omega)
 refine zx (ztx (zbx (zs (zrP ?_))))
 refine zt ?_
 refine RetOK_of ?_
 simp [hG, List.getD_cons_zero, List.getD_cons_succ, -List.getD_eq_getElem?_getD, pureOp]
 rw [lng_miss hnn]; exact ⟨rfl, rfl⟩
theorem longer_all {c : Cd} (hl : c.ws.length ≤ maxLen) (hv : CdOK c) {x : Nat} (hx : x < c.ws.length) {n : Nat} (hn : n ≤ 100000) (k : Nat) : LngC c x n k := Nat.strongRecOn k fun k ih w hw => longerR_c c hl hv x hx n hn k ih w hw
set_option maxRecDepth 100000 in
theorem refWitness_c (c : Cd) (hl : c.ws.length ≤ maxLen) (n : Int) : PC Try.prog 25 [.agg 2 (cdF c), .int .i64 n] (.tup 5 (fun j => [.str (wsW c n), .int .i64 (wsX c n), .int .i64 (wsY c n), .bool (wsB c n), .int .i64 (bdN c n)].getD j .any)) := by
 have hML : maxLen = 9223372036854775807 := by decide
 refine zp Try.func25 fun G hG hR => ?_
 refine zs (zr ?_ (h := by intro c K h; simp [hG, List.getD_cons_zero, List.getD_cons_succ, -List.getD_eq_getElem?_getD, pureOp, rwA_zero, rxO_none, ryO_none, rxO_some, ryO_some]; first | exact z1 c h | exact ⟨.mk c, h⟩))
 refine zs (zs (zL (zl 1 ?_ (h := by intro c K h; simp [hG, List.getD_cons_zero, List.getD_cons_succ, -List.getD_eq_getElem?_getD, pureOp, rwA_zero, rxO_none, ryO_none, rxO_some, ryO_some]; first | exact z1 c h | exact ⟨.mk c, h⟩))))
 refine zc cal41 (checkR33_c c hl) ?_ (a := fun hg => by simp [hG, List.getD_cons_zero, List.getD_cons_succ, -List.getD_eq_getElem?_getD, pureOp, rwA_zero, rxO_none, ryO_none, rxO_some, ryO_some]) (b := fun hg => by simp [hG, List.getD_cons_zero, List.getD_cons_succ, -List.getD_eq_getElem?_getD, pureOp, rwA_zero, rxO_none, ryO_none, rxO_some, ryO_some]) (h := by intro K h; simp [hG, List.getD_cons_zero, List.getD_cons_succ, -List.getD_eq_getElem?_getD, pureOp, rwA_zero, rxO_none, ryO_none, rxO_some, ryO_some]; exact h)
 refine zl 1 ?_ (h := by intro c K h; simp [hG, List.getD_cons_zero, List.getD_cons_succ, -List.getD_eq_getElem?_getD, pureOp, rwA_zero, rxO_none, ryO_none, rxO_some, ryO_some]; first | exact z1 c h | exact ⟨.mk c, h⟩)
 refine zN (zy (fun hb18 => ?_) fun hb18 => ?_)
 · have hb1 : bdN c n = 1 := if_pos hb18
   refine zs (zr ?_ (h := by intro c K h; simp [hG, List.getD_cons_zero, List.getD_cons_succ, -List.getD_eq_getElem?_getD, pureOp, rwA_zero, rxO_none, ryO_none, rxO_some, ryO_some]; first | exact z1 c h | exact ⟨.mk c, h⟩))
   refine zt ?_
   refine RetOK_of ?_
   simp [hG, List.getD_cons_zero, List.getD_cons_succ, -List.getD_eq_getElem?_getD, pureOp, rwA_zero, rxO_none, ryO_none, rxO_some, ryO_some]
   obtain ⟨h1, h2, h3, h4⟩ := ws_err (n := n) (show bdN c n ≠ 0 by rw [hb1]; decide); rw [h1, h2, h3, h4, hb1]; simp
 have ho : cdN c = 0 := (by simpa using hb18)
 have hv := cd_ok ho
 refine zk (zs (zs (zr ?_ (h := by intro c K h; simp [hG, List.getD_cons_zero, List.getD_cons_succ, -List.getD_eq_getElem?_getD, pureOp, rwA_zero, rxO_none, ryO_none, rxO_some, ryO_some]; first | exact z1 c h | exact ⟨.mk c, h⟩))))
 refine zy (fun hb24 => ?_) fun hb24 => ?_
 · have hb1 : bdN c n = 2 := (if_neg (fun k => k ho)).trans (if_pos (by omega))
   refine zs (zr ?_ (h := by intro c K h; simp [hG, List.getD_cons_zero, List.getD_cons_succ, -List.getD_eq_getElem?_getD, pureOp, rwA_zero, rxO_none, ryO_none, rxO_some, ryO_some]; first | exact z1 c h | exact ⟨.mk c, h⟩))
   refine zt ?_
   refine RetOK_of ?_
   simp [hG, List.getD_cons_zero, List.getD_cons_succ, -List.getD_eq_getElem?_getD, pureOp, rwA_zero, rxO_none, ryO_none, rxO_some, ryO_some]
   obtain ⟨h1, h2, h3, h4⟩ := ws_err (n := n) (show bdN c n ≠ 0 by rw [hb1]; decide); rw [h1, h2, h3, h4, hb1]; simp
 have hb0 : bdN c n = 0 := (if_neg (fun k => k ho)).trans (if_neg (by omega))
 obtain ⟨e, rfl⟩ : ∃ e : Nat, n = (e : Int) := ⟨n.toNat, by omega⟩
 have he : e ≤ 4096 := (by omega)
 have hWn := hv.n
 refine zk (zs (zs (zr ?_ (h := by intro c K h; simp [hG, List.getD_cons_zero, List.getD_cons_succ, -List.getD_eq_getElem?_getD, pureOp, rwA_zero, rxO_none, ryO_none, rxO_some, ryO_some]; first | exact z1 c h | exact ⟨.mk c, h⟩))))
 refine zb ?_
 refine awpS_loop (α := Nat) (fun t => ⟨[(1, .int .i64 (e : Nat)), (2, .vptr 2 (cdF c) 0), (9, .int .i64 (t : Nat))], [], 0⟩) (fun t => 1 ≤ t ∧ t ≤ 33 ∧ ∀ k, 1 ≤ k → k < t → rwA c.ws c.q.toNat e k c.ws.length = none) (fun t => 33 - t) (1) (⟨Nat.le_refl _, by omega, fun k h1 h2 => absurd h1 (by omega)⟩) ?_ ?_
 · exact zw (id) (fun k => k == 0) (fun _ => false) (e := by simp [hG, List.getD_cons_zero, List.getD_cons_succ, -List.getD_eq_getElem?_getD, pureOp, rwA_zero, rxO_none, ryO_none, rxO_some, ryO_some]) (h := by simp [hG, List.getD_cons_zero, List.getD_cons_succ, -List.getD_eq_getElem?_getD, pureOp, rwA_zero, rxO_none, ryO_none, rxO_some, ryO_some])
 rintro t ⟨ht1, ht2, hno1⟩
 refine zs (zs (zr ?_ (h := by intro c K h; simp [hG, List.getD_cons_zero, List.getD_cons_succ, -List.getD_eq_getElem?_getD, pureOp, rwA_zero, rxO_none, ryO_none, rxO_some, ryO_some]; first | exact z1 c h | exact ⟨.mk c, h⟩)))
 refine zy (fun hb26 => ?_) fun hb26 => ?_
 · refine zk (zs (zb (zs (zr ?_ (h := by intro c K h; simp [hG, List.getD_cons_zero, List.getD_cons_succ, -List.getD_eq_getElem?_getD, pureOp, rwA_zero, rxO_none, ryO_none, rxO_some, ryO_some]; first | exact z1 c h | exact ⟨.mk c, h⟩)))))
   refine zs (zs (zr ?_ (h := by intro c K h; simp [hG, List.getD_cons_zero, List.getD_cons_succ, -List.getD_eq_getElem?_getD, pureOp, rwA_zero, rxO_none, ryO_none, rxO_some, ryO_some]; first | exact z1 c h | exact ⟨.mk c, h⟩)))
   refine zb ?_
   refine awpS_loop (α := Nat) (fun i => ⟨[(1, .int .i64 (e : Nat)), (2, .vptr 2 (cdF c) 0), (9, .int .i64 (t : Nat)), (10, .str (ryO (rwA c.ws c.q.toNat e t i))), (11, .int .i64 (rxO (rwA c.ws c.q.toNat e t i))), (12, .bool (rwA c.ws c.q.toNat e t i).isSome), (13, .int .i64 (i : Nat))], [], 0⟩) (fun i => i ≤ c.ws.length) (fun i => c.ws.length - i) (0) (Nat.zero_le _) ?_ ?_
   · exact zi (e := by simp [hG, List.getD_cons_zero, List.getD_cons_succ, -List.getD_eq_getElem?_getD, pureOp, rwA_zero, rxO_none, ryO_none, rxO_some, ryO_some]) (h := by simp [hG, List.getD_cons_zero, List.getD_cons_succ, -List.getD_eq_getElem?_getD, pureOp, rwA_zero, rxO_none, ryO_none, rxO_some, ryO_some])
   rintro i hi
   refine zs (zs (zr ?_ (h := by intro c K h; simp [hG, List.getD_cons_zero, List.getD_cons_succ, -List.getD_eq_getElem?_getD, pureOp, rwA_zero, rxO_none, ryO_none, rxO_some, ryO_some]; first | exact z1 c h | exact ⟨.mk c, h⟩)))
   refine zy (fun hb33 => ?_) fun hb33 => ?_
   · refine zk (zs (zb (zs (zs (zr ?_ (h := by intro c K h; simp [hG, List.getD_cons_zero, List.getD_cons_succ, -List.getD_eq_getElem?_getD, pureOp, rwA_zero, rxO_none, ryO_none, rxO_some, ryO_some]; first | exact z1 c h | exact ⟨.mk c, h⟩))))))
     refine zy (fun hb43 => ?_) fun hb43 => ?_
     · have hps := rwU_other (W := c.ws) (q := c.q.toNat) (d := e) (n := t) (k := i) (best := (rwA c.ws c.q.toNat e t i)) (fun h => by omega)
       refine zx (zbx (zr ?_ (h := by intro c K h; simp [hG, List.getD_cons_zero, List.getD_cons_succ, -List.getD_eq_getElem?_getD, pureOp, rwA_zero, rxO_none, ryO_none, rxO_some, ryO_some]; first | exact z1 c h | exact ⟨.mk c, h⟩)))
       refine zn ?_
       refine round_end (i + 1) (by omega) (by omega) ?_
       exact zi (e := by rw [rwA_succ, hps]; simp [hG, pureOp, List.getD_cons_zero, List.getD_cons_succ, -List.getD_eq_getElem?_getD]) (h := by simp [hG, List.getD_cons_zero, List.getD_cons_succ, -List.getD_eq_getElem?_getD, pureOp, rwA_zero, rxO_none, ryO_none, rxO_some, ryO_some])
     have htl : (c.ws.getD i []).length = t := (by omega)
     refine zk (zs ?_)
     refine awpS_draw hR mixed [] ⟨[], [], []⟩ fun mu0 => ?_
     refine za [0, 1, 2, 3, 4, 5, 6, 7, 8, 9] [] 6 [9, 8, 7, 6, 5, 4, 3, 2, 1, 0] ?_ (h := by intro c K h; simp [hG, List.getD_cons_zero, List.getD_cons_succ, -List.getD_eq_getElem?_getD, pureOp, rwA_zero, rxO_none, ryO_none, rxO_some, ryO_some]; first | exact z1 c h | exact ⟨.mk c, h⟩)
     refine awpA_only (fuel := 5) (i := 10) (by decide +kernel) ?_
     refine ze cal54 (longer_all hl hv hb33 (n := t + e) (by omega) e (c.ws.getD i []) (by omega)) ?_ (a := fun hg => by simp [hG, List.getD_cons_zero, List.getD_cons_succ, -List.getD_eq_getElem?_getD, pureOp, rwA_zero, rxO_none, ryO_none, rxO_some, ryO_some]) (b := fun hg => by simp [hG, List.getD_cons_zero, List.getD_cons_succ, -List.getD_eq_getElem?_getD, pureOp, rwA_zero, rxO_none, ryO_none, rxO_some, ryO_some]) (h := by intro K h; simp [hG, List.getD_cons_zero, List.getD_cons_succ, -List.getD_eq_getElem?_getD, pureOp, rwA_zero, rxO_none, ryO_none, rxO_some, ryO_some]; exact h)
     refine za [11, 12, 13, 14, 15] [] 0 [15, 14, 13, 12, 11, 10, 9, 8, 7, 6, 5, 4, 3, 2, 1, 0] ?_ (h := by intro c K h; simp [hG, List.getD_cons_zero, List.getD_cons_succ, -List.getD_eq_getElem?_getD, pureOp, rwA_zero, rxO_none, ryO_none, rxO_some, ryO_some]; first | exact z1 c h | exact ⟨.mk c, h⟩)
     refine awpA_done (by decide +kernel) ?_
     refine zs (zr ?_ (h := by intro c K h; simp [hG, List.getD_cons_zero, List.getD_cons_succ, -List.getD_eq_getElem?_getD, pureOp, rwA_zero, rxO_none, ryO_none, rxO_some, ryO_some]; first | exact z1 c h | exact ⟨.mk c, h⟩))
     refine zy (fun hb67 => ?_) fun hb67 => ?_
     · have hps := rwU_yes (o := (rwA c.ws c.q.toNat e t i)) hv.lt htl hb67.1 (hb67.2.imp (fun h => by rw [h]; rfl) (fun h => by rw [less_dec] at h; exact of_decide_eq_true h))
       refine zr ?_ (h := by intro c K h; simp [hG, List.getD_cons_zero, List.getD_cons_succ, -List.getD_eq_getElem?_getD, pureOp, rwA_zero, rxO_none, ryO_none, rxO_some, ryO_some]; first | exact z1 c h | exact ⟨.mk c, h⟩)
       refine zn (zbn (zr ?_ (h := by intro c K h; simp [hG, List.getD_cons_zero, List.getD_cons_succ, -List.getD_eq_getElem?_getD, pureOp, rwA_zero, rxO_none, ryO_none, rxO_some, ryO_some]; first | exact z1 c h | exact ⟨.mk c, h⟩)))
       refine zn ?_
       refine round_end (i + 1) (by omega) (by omega) ?_
       exact zi (e := by rw [rwA_succ, hps]; simp [hG, pureOp, List.getD_cons_zero, List.getD_cons_succ, -List.getD_eq_getElem?_getD]) (h := by simp [hG, List.getD_cons_zero, List.getD_cons_succ, -List.getD_eq_getElem?_getD, pureOp, rwA_zero, rxO_none, ryO_none, rxO_some, ryO_some])
     have hps := rwU_not (o := (rwA c.ws c.q.toNat e t i)) hv.lt htl (fun h => by obtain ⟨h2, h4⟩ := hb67 h.1; rcases h.2 with h3 | h3; (exact h2 (by simpa using h3)); (rw [less_dec] at h4; exact absurd h3 (of_decide_eq_false h4)))
     refine zk (zn (zbn (zr ?_ (h := by intro c K h; simp [hG, List.getD_cons_zero, List.getD_cons_succ, -List.getD_eq_getElem?_getD, pureOp, rwA_zero, rxO_none, ryO_none, rxO_some, ryO_some]; first | exact z1 c h | exact ⟨.mk c, h⟩))))
     refine zn ?_
     refine round_end (i + 1) (by omega) (by omega) ?_
     exact zi (e := by rw [rwA_succ, hps]; simp [hG, pureOp, List.getD_cons_zero, List.getD_cons_succ, -List.getD_eq_getElem?_getD]) (h := by simp [hG, List.getD_cons_zero, List.getD_cons_succ, -List.getD_eq_getElem?_getD, pureOp, rwA_zero, rxO_none, ryO_none, rxO_some, ryO_some])
   obtain rfl : i = c.ws.length := (by omega)
   refine zx (ztx (zbx (zs (zr ?_ (h := by intro c K h; simp [hG, List.getD_cons_zero, List.getD_cons_succ, -List.getD_eq_getElem?_getD, pureOp, rwA_zero, rxO_none, ryO_none, rxO_some, ryO_some]; first | exact z1 c h | exact ⟨.mk c, h⟩)))))
   refine zy (fun hb70 => ?_) fun hb70 => ?_
   · obtain ⟨p, hp⟩ := Option.isSome_iff_exists.1 hb70
     obtain ⟨bx, w⟩ := p
     have hw := rw_fin hv.lt (asc_len hv) hv.ne hno1 hp
     obtain ⟨hoth, hwl, hbl⟩ := wt_oth hv hw
     rw [hp]
     refine zs (zL (zl 5 ?_ (h := by intro c K h; simp [hG, List.getD_cons_zero, List.getD_cons_succ, -List.getD_eq_getElem?_getD, pureOp, rwA_zero, rxO_none, ryO_none, rxO_some, ryO_some]; first | exact z1 c h | exact ⟨.mk c, h⟩)))
     refine zc cal51 (otherR_c c hl hv w (by omega) bx) ?_ (a := fun hg => by simp [hG, List.getD_cons_zero, List.getD_cons_succ, -List.getD_eq_getElem?_getD, pureOp, rwA_zero, rxO_none, ryO_none, rxO_some, ryO_some]) (b := fun hg => by simp [hG, List.getD_cons_zero, List.getD_cons_succ, -List.getD_eq_getElem?_getD, pureOp, rwA_zero, rxO_none, ryO_none, rxO_some, ryO_some]) (h := by intro K h; simp [hG, List.getD_cons_zero, List.getD_cons_succ, -List.getD_eq_getElem?_getD, pureOp, rwA_zero, rxO_none, ryO_none, rxO_some, ryO_some]; exact h)
     refine zl 5 ?_ (h := by intro c K h; simp [hG, List.getD_cons_zero, List.getD_cons_succ, -List.getD_eq_getElem?_getD, pureOp, rwA_zero, rxO_none, ryO_none, rxO_some, ryO_some]; first | exact z1 c h | exact ⟨.mk c, h⟩)
     refine zN (zt (zbt (ztt (zbt ?_))))
     refine RetOK_of ?_
     simp [hG, List.getD_cons_zero, List.getD_cons_succ, -List.getD_eq_getElem?_getD, pureOp, rwA_zero, rxO_none, ryO_none, rxO_some, ryO_some]
     obtain ⟨h1, h2, h3, h4⟩ := ws_at hb0 hw; rw [h1, h2, h3, h4, hb0]; simp
   have hwt : rwA c.ws c.q.toNat e t c.ws.length = none := (by simpa using hb70)
   refine zk (zn (zbn (zr ?_ (h := by intro c K h; simp [hG, List.getD_cons_zero, List.getD_cons_succ, -List.getD_eq_getElem?_getD, pureOp, rwA_zero, rxO_none, ryO_none, rxO_some, ryO_some]; first | exact z1 c h | exact ⟨.mk c, h⟩))))
   refine zn ?_
   refine round_end (t + 1) (⟨by omega, by omega, fun k h1 h2 => by rcases Nat.lt_or_ge k t with h3 | h3; (exact hno1 k h1 h3); (obtain rfl : k = t := (by omega); exact hwt)⟩) (by omega) ?_
   exact zi (e := by simp [hG, List.getD_cons_zero, List.getD_cons_succ, -List.getD_eq_getElem?_getD, pureOp, rwA_zero, rxO_none, ryO_none, rxO_some, ryO_some]) (h := by simp [hG, List.getD_cons_zero, List.getD_cons_succ, -List.getD_eq_getElem?_getD, pureOp, rwA_zero, rxO_none, ryO_none, rxO_some, ryO_some])
 obtain rfl : t = 33 := (by omega)
 have hwn := rw_out hv.lt (asc_len hv) hv.ne hv.len hno1
 refine zx (ztx (zbx (zs (zr ?_ (h := by intro c K h; simp [hG, List.getD_cons_zero, List.getD_cons_succ, -List.getD_eq_getElem?_getD, pureOp, rwA_zero, rxO_none, ryO_none, rxO_some, ryO_some]; first | exact z1 c h | exact ⟨.mk c, h⟩)))))
 refine zt ?_
 refine RetOK_of ?_
 simp [hG, List.getD_cons_zero, List.getD_cons_succ, -List.getD_eq_getElem?_getD, pureOp, rwA_zero, rxO_none, ryO_none, rxO_some, ryO_some]
 obtain ⟨h1, h2, h3, h4⟩ := ws_out hb0 hwn; rw [h1, h2, h3, h4, hb0]; simp
set_option maxRecDepth 100000 in
theorem worst_c (c : Cd) (hl : c.ws.length ≤ maxLen) (hd : dlD c ≤ 100) : PC Try.prog 16 [.agg 2 (cdF c)] (.tup 3 (fun j => [.str (woW c), .bool (woB c), .int .i64 (arN c)].getD j .any)) := by
 have hML : maxLen = 9223372036854775807 := by decide
 have hdr := dlD_pos (c := c)
 refine zp Try.func16 fun G hG hR => ?_
 refine zs (zrP ?_)
 refine zs (zL (zlP 1 ?_))
 refine zcP cal12 (delay_c c hl) ?_
 refine zlP 7 ?_
 refine zN (zs (zs (zrP ?_)))
 refine zy (fun hb26 => ?_) fun hb26 => ?_
 · refine zs (zrP ?_)
   refine zt ?_
   refine RetOK_of ?_
   simp [hG, List.getD_cons_zero, List.getD_cons_succ, -List.getD_eq_getElem?_getD, pureOp]
   obtain ⟨h1, h2⟩ := wo_no (c := c) (fun k => by have := dlB_ar k.1; simp_all); rw [h1, h2]; simp
 refine zk (zs (zL (zlP 3 ?_)))
 refine zcP cal24 (witness_c c hl (dlD c - 1)) ?_
 refine zlP 11 ?_
 refine zN (zs (zrP ?_))
 refine zt ?_
 refine RetOK_of ?_
 simp [hG, List.getD_cons_zero, List.getD_cons_succ, -List.getD_eq_getElem?_getD, pureOp]
 have hy : dlB c = true ∧ dlD c ≠ 0 := (by simp_all); obtain ⟨h1, h2⟩ := wo_yes hy; obtain ⟨h3, h4⟩ := wo_zero hy hd; rw [h1, h2, h3]; first | exact ⟨rfl, rfl, rfl⟩ | exact ⟨rfl, rfl, h4⟩ | simp [h4]
theorem intsEq {a b : List Int} (h : a.length = b.length) (hn : ∀ j, j < a.length → a.getD j 0 = b.getD j 0) : a = b := by
  apply List.ext_getElem h
  intro i h1 h2
  have := hn i h1
  rwa [getD_get h1, getD_get h2] at this
def twoW : Wd := [48, 48, 48, 49, 48, 48, 49, 48]
theorem tw1 : dlD two = 2 := by unfold dlD; rw [if_pos two_ok, two_dl]; rfl
theorem tw2 : dlB two = true := by unfold dlB; rw [two_dl, decide_eq_true two_ok]; rfl
theorem tw3 : arN two = 0 := if_pos two_ok
theorem th1 : dlD thr = 0 := by unfold dlD; rw [if_pos thr_ok, thr_dl]; rfl
theorem th2 : dlB thr = false := by unfold dlB; rw [thr_dl, decide_eq_true thr_ok]; rfl
theorem th3 : arN thr = 0 := if_pos thr_ok
theorem tw_bd : bdN two 1 = 0 := by unfold bdN; rw [if_neg (fun k => k two_ok), if_neg (by omega)]
theorem tw4 : woW two = [48, 48] := by
  rw [(wo_yes ⟨tw2, by rw [tw1]; decide⟩).1, tw1]
  exact (ws_at (e := 1) tw_bd two_wt).1
theorem tw5 : woB two = true := by
  rw [(wo_yes ⟨tw2, by rw [tw1]; decide⟩).2, tw1]
  exact (ws_at (e := 1) tw_bd two_wt).2.2.2
theorem tw_ck : ckN two twoW = 0 := (if_neg (fun k => k two_ok)).trans two_ck
theorem tw6 : reN two 2 twoW = 0 := by unfold reN; rw [if_neg (fun k => k tw_ck), if_neg (by omega)]
theorem tw7 : reL two 2 twoW = [0, 1] := by unfold reL; rw [if_pos tw6]; exact congrArg Prod.fst two_re
theorem tw8 : reM two 2 twoW = 4 := by unfold reM; rw [if_pos tw6]; exact congrArg (fun p : List Int × Nat => ((p.2 : Nat) : Int)) two_re
set_option maxRecDepth 100000 in
theorem equalI_c (a b : List Int) (ha : a.length ≤ 1000000) : PC Try.prog 23 [ints a, ints b] (.bool (decide (a = b))) := by
 refine zp Try.func23 fun G hG hR => ?_
 refine zs (zr ?_)
 refine zs (zs (zr ?_))
 refine zy (fun hb10 => ?_) fun hb10 => ?_
 · refine zs (zr ?_)
   refine zt ?_
   refine RetOK_of ?_
   simp [hG, List.getD_cons_zero, List.getD_cons_succ, -List.getD_eq_getElem?_getD]
   intro h; rw [h] at hb10; omega
 refine zk (zs (zs (zr ?_)))
 refine zb ?_
 refine awpS_loop (α := Nat) (fun k => ⟨[(0, ints a), (1, ints b), (12, .int .i64 a.length), (13, .int .i64 k)], [], 0⟩) (fun k => a.length = b.length ∧ k ≤ a.length ∧ ∀ j, j < k → a.getD j 0 = b.getD j 0) (fun k => a.length - k) (0) (⟨by omega, Nat.zero_le _, fun j hj => absurd hj (Nat.not_lt_zero _)⟩) ?_ ?_
 · exact zi
 rintro k ⟨h3, hk, hn⟩
 refine zs (zr ?_)
 refine zs (zy (fun hb14 => ?_) fun hb14 => ?_)
 · refine zk (zs (zb (zs (zr ?_))))
   refine zs ?_
   refine awpS_draw hR mixed [] ⟨[], [], []⟩ fun mu0 => ?_
   refine za [0, 1, 2, 3, 4, 5, 6, 7, 8] [] 0 [8, 7, 6, 5, 4, 3, 2, 1, 0] ?_
   refine awpA_done (by decide +kernel) ?_
   refine zy (fun hb24 => ?_) fun hb24 => ?_
   · refine zs (zr ?_)
     refine zt (zbt (ztt (zbt ?_)))
     refine RetOK_of ?_
     simp [hG, List.getD_cons_zero, List.getD_cons_succ, -List.getD_eq_getElem?_getD]
     intro h; rw [h] at hb24; exact hb24 rfl
   refine zk (zn (zbn (zr ?_)))
   refine zn ?_
   refine round_end (k + 1) (⟨h3, by omega, step_all hn hb24⟩) (by omega) ?_
   exact zi
 refine zx (ztx (zbx (zs (zr ?_))))
 refine zt ?_
 refine RetOK_of ?_
 simp [hG, List.getD_cons_zero, List.getD_cons_succ, -List.getD_eq_getElem?_getD]
 exact intsEq h3 fun j hj => hn j (by omega)
set_option maxRecDepth 100000 in
set_option maxHeartbeats 1000000 in
theorem awake_c  : PC Try.prog 11 [] (.bool true) := by
 have hML : maxLen = 9223372036854775807 := by decide
 refine zp Try.func11 fun G hG hR => ?_
 refine zs (zr ?_ (h := by intro c K h; simp [hG, List.getD_cons_zero, List.getD_cons_succ, -List.getD_eq_getElem?_getD, pureOp, tw1, tw2, tw3, tw4, tw5, tw6, tw7, tw8, th1, th2, th3]; first | exact z1 c h | exact ⟨.mk c, h⟩))
 refine zs (zr ?_ (h := by intro c K h; simp [hG, List.getD_cons_zero, List.getD_cons_succ, -List.getD_eq_getElem?_getD, pureOp, tw1, tw2, tw3, tw4, tw5, tw6, tw7, tw8, th1, th2, th3]; first | exact z1 c h | exact ⟨.mk c, h⟩))
 refine zs ?_
 refine awpS_wk (st2 := ⟨[(1, .ptr (0, 0) 0 0)], [(0, .one (.arr 1 2 (fun _ => cdF two)))], 1⟩) ?_ ?_
 · exact zw (fun k => if k = 0 then 1 else k + 10) (fun k => k == 0) (fun _ => false) (e := by simp [hG, List.getD_cons_zero, List.getD_cons_succ, -List.getD_eq_getElem?_getD, pureOp, tw1, tw2, tw3, tw4, tw5, tw6, tw7, tw8, th1, th2, th3]) (h := by simp [hG, two,  pureOp, List.getD_cons_zero, List.getD_cons_succ, -List.getD_eq_getElem?_getD])
 refine zL (zl 1 ?_ (h := by intro c K h; simp [hG, List.getD_cons_zero, List.getD_cons_succ, -List.getD_eq_getElem?_getD, pureOp, tw1, tw2, tw3, tw4, tw5, tw6, tw7, tw8, th1, th2, th3]; first | exact z1 c h | exact ⟨.mk c, h⟩))
 refine zc cal12 (delay_c two (by decide)) ?_ (a := fun hg => by simp [hG, List.getD_cons_zero, List.getD_cons_succ, -List.getD_eq_getElem?_getD, pureOp, tw1, tw2, tw3, tw4, tw5, tw6, tw7, tw8, th1, th2, th3]) (b := fun hg => by simp [hG, List.getD_cons_zero, List.getD_cons_succ, -List.getD_eq_getElem?_getD, pureOp, tw1, tw2, tw3, tw4, tw5, tw6, tw7, tw8, th1, th2, th3]) (h := by intro K h; simp [hG, List.getD_cons_zero, List.getD_cons_succ, -List.getD_eq_getElem?_getD, pureOp, tw1, tw2, tw3, tw4, tw5, tw6, tw7, tw8, th1, th2, th3]; exact h)
 refine zl 7 ?_ (h := by intro c K h; simp [hG, List.getD_cons_zero, List.getD_cons_succ, -List.getD_eq_getElem?_getD, pureOp, tw1, tw2, tw3, tw4, tw5, tw6, tw7, tw8, th1, th2, th3]; first | exact z1 c h | exact ⟨.mk c, h⟩)
 refine zN (zs (zL (zl 1 ?_ (h := by intro c K h; simp [hG, List.getD_cons_zero, List.getD_cons_succ, -List.getD_eq_getElem?_getD, pureOp, tw1, tw2, tw3, tw4, tw5, tw6, tw7, tw8, th1, th2, th3]; first | exact z1 c h | exact ⟨.mk c, h⟩))))
 refine zc cal16 (worst_c two (by decide) (by rw [tw1]; decide)) ?_ (a := fun hg => by simp [hG, List.getD_cons_zero, List.getD_cons_succ, -List.getD_eq_getElem?_getD, pureOp, tw1, tw2, tw3, tw4, tw5, tw6, tw7, tw8, th1, th2, th3]) (b := fun hg => by simp [hG, List.getD_cons_zero, List.getD_cons_succ, -List.getD_eq_getElem?_getD, pureOp, tw1, tw2, tw3, tw4, tw5, tw6, tw7, tw8, th1, th2, th3]) (h := by intro K h; simp [hG, List.getD_cons_zero, List.getD_cons_succ, -List.getD_eq_getElem?_getD, pureOp, tw1, tw2, tw3, tw4, tw5, tw6, tw7, tw8, th1, th2, th3]; exact h)
 refine zl 7 ?_ (h := by intro c K h; simp [hG, List.getD_cons_zero, List.getD_cons_succ, -List.getD_eq_getElem?_getD, pureOp, tw1, tw2, tw3, tw4, tw5, tw6, tw7, tw8, th1, th2, th3]; first | exact z1 c h | exact ⟨.mk c, h⟩)
 refine zN (zs (zL (zl 1 ?_ (h := by intro c K h; simp [hG, List.getD_cons_zero, List.getD_cons_succ, -List.getD_eq_getElem?_getD, pureOp, tw1, tw2, tw3, tw4, tw5, tw6, tw7, tw8, th1, th2, th3]; first | exact z1 c h | exact ⟨.mk c, h⟩))))
 refine zc cal21 (read_c two (by decide) 2 twoW) ?_ (a := fun hg => by simp [hG, List.getD_cons_zero, List.getD_cons_succ, -List.getD_eq_getElem?_getD, pureOp, tw1, tw2, tw3, tw4, tw5, tw6, tw7, tw8, th1, th2, th3]) (b := fun hg => by simp [hG, List.getD_cons_zero, List.getD_cons_succ, -List.getD_eq_getElem?_getD]; rfl) (h := by intro K h; simp [hG, List.getD_cons_zero, List.getD_cons_succ, -List.getD_eq_getElem?_getD, pureOp, tw1, tw2, tw3, tw4, tw5, tw6, tw7, tw8, th1, th2, th3]; exact h)
 refine zl 7 ?_ (h := by intro c K h; simp [hG, List.getD_cons_zero, List.getD_cons_succ, -List.getD_eq_getElem?_getD, pureOp, tw1, tw2, tw3, tw4, tw5, tw6, tw7, tw8, th1, th2, th3]; first | exact z1 c h | exact ⟨.mk c, h⟩)
 refine zN (zs (zL (zl 2 ?_ (h := by intro c K h; simp [hG, List.getD_cons_zero, List.getD_cons_succ, -List.getD_eq_getElem?_getD, pureOp, tw1, tw2, tw3, tw4, tw5, tw6, tw7, tw8, th1, th2, th3]; first | exact z1 c h | exact ⟨.mk c, h⟩))))
 refine awpL_wk (st2 := ⟨[(2, .int .i64 2), (3, .bool true), (4, .int .i64 0), (5, .str [48, 48]), (6, .bool true), (7, .int .i64 0), (8, ints [0, 1]), (9, .int .i64 4), (10, .int .i64 0), (36, .agg 2 (cdF thr))], [], 0⟩) ?_ ?_
 · exact zw (id) (fun k => true) (fun _ => false) (e := by simp [hG, thr,  pureOp, List.getD_cons_zero, List.getD_cons_succ, -List.getD_eq_getElem?_getD]) (h := by simp [hG, List.getD_cons_zero, List.getD_cons_succ, -List.getD_eq_getElem?_getD, pureOp, tw1, tw2, tw3, tw4, tw5, tw6, tw7, tw8, th1, th2, th3])
 refine zc cal12 (delay_c thr (by decide)) ?_ (a := fun hg => by simp [hG, List.getD_cons_zero, List.getD_cons_succ, -List.getD_eq_getElem?_getD, pureOp, tw1, tw2, tw3, tw4, tw5, tw6, tw7, tw8, th1, th2, th3]) (b := fun hg => by simp [hG, List.getD_cons_zero, List.getD_cons_succ, -List.getD_eq_getElem?_getD, pureOp, tw1, tw2, tw3, tw4, tw5, tw6, tw7, tw8, th1, th2, th3]) (h := by intro K h; simp [hG, List.getD_cons_zero, List.getD_cons_succ, -List.getD_eq_getElem?_getD, pureOp, tw1, tw2, tw3, tw4, tw5, tw6, tw7, tw8, th1, th2, th3]; exact h)
 refine zl 7 ?_ (h := by intro c K h; simp [hG, List.getD_cons_zero, List.getD_cons_succ, -List.getD_eq_getElem?_getD, pureOp, tw1, tw2, tw3, tw4, tw5, tw6, tw7, tw8, th1, th2, th3]; first | exact z1 c h | exact ⟨.mk c, h⟩)
 refine zN (zs (zL (zl 23 ?_ (h := by intro c K h; simp [hG, List.getD_cons_zero, List.getD_cons_succ, -List.getD_eq_getElem?_getD, pureOp, tw1, tw2, tw3, tw4, tw5, tw6, tw7, tw8, th1, th2, th3]; first | exact z1 c h | exact ⟨.mk c, h⟩))))
 refine awpL_callB (mem [0]) cal23 (by simp [flat]) rfl rfl (fun _ => rfl) (fun hg => equalI_c [0, 1] [0, 1] (by decide)) (fun hg => ?_) (fun hg => ?_) fun K hK => ?_
 · first | (simp [hG, List.getD_cons_zero, List.getD_cons_succ, -List.getD_eq_getElem?_getD, pureOp, tw1, tw2, tw3, tw4, tw5, tw6, tw7, tw8, th1, th2, th3]; done) | (simp [-List.getD_eq_getElem?_getD] at hg; done) | (simp [-List.getD_eq_getElem?_getD] at hg; simp [hG, List.getD_cons_zero, List.getD_cons_succ, -List.getD_eq_getElem?_getD, pureOp, tw1, tw2, tw3, tw4, tw5, tw6, tw7, tw8, th1, th2, th3]; first | omega | exact hg | (simp_all [-List.getD_eq_getElem?_getD]; done) | (simp_all [-List.getD_eq_getElem?_getD]; first | exact ⟨rfl, rfl⟩ | exact rfl))
 · first | (simp [hG, List.getD_cons_zero, List.getD_cons_succ, -List.getD_eq_getElem?_getD, pureOp, tw1, tw2, tw3, tw4, tw5, tw6, tw7, tw8, th1, th2, th3]; done) | (simp [-List.getD_eq_getElem?_getD] at hg; done) | (simp [-List.getD_eq_getElem?_getD] at hg; simp [hG, List.getD_cons_zero, List.getD_cons_succ, -List.getD_eq_getElem?_getD, pureOp, tw1, tw2, tw3, tw4, tw5, tw6, tw7, tw8, th1, th2, th3]; first | omega | exact hg | (simp_all [-List.getD_eq_getElem?_getD]; done) | (simp_all [-List.getD_eq_getElem?_getD]; first | exact ⟨rfl, rfl⟩ | exact rfl))
 simp [hG, List.getD_cons_zero, List.getD_cons_succ, -List.getD_eq_getElem?_getD, pureOp, tw1, tw2, tw3, tw4, tw5, tw6, tw7, tw8, th1, th2, th3]
 refine hK _ ?_
 clear K hK
 refine zl 10 ?_ (h := by intro c K h; simp [hG, List.getD_cons_zero, List.getD_cons_succ, -List.getD_eq_getElem?_getD, pureOp, tw1, tw2, tw3, tw4, tw5, tw6, tw7, tw8, th1, th2, th3]; first | exact z1 c h | exact ⟨.mk c, h⟩)
 refine zN (zt ?_)
 refine RetOK_of ?_
 simp [hG, List.getD_cons_zero, List.getD_cons_succ, -List.getD_eq_getElem?_getD, pureOp, tw1, tw2, tw3, tw4, tw5, tw6, tw7, tw8, th1, th2, th3]
theorem pf_len (c : Cd) (w : Wd) : (pfL c w).length ≤ 1000000 := by
  unfold pfL
  split
  · rename_i h
    have h1 := (cd_ok (ck_code h)).n
    have h2 := preA_len (W := c.ws) (v := w) (n := c.ws.length)
    show (preA c.ws w c.ws.length).length ≤ _
    omega
  · exact Nat.zero_le _
theorem re_len (c : Cd) (d : Int) (w : Wd) : (reL c d w).length ≤ 1000000 := by
  unfold reL
  split
  · rename_i h
    have hck : ckN c w = 0 := by
      unfold reN at h
      split at h
      · rename_i h1; exact absurd h h1
      · rename_i h1; exact Classical.not_not.1 h1
    have h1 := ck_len hck
    have h2 := rdS_len (W := c.ws) (d := d.toNat) (w := w) w.length
    unfold rdR
    omega
  · exact Nat.zero_le _
set_option maxRecDepth 100000 in
set_option maxHeartbeats 1000000 in
theorem readsLaw_c (c : Cd) (hl : c.ws.length ≤ maxLen) (d : Int) (w : List UInt8) : PC Try.prog 4 [.agg 2 (cdF c), .int .i64 d, .str w] (.bool true) := by
 refine zp Try.func4 fun G hG hR => ?_
 refine zs (zrP ?_)
 refine zs (zs (zL (zlP 1 ?_)))
 refine zcP cal10 (great_c c hl) ?_
 refine zlP 2 ?_
 refine zcP cal18 (long_c w 24) ?_
 refine zlP 9 ?_
 refine zN (zy (fun hb40 => ?_) fun hb40 => ?_)
 · refine zs (zL ?_)
   refine zcP cal11 awake_c ?_
   refine zlP 1 ?_
   refine zN (zt ?_)
   exact zRP
 refine zk (zs (zL (zlP 2 ?_)))
 refine zcP cal19 (prefixes_c c hl w) ?_
 refine zlP 5 ?_
 refine zN (zs (zL (zlP 2 ?_)))
 refine zcP cal20 (prefixesR_c c hl w) ?_
 refine zlP 5 ?_
 refine zN (zs (zL (zlP 3 ?_)))
 refine zcP cal21 (read_c c hl d w) ?_
 refine zlP 7 ?_
 refine zN (zs (zL (zlP 3 ?_)))
 refine zcP cal22 (readR_c c hl d w) ?_
 refine zlP 7 ?_
 refine zN (zs (zs (zL (zlP 2 ?_))))
 refine zcP cal23 (equalI_c (pfL c w) (pfL c w) (pf_len c w)) ?_
 refine zlP 9 ?_
 refine zcP cal23 (equalI_c (reL c d w) (reL c d w) (re_len c d w)) ?_
 refine zlP 12 ?_
 refine zN ?_
 refine awpS_cond rfl (fun hb94 => ?_) (fun hb94 => ?_)
 · simp at hb94
 try simp [-List.getD_eq_getElem?_getD] at hb94
 refine zk (zs (zs (zrP ?_)))
 refine zy (fun hb110 => ?_) fun hb110 => ?_
 · refine zs (zL ?_)
   refine zcP cal11 awake_c ?_
   refine zlP 1 ?_
   refine zN (zt ?_)
   exact zRP
 refine zk (zs (zL (zlP 2 ?_)))
 refine zcP cal24 (witness_c c hl d) ?_
 refine zlP 11 ?_
 refine zN (zs (zL (zlP 2 ?_)))
 refine zcP cal25 (refWitness_c c hl d) ?_
 refine zlP 11 ?_
 refine zN (zs (zL (zlP 24 ?_)))
 refine zcP cal11 awake_c ?_
 refine zlP 2 ?_
 refine zN (zt ?_)
 exact zRP
end Go.Proofs.Ytoafgeobhhlplaa
namespace Go.Proofs.Ytoafgeobhhlplaa
set_option linter.unusedSimpArgs false
set_option linter.unusedVariables false
open Go Go.Lift Go.RowKit Go.ChangeShapes Go.WideShapes Go.ChangeAt
theorem Try.own : ownKnob Try.prog.godebug = none := by kernel_rfl
theorem Try.laidOut : laidOutB Try.prog = true := by kernel_rfl
theorem wf_u8 {n : Int} (h : (Lit.int .u8 n).wf = true) : 0 ≤ n ∧ n < 256 := by
  simp only [Lit.wf, Bool.and_eq_true, decide_eq_true_eq] at h
  have h1 : IntKind.u8.min = 0 := rfl
  have h2 : IntKind.u8.max = 255 := rfl
  omega
theorem rqI : Reads Try.prog 3 1 (fun (n : Int) _ => .int .i64 n) (fun n => (Lit.int .i64 n).wf = true) := reads_int Try.underlying3 (by kernel_rfl)
theorem rqB : Reads Try.prog 5 1 (fun (n : Int) _ => .int .u8 n) (fun n => (Lit.int .u8 n).wf = true) := reads_int Try.underlying5 (by kernel_rfl)
theorem rqW : Reads Try.prog 9 1 (fun (s : List UInt8) _ => .str s) (fun s => s.length ≤ maxLen) := reads_string Try.underlying9 (by kernel_rfl)
theorem rqWs : Reads Try.prog 22 1 (fun (l : List (List UInt8)) _ => strs l) (fun l => l.length ≤ maxLen) :=
  (reads_slice [] Try.underlying22 (by kernel_rfl) (by decide) rqW).as id (fun _ _ _ => rfl) (fun _ h => h.1)
theorem rqC : Reads Try.prog 24 2 cdF (fun c => c.ws.length ≤ maxLen) :=
  (reads_struct (f := _) (I := _) Try.underlying24 (by kernel_rfl) (readsF_cons rfl rqI (readsF_cons rfl rqWs readsF_nil))).as (fun p => (⟨p.1, p.2.1⟩ : Cd)) (fun a j hj => by
    match j, hj with
    | 0, _ => rfl
    | 1, _ => rfl) (fun _ h => h.2.1)
theorem reads_byte {P : Program} {t : TypeId} (ht : P.underlying t = some (.int .u8)) (hc : P.cellsOf t = 1) : Reads P t 1 (fun (x : UInt8) _ => .int .u8 x.toNat) (fun _ => True) :=
  ⟨hc, fun H enc w sp held n cs x h => by
    obtain ⟨m, rfl, _, hw⟩ := DataW.trod_int ht h
    have hm := wf_u8 hw
    refine ⟨UInt8.ofNat m.toNat, trivial, rfl, fun j hj => ⟨rfl, .int .u8 m, by rw [show j = 0 by omega]; rfl, ?_⟩⟩
    show Value.int .u8 m = Value.int .u8 ((UInt8.ofNat m.toNat).toNat : Int)
    rw [UInt8.toNat_ofNat', Nat.mod_eq_of_lt (by omega), Int.toNat_of_nonneg hm.1]⟩
theorem rqY : Reads Try.prog 48 1 (fun (l : List UInt8) _ => Lift.bytes l) (fun l => l.length ≤ maxLen) :=
  (reads_slice (0 : UInt8) Try.underlying48 (by kernel_rfl) (by decide) (reads_byte Try.underlying5 (by kernel_rfl))).as id (fun _ _ _ => rfl) (fun _ h => h.1)
end Go.Proofs.Ytoafgeobhhlplaa
namespace Go.Proofs.Ytoafgeobhhlplaa
set_option linter.unusedSimpArgs false
set_option linter.unusedVariables false
open Go Go.Lift
def listL (c : Cd) (l : List UInt8) : List Int := (l.take 12).map fun x => ((x.toNat % c.ws.length : Nat) : Int)
section
variable {c : Cd} {l : List UInt8}
theorem listL_len : (listL c l).length = min 12 l.length := by simp [listL]
theorem listL_at {k : Nat} (hk : k < (l.take 12).length) : (listL c l).getD k 0 = ((((l.take 12).getD k 0).toNat % c.ws.length : Nat) : Int) := by
  unfold listL
  simp only [List.getD_eq_getElem?_getD, List.getElem?_map, List.getElem?_eq_getElem hk]
  rfl
theorem listL_ok (h0 : 0 < c.ws.length) : ∀ k ∈ listL c l, 0 ≤ k ∧ k < (c.ws.length : Int) := by
  intro k hk
  obtain ⟨x, _, rfl⟩ := List.mem_map.1 hk
  have := Nat.mod_lt x.toNat h0
  omega
end
section
variable {W : List Wd} {l : List Int}
theorem msg_take {k : Nat} (hk : k < l.length) : msg W (l.take (k + 1)) = msg W (l.take k) ++ W.getD (l.getD k 0).toNat [] := by
  rw [← tkS_getD (d := (0 : Int)) hk]
  unfold msg
  rw [List.flatMap_append]
  simp
theorem msg_pre {k : Nat} : (msg W (l.take k)).length ≤ (msg W l).length := by
  conv => rhs; rw [← List.take_append_drop k l]
  unfold msg
  rw [List.flatMap_append, List.length_append]
  omega
end
section
variable {c : Cd}
theorem dl_some (ho : cdN c = 0) (h : dlB c = true) : ∃ d : Nat, dlD c = d ∧ DlIs c.ws d := by
  unfold dlB at h
  rw [Bool.and_eq_true] at h
  obtain ⟨d, hd⟩ := Option.isSome_iff_exists.1 h.2
  refine ⟨d, ?_, dl_is ho hd⟩
  unfold dlD
  rw [if_pos ho, hd]; rfl
theorem dl_none (ho : cdN c = 0) (h : dlB c = false) : dlD c = 0 := by
  unfold dlB at h
  rw [decide_eq_true ho, Bool.true_and] at h
  unfold dlD
  rw [if_pos ho]
  cases hr : dlR c.ws with
  | none => rfl
  | some d => rw [hr] at h; cases h
theorem dd_le (ho : cdN c = 0) {d : Nat} (h : dlD c = d) (hb : dlB c = true) : d ≤ 70000 := by
  have hv := cd_ok ho
  unfold dlB at hb
  rw [Bool.and_eq_true] at hb
  obtain ⟨k, hk⟩ := Option.isSome_iff_exists.1 hb.2
  have e : d = k := by unfold dlD at h; rw [if_pos ho, hk] at h; simp only [Option.getD_some] at h; omega
  subst e
  cases hl : lenF c.ws (restL c.ws) with
  | none => rw [dlR_out hl] at hk; cases hk
  | some n =>
    rw [dlR_some hl] at hk
    injection hk with hk
    have hn := lenF_le hl
    have hr := rest_box (l := []) hv.n.2 hv.len
    refine Nat.not_lt.1 fun hlt => ?_
    rw [← hk] at hlt
    obtain ⟨x, hx, y, hy, h3⟩ := (dxA_ge _).1 hlt
    have hi : ∀ i, (itN c.ws (restL c.ws) n).getD i 0 ≤ 32 * n := itN_le hv.len n
    have h4 := hv.len _ (W_mem hx)
    have h5 := hv.len _ (W_mem hy)
    unfold tgD at h3
    split at h3
    · have := hi ((restL c.ws).idxOf ((c.ws.getD x []).drop (c.ws.getD y []).length)); omega
    · split at h3
      · have := hi ((restL c.ws).idxOf ((c.ws.getD y []).drop (c.ws.getD x []).length)); omega
      · omega
theorem ar_ok (ho : cdN c = 0) : arN c = 0 := if_pos ho
theorem rdg (ho : cdN c = 0) {d e : Nat} (hd : DlIs c.ws d) (he : d ≤ e) (he2 : e ≤ 4096) {L : List Int} (hL : ∀ j ∈ L, 0 ≤ j ∧ j < (c.ws.length : Int)) (hck : ckN c (msg c.ws L) = 0) :
    ∃ k, k ≤ L.length ∧ reL c e (msg c.ws L) = L.take k ∧ reM c e (msg c.ws L) = (((msg c.ws (L.take k)).length : Nat) : Int) ∧ reN c e (msg c.ws L) = 0 ∧ (k = L.length ∨ (msg c.ws L).length - (msg c.ws (L.take k)).length < (c.ws.getD (L.getD k 0).toNat []).length + e) := by
  have hv := cd_ok ho
  obtain ⟨k, hk, h1, h2⟩ := rd_law hv.ne hd he hL (by have := hv.n; omega)
  have hn : reN c e (msg c.ws L) = 0 := by unfold reN; rw [if_neg (fun k => k hck), if_neg (by omega)]
  refine ⟨k, hk, ?_, ?_, hn, h2⟩
  · unfold reL; rw [if_pos hn, Int.toNat_natCast, h1]
  · unfold reM; rw [if_pos hn, Int.toNat_natCast, h1]
end
section
variable {W : List Wd}
end
end Go.Proofs.Ytoafgeobhhlplaa
