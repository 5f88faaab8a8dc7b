/- Parts of the proof: YB LIS. -/
import Derived.Test.YthpdkmoedpcboaaGreatPO09
import Derived.Test.YthpdkmoedpcboaaGreatPO15
import Derived.Test.YthpdkmoedpcboaaGreatPO35
import Derived.Test.YthpdkmoedpcboaaGreatPO37
namespace Go.Proofs.YthpdkmoedpcboaaGreat
set_option linter.unusedSimpArgs false
set_option linter.unusedVariables false
open Go Go.Lift Go.Proofs
def SetOK (g : Gr) (L : List Int) : Prop := L.Pairwise (· < ·) ∧ ∀ x ∈ L, 0 ≤ x ∧ x < g.states
theorem SetOK.len {g : Gr} (hv : gcheck g = 0) {L : List Int} (h : SetOK g L) : L.length ≤ 64 := asc_short h.1 h.2 (gcheck_valid hv).1.st.2
theorem SetOK.step {g : Gr} (hv : gcheck g = 0) {k : Int} {L : List Int} : SetOK g (stepL g k L) := ⟨step_asc, step_box hv⟩
theorem SetOK.all {g : Gr} : SetOK g (iotaL g.states.toNat) := ⟨iota_asc, fun x hx => by have := iota_mem hx; omega⟩
theorem setA_take {g : Gr} {L : List Int} {w : List UInt8} {i : Nat} (h : i < w.length) : setA g L (w.take (i + 1)) = stepL g (idxB letters (w.getD i 0)) (setA g L (w.take i)) := by
  unfold setA
  rw [List.take_succ_eq_append_getElem h, List.foldl_append, getD_get h]
  rfl
theorem setA_ok {g : Gr} (hv : gcheck g = 0) : ∀ {w : List UInt8} {L : List Int}, SetOK g L → SetOK g (setA g L w)
  | [], L, h => h
  | c :: w, L, h => setA_ok hv (w := w) (L := stepL g (idxB letters c) L) (SetOK.step hv)
theorem setA_drop {g : Gr} {L : List Int} {w : List UInt8} {i : Nat} (h : setA g L (w.take i) = []) : setA g L w = [] := by
  have : setA g L w = setA g (setA g L (w.take i)) (w.drop i) := by
    conv => lhs; rw [← List.take_append_drop i w]
    unfold setA
    rw [List.foldl_append]
  rw [this, h, setA_nil]
def langN (g : Gr) : Int := if gcheck g ≠ 0 then 1 else if 16 < g.labels then 12 else 0
def accN (g : Gr) (w : List UInt8) : Int := if langN g ≠ 0 then langN g else wordCheck g.labels w
def accB (g : Gr) (w : List UInt8) : Bool := decide (accN g w = 0) && decide (0 < (setA g (iotaL g.states.toNat) w).length)
theorem acc_ok {g : Gr} {w : List UInt8} (h : accN g w = 0) : gcheck g = 0 ∧ g.labels ≤ 16 ∧ wordCheck g.labels w = 0 := by
  unfold accN at h
  by_cases h1 : langN g = 0
  · rw [if_neg (fun k => k h1)] at h
    unfold langN at h1
    split at h1
    · cases h1
    · split at h1
      · cases h1
      · exact ⟨by omega, by omega, h⟩
  · rw [if_pos h1] at h; exact absurd h h1
theorem acc_len {g : Gr} {w : List UInt8} (h : accN g w = 0) : w.length ≤ 1000000 := by
  have h1 := (acc_ok h).2.2
  unfold wordCheck at h1
  split at h1
  · cases h1
  · split at h1
    · cases h1
    · omega
theorem acc_dig {g : Gr} {w : List UInt8} (h : accN g w = 0) {i : Nat} (hi : i < w.length) : 0 ≤ idxB letters (w.getD i 0) ∧ idxB letters (w.getD i 0) < g.labels := (word_dig (acc_ok h).2.2).2 i hi
theorem ends_eq {g : Gr} {L : List Int} {w : List UInt8} {i : Nat} (hi : i ≤ w.length) (h : i < w.length → setA g L (w.take i) = []) : setA g L (w.take i) = setA g L w := by
  rcases Nat.lt_or_ge i w.length with h2 | h2
  · rw [h h2, setA_drop (h h2)]
  · rw [List.take_of_length_le h2]
theorem app_one1 {k j : Nat} : (if j = k then AVal.int .i64 (k : Int) else .int .i64 (if j < k then (j : Int) else 0)) = .int .i64 (if j < k + 1 then (j : Int) else 0) := by
  by_cases h : j = k
  · subst h; rw [if_pos rfl, if_pos (by omega)]
  · rw [if_neg h]
    by_cases h2 : j < k
    · rw [if_pos h2, if_pos (by omega)]
    · rw [if_neg h2, if_neg (by omega)]
set_option maxRecDepth 100000 in
theorem langCheck_c (g : Gr) : PC Tryz.prog 80 [.agg 3 (grF g)] (.int .i64 (langN g)) := by
 refine zp Tryz.func80 fun G hG hR => ?_
 refine zs (zr ?_)
 refine zs (zb (zs (zL (zl 1 ?_))))
 refine zc cal66 (checkC_c g) ?_
 refine zl 2 ?_
 refine zN (zy (fun hb3 => ?_) fun hb3 => ?_)
 · refine zs (zr ?_)
   refine zt (zbt ?_)
   refine RetOK_of ?_
   simp [hG, List.getD_cons_zero, List.getD_cons_succ, -List.getD_eq_getElem?_getD]
   unfold langN; rw [if_pos (by simpa using hb3)]
 refine zs (zr ?_)
 refine zy (fun hb7 => ?_) fun hb7 => ?_
 · refine zs (zr ?_)
   refine zt (zbt ?_)
   refine RetOK_of ?_
   simp [hG, List.getD_cons_zero, List.getD_cons_succ, -List.getD_eq_getElem?_getD]
   unfold langN; rw [if_neg (by simpa using hb3), if_pos (by omega)]
 refine zk (zn (zbn (zs (zr ?_))))
 refine zt ?_
 refine RetOK_of ?_
 simp [hG, List.getD_cons_zero, List.getD_cons_succ, -List.getD_eq_getElem?_getD]
 unfold langN; rw [if_neg (by simpa using hb3), if_neg (by omega)]
set_option maxRecDepth 100000 in
theorem spells_c (g : Gr) (w : List UInt8) : PC Tryz.prog 69 [.agg 3 (grF g), .str w] (.int .i64 (accN g w)) := by
 refine zp Tryz.func69 fun G hG hR => ?_
 refine zs (zr ?_)
 refine zs (zs (zL (zl 1 ?_)))
 refine zc cal80 (langCheck_c g) ?_
 refine zl 1 ?_
 refine zN (zs (zr ?_))
 refine zy (fun hb9 => ?_) fun hb9 => ?_
 · refine zs (zr ?_)
   refine zt ?_
   refine RetOK_of ?_
   simp [hG, List.getD_cons_zero, List.getD_cons_succ, -List.getD_eq_getElem?_getD]
   unfold accN; rw [if_pos (by simpa using hb9)]
 refine zk (zs (zL (zl 3 ?_)))
 refine zc cal111 (wcheck_c g.labels w) ?_
 refine zl 1 ?_
 refine zN (zt ?_)
 refine RetOK_of ?_
 simp [hG, List.getD_cons_zero, List.getD_cons_succ, -List.getD_eq_getElem?_getD]
 unfold accN; rw [if_neg (by simpa using hb9)]
set_option maxRecDepth 100000 in
theorem states_c (g : Gr) (hv : gcheck g = 0) : PC Tryz.prog 48 [.agg 3 (grF g)] (ints (iotaL g.states.toNat)) := by
 have hst := (gcheck_valid hv).1.st
 refine zp Tryz.func48 fun G hG hR => ?_
 refine zs (zr ?_)
 refine zs (zr ?_)
 refine zs (zs (zr ?_))
 refine zb ?_
 refine awpS_loop (α := Nat) (fun k => ⟨[(3, .sl (1, 0) 0 g.states.toNat), (8, .sl (1, 0) 0 g.states.toNat), (9, .int .i64 (g.states.toNat : Nat)), (10, .int .i64 k)], [(1, .one (.arr g.states.toNat 1 (fun j _ => .int .i64 (if j < k then (j : Int) else 0))))], 2⟩) (fun k => k ≤ g.states.toNat) (fun k => g.states.toNat - k) (0) (Nat.zero_le _) ?_ ?_
 · exact zi
 rintro k hk
 refine zs (zr ?_)
 refine zs (zy (fun hb11 => ?_) fun hb11 => ?_)
 · refine zk (zs (zb (zs (zr ?_))))
   refine zr ?_
   refine zn (zbn (zr ?_))
   refine zn ?_
   refine round_end (k + 1) (by omega) (by omega) ?_
   exact zi (h := by simp [hG, List.getD_cons_zero, List.getD_cons_succ, -List.getD_eq_getElem?_getD]; exact fun j hj => app_one1)
 refine zx (ztx (zbx (zs (zr ?_))))
 refine zt ?_
 refine RetOK_of ?_
 simp [hG, List.getD_cons_zero, List.getD_cons_succ, -List.getD_eq_getElem?_getD]
 obtain rfl : k = g.states.toNat := (by omega); exact ⟨iota_len.symm, by rw [iota_len]; exact Nat.le_refl _, fun i hi => by rw [iota_len] at hi; rw [if_pos hi, iota_at hi]⟩
set_option maxRecDepth 100000 in
theorem langStep_c (g : Gr) (L : List Int) (hv : gcheck g = 0) (hL : SetOK g L) (c : UInt8) (hc : 0 ≤ idxB letters c ∧ idxB letters c < g.labels) : PC Tryz.prog 81 [.agg 3 (grF g), ints L, .int .u8 c.toNat] (ints (stepL g (idxB letters c) L)) := by
 refine zp Tryz.func81 fun G hG hR => ?_
 refine zs (zr ?_)
 refine zs ?_
 refine awpS_draw hR mixed [] ⟨[], [], []⟩ fun mu0 => ?_
 refine za [0, 1, 2] [] 7 [2, 1, 0] ?_
 refine awpA_only (fuel := 6) (i := 3) (by decide +kernel) ?_
 refine ze cal122 (idx_c letters c) ?_ (b := fun hg => by simp [hG, List.getD_cons_zero, List.getD_cons_succ, -List.getD_eq_getElem?_getD]; rfl)
 refine awpA_only (fuel := 5) (i := 4) (by decide +kernel) ?_
 refine ze cal121 (step_c g L (idxB letters c) hv hL.1 hL.2 hc (hL.len hv)) ?_
 refine za [5, 6, 7, 8, 9] [] 0 [9, 8, 7, 6, 5, 4, 3, 2, 1, 0] ?_
 refine awpA_done (by decide +kernel) ?_
 refine zs (zr ?_)
 refine zt ?_
 exact zR
set_option maxRecDepth 100000 in
theorem ends_c (g : Gr) (L : List Int) (hv : gcheck g = 0) (hL : SetOK g L) (w : List UInt8) (hlw : w.length ≤ 1000000) (hw : ∀ i, i < w.length → 0 ≤ idxB letters (w.getD i 0) ∧ idxB letters (w.getD i 0) < g.labels) : PC Tryz.prog 70 [.agg 3 (grF g), ints L, .str w] (ints (setA g L w)) := by
 refine zp Tryz.func70 fun G hG hR => ?_
 refine zs (zr ?_)
 refine zs (zs (zr ?_))
 refine zb ?_
 refine awpS_loop (α := Nat) (fun i => ⟨[(1, ints (setA g L (w.take i))), (2, .str w), (3, .ptr (0, 0) 0 0), (7, .int .i64 i)], [(0, .one (.arr 1 3 (fun _ => grF g)))], 1⟩) (fun i => i ≤ w.length) (fun i => w.length - i) (0) (Nat.zero_le _) ?_ ?_
 · exact zi (e := by simp [hG, List.getD_cons_zero, List.getD_cons_succ, -List.getD_eq_getElem?_getD]; exact Clo.le _ Clo_ints)
 rintro i hi
 refine zs (zs (zr ?_))
 refine zy (fun hb16 => ?_) fun hb16 => ?_
 · have hE := setA_take (g := g) (L := L) (show i < w.length by omega)
   refine zk (zs (zb ?_))
   refine awpS_draw hR mixed [] ⟨[], [], []⟩ fun mu0 => ?_
   refine za [0, 1, 2, 3, 4] [] 2 [4, 3, 2, 1, 0] ?_
   refine awpA_only (fuel := 1) (i := 5) (by decide +kernel) ?_
   refine ze cal81 (langStep_c g (setA g L (w.take i)) hv (setA_ok hv hL) (w.getD i 0) (hw i (by omega))) ?_
   refine za [6] [] 0 [6, 5, 4, 3, 2, 1, 0] ?_
   refine awpA_done (by decide +kernel) ?_
   refine zn (zbn (zr ?_))
   refine zn ?_
   refine round_end (i + 1) (by omega) (by omega) ?_
   exact zi (e := by rw [hE]; simp [hG, List.getD_cons_zero, List.getD_cons_succ, -List.getD_eq_getElem?_getD])
 refine zx (ztx (zbx (zs (zr ?_))))
 refine zt ?_
 refine RetOK_of ?_
 simp [hG, List.getD_cons_zero, List.getD_cons_succ, -List.getD_eq_getElem?_getD]
 rw [ends_eq hi hb16]; exact Clo.le _ Clo_ints
set_option maxRecDepth 100000 in
theorem accepts_c (g : Gr) (w : List UInt8) : PC Tryz.prog 30 [.agg 3 (grF g), .str w] (.tup 2 (fun j => [.bool (accB g w), .int .i64 (accN g w)].getD j .any)) := by
 refine zp Tryz.func30 fun G hG hR => ?_
 refine zs (zr ?_)
 refine zs (zs (zL (zl 2 ?_)))
 refine zc cal69 (spells_c g w) ?_
 refine zl 1 ?_
 refine zN (zs (zr ?_))
 refine zy (fun hb11 => ?_) fun hb11 => ?_
 · refine zs (zr ?_)
   refine zt ?_
   refine RetOK_of ?_
   simp [hG, List.getD_cons_zero, List.getD_cons_succ, -List.getD_eq_getElem?_getD]
   have h2 : accB g w = false := (by unfold accB; rw [decide_eq_false (by simpa using hb11)]; rfl); exact h2
 have hN : accN g w = 0 := (by simpa using hb11)
 refine zk (zs ?_)
 refine awpS_draw hR mixed [] ⟨[], [], []⟩ fun mu0 => ?_
 refine za [0, 1, 3] [] 6 [3, 1, 0] ?_
 refine awpA_only (fuel := 5) (i := 2) (by decide +kernel) ?_
 refine ze cal48 (states_c g (acc_ok hN).1) ?_
 refine awpA_only (fuel := 4) (i := 4) (by decide +kernel) ?_
 refine ze cal70 (ends_c g (iotaL g.states.toNat) (acc_ok hN).1 SetOK.all w (acc_len hN) (fun i hi => acc_dig hN hi)) ?_
 refine za [5, 6, 7, 8] [] 0 [8, 7, 6, 5, 4, 2, 3, 1, 0] ?_
 refine awpA_done (by decide +kernel) ?_
 refine zt ?_
 refine RetOK_of ?_
 simp [hG, List.getD_cons_zero, List.getD_cons_succ, -List.getD_eq_getElem?_getD]
 have h2 : accB g w = decide (0 < (setA g (iotaL g.states.toNat) w).length) := (by unfold accB; rw [hN]; rfl); rw [h2, hN]; simp
set_option maxRecDepth 100000 in
theorem lengths_c (g : Gr) (n : Int) (hv : gcheck g = 0) (hlab : g.labels ≤ 16) (hn : 0 ≤ n ∧ n ≤ 4096) : PC Tryz.prog 46 [.agg 3 (grF g), .int .i64 n] (.int .i64 0) := by
 have hln : langN g = 0 := (by unfold langN; rw [if_neg (fun h => h hv), if_neg (by omega)])
 refine zp Tryz.func46 fun G hG hR => ?_
 refine zs (zrP ?_)
 refine zs (zs (zL (zlP 1 ?_)))
 refine zcP cal80 (langCheck_c g) ?_
 refine zlP 1 ?_
 refine zN (zs (zrP ?_))
 refine awpS_cond rfl (fun hb9 => ?_) (fun hb9 => ?_)
 · exfalso; simp [hln] at hb9
 try simp [-List.getD_eq_getElem?_getD] at hb9
 refine zk (zs (zs (zrP ?_)))
 refine awpS_cond rfl (fun hb16 => ?_) (fun hb16 => ?_)
 · exfalso; simp [-List.getD_eq_getElem?_getD] at hb16; omega
 try simp [-List.getD_eq_getElem?_getD] at hb16
 refine zk (zs (zrP ?_))
 refine zt ?_
 exact zRP
end Go.Proofs.YthpdkmoedpcboaaGreat
namespace Go.Lift
set_option linter.unusedSimpArgs false
set_option linter.unusedVariables false
open Go.RowKit
def itsT (T : Tab) (src dst : TypeId) : Bool := match T src, T dst with
  | some ⟨.int _, _, _, _, _⟩, some ⟨.str, _, _, _, _⟩ => true
  | _, _ => false
theorem itsT_spec {P : Program} {T : Tab} (hT : TabOK P T) {src dst : TypeId} (h : itsT T src dst = true) : ∃ k, P.underlying src = some (.int k) ∧ P.underlying dst = some .string := by
  unfold itsT at h
  split at h
  · rename_i hs hd
    exact ⟨_, (hT src _ hs).kind, (hT dst _ hd).kind⟩
  · cases h
theorem enc_low (c : UInt8) (h : c.toNat < 128) : Utf8.encode (c.toNat : Int) = ⟨⟨[c]⟩⟩ := by
  have hv : Utf8.valid (c.toNat : Int) = true := by unfold Utf8.valid; simp; omega
  unfold Utf8.encode
  simp only [hv, if_true, Int.toNat_natCast]
  rw [if_pos h, UInt8.ofNat_toNat]
section
variable {P : Program} {G : Gh} {n0 : Nat}
theorem awpL_its {T : Tab} (hT : TabOK P T) {ops ls : List Oper} {o : Oper} {Q : St → Prop} {st : St} {src dst : TypeId} {x : Operand} (c : UInt8)
    (ho : o.op = .convert src dst x) (hg : o.guard = none) (hty : itsT T src dst = true) (hx : sv st.env x = .int .u8 c.toNat) (hc : c.toNat < 128) (hsc : sc st.env x)
    (h : ∀ K : St → Prop, (∀ s, AwpL P G n0 ops ls Q s → K s) → goPut (putSt G.nt st.env st.heap st.nx o.dst (.str [c])) K) : AwpL P G n0 ops (o :: ls) Q st := by
  refine awpL_some (γ := Unit) (fun _ => True) (fun _ => st.heap) (fun _ => st.nx) (fun _ => .str [c]) hg (by rw [ho]; intro c e; cases e) (fun mu a' w hs => ?_) fun K hK _ _ => h K hK
  have hxr := strip_rel (hs.rho x) hsc
  have hxr' : Rel (cx G st.heap mu st.nx w) (sv st.env x) (a'.eval x) := hxr
  rw [hx] at hxr'
  simp only [Rel] at hxr'
  obtain ⟨k, h1, h2⟩ := itsT_spec hT hty
  exact ⟨(), trivial, .string ⟨⟨[c]⟩⟩, w, mu, by simp [execOp, ho, hxr', convert, run_underlying h1, run_underlying h2, Conv.intToString, enc_low c hc], Cx.Le.refl _, hs.heap, rfl⟩
end
end Go.Lift
