/- Law DelayStarts of chapter 35: a beginning of a message starts with its first word; what starts with a word does so with a letter less. No condition. -/
import Derived.Test.YtoafgeobhhlplaaRows
import Derived.Test.YtoafgeobhhlplaaZF11
import Derived.Test.YtoafgeobhhlplaaZF12
import Derived.Test.YtoafgeobhhlplaaZF21
import Derived.Test.YtoafgeobhhlplaaZF22
import Derived.Test.YtoafgeobhhlplaaZF49
namespace Go.Proofs.Ytoafgeobhhlplaa
set_option linter.unusedSimpArgs false
set_option linter.unusedVariables false
open Go Go.Lift Go.Proofs
@[simp] theorem vecF_ints {l : List Int} {i j : Nat} : vecF (fun (x : Int) (_ : Nat) => AVal.int .i64 x) 0 l i j = .int .i64 (l.getD i 0) := rfl
end Go.Proofs.Ytoafgeobhhlplaa
namespace Go.Proofs.Ytoafgeobhhlplaa
set_option linter.unusedSimpArgs false
set_option linter.unusedVariables false
open Go Go.Lift Go.Proofs
theorem start_has {c : Cd} (ho : cdN c = 0) (hb : ∀ w ∈ c.ws, w.length ≤ 6) {l : List UInt8} (h0 : 0 < (listL c l).length) {n : Nat} : ckN c ((msg c.ws (listL c l)).take n) = 0 ∧ hasI (pfL c ((msg c.ws (listL c l)).take n)) ((listL c l).getD 0 0) = true := by
  have hv := cd_ok ho
  have hck := fin_chk hv hb (l := l) (n := n)
  have hlk := listL_ok (c := c) (l := l) (by have := hv.n; omega)
  refine ⟨ck_ok ho hck, ?_⟩
  rw [pf_ok ho hck]
  refine decide_eq_true ?_
  generalize listL c l = L at *
  cases L with
  | nil => cases h0
  | cons k L =>
    have h1 := hlk k List.mem_cons_self
    show k ∈ _
    exact pre_mem.2 ⟨k.toNat, by omega, by omega, st_msg hlk⟩
end Go.Proofs.Ytoafgeobhhlplaa
namespace Go.Proofs.Ytoafgeobhhlplaa
set_option linter.unusedSimpArgs false
set_option linter.unusedVariables false
open Go Go.Lift Go.Proofs
set_option maxRecDepth 100000 in
set_option maxHeartbeats 1000000 in
theorem startsLaw_c (c : Cd) (hl : c.ws.length ≤ maxLen) (l : List UInt8) (hll : l.length ≤ maxLen) (b : Int) (hb8 : 0 ≤ b ∧ b < 256) (v : List UInt8) : PC Try.prog 8 [.agg 2 (cdF c), Lift.bytes l, .int .u8 b, .str v] (.bool true) := by
 have hML : maxLen = 9223372036854775807 := by decide
 refine zp Try.func8 fun G hG hR => ?_
 refine zs (zrP ?_)
 refine zs (zs (zL (zlP 1 ?_)))
 refine zcP cal26 (fine_c c hl) ?_
 refine zlP 10 ?_
 refine zcP cal31 (wcheckR_c c.q v) ?_
 refine zlP 2 ?_
 refine zN (zy (fun hb36 => ?_) fun hb36 => ?_)
 · refine zs (zL ?_)
   refine zcP cal11 awake_c ?_
   refine zlP 1 ?_
   refine zN (zt ?_)
   exact zRP
 have hfn : fineC c = true := (by simp_all)
 obtain ⟨ho, hv, h6, hw6⟩ := fine_ok hfn
 have hWn := hv.n
 have hvl : v.length ≤ 24 := (by first | omega | simp_all)
 have hvk : wordCheck c.q v = 0 := (by simp_all)
 have hlk := listL_ok (c := c) (l := l) (by omega)
 have hlen := listL_len (c := c) (l := l)
 have hmg := fin_msg hv hw6 (l := l)
 have hck0 : ckN c [] = 0 := ck_ok ho (by have := fin_chk hv hw6 (l := []) (n := 0); simpa using this)
 have hp0 := pf_ok ho (w := []) (by have := fin_chk hv hw6 (l := []) (n := 0); simpa using this)
 have hl0 := pre_nil (W := c.ws)
 have hckv := ck_ok ho hvk
 have hpv := pf_ok ho hvk
 refine zk (zs (zL (zlP 2 ?_)))
 refine zcP cal29 (listC_c c (by omega) (by omega) l hll) ?_
 refine zlP 1 ?_
 refine zN (zs (zL (zlP 2 ?_)))
 refine zcP cal30 (encode_c c hl ho (listL c l) (by have := listL_len (c := c) (l := l); omega) (listL_ok (by omega)) (by have := fin_msg hv hw6 (l := l); omega)) ?_
 refine zlP 5 ?_
 refine zN (zs (zL (zlP 1 ?_)))
 refine zcP cal19 (prefixes_c c hl []) ?_
 refine zlP 5 ?_
 refine zN (zs (zs (zrP ?_)))
 refine awpS_cond rfl (fun hb65 => ?_) (fun hb65 => ?_)
 · rw [hck0, hp0, hl0] at hb65; simp at hb65
 try simp [-List.getD_eq_getElem?_getD] at hb65
 refine zk (zs (zs (zrP ?_)))
 refine zy (fun hb68 => ?_) fun hb68 => ?_
 · have hsh := fun n => start_has ho hw6 (l := l) (n := n) (by omega)
   have hbm : b % (((msg c.ws (listL c l)).length : Int) + 1) ≤ (msg c.ws (listL c l)).length := (by have := Int.emod_lt_of_pos b (show 0 < (((msg c.ws (listL c l)).length : Int) + 1) by omega); omega)
   obtain ⟨nn, hnn⟩ : ∃ nn : Nat, (nn : Int) = b % (((msg c.ws (listL c l)).length : Int) + 1) := ⟨(b % (((msg c.ws (listL c l)).length : Int) + 1)).toNat, by have := Int.emod_nonneg b (show (((msg c.ws (listL c l)).length : Int) + 1) ≠ 0 by omega); omega⟩
   refine zs ?_
   refine awpS_draw hR mixed [] ⟨[], [], []⟩ fun mu0 => ?_
   refine zaP [0, 1, 2, 3, 4, 5, 6, 7, 8] [] 6 [8, 7, 6, 5, 4, 3, 2, 1, 0] ?_
   refine awpA_only (fuel := 5) (i := 9) (by decide +kernel) ?_
   refine zeP cal19 (prefixes_c c hl ((msg c.ws (listL c l)).take nn)) ?_
   refine zaP [10, 11, 12, 13, 14] [] 0 [14, 13, 12, 11, 10, 9, 8, 7, 6, 5, 4, 3, 2, 1, 0] ?_
   refine awpA_done (by decide +kernel) ?_
   refine zs (zL (zlP 7 ?_))
   refine zcP cal28 (containsI_c (pfL c ((msg c.ws (listL c l)).take nn)) ((listL c l).getD 0 0) (pf_len c _)) ?_
   refine zlP 2 ?_
   refine zN ?_
   refine awpS_cond rfl (fun hb91 => ?_) (fun hb91 => ?_)
   · simp [(hsh nn).1, (hsh nn).2, -List.getD_eq_getElem?_getD] at hb91
   try simp [-List.getD_eq_getElem?_getD] at hb91
   refine zk (zs (zs (zrP ?_)))
   refine zy (fun hb93 => ?_) fun hb93 => ?_
   · refine zs (zL ?_)
     refine zcP cal11 awake_c ?_
     refine zlP 1 ?_
     refine zN (zt ?_)
     exact zRP
   have hvp : 0 < v.length := List.length_pos_iff.2 (by simpa using hb93)
   have hck1 := ck_ok ho (chk_take hvk (n := v.length - 1))
   have hp1 := pf_ok ho (chk_take hvk (n := v.length - 1))
   refine zk (zs (zL (zlP 2 ?_)))
   refine zcP cal19 (prefixes_c c hl v) ?_
   refine zlP 5 ?_
   refine zN (zs ?_)
   refine awpS_draw hR mixed [] ⟨[], [], []⟩ fun mu0 => ?_
   refine zaP [0, 1, 2, 3, 4, 5] [] 6 [5, 4, 3, 2, 1, 0] ?_
   refine awpA_only (fuel := 5) (i := 6) (by decide +kernel) ?_
   refine zeP cal19 (prefixes_c c hl (v.take (v.length - 1))) ?_
   refine zaP [7, 8, 9, 10, 11] [] 0 [11, 10, 9, 8, 7, 6, 5, 4, 3, 2, 1, 0] ?_
   refine awpA_done (by decide +kernel) ?_
   refine zs (zs (zrP ?_))
   refine zb ?_
   refine awpS_loop (α := Nat) (fun i => ⟨[(3, .str v), (4, .vptr 2 (cdF c) 0), (16, ints (pfL c v)), (17, .int .i64 (ckN c v)), (18, ints (pfL c (v.take (v.length - 1)))), (19, .int .i64 (ckN c (v.take (v.length - 1)))), (111, ints (pfL c v)), (112, .int .i64 (pfL c v).length), (113, .int .i64 (i : Nat))], [], 0⟩) (fun i => i ≤ (pfL c v).length) (fun i => (pfL c v).length - i) (0) (Nat.zero_le _) ?_ ?_
   · exact zwP (id) (fun k => k == 0) (fun _ => false)
   rintro i hi
   refine zs (zrP ?_)
   refine zs (zy (fun hb114 => ?_) fun hb114 => ?_)
   · have hpl := pf_len c v
     have hxm : ((pfL c v).getD i 0) ∈ preL c.ws v := (by rw [← hpv]; exact getD_mem hb114)
     obtain ⟨hx0, hx1, hxp⟩ := pre_word hxm
     have hhas : hasI (pfL c (v.take (v.length - 1))) ((pfL c v).getD i 0) = true := (by rw [hp1]; exact decide_eq_true (pre_less hxm))
     refine zk (zs (zb (zs (zrP ?_))))
     refine zs (zL (zlP 2 ?_))
     refine zcP cal28 (containsI_c (pfL c (v.take (v.length - 1))) ((pfL c v).getD i 0) (pf_len c _)) ?_
     refine zlP 19 ?_
     refine zcP cal27 (preW_c v (c.ws.getD ((pfL c v).getD i 0).toNat [])) ?_
     refine zlP 8 ?_
     refine zcP cal27 (preW_c (c.ws.getD ((pfL c v).getD i 0).toNat []) v) ?_
     refine zlP 3 ?_
     refine zN ?_
     refine awpS_cond rfl (fun hb151 => ?_) (fun hb151 => ?_)
     · rw [hhas] at hb151; simp [-List.getD_eq_getElem?_getD] at hb151; exfalso; rcases hb151 with hb151 | hb151; (omega); exact hxp.elim hb151.1 hb151.2
     try simp [-List.getD_eq_getElem?_getD] at hb151
     refine zk (zn (zbn (zrP ?_)))
     refine zn ?_
     refine round_end (i + 1) (by omega) (by omega) ?_
     exact ziP
   refine zx (ztx (zbx (zs (zL (zlP 8 ?_)))))
   refine zcP cal32 (isSortedA_c (pfL c v) (pf_len c _) (by rw [hpv]; exact pre_asc)) ?_
   refine zlP 2 ?_
   refine zcP cal11 awake_c ?_
   refine zlP 2 ?_
   refine zN (zt ?_)
   refine RetOK_of ?_
   simp [hG, List.getD_cons_zero, List.getD_cons_succ, -List.getD_eq_getElem?_getD, pureOp]
   exact ⟨hckv, hck1⟩
 refine zk (zs (zs (zrP ?_)))
 refine zy (fun hb93 => ?_) fun hb93 => ?_
 · refine zs (zL ?_)
   refine zcP cal11 awake_c ?_
   refine zlP 1 ?_
   refine zN (zt ?_)
   exact zRP
 have hvp : 0 < v.length := List.length_pos_iff.2 (by simpa using hb93)
 have hck1 := ck_ok ho (chk_take hvk (n := v.length - 1))
 have hp1 := pf_ok ho (chk_take hvk (n := v.length - 1))
 refine zk (zs (zL (zlP 2 ?_)))
 refine zcP cal19 (prefixes_c c hl v) ?_
 refine zlP 5 ?_
 refine zN (zs ?_)
 refine awpS_draw hR mixed [] ⟨[], [], []⟩ fun mu0 => ?_
 refine zaP [0, 1, 2, 3, 4, 5] [] 6 [5, 4, 3, 2, 1, 0] ?_
 refine awpA_only (fuel := 5) (i := 6) (by decide +kernel) ?_
 refine zeP cal19 (prefixes_c c hl (v.take (v.length - 1))) ?_
 refine zaP [7, 8, 9, 10, 11] [] 0 [11, 10, 9, 8, 7, 6, 5, 4, 3, 2, 1, 0] ?_
 refine awpA_done (by decide +kernel) ?_
 refine zs (zs (zrP ?_))
 refine zb ?_
 refine awpS_loop (α := Nat) (fun i => ⟨[(3, .str v), (4, .vptr 2 (cdF c) 0), (16, ints (pfL c v)), (17, .int .i64 (ckN c v)), (18, ints (pfL c (v.take (v.length - 1)))), (19, .int .i64 (ckN c (v.take (v.length - 1)))), (111, ints (pfL c v)), (112, .int .i64 (pfL c v).length), (113, .int .i64 (i : Nat))], [], 0⟩) (fun i => i ≤ (pfL c v).length) (fun i => (pfL c v).length - i) (0) (Nat.zero_le _) ?_ ?_
 · exact zwP (id) (fun k => k == 0) (fun _ => false)
 rintro i hi
 refine zs (zrP ?_)
 refine zs (zy (fun hb114 => ?_) fun hb114 => ?_)
 · have hpl := pf_len c v
   have hxm : ((pfL c v).getD i 0) ∈ preL c.ws v := (by rw [← hpv]; exact getD_mem hb114)
   obtain ⟨hx0, hx1, hxp⟩ := pre_word hxm
   have hhas : hasI (pfL c (v.take (v.length - 1))) ((pfL c v).getD i 0) = true := (by rw [hp1]; exact decide_eq_true (pre_less hxm))
   refine zk (zs (zb (zs (zrP ?_))))
   refine zs (zL (zlP 2 ?_))
   refine zcP cal28 (containsI_c (pfL c (v.take (v.length - 1))) ((pfL c v).getD i 0) (pf_len c _)) ?_
   refine zlP 19 ?_
   refine zcP cal27 (preW_c v (c.ws.getD ((pfL c v).getD i 0).toNat [])) ?_
   refine zlP 8 ?_
   refine zcP cal27 (preW_c (c.ws.getD ((pfL c v).getD i 0).toNat []) v) ?_
   refine zlP 3 ?_
   refine zN ?_
   refine awpS_cond rfl (fun hb151 => ?_) (fun hb151 => ?_)
   · rw [hhas] at hb151; simp [-List.getD_eq_getElem?_getD] at hb151; exfalso; rcases hb151 with hb151 | hb151; (omega); exact hxp.elim hb151.1 hb151.2
   try simp [-List.getD_eq_getElem?_getD] at hb151
   refine zk (zn (zbn (zrP ?_)))
   refine zn ?_
   refine round_end (i + 1) (by omega) (by omega) ?_
   exact ziP
 refine zx (ztx (zbx (zs (zL (zlP 8 ?_)))))
 refine zcP cal32 (isSortedA_c (pfL c v) (pf_len c _) (by rw [hpv]; exact pre_asc)) ?_
 refine zlP 2 ?_
 refine zcP cal11 awake_c ?_
 refine zlP 2 ?_
 refine zN (zt ?_)
 refine RetOK_of ?_
 simp [hG, List.getD_cons_zero, List.getD_cons_succ, -List.getD_eq_getElem?_getD, pureOp]
 exact ⟨hckv, hck1⟩
end Go.Proofs.Ytoafgeobhhlplaa
namespace Go.Proofs.Ytoafgeobhhlplaa
set_option linter.unusedSimpArgs false
set_option linter.unusedVariables false
open Go Go.Lift Go.RowKit Go.ChangeShapes Go.WideShapes Go.ChangeAt
theorem Try.own : ownKnob Try.prog.godebug = none := by kernel_rfl
theorem Try.laidOut : laidOutB Try.prog = true := by kernel_rfl
theorem wf_u8 {n : Int} (h : (Lit.int .u8 n).wf = true) : 0 ≤ n ∧ n < 256 := by
  simp only [Lit.wf, Bool.and_eq_true, decide_eq_true_eq] at h
  have h1 : IntKind.u8.min = 0 := rfl
  have h2 : IntKind.u8.max = 255 := rfl
  omega
theorem rqI : Reads Try.prog 3 1 (fun (n : Int) _ => .int .i64 n) (fun n => (Lit.int .i64 n).wf = true) := reads_int Try.underlying3 (by kernel_rfl)
theorem rqB : Reads Try.prog 5 1 (fun (n : Int) _ => .int .u8 n) (fun n => (Lit.int .u8 n).wf = true) := reads_int Try.underlying5 (by kernel_rfl)
theorem rqW : Reads Try.prog 9 1 (fun (s : List UInt8) _ => .str s) (fun s => s.length ≤ maxLen) := reads_string Try.underlying9 (by kernel_rfl)
theorem rqWs : Reads Try.prog 22 1 (fun (l : List (List UInt8)) _ => strs l) (fun l => l.length ≤ maxLen) :=
  (reads_slice [] Try.underlying22 (by kernel_rfl) (by decide) rqW).as id (fun _ _ _ => rfl) (fun _ h => h.1)
theorem rqC : Reads Try.prog 24 2 cdF (fun c => c.ws.length ≤ maxLen) :=
  (reads_struct (f := _) (I := _) Try.underlying24 (by kernel_rfl) (readsF_cons rfl rqI (readsF_cons rfl rqWs readsF_nil))).as (fun p => (⟨p.1, p.2.1⟩ : Cd)) (fun a j hj => by
    match j, hj with
    | 0, _ => rfl
    | 1, _ => rfl) (fun _ h => h.2.1)
theorem reads_byte {P : Program} {t : TypeId} (ht : P.underlying t = some (.int .u8)) (hc : P.cellsOf t = 1) : Reads P t 1 (fun (x : UInt8) _ => .int .u8 x.toNat) (fun _ => True) :=
  ⟨hc, fun H enc w sp held n cs x h => by
    obtain ⟨m, rfl, _, hw⟩ := DataW.trod_int ht h
    have hm := wf_u8 hw
    refine ⟨UInt8.ofNat m.toNat, trivial, rfl, fun j hj => ⟨rfl, .int .u8 m, by rw [show j = 0 by omega]; rfl, ?_⟩⟩
    show Value.int .u8 m = Value.int .u8 ((UInt8.ofNat m.toNat).toNat : Int)
    rw [UInt8.toNat_ofNat', Nat.mod_eq_of_lt (by omega), Int.toNat_of_nonneg hm.1]⟩
theorem rqY : Reads Try.prog 48 1 (fun (l : List UInt8) _ => Lift.bytes l) (fun l => l.length ≤ maxLen) :=
  (reads_slice (0 : UInt8) Try.underlying48 (by kernel_rfl) (by decide) (reads_byte Try.underlying5 (by kernel_rfl))).as id (fun _ _ _ => rfl) (fun _ h => h.1)
end Go.Proofs.Ytoafgeobhhlplaa
namespace Go.Proofs.Ytoafgeobhhlplaa
set_option linter.unusedSimpArgs false
set_option linter.unusedVariables false
open Go Go.Lift Go.RowKit Go.ChangeShapes Go.WideShapes Go.ChangeAt
set_option maxRecDepth 100000 in
theorem startsLaw_lifted (os : Os) (started : os.Started) (H : Type) (enc : TypeId × Value → H) :
    ReturnsInHanded {} Try.checked os 8 .any (Rows.delayStartsSpec.pre6 enc Try.prog Try.f8 Rows.delayStartsRow.domain false) (Rows.delayStartsSpec.post enc Try.prog Try.f8 false true false false) := by
  refine returnsInHanded_of_change (C := Try.checked) Try.own started (by kernel_rfl) Try.func8
    (ChangeSpec.witness6 (enc := enc) (C := Try.checked) false ⟨#[], #[.agg #[.int .i64 0, .slice none 0 0], .slice none 0 0, .int .u8 0, .string ByteArray.empty], []⟩ 8 (by kernel_rfl) (by kernel_rfl) (by kernel_rfl) (by kernel_rfl)) ?_
  intro W base args ds gs before hval0 hW _ _
  have hval : ∀ (j : Nat) t v, Try.f8.params[j]? = some t → args[j]? = some v → Value.okWide Try.prog W .any base t v := hval0
  have hW' := hW
  obtain ⟨p, q, hA0, hV, rfl, _, _⟩ := hW
  have hA : DataW.TrodAll enc Try.prog W 0 (fun _ => true) true Try.f8.params.toList args.toList ds p := hA0
  rw [Try.params8] at hA hval
  obtain ⟨al, rfl⟩ : ∃ al : List Value, args = al.toArray := ⟨args.toList, by simp⟩
  simp only at hA
  obtain ⟨v0, al0, d0, ds0, p0, q0, rfl, rfl, rfl, h0, hA⟩ := trodAll_cons hA
  obtain ⟨v1, al1, d1, ds1, p1, q1, rfl, rfl, rfl, h1, hA⟩ := trodAll_cons hA
  obtain ⟨v2, al2, d2, ds2, p2, q2, rfl, rfl, rfl, h2, hA⟩ := trodAll_cons hA
  obtain ⟨v3, al3, d3, ds3, p3, q3, rfl, rfl, rfl, h3, hA⟩ := trodAll_cons hA
  obtain ⟨rfl, rfl, rfl⟩ := trodAll_nil hA
  obtain ⟨rfl, rfl⟩ := trodVars_none hV
  obtain ⟨x0, w0, r0⟩ := arg_struct Try.underlying24 rqC (hval 0 24 v0 rfl rfl) h0
  obtain ⟨x1, w1, r1⟩ := arg_slice Try.underlying48 rqY (hval 1 48 v1 rfl rfl) h1
  obtain ⟨x2, w2, r2⟩ := arg_int Try.underlying5 rqB (hval 2 5 v2 rfl rfl) h2
  obtain ⟨x3, w3, r3⟩ := arg_string Try.underlying9 rqW (hval 3 9 v3 rfl rfl) h3
  refine (startsLaw_c x0 w0 x1 w1 x2 (wf_u8 w2) x3 (fun _ => False) W [v0, v1, v2, v3] (fun _ h => h.elim) ⟨r0, r1, r2, r3, trivial⟩).mono fun r W' ⟨v, hr, hk, hv⟩ => ?_
  subst hr
  have hv' : v = .bool true := hv
  subst hv'
  exact ⟨_, rfl, law_post Try.laidOut (by kernel_rfl) rfl rfl rfl Try.underlying4 hW' hk⟩
theorem startsLaw_holds : Rows.DelayStartsSaid :=
  OpenClaim.holds_of_wide 8 Try.f8 rfl rfl rfl rfl rfl rfl rfl ⟨rfl, rfl, rfl, rfl, rfl⟩ rfl rfl rfl rfl rfl (by kernel_rfl) Try.func8 (by kernel_rfl)
    (of_decide_eq_true (by kernel_rfl)) (by unfold Func.isWrapper; first | (rw [if_pos (by decide +kernel)]; kernel_rfl) | (rw [if_neg (by decide +kernel)]; exact ⟨rfl, rfl⟩))
    (fun os started H enc _ => startsLaw_lifted os started H enc)
#print axioms startsLaw_holds
end Go.Proofs.Ytoafgeobhhlplaa
