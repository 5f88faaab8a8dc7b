/- Law DelayWitness of chapter 35: what a witness is; with more letters there is one only if there is one with fewer. No condition. -/
import Derived.Test.YtoafgeobhhlplaaRows
import Derived.Test.YtoafgeobhhlplaaZC11
import Derived.Test.YtoafgeobhhlplaaZC12
import Derived.Test.YtoafgeobhhlplaaZC22
import Derived.Test.YtoafgeobhhlplaaZC23
import Derived.Test.YtoafgeobhhlplaaZC45
import Derived.Test.YtoafgeobhhlplaaZC49
namespace Go.Proofs.Ytoafgeobhhlplaa
set_option linter.unusedSimpArgs false
set_option linter.unusedVariables false
open Go Go.Lift Go.Proofs
theorem pf_len (c : Cd) (w : Wd) : (pfL c w).length ≤ 1000000 := by
  unfold pfL
  split
  · rename_i h
    have h1 := (cd_ok (ck_code h)).n
    have h2 := preA_len (W := c.ws) (v := w) (n := c.ws.length)
    show (preA c.ws w c.ws.length).length ≤ _
    omega
  · exact Nat.zero_le _
end Go.Proofs.Ytoafgeobhhlplaa
namespace Go.Proofs.Ytoafgeobhhlplaa
set_option linter.unusedSimpArgs false
set_option linter.unusedVariables false
open Go Go.Lift Go.Proofs
@[simp] theorem vecF_bytes {l : List UInt8} {i j : Nat} : vecF (fun (x : UInt8) (_ : Nat) => AVal.int .u8 x.toNat) 0 l i j = .int .u8 (l.getD i 0).toNat := rfl
theorem fine_ok {c : Cd} (h : fineC c = true) : cdN c = 0 ∧ CdOK c ∧ c.ws.length ≤ 6 ∧ ∀ w ∈ c.ws, w.length ≤ 6 := by
  obtain ⟨h1, h2⟩ := fine_iff.1 h
  have hv := cd_ok h2
  obtain ⟨h3, h4⟩ := big_ok h1 hv
  exact ⟨h2, hv, h3, h4⟩
end Go.Proofs.Ytoafgeobhhlplaa
namespace Go.Proofs.Ytoafgeobhhlplaa
set_option linter.unusedSimpArgs false
set_option linter.unusedVariables false
open Go Go.Lift Go.Proofs
@[simp] theorem vecF_ints {l : List Int} {i j : Nat} : vecF (fun (x : Int) (_ : Nat) => AVal.int .i64 x) 0 l i j = .int .i64 (l.getD i 0) := rfl
set_option maxRecDepth 100000 in
set_option maxHeartbeats 1000000 in
theorem witnessLaw_c (c : Cd) (hl : c.ws.length ≤ maxLen) (b : Int) (hb8 : 0 ≤ b ∧ b < 256) : PC Try.prog 5 [.agg 2 (cdF c), .int .u8 b] (.bool true) := by
 have hML : maxLen = 9223372036854775807 := by decide
 obtain ⟨e, he⟩ : ∃ e : Nat, b % 41 = (e : Int) := ⟨(b % 41).toNat, by omega⟩
 have he40 : e ≤ 40 := (by omega)
 refine zp Try.func5 fun G hG hR => ?_
 refine zs (zrP ?_)
 refine zs (zs (zL (zlP 1 ?_)))
 refine zcP cal26 (fine_c c hl) ?_
 refine zlP 6 ?_
 refine zN (zy (fun hb25 => ?_) fun hb25 => ?_)
 · refine zs (zL ?_)
   refine zcP cal11 awake_c ?_
   refine zlP 1 ?_
   refine zN (zt ?_)
   exact zRP
 obtain ⟨ho, hv, h6, hw6⟩ := fine_ok hb25.1
 have hWn := hv.n
 have hbd0 := bd_ok ho (n := (e : Int)) (by omega)
 have hbd1 := bd_ok ho (n := (e : Int) + 1) (by omega)
 refine zk (zs (zrP ?_))
 refine zs (zL (zlP 2 ?_))
 refine zcP cal24 (witness_c c hl (e : Nat)) ?_ (b := fun hg => by simp [hG, pureOp, List.getD_cons_zero, List.getD_cons_succ, -List.getD_eq_getElem?_getD]; exact he)
 refine zlP 11 ?_
 refine zN (zs (zL (zlP 3 ?_)))
 refine zcP cal24 (witness_c c hl ((e : Nat) + 1)) ?_ (b := fun hg => by simp [hG, pureOp, List.getD_cons_zero, List.getD_cons_succ, -List.getD_eq_getElem?_getD]; omega)
 refine zlP 11 ?_
 refine zN (zs (zs (zrP ?_)))
 refine awpS_cond rfl (fun hb61 => ?_) (fun hb61 => ?_)
 · simp [hbd0, hbd1] at hb61; exact absurd (ws_fewer ho (d := e) (by omega) hb61.1) (by rw [hb61.2]; decide)
 try simp [-List.getD_eq_getElem?_getD] at hb61
 refine zk (zs (zs (zrP ?_)))
 refine zy (fun hb63 => ?_) fun hb63 => ?_
 · have hno := ws_no ho (d := e) (by omega) (by simpa using hb63)
   refine zs (zL (zlP 11 ?_))
   refine zcP cal11 awake_c ?_
   refine zlP 2 ?_
   refine zN (zt ?_)
   refine RetOK_of ?_
   simp [hG, List.getD_cons_zero, List.getD_cons_succ, -List.getD_eq_getElem?_getD, pureOp]
   obtain ⟨h1, h2, h3⟩ := hno; exact ⟨⟨h1, h2⟩, h3⟩
 obtain ⟨bx, y, hbx, hby, hne, hX, hY, u, hW, hu, hs1, hs2, hlt⟩ := ws_is ho (d := e) (by omega) (by simpa using hb63)
 rw [hX, hY]
 have hxl := hw6 _ (W_mem hbx)
 have hwl : (wsW c (e : Nat)).length = (c.ws.getD bx []).length + e := (by rw [hW, List.length_append, hu])
 have hck : ckN c (wsW c (e : Nat)) = 0 := ck_ok ho (lt_chk (by have := hv.q; omega) (by omega) hlt)
 refine zk (zs (zs (zrP ?_)))
 refine awpS_cond rfl (fun hb101 => ?_) (fun hb101 => ?_)
 · simp [-List.getD_eq_getElem?_getD] at hb101; omega
 try simp [-List.getD_eq_getElem?_getD] at hb101
 refine zk (zs (zL (zlP 2 ?_)))
 refine zcP cal19 (prefixes_c c hl (wsW c (e : Nat))) ?_
 refine zlP 5 ?_
 refine zN (zs (zL (zlP 22 ?_)))
 refine zcP cal27 (preW_c (wsW c (e : Nat)) (c.ws.getD bx [])) ?_
 refine zlP 4 ?_
 refine zcP cal28 (containsI_c (pfL c (wsW c (e : Nat))) (bx : Nat) (pf_len c _)) ?_
 refine zlP 4 ?_
 refine zcP cal28 (containsI_c (pfL c (wsW c (e : Nat))) (y : Nat) (pf_len c _)) ?_
 refine zlP 2 ?_
 refine zcP cal11 awake_c ?_
 refine zlP 2 ?_
 refine zN (zt ?_)
 refine RetOK_of ?_
 simp [hG, List.getD_cons_zero, List.getD_cons_succ, -List.getD_eq_getElem?_getD, pureOp]
 have hpf : pfL c (wsW c (e : Nat)) = preL c.ws (wsW c (e : Nat)) := if_pos hck; rw [hpf]; exact ⟨⟨⟨⟨hck, by omega⟩, by rw [hW]; exact List.prefix_append _ _⟩, decide_eq_true (pre_mem.2 ⟨bx, hbx, rfl, hs1⟩)⟩, decide_eq_true (pre_mem.2 ⟨y, hby, rfl, hs2⟩)⟩
end Go.Proofs.Ytoafgeobhhlplaa
namespace Go.Proofs.Ytoafgeobhhlplaa
set_option linter.unusedSimpArgs false
set_option linter.unusedVariables false
open Go Go.Lift Go.RowKit Go.ChangeShapes Go.WideShapes Go.ChangeAt
theorem Try.own : ownKnob Try.prog.godebug = none := by kernel_rfl
theorem Try.laidOut : laidOutB Try.prog = true := by kernel_rfl
theorem wf_u8 {n : Int} (h : (Lit.int .u8 n).wf = true) : 0 ≤ n ∧ n < 256 := by
  simp only [Lit.wf, Bool.and_eq_true, decide_eq_true_eq] at h
  have h1 : IntKind.u8.min = 0 := rfl
  have h2 : IntKind.u8.max = 255 := rfl
  omega
theorem rqI : Reads Try.prog 3 1 (fun (n : Int) _ => .int .i64 n) (fun n => (Lit.int .i64 n).wf = true) := reads_int Try.underlying3 (by kernel_rfl)
theorem rqB : Reads Try.prog 5 1 (fun (n : Int) _ => .int .u8 n) (fun n => (Lit.int .u8 n).wf = true) := reads_int Try.underlying5 (by kernel_rfl)
theorem rqW : Reads Try.prog 9 1 (fun (s : List UInt8) _ => .str s) (fun s => s.length ≤ maxLen) := reads_string Try.underlying9 (by kernel_rfl)
theorem rqWs : Reads Try.prog 22 1 (fun (l : List (List UInt8)) _ => strs l) (fun l => l.length ≤ maxLen) :=
  (reads_slice [] Try.underlying22 (by kernel_rfl) (by decide) rqW).as id (fun _ _ _ => rfl) (fun _ h => h.1)
theorem rqC : Reads Try.prog 24 2 cdF (fun c => c.ws.length ≤ maxLen) :=
  (reads_struct (f := _) (I := _) Try.underlying24 (by kernel_rfl) (readsF_cons rfl rqI (readsF_cons rfl rqWs readsF_nil))).as (fun p => (⟨p.1, p.2.1⟩ : Cd)) (fun a j hj => by
    match j, hj with
    | 0, _ => rfl
    | 1, _ => rfl) (fun _ h => h.2.1)
end Go.Proofs.Ytoafgeobhhlplaa
namespace Go.Proofs.Ytoafgeobhhlplaa
set_option linter.unusedSimpArgs false
set_option linter.unusedVariables false
open Go Go.Lift Go.RowKit Go.ChangeShapes Go.WideShapes Go.ChangeAt
set_option maxRecDepth 100000 in
theorem witnessLaw_lifted (os : Os) (started : os.Started) (H : Type) (enc : TypeId × Value → H) :
    ReturnsInHanded {} Try.checked os 5 .any (Rows.delayWitnessSpec.pre6 enc Try.prog Try.f5 Rows.delayWitnessRow.domain false) (Rows.delayWitnessSpec.post enc Try.prog Try.f5 false true false false) := by
  refine returnsInHanded_of_change (C := Try.checked) Try.own started (by kernel_rfl) Try.func5
    (ChangeSpec.witness6 (enc := enc) (C := Try.checked) false ⟨#[], #[.agg #[.int .i64 0, .slice none 0 0], .int .u8 0], []⟩ 8 (by kernel_rfl) (by kernel_rfl) (by kernel_rfl) (by kernel_rfl)) ?_
  intro W base args ds gs before hval0 hW _ _
  have hval : ∀ (j : Nat) t v, Try.f5.params[j]? = some t → args[j]? = some v → Value.okWide Try.prog W .any base t v := hval0
  have hW' := hW
  obtain ⟨p, q, hA0, hV, rfl, _, _⟩ := hW
  have hA : DataW.TrodAll enc Try.prog W 0 (fun _ => true) true Try.f5.params.toList args.toList ds p := hA0
  rw [Try.params5] at hA hval
  obtain ⟨al, rfl⟩ : ∃ al : List Value, args = al.toArray := ⟨args.toList, by simp⟩
  simp only at hA
  obtain ⟨v0, al0, d0, ds0, p0, q0, rfl, rfl, rfl, h0, hA⟩ := trodAll_cons hA
  obtain ⟨v1, al1, d1, ds1, p1, q1, rfl, rfl, rfl, h1, hA⟩ := trodAll_cons hA
  obtain ⟨rfl, rfl, rfl⟩ := trodAll_nil hA
  obtain ⟨rfl, rfl⟩ := trodVars_none hV
  obtain ⟨x0, w0, r0⟩ := arg_struct Try.underlying24 rqC (hval 0 24 v0 rfl rfl) h0
  obtain ⟨x1, w1, r1⟩ := arg_int Try.underlying5 rqB (hval 1 5 v1 rfl rfl) h1
  refine (witnessLaw_c x0 w0 x1 (wf_u8 w1) (fun _ => False) W [v0, v1] (fun _ h => h.elim) ⟨r0, r1, trivial⟩).mono fun r W' ⟨v, hr, hk, hv⟩ => ?_
  subst hr
  have hv' : v = .bool true := hv
  subst hv'
  exact ⟨_, rfl, law_post Try.laidOut (by kernel_rfl) rfl rfl rfl Try.underlying4 hW' hk⟩
theorem witnessLaw_holds : Rows.DelayWitnessSaid :=
  OpenClaim.holds_of_wide 5 Try.f5 rfl rfl rfl rfl rfl rfl rfl ⟨rfl, rfl, rfl, rfl, rfl⟩ rfl rfl rfl rfl rfl (by kernel_rfl) Try.func5 (by kernel_rfl)
    (of_decide_eq_true (by kernel_rfl)) (by unfold Func.isWrapper; first | (rw [if_pos (by decide +kernel)]; kernel_rfl) | (rw [if_neg (by decide +kernel)]; exact ⟨rfl, rfl⟩))
    (fun os started H enc _ => witnessLaw_lifted os started H enc)
#print axioms witnessLaw_holds
end Go.Proofs.Ytoafgeobhhlplaa
