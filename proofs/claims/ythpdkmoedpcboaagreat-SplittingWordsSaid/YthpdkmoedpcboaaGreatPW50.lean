/- A split graph has the words of the graph. No condition. -/
import Derived.Test.YthpdkmoedpcboaaGreatPW17
import Derived.Test.YthpdkmoedpcboaaGreatPW42
import Derived.Test.YthpdkmoedpcboaaGreatPW49
namespace Go.Proofs.YthpdkmoedpcboaaGreat
set_option linter.unusedSimpArgs false
set_option linter.unusedVariables false
open Go Go.Lift Go.Proofs
set_option maxRecDepth 100000 in
set_option maxHeartbeats 1000000 in
theorem wordsLaw_c (g : Gr) (hge : g.edges.length ≤ maxLen) (v : List Int) (hvl : v.length ≤ maxLen) (m : Int) (b : Int) (hb : 0 ≤ b ∧ b < 256) : PC Tryz.prog 4 [.agg 3 (grF g), ints v, .int .i64 m, .int .u8 b] (.bool true) := by
 have hML : maxLen = 9223372036854775807 := by decide
 obtain ⟨n6, hn6⟩ : ∃ n6 : Nat, b % 6 = (n6 : Int) := ⟨(b % 6).toNat, by omega⟩
 have hn5 : n6 ≤ 5 := (by omega)
 refine zp Tryz.func4 fun G hG hR => ?_
 refine zs (zrP ?_)
 refine zs (zs (zL (zlP 1 ?_)))
 refine zcP cal16 (great9_c g) ?_
 refine zlP 2 ?_
 refine zcP cal17 (greatV_c v hvl) ?_
 refine zlP 6 ?_
 refine zN (zy (fun hb29 => ?_) fun hb29 => ?_)
 · refine zs (zL ?_)
   refine zcP cal9 awake_c ?_
   refine zlP 1 ?_
   refine zN (zt ?_)
   exact zRP
 have hl3 : g.labels ≤ 3 := (by omega)
 refine zk (zs (zL (zlP 3 ?_)))
 refine zcP cal18 (chooseR_c g v m) ?_
 refine zlP 5 ?_
 refine zN (zs (zs (zrP ?_)))
 refine zy (fun hb39 => ?_) fun hb39 => ?_
 · refine zs (zL ?_)
   refine zcP cal9 awake_c ?_
   refine zlP 1 ?_
   refine zN (zt ?_)
   exact zRP
 obtain ⟨hcl, hRd⟩ := cls_ok hb39
 have hr := hRd.ok
 refine zk (zs (zL (zlP 4 ?_)))
 refine zcP cal19 (applyC_c g v m (cLs g v m) hr) ?_
 refine zlP 10 ?_
 refine zN (zs (zs (zrP ?_)))
 refine zy (fun hb52 => ?_) fun hb52 => ?_
 · have h04 := apl_04 hRd
   refine zs (zL (zlP 3 ?_))
   refine zcP cal9 awake_c ?_
   refine zlP 2 ?_
   refine zN (zt ?_)
   refine RetOK_of ?_
   simp [hG, List.getD_cons_zero, List.getD_cons_succ, -List.getD_eq_getElem?_getD, pureOp]
   exact (h04.resolve_left hb52)
 obtain ⟨e1, e2, e3, hof, hed2⟩ := apl_z hRd hb52
 rw [e1, e2, e3]
 have hSt : (splG g (cLs g v m)).states = (offA g (cLs g v m) g.states.toNat : Nat) := rfl
 have hpl := parA_len (g := g) (l := (cLs g v m)) g.states.toNat
 have hwl := hvA_len (g := g) (v := v) (m := m) (l := (cLs g v m)) g.states.toNat
 have hst := (gcheck_valid hRd.gv).1.st
 have hed := (gcheck_valid hRd.gv).1.ed
 have hvls := hRd.vl
 have hgv2 := hRd.valid hof hed2
 have hwq := hRd.wordsL n6
 have hwl := wordsL_len (g := g) hl3 hn5
 refine zk (zs (zL (zlP 4 ?_)))
 refine zcP cal20 (words_c g n6 hRd.gv hl3 hn5) ?_ (b := fun hg => by simp [hG, List.getD_cons_zero, List.getD_cons_succ, -List.getD_eq_getElem?_getD]; exact hn6)
 refine zlP 5 ?_
 refine zN (zs (zL (zlP 4 ?_)))
 refine zcP cal20 (words_c (splG g (cLs g v m)) n6 hgv2 hl3 hn5) ?_ (b := fun hg => by simp [hG, List.getD_cons_zero, List.getD_cons_succ, -List.getD_eq_getElem?_getD]; exact hn6)
 refine zlP 5 ?_
 refine zN (zs (zL (zlP 9 ?_)))
 refine zcP cal21 (equalS_c (wordsL g n6) (wordsL (splG g (cLs g v m)) n6) hwl) ?_
 refine zlP 2 ?_
 refine zcP cal9 awake_c ?_
 refine zlP 2 ?_
 refine zN (zt ?_)
 refine RetOK_of ?_
 simp [hG, List.getD_cons_zero, List.getD_cons_succ, -List.getD_eq_getElem?_getD, pureOp]
 exact hwq
end Go.Proofs.YthpdkmoedpcboaaGreat
namespace Go.Proofs.YthpdkmoedpcboaaGreat
set_option linter.unusedSimpArgs false
set_option linter.unusedVariables false
open Go Go.Lift Go.RowKit Go.ChangeShapes Go.WideShapes Go.ChangeAt
set_option maxRecDepth 100000 in
theorem wordsLaw_lifted (os : Os) (started : os.Started) (H : Type) (enc : TypeId × Value → H) :
    ReturnsInHanded {} Tryz.checked os 4 .any (Rows.splittingWordsSpec.pre6 enc Tryz.prog Tryz.f4 Rows.splittingWordsRow.domain false) (Rows.splittingWordsSpec.post enc Tryz.prog Tryz.f4 false true false false) := by
  refine returnsInHanded_of_change (C := Tryz.checked) Tryz.own started (by kernel_rfl) Tryz.func4
    (ChangeSpec.witness6 (enc := enc) (C := Tryz.checked) false ⟨#[], #[.agg #[.int .i64 0, .int .i64 0, .slice none 0 0], .slice none 0 0, .int .i64 0, .int .u8 0], []⟩ 8 (by kernel_rfl) (by kernel_rfl) (by kernel_rfl) (by kernel_rfl)) ?_
  intro W base args ds gs before hval0 hW _ _
  have hval : ∀ (j : Nat) t v, Tryz.f4.params[j]? = some t → args[j]? = some v → Value.okWide Tryz.prog W .any base t v := hval0
  have hW' := hW
  obtain ⟨p, q, hA0, hV, rfl, _, _⟩ := hW
  have hA : DataW.TrodAll enc Tryz.prog W 0 (fun _ => true) true Tryz.f4.params.toList args.toList ds p := hA0
  rw [Tryz.params4] at hA hval
  obtain ⟨al, rfl⟩ : ∃ al : List Value, args = al.toArray := ⟨args.toList, by simp⟩
  simp only at hA
  obtain ⟨v0, al0, d0, ds0, p0, q0, rfl, rfl, rfl, h0, hA⟩ := trodAll_cons hA
  obtain ⟨v1, al1, d1, ds1, p1, q1, rfl, rfl, rfl, h1, hA⟩ := trodAll_cons hA
  obtain ⟨v2, al2, d2, ds2, p2, q2, rfl, rfl, rfl, h2, hA⟩ := trodAll_cons hA
  obtain ⟨v3, al3, d3, ds3, p3, q3, rfl, rfl, rfl, h3, hA⟩ := trodAll_cons hA
  obtain ⟨rfl, rfl, rfl⟩ := trodAll_nil hA
  obtain ⟨rfl, rfl⟩ := trodVars_none hV
  obtain ⟨x0, w0, r0⟩ := arg_struct Tryz.underlying24 rdG (hval 0 24 v0 rfl rfl) h0
  obtain ⟨x1, w1, r1⟩ := arg_slice Tryz.underlying25 rdIs (hval 1 25 v1 rfl rfl) h1
  obtain ⟨x2, w2, r2⟩ := arg_int Tryz.underlying3 rdI (hval 2 3 v2 rfl rfl) h2
  obtain ⟨x3, w3, r3⟩ := arg_int Tryz.underlying5 rdB (hval 3 5 v3 rfl rfl) h3
  refine (wordsLaw_c x0 w0 x1 w1 x2 x3 (wf_u8 w3) (fun _ => False) W [v0, v1, v2, v3] (fun _ h => h.elim) ⟨r0, r1, r2, r3, trivial⟩).mono fun r W' ⟨v, hr, hk, hv⟩ => ?_
  subst hr
  have hv' : v = .bool true := hv
  subst hv'
  exact ⟨_, rfl, law_post Tryz.laidOut (by kernel_rfl) rfl rfl rfl Tryz.underlying4 hW' hk⟩
theorem wordsLaw_holds : Rows.SplittingWordsSaid :=
  OpenClaim.holds_of_wide 4 Tryz.f4 rfl rfl rfl rfl rfl rfl rfl ⟨rfl, rfl, rfl, rfl, rfl⟩ rfl rfl rfl rfl rfl (by kernel_rfl) Tryz.func4 (by kernel_rfl)
    (of_decide_eq_true (by kernel_rfl)) (by unfold Func.isWrapper; first | (rw [if_pos (by decide +kernel)]; kernel_rfl) | (rw [if_neg (by decide +kernel)]; exact ⟨rfl, rfl⟩))
    (fun os started H enc _ => wordsLaw_lifted os started H enc)
#print axioms wordsLaw_holds
end Go.Proofs.YthpdkmoedpcboaaGreat
