/-
  Walk: the law of edges.
-/
import Derived.Test.YthpdkmoedpcboaaNK
import Derived.Test.YthpdkmoedpcboaaNL
namespace Go.Proofs.Ythpdkmoedpcboaa
set_option linter.unusedSimpArgs false
set_option linter.unusedVariables false
open Go Go.Lift Go.Proofs

def edK (x : Edge) : AVal := aggL [.int .i64 x.frm, .int .i64 x.lab, .int .i64 x.to]
@[simp] theorem aggL_ed {a b c : Int} : aggL [.int .i64 a, .int .i64 b, .int .i64 c] = edK ⟨a, b, c⟩ := rfl
theorem kEq_ed (a b : Edge) : kEq T 45 (edK a) (edK b) = some (decide (a = b)) := by
  have : kEq T 45 (edK a) (edK b) = some (decide (a.frm = b.frm) && (decide (a.lab = b.lab) && (decide (a.to = b.to) && true))) := by
    simp [edK, aggL]
  rw [this]
  congr 1
  rw [Bool.eq_iff_iff]
  simp only [Bool.and_eq_true, decide_eq_true_eq, Bool.and_true]
  obtain ⟨a1, a2, a3⟩ := a
  obtain ⟨b1, b2, b3⟩ := b
  simp
def luKx := luK
theorem luK_congr {l : List (AVal × AVal)} {f g : Nat → AVal} (h : f 0 = g 0 ∧ f 1 = g 1 ∧ f 2 = g 2) : ∀ i, luK T 45 l i (.agg 3 f) = luK T 45 l i (.agg 3 g) := by
  obtain ⟨h0, h1, h2⟩ := h
  induction l with
  | nil => intro i; rfl
  | cons p l ih =>
    intro i
    obtain ⟨a, v⟩ := p
    have hk : kEq T 45 (.agg 3 f) a = kEq T 45 (.agg 3 g) a := by
      cases a <;> simp [h0, h1, h2]
    simp only [luK, hk, ih (i + 1)]
theorem luK_ed {l : List (Edge × Int)} {f : Nat → AVal} {e : Edge} (h0 : f 0 = .int .i64 e.frm) (h1 : f 1 = .int .i64 e.lab) (h2 : f 2 = .int .i64 e.to) : luK T 45 (mpE edK intV l) 0 (.agg 3 f) = some ((alFind l 0 e).map fun p => (p.1, intV p.2)) := by
  rw [← luK_mpE (ek := edK) (ev := intV) kEq_ed l 0 e]
  exact luK_congr ⟨h0, h1, h2⟩ 0
@[simp] theorem luK45 {l : List (Edge × Int)} {f : Nat → AVal} : luK T 45 (mpE edK intV l) 0 (.agg 3 f) = (match f 0, f 1, f 2 with
    | .int .i64 a, .int .i64 b, .int .i64 c => some ((alFind l 0 (⟨a, b, c⟩ : Edge)).map fun p => (p.1, intV p.2))
    | _, _, _ => luKx T 45 (mpE edK intV l) 0 (.agg 3 f)) := by
  split
  · rename_i a b c h0 h1 h2
    exact luK_ed (e := ⟨a, b, c⟩) h0 h1 h2
  · rfl
@[simp] theorem putK_edI {l : List (Edge × Int)} {k : Edge} {v : Int} : putK (mpE edK intV l) ((alFind l 0 k).map fun p => (p.1, intV p.2)) (edK k) (.int .i64 v) = mpE edK intV (alPut l k v) := putK_mpE (ek := edK) (ev := intV) l k v
@[simp high] theorem HLe_edI {h : Heap} {σ : Lift.Id → Lift.Id} {fz : Nat → Bool} {vz : Lift.Id → Bool} {nx : Nat} {l2 l : List (Edge × Int)} (e : l2 = l) : HLe h σ fz vz nx (.mp (mpE edK intV l2)) (some (.mp (mpE edK intV l))) = True := eq_true (HLe_mpE (ek := edK) (ev := intV) (fun a => by simp [edK, aggL, Clo]) (fun _ => trivial) e)
theorem alFind_lt2 {l : List (Edge × Int)} {k : Edge} : ∀ p : Nat × AVal, ((alFind l 0 k).map fun p => (p.1, intV p.2)) = some p → p.1 < (mpE edK intV l).length := fun p h => by
  cases hf : alFind l 0 k with
  | none => rw [hf] at h; cases h
  | some q =>
    rw [hf] at h
    simp only [Option.map_some, Option.some.injEq] at h
    subst h
    obtain ⟨j, b⟩ := q
    have := alFind_lt _ _ _ _ _ hf
    simp only [length_mpE]
    omega
set_option maxRecDepth 100000 in
set_option maxHeartbeats 1000000 in
theorem edgesLaw_c (g : Gr) (hge : g.edges.length ≤ maxLen) (v : List Int) (hvl : v.length ≤ maxLen) (m : Int) : PC Try.prog 5 [.agg 3 (grF g), ints v, .int .i64 m] (.bool true) := by
  have hML : maxLen = 9223372036854775807 := by decide
  refine PC_introS T_ok Try.func5 rfl (by simp [Try.ntmps5]) fun G hG hR => ?_
  simp only [Try.ntmps5, Try.results5] at hG ⊢
  simp only [argEnv, Nat.zero_add, Nat.reduceAdd]
  refine awpS_seq ?_
  refine awpS_reg T_ok fun K hK => ?_
  simp [hG, List.getD_cons_zero, List.getD_cons_succ, -List.getD_eq_getElem?_getD, pureOp, alGet_put]
  refine ⟨Cond.mk (by exact trivial), hK _ ?_⟩
  clear K hK
  refine awpS_seq ?_
  refine awpS_seq ?_
  refine awpS_regL ?_
  refine awpL_reg T_ok 1 fun K hK => ?_
  simp [hG, List.getD_cons_zero, List.getD_cons_succ, -List.getD_eq_getElem?_getD, pureOp, alGet_put]
  refine hK _ ?_
  clear K hK
  refine awpL_call cal6 rfl rfl (fun _ => rfl) (fun hg => great9_c g) (fun hg => ?_) (fun hg => ?_) fun K hK => ?_
  · simp [hG, List.getD_cons_zero, List.getD_cons_succ, -List.getD_eq_getElem?_getD, pureOp, alGet_put]
  · simp [hG, List.getD_cons_zero, List.getD_cons_succ, -List.getD_eq_getElem?_getD, pureOp, alGet_put]
  simp [hG, List.getD_cons_zero, List.getD_cons_succ, -List.getD_eq_getElem?_getD, pureOp, alGet_put]
  refine hK _ ?_
  clear K hK
  refine awpL_reg T_ok 2 fun K hK => ?_
  simp [hG, List.getD_cons_zero, List.getD_cons_succ, -List.getD_eq_getElem?_getD, pureOp, alGet_put]
  refine hK _ ?_
  clear K hK
  refine awpL_call cal7 rfl rfl (fun _ => rfl) (fun hg => greatV_c v hvl) (fun hg => ?_) (fun hg => ?_) fun K hK => ?_
  · first | (simp [hG, List.getD_cons_zero, List.getD_cons_succ, -List.getD_eq_getElem?_getD, pureOp, alGet_put]; done) | (simp [-List.getD_eq_getElem?_getD] at hg; done) | (simp [-List.getD_eq_getElem?_getD] at hg; simp [hG, List.getD_cons_zero, List.getD_cons_succ, -List.getD_eq_getElem?_getD, pureOp, alGet_put]; first | omega | exact hg | (simp_all [-List.getD_eq_getElem?_getD]; done) | (simp_all [-List.getD_eq_getElem?_getD]; first | exact ⟨rfl, rfl⟩ | exact rfl))
  · first | (simp [hG, List.getD_cons_zero, List.getD_cons_succ, -List.getD_eq_getElem?_getD, pureOp, alGet_put]; done) | (simp [-List.getD_eq_getElem?_getD] at hg; done) | (simp [-List.getD_eq_getElem?_getD] at hg; simp [hG, List.getD_cons_zero, List.getD_cons_succ, -List.getD_eq_getElem?_getD, pureOp, alGet_put]; first | omega | exact hg | (simp_all [-List.getD_eq_getElem?_getD]; done) | (simp_all [-List.getD_eq_getElem?_getD]; first | exact ⟨rfl, rfl⟩ | exact rfl))
  simp [hG, List.getD_cons_zero, List.getD_cons_succ, -List.getD_eq_getElem?_getD, pureOp, alGet_put]
  refine hK _ ?_
  clear K hK
  refine awpL_reg T_ok 1 fun K hK => ?_
  simp [hG, List.getD_cons_zero, List.getD_cons_succ, -List.getD_eq_getElem?_getD, pureOp, alGet_put]
  refine hK _ ?_
  clear K hK
  refine awpL_nil ?_
  refine awpS_cond rfl (fun hb30 => ?_) (fun hb30 => ?_)
  ·
    try simp [-List.getD_eq_getElem?_getD] at hb30
    refine awpS_seq ?_
    refine awpS_regL ?_
    refine awpL_call cal9 rfl rfl (fun _ => rfl) (fun hg => awake_c) (fun hg => ?_) (fun hg => ?_) fun K hK => ?_
    · simp [hG, List.getD_cons_zero, List.getD_cons_succ, -List.getD_eq_getElem?_getD, pureOp, alGet_put]
    · simp [hG, List.getD_cons_zero, List.getD_cons_succ, -List.getD_eq_getElem?_getD, pureOp, alGet_put]
    simp [hG, List.getD_cons_zero, List.getD_cons_succ, -List.getD_eq_getElem?_getD, pureOp, alGet_put]
    refine hK _ ?_
    clear K hK
    refine awpL_reg T_ok 1 fun K hK => ?_
    simp [hG, List.getD_cons_zero, List.getD_cons_succ, -List.getD_eq_getElem?_getD, pureOp, alGet_put]
    refine hK _ ?_
    clear K hK
    refine awpL_nil ?_
    refine awpS_ret ?_
    refine RetOK_of ?_
    simp [hG, List.getD_cons_zero, List.getD_cons_succ, -List.getD_eq_getElem?_getD, pureOp, alGet_put]
  ·
    try simp [-List.getD_eq_getElem?_getD] at hb30
    refine awpS_skip ?_
    refine awpS_seq ?_
    refine awpS_regL ?_
    refine awpL_reg T_ok 3 fun K hK => ?_
    simp [hG, List.getD_cons_zero, List.getD_cons_succ, -List.getD_eq_getElem?_getD, pureOp, alGet_put]
    refine hK _ ?_
    clear K hK
    refine awpL_call cal16 rfl rfl (fun _ => rfl) (fun hg => chooseR_c g v m) (fun hg => ?_) (fun hg => ?_) fun K hK => ?_
    · simp [hG, List.getD_cons_zero, List.getD_cons_succ, -List.getD_eq_getElem?_getD, pureOp, alGet_put]
    · simp [hG, List.getD_cons_zero, List.getD_cons_succ, -List.getD_eq_getElem?_getD, pureOp, alGet_put]
    simp [hG, List.getD_cons_zero, List.getD_cons_succ, -List.getD_eq_getElem?_getD, pureOp, alGet_put]
    refine hK _ ?_
    clear K hK
    refine awpL_reg T_ok 5 fun K hK => ?_
    simp [hG, List.getD_cons_zero, List.getD_cons_succ, -List.getD_eq_getElem?_getD, pureOp, alGet_put]
    refine hK _ ?_
    clear K hK
    refine awpL_nil ?_
    refine awpS_seq ?_
    refine awpS_seq ?_
    refine awpS_reg T_ok fun K hK => ?_
    simp [hG, List.getD_cons_zero, List.getD_cons_succ, -List.getD_eq_getElem?_getD, pureOp, alGet_put]
    refine hK _ ?_
    clear K hK
    refine awpS_cond rfl (fun hb40 => ?_) (fun hb40 => ?_)
    ·
      try simp [-List.getD_eq_getElem?_getD] at hb40
      refine awpS_seq ?_
      refine awpS_regL ?_
      refine awpL_call cal9 rfl rfl (fun _ => rfl) (fun hg => awake_c) (fun hg => ?_) (fun hg => ?_) fun K hK => ?_
      · simp [hG, List.getD_cons_zero, List.getD_cons_succ, -List.getD_eq_getElem?_getD, pureOp, alGet_put]
      · simp [hG, List.getD_cons_zero, List.getD_cons_succ, -List.getD_eq_getElem?_getD, pureOp, alGet_put]
      simp [hG, List.getD_cons_zero, List.getD_cons_succ, -List.getD_eq_getElem?_getD, pureOp, alGet_put]
      refine hK _ ?_
      clear K hK
      refine awpL_reg T_ok 1 fun K hK => ?_
      simp [hG, List.getD_cons_zero, List.getD_cons_succ, -List.getD_eq_getElem?_getD, pureOp, alGet_put]
      refine hK _ ?_
      clear K hK
      refine awpL_nil ?_
      refine awpS_ret ?_
      refine RetOK_of ?_
      simp [hG, List.getD_cons_zero, List.getD_cons_succ, -List.getD_eq_getElem?_getD, pureOp, alGet_put]
    ·
      try simp [-List.getD_eq_getElem?_getD] at hb40
      obtain ⟨hcl, hRd⟩ := cls_ok hb40
      have hr := hRd.ok
      refine awpS_skip ?_
      refine awpS_seq ?_
      refine awpS_regL ?_
      refine awpL_reg T_ok 4 fun K hK => ?_
      simp [hG, List.getD_cons_zero, List.getD_cons_succ, -List.getD_eq_getElem?_getD, pureOp, alGet_put]
      refine hK _ ?_
      clear K hK
      refine awpL_call cal10 rfl rfl (fun _ => rfl) (fun hg => applyC_c g v m (cLs g v m) hr) (fun hg => ?_) (fun hg => ?_) fun K hK => ?_
      · simp [hG, List.getD_cons_zero, List.getD_cons_succ, -List.getD_eq_getElem?_getD, pureOp, alGet_put]
      · simp [hG, List.getD_cons_zero, List.getD_cons_succ, -List.getD_eq_getElem?_getD, pureOp, alGet_put]
      simp [hG, List.getD_cons_zero, List.getD_cons_succ, -List.getD_eq_getElem?_getD, pureOp, alGet_put]
      refine hK _ ?_
      clear K hK
      refine awpL_reg T_ok 10 fun K hK => ?_
      simp [hG, List.getD_cons_zero, List.getD_cons_succ, -List.getD_eq_getElem?_getD, pureOp, alGet_put]
      refine ⟨Cond.mk (by exact trivial), hK _ ?_⟩
      clear K hK
      refine awpL_nil ?_
      refine awpS_seq ?_
      refine awpS_seq ?_
      refine awpS_reg T_ok fun K hK => ?_
      simp [hG, List.getD_cons_zero, List.getD_cons_succ, -List.getD_eq_getElem?_getD, pureOp, alGet_put]
      refine hK _ ?_
      clear K hK
      refine awpS_cond rfl (fun hb53 => ?_) (fun hb53 => ?_)
      ·
        try simp [-List.getD_eq_getElem?_getD] at hb53
        have h04 := apl_04 hRd
        refine awpS_seq ?_
        refine awpS_regL ?_
        refine awpL_reg T_ok 3 fun K hK => ?_
        simp [hG, List.getD_cons_zero, List.getD_cons_succ, -List.getD_eq_getElem?_getD, pureOp, alGet_put]
        refine hK _ ?_
        clear K hK
        refine awpL_call cal9 rfl rfl (fun _ => rfl) (fun hg => awake_c) (fun hg => ?_) (fun hg => ?_) fun K hK => ?_
        · first | (simp [hG, List.getD_cons_zero, List.getD_cons_succ, -List.getD_eq_getElem?_getD, pureOp, alGet_put]; done) | (simp [-List.getD_eq_getElem?_getD] at hg; done) | (simp [-List.getD_eq_getElem?_getD] at hg; simp [hG, List.getD_cons_zero, List.getD_cons_succ, -List.getD_eq_getElem?_getD, pureOp, alGet_put]; first | omega | exact hg | (simp_all [-List.getD_eq_getElem?_getD]; done) | (simp_all [-List.getD_eq_getElem?_getD]; first | exact ⟨rfl, rfl⟩ | exact rfl))
        · first | (simp [hG, List.getD_cons_zero, List.getD_cons_succ, -List.getD_eq_getElem?_getD, pureOp, alGet_put]; done) | (simp [-List.getD_eq_getElem?_getD] at hg; done) | (simp [-List.getD_eq_getElem?_getD] at hg; simp [hG, List.getD_cons_zero, List.getD_cons_succ, -List.getD_eq_getElem?_getD, pureOp, alGet_put]; first | omega | exact hg | (simp_all [-List.getD_eq_getElem?_getD]; done) | (simp_all [-List.getD_eq_getElem?_getD]; first | exact ⟨rfl, rfl⟩ | exact rfl))
        simp [hG, List.getD_cons_zero, List.getD_cons_succ, -List.getD_eq_getElem?_getD, pureOp, alGet_put]
        refine hK _ ?_
        clear K hK
        refine awpL_reg T_ok 2 fun K hK => ?_
        simp [hG, List.getD_cons_zero, List.getD_cons_succ, -List.getD_eq_getElem?_getD, pureOp, alGet_put]
        refine hK _ ?_
        clear K hK
        refine awpL_nil ?_
        refine awpS_ret ?_
        refine RetOK_of ?_
        simp [hG, List.getD_cons_zero, List.getD_cons_succ, -List.getD_eq_getElem?_getD, pureOp, alGet_put]
        exact (h04.resolve_left hb53)
      ·
        try simp [-List.getD_eq_getElem?_getD] at hb53
        obtain ⟨e1, e2, e3, hof, hed2⟩ := apl_z hRd hb53
        rw [e1, e2, e3]
        have hSt : (splG g (cLs g v m)).states = (offA g (cLs g v m) g.states.toNat : Nat) := rfl
        have hpl := parA_len (g := g) (l := (cLs g v m)) g.states.toNat
        have hwl := hvA_len (g := g) (v := v) (m := m) (l := (cLs g v m)) g.states.toNat
        have hst := (gcheck_valid hRd.gv).1.st
        have hed := (gcheck_valid hRd.gv).1.ed
        have hvls := hRd.vl
        have hgv2 := hRd.valid hof hed2
        have hg64 := (gcheck_valid hRd.gv).1.st
        have hed3 := (gcheck_valid hgv2).1.ed
        refine awpS_skip ?_
        refine awpS_seq ?_
        refine awpS_seq ?_
        refine awpS_regL ?_
        refine awpL_reg T_ok 1 fun K hK => ?_
        simp [hG, List.getD_cons_zero, List.getD_cons_succ, -List.getD_eq_getElem?_getD, pureOp, alGet_put]
        refine hK _ ?_
        clear K hK
        refine awpL_call cal19 rfl rfl (fun _ => rfl) (fun hg => check9_c (splG g (cLs g v m))) (fun hg => ?_) (fun hg => ?_) fun K hK => ?_
        · simp [hG, List.getD_cons_zero, List.getD_cons_succ, -List.getD_eq_getElem?_getD, pureOp, alGet_put]
        · simp [hG, List.getD_cons_zero, List.getD_cons_succ, -List.getD_eq_getElem?_getD, pureOp, alGet_put]
        simp [hG, List.getD_cons_zero, List.getD_cons_succ, -List.getD_eq_getElem?_getD, pureOp, alGet_put]
        refine hK _ ?_
        clear K hK
        refine awpL_reg T_ok 8 fun K hK => ?_
        simp [hG, List.getD_cons_zero, List.getD_cons_succ, -List.getD_eq_getElem?_getD, pureOp, alGet_put]
        refine hK _ ?_
        clear K hK
        refine awpL_nil ?_
        refine awpS_cond rfl (fun hb68 => ?_) (fun hb68 => ?_)
        ·
          exfalso; simp [-List.getD_eq_getElem?_getD, hgv2] at hb68; omega
        ·
          try simp [-List.getD_eq_getElem?_getD] at hb68
          refine awpS_skip ?_
          refine awpS_seq ?_
          refine awpS_reg T_ok fun K hK => ?_
          simp [hG, List.getD_cons_zero, List.getD_cons_succ, -List.getD_eq_getElem?_getD, pureOp, alGet_put]
          refine ⟨Cond.mk (by omega), hK _ ?_⟩
          clear K hK
          refine awpS_seq ?_
          refine awpS_seq ?_
          refine awpS_reg T_ok fun K hK => ?_
          simp [hG, List.getD_cons_zero, List.getD_cons_succ, -List.getD_eq_getElem?_getD, pureOp, alGet_put]
          refine hK _ ?_
          clear K hK
          refine awpS_block ?_
          refine awpS_loop (α := Nat) (fun k => ⟨[(3, .ptr (0, 0) 0 0), (9, .ptr (1, 0) 0 0), (11, ints (parA g (cLs g v m) g.states.toNat)), (13, .sl (2, 0) 0 g.states.toNat), (72, ints (parA g (cLs g v m) g.states.toNat)), (73, .int .i64 (parA g (cLs g v m) g.states.toNat).length), (74, .int .i64 (k : Nat))], [(0, .one (.arr 1 3 (fun _ => grF g))), (1, .one (.arr 1 3 (fun _ => grF (splG g (cLs g v m))))), (2, .one (.arr g.states.toNat 1 (fun s _ => .int .i64 (chN (parA g (cLs g v m) g.states.toNat) k s))))], 3⟩) (fun k => k ≤ (parA g (cLs g v m) g.states.toNat).length) (fun k => (parA g (cLs g v m) g.states.toNat).length - k) (0) (Nat.zero_le _) ?_ ?_
          ·
            refine wk_of (id) (fun _ => false) (fun _ => false) ?_ ?_ rfl (Nat.zero_le _) (fun k hk => absurd hk (Nat.not_lt_zero _))
            · simp [hG, List.getD_cons_zero, List.getD_cons_succ, -List.getD_eq_getElem?_getD, pureOp, alGet_put]
            · simp [hG, List.getD_cons_zero, List.getD_cons_succ, -List.getD_eq_getElem?_getD]; exact fun i _ => rfl
          ·
            rintro k hk0
            refine awpS_seq ?_
            refine awpS_reg T_ok fun K hK => ?_
            simp [hG, List.getD_cons_zero, List.getD_cons_succ, -List.getD_eq_getElem?_getD, pureOp, alGet_put]
            refine hK _ ?_
            clear K hK
            refine awpS_seq ?_
            refine awpS_cond rfl (fun hb75 => ?_) (fun hb75 => ?_)
            ·
              try simp [-List.getD_eq_getElem?_getD] at hb75
              have hk : k < (parA g (cLs g v m) g.states.toNat).length := (by omega)
              have hpm := parA_mem (getD_mem (d := (0 : Int)) hk)
              have hcl := chN_le (p := (parA g (cLs g v m) g.states.toNat)) (s := ((parA g (cLs g v m) g.states.toNat).getD k 0).toNat) k
              refine awpS_skip ?_
              refine awpS_seq ?_
              refine awpS_block ?_
              refine awpS_seq ?_
              refine awpS_reg T_ok fun K hK => ?_
              simp [hG, List.getD_cons_zero, List.getD_cons_succ, -List.getD_eq_getElem?_getD, pureOp, alGet_put]
              refine ⟨Cond.mk (by omega), hK _ ?_⟩
              clear K hK
              refine awpS_seq ?_
              refine awpS_seq ?_
              refine awpS_reg T_ok fun K hK => ?_
              simp [hG, List.getD_cons_zero, List.getD_cons_succ, -List.getD_eq_getElem?_getD, pureOp, alGet_put]
              refine hK _ ?_
              clear K hK
              refine awpS_cond rfl (fun hb85 => ?_) (fun hb85 => ?_)
              ·
                exfalso; simp [-List.getD_eq_getElem?_getD] at hb85; omega
              ·
                try simp [-List.getD_eq_getElem?_getD] at hb85
                refine awpS_skip ?_
                refine awpS_reg T_ok fun K hK => ?_
                simp [hG, List.getD_cons_zero, List.getD_cons_succ, -List.getD_eq_getElem?_getD, pureOp, alGet_put]
                refine ⟨Cond.mk (by omega), hK _ ?_⟩
                clear K hK
                refine awpS_nil ?_
                refine blockQ_norm (thenQ_norm ?_)
                refine awpS_reg T_ok fun K hK => ?_
                simp [hG, List.getD_cons_zero, List.getD_cons_succ, -List.getD_eq_getElem?_getD, pureOp, alGet_put]
                refine ⟨Cond.mk (by omega), hK _ ?_⟩
                clear K hK
                refine awpS_nil ?_
                refine round_end (k + 1) (by omega) (by omega) ?_
                refine wk_of (id) (fun _ => false) (fun _ => false) ?_ ?_ rfl (Nat.zero_le _) (fun k hk => absurd hk (Nat.not_lt_zero _))
                · simp [hG, List.getD_cons_zero, List.getD_cons_succ, -List.getD_eq_getElem?_getD, pureOp, alGet_put]
                · simp [hG, List.getD_cons_zero, List.getD_cons_succ, -List.getD_eq_getElem?_getD]; exact fun s hs => by rw [chN_succ]; by_cases h : s = ((parA g (cLs g v m) g.states.toNat).getD k 0).toNat; (rw [if_pos h, if_pos (by omega), h]); (rw [if_neg h, if_neg (by omega), Int.add_zero])
            ·
              try simp [-List.getD_eq_getElem?_getD] at hb75
              obtain rfl : k = (parA g (cLs g v m) g.states.toNat).length := (by omega)
              refine awpS_exit ?_
              refine thenQ_exit (thenQ_exit ?_)
              refine blockQ_exit (thenQ_norm ?_)
              refine awpS_seq ?_
              refine awpS_reg T_ok fun K hK => ?_
              simp [hG, List.getD_cons_zero, List.getD_cons_succ, -List.getD_eq_getElem?_getD, pureOp, alGet_put]
              refine hK _ ?_
              clear K hK
              refine awpS_seq ?_
              refine awpS_seq ?_
              refine awpS_reg T_ok fun K hK => ?_
              simp [hG, List.getD_cons_zero, List.getD_cons_succ, -List.getD_eq_getElem?_getD, pureOp, alGet_put]
              refine hK _ ?_
              clear K hK
              refine awpS_block ?_
              refine awpS_loop (α := Nat) (fun k => ⟨[(3, .ptr (0, 0) 0 0), (11, ints (parA g (cLs g v m) g.states.toNat)), (13, .sl (2, 0) 0 g.states.toNat), (16, .map (3, 0)), (17, .map (4, 0)), (96, edgesC (splG g (cLs g v m)).edges), (97, .int .i64 (splG g (cLs g v m)).edges.length), (98, .int .i64 (k : Nat))], [(0, .one (.arr 1 3 (fun _ => grF g))), (1, .one (.arr 1 3 (fun _ => grF (splG g (cLs g v m))))), (2, .one (.arr g.states.toNat 1 (fun s _ => .int .i64 (chN (parA g (cLs g v m) g.states.toNat) (parA g (cLs g v m) g.states.toNat).length s)))), (3, .one (.mp (mpE edK intV (frmM g (cLs g v m) k)))), (4, .one (.mp (mpE edK intV (cnM g (cLs g v m) k))))], 5⟩) (fun k => k ≤ (splG g (cLs g v m)).edges.length) (fun k => (splG g (cLs g v m)).edges.length - k) (0) (Nat.zero_le _) ?_ ?_
              ·
                refine wk_of (id) (fun _ => false) (fun _ => false) ?_ ?_ rfl (Nat.zero_le _) (fun k hk => absurd hk (Nat.not_lt_zero _))
                · simp [hG, List.getD_cons_zero, List.getD_cons_succ, -List.getD_eq_getElem?_getD, pureOp, alGet_put]
                · simp [hG, List.getD_cons_zero, List.getD_cons_succ, -List.getD_eq_getElem?_getD, pureOp, alGet_put, frmM_zero, cnM_zero, nil_mpE]
              ·
                rintro k hk0
                refine awpS_seq ?_
                refine awpS_reg T_ok fun K hK => ?_
                simp [hG, List.getD_cons_zero, List.getD_cons_succ, -List.getD_eq_getElem?_getD, pureOp, alGet_put]
                refine hK _ ?_
                clear K hK
                refine awpS_seq ?_
                refine awpS_cond rfl (fun hb99 => ?_) (fun hb99 => ?_)
                ·
                  try simp [-List.getD_eq_getElem?_getD] at hb99
                  have hk : k < (spEs g (cLs g v m)).length := (show k < (splG g (cLs g v m)).edges.length by omega)
                  have heb := edge_in hgv2 (getD_mem (d := de) hk)
                  have hok : oldK g (cLs g v m) k = (⟨(parA g (cLs g v m) g.states.toNat).getD ((splG g (cLs g v m)).edges.getD k de).frm.toNat 0, ((splG g (cLs g v m)).edges.getD k de).lab, (parA g (cLs g v m) g.states.toNat).getD ((splG g (cLs g v m)).edges.getD k de).to.toNat 0⟩ : Edge) := rfl
                  have hcn : (alGet (cnM g (cLs g v m) k) (⟨(parA g (cLs g v m) g.states.toNat).getD ((splG g (cLs g v m)).edges.getD k de).frm.toNat 0, ((splG g (cLs g v m)).edges.getD k de).lab, (parA g (cLs g v m) g.states.toNat).getD ((splG g (cLs g v m)).edges.getD k de).to.toNat 0⟩ : Edge)).getD 0 = cntE g (cLs g v m) (oldK g (cLs g v m) k) k := cnM_get
                  have hce := cntE_le (g := g) (l := (cLs g v m)) (o := oldK g (cLs g v m) k) k
                  refine awpS_skip ?_
                  refine awpS_seq ?_
                  refine awpS_block ?_
                  refine awpS_seq ?_
                  refine awpS_reg T_ok fun K hK => ?_
                  simp [hG, List.getD_cons_zero, List.getD_cons_succ, -List.getD_eq_getElem?_getD, pureOp, alGet_put]
                  refine ⟨Cond.mk (by simp [-List.getD_eq_getElem?_getD]; omega), hK _ ?_⟩
                  clear K hK
                  refine awpS_seq ?_
                  refine awpS_draw hR mixed [] ⟨[], [14], [(5, 0)]⟩ fun mu0 => ?_
                  refine awpA_tk T_ok [0, 1, 2, 3, 4, 5, 6, 7, 8, 9, 10, 11, 12] [] (fuel := 2) [12, 11, 10, 9, 8, 7, 6, 5, 4, 3, 2, 1, 0] (by decide +kernel) (by decide +kernel) rfl rfl fun K hK => ?_
                  simp [hG, List.getD_cons_zero, List.getD_cons_succ, -List.getD_eq_getElem?_getD, pureOp, alGet_put]
                  refine ⟨Cond.mk (by omega), hK _ ?_⟩
                  clear K hK
                  refine awpA_only (fuel := 1) (i := 13) (by decide +kernel) ?_
                  refine awpO_reg T_ok rfl ?_ fun K hK => ?_
                  · simp [hG, List.getD_cons_zero, List.getD_cons_succ, -List.getD_eq_getElem?_getD, pureOp, alGet_put]; try exact trivial
                  simp [hG, List.getD_cons_zero, List.getD_cons_succ, -List.getD_eq_getElem?_getD, pureOp, alGet_put]
                  refine hK _ ?_
                  clear K hK
                  refine awpA_only (fuel := 0) (i := 14) (by decide +kernel) ?_
                  refine awpO_reg T_ok rfl ?_ fun K hK => ?_
                  · simp [hG, List.getD_cons_zero, List.getD_cons_succ, -List.getD_eq_getElem?_getD, pureOp, alGet_put]; try exact trivial
                  simp [hG, List.getD_cons_zero, List.getD_cons_succ, -List.getD_eq_getElem?_getD, pureOp, alGet_put]
                  refine ⟨Cond.mk (by exact trivial), hK _ ?_⟩
                  clear K hK
                  refine awpA_done (by decide +kernel) ?_
                  refine awpS_seq ?_
                  refine awpS_seq ?_
                  refine awpS_reg T_ok fun K hK => ?_
                  simp [hG, List.getD_cons_zero, List.getD_cons_succ, -List.getD_eq_getElem?_getD, pureOp, alGet_put]
                  refine hK _ ?_
                  clear K hK
                  refine awpS_seq ?_
                  refine awpS_reg T_ok fun K hK => ?_
                  simp [hG, List.getD_cons_zero, List.getD_cons_succ, -List.getD_eq_getElem?_getD, pureOp, alGet_put]
                  refine hK _ ?_
                  clear K hK
                  refine awpS_cond rfl (fun hb127 => ?_) (fun hb127 => ?_)
                  ·
                    exfalso; simp [-List.getD_eq_getElem?_getD] at hb127; obtain ⟨h1, h2⟩ := hb127; obtain ⟨c, hc⟩ := Option.isSome_iff_exists.1 h1; rw [hc] at h2; exact h2 (hRd.frm_same hk hc)
                  ·
                    try simp [-List.getD_eq_getElem?_getD] at hb127
                    refine awpS_skip ?_
                    refine awpS_seq ?_
                    refine awpS_reg T_ok fun K hK => ?_
                    simp [hG, List.getD_cons_zero, List.getD_cons_succ, -List.getD_eq_getElem?_getD, pureOp, alGet_put]
                    refine hK _ ?_
                    clear K hK
                    refine awpS_draw hR mixed [(4, (4, 0)), (6, (4, 0))] ⟨[], [], []⟩ fun mu0 => ?_
                    refine awpA_tk T_ok [0, 1] [] (fuel := 5) [1, 0] (by decide +kernel) (by decide +kernel) rfl rfl fun K hK => ?_
                    simp [hG, List.getD_cons_zero, List.getD_cons_succ, -List.getD_eq_getElem?_getD, pureOp, alGet_put]
                    refine hK _ ?_
                    clear K hK
                    refine awpA_two (fuel := 4) (i := 2) (k := 4) (by decide +kernel) ?_ ?_
                    ·
                      refine awpO_reg T_ok rfl ?_ fun K hK => ?_
                      · simp [hG, List.getD_cons_zero, List.getD_cons_succ, -List.getD_eq_getElem?_getD, pureOp, alGet_put]; try exact trivial
                      simp [hG, List.getD_cons_zero, List.getD_cons_succ, -List.getD_eq_getElem?_getD, pureOp, alGet_put]
                      refine hK _ ?_
                      clear K hK
                      refine awpA_tk T_ok [3] [(4, 0)] (fuel := 3) [3, 2, 1, 0] (by decide +kernel) (by decide +kernel) rfl rfl fun K hK => ?_
                      simp [hG, List.getD_cons_zero, List.getD_cons_succ, -List.getD_eq_getElem?_getD, pureOp, alGet_put]
                      refine ⟨Cond.mk (by omega), hK _ ?_⟩
                      clear K hK
                      refine awpA_only (fuel := 2) (i := 4) (by decide +kernel) ?_
                      refine awpO_entry T_ok T43 rfl T3 (id := (4, 0)) (l := mpE edK intV (cnM g (cLs g v m) k)) (r := ((alFind (cnM g (cLs g v m) k) 0 (⟨(parA g (cLs g v m) g.states.toNat).getD ((splG g (cLs g v m)).edges.getD k de).frm.toNat 0, ((splG g (cLs g v m)).edges.getD k de).lab, (parA g (cLs g v m) g.states.toNat).getD ((splG g (cLs g v m)).edges.getD k de).to.toNat 0⟩ : Edge)).map fun p => (p.1, intV p.2))) rfl rfl rfl (by simp [hG, List.getD_cons_zero, List.getD_cons_succ, -List.getD_eq_getElem?_getD, pureOp, alGet_put]) (by simp [hG, List.getD_cons_zero, List.getD_cons_succ, -List.getD_eq_getElem?_getD, pureOp, alGet_put]) (by simp [hG, List.getD_cons_zero, List.getD_cons_succ, -List.getD_eq_getElem?_getD, pureOp, alGet_put]) (by simp [hG, List.getD_cons_zero, List.getD_cons_succ, -List.getD_eq_getElem?_getD, pureOp, alGet_put]) (by simp [hG, List.getD_cons_zero, List.getD_cons_succ, -List.getD_eq_getElem?_getD, pureOp, alGet_put]) (by simp [wOK]) fun K hK q => ?_
                      simp [hG, List.getD_cons_zero, List.getD_cons_succ, -List.getD_eq_getElem?_getD, pureOp, alGet_put, mkL]
                      refine hK _ ?_
                      clear K hK
                      refine awpA_tk T_ok [5] [] (fuel := 1) [5, 4, 3, 2, 1, 0] (by decide +kernel) (by decide +kernel) rfl rfl fun K hK => ?_
                      simp [hG, List.getD_cons_zero, List.getD_cons_succ, -List.getD_eq_getElem?_getD, pureOp, alGet_put]
                      refine hK _ ?_
                      clear K hK
                      refine awpA_only (fuel := 0) (i := 6) (by decide +kernel) ?_
                      refine awpO_estore (id := (4, 0)) (l := mpE edK intV (cnM g (cLs g v m) k)) (r := ((alFind (cnM g (cLs g v m) k) 0 (⟨(parA g (cLs g v m) g.states.toNat).getD ((splG g (cLs g v m)).edges.getD k de).frm.toNat 0, ((splG g (cLs g v m)).edges.getD k de).lab, (parA g (cLs g v m) g.states.toNat).getD ((splG g (cLs g v m)).edges.getD k de).to.toNat 0⟩ : Edge)).map fun p => (p.1, intV p.2))) (q := q) (k := edK (⟨(parA g (cLs g v m) g.states.toNat).getD ((splG g (cLs g v m)).edges.getD k de).frm.toNat 0, ((splG g (cLs g v m)).edges.getD k de).lab, (parA g (cLs g v m) g.states.toNat).getD ((splG g (cLs g v m)).edges.getD k de).to.toNat 0⟩ : Edge)) (v0 := .int .i64 ((alGet (cnM g (cLs g v m) k) (⟨(parA g (cLs g v m) g.states.toNat).getD ((splG g (cLs g v m)).edges.getD k de).frm.toNat 0, ((splG g (cLs g v m)).edges.getD k de).lab, (parA g (cLs g v m) g.states.toNat).getD ((splG g (cLs g v m)).edges.getD k de).to.toNat 0⟩ : Edge)).getD 0)) rfl rfl rfl (by simp [hG, List.getD_cons_zero, List.getD_cons_succ, -List.getD_eq_getElem?_getD, pureOp, alGet_put]) (by simp [hG, List.getD_cons_zero, List.getD_cons_succ, -List.getD_eq_getElem?_getD, pureOp, alGet_put]) alFind_lt2 (by simp [hG, List.getD_cons_zero, List.getD_cons_succ, -List.getD_eq_getElem?_getD, pureOp, alGet_put]) (by simp [hG, List.getD_cons_zero, List.getD_cons_succ, -List.getD_eq_getElem?_getD, pureOp, alGet_put]) (by simp [wOK]) fun K hK => ?_
                      simp [hG, List.getD_cons_zero, List.getD_cons_succ, -List.getD_eq_getElem?_getD, pureOp, alGet_put]
                      refine hK _ ?_
                      clear K hK
                      refine awpA_done (by decide +kernel) ?_
                      refine awpS_nil ?_
                      refine blockQ_norm (thenQ_norm ?_)
                      refine awpS_reg T_ok fun K hK => ?_
                      simp [hG, List.getD_cons_zero, List.getD_cons_succ, -List.getD_eq_getElem?_getD, pureOp, alGet_put]
                      refine ⟨Cond.mk (by omega), hK _ ?_⟩
                      clear K hK
                      refine awpS_nil ?_
                      refine round_end (k + 1) (by omega) (by omega) ?_
                      refine wk_of (id) (fun _ => false) (fun _ => false) ?_ ?_ rfl (Nat.zero_le _) (fun k hk => absurd hk (Nat.not_lt_zero _))
                      · simp [hG, List.getD_cons_zero, List.getD_cons_succ, -List.getD_eq_getElem?_getD, pureOp, alGet_put]
                      · simp [hG, List.getD_cons_zero, List.getD_cons_succ, -List.getD_eq_getElem?_getD, pureOp, alGet_put, frmM_succ, cnM_succ, hok, spEs]
                    ·
                      refine awpO_entry T_ok T43 rfl T3 (id := (4, 0)) (l := mpE edK intV (cnM g (cLs g v m) k)) (r := ((alFind (cnM g (cLs g v m) k) 0 (⟨(parA g (cLs g v m) g.states.toNat).getD ((splG g (cLs g v m)).edges.getD k de).frm.toNat 0, ((splG g (cLs g v m)).edges.getD k de).lab, (parA g (cLs g v m) g.states.toNat).getD ((splG g (cLs g v m)).edges.getD k de).to.toNat 0⟩ : Edge)).map fun p => (p.1, intV p.2))) rfl rfl rfl (by simp [hG, List.getD_cons_zero, List.getD_cons_succ, -List.getD_eq_getElem?_getD, pureOp, alGet_put]) (by simp [hG, List.getD_cons_zero, List.getD_cons_succ, -List.getD_eq_getElem?_getD, pureOp, alGet_put]) (by simp [hG, List.getD_cons_zero, List.getD_cons_succ, -List.getD_eq_getElem?_getD, pureOp, alGet_put]) (by simp [hG, List.getD_cons_zero, List.getD_cons_succ, -List.getD_eq_getElem?_getD, pureOp, alGet_put]) (by simp [hG, List.getD_cons_zero, List.getD_cons_succ, -List.getD_eq_getElem?_getD, pureOp, alGet_put]) (by simp [wOK]) fun K hK q => ?_
                      simp [hG, List.getD_cons_zero, List.getD_cons_succ, -List.getD_eq_getElem?_getD, pureOp, alGet_put, mkL]
                      refine hK _ ?_
                      clear K hK
                      refine awpA_tk T_ok [5] [] (fuel := 3) [5, 4, 1, 0] (by decide +kernel) (by decide +kernel) rfl rfl fun K hK => ?_
                      simp [hG, List.getD_cons_zero, List.getD_cons_succ, -List.getD_eq_getElem?_getD, pureOp, alGet_put]
                      refine hK _ ?_
                      clear K hK
                      refine awpA_only (fuel := 2) (i := 2) (by decide +kernel) ?_
                      refine awpO_reg T_ok rfl ?_ fun K hK => ?_
                      · simp [hG, List.getD_cons_zero, List.getD_cons_succ, -List.getD_eq_getElem?_getD, pureOp, alGet_put]; try exact trivial
                      simp [hG, List.getD_cons_zero, List.getD_cons_succ, -List.getD_eq_getElem?_getD, pureOp, alGet_put]
                      refine hK _ ?_
                      clear K hK
                      refine awpA_tk T_ok [3] [] (fuel := 1) [3, 2, 5, 4, 1, 0] (by decide +kernel) (by decide +kernel) rfl rfl fun K hK => ?_
                      simp [hG, List.getD_cons_zero, List.getD_cons_succ, -List.getD_eq_getElem?_getD, pureOp, alGet_put]
                      refine ⟨Cond.mk (by simp [-List.getD_eq_getElem?_getD]; (repeat (first | assumption | intro _ | exact And.intro ‹_› ‹_› | apply And.intro | omega | exact trivial | exact decide_eq_true (by assumption)))), hK _ ?_⟩
                      clear K hK
                      refine awpA_only (fuel := 0) (i := 6) (by decide +kernel) ?_
                      refine awpO_estore (id := (4, 0)) (l := mpE edK intV (cnM g (cLs g v m) k)) (r := ((alFind (cnM g (cLs g v m) k) 0 (⟨(parA g (cLs g v m) g.states.toNat).getD ((splG g (cLs g v m)).edges.getD k de).frm.toNat 0, ((splG g (cLs g v m)).edges.getD k de).lab, (parA g (cLs g v m) g.states.toNat).getD ((splG g (cLs g v m)).edges.getD k de).to.toNat 0⟩ : Edge)).map fun p => (p.1, intV p.2))) (q := q) (k := edK (⟨(parA g (cLs g v m) g.states.toNat).getD ((splG g (cLs g v m)).edges.getD k de).frm.toNat 0, ((splG g (cLs g v m)).edges.getD k de).lab, (parA g (cLs g v m) g.states.toNat).getD ((splG g (cLs g v m)).edges.getD k de).to.toNat 0⟩ : Edge)) (v0 := .int .i64 ((alGet (cnM g (cLs g v m) k) (⟨(parA g (cLs g v m) g.states.toNat).getD ((splG g (cLs g v m)).edges.getD k de).frm.toNat 0, ((splG g (cLs g v m)).edges.getD k de).lab, (parA g (cLs g v m) g.states.toNat).getD ((splG g (cLs g v m)).edges.getD k de).to.toNat 0⟩ : Edge)).getD 0)) rfl rfl rfl (by simp [hG, List.getD_cons_zero, List.getD_cons_succ, -List.getD_eq_getElem?_getD, pureOp, alGet_put]) (by simp [hG, List.getD_cons_zero, List.getD_cons_succ, -List.getD_eq_getElem?_getD, pureOp, alGet_put]) alFind_lt2 (by simp [hG, List.getD_cons_zero, List.getD_cons_succ, -List.getD_eq_getElem?_getD, pureOp, alGet_put]) (by simp [hG, List.getD_cons_zero, List.getD_cons_succ, -List.getD_eq_getElem?_getD, pureOp, alGet_put]) (by simp [wOK]) fun K hK => ?_
                      simp [hG, List.getD_cons_zero, List.getD_cons_succ, -List.getD_eq_getElem?_getD, pureOp, alGet_put]
                      refine hK _ ?_
                      clear K hK
                      refine awpA_done (by decide +kernel) ?_
                      refine awpS_nil ?_
                      refine blockQ_norm (thenQ_norm ?_)
                      refine awpS_reg T_ok fun K hK => ?_
                      simp [hG, List.getD_cons_zero, List.getD_cons_succ, -List.getD_eq_getElem?_getD, pureOp, alGet_put]
                      refine ⟨Cond.mk (by omega), hK _ ?_⟩
                      clear K hK
                      refine awpS_nil ?_
                      refine round_end (k + 1) (by omega) (by omega) ?_
                      refine wk_of (id) (fun _ => false) (fun _ => false) ?_ ?_ rfl (Nat.zero_le _) (fun k hk => absurd hk (Nat.not_lt_zero _))
                      · simp [hG, List.getD_cons_zero, List.getD_cons_succ, -List.getD_eq_getElem?_getD, pureOp, alGet_put]
                      · simp [hG, List.getD_cons_zero, List.getD_cons_succ, -List.getD_eq_getElem?_getD, pureOp, alGet_put, frmM_succ, cnM_succ, hok, spEs]
                ·
                  try simp [-List.getD_eq_getElem?_getD] at hb99
                  obtain rfl : k = (splG g (cLs g v m)).edges.length := (by omega)
                  refine awpS_exit ?_
                  refine thenQ_exit (thenQ_exit ?_)
                  refine blockQ_exit (thenQ_norm ?_)
                  refine awpS_seq ?_
                  refine awpS_seq ?_
                  refine awpS_reg T_ok fun K hK => ?_
                  simp [hG, List.getD_cons_zero, List.getD_cons_succ, -List.getD_eq_getElem?_getD, pureOp, alGet_put]
                  refine hK _ ?_
                  clear K hK
                  refine awpS_block ?_
                  refine awpS_loop (α := Nat) (fun i => ⟨[(13, .sl (2, 0) 0 g.states.toNat), (17, .map (4, 0)), (140, edgesC g.edges), (141, .int .i64 g.edges.length), (142, .int .i64 (i : Nat))], [(0, .one (.arr 1 3 (fun _ => grF g))), (1, .one (.arr 1 3 (fun _ => grF (splG g (cLs g v m))))), (2, .one (.arr g.states.toNat 1 (fun s _ => .int .i64 (chN (parA g (cLs g v m) g.states.toNat) (parA g (cLs g v m) g.states.toNat).length s)))), (3, .one (.mp (mpE edK intV (frmM g (cLs g v m) (splG g (cLs g v m)).edges.length)))), (4, .one (.mp (mpE edK intV (dlM g (cLs g v m) i))))], 5⟩) (fun i => i ≤ g.edges.length) (fun i => g.edges.length - i) (0) (Nat.zero_le _) ?_ ?_
                  ·
                    refine wk_of (id) (fun _ => false) (fun _ => false) ?_ ?_ rfl (Nat.zero_le _) (fun k hk => absurd hk (Nat.not_lt_zero _))
                    · simp [hG, List.getD_cons_zero, List.getD_cons_succ, -List.getD_eq_getElem?_getD, pureOp, alGet_put]
                    · simp [hG, List.getD_cons_zero, List.getD_cons_succ, -List.getD_eq_getElem?_getD, pureOp, alGet_put, dlM_zero, spEs]
                  ·
                    rintro i hi
                    refine awpS_seq ?_
                    refine awpS_reg T_ok fun K hK => ?_
                    simp [hG, List.getD_cons_zero, List.getD_cons_succ, -List.getD_eq_getElem?_getD, pureOp, alGet_put]
                    refine hK _ ?_
                    clear K hK
                    refine awpS_seq ?_
                    refine awpS_cond rfl (fun hb143 => ?_) (fun hb143 => ?_)
                    ·
                      try simp [-List.getD_eq_getElem?_getD] at hb143
                      have hil : i < g.edges.length := (by omega)
                      have heb := edge_at hRd.gv hil
                      have hct := hRd.count hil
                      refine awpS_skip ?_
                      refine awpS_seq ?_
                      refine awpS_block ?_
                      refine awpS_seq ?_
                      refine awpS_reg T_ok fun K hK => ?_
                      simp [hG, List.getD_cons_zero, List.getD_cons_succ, -List.getD_eq_getElem?_getD, pureOp, alGet_put]
                      refine ⟨Cond.mk (by simp [-List.getD_eq_getElem?_getD]; omega), hK _ ?_⟩
                      clear K hK
                      refine awpS_seq ?_
                      refine awpS_seq ?_
                      refine awpS_draw hR mixed [] ⟨[], [], []⟩ fun mu0 => ?_
                      refine awpA_tk T_ok [0, 1, 3, 4, 5, 6, 7] [] (fuel := 2) [7, 6, 5, 4, 3, 1, 0] (by decide +kernel) (by decide +kernel) rfl rfl fun K hK => ?_
                      simp [hG, List.getD_cons_zero, List.getD_cons_succ, -List.getD_eq_getElem?_getD, pureOp, alGet_put]
                      refine ⟨Cond.mk (by omega), hK _ ?_⟩
                      clear K hK
                      refine awpA_only (fuel := 1) (i := 2) (by decide +kernel) ?_
                      refine awpO_reg T_ok rfl ?_ fun K hK => ?_
                      · simp [hG, List.getD_cons_zero, List.getD_cons_succ, -List.getD_eq_getElem?_getD, pureOp, alGet_put]; try exact trivial
                      simp [hG, List.getD_cons_zero, List.getD_cons_succ, -List.getD_eq_getElem?_getD, pureOp, alGet_put]
                      refine hK _ ?_
                      clear K hK
                      refine awpA_tk T_ok [8] [] (fuel := 0) [8, 2, 7, 6, 5, 4, 3, 1, 0] (by decide +kernel) (by decide +kernel) rfl rfl fun K hK => ?_
                      simp [hG, List.getD_cons_zero, List.getD_cons_succ, -List.getD_eq_getElem?_getD, pureOp, alGet_put]
                      refine hK _ ?_
                      clear K hK
                      refine awpA_done (by decide +kernel) ?_
                      refine awpS_cond rfl (fun hb154 => ?_) (fun hb154 => ?_)
                      ·
                        exfalso; simp [-List.getD_eq_getElem?_getD] at hb154; exact hb154 hct
                      ·
                        try simp [-List.getD_eq_getElem?_getD] at hb154
                        refine awpS_skip ?_
                        refine awpS_regL ?_
                        refine awpL_reg T_ok 2 fun K hK => ?_
                        simp [hG, List.getD_cons_zero, List.getD_cons_succ, -List.getD_eq_getElem?_getD, pureOp, alGet_put]
                        refine hK _ ?_
                        clear K hK
                        refine awpL_del T_ok T43 rfl (id := (4, 0)) (l := mpE edK intV (dlM g (cLs g v m) i)) (r := ((alFind (dlM g (cLs g v m) i) 0 (⟨(g.edges.getD i de).frm, (g.edges.getD i de).lab, (g.edges.getD i de).to⟩ : Edge)).map fun p => (p.1, intV p.2))) rfl rfl rfl (by simp [hG, List.getD_cons_zero, List.getD_cons_succ, -List.getD_eq_getElem?_getD, pureOp, alGet_put]) (by simp [hG, List.getD_cons_zero, List.getD_cons_succ, -List.getD_eq_getElem?_getD, pureOp, alGet_put]) (by simp [hG, List.getD_cons_zero, List.getD_cons_succ, -List.getD_eq_getElem?_getD, pureOp, alGet_put]) (by simp [hG, List.getD_cons_zero, List.getD_cons_succ, -List.getD_eq_getElem?_getD, pureOp, alGet_put]) (by simp [hG, List.getD_cons_zero, List.getD_cons_succ, -List.getD_eq_getElem?_getD, pureOp, alGet_put]) fun K hK => ?_
                        simp [hG, List.getD_cons_zero, List.getD_cons_succ, -List.getD_eq_getElem?_getD, pureOp, alGet_put, delK_mpE]
                        refine hK _ ?_
                        clear K hK
                        refine awpL_nil ?_
                        refine awpS_nil ?_
                        refine blockQ_norm (thenQ_norm ?_)
                        refine awpS_reg T_ok fun K hK => ?_
                        simp [hG, List.getD_cons_zero, List.getD_cons_succ, -List.getD_eq_getElem?_getD, pureOp, alGet_put]
                        refine ⟨Cond.mk (by omega), hK _ ?_⟩
                        clear K hK
                        refine awpS_nil ?_
                        refine round_end (i + 1) (by omega) (by omega) ?_
                        refine wk_of (id) (fun _ => false) (fun _ => false) ?_ ?_ rfl (Nat.zero_le _) (fun k hk => absurd hk (Nat.not_lt_zero _))
                        · simp [hG, List.getD_cons_zero, List.getD_cons_succ, -List.getD_eq_getElem?_getD, pureOp, alGet_put]
                        · simp [hG, List.getD_cons_zero, List.getD_cons_succ, -List.getD_eq_getElem?_getD, pureOp, alGet_put, dlM_succ]
                    ·
                      try simp [-List.getD_eq_getElem?_getD] at hb143
                      obtain rfl : i = g.edges.length := (by omega)
                      have hdl := hRd.dlM_all
                      refine awpS_exit ?_
                      refine thenQ_exit (thenQ_exit ?_)
                      refine blockQ_exit (thenQ_norm ?_)
                      refine awpS_seq ?_
                      refine awpS_regL ?_
                      refine awpL_reg T_ok 1 fun K hK => ?_
                      simp [hG, List.getD_cons_zero, List.getD_cons_succ, -List.getD_eq_getElem?_getD, pureOp, alGet_put]
                      refine hK _ ?_
                      clear K hK
                      refine awpL_lenm T_ok T43 rfl (id := (4, 0)) (l := mpE edK intV (dlM g (cLs g v m) g.edges.length)) rfl rfl (by simp [hG, List.getD_cons_zero, List.getD_cons_succ, -List.getD_eq_getElem?_getD, pureOp, alGet_put]) (by simp [hG, List.getD_cons_zero, List.getD_cons_succ, -List.getD_eq_getElem?_getD, pureOp, alGet_put]) (by simp [hG, List.getD_cons_zero, List.getD_cons_succ, -List.getD_eq_getElem?_getD, pureOp, alGet_put]) fun K hK => ?_
                      simp [hG, List.getD_cons_zero, List.getD_cons_succ, -List.getD_eq_getElem?_getD, pureOp, alGet_put]
                      refine hK _ ?_
                      clear K hK
                      refine awpL_reg T_ok 2 fun K hK => ?_
                      simp [hG, List.getD_cons_zero, List.getD_cons_succ, -List.getD_eq_getElem?_getD, pureOp, alGet_put]
                      refine hK _ ?_
                      clear K hK
                      refine awpL_call cal9 rfl rfl (fun _ => rfl) (fun hg => awake_c) (fun hg => ?_) (fun hg => ?_) fun K hK => ?_
                      · first | (simp [hG, List.getD_cons_zero, List.getD_cons_succ, -List.getD_eq_getElem?_getD, pureOp, alGet_put]; done) | (simp [-List.getD_eq_getElem?_getD] at hg; done) | (simp [-List.getD_eq_getElem?_getD] at hg; simp [hG, List.getD_cons_zero, List.getD_cons_succ, -List.getD_eq_getElem?_getD, pureOp, alGet_put]; first | omega | exact hg | (simp_all [-List.getD_eq_getElem?_getD]; done) | (simp_all [-List.getD_eq_getElem?_getD]; first | exact ⟨rfl, rfl⟩ | exact rfl))
                      · first | (simp [hG, List.getD_cons_zero, List.getD_cons_succ, -List.getD_eq_getElem?_getD, pureOp, alGet_put]; done) | (simp [-List.getD_eq_getElem?_getD] at hg; done) | (simp [-List.getD_eq_getElem?_getD] at hg; simp [hG, List.getD_cons_zero, List.getD_cons_succ, -List.getD_eq_getElem?_getD, pureOp, alGet_put]; first | omega | exact hg | (simp_all [-List.getD_eq_getElem?_getD]; done) | (simp_all [-List.getD_eq_getElem?_getD]; first | exact ⟨rfl, rfl⟩ | exact rfl))
                      simp [hG, List.getD_cons_zero, List.getD_cons_succ, -List.getD_eq_getElem?_getD, pureOp, alGet_put]
                      refine hK _ ?_
                      clear K hK
                      refine awpL_reg T_ok 2 fun K hK => ?_
                      simp [hG, List.getD_cons_zero, List.getD_cons_succ, -List.getD_eq_getElem?_getD, pureOp, alGet_put]
                      refine hK _ ?_
                      clear K hK
                      refine awpL_nil ?_
                      refine awpS_ret ?_
                      refine RetOK_of ?_
                      simp [hG, List.getD_cons_zero, List.getD_cons_succ, -List.getD_eq_getElem?_getD, pureOp, alGet_put]
                      simp [hdl]

end Go.Proofs.Ythpdkmoedpcboaa
