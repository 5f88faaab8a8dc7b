/-
  Walks: graph.Step.
-/
import Derived.Test.YtdojahjhijkbhaaGreatDoorPG
import Derived.Test.YtdojahjhijkbhaaGreatDoorSI
import Derived.Test.YtdojahjhijkbhaaGreatDoorVB
namespace Go.Lift
set_option linter.unusedSimpArgs false
set_option linter.unusedVariables false
variable {P : Program} {G : Gh} {n0 : Nat}
/-- a branch that is known by the text. -/
theorem awpS_condC {b : Bool} {x y : Code} {cs : List Code} {Q : Exit → St → Prop} {st : St} (h : AwpS P G n0 ((if b = true then x else y) :: cs) Q st) : AwpS P G n0 (.cond (.const (.bool b)) x y :: cs) Q st := by
  intro mu a w hs hn Q' hQ
  refine wpIn_cond_split (a := a) (c := .const (.bool b)) (t := b) rfl (fun hb => ?_) (fun hb => ?_)
  · subst hb; exact h mu a w hs hn Q' hQ
  · subst hb; exact h mu a w hs hn Q' hQ
end Go.Lift
namespace Go.Proofs.YtdojahjhijkbhaaGreatDoor
set_option linter.unusedSimpArgs false
set_option linter.unusedVariables false
open Go Go.Lift Go.Proofs

def len8 (n : Nat) : Int := if n = 0 then 0 else if n < 2 then 1 else if n < 4 then 2 else if n < 8 then 3 else 4
theorem lt13 {n : Nat} (h : n < 13) : n = 0 ∨ n = 1 ∨ n = 2 ∨ n = 3 ∨ n = 4 ∨ n = 5 ∨ n = 6 ∨ n = 7 ∨ n = 8 ∨ n = 9 ∨ n = 10 ∨ n = 11 ∨ n = 12 := by omega
theorem app_oneI {K : List Int} {x : Int} {w : Nat → Nat → AVal} {i : Nat} (hw : w 0 0 = .int .i64 x) (hi : i < K.length + 1) : app (fun p _ => .int .i64 (K.getD p 0)) K.length w i 0 = .int .i64 ((K ++ [x]).getD i 0) := by
  unfold app
  by_cases h : i < K.length
  · rw [if_pos h]; simp [List.getD, List.getElem?_append_left h]
  · obtain rfl : i = K.length := by omega
    rw [if_neg h, Nat.sub_self, hw]; simp [List.getD]
theorem clr_endI {l : List Int} {i : Nat} (hi : i < l.length) : clr (fun i _ => AVal.int .i64 (ddG 0 l l.length i)) (ddAt 0 l l.length).length (l.length - (ddAt 0 l l.length).length) (fun j => [AVal.int .i64 0].getD j .any) i 0 = .int .i64 ((ddL 0 l).getD i 0) := by
  unfold clr ddL
  have hle := dd_len (d := 0) (l := l) (k := l.length)
  by_cases h : (ddAt 0 l l.length).length ≤ i
  · rw [if_pos (by omega), show (ddAt 0 l l.length).getD i 0 = 0 by simp [List.getD, List.getElem?_eq_none h]]; rfl
  · rw [if_neg (by omega)]
    show AVal.int .i64 (ddG 0 l l.length i) = _
    unfold ddG; rw [if_pos (by omega)]
theorem ddL_shortI {l : List Int} (h : l.length < 2) : ddL 0 l = l := ddL_none fun j hj h1 => by omega
@[simp] theorem VLe_ylk {h : Heap} {σ : Lift.Id → Lift.Id} {fz : Nat → Bool} {vz : Lift.Id → Bool} {nx l : Nat} {vs : Array Value} {k : Int} : VLe h σ fz vz nx (.yld l vs 2 (fun j => [.vptr 1 (fun _ => .int .i64 k) 0, .ptr (0, 0) 0 0].getD j .any)) (.yld l vs 2 (fun j => [.vptr 1 (fun _ => .int .i64 k) 0, .ptr (0, 0) 0 0].getD j .any)) = (0 < nx ∧ vz (0, 0) = false ∧ (0, 0) = σ (0, 0)) := by
  apply propext
  constructor
  · intro h
    have h1 := h.2.2.2 1 (by decide)
    have h2 : 0 < nx ∧ vz (0, 0) = false ∧ (AVal.ptr (0, 0) 0 0) = .ptr (σ (0, 0)) 0 0 := h1
    refine ⟨h2.1, h2.2.1, ?_⟩
    have := h2.2.2
    injection this
  · rintro ⟨h1, h2, h3⟩
    refine ⟨rfl, rfl, rfl, fun j hj => ?_⟩
    match j, hj with
    | 0, _ => exact ⟨rfl, rfl, fun j _ => ⟨rfl, rfl⟩⟩
    | 1, _ => exact ⟨h1, h2, by rw [← h3]; rfl⟩
set_option maxRecDepth 100000 in
theorem stepB_y (k : Int) (x : Edge) (q : Int) (K : List Int) (hK : K.length ≤ 100000) {l : Nat} {rec : Loop} {vs : Array Value} (hok : RecOK rec [5, 9] vs #[40, 41] (rngA Tryz.f26.body 0) (rngB Tryz.f26.body 0) 56) : YC Tryz.prog l rec vs ([.int .i64 q, .agg 3 (edgeF x)] ++ [.vptr 1 (fun _ => .int .i64 k) 0, .ptr (0, 0) 0 0]) [(0, .one (.arr 1 1 (fun _ _ => .sl (1, 0) 0 (K).length))), (1, .one (.arr (K).length 1 (fun p _ => .int .i64 ((K).getD p 0))))] 2 (fun _ : Unit => True) (fun _ : Unit => .bool true) (fun _ : Unit => [(0, .one (.arr 1 1 (fun _ _ => .sl (2, 0) 0 ((if x.lab = k then K ++ [x.to] else K)).length))), (2, .one (.arr ((if x.lab = k then K ++ [x.to] else K)).length 1 (fun p _ => .int .i64 (((if x.lab = k then K ++ [x.to] else K)).getD p 0))))]) (fun _ : Unit => 3) := by
  refine YC_introS hok rfl rfl (by simp [nobH, nobO]) rfl (by simp) rfl fun G hG hR => ?_
  show AwpS _ _ _ _ _ ⟨[(41, .agg 3 (edgeF x)), (40, .int .i64 q), (5, .vptr 1 (fun _ => .int .i64 k) 0), (9, .ptr (0, 0) 0 0)], [(0, .one (.arr 1 1 (fun _ _ => .sl (1, 0) 0 (K).length))), (1, .one (.arr (K).length 1 (fun p _ => .int .i64 ((K).getD p 0))))], 2⟩
  refine awpS_reg T_ok fun K hK => ?_
  simp [hG, List.getD_cons_zero, List.getD_cons_succ, -List.getD_eq_getElem?_getD]
  refine ⟨Cond.mk (by exact trivial), hK _ ?_⟩
  clear K hK
  refine awpS_nil ?_
  refine ⟨rfl, fun G hG hR => ?_⟩
  refine awpS_block ?_
  refine awpS_seq ?_
  refine awpS_reg T_ok fun K hK => ?_
  simp [hG, List.getD_cons_zero, List.getD_cons_succ, -List.getD_eq_getElem?_getD]
  refine hK _ ?_
  clear K hK
  refine awpS_cond rfl (fun hb45 => ?_) (fun hb45 => ?_)
  ·
    try simp [-List.getD_eq_getElem?_getD] at hb45
    refine awpS_reg T_ok fun K hK => ?_
    simp [hG, List.getD_cons_zero, List.getD_cons_succ, -List.getD_eq_getElem?_getD]
    refine ⟨Cond.mk (by omega), hK _ ?_⟩
    clear K hK
    refine awpS_nil ?_
    refine blockQ_norm (thenQ_norm ?_)
    refine awpS_nil ?_
    refine ⟨rfl, RetY_of (()) (fun k => if k = 2 then 4 else k) (fun _ => false) (fun _ => false) trivial ?_ (by rfl) (by simp) (fun k hk => ⟨if_neg (by omega), rfl⟩)⟩
    · rw [if_pos hb45]; simp [hG, List.getD_cons_zero, List.getD_cons_succ, -List.getD_eq_getElem?_getD]; exact fun i hi => app_oneI rfl hi
  ·
    try simp [-List.getD_eq_getElem?_getD] at hb45
    refine awpS_skip ?_
    refine awpS_nil ?_
    refine blockQ_norm (thenQ_norm ?_)
    refine awpS_nil ?_
    refine ⟨rfl, RetY_of (()) (fun k => if k = 2 then 1 else k) (fun _ => false) (fun _ => false) trivial ?_ (by rfl) (by simp) (fun k hk => ⟨if_neg (by omega), rfl⟩)⟩
    · rw [if_neg hb45]; simp [hG, List.getD_cons_zero, List.getD_cons_succ, -List.getD_eq_getElem?_getD]

set_option maxRecDepth 100000 in
theorem cloneI_c (l : List Int) (hl : l.length ≤ 1000000) : FC1 Tryz.prog 90 [ints l] [] 0 (.sl (0, 0) 0 l.length) [(0, .one (.arr l.length 1 (fun i _ => .int .i64 (l.getD i 0))))] 1 := by
  refine FC_introS T_ok Tryz.func90 rfl (by simp [Tryz.ntmps90]) fun G hG hR => ?_
  simp only [Tryz.ntmps90, Tryz.results90] at hG ⊢
  simp only [argEnv, Nat.zero_add, Nat.reduceAdd]
  refine awpS_seq ?_
  refine awpS_reg T_ok fun K hK => ?_
  simp [hG, List.getD_cons_zero, List.getD_cons_succ, -List.getD_eq_getElem?_getD]
  refine hK _ ?_
  clear K hK
  refine awpS_seq ?_
  refine awpS_seq ?_
  refine awpS_reg T_ok fun K hK => ?_
  simp [hG, List.getD_cons_zero, List.getD_cons_succ, -List.getD_eq_getElem?_getD]
  refine hK _ ?_
  clear K hK
  refine awpS_condU rfl (fun hb4 => ?_) ?_
  ·
    refine awpS_seq ?_
    refine awpS_reg T_ok fun K hK => ?_
    simp [hG, List.getD_cons_zero, List.getD_cons_succ, -List.getD_eq_getElem?_getD]
    refine hK _ ?_
    clear K hK
    refine awpS_ret ?_
    refine RetF_of (()) (id) (fun _ => false) (fun _ => true) trivial ?_ ?_ (by rfl) (by simp) (fun k hk => absurd hk (Nat.not_lt_zero _))
    · simp [hG]; exact hb4
    · simp [hG]; exact hb4
  ·
    refine awpS_skip ?_
    refine awpS_seq ?_
    refine awpS_reg T_ok fun K hK => ?_
    simp [hG, List.getD_cons_zero, List.getD_cons_succ, -List.getD_eq_getElem?_getD]
    refine ⟨Cond.mk (by omega), hK _ ?_⟩
    clear K hK
    refine awpS_ret ?_
    refine RetF_of (()) (fun _ => 1) (fun _ => false) (fun _ => false) trivial ?_ ?_ (by rfl) (by simp) (fun k hk => absurd hk (Nat.not_lt_zero _))
    · simp [hG, List.getD_cons_zero, List.getD_cons_succ, -List.getD_eq_getElem?_getD]
    · simp [hG, List.getD_cons_zero, List.getD_cons_succ, -List.getD_eq_getElem?_getD]

set_option maxRecDepth 100000 in
theorem bitLen64_c (n : Nat) (hn : n < 13) : PC Tryz.prog 111 [.int .u64 n] (.int .i64 (len8 n)) := by
  refine PC_introS T_ok Tryz.func111 rfl (by simp [Tryz.ntmps111]) fun G hG hR => ?_
  simp only [Tryz.ntmps111, Tryz.results111] at hG ⊢
  simp only [argEnv, Nat.zero_add, Nat.reduceAdd]
  refine awpS_seq ?_
  refine awpS_reg T_ok fun K hK => ?_
  simp [hG, List.getD_cons_zero, List.getD_cons_succ, -List.getD_eq_getElem?_getD]
  refine hK _ ?_
  clear K hK
  refine awpS_seq ?_
  refine awpS_seq ?_
  refine awpS_reg T_ok fun K hK => ?_
  simp [hG, List.getD_cons_zero, List.getD_cons_succ, -List.getD_eq_getElem?_getD]
  refine hK _ ?_
  clear K hK
  refine awpS_cond rfl (fun hb4 => ?_) (fun hb4 => ?_)
  ·
    exact absurd hb4 (by simp; omega)
  ·
    try simp [-List.getD_eq_getElem?_getD] at hb4
    refine awpS_skip ?_
    refine awpS_seq ?_
    refine awpS_seq ?_
    refine awpS_reg T_ok fun K hK => ?_
    simp [hG, List.getD_cons_zero, List.getD_cons_succ, -List.getD_eq_getElem?_getD]
    refine hK _ ?_
    clear K hK
    refine awpS_cond rfl (fun hb8 => ?_) (fun hb8 => ?_)
    ·
      exact absurd hb8 (by simp; omega)
    ·
      try simp [-List.getD_eq_getElem?_getD] at hb8
      refine awpS_skip ?_
      refine awpS_seq ?_
      refine awpS_seq ?_
      refine awpS_reg T_ok fun K hK => ?_
      simp [hG, List.getD_cons_zero, List.getD_cons_succ, -List.getD_eq_getElem?_getD]
      refine hK _ ?_
      clear K hK
      refine awpS_cond rfl (fun hb14 => ?_) (fun hb14 => ?_)
      ·
        exact absurd hb14 (by simp; omega)
      ·
        try simp [-List.getD_eq_getElem?_getD] at hb14
        refine awpS_skip ?_
        refine awpS_seq ?_
        refine awpS_reg T_ok fun K hK => ?_
        simp [hG, List.getD_cons_zero, List.getD_cons_succ, -List.getD_eq_getElem?_getD]
        first | refine hK _ ?_ | refine ⟨Cond.mk (by have hu : ∀ b : UInt8, ((b.toNat : Nat) : Int) ≤ 9223372036854775807 := fun b => (by have := b.toNat_lt; omega); exact ⟨by omega, by omega, hu _⟩), hK _ ?_⟩
        clear K hK
        refine awpS_ret ?_
        refine RetOK_of ?_
        simp [hG, List.getD_cons_zero, List.getD_cons_succ, -List.getD_eq_getElem?_getD]
        rcases lt13 hn with rfl | rfl | rfl | rfl | rfl | rfl | rfl | rfl | rfl | rfl | rfl | rfl | rfl <;> rfl

set_option maxRecDepth 100000 in
theorem bitLen_c (n : Nat) (hn : n < 13) : PC Tryz.prog 88 [.int .u64 n] (.int .i64 (len8 n)) := by
  refine PC_introS T_ok Tryz.func88 rfl (by simp [Tryz.ntmps88]) fun G hG hR => ?_
  simp only [Tryz.ntmps88, Tryz.results88] at hG ⊢
  simp only [argEnv, Nat.zero_add, Nat.reduceAdd]
  refine awpS_seq ?_
  refine awpS_reg T_ok fun K hK => ?_
  simp [hG, List.getD_cons_zero, List.getD_cons_succ, -List.getD_eq_getElem?_getD]
  refine hK _ ?_
  clear K hK
  refine awpS_seq ?_
  refine awpS_condC (b := false) ?_
  simp only [if_true, if_false, Bool.false_eq_true]
  refine awpS_skip ?_
  refine awpS_seq ?_
  refine awpS_regL ?_
  refine awpL_reg T_ok 1 fun K hK => ?_
  simp [hG, List.getD_cons_zero, List.getD_cons_succ, -List.getD_eq_getElem?_getD]
  refine hK _ ?_
  clear K hK
  refine awpL_call cal111 rfl rfl (fun _ => rfl) (fun hg => bitLen64_c n hn) (fun hg => ?_) (fun hg => ?_) fun K hK => ?_
  · simp [hG, List.getD_cons_zero, List.getD_cons_succ, -List.getD_eq_getElem?_getD]
  · simp [hG, List.getD_cons_zero, List.getD_cons_succ, -List.getD_eq_getElem?_getD]
  simp [hG, List.getD_cons_zero, List.getD_cons_succ, -List.getD_eq_getElem?_getD]
  refine hK _ ?_
  clear K hK
  refine awpL_reg T_ok 1 fun K hK => ?_
  simp [hG, List.getD_cons_zero, List.getD_cons_succ, -List.getD_eq_getElem?_getD]
  refine hK _ ?_
  clear K hK
  refine awpL_nil ?_
  refine awpS_ret ?_
  refine RetOK_of ?_
  simp [hG, List.getD_cons_zero, List.getD_cons_succ, -List.getD_eq_getElem?_getD]

set_option maxRecDepth 100000 in
theorem checkSet_c (g : Gr) (c : List Int) (hc : c.Pairwise (· < ·)) (hr : ∀ x ∈ c, 0 ≤ x ∧ x < g.states) (hl : c.length ≤ 64) : PC Tryz.prog 60 [.agg 3 (grF g), ints c] (.int .i64 0) := by
  refine PC_introS T_ok Tryz.func60 rfl (by simp [Tryz.ntmps60]) fun G hG hR => ?_
  simp only [Tryz.ntmps60, Tryz.results60] at hG ⊢
  simp only [argEnv, Nat.zero_add, Nat.reduceAdd]
  refine awpS_seq ?_
  refine awpS_reg T_ok fun K hK => ?_
  simp [hG, List.getD_cons_zero, List.getD_cons_succ, -List.getD_eq_getElem?_getD]
  refine ⟨Cond.mk (by exact trivial), hK _ ?_⟩
  clear K hK
  refine awpS_seq ?_
  refine awpS_seq ?_
  refine awpS_reg T_ok fun K hK => ?_
  simp [hG, List.getD_cons_zero, List.getD_cons_succ, -List.getD_eq_getElem?_getD]
  refine hK _ ?_
  clear K hK
  refine awpS_block ?_
  refine awpS_loop (α := Nat) (fun i => ⟨[(1, ints c), (2, .ptr (0, 0) 0 0), (4, .int .i64 0), (7, ints c), (8, .int .i64 c.length), (9, .int .i64 i)], [(0, .one (.arr 1 3 (fun _ => grF g)))], 1⟩) (fun i => i ≤ c.length) (fun i => c.length - i) (0) (Nat.zero_le _) ?_ ?_
  ·
    refine wk_of (id) (fun _ => false) (fun _ => false) ?_ ?_ rfl (Nat.zero_le _) (fun k hk => absurd hk (Nat.not_lt_zero _))
    · simp [hG, List.getD_cons_zero, List.getD_cons_succ, -List.getD_eq_getElem?_getD]
    · simp [hG, List.getD_cons_zero, List.getD_cons_succ, -List.getD_eq_getElem?_getD]
  ·
    rintro i hi
    refine awpS_seq ?_
    refine awpS_reg T_ok fun K hK => ?_
    simp [hG, List.getD_cons_zero, List.getD_cons_succ, -List.getD_eq_getElem?_getD]
    refine hK _ ?_
    clear K hK
    refine awpS_seq ?_
    refine awpS_cond rfl (fun hb10 => ?_) (fun hb10 => ?_)
    ·
      try simp [-List.getD_eq_getElem?_getD] at hb10
      have hx := hr _ (getD_mem (d := 0) (show i < c.length by simpa using hb10))
      have hlt : 0 < i → c.getD (i - 1) 0 < c.getD i 0 := fun h => asc_lt hc (by simpa using hb10) (by omega)
      refine awpS_skip ?_
      refine awpS_seq ?_
      refine awpS_block ?_
      refine awpS_seq ?_
      refine awpS_reg T_ok fun K hK => ?_
      simp [hG, List.getD_cons_zero, List.getD_cons_succ, -List.getD_eq_getElem?_getD]
      refine ⟨Cond.mk (by omega), hK _ ?_⟩
      clear K hK
      refine awpS_seq ?_
      refine awpS_seq ?_
      refine awpS_reg T_ok fun K hK => ?_
      simp [hG, List.getD_cons_zero, List.getD_cons_succ, -List.getD_eq_getElem?_getD]
      refine ⟨Cond.mk (by simp [-List.getD_eq_getElem?_getD]), hK _ ?_⟩
      clear K hK
      refine awpS_cond rfl (fun hb21 => ?_) (fun hb21 => ?_)
      ·
        try simp [-List.getD_eq_getElem?_getD] at hb21
        refine awpS_seq ?_
        refine awpS_reg T_ok fun K hK => ?_
        simp [hG, List.getD_cons_zero, List.getD_cons_succ, -List.getD_eq_getElem?_getD]
        refine hK _ ?_
        clear K hK
        refine awpS_ret ?_
        refine blockQ_ret (thenQ_ret ?_)
        refine thenQ_ret (thenQ_ret ?_)
        refine blockQ_ret (thenQ_ret ?_)
        refine RetOK_of ?_
        simp [hG, List.getD_cons_zero, List.getD_cons_succ, -List.getD_eq_getElem?_getD]
        omega
      ·
        try simp [-List.getD_eq_getElem?_getD] at hb21
        refine awpS_skip ?_
        refine awpS_seq ?_
        refine awpS_reg T_ok fun K hK => ?_
        simp [hG, List.getD_cons_zero, List.getD_cons_succ, -List.getD_eq_getElem?_getD]
        refine ⟨Cond.mk (by simp [-List.getD_eq_getElem?_getD]; omega), hK _ ?_⟩
        clear K hK
        refine awpS_cond rfl (fun hb32 => ?_) (fun hb32 => ?_)
        ·
          try simp [-List.getD_eq_getElem?_getD] at hb32
          refine awpS_seq ?_
          refine awpS_reg T_ok fun K hK => ?_
          simp [hG, List.getD_cons_zero, List.getD_cons_succ, -List.getD_eq_getElem?_getD]
          refine hK _ ?_
          clear K hK
          refine awpS_ret ?_
          refine blockQ_ret (thenQ_ret ?_)
          refine thenQ_ret (thenQ_ret ?_)
          refine blockQ_ret (thenQ_ret ?_)
          refine RetOK_of ?_
          simp [hG, List.getD_cons_zero, List.getD_cons_succ, -List.getD_eq_getElem?_getD]
          have := hlt hb32.1; omega
        ·
          try simp [-List.getD_eq_getElem?_getD] at hb32
          refine awpS_skip ?_
          refine awpS_nil ?_
          refine blockQ_norm (thenQ_norm ?_)
          refine awpS_reg T_ok fun K hK => ?_
          simp [hG, List.getD_cons_zero, List.getD_cons_succ, -List.getD_eq_getElem?_getD]
          refine ⟨Cond.mk (by omega), hK _ ?_⟩
          clear K hK
          refine awpS_nil ?_
          refine round_end (i + 1) (by omega) (by omega) ?_
          refine wk_of (id) (fun _ => false) (fun _ => false) ?_ ?_ rfl (Nat.zero_le _) (fun k hk => absurd hk (Nat.not_lt_zero _))
          · simp [hG, List.getD_cons_zero, List.getD_cons_succ, -List.getD_eq_getElem?_getD]
          · simp [hG, List.getD_cons_zero, List.getD_cons_succ, -List.getD_eq_getElem?_getD]
    ·
      try simp [-List.getD_eq_getElem?_getD] at hb10
      refine awpS_exit ?_
      refine thenQ_exit (thenQ_exit ?_)
      refine blockQ_exit (thenQ_norm ?_)
      refine awpS_seq ?_
      refine awpS_reg T_ok fun K hK => ?_
      simp [hG, List.getD_cons_zero, List.getD_cons_succ, -List.getD_eq_getElem?_getD]
      refine hK _ ?_
      clear K hK
      refine awpS_ret ?_
      refine RetOK_of ?_
      simp [hG, List.getD_cons_zero, List.getD_cons_succ, -List.getD_eq_getElem?_getD]

set_option maxRecDepth 100000 in
theorem leavingIt_c (g : Gr) (k s : Int) (K : List Int) (hK : K.length ≤ 90000) (hed : g.edges.length ≤ 1024) (l : Nat) (rec : Loop) (vs : Array Value) (hok : RecOK rec [5, 9] vs #[40, 41] (rngA Tryz.f26.body 0) (rngB Tryz.f26.body 0) 56) : FCY Tryz.prog 86 l rec [.yld l vs 2 (fun j => [.vptr 1 (fun _ => .int .i64 k) 0, .ptr (0, 0) 0 0].getD j .any), .vptr 3 (grF g) 0, .vptr 1 (fun _ => .int .i64 s) 0] [(0, .one (.arr 1 1 (fun _ _ => .sl (1, 0) 0 (K).length))), (1, .one (.arr (K).length 1 (fun p _ => .int .i64 ((K).getD p 0))))] 2 (fun _ : Unit => True) (fun _ : Unit => .any) (fun _ : Unit => [(0, .one (.arr 1 1 (fun _ _ => .sl (2, 0) 0 (K ++ tgt g k s g.edges.length).length))), (2, .one (.arr (K ++ tgt g k s g.edges.length).length 1 (fun p _ => .int .i64 ((K ++ tgt g k s g.edges.length).getD p 0))))]) (fun _ : Unit => 3) := by
  refine FCY_introS T_ok (by simp [nobH, nobO]) Tryz.func86 rfl (by simp [Tryz.ntmps86]) fun G hG hR hrec => ?_
  simp only [Tryz.ntmps86, Tryz.results86] at hG ⊢
  simp only [argEnv, Nat.zero_add, Nat.reduceAdd]
  refine awpS_seq ?_
  refine awpS_reg T_ok fun K hK => ?_
  simp [hG, List.getD_cons_zero, List.getD_cons_succ, -List.getD_eq_getElem?_getD, tgt_zero, List.append_nil]
  refine hK _ ?_
  clear K hK
  refine awpS_block ?_
  refine awpS_loop (α := Nat) (fun i => ⟨[(0, .yld l vs 2 (fun j => [.vptr 1 (fun _ => .int .i64 k) 0, .ptr (0, 0) 0 0].getD j .any)), (1, .vptr 3 (grF g) 0), (2, .vptr 1 (fun _ => .int .i64 s) 0), (7, edgesC g.edges), (8, .int .i64 g.edges.length), (9, .int .i64 i)], [(0, .one (.arr 1 1 (fun _ _ => .sl (2, 0) 0 ((K ++ tgt g k s i)).length))), (2, .one (.arr ((K ++ tgt g k s i)).length 1 (fun p _ => .int .i64 (((K ++ tgt g k s i)).getD p 0))))], 3⟩) (fun i => i ≤ g.edges.length) (fun i => g.edges.length - i) (0) (Nat.zero_le _) ?_ ?_
  ·
    refine wk_of (fun k => if k = 2 then 1 else k) (fun _ => false) (fun _ => false) ?_ ?_ rfl (by simp) (fun k hk => by first | exact ⟨rfl, rfl⟩ | (revert k; decide) | (obtain rfl : k = 0 := (by omega); exact ⟨rfl, rfl⟩) | (have hk2 : k = 0 ∨ k = 1 := (by omega); rcases hk2 with rfl | rfl <;> exact ⟨rfl, rfl⟩))
    · simp [hG, List.getD_cons_zero, List.getD_cons_succ, -List.getD_eq_getElem?_getD, tgt_zero, List.append_nil]
    · simp [hG, List.getD_cons_zero, List.getD_cons_succ, -List.getD_eq_getElem?_getD, tgt_zero, List.append_nil]
  ·
    rintro i hi
    refine awpS_seq ?_
    refine awpS_reg T_ok fun K hK => ?_
    simp [hG, List.getD_cons_zero, List.getD_cons_succ, -List.getD_eq_getElem?_getD, tgt_zero, List.append_nil]
    refine hK _ ?_
    clear K hK
    refine awpS_seq ?_
    refine awpS_cond rfl (fun hb10 => ?_) (fun hb10 => ?_)
    ·
      try simp [-List.getD_eq_getElem?_getD] at hb10
      have htl := tgt_len (g := g) (k := k) (s := s) (m := i)
      have hts := tgt_succ (g := g) (k := k) (s := s) (m := i) (by omega)
      refine awpS_skip ?_
      refine awpS_seq ?_
      refine awpS_block ?_
      refine awpS_seq ?_
      refine awpS_reg T_ok fun K hK => ?_
      simp [hG, List.getD_cons_zero, List.getD_cons_succ, -List.getD_eq_getElem?_getD, tgt_zero, List.append_nil]
      refine ⟨Cond.mk (by simp [-List.getD_eq_getElem?_getD]; omega), hK _ ?_⟩
      clear K hK
      refine awpS_seq ?_
      by_cases hs3 : (g.edges.getD i de).frm = s
      ·
        refine awpS_regL ?_
        refine awpL_reg T_ok 8 fun K hK => ?_
        simp [hG, List.getD_cons_zero, List.getD_cons_succ, -List.getD_eq_getElem?_getD, tgt_zero, List.append_nil, hs3]
        refine ⟨Cond.mk (by simp [-List.getD_eq_getElem?_getD]), hK _ ?_⟩
        clear K hK
        refine awpL_yield hrec hR [0, 2] (fun _ => false) (stepB_y k (g.edges.getD i de) i (K ++ tgt g k s i) (by rw [List.length_append]; omega) hok) rfl (by rw [hok.params]; rfl) rfl rfl rfl (by simp) (.inl fun _ => rfl) ?_ ?_ ?_ fun K hK x hI hno => ?_
        · simp [hG, List.getD_cons_zero, List.getD_cons_succ, -List.getD_eq_getElem?_getD, tgt_zero, List.append_nil, hs3]
        · simp [hG, List.getD_cons_zero, List.getD_cons_succ, -List.getD_eq_getElem?_getD]; exact ⟨Clo.le _ (fun j _ => ⟨rfl, trivial⟩), ⟨by decide, rfl, rfl⟩, trivial⟩
        · simp [hG, List.getD_cons_zero, List.getD_cons_succ, -List.getD_eq_getElem?_getD, tgt_zero, List.append_nil, hs3]
        simp [hG, List.getD_cons_zero, List.getD_cons_succ, -List.getD_eq_getElem?_getD, tgt_zero, List.append_nil, hs3]
        refine hK _ ?_
        clear K hK
        refine awpL_reg T_ok 2 fun K hK => ?_
        simp [hG, List.getD_cons_zero, List.getD_cons_succ, -List.getD_eq_getElem?_getD, tgt_zero, List.append_nil, hs3]
        refine ⟨Cond.mk (by simp [-List.getD_eq_getElem?_getD]), hK _ ?_⟩
        clear K hK
        refine awpL_nil ?_
        refine awpS_cond rfl (fun hb24 => ?_) (fun hb24 => ?_)
        ·
          simp at hb24
        ·
          try simp [-List.getD_eq_getElem?_getD] at hb24
          refine awpS_skip ?_
          refine awpS_nil ?_
          refine blockQ_norm (thenQ_norm ?_)
          refine awpS_reg T_ok fun K hK => ?_
          simp [hG, List.getD_cons_zero, List.getD_cons_succ, -List.getD_eq_getElem?_getD, tgt_zero, List.append_nil, hs3]
          refine ⟨Cond.mk (by omega), hK _ ?_⟩
          clear K hK
          refine awpS_nil ?_
          refine round_end (i + 1) (by omega) (by omega) ?_
          refine wk_of (fun k => if k = 2 then 4 else k) (fun _ => false) (fun _ => false) ?_ ?_ rfl (by simp) (fun k hk => by first | exact ⟨rfl, rfl⟩ | (revert k; decide) | (obtain rfl : k = 0 := (by omega); exact ⟨rfl, rfl⟩) | (have hk2 : k = 0 ∨ k = 1 := (by omega); rcases hk2 with rfl | rfl <;> exact ⟨rfl, rfl⟩))
          · simp [hG, List.getD_cons_zero, List.getD_cons_succ, -List.getD_eq_getElem?_getD, tgt_zero, List.append_nil, hs3]
          · rw [hts, if_pos hs3]; by_cases hlk : (g.edges.getD i de).lab = k; (rw [if_pos hlk, if_pos hlk, ← List.append_assoc]; simp [hG, -List.getD_eq_getElem?_getD, -List.append_assoc]); (rw [if_neg hlk, if_neg hlk]; simp [hG, -List.getD_eq_getElem?_getD])
      ·
        refine awpS_regL ?_
        refine awpL_reg T_ok 8 fun K hK => ?_
        simp [hG, List.getD_cons_zero, List.getD_cons_succ, -List.getD_eq_getElem?_getD, tgt_zero, List.append_nil, hs3]
        refine ⟨Cond.mk (by simp [-List.getD_eq_getElem?_getD]), hK _ ?_⟩
        clear K hK
        refine awpL_not (.bool true) rfl (fun K hK => ?_) (by intro c hc; cases hc)
        simp [hG, List.getD_cons_zero, List.getD_cons_succ, -List.getD_eq_getElem?_getD, tgt_zero, List.append_nil, hs3]
        refine hK _ ?_
        clear K hK
        refine awpL_reg T_ok 2 fun K hK => ?_
        simp [hG, List.getD_cons_zero, List.getD_cons_succ, -List.getD_eq_getElem?_getD, tgt_zero, List.append_nil, hs3]
        refine ⟨Cond.mk (by simp [-List.getD_eq_getElem?_getD]), hK _ ?_⟩
        clear K hK
        refine awpL_nil ?_
        refine awpS_cond rfl (fun hb24 => ?_) (fun hb24 => ?_)
        ·
          simp at hb24
        ·
          try simp [-List.getD_eq_getElem?_getD] at hb24
          refine awpS_skip ?_
          refine awpS_nil ?_
          refine blockQ_norm (thenQ_norm ?_)
          refine awpS_reg T_ok fun K hK => ?_
          simp [hG, List.getD_cons_zero, List.getD_cons_succ, -List.getD_eq_getElem?_getD, tgt_zero, List.append_nil, hs3]
          refine ⟨Cond.mk (by omega), hK _ ?_⟩
          clear K hK
          refine awpS_nil ?_
          refine round_end (i + 1) (by omega) (by omega) ?_
          refine wk_of (id) (fun _ => false) (fun _ => false) ?_ ?_ rfl (by simp) (fun k hk => by first | exact ⟨rfl, rfl⟩ | (revert k; decide) | (obtain rfl : k = 0 := (by omega); exact ⟨rfl, rfl⟩) | (have hk2 : k = 0 ∨ k = 1 := (by omega); rcases hk2 with rfl | rfl <;> exact ⟨rfl, rfl⟩))
          · simp [hG, List.getD_cons_zero, List.getD_cons_succ, -List.getD_eq_getElem?_getD, tgt_zero, List.append_nil, hs3]
          · rw [hts, if_neg hs3]; simp [hG, List.getD_cons_zero, List.getD_cons_succ, -List.getD_eq_getElem?_getD]
    ·
      try simp [-List.getD_eq_getElem?_getD] at hb10
      obtain rfl : i = g.edges.length := (by omega)
      refine awpS_exit ?_
      refine thenQ_exit (thenQ_exit ?_)
      refine blockQ_exit (thenQ_norm ?_)
      refine awpS_nil ?_
      refine RetF_of (()) (id) (fun _ => false) (fun _ => false) trivial ?_ ?_ (by rfl) (by simp) (fun k hk => ⟨rfl, rfl⟩)
      · simp [hG, List.getD_cons_zero, List.getD_cons_succ, -List.getD_eq_getElem?_getD, tgt_zero, List.append_nil]
      · simp [hG, List.getD_cons_zero, List.getD_cons_succ, -List.getD_eq_getElem?_getD]

set_option maxRecDepth 100000 in
theorem leaving_c (g : Gr) (s : Int) : PC Tryz.prog 61 [.agg 3 (grF g), .int .i64 s] (.fn 86 2 (fun j => [.vptr 3 (grF g) 0, .vptr 1 (fun _ => .int .i64 s) 0].getD j .any)) := by
  refine PC_introS T_ok Tryz.func61 rfl (by simp [Tryz.ntmps61]) fun G hG hR => ?_
  simp only [Tryz.ntmps61, Tryz.results61] at hG ⊢
  simp only [argEnv, Nat.zero_add, Nat.reduceAdd]
  refine awpS_seq ?_
  refine awpS_reg T_ok fun K hK => ?_
  simp [hG, List.getD_cons_zero, List.getD_cons_succ, -List.getD_eq_getElem?_getD]
  refine ⟨Cond.mk (by simp [-List.getD_eq_getElem?_getD]), hK _ ?_⟩
  clear K hK
  refine awpS_seq ?_
  refine awpS_reg T_ok fun K hK => ?_
  simp [hG, List.getD_cons_zero, List.getD_cons_succ, -List.getD_eq_getElem?_getD]
  refine hK _ ?_
  clear K hK
  refine awpS_ret ?_
  refine RetOK_of ?_
  simp [hG, List.getD_cons_zero, List.getD_cons_succ, -List.getD_eq_getElem?_getD]

set_option maxRecDepth 100000 in
theorem insI0_c  : FC1 Tryz.prog 101 [.sl (0, 0) 0 0, .int .i64 0, .int .i64 0] [(0, .one (.arr 0 1 (fun i _ => .int .i64 (([] : List Int).getD i 0))))] 1 (.any) [(0, .one (.arr 0 1 (fun i _ => .int .i64 (([] : List Int).getD i 0))))] 1 := by
  refine FC_introS T_ok Tryz.func101 rfl (by simp [Tryz.ntmps101]) fun G hG hR => ?_
  simp only [Tryz.ntmps101, Tryz.results101] at hG ⊢
  simp only [argEnv, Nat.zero_add, Nat.reduceAdd]
  refine awpS_seq ?_
  refine awpS_reg T_ok fun K hK => ?_
  simp [hG, List.getD_cons_zero, List.getD_cons_succ, -List.getD_eq_getElem?_getD]
  refine hK _ ?_
  clear K hK
  refine awpS_block ?_
  refine awpS_loop (α := Unit) (fun u => ⟨[(0, .sl (0, 0) 0 0), (1, .int .i64 0), (2, .int .i64 0), (6, .int .i64 1)], [(0, .one (.arr 0 1 (fun i _ => .int .i64 (([] : List Int).getD i 0))))], 1⟩) (fun u => True) (fun u => 0) (()) (trivial) ?_ ?_
  ·
    refine wk_of (id) (fun _ => false) (fun _ => false) ?_ ?_ rfl (by simp) (fun k hk => by first | exact ⟨rfl, rfl⟩ | (revert k; decide) | (obtain rfl : k = 0 := (by omega); exact ⟨rfl, rfl⟩) | (have hk2 : k = 0 ∨ k = 1 := (by omega); rcases hk2 with rfl | rfl <;> exact ⟨rfl, rfl⟩))
    · simp [hG, List.getD_cons_zero, List.getD_cons_succ, -List.getD_eq_getElem?_getD]
    · simp [hG, List.getD_cons_zero, List.getD_cons_succ, -List.getD_eq_getElem?_getD]
  ·
    rintro u hu
    refine awpS_seq ?_
    refine awpS_seq ?_
    refine awpS_reg T_ok fun K hK => ?_
    simp [hG, List.getD_cons_zero, List.getD_cons_succ, -List.getD_eq_getElem?_getD]
    refine hK _ ?_
    clear K hK
    refine awpS_cond rfl (fun hb12 => ?_) (fun hb12 => ?_)
    ·
      simp at hb12
    ·
      try simp [-List.getD_eq_getElem?_getD] at hb12
      refine awpS_exit ?_
      refine thenQ_exit (thenQ_exit ?_)
      refine blockQ_exit (thenQ_norm ?_)
      refine awpS_nil ?_
      refine RetF_of (()) (id) (fun _ => false) (fun _ => false) trivial ?_ ?_ (by rfl) (by simp) (fun k _ => ⟨rfl, rfl⟩)
      · simp [hG, List.getD_cons_zero, List.getD_cons_succ, -List.getD_eq_getElem?_getD]
      · simp [hG, List.getD_cons_zero, List.getD_cons_succ, -List.getD_eq_getElem?_getD]

set_option maxRecDepth 100000 in
theorem pdqI0_c (m : Int) : FC1 Tryz.prog 87 [.sl (0, 0) 0 0, .int .i64 0, .int .i64 0, .int .i64 m] [(0, .one (.arr 0 1 (fun i _ => .int .i64 (([] : List Int).getD i 0))))] 1 (.any) [(0, .one (.arr 0 1 (fun i _ => .int .i64 (([] : List Int).getD i 0))))] 1 := by
  refine FC_introS T_ok Tryz.func87 rfl (by simp [Tryz.ntmps87]) fun G hG hR => ?_
  simp only [Tryz.ntmps87, Tryz.results87] at hG ⊢
  simp only [argEnv, Nat.zero_add, Nat.reduceAdd]
  refine awpS_seq ?_
  refine awpS_reg T_ok fun K hK => ?_
  simp [hG, List.getD_cons_zero, List.getD_cons_succ, -List.getD_eq_getElem?_getD]
  refine hK _ ?_
  clear K hK
  refine awpS_seq ?_
  refine awpS_reg T_ok fun K hK => ?_
  simp [hG, List.getD_cons_zero, List.getD_cons_succ, -List.getD_eq_getElem?_getD]
  refine hK _ ?_
  clear K hK
  refine awpS_block ?_
  refine awpS_loop (α := Unit) (fun u => ⟨[(0, .sl (0, 0) 0 0), (1, .int .i64 0), (2, .int .i64 0), (3, .int .i64 m), (8, .bool true), (9, .bool true)], [(0, .one (.arr 0 1 (fun i _ => .int .i64 (([] : List Int).getD i 0))))], 1⟩) (fun u => True) (fun u => 0) (()) (trivial) ?_ ?_
  ·
    refine wk_of (id) (fun _ => false) (fun _ => false) ?_ ?_ rfl (by simp) (fun k hk => by first | exact ⟨rfl, rfl⟩ | (revert k; decide) | (obtain rfl : k = 0 := (by omega); exact ⟨rfl, rfl⟩) | (have hk2 : k = 0 ∨ k = 1 := (by omega); rcases hk2 with rfl | rfl <;> exact ⟨rfl, rfl⟩))
    · simp [hG, List.getD_cons_zero, List.getD_cons_succ, -List.getD_eq_getElem?_getD]
    · simp [hG, List.getD_cons_zero, List.getD_cons_succ, -List.getD_eq_getElem?_getD]
  ·
    rintro u hu
    refine awpS_block ?_
    refine awpS_seq ?_
    refine awpS_reg T_ok fun K hK => ?_
    simp [hG, List.getD_cons_zero, List.getD_cons_succ, -List.getD_eq_getElem?_getD]
    refine hK _ ?_
    clear K hK
    refine awpS_seq ?_
    refine awpS_seq ?_
    refine awpS_reg T_ok fun K hK => ?_
    simp [hG, List.getD_cons_zero, List.getD_cons_succ, -List.getD_eq_getElem?_getD]
    refine hK _ ?_
    clear K hK
    refine awpS_cond rfl (fun hb23 => ?_) (fun hb23 => ?_)
    ·
      try simp [-List.getD_eq_getElem?_getD] at hb23
      refine awpS_seq ?_
      refine awpS_regL ?_
      refine awpL_reg T_ok 3 fun K hK => ?_
      simp [hG, List.getD_cons_zero, List.getD_cons_succ, -List.getD_eq_getElem?_getD]
      refine hK _ ?_
      clear K hK
      refine awpL_fc cal101 [0] (fun _ => false) (insI0_c) rfl rfl rfl (by simp) (.inl fun _ => rfl) ?_ ?_ ?_ fun K hK x hI hno => ?_
      · simp [hG, List.getD_cons_zero, List.getD_cons_succ, -List.getD_eq_getElem?_getD]
      · simp [hG, List.getD_cons_zero, List.getD_cons_succ, -List.getD_eq_getElem?_getD]
      · simp [hG, List.getD_cons_zero, List.getD_cons_succ, -List.getD_eq_getElem?_getD]
      simp [hG, List.getD_cons_zero, List.getD_cons_succ, -List.getD_eq_getElem?_getD]
      refine hK _ ?_
      clear K hK
      refine awpL_nil ?_
      refine awpS_ret ?_
      refine blockQ_ret (thenQ_ret ?_)
      refine thenQ_ret (thenQ_ret ?_)
      refine blockQ_ret (thenQ_ret ?_)
      refine RetF_of (()) (id) (fun _ => false) (fun _ => false) trivial ?_ ?_ (by rfl) (by simp) (fun k _ => ⟨rfl, rfl⟩)
      · simp [hG, List.getD_cons_zero, List.getD_cons_succ, -List.getD_eq_getElem?_getD]
      · simp [hG, List.getD_cons_zero, List.getD_cons_succ, -List.getD_eq_getElem?_getD]
    ·
      simp at hb23

set_option maxRecDepth 100000 in
theorem sortI0_c  : FC1 Tryz.prog 62 [.sl (0, 0) 0 0] [(0, .one (.arr 0 1 (fun i _ => .int .i64 (([] : List Int).getD i 0))))] 1 (.any) [(0, .one (.arr 0 1 (fun i _ => .int .i64 (([] : List Int).getD i 0))))] 1 := by
  refine FC_introS T_ok Tryz.func62 rfl (by simp [Tryz.ntmps62]) fun G hG hR => ?_
  simp only [Tryz.ntmps62, Tryz.results62] at hG ⊢
  simp only [argEnv, Nat.zero_add, Nat.reduceAdd]
  refine awpS_seq ?_
  refine awpS_reg T_ok fun K hK => ?_
  simp [hG, List.getD_cons_zero, List.getD_cons_succ, -List.getD_eq_getElem?_getD]
  refine hK _ ?_
  clear K hK
  refine awpS_regL ?_
  refine awpL_reg T_ok 4 fun K hK => ?_
  simp [hG, List.getD_cons_zero, List.getD_cons_succ, -List.getD_eq_getElem?_getD]
  refine hK _ ?_
  clear K hK
  refine awpL_call cal88 rfl rfl (fun _ => rfl) (fun hg => bitLen_c 0 (by decide)) (fun hg => ?_) (fun hg => ?_) fun K hK => ?_
  · simp [hG, List.getD_cons_zero, List.getD_cons_succ, -List.getD_eq_getElem?_getD]
  · simp [hG, List.getD_cons_zero, List.getD_cons_succ, -List.getD_eq_getElem?_getD]
  simp [hG, List.getD_cons_zero, List.getD_cons_succ, -List.getD_eq_getElem?_getD]
  refine hK _ ?_
  clear K hK
  refine awpL_fc cal87 [0] (fun _ => false) (pdqI0_c (len8 0)) rfl rfl rfl (by simp) (.inl fun _ => rfl) ?_ ?_ ?_ fun K hK x hI hno => ?_
  · simp [hG, List.getD_cons_zero, List.getD_cons_succ, -List.getD_eq_getElem?_getD]
  · simp [hG, List.getD_cons_zero, List.getD_cons_succ, -List.getD_eq_getElem?_getD]
  · simp [hG, List.getD_cons_zero, List.getD_cons_succ, -List.getD_eq_getElem?_getD]
  simp [hG, List.getD_cons_zero, List.getD_cons_succ, -List.getD_eq_getElem?_getD]
  refine hK _ ?_
  clear K hK
  refine awpL_nil ?_
  refine awpS_nil ?_
  refine RetF_of (()) (id) (fun _ => false) (fun _ => false) trivial ?_ ?_ (by rfl) (by simp) (fun k _ => ⟨rfl, rfl⟩)
  · simp [hG, List.getD_cons_zero, List.getD_cons_succ, -List.getD_eq_getElem?_getD]
  · simp [hG, List.getD_cons_zero, List.getD_cons_succ, -List.getD_eq_getElem?_getD]

set_option maxRecDepth 100000 in
theorem compactI_c (l : List Int) (hl : l.length ≤ 1000000) : FC1 Tryz.prog 63 [.sl (0, 0) 0 l.length] [(0, .one (.arr l.length 1 (fun i _ => .int .i64 (l.getD i 0))))] 1 (.sl (0, 0) 0 (ddL 0 l).length) [(0, .one (.arr l.length 1 (fun i _ => .int .i64 ((ddL 0 l).getD i 0))))] 1 := by
  refine FC_introS T_ok Tryz.func63 rfl (by simp [Tryz.ntmps63]) fun G hG hR => ?_
  simp only [Tryz.ntmps63, Tryz.results63] at hG ⊢
  simp only [argEnv, Nat.zero_add, Nat.reduceAdd]
  refine awpS_seq ?_
  refine awpS_reg T_ok fun K hK => ?_
  simp [hG, List.getD_cons_zero, List.getD_cons_succ, -List.getD_eq_getElem?_getD]
  refine hK _ ?_
  clear K hK
  refine awpS_seq ?_
  refine awpS_seq ?_
  refine awpS_reg T_ok fun K hK => ?_
  simp [hG, List.getD_cons_zero, List.getD_cons_succ, -List.getD_eq_getElem?_getD]
  refine hK _ ?_
  clear K hK
  refine awpS_cond rfl (fun hb8 => ?_) (fun hb8 => ?_)
  ·
    try simp [-List.getD_eq_getElem?_getD] at hb8
    refine awpS_seq ?_
    refine awpS_reg T_ok fun K hK => ?_
    simp [hG, List.getD_cons_zero, List.getD_cons_succ, -List.getD_eq_getElem?_getD]
    refine hK _ ?_
    clear K hK
    refine awpS_ret ?_
    refine RetF_of (()) (id) (fun _ => false) (fun _ => false) trivial ?_ ?_ (by rfl) (by simp) (fun k _ => ⟨rfl, rfl⟩)
    · rw [ddL_shortI (by omega)]; simp [hG]
    · rw [ddL_shortI (by omega)]; simp [hG]
  ·
    try simp [-List.getD_eq_getElem?_getD] at hb8
    refine awpS_skip ?_
    refine awpS_seq ?_
    refine awpS_seq ?_
    refine awpS_reg T_ok fun K hK => ?_
    simp [hG, List.getD_cons_zero, List.getD_cons_succ, -List.getD_eq_getElem?_getD]
    refine hK _ ?_
    clear K hK
    refine awpS_block ?_
    refine awpS_loop (α := Nat) (fun k => ⟨[(0, .sl (0, 0) 0 l.length), (3, .int .i64 k)], [(0, .one (.arr l.length 1 (fun i _ => .int .i64 (l.getD i 0))))], 1⟩) (fun k => 1 ≤ k ∧ k ≤ l.length ∧ ∀ j, j < k → 1 ≤ j → l.getD j 0 ≠ l.getD (j - 1) 0) (fun k => l.length - k) (1) (⟨Nat.le_refl _, by omega, fun j hj h1 => by omega⟩) ?_ ?_
    ·
      refine wk_of (id) (fun _ => false) (fun _ => false) ?_ ?_ rfl (by simp) (fun k hk => by first | exact ⟨rfl, rfl⟩ | (revert k; decide) | (obtain rfl : k = 0 := (by omega); exact ⟨rfl, rfl⟩) | (have hk2 : k = 0 ∨ k = 1 := (by omega); rcases hk2 with rfl | rfl <;> exact ⟨rfl, rfl⟩))
      · simp [hG, List.getD_cons_zero, List.getD_cons_succ, -List.getD_eq_getElem?_getD]
      · simp [hG, List.getD_cons_zero, List.getD_cons_succ, -List.getD_eq_getElem?_getD]
    ·
      rintro k ⟨hk1, hk, hn⟩
      refine awpS_seq ?_
      refine awpS_seq ?_
      refine awpS_reg T_ok fun K hK => ?_
      simp [hG, List.getD_cons_zero, List.getD_cons_succ, -List.getD_eq_getElem?_getD]
      refine hK _ ?_
      clear K hK
      refine awpS_cond rfl (fun hb13 => ?_) (fun hb13 => ?_)
      ·
        try simp [-List.getD_eq_getElem?_getD] at hb13
        refine awpS_skip ?_
        refine awpS_seq ?_
        refine awpS_block ?_
        refine awpS_seq ?_
        refine awpS_draw hR mixed [] ⟨[], [], []⟩ fun mu0 => ?_
        refine awpA_tk T_ok [0, 1, 2, 3, 4, 5, 6, 7, 8, 9] [] (fuel := 0) [9, 8, 7, 6, 5, 4, 3, 2, 1, 0] (by decide +kernel) (by decide +kernel) rfl rfl fun K hK => ?_
        simp [hG, List.getD_cons_zero, List.getD_cons_succ, -List.getD_eq_getElem?_getD]
        refine ⟨Cond.mk (by omega), hK _ ?_⟩
        clear K hK
        refine awpA_done (by decide +kernel) ?_
        refine awpS_cond rfl (fun hb25 => ?_) (fun hb25 => ?_)
        ·
          try simp [-List.getD_eq_getElem?_getD] at hb25
          have heq : l.getD k 0 = l.getD (k - 1) 0 := hb25
          have hdf := dd_full (d := 0) hk hn
          have hdk : (ddAt 0 l k).length = k := (by rw [hdf, List.length_take]; omega)
          have hde := dd_eq (d := 0) (l := l) (k := k) (by omega) heq
          refine awpS_seq ?_
          refine awpS_reg T_ok fun K hK => ?_
          simp [hG, List.getD_cons_zero, List.getD_cons_succ, -List.getD_eq_getElem?_getD]
          refine ⟨Cond.mk (by omega), hK _ ?_⟩
          clear K hK
          refine awpS_seq ?_
          refine awpS_seq ?_
          refine awpS_reg T_ok fun K hK => ?_
          simp [hG, List.getD_cons_zero, List.getD_cons_succ, -List.getD_eq_getElem?_getD]
          refine hK _ ?_
          clear K hK
          refine awpS_block ?_
          refine awpS_loop (α := Nat) (fun u => ⟨[(0, .sl (0, 0) 0 l.length), (3, .int .i64 (ddAt 0 l (k + u)).length), (4, .sl (0, 0) k (l.length - k)), (5, .int .i64 u)], [(0, .one (.arr l.length 1 (fun i _ => .int .i64 (ddG 0 l (k + u) i))))], 1⟩) (fun u => 1 ≤ u ∧ k + u ≤ l.length ∧ (ddAt 0 l (k + u)).length + 1 ≤ k + u) (fun u => l.length - k - u) (1) (⟨Nat.le_refl _, by omega, by rw [hde]; omega⟩) ?_ ?_
          ·
            refine wk_of (id) (fun _ => false) (fun _ => false) ?_ ?_ rfl (by simp) (fun k hk => by first | exact ⟨rfl, rfl⟩ | (revert k; decide) | (obtain rfl : k = 0 := (by omega); exact ⟨rfl, rfl⟩) | (have hk2 : k = 0 ∨ k = 1 := (by omega); rcases hk2 with rfl | rfl <;> exact ⟨rfl, rfl⟩))
            · simp [hG, List.getD_cons_zero, List.getD_cons_succ, -List.getD_eq_getElem?_getD]; rw [hde, hdk]
            · simp [hG, List.getD_cons_zero, List.getD_cons_succ, -List.getD_eq_getElem?_getD]; intro i hi; have e := ddG_full (d := 0) (l := l) (k := k) (i := i) hk hn; rw [ddG_skip (by omega) heq, e]
          ·
            rintro u ⟨hu1, hu, hdl⟩
            refine awpS_seq ?_
            refine awpS_seq ?_
            refine awpS_reg T_ok fun K hK => ?_
            simp [hG, List.getD_cons_zero, List.getD_cons_succ, -List.getD_eq_getElem?_getD]
            refine hK _ ?_
            clear K hK
            refine awpS_cond rfl (fun hb32 => ?_) (fun hb32 => ?_)
            ·
              try simp [-List.getD_eq_getElem?_getD] at hb32
              have hg1 := ddG_old (d := 0) (l := l) (m := k + u) (i := k + u) (by omega)
              have hg2 := ddG_old (d := 0) (l := l) (m := k + u) (i := k + (u - 1)) (by omega)
              refine awpS_skip ?_
              refine awpS_seq ?_
              refine awpS_block ?_
              refine awpS_seq ?_
              refine awpS_draw hR mixed [] ⟨[], [], []⟩ fun mu0 => ?_
              refine awpA_tk T_ok [0, 1, 2, 3, 4, 5, 6, 7, 8, 9] [] (fuel := 0) [9, 8, 7, 6, 5, 4, 3, 2, 1, 0] (by decide +kernel) (by decide +kernel) rfl rfl fun K hK => ?_
              simp [hG, List.getD_cons_zero, List.getD_cons_succ, -List.getD_eq_getElem?_getD]
              refine ⟨Cond.mk (by omega), hK _ ?_⟩
              clear K hK
              refine awpA_done (by decide +kernel) ?_
              refine awpS_cond rfl (fun hb44 => ?_) (fun hb44 => ?_)
              ·
                try simp [-List.getD_eq_getElem?_getD] at hb44
                have hnx : l.getD (k + u) 0 ≠ l.getD (k + u - 1) 0 := (by rw [show k + u - 1 = k + (u - 1) by omega, ← hg1, ← hg2]; exact hb44)
                have hds := dd_ne hnx
                refine awpS_seq ?_
                refine awpS_reg T_ok fun K hK => ?_
                simp [hG, List.getD_cons_zero, List.getD_cons_succ, -List.getD_eq_getElem?_getD]
                refine ⟨Cond.mk (by omega), hK _ ?_⟩
                clear K hK
                refine awpS_reg T_ok fun K hK => ?_
                simp [hG, List.getD_cons_zero, List.getD_cons_succ, -List.getD_eq_getElem?_getD]
                refine ⟨Cond.mk (by omega), hK _ ?_⟩
                clear K hK
                refine awpS_nil ?_
                refine blockQ_norm (thenQ_norm ?_)
                refine awpS_reg T_ok fun K hK => ?_
                simp [hG, List.getD_cons_zero, List.getD_cons_succ, -List.getD_eq_getElem?_getD]
                refine ⟨Cond.mk (by omega), hK _ ?_⟩
                clear K hK
                refine awpS_nil ?_
                refine round_end (u + 1) (⟨by omega, by omega, by rw [show k + (u + 1) = k + u + 1 by omega, hds, List.length_append, List.length_singleton]; omega⟩) (by omega) ?_
                refine wk_of (id) (fun _ => false) (fun _ => false) ?_ ?_ rfl (by simp) (fun k hk => by first | exact ⟨rfl, rfl⟩ | (revert k; decide) | (obtain rfl : k = 0 := (by omega); exact ⟨rfl, rfl⟩) | (have hk2 : k = 0 ∨ k = 1 := (by omega); rcases hk2 with rfl | rfl <;> exact ⟨rfl, rfl⟩))
                · rw [show k + (u + 1) = k + u + 1 by omega, hds]; simp [hG, List.getD_cons_zero, List.getD_cons_succ, -List.getD_eq_getElem?_getD]
                · simp [hG, List.getD_cons_zero, List.getD_cons_succ, -List.getD_eq_getElem?_getD]; intro i hi; rw [show k + (u + 1) = k + u + 1 by omega, ddG_put hnx, hg1]; by_cases h : i = (ddAt 0 l (k + u)).length <;> simp [h]
              ·
                try simp [-List.getD_eq_getElem?_getD] at hb44
                have heq2 : l.getD (k + u) 0 = l.getD (k + u - 1) 0 := (by rw [show k + u - 1 = k + (u - 1) by omega, ← hg1, ← hg2]; exact hb44)
                have hdq := dd_eq (d := 0) (l := l) (k := k + u) (by omega) heq2
                refine awpS_skip ?_
                refine awpS_nil ?_
                refine blockQ_norm (thenQ_norm ?_)
                refine awpS_reg T_ok fun K hK => ?_
                simp [hG, List.getD_cons_zero, List.getD_cons_succ, -List.getD_eq_getElem?_getD]
                refine ⟨Cond.mk (by omega), hK _ ?_⟩
                clear K hK
                refine awpS_nil ?_
                refine round_end (u + 1) (⟨by omega, by omega, by rw [show k + (u + 1) = k + u + 1 by omega, hdq]; omega⟩) (by omega) ?_
                refine wk_of (id) (fun _ => false) (fun _ => false) ?_ ?_ rfl (by simp) (fun k hk => by first | exact ⟨rfl, rfl⟩ | (revert k; decide) | (obtain rfl : k = 0 := (by omega); exact ⟨rfl, rfl⟩) | (have hk2 : k = 0 ∨ k = 1 := (by omega); rcases hk2 with rfl | rfl <;> exact ⟨rfl, rfl⟩))
                · rw [show k + (u + 1) = k + u + 1 by omega, hdq]; simp [hG, List.getD_cons_zero, List.getD_cons_succ, -List.getD_eq_getElem?_getD]
                · simp [hG, List.getD_cons_zero, List.getD_cons_succ, -List.getD_eq_getElem?_getD]; intro i hi; rw [show k + (u + 1) = k + u + 1 by omega, ddG_skip (by omega) heq2]
            ·
              try simp [-List.getD_eq_getElem?_getD] at hb32
              refine awpS_exit ?_
              refine thenQ_exit (thenQ_exit ?_)
              refine blockQ_exit (thenQ_norm ?_)
              refine awpS_seq ?_
              refine awpS_reg T_ok fun K hK => ?_
              simp [hG, List.getD_cons_zero, List.getD_cons_succ, -List.getD_eq_getElem?_getD]
              refine ⟨Cond.mk (by simp [-List.getD_eq_getElem?_getD]; omega), hK _ ?_⟩
              clear K hK
              refine awpS_seq ?_
              refine awpS_reg T_ok fun K hK => ?_
              simp [hG, List.getD_cons_zero, List.getD_cons_succ, -List.getD_eq_getElem?_getD]
              refine ⟨Cond.mk (by omega), hK _ ?_⟩
              clear K hK
              refine awpS_ret ?_
              refine blockQ_ret (thenQ_ret ?_)
              refine thenQ_ret (thenQ_ret ?_)
              refine blockQ_ret (thenQ_ret ?_)
              refine RetF_of (()) (id) (fun _ => false) (fun _ => false) trivial ?_ ?_ (by rfl) (by simp) (fun k _ => ⟨rfl, rfl⟩)
              · simp [hG, List.getD_cons_zero, List.getD_cons_succ, -List.getD_eq_getElem?_getD]; unfold ddL; rw [show k + u = l.length by omega]
              · obtain hku : k + u = l.length := (by omega); rw [hku]; simp [hG, List.getD_cons_zero, List.getD_cons_succ, -List.getD_eq_getElem?_getD]; exact fun i hi => clr_endI hi
        ·
          try simp [-List.getD_eq_getElem?_getD] at hb25
          have hneq : l.getD k 0 ≠ l.getD (k - 1) 0 := hb25
          refine awpS_skip ?_
          refine awpS_nil ?_
          refine blockQ_norm (thenQ_norm ?_)
          refine awpS_reg T_ok fun K hK => ?_
          simp [hG, List.getD_cons_zero, List.getD_cons_succ, -List.getD_eq_getElem?_getD]
          refine ⟨Cond.mk (by omega), hK _ ?_⟩
          clear K hK
          refine awpS_nil ?_
          refine round_end (k + 1) (⟨by omega, by omega, fun j hj h1 => (Nat.lt_or_ge j k).elim (fun h => hn j h h1) fun h => by rw [show j = k by omega]; exact hneq⟩) (by omega) ?_
          refine wk_of (id) (fun _ => false) (fun _ => false) ?_ ?_ rfl (by simp) (fun k hk => by first | exact ⟨rfl, rfl⟩ | (revert k; decide) | (obtain rfl : k = 0 := (by omega); exact ⟨rfl, rfl⟩) | (have hk2 : k = 0 ∨ k = 1 := (by omega); rcases hk2 with rfl | rfl <;> exact ⟨rfl, rfl⟩))
          · simp [hG, List.getD_cons_zero, List.getD_cons_succ, -List.getD_eq_getElem?_getD]
          · simp [hG, List.getD_cons_zero, List.getD_cons_succ, -List.getD_eq_getElem?_getD]
      ·
        try simp [-List.getD_eq_getElem?_getD] at hb13
        refine awpS_exit ?_
        refine thenQ_exit (thenQ_exit ?_)
        refine blockQ_exit (thenQ_norm ?_)
        refine awpS_seq ?_
        refine awpS_reg T_ok fun K hK => ?_
        simp [hG, List.getD_cons_zero, List.getD_cons_succ, -List.getD_eq_getElem?_getD]
        refine hK _ ?_
        clear K hK
        refine awpS_ret ?_
        refine RetF_of (()) (id) (fun _ => false) (fun _ => false) trivial ?_ ?_ (by rfl) (by simp) (fun k _ => ⟨rfl, rfl⟩)
        · rw [ddL_none fun j hj h1 => hn j (by omega) h1]; simp [hG]
        · rw [ddL_none fun j hj h1 => hn j (by omega) h1]; simp [hG]

end Go.Proofs.YtdojahjhijkbhaaGreatDoor
