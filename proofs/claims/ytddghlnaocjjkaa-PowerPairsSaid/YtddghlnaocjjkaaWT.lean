/-
  Walks: products of graphs, in the program and in the reference.
-/
import Derived.Test.YtddghlnaocjjkaaWS
namespace Go.Proofs.Ytddghlnaocjjkaa
set_option linter.unusedSimpArgs false
set_option linter.unusedVariables false
open Go Go.Lift Go.Proofs

theorem mul_le64 {a b : Int} (ha : 0 ≤ a ∧ a ≤ 10) (hb : 0 ≤ b ∧ b ≤ 10) : 0 ≤ a * b ∧ a * b ≤ 100 := by
  have h1 := Int.mul_nonneg ha.1 hb.1
  have h2 := Int.mul_le_mul ha.2 hb.2 hb.1 (by omega : (0 : Int) ≤ 10)
  omega
theorem nmL_takes {H : Int} {L : List Int} {i : Nat} (h : i < L.length) : (nmL H L).take (i + 1) = (nmL H L).take i ++ [nm H (L.getD i 0)] := by
  have hl : (nmL H L).length = L.length := by simp [nmL]
  rw [List.take_succ_eq_append_getElem (by omega), getD_get h]; simp [nmL]
def nmT (H : Int) (L : List Int) (i : Nat) : List (List Int) := (nmL H L).take i
theorem nmT_zero {H : Int} {L : List Int} : nmT H L 0 = [] := by simp [nmT]
theorem nmT_len {H : Int} {L : List Int} {i : Nat} : (nmT H L i).length ≤ i := by unfold nmT; rw [List.length_take]; omega
theorem nmT_all {H : Int} {L : List Int} : nmT H L L.length = nmL H L := List.take_of_length_le (by simp [nmL])
theorem nmT_succ {H : Int} {L : List Int} {i : Nat} (h : i < L.length) : nmT H L (i + 1) = nmT H L i ++ [nm H (L.getD i 0)] := nmL_takes h
theorem pr_make {g h : Gr} (h0 : chk2N g h = 0) (hn : g.states * h.states ≤ 64) (hg : g.edges.length ≤ 30) (hh : h.edges.length ≤ 30) : prN g h = 0 ∧ mkN g.labels (g.states * h.states) (prodL g h) = 0 ∧ mkX g.labels (g.states * h.states) (prodL g h) = prodA g h := by
  have hv := prod_valid h0 hn hg hh
  have hM : mkN g.labels (g.states * h.states) (prodL g h) = 0 := hv
  refine ⟨?_, hM, by rw [mk_ok hM]; rfl⟩
  unfold prN; rw [if_neg (by omega), if_neg (by omega)]
theorem nm_at2 {H : Int} (hH : 0 ≤ H) {i j : Nat} (hj : j < H.toNat) : nm H ((i * H.toNat + j : Nat) : Int) = [(i : Int), (j : Int)] := by
  have := nm_at (H := H.toNat) (i := i) hj
  rwa [Int.toNat_of_nonneg hH] at this
theorem app_pair {H : Int} {n : Nat} {w : Nat → Nat → AVal} {q c : Nat} (hw : w 0 c = .int .i64 ((nm H (n : Int)).getD c 0)) (hq : q < n + 1) : app (fun q c => .int .i64 ((nm H (q : Int)).getD c 0)) n w q c = .int .i64 ((nm H (q : Int)).getD c 0) := by
  unfold app
  by_cases h : q < n
  · rw [if_pos h]
  · obtain rfl : q = n := by omega
    rw [if_neg h, Nat.sub_self, hw]
@[simp] theorem evSlice_arr {h : Heap} {s off : Nat} {f : Nat → AVal} : evSlice T h 84 (.vptr s f off) none none = some (.vsl 2 1 (fun i j => f (off + (0 + i) * 1 + j)), (0 : Int) ≤ 0 ∧ (0 : Int) ≤ 2 ∧ (2 : Int) ≤ 2 ∧ off + 2 * 1 ≤ s) := rfl
theorem nm_row {H s : Int} (hs : 0 ≤ s) : 2 = (nm H s).length ∧ ∀ i, i < (nm H s).length → (nm H (max s 0)).getD i 0 = (nm H s).getD i 0 :=
  ⟨rfl, fun i _ => by rw [Int.max_eq_left hs]⟩
theorem nm_lit {H s : Int} : 2 = (nm H s).length ∧ (nm H s).length ≤ 2 ∧ ∀ i, i < (nm H s).length → (if 1 ≤ i ∧ i < 2 then AVal.int .i64 (s % H) else if i = 0 then AVal.int .i64 (s / H) else [AVal.int .i64 0].getD (i % 1) .any) = .int .i64 ((nm H s).getD i 0) :=
  ⟨rfl, Nat.le_refl _, fun i hi => by
    have hi' : i < 2 := hi
    have : i = 0 ∨ i = 1 := by omega
    rcases this with rfl | rfl <;> rfl⟩
set_option maxRecDepth 100000 in
theorem product_c (g h : Gr) (hsg : gcheck g = 0 → g.states ≤ 10 ∧ g.edges.length ≤ 30) (hsh : gcheck h = 0 → h.states ≤ 10 ∧ h.edges.length ≤ 30) : PC Try.prog 25 [.agg 3 (grF g), .agg 3 (grF h)] (.tup 3 (fun j => [.agg 3 (grF (prX g h)), rowsI (prK g h), .int .i64 (prN g h)].getD j .any)) := by
  refine PC_introS T_ok Try.func25 rfl (by simp [Try.ntmps25]) fun G hG hR => ?_
  simp only [Try.ntmps25, Try.results25] at hG ⊢
  simp only [argEnv, Nat.zero_add, Nat.reduceAdd]
  refine awpS_seq ?_
  refine awpS_reg T_ok fun K hK => ?_
  simp [hG, List.getD_cons_zero, List.getD_cons_succ, -List.getD_eq_getElem?_getD, prAt_zero, nmT_zero]
  refine ⟨Cond.mk (by simp [-List.getD_eq_getElem?_getD]), hK _ ?_⟩
  clear K hK
  refine awpS_seq ?_
  refine awpS_seq ?_
  refine awpS_regL ?_
  refine awpL_reg T_ok 2 fun K hK => ?_
  simp [hG, List.getD_cons_zero, List.getD_cons_succ, -List.getD_eq_getElem?_getD, prAt_zero, nmT_zero]
  refine hK _ ?_
  clear K hK
  refine awpL_call cal57 rfl rfl (fun _ => rfl) (fun hg => check2_c g h) (fun hg => ?_) (fun hg => ?_) fun K hK => ?_
  · simp [hG, List.getD_cons_zero, List.getD_cons_succ, -List.getD_eq_getElem?_getD, prAt_zero, nmT_zero]
  · simp [hG, List.getD_cons_zero, List.getD_cons_succ, -List.getD_eq_getElem?_getD, prAt_zero, nmT_zero]
  simp [hG, List.getD_cons_zero, List.getD_cons_succ, -List.getD_eq_getElem?_getD, prAt_zero, nmT_zero]
  refine hK _ ?_
  clear K hK
  refine awpL_reg T_ok 1 fun K hK => ?_
  simp [hG, List.getD_cons_zero, List.getD_cons_succ, -List.getD_eq_getElem?_getD, prAt_zero, nmT_zero]
  refine hK _ ?_
  clear K hK
  refine awpL_nil ?_
  refine awpS_seq ?_
  refine awpS_reg T_ok fun K hK => ?_
  simp [hG, List.getD_cons_zero, List.getD_cons_succ, -List.getD_eq_getElem?_getD, prAt_zero, nmT_zero]
  refine hK _ ?_
  clear K hK
  refine awpS_cond rfl (fun hb28 => ?_) (fun hb28 => ?_)
  ·
    try simp [-List.getD_eq_getElem?_getD] at hb28
    refine awpS_seq ?_
    refine awpS_reg T_ok fun K hK => ?_
    simp [hG, List.getD_cons_zero, List.getD_cons_succ, -List.getD_eq_getElem?_getD, prAt_zero, nmT_zero]
    refine ⟨Cond.mk (by simp [-List.getD_eq_getElem?_getD]), hK _ ?_⟩
    clear K hK
    refine awpS_ret ?_
    refine RetOK_of ?_
    simp [hG, List.getD_cons_zero, List.getD_cons_succ, -List.getD_eq_getElem?_getD, prAt_zero, nmT_zero]
    have hN : prN g h = chk2N g h := (by unfold prN; rw [if_pos hb28]); obtain ⟨hX, hK⟩ := prX_no hN (by omega); rw [hX, hK, hN]; simp
  ·
    try simp [-List.getD_eq_getElem?_getD] at hb28
    have hck : chk2N g h = 0 := (by simpa using hb28)
    obtain ⟨hv, hw, hlb2⟩ := chk2_ok hck
    obtain ⟨hs1, he1⟩ := hsg hv
    obtain ⟨hs2, he2⟩ := hsh hw
    have hst := (gcheck_valid hv).1.st
    have hst2 := (gcheck_valid hw).1.st
    have hmx := mul_le64 (a := g.states) (b := h.states) (by omega) (by omega)
    refine awpS_skip ?_
    refine awpS_seq ?_
    refine awpS_seq ?_
    refine awpS_reg T_ok fun K hK => ?_
    simp [hG, List.getD_cons_zero, List.getD_cons_succ, -List.getD_eq_getElem?_getD, prAt_zero, nmT_zero]
    refine ⟨Cond.mk (by omega), hK _ ?_⟩
    clear K hK
    refine awpS_cond rfl (fun hb36 => ?_) (fun hb36 => ?_)
    ·
      try simp [-List.getD_eq_getElem?_getD] at hb36
      refine awpS_seq ?_
      refine awpS_reg T_ok fun K hK => ?_
      simp [hG, List.getD_cons_zero, List.getD_cons_succ, -List.getD_eq_getElem?_getD, prAt_zero, nmT_zero]
      refine ⟨Cond.mk (by simp [-List.getD_eq_getElem?_getD]), hK _ ?_⟩
      clear K hK
      refine awpS_ret ?_
      refine RetOK_of ?_
      simp [hG, List.getD_cons_zero, List.getD_cons_succ, -List.getD_eq_getElem?_getD, prAt_zero, nmT_zero]
      have hN : prN g h = 4 := (by unfold prN; rw [if_neg (by omega), if_pos (by omega)]); obtain ⟨hX, hK⟩ := prX_no hN (by omega); rw [hX, hK, hN]; simp
    ·
      try simp [-List.getD_eq_getElem?_getD] at hb36
      obtain ⟨hN, hM, hMX⟩ := pr_make hck (by omega) he1 he2
      refine awpS_skip ?_
      refine awpS_seq ?_
      refine awpS_reg T_ok fun K hK => ?_
      simp [hG, List.getD_cons_zero, List.getD_cons_succ, -List.getD_eq_getElem?_getD, prAt_zero, nmT_zero]
      refine hK _ ?_
      clear K hK
      refine awpS_seq ?_
      refine awpS_seq ?_
      refine awpS_reg T_ok fun K hK => ?_
      simp [hG, List.getD_cons_zero, List.getD_cons_succ, -List.getD_eq_getElem?_getD, prAt_zero, nmT_zero]
      refine hK _ ?_
      clear K hK
      refine awpS_block ?_
      refine awpS_loop (α := Nat) (fun i => ⟨[(2, .ptr (0, 0) 0 0), (3, .ptr (1, 0) 0 0), (4, .ptr (2, 0) 0 0), (8, .sl (3, 0) 0 (i * h.states.toNat)), (39, .int .i64 g.states), (40, .int .i64 i)], [(0, .one (.arr 1 3 (fun _ => grF g))), (1, .one (.arr 1 3 (fun _ => grF h))), (2, .one (.arr 1 3 (fun _ j => [.int .i64 0, .int .i64 0, .nils].getD j .any))), (3, .one (.arr (i * h.states.toNat) 2 (fun q c => .int .i64 ((nm h.states (q : Int)).getD c 0))))], 4⟩) (fun i => i ≤ g.states.toNat) (fun i => g.states.toNat - i) (0) (Nat.zero_le _) ?_ ?_
      ·
        refine wk_of (id) (fun _ => false) (fun k => k == 3) ?_ ?_ rfl (Nat.zero_le _) (fun k hk => absurd hk (Nat.not_lt_zero _))
        · simp [hG, List.getD_cons_zero, List.getD_cons_succ, -List.getD_eq_getElem?_getD, prAt_zero, nmT_zero]
        · simp [hG, List.getD_cons_zero, List.getD_cons_succ, -List.getD_eq_getElem?_getD, prAt_zero, nmT_zero]
      ·
        rintro i hi
        have hih : i * h.states.toNat ≤ 100 := Nat.mul_le_mul (show i ≤ 10 by omega) (show h.states.toNat ≤ 10 by omega)
        refine awpS_seq ?_
        refine awpS_reg T_ok fun K hK => ?_
        simp [hG, List.getD_cons_zero, List.getD_cons_succ, -List.getD_eq_getElem?_getD, prAt_zero, nmT_zero]
        refine hK _ ?_
        clear K hK
        refine awpS_seq ?_
        refine awpS_cond rfl (fun hb41 => ?_) (fun hb41 => ?_)
        ·
          try simp [-List.getD_eq_getElem?_getD] at hb41
          refine awpS_skip ?_
          refine awpS_seq ?_
          refine awpS_block ?_
          refine awpS_seq ?_
          refine awpS_reg T_ok fun K hK => ?_
          simp [hG, List.getD_cons_zero, List.getD_cons_succ, -List.getD_eq_getElem?_getD, prAt_zero, nmT_zero]
          refine hK _ ?_
          clear K hK
          refine awpS_seq ?_
          refine awpS_reg T_ok fun K hK => ?_
          simp [hG, List.getD_cons_zero, List.getD_cons_succ, -List.getD_eq_getElem?_getD, prAt_zero, nmT_zero]
          refine hK _ ?_
          clear K hK
          refine awpS_block ?_
          refine awpS_loop (α := Nat) (fun j => ⟨[(2, .ptr (0, 0) 0 0), (3, .ptr (1, 0) 0 0), (4, .ptr (2, 0) 0 0), (8, .sl (3, 0) 0 (i * h.states.toNat + j)), (9, .int .i64 i), (39, .int .i64 g.states), (40, .int .i64 i), (44, .int .i64 h.states), (45, .int .i64 j)], [(0, .one (.arr 1 3 (fun _ => grF g))), (1, .one (.arr 1 3 (fun _ => grF h))), (2, .one (.arr 1 3 (fun _ j => [.int .i64 0, .int .i64 0, .nils].getD j .any))), (3, .one (.arr (i * h.states.toNat + j) 2 (fun q c => .int .i64 ((nm h.states (q : Int)).getD c 0))))], 4⟩) (fun j => j ≤ h.states.toNat) (fun j => h.states.toNat - j) (0) (Nat.zero_le _) ?_ ?_
          ·
            refine wk_of (id) (fun _ => false) (fun _ => false) ?_ ?_ rfl (Nat.zero_le _) (fun k hk => absurd hk (Nat.not_lt_zero _))
            · simp [hG, List.getD_cons_zero, List.getD_cons_succ, -List.getD_eq_getElem?_getD, prAt_zero, nmT_zero]
            · simp [hG, List.getD_cons_zero, List.getD_cons_succ, -List.getD_eq_getElem?_getD, prAt_zero, nmT_zero]
          ·
            rintro j hj
            refine awpS_seq ?_
            refine awpS_reg T_ok fun K hK => ?_
            simp [hG, List.getD_cons_zero, List.getD_cons_succ, -List.getD_eq_getElem?_getD, prAt_zero, nmT_zero]
            refine hK _ ?_
            clear K hK
            refine awpS_seq ?_
            refine awpS_cond rfl (fun hb46 => ?_) (fun hb46 => ?_)
            ·
              try simp [-List.getD_eq_getElem?_getD] at hb46
              refine awpS_skip ?_
              refine awpS_seq ?_
              refine awpS_block ?_
              refine awpS_seq ?_
              refine awpS_reg T_ok fun K hK => ?_
              simp [hG, List.getD_cons_zero, List.getD_cons_succ, -List.getD_eq_getElem?_getD, prAt_zero, nmT_zero]
              refine hK _ ?_
              clear K hK
              refine awpS_reg T_ok fun K hK => ?_
              simp [hG, List.getD_cons_zero, List.getD_cons_succ, -List.getD_eq_getElem?_getD, prAt_zero, nmT_zero]
              refine ⟨Cond.mk (by simp [-List.getD_eq_getElem?_getD]; omega), hK _ ?_⟩
              clear K hK
              refine awpS_nil ?_
              refine blockQ_norm (thenQ_norm ?_)
              refine awpS_reg T_ok fun K hK => ?_
              simp [hG, List.getD_cons_zero, List.getD_cons_succ, -List.getD_eq_getElem?_getD, prAt_zero, nmT_zero]
              refine ⟨Cond.mk (by omega), hK _ ?_⟩
              clear K hK
              refine awpS_nil ?_
              refine round_end (j + 1) (by omega) (by omega) ?_
              refine wk_of (fun k => if k = 3 then 5 else k) (fun _ => false) (fun _ => false) ?_ ?_ rfl (Nat.zero_le _) (fun k hk => absurd hk (Nat.not_lt_zero _))
              · simp [hG, List.getD_cons_zero, List.getD_cons_succ, -List.getD_eq_getElem?_getD]; omega
              · simp [hG, List.getD_cons_zero, List.getD_cons_succ, -List.getD_eq_getElem?_getD]; refine ⟨by omega, fun q hq => ⟨app_pair (c := 0) (by rw [nm_at2 hst2.1 (by omega)]; simp) (by omega), app_pair (c := 1) (by rw [nm_at2 hst2.1 (by omega)]; simp) (by omega)⟩⟩
            ·
              try simp [-List.getD_eq_getElem?_getD] at hb46
              obtain rfl : j = h.states.toNat := (by omega)
              refine awpS_exit ?_
              refine thenQ_exit (thenQ_exit ?_)
              refine blockQ_exit (thenQ_norm ?_)
              refine awpS_nil ?_
              refine blockQ_norm (thenQ_norm ?_)
              refine awpS_reg T_ok fun K hK => ?_
              simp [hG, List.getD_cons_zero, List.getD_cons_succ, -List.getD_eq_getElem?_getD, prAt_zero, nmT_zero]
              refine ⟨Cond.mk (by omega), hK _ ?_⟩
              clear K hK
              refine awpS_nil ?_
              refine round_end (i + 1) (by omega) (by omega) ?_
              refine wk_of (id) (fun _ => false) (fun _ => false) ?_ ?_ rfl (Nat.zero_le _) (fun k hk => absurd hk (Nat.not_lt_zero _))
              · rw [Nat.succ_mul]; simp [hG, List.getD_cons_zero, List.getD_cons_succ, -List.getD_eq_getElem?_getD]
              · rw [Nat.succ_mul]; simp [hG, List.getD_cons_zero, List.getD_cons_succ, -List.getD_eq_getElem?_getD]
        ·
          try simp [-List.getD_eq_getElem?_getD] at hb41
          obtain rfl : i = g.states.toNat := (by omega)
          refine awpS_exit ?_
          refine thenQ_exit (thenQ_exit ?_)
          refine blockQ_exit (thenQ_norm ?_)
          refine awpS_seq ?_
          refine awpS_wk (st2 := ⟨[(2, .ptr (0, 0) 0 0), (3, .ptr (1, 0) 0 0), (4, .ptr (2, 0) 0 0), (8, .vsl (g.states.toNat * h.states.toNat) 2 (fun q c => .int .i64 ((nm h.states (q : Int)).getD c 0)))], [(0, .one (.arr 1 3 (fun _ => grF g))), (1, .one (.arr 1 3 (fun _ => grF h))), (2, .one (.arr 1 3 (fun _ j => [.int .i64 0, .int .i64 0, .nils].getD j .any)))], 3⟩) ?_ ?_
          ·
            refine wk_of (id) (fun k => k == 3) (fun _ => false) ?_ ?_ rfl (Nat.zero_le _) (fun k hk => absurd hk (Nat.not_lt_zero _))
            · simp [hG, List.getD_cons_zero, List.getD_cons_succ, -List.getD_eq_getElem?_getD, prAt_zero, nmT_zero]
            · simp [hG, List.getD_cons_zero, List.getD_cons_succ, -List.getD_eq_getElem?_getD, prAt_zero, nmT_zero]
          refine awpS_reg T_ok fun K hK => ?_
          simp [hG, List.getD_cons_zero, List.getD_cons_succ, -List.getD_eq_getElem?_getD, prAt_zero, nmT_zero]
          refine hK _ ?_
          clear K hK
          refine awpS_seq ?_
          refine awpS_seq ?_
          refine awpS_reg T_ok fun K hK => ?_
          simp [hG, List.getD_cons_zero, List.getD_cons_succ, -List.getD_eq_getElem?_getD, prAt_zero, nmT_zero]
          refine hK _ ?_
          clear K hK
          refine awpS_block ?_
          refine awpS_loop (α := Nat) (fun i => ⟨[(2, .ptr (0, 0) 0 0), (3, .ptr (1, 0) 0 0), (4, .ptr (2, 0) 0 0), (8, .vsl (g.states.toNat * h.states.toNat) 2 (fun q c => .int .i64 ((nm h.states (q : Int)).getD c 0))), (11, .sl (3, 0) 0 (prAt g h i 0).length), (57, edgesC g.edges), (58, .int .i64 g.edges.length), (59, .int .i64 i)], [(0, .one (.arr 1 3 (fun _ => grF g))), (1, .one (.arr 1 3 (fun _ => grF h))), (2, .one (.arr 1 3 (fun _ j => [.int .i64 0, .int .i64 0, .nils].getD j .any))), (3, .one (.arr (prAt g h i 0).length 3 (fun q j => edgeF ((prAt g h i 0).getD q de) j)))], 4⟩) (fun i => i ≤ g.edges.length) (fun i => g.edges.length - i) (0) (Nat.zero_le _) ?_ ?_
          ·
            refine wk_of (id) (fun _ => false) (fun k => k == 3) ?_ ?_ rfl (Nat.zero_le _) (fun k hk => absurd hk (Nat.not_lt_zero _))
            · simp [hG, List.getD_cons_zero, List.getD_cons_succ, -List.getD_eq_getElem?_getD, prAt_zero, nmT_zero]
            · simp [hG, List.getD_cons_zero, List.getD_cons_succ, -List.getD_eq_getElem?_getD, prAt_zero, nmT_zero]
          ·
            rintro i hi
            refine awpS_seq ?_
            refine awpS_reg T_ok fun K hK => ?_
            simp [hG, List.getD_cons_zero, List.getD_cons_succ, -List.getD_eq_getElem?_getD, prAt_zero, nmT_zero]
            refine hK _ ?_
            clear K hK
            refine awpS_seq ?_
            refine awpS_cond rfl (fun hb60 => ?_) (fun hb60 => ?_)
            ·
              try simp [-List.getD_eq_getElem?_getD] at hb60
              have hei := edge_box hv (k := i) (by omega)
              have hb1 := mul_le64 (a := (g.edges.getD i de).frm) (b := h.states) (by omega) (by omega)
              have hb2 := mul_le64 (a := (g.edges.getD i de).to) (b := h.states) (by omega) (by omega)
              refine awpS_skip ?_
              refine awpS_seq ?_
              refine awpS_block ?_
              refine awpS_seq ?_
              refine awpS_reg T_ok fun K hK => ?_
              simp [hG, List.getD_cons_zero, List.getD_cons_succ, -List.getD_eq_getElem?_getD, prAt_zero, nmT_zero]
              refine ⟨Cond.mk (by simp [-List.getD_eq_getElem?_getD]; omega), hK _ ?_⟩
              clear K hK
              refine awpS_seq ?_
              refine awpS_reg T_ok fun K hK => ?_
              simp [hG, List.getD_cons_zero, List.getD_cons_succ, -List.getD_eq_getElem?_getD, prAt_zero, nmT_zero]
              refine hK _ ?_
              clear K hK
              refine awpS_block ?_
              refine awpS_loop (α := Nat) (fun m => ⟨[(2, .ptr (0, 0) 0 0), (3, .ptr (1, 0) 0 0), (4, .ptr (2, 0) 0 0), (8, .vsl (g.states.toNat * h.states.toNat) 2 (fun q c => .int .i64 ((nm h.states (q : Int)).getD c 0))), (11, .sl (3, 0) 0 (prAt g h i m).length), (13, .ptr (4, 0) 0 0), (57, edgesC g.edges), (58, .int .i64 g.edges.length), (59, .int .i64 i), (64, edgesC h.edges), (65, .int .i64 h.edges.length), (66, .int .i64 m)], [(0, .one (.arr 1 3 (fun _ => grF g))), (1, .one (.arr 1 3 (fun _ => grF h))), (2, .one (.arr 1 3 (fun _ j => [.int .i64 0, .int .i64 0, .nils].getD j .any))), (3, .one (.arr (prAt g h i m).length 3 (fun q j => edgeF ((prAt g h i m).getD q de) j))), (4, .one (.arr 1 3 (fun _ => edgeF (g.edges.getD i de))))], 5⟩) (fun m => m ≤ h.edges.length) (fun m => h.edges.length - m) (0) (Nat.zero_le _) ?_ ?_
              ·
                refine wk_of (id) (fun _ => false) (fun _ => false) ?_ ?_ rfl (Nat.zero_le _) (fun k hk => absurd hk (Nat.not_lt_zero _))
                · simp [hG, List.getD_cons_zero, List.getD_cons_succ, -List.getD_eq_getElem?_getD, prAt_zero, nmT_zero]
                · simp [hG, List.getD_cons_zero, List.getD_cons_succ, -List.getD_eq_getElem?_getD, prAt_zero, nmT_zero]
              ·
                rintro m hm
                refine awpS_seq ?_
                refine awpS_reg T_ok fun K hK => ?_
                simp [hG, List.getD_cons_zero, List.getD_cons_succ, -List.getD_eq_getElem?_getD, prAt_zero, nmT_zero]
                refine hK _ ?_
                clear K hK
                refine awpS_seq ?_
                refine awpS_cond rfl (fun hb67 => ?_) (fun hb67 => ?_)
                ·
                  try simp [-List.getD_eq_getElem?_getD] at hb67
                  have hpl := prAt_len (g := g) (h := h) (i := i) (m := m) he1 he2 (by omega)
                  have hem := edge_box hw (k := m) (by omega)
                  refine awpS_skip ?_
                  refine awpS_seq ?_
                  refine awpS_block ?_
                  refine awpS_seq ?_
                  refine awpS_reg T_ok fun K hK => ?_
                  simp [hG, List.getD_cons_zero, List.getD_cons_succ, -List.getD_eq_getElem?_getD, prAt_zero, nmT_zero]
                  refine ⟨Cond.mk (by simp [-List.getD_eq_getElem?_getD]; omega), hK _ ?_⟩
                  clear K hK
                  refine awpS_seq ?_
                  refine awpS_reg T_ok fun K hK => ?_
                  simp [hG, List.getD_cons_zero, List.getD_cons_succ, -List.getD_eq_getElem?_getD, prAt_zero, nmT_zero]
                  refine hK _ ?_
                  clear K hK
                  refine awpS_cond rfl (fun hb74 => ?_) (fun hb74 => ?_)
                  ·
                    try simp [-List.getD_eq_getElem?_getD] at hb74
                    refine awpS_reg T_ok fun K hK => ?_
                    simp [hG, List.getD_cons_zero, List.getD_cons_succ, -List.getD_eq_getElem?_getD, prAt_zero, nmT_zero]
                    refine ⟨Cond.mk (by simp [-List.getD_eq_getElem?_getD]; omega), hK _ ?_⟩
                    clear K hK
                    refine awpS_nil ?_
                    refine blockQ_norm (thenQ_norm ?_)
                    refine awpS_reg T_ok fun K hK => ?_
                    simp [hG, List.getD_cons_zero, List.getD_cons_succ, -List.getD_eq_getElem?_getD, prAt_zero, nmT_zero]
                    refine ⟨Cond.mk (by omega), hK _ ?_⟩
                    clear K hK
                    refine awpS_nil ?_
                    refine round_end (m + 1) (by omega) (by omega) ?_
                    refine wk_of (fun k => if k = 3 then 7 else k) (fun _ => false) (fun _ => false) ?_ ?_ rfl (Nat.zero_le _) (fun k hk => absurd hk (Nat.not_lt_zero _))
                    · rw [prAt_succ, if_pos hb74]; simp [hG, List.getD_cons_zero, List.getD_cons_succ, -List.getD_eq_getElem?_getD]
                    · rw [prAt_succ, if_pos hb74]; simp [hG, List.getD_cons_zero, List.getD_cons_succ, -List.getD_eq_getElem?_getD]; exact fun q hq => app_edge3 (by simpa using hq) (fun j hj => by rcases lt3 hj with rfl | rfl | rfl <;> simp [prEd, -List.getD_eq_getElem?_getD])
                  ·
                    try simp [-List.getD_eq_getElem?_getD] at hb74
                    refine awpS_skip ?_
                    refine awpS_nil ?_
                    refine blockQ_norm (thenQ_norm ?_)
                    refine awpS_reg T_ok fun K hK => ?_
                    simp [hG, List.getD_cons_zero, List.getD_cons_succ, -List.getD_eq_getElem?_getD, prAt_zero, nmT_zero]
                    refine ⟨Cond.mk (by omega), hK _ ?_⟩
                    clear K hK
                    refine awpS_nil ?_
                    refine round_end (m + 1) (by omega) (by omega) ?_
                    refine wk_of (id) (fun _ => false) (fun _ => false) ?_ ?_ rfl (Nat.zero_le _) (fun k hk => absurd hk (Nat.not_lt_zero _))
                    · rw [prAt_succ, if_neg hb74, List.append_nil]; simp [hG, List.getD_cons_zero, List.getD_cons_succ, -List.getD_eq_getElem?_getD]
                    · rw [prAt_succ, if_neg hb74, List.append_nil]; simp [hG, List.getD_cons_zero, List.getD_cons_succ, -List.getD_eq_getElem?_getD]
                ·
                  try simp [-List.getD_eq_getElem?_getD] at hb67
                  obtain rfl : m = h.edges.length := (by omega)
                  have hnx := prAt_next (g := g) (h := h) (i := i) (by omega)
                  refine awpS_exit ?_
                  refine thenQ_exit (thenQ_exit ?_)
                  refine blockQ_exit (thenQ_norm ?_)
                  refine awpS_nil ?_
                  refine blockQ_norm (thenQ_norm ?_)
                  refine awpS_reg T_ok fun K hK => ?_
                  simp [hG, List.getD_cons_zero, List.getD_cons_succ, -List.getD_eq_getElem?_getD, prAt_zero, nmT_zero]
                  refine ⟨Cond.mk (by omega), hK _ ?_⟩
                  clear K hK
                  refine awpS_nil ?_
                  refine round_end (i + 1) (by omega) (by omega) ?_
                  refine wk_of (id) (fun _ => false) (fun _ => false) ?_ ?_ rfl (Nat.zero_le _) (fun k hk => absurd hk (Nat.not_lt_zero _))
                  · rw [← hnx]; simp [hG, List.getD_cons_zero, List.getD_cons_succ, -List.getD_eq_getElem?_getD]
                  · rw [← hnx]; simp [hG, List.getD_cons_zero, List.getD_cons_succ, -List.getD_eq_getElem?_getD]
            ·
              try simp [-List.getD_eq_getElem?_getD] at hb60
              obtain rfl : i = g.edges.length := (by omega)
              refine awpS_exit ?_
              refine thenQ_exit (thenQ_exit ?_)
              refine blockQ_exit (thenQ_norm ?_)
              refine awpS_seq ?_
              refine awpS_wk (st2 := ⟨[(2, .ptr (0, 0) 0 0), (3, .ptr (1, 0) 0 0), (4, .ptr (2, 0) 0 0), (8, .vsl (g.states.toNat * h.states.toNat) 2 (fun q c => .int .i64 ((nm h.states (q : Int)).getD c 0))), (11, edgesC (prodL g h))], [(0, .one (.arr 1 3 (fun _ => grF g))), (1, .one (.arr 1 3 (fun _ => grF h))), (2, .one (.arr 1 3 (fun _ j => [.int .i64 0, .int .i64 0, .nils].getD j .any)))], 3⟩) ?_ ?_
              ·
                refine wk_of (id) (fun k => k == 3) (fun _ => false) ?_ ?_ rfl (Nat.zero_le _) (fun k hk => absurd hk (Nat.not_lt_zero _))
                · rw [← prAt_all]; simp [hG, List.getD_cons_zero, List.getD_cons_succ, -List.getD_eq_getElem?_getD]
                · simp [hG, List.getD_cons_zero, List.getD_cons_succ, -List.getD_eq_getElem?_getD, prAt_zero, nmT_zero]
              refine awpS_regL ?_
              refine awpL_reg T_ok 5 fun K hK => ?_
              simp [hG, List.getD_cons_zero, List.getD_cons_succ, -List.getD_eq_getElem?_getD, prAt_zero, nmT_zero]
              refine hK _ ?_
              clear K hK
              refine awpL_call cal47 rfl rfl (fun _ => rfl) (fun hg => makeG_c g.labels (g.states * h.states) (prodL g h) (by rw [← prAt_all]; have := prAt_len (g := g) (h := h) (i := g.edges.length) (m := 0) he1 he2 (Nat.zero_le _); omega)) (fun hg => ?_) (fun hg => ?_) fun K hK => ?_
              · simp [hG, List.getD_cons_zero, List.getD_cons_succ, -List.getD_eq_getElem?_getD, prAt_zero, nmT_zero]
              · simp [hG, List.getD_cons_zero, List.getD_cons_succ, -List.getD_eq_getElem?_getD]; rw [Int.max_eq_left hst.1, Int.max_eq_left hst2.1]
              simp [hG, List.getD_cons_zero, List.getD_cons_succ, -List.getD_eq_getElem?_getD, prAt_zero, nmT_zero]
              refine hK _ ?_
              clear K hK
              refine awpL_reg T_ok 6 fun K hK => ?_
              simp [hG, List.getD_cons_zero, List.getD_cons_succ, -List.getD_eq_getElem?_getD, prAt_zero, nmT_zero]
              refine ⟨Cond.mk (by simp [-List.getD_eq_getElem?_getD]), hK _ ?_⟩
              clear K hK
              refine awpL_nil ?_
              refine awpS_seq ?_
              refine awpS_seq ?_
              refine awpS_reg T_ok fun K hK => ?_
              simp [hG, List.getD_cons_zero, List.getD_cons_succ, -List.getD_eq_getElem?_getD, prAt_zero, nmT_zero]
              refine hK _ ?_
              clear K hK
              refine awpS_cond rfl (fun hb109 => ?_) (fun hb109 => ?_)
              ·
                exact absurd hb109 (by simp [hM])
              ·
                try simp [-List.getD_eq_getElem?_getD] at hb109
                have hpv := prod_valid hck (by omega) he1 he2
                have hEG : essG (prodA g h) = keptG (prodA g h) (essL (prodA g h)) := if_pos hpv
                have hEX : essX (prodA g h) = essL (prodA g h) := if_pos hpv
                refine awpS_skip ?_
                refine awpS_seq ?_
                refine awpS_wk (st2 := ⟨[(2, .ptr (0, 0) 0 0), (3, .ptr (1, 0) 0 0), (4, .ptr (2, 0) 0 0), (8, .vsl (g.states.toNat * h.states.toNat) 2 (fun q c => .int .i64 ((nm h.states (q : Int)).getD c 0))), (16, .ptr (3, 0) 0 0)], [(0, .one (.arr 1 3 (fun _ => grF g))), (1, .one (.arr 1 3 (fun _ => grF h))), (2, .one (.arr 1 3 (fun _ j => [.int .i64 0, .int .i64 0, .nils].getD j .any))), (3, .one (.arr 1 3 (fun _ => grF (prodA g h))))], 4⟩) ?_ ?_
                ·
                  refine wk_of (id) (fun _ => false) (fun _ => false) ?_ ?_ rfl (Nat.zero_le _) (fun k hk => absurd hk (Nat.not_lt_zero _))
                  · simp [hG, List.getD_cons_zero, List.getD_cons_succ, -List.getD_eq_getElem?_getD, prAt_zero, nmT_zero]
                  · rw [hMX]; simp [hG, List.getD_cons_zero, List.getD_cons_succ, -List.getD_eq_getElem?_getD]
                refine awpS_regL ?_
                refine awpL_reg T_ok 1 fun K hK => ?_
                simp [hG, List.getD_cons_zero, List.getD_cons_succ, -List.getD_eq_getElem?_getD, prAt_zero, nmT_zero]
                refine hK _ ?_
                clear K hK
                refine awpL_call cal58 rfl rfl (fun _ => rfl) (fun hg => essential_c (prodA g h)) (fun hg => ?_) (fun hg => ?_) fun K hK => ?_
                · simp [hG, List.getD_cons_zero, List.getD_cons_succ, -List.getD_eq_getElem?_getD, prAt_zero, nmT_zero]
                · simp [hG, List.getD_cons_zero, List.getD_cons_succ, -List.getD_eq_getElem?_getD, prAt_zero, nmT_zero]
                simp [hG, List.getD_cons_zero, List.getD_cons_succ, -List.getD_eq_getElem?_getD, prAt_zero, nmT_zero]
                refine hK _ ?_
                clear K hK
                refine awpL_reg T_ok 8 fun K hK => ?_
                simp [hG, List.getD_cons_zero, List.getD_cons_succ, -List.getD_eq_getElem?_getD, prAt_zero, nmT_zero]
                refine ⟨Cond.mk (by simp [-List.getD_eq_getElem?_getD]), hK _ ?_⟩
                clear K hK
                refine awpL_nil ?_
                refine awpS_seq ?_
                refine awpS_wk (st2 := ⟨[(2, .ptr (0, 0) 0 0), (3, .ptr (1, 0) 0 0), (4, .ptr (2, 0) 0 0), (8, .vsl (g.states.toNat * h.states.toNat) 2 (fun q c => .int .i64 ((nm h.states (q : Int)).getD c 0))), (18, .ptr (3, 0) 0 0), (19, ints (essL (prodA g h)))], [(0, .one (.arr 1 3 (fun _ => grF g))), (1, .one (.arr 1 3 (fun _ => grF h))), (2, .one (.arr 1 3 (fun _ j => [.int .i64 0, .int .i64 0, .nils].getD j .any))), (3, .one (.arr 1 3 (fun _ => grF (keptG (prodA g h) (essL (prodA g h))))))], 4⟩) ?_ ?_
                ·
                  refine wk_of (fun k => if k = 3 then 4 else k) (fun _ => false) (fun _ => false) ?_ ?_ rfl (Nat.zero_le _) (fun k hk => absurd hk (Nat.not_lt_zero _))
                  · rw [hEX]; simp [hG, List.getD_cons_zero, List.getD_cons_succ, -List.getD_eq_getElem?_getD]
                  · rw [hEG]; simp [hG, List.getD_cons_zero, List.getD_cons_succ, -List.getD_eq_getElem?_getD]
                refine awpS_reg T_ok fun K hK => ?_
                simp [hG, List.getD_cons_zero, List.getD_cons_succ, -List.getD_eq_getElem?_getD, prAt_zero, nmT_zero]
                refine hK _ ?_
                clear K hK
                refine awpS_seq ?_
                refine awpS_seq ?_
                refine awpS_reg T_ok fun K hK => ?_
                simp [hG, List.getD_cons_zero, List.getD_cons_succ, -List.getD_eq_getElem?_getD, prAt_zero, nmT_zero]
                refine hK _ ?_
                clear K hK
                refine awpS_block ?_
                refine awpS_loop (α := Nat) (fun i => ⟨[(2, .ptr (0, 0) 0 0), (3, .ptr (1, 0) 0 0), (4, .ptr (2, 0) 0 0), (8, .vsl (g.states.toNat * h.states.toNat) 2 (fun q c => .int .i64 ((nm h.states (q : Int)).getD c 0))), (18, .ptr (3, 0) 0 0), (21, .sl (4, 0) 0 (nmT h.states (essL (prodA g h)) i).length), (117, ints (essL (prodA g h))), (118, .int .i64 (essL (prodA g h)).length), (119, .int .i64 i)], [(0, .one (.arr 1 3 (fun _ => grF g))), (1, .one (.arr 1 3 (fun _ => grF h))), (2, .one (.arr 1 3 (fun _ j => [.int .i64 0, .int .i64 0, .nils].getD j .any))), (3, .one (.arr 1 3 (fun _ => grF (keptG (prodA g h) (essL (prodA g h)))))), (4, .one (.arr (nmT h.states (essL (prodA g h)) i).length 1 (fun q _ => ints ((nmT h.states (essL (prodA g h)) i).getD q []))))], 5⟩) (fun i => i ≤ (essL (prodA g h)).length) (fun i => (essL (prodA g h)).length - i) (0) (Nat.zero_le _) ?_ ?_
                ·
                  refine wk_of (id) (fun _ => false) (fun k => k == 4) ?_ ?_ rfl (Nat.zero_le _) (fun k hk => absurd hk (Nat.not_lt_zero _))
                  · simp [hG, List.getD_cons_zero, List.getD_cons_succ, -List.getD_eq_getElem?_getD, prAt_zero, nmT_zero]
                  · simp [hG, List.getD_cons_zero, List.getD_cons_succ, -List.getD_eq_getElem?_getD, prAt_zero, nmT_zero]
                ·
                  rintro i hi
                  refine awpS_seq ?_
                  refine awpS_reg T_ok fun K hK => ?_
                  simp [hG, List.getD_cons_zero, List.getD_cons_succ, -List.getD_eq_getElem?_getD, prAt_zero, nmT_zero]
                  refine hK _ ?_
                  clear K hK
                  refine awpS_seq ?_
                  refine awpS_cond rfl (fun hb120 => ?_) (fun hb120 => ?_)
                  ·
                    try simp [-List.getD_eq_getElem?_getD] at hb120
                    have hil : i < (essL (prodA g h)).length := (by omega)
                    have hbx : 0 ≤ (essL (prodA g h)).getD i 0 ∧ (essL (prodA g h)).getD i 0 < g.states * h.states := ess_box (g := prodA g h) (Int.mul_nonneg hst.1 hst2.1) (k := (prodA g h).states.toNat) (getD_mem (d := 0) hil)
                    have hbs : (prodA g h).states = g.states * h.states := rfl
                    have hnl := nmT_len (H := h.states) (L := essL (prodA g h)) (i := i)
                    have hns := nmT_succ (H := h.states) hil
                    have hel : (essL (prodA g h)).length ≤ (prodA g h).states.toNat := ess_len
                    have hHp : 0 < h.states := Classical.byContradiction (fun e => by have e0 : h.states = 0 := (by omega); have := hbx.2; rw [e0, Int.mul_zero] at this; omega)
                    refine awpS_skip ?_
                    refine awpS_seq ?_
                    refine awpS_block ?_
                    refine awpS_seq ?_
                    refine awpS_reg T_ok fun K hK => ?_
                    simp [hG, List.getD_cons_zero, List.getD_cons_succ, -List.getD_eq_getElem?_getD, prAt_zero, nmT_zero]
                    refine ⟨Cond.mk (by omega), hK _ ?_⟩
                    clear K hK
                    refine awpS_regL ?_
                    refine awpL_reg T_ok 5 fun K hK => ?_
                    simp [hG, List.getD_cons_zero, List.getD_cons_succ, -List.getD_eq_getElem?_getD, prAt_zero, nmT_zero]
                    first | refine hK _ ?_ | refine ⟨Cond.mk (by first | omega | (rw [Int.max_eq_left hst.1, Int.max_eq_left hst2.1]; exact hbx)), hK _ ?_⟩
                    clear K hK
                    refine awpL_fc cal44 [] (fun _ => false) (cloneI_c (nm h.states ((essL (prodA g h)).getD i 0)) (by simp [nm])) rfl rfl rfl (by simp) (.inl fun _ => rfl) ?_ ?_ ?_ fun K hK x hI hno => ?_
                    · simp [hG, List.getD_cons_zero, List.getD_cons_succ, -List.getD_eq_getElem?_getD, prAt_zero, nmT_zero]
                    · simp [hG, List.getD_cons_zero, List.getD_cons_succ, -List.getD_eq_getElem?_getD]; exact nm_row hbx.1
                    · simp [hG, List.getD_cons_zero, List.getD_cons_succ, -List.getD_eq_getElem?_getD, prAt_zero, nmT_zero]
                    simp [hG, List.getD_cons_zero, List.getD_cons_succ, -List.getD_eq_getElem?_getD, prAt_zero, nmT_zero]
                    refine hK _ ?_
                    clear K hK
                    refine awpL_reg T_ok 3 fun K hK => ?_
                    simp [hG, List.getD_cons_zero, List.getD_cons_succ, -List.getD_eq_getElem?_getD, prAt_zero, nmT_zero]
                    first | refine hK _ ?_ | refine ⟨Cond.mk (by first | omega | (rw [Int.max_eq_left hst.1, Int.max_eq_left hst2.1]; exact hbx)), hK _ ?_⟩
                    clear K hK
                    refine awpL_nil ?_
                    refine awpS_nil ?_
                    refine blockQ_norm (thenQ_norm ?_)
                    refine awpS_reg T_ok fun K hK => ?_
                    simp [hG, List.getD_cons_zero, List.getD_cons_succ, -List.getD_eq_getElem?_getD, prAt_zero, nmT_zero]
                    refine ⟨Cond.mk (by omega), hK _ ?_⟩
                    clear K hK
                    refine awpS_nil ?_
                    refine round_end (i + 1) (by omega) (by omega) ?_
                    refine wk_of (fun k => if k = 4 then 7 else k) (fun k => k == 5) (fun _ => false) ?_ ?_ rfl (Nat.zero_le _) (fun k hk => absurd hk (Nat.not_lt_zero _))
                    · rw [hns]; simp [hG, List.getD_cons_zero, List.getD_cons_succ, -List.getD_eq_getElem?_getD]
                    · rw [hns]; simp [hG, List.getD_cons_zero, List.getD_cons_succ, -List.getD_eq_getElem?_getD]; refine fun j hj => app_rowX hj ?_; simp [-List.getD_eq_getElem?_getD]
                  ·
                    try simp [-List.getD_eq_getElem?_getD] at hb120
                    obtain rfl : i = (essL (prodA g h)).length := (by omega)
                    refine awpS_exit ?_
                    refine thenQ_exit (thenQ_exit ?_)
                    refine blockQ_exit (thenQ_norm ?_)
                    refine awpS_seq ?_
                    refine awpS_reg T_ok fun K hK => ?_
                    simp [hG, List.getD_cons_zero, List.getD_cons_succ, -List.getD_eq_getElem?_getD, prAt_zero, nmT_zero]
                    refine ⟨Cond.mk (by simp [-List.getD_eq_getElem?_getD]), hK _ ?_⟩
                    clear K hK
                    refine awpS_ret ?_
                    refine RetOK_of ?_
                    simp [hG, List.getD_cons_zero, List.getD_cons_succ, -List.getD_eq_getElem?_getD, prAt_zero, nmT_zero]
                    obtain ⟨hX, hK⟩ := prX_ok hN; rw [hX, hK, hN, ← nmT_all]; simp

set_option maxRecDepth 100000 in
theorem productR_c (g h : Gr) (hsg : gcheck g = 0 → g.states ≤ 10 ∧ g.edges.length ≤ 30) (hsh : gcheck h = 0 → h.states ≤ 10 ∧ h.edges.length ≤ 30) : PC Try.prog 26 [.agg 3 (grF g), .agg 3 (grF h)] (.tup 3 (fun j => [.agg 3 (grF (prX g h)), rowsI (prK g h), .int .i64 (prN g h)].getD j .any)) := by
  refine PC_introS T_ok Try.func26 rfl (by simp [Try.ntmps26]) fun G hG hR => ?_
  simp only [Try.ntmps26, Try.results26] at hG ⊢
  simp only [argEnv, Nat.zero_add, Nat.reduceAdd]
  refine awpS_seq ?_
  refine awpS_reg T_ok fun K hK => ?_
  simp [hG, List.getD_cons_zero, List.getD_cons_succ, -List.getD_eq_getElem?_getD, prAt_zero, nmT_zero]
  refine ⟨Cond.mk (by simp [-List.getD_eq_getElem?_getD]), hK _ ?_⟩
  clear K hK
  refine awpS_seq ?_
  refine awpS_seq ?_
  refine awpS_regL ?_
  refine awpL_reg T_ok 1 fun K hK => ?_
  simp [hG, List.getD_cons_zero, List.getD_cons_succ, -List.getD_eq_getElem?_getD, prAt_zero, nmT_zero]
  refine hK _ ?_
  clear K hK
  refine awpL_call cal17 rfl rfl (fun _ => rfl) (fun hg => check_c g) (fun hg => ?_) (fun hg => ?_) fun K hK => ?_
  · simp [hG, List.getD_cons_zero, List.getD_cons_succ, -List.getD_eq_getElem?_getD, prAt_zero, nmT_zero]
  · simp [hG, List.getD_cons_zero, List.getD_cons_succ, -List.getD_eq_getElem?_getD, prAt_zero, nmT_zero]
  simp [hG, List.getD_cons_zero, List.getD_cons_succ, -List.getD_eq_getElem?_getD, prAt_zero, nmT_zero]
  refine hK _ ?_
  clear K hK
  refine awpL_reg T_ok 3 fun K hK => ?_
  simp [hG, List.getD_cons_zero, List.getD_cons_succ, -List.getD_eq_getElem?_getD, prAt_zero, nmT_zero]
  refine ⟨Cond.mk (by simp [-List.getD_eq_getElem?_getD]), hK _ ?_⟩
  clear K hK
  refine awpL_call cal17 rfl rfl (fun _ => rfl) (fun hg => check_c h) (fun hg => ?_) (fun hg => ?_) fun K hK => ?_
  · first | (simp [hG, List.getD_cons_zero, List.getD_cons_succ, -List.getD_eq_getElem?_getD, prAt_zero, nmT_zero]; done) | (simp [-List.getD_eq_getElem?_getD] at hg; done) | (simp [-List.getD_eq_getElem?_getD] at hg; simp [hG, List.getD_cons_zero, List.getD_cons_succ, -List.getD_eq_getElem?_getD, prAt_zero, nmT_zero]; first | omega | exact hg | (simp_all [-List.getD_eq_getElem?_getD]; done) | (simp_all [-List.getD_eq_getElem?_getD]; first | exact ⟨rfl, rfl⟩ | exact rfl))
  · first | (simp [hG, List.getD_cons_zero, List.getD_cons_succ, -List.getD_eq_getElem?_getD, prAt_zero, nmT_zero]; done) | (simp [-List.getD_eq_getElem?_getD] at hg; done) | (simp [-List.getD_eq_getElem?_getD] at hg; simp [hG, List.getD_cons_zero, List.getD_cons_succ, -List.getD_eq_getElem?_getD, prAt_zero, nmT_zero]; first | omega | exact hg | (simp_all [-List.getD_eq_getElem?_getD]; done) | (simp_all [-List.getD_eq_getElem?_getD]; first | exact ⟨rfl, rfl⟩ | exact rfl))
  simp [hG, List.getD_cons_zero, List.getD_cons_succ, -List.getD_eq_getElem?_getD, prAt_zero, nmT_zero]
  refine hK _ ?_
  clear K hK
  refine awpL_reg T_ok 2 fun K hK => ?_
  simp [hG, List.getD_cons_zero, List.getD_cons_succ, -List.getD_eq_getElem?_getD, prAt_zero, nmT_zero]
  refine ⟨Cond.mk (by simp [-List.getD_eq_getElem?_getD]), hK _ ?_⟩
  clear K hK
  refine awpL_nil ?_
  refine awpS_cond rfl (fun hb26 => ?_) (fun hb26 => ?_)
  ·
    try simp [-List.getD_eq_getElem?_getD] at hb26
    refine awpS_seq ?_
    refine awpS_reg T_ok fun K hK => ?_
    simp [hG, List.getD_cons_zero, List.getD_cons_succ, -List.getD_eq_getElem?_getD, prAt_zero, nmT_zero]
    refine ⟨Cond.mk (by simp [-List.getD_eq_getElem?_getD]), hK _ ?_⟩
    clear K hK
    refine awpS_ret ?_
    refine RetOK_of ?_
    simp [hG, List.getD_cons_zero, List.getD_cons_succ, -List.getD_eq_getElem?_getD, prAt_zero, nmT_zero]
    have hck : chk2N g h = 1 := (by unfold chk2N; rw [if_pos]; exact hb26); have hN : prN g h = 1 := (by unfold prN; rw [if_pos (by omega)]; exact hck); obtain ⟨hX, hK⟩ := prX_no hN (by omega); rw [hX, hK, hN]; simp
  ·
    try simp [-List.getD_eq_getElem?_getD] at hb26
    refine awpS_skip ?_
    refine awpS_seq ?_
    refine awpS_seq ?_
    refine awpS_reg T_ok fun K hK => ?_
    simp [hG, List.getD_cons_zero, List.getD_cons_succ, -List.getD_eq_getElem?_getD, prAt_zero, nmT_zero]
    refine hK _ ?_
    clear K hK
    refine awpS_cond rfl (fun hb32 => ?_) (fun hb32 => ?_)
    ·
      try simp [-List.getD_eq_getElem?_getD] at hb32
      refine awpS_seq ?_
      refine awpS_reg T_ok fun K hK => ?_
      simp [hG, List.getD_cons_zero, List.getD_cons_succ, -List.getD_eq_getElem?_getD, prAt_zero, nmT_zero]
      refine ⟨Cond.mk (by simp [-List.getD_eq_getElem?_getD]), hK _ ?_⟩
      clear K hK
      refine awpS_ret ?_
      refine RetOK_of ?_
      simp [hG, List.getD_cons_zero, List.getD_cons_succ, -List.getD_eq_getElem?_getD, prAt_zero, nmT_zero]
      have hck : chk2N g h = 11 := (by unfold chk2N; rw [if_neg (by rintro (e | e); exact e hb26.1; exact e hb26.2), if_pos hb32]); have hN : prN g h = 11 := (by unfold prN; rw [if_pos (by omega)]; exact hck); obtain ⟨hX, hK⟩ := prX_no hN (by omega); rw [hX, hK, hN]; simp
    ·
      try simp [-List.getD_eq_getElem?_getD] at hb32
      have hck : chk2N g h = 0 := (by unfold chk2N; rw [if_neg (by rintro (e | e); exact e hb26.1; exact e hb26.2), if_neg (fun e => e hb32)])
      obtain ⟨hv, hw, hlb2⟩ := chk2_ok hck
      obtain ⟨hs1, he1⟩ := hsg hv
      obtain ⟨hs2, he2⟩ := hsh hw
      have hst := (gcheck_valid hv).1.st
      have hst2 := (gcheck_valid hw).1.st
      have hmx := mul_le64 (a := g.states) (b := h.states) (by omega) (by omega)
      refine awpS_skip ?_
      refine awpS_seq ?_
      refine awpS_seq ?_
      refine awpS_reg T_ok fun K hK => ?_
      simp [hG, List.getD_cons_zero, List.getD_cons_succ, -List.getD_eq_getElem?_getD, prAt_zero, nmT_zero]
      refine ⟨Cond.mk (by omega), hK _ ?_⟩
      clear K hK
      refine awpS_cond rfl (fun hb39 => ?_) (fun hb39 => ?_)
      ·
        try simp [-List.getD_eq_getElem?_getD] at hb39
        refine awpS_seq ?_
        refine awpS_reg T_ok fun K hK => ?_
        simp [hG, List.getD_cons_zero, List.getD_cons_succ, -List.getD_eq_getElem?_getD, prAt_zero, nmT_zero]
        refine ⟨Cond.mk (by simp [-List.getD_eq_getElem?_getD]), hK _ ?_⟩
        clear K hK
        refine awpS_ret ?_
        refine RetOK_of ?_
        simp [hG, List.getD_cons_zero, List.getD_cons_succ, -List.getD_eq_getElem?_getD, prAt_zero, nmT_zero]
        have hN : prN g h = 4 := (by unfold prN; rw [if_neg (by omega), if_pos (by omega)]); obtain ⟨hX, hK⟩ := prX_no hN (by omega); rw [hX, hK, hN]; simp
      ·
        try simp [-List.getD_eq_getElem?_getD] at hb39
        obtain ⟨hN, hM, hMX⟩ := pr_make hck (by omega) he1 he2
        have hpv := prod_valid hck (by omega) he1 he2
        have hEG : essG (prodA g h) = keptG (prodA g h) (essL (prodA g h)) := if_pos hpv
        have hEX : essX (prodA g h) = essL (prodA g h) := if_pos hpv
        refine awpS_skip ?_
        refine awpS_seq ?_
        refine awpS_reg T_ok fun K hK => ?_
        simp [hG, List.getD_cons_zero, List.getD_cons_succ, -List.getD_eq_getElem?_getD, prAt_zero, nmT_zero]
        refine hK _ ?_
        clear K hK
        refine awpS_seq ?_
        refine awpS_seq ?_
        refine awpS_reg T_ok fun K hK => ?_
        simp [hG, List.getD_cons_zero, List.getD_cons_succ, -List.getD_eq_getElem?_getD, prAt_zero, nmT_zero]
        refine hK _ ?_
        clear K hK
        refine awpS_block ?_
        refine awpS_loop (α := Nat) (fun i => ⟨[(2, .ptr (0, 0) 0 0), (3, .ptr (1, 0) 0 0), (4, .ptr (2, 0) 0 0), (7, .sl (3, 0) 0 (prAt g h i 0).length), (8, .int .i64 i)], [(0, .one (.arr 1 3 (fun _ => grF g))), (1, .one (.arr 1 3 (fun _ => grF h))), (2, .one (.arr 1 3 (fun _ j => [.int .i64 0, .int .i64 0, .nils].getD j .any))), (3, .one (.arr (prAt g h i 0).length 3 (fun q j => edgeF ((prAt g h i 0).getD q de) j)))], 4⟩) (fun i => i ≤ g.edges.length) (fun i => g.edges.length - i) (0) (Nat.zero_le _) ?_ ?_
        ·
          refine wk_of (id) (fun _ => false) (fun _ => false) ?_ ?_ rfl (Nat.zero_le _) (fun k hk => absurd hk (Nat.not_lt_zero _))
          · simp [hG, List.getD_cons_zero, List.getD_cons_succ, -List.getD_eq_getElem?_getD, prAt_zero, nmT_zero]
          · simp [hG, List.getD_cons_zero, List.getD_cons_succ, -List.getD_eq_getElem?_getD, prAt_zero, nmT_zero]
        ·
          rintro i hi
          refine awpS_seq ?_
          refine awpS_seq ?_
          refine awpS_reg T_ok fun K hK => ?_
          simp [hG, List.getD_cons_zero, List.getD_cons_succ, -List.getD_eq_getElem?_getD, prAt_zero, nmT_zero]
          refine hK _ ?_
          clear K hK
          refine awpS_cond rfl (fun hb46 => ?_) (fun hb46 => ?_)
          ·
            try simp [-List.getD_eq_getElem?_getD] at hb46
            have hei := edge_box hv (k := i) (by omega)
            have hb1 := mul_le64 (a := (g.edges.getD i de).frm) (b := h.states) (by omega) (by omega)
            have hb2 := mul_le64 (a := (g.edges.getD i de).to) (b := h.states) (by omega) (by omega)
            refine awpS_skip ?_
            refine awpS_seq ?_
            refine awpS_block ?_
            refine awpS_seq ?_
            refine awpS_reg T_ok fun K hK => ?_
            simp [hG, List.getD_cons_zero, List.getD_cons_succ, -List.getD_eq_getElem?_getD, prAt_zero, nmT_zero]
            refine hK _ ?_
            clear K hK
            refine awpS_block ?_
            refine awpS_loop (α := Nat) (fun m => ⟨[(2, .ptr (0, 0) 0 0), (3, .ptr (1, 0) 0 0), (4, .ptr (2, 0) 0 0), (7, .sl (3, 0) 0 (prAt g h i m).length), (8, .int .i64 i), (9, .int .i64 m)], [(0, .one (.arr 1 3 (fun _ => grF g))), (1, .one (.arr 1 3 (fun _ => grF h))), (2, .one (.arr 1 3 (fun _ j => [.int .i64 0, .int .i64 0, .nils].getD j .any))), (3, .one (.arr (prAt g h i m).length 3 (fun q j => edgeF ((prAt g h i m).getD q de) j)))], 4⟩) (fun m => m ≤ h.edges.length) (fun m => h.edges.length - m) (0) (Nat.zero_le _) ?_ ?_
            ·
              refine wk_of (id) (fun _ => false) (fun _ => false) ?_ ?_ rfl (Nat.zero_le _) (fun k hk => absurd hk (Nat.not_lt_zero _))
              · simp [hG, List.getD_cons_zero, List.getD_cons_succ, -List.getD_eq_getElem?_getD, prAt_zero, nmT_zero]
              · simp [hG, List.getD_cons_zero, List.getD_cons_succ, -List.getD_eq_getElem?_getD, prAt_zero, nmT_zero]
            ·
              rintro m hm
              refine awpS_seq ?_
              refine awpS_seq ?_
              refine awpS_reg T_ok fun K hK => ?_
              simp [hG, List.getD_cons_zero, List.getD_cons_succ, -List.getD_eq_getElem?_getD, prAt_zero, nmT_zero]
              refine hK _ ?_
              clear K hK
              refine awpS_cond rfl (fun hb53 => ?_) (fun hb53 => ?_)
              ·
                try simp [-List.getD_eq_getElem?_getD] at hb53
                have hpl := prAt_len (g := g) (h := h) (i := i) (m := m) he1 he2 (by omega)
                have hem := edge_box hw (k := m) (by omega)
                refine awpS_skip ?_
                refine awpS_seq ?_
                refine awpS_block ?_
                refine awpS_seq ?_
                refine awpS_cut (α := Unit) (fun _u => ⟨[(2, .ptr (0, 0) 0 0), (3, .ptr (1, 0) 0 0), (4, .ptr (2, 0) 0 0), (7, .sl (3, 0) 0 (prAt g h i m).length), (8, .int .i64 i), (9, .int .i64 m), (10, .ptr (4, 0) 0 0), (11, .ptr (5, 0) 0 0)], [(0, .one (.arr 1 3 (fun _ => grF g))), (1, .one (.arr 1 3 (fun _ => grF h))), (2, .one (.arr 1 3 (fun _ j => [.int .i64 0, .int .i64 0, .nils].getD j .any))), (3, .one (.arr (prAt g h i m).length 3 (fun q j => edgeF ((prAt g h i m).getD q de) j))), (4, .one (.arr 1 3 (fun _ => edgeF (g.edges.getD i de)))), (5, .one (.arr 1 3 (fun _ => edgeF (h.edges.getD m de))))], 6⟩) (fun _u => True) ?_ ?_ (by simp)
                ·
                  refine awpS_draw hR mixed [] ⟨[], [12, 13], [(0, 0), (1, 0)]⟩ fun mu0 => ?_
                  refine awpA_tk T_ok [0, 1, 2, 3, 4, 5, 6, 7, 8, 9] [] (fuel := 4) [9, 8, 7, 6, 5, 4, 3, 2, 1, 0] (by decide +kernel) (by decide +kernel) rfl rfl fun K hK => ?_
                  simp [hG, List.getD_cons_zero, List.getD_cons_succ, -List.getD_eq_getElem?_getD, prAt_zero, nmT_zero]
                  refine ⟨Cond.mk (by omega), hK _ ?_⟩
                  clear K hK
                  refine awpA_two (fuel := 3) (i := 10) (k := 11) (by decide +kernel) ?_ ?_
                  ·
                    refine awpO_reg T_ok rfl ?_ fun K hK => ?_
                    · simp [hG, List.getD_cons_zero, List.getD_cons_succ, -List.getD_eq_getElem?_getD, prAt_zero, nmT_zero]
                    simp [hG, List.getD_cons_zero, List.getD_cons_succ, -List.getD_eq_getElem?_getD, prAt_zero, nmT_zero]
                    refine hK _ ?_
                    clear K hK
                    refine awpA_only (fuel := 2) (i := 11) (by decide +kernel) ?_
                    refine awpO_reg T_ok rfl ?_ fun K hK => ?_
                    · simp [hG, List.getD_cons_zero, List.getD_cons_succ, -List.getD_eq_getElem?_getD, prAt_zero, nmT_zero]
                    simp [hG, List.getD_cons_zero, List.getD_cons_succ, -List.getD_eq_getElem?_getD, prAt_zero, nmT_zero]
                    refine hK _ ?_
                    clear K hK
                    refine awpA_only (fuel := 1) (i := 12) (by decide +kernel) ?_
                    refine awpO_reg T_ok rfl ?_ fun K hK => ?_
                    · simp [hG, List.getD_cons_zero, List.getD_cons_succ, -List.getD_eq_getElem?_getD, prAt_zero, nmT_zero]
                    simp [hG, List.getD_cons_zero, List.getD_cons_succ, -List.getD_eq_getElem?_getD, prAt_zero, nmT_zero]
                    refine ⟨Cond.mk (by simp [-List.getD_eq_getElem?_getD]), hK _ ?_⟩
                    clear K hK
                    refine awpA_only (fuel := 0) (i := 13) (by decide +kernel) ?_
                    refine awpO_reg T_ok rfl ?_ fun K hK => ?_
                    · simp [hG, List.getD_cons_zero, List.getD_cons_succ, -List.getD_eq_getElem?_getD, prAt_zero, nmT_zero]
                    simp [hG, List.getD_cons_zero, List.getD_cons_succ, -List.getD_eq_getElem?_getD, prAt_zero, nmT_zero]
                    refine ⟨Cond.mk (by simp [-List.getD_eq_getElem?_getD]), hK _ ?_⟩
                    clear K hK
                    refine awpA_done (by decide +kernel) ?_
                    refine awpS_nil ?_
                    refine cut_end (()) (trivial) ?_
                    refine wk_of (id) (fun _ => false) (fun _ => false) ?_ ?_ rfl (Nat.zero_le _) (fun k hk => absurd hk (Nat.not_lt_zero _))
                    · simp [hG, List.getD_cons_zero, List.getD_cons_succ, -List.getD_eq_getElem?_getD, prAt_zero, nmT_zero]
                    · simp [hG, List.getD_cons_zero, List.getD_cons_succ, -List.getD_eq_getElem?_getD, prAt_zero, nmT_zero]
                  ·
                    refine awpO_reg T_ok rfl ?_ fun K hK => ?_
                    · simp [hG, List.getD_cons_zero, List.getD_cons_succ, -List.getD_eq_getElem?_getD, prAt_zero, nmT_zero]
                    simp [hG, List.getD_cons_zero, List.getD_cons_succ, -List.getD_eq_getElem?_getD, prAt_zero, nmT_zero]
                    refine hK _ ?_
                    clear K hK
                    refine awpA_only (fuel := 2) (i := 10) (by decide +kernel) ?_
                    refine awpO_reg T_ok rfl ?_ fun K hK => ?_
                    · simp [hG, List.getD_cons_zero, List.getD_cons_succ, -List.getD_eq_getElem?_getD, prAt_zero, nmT_zero]
                    simp [hG, List.getD_cons_zero, List.getD_cons_succ, -List.getD_eq_getElem?_getD, prAt_zero, nmT_zero]
                    refine hK _ ?_
                    clear K hK
                    refine awpA_only (fuel := 1) (i := 12) (by decide +kernel) ?_
                    refine awpO_reg T_ok rfl ?_ fun K hK => ?_
                    · simp [hG, List.getD_cons_zero, List.getD_cons_succ, -List.getD_eq_getElem?_getD, prAt_zero, nmT_zero]
                    simp [hG, List.getD_cons_zero, List.getD_cons_succ, -List.getD_eq_getElem?_getD, prAt_zero, nmT_zero]
                    refine ⟨Cond.mk (by simp [-List.getD_eq_getElem?_getD]), hK _ ?_⟩
                    clear K hK
                    refine awpA_only (fuel := 0) (i := 13) (by decide +kernel) ?_
                    refine awpO_reg T_ok rfl ?_ fun K hK => ?_
                    · simp [hG, List.getD_cons_zero, List.getD_cons_succ, -List.getD_eq_getElem?_getD, prAt_zero, nmT_zero]
                    simp [hG, List.getD_cons_zero, List.getD_cons_succ, -List.getD_eq_getElem?_getD, prAt_zero, nmT_zero]
                    refine ⟨Cond.mk (by simp [-List.getD_eq_getElem?_getD]), hK _ ?_⟩
                    clear K hK
                    refine awpA_done (by decide +kernel) ?_
                    refine awpS_nil ?_
                    refine cut_end (()) (trivial) ?_
                    refine wk_of (fun k => if k = 4 then 5 else if k = 5 then 4 else k) (fun _ => false) (fun _ => false) ?_ ?_ rfl (Nat.zero_le _) (fun k hk => absurd hk (Nat.not_lt_zero _))
                    · simp [hG, List.getD_cons_zero, List.getD_cons_succ, -List.getD_eq_getElem?_getD, prAt_zero, nmT_zero]
                    · simp [hG, List.getD_cons_zero, List.getD_cons_succ, -List.getD_eq_getElem?_getD, prAt_zero, nmT_zero]
                ·
                  rintro ⟨⟩ -
                  refine awpS_seq ?_
                  refine awpS_reg T_ok fun K hK => ?_
                  simp [hG, List.getD_cons_zero, List.getD_cons_succ, -List.getD_eq_getElem?_getD, prAt_zero, nmT_zero]
                  refine hK _ ?_
                  clear K hK
                  refine awpS_cond rfl (fun hb70 => ?_) (fun hb70 => ?_)
                  ·
                    try simp [-List.getD_eq_getElem?_getD] at hb70
                    refine awpS_reg T_ok fun K hK => ?_
                    simp [hG, List.getD_cons_zero, List.getD_cons_succ, -List.getD_eq_getElem?_getD, prAt_zero, nmT_zero]
                    refine ⟨Cond.mk (by simp [-List.getD_eq_getElem?_getD]; omega), hK _ ?_⟩
                    clear K hK
                    refine awpS_nil ?_
                    refine blockQ_norm (thenQ_norm ?_)
                    refine awpS_reg T_ok fun K hK => ?_
                    simp [hG, List.getD_cons_zero, List.getD_cons_succ, -List.getD_eq_getElem?_getD, prAt_zero, nmT_zero]
                    refine ⟨Cond.mk (by omega), hK _ ?_⟩
                    clear K hK
                    refine awpS_nil ?_
                    refine round_end (m + 1) (by omega) (by omega) ?_
                    refine wk_of (fun k => if k = 3 then 7 else k) (fun _ => false) (fun _ => false) ?_ ?_ rfl (Nat.zero_le _) (fun k hk => absurd hk (Nat.not_lt_zero _))
                    · rw [prAt_succ, if_pos hb70]; simp [hG, List.getD_cons_zero, List.getD_cons_succ, -List.getD_eq_getElem?_getD]
                    · rw [prAt_succ, if_pos hb70]; simp [hG, List.getD_cons_zero, List.getD_cons_succ, -List.getD_eq_getElem?_getD]; exact fun q hq => app_edge3 (by simpa using hq) (fun j hj => by rcases lt3 hj with rfl | rfl | rfl <;> simp [prEd, -List.getD_eq_getElem?_getD])
                  ·
                    try simp [-List.getD_eq_getElem?_getD] at hb70
                    refine awpS_skip ?_
                    refine awpS_nil ?_
                    refine blockQ_norm (thenQ_norm ?_)
                    refine awpS_reg T_ok fun K hK => ?_
                    simp [hG, List.getD_cons_zero, List.getD_cons_succ, -List.getD_eq_getElem?_getD, prAt_zero, nmT_zero]
                    refine ⟨Cond.mk (by omega), hK _ ?_⟩
                    clear K hK
                    refine awpS_nil ?_
                    refine round_end (m + 1) (by omega) (by omega) ?_
                    refine wk_of (id) (fun _ => false) (fun _ => false) ?_ ?_ rfl (Nat.zero_le _) (fun k hk => absurd hk (Nat.not_lt_zero _))
                    · rw [prAt_succ, if_neg hb70, List.append_nil]; simp [hG, List.getD_cons_zero, List.getD_cons_succ, -List.getD_eq_getElem?_getD]
                    · rw [prAt_succ, if_neg hb70, List.append_nil]; simp [hG, List.getD_cons_zero, List.getD_cons_succ, -List.getD_eq_getElem?_getD]
              ·
                try simp [-List.getD_eq_getElem?_getD] at hb53
                obtain rfl : m = h.edges.length := (by omega)
                have hnx := prAt_next (g := g) (h := h) (i := i) (by omega)
                refine awpS_exit ?_
                refine thenQ_exit (thenQ_exit ?_)
                refine blockQ_exit (thenQ_norm ?_)
                refine awpS_nil ?_
                refine blockQ_norm (thenQ_norm ?_)
                refine awpS_reg T_ok fun K hK => ?_
                simp [hG, List.getD_cons_zero, List.getD_cons_succ, -List.getD_eq_getElem?_getD, prAt_zero, nmT_zero]
                refine ⟨Cond.mk (by omega), hK _ ?_⟩
                clear K hK
                refine awpS_nil ?_
                refine round_end (i + 1) (by omega) (by omega) ?_
                refine wk_of (id) (fun _ => false) (fun _ => false) ?_ ?_ rfl (Nat.zero_le _) (fun k hk => absurd hk (Nat.not_lt_zero _))
                · rw [← hnx]; simp [hG, List.getD_cons_zero, List.getD_cons_succ, -List.getD_eq_getElem?_getD]
                · rw [← hnx]; simp [hG, List.getD_cons_zero, List.getD_cons_succ, -List.getD_eq_getElem?_getD]
          ·
            try simp [-List.getD_eq_getElem?_getD] at hb46
            obtain rfl : i = g.edges.length := (by omega)
            have hpq := prAt_len (g := g) (h := h) (i := g.edges.length) (m := 0) he1 he2 (Nat.zero_le _)
            refine awpS_exit ?_
            refine thenQ_exit (thenQ_exit ?_)
            refine blockQ_exit (thenQ_norm ?_)
            refine awpS_seq ?_
            refine awpS_seq ?_
            refine awpS_reg T_ok fun K hK => ?_
            simp [hG, List.getD_cons_zero, List.getD_cons_succ, -List.getD_eq_getElem?_getD, prAt_zero, nmT_zero]
            refine hK _ ?_
            clear K hK
            refine awpS_cond rfl (fun hb95 => ?_) (fun hb95 => ?_)
            ·
              exact absurd hb95 (by simp; omega)
            ·
              try simp [-List.getD_eq_getElem?_getD] at hb95
              refine awpS_skip ?_
              refine awpS_seq ?_
              refine awpS_wk (st2 := ⟨[(2, .ptr (0, 0) 0 0), (3, .ptr (1, 0) 0 0), (4, .ptr (2, 0) 0 0), (7, edgesC (prodL g h))], [(0, .one (.arr 1 3 (fun _ => grF g))), (1, .one (.arr 1 3 (fun _ => grF h))), (2, .one (.arr 1 3 (fun _ j => [.int .i64 0, .int .i64 0, .nils].getD j .any)))], 3⟩) ?_ ?_
              ·
                refine wk_of (id) (fun k => k == 3) (fun _ => false) ?_ ?_ rfl (Nat.zero_le _) (fun k hk => absurd hk (Nat.not_lt_zero _))
                · rw [← prAt_all]; simp [hG, List.getD_cons_zero, List.getD_cons_succ, -List.getD_eq_getElem?_getD]
                · simp [hG, List.getD_cons_zero, List.getD_cons_succ, -List.getD_eq_getElem?_getD, prAt_zero, nmT_zero]
              refine awpS_regL ?_
              refine awpL_reg T_ok 8 fun K hK => ?_
              simp [hG, List.getD_cons_zero, List.getD_cons_succ, -List.getD_eq_getElem?_getD, prAt_zero, nmT_zero]
              refine ⟨Cond.mk (by omega), hK _ ?_⟩
              clear K hK
              refine awpL_call cal42 rfl rfl (fun _ => rfl) (fun hg => makeR_c g.labels (g.states * h.states) (prodL g h) (by rw [← prAt_all]; have := prAt_len (g := g) (h := h) (i := g.edges.length) (m := 0) he1 he2 (Nat.zero_le _); omega)) (fun hg => ?_) (fun hg => ?_) fun K hK => ?_
              · simp [hG, List.getD_cons_zero, List.getD_cons_succ, -List.getD_eq_getElem?_getD, prAt_zero, nmT_zero]
              · simp [hG, List.getD_cons_zero, List.getD_cons_succ, -List.getD_eq_getElem?_getD, prAt_zero, nmT_zero]
              simp [hG, List.getD_cons_zero, List.getD_cons_succ, -List.getD_eq_getElem?_getD, prAt_zero, nmT_zero]
              refine hK _ ?_
              clear K hK
              refine awpL_reg T_ok 6 fun K hK => ?_
              simp [hG, List.getD_cons_zero, List.getD_cons_succ, -List.getD_eq_getElem?_getD, prAt_zero, nmT_zero]
              refine ⟨Cond.mk (by simp [-List.getD_eq_getElem?_getD]), hK _ ?_⟩
              clear K hK
              refine awpL_nil ?_
              refine awpS_seq ?_
              refine awpS_wk (st2 := ⟨[(2, .ptr (0, 0) 0 0), (3, .ptr (1, 0) 0 0), (4, .ptr (2, 0) 0 0), (12, .ptr (3, 0) 0 0)], [(0, .one (.arr 1 3 (fun _ => grF g))), (1, .one (.arr 1 3 (fun _ => grF h))), (2, .one (.arr 1 3 (fun _ j => [.int .i64 0, .int .i64 0, .nils].getD j .any))), (3, .one (.arr 1 3 (fun _ => grF (prodA g h))))], 4⟩) ?_ ?_
              ·
                refine wk_of (id) (fun _ => false) (fun _ => false) ?_ ?_ rfl (Nat.zero_le _) (fun k hk => absurd hk (Nat.not_lt_zero _))
                · simp [hG, List.getD_cons_zero, List.getD_cons_succ, -List.getD_eq_getElem?_getD, prAt_zero, nmT_zero]
                · rw [hMX]; simp [hG, List.getD_cons_zero, List.getD_cons_succ, -List.getD_eq_getElem?_getD]
              refine awpS_regL ?_
              refine awpL_reg T_ok 1 fun K hK => ?_
              simp [hG, List.getD_cons_zero, List.getD_cons_succ, -List.getD_eq_getElem?_getD, prAt_zero, nmT_zero]
              refine hK _ ?_
              clear K hK
              refine awpL_call cal59 rfl rfl (fun _ => rfl) (fun hg => essentialR_c (prodA g h)) (fun hg => ?_) (fun hg => ?_) fun K hK => ?_
              · simp [hG, List.getD_cons_zero, List.getD_cons_succ, -List.getD_eq_getElem?_getD, prAt_zero, nmT_zero]
              · simp [hG, List.getD_cons_zero, List.getD_cons_succ, -List.getD_eq_getElem?_getD, prAt_zero, nmT_zero]
              simp [hG, List.getD_cons_zero, List.getD_cons_succ, -List.getD_eq_getElem?_getD, prAt_zero, nmT_zero]
              refine hK _ ?_
              clear K hK
              refine awpL_reg T_ok 8 fun K hK => ?_
              simp [hG, List.getD_cons_zero, List.getD_cons_succ, -List.getD_eq_getElem?_getD, prAt_zero, nmT_zero]
              refine ⟨Cond.mk (by simp [-List.getD_eq_getElem?_getD]), hK _ ?_⟩
              clear K hK
              refine awpL_nil ?_
              refine awpS_seq ?_
              refine awpS_wk (st2 := ⟨[(2, .ptr (0, 0) 0 0), (3, .ptr (1, 0) 0 0), (4, .ptr (2, 0) 0 0), (14, .ptr (3, 0) 0 0), (15, ints (essL (prodA g h)))], [(0, .one (.arr 1 3 (fun _ => grF g))), (1, .one (.arr 1 3 (fun _ => grF h))), (2, .one (.arr 1 3 (fun _ j => [.int .i64 0, .int .i64 0, .nils].getD j .any))), (3, .one (.arr 1 3 (fun _ => grF (keptG (prodA g h) (essL (prodA g h))))))], 4⟩) ?_ ?_
              ·
                refine wk_of (fun k => if k = 3 then 4 else k) (fun _ => false) (fun _ => false) ?_ ?_ rfl (Nat.zero_le _) (fun k hk => absurd hk (Nat.not_lt_zero _))
                · rw [hEX]; simp [hG, List.getD_cons_zero, List.getD_cons_succ, -List.getD_eq_getElem?_getD]
                · rw [hEG]; simp [hG, List.getD_cons_zero, List.getD_cons_succ, -List.getD_eq_getElem?_getD]
              refine awpS_reg T_ok fun K hK => ?_
              simp [hG, List.getD_cons_zero, List.getD_cons_succ, -List.getD_eq_getElem?_getD, prAt_zero, nmT_zero]
              refine hK _ ?_
              clear K hK
              refine awpS_seq ?_
              refine awpS_seq ?_
              refine awpS_reg T_ok fun K hK => ?_
              simp [hG, List.getD_cons_zero, List.getD_cons_succ, -List.getD_eq_getElem?_getD, prAt_zero, nmT_zero]
              refine hK _ ?_
              clear K hK
              refine awpS_block ?_
              refine awpS_loop (α := Nat) (fun i => ⟨[(2, .ptr (0, 0) 0 0), (3, .ptr (1, 0) 0 0), (4, .ptr (2, 0) 0 0), (14, .ptr (3, 0) 0 0), (15, ints (essL (prodA g h))), (17, .sl (4, 0) 0 (nmT h.states (essL (prodA g h)) i).length), (18, .int .i64 i)], [(0, .one (.arr 1 3 (fun _ => grF g))), (1, .one (.arr 1 3 (fun _ => grF h))), (2, .one (.arr 1 3 (fun _ j => [.int .i64 0, .int .i64 0, .nils].getD j .any))), (3, .one (.arr 1 3 (fun _ => grF (keptG (prodA g h) (essL (prodA g h)))))), (4, .one (.arr (nmT h.states (essL (prodA g h)) i).length 1 (fun q _ => ints ((nmT h.states (essL (prodA g h)) i).getD q []))))], 5⟩) (fun i => i ≤ (essL (prodA g h)).length) (fun i => (essL (prodA g h)).length - i) (0) (Nat.zero_le _) ?_ ?_
              ·
                refine wk_of (id) (fun _ => false) (fun _ => false) ?_ ?_ rfl (Nat.zero_le _) (fun k hk => absurd hk (Nat.not_lt_zero _))
                · simp [hG, List.getD_cons_zero, List.getD_cons_succ, -List.getD_eq_getElem?_getD, prAt_zero, nmT_zero]
                · simp [hG, List.getD_cons_zero, List.getD_cons_succ, -List.getD_eq_getElem?_getD, prAt_zero, nmT_zero]
              ·
                rintro i hi
                refine awpS_seq ?_
                refine awpS_seq ?_
                refine awpS_reg T_ok fun K hK => ?_
                simp [hG, List.getD_cons_zero, List.getD_cons_succ, -List.getD_eq_getElem?_getD, prAt_zero, nmT_zero]
                refine hK _ ?_
                clear K hK
                refine awpS_cond rfl (fun hb119 => ?_) (fun hb119 => ?_)
                ·
                  try simp [-List.getD_eq_getElem?_getD] at hb119
                  have hil : i < (essL (prodA g h)).length := (by omega)
                  have hbx : 0 ≤ (essL (prodA g h)).getD i 0 ∧ (essL (prodA g h)).getD i 0 < g.states * h.states := ess_box (g := prodA g h) (Int.mul_nonneg hst.1 hst2.1) (k := (prodA g h).states.toNat) (getD_mem (d := 0) hil)
                  have hbs : (prodA g h).states = g.states * h.states := rfl
                  have hnl := nmT_len (H := h.states) (L := essL (prodA g h)) (i := i)
                  have hns := nmT_succ (H := h.states) hil
                  have hel : (essL (prodA g h)).length ≤ (prodA g h).states.toNat := ess_len
                  have hHp : 0 < h.states := Classical.byContradiction (fun e => by have e0 : h.states = 0 := (by omega); have := hbx.2; rw [e0, Int.mul_zero] at this; omega)
                  refine awpS_skip ?_
                  refine awpS_seq ?_
                  refine awpS_block ?_
                  refine awpS_draw hR mixed [(17, (4, 0))] ⟨[], [], []⟩ fun mu0 => ?_
                  refine awpA_tk T_ok [0] [] (fuel := 18) [0] (by decide +kernel) (by decide +kernel) rfl rfl fun K hK => ?_
                  simp [hG, List.getD_cons_zero, List.getD_cons_succ, -List.getD_eq_getElem?_getD, prAt_zero, nmT_zero]
                  refine hK _ ?_
                  clear K hK
                  refine awpA_tk T_ok [1, 2, 3, 4, 5, 6, 7, 8, 9, 10, 11, 12, 13, 14] [(4, 0)] (fuel := 4) [14, 13, 12, 11, 10, 9, 8, 7, 6, 5, 4, 3, 2, 1, 0] (by decide +kernel) (by decide +kernel) rfl rfl fun K hK => ?_
                  simp [hG, List.getD_cons_zero, List.getD_cons_succ, -List.getD_eq_getElem?_getD, prAt_zero, nmT_zero]
                  refine ⟨Cond.mk (by omega), hK _ ?_⟩
                  clear K hK
                  refine awpA_only (fuel := 3) (i := 15) (by decide +kernel) ?_
                  refine awpO_reg T_ok rfl ?_ fun K hK => ?_
                  · simp [hG, List.getD_cons_zero, List.getD_cons_succ, -List.getD_eq_getElem?_getD, prAt_zero, nmT_zero]
                  simp [hG, List.getD_cons_zero, List.getD_cons_succ, -List.getD_eq_getElem?_getD, prAt_zero, nmT_zero]
                  refine hK _ ?_
                  clear K hK
                  refine awpA_only (fuel := 2) (i := 16) (by decide +kernel) ?_
                  refine awpO_reg T_ok rfl ?_ fun K hK => ?_
                  · simp [hG, List.getD_cons_zero, List.getD_cons_succ, -List.getD_eq_getElem?_getD, prAt_zero, nmT_zero]
                  simp [hG, List.getD_cons_zero, List.getD_cons_succ, -List.getD_eq_getElem?_getD, prAt_zero, nmT_zero]
                  refine hK _ ?_
                  clear K hK
                  refine awpA_only (fuel := 1) (i := 17) (by decide +kernel) ?_
                  refine awpO_reg T_ok rfl ?_ fun K hK => ?_
                  · simp [hG, List.getD_cons_zero, List.getD_cons_succ, -List.getD_eq_getElem?_getD, prAt_zero, nmT_zero]
                  simp [hG, List.getD_cons_zero, List.getD_cons_succ, -List.getD_eq_getElem?_getD, prAt_zero, nmT_zero]
                  refine ⟨Cond.mk (by omega), hK _ ?_⟩
                  clear K hK
                  refine awpA_tk T_ok [18] [] (fuel := 0) [18, 17, 16, 15, 14, 13, 12, 11, 10, 9, 8, 7, 6, 5, 4, 3, 2, 1, 0] (by decide +kernel) (by decide +kernel) rfl rfl fun K hK => ?_
                  simp [hG, List.getD_cons_zero, List.getD_cons_succ, -List.getD_eq_getElem?_getD, prAt_zero, nmT_zero]
                  refine hK _ ?_
                  clear K hK
                  refine awpA_done (by decide +kernel) ?_
                  refine awpS_nil ?_
                  refine blockQ_norm (thenQ_norm ?_)
                  refine awpS_reg T_ok fun K hK => ?_
                  simp [hG, List.getD_cons_zero, List.getD_cons_succ, -List.getD_eq_getElem?_getD, prAt_zero, nmT_zero]
                  refine ⟨Cond.mk (by omega), hK _ ?_⟩
                  clear K hK
                  refine awpS_nil ?_
                  refine round_end (i + 1) (by omega) (by omega) ?_
                  refine wk_of (fun k => if k = 4 then 7 else k) (fun k => k == 5) (fun _ => false) ?_ ?_ rfl (Nat.zero_le _) (fun k hk => absurd hk (Nat.not_lt_zero _))
                  · rw [hns]; simp [hG, List.getD_cons_zero, List.getD_cons_succ, -List.getD_eq_getElem?_getD]
                  · rw [hns]; simp [hG, List.getD_cons_zero, List.getD_cons_succ, -List.getD_eq_getElem?_getD]; refine fun j hj => app_rowX hj ?_; simp [-List.getD_eq_getElem?_getD]; exact nm_lit
                ·
                  try simp [-List.getD_eq_getElem?_getD] at hb119
                  obtain rfl : i = (essL (prodA g h)).length := (by omega)
                  refine awpS_exit ?_
                  refine thenQ_exit (thenQ_exit ?_)
                  refine blockQ_exit (thenQ_norm ?_)
                  refine awpS_seq ?_
                  refine awpS_reg T_ok fun K hK => ?_
                  simp [hG, List.getD_cons_zero, List.getD_cons_succ, -List.getD_eq_getElem?_getD, prAt_zero, nmT_zero]
                  refine ⟨Cond.mk (by simp [-List.getD_eq_getElem?_getD]), hK _ ?_⟩
                  clear K hK
                  refine awpS_ret ?_
                  refine RetOK_of ?_
                  simp [hG, List.getD_cons_zero, List.getD_cons_succ, -List.getD_eq_getElem?_getD, prAt_zero, nmT_zero]
                  obtain ⟨hX, hK⟩ := prX_ok hN; rw [hX, hK, hN, ← nmT_all]; simp

end Go.Proofs.Ytddghlnaocjjkaa
