/-
  Walks: the classes of the states.
-/
import Derived.Test.YtmjkbidnghcfnaaLT
import Derived.Test.YtmjkbidnghcfnaaLZ
import Derived.Test.YtmjkbidnghcfnaaWB
import Derived.Test.YtmjkbidnghcfnaaPD
import Derived.Test.YtmjkbidnghcfnaaLC1
namespace Go.Proofs.Ytmjkbidnghcfnaa
set_option linter.unusedSimpArgs false
set_option linter.unusedVariables false
open Go Go.Lift Go.Proofs

def finK (x : Finer) : AVal := aggL [.int .i64 x.cls, .str x.word, .int .i64 x.next]
@[simp] theorem aggL_fin {a c : Int} {b : List UInt8} : aggL [.int .i64 a, .str b, .int .i64 c] = finK ⟨a, b, c⟩ := rfl
theorem kEq_fin (a b : Finer) : kEq T 105 (finK a) (finK b) = some (decide (a = b)) := by
  have : kEq T 105 (finK a) (finK b) = some (decide (a.cls = b.cls) && (decide (a.word = b.word) && (decide (a.next = b.next) && true))) := by
    simp [finK, aggL]
  rw [this]
  congr 1
  rw [Bool.eq_iff_iff]
  simp only [Bool.and_eq_true, decide_eq_true_eq, Bool.and_true]
  obtain ⟨a1, a2, a3⟩ := a
  obtain ⟨b1, b2, b3⟩ := b
  simp
def luKx := luK
theorem luK_congr {l : List (AVal × AVal)} {f g : Nat → AVal} (h : f 0 = g 0 ∧ f 1 = g 1 ∧ f 2 = g 2) : ∀ i, luK T 105 l i (.agg 3 f) = luK T 105 l i (.agg 3 g) := by
  obtain ⟨h0, h1, h2⟩ := h
  induction l with
  | nil => intro i; rfl
  | cons p l ih =>
    intro i
    obtain ⟨a, v⟩ := p
    have hk : kEq T 105 (.agg 3 f) a = kEq T 105 (.agg 3 g) a := by
      cases a <;> simp [h0, h1, h2]
    simp only [luK, hk, ih (i + 1)]
@[simp] theorem luK105 {l : List (Finer × Int)} {f : Nat → AVal} : luK T 105 (mpE finK intV l) 0 (.agg 3 f) = (match f 0, f 1, f 2 with
    | .int .i64 a, .str b, .int .i64 c => some ((alFind l 0 (⟨a, b, c⟩ : Finer)).map fun p => (p.1, intV p.2))
    | _, _, _ => luKx T 105 (mpE finK intV l) 0 (.agg 3 f)) := by
  split
  · rename_i a b c h0 h1 h2
    rw [← luK_mpE (ek := finK) (ev := intV) kEq_fin l 0 ⟨a, b, c⟩]
    exact luK_congr ⟨h0, h1, h2⟩ 0
  · rfl
@[simp] theorem putK_fin {l : List (Finer × Int)} {k : Finer} {v : Int} : putK (mpE finK intV l) ((alFind l 0 k).map fun p => (p.1, intV p.2)) (finK k) (.int .i64 v) = mpE finK intV (alPut l k v) := putK_mpE (ek := finK) (ev := intV) l k v
@[simp high] theorem HLe_fi {h : Heap} {σ : Lift.Id → Lift.Id} {fz : Nat → Bool} {vz : Lift.Id → Bool} {nx : Nat} {l2 l : List (Finer × Int)} (e : l2 = l) : HLe h σ fz vz nx (.mp (mpE finK intV l2)) (some (.mp (mpE finK intV l))) = True := eq_true (HLe_mpE (ek := finK) (ev := intV) (fun a => by simp [finK, aggL, Clo]) (fun _ => trivial) e)
theorem app_row {H : Heap} {σ : Lift.Id → Lift.Id} {fz : Nat → Bool} {vz : Lift.Id → Bool} {nx : Nat} {R : List (List Cell)} {row : List Cell} {j : Nat} {v : AVal} {w : Nat → Nat → AVal} (hj : j < R.length + 1) (hv : VLe H σ fz vz nx (cells row) v) :
    VLe H σ fz vz nx (cells ((R ++ [row]).getD j [])) (app (fun i _ => cells (R.getD i [])) R.length (fun i j => if i = 0 ∧ j = 0 then v else w i j) j 0) := by
  rw [getD_app]
  unfold app
  by_cases h2 : j < R.length
  · rw [if_pos h2, if_pos h2]; exact Clo.le _ Clo_cells
  · have : j - R.length = 0 := by omega
    rw [if_neg h2, if_neg h2, this]
    exact hv

set_option maxRecDepth 100000 in
theorem classes_c (e : Enc) (hv : checkE e = 0) : PC Try.prog 38 [.agg 4 (encF e)] (ints (classesE e)) := by
  have hl64 := rows_len hv
  have hpos := (checkE_valid hv).2.1
  have hin := (checkE_valid hv).1.inputs
  refine PC_introS T_ok Try.func38 rfl (by simp [Try.ntmps38]) fun G hG hR => ?_
  simp only [Try.ntmps38, Try.results38] at hG ⊢
  simp only [argEnv, Nat.zero_add, Nat.reduceAdd]
  refine awpS_seq ?_
  refine awpS_reg T_ok fun K hK => ?_
  simp [hG, List.getD_cons_zero, List.getD_cons_succ, -List.getD_eq_getElem?_getD]
  refine ⟨Cond.mk (by simp [-List.getD_eq_getElem?_getD]), hK _ ?_⟩
  clear K hK
  refine awpS_seq ?_
  refine awpS_reg T_ok fun K hK => ?_
  simp [hG, List.getD_cons_zero, List.getD_cons_succ, -List.getD_eq_getElem?_getD]
  refine ⟨Cond.mk (by omega), hK _ ?_⟩
  clear K hK
  refine awpS_seq ?_
  refine awpS_reg T_ok fun K hK => ?_
  simp [hG, List.getD_cons_zero, List.getD_cons_succ, -List.getD_eq_getElem?_getD]
  refine hK _ ?_
  clear K hK
  refine awpS_block ?_
  refine awpS_loop (α := Nat) (fun k => ⟨[(1, .ptr (0, 0) 0 0), (3, ints (classesAt e k)), (4, .int .i64 (cnt (classesAt e k)))], [(0, .one (.arr 1 4 (fun _ => encF e)))], 1⟩) (fun k => ∀ j, j < k → cnt (classesAt e (j + 1)) ≠ cnt (classesAt e j)) (fun k => e.rows.length - k) (0) (fun j hj => absurd hj (Nat.not_lt_zero _)) ?_ ?_
  ·
    refine wk_of (id) (fun k => k == 1) (fun _ => false) ?_ ?_ rfl (Nat.zero_le _) (fun k hk => absurd hk (Nat.not_lt_zero _))
    · simp [hG, -List.getD_eq_getElem?_getD]; exact ⟨⟨(classesAt_ok e 0).1.symm, by rw [(classesAt_ok e 0).1]; omega, fun i hi => by rw [zeros_at]; rfl⟩, (cnt_zeros hpos).symm⟩
    · simp [hG, List.getD_cons_zero, List.getD_cons_succ, -List.getD_eq_getElem?_getD]
  ·
    rintro k hk
    have hcl := (classesAt_ok e k).1
    have hrg := (classesAt_ok e k).2
    have hgr := classes_grow k hk hpos
    have hcn := cnt_le_len (l := classesAt e k)
    refine awpS_block ?_
    refine awpS_seq ?_
    refine awpS_reg T_ok fun K hK => ?_
    simp [hG, List.getD_cons_zero, List.getD_cons_succ, -List.getD_eq_getElem?_getD]
    refine hK _ ?_
    clear K hK
    refine awpS_seq ?_
    refine awpS_regL ?_
    refine awpL_reg T_ok 1 fun K hK => ?_
    simp [hG, List.getD_cons_zero, List.getD_cons_succ, -List.getD_eq_getElem?_getD]
    refine hK _ ?_
    clear K hK
    refine awpL_fc cal50 [] (fun _ => false) (cloneI_c (classesAt e k) (by have := (classesAt_ok e k).1; omega)) rfl rfl rfl (by simp) (.inl fun _ => rfl) ?_ ?_ ?_ fun K hK x hI hno => ?_
    · simp [hG, List.getD_cons_zero, List.getD_cons_succ, -List.getD_eq_getElem?_getD]
    · simp [hG, List.getD_cons_zero, List.getD_cons_succ, -List.getD_eq_getElem?_getD]
    · simp [hG, List.getD_cons_zero, List.getD_cons_succ, -List.getD_eq_getElem?_getD]
    simp [hG, List.getD_cons_zero, List.getD_cons_succ, -List.getD_eq_getElem?_getD]
    refine hK _ ?_
    clear K hK
    refine awpL_reg T_ok 1 fun K hK => ?_
    simp [hG, List.getD_cons_zero, List.getD_cons_succ, -List.getD_eq_getElem?_getD]
    refine hK _ ?_
    clear K hK
    refine awpL_nil ?_
    refine awpS_seq ?_
    refine awpS_seq ?_
    refine awpS_reg T_ok fun K hK => ?_
    simp [hG, List.getD_cons_zero, List.getD_cons_succ, -List.getD_eq_getElem?_getD]
    refine hK _ ?_
    clear K hK
    refine awpS_block ?_
    refine awpS_loop (α := Nat × List (Finer × Int)) (fun p => ⟨[(1, .ptr (0, 0) 0 0), (3, ints (classesAt e k)), (4, .int .i64 (cnt (classesAt e k))), (5, .map (1, 0)), (6, .sl (2, 0) 0 e.rows.length), (22, .int .i64 e.inputs), (23, .int .i64 p.1)], [(0, .one (.arr 1 4 (fun _ => encF e))), (1, .one (.mp (mpE finK intV p.2))), (2, .one (.arr e.rows.length 1 (fun j _ => .int .i64 (((partE e (classesAt e k) p.1)).getD j 0))))], 3⟩) (fun p => (p.1 : Int) ≤ e.inputs) (fun p => e.inputs.toNat - p.1) ((0, [])) (by simp; omega) ?_ ?_
    ·
      refine wk_of (id) (fun _ => false) (fun _ => false) ?_ ?_ rfl (Nat.zero_le _) (fun k hk => absurd hk (Nat.not_lt_zero _))
      · simp [hG, -List.getD_eq_getElem?_getD]; exact hcl
      · simp [hG, -List.getD_eq_getElem?_getD]; exact ⟨by omega, fun i _ => by simp [partE]⟩
    ·
      rintro ⟨i, M⟩ hi
      simp only at hi
      have hpl := (partE_ok (i := i) hcl hrg).1
      refine awpS_seq ?_
      refine awpS_reg T_ok fun K hK => ?_
      simp [hG, List.getD_cons_zero, List.getD_cons_succ, -List.getD_eq_getElem?_getD]
      refine hK _ ?_
      clear K hK
      refine awpS_seq ?_
      refine awpS_cond rfl (fun hb24 => ?_) (fun hb24 => ?_)
      ·
        try simp [-List.getD_eq_getElem?_getD] at hb24
        refine awpS_skip ?_
        refine awpS_seq ?_
        refine awpS_block ?_
        refine awpS_seq ?_
        refine awpS_reg T_ok fun K hK => ?_
        simp [hG, List.getD_cons_zero, List.getD_cons_succ, -List.getD_eq_getElem?_getD]
        refine hK _ ?_
        clear K hK
        refine awpS_seq ?_
        refine awpS_reg T_ok fun K hK => ?_
        simp [hG, List.getD_cons_zero, List.getD_cons_succ, -List.getD_eq_getElem?_getD]
        refine hK _ ?_
        clear K hK
        refine awpS_seq ?_
        refine awpS_reg T_ok fun K hK => ?_
        simp [hG, List.getD_cons_zero, List.getD_cons_succ, -List.getD_eq_getElem?_getD]
        refine hK _ ?_
        clear K hK
        refine awpS_block ?_
        refine awpS_loop (α := Nat) (fun s => ⟨[(1, .ptr (0, 0) 0 0), (3, ints (classesAt e k)), (4, .int .i64 (cnt (classesAt e k))), (5, .map (1, 0)), (6, .sl (2, 0) 0 e.rows.length), (7, .int .i64 i), (22, .int .i64 e.inputs), (23, .int .i64 i), (28, rowsC e.rows), (29, .int .i64 e.rows.length), (30, .int .i64 s)], [(0, .one (.arr 1 4 (fun _ => encF e))), (1, .one (.mp (mpE finK intV (numMap [] ((keysE e (classesAt e k) i (partE e (classesAt e k) i)).take s))))), (2, .one (.arr e.rows.length 1 (fun j _ => .int .i64 (if j < s then (stepE e (classesAt e k) (partE e (classesAt e k) i) i).getD j 0 else ((partE e (classesAt e k) i)).getD j 0))))], 3⟩) (fun s => s ≤ e.rows.length) (fun s => e.rows.length - s) (0) (Nat.zero_le _) ?_ ?_
        ·
          refine wk_of (id) (fun _ => false) (fun _ => false) ?_ ?_ rfl (Nat.zero_le _) (fun k hk => absurd hk (Nat.not_lt_zero _))
          · simp [hG, List.getD_cons_zero, List.getD_cons_succ, -List.getD_eq_getElem?_getD]
          · simp [hG, numMap, -List.getD_eq_getElem?_getD]
        ·
          rintro s hs
          refine awpS_seq ?_
          refine awpS_reg T_ok fun K hK => ?_
          simp [hG, List.getD_cons_zero, List.getD_cons_succ, -List.getD_eq_getElem?_getD]
          refine hK _ ?_
          clear K hK
          refine awpS_seq ?_
          refine awpS_cond rfl (fun hb31 => ?_) (fun hb31 => ?_)
          ·
            try simp [-List.getD_eq_getElem?_getD] at hb31
            have hil := row_i hv (s := s) (by simpa using hb31) (i := i) (by simpa using hb24)
            have hto := cell_to hv (by simpa using hb31) hil
            unfold cellAt at hto
            refine awpS_skip ?_
            refine awpS_seq ?_
            refine awpS_block ?_
            refine awpS_seq ?_
            refine awpS_reg T_ok fun K hK => ?_
            simp [hG, List.getD_cons_zero, List.getD_cons_succ, -List.getD_eq_getElem?_getD]
            refine ⟨Cond.mk (by omega), hK _ ?_⟩
            clear K hK
            refine awpS_seq ?_
            refine awpS_draw hR mixed [] ⟨[19], [], []⟩ fun mu0 => ?_
            refine awpA_tk T_ok [0, 1, 2, 3, 4, 5, 6, 7, 8, 9, 10, 11, 12, 13, 14, 15, 16, 17] [] (fuel := 2) [17, 16, 15, 14, 13, 12, 11, 10, 9, 8, 7, 6, 5, 4, 3, 2, 1, 0] (by decide +kernel) (by decide +kernel) rfl rfl fun K hK => ?_
            simp [hG, List.getD_cons_zero, List.getD_cons_succ, -List.getD_eq_getElem?_getD]
            refine ⟨Cond.mk (by omega), hK _ ?_⟩
            clear K hK
            refine awpA_only (fuel := 1) (i := 18) (by decide +kernel) ?_
            refine awpO_reg T_ok rfl ?_ fun K hK => ?_
            · simp [hG, List.getD_cons_zero, List.getD_cons_succ, -List.getD_eq_getElem?_getD]
            simp [hG, List.getD_cons_zero, List.getD_cons_succ, -List.getD_eq_getElem?_getD]
            refine hK _ ?_
            clear K hK
            refine awpA_only (fuel := 0) (i := 19) (by decide +kernel) ?_
            refine awpO_reg T_ok rfl ?_ fun K hK => ?_
            · simp [hG, List.getD_cons_zero, List.getD_cons_succ, -List.getD_eq_getElem?_getD]
            simp [hG, List.getD_cons_zero, List.getD_cons_succ, -List.getD_eq_getElem?_getD]
            refine ⟨Cond.mk (by omega), hK _ ?_⟩
            clear K hK
            refine awpA_done (by decide +kernel) ?_
            refine awpS_seq ?_
            refine awpS_reg T_ok fun K hK => ?_
            simp [hG, List.getD_cons_zero, List.getD_cons_succ, -List.getD_eq_getElem?_getD]
            refine hK _ ?_
            clear K hK
            refine awpS_seq ?_
            refine awpS_seq ?_
            refine awpS_reg T_ok fun K hK => ?_
            simp [hG, List.getD_cons_zero, List.getD_cons_succ, -List.getD_eq_getElem?_getD]
            refine hK _ ?_
            clear K hK
            refine awpS_cond rfl (fun hb60 => ?_) (fun hb60 => ?_)
            ·
              try simp [-List.getD_eq_getElem?_getD] at hb60
              refine awpS_seq ?_
              refine awpS_reg T_ok fun K hK => ?_
              simp [hG, List.getD_cons_zero, List.getD_cons_succ, -List.getD_eq_getElem?_getD]
              refine ⟨Cond.mk (by omega), hK _ ?_⟩
              clear K hK
              refine awpS_reg T_ok fun K hK => ?_
              simp [hG, List.getD_cons_zero, List.getD_cons_succ, -List.getD_eq_getElem?_getD]
              refine hK _ ?_
              clear K hK
              refine awpS_reg T_ok fun K hK => ?_
              simp [hG, List.getD_cons_zero, List.getD_cons_succ, -List.getD_eq_getElem?_getD]
              refine ⟨Cond.mk (by omega), hK _ ?_⟩
              clear K hK
              refine awpS_nil ?_
              refine blockQ_norm (thenQ_norm ?_)
              refine awpS_reg T_ok fun K hK => ?_
              simp [hG, List.getD_cons_zero, List.getD_cons_succ, -List.getD_eq_getElem?_getD]
              refine ⟨Cond.mk (by omega), hK _ ?_⟩
              clear K hK
              refine awpS_nil ?_
              refine round_end (s + 1) (by omega) (by omega) ?_
              refine wk_of (id) (fun _ => false) (fun _ => false) ?_ ?_ rfl (Nat.zero_le _) (fun k hk => absurd hk (Nat.not_lt_zero _))
              · simp [hG, List.getD_cons_zero, List.getD_cons_succ, -List.getD_eq_getElem?_getD]
              · simp [hG, -List.getD_eq_getElem?_getD]; exact ⟨of_eq_true (HLe_fi (key_new hb31 hb60).1), fun j _ => upd_eq (key_new hb31 hb60).2⟩
            ·
              try simp [-List.getD_eq_getElem?_getD] at hb60
              refine awpS_skip ?_
              refine awpS_reg T_ok fun K hK => ?_
              simp [hG, List.getD_cons_zero, List.getD_cons_succ, -List.getD_eq_getElem?_getD]
              refine ⟨Cond.mk (by omega), hK _ ?_⟩
              clear K hK
              refine awpS_nil ?_
              refine blockQ_norm (thenQ_norm ?_)
              refine awpS_reg T_ok fun K hK => ?_
              simp [hG, List.getD_cons_zero, List.getD_cons_succ, -List.getD_eq_getElem?_getD]
              refine ⟨Cond.mk (by omega), hK _ ?_⟩
              clear K hK
              refine awpS_nil ?_
              refine round_end (s + 1) (by omega) (by omega) ?_
              refine wk_of (id) (fun _ => false) (fun _ => false) ?_ ?_ rfl (Nat.zero_le _) (fun k hk => absurd hk (Nat.not_lt_zero _))
              · simp [hG, List.getD_cons_zero, List.getD_cons_succ, -List.getD_eq_getElem?_getD]
              · simp [hG, -List.getD_eq_getElem?_getD]; exact ⟨of_eq_true (HLe_fi (key_seen hb31 hb60).1), fun j _ => upd_eq (key_seen hb31 hb60).2⟩
          ·
            try simp [-List.getD_eq_getElem?_getD] at hb31
            refine awpS_exit ?_
            refine thenQ_exit (thenQ_exit ?_)
            refine blockQ_exit (thenQ_norm ?_)
            refine awpS_nil ?_
            refine blockQ_norm (thenQ_norm ?_)
            refine awpS_reg T_ok fun K hK => ?_
            simp [hG, List.getD_cons_zero, List.getD_cons_succ, -List.getD_eq_getElem?_getD]
            refine ⟨Cond.mk (by omega), hK _ ?_⟩
            clear K hK
            refine awpS_nil ?_
            refine round_end ((i + 1, numMap [] ((keysE e (classesAt e k) i (partE e (classesAt e k) i)).take e.rows.length))) (by show (((i + 1 : Nat) : Int) ≤ e.inputs); omega) (by show e.inputs.toNat - (i + 1) < e.inputs.toNat - i; omega) ?_
            refine wk_of (id) (fun _ => false) (fun _ => false) ?_ ?_ rfl (Nat.zero_le _) (fun k hk => absurd hk (Nat.not_lt_zero _))
            · simp [hG, List.getD_cons_zero, List.getD_cons_succ, -List.getD_eq_getElem?_getD]
            · simp [hG, -List.getD_eq_getElem?_getD]; exact ⟨of_eq_true (HLe_fi (by rw [show s = e.rows.length by omega])), fun j hj => by rw [if_pos (by omega), partE_succ]⟩
      ·
        try simp [-List.getD_eq_getElem?_getD] at hb24
        have hiE : partE e (classesAt e k) i = classesAt e (k+1) := partE_all (by omega)
        simp only [hiE]
        have hok := classesAt_ok e (k+1)
        have hmx := maxL_cnt hok.2 (by omega)
        have hcl1 := cnt_le_len (l := classesAt e (k+1))
        have hc0 : 0 ≤ cnt (classesAt e (k+1)) := cntGo_ge _ _
        refine awpS_exit ?_
        refine thenQ_exit (thenQ_exit ?_)
        refine blockQ_exit (thenQ_norm ?_)
        refine awpS_seq ?_
        refine awpS_regL ?_
        refine awpL_reg T_ok 1 fun K hK => ?_
        simp [hG, List.getD_cons_zero, List.getD_cons_succ, -List.getD_eq_getElem?_getD]
        refine hK _ ?_
        clear K hK
        refine awpL_fc cal50 [] (fun k => k == 2) (cloneI_c (classesAt e (k+1)) (by omega)) rfl rfl rfl (by simp) (.inr fun x hI => by simp [flat]) ?_ ?_ ?_ fun K hK x hI hno => ?_
        · simp [hG, List.getD_cons_zero, List.getD_cons_succ, -List.getD_eq_getElem?_getD]
        · simp [hG, -List.getD_eq_getElem?_getD]; omega
        · simp [hG, List.getD_cons_zero, List.getD_cons_succ, -List.getD_eq_getElem?_getD]
        simp [hG, List.getD_cons_zero, List.getD_cons_succ, -List.getD_eq_getElem?_getD]
        refine hK _ ?_
        clear K hK
        refine awpL_reg T_ok 2 fun K hK => ?_
        simp [hG, List.getD_cons_zero, List.getD_cons_succ, -List.getD_eq_getElem?_getD]
        refine ⟨Cond.mk (by omega), hK _ ?_⟩
        clear K hK
        refine awpL_callB (mem [5]) cal62 (by simp [flat]) rfl rfl (fun _ => rfl) (fun hg => maxI_c (classesAt e (k+1) ++ [-1]) (by simp) (by simp; omega)) (fun hg => ?_) (fun hg => ?_) fun K hK => ?_
        · simp [hG, List.getD_cons_zero, List.getD_cons_succ, -List.getD_eq_getElem?_getD]
        · simp [hG, -List.getD_eq_getElem?_getD]; exact fun j hj => app_one hj
        simp [hG, List.getD_cons_zero, List.getD_cons_succ, -List.getD_eq_getElem?_getD]
        refine hK _ ?_
        clear K hK
        refine awpL_reg T_ok 2 fun K hK => ?_
        simp [hG, List.getD_cons_zero, List.getD_cons_succ, -List.getD_eq_getElem?_getD]
        refine ⟨Cond.mk (by omega), hK _ ?_⟩
        clear K hK
        refine awpL_nil ?_
        refine awpS_seq ?_
        refine awpS_reg T_ok fun K hK => ?_
        simp [hG, List.getD_cons_zero, List.getD_cons_succ, -List.getD_eq_getElem?_getD]
        refine hK _ ?_
        clear K hK
        refine awpS_seq ?_
        refine awpS_seq ?_
        refine awpS_reg T_ok fun K hK => ?_
        simp [hG, List.getD_cons_zero, List.getD_cons_succ, -List.getD_eq_getElem?_getD]
        refine hK _ ?_
        clear K hK
        refine awpS_cond rfl (fun hb81 => ?_) (fun hb81 => ?_)
        ·
          try simp [-List.getD_eq_getElem?_getD] at hb81
          refine awpS_seq ?_
          refine awpS_reg T_ok fun K hK => ?_
          simp [hG, List.getD_cons_zero, List.getD_cons_succ, -List.getD_eq_getElem?_getD]
          refine hK _ ?_
          clear K hK
          refine awpS_ret ?_
          refine blockQ_ret (thenQ_ret ?_)
          refine thenQ_ret (thenQ_ret ?_)
          refine blockQ_ret (thenQ_ret ?_)
          refine RetOK_of ?_
          simp [hG, List.getD_cons_zero, List.getD_cons_succ, -List.getD_eq_getElem?_getD]
          have h1 : cnt (classesAt e (k+1)) = cnt (classesAt e k) := (by omega); have h2 := (stable_of h1).1; have h3 := classes_stop (by omega) h1; rw [h3, ← h2]; exact ⟨by omega, by omega, fun _ _ => rfl⟩
        ·
          try simp [-List.getD_eq_getElem?_getD] at hb81
          refine awpS_skip ?_
          refine awpS_reg T_ok fun K hK => ?_
          simp [hG, List.getD_cons_zero, List.getD_cons_succ, -List.getD_eq_getElem?_getD]
          refine hK _ ?_
          clear K hK
          refine awpS_nil ?_
          refine blockQ_norm (thenQ_norm ?_)
          refine awpS_nil ?_
          refine round_end (k + 1) (step_all hk (by omega)) (by omega) ?_
          refine wk_of (id) (fun k => k == 2) (fun _ => false) ?_ ?_ rfl (Nat.zero_le _) (fun k hk => absurd hk (Nat.not_lt_zero _))
          · simp [hG, -List.getD_eq_getElem?_getD]; exact ⟨⟨by omega, by omega⟩, by omega⟩
          · simp [hG, List.getD_cons_zero, List.getD_cons_succ, -List.getD_eq_getElem?_getD]

set_option maxRecDepth 100000 in
theorem partition_c (e : Enc) : PC Try.prog 13 [.agg 4 (encF e)] (partR e) := by
  refine PC_introS T_ok Try.func13 rfl (by simp [Try.ntmps13]) fun G hG hR => ?_
  simp only [Try.ntmps13, Try.results13] at hG ⊢
  simp only [argEnv, Nat.zero_add, Nat.reduceAdd]
  refine awpS_seq ?_
  refine awpS_reg T_ok fun K hK => ?_
  simp [hG, List.getD_cons_zero, List.getD_cons_succ, -List.getD_eq_getElem?_getD]
  refine ⟨Cond.mk (by simp [-List.getD_eq_getElem?_getD]), hK _ ?_⟩
  clear K hK
  refine awpS_seq ?_
  refine awpS_seq ?_
  refine awpS_regL ?_
  refine awpL_reg T_ok 1 fun K hK => ?_
  simp [hG, List.getD_cons_zero, List.getD_cons_succ, -List.getD_eq_getElem?_getD]
  refine hK _ ?_
  clear K hK
  refine awpL_call cal25 rfl rfl (fun _ => rfl) (fun hg => check_c e) (fun hg => ?_) (fun hg => ?_) fun K hK => ?_
  · simp [hG, List.getD_cons_zero, List.getD_cons_succ, -List.getD_eq_getElem?_getD]
  · simp [hG, List.getD_cons_zero, List.getD_cons_succ, -List.getD_eq_getElem?_getD]
  simp [hG, List.getD_cons_zero, List.getD_cons_succ, -List.getD_eq_getElem?_getD]
  refine hK _ ?_
  clear K hK
  refine awpL_reg T_ok 1 fun K hK => ?_
  simp [hG, List.getD_cons_zero, List.getD_cons_succ, -List.getD_eq_getElem?_getD]
  refine hK _ ?_
  clear K hK
  refine awpL_nil ?_
  refine awpS_cond rfl (fun hb6 => ?_) (fun hb6 => ?_)
  ·
    try simp [-List.getD_eq_getElem?_getD] at hb6
    refine awpS_seq ?_
    refine awpS_reg T_ok fun K hK => ?_
    simp [hG, List.getD_cons_zero, List.getD_cons_succ, -List.getD_eq_getElem?_getD]
    refine hK _ ?_
    clear K hK
    refine awpS_ret ?_
    refine RetOK_of ?_
    simp [hG, List.getD_cons_zero, List.getD_cons_succ, -List.getD_eq_getElem?_getD]
    simp [partR, hb6]
  ·
    try simp [-List.getD_eq_getElem?_getD] at hb6
    refine awpS_skip ?_
    refine awpS_seq ?_
    refine awpS_regL ?_
    refine awpL_reg T_ok 1 fun K hK => ?_
    simp [hG, List.getD_cons_zero, List.getD_cons_succ, -List.getD_eq_getElem?_getD]
    refine hK _ ?_
    clear K hK
    refine awpL_call cal38 rfl rfl (fun _ => rfl) (fun hg => classes_c e hb6) (fun hg => ?_) (fun hg => ?_) fun K hK => ?_
    · simp [hG, List.getD_cons_zero, List.getD_cons_succ, -List.getD_eq_getElem?_getD]
    · simp [hG, List.getD_cons_zero, List.getD_cons_succ, -List.getD_eq_getElem?_getD]
    simp [hG, List.getD_cons_zero, List.getD_cons_succ, -List.getD_eq_getElem?_getD]
    refine hK _ ?_
    clear K hK
    refine awpL_reg T_ok 2 fun K hK => ?_
    simp [hG, List.getD_cons_zero, List.getD_cons_succ, -List.getD_eq_getElem?_getD]
    refine hK _ ?_
    clear K hK
    refine awpL_nil ?_
    refine awpS_ret ?_
    refine RetOK_of ?_
    simp [hG, List.getD_cons_zero, List.getD_cons_succ, -List.getD_eq_getElem?_getD]
    simp [partR, hb6, List.getD_cons_zero, List.getD_cons_succ, -List.getD_eq_getElem?_getD]

set_option maxRecDepth 100000 in
theorem merge_c (e : Enc) : PC Try.prog 14 [.agg 4 (encF e)] (mergeR e) := by
  refine PC_introS T_ok Try.func14 rfl (by simp [Try.ntmps14]) fun G hG hR => ?_
  simp only [Try.ntmps14, Try.results14] at hG ⊢
  simp only [argEnv, Nat.zero_add, Nat.reduceAdd]
  refine awpS_seq ?_
  refine awpS_reg T_ok fun K hK => ?_
  simp [hG, List.getD_cons_zero, List.getD_cons_succ, -List.getD_eq_getElem?_getD]
  refine ⟨Cond.mk (by simp [-List.getD_eq_getElem?_getD]), hK _ ?_⟩
  clear K hK
  refine awpS_seq ?_
  refine awpS_seq ?_
  refine awpS_regL ?_
  refine awpL_reg T_ok 1 fun K hK => ?_
  simp [hG, List.getD_cons_zero, List.getD_cons_succ, -List.getD_eq_getElem?_getD]
  refine hK _ ?_
  clear K hK
  refine awpL_call cal25 rfl rfl (fun _ => rfl) (fun hg => check_c e) (fun hg => ?_) (fun hg => ?_) fun K hK => ?_
  · simp [hG, List.getD_cons_zero, List.getD_cons_succ, -List.getD_eq_getElem?_getD]
  · simp [hG, List.getD_cons_zero, List.getD_cons_succ, -List.getD_eq_getElem?_getD]
  simp [hG, List.getD_cons_zero, List.getD_cons_succ, -List.getD_eq_getElem?_getD]
  refine hK _ ?_
  clear K hK
  refine awpL_reg T_ok 1 fun K hK => ?_
  simp [hG, List.getD_cons_zero, List.getD_cons_succ, -List.getD_eq_getElem?_getD]
  refine hK _ ?_
  clear K hK
  refine awpL_nil ?_
  refine awpS_cond rfl (fun hb13 => ?_) (fun hb13 => ?_)
  ·
    try simp [-List.getD_eq_getElem?_getD] at hb13
    refine awpS_seq ?_
    refine awpS_reg T_ok fun K hK => ?_
    simp [hG, List.getD_cons_zero, List.getD_cons_succ, -List.getD_eq_getElem?_getD]
    refine ⟨Cond.mk (by simp [-List.getD_eq_getElem?_getD]), hK _ ?_⟩
    clear K hK
    refine awpS_ret ?_
    refine RetOK_of ?_
    simp [hG, List.getD_cons_zero, List.getD_cons_succ, -List.getD_eq_getElem?_getD]
    simp [mergeR, hb13]
  ·
    try simp [-List.getD_eq_getElem?_getD] at hb13
    refine awpS_skip ?_
    refine awpS_seq ?_
    refine awpS_regL ?_
    refine awpL_reg T_ok 1 fun K hK => ?_
    simp [hG, List.getD_cons_zero, List.getD_cons_succ, -List.getD_eq_getElem?_getD]
    refine hK _ ?_
    clear K hK
    refine awpL_call cal38 rfl rfl (fun _ => rfl) (fun hg => classes_c e hb13) (fun hg => ?_) (fun hg => ?_) fun K hK => ?_
    · simp [hG, List.getD_cons_zero, List.getD_cons_succ, -List.getD_eq_getElem?_getD]
    · simp [hG, List.getD_cons_zero, List.getD_cons_succ, -List.getD_eq_getElem?_getD]
    simp [hG, List.getD_cons_zero, List.getD_cons_succ, -List.getD_eq_getElem?_getD]
    refine hK _ ?_
    clear K hK
    refine awpL_reg T_ok 1 fun K hK => ?_
    simp [hG, List.getD_cons_zero, List.getD_cons_succ, -List.getD_eq_getElem?_getD]
    refine hK _ ?_
    clear K hK
    refine awpL_nil ?_
    refine awpS_seq ?_
    refine awpS_reg T_ok fun K hK => ?_
    simp [hG, List.getD_cons_zero, List.getD_cons_succ, -List.getD_eq_getElem?_getD]
    refine hK _ ?_
    clear K hK
    refine awpS_seq ?_
    refine awpS_seq ?_
    refine awpS_reg T_ok fun K hK => ?_
    simp [hG, List.getD_cons_zero, List.getD_cons_succ, -List.getD_eq_getElem?_getD]
    refine hK _ ?_
    clear K hK
    refine awpS_block ?_
    refine awpS_loop (α := Nat) (fun s => ⟨[(1, .ptr (0, 0) 0 0), (2, .ptr (1, 0) 0 0), (5, ints (classesE e)), (6, .sl (2, 0) 0 (mrowsAt e (classesE e) s).length), (18, rowsC e.rows), (19, .int .i64 e.rows.length), (20, .int .i64 s)], [(0, .one (.arr 1 4 (fun _ => encF e))), (1, .one (.arr 1 4 (fun _ m => [AVal.int IntKind.i64 0, AVal.int IntKind.i64 0, AVal.int IntKind.i64 0, AVal.nils].getD m AVal.any))), (2, .one (.arr (mrowsAt e (classesE e) s).length 1 (fun i _ => cells ((mrowsAt e (classesE e) s).getD i []))))], 3⟩) (fun s => checkE e = 0 ∧ s ≤ e.rows.length) (fun s => e.rows.length - s) (0) (⟨hb13, Nat.zero_le _⟩) ?_ ?_
    ·
      refine wk_of (id) (fun _ => false) (fun k => k == 2) ?_ ?_ rfl (Nat.zero_le _) (fun k hk => absurd hk (Nat.not_lt_zero _))
      · simp [hG, List.getD_cons_zero, List.getD_cons_succ, -List.getD_eq_getElem?_getD]
      · simp [hG, List.getD_cons_zero, List.getD_cons_succ, -List.getD_eq_getElem?_getD]
    ·
      rintro s ⟨hv, hs⟩
      have hl64 := rows_len hv
      have hcl := (classesE_ok hv).1
      have hml := mrowsAt_len e (classesE e) s
      refine awpS_seq ?_
      refine awpS_reg T_ok fun K hK => ?_
      simp [hG, List.getD_cons_zero, List.getD_cons_succ, -List.getD_eq_getElem?_getD]
      refine hK _ ?_
      clear K hK
      refine awpS_seq ?_
      refine awpS_cond rfl (fun hb21 => ?_) (fun hb21 => ?_)
      ·
        try simp [-List.getD_eq_getElem?_getD] at hb21
        have hl256 := row_len hv hb21
        refine awpS_skip ?_
        refine awpS_seq ?_
        refine awpS_block ?_
        refine awpS_seq ?_
        refine awpS_reg T_ok fun K hK => ?_
        simp [hG, List.getD_cons_zero, List.getD_cons_succ, -List.getD_eq_getElem?_getD]
        refine ⟨Cond.mk (by omega), hK _ ?_⟩
        clear K hK
        refine awpS_seq ?_
        refine awpS_seq ?_
        refine awpS_reg T_ok fun K hK => ?_
        simp [hG, List.getD_cons_zero, List.getD_cons_succ, -List.getD_eq_getElem?_getD]
        refine ⟨Cond.mk (by omega), hK _ ?_⟩
        clear K hK
        refine awpS_cond rfl (fun hb31 => ?_) (fun hb31 => ?_)
        ·
          try simp [-List.getD_eq_getElem?_getD] at hb31
          have hE : mrowsAt e (classesE e) (s + 1) = mrowsAt e (classesE e) s := mrowsAt_succ.trans (if_pos hb31)
          refine awpS_exit ?_
          refine blockQ_exit (thenQ_norm ?_)
          refine awpS_reg T_ok fun K hK => ?_
          simp [hG, List.getD_cons_zero, List.getD_cons_succ, -List.getD_eq_getElem?_getD]
          refine ⟨Cond.mk (by omega), hK _ ?_⟩
          clear K hK
          refine awpS_nil ?_
          refine round_end (s + 1) (⟨hv, by omega⟩) (by omega) ?_
          refine wk_of (id) (fun _ => false) (fun _ => false) ?_ ?_ rfl (Nat.zero_le _) (fun k hk => absurd hk (Nat.not_lt_zero _))
          · simp [hG, hE]
          · simp [hG, hE, List.getD_cons_zero, List.getD_cons_succ, -List.getD_eq_getElem?_getD]
        ·
          try simp [-List.getD_eq_getElem?_getD] at hb31
          have hE : mrowsAt e (classesE e) (s + 1) = mrowsAt e (classesE e) s ++ [mrow e (classesE e) s] := mrowsAt_succ.trans (if_neg (by omega))
          refine awpS_skip ?_
          refine awpS_seq ?_
          refine awpS_regL ?_
          refine awpL_reg T_ok 1 fun K hK => ?_
          simp [hG, List.getD_cons_zero, List.getD_cons_succ, -List.getD_eq_getElem?_getD]
          refine hK _ ?_
          clear K hK
          refine awpL_fc cal39 [] (fun _ => false) (cloneC_c (e.rows.getD s []) (by omega)) rfl rfl rfl (by simp) (.inl fun _ => rfl) ?_ ?_ ?_ fun K hK x hI hno => ?_
          · simp [hG, List.getD_cons_zero, List.getD_cons_succ, -List.getD_eq_getElem?_getD]
          · simp [hG, List.getD_cons_zero, List.getD_cons_succ, -List.getD_eq_getElem?_getD]
          · simp [hG, List.getD_cons_zero, List.getD_cons_succ, -List.getD_eq_getElem?_getD]
          simp [hG, List.getD_cons_zero, List.getD_cons_succ, -List.getD_eq_getElem?_getD]
          refine hK _ ?_
          clear K hK
          refine awpL_reg T_ok 1 fun K hK => ?_
          simp [hG, List.getD_cons_zero, List.getD_cons_succ, -List.getD_eq_getElem?_getD]
          refine hK _ ?_
          clear K hK
          refine awpL_nil ?_
          refine awpS_seq ?_
          refine awpS_seq ?_
          refine awpS_reg T_ok fun K hK => ?_
          simp [hG, List.getD_cons_zero, List.getD_cons_succ, -List.getD_eq_getElem?_getD]
          refine hK _ ?_
          clear K hK
          refine awpS_block ?_
          refine awpS_loop (α := Nat) (fun i => ⟨[(1, .ptr (0, 0) 0 0), (2, .ptr (1, 0) 0 0), (5, ints (classesE e)), (6, .sl (2, 0) 0 (mrowsAt e (classesE e) s).length), (7, .int .i64 s), (8, cells (e.rows.getD s [])), (9, .sl (3, 0) 0 (e.rows.getD s []).length), (18, rowsC e.rows), (19, .int .i64 e.rows.length), (20, .int .i64 s), (35, .int .i64 (e.rows.getD s []).length), (36, .int .i64 i)], [(0, .one (.arr 1 4 (fun _ => encF e))), (1, .one (.arr 1 4 (fun _ m => [AVal.int IntKind.i64 0, AVal.int IntKind.i64 0, AVal.int IntKind.i64 0, AVal.nils].getD m AVal.any))), (2, .one (.arr (mrowsAt e (classesE e) s).length 1 (fun i _ => cells ((mrowsAt e (classesE e) s).getD i [])))), (3, .one (.arr (e.rows.getD s []).length 2 (fun q j => cellF (if q < i then mcell (classesE e) ((e.rows.getD s []).getD q dc) else (e.rows.getD s []).getD q dc) j)))], 4⟩) (fun i => i ≤ (e.rows.getD s []).length) (fun i => (e.rows.getD s []).length - i) (0) (Nat.zero_le _) ?_ ?_
          ·
            refine wk_of (id) (fun _ => false) (fun _ => false) ?_ ?_ rfl (Nat.zero_le _) (fun k hk => absurd hk (Nat.not_lt_zero _))
            · simp [hG, List.getD_cons_zero, List.getD_cons_succ, -List.getD_eq_getElem?_getD]
            · simp [hG, List.getD_cons_zero, List.getD_cons_succ, -List.getD_eq_getElem?_getD]
          ·
            rintro i hi
            refine awpS_seq ?_
            refine awpS_reg T_ok fun K hK => ?_
            simp [hG, List.getD_cons_zero, List.getD_cons_succ, -List.getD_eq_getElem?_getD]
            refine hK _ ?_
            clear K hK
            refine awpS_seq ?_
            refine awpS_cond rfl (fun hb37 => ?_) (fun hb37 => ?_)
            ·
              try simp [-List.getD_eq_getElem?_getD] at hb37
              have hto := cell_to hv hb21 hb37
              unfold cellAt at hto
              refine awpS_skip ?_
              refine awpS_seq ?_
              refine awpS_block ?_
              refine awpS_seq ?_
              refine awpS_reg T_ok fun K hK => ?_
              simp [hG, List.getD_cons_zero, List.getD_cons_succ, -List.getD_eq_getElem?_getD]
              refine hK _ ?_
              clear K hK
              refine awpS_reg T_ok fun K hK => ?_
              simp [hG, List.getD_cons_zero, List.getD_cons_succ, -List.getD_eq_getElem?_getD]
              refine ⟨Cond.mk (by omega), hK _ ?_⟩
              clear K hK
              refine awpS_nil ?_
              refine blockQ_norm (thenQ_norm ?_)
              refine awpS_reg T_ok fun K hK => ?_
              simp [hG, List.getD_cons_zero, List.getD_cons_succ, -List.getD_eq_getElem?_getD]
              refine ⟨Cond.mk (by omega), hK _ ?_⟩
              clear K hK
              refine awpS_nil ?_
              refine round_end (i + 1) (by omega) (by omega) ?_
              refine wk_of (id) (fun _ => false) (fun _ => false) ?_ ?_ rfl (Nat.zero_le _) (fun k hk => absurd hk (Nat.not_lt_zero _))
              · simp [hG, List.getD_cons_zero, List.getD_cons_succ, -List.getD_eq_getElem?_getD]
              · simp [hG, List.getD_cons_zero, List.getD_cons_succ, -List.getD_eq_getElem?_getD]; exact fun q _ => cell_upd
            ·
              try simp [-List.getD_eq_getElem?_getD] at hb37
              refine awpS_exit ?_
              refine thenQ_exit (thenQ_exit ?_)
              refine blockQ_exit (thenQ_norm ?_)
              refine awpS_reg T_ok fun K hK => ?_
              simp [hG, List.getD_cons_zero, List.getD_cons_succ, -List.getD_eq_getElem?_getD]
              refine ⟨Cond.mk (by omega), hK _ ?_⟩
              clear K hK
              refine awpS_nil ?_
              refine blockQ_norm (thenQ_norm ?_)
              refine awpS_reg T_ok fun K hK => ?_
              simp [hG, List.getD_cons_zero, List.getD_cons_succ, -List.getD_eq_getElem?_getD]
              refine ⟨Cond.mk (by omega), hK _ ?_⟩
              clear K hK
              refine awpS_nil ?_
              refine round_end (s + 1) (⟨hv, by omega⟩) (by omega) ?_
              refine wk_of (fun k => if k = 2 then 5 else k) (fun k => k == 3) (fun _ => false) ?_ ?_ rfl (Nat.zero_le _) (fun k hk => absurd hk (Nat.not_lt_zero _))
              · simp [hG, hE]
              · simp [hG, List.getD_cons_zero, List.getD_cons_succ, -List.getD_eq_getElem?_getD]; rw [hE]; refine ⟨by simp, fun j hj => app_row (by simpa using hj) ?_⟩; simp [-List.getD_eq_getElem?_getD]; exact mrow_done hb37
      ·
        try simp [-List.getD_eq_getElem?_getD] at hb21
        obtain rfl : s = e.rows.length := by omega
        refine awpS_exit ?_
        refine thenQ_exit (thenQ_exit ?_)
        refine blockQ_exit (thenQ_norm ?_)
        refine awpS_seq ?_
        refine awpS_wk (st2 := ⟨[(1, .ptr (0, 0) 0 0), (2, .ptr (1, 0) 0 0), (5, ints (classesE e)), (6, rowsC (mrowsAt e (classesE e) e.rows.length))], [(0, .one (.arr 1 4 (fun _ => encF e))), (1, .one (.arr 1 4 (fun _ m => [AVal.int IntKind.i64 0, AVal.int IntKind.i64 0, AVal.int IntKind.i64 0, AVal.nils].getD m AVal.any)))], 2⟩) ?_ ?_
        ·
          refine wk_of (id) (fun k => k == 2) (fun _ => false) ?_ ?_ rfl (Nat.zero_le _) (fun k hk => absurd hk (Nat.not_lt_zero _))
          · simp [hG, List.getD_cons_zero, List.getD_cons_succ, -List.getD_eq_getElem?_getD]
          · simp [hG, List.getD_cons_zero, List.getD_cons_succ, -List.getD_eq_getElem?_getD]
        refine awpS_regL ?_
        refine awpL_reg T_ok 2 fun K hK => ?_
        simp [hG, List.getD_cons_zero, List.getD_cons_succ, -List.getD_eq_getElem?_getD]
        refine hK _ ?_
        clear K hK
        refine awpL_call cal40 rfl rfl (fun _ => rfl) (fun hg => with_c e (mrowsAt e (classesE e) e.rows.length)) (fun hg => ?_) (fun hg => ?_) fun K hK => ?_
        · simp [hG, List.getD_cons_zero, List.getD_cons_succ, -List.getD_eq_getElem?_getD]
        · simp [hG, List.getD_cons_zero, List.getD_cons_succ, -List.getD_eq_getElem?_getD]
        simp [hG, List.getD_cons_zero, List.getD_cons_succ, -List.getD_eq_getElem?_getD]
        refine hK _ ?_
        clear K hK
        refine awpL_reg T_ok 4 fun K hK => ?_
        simp [hG, List.getD_cons_zero, List.getD_cons_succ, -List.getD_eq_getElem?_getD]
        refine ⟨Cond.mk (by simp [-List.getD_eq_getElem?_getD]), hK _ ?_⟩
        clear K hK
        refine awpL_nil ?_
        refine awpS_ret ?_
        refine RetOK_of ?_
        simp [hG, List.getD_cons_zero, List.getD_cons_succ, -List.getD_eq_getElem?_getD]
        simp [mergeR, hv, List.getD_cons_zero, List.getD_cons_succ, -List.getD_eq_getElem?_getD]; exact Clo.le _ Clo_rowsC

end Go.Proofs.Ytmjkbidnghcfnaa
