/-
  Walks: the reference's powers.
-/
import Derived.Test.YtddghlnaocjjkaaPB
import Derived.Test.YtddghlnaocjjkaaWC
namespace Go.Proofs.Ytddghlnaocjjkaa
set_option linter.unusedSimpArgs false
set_option linter.unusedVariables false
open Go Go.Lift Go.Proofs

def edK (x : Edge) : AVal := aggL [.int .i64 x.frm, .int .i64 x.lab, .int .i64 x.to]
@[simp] theorem aggL_ed {a b c : Int} : aggL [.int .i64 a, .int .i64 b, .int .i64 c] = edK ⟨a, b, c⟩ := rfl
theorem kEq_ed (a b : Edge) : kEq T 57 (edK a) (edK b) = some (decide (a = b)) := by
  have : kEq T 57 (edK a) (edK b) = some (decide (a.frm = b.frm) && (decide (a.lab = b.lab) && (decide (a.to = b.to) && true))) := by
    simp [edK, aggL]
  rw [this]
  congr 1
  rw [Bool.eq_iff_iff]
  simp only [Bool.and_eq_true, decide_eq_true_eq, Bool.and_true]
  obtain ⟨a1, a2, a3⟩ := a
  obtain ⟨b1, b2, b3⟩ := b
  simp
def luKx := luK
theorem luK_congr {l : List (AVal × AVal)} {f g : Nat → AVal} (h : f 0 = g 0 ∧ f 1 = g 1 ∧ f 2 = g 2) : ∀ i, luK T 57 l i (.agg 3 f) = luK T 57 l i (.agg 3 g) := by
  obtain ⟨h0, h1, h2⟩ := h
  induction l with
  | nil => intro i; rfl
  | cons p l ih =>
    intro i
    obtain ⟨a, v⟩ := p
    have hk : kEq T 57 (.agg 3 f) a = kEq T 57 (.agg 3 g) a := by
      cases a <;> simp [h0, h1, h2]
    simp only [luK, hk, ih (i + 1)]
@[simp] theorem luK57 {l : List (Edge × Bool)} {f : Nat → AVal} : luK T 57 (mpE edK boolV l) 0 (.agg 3 f) = (match f 0, f 1, f 2 with
    | .int .i64 a, .int .i64 b, .int .i64 c => some ((alFind l 0 (⟨a, b, c⟩ : Edge)).map fun p => (p.1, boolV p.2))
    | _, _, _ => luKx T 57 (mpE edK boolV l) 0 (.agg 3 f)) := by
  split
  · rename_i a b c h0 h1 h2
    rw [← luK_mpE (ek := edK) (ev := boolV) kEq_ed l 0 ⟨a, b, c⟩]
    exact luK_congr ⟨h0, h1, h2⟩ 0
  · rfl
@[simp] theorem putK_ed {l : List (Edge × Bool)} {k : Edge} {v : Bool} : putK (mpE edK boolV l) ((alFind l 0 k).map fun p => (p.1, boolV p.2)) (edK k) (.bool v) = mpE edK boolV (alPut l k v) := putK_mpE (ek := edK) (ev := boolV) l k v
@[simp high] theorem HLe_ed {h : Heap} {σ : Lift.Id → Lift.Id} {fz : Nat → Bool} {vz : Lift.Id → Bool} {nx : Nat} {l2 l : List (Edge × Bool)} (e : l2 = l) : HLe h σ fz vz nx (.mp (mpE edK boolV l2)) (some (.mp (mpE edK boolV l))) = True := eq_true (HLe_mpE (ek := edK) (ev := boolV) (fun a => by simp [edK, aggL, Clo]) (fun _ => trivial) e)
/-- what is seen. -/
def seenE (F : List Edge) : List (Edge × Bool) := F.map fun x => (x, true)
@[simp] theorem seenE_nil : seenE [] = [] := rfl
theorem seenE_get {F : List Edge} {p : Edge} : alGet (seenE F) p = if p ∈ F then some true else none := by
  unfold seenE
  induction F with
  | nil => rfl
  | cons x F ih =>
    simp only [List.map_cons, alGet]
    by_cases h : p = x
    · rw [if_pos h, if_pos (by rw [h]; exact List.mem_cons_self ..)]
    · rw [if_neg h, ih]
      by_cases h2 : p ∈ F
      · rw [if_pos h2, if_pos (List.mem_cons_of_mem _ h2)]
      · rw [if_neg h2, if_neg (fun e => (List.mem_cons.1 e).elim h h2)]
theorem put_newB {m : List (Edge × Bool)} {k : Edge} {v : Bool} (h : alGet m k = none) : alPut m k v = m ++ [(k, v)] := by
  induction m with
  | nil => rfl
  | cons p m ih =>
    obtain ⟨a, b⟩ := p
    simp only [alGet] at h
    by_cases hk : k = a
    · rw [if_pos hk] at h; cases h
    · rw [if_neg hk] at h
      simp only [alPut, if_neg hk, ih h, List.cons_append]
theorem seenE_put {F : List Edge} {y : Edge} (h : ¬ y ∈ F) : alPut (seenE F) y true = seenE (F ++ [y]) := by
  rw [put_newB (by rw [seenE_get, if_neg h])]
  simp [seenE]
theorem seenE_no {F : List Edge} {p : Edge} (h : (alGet (seenE F) p).getD false = false) : ¬ p ∈ F := fun hm => by
  rw [seenE_get, if_pos hm] at h; cases h
theorem seenE_yes {F : List Edge} {p : Edge} (h : (alGet (seenE F) p).getD false = true) : p ∈ F := by
  by_cases hm : p ∈ F
  · exact hm
  · rw [seenE_get, if_neg hm] at h; cases h
def onceAt (l : List Edge) (k : Nat) : List Edge := onceL (l.take k)
theorem onceAt_zero {l : List Edge} : onceAt l 0 = [] := by simp [onceAt, onceL]
theorem onceAt_all {l : List Edge} : onceAt l l.length = onceL l := by simp [onceAt]
theorem onceAt_new {l : List Edge} {k : Nat} (hk : k < l.length) (h : ¬ l.getD k de ∈ onceAt l k) : onceAt l (k + 1) = onceAt l k ++ [l.getD k de] := by
  unfold onceAt at *; rw [once_succ hk, if_neg h]
theorem onceAt_old {l : List Edge} {k : Nat} (hk : k < l.length) (h : l.getD k de ∈ onceAt l k) : onceAt l (k + 1) = onceAt l k := by
  unfold onceAt at *; rw [once_succ hk, if_pos h]
theorem onceAt_len {l : List Edge} {k : Nat} : (onceAt l k).length ≤ k := by
  have := once_len (l := l.take k)
  rw [List.length_take] at this
  unfold onceAt; omega
theorem app_edge3 {l : List Edge} {v : Edge} {w : Nat → Nat → AVal} {i : Nat} (h : i < (l ++ [v]).length) (hw : ∀ j, j < 3 → w 0 j = edgeF v j) : app (fun q j => edgeF (l.getD q de) j) l.length w i 0 = edgeF ((l ++ [v]).getD i de) 0 ∧ app (fun q j => edgeF (l.getD q de) j) l.length w i 1 = edgeF ((l ++ [v]).getD i de) 1 ∧ app (fun q j => edgeF (l.getD q de) j) l.length w i 2 = edgeF ((l ++ [v]).getD i de) 2 :=
  ⟨app_edge h (by decide) hw, app_edge h (by decide) hw, app_edge h (by decide) hw⟩
theorem edge_ext3 {a b : Edge} (h1 : a.frm = b.frm) (h2 : a.lab = b.lab) (h3 : a.to = b.to) : a = b := by
  cases a; cases b; simp at h1 h2 h3; simp [h1, h2, h3]
def normAt (l : List Edge) (i : Nat) : List Edge := normE (l.take i)
theorem normAt_zero {l : List Edge} : normAt l 0 = [] := by simp [normAt, normE]
theorem normAt_all {l : List Edge} : normAt l l.length = normE l := by simp [normAt]
theorem normAt_len {l : List Edge} {i : Nat} : (normAt l i).length ≤ i := by
  have := norm_len (l := l.take i)
  rw [List.length_take] at this
  unfold normAt; omega
theorem norm_same {l : List Edge} {i k : Nat} (hi : i < l.length) (hn : ∀ j, j < k → ltE ((normAt l i).getD j de) (l.getD i de)) (hb : k < (normAt l i).length ∧ (normAt l i).getD k de = l.getD i de) : normAt l (i + 1) = normAt l i := by
  unfold normAt at *
  rw [norm_succ hi, insE_eq hn hb.1 hb.2]
theorem norm_put {l : List Edge} {i k : Nat} (hi : i < l.length) (hn : ∀ j, j < k → ltE ((normAt l i).getD j de) (l.getD i de)) (hk : k ≤ (normAt l i).length) (hs : k < (normAt l i).length → ¬ ltE ((normAt l i).getD k de) (l.getD i de)) (hb : k < (normAt l i).length → (normAt l i).getD k de ≠ l.getD i de) : normAt l (i + 1) = (normAt l i).take k ++ l.getD i de :: (normAt l i).drop k := by
  unfold normAt at *
  rw [norm_succ hi, insE_at hn hk fun h => ⟨hs h, hb h⟩]
theorem app_put {A : List Edge} {x : Edge} {k : Nat} {w : Nat → Nat → AVal} {i j : Nat} (hk : k ≤ A.length) (hi : i < min k A.length + (A.length - k + 1)) (hw : w 0 j = edgeF x j) : app (fun i j => app (fun q j => edgeF (A.getD q de) j) k w i j) (k + 1) (fun i j => edgeF (A.getD (k + i) de) j) i j = edgeF ((A.take k ++ x :: A.drop k).getD i de) j := by
  simp only [app]
  have hlt : (A.take k).length = k := by rw [List.length_take]; omega
  by_cases h1 : i < k
  · rw [if_pos (by omega), if_pos h1, List.getD_eq_getElem?_getD, List.getD_eq_getElem?_getD, List.getElem?_append_left (by omega), List.getElem?_take_of_lt h1]
  · rw [List.getD_eq_getElem?_getD (l := A.take k ++ x :: A.drop k), List.getElem?_append_right (by omega), hlt]
    by_cases h2 : i = k
    · subst h2
      rw [if_pos (by omega), if_neg (by omega), Nat.sub_self, hw]; rfl
    · rw [if_neg (by omega), show i - k = (i - (k + 1)) + 1 by omega, List.getElem?_cons_succ, List.getElem?_drop, List.getD_eq_getElem?_getD]
theorem app_put3 {A : List Edge} {x : Edge} {k : Nat} {w : Nat → Nat → AVal} (hk : k ≤ A.length) (hw : ∀ j, j < 3 → w 0 j = edgeF x j) : ∀ i, i < min k A.length + (A.length - k + 1) → app (fun i j => app (fun q j => edgeF (A.getD q de) j) k w i j) (k + 1) (fun i j => edgeF (A.getD (k + i) de) j) i 0 = .int .i64 ((A.take k ++ x :: A.drop k).getD i de).frm ∧ app (fun i j => app (fun q j => edgeF (A.getD q de) j) k w i j) (k + 1) (fun i j => edgeF (A.getD (k + i) de) j) i 1 = .int .i64 ((A.take k ++ x :: A.drop k).getD i de).lab ∧ app (fun i j => app (fun q j => edgeF (A.getD q de) j) k w i j) (k + 1) (fun i j => edgeF (A.getD (k + i) de) j) i 2 = .int .i64 ((A.take k ++ x :: A.drop k).getD i de).to :=
  fun i hi => ⟨app_put hk hi (hw 0 (by decide)), app_put hk hi (hw 1 (by decide)), app_put hk hi (hw 2 (by decide))⟩
set_option maxRecDepth 100000 in
theorem once_c (l : List Edge) (hl : l.length ≤ 1000000) : PC Try.prog 41 [edgesC l] (edgesC (onceL l)) := by
  refine PC_introS T_ok Try.func41 rfl (by simp [Try.ntmps41]) fun G hG hR => ?_
  simp only [Try.ntmps41, Try.results41] at hG ⊢
  simp only [argEnv, Nat.zero_add, Nat.reduceAdd]
  refine awpS_seq ?_
  refine awpS_reg T_ok fun K hK => ?_
  simp [hG, List.getD_cons_zero, List.getD_cons_succ, -List.getD_eq_getElem?_getD, onceAt_zero, seenE_nil]
  first | refine hK _ ?_ | refine ⟨Cond.mk (by first | omega | (simp [-List.getD_eq_getElem?_getD]; done) | (simp [-List.getD_eq_getElem?_getD]; omega) | (simp [-List.getD_eq_getElem?_getD]; repeat (first | intro _ | exact And.intro ‹_› ‹_› | apply And.intro | assumption | omega | exact decide_eq_true (by assumption)))), hK _ ?_⟩
  clear K hK
  refine awpS_seq ?_
  refine awpS_reg T_ok fun K hK => ?_
  simp [hG, List.getD_cons_zero, List.getD_cons_succ, -List.getD_eq_getElem?_getD, onceAt_zero, seenE_nil]
  first | refine hK _ ?_ | refine ⟨Cond.mk (by first | omega | (simp [-List.getD_eq_getElem?_getD]; done) | (simp [-List.getD_eq_getElem?_getD]; omega) | (simp [-List.getD_eq_getElem?_getD]; repeat (first | intro _ | exact And.intro ‹_› ‹_› | apply And.intro | assumption | omega | exact decide_eq_true (by assumption)))), hK _ ?_⟩
  clear K hK
  refine awpS_seq ?_
  refine awpS_reg T_ok fun K hK => ?_
  simp [hG, List.getD_cons_zero, List.getD_cons_succ, -List.getD_eq_getElem?_getD, onceAt_zero, seenE_nil]
  first | refine hK _ ?_ | refine ⟨Cond.mk (by first | omega | (simp [-List.getD_eq_getElem?_getD]; done) | (simp [-List.getD_eq_getElem?_getD]; omega) | (simp [-List.getD_eq_getElem?_getD]; repeat (first | intro _ | exact And.intro ‹_› ‹_› | apply And.intro | assumption | omega | exact decide_eq_true (by assumption)))), hK _ ?_⟩
  clear K hK
  refine awpS_seq ?_
  refine awpS_seq ?_
  refine awpS_reg T_ok fun K hK => ?_
  simp [hG, List.getD_cons_zero, List.getD_cons_succ, -List.getD_eq_getElem?_getD, onceAt_zero, seenE_nil]
  first | refine hK _ ?_ | refine ⟨Cond.mk (by first | omega | (simp [-List.getD_eq_getElem?_getD]; done) | (simp [-List.getD_eq_getElem?_getD]; omega) | (simp [-List.getD_eq_getElem?_getD]; repeat (first | intro _ | exact And.intro ‹_› ‹_› | apply And.intro | assumption | omega | exact decide_eq_true (by assumption)))), hK _ ?_⟩
  clear K hK
  refine awpS_block ?_
  refine awpS_loop (α := Nat) (fun k => ⟨[(0, edgesC l), (3, .map (0, 0)), (4, .sl (1, 0) 0 (onceAt l k).length), (5, .int .i64 k)], [(0, .one (.mp (mpE edK boolV (seenE (onceAt l k))))), (1, .one (.arr (onceAt l k).length 3 (fun q j => edgeF ((onceAt l k).getD q de) j)))], 2⟩) (fun k => k ≤ l.length) (fun k => l.length - k) (0) (Nat.zero_le _) ?_ ?_
  ·
    refine wk_of (id) (fun _ => false) (fun _ => false) ?_ ?_ rfl (Nat.zero_le _) (fun k hk => absurd hk (Nat.not_lt_zero _))
    · simp [hG, List.getD_cons_zero, List.getD_cons_succ, -List.getD_eq_getElem?_getD, onceAt_zero, seenE_nil]
    · simp [hG, List.getD_cons_zero, List.getD_cons_succ, -List.getD_eq_getElem?_getD, onceAt_zero, seenE_nil]
  ·
    rintro k hk
    have hol := onceAt_len (l := l) (k := k)
    refine awpS_seq ?_
    refine awpS_seq ?_
    refine awpS_reg T_ok fun K hK => ?_
    simp [hG, List.getD_cons_zero, List.getD_cons_succ, -List.getD_eq_getElem?_getD, onceAt_zero, seenE_nil]
    first | refine hK _ ?_ | refine ⟨Cond.mk (by first | omega | (simp [-List.getD_eq_getElem?_getD]; done) | (simp [-List.getD_eq_getElem?_getD]; omega) | (simp [-List.getD_eq_getElem?_getD]; repeat (first | intro _ | exact And.intro ‹_› ‹_› | apply And.intro | assumption | omega | exact decide_eq_true (by assumption)))), hK _ ?_⟩
    clear K hK
    refine awpS_cond rfl (fun hb11 => ?_) (fun hb11 => ?_)
    ·
      try simp [-List.getD_eq_getElem?_getD] at hb11
      refine awpS_skip ?_
      refine awpS_seq ?_
      refine awpS_block ?_
      refine awpS_seq ?_
      refine awpS_reg T_ok fun K hK => ?_
      simp [hG, List.getD_cons_zero, List.getD_cons_succ, -List.getD_eq_getElem?_getD, onceAt_zero, seenE_nil]
      first | refine hK _ ?_ | refine ⟨Cond.mk (by first | omega | (simp [-List.getD_eq_getElem?_getD]; done) | (simp [-List.getD_eq_getElem?_getD]; omega) | (simp [-List.getD_eq_getElem?_getD]; repeat (first | intro _ | exact And.intro ‹_› ‹_› | apply And.intro | assumption | omega | exact decide_eq_true (by assumption)))), hK _ ?_⟩
      clear K hK
      refine awpS_cond rfl (fun hb20 => ?_) (fun hb20 => ?_)
      ·
        try simp [-List.getD_eq_getElem?_getD] at hb20
        have hnm := seenE_no hb20
        have hon := onceAt_new (by omega) hnm
        have hpt := seenE_put hnm
        refine awpS_seq ?_
        refine awpS_reg T_ok fun K hK => ?_
        simp [hG, List.getD_cons_zero, List.getD_cons_succ, -List.getD_eq_getElem?_getD, onceAt_zero, seenE_nil]
        first | refine hK _ ?_ | refine ⟨Cond.mk (by first | omega | (simp [-List.getD_eq_getElem?_getD]; done) | (simp [-List.getD_eq_getElem?_getD]; omega) | (simp [-List.getD_eq_getElem?_getD]; repeat (first | intro _ | exact And.intro ‹_› ‹_› | apply And.intro | assumption | omega | exact decide_eq_true (by assumption)))), hK _ ?_⟩
        clear K hK
        refine awpS_reg T_ok fun K hK => ?_
        simp [hG, List.getD_cons_zero, List.getD_cons_succ, -List.getD_eq_getElem?_getD, onceAt_zero, seenE_nil]
        first | refine hK _ ?_ | refine ⟨Cond.mk (by first | omega | (simp [-List.getD_eq_getElem?_getD]; done) | (simp [-List.getD_eq_getElem?_getD]; omega) | (simp [-List.getD_eq_getElem?_getD]; repeat (first | intro _ | exact And.intro ‹_› ‹_› | apply And.intro | assumption | omega | exact decide_eq_true (by assumption)))), hK _ ?_⟩
        clear K hK
        refine awpS_nil ?_
        refine blockQ_norm (thenQ_norm ?_)
        refine awpS_reg T_ok fun K hK => ?_
        simp [hG, List.getD_cons_zero, List.getD_cons_succ, -List.getD_eq_getElem?_getD, onceAt_zero, seenE_nil]
        first | refine hK _ ?_ | refine ⟨Cond.mk (by first | omega | (simp [-List.getD_eq_getElem?_getD]; done) | (simp [-List.getD_eq_getElem?_getD]; omega) | (simp [-List.getD_eq_getElem?_getD]; repeat (first | intro _ | exact And.intro ‹_› ‹_› | apply And.intro | assumption | omega | exact decide_eq_true (by assumption)))), hK _ ?_⟩
        clear K hK
        refine awpS_nil ?_
        refine round_end (k + 1) (by omega) (by omega) ?_
        refine wk_of (fun k => if k = 1 then 3 else k) (fun _ => false) (fun _ => false) ?_ ?_ rfl (Nat.zero_le _) (fun k hk => absurd hk (Nat.not_lt_zero _))
        · rw [hon]; simp [hG, List.getD_cons_zero, List.getD_cons_succ, -List.getD_eq_getElem?_getD]
        · rw [hon]; simp [hG, List.getD_cons_zero, List.getD_cons_succ, -List.getD_eq_getElem?_getD]; exact ⟨of_eq_true (HLe_ed hpt.symm), fun q hq => app_edge3 (by simpa using hq) (fun j hj => by rcases lt3 hj with rfl | rfl | rfl <;> simp)⟩
      ·
        try simp [-List.getD_eq_getElem?_getD] at hb20
        have hon := onceAt_old (l := l) (k := k) (by omega) (seenE_yes (by simpa using hb20))
        refine awpS_skip ?_
        refine awpS_nil ?_
        refine blockQ_norm (thenQ_norm ?_)
        refine awpS_reg T_ok fun K hK => ?_
        simp [hG, List.getD_cons_zero, List.getD_cons_succ, -List.getD_eq_getElem?_getD, onceAt_zero, seenE_nil]
        first | refine hK _ ?_ | refine ⟨Cond.mk (by first | omega | (simp [-List.getD_eq_getElem?_getD]; done) | (simp [-List.getD_eq_getElem?_getD]; omega) | (simp [-List.getD_eq_getElem?_getD]; repeat (first | intro _ | exact And.intro ‹_› ‹_› | apply And.intro | assumption | omega | exact decide_eq_true (by assumption)))), hK _ ?_⟩
        clear K hK
        refine awpS_nil ?_
        refine round_end (k + 1) (by omega) (by omega) ?_
        refine wk_of (id) (fun _ => false) (fun _ => false) ?_ ?_ rfl (Nat.zero_le _) (fun k hk => absurd hk (Nat.not_lt_zero _))
        · rw [hon]; simp [hG, List.getD_cons_zero, List.getD_cons_succ, -List.getD_eq_getElem?_getD]
        · rw [hon]; simp [hG, List.getD_cons_zero, List.getD_cons_succ, -List.getD_eq_getElem?_getD]
    ·
      try simp [-List.getD_eq_getElem?_getD] at hb11
      refine awpS_exit ?_
      refine thenQ_exit (thenQ_exit ?_)
      refine blockQ_exit (thenQ_norm ?_)
      refine awpS_seq ?_
      refine awpS_reg T_ok fun K hK => ?_
      simp [hG, List.getD_cons_zero, List.getD_cons_succ, -List.getD_eq_getElem?_getD, onceAt_zero, seenE_nil]
      first | refine hK _ ?_ | refine ⟨Cond.mk (by first | omega | (simp [-List.getD_eq_getElem?_getD]; done) | (simp [-List.getD_eq_getElem?_getD]; omega) | (simp [-List.getD_eq_getElem?_getD]; repeat (first | intro _ | exact And.intro ‹_› ‹_› | apply And.intro | assumption | omega | exact decide_eq_true (by assumption)))), hK _ ?_⟩
      clear K hK
      refine awpS_ret ?_
      refine RetOK_of ?_
      simp [hG, List.getD_cons_zero, List.getD_cons_succ, -List.getD_eq_getElem?_getD, onceAt_zero, seenE_nil]
      obtain rfl : k = l.length := (by omega); rw [onceAt_all]; simp

set_option maxRecDepth 100000 in
theorem sorted_c (l : List Edge) (hl : l.length ≤ 1000000) : PC Try.prog 67 [edgesC l] (edgesC (normE l)) := by
  refine PC_introS T_ok Try.func67 rfl (by simp [Try.ntmps67]) fun G hG hR => ?_
  simp only [Try.ntmps67, Try.results67] at hG ⊢
  simp only [argEnv, Nat.zero_add, Nat.reduceAdd]
  refine awpS_seq ?_
  refine awpS_reg T_ok fun K hK => ?_
  simp [hG, List.getD_cons_zero, List.getD_cons_succ, -List.getD_eq_getElem?_getD, normAt_zero]
  first | refine hK _ ?_ | refine ⟨Cond.mk (by first | omega | (simp [-List.getD_eq_getElem?_getD]; done) | (simp [-List.getD_eq_getElem?_getD]; omega) | (simp [-List.getD_eq_getElem?_getD]; repeat (first | intro _ | exact And.intro ‹_› ‹_› | apply And.intro | assumption | omega | exact decide_eq_true (by assumption)))), hK _ ?_⟩
  clear K hK
  refine awpS_seq ?_
  refine awpS_reg T_ok fun K hK => ?_
  simp [hG, List.getD_cons_zero, List.getD_cons_succ, -List.getD_eq_getElem?_getD, normAt_zero]
  first | refine hK _ ?_ | refine ⟨Cond.mk (by first | omega | (simp [-List.getD_eq_getElem?_getD]; done) | (simp [-List.getD_eq_getElem?_getD]; omega) | (simp [-List.getD_eq_getElem?_getD]; repeat (first | intro _ | exact And.intro ‹_› ‹_› | apply And.intro | assumption | omega | exact decide_eq_true (by assumption)))), hK _ ?_⟩
  clear K hK
  refine awpS_seq ?_
  refine awpS_seq ?_
  refine awpS_reg T_ok fun K hK => ?_
  simp [hG, List.getD_cons_zero, List.getD_cons_succ, -List.getD_eq_getElem?_getD, normAt_zero]
  first | refine hK _ ?_ | refine ⟨Cond.mk (by first | omega | (simp [-List.getD_eq_getElem?_getD]; done) | (simp [-List.getD_eq_getElem?_getD]; omega) | (simp [-List.getD_eq_getElem?_getD]; repeat (first | intro _ | exact And.intro ‹_› ‹_› | apply And.intro | assumption | omega | exact decide_eq_true (by assumption)))), hK _ ?_⟩
  clear K hK
  refine awpS_block ?_
  refine awpS_loop (α := Nat) (fun i => ⟨[(0, edgesC l), (3, .sl (0, 0) 0 (normAt l i).length), (4, .int .i64 i)], [(0, .one (.arr (normAt l i).length 3 (fun q j => edgeF ((normAt l i).getD q de) j)))], 1⟩) (fun i => i ≤ l.length) (fun i => l.length - i) (0) (Nat.zero_le _) ?_ ?_
  ·
    refine wk_of (id) (fun _ => false) (fun k => k == 0) ?_ ?_ rfl (Nat.zero_le _) (fun k hk => absurd hk (Nat.not_lt_zero _))
    · simp [hG, List.getD_cons_zero, List.getD_cons_succ, -List.getD_eq_getElem?_getD, normAt_zero]
    · simp [hG, List.getD_cons_zero, List.getD_cons_succ, -List.getD_eq_getElem?_getD, normAt_zero]
  ·
    rintro i hi
    have hal := normAt_len (l := l) (i := i)
    refine awpS_seq ?_
    refine awpS_seq ?_
    refine awpS_reg T_ok fun K hK => ?_
    simp [hG, List.getD_cons_zero, List.getD_cons_succ, -List.getD_eq_getElem?_getD, normAt_zero]
    first | refine hK _ ?_ | refine ⟨Cond.mk (by first | omega | (simp [-List.getD_eq_getElem?_getD]; done) | (simp [-List.getD_eq_getElem?_getD]; omega) | (simp [-List.getD_eq_getElem?_getD]; repeat (first | intro _ | exact And.intro ‹_› ‹_› | apply And.intro | assumption | omega | exact decide_eq_true (by assumption)))), hK _ ?_⟩
    clear K hK
    refine awpS_cond rfl (fun hb9 => ?_) (fun hb9 => ?_)
    ·
      try simp [-List.getD_eq_getElem?_getD] at hb9
      refine awpS_skip ?_
      refine awpS_seq ?_
      refine awpS_block ?_
      refine awpS_seq ?_
      refine awpS_reg T_ok fun K hK => ?_
      simp [hG, List.getD_cons_zero, List.getD_cons_succ, -List.getD_eq_getElem?_getD, normAt_zero]
      first | refine hK _ ?_ | refine ⟨Cond.mk (by first | omega | (simp [-List.getD_eq_getElem?_getD]; done) | (simp [-List.getD_eq_getElem?_getD]; omega) | (simp [-List.getD_eq_getElem?_getD]; repeat (first | intro _ | exact And.intro ‹_› ‹_› | apply And.intro | assumption | omega | exact decide_eq_true (by assumption)))), hK _ ?_⟩
      clear K hK
      refine awpS_seq ?_
      refine awpS_block ?_
      refine awpS_loop (α := Nat) (fun k => ⟨[(0, edgesC l), (3, .sl (0, 0) 0 (normAt l i).length), (4, .int .i64 i), (5, .int .i64 k)], [(0, .one (.arr (normAt l i).length 3 (fun q j => edgeF ((normAt l i).getD q de) j)))], 1⟩) (fun k => k ≤ (normAt l i).length ∧ ∀ j, j < k → ltE ((normAt l i).getD j de) (l.getD i de)) (fun k => (normAt l i).length - k) (0) (⟨Nat.zero_le _, fun j hj => absurd hj (Nat.not_lt_zero _)⟩) ?_ ?_
      ·
        refine wk_of (id) (fun _ => false) (fun _ => false) ?_ ?_ rfl (Nat.zero_le _) (fun k hk => absurd hk (Nat.not_lt_zero _))
        · simp [hG, List.getD_cons_zero, List.getD_cons_succ, -List.getD_eq_getElem?_getD, normAt_zero]
        · simp [hG, List.getD_cons_zero, List.getD_cons_succ, -List.getD_eq_getElem?_getD, normAt_zero]
      ·
        rintro k ⟨hk, hn⟩
        have hil : i < l.length := (by omega)
        refine awpS_seq ?_
        refine awpS_seq ?_
        refine awpS_draw hR mixed [] ⟨[], [], []⟩ fun mu0 => ?_
        refine awpA_tk T_ok [0, 1, 2, 3, 4, 5, 6, 7, 8, 9, 10, 11, 12] [] (fuel := 3) [12, 11, 10, 9, 8, 7, 6, 5, 4, 3, 2, 1, 0] (by decide +kernel) (by decide +kernel) rfl rfl fun K hK => ?_
        simp [hG, List.getD_cons_zero, List.getD_cons_succ, -List.getD_eq_getElem?_getD, normAt_zero]
        first | refine hK _ ?_ | refine ⟨Cond.mk (by first | omega | (simp [-List.getD_eq_getElem?_getD]; done) | (simp [-List.getD_eq_getElem?_getD]; omega) | (simp [-List.getD_eq_getElem?_getD]; repeat (first | intro _ | exact And.intro ‹_› ‹_› | apply And.intro | assumption | omega | exact decide_eq_true (by assumption)))), hK _ ?_⟩
        clear K hK
        refine awpA_only (fuel := 2) (i := 13) (by decide +kernel) ?_
        refine awpO_call cal50 rfl rfl rfl (fun _ => rfl) (fun hg => compare_c ((normAt l i).getD k de) (l.getD i de)) (fun hg => ?_) (fun hg => ?_) fun K hK => ?_
        · first | (simp [hG, List.getD_cons_zero, List.getD_cons_succ, -List.getD_eq_getElem?_getD, normAt_zero]; done) | (simp [-List.getD_eq_getElem?_getD] at hg; done) | (simp [-List.getD_eq_getElem?_getD] at hg; simp [hG, List.getD_cons_zero, List.getD_cons_succ, -List.getD_eq_getElem?_getD, normAt_zero]; first | omega | exact hg | (simp_all [-List.getD_eq_getElem?_getD]; done) | (simp_all [-List.getD_eq_getElem?_getD]; first | exact ⟨rfl, rfl⟩ | exact rfl))
        · simp [hG, List.getD_cons_zero, List.getD_cons_succ, -List.getD_eq_getElem?_getD]; exact ⟨rfl, rfl, rfl⟩
        simp [hG, List.getD_cons_zero, List.getD_cons_succ, -List.getD_eq_getElem?_getD, normAt_zero]
        refine hK _ ?_
        clear K hK
        refine awpA_tk T_ok [14, 15] [] (fuel := 0) [15, 14, 13, 12, 11, 10, 9, 8, 7, 6, 5, 4, 3, 2, 1, 0] (by decide +kernel) (by decide +kernel) rfl rfl fun K hK => ?_
        simp [hG, List.getD_cons_zero, List.getD_cons_succ, -List.getD_eq_getElem?_getD, normAt_zero]
        first | refine hK _ ?_ | refine ⟨Cond.mk (by first | omega | (simp [-List.getD_eq_getElem?_getD]; done) | (simp [-List.getD_eq_getElem?_getD]; omega) | (simp [-List.getD_eq_getElem?_getD]; repeat (first | intro _ | exact And.intro ‹_› ‹_› | apply And.intro | assumption | omega | exact decide_eq_true (by assumption)))), hK _ ?_⟩
        clear K hK
        refine awpA_done (by decide +kernel) ?_
        refine awpS_cond rfl (fun hb27 => ?_) (fun hb27 => ?_)
        ·
          try simp [-List.getD_eq_getElem?_getD] at hb27
          have hkk : k < (normAt l i).length ∧ ltE ((normAt l i).getD k de) (l.getD i de) := ⟨hb27.1, cmp_lt.1 hb27.2⟩
          refine awpS_skip ?_
          refine awpS_block ?_
          refine awpS_reg T_ok fun K hK => ?_
          simp [hG, List.getD_cons_zero, List.getD_cons_succ, -List.getD_eq_getElem?_getD, normAt_zero]
          first | refine hK _ ?_ | refine ⟨Cond.mk (by first | omega | (simp [-List.getD_eq_getElem?_getD]; done) | (simp [-List.getD_eq_getElem?_getD]; omega) | (simp [-List.getD_eq_getElem?_getD]; repeat (first | intro _ | exact And.intro ‹_› ‹_› | apply And.intro | assumption | omega | exact decide_eq_true (by assumption)))), hK _ ?_⟩
          clear K hK
          refine awpS_nil ?_
          refine blockQ_norm (thenQ_norm ?_)
          refine awpS_nil ?_
          refine round_end (k + 1) (⟨by omega, fun j hj => (Nat.lt_or_ge j k).elim (hn j) fun h => by rw [show j = k by omega]; exact hkk.2⟩) (by omega) ?_
          refine wk_of (id) (fun _ => false) (fun _ => false) ?_ ?_ rfl (Nat.zero_le _) (fun k hk => absurd hk (Nat.not_lt_zero _))
          · simp [hG, List.getD_cons_zero, List.getD_cons_succ, -List.getD_eq_getElem?_getD, normAt_zero]
          · simp [hG, List.getD_cons_zero, List.getD_cons_succ, -List.getD_eq_getElem?_getD, normAt_zero]
        ·
          try simp [-List.getD_eq_getElem?_getD] at hb27
          have hstop : k < (normAt l i).length → ¬ ltE ((normAt l i).getD k de) (l.getD i de) := (fun h h2 => by have := hb27 h; rw [← cmp_lt] at h2; omega)
          refine awpS_exit ?_
          refine thenQ_exit (thenQ_exit ?_)
          refine blockQ_exit (thenQ_norm ?_)
          refine awpS_seq ?_
          refine awpS_seq ?_
          refine awpS_draw hR mixed [] ⟨[], [], []⟩ fun mu0 => ?_
          refine awpA_tk T_ok [0, 1, 2, 3, 4, 5, 6, 7, 8, 9, 10, 11, 12, 13, 14] [] (fuel := 0) [14, 13, 12, 11, 10, 9, 8, 7, 6, 5, 4, 3, 2, 1, 0] (by decide +kernel) (by decide +kernel) rfl rfl fun K hK => ?_
          simp [hG, List.getD_cons_zero, List.getD_cons_succ, -List.getD_eq_getElem?_getD, normAt_zero]
          first | refine hK _ ?_ | refine ⟨Cond.mk (by first | omega | (simp [-List.getD_eq_getElem?_getD]; done) | (simp [-List.getD_eq_getElem?_getD]; omega) | (simp [-List.getD_eq_getElem?_getD]; repeat (first | intro _ | exact And.intro ‹_› ‹_› | apply And.intro | assumption | omega | exact decide_eq_true (by assumption)))), hK _ ?_⟩
          clear K hK
          refine awpA_done (by decide +kernel) ?_
          refine awpS_cond rfl (fun hb44 => ?_) (fun hb44 => ?_)
          ·
            try simp [-List.getD_eq_getElem?_getD] at hb44
            have hsame := norm_same hil hn ⟨hb44.1, edge_ext3 hb44.2.1 hb44.2.2.1 hb44.2.2.2⟩
            refine awpS_exit ?_
            refine blockQ_exit (thenQ_norm ?_)
            refine awpS_reg T_ok fun K hK => ?_
            simp [hG, List.getD_cons_zero, List.getD_cons_succ, -List.getD_eq_getElem?_getD, normAt_zero]
            first | refine hK _ ?_ | refine ⟨Cond.mk (by first | omega | (simp [-List.getD_eq_getElem?_getD]; done) | (simp [-List.getD_eq_getElem?_getD]; omega) | (simp [-List.getD_eq_getElem?_getD]; repeat (first | intro _ | exact And.intro ‹_› ‹_› | apply And.intro | assumption | omega | exact decide_eq_true (by assumption)))), hK _ ?_⟩
            clear K hK
            refine awpS_nil ?_
            refine round_end (i + 1) (by omega) (by omega) ?_
            refine wk_of (id) (fun _ => false) (fun _ => false) ?_ ?_ rfl (Nat.zero_le _) (fun k hk => absurd hk (Nat.not_lt_zero _))
            · rw [hsame]; simp [hG, List.getD_cons_zero, List.getD_cons_succ, -List.getD_eq_getElem?_getD]
            · rw [hsame]; simp [hG, List.getD_cons_zero, List.getD_cons_succ, -List.getD_eq_getElem?_getD]
          ·
            try simp [-List.getD_eq_getElem?_getD] at hb44
            have hput := norm_put hil hn hk hstop (fun h e => hb44 h (by rw [e]) (by rw [e]) (by rw [e]))
            refine awpS_skip ?_
            refine awpS_draw hR mixed [] ⟨[], [4, 10, 14], [(0, 0)]⟩ fun mu0 => ?_
            refine awpA_tk T_ok [1, 2, 3, 5, 6, 7, 8, 11, 12, 13] [] (fuel := 6) [13, 12, 11, 8, 7, 6, 5, 3, 2, 1] (by decide +kernel) (by decide +kernel) rfl rfl fun K hK => ?_
            simp [hG, List.getD_cons_zero, List.getD_cons_succ, -List.getD_eq_getElem?_getD, normAt_zero]
            first | refine hK _ ?_ | refine ⟨Cond.mk (by first | omega | (simp [-List.getD_eq_getElem?_getD]; done) | (simp [-List.getD_eq_getElem?_getD]; omega) | (simp [-List.getD_eq_getElem?_getD]; repeat (first | intro _ | exact And.intro ‹_› ‹_› | apply And.intro | assumption | omega | exact decide_eq_true (by assumption)))), hK _ ?_⟩
            clear K hK
            refine awpA_two (fuel := 5) (i := 0) (k := 9) (by decide +kernel) ?_ ?_
            ·
              refine awpO_reg T_ok rfl ?_ fun K hK => ?_
              · simp [hG, List.getD_cons_zero, List.getD_cons_succ, -List.getD_eq_getElem?_getD, normAt_zero]
              simp [hG, List.getD_cons_zero, List.getD_cons_succ, -List.getD_eq_getElem?_getD, normAt_zero]
              first | refine hK _ ?_ | refine ⟨Cond.mk (by first | omega | (simp [-List.getD_eq_getElem?_getD]; done) | (simp [-List.getD_eq_getElem?_getD]; omega) | (simp [-List.getD_eq_getElem?_getD]; repeat (first | intro _ | exact And.intro ‹_› ‹_› | apply And.intro | assumption | omega | exact decide_eq_true (by assumption)))), hK _ ?_⟩
              clear K hK
              refine awpA_two (fuel := 4) (i := 4) (k := 9) (by decide +kernel) ?_ ?_
              ·
                refine awpO_reg T_ok rfl ?_ fun K hK => ?_
                · simp [hG, List.getD_cons_zero, List.getD_cons_succ, -List.getD_eq_getElem?_getD, normAt_zero]
                simp [hG, List.getD_cons_zero, List.getD_cons_succ, -List.getD_eq_getElem?_getD, normAt_zero]
                first | refine hK _ ?_ | refine ⟨Cond.mk (by first | omega | (simp [-List.getD_eq_getElem?_getD]; done) | (simp [-List.getD_eq_getElem?_getD]; omega) | (simp [-List.getD_eq_getElem?_getD]; repeat (first | intro _ | exact And.intro ‹_› ‹_› | apply And.intro | assumption | omega | exact decide_eq_true (by assumption)))), hK _ ?_⟩
                clear K hK
                refine awpA_only (fuel := 3) (i := 9) (by decide +kernel) ?_
                refine awpO_reg T_ok rfl ?_ fun K hK => ?_
                · simp [hG, List.getD_cons_zero, List.getD_cons_succ, -List.getD_eq_getElem?_getD, normAt_zero]
                simp [hG, List.getD_cons_zero, List.getD_cons_succ, -List.getD_eq_getElem?_getD, normAt_zero]
                first | refine hK _ ?_ | refine ⟨Cond.mk (by first | omega | (simp [-List.getD_eq_getElem?_getD]; done) | (simp [-List.getD_eq_getElem?_getD]; omega) | (simp [-List.getD_eq_getElem?_getD]; repeat (first | intro _ | exact And.intro ‹_› ‹_› | apply And.intro | assumption | omega | exact decide_eq_true (by assumption)))), hK _ ?_⟩
                clear K hK
                refine awpA_only (fuel := 2) (i := 10) (by decide +kernel) ?_
                refine awpO_reg T_ok rfl ?_ fun K hK => ?_
                · simp [hG, List.getD_cons_zero, List.getD_cons_succ, -List.getD_eq_getElem?_getD, normAt_zero]
                simp [hG, List.getD_cons_zero, List.getD_cons_succ, -List.getD_eq_getElem?_getD, normAt_zero]
                first | refine hK _ ?_ | refine ⟨Cond.mk (by first | omega | (simp [-List.getD_eq_getElem?_getD]; done) | (simp [-List.getD_eq_getElem?_getD]; omega) | (simp [-List.getD_eq_getElem?_getD]; repeat (first | intro _ | exact And.intro ‹_› ‹_› | apply And.intro | assumption | omega | exact decide_eq_true (by assumption)))), hK _ ?_⟩
                clear K hK
                refine awpA_only (fuel := 1) (i := 14) (by decide +kernel) ?_
                refine awpO_reg T_ok rfl ?_ fun K hK => ?_
                · simp [hG, List.getD_cons_zero, List.getD_cons_succ, -List.getD_eq_getElem?_getD, normAt_zero]
                simp [hG, List.getD_cons_zero, List.getD_cons_succ, -List.getD_eq_getElem?_getD, normAt_zero]
                first | refine hK _ ?_ | refine ⟨Cond.mk (by first | omega | (simp [-List.getD_eq_getElem?_getD]; done) | (simp [-List.getD_eq_getElem?_getD]; omega) | (simp [-List.getD_eq_getElem?_getD]; repeat (first | intro _ | exact And.intro ‹_› ‹_› | apply And.intro | assumption | omega | exact decide_eq_true (by assumption)))), hK _ ?_⟩
                clear K hK
                refine awpA_tk T_ok [15] [] (fuel := 0) [15, 14, 10, 9, 4, 0, 13, 12, 11, 8, 7, 6, 5, 3, 2, 1] (by decide +kernel) (by decide +kernel) rfl rfl fun K hK => ?_
                simp [hG, List.getD_cons_zero, List.getD_cons_succ, -List.getD_eq_getElem?_getD, normAt_zero]
                first | refine hK _ ?_ | refine ⟨Cond.mk (by first | omega | (simp [-List.getD_eq_getElem?_getD]; done) | (simp [-List.getD_eq_getElem?_getD]; omega) | (simp [-List.getD_eq_getElem?_getD]; repeat (first | intro _ | exact And.intro ‹_› ‹_› | apply And.intro | assumption | omega | exact decide_eq_true (by assumption)))), hK _ ?_⟩
                clear K hK
                refine awpA_done (by decide +kernel) ?_
                refine awpS_nil ?_
                refine blockQ_norm (thenQ_norm ?_)
                refine awpS_reg T_ok fun K hK => ?_
                simp [hG, List.getD_cons_zero, List.getD_cons_succ, -List.getD_eq_getElem?_getD, normAt_zero]
                first | refine hK _ ?_ | refine ⟨Cond.mk (by first | omega | (simp [-List.getD_eq_getElem?_getD]; done) | (simp [-List.getD_eq_getElem?_getD]; omega) | (simp [-List.getD_eq_getElem?_getD]; repeat (first | intro _ | exact And.intro ‹_› ‹_› | apply And.intro | assumption | omega | exact decide_eq_true (by assumption)))), hK _ ?_⟩
                clear K hK
                refine awpS_nil ?_
                refine round_end (i + 1) (by omega) (by omega) ?_
                refine wk_of (fun k => if k = 0 then 5 else k) (fun _ => false) (fun _ => false) ?_ ?_ rfl (Nat.zero_le _) (fun k hk => absurd hk (Nat.not_lt_zero _))
                · rw [hput]; simp [hG, List.getD_cons_zero, List.getD_cons_succ, -List.getD_eq_getElem?_getD]; omega
                · rw [hput]; simp [hG, List.getD_cons_zero, List.getD_cons_succ, -List.getD_eq_getElem?_getD]; exact ⟨by omega, app_put3 hk (fun j hj => by rcases lt3 hj with rfl | rfl | rfl <;> rfl)⟩
              ·
                refine awpO_reg T_ok rfl ?_ fun K hK => ?_
                · simp [hG, List.getD_cons_zero, List.getD_cons_succ, -List.getD_eq_getElem?_getD, normAt_zero]
                simp [hG, List.getD_cons_zero, List.getD_cons_succ, -List.getD_eq_getElem?_getD, normAt_zero]
                first | refine hK _ ?_ | refine ⟨Cond.mk (by first | omega | (simp [-List.getD_eq_getElem?_getD]; done) | (simp [-List.getD_eq_getElem?_getD]; omega) | (simp [-List.getD_eq_getElem?_getD]; repeat (first | intro _ | exact And.intro ‹_› ‹_› | apply And.intro | assumption | omega | exact decide_eq_true (by assumption)))), hK _ ?_⟩
                clear K hK
                refine awpA_only (fuel := 3) (i := 4) (by decide +kernel) ?_
                refine awpO_reg T_ok rfl ?_ fun K hK => ?_
                · simp [hG, List.getD_cons_zero, List.getD_cons_succ, -List.getD_eq_getElem?_getD, normAt_zero]
                simp [hG, List.getD_cons_zero, List.getD_cons_succ, -List.getD_eq_getElem?_getD, normAt_zero]
                first | refine hK _ ?_ | refine ⟨Cond.mk (by first | omega | (simp [-List.getD_eq_getElem?_getD]; done) | (simp [-List.getD_eq_getElem?_getD]; omega) | (simp [-List.getD_eq_getElem?_getD]; repeat (first | intro _ | exact And.intro ‹_› ‹_› | apply And.intro | assumption | omega | exact decide_eq_true (by assumption)))), hK _ ?_⟩
                clear K hK
                refine awpA_only (fuel := 2) (i := 10) (by decide +kernel) ?_
                refine awpO_reg T_ok rfl ?_ fun K hK => ?_
                · simp [hG, List.getD_cons_zero, List.getD_cons_succ, -List.getD_eq_getElem?_getD, normAt_zero]
                simp [hG, List.getD_cons_zero, List.getD_cons_succ, -List.getD_eq_getElem?_getD, normAt_zero]
                first | refine hK _ ?_ | refine ⟨Cond.mk (by first | omega | (simp [-List.getD_eq_getElem?_getD]; done) | (simp [-List.getD_eq_getElem?_getD]; omega) | (simp [-List.getD_eq_getElem?_getD]; repeat (first | intro _ | exact And.intro ‹_› ‹_› | apply And.intro | assumption | omega | exact decide_eq_true (by assumption)))), hK _ ?_⟩
                clear K hK
                refine awpA_only (fuel := 1) (i := 14) (by decide +kernel) ?_
                refine awpO_reg T_ok rfl ?_ fun K hK => ?_
                · simp [hG, List.getD_cons_zero, List.getD_cons_succ, -List.getD_eq_getElem?_getD, normAt_zero]
                simp [hG, List.getD_cons_zero, List.getD_cons_succ, -List.getD_eq_getElem?_getD, normAt_zero]
                first | refine hK _ ?_ | refine ⟨Cond.mk (by first | omega | (simp [-List.getD_eq_getElem?_getD]; done) | (simp [-List.getD_eq_getElem?_getD]; omega) | (simp [-List.getD_eq_getElem?_getD]; repeat (first | intro _ | exact And.intro ‹_› ‹_› | apply And.intro | assumption | omega | exact decide_eq_true (by assumption)))), hK _ ?_⟩
                clear K hK
                refine awpA_tk T_ok [15] [] (fuel := 0) [15, 14, 10, 4, 9, 0, 13, 12, 11, 8, 7, 6, 5, 3, 2, 1] (by decide +kernel) (by decide +kernel) rfl rfl fun K hK => ?_
                simp [hG, List.getD_cons_zero, List.getD_cons_succ, -List.getD_eq_getElem?_getD, normAt_zero]
                first | refine hK _ ?_ | refine ⟨Cond.mk (by first | omega | (simp [-List.getD_eq_getElem?_getD]; done) | (simp [-List.getD_eq_getElem?_getD]; omega) | (simp [-List.getD_eq_getElem?_getD]; repeat (first | intro _ | exact And.intro ‹_› ‹_› | apply And.intro | assumption | omega | exact decide_eq_true (by assumption)))), hK _ ?_⟩
                clear K hK
                refine awpA_done (by decide +kernel) ?_
                refine awpS_nil ?_
                refine blockQ_norm (thenQ_norm ?_)
                refine awpS_reg T_ok fun K hK => ?_
                simp [hG, List.getD_cons_zero, List.getD_cons_succ, -List.getD_eq_getElem?_getD, normAt_zero]
                first | refine hK _ ?_ | refine ⟨Cond.mk (by first | omega | (simp [-List.getD_eq_getElem?_getD]; done) | (simp [-List.getD_eq_getElem?_getD]; omega) | (simp [-List.getD_eq_getElem?_getD]; repeat (first | intro _ | exact And.intro ‹_› ‹_› | apply And.intro | assumption | omega | exact decide_eq_true (by assumption)))), hK _ ?_⟩
                clear K hK
                refine awpS_nil ?_
                refine round_end (i + 1) (by omega) (by omega) ?_
                refine wk_of (fun k => if k = 0 then 5 else k) (fun _ => false) (fun _ => false) ?_ ?_ rfl (Nat.zero_le _) (fun k hk => absurd hk (Nat.not_lt_zero _))
                · rw [hput]; simp [hG, List.getD_cons_zero, List.getD_cons_succ, -List.getD_eq_getElem?_getD]; omega
                · rw [hput]; simp [hG, List.getD_cons_zero, List.getD_cons_succ, -List.getD_eq_getElem?_getD]; exact ⟨by omega, app_put3 hk (fun j hj => by rcases lt3 hj with rfl | rfl | rfl <;> rfl)⟩
            ·
              refine awpO_reg T_ok rfl ?_ fun K hK => ?_
              · simp [hG, List.getD_cons_zero, List.getD_cons_succ, -List.getD_eq_getElem?_getD, normAt_zero]
              simp [hG, List.getD_cons_zero, List.getD_cons_succ, -List.getD_eq_getElem?_getD, normAt_zero]
              first | refine hK _ ?_ | refine ⟨Cond.mk (by first | omega | (simp [-List.getD_eq_getElem?_getD]; done) | (simp [-List.getD_eq_getElem?_getD]; omega) | (simp [-List.getD_eq_getElem?_getD]; repeat (first | intro _ | exact And.intro ‹_› ‹_› | apply And.intro | assumption | omega | exact decide_eq_true (by assumption)))), hK _ ?_⟩
              clear K hK
              refine awpA_only (fuel := 4) (i := 0) (by decide +kernel) ?_
              refine awpO_reg T_ok rfl ?_ fun K hK => ?_
              · simp [hG, List.getD_cons_zero, List.getD_cons_succ, -List.getD_eq_getElem?_getD, normAt_zero]
              simp [hG, List.getD_cons_zero, List.getD_cons_succ, -List.getD_eq_getElem?_getD, normAt_zero]
              first | refine hK _ ?_ | refine ⟨Cond.mk (by first | omega | (simp [-List.getD_eq_getElem?_getD]; done) | (simp [-List.getD_eq_getElem?_getD]; omega) | (simp [-List.getD_eq_getElem?_getD]; repeat (first | intro _ | exact And.intro ‹_› ‹_› | apply And.intro | assumption | omega | exact decide_eq_true (by assumption)))), hK _ ?_⟩
              clear K hK
              refine awpA_only (fuel := 3) (i := 4) (by decide +kernel) ?_
              refine awpO_reg T_ok rfl ?_ fun K hK => ?_
              · simp [hG, List.getD_cons_zero, List.getD_cons_succ, -List.getD_eq_getElem?_getD, normAt_zero]
              simp [hG, List.getD_cons_zero, List.getD_cons_succ, -List.getD_eq_getElem?_getD, normAt_zero]
              first | refine hK _ ?_ | refine ⟨Cond.mk (by first | omega | (simp [-List.getD_eq_getElem?_getD]; done) | (simp [-List.getD_eq_getElem?_getD]; omega) | (simp [-List.getD_eq_getElem?_getD]; repeat (first | intro _ | exact And.intro ‹_› ‹_› | apply And.intro | assumption | omega | exact decide_eq_true (by assumption)))), hK _ ?_⟩
              clear K hK
              refine awpA_only (fuel := 2) (i := 10) (by decide +kernel) ?_
              refine awpO_reg T_ok rfl ?_ fun K hK => ?_
              · simp [hG, List.getD_cons_zero, List.getD_cons_succ, -List.getD_eq_getElem?_getD, normAt_zero]
              simp [hG, List.getD_cons_zero, List.getD_cons_succ, -List.getD_eq_getElem?_getD, normAt_zero]
              first | refine hK _ ?_ | refine ⟨Cond.mk (by first | omega | (simp [-List.getD_eq_getElem?_getD]; done) | (simp [-List.getD_eq_getElem?_getD]; omega) | (simp [-List.getD_eq_getElem?_getD]; repeat (first | intro _ | exact And.intro ‹_› ‹_› | apply And.intro | assumption | omega | exact decide_eq_true (by assumption)))), hK _ ?_⟩
              clear K hK
              refine awpA_only (fuel := 1) (i := 14) (by decide +kernel) ?_
              refine awpO_reg T_ok rfl ?_ fun K hK => ?_
              · simp [hG, List.getD_cons_zero, List.getD_cons_succ, -List.getD_eq_getElem?_getD, normAt_zero]
              simp [hG, List.getD_cons_zero, List.getD_cons_succ, -List.getD_eq_getElem?_getD, normAt_zero]
              first | refine hK _ ?_ | refine ⟨Cond.mk (by first | omega | (simp [-List.getD_eq_getElem?_getD]; done) | (simp [-List.getD_eq_getElem?_getD]; omega) | (simp [-List.getD_eq_getElem?_getD]; repeat (first | intro _ | exact And.intro ‹_› ‹_› | apply And.intro | assumption | omega | exact decide_eq_true (by assumption)))), hK _ ?_⟩
              clear K hK
              refine awpA_tk T_ok [15] [] (fuel := 0) [15, 14, 10, 4, 0, 9, 13, 12, 11, 8, 7, 6, 5, 3, 2, 1] (by decide +kernel) (by decide +kernel) rfl rfl fun K hK => ?_
              simp [hG, List.getD_cons_zero, List.getD_cons_succ, -List.getD_eq_getElem?_getD, normAt_zero]
              first | refine hK _ ?_ | refine ⟨Cond.mk (by first | omega | (simp [-List.getD_eq_getElem?_getD]; done) | (simp [-List.getD_eq_getElem?_getD]; omega) | (simp [-List.getD_eq_getElem?_getD]; repeat (first | intro _ | exact And.intro ‹_› ‹_› | apply And.intro | assumption | omega | exact decide_eq_true (by assumption)))), hK _ ?_⟩
              clear K hK
              refine awpA_done (by decide +kernel) ?_
              refine awpS_nil ?_
              refine blockQ_norm (thenQ_norm ?_)
              refine awpS_reg T_ok fun K hK => ?_
              simp [hG, List.getD_cons_zero, List.getD_cons_succ, -List.getD_eq_getElem?_getD, normAt_zero]
              first | refine hK _ ?_ | refine ⟨Cond.mk (by first | omega | (simp [-List.getD_eq_getElem?_getD]; done) | (simp [-List.getD_eq_getElem?_getD]; omega) | (simp [-List.getD_eq_getElem?_getD]; repeat (first | intro _ | exact And.intro ‹_› ‹_› | apply And.intro | assumption | omega | exact decide_eq_true (by assumption)))), hK _ ?_⟩
              clear K hK
              refine awpS_nil ?_
              refine round_end (i + 1) (by omega) (by omega) ?_
              refine wk_of (fun k => if k = 0 then 5 else k) (fun _ => false) (fun _ => false) ?_ ?_ rfl (Nat.zero_le _) (fun k hk => absurd hk (Nat.not_lt_zero _))
              · rw [hput]; simp [hG, List.getD_cons_zero, List.getD_cons_succ, -List.getD_eq_getElem?_getD]; omega
              · rw [hput]; simp [hG, List.getD_cons_zero, List.getD_cons_succ, -List.getD_eq_getElem?_getD]; exact ⟨by omega, app_put3 hk (fun j hj => by rcases lt3 hj with rfl | rfl | rfl <;> rfl)⟩
    ·
      try simp [-List.getD_eq_getElem?_getD] at hb9
      refine awpS_exit ?_
      refine thenQ_exit (thenQ_exit ?_)
      refine blockQ_exit (thenQ_norm ?_)
      refine awpS_seq ?_
      refine awpS_reg T_ok fun K hK => ?_
      simp [hG, List.getD_cons_zero, List.getD_cons_succ, -List.getD_eq_getElem?_getD, normAt_zero]
      first | refine hK _ ?_ | refine ⟨Cond.mk (by first | omega | (simp [-List.getD_eq_getElem?_getD]; done) | (simp [-List.getD_eq_getElem?_getD]; omega) | (simp [-List.getD_eq_getElem?_getD]; repeat (first | intro _ | exact And.intro ‹_› ‹_› | apply And.intro | assumption | omega | exact decide_eq_true (by assumption)))), hK _ ?_⟩
      clear K hK
      refine awpS_ret ?_
      refine RetOK_of ?_
      simp [hG, List.getD_cons_zero, List.getD_cons_succ, -List.getD_eq_getElem?_getD, normAt_zero]
      obtain rfl : i = l.length := (by omega); rw [normAt_all]; simp

end Go.Proofs.Ytddghlnaocjjkaa
