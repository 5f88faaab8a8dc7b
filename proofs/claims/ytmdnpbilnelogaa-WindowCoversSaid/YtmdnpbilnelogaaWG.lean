/-
 Walks: what is too great, equality; the examples.
-/
import Derived.Test.YtmdnpbilnelogaaWF
import Derived.Test.YtmdnpbilnelogaaVB
namespace Go.Proofs.Ytmdnpbilnelogaa
set_option linter.unusedSimpArgs false
set_option linter.unusedVariables false
open Go Go.Lift Go.Proofs

theorem ent_ext {a b : Ent} (h1 : a.win = b.win) (h2 : a.inp = b.inp) : a = b := by
 cases a; cases b; simp only at h1 h2; subst h1 h2; rfl
theorem ents_ext {a b : List Ent} (hl : a.length = b.length) (h : ∀ j, j < a.length → (a.getD j den).win = (b.getD j den).win ∧ (a.getD j den).inp = (b.getD j den).inp) : a = b := by
 refine List.ext_getElem hl fun j h1 h2 => ?_
 have := h j h1
 have e := ent_ext this.1 this.2
 simpa [List.getD, h1, h2] using e
/-- the letters of the first windows, as the program adds them up. -/
def sumW (l : List Ent) : Nat → Int
 | 0 => 0
 | k + 1 => IntKind.i64.wrap (sumW l k + (l.getD k den).win.length)
theorem sumW_zero {l : List Ent} : sumW l 0 = 0 := rfl
theorem sumW_succ {l : List Ent} {k : Nat} : sumW l (k + 1) = IntKind.i64.wrap (sumW l k + (l.getD k den).win.length) := rfl
def grD (d : Dec) : Bool := (d.ents.any fun x => decide (40 < x.win.length)) || decide ((64 < d.ents.length ∧ (d.ents.length ≤ 65536 ∨ 0 < sumW d.ents d.ents.length)) ∨ 65539 < d.ents.length)
theorem grD_small {d : Dec} (h : grD d = false) : d.ents.length ≤ 65539 ∧ ∀ x ∈ d.ents, x.win.length ≤ 40 := by
 unfold grD at h
 rw [Bool.or_eq_false_iff, decide_eq_false_iff_not, List.any_eq_false] at h
 refine ⟨Nat.le_of_not_lt fun hl => h.2 (.inr hl), fun x hx => ?_⟩
 have := h.1 x hx
 simpa using this
def rowGr (r : List Cell) : Bool := decide (6 < r.length) || r.any fun c => decide (20 < c.word.length)
def grEnc (e : Enc) : Bool := e.rows.any rowGr || decide (4 < e.rows.length ∨ (4 < e.inputs ∧ e.inputs ≤ 256) ∨ (4 < e.block ∧ e.block ≤ 16))
def smallB (p f : Int) : Bool := decide (p < 0 ∨ f < 0 ∨ 16 < p ∨ 16 < f ∨ p + f ≤ 3 ∨ 16 ≤ p + f)
theorem any_yes {α : Type} {f : α → Bool} {L : List α} {i : Nat} {d : α} (hi : i < L.length) (h : f (L.getD i d) = true) : L.any f = true := List.any_eq_true.2 ⟨_, getD_mem hi, h⟩
theorem any_no {α : Type} {f : α → Bool} {L : List α} {d : α} (h : ∀ j, j < L.length → f (L.getD j d) = false) : L.any f = false := by
 rw [List.any_eq_false]
 intro x hx
 obtain ⟨j, hj, rfl⟩ := List.mem_iff_getElem.1 hx
 have := h j hj
 simp only [List.getD, List.getElem?_eq_getElem hj, Option.getD_some] at this
 rw [this]; simp
def fineW (e : Enc) : Bool := !grEnc e && decide (checkE e = 0)
/-- the examples. -/
def eX : Enc := ⟨2, 2, 2, [[⟨0, [48, 48]⟩, ⟨0, [48, 49]⟩]]⟩
def eY : Enc := ⟨2, 1, 2, [[⟨0, [48]⟩, ⟨1, [48]⟩], [⟨0, [49]⟩, ⟨1, [49]⟩]]⟩
def dX : Dec := ⟨2, 2, 2, 0, 0, [⟨[48, 48], 0⟩, ⟨[48, 49], 1⟩]⟩
def dY : Dec := ⟨2, 1, 2, 0, 1, [⟨[48, 48], 0⟩, ⟨[48, 49], 1⟩, ⟨[49, 48], 0⟩, ⟨[49, 49], 1⟩]⟩
theorem aw1 : wbN eX 0 0 = 0 := by decide +kernel
theorem aw2 : wbN eY 0 0 = 17 := by decide +kernel
theorem aw3 : searchN eY 3 = 0 := by decide +kernel
theorem aw4 : wbX eX 0 0 = dX := by decide +kernel
theorem aw5 : searchX eY 3 = dY := by decide +kernel
theorem aw6 : decodeN dY [48, 49, 49, 48] = 0 := by decide +kernel
theorem aw7 : decodeL dY [48, 49, 49, 48] = [1, 1, 0] := by decide +kernel
theorem dec_ext {a b : Dec} (h : ((((a.letters = b.letters ∧ a.block = b.block) ∧ a.inputs = b.inputs) ∧ a.past = b.past) ∧ a.future = b.future)) (h2 : a.ents = b.ents) : a = b := by
 obtain ⟨⟨⟨⟨h3, h4⟩, h5⟩, h6⟩, h7⟩ := h
 cases a; cases b
 simp only at *
 subst h3 h4 h5 h6 h7 h2
 rfl
set_option maxRecDepth 100000 in
theorem equalE_c (a b : List Ent) (ha : a.length ≤ 1000000) : PC Try.prog 36 [ents a, ents b] (.bool (decide (a = b))) := by
 refine PC_introS T_ok Try.func36 rfl (by simp [Try.ntmps36]) fun G hG hR => ?_
 simp only [Try.ntmps36, Try.results36] at hG ⊢
 simp only [argEnv, Nat.zero_add, Nat.reduceAdd]
 refine awpS_seq ?_
 refine awpS_reg T_ok fun K hK => ?_
 simp [hG, List.getD_cons_zero, List.getD_cons_succ, -List.getD_eq_getElem?_getD]
 refine hK _ ?_
 clear K hK
 refine awpS_seq ?_
 refine awpS_seq ?_
 refine awpS_reg T_ok fun K hK => ?_
 simp [hG, List.getD_cons_zero, List.getD_cons_succ, -List.getD_eq_getElem?_getD]
 refine hK _ ?_
 clear K hK
 refine awpS_cond rfl (fun hb10 => ?_) (fun hb10 => ?_)
 ·
  try simp [-List.getD_eq_getElem?_getD] at hb10
  refine awpS_seq ?_
  refine awpS_reg T_ok fun K hK => ?_
  simp [hG, List.getD_cons_zero, List.getD_cons_succ, -List.getD_eq_getElem?_getD]
  refine hK _ ?_
  clear K hK
  refine awpS_ret ?_
  refine RetOK_of ?_
  simp [hG, List.getD_cons_zero, List.getD_cons_succ, -List.getD_eq_getElem?_getD]
  rintro rfl; exact hb10 rfl
 ·
  try simp [-List.getD_eq_getElem?_getD] at hb10
  refine awpS_skip ?_
  refine awpS_seq ?_
  refine awpS_seq ?_
  refine awpS_reg T_ok fun K hK => ?_
  simp [hG, List.getD_cons_zero, List.getD_cons_succ, -List.getD_eq_getElem?_getD]
  refine hK _ ?_
  clear K hK
  refine awpS_block ?_
  refine awpS_loop (α := Nat) (fun i => ⟨[(0, ents a), (1, ents b), (12, .int .i64 a.length), (13, .int .i64 i)], [], 0⟩) (fun i => i ≤ a.length ∧ a.length = b.length ∧ ∀ j, j < i → (a.getD j den).win = (b.getD j den).win ∧ (a.getD j den).inp = (b.getD j den).inp) (fun i => a.length - i) (0) (⟨Nat.zero_le _, by omega, fun j hj => absurd hj (Nat.not_lt_zero _)⟩) ?_ ?_
  ·
   refine wk_of (id) (fun _ => false) (fun _ => false) ?_ ?_ rfl (Nat.zero_le _) (fun k hk => absurd hk (Nat.not_lt_zero _))
   · simp [hG, List.getD_cons_zero, List.getD_cons_succ, -List.getD_eq_getElem?_getD]
   · simp [hG, List.getD_cons_zero, List.getD_cons_succ, -List.getD_eq_getElem?_getD]
  ·
   rintro i ⟨hi, hl, hn⟩
   refine awpS_seq ?_
   refine awpS_reg T_ok fun K hK => ?_
   simp [hG, List.getD_cons_zero, List.getD_cons_succ, -List.getD_eq_getElem?_getD]
   refine hK _ ?_
   clear K hK
   refine awpS_seq ?_
   refine awpS_cond rfl (fun hb14 => ?_) (fun hb14 => ?_)
   ·
    try simp [-List.getD_eq_getElem?_getD] at hb14
    refine awpS_skip ?_
    refine awpS_seq ?_
    refine awpS_block ?_
    refine awpS_seq ?_
    refine awpS_reg T_ok fun K hK => ?_
    simp [hG, List.getD_cons_zero, List.getD_cons_succ, -List.getD_eq_getElem?_getD]
    refine hK _ ?_
    clear K hK
    refine awpS_seq ?_
    refine awpS_draw hR mixed [] ⟨[], [], []⟩ fun mu0 => ?_
    refine awpA_tk T_ok [0, 1, 2, 3, 4, 5, 6, 7, 8] [] (fuel := 0) [8, 7, 6, 5, 4, 3, 2, 1, 0] (by decide +kernel) (by decide +kernel) rfl rfl fun K hK => ?_
    simp [hG, List.getD_cons_zero, List.getD_cons_succ, -List.getD_eq_getElem?_getD]
    refine ⟨Cond.mk (by omega), hK _ ?_⟩
    clear K hK
    refine awpA_done (by decide +kernel) ?_
    refine awpS_cond rfl (fun hb24 => ?_) (fun hb24 => ?_)
    ·
     try simp [-List.getD_eq_getElem?_getD] at hb24
     refine awpS_seq ?_
     refine awpS_reg T_ok fun K hK => ?_
     simp [hG, List.getD_cons_zero, List.getD_cons_succ, -List.getD_eq_getElem?_getD]
     refine hK _ ?_
     clear K hK
     refine awpS_ret ?_
     refine blockQ_ret (thenQ_ret ?_)
     refine thenQ_ret (thenQ_ret ?_)
     refine blockQ_ret (thenQ_ret ?_)
     refine RetOK_of ?_
     simp [hG, List.getD_cons_zero, List.getD_cons_succ, -List.getD_eq_getElem?_getD]
     rintro rfl; simp at hb24
    ·
     try simp [-List.getD_eq_getElem?_getD] at hb24
     refine awpS_skip ?_
     refine awpS_nil ?_
     refine blockQ_norm (thenQ_norm ?_)
     refine awpS_reg T_ok fun K hK => ?_
     simp [hG, List.getD_cons_zero, List.getD_cons_succ, -List.getD_eq_getElem?_getD]
     refine ⟨Cond.mk (by omega), hK _ ?_⟩
     clear K hK
     refine awpS_nil ?_
     refine round_end (i + 1) (⟨by omega, hl, step_all hn hb24⟩) (by omega) ?_
     refine wk_of (id) (fun _ => false) (fun _ => false) ?_ ?_ rfl (Nat.zero_le _) (fun k hk => absurd hk (Nat.not_lt_zero _))
     · simp [hG, List.getD_cons_zero, List.getD_cons_succ, -List.getD_eq_getElem?_getD]
     · simp [hG, List.getD_cons_zero, List.getD_cons_succ, -List.getD_eq_getElem?_getD]
   ·
    try simp [-List.getD_eq_getElem?_getD] at hb14
    refine awpS_exit ?_
    refine thenQ_exit (thenQ_exit ?_)
    refine blockQ_exit (thenQ_norm ?_)
    refine awpS_seq ?_
    refine awpS_reg T_ok fun K hK => ?_
    simp [hG, List.getD_cons_zero, List.getD_cons_succ, -List.getD_eq_getElem?_getD]
    refine hK _ ?_
    clear K hK
    refine awpS_ret ?_
    refine RetOK_of ?_
    simp [hG, List.getD_cons_zero, List.getD_cons_succ, -List.getD_eq_getElem?_getD]
    exact ents_ext hl fun j hj => hn j (by omega)

set_option maxRecDepth 100000 in
theorem sameD_c (a b : Dec) (ha : a.ents.length ≤ 1000000) : PC Try.prog 15 [.agg 6 (decF a), .agg 6 (decF b)] (.bool (decide (a = b))) := by
 refine PC_introS T_ok Try.func15 rfl (by simp [Try.ntmps15]) fun G hG hR => ?_
 simp only [Try.ntmps15, Try.results15] at hG ⊢
 simp only [argEnv, Nat.zero_add, Nat.reduceAdd]
 refine awpS_seq ?_
 refine awpS_reg T_ok fun K hK => ?_
 simp [hG, List.getD_cons_zero, List.getD_cons_succ, -List.getD_eq_getElem?_getD, pureOp]
 refine ⟨Cond.mk (by simp [-List.getD_eq_getElem?_getD]), hK _ ?_⟩
 clear K hK
 refine awpS_seq ?_
 refine awpS_seq ?_
 refine awpS_reg T_ok fun K hK => ?_
 simp [hG, List.getD_cons_zero, List.getD_cons_succ, -List.getD_eq_getElem?_getD, pureOp]
 refine hK _ ?_
 clear K hK
 refine awpS_cond rfl (fun hb47 => ?_) (fun hb47 => ?_)
 ·
  try simp [-List.getD_eq_getElem?_getD] at hb47
  refine awpS_seq ?_
  refine awpS_reg T_ok fun K hK => ?_
  simp [hG, List.getD_cons_zero, List.getD_cons_succ, -List.getD_eq_getElem?_getD, pureOp]
  refine hK _ ?_
  clear K hK
  refine awpS_ret ?_
  refine RetOK_of ?_
  simp [hG, List.getD_cons_zero, List.getD_cons_succ, -List.getD_eq_getElem?_getD, pureOp]
  rintro rfl; simp at hb47
 ·
  try simp [-List.getD_eq_getElem?_getD] at hb47
  refine awpS_skip ?_
  refine awpS_seq ?_
  refine awpS_seq ?_
  refine awpS_reg T_ok fun K hK => ?_
  simp [hG, List.getD_cons_zero, List.getD_cons_succ, -List.getD_eq_getElem?_getD, pureOp]
  refine hK _ ?_
  clear K hK
  refine awpS_block ?_
  refine awpS_loop (α := Nat) (fun i => ⟨[(2, .ptr (0, 0) 0 0), (3, .ptr (1, 0) 0 0), (5, .int .i64 (i : Nat))], [(0, .one (.arr 1 6 (fun _ => decF a))), (1, .one (.arr 1 6 (fun _ => decF b)))], 2⟩) (fun i => i ≤ a.ents.length ∧ (((((a.letters = b.letters ∧ a.block = b.block) ∧ a.inputs = b.inputs) ∧ a.past = b.past) ∧ a.future = b.future) ∧ a.ents.length = b.ents.length) ∧ ∀ j, j < i → (a.ents.getD j den).win = (b.ents.getD j den).win ∧ (a.ents.getD j den).inp = (b.ents.getD j den).inp) (fun i => a.ents.length - i) (0) (⟨Nat.zero_le _, ⟨hb47.1, by have := hb47.2; omega⟩, fun j hj => absurd hj (Nat.not_lt_zero _)⟩) ?_ ?_
  ·
   refine wk_of (id) (fun _ => false) (fun _ => false) ?_ ?_ rfl (Nat.zero_le _) (fun k hk => absurd hk (Nat.not_lt_zero _))
   · simp [hG, List.getD_cons_zero, List.getD_cons_succ, -List.getD_eq_getElem?_getD, pureOp]
   · simp [hG, List.getD_cons_zero, List.getD_cons_succ, -List.getD_eq_getElem?_getD, pureOp]
  ·
   rintro i ⟨hi, hl, hn⟩
   refine awpS_seq ?_
   refine awpS_seq ?_
   refine awpS_reg T_ok fun K hK => ?_
   simp [hG, List.getD_cons_zero, List.getD_cons_succ, -List.getD_eq_getElem?_getD, pureOp]
   refine hK _ ?_
   clear K hK
   refine awpS_cond rfl (fun hb52 => ?_) (fun hb52 => ?_)
   ·
    try simp [-List.getD_eq_getElem?_getD] at hb52
    refine awpS_skip ?_
    refine awpS_seq ?_
    refine awpS_block ?_
    refine awpS_seq ?_
    refine awpS_draw hR mixed [] ⟨[], [], []⟩ fun mu0 => ?_
    refine awpA_tk T_ok [0, 1, 2, 3, 4, 5, 6, 7, 8, 9, 10] [] (fuel := 0) [10, 9, 8, 7, 6, 5, 4, 3, 2, 1, 0] (by decide +kernel) (by decide +kernel) rfl rfl fun K hK => ?_
    simp [hG, List.getD_cons_zero, List.getD_cons_succ, -List.getD_eq_getElem?_getD, pureOp]
    refine ⟨Cond.mk (by omega), hK _ ?_⟩
    clear K hK
    refine awpA_done (by decide +kernel) ?_
    refine awpS_cond rfl (fun hb65 => ?_) (fun hb65 => ?_)
    ·
     try simp [-List.getD_eq_getElem?_getD] at hb65
     refine awpS_seq ?_
     refine awpS_reg T_ok fun K hK => ?_
     simp [hG, List.getD_cons_zero, List.getD_cons_succ, -List.getD_eq_getElem?_getD, pureOp]
     refine hK _ ?_
     clear K hK
     refine awpS_ret ?_
     refine blockQ_ret (thenQ_ret ?_)
     refine thenQ_ret (thenQ_ret ?_)
     refine blockQ_ret (thenQ_ret ?_)
     refine RetOK_of ?_
     simp [hG, List.getD_cons_zero, List.getD_cons_succ, -List.getD_eq_getElem?_getD, pureOp]
     rintro rfl; simp at hb65
    ·
     try simp [-List.getD_eq_getElem?_getD] at hb65
     refine awpS_skip ?_
     refine awpS_nil ?_
     refine blockQ_norm (thenQ_norm ?_)
     refine awpS_reg T_ok fun K hK => ?_
     simp [hG, List.getD_cons_zero, List.getD_cons_succ, -List.getD_eq_getElem?_getD, pureOp]
     refine ⟨Cond.mk (by omega), hK _ ?_⟩
     clear K hK
     refine awpS_nil ?_
     refine round_end (i + 1) (⟨by omega, hl, step_all hn (by simpa using hb65)⟩) (by omega) ?_
     refine wk_of (id) (fun _ => false) (fun _ => false) ?_ ?_ rfl (Nat.zero_le _) (fun k hk => absurd hk (Nat.not_lt_zero _))
     · simp [hG, List.getD_cons_zero, List.getD_cons_succ, -List.getD_eq_getElem?_getD, pureOp]
     · simp [hG, List.getD_cons_zero, List.getD_cons_succ, -List.getD_eq_getElem?_getD, pureOp]
   ·
    try simp [-List.getD_eq_getElem?_getD] at hb52
    refine awpS_exit ?_
    refine thenQ_exit (thenQ_exit ?_)
    refine blockQ_exit (thenQ_norm ?_)
    refine awpS_seq ?_
    refine awpS_reg T_ok fun K hK => ?_
    simp [hG, List.getD_cons_zero, List.getD_cons_succ, -List.getD_eq_getElem?_getD, pureOp]
    refine hK _ ?_
    clear K hK
    refine awpS_ret ?_
    refine RetOK_of ?_
    simp [hG, List.getD_cons_zero, List.getD_cons_succ, -List.getD_eq_getElem?_getD, pureOp]
    exact dec_ext hl.1 (ents_ext hl.2 fun j hj => hn j (by omega))

set_option maxRecDepth 100000 in
theorem greatD_c (d : Dec) (hl : d.ents.length ≤ maxLen) : PC Try.prog 16 [.agg 6 (decF d)] (.bool (grD d)) := by
 have hML : maxLen = 9223372036854775807 := by decide
 refine PC_introS T_ok Try.func16 rfl (by simp [Try.ntmps16]) fun G hG hR => ?_
 simp only [Try.ntmps16, Try.results16] at hG ⊢
 simp only [argEnv, Nat.zero_add, Nat.reduceAdd]
 refine awpS_seq ?_
 refine awpS_reg T_ok fun K hK => ?_
 simp [hG, List.getD_cons_zero, List.getD_cons_succ, -List.getD_eq_getElem?_getD, pureOp]
 refine ⟨Cond.mk (by exact trivial), hK _ ?_⟩
 clear K hK
 refine awpS_seq ?_
 refine awpS_reg T_ok fun K hK => ?_
 simp [hG, List.getD_cons_zero, List.getD_cons_succ, -List.getD_eq_getElem?_getD, pureOp]
 refine hK _ ?_
 clear K hK
 refine awpS_seq ?_
 refine awpS_seq ?_
 refine awpS_reg T_ok fun K hK => ?_
 simp [hG, List.getD_cons_zero, List.getD_cons_succ, -List.getD_eq_getElem?_getD, pureOp]
 refine hK _ ?_
 clear K hK
 refine awpS_block ?_
 refine awpS_loop (α := Nat) (fun i => ⟨[(1, .ptr (0, 0) 0 0), (3, .int .i64 (sumW d.ents i)), (4, .int .i64 (i : Nat))], [(0, .one (.arr 1 6 (fun _ => decF d)))], 1⟩) (fun i => i ≤ d.ents.length ∧ ∀ j, j < i → decide (40 < (d.ents.getD j den).win.length) = false) (fun i => d.ents.length - i) (0) (⟨Nat.zero_le _, fun j hj => absurd hj (Nat.not_lt_zero _)⟩) ?_ ?_
 ·
  refine wk_of (id) (fun _ => false) (fun _ => false) ?_ ?_ rfl (Nat.zero_le _) (fun k hk => absurd hk (Nat.not_lt_zero _))
  · simp [hG, List.getD_cons_zero, List.getD_cons_succ, -List.getD_eq_getElem?_getD]; rfl
  · simp [hG, List.getD_cons_zero, List.getD_cons_succ, -List.getD_eq_getElem?_getD, pureOp]
 ·
  rintro i ⟨hi, hn⟩
  refine awpS_seq ?_
  refine awpS_seq ?_
  refine awpS_reg T_ok fun K hK => ?_
  simp [hG, List.getD_cons_zero, List.getD_cons_succ, -List.getD_eq_getElem?_getD, pureOp]
  refine hK _ ?_
  clear K hK
  refine awpS_cond rfl (fun hb9 => ?_) (fun hb9 => ?_)
  ·
   try simp [-List.getD_eq_getElem?_getD] at hb9
   have hil : i < d.ents.length := (by omega)
   refine awpS_skip ?_
   refine awpS_seq ?_
   refine awpS_block ?_
   refine awpS_seq ?_
   refine awpS_regL ?_
   refine awpL_reg T_ok 8 fun K hK => ?_
   simp [hG, List.getD_cons_zero, List.getD_cons_succ, -List.getD_eq_getElem?_getD, pureOp]
   refine ⟨Cond.mk (by omega), hK _ ?_⟩
   clear K hK
   refine awpL_wadd rfl rfl rfl rfl ⟨trivial, trivial⟩ fun K hK => ?_
   simp [hG, List.getD_cons_zero, List.getD_cons_succ, -List.getD_eq_getElem?_getD, pureOp]
   refine hK _ ?_
   clear K hK
   refine awpL_reg T_ok 1 fun K hK => ?_
   simp [hG, List.getD_cons_zero, List.getD_cons_succ, -List.getD_eq_getElem?_getD, pureOp]
   refine hK _ ?_
   clear K hK
   refine awpL_nil ?_
   refine awpS_seq ?_
   refine awpS_reg T_ok fun K hK => ?_
   simp [hG, List.getD_cons_zero, List.getD_cons_succ, -List.getD_eq_getElem?_getD, pureOp]
   refine ⟨Cond.mk (by omega), hK _ ?_⟩
   clear K hK
   refine awpS_cond rfl (fun hb28 => ?_) (fun hb28 => ?_)
   ·
    try simp [-List.getD_eq_getElem?_getD] at hb28
    refine awpS_seq ?_
    refine awpS_reg T_ok fun K hK => ?_
    simp [hG, List.getD_cons_zero, List.getD_cons_succ, -List.getD_eq_getElem?_getD, pureOp]
    refine hK _ ?_
    clear K hK
    refine awpS_ret ?_
    refine blockQ_ret (thenQ_ret ?_)
    refine thenQ_ret (thenQ_ret ?_)
    refine blockQ_ret (thenQ_ret ?_)
    refine RetOK_of ?_
    simp [hG, List.getD_cons_zero, List.getD_cons_succ, -List.getD_eq_getElem?_getD, pureOp]
    unfold grD; rw [any_yes (d := den) hil (decide_eq_true (by omega))]; rfl
   ·
    try simp [-List.getD_eq_getElem?_getD] at hb28
    refine awpS_skip ?_
    refine awpS_nil ?_
    refine blockQ_norm (thenQ_norm ?_)
    refine awpS_reg T_ok fun K hK => ?_
    simp [hG, List.getD_cons_zero, List.getD_cons_succ, -List.getD_eq_getElem?_getD, pureOp]
    refine ⟨Cond.mk (by omega), hK _ ?_⟩
    clear K hK
    refine awpS_nil ?_
    refine round_end (i + 1) (⟨by omega, step_all hn (decide_eq_false (by omega))⟩) (by omega) ?_
    refine wk_of (id) (fun _ => false) (fun _ => false) ?_ ?_ rfl (Nat.zero_le _) (fun k hk => absurd hk (Nat.not_lt_zero _))
    · simp [hG, List.getD_cons_zero, List.getD_cons_succ, -List.getD_eq_getElem?_getD]; rfl
    · simp [hG, List.getD_cons_zero, List.getD_cons_succ, -List.getD_eq_getElem?_getD, pureOp]
  ·
   try simp [-List.getD_eq_getElem?_getD] at hb9
   obtain rfl : i = d.ents.length := (by omega)
   refine awpS_exit ?_
   refine thenQ_exit (thenQ_exit ?_)
   refine blockQ_exit (thenQ_norm ?_)
   refine awpS_seq ?_
   refine awpS_reg T_ok fun K hK => ?_
   simp [hG, List.getD_cons_zero, List.getD_cons_succ, -List.getD_eq_getElem?_getD, pureOp]
   refine ⟨Cond.mk (by omega), hK _ ?_⟩
   clear K hK
   refine awpS_ret ?_
   refine RetOK_of ?_
   simp [hG, List.getD_cons_zero, List.getD_cons_succ, -List.getD_eq_getElem?_getD, pureOp]
   unfold grD; rw [any_no (d := den) hn, Bool.false_or, Bool.eq_iff_iff]; simp only [Bool.or_eq_true, Bool.and_eq_true, decide_eq_true_eq]; constructor; (rintro (⟨h1, h2⟩ | h1); exact .inl ⟨by omega, h2.imp (fun h => by omega) id⟩; exact .inr (by omega)); (rintro (⟨h1, h2⟩ | h1); exact .inl ⟨by omega, h2.imp (fun h => by omega) id⟩; exact .inr (by omega))

set_option maxRecDepth 100000 in
theorem greatEn_c (e : Enc) (hl : e.rows.length ≤ maxLen) (hw : ∀ r ∈ e.rows, r.length ≤ maxLen) : PC Try.prog 25 [.agg 4 (encF e)] (.bool (grEnc e)) := by
 have hML : maxLen = 9223372036854775807 := by decide
 refine PC_introS T_ok Try.func25 rfl (by simp [Try.ntmps25]) fun G hG hR => ?_
 simp only [Try.ntmps25, Try.results25] at hG ⊢
 simp only [argEnv, Nat.zero_add, Nat.reduceAdd]
 refine awpS_seq ?_
 refine awpS_reg T_ok fun K hK => ?_
 simp [hG, List.getD_cons_zero, List.getD_cons_succ, -List.getD_eq_getElem?_getD, pureOp]
 refine ⟨Cond.mk (by exact trivial), hK _ ?_⟩
 clear K hK
 refine awpS_seq ?_
 refine awpS_seq ?_
 refine awpS_reg T_ok fun K hK => ?_
 simp [hG, List.getD_cons_zero, List.getD_cons_succ, -List.getD_eq_getElem?_getD, pureOp]
 refine hK _ ?_
 clear K hK
 refine awpS_block ?_
 refine awpS_loop (α := Nat) (fun i => ⟨[(1, .ptr (0, 0) 0 0), (3, .int .i64 (i : Nat))], [(0, .one (.arr 1 4 (fun _ => encF e)))], 1⟩) (fun i => i ≤ e.rows.length ∧ ∀ j, j < i → rowGr (e.rows.getD j []) = false) (fun i => e.rows.length - i) (0) (⟨Nat.zero_le _, fun j hj => absurd hj (Nat.not_lt_zero _)⟩) ?_ ?_
 ·
  refine wk_of (id) (fun _ => false) (fun _ => false) ?_ ?_ rfl (Nat.zero_le _) (fun k hk => absurd hk (Nat.not_lt_zero _))
  · simp [hG, List.getD_cons_zero, List.getD_cons_succ, -List.getD_eq_getElem?_getD, pureOp]
  · simp [hG, List.getD_cons_zero, List.getD_cons_succ, -List.getD_eq_getElem?_getD, pureOp]
 ·
  rintro i ⟨hi, hn⟩
  refine awpS_seq ?_
  refine awpS_seq ?_
  refine awpS_reg T_ok fun K hK => ?_
  simp [hG, List.getD_cons_zero, List.getD_cons_succ, -List.getD_eq_getElem?_getD, pureOp]
  refine hK _ ?_
  clear K hK
  refine awpS_cond rfl (fun hb9 => ?_) (fun hb9 => ?_)
  ·
   try simp [-List.getD_eq_getElem?_getD] at hb9
   have hil : i < e.rows.length := (by omega)
   have hri := hw _ (getD_mem (d := []) hil)
   refine awpS_skip ?_
   refine awpS_seq ?_
   refine awpS_block ?_
   refine awpS_seq ?_
   refine awpS_seq ?_
   refine awpS_reg T_ok fun K hK => ?_
   simp [hG, List.getD_cons_zero, List.getD_cons_succ, -List.getD_eq_getElem?_getD, pureOp]
   refine ⟨Cond.mk (by omega), hK _ ?_⟩
   clear K hK
   refine awpS_cond rfl (fun hb18 => ?_) (fun hb18 => ?_)
   ·
    try simp [-List.getD_eq_getElem?_getD] at hb18
    refine awpS_seq ?_
    refine awpS_reg T_ok fun K hK => ?_
    simp [hG, List.getD_cons_zero, List.getD_cons_succ, -List.getD_eq_getElem?_getD, pureOp]
    refine hK _ ?_
    clear K hK
    refine awpS_ret ?_
    refine blockQ_ret (thenQ_ret ?_)
    refine thenQ_ret (thenQ_ret ?_)
    refine blockQ_ret (thenQ_ret ?_)
    refine RetOK_of ?_
    simp [hG, List.getD_cons_zero, List.getD_cons_succ, -List.getD_eq_getElem?_getD, pureOp]
    unfold grEnc; rw [any_yes (d := []) hil (by unfold rowGr; rw [decide_eq_true (by omega)]; rfl)]; rfl
   ·
    try simp [-List.getD_eq_getElem?_getD] at hb18
    refine awpS_skip ?_
    refine awpS_seq ?_
    refine awpS_reg T_ok fun K hK => ?_
    simp [hG, List.getD_cons_zero, List.getD_cons_succ, -List.getD_eq_getElem?_getD, pureOp]
    refine hK _ ?_
    clear K hK
    refine awpS_block ?_
    refine awpS_loop (α := Nat) (fun k => ⟨[(1, .ptr (0, 0) 0 0), (3, .int .i64 (i : Nat)), (4, .int .i64 (k : Nat))], [(0, .one (.arr 1 4 (fun _ => encF e)))], 1⟩) (fun k => k ≤ (e.rows.getD i []).length ∧ ∀ j, j < k → decide (20 < ((e.rows.getD i []).getD j dc).word.length) = false) (fun k => (e.rows.getD i []).length - k) (0) (⟨Nat.zero_le _, fun j hj => absurd hj (Nat.not_lt_zero _)⟩) ?_ ?_
    ·
     refine wk_of (id) (fun _ => false) (fun _ => false) ?_ ?_ rfl (Nat.zero_le _) (fun k hk => absurd hk (Nat.not_lt_zero _))
     · simp [hG, List.getD_cons_zero, List.getD_cons_succ, -List.getD_eq_getElem?_getD, pureOp]
     · simp [hG, List.getD_cons_zero, List.getD_cons_succ, -List.getD_eq_getElem?_getD, pureOp]
    ·
     rintro k ⟨hk, hm⟩
     refine awpS_seq ?_
     refine awpS_seq ?_
     refine awpS_reg T_ok fun K hK => ?_
     simp [hG, List.getD_cons_zero, List.getD_cons_succ, -List.getD_eq_getElem?_getD, pureOp]
     refine ⟨Cond.mk (by omega), hK _ ?_⟩
     clear K hK
     refine awpS_cond rfl (fun hb26 => ?_) (fun hb26 => ?_)
     ·
      try simp [-List.getD_eq_getElem?_getD] at hb26
      have hkl : k < (e.rows.getD i []).length := (by omega)
      refine awpS_skip ?_
      refine awpS_seq ?_
      refine awpS_block ?_
      refine awpS_seq ?_
      refine awpS_reg T_ok fun K hK => ?_
      simp [hG, List.getD_cons_zero, List.getD_cons_succ, -List.getD_eq_getElem?_getD, pureOp]
      refine ⟨Cond.mk (by omega), hK _ ?_⟩
      clear K hK
      refine awpS_cond rfl (fun hb39 => ?_) (fun hb39 => ?_)
      ·
       try simp [-List.getD_eq_getElem?_getD] at hb39
       refine awpS_seq ?_
       refine awpS_reg T_ok fun K hK => ?_
       simp [hG, List.getD_cons_zero, List.getD_cons_succ, -List.getD_eq_getElem?_getD, pureOp]
       refine hK _ ?_
       clear K hK
       refine awpS_ret ?_
       refine blockQ_ret (thenQ_ret ?_)
       refine thenQ_ret (thenQ_ret ?_)
       refine blockQ_ret (thenQ_ret ?_)
       refine blockQ_ret (thenQ_ret ?_)
       refine thenQ_ret (thenQ_ret ?_)
       refine blockQ_ret (thenQ_ret ?_)
       refine RetOK_of ?_
       simp [hG, List.getD_cons_zero, List.getD_cons_succ, -List.getD_eq_getElem?_getD, pureOp]
       unfold grEnc; rw [any_yes (d := []) hil (by unfold rowGr; rw [any_yes (d := dc) hkl (decide_eq_true (by omega)), Bool.or_true])]; rfl
      ·
       try simp [-List.getD_eq_getElem?_getD] at hb39
       refine awpS_skip ?_
       refine awpS_nil ?_
       refine blockQ_norm (thenQ_norm ?_)
       refine awpS_reg T_ok fun K hK => ?_
       simp [hG, List.getD_cons_zero, List.getD_cons_succ, -List.getD_eq_getElem?_getD, pureOp]
       refine ⟨Cond.mk (by omega), hK _ ?_⟩
       clear K hK
       refine awpS_nil ?_
       refine round_end (k + 1) (⟨by omega, step_all hm (decide_eq_false (by omega))⟩) (by omega) ?_
       refine wk_of (id) (fun _ => false) (fun _ => false) ?_ ?_ rfl (Nat.zero_le _) (fun k hk => absurd hk (Nat.not_lt_zero _))
       · simp [hG, List.getD_cons_zero, List.getD_cons_succ, -List.getD_eq_getElem?_getD, pureOp]
       · simp [hG, List.getD_cons_zero, List.getD_cons_succ, -List.getD_eq_getElem?_getD, pureOp]
     ·
      try simp [-List.getD_eq_getElem?_getD] at hb26
      obtain rfl : k = (e.rows.getD i []).length := (by omega)
      refine awpS_exit ?_
      refine thenQ_exit (thenQ_exit ?_)
      refine blockQ_exit (thenQ_norm ?_)
      refine awpS_nil ?_
      refine blockQ_norm (thenQ_norm ?_)
      refine awpS_reg T_ok fun K hK => ?_
      simp [hG, List.getD_cons_zero, List.getD_cons_succ, -List.getD_eq_getElem?_getD, pureOp]
      refine ⟨Cond.mk (by omega), hK _ ?_⟩
      clear K hK
      refine awpS_nil ?_
      refine round_end (i + 1) (⟨by omega, step_all hn (by unfold rowGr; rw [any_no (d := dc) hm, decide_eq_false (by omega)]; rfl)⟩) (by omega) ?_
      refine wk_of (id) (fun _ => false) (fun _ => false) ?_ ?_ rfl (Nat.zero_le _) (fun k hk => absurd hk (Nat.not_lt_zero _))
      · simp [hG, List.getD_cons_zero, List.getD_cons_succ, -List.getD_eq_getElem?_getD, pureOp]
      · simp [hG, List.getD_cons_zero, List.getD_cons_succ, -List.getD_eq_getElem?_getD, pureOp]
  ·
   try simp [-List.getD_eq_getElem?_getD] at hb9
   obtain rfl : i = e.rows.length := (by omega)
   refine awpS_exit ?_
   refine thenQ_exit (thenQ_exit ?_)
   refine blockQ_exit (thenQ_norm ?_)
   refine awpS_seq ?_
   refine awpS_reg T_ok fun K hK => ?_
   simp [hG, List.getD_cons_zero, List.getD_cons_succ, -List.getD_eq_getElem?_getD, pureOp]
   refine ⟨Cond.mk (by omega), hK _ ?_⟩
   clear K hK
   refine awpS_ret ?_
   refine RetOK_of ?_
   simp [hG, List.getD_cons_zero, List.getD_cons_succ, -List.getD_eq_getElem?_getD, pureOp]
   unfold grEnc; rw [any_no (d := []) hn, Bool.false_or, Bool.eq_iff_iff]; simp only [Bool.or_eq_true, Bool.and_eq_true, decide_eq_true_eq]; omega

set_option maxRecDepth 100000 in
theorem smallW_c (p f : Int) : PC Try.prog 26 [.int .i64 p, .int .i64 f] (.bool (smallB p f)) := by
 refine PC_introS T_ok Try.func26 rfl (by simp [Try.ntmps26]) fun G hG hR => ?_
 simp only [Try.ntmps26, Try.results26] at hG ⊢
 simp only [argEnv, Nat.zero_add, Nat.reduceAdd]
 refine awpS_seq ?_
 refine awpS_reg T_ok fun K hK => ?_
 simp [hG, List.getD_cons_zero, List.getD_cons_succ, -List.getD_eq_getElem?_getD, pureOp]
 refine hK _ ?_
 clear K hK
 refine awpS_seq ?_
 refine awpS_reg T_ok fun K hK => ?_
 simp [hG, List.getD_cons_zero, List.getD_cons_succ, -List.getD_eq_getElem?_getD, pureOp]
 refine ⟨Cond.mk (by omega), hK _ ?_⟩
 clear K hK
 refine awpS_ret ?_
 refine RetOK_of ?_
 simp [hG, List.getD_cons_zero, List.getD_cons_succ, -List.getD_eq_getElem?_getD, pureOp]
 unfold smallB; rw [Bool.eq_iff_iff]; simp only [Bool.or_eq_true, decide_eq_true_eq]; omega

set_option maxRecDepth 100000 in
theorem fineWn_c (e : Enc) (hl : e.rows.length ≤ maxLen) (hw : ∀ r ∈ e.rows, r.length ≤ maxLen) : PC Try.prog 11 [.agg 4 (encF e)] (.bool (fineW e)) := by
 refine PC_introS T_ok Try.func11 rfl (by simp [Try.ntmps11]) fun G hG hR => ?_
 simp only [Try.ntmps11, Try.results11] at hG ⊢
 simp only [argEnv, Nat.zero_add, Nat.reduceAdd]
 refine awpS_seq ?_
 refine awpS_reg T_ok fun K hK => ?_
 simp [hG, List.getD_cons_zero, List.getD_cons_succ, -List.getD_eq_getElem?_getD, pureOp]
 refine ⟨Cond.mk (by exact trivial), hK _ ?_⟩
 clear K hK
 refine awpS_seq ?_
 refine awpS_regL ?_
 refine awpL_reg T_ok 1 fun K hK => ?_
 simp [hG, List.getD_cons_zero, List.getD_cons_succ, -List.getD_eq_getElem?_getD, pureOp]
 refine hK _ ?_
 clear K hK
 refine awpL_call cal25 rfl rfl (fun _ => rfl) (fun hg => greatEn_c e hl hw) (fun hg => ?_) (fun hg => ?_) fun K hK => ?_
 · simp [hG, List.getD_cons_zero, List.getD_cons_succ, -List.getD_eq_getElem?_getD, pureOp]
 · simp [hG, List.getD_cons_zero, List.getD_cons_succ, -List.getD_eq_getElem?_getD, pureOp]
 simp [hG, List.getD_cons_zero, List.getD_cons_succ, -List.getD_eq_getElem?_getD, pureOp]
 refine hK _ ?_
 clear K hK
 refine awpL_reg T_ok 3 fun K hK => ?_
 simp [hG, List.getD_cons_zero, List.getD_cons_succ, -List.getD_eq_getElem?_getD, pureOp]
 refine hK _ ?_
 clear K hK
 refine awpL_call cal35 rfl rfl (fun _ => rfl) (fun hg => checkR_c e) (fun hg => ?_) (fun hg => ?_) fun K hK => ?_
 · first | (simp [hG, List.getD_cons_zero, List.getD_cons_succ, -List.getD_eq_getElem?_getD, pureOp]; done) | (simp [-List.getD_eq_getElem?_getD] at hg; done) | (simp [-List.getD_eq_getElem?_getD] at hg; simp [hG, List.getD_cons_zero, List.getD_cons_succ, -List.getD_eq_getElem?_getD, pureOp]; first | omega | exact hg | (simp_all [-List.getD_eq_getElem?_getD]; done) | (simp_all [-List.getD_eq_getElem?_getD]; first | exact ⟨rfl, rfl⟩ | exact rfl))
 · first | (simp [hG, List.getD_cons_zero, List.getD_cons_succ, -List.getD_eq_getElem?_getD, pureOp]; done) | (simp [-List.getD_eq_getElem?_getD] at hg; done) | (simp [-List.getD_eq_getElem?_getD] at hg; simp [hG, List.getD_cons_zero, List.getD_cons_succ, -List.getD_eq_getElem?_getD, pureOp]; first | omega | exact hg | (simp_all [-List.getD_eq_getElem?_getD]; done) | (simp_all [-List.getD_eq_getElem?_getD]; first | exact ⟨rfl, rfl⟩ | exact rfl))
 simp [hG, List.getD_cons_zero, List.getD_cons_succ, -List.getD_eq_getElem?_getD, pureOp]
 refine hK _ ?_
 clear K hK
 refine awpL_reg T_ok 3 fun K hK => ?_
 simp [hG, List.getD_cons_zero, List.getD_cons_succ, -List.getD_eq_getElem?_getD, pureOp]
 refine hK _ ?_
 clear K hK
 refine awpL_nil ?_
 refine awpS_ret ?_
 refine RetOK_of ?_
 simp [hG, List.getD_cons_zero, List.getD_cons_succ, -List.getD_eq_getElem?_getD, pureOp]
 rfl

end Go.Proofs.Ytmdnpbilnelogaa
