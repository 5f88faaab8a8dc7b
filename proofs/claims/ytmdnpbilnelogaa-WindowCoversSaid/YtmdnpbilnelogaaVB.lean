/-
  Walks: strings.Builder's WriteString in the writer, Encode.
-/
import Derived.Test.YtmdnpbilnelogaaBL
import Derived.Test.YtmdnpbilnelogaaVA
namespace Go.Proofs.Ytmdnpbilnelogaa
set_option linter.unusedSimpArgs false
set_option linter.unusedVariables false
open Go Go.Lift Go.Proofs

@[simp] theorem VLe_fn2 {h : Heap} {σ : Lift.Id → Lift.Id} {fz : Nat → Bool} {vz : Lift.Id → Bool} {nx l : Nat} {f f' : Nat → AVal} : VLe h σ fz vz nx (.fn l 2 f) (.fn l 2 f') = (VLe h σ fz vz nx (f 0) (f' 0) ∧ VLe h σ fz vz nx (f 1) (f' 1)) := by
  apply propext
  constructor
  · rintro ⟨_, _, h⟩
    exact ⟨h 0 (by omega), h 1 (by omega)⟩
  · rintro ⟨h0, h1⟩
    refine ⟨rfl, rfl, fun j hj => ?_⟩
    match j, hj with
    | 0, _ => exact h0
    | 1, _ => exact h1
theorem app_last {F : Nat → Int} {s i : Nat} {c : Int} {w : Nat → Nat → AVal} (hi : i < s + 1) (h : F s = c) : app (fun j _ => .int .i64 (F j)) s (fun i j => if i = 0 ∧ j = 0 then .int .i64 c else w i j) i 0 = .int .i64 (F i) := by
  unfold app
  by_cases e : i < s
  · rw [if_pos e]
  · obtain rfl : i = s := by omega
    rw [if_neg e, Nat.sub_self, h]; rfl
/-- where an element is of which q holds. -/
def placeG {α : Type} (l : List α) (q : α → Bool) : Int := if l.any q then (l.findIdx q : Nat) else -1
theorem placeG_at {α : Type} {d : α} {l : List α} {q : α → Bool} {i : Nat} (hi : i < l.length) (hq : q (l.getD i d) = true) (hn : ∀ j, j < i → q (l.getD j d) = false) : placeG l q = i := by
  unfold placeG
  rw [if_pos (List.any_eq_true.2 ⟨l[i], List.getElem_mem hi, by rw [← getD_get (d := d)]; exact hq⟩)]
  have : l.findIdx q = i := (List.findIdx_eq hi).2 ⟨by rw [← getD_get (d := d)]; exact hq, fun j hj => by rw [← getD_get (d := d)]; exact hn j hj⟩
  rw [this]
theorem placeG_none {α : Type} {d : α} {l : List α} {q : α → Bool} (hn : ∀ j, j < l.length → q (l.getD j d) = false) : placeG l q = -1 := by
  unfold placeG
  rw [if_neg]
  intro h
  obtain ⟨x, hx, hq⟩ := List.any_eq_true.1 h
  obtain ⟨j, hj, rfl⟩ := List.mem_iff_getElem.1 hx
  have := hn j hj
  rw [getD_get hj] at this
  rw [this] at hq; cases hq
theorem placeG_any {α : Type} {l : List α} {q : α → Bool} : decide (0 ≤ placeG l q) = l.any q := by
  unfold placeG
  split
  · rename_i h; rw [h]; simp
  · rename_i h; simp only [Bool.not_eq_true] at h; rw [h]; simp

/-- the builder's own address, once something was written. -/
def selfP : Bool → AVal
  | true => .ptr (0, 0) 0 5
  | false => .nilp
@[simp] theorem selfP_true : selfP true = .ptr (0, 0) 0 5 := rfl
@[simp] theorem selfP_false : selfP false = .nilp := rfl
@[simp] theorem one_selfP {b : Bool} : (selfP b).one = true := by cases b <;> rfl
@[simp] theorem VLe_selfP {h : Heap} {σ : Lift.Id → Lift.Id} {fz : Nat → Bool} {vz : Lift.Id → Bool} {x : Nat} {b : Bool} : VLe h σ fz vz x (selfP b) (selfP b) = (b = true → VLe h σ fz vz x (.ptr (0, 0) 0 5) (.ptr (0, 0) 0 5)) := by
  cases b <;> simp [VLe]
theorem selfP_or {b : Bool} : selfP b = .nilp ∨ selfP b = .ptr (0, 0) 0 5 := by cases b <;> simp
@[simp] theorem selfF_eq {f : Nat → Nat → AVal} {off i j : Nat} : selfF f off i j = if j = off then .ptr (0, 0) 0 off else f i j := rfl
/-- the writer. -/
def wF (e : Enc) (st : Int) (b u : AVal) (j : Nat) : AVal := [encF e 0, encF e 1, encF e 2, encF e 3, .int .i64 st, b, u].getD j .any
section
variable {e : Enc} {st : Int} {b u : AVal}
@[simp] theorem wF0 : wF e st b u 0 = .int .i64 e.letters := rfl
@[simp] theorem wF1 : wF e st b u 1 = .int .i64 e.block := rfl
@[simp] theorem wF2 : wF e st b u 2 = .int .i64 e.inputs := rfl
@[simp] theorem wF3 : wF e st b u 3 = rowsC e.rows := rfl
@[simp] theorem wF4 : wF e st b u 4 = .int .i64 st := rfl
@[simp] theorem wF5 : wF e st b u 5 = b := rfl
@[simp] theorem wF6 : wF e st b u 6 = u := rfl
end
/-- was anything written? -/
def posB (k : Nat) : Bool := decide (0 < k)
@[simp] theorem posB_zero : posB 0 = false := rfl
@[simp] theorem posB_succ {k : Nat} : posB (k + 1) = true := by simp [posB]
theorem posB_no {k : Nat} (h : posB k = false) : k = 0 := by simpa [posB] using h
theorem posB_yes {k : Nat} (h : posB k = true) : 0 < k := by simpa [posB] using h
/-- the buffer: nil until something is written. -/
def bufA (b : Bool) (p m : Nat) : AVal := match b with
  | true => .sl (p, 0) 0 m
  | false => .nils
@[simp] theorem bufA_true {p m : Nat} : bufA true p m = .sl (p, 0) 0 m := rfl
@[simp] theorem bufA_false {p m : Nat} : bufA false p m = .nils := rfl
@[simp] theorem one_bufA {b : Bool} {p m : Nat} : (bufA b p m).one = true := by cases b <;> rfl
@[simp] theorem VLe_fn1 {h : Heap} {σ : Lift.Id → Lift.Id} {fz : Nat → Bool} {vz : Lift.Id → Bool} {nx l : Nat} {f f' : Nat → AVal} : VLe h σ fz vz nx (.fn l 1 f) (.fn l 1 f') = VLe h σ fz vz nx (f 0) (f' 0) := by
  apply propext
  constructor
  · rintro ⟨_, _, h⟩
    exact h 0 (by omega)
  · intro h0
    refine ⟨rfl, rfl, fun j hj => ?_⟩
    obtain rfl : j = 0 := by omega
    exact h0
@[simp] theorem VLe_bnd {h : Heap} {σ : Lift.Id → Lift.Id} {fz : Nat → Bool} {vz : Lift.Id → Bool} {nx g g' : Nat} {v v' : AVal} : VLe h σ fz vz nx (.bnd g v) (.bnd g' v') = (g' = g ∧ VLe h σ fz vz nx v v') := rfl
def byF (w : List UInt8) (i _j : Nat) : AVal := .int .u8 (w.getD i 0).toNat
@[simp] theorem byF_eq {w : List UInt8} {i j : Nat} : byF w i j = .int .u8 (w.getD i 0).toNat := rfl
theorem app_bytes {w v : List UInt8} {i j : Nat} (h : i < w.length + v.length) : app (fun i _ => .int .u8 (w.getD i 0).toNat) w.length (fun i _ => .int .u8 (v.getD i 0).toNat) i j = .int .u8 ((w ++ v).getD i 0).toNat := by
  unfold app
  by_cases h1 : i < w.length
  · rw [if_pos h1]; simp only [List.getD_eq_getElem?_getD, List.getElem?_append_left h1]
  · rw [if_neg h1]; simp only [List.getD_eq_getElem?_getD, List.getElem?_append_right (Nat.le_of_not_lt h1)]
theorem wlies : liesAt Try.prog Try.prog.depth 91 1 5 89 1 = true := by kernel_rfl
theorem wcells : Try.prog.cellsOf 91 = 7 := by kernel_rfl
/-- the builder that stands alone. -/
def selfQ : Bool → AVal
  | true => .ptr (0, 0) 0 0
  | false => .nilp
@[simp] theorem selfQ_true : selfQ true = .ptr (0, 0) 0 0 := rfl
@[simp] theorem selfQ_false : selfQ false = .nilp := rfl
@[simp] theorem one_selfQ {b : Bool} : (selfQ b).one = true := by cases b <;> rfl
@[simp] theorem VLe_selfQ {h : Heap} {σ : Lift.Id → Lift.Id} {fz : Nat → Bool} {vz : Lift.Id → Bool} {x : Nat} {b : Bool} : VLe h σ fz vz x (selfQ b) (selfQ b) = (b = true → VLe h σ fz vz x (.ptr (0, 0) 0 0) (.ptr (0, 0) 0 0)) := by
  cases b <;> simp [VLe]
theorem selfQ_or {b : Bool} : selfQ b = .nilp ∨ selfQ b = .ptr (0, 0) 0 0 := by cases b <;> simp
def bF (b u : AVal) (j : Nat) : AVal := [b, u].getD j .any
@[simp] theorem bF0 {b u : AVal} : bF b u 0 = b := rfl
@[simp] theorem bF1 {b u : AVal} : bF b u 1 = u := rfl
theorem blies : liesAt Try.prog Try.prog.depth 89 1 0 89 1 = true := by kernel_rfl
theorem bcells : Try.prog.cellsOf 89 = 2 := by kernel_rfl
set_option maxRecDepth 100000 in
theorem indexG_c (l : List Int) (q : Int → Bool) (hfn hn : Nat) (hc : Nat → AVal) (hl : l.length ≤ 1000000) (hcal : Callable Try.prog hfn) (hclo : ∀ j, Clo (hc j)) (hp : ∀ x ∈ l, PC Try.prog hfn (.int .i64 x :: (List.range' 0 hn).map hc) (.bool (q x))) : PC Try.prog 66 [ints l, .fn hfn hn hc] (.int .i64 (placeG l q)) := by
  have hV : ∀ {h : Heap} {σ : Lift.Id → Lift.Id} {fz : Nat → Bool} {vz : Lift.Id → Bool} {nx j : Nat}, VLe h σ fz vz nx (hc j) (hc j) := fun {h σ fz vz nx j} => Clo.le _ (hclo j)
  have hV2 : ∀ {h : Heap} {σ : Lift.Id → Lift.Id} {fz : Nat → Bool} {vz : Lift.Id → Bool} {nx : Nat}, VLe h σ fz vz nx (.fn hfn hn hc) (.fn hfn hn hc) := fun {h σ fz vz nx} => Clo.le _ fun j _ => hclo j
  refine PC_introS T_ok Try.func66 rfl (by simp [Try.ntmps66]) fun G hG hR => ?_
  simp only [Try.ntmps66, Try.results66] at hG ⊢
  simp only [argEnv, Nat.zero_add, Nat.reduceAdd]
  refine awpS_seq ?_
  refine awpS_reg T_ok fun K hK => ?_
  simp [hG, List.getD_cons_zero, List.getD_cons_succ, -List.getD_eq_getElem?_getD, hV, hV2]
  refine hK _ ?_
  clear K hK
  refine awpS_seq ?_
  refine awpS_seq ?_
  refine awpS_reg T_ok fun K hK => ?_
  simp [hG, List.getD_cons_zero, List.getD_cons_succ, -List.getD_eq_getElem?_getD, hV, hV2]
  refine hK _ ?_
  clear K hK
  refine awpS_block ?_
  refine awpS_loop (α := Nat) (fun i => ⟨[(0, ints l), (1, .fn hfn hn hc), (7, .int .i64 l.length), (8, .int .i64 i)], [], 0⟩) (fun i => i ≤ l.length ∧ ∀ j, j < i → q (l.getD j 0) = false) (fun i => l.length - i) (0) (⟨Nat.zero_le _, fun j hj => absurd hj (Nat.not_lt_zero _)⟩) ?_ ?_
  ·
    refine wk_of (id) (fun _ => false) (fun _ => false) ?_ ?_ rfl (Nat.zero_le _) (fun k hk => absurd hk (Nat.not_lt_zero _))
    · simp [hG, List.getD_cons_zero, List.getD_cons_succ, -List.getD_eq_getElem?_getD, hV, hV2]
    · simp [hG, List.getD_cons_zero, List.getD_cons_succ, -List.getD_eq_getElem?_getD, hV, hV2]
  ·
    rintro i ⟨hi, hn0⟩
    refine awpS_seq ?_
    refine awpS_reg T_ok fun K hK => ?_
    simp [hG, List.getD_cons_zero, List.getD_cons_succ, -List.getD_eq_getElem?_getD, hV, hV2]
    refine hK _ ?_
    clear K hK
    refine awpS_seq ?_
    refine awpS_cond rfl (fun hb9 => ?_) (fun hb9 => ?_)
    ·
      try simp [-List.getD_eq_getElem?_getD] at hb9
      refine awpS_skip ?_
      refine awpS_seq ?_
      refine awpS_block ?_
      refine awpS_seq ?_
      refine awpS_reg T_ok fun K hK => ?_
      simp [hG, List.getD_cons_zero, List.getD_cons_succ, -List.getD_eq_getElem?_getD, hV, hV2]
      refine hK _ ?_
      clear K hK
      refine awpS_seq ?_
      refine awpS_regL ?_
      refine awpL_reg T_ok 5 fun K hK => ?_
      simp [hG, List.getD_cons_zero, List.getD_cons_succ, -List.getD_eq_getElem?_getD, hV, hV2]
      refine ⟨Cond.mk (by omega), hK _ ?_⟩
      clear K hK
      refine awpL_call hcal rfl rfl (fun _ => rfl) (fun hg => hp _ (getD_mem (d := 0) (by simpa using hb9))) (fun hg => ?_) (fun hg => ?_) fun K hK => ?_
      · simp [hG, List.getD_cons_zero, List.getD_cons_succ, -List.getD_eq_getElem?_getD, hV, hV2]
      · simp [hG, List.getD_cons_zero, List.getD_cons_succ, -List.getD_eq_getElem?_getD]; first | exact argsLe_caps fun j _ => hclo j | exact ⟨Clo.le _ Clo_ints, argsLe_caps fun j _ => hclo j⟩
      simp [hG, List.getD_cons_zero, List.getD_cons_succ, -List.getD_eq_getElem?_getD, hV, hV2]
      refine hK _ ?_
      clear K hK
      refine awpL_nil ?_
      refine awpS_cond rfl (fun hb16 => ?_) (fun hb16 => ?_)
      ·
        try simp [-List.getD_eq_getElem?_getD] at hb16
        refine awpS_seq ?_
        refine awpS_reg T_ok fun K hK => ?_
        simp [hG, List.getD_cons_zero, List.getD_cons_succ, -List.getD_eq_getElem?_getD, hV, hV2]
        refine hK _ ?_
        clear K hK
        refine awpS_ret ?_
        refine blockQ_ret (thenQ_ret ?_)
        refine thenQ_ret (thenQ_ret ?_)
        refine blockQ_ret (thenQ_ret ?_)
        refine RetOK_of ?_
        simp [hG, List.getD_cons_zero, List.getD_cons_succ, -List.getD_eq_getElem?_getD, hV, hV2]
        exact (placeG_at (by simpa using hb9) hb16 hn0).symm
      ·
        try simp [-List.getD_eq_getElem?_getD] at hb16
        refine awpS_skip ?_
        refine awpS_nil ?_
        refine blockQ_norm (thenQ_norm ?_)
        refine awpS_reg T_ok fun K hK => ?_
        simp [hG, List.getD_cons_zero, List.getD_cons_succ, -List.getD_eq_getElem?_getD, hV, hV2]
        refine ⟨Cond.mk (by omega), hK _ ?_⟩
        clear K hK
        refine awpS_nil ?_
        refine round_end (i + 1) (⟨by omega, fun j hj => (Nat.lt_succ_iff_lt_or_eq.1 hj).elim (hn0 j) fun e => by rw [e]; exact hb16⟩) (by omega) ?_
        refine wk_of (id) (fun _ => false) (fun _ => false) ?_ ?_ rfl (Nat.zero_le _) (fun k hk => absurd hk (Nat.not_lt_zero _))
        · simp [hG, List.getD_cons_zero, List.getD_cons_succ, -List.getD_eq_getElem?_getD, hV, hV2]
        · simp [hG, List.getD_cons_zero, List.getD_cons_succ, -List.getD_eq_getElem?_getD, hV, hV2]
    ·
      try simp [-List.getD_eq_getElem?_getD] at hb9
      refine awpS_exit ?_
      refine thenQ_exit (thenQ_exit ?_)
      refine blockQ_exit (thenQ_norm ?_)
      refine awpS_seq ?_
      refine awpS_reg T_ok fun K hK => ?_
      simp [hG, List.getD_cons_zero, List.getD_cons_succ, -List.getD_eq_getElem?_getD, hV, hV2]
      refine hK _ ?_
      clear K hK
      refine awpS_ret ?_
      refine RetOK_of ?_
      simp [hG, List.getD_cons_zero, List.getD_cons_succ, -List.getD_eq_getElem?_getD, hV, hV2]
      exact (placeG_none fun j hj => hn0 j (by omega)).symm

set_option maxRecDepth 100000 in
theorem containsG_c (l : List Int) (q : Int → Bool) (hfn hn : Nat) (hc : Nat → AVal) (hl : l.length ≤ 1000000) (hcal : Callable Try.prog hfn) (hclo : ∀ j, Clo (hc j)) (hp : ∀ x ∈ l, PC Try.prog hfn (.int .i64 x :: (List.range' 0 hn).map hc) (.bool (q x))) : PC Try.prog 52 [ints l, .fn hfn hn hc] (.bool (l.any q)) := by
  have hV : ∀ {h : Heap} {σ : Lift.Id → Lift.Id} {fz : Nat → Bool} {vz : Lift.Id → Bool} {nx j : Nat}, VLe h σ fz vz nx (hc j) (hc j) := fun {h σ fz vz nx j} => Clo.le _ (hclo j)
  have hV2 : ∀ {h : Heap} {σ : Lift.Id → Lift.Id} {fz : Nat → Bool} {vz : Lift.Id → Bool} {nx : Nat}, VLe h σ fz vz nx (.fn hfn hn hc) (.fn hfn hn hc) := fun {h σ fz vz nx} => Clo.le _ fun j _ => hclo j
  refine PC_introS T_ok Try.func52 rfl (by simp [Try.ntmps52]) fun G hG hR => ?_
  simp only [Try.ntmps52, Try.results52] at hG ⊢
  simp only [argEnv, Nat.zero_add, Nat.reduceAdd]
  refine awpS_seq ?_
  refine awpS_reg T_ok fun K hK => ?_
  simp [hG, List.getD_cons_zero, List.getD_cons_succ, -List.getD_eq_getElem?_getD, hV, hV2]
  refine hK _ ?_
  clear K hK
  refine awpS_seq ?_
  refine awpS_regL ?_
  refine awpL_reg T_ok 2 fun K hK => ?_
  simp [hG, List.getD_cons_zero, List.getD_cons_succ, -List.getD_eq_getElem?_getD, hV, hV2]
  refine hK _ ?_
  clear K hK
  refine awpL_call cal66 rfl rfl (fun _ => rfl) (fun hg => indexG_c l q hfn hn hc hl hcal hclo hp) (fun hg => ?_) (fun hg => ?_) fun K hK => ?_
  · simp [hG, List.getD_cons_zero, List.getD_cons_succ, -List.getD_eq_getElem?_getD, hV, hV2]
  · simp [hG, List.getD_cons_zero, List.getD_cons_succ, -List.getD_eq_getElem?_getD, hV, hV2]
  simp [hG, List.getD_cons_zero, List.getD_cons_succ, -List.getD_eq_getElem?_getD, hV, hV2]
  refine hK _ ?_
  clear K hK
  refine awpL_reg T_ok 2 fun K hK => ?_
  simp [hG, List.getD_cons_zero, List.getD_cons_succ, -List.getD_eq_getElem?_getD, hV, hV2]
  refine hK _ ?_
  clear K hK
  refine awpL_nil ?_
  refine awpS_ret ?_
  refine RetOK_of ?_
  simp [hG, List.getD_cons_zero, List.getD_cons_succ, -List.getD_eq_getElem?_getD, hV, hV2]
  rw [← placeG_any]

set_option maxRecDepth 100000 in
theorem writeW_c (e : Enc) (st : Int) (b : Bool) (w v : List UInt8) (hw : w.length + v.length ≤ 1000000) : FC1 Try.prog 67 [.ptr (0, 0) 0 5, .str v] [(0, .typ 91 (.arr 1 7 (fun _ j => wF e (st) (selfP b) (.sl (1, 0) 0 (w).length) j))), (1, .typ 5 (.arr (w).length 1 (byF (w))))] 2 (.tup 2 (fun j => [.int .i64 v.length, .any].getD j .any)) [(0, .typ 91 (.arr 1 7 (fun _ j => wF e (st) (.ptr (0, 0) 0 5) (.sl (2, 0) 0 (w ++ v).length) j))), (2, .typ 5 (.arr (w ++ v).length 1 (byF (w ++ v))))] 3 := by
  refine FC_introS T_ok Try.func67 rfl (by simp [Try.ntmps67]) fun G hG hR => ?_
  simp only [Try.ntmps67, Try.results67] at hG ⊢
  simp only [argEnv, Nat.zero_add, Nat.reduceAdd]
  refine awpS_seq ?_
  refine awpS_reg T_ok fun K hK => ?_
  simp [hG, List.getD_cons_zero, List.getD_cons_succ, -List.getD_eq_getElem?_getD]
  refine hK _ ?_
  clear K hK
  refine awpS_seq ?_
  refine awpS_regL ?_
  refine awpL_reg T_ok 1 fun K hK => ?_
  simp [hG, List.getD_cons_zero, List.getD_cons_succ, -List.getD_eq_getElem?_getD]
  refine hK _ ?_
  clear K hK
  refine awpL_fc cal80 [0, 1] (fun _ => false) (copyCheckB (hin := [(0, .typ 91 (.arr 1 7 (fun _ j => wF e (st) (selfP b) (.sl (1, 0) 0 (w).length) j))), (1, .typ 5 (.arr (w).length 1 (byF (w))))]) (nin := 2) rfl rfl wcells (by omega) wlies selfP_or) rfl rfl rfl (by simp) (.inl fun _ => rfl) ?_ ?_ ?_ fun K hK x hI hno => ?_
  · simp [hG, List.getD_cons_zero, List.getD_cons_succ, -List.getD_eq_getElem?_getD]
  · simp [hG, List.getD_cons_zero, List.getD_cons_succ, -List.getD_eq_getElem?_getD]
  · simp [hG, List.getD_cons_zero, List.getD_cons_succ, -List.getD_eq_getElem?_getD]
  simp [hG, List.getD_cons_zero, List.getD_cons_succ, -List.getD_eq_getElem?_getD]
  refine hK _ ?_
  clear K hK
  refine awpL_nil ?_
  refine awpS_seq ?_
  refine awpS_reg T_ok fun K hK => ?_
  simp [hG, List.getD_cons_zero, List.getD_cons_succ, -List.getD_eq_getElem?_getD]
  refine ⟨Cond.mk (by omega), hK _ ?_⟩
  clear K hK
  refine awpS_seq ?_
  refine awpS_reg T_ok fun K hK => ?_
  simp [hG, List.getD_cons_zero, List.getD_cons_succ, -List.getD_eq_getElem?_getD]
  refine hK _ ?_
  clear K hK
  refine awpS_ret ?_
  refine RetF_of (()) (id) (fun _ => false) (fun _ => false) trivial ?_ ?_ (by rfl) (by simp) (fun k hk => ⟨rfl, rfl⟩)
  · simp [hG, List.getD_cons_zero, List.getD_cons_succ, -List.getD_eq_getElem?_getD]
  · simp [hG, List.getD_cons_zero, List.getD_cons_succ, -List.getD_eq_getElem?_getD]; exact fun i hi => app_bytes hi

set_option maxRecDepth 100000 in
theorem put_c (e : Enc) (hv : checkE e = 0) (st i : Int) (b : Bool) (w : List UInt8) (hst : 0 ≤ st ∧ st < (e.rows.length : Int)) (hi : badI e i = false) (hw : w.length ≤ 100000) : FC1 Try.prog 54 [.ptr (0, 0) 0 0, .int .i64 i] [(0, .typ 91 (.arr 1 7 (fun _ j => wF e (st) (selfP b) (.sl (1, 0) 0 (w).length) j))), (1, .typ 5 (.arr (w).length 1 (byF (w))))] 2 (.tup 0 (fun _ => .any)) [(0, .typ 91 (.arr 1 7 (fun _ j => wF e (((e.rows.getD st.toNat []).getD i.toNat dc).to) (.ptr (0, 0) 0 5) (.sl (2, 0) 0 (w ++ ((e.rows.getD st.toNat []).getD i.toNat dc).word).length) j))), (2, .typ 5 (.arr (w ++ ((e.rows.getD st.toNat []).getD i.toNat dc).word).length 1 (byF (w ++ ((e.rows.getD st.toNat []).getD i.toNat dc).word))))] 3 := by
  have hib := bad_no.1 hi
  have hr := row_eq hv (k := st.toNat) (by omega)
  have hin := (checkE_valid hv).1.inputs
  have hbl := (checkE_valid hv).1.block
  have hwl := cell_wlen hv (s := st.toNat) (i := i.toNat) (by omega) (by omega)
  unfold cellAt at hwl
  refine FC_introS T_ok Try.func54 rfl (by simp [Try.ntmps54]) fun G hG hR => ?_
  simp only [Try.ntmps54, Try.results54] at hG ⊢
  simp only [argEnv, Nat.zero_add, Nat.reduceAdd]
  refine awpS_seq ?_
  refine awpS_draw hR mixed [] ⟨[15], [], []⟩ fun mu0 => ?_
  refine awpA_tk T_ok [0, 1, 2, 3, 4, 5, 6, 7, 8, 9, 10, 11, 12, 13] [] (fuel := 2) [13, 12, 11, 10, 9, 8, 7, 6, 5, 4, 3, 2, 1, 0] (by decide +kernel) (by decide +kernel) rfl rfl fun K hK => ?_
  simp [hG, List.getD_cons_zero, List.getD_cons_succ, -List.getD_eq_getElem?_getD]
  refine ⟨Cond.mk (by omega), hK _ ?_⟩
  clear K hK
  refine awpA_only (fuel := 1) (i := 14) (by decide +kernel) ?_
  refine awpO_reg T_ok rfl ?_ fun K hK => ?_
  · simp [hG, List.getD_cons_zero, List.getD_cons_succ, -List.getD_eq_getElem?_getD]; try exact trivial
  simp [hG, List.getD_cons_zero, List.getD_cons_succ, -List.getD_eq_getElem?_getD]
  refine hK _ ?_
  clear K hK
  refine awpA_only (fuel := 0) (i := 15) (by decide +kernel) ?_
  refine awpO_reg T_ok rfl ?_ fun K hK => ?_
  · simp [hG, List.getD_cons_zero, List.getD_cons_succ, -List.getD_eq_getElem?_getD]; try exact trivial
  simp [hG, List.getD_cons_zero, List.getD_cons_succ, -List.getD_eq_getElem?_getD]
  refine ⟨Cond.mk (by exact trivial), hK _ ?_⟩
  clear K hK
  refine awpA_done (by decide +kernel) ?_
  refine awpS_seq ?_
  refine awpS_draw hR mixed [] ⟨[5], [], []⟩ fun mu0 => ?_
  refine awpA_tk T_ok [0, 1, 2, 3, 4] [] (fuel := 1) [4, 3, 2, 1, 0] (by decide +kernel) (by decide +kernel) rfl rfl fun K hK => ?_
  simp [hG, List.getD_cons_zero, List.getD_cons_succ, -List.getD_eq_getElem?_getD]
  refine hK _ ?_
  clear K hK
  refine awpA_only (fuel := 0) (i := 5) (by decide +kernel) ?_
  refine awpO_fc cal67 [0, 1] (fun _ => false) (writeW_c e st b w ((e.rows.getD st.toNat []).getD i.toNat dc).word (by omega)) rfl (by decide) rfl rfl rfl (by simp) (.inl fun _ => rfl) ?_ ?_ ?_ fun K hK x hI hno => ?_
  · simp [hG, List.getD_cons_zero, List.getD_cons_succ, -List.getD_eq_getElem?_getD]
  · simp [hG, List.getD_cons_zero, List.getD_cons_succ, -List.getD_eq_getElem?_getD]
  · simp [hG, List.getD_cons_zero, List.getD_cons_succ, -List.getD_eq_getElem?_getD]
  simp [hG, List.getD_cons_zero, List.getD_cons_succ, -List.getD_eq_getElem?_getD]
  refine hK _ ?_
  clear K hK
  refine awpA_done (by decide +kernel) ?_
  refine awpS_reg T_ok fun K hK => ?_
  simp [hG, List.getD_cons_zero, List.getD_cons_succ, -List.getD_eq_getElem?_getD]
  refine hK _ ?_
  clear K hK
  refine awpS_nil ?_
  refine RetF_of (()) (fun k => if k = 2 then 3 else k) (fun _ => false) (fun _ => false) trivial ?_ ?_ (by rfl) (by simp) (fun k hk => ⟨if_neg (by have h2 : k < 2 := hk; omega), rfl⟩)
  · simp [hG, List.getD_cons_zero, List.getD_cons_succ, -List.getD_eq_getElem?_getD]
  · simp [hG, List.getD_cons_zero, List.getD_cons_succ, -List.getD_eq_getElem?_getD]

set_option maxRecDepth 100000 in
theorem badIn_c (e : Enc) (i : Int) : PC Try.prog 53 [.int .i64 i, .vptr 4 (encF e) 0] (.bool (badI e i)) := by
  refine PC_introS T_ok Try.func53 rfl (by simp [Try.ntmps53]) fun G hG hR => ?_
  simp only [Try.ntmps53, Try.results53] at hG ⊢
  simp only [argEnv, Nat.zero_add, Nat.reduceAdd]
  refine awpS_seq ?_
  refine awpS_reg T_ok fun K hK => ?_
  simp [hG, List.getD_cons_zero, List.getD_cons_succ, -List.getD_eq_getElem?_getD]
  refine hK _ ?_
  clear K hK
  refine awpS_seq ?_
  refine awpS_reg T_ok fun K hK => ?_
  simp [hG, List.getD_cons_zero, List.getD_cons_succ, -List.getD_eq_getElem?_getD]
  refine ⟨Cond.mk (by simp [-List.getD_eq_getElem?_getD]), hK _ ?_⟩
  clear K hK
  refine awpS_ret ?_
  refine RetOK_of ?_
  simp [hG, List.getD_cons_zero, List.getD_cons_succ, -List.getD_eq_getElem?_getD]
  simp [badI]

set_option maxRecDepth 100000 in
theorem encode_c (e : Enc) (s : Int) (l : List Int) (hl : l.length ≤ 100000) : PC Try.prog 34 [.agg 4 (encF e), .int .i64 s, ints l] (encodeR e s l) := by
  refine PC_introS T_ok Try.func34 rfl (by simp [Try.ntmps34]) fun G hG hR => ?_
  simp only [Try.ntmps34, Try.results34] at hG ⊢
  simp only [argEnv, Nat.zero_add, Nat.reduceAdd]
  refine awpS_seq ?_
  refine awpS_reg T_ok fun K hK => ?_
  simp [hG, List.getD_cons_zero, List.getD_cons_succ, -List.getD_eq_getElem?_getD]
  refine ⟨Cond.mk (by exact trivial), hK _ ?_⟩
  clear K hK
  refine awpS_seq ?_
  refine awpS_block ?_
  refine awpS_seq ?_
  refine awpS_regL ?_
  refine awpL_reg T_ok 1 fun K hK => ?_
  simp [hG, List.getD_cons_zero, List.getD_cons_succ, -List.getD_eq_getElem?_getD]
  refine hK _ ?_
  clear K hK
  refine awpL_call cal37 rfl rfl (fun _ => rfl) (fun hg => check_c e) (fun hg => ?_) (fun hg => ?_) fun K hK => ?_
  · simp [hG, List.getD_cons_zero, List.getD_cons_succ, -List.getD_eq_getElem?_getD]
  · simp [hG, List.getD_cons_zero, List.getD_cons_succ, -List.getD_eq_getElem?_getD]
  simp [hG, List.getD_cons_zero, List.getD_cons_succ, -List.getD_eq_getElem?_getD]
  refine hK _ ?_
  clear K hK
  refine awpL_reg T_ok 2 fun K hK => ?_
  simp [hG, List.getD_cons_zero, List.getD_cons_succ, -List.getD_eq_getElem?_getD]
  refine hK _ ?_
  clear K hK
  refine awpL_nil ?_
  refine awpS_cond rfl (fun hb13 => ?_) (fun hb13 => ?_)
  ·
    try simp [-List.getD_eq_getElem?_getD] at hb13
    refine awpS_seq ?_
    refine awpS_reg T_ok fun K hK => ?_
    simp [hG, List.getD_cons_zero, List.getD_cons_succ, -List.getD_eq_getElem?_getD]
    refine hK _ ?_
    clear K hK
    refine awpS_ret ?_
    refine blockQ_ret (thenQ_ret ?_)
    refine RetOK_of ?_
    simp [hG, List.getD_cons_zero, List.getD_cons_succ, -List.getD_eq_getElem?_getD]
    rw [encodeR_err (n := 1) (by unfold encodeN; rw [if_pos (by simpa using hb13)]) (by omega)]; simp
  ·
    try simp [-List.getD_eq_getElem?_getD] at hb13
    have hv : checkE e = 0 := (by simpa using hb13)
    have hbl := (checkE_valid hv).1.block
    have hl64 := rows_len hv
    refine awpS_seq ?_
    refine awpS_reg T_ok fun K hK => ?_
    simp [hG, List.getD_cons_zero, List.getD_cons_succ, -List.getD_eq_getElem?_getD]
    refine ⟨Cond.mk (by simp [-List.getD_eq_getElem?_getD]), hK _ ?_⟩
    clear K hK
    refine awpS_cond rfl (fun hb17 => ?_) (fun hb17 => ?_)
    ·
      try simp [-List.getD_eq_getElem?_getD] at hb17
      refine awpS_seq ?_
      refine awpS_reg T_ok fun K hK => ?_
      simp [hG, List.getD_cons_zero, List.getD_cons_succ, -List.getD_eq_getElem?_getD]
      refine hK _ ?_
      clear K hK
      refine awpS_ret ?_
      refine blockQ_ret (thenQ_ret ?_)
      refine RetOK_of ?_
      simp [hG, List.getD_cons_zero, List.getD_cons_succ, -List.getD_eq_getElem?_getD]
      rw [encodeR_err (n := 25) (by unfold encodeN; rw [if_neg (by simpa using hv), if_pos (by omega)]) (by omega)]; simp
    ·
      try simp [-List.getD_eq_getElem?_getD] at hb17
      have hs0 : 0 ≤ s ∧ s < (e.rows.length : Int) := (by omega)
      refine awpS_seq ?_
      refine awpS_regL ?_
      refine awpL_reg T_ok 2 fun K hK => ?_
      simp [hG, List.getD_cons_zero, List.getD_cons_succ, -List.getD_eq_getElem?_getD]
      refine hK _ ?_
      clear K hK
      refine awpL_callB (mem [0]) cal52 (by simp [flat]) rfl rfl (fun _ => rfl) (fun hg => containsG_c l (badI e) 53 1 (fun _ => .vptr 4 (encF e) 0) (by omega) cal53 (fun _ => by simp) fun i _ => badIn_c e i) (fun hg => ?_) (fun hg => ?_) fun K hK => ?_
      · simp [hG, List.getD_cons_zero, List.getD_cons_succ, -List.getD_eq_getElem?_getD]
      · simp [hG, List.getD_cons_zero, List.getD_cons_succ, -List.getD_eq_getElem?_getD]
      simp [hG, List.getD_cons_zero, List.getD_cons_succ, -List.getD_eq_getElem?_getD]
      refine hK _ ?_
      clear K hK
      refine awpL_reg T_ok 1 fun K hK => ?_
      simp [hG, List.getD_cons_zero, List.getD_cons_succ, -List.getD_eq_getElem?_getD]
      refine hK _ ?_
      clear K hK
      refine awpL_nil ?_
      refine awpS_cond rfl (fun hb27 => ?_) (fun hb27 => ?_)
      ·
        try simp [-List.getD_eq_getElem?_getD] at hb27
        refine awpS_seq ?_
        refine awpS_reg T_ok fun K hK => ?_
        simp [hG, List.getD_cons_zero, List.getD_cons_succ, -List.getD_eq_getElem?_getD]
        refine hK _ ?_
        clear K hK
        refine awpS_ret ?_
        refine blockQ_ret (thenQ_ret ?_)
        refine RetOK_of ?_
        simp [hG, List.getD_cons_zero, List.getD_cons_succ, -List.getD_eq_getElem?_getD]
        rw [encodeR_err (n := 2) (by unfold encodeN; rw [if_neg (by simpa using hv), if_neg (by omega), if_pos (by simpa using hb27)]) (by omega)]; simp
      ·
        try simp [-List.getD_eq_getElem?_getD] at hb27
        have hgd : l.any (badI e) = false := (by simpa using hb27)
        have hmul := mul_bd (a := (l.length : Int)) (b := e.block) (c := 100000) (by omega) hbl
        refine awpS_seq ?_
        refine awpS_reg T_ok fun K hK => ?_
        simp [hG, List.getD_cons_zero, List.getD_cons_succ, -List.getD_eq_getElem?_getD]
        refine ⟨Cond.mk (by omega), hK _ ?_⟩
        clear K hK
        refine awpS_cond rfl (fun hb31 => ?_) (fun hb31 => ?_)
        ·
          try simp [-List.getD_eq_getElem?_getD] at hb31
          refine awpS_seq ?_
          refine awpS_reg T_ok fun K hK => ?_
          simp [hG, List.getD_cons_zero, List.getD_cons_succ, -List.getD_eq_getElem?_getD]
          refine hK _ ?_
          clear K hK
          refine awpS_ret ?_
          refine blockQ_ret (thenQ_ret ?_)
          refine RetOK_of ?_
          simp [hG, List.getD_cons_zero, List.getD_cons_succ, -List.getD_eq_getElem?_getD]
          rw [encodeR_err (n := 4) (by unfold encodeN; rw [if_neg (by simpa using hv), if_neg (by omega), if_neg (by rw [hgd]; exact Bool.false_ne_true), if_pos (by omega)]) (by omega)]; simp
        ·
          try simp [-List.getD_eq_getElem?_getD] at hb31
          have hm : (l.length : Int) * e.block ≤ 65536 := (by omega)
          have hN : encodeN e s l = 0 := (by unfold encodeN; rw [if_neg (by simpa using hv), if_neg (by omega), if_neg (by rw [hgd]; exact Bool.false_ne_true), if_neg (by omega)])
          refine awpS_skip ?_
          refine awpS_nil ?_
          refine blockQ_norm (thenQ_norm ?_)
          refine awpS_seq ?_
          refine awpS_reg T_ok fun K hK => ?_
          simp [hG, List.getD_cons_zero, List.getD_cons_succ, -List.getD_eq_getElem?_getD]
          refine ⟨Cond.mk (by simp [-List.getD_eq_getElem?_getD]), hK _ ?_⟩
          clear K hK
          refine awpS_seq ?_
          refine awpS_reg T_ok fun K hK => ?_
          simp [hG, List.getD_cons_zero, List.getD_cons_succ, -List.getD_eq_getElem?_getD]
          refine hK _ ?_
          clear K hK
          refine awpS_seq ?_
          refine awpS_seq ?_
          refine awpS_reg T_ok fun K hK => ?_
          simp [hG, List.getD_cons_zero, List.getD_cons_succ, -List.getD_eq_getElem?_getD]
          refine hK _ ?_
          clear K hK
          refine awpS_block ?_
          refine awpS_loop (α := Nat) (fun k => ⟨[(9, .ptr (0, 0) 0 0), (10, .bnd 54 (.ptr (0, 0) 0 0)), (44, ints l), (45, .int .i64 l.length), (46, .int .i64 k)], [(0, .typ 91 (.arr 1 7 (fun _ j => wF e ((runE e s (l.take (k))).2) (selfP (posB (k))) (bufA (posB (k)) 1 (runE e s (l.take (k))).1.length) j))), (1, .typ 5 (.arr ((runE e s (l.take (k))).1).length 1 (byF ((runE e s (l.take (k))).1))))], 2⟩) (fun k => k ≤ l.length) (fun k => l.length - k) (0) (Nat.zero_le _) ?_ ?_
          ·
            refine wk_of (fun k => k + 1) (fun _ => false) (fun k => k == 1) ?_ ?_ rfl (Nat.zero_le _) (fun k hk => absurd hk (Nat.not_lt_zero _))
            · simp [hG, List.getD_cons_zero, List.getD_cons_succ, -List.getD_eq_getElem?_getD]
            · simp [hG, runE, List.getD_cons_zero, List.getD_cons_succ, -List.getD_eq_getElem?_getD]
          ·
            rintro k hk
            refine awpS_seq ?_
            refine awpS_reg T_ok fun K hK => ?_
            simp [hG, List.getD_cons_zero, List.getD_cons_succ, -List.getD_eq_getElem?_getD]
            refine hK _ ?_
            clear K hK
            refine awpS_seq ?_
            refine awpS_cond rfl (fun hb47 => ?_) (fun hb47 => ?_)
            ·
              try simp [-List.getD_eq_getElem?_getD] at hb47
              have hkl : k < l.length := (by omega)
              have hrun := run_at hv hs0.1 hs0.2 hgd hm hk
              have hrt := runE_take (e := e) (s := s) hkl
              unfold cellAt at hrt
              refine awpS_skip ?_
              refine awpS_seq ?_
              refine awpS_block ?_
              refine awpS_seq ?_
              refine awpS_reg T_ok fun K hK => ?_
              simp [hG, List.getD_cons_zero, List.getD_cons_succ, -List.getD_eq_getElem?_getD]
              refine ⟨Cond.mk (by omega), hK _ ?_⟩
              clear K hK
              refine awpS_regL ?_
              refine awpL_reg T_ok 2 fun K hK => ?_
              simp [hG, List.getD_cons_zero, List.getD_cons_succ, -List.getD_eq_getElem?_getD]
              refine hK _ ?_
              clear K hK
              refine awpL_fcb cal54 [0, 1] (fun _ => false) (put_c e hv (runE e s (l.take k)).2 (l.getD k 0) (posB k) (runE e s (l.take k)).1 hrun.1 (good_at hgd hkl) (by omega)) rfl rfl rfl (by simp) (.inl fun _ => rfl) ?_ ?_ ?_ fun K hK x hI hno => ?_
              · simp [hG, List.getD_cons_zero, List.getD_cons_succ, -List.getD_eq_getElem?_getD]
              · simp [hG, List.getD_cons_zero, List.getD_cons_succ, -List.getD_eq_getElem?_getD]
              · simp [hG, List.getD_cons_zero, List.getD_cons_succ, -List.getD_eq_getElem?_getD]; cases hp : posB k with
                  | true => exact .inl rfl
                  | false => rw [posB_no hp]; exact .inr ⟨rfl, rfl⟩
              simp [hG, List.getD_cons_zero, List.getD_cons_succ, -List.getD_eq_getElem?_getD]
              refine hK _ ?_
              clear K hK
              refine awpL_nil ?_
              refine awpS_nil ?_
              refine blockQ_norm (thenQ_norm ?_)
              refine awpS_reg T_ok fun K hK => ?_
              simp [hG, List.getD_cons_zero, List.getD_cons_succ, -List.getD_eq_getElem?_getD]
              refine ⟨Cond.mk (by omega), hK _ ?_⟩
              clear K hK
              refine awpS_nil ?_
              refine round_end (k + 1) (by omega) (by omega) ?_
              refine wk_of (fun k => if k = 1 then 2 else k) (fun _ => false) (fun _ => false) ?_ ?_ rfl (Nat.zero_le _) (fun k hk => absurd hk (Nat.not_lt_zero _))
              · simp [hG, List.getD_cons_zero, List.getD_cons_succ, -List.getD_eq_getElem?_getD]
              · rw [hrt]; simp [hG, List.getD_cons_zero, List.getD_cons_succ, -List.getD_eq_getElem?_getD]
            ·
              try simp [-List.getD_eq_getElem?_getD] at hb47
              obtain rfl : k = l.length := (by omega)
              have hrun := run_at hv hs0.1 hs0.2 hgd hm hk
              refine awpS_exit ?_
              refine thenQ_exit (thenQ_exit ?_)
              refine blockQ_exit (thenQ_norm ?_)
              refine awpS_seq ?_
              by_cases hsp : posB l.length = true
              ·
                have hwne := run_ne hbl.1 (posB_yes hsp) hrun.2.1
                refine awpS_draw hR mixed [] ⟨[3], [], []⟩ fun mu0 => ?_
                refine awpA_tk T_ok [0, 1, 2, 4, 5, 6] [] (fuel := 5) [6, 5, 4, 2, 1, 0] (by decide +kernel) (by decide +kernel) rfl rfl fun K hK => ?_
                simp [hG, List.getD_cons_zero, List.getD_cons_succ, -List.getD_eq_getElem?_getD, hsp]
                refine hK _ ?_
                clear K hK
                refine awpA_two (fuel := 4) (i := 3) (k := 7) (by decide +kernel) ?_ ?_
                ·
                  refine awpO_fc cal55 [0, 1] (fun _ => false) (stringB (S := 7) (off := 5) (hin := [(0, .typ 91 (.arr 1 7 (fun _ j => wF e ((runE e s (l.take l.length)).2) (selfP true) (.sl (1, 0) 0 ((runE e s (l.take l.length)).1).length) j))), (1, .typ 5 (.arr ((runE e s (l.take l.length)).1).length 1 (byF ((runE e s (l.take l.length)).1))))]) (nin := 2) (l := (runE e s (l.take l.length)).1) (id := (1, 0)) rfl (by omega) rfl rfl rfl (Nat.le_refl _) hwne (fun i hi => rfl) (by omega)) rfl (by decide) rfl rfl rfl (by simp) (.inl fun _ => rfl) ?_ ?_ ?_ fun K hK x hI hno => ?_
                  · simp [hG, List.getD_cons_zero, List.getD_cons_succ, -List.getD_eq_getElem?_getD, hsp]
                  · simp [hG, List.getD_cons_zero, List.getD_cons_succ, -List.getD_eq_getElem?_getD, hsp]
                  · simp [hG, List.getD_cons_zero, List.getD_cons_succ, -List.getD_eq_getElem?_getD, hsp]
                  simp [hG, List.getD_cons_zero, List.getD_cons_succ, -List.getD_eq_getElem?_getD, hsp]
                  refine hK _ ?_
                  clear K hK
                  refine awpA_tk T_ok [7, 8, 9, 10] [] (fuel := 0) [10, 9, 8, 7, 3, 6, 5, 4, 2, 1, 0] (by decide +kernel) (by decide +kernel) rfl rfl fun K hK => ?_
                  simp [hG, List.getD_cons_zero, List.getD_cons_succ, -List.getD_eq_getElem?_getD, hsp]
                  refine hK _ ?_
                  clear K hK
                  refine awpA_done (by decide +kernel) ?_
                  refine awpS_ret ?_
                  refine RetOK_of ?_
                  simp [hG, List.getD_cons_zero, List.getD_cons_succ, -List.getD_eq_getElem?_getD, hsp]
                  rw [encodeR_ok hN]; simp
                ·
                  refine awpO_reg T_ok rfl ?_ fun K hK => ?_
                  · simp [hG, List.getD_cons_zero, List.getD_cons_succ, -List.getD_eq_getElem?_getD, hsp]; try exact trivial
                  simp [hG, List.getD_cons_zero, List.getD_cons_succ, -List.getD_eq_getElem?_getD, hsp]
                  refine hK _ ?_
                  clear K hK
                  refine awpA_only (fuel := 3) (i := 3) (by decide +kernel) ?_
                  refine awpO_fc cal55 [0, 1] (fun _ => false) (stringB (S := 7) (off := 5) (hin := [(0, .typ 91 (.arr 1 7 (fun _ j => wF e ((runE e s (l.take l.length)).2) (selfP true) (.sl (1, 0) 0 ((runE e s (l.take l.length)).1).length) j))), (1, .typ 5 (.arr ((runE e s (l.take l.length)).1).length 1 (byF ((runE e s (l.take l.length)).1))))]) (nin := 2) (l := (runE e s (l.take l.length)).1) (id := (1, 0)) rfl (by omega) rfl rfl rfl (Nat.le_refl _) hwne (fun i hi => rfl) (by omega)) rfl (by decide) rfl rfl rfl (by simp) (.inl fun _ => rfl) ?_ ?_ ?_ fun K hK x hI hno => ?_
                  · simp [hG, List.getD_cons_zero, List.getD_cons_succ, -List.getD_eq_getElem?_getD, hsp]
                  · simp [hG, List.getD_cons_zero, List.getD_cons_succ, -List.getD_eq_getElem?_getD, hsp]
                  · simp [hG, List.getD_cons_zero, List.getD_cons_succ, -List.getD_eq_getElem?_getD, hsp]
                  simp [hG, List.getD_cons_zero, List.getD_cons_succ, -List.getD_eq_getElem?_getD, hsp]
                  refine hK _ ?_
                  clear K hK
                  refine awpA_tk T_ok [8, 9, 10] [] (fuel := 0) [10, 9, 8, 3, 7, 6, 5, 4, 2, 1, 0] (by decide +kernel) (by decide +kernel) rfl rfl fun K hK => ?_
                  simp [hG, List.getD_cons_zero, List.getD_cons_succ, -List.getD_eq_getElem?_getD, hsp]
                  refine hK _ ?_
                  clear K hK
                  refine awpA_done (by decide +kernel) ?_
                  refine awpS_ret ?_
                  refine RetOK_of ?_
                  simp [hG, List.getD_cons_zero, List.getD_cons_succ, -List.getD_eq_getElem?_getD, hsp]
                  rw [encodeR_ok hN]; simp
              ·
                have hl0 := posB_no (by simpa using hsp)
                refine awpS_draw hR mixed [] ⟨[3], [], []⟩ fun mu0 => ?_
                refine awpA_tk T_ok [0, 1, 2, 4, 5, 6] [] (fuel := 5) [6, 5, 4, 2, 1, 0] (by decide +kernel) (by decide +kernel) rfl rfl fun K hK => ?_
                simp [hG, List.getD_cons_zero, List.getD_cons_succ, -List.getD_eq_getElem?_getD, hsp]
                refine hK _ ?_
                clear K hK
                refine awpA_two (fuel := 4) (i := 3) (k := 7) (by decide +kernel) ?_ ?_
                ·
                  refine awpO_fc cal55 [0] (fun _ => false) (stringNilB (S := 7) (off := 5) (hin := [(0, .typ 91 (.arr 1 7 (fun _ j => wF e (runE e s (l.take l.length)).2 (selfP false) .nils j)))]) (nin := 1) rfl (by omega) rfl) rfl (by decide) rfl rfl rfl (by simp) (.inl fun _ => rfl) ?_ ?_ ?_ fun K hK x hI hno => ?_
                  · simp [hG, List.getD_cons_zero, List.getD_cons_succ, -List.getD_eq_getElem?_getD, hsp]
                  · simp [hG, List.getD_cons_zero, List.getD_cons_succ, -List.getD_eq_getElem?_getD, hsp]
                  · simp [hG, List.getD_cons_zero, List.getD_cons_succ, -List.getD_eq_getElem?_getD, hsp]
                  simp [hG, List.getD_cons_zero, List.getD_cons_succ, -List.getD_eq_getElem?_getD, hsp]
                  refine hK _ ?_
                  clear K hK
                  refine awpA_tk T_ok [7, 8, 9, 10] [] (fuel := 0) [10, 9, 8, 7, 3, 6, 5, 4, 2, 1, 0] (by decide +kernel) (by decide +kernel) rfl rfl fun K hK => ?_
                  simp [hG, List.getD_cons_zero, List.getD_cons_succ, -List.getD_eq_getElem?_getD, hsp]
                  refine hK _ ?_
                  clear K hK
                  refine awpA_done (by decide +kernel) ?_
                  refine awpS_ret ?_
                  refine RetOK_of ?_
                  simp [hG, List.getD_cons_zero, List.getD_cons_succ, -List.getD_eq_getElem?_getD, hsp]
                  obtain rfl := List.length_eq_zero_iff.1 hl0; rw [encodeR_ok hN]; simp [runE]
                ·
                  refine awpO_reg T_ok rfl ?_ fun K hK => ?_
                  · simp [hG, List.getD_cons_zero, List.getD_cons_succ, -List.getD_eq_getElem?_getD, hsp]; try exact trivial
                  simp [hG, List.getD_cons_zero, List.getD_cons_succ, -List.getD_eq_getElem?_getD, hsp]
                  refine hK _ ?_
                  clear K hK
                  refine awpA_only (fuel := 3) (i := 3) (by decide +kernel) ?_
                  refine awpO_fc cal55 [0] (fun _ => false) (stringNilB (S := 7) (off := 5) (hin := [(0, .typ 91 (.arr 1 7 (fun _ j => wF e (runE e s (l.take l.length)).2 (selfP false) .nils j)))]) (nin := 1) rfl (by omega) rfl) rfl (by decide) rfl rfl rfl (by simp) (.inl fun _ => rfl) ?_ ?_ ?_ fun K hK x hI hno => ?_
                  · simp [hG, List.getD_cons_zero, List.getD_cons_succ, -List.getD_eq_getElem?_getD, hsp]
                  · simp [hG, List.getD_cons_zero, List.getD_cons_succ, -List.getD_eq_getElem?_getD, hsp]
                  · simp [hG, List.getD_cons_zero, List.getD_cons_succ, -List.getD_eq_getElem?_getD, hsp]
                  simp [hG, List.getD_cons_zero, List.getD_cons_succ, -List.getD_eq_getElem?_getD, hsp]
                  refine hK _ ?_
                  clear K hK
                  refine awpA_tk T_ok [8, 9, 10] [] (fuel := 0) [10, 9, 8, 3, 7, 6, 5, 4, 2, 1, 0] (by decide +kernel) (by decide +kernel) rfl rfl fun K hK => ?_
                  simp [hG, List.getD_cons_zero, List.getD_cons_succ, -List.getD_eq_getElem?_getD, hsp]
                  refine hK _ ?_
                  clear K hK
                  refine awpA_done (by decide +kernel) ?_
                  refine awpS_ret ?_
                  refine RetOK_of ?_
                  simp [hG, List.getD_cons_zero, List.getD_cons_succ, -List.getD_eq_getElem?_getD, hsp]
                  obtain rfl := List.length_eq_zero_iff.1 hl0; rw [encodeR_ok hN]; simp [runE]

set_option maxRecDepth 100000 in
theorem writeK_c (b : Bool) (w v : List UInt8) (hw : w.length + v.length ≤ 1000000) : FC1 Try.prog 67 [.ptr (0, 0) 0 0, .str v] [(0, .typ 89 (.arr 1 2 (fun _ j => bF (selfQ b) (.sl (1, 0) 0 (w).length) j))), (1, .typ 5 (.arr (w).length 1 (byF (w))))] 2 (.tup 2 (fun j => [.int .i64 v.length, .any].getD j .any)) [(0, .typ 89 (.arr 1 2 (fun _ j => bF (.ptr (0, 0) 0 0) (.sl (2, 0) 0 (w ++ v).length) j))), (2, .typ 5 (.arr (w ++ v).length 1 (byF (w ++ v))))] 3 := by
  refine FC_introS T_ok Try.func67 rfl (by simp [Try.ntmps67]) fun G hG hR => ?_
  simp only [Try.ntmps67, Try.results67] at hG ⊢
  simp only [argEnv, Nat.zero_add, Nat.reduceAdd]
  refine awpS_seq ?_
  refine awpS_reg T_ok fun K hK => ?_
  simp [hG, List.getD_cons_zero, List.getD_cons_succ, -List.getD_eq_getElem?_getD]
  refine hK _ ?_
  clear K hK
  refine awpS_seq ?_
  refine awpS_regL ?_
  refine awpL_reg T_ok 1 fun K hK => ?_
  simp [hG, List.getD_cons_zero, List.getD_cons_succ, -List.getD_eq_getElem?_getD]
  refine hK _ ?_
  clear K hK
  refine awpL_fc cal80 [0, 1] (fun _ => false) (copyCheckB (hin := [(0, .typ 89 (.arr 1 2 (fun _ j => bF (selfQ b) (.sl (1, 0) 0 (w).length) j))), (1, .typ 5 (.arr (w).length 1 (byF (w))))]) (nin := 2) rfl rfl bcells (by omega) blies selfQ_or) rfl rfl rfl (by simp) (.inl fun _ => rfl) ?_ ?_ ?_ fun K hK x hI hno => ?_
  · simp [hG, List.getD_cons_zero, List.getD_cons_succ, -List.getD_eq_getElem?_getD]
  · simp [hG, List.getD_cons_zero, List.getD_cons_succ, -List.getD_eq_getElem?_getD]
  · simp [hG, List.getD_cons_zero, List.getD_cons_succ, -List.getD_eq_getElem?_getD]
  simp [hG, List.getD_cons_zero, List.getD_cons_succ, -List.getD_eq_getElem?_getD]
  refine hK _ ?_
  clear K hK
  refine awpL_nil ?_
  refine awpS_seq ?_
  refine awpS_reg T_ok fun K hK => ?_
  simp [hG, List.getD_cons_zero, List.getD_cons_succ, -List.getD_eq_getElem?_getD]
  refine ⟨Cond.mk (by omega), hK _ ?_⟩
  clear K hK
  refine awpS_seq ?_
  refine awpS_reg T_ok fun K hK => ?_
  simp [hG, List.getD_cons_zero, List.getD_cons_succ, -List.getD_eq_getElem?_getD]
  refine hK _ ?_
  clear K hK
  refine awpS_ret ?_
  refine RetF_of (()) (id) (fun _ => false) (fun _ => false) trivial ?_ ?_ (by rfl) (by simp) (fun k hk => ⟨rfl, rfl⟩)
  · simp [hG, List.getD_cons_zero, List.getD_cons_succ, -List.getD_eq_getElem?_getD]
  · simp [hG, List.getD_cons_zero, List.getD_cons_succ, -List.getD_eq_getElem?_getD]; exact fun i hi => app_bytes hi

end Go.Proofs.Ytmdnpbilnelogaa
