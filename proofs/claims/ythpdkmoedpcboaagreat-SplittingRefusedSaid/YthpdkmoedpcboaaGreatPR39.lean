/- Parts of the proof: RP LMR XQ YA YB NM. -/
import Derived.Maps.RangeRun
import Derived.Test.YthpdkmoedpcboaaGreatPR11
import Derived.Test.YthpdkmoedpcboaaGreatPR13
import Derived.Test.YthpdkmoedpcboaaGreatPR15
import Derived.Test.YthpdkmoedpcboaaGreatPR16
import Derived.Test.YthpdkmoedpcboaaGreatPR22
import Derived.Test.YthpdkmoedpcboaaGreatPR29
import Derived.Test.YthpdkmoedpcboaaGreatPR32
import Derived.Test.YthpdkmoedpcboaaGreatPR33
import Derived.Test.YthpdkmoedpcboaaGreatPR34
import Derived.Test.YthpdkmoedpcboaaGreatPR38
namespace Go.Proofs.YthpdkmoedpcboaaGreat
set_option linter.unusedSimpArgs false
set_option linter.unusedVariables false
open Go Go.Lift Go.RowKit Go.ChangeShapes Go.WideShapes Go.ChangeAt
theorem rdB : Reads Tryz.prog 5 1 (fun (n : Int) _ => .int .u8 n) (fun n => (Lit.int .u8 n).wf = true) := reads_int Tryz.underlying5 (by kernel_rfl)
end Go.Proofs.YthpdkmoedpcboaaGreat
namespace Go.Lift
set_option linter.unusedSimpArgs false
set_option linter.unusedVariables false
open Go.RowKit
def nxF (l : List (AVal × AVal)) (c : Option Nat) (j : Nat) : AVal := match j with
  | 0 => .bool c.isSome
  | 1 => (l.getD (c.getD 0) (.any, .any)).1
  | _ => (l.getD (c.getD 0) (.any, .any)).2
@[simp] theorem nxF_zero {l : List (AVal × AVal)} {c : Option Nat} : nxF l c 0 = .bool c.isSome := rfl
@[simp] theorem nxF_one {l : List (AVal × AVal)} {c : Option Nat} : nxF l c 1 = (l.getD (c.getD 0) (.any, .any)).1 := rfl
@[simp] theorem nxF_two {l : List (AVal × AVal)} {c : Option Nat} : nxF l c 2 = (l.getD (c.getD 0) (.any, .any)).2 := rfl
section
variable {P : Program} {G : Gh} {n0 : Nat}
end
end Go.Lift
namespace Go.Proofs.YthpdkmoedpcboaaGreat
set_option linter.unusedSimpArgs false
set_option linter.unusedVariables false
open Go Go.Lift Go.Proofs
def Pth (g : Gr) : Int → List Int → Int → Prop
  | s, [], t => s = t
  | s, k :: ks, t => ∃ x ∈ g.edges, x.frm = s ∧ x.lab = k ∧ Pth g x.to ks t
def setK (g : Gr) (L : List Int) (ks : List Int) : List Int := ks.foldl (fun L k => stepL g k L) L
theorem setA_K {g : Gr} : ∀ {w : List UInt8} {L : List Int}, setA g L w = setK g L (w.map (idxB letters))
  | [], _ => rfl
  | c :: w, L => setA_K (w := w) (L := stepL g (idxB letters c) L)
theorem setK_mem {g : Gr} {t : Int} : ∀ {ks : List Int} {L : List Int}, t ∈ setK g L ks ↔ ∃ s ∈ L, Pth g s ks t
  | [], L => by
    constructor
    · exact fun h => ⟨t, h, rfl⟩
    · rintro ⟨s, h, rfl⟩; exact h
  | k :: ks, L => by
    show t ∈ setK g (stepL g k L) ks ↔ _
    rw [setK_mem]
    constructor
    · rintro ⟨s, h1, h2⟩
      obtain ⟨q, hq, x, hx, e1, e2, e3⟩ := step_mem.1 h1
      exact ⟨q, hq, x, hx, e1, e2, e3 ▸ h2⟩
    · rintro ⟨q, hq, x, hx, e1, e2, h2⟩
      exact ⟨x.to, step_mem.2 ⟨q, hq, x, hx, e1, e2, rfl⟩, h2⟩
theorem setA_some {g : Gr} {w : List UInt8} {L : List Int} : setA g L w ≠ [] ↔ ∃ s ∈ L, ∃ t, Pth g s (w.map (idxB letters)) t := by
  rw [setA_K]
  constructor
  · intro h
    obtain ⟨t, ht⟩ := List.exists_mem_of_ne_nil _ h
    obtain ⟨s, hs, hp⟩ := setK_mem.1 ht
    exact ⟨s, hs, t, hp⟩
  · rintro ⟨s, hs, t, hp⟩
    exact List.ne_nil_of_mem (setK_mem.2 ⟨s, hs, hp⟩)
theorem all_mem {n : Int} {s : Int} : s ∈ iotaL n.toNat ↔ 0 ≤ s ∧ s < n := by
  constructor
  · intro h; have := iota_mem h; omega
  · rintro ⟨h1, h2⟩
    exact List.mem_map.2 ⟨s.toNat, List.mem_range.2 (by omega), by show ((s.toNat : Nat) : Int) = s; omega⟩
def ltrB (i : Nat) : UInt8 := letters.getD i 0
def keyT (g : Gr) (L : List Int) (w : List UInt8) (n : Nat) : List (List UInt8) := ((List.range n).filter fun i => decide (setA g L (w ++ [ltrB i]) ≠ [])).map fun i => w ++ [ltrB i]
section
variable {g : Gr} {v : List Int} {m : Int} {l : List Spl}
end
end Go.Proofs.YthpdkmoedpcboaaGreat
namespace Go.Proofs.YthpdkmoedpcboaaGreat
set_option linter.unusedSimpArgs false
set_option linter.unusedVariables false
open Go Go.Lift Go.Proofs
@[simp] theorem VLe_ylk {h : Heap} {σ : Lift.Id → Lift.Id} {fz : Nat → Bool} {vz : Lift.Id → Bool} {nx l : Nat} {vs : Array Value} {k : Int} : VLe h σ fz vz nx (.yld l vs 2 (fun j => [.vptr 1 (fun _ => .int .i64 k) 0, .ptr (0, 0) 0 0].getD j .any)) (.yld l vs 2 (fun j => [.vptr 1 (fun _ => .int .i64 k) 0, .ptr (0, 0) 0 0].getD j .any)) = (0 < nx ∧ vz (0, 0) = false ∧ (0, 0) = σ (0, 0)) := by
  apply propext
  constructor
  · intro h
    have h1 := h.2.2.2 1 (by decide)
    have h2 : 0 < nx ∧ vz (0, 0) = false ∧ (AVal.ptr (0, 0) 0 0) = .ptr (σ (0, 0)) 0 0 := h1
    refine ⟨h2.1, h2.2.1, ?_⟩
    have := h2.2.2
    injection this
  · rintro ⟨h1, h2, h3⟩
    refine ⟨rfl, rfl, rfl, fun j hj => ?_⟩
    match j, hj with
    | 0, _ => exact ⟨rfl, rfl, fun j _ => ⟨rfl, rfl⟩⟩
    | 1, _ => exact ⟨h1, h2, by rw [← h3]; rfl⟩
end Go.Proofs.YthpdkmoedpcboaaGreat
namespace Go.Proofs.YthpdkmoedpcboaaGreat
set_option linter.unusedSimpArgs false
set_option linter.unusedVariables false
open Go Go.Lift Go.Proofs
def SetOK (g : Gr) (L : List Int) : Prop := L.Pairwise (· < ·) ∧ ∀ x ∈ L, 0 ≤ x ∧ x < g.states
theorem SetOK.len {g : Gr} (hv : gcheck g = 0) {L : List Int} (h : SetOK g L) : L.length ≤ 64 := asc_short h.1 h.2 (gcheck_valid hv).1.st.2
theorem SetOK.step {g : Gr} (hv : gcheck g = 0) {k : Int} {L : List Int} : SetOK g (stepL g k L) := ⟨step_asc, step_box hv⟩
theorem SetOK.all {g : Gr} : SetOK g (iotaL g.states.toNat) := ⟨iota_asc, fun x hx => by have := iota_mem hx; omega⟩
end Go.Proofs.YthpdkmoedpcboaaGreat
namespace Go.Proofs.YthpdkmoedpcboaaGreat
set_option linter.unusedSimpArgs false
set_option linter.unusedVariables false
open Go Go.Lift Go.Proofs
def nxC (g : Gr) (v : List Int) (m : Int) (s : Nat) : Int := min (v.getD s 0) (sumV g v s / m)
def nxtV (g : Gr) (v : List Int) (m : Int) : List Int := (List.range v.length).map (nxC g v m)
def gIt (g : Gr) (m : Int) (v : List Int) : Nat → List Int
  | 0 => v
  | k + 1 => nxtV g (gIt g m v k) m
def greV (g : Gr) (v : List Int) (m : Int) : List Int := gIt g m v (v.sum.toNat + 1)
theorem gIt_succ {g : Gr} {m : Int} {v : List Int} {k : Nat} : gIt g m v (k + 1) = nxtV g (gIt g m v k) m := rfl
theorem nxtV_len {g : Gr} {v : List Int} {m : Int} : (nxtV g v m).length = v.length := by simp [nxtV]
theorem nxtV_at {g : Gr} {v : List Int} {m : Int} {s : Nat} (h : s < v.length) : (nxtV g v m).getD s 0 = nxC g v m s := by simp [nxtV, List.getD, h]
theorem nxC_box {g : Gr} {v : List Int} {m : Int} {s : Nat} (hm : 1 ≤ m) (hb : BoxV v) : 0 ≤ nxC g v m s ∧ nxC g v m s ≤ v.getD s 0 := by
  have h1 := box_at hb s
  have h2 := (sumA_box hb (g := g) (s := s) g.edges.length).1
  have h3 : 0 ≤ sumV g v s / m := Int.ediv_nonneg h2 (by omega)
  unfold nxC
  omega
theorem nxtV_box {g : Gr} {v : List Int} {m : Int} (hm : 1 ≤ m) (hb : BoxV v) : BoxV (nxtV g v m) := fun n hn => by
  obtain ⟨s, hs, rfl⟩ := List.mem_map.1 hn
  have h1 := box_at hb s
  have h2 := nxC_box (g := g) (s := s) hm hb
  omega
theorem gIt_box {g : Gr} {v : List Int} {m : Int} (hm : 1 ≤ m) (hb : BoxV v) : ∀ k, BoxV (gIt g m v k) ∧ (gIt g m v k).length = v.length
  | 0 => ⟨hb, rfl⟩
  | k + 1 => by
    obtain ⟨h1, h2⟩ := gIt_box hm hb k
    exact ⟨nxtV_box hm h1, by rw [gIt_succ, nxtV_len, h2]⟩
theorem sum_lower : ∀ {a b : List Int}, a.length = b.length → (∀ s, s < b.length → a.getD s 0 ≤ b.getD s 0) → a.sum ≤ b.sum ∧ (a ≠ b → a.sum < b.sum)
  | [], [], _, _ => ⟨Int.le_refl _, fun h => absurd rfl h⟩
  | x :: a, y :: b, hl, h => by
    have h0 := h 0 (by simp)
    obtain ⟨h1, h2⟩ := sum_lower (a := a) (b := b) (by simpa using hl) fun s hs => by simpa using h (s + 1) (by simpa using hs)
    simp only [List.getD_cons_zero] at h0
    simp only [List.sum_cons]
    refine ⟨by omega, fun hne => ?_⟩
    by_cases e : a = b
    · have : x ≠ y := fun e2 => hne (by rw [e, e2])
      omega
    · have := h2 e
      omega
theorem sum_pos {a : List Int} (h : ∀ n ∈ a, 0 ≤ n) : 0 ≤ a.sum := by
  induction a with
  | nil => exact Int.le_refl _
  | cons x a ih =>
    have h1 := h x (List.mem_cons_self ..)
    have h2 := ih fun n hn => h n (List.mem_cons_of_mem _ hn)
    simp only [List.sum_cons]; omega
theorem nxtV_lower {g : Gr} {v : List Int} {m : Int} (hm : 1 ≤ m) (hb : BoxV v) : (nxtV g v m).sum ≤ v.sum ∧ (nxtV g v m ≠ v → (nxtV g v m).sum < v.sum) :=
  sum_lower nxtV_len fun s hs => by rw [nxtV_at hs]; exact (nxC_box hm hb).2
theorem gIt_meas {g : Gr} {v : List Int} {m : Int} (hm : 1 ≤ m) (hb : BoxV v) {k : Nat} (h : gIt g m v (k + 1) ≠ gIt g m v k) : (gIt g m v (k + 1)).sum.toNat < (gIt g m v k).sum.toNat := by
  have h1 := (nxtV_lower (g := g) hm (gIt_box hm hb (g := g) k).1).2 h
  have h2 := sum_pos fun n hn => ((gIt_box hm hb (g := g) (k + 1)).1 n hn).1
  show (nxtV g (gIt g m v k) m).sum.toNat < _
  have h3 : 0 ≤ (nxtV g (gIt g m v k) m).sum := h2
  omega
theorem gIt_stay {g : Gr} {v : List Int} {m : Int} {k : Nat} (h : gIt g m v (k + 1) = gIt g m v k) : ∀ d, gIt g m v (k + d) = gIt g m v k
  | 0 => rfl
  | d + 1 => by
    show nxtV g (gIt g m v (k + d)) m = _
    rw [gIt_stay h d]; exact h
theorem gIt_count {g : Gr} {v : List Int} {m : Int} (hm : 1 ≤ m) (hb : BoxV v) : ∀ k, (∀ j, j < k → gIt g m v (j + 1) ≠ gIt g m v j) → (gIt g m v k).sum.toNat + k ≤ v.sum.toNat
  | 0, _ => Nat.le_refl _
  | k + 1, h => by
    have h1 := gIt_count hm hb k fun j hj => h j (by omega)
    have h2 := gIt_meas hm hb (h k (by omega))
    omega
theorem gre_stop {g : Gr} {v : List Int} {m : Int} (hm : 1 ≤ m) (hb : BoxV v) {k : Nat} (hn : ∀ j, j < k → gIt g m v (j + 1) ≠ gIt g m v j) (h : gIt g m v (k + 1) = gIt g m v k) : greV g v m = gIt g m v k := by
  have h1 := gIt_count hm hb k hn
  have h2 := gIt_stay h (v.sum.toNat + 1 - k)
  rw [show k + (v.sum.toNat + 1 - k) = v.sum.toNat + 1 by omega] at h2
  exact h2
theorem gre_fix {g : Gr} {v : List Int} {m : Int} (hm : 1 ≤ m) (hb : BoxV v) : nxtV g (greV g v m) m = greV g v m := by
  refine Classical.byContradiction fun hc => ?_
  have key : ∀ k, k ≤ v.sum.toNat + 1 → ∀ j, j < k → gIt g m v (j + 1) ≠ gIt g m v j := fun k hk j hj e => by
    have h1 := gIt_stay e (v.sum.toNat + 1 - j)
    rw [show j + (v.sum.toNat + 1 - j) = v.sum.toNat + 1 by omega] at h1
    have h2 : greV g v m = gIt g m v j := h1
    rw [h2] at hc
    exact hc e
  have := gIt_count hm hb (v.sum.toNat + 1) (key _ (Nat.le_refl _))
  omega
theorem gre_box {g : Gr} {v : List Int} {m : Int} (hm : 1 ≤ m) (hb : BoxV v) : BoxV (greV g v m) ∧ (greV g v m).length = v.length := gIt_box hm hb _
theorem gIt_lower {g : Gr} {v : List Int} {m : Int} (hm : 1 ≤ m) (hb : BoxV v) : ∀ k, (gIt g m v k).sum ≤ v.sum
  | 0 => Int.le_refl _
  | k + 1 => Int.le_trans (nxtV_lower hm (gIt_box hm hb (g := g) k).1).1 (gIt_lower hm hb k)
theorem gre_lower {g : Gr} {v : List Int} {m : Int} (hm : 1 ≤ m) (hb : BoxV v) : (greV g v m).sum ≤ v.sum := gIt_lower hm hb _
def decV (v : List Int) (s : Nat) : List Int := v.set s (v.getD s 0 - 1)
def lwP (g : Gr) (m : Int) (v : List Int) (s : Nat) : Bool := decide (v.getD s 0 ≠ 0) && !((greV g (decV v s) m).all fun n => decide (n = 0))
theorem lwP_yes {g : Gr} {m : Int} {v : List Int} {s : Nat} (h0 : v.getD s 0 ≠ 0) (h1 : ((greV g (decV v s) m).all fun n => decide (n = 0)) = false) : lwP g m v s = true := by unfold lwP; rw [h1, decide_eq_true h0]; rfl
theorem lwP_no {g : Gr} {m : Int} {v : List Int} {s : Nat} (h : v.getD s 0 = 0 ∨ ((greV g (decV v s) m).all fun n => decide (n = 0)) = true) : lwP g m v s = false := by
  unfold lwP
  rcases h with h | h
  · rw [decide_eq_false (fun h2 => h2 h)]; rfl
  · rw [h]; exact Bool.and_false _
def lowI (g : Gr) (m : Int) (v : List Int) : Option Nat := (List.range v.length).find? (lwP g m v)
def lstI (g : Gr) (m : Int) (v : List Int) : Nat → List Int
  | 0 => v
  | k + 1 => match lowI g m (lstI g m v k) with
    | some s => greV g (decV (lstI g m v k) s) m
    | none => lstI g m v k
def lstV (g : Gr) (m : Int) (v : List Int) : List Int := lstI g m v (v.sum.toNat + 1)
theorem lstI_zero {g : Gr} {m : Int} {v : List Int} : lstI g m v 0 = v := rfl
theorem lstI_none {g : Gr} {m : Int} {v : List Int} {k : Nat} (h : lowI g m (lstI g m v k) = none) : lstI g m v (k + 1) = lstI g m v k := by
  show (match lowI g m (lstI g m v k) with | some s => _ | none => _) = _
  rw [h]
theorem lstI_some {g : Gr} {m : Int} {v : List Int} {k s : Nat} (h : lowI g m (lstI g m v k) = some s) : lstI g m v (k + 1) = greV g (decV (lstI g m v k) s) m := by
  show (match lowI g m (lstI g m v k) with | some s => _ | none => _) = _
  rw [h]
theorem decV_len {v : List Int} {s : Nat} : (decV v s).length = v.length := by simp [decV]
theorem decV_at {v : List Int} {s k : Nat} (hk : k < v.length) : (decV v s).getD k 0 = if k = s then v.getD s 0 - 1 else v.getD k 0 := by
  unfold decV
  rw [List.getD_eq_getElem?_getD, List.getElem?_set]
  by_cases h : k = s
  · subst h; simp [hk]
  · rw [if_neg h, if_neg (Ne.symm h), List.getD_eq_getElem?_getD]
theorem decV_box {v : List Int} {s : Nat} (hb : BoxV v) (hs : v.getD s 0 ≠ 0) : BoxV (decV v s) := fun n hn => by
  have h1 := box_at hb s
  rcases List.mem_or_eq_of_mem_set hn with h | rfl
  · exact hb n h
  · omega
theorem decV_sum : ∀ {v : List Int} {s : Nat}, s < v.length → (decV v s).sum = v.sum - 1
  | [], s, h => absurd h (Nat.not_lt_zero _)
  | x :: v, 0, _ => by simp [decV]; omega
  | x :: v, s + 1, h => by
    have := decV_sum (v := v) (s := s) (by simpa using h)
    simp only [decV, List.set_cons_succ, List.getD_cons_succ, List.sum_cons] at this ⊢
    omega
theorem lowI_some {g : Gr} {m : Int} {v : List Int} {s : Nat} (hs : s < v.length) (h0 : v.getD s 0 ≠ 0) (h1 : ((greV g (decV v s) m).all fun n => decide (n = 0)) = false) (hn : ∀ k, k < s → v.getD k 0 = 0 ∨ ((greV g (decV v k) m).all fun n => decide (n = 0)) = true) : lowI g m v = some s := by
  unfold lowI
  rw [List.find?_eq_some_iff_getElem]
  refine ⟨lwP_yes h0 h1, s, by simpa using hs, by simp, fun k hk => ?_⟩
  rw [List.getElem_range, lwP_no (hn k hk)]; rfl
theorem lowI_none {g : Gr} {m : Int} {v : List Int} (hn : ∀ k, k < v.length → v.getD k 0 = 0 ∨ ((greV g (decV v k) m).all fun n => decide (n = 0)) = true) : lowI g m v = none := by
  unfold lowI
  rw [List.find?_eq_none]
  intro k hk
  rw [lwP_no (hn k (List.mem_range.1 hk))]; simp
theorem lowI_in {g : Gr} {m : Int} {v : List Int} {s : Nat} (h : lowI g m v = some s) : s < v.length ∧ v.getD s 0 ≠ 0 ∧ ((greV g (decV v s) m).all fun n => decide (n = 0)) = false := by
  unfold lowI at h
  have h1 := List.find?_some h
  have h2 := List.mem_of_find?_eq_some h
  unfold lwP at h1
  simp only [Bool.and_eq_true, decide_eq_true_eq, Bool.not_eq_true'] at h1
  exact ⟨List.mem_range.1 h2, h1.1, h1.2⟩
theorem low_sum {g : Gr} {m : Int} {v : List Int} {s : Nat} (hm : 1 ≤ m) (hb : BoxV v) (h : lowI g m v = some s) : BoxV (greV g (decV v s) m) ∧ (greV g (decV v s) m).length = v.length ∧ (greV g (decV v s) m).sum.toNat < v.sum.toNat := by
  obtain ⟨h1, h2, _⟩ := lowI_in h
  have h3 := decV_box hb h2
  have h4 := gre_box (g := g) hm h3
  have h5 := gre_lower (g := g) hm h3
  have h6 := decV_sum h1
  have h7 := sum_pos fun n hn => (h4.1 n hn).1
  exact ⟨h4.1, h4.2.trans decV_len, by omega⟩
theorem lst_box {g : Gr} {m : Int} {v : List Int} (hm : 1 ≤ m) (hb : BoxV v) : ∀ k, BoxV (lstI g m v k) ∧ (lstI g m v k).length = v.length
  | 0 => ⟨hb, rfl⟩
  | k + 1 => by
    obtain ⟨h1, h2⟩ := lst_box (g := g) hm hb k
    cases h : lowI g m (lstI g m v k) with
    | none => rw [lstI_none h]; exact ⟨h1, h2⟩
    | some s => rw [lstI_some h]; have h3 := low_sum hm h1 h; exact ⟨h3.1, h3.2.1.trans h2⟩
theorem lst_stay {g : Gr} {m : Int} {v : List Int} {k : Nat} (h : lowI g m (lstI g m v k) = none) : ∀ d, lstI g m v (k + d) = lstI g m v k
  | 0 => rfl
  | d + 1 => by
    have h1 := lst_stay h d
    have h2 : lowI g m (lstI g m v (k + d)) = none := by rw [h1]; exact h
    rw [← Nat.add_assoc, lstI_none h2, h1]
theorem lst_count {g : Gr} {m : Int} {v : List Int} (hm : 1 ≤ m) (hb : BoxV v) : ∀ k, (∀ j, j < k → lowI g m (lstI g m v j) ≠ none) → (lstI g m v k).sum.toNat + k ≤ v.sum.toNat
  | 0, _ => Nat.le_refl _
  | k + 1, h => by
    have h1 := lst_count hm hb k fun j hj => h j (by omega)
    cases h2 : lowI g m (lstI g m v k) with
    | none => exact absurd h2 (h k (by omega))
    | some s =>
      have h3 := (low_sum hm (lst_box (g := g) hm hb k).1 h2).2.2
      rw [lstI_some h2]
      omega
theorem lst_stop {g : Gr} {m : Int} {v : List Int} (hm : 1 ≤ m) (hb : BoxV v) {k : Nat} (hn : ∀ j, j < k → lowI g m (lstI g m v j) ≠ none) (h : lowI g m (lstI g m v k) = none) : lstV g m v = lstI g m v k := by
  have h1 := lst_count hm hb k hn
  have h2 := lst_stay h (v.sum.toNat + 1 - k)
  rw [show k + (v.sum.toNat + 1 - k) = v.sum.toNat + 1 by omega] at h2
  exact h2
end Go.Proofs.YthpdkmoedpcboaaGreat
