/-
  Weakening a contract's result; what Partition and Merge answer, in one form.
-/
import Derived.Test.YtmjkbidnghcfnaaPD
import Derived.Test.YtmjkbidnghcfnaaLZ
namespace Go.Proofs.Ytmjkbidnghcfnaa
set_option linter.unusedSimpArgs false
set_option linter.unusedVariables false
open Go Go.Lift Go.Proofs

theorem pc_rel {P : Program} {f : FuncId} {args : List AVal} {r r' : AVal} (h : PC P f args r) (hr : ∀ c x, Rel c r x → Rel c r' x) : PC P f args r' := fun O w vals hk ha =>
  (h O w vals hk ha).mono fun e w' ⟨v, h1, h2, h3⟩ => ⟨v, h1, h2, hr _ _ h3⟩
theorem rel_tup {c : Cx} {n : Nat} {f f' : Nat → AVal} (h : ∀ j, j < n → ∀ x, Rel c (f j) x → Rel c (f' j) x) : ∀ x, Rel c (.tup n f) x → Rel c (.tup n f') x := fun x ⟨cs, h1, h2, h3⟩ => ⟨cs, h1, h2, fun j hj => h j hj _ (h3 j hj)⟩
theorem rel_agg {c : Cx} {n : Nat} {f f' : Nat → AVal} (h : ∀ j, j < n → ∀ x, Rel c (f j) x → Rel c (f' j) x) : ∀ x, Rel c (.agg n f) x → Rel c (.agg n f') x := fun x ⟨cs, h1, h2, h3⟩ => ⟨cs, h1, h2, fun j hj => h j hj _ (h3 j hj)⟩
theorem rel_ints {c : Cx} (x : Value) (h : Rel c .nils x) : Rel c (ints []) x := ⟨none, 0, h, Nat.le_refl _, .inl rfl⟩
theorem rel_rows {c : Cx} (x : Value) (h : Rel c .nils x) : Rel c (rowsC []) x := ⟨none, 0, h, Nat.le_refl _, .inl rfl⟩
def zE : Enc := ⟨0, 0, 0, []⟩
def partL (e : Enc) : List Int := if checkE e = 0 then classesE e else []
def partN (e : Enc) : Int := if checkE e = 0 then 0 else 1
def mergeX (e : Enc) : Enc := if checkE e = 0 then mergeE e else zE
theorem lt2 {j : Nat} (h : j < 2) : j = 0 ∨ j = 1 := by omega
theorem lt3 {j : Nat} (h : j < 3) : j = 0 ∨ j = 1 ∨ j = 2 := by omega
theorem lt4 {j : Nat} (h : j < 4) : j = 0 ∨ j = 1 ∨ j = 2 ∨ j = 3 := by omega
theorem part_rel {e : Enc} : ∀ c x, Rel c (partR e) x → Rel c (.tup 2 (fun j => [ints (partL e), .int .i64 (partN e)].getD j .any)) x := by
  intro c
  unfold partR partL partN
  by_cases h : checkE e = 0
  · rw [if_pos h, if_pos h, if_pos h]
    exact rel_tup fun j hj x hx => by rcases lt2 hj with rfl | rfl <;> exact hx
  · rw [if_neg h, if_neg h, if_neg h]
    exact rel_tup fun j hj x hx => by
      rcases lt2 hj with rfl | rfl
      · exact rel_ints x hx
      · exact hx
theorem merge_rel {e : Enc} : ∀ c x, Rel c (mergeR e) x → Rel c (.tup 3 (fun j => [.agg 4 (encF (mergeX e)), ints (partL e), .int .i64 (partN e)].getD j .any)) x := by
  intro c
  unfold mergeR partL partN mergeX
  by_cases h : checkE e = 0
  · rw [if_pos h, if_pos h, if_pos h, if_pos h]
    exact rel_tup fun j hj x hx => by rcases lt3 hj with rfl | rfl | rfl <;> exact hx
  · rw [if_neg h, if_neg h, if_neg h, if_neg h]
    exact rel_tup fun j hj x hx => by
      rcases lt3 hj with rfl | rfl | rfl
      · exact rel_agg (fun j hj x hx => by
          rcases lt4 hj with rfl | rfl | rfl | rfl
          · exact hx
          · exact hx
          · exact hx
          · exact rel_rows x hx) x hx
      · exact rel_ints x hx
      · exact hx
@[simp] theorem VLe_fn2 {h : Heap} {σ : Lift.Id → Lift.Id} {fz : Nat → Bool} {vz : Lift.Id → Bool} {nx l : Nat} {f f' : Nat → AVal} : VLe h σ fz vz nx (.fn l 2 f) (.fn l 2 f') = (VLe h σ fz vz nx (f 0) (f' 0) ∧ VLe h σ fz vz nx (f 1) (f' 1)) := by
  apply propext
  constructor
  · rintro ⟨_, _, h⟩
    exact ⟨h 0 (by omega), h 1 (by omega)⟩
  · rintro ⟨h0, h1⟩
    refine ⟨rfl, rfl, fun j hj => ?_⟩
    match j, hj with
    | 0, _ => exact h0
    | 1, _ => exact h1
@[simp] theorem VLe_vptr_ptr {h : Heap} {σ : Lift.Id → Lift.Id} {fz : Nat → Bool} {vz : Lift.Id → Bool} {y s off k off' : Nat} {id : Lift.Id} {f : Nat → AVal} : VLe h σ fz vz y (.vptr s f off) (.ptr id k off') = (off' = off ∧ fz id.1 = true ∧ match lkH h id with
    | some (.arr N s' g) => s' = s ∧ k < N ∧ ∀ j, j < s → (f j).one = true ∧ VLe h σ fz vz y (f j) (g k j)
    | _ => False) := by
  simp only [VLe]
  cases lkH h id with
  | none => rfl
  | some o => cases o <;> rfl
theorem app_last {F : Nat → Int} {s i : Nat} {c : Int} {w : Nat → Nat → AVal} (hi : i < s + 1) (h : F s = c) : app (fun j _ => .int .i64 (F j)) s (fun i j => if i = 0 ∧ j = 0 then .int .i64 c else w i j) i 0 = .int .i64 (F i) := by
  unfold app
  by_cases e : i < s
  · rw [if_pos e]
  · obtain rfl : i = s := by omega
    rw [if_neg e, Nat.sub_self, h]; rfl
end Go.Proofs.Ytmjkbidnghcfnaa
