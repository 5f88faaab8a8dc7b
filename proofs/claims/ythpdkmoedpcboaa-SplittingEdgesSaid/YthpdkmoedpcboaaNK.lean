/-
  Facts for the laws of chapter 24; proofs (graph, weights, rounds), and what following their rounds gives.
-/
import Derived.Test.YthpdkmoedpcboaaWP
namespace Go.Proofs.Ythpdkmoedpcboaa
set_option linter.unusedSimpArgs false
set_option linter.unusedVariables false
open Go Go.Lift Go.Proofs
section
variable {g : Gr} {v : List Int} {m : Int}
theorem cls_ok (h : cNo g v m = 0) : cLs g v m = cRd g v m g.states.toNat ∧ Rd g v m (cLs g v m) := by
  by_cases hb : baseN g v m = 0
  · by_cases hc : cRd g v m g.states.toNat = []
    · rw [(cNo_2 hb hc).1] at h; cases h
    · have e := (cNo_3 hb hc).2
      rw [e]
      exact ⟨rfl, cRd_ok (vecN_zero (eigN_zero (baseN_zero hb).1).1).1 (Nat.le_refl _), cRd_round hb hc⟩
  · exact absurd ((cNo_1 hb).1 ▸ h) hb
theorem apl_04 {l : List Spl} (hr : Rd g v m l) : aplN g v m l = 0 ∨ aplN g v m l = 4 := by
  by_cases h : 64 < offA g l g.states.toNat ∨ 1024 < (edA g l g.edges.length).length
  · exact .inr (apl_2 hr.rd h).2.2.2
  · exact .inl (apl_3 hr.rd h).2.2.2
theorem apl_z {l : List Spl} (hr : Rd g v m l) (h : aplN g v m l = 0) : aplG g v m l = splG g l ∧ aplW g v m l = hvA g v m l g.states.toNat ∧ aplP g v m l = parA g l g.states.toNat ∧ offA g l g.states.toNat ≤ 64 ∧ (edA g l g.edges.length).length ≤ 1024 := by
  by_cases hc : 64 < offA g l g.states.toNat ∨ 1024 < (edA g l g.edges.length).length
  · rw [(apl_2 hr.rd hc).2.2.2] at h; cases h
  · obtain ⟨e1, e2, e3, _⟩ := apl_3 hr.rd hc
    exact ⟨e1, e2, e3, by omega, by omega⟩
end
/-- rounds. -/
def rds (l : List (List Spl)) : AVal := vec 1 (fun (x : List Spl) _ => spls x) [] l
@[simp] theorem evLen_rds {h : Heap} {l : List (List Spl)} : evLen h (rds l) = some (.int .i64 l.length) := rfl
@[simp] theorem strip_rds {l : List (List Spl)} : strip (rds l) = (rds l, True) := rfl
@[simp] theorem mkOpt_rds {g : Bool} {l : List (List Spl)} : mkOpt g (rds l) = .opt g (rds l) := rfl
@[simp] theorem one_rds {l : List (List Spl)} : (rds l).one = true := rfl
@[simp] theorem acell_rds {l : List (List Spl)} {j : Nat} : acell (rds l) j = rds l := rfl
@[simp] theorem Clo_rds {l : List (List Spl)} : Clo (rds l) := Clo_vec fun x _ j hj => ⟨rfl, Clo_spls⟩
@[simp] theorem lenT_rds {T : Tab} {t : TypeId} {l : List (List Spl)} : lenT T t (rds l) = sliceT T t := lenT_vec
@[simp] theorem evIndexAddr_rds {T : Tab} {h : Heap} {t : TypeId} {k : IntKind} {m : Int} {l : List (List Spl)} : evIndexAddr T h t (rds l) (.int k m) = match elemT T t with
    | some ei => if 1 = ei.size then some (.vptr 1 (fun j => (fun (x : List Spl) _ => spls x) (l.getD m.toNat []) j) 0, 0 ≤ m ∧ m < (l.length : Int)) else none
    | none => none := evIndexAddr_vec
@[simp] theorem evSrc_rds {h : Heap} {l : List (List Spl)} : evSrc h 1 (rds l) = some (l.length, (fun i j => (fun (x : List Spl) _ => spls x) (l.getD i []) j), True) := by
  unfold rds
  rw [evSrc_vec rfl]
  rfl
@[simp] theorem evBin_rds {o : BinOp} {v : AVal} {l : List (List Spl)} : evBin o (rds l) v = none := rfl
@[simp] theorem evEq_rds {T : Tab} {t : TypeId} {l : List (List Spl)} : evEq T .eql t (rds l) .nils = if sliceT T t then some (.ub (l.length = 0)) else none := rfl
@[simp] theorem VLe_rds_nils {h : Heap} {σ : Lift.Id → Lift.Id} {fz : Nat → Bool} {vz : Lift.Id → Bool} {x : Nat} {l : List (List Spl)} : VLe h σ fz vz x (rds l) .nils = (l.length = 0) := rfl
@[simp] theorem VLe_rds_sl {h : Heap} {σ : Lift.Id → Lift.Id} {fz : Nat → Bool} {vz : Lift.Id → Bool} {y lo x' : Nat} {id : Lift.Id} {l : List (List Spl)} : VLe h σ fz vz y (rds l) (.sl id lo x') = (x' = l.length ∧ fz id.1 = true ∧ match lkH h id with
    | some (.arr N s' g') => s' = 1 ∧ lo + l.length ≤ N ∧ ∀ i, i < l.length → ∀ j, j < 1 → ((fun (x : List Spl) _ => spls x) (l.getD i []) j).one = true ∧ VLe h σ fz vz y ((fun (x : List Spl) _ => spls x) (l.getD i []) j) (g' (lo + i) j)
    | _ => False) := VLe_vsl_sl
@[simp] theorem VLe_rds_vsl {h : Heap} {σ : Lift.Id → Lift.Id} {fz : Nat → Bool} {vz : Lift.Id → Bool} {x' s' y : Nat} {g' : Nat → Nat → AVal} {l : List (List Spl)} : VLe h σ fz vz y (rds l) (.vsl x' s' g') = (x' = l.length ∧ s' = 1 ∧ ∀ i, i < l.length → ∀ j, j < 1 → ((fun (x : List Spl) _ => spls x) (l.getD i []) j).one = true ∧ VLe h σ fz vz y ((fun (x : List Spl) _ => spls x) (l.getD i []) j) (g' i j)) := rfl

@[simp] theorem ren_rds {ρ : Nat → Nat} {l : List (List Spl)} : ren ρ (rds l) = rds l := ren_vec fun _ _ => ren_spls

structure Prf where
  g : Gr
  w : List Int
  m : Int
  rounds : List (List Spl)
def prfF (p : Prf) (j : Nat) : AVal := match j with
  | 0 => .int .i64 p.g.labels
  | 1 => .int .i64 p.g.states
  | 2 => edgesC p.g.edges
  | 3 => ints p.w
  | 4 => .int .i64 p.m
  | _ => rds p.rounds
section
variable {p : Prf} {j : Nat} {ρ : Nat → Nat}
@[simp] theorem prfF0 : prfF p 0 = .int .i64 p.g.labels := rfl
@[simp] theorem prfF1 : prfF p 1 = .int .i64 p.g.states := rfl
@[simp] theorem prfF2 : prfF p 2 = edgesC p.g.edges := rfl
@[simp] theorem prfF3 : prfF p 3 = ints p.w := rfl
@[simp] theorem prfF4 : prfF p 4 = .int .i64 p.m := rfl
@[simp] theorem prfF5 : prfF p 5 = rds p.rounds := rfl
@[simp] theorem one_prfF : (prfF p j).one = true := by unfold prfF; split <;> rfl
@[simp] theorem Clo_prfF : Clo (prfF p j) := by unfold prfF; split <;> first | trivial | exact Clo_edgesC | exact Clo_ints | exact Clo_rds
@[simp] theorem ren_prfF : ren ρ (prfF p j) = prfF p j := by unfold prfF; split <;> first | rfl | exact ren_edgesC | exact ren_ints | exact ren_rds
end
section
variable {p : Prf}
/-- the rounds of a proof can be looked at. -/
def PrfOK (p : Prf) : Prop := ∀ l ∈ p.rounds, RndOK l
theorem PrfOK.at (h : PrfOK p) {i : Nat} : RndOK (p.rounds.getD i []) := by
  by_cases hi : i < p.rounds.length
  · exact h _ (getD_mem hi)
  · rw [List.getD_eq_getElem?_getD, List.getElem?_eq_none (Nat.le_of_not_lt hi)]
    exact ⟨Nat.zero_le _, fun x hx => (List.not_mem_nil hx).elim, fun x hx => (List.not_mem_nil hx).elim⟩
end
end Go.Proofs.Ythpdkmoedpcboaa
