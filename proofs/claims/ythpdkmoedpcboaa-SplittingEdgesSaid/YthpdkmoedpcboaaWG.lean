/-
  Walks: parts that divide a list, rounds checked, by the reference.
-/
import Derived.Test.YthpdkmoedpcboaaWF
namespace Go.Proofs.Ythpdkmoedpcboaa
set_option linter.unusedSimpArgs false
set_option linter.unusedVariables false
open Go Go.Lift Go.Proofs

@[simp] theorem luK3 {β : Type} {ev : β → AVal} {l : List (Int × β)} {k : Int} : luK T 3 (mpE intK ev l) 0 (.int .i64 k) = some ((alFind l 0 k).map fun p => (p.1, ev p.2)) := luK_intK (by simp)
@[simp high] theorem HLe_ib {h : Heap} {σ : Lift.Id → Lift.Id} {fz : Nat → Bool} {vz : Lift.Id → Bool} {nx : Nat} {l2 l : List (Int × Bool)} (e : l2 = l) : HLe h σ fz vz nx (.mp (mpE intK boolV l2)) (some (.mp (mpE intK boolV l))) = True := eq_true (HLe_mpE (ek := intK) (ev := boolV) (fun _ => trivial) (fun _ => trivial) e)
@[simp] theorem ren_mpI {σ : Nat → Nat} {l : List (Int × Bool)} : List.map (fun p => (ren σ p.1, ren σ p.2)) (mpE intK boolV l) = mpE intK boolV l := by
  conv => rhs; rw [← List.map_id (mpE intK boolV l)]
  refine List.map_congr_left fun p hp => ?_
  obtain ⟨q, _, rfl⟩ := List.mem_map.1 hp
  rfl
/-- what is seen. -/
def seenI (F : List Int) : List (Int × Bool) := F.map fun x => (x, true)
@[simp] theorem seenI_nil : seenI [] = [] := rfl
@[simp] theorem putK_ib {l : List (Int × Bool)} {k : Int} {v : Bool} : putK (mpE intK boolV l) ((alFind l 0 k).map fun p => (p.1, boolV p.2)) (.int .i64 k) (.bool v) = mpE intK boolV (alPut l k v) := putK_mpE (ek := intK) (ev := boolV) l k v
theorem outA_asc {g : Gr} {s : Int} : ∀ i, (outA g s i).Pairwise (· < ·)
  | 0 => List.Pairwise.nil
  | i + 1 => by
    rw [outA_succ, List.pairwise_append]
    refine ⟨outA_asc i, by split <;> simp, fun a ha b hb => ?_⟩
    obtain ⟨j, hj, rfl, _⟩ := outA_mem.1 ha
    split at hb
    · have := List.mem_singleton.1 hb; omega
    · cases hb
theorem asc_nodup {l : List Int} (h : l.Pairwise (· < ·)) : l.Nodup := h.imp fun h => by omega
theorem srt_of {a b : List Int} (hb : b.Pairwise (· < ·)) (h : a.Perm b) : srtI a = b := by
  have h1 : (srtI a).Perm b := srtI_perm.trans h
  refine h1.eq_of_pairwise (le := fun x y => x ≤ y) (fun x y _ _ h1 h2 => by omega) srtI_asc (hb.imp fun h => by omega)
open Classical in
theorem sorted_if {l : List Int} (h : SortedI l) : sortedB l = true := by
  unfold sortedB
  exact decide_eq_true h
section
variable {L : List (List Int)} {l : List Int}
end
end Go.Proofs.Ythpdkmoedpcboaa
