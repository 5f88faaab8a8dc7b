/-
  The abstract layer, part E: append.
-/
import Derived.Test.YtmjkbidnghcfnaaLD
namespace Go.Lift
set_option linter.unusedSimpArgs false
set_option linter.unusedVariables false
open Go.RowKit

section
variable {P : Program} (w : World)

/-- what is appended: m elements, whose cells are news. -/
structure Src (P : Program) (w : World) (size : Nat) (y : Value) (m : Nat) (news : List Value) : Prop where
  len : ∀ w' : World, (Builtin.lenOf y).run P w' = .ok m w'
  cells : ∀ w' : World, (∀ a, w'.cell? a = w.cell? a) → (Builtin.firstCells size m y).run P w' = .ok news.toArray w'
  size : news.length = m * size
  one : ∀ u ∈ news, u.oneCell' = true

theorem run_append_room_gen (t u ty e : TypeId) (i : TypeInfo) (d : TypeDesc) (ht : P.underlying t = some (.slice e)) (hu : P.underlying u = some d) (hd : (∃ e', d = .slice e') ∨ d = .string) (hi : P.info? e = some i)
    (A : Option Addr) (n cap m : Nat) (y : Value) (news : List Value) (hs : Src P w i.size y m news) (hroom : n + m ≤ cap)
    (b off : Nat) (T : TypeId) (cur : Array Value) (hA : m = 0 ∨ (A = some ⟨b, off, none⟩ ∧ w.heap[b]? = some (.cells cur T (0, 0)) ∧ off + n * i.size + news.length ≤ cur.size)) :
    (Builtin.append_ #[t, u] ty #[.slice A n cap, y]).run P w = .ok (.slice A (n + m) cap)
      (if m = 0 then w else w.setRow b (cur.toList.take (off + n * i.size) ++ news ++ cur.toList.drop (off + n * i.size + news.length)).toArray) := by
  have hc := hs.cells w (fun _ => rfl)
  have hl := hs.len w
  by_cases hm : m = 0
  · subst hm
    have hn : news = [] := List.eq_nil_of_length_eq_zero (by simpa using hs.size)
    subst hn
    have hroom' : n ≤ cap := hroom
    rcases hd with ⟨e', rfl⟩ | rfl <;> cases A with
    | none => simp [Builtin.append_, run_underlying ht, run_underlying hu, sizeOf, typeInfo, hi, hl, hroom', hc]
    | some a => simp [Builtin.append_, run_underlying ht, run_underlying hu, sizeOf, typeInfo, hi, hl, hroom', hc, storeCells]
  · rcases hA with h0 | ⟨rfl, hb, hfit⟩
    · exact absurd h0 hm
    · have hst := run_storeCells_at P b (off + n * i.size) T news 0 cur w hb (by omega) hs.one
      simp only [Nat.add_zero] at hst
      rcases hd with ⟨e', rfl⟩ | rfl <;>
        simp [Builtin.append_, run_underlying ht, run_underlying hu, sizeOf, typeInfo, hi, hl, hroom, hc, Addr.add_lit, hst, hm]

theorem run_append_grow_gen (t u ty e : TypeId) (i : TypeInfo) (z : Value) (d : TypeDesc) (ht : P.underlying t = some (.slice e)) (hu : P.underlying u = some d) (hd : (∃ e', d = .slice e') ∨ d = .string)
    (hi : P.info? e = some i) (hz : i.zero = some z)
    (A : Option Addr) (n cap m : Nat) (y : Value) (olds news : List Value) (hs : Src P w i.size y m news) (hg : cap < n + m)
    (ho : ∀ w' : World, (∀ a, w'.cell? a = w.cell? a) → (Builtin.firstCells i.size n (.slice A n cap)).run P w' = .ok olds.toArray w')
    (h63 : ((n + m : Nat) : Int) ≤ 9223372036854775807) (hfit : Builtin.nextslicecap (n + m) cap * i.bytes ≤ 281474976710656) :
    (Builtin.append_ #[t, u] ty #[.slice A n cap, y]).run P w = .ok (.slice (some ⟨w.heap.size, 0, none⟩) (n + m) (grownCap w (n + m) cap e))
      (w.drew.alloc (.cells (olds.toArray ++ news.toArray ++ Builtin.zeroCells z.cells (grownCap w (n + m) cap e - (n + m))) e)) := by
  have hl := hs.len w
  have hc := hs.cells w.drew (fun _ => rfl)
  have ho' := ho w.drew (fun _ => rfl)
  have h1 : ¬ (n + m ≤ cap) := by omega
  have h3 : ¬ (281474976710656 < Builtin.nextslicecap (n + m) cap * i.bytes) := by omega
  have h2' : ¬ (9223372036854775807 < (n : Int) + (m : Int)) := by omega
  rcases hd with ⟨e', rfl⟩ | rfl <;>
  · simp [Builtin.append_, run_underlying ht, run_underlying hu, sizeOf, typeInfo, hi, zeroValue, hz, hl, h1, h2', h3, grownCap, newRow, Question.forced, hc, ho']
    congr 2
    apply Array.ext'
    simp [List.append_assoc]

end
end Go.Lift
