/-
  slices.Delete of one entry, as it runs.
-/
import Derived.Shelf.Slices.Delete
import Derived.Laws.IdiomCopy
import Derived.KernelRfl
import Derived.Test.YtmdnpbilnelogaaProg
namespace Go.Proofs.Ytmdnpbilnelogaa
set_option linter.unusedSimpArgs false
set_option linter.unusedVariables false
open Go Go.Proofs Go.Lib Go.Shelf Go.RowKit

theorem run_clear_two {P : Program} (w : World) (t e ty : TypeId) (z a b : Value) (ht : P.underlying t = some (.slice e)) (hv : ∀ w, (zeroValue e).run P w = .ok z w) (hz : z.cells = #[a, b]) (ha : a.oneCell' = true) (hb : b.oneCell' = true) (g o c : Nat)
    (hc : ∀ j, j < 2 → (w.cell? ⟨g, o + j, none⟩).isSome = true) (hf : ∀ j, j < 2 → w.frozen? ⟨g, o + j, none⟩ = false) :
    (Builtin.clear_ #[t] ty #[.slice (some ⟨g, o, none⟩) 1 c]).run P w = .ok (.tuple #[]) (w.setCells g o [a, b]) := by
  have hzc : (Builtin.zeroCells z.cells 1).toList = [a, b] := by
    rw [hz]
    simp [Builtin.zeroCells, show Array.range 2 = #[0, 1] from rfl]
  have hst := run_storeCells_cells (P := P) g o [a, b] 0 w (by simpa using hc) (by simpa using hf) (by intro v hv'; simp at hv'; rcases hv' with rfl | rfl <;> assumption)
  simp only [Nat.add_zero] at hst
  simp [Builtin.clear_, run_underlying ht, hv, hzc, hst]

set_option maxHeartbeats 4000000 in
set_option maxRecDepth 1000000 in
theorem delE_raw (blk off cap n i j : Nat) (hji : j = i + 1) (w : World) (cs : List Value) (hcs : cs.length = n * 2) (hH : ∀ t, t < n * 2 → w.cell? ⟨blk, off + t, none⟩ = some (cs.getD t undef)) (hF : ∀ t, t < n * 2 → w.frozen? ⟨blk, off + t, none⟩ = false) (h1 : ∀ u ∈ cs, u.oneCell' = true)
    (hi : i < n) (hcap : n ≤ cap) :
    Calls Try.prog 31 #[.slice (some ⟨blk, off, none⟩) n cap, .int .i64 i, .int .i64 j] w fun e w' => e = .returned (.slice (some ⟨blk, off, none⟩) (n - 1) cap) ∧
      w' = (w.drew.setCells blk (off + i * 2) (cs.drop (j * 2))).setCells blk (off + (n - 1) * 2) [.string ⟨⟨[]⟩⟩, .int .i64 0] := by
  obtain ⟨news, hnews⟩ : ∃ news, news = cs.drop (j * 2) := ⟨_, rfl⟩
  have hlen : news.length = (n - j) * 2 := by rw [hnews, List.length_drop, hcs]; omega
  have hget : ∀ t, t < (n - j) * 2 → news[t]? = some (cs.getD (j * 2 + t) undef) := by
    intro t ht
    rw [hnews, List.getElem?_drop, List.getElem?_eq_getElem (by omega)]
    simp [List.getD, show j * 2 + t < cs.length by omega]
  obtain ⟨A, hA, hsrc⟩ : ∃ A : Addr, (if cap = j then some (⟨blk, off, none⟩ : Addr) else some ⟨blk, off + j * 2, none⟩) = some A ∧ Hid (∀ t u, news[t]? = some u → w.drew.cell? (A.add t) = some u) := by
    by_cases h : cap = j
    · refine ⟨⟨blk, off, none⟩, by simp [h], fun t u hu => ?_⟩
      have h0 : news.length = 0 := by rw [hlen]; omega
      rw [List.length_eq_zero_iff.1 h0] at hu
      simp at hu
    · refine ⟨⟨blk, off + j * 2, none⟩, by simp [h], fun t u hu => ?_⟩
      have ht : t < (n - j) * 2 := by
        have := (List.getElem?_eq_some_iff.1 hu).1
        rwa [hlen] at this
      rw [hget t ht] at hu
      rw [Addr.add_lit, show off + j * 2 + t = off + (j * 2 + t) by omega]
      exact (hH (j * 2 + t) (by omega)).trans hu
  have s1 : Hid (news.length = (n - j) * 2) := hlen
  have s2 : Hid (∀ u ∈ news, u.oneCell' = true) := fun u hu => by
    rw [hnews] at hu
    exact h1 u (List.mem_of_mem_drop hu)
  have s3 : Hid (∀ t, t < news.length → (w.drew.cell? ⟨blk, off + i * 2 + t, none⟩).isSome = true ∧ w.drew.frozen? ⟨blk, off + i * 2 + t, none⟩ = false) := by
    intro t ht
    rw [hlen] at ht
    rw [Nat.add_assoc]
    exact ⟨by show (w.cell? _).isSome = true; rw [hH (i * 2 + t) (by omega)]; rfl, hF (i * 2 + t) (by omega)⟩
  obtain ⟨W1, hW1⟩ : ∃ W1, W1 = w.drew.setCells blk (off + i * 2) news := ⟨_, rfl⟩
  have hcl : ∀ ty, (Builtin.clear_ #[27] ty #[.slice (some ⟨blk, off + (i + (n - j)) * 2, none⟩) (n - (i + (n - j))) (cap - (i + (n - j)))]).run Try.prog W1 = .ok (.tuple #[]) (W1.setCells blk (off + (i + (n - j)) * 2) [.string ⟨⟨[]⟩⟩, .int .i64 0]) := fun ty => by
    have e1 : n - (i + (n - j)) = 1 := by omega
    rw [e1]
    refine run_clear_two W1 _ _ ty (.agg #[.string ⟨⟨[]⟩⟩, .int .i64 0]) _ _ Try.underlying27 Try.zeroValue55 rfl rfl rfl blk _ _ (fun u hu => ?_) (fun u hu => ?_)
    · have hy : off + (i + (n - j)) * 2 + u = off + ((n - 1) * 2 + u) := by omega
      rw [hy, hW1]
      rw [World.cell?_setCells_out]
      · show (w.cell? _).isSome = true
        rw [hH ((n - 1) * 2 + u) (by omega)]; rfl
      · intro _ _
        right
        rw [hlen]
        show off + i * 2 + (n - j) * 2 ≤ off + ((n - 1) * 2 + u)
        omega
    · have hy : off + (i + (n - j)) * 2 + u = off + ((n - 1) * 2 + u) := by omega
      rw [hy, hW1, World.frozen?_setCells]
      exact hF ((n - 1) * 2 + u) (by omega)
  have hW : Hid (W1 = w.drew.setCells blk (off + i * 2) news) := hW1
  have X : Aside (news = cs.drop (j * 2)) := hnews
  have Y : Aside (W1 = w.drew.setCells blk (off + i * 2) news) := hW1
  have hic : i ≤ cap := by omega
  have hjc : j ≤ cap := by omega
  have hjn : j ≤ n := by omega
  have hij : i ≤ j := by omega
  have hin : i ≤ n := by omega
  have heq : ¬ i = j := by omega
  have mixed : Try.prog.follows .mixedOrders = true := by decide +kernel
  obtain ⟨i0, hi0, hz1⟩ : ∃ i0, Try.prog.info? 55 = some i0 ∧ i0.size = 2 := ⟨_, rfl, rfl⟩
  have Z : Aside (j = i + 1) := hji
  clear hW1 hget hnews hlen hH hF hji hcs hi
  go_enter Try.func31, Try.ntmps31
  go_wp2_with fail
  go_region_law_o (refine step_append_room rfl (.tmp 22) (.tmp 25) 27 rfl 55 i0 2 Try.underlying27 hi0 hz1 blk off i cap (by simp [Act.eval, Act.put]) A (n - j) (cap - j) news (by simp [Act.eval, Act.put]) s1.out hsrc.out s2.out (by omega) s3.out ?_; rw [← hW.out])
  go_wp2
  go_ret
  have e : i + (n - j) = n - 1 := by have := Z.out; omega
  refine ⟨by rw [← e]; rfl, ?_⟩
  rw [e, Y.out, X.out]
end Go.Proofs.Ytmdnpbilnelogaa
