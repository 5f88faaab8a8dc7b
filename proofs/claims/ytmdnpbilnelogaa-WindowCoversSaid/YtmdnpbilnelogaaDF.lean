/-
  The contract of slices.Delete of one entry.
-/
import Derived.Test.YtmdnpbilnelogaaDE
import Derived.Test.YtmdnpbilnelogaaSE
import Derived.Test.YtmdnpbilnelogaaNE
namespace Go.Proofs.Ytmdnpbilnelogaa
set_option linter.unusedSimpArgs false
set_option linter.unusedVariables false
open Go Go.Lift Go.Proofs Go.Sort Go.Shelf Go.Lib

theorem lay_two {cs zs : List Value} {i j n : Nat} (hcs : cs.length = n * 2) (hj : j = i + 1) (hi : i < n) (hz : zs.length = 2) : lay (lay cs.toArray (i * 2) (cs.drop (j * 2))) ((n - 1) * 2) zs = (cs.take (i * 2) ++ cs.drop (j * 2) ++ zs).toArray := by
  have hs : cs.toArray.size = n * 2 := by simpa using hcs
  have hd : (cs.drop (j * 2)).length = n * 2 - j * 2 := by rw [List.length_drop, hcs]
  have ht : (cs.take (i * 2)).length = i * 2 := by rw [List.length_take, hcs]; omega
  apply Array.ext_getElem?
  intro t
  rw [lay_get? _ _ _ _ (by rw [lay_size, hs, hz]; omega), lay_get? _ _ _ _ (by rw [hs, hd]; omega), List.getElem?_toArray, List.getElem?_toArray, hd, hz]
  by_cases h1 : t < i * 2
  · rw [if_neg (by omega), if_neg (by omega), List.append_assoc, List.getElem?_append_left (by omega), List.getElem?_take_of_lt h1]
  · by_cases h2 : t < (n - 1) * 2
    · rw [if_neg (by omega), if_pos (by omega), List.append_assoc, List.getElem?_append_right (by omega), ht, List.getElem?_append_left (by omega)]
    · rw [List.getElem?_append_right (by rw [List.length_append]; omega), List.length_append, ht, hd]
      have e : t - (i * 2 + (n * 2 - j * 2)) = t - (n - 1) * 2 := by omega
      rw [e]
      by_cases h3 : t < (n - 1) * 2 + 2
      · rw [if_pos (by omega)]
      · rw [if_neg (by omega), if_neg (by omega), List.getElem?_eq_none (by omega), List.getElem?_eq_none (by omega)]
def flE (l : List Ent) : List Value := l.flatMap encE
theorem flE_len : ∀ {l : List Ent}, (flE l).length = l.length * 2
  | [] => rfl
  | x :: l => by
    have := flE_len (l := l)
    simp only [flE, List.flatMap_cons, List.length_append] at this ⊢
    rw [this]
    simp only [encE, List.length_cons, List.length_nil]
    omega
theorem flE_take : ∀ {l : List Ent} {i : Nat}, (flE l).take (i * 2) = flE (l.take i)
  | [], i => by simp [flE]
  | x :: l, 0 => by simp [flE]
  | x :: l, i + 1 => by
    have := flE_take (l := l) (i := i)
    have e : (i + 1) * 2 = i * 2 + 1 + 1 := by omega
    rw [e]
    simp only [flE, List.flatMap_cons, List.take_succ_cons, encE, List.cons_append, List.nil_append] at this ⊢
    rw [← this]
theorem flE_drop : ∀ {l : List Ent} {i : Nat}, (flE l).drop (i * 2) = flE (l.drop i)
  | [], i => by simp [flE]
  | x :: l, 0 => by simp [flE]
  | x :: l, i + 1 => by
    have := flE_drop (l := l) (i := i)
    have e : (i + 1) * 2 = i * 2 + 1 + 1 := by omega
    rw [e]
    simp only [flE, List.flatMap_cons, List.drop_succ_cons, encE, List.cons_append, List.nil_append] at this ⊢
    exact this
theorem flE_get : ∀ {l : List Ent} {q j : Nat}, q < l.length → j < 2 → (flE l)[q * 2 + j]? = some ((encE (l.getD q den))[j]!)
  | [], q, j, h, _ => absurd h (Nat.not_lt_zero _)
  | x :: l, 0, j, _, hj => by
    rcases (show j = 0 ∨ j = 1 by omega) with rfl | rfl <;> rfl
  | x :: l, q + 1, j, h, hj => by
    have := flE_get (l := l) (q := q) (by simpa using h) hj
    have e : (q + 1) * 2 + j = (q * 2 + j) + 1 + 1 := by omega
    rw [e]
    simp only [flE, List.flatMap_cons, encE, List.cons_append, List.nil_append, List.getElem?_cons_succ, List.getD_cons_succ] at this ⊢
    exact this
theorem flE_one {l : List Ent} : ∀ u ∈ flE l, u.oneCell' = true := fun u hu => by
  obtain ⟨x, _, hx⟩ := List.mem_flatMap.1 hu
  simp [encE] at hx
  rcases hx with rfl | rfl <;> rfl
theorem flE_less {l : List Ent} {i j : Nat} (hj : j = i + 1) : (flE l).take (i * 2) ++ (flE l).drop (j * 2) ++ [.string ⟨⟨[]⟩⟩, .int .i64 0] = flE (lessL l i ++ [den]) := by
  rw [flE_take, flE_drop, hj]
  unfold flE lessL
  rw [List.flatMap_append, List.flatMap_append]
  rfl
theorem lessL_len {l : List Ent} {i : Nat} (hi : i < l.length) : (lessL l i).length = l.length - 1 := by
  unfold lessL
  rw [List.length_append, List.length_take, List.length_drop]; omega
set_option maxHeartbeats 1000000 in
theorem delE_0 (l : List Ent) (i : Nat) (hi : i < l.length) (hl : l.length ≤ 1000000) :
    FC1 Try.prog 31 [.sl (0, 0) 0 l.length, .int .i64 (i : Nat), .int .i64 ((i : Int) + 1)] (hinE l) 1 (.sl (0, 0) 0 (l.length - 1)) [(0, .one (.arr l.length 2 (fun q j => entF ((lessL l i ++ [den]).getD q den) j)))] 1 := by
  intro O w mu vals hk hargs
  match vals, hargs with
  | [v0, v1, v2], ⟨r0, r1, r2, _⟩ =>
  obtain ⟨_, A, cap, rfl, hcap, hA⟩ := r0
  obtain ⟨B, hB0, rfl, hsz⟩ := hA.resolve_left (by omega)
  have hB : mu (0, 0) = some B := hB0
  obtain rfl : v1 = .int .i64 (i : Nat) := r1
  obtain rfl : v2 = .int .i64 ((i : Int) + 1) := r2
  have hlk : lkH (hinE l) (0, 0) = some (.arr l.length 2 (fun i j => entF (l.getD i den) j)) := rfl
  have hobj := (hk.obj (0, 0) _ hlk).2
  rw [hB] at hobj
  obtain ⟨hs, cells, T, hheap0, hcsz, hbd, hcell⟩ := hobj
  have hheap : w.heap[B.b]? = some (.cells cells T (0, 0)) := hheap0
  have hown := hk.own (0, 0) _ B hlk hB
  have hat : ∀ t, t < l.length * 2 → cells[B.o + t]? = (flE l)[t]? := fun t ht => by
    obtain ⟨_, v, hv, hr⟩ := hcell (t / 2) (by omega) (t % 2) (Nat.mod_lt _ (by omega))
    have := encE_at _ (Nat.mod_lt _ (by omega)) hr
    rw [this, Nat.add_assoc, show t / 2 * 2 + t % 2 = t by omega] at hv
    have h2 := flE_get (l := l) (q := t / 2) (j := t % 2) (by omega) (Nat.mod_lt _ (by omega))
    rw [show t / 2 * 2 + t % 2 = t by omega] at h2
    rw [h2]; exact hv
  have hfl := flE_len (l := l)
  have hH : ∀ t, t < l.length * 2 → w.cell? ⟨B.b, B.o + t, none⟩ = some ((flE l).getD t undef) := fun t ht => by
    unfold World.cell?
    simp only [hheap, Option.isSome_none]
    show cells[B.o + t]? = _
    rw [hat t ht, List.getElem?_eq_getElem (by omega)]
    simp [List.getD, show t < (flE l).length by omega]
  have hF : ∀ t, t < l.length * 2 → w.frozen? ⟨B.b, B.o + t, none⟩ = false := fun t ht => by
    unfold World.frozen?
    simp only [hheap]
    simp
  have hblk : B.b < w.heap.size := hown.1
  have hHolds : Holds (fun v : Value => v) w B.b B.o (flE l).toArray := fun t ht => by
    have ht' : t < (flE l).length := by simpa using ht
    refine ⟨?_, hF t (by omega)⟩
    rw [hH t (by omega)]
    simp [List.getD, ht']
  have key := delE_raw B.b B.o cap l.length i (i + 1) rfl w (flE l) hfl hH hF flE_one hi hcap
  show Calls Try.prog 31 #[.slice (some ⟨B.b, B.o + 0 * B.s, none⟩) l.length cap, .int .i64 (i : Nat), .int .i64 ((i : Int) + 1)] w _
  rw [Nat.zero_mul, Nat.add_zero]
  refine key.mono ?_
  rintro e w' ⟨rfl, hw'⟩
  obtain ⟨L, hL⟩ : ∃ L, L = lessL l i ++ [den] := ⟨_, rfl⟩
  have hLl : L.length = l.length := by rw [hL, List.length_append, lessL_len hi]; simp; omega
  obtain ⟨D, hD⟩ : ∃ D, D = (flE L).toArray := ⟨_, rfl⟩
  have hDs : D.size = l.length * 2 := by rw [hD]; simp [flE_len, hLl]
  have hput : w' = putRow (fun v : Value => v) (Go.Sort.ahead w 1) B.b B.o D := by
    rw [hw', hD, hL, ← flE_less rfl, ← lay_two hfl rfl hi rfl]
    have h1 := putRow_setCells (fun v : Value => v) (Go.Sort.ahead w 1) B.b B.o ((flE l).drop ((i + 1) * 2)) (flE l).toArray (i * 2) (by rw [List.length_drop, hfl]; simp [hfl]; omega)
    have h2 := putRow_setCells (fun v : Value => v) (Go.Sort.ahead w 1) B.b B.o [.string ⟨⟨[]⟩⟩, .int .i64 0] (lay (flE l).toArray (i * 2) ((flE l).drop ((i + 1) * 2))) ((l.length - 1) * 2) (by rw [lay_size]; simp [hfl]; omega)
    rw [← h2, ← h1, putRow_self _ _ _ _ _ (holds_ahead _ w 1 B.b B.o _ hHolds)]
    simp only [List.map_id']
    rfl
  clear hw'
  subst hput
  have hrow : (putRow (fun v : Value => v) (Go.Sort.ahead w 1) B.b B.o D).heap[B.b]? = some (.cells (putCells (fun v : Value => v) B.o D cells) T (0, 0)) := by
    show (w.heap.modify B.b _)[B.b]? = _
    rw [Array.getElem?_modify, if_pos rfl, hheap]
    rfl
  have hoth : ∀ (b : Nat), b < w.heap.size → b ≠ B.b → (putRow (fun v : Value => v) (Go.Sort.ahead w 1) B.b B.o D).heap[b]? = w.heap[b]? := fun b hb hne => by
    show (w.heap.modify B.b _)[b]? = _
    rw [Array.getElem?_modify, if_neg (Ne.symm hne)]
  have hsize : w.heap.size ≤ (putRow (fun v : Value => v) (Go.Sort.ahead w 1) B.b B.o D).heap.size := by
    simp [putRow, mapBlock, Go.Sort.ahead]
  refine ⟨_, (), mu, rfl, trivial, Nat.le_refl _, fun _ _ => rfl, ?_, ⟨Nat.lt_succ_self _, _, _, rfl, by omega, .inr ⟨B, hB, by rw [Nat.zero_mul, Nat.add_zero], by simpa using hsz⟩⟩⟩
  rw [← hL]
  refine ⟨fun id o h => ?_, fun id id' o o' B1 B2 h1 h2 _ _ _ => ?_, fun id o B1 h1 h2 => ?_, ?_, hk.out, fun id t B1 ht => by rw [ty_oneE] at ht; cases ht⟩
  · obtain ⟨rfl, rfl⟩ := lk_hinE h
    refine ⟨Nat.lt_succ_self _, ?_⟩
    show HRel _ (mu (0, 0)) _
    rw [hB]
    refine ⟨hs, _, T, hrow, ?_, hbd, fun q hq j hj => ⟨one_entF, _, ?_, encE_rel _ hj _⟩⟩
    · simp [putCells]; exact hcsz
    · have hbd' : B.o + l.length * 2 ≤ cells.size := by rw [hcsz]; exact hbd
      unfold putCells
      rw [Array.getElem?_mapIdx, Array.getElem?_eq_getElem (show B.o + q * 2 + j < cells.size by omega)]
      simp only [Option.map_some]
      rw [if_pos (by omega)]
      rw [show B.o + q * 2 + j - B.o = q * 2 + j by omega]
      have h2 := flE_get (l := L) (q := q) (j := j) (by omega) hj
      have h3 : q * 2 + j < D.size := by omega
      rw [getElem!_pos D _ h3, ← h2, ← List.getElem?_toArray, ← hD, Array.getElem?_eq_getElem h3]
  · rw [(lk_hinE h1).1, (lk_hinE h2).1]
  · obtain ⟨rfl, rfl⟩ := lk_hinE h1
    have e : B1 = B := by rw [hB] at h2; injection h2 with h2; exact h2.symm
    subst e
    exact ⟨Nat.lt_of_lt_of_le hblk hsize, hown.2⟩
  · refine ⟨rfl, rfl, rfl, by simp [putRow, mapBlock, Go.Sort.ahead], hsize, fun b hb hmt => hoth b hb fun e => hmt ⟨(0, 0), _, B, hlk, hB, e.symm⟩⟩
theorem delE_c (l : List Ent) (i : Nat) (hi : i < l.length) (hl : l.length ≤ 1000000) :
    FC1 Try.prog 31 [.sl (0, 0) 0 l.length, .int .i64 (i : Nat), .int .i64 ((i : Int) + 1)] [(0, .one (.arr l.length 2 (fun i j => entF (l.getD i den) j)))] 1 (.sl (0, 0) 0 (l.length - 1)) [(0, .one (.arr l.length 2 (fun q j => entF ((lessL l i ++ [den]).getD q den) j)))] 1 := delE_0 l i hi hl
end Go.Proofs.Ytmdnpbilnelogaa
