/-
  slices.Delete of one element of a []int, as a contract of the abstract layer. The walk goes as the shelf's, without a bound on the capacity.
-/
import Derived.Test.YtmjkbidnghcfnaaProg
import Derived.Shelf.SlicesG.Delete
import Derived.KernelRfl
import Derived.Test.YtmjkbidnghcfnaaPN
namespace Go.Proofs.Ytmjkbidnghcfnaa
set_option linter.unusedVariables false
open Go Go.Proofs Go.Lift Go.RowKit Go.Sort Go.Lib Go.Shelf
def delRen : Go.Shelf.Ren := ⟨fun | 45 => 51 | n => n, fun | 22 => 27 | 23 => 3 | n => n, fun n => n⟩
theorem delLay : SlLaysN.n45 Try.prog delRen := {
  mixed := by kernel_rfl,
  f45 := ⟨Try.f51.name, by decide, Try.func51.trans (congrArg some (by kernel_rfl))⟩,
  t0 := Try.underlying0,
  a0 := Try.isAgg0,
  z0 := Try.sizeOf0,
  v0 := Try.zeroValue0,
  t3 := Try.underlying3,
  a3 := Try.isAgg3,
  z3 := Try.sizeOf3,
  v3 := Try.zeroValue3,
  t4 := Try.underlying4,
  a4 := Try.isAgg4,
  z4 := Try.sizeOf4,
  v4 := Try.zeroValue4,
  t22 := Try.underlying27,
  a22 := Try.isAgg27,
  z22 := Try.sizeOf27,
  v22 := Try.zeroValue27,
  t23 := Try.underlying3,
  a23 := Try.isAgg3,
  z23 := Try.sizeOf3,
  v23 := Try.zeroValue3,
  i23 := by kernel_rfl }

section
variable {P : Program} {ρ : Ren}
set_option maxHeartbeats 4000000 in
set_option maxRecDepth 1000000 in
theorem del_run (L : SlLaysN.n45 P ρ) (blk off cap i : Nat) (d : Array Int) (w : World) (hH : Holds encI w blk off d) (hcap : d.size ≤ cap) (hi : i < d.size) :
    Calls P (ρ.f 45) #[.slice (some ⟨blk, off, none⟩) d.size cap, .int .i64 i, .int .i64 (i + 1 : Nat)] w fun e w' => e = .returned (.slice (some ⟨blk, off, none⟩) (d.size - 1) cap) ∧ ∃ q, w' = putRow encI (Sort.ahead w q) blk off (d.toList.take i ++ d.toList.drop (i + 1) ++ List.replicate 1 0).toArray := by
  have mixed := L.mixed; have t0 := L.t0; have a0 := L.a0; have z0 := L.z0; have v0 := L.v0; have t3 := L.t3; have a3 := L.a3; have z3 := L.z3; have v3 := L.v3; have t4 := L.t4; have a4 := L.a4; have z4 := L.z4; have v4 := L.v4; have t22 := L.t22; have a22 := L.a22; have z22 := L.z22; have v22 := L.v22; have t23 := L.t23; have a23 := L.a23; have z23 := L.z23; have v23 := L.v23
  obtain ⟨i0, hi0, hz0, hz1, hz2⟩ := info_parts L.i23
  obtain ⟨j, hj⟩ : ∃ j, j = i + 1 := ⟨_, rfl⟩
  rw [← hj]
  obtain ⟨news, hnews⟩ : ∃ news, news = (d.toList.drop j).map encI := ⟨_, rfl⟩
  have hlen : news.length = d.size - j := by rw [hnews]; simp
  have hget : ∀ t, t < d.size - j → news[t]? = some (encI d[j + t]!) := by
    intro t ht
    rw [hnews, List.getElem?_map, List.getElem?_drop, Array.getElem?_toList, getElem!_pos d (j + t) (by omega), Array.getElem?_eq_getElem (by omega)]
    rfl
  obtain ⟨A, hA, hsrc⟩ : ∃ A : Addr, (if cap = j then some (⟨blk, off, none⟩ : Addr) else some ⟨blk, off + j, none⟩) = some A ∧ Hid (∀ t u, news[t]? = some u → w.drew.cell? (A.add t) = some u) := by
    by_cases h : cap = j
    · refine ⟨⟨blk, off, none⟩, by simp [h], fun t u hu => ?_⟩
      have h0 : news.length = 0 := by rw [hlen]; omega
      rw [List.length_eq_zero_iff.1 h0] at hu
      simp at hu
    · refine ⟨⟨blk, off + j, none⟩, by simp [h], fun t u hu => ?_⟩
      have ht : t < d.size - j := by
        have := (List.getElem?_eq_some_iff.1 hu).1
        rwa [hlen] at this
      rw [hget t ht] at hu
      rw [Addr.add_lit, show off + j + t = off + (j + t) by omega]
      exact (hH (j + t) (by omega)).1.trans hu
  have s1 : Hid (news.length = (d.size - j) * 1) := by rw [Nat.mul_one]; exact hlen
  have s2 : Hid (∀ u ∈ news, u.oneCell' = true) := by
    intro u hu
    rw [hnews] at hu
    obtain ⟨x, _, rfl⟩ := List.mem_map.1 hu
    rfl
  have s3 : Hid (∀ t, t < news.length → (w.drew.cell? ⟨blk, off + i * 1 + t, none⟩).isSome = true ∧ w.drew.frozen? ⟨blk, off + i * 1 + t, none⟩ = false) := by
    intro t ht
    rw [hlen] at ht
    rw [Nat.mul_one, Nat.add_assoc]
    exact ⟨by show (w.cell? _).isSome = true; rw [(hH (i + t) (by omega)).1]; rfl, (hH (i + t) (by omega)).2⟩
  obtain ⟨W1, hW1⟩ : ∃ W1, W1 = w.drew.setCells blk (off + i * 1) news := ⟨_, rfl⟩
  have hW1' : W1 = putRow encI (Sort.ahead w 1) blk off (lay d i (d.toList.drop j)) := by
    rw [hW1, hnews, Nat.mul_one, ← putRow_setCells encI (Sort.ahead w 1) blk off _ d i (by simp; omega), putRow_self encI (Sort.ahead w 1) blk off d (holds_ahead encI w 1 blk off d hH)]
    rfl
  have hH1 : Holds encI W1 blk off (lay d i (d.toList.drop j)) := by rw [hW1']; exact holds_putRow encI _ blk off d _ (holds_ahead encI w 1 blk off d hH) (lay_size _ _ _)
  have hcl : ∀ ty, (Builtin.clear_ #[ρ.t 22] ty #[.slice (some ⟨blk, off + (i + (d.size - j)), none⟩) (d.size - (i + (d.size - j))) (cap - (i + (d.size - j)))]).run P W1 = .ok (.tuple #[]) (W1.setCells blk (off + (i + (d.size - j))) (List.replicate (d.size - (i + (d.size - j))) (encI 0))) :=
    fun ty => Lib.run_clear_slice W1 _ _ ty _ t22 v23 rfl rfl blk (off + (i + (d.size - j))) _ _ (by omega) (fun t ht => by rw [show off + (i + (d.size - j)) + t = off + (i + (d.size - j) + t) by omega, (hH1 _ (by rw [lay_size]; omega)).1]; rfl) (fun t ht => by rw [show off + (i + (d.size - j)) + t = off + (i + (d.size - j) + t) by omega]; exact (hH1 _ (by rw [lay_size]; omega)).2)
  have X : Aside (W1 = putRow encI (Sort.ahead w 1) blk off (lay d i (d.toList.drop j))) := hW1'
  have hW : Hid (W1 = w.drew.setCells blk (off + i * 1) news) := hW1
  have hic : i ≤ cap := by omega
  have hjc : j ≤ cap := by omega
  have heq : ¬ i = j := by omega
  have hij : i ≤ j := by omega
  have hjd : j ≤ d.size := by omega
  have hjj : Hid (j = i + 1) := hj
  have hii : Hid (i < d.size) := hi
  clear hW1 hW1' hH1 hH hget hnews hlen hj hi
  obtain ⟨_, _, FG⟩ := L.f45
  go_enter FG, SlBodyN.n45_ntmps ρ
  go_wp2_with fail
  go_region_law_o (refine step_append_room rfl (.tmp 22) (.tmp 25) (ρ.t 22) rfl (ρ.t 23) i0 1 t22 hi0 hz1 blk off i cap (by simp [Act.eval, Act.put]) A (d.size - j) (cap - j) news (by simp [Act.eval, Act.put]) s1.out hsrc.out s2.out (by omega) s3.out ?_; rw [← hW.out])
  go_wp2
  go_ret
  have hj := hjj.out
  have hi := hii.out
  refine ⟨by rw [show d.size - 1 = i + (d.size - j) by omega]; rfl, 1, ?_⟩
  have h1 : List.replicate 1 (0 : Int) = List.replicate (j - i) 0 := by rw [show j - i = 1 by omega]
  rw [h1, ← delete_arr d i j 0 hij hjd, ← putRow_setCells encI _ blk off _ _ (i + (d.size - j)) (by rw [lay_size]; simp; omega), ← X.out, List.map_replicate, show d.size - (i + (d.size - j)) = j - i by omega]
end

theorem delete_c (l : List Int) (i : Nat) (hi : i < l.length) : FC Try.prog 51 [.sl (0, 0) 0 l.length, .int .i64 i, .int .i64 ((i : Int) + 1)] [(0, .one (.arr l.length 1 (fun k _ => .int .i64 (l.getD k 0))))] 1 (fun _ : Unit => True) (fun _ => .sl (0, 0) 0 (l.length - 1))
    (fun _ => [(0, .one (.arr (l.length - 1) 1 (fun k _ => .int .i64 ((l.eraseIdx i).getD k 0))))]) (fun _ => 1) := by
  intro O w mu vals hk hargs
  match vals, hargs with
  | [v0, v1, v2], ⟨r0, r1, r2, _⟩ =>
  obtain ⟨hid, A, cap, rfl, hcap, hA⟩ := r0
  have e1 : v1 = .int .i64 i := r1
  have e2 : v2 = .int .i64 ((i + 1 : Nat) : Int) := by
    have : v2 = .int .i64 ((i : Int) + 1) := r2
    rw [this]; congr 1
  subst e1 e2
  obtain ⟨B, hB0, rfl, hsz⟩ := hA.resolve_left (by omega)
  have hB : mu (0, 0) = some B := hB0
  have hlk : lkH [(0, HEnt.one (.arr l.length 1 (fun k _ => .int .i64 (l.getD k 0))))] (0, 0) = some (.arr l.length 1 (fun k _ => .int .i64 (l.getD k 0))) := rfl
  have hobj := (hk.obj (0, 0) _ hlk).2
  rw [hB] at hobj
  obtain ⟨hs, cells, T, hheap0, hcsz, hbd, hcell⟩ := hobj
  have hheap : w.heap[B.b]? = some (.cells cells T (0, 0)) := hheap0
  have hH : Holds encI w B.b B.o l.toArray := by
    intro k hkk
    have hkl : k < l.length := by simpa using hkk
    obtain ⟨_, v, hv, hr⟩ := hcell k hkl 0 (by omega)
    have hv' : v = .int .i64 (l.getD k 0) := hr
    subst hv'
    refine ⟨?_, ?_⟩
    · simp only [World.cell?, hheap]
      rw [getElem!_pos l.toArray k hkk]
      have h2 : cells[B.o + k]? = some (.int .i64 (l.getD k 0)) := by simpa using hv
      simp only [Option.isSome_none, Bool.false_eq_true, if_false]
      rw [h2]
      simp [List.getD, hkl, encI]
    · simp [World.frozen?, hheap]
  have key := del_run delLay B.b B.o cap i l.toArray w hH (by simpa using hcap) (by simpa using hi)
  change Calls Try.prog 51 _ _ _ at key
  show Calls Try.prog 51 #[.slice (some ⟨B.b, B.o + 0 * B.s, none⟩) l.length cap, .int .i64 i, .int .i64 ((i + 1 : Nat) : Int)] w _
  rw [Nat.zero_mul, Nat.add_zero]
  simp only [List.size_toArray] at key
  refine key.mono ?_
  rintro e w' ⟨rfl, q, rfl⟩
  refine ⟨_, (), mu, rfl, trivial, Nat.le_refl _, fun _ _ => rfl, ?_⟩
  generalize hrow : l.take i ++ l.drop (i + 1) ++ List.replicate 1 0 = row
  have hrl : row.length = l.length := by rw [← hrow]; simp; omega
  have hra : ∀ k, k < l.length - 1 → row.getD k 0 = (l.eraseIdx i).getD k 0 := fun k hk' => by
    rw [← hrow, List.eraseIdx_eq_take_drop_succ, getD_app, if_pos (by simp; omega)]
  have hat : (putRow encI (Sort.ahead w q) B.b B.o row.toArray).heap[B.b]? = some (.cells (putCells encI B.o row.toArray cells) T (0, 0)) := by
    show (w.heap.modify B.b _)[B.b]? = _
    rw [Array.getElem?_modify, if_pos rfl, hheap]
    rfl
  have hoth : ∀ b, b ≠ B.b → (putRow encI (Sort.ahead w q) B.b B.o row.toArray).heap[b]? = w.heap[b]? := fun b hb => by
    show (w.heap.modify B.b _)[b]? = _
    rw [Array.getElem?_modify, if_neg (Ne.symm hb)]
  obtain ⟨hLe, hok⟩ := hk.write (o' := .arr (l.length - 1) 1 (fun k _ => .int .i64 ((l.eraseIdx i).getD k 0))) hlk hB (w' := putRow encI (Sort.ahead w q) B.b B.o row.toArray) (by simp [putRow, mapBlock, Sort.ahead]) hoth ⟨rfl, rfl, rfl, Nat.le_add_right _ _⟩ (fun hLe => by
    refine ⟨hs, _, T, hat, by simp [putCells]; exact hcsz, by omega, fun k hkk j hj => ⟨rfl, .int .i64 ((l.eraseIdx i).getD k 0), ?_, rfl⟩⟩
    have hj0 : j = 0 := by omega
    subst hj0
    have hkr : k < row.length := by omega
    have h2 : B.o + k < cells.size := by omega
    simp only [putCells, Array.getElem?_mapIdx, Nat.mul_one, Nat.add_zero, List.size_toArray]
    rw [Array.getElem?_eq_getElem h2]
    simp only [Option.map_some]
    rw [if_pos ⟨by omega, by omega⟩, show B.o + k - B.o = k by omega, getElem!_pos row.toArray k (by simpa using hkr)]
    have := hra k hkk
    rw [getD_get hkr] at this
    simp only [List.getElem_toArray, encI]
    rw [this]) (fun cs2 t2 h2 => by
    rw [hheap] at h2
    injection h2 with h2; injection h2 with _ h3 _; subst h3
    exact ⟨_, hat⟩)
  exact ⟨hok, hid, _, cap, rfl, by omega, .inr ⟨B, hB, by rw [Nat.zero_mul, Nat.add_zero], hsz⟩⟩
end Go.Proofs.Ytmjkbidnghcfnaa
