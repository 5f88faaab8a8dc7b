/- Parts of the proof: LSM. -/
import Derived.Laws.IdiomStrings
import Derived.Lib.MakeNoZero
import Derived.Test.YthpdkmoedpcboaaGreatPW09
namespace Go.Lift
set_option linter.unusedSimpArgs false
set_option linter.unusedVariables false
open Go.RowKit
def amkT (T : Tab) (t u : TypeId) : Option TI := match T t, T u with
  | some ⟨.slice e, _, _, _, _⟩, some ⟨.int .i64, _, _, _, _⟩ => T e
  | _, _ => none
section
variable {P : Program} {G : Gh} {n0 : Nat}
theorem run_append_make (w : World) (t u ty e : TypeId) (i : TypeInfo) (z : Value) (ht : P.underlying t = some (.slice e)) (hu : P.underlying u = some (.int .i64)) (hi : P.info? e = some i) (hz : i.zero = some z) (n : Nat) (h0 : 0 < n) (hn : n ≤ 1000000) (hb : i.bytes ≤ 1000) (hs : 0 < i.size) :
    (Builtin.append_ #[t, u] ty #[.slice none 0 0, .int .i64 (n : Int)]).run P w = .ok (.slice (some ⟨w.heap.size, 0, none⟩) n (grownCap w n 0 e)) (w.drew.alloc (.cells (Builtin.zeroCells z.cells n ++ Builtin.zeroCells z.cells (grownCap w n 0 e - n)) e)) := by
  have hn0 : n ≠ 0 := by omega
  have h1 : ¬ ((n : Int) < 0) := by omega
  have hw : IntKind.i64.wrap (n : Int) = n := inR_wrap (by
    have e1 : IntKind.i64.min = -9223372036854775808 := rfl
    have e2 : IntKind.i64.max = 9223372036854775807 := rfl
    unfold inR; omega)
  have hm : n * i.bytes ≤ 1000000 * 1000 := Nat.mul_le_mul hn hb
  have h2 : ¬ (281474976710656 < (n : Int) * (i.bytes : Int)) := by
    have : ((n * i.bytes : Nat) : Int) = (n : Int) * i.bytes := by simp
    omega
  have h63' : ¬ (9223372036854775807 < (n : Int)) := by omega
  have h48' : ¬ (281474976710656 < Builtin.nextslicecap n 0 * i.bytes) := by rw [nextslicecap_zero h0]; omega
  have hns : n * i.size ≠ 0 := by
    have := Nat.mul_pos h0 hs; omega
  simp [Builtin.append_, run_underlying ht, run_underlying hu, sizeOf, typeInfo, zeroValue, hi, hz, hw, h1, h2, hn0, h63', h48', hns, Question.forced, run_firstCells_none, newRow, grownCap, asInt, asIntOf, askRoom, roomBytes]
theorem awpL_amk {T : Tab} (hT : TabOK P T) {ops l : List Oper} {o : Oper} {Q : St → Prop} {st : St} {t u : TypeId} {x y : Operand} {ei : TI} {sz : Nat} (n : Nat) (h1 : 1 ≤ n) (hn : n ≤ 1000000)
    (ho : o.op = .call { callee := .builtin .append, args := #[x, y], argTypes := #[t, u] }) (hg : o.guard = none) (hty : amkT T t u = some ei) (hb : ei.bytes ≤ 1000 ∧ 0 < ei.size) (hsz0 : sz = ei.size) (hx : sv st.env x = .nils) (hy : sv st.env y = .int .i64 (n : Int)) (hsc : sc st.env x ∧ sc st.env y)
    (h : ∀ K : St → Prop, (∀ s, AwpL P G n0 ops l Q s → K s) → goPut (putSt G.nt st.env ((st.nx, .one (.arr 0 sz (fun _ _ => .any))) :: st.heap) (st.nx + 1) o.dst (.sl (st.nx, 0) 0 n)) K) : AwpL P G n0 ops (o :: l) Q st := by
  subst hsz0
  obtain ⟨s', hput, hs2⟩ := goPut_spec (h _ fun _ hs => hs)
  intro mu a w hs hn0 Q' hQ
  refine wpl_step (by rw [ho]; intro c hc; cases hc) fun K hK => ?_
  have hw : Region.wanted o (yielded ops.toArray a.tmps) = true := by simp [Region.wanted, hg]
  rw [if_pos hw]
  have htypes : ∃ e, P.underlying t = some (.slice e) ∧ P.underlying u = some (.int .i64) ∧ T e = some ei := by
    unfold amkT at hty
    split at hty
    · rename_i e _ _ _ _ _ _ _ _ h1 h2
      exact ⟨e, (hT t _ h1).kind, (hT u _ h2).kind, hty⟩
    · cases hty
  obtain ⟨e, ht, hu, he⟩ := htypes
  obtain ⟨i, z, k1, k2, k3, k4, k5, _⟩ := (hT e ei he).run_info
  have hxr : Rel (cx G st.heap mu st.nx w) (sv st.env x) (a.eval x) := strip_rel (hs.rho x) hsc.1
  rw [hx] at hxr
  have hxv : a.eval x = .slice none 0 0 := hxr
  have hyr : Rel (cx G st.heap mu st.nx w) (sv st.env y) (a.eval y) := strip_rel (hs.rho y) hsc.2
  rw [hy] at hyr
  have hyv : a.eval y = .int .i64 (n : Int) := hyr
  have hrun0 := run_append_make (P := P) w t u o.type e i z ht hu k1 k4 n (by omega) hn (by rw [k3]; exact hb.1) (by rw [k2]; exact hb.2)
  generalize hcs : Builtin.zeroCells z.cells n ++ Builtin.zeroCells z.cells (grownCap w n 0 e - n) = cs at hrun0
  have hge := grownCap_ge w n 0 e
  have hsz : grownCap w n 0 e * ei.size ≤ cs.size := by
    rw [← hcs]
    simp only [Builtin.zeroCells, Array.size_append, Array.size_map, Array.size_range, k5]
    rw [← Nat.add_mul]
    exact Nat.mul_le_mul_right _ (by omega)
  have hrun : (execOp a.eval o).run P w = .ok (.value (.slice (some ⟨w.heap.size, 0, none⟩) n (grownCap w n 0 e))) (w.drew.alloc (.cells cs e)) := by
    simp [execOp, ho, resolve, invoke, builtin, hxv, hyv, hrun0]
  have hk1 : HOk G st.heap mu st.nx w.drew := hs.heap.drew 1
  have hok := hk1.alloc (e := .one (.arr 0 ei.size (fun _ _ => .any))) 0 ei.size (fun _ _ => .any) cs e (.inl rfl) cs.size rfl (by omega) (fun i hi => absurd hi (Nat.not_lt_zero _))
  have hLe1 := cx_alloc (G := G) (h := st.heap) (mu := mu) (nx := st.nx) (w := w.drew) (e := .one (.arr 0 ei.size (fun _ _ => .any))) (.arr 0 ei.size (fun _ _ => .any)) (.inl rfl) (.cells cs e) ⟨w.drew.heap.size, 0, ei.size, cs.size⟩ rfl
  have hLe0 : (cx G st.heap mu st.nx w).Le (cx G st.heap mu st.nx w.drew) := ⟨Nat.le_refl _, fun _ _ h => h, fun _ _ _ _ => rfl, Nat.le_refl _, fun _ _ => rfl, fun _ h => h⟩
  have hLe := hLe0.trans hLe1
  have hrel : Rel (cx G ((st.nx, .one (.arr 0 ei.size (fun _ _ => .any))) :: st.heap) (upd mu (st.nx, 0) (some ⟨w.drew.heap.size, 0, ei.size, cs.size⟩)) (st.nx + 1) (w.drew.alloc (.cells cs e))) (.sl (st.nx, 0) 0 n) (.slice (some ⟨w.heap.size, 0, none⟩) n (grownCap w n 0 e)) :=
    ⟨Nat.lt_succ_self _, _, _, rfl, hge, .inr ⟨_, upd_same _ _ _, by simp, by simpa using hsz⟩⟩
  unfold Oper.wp
  rw [hrun]
  have hsim := hs.put hLe hok hrel hput
  have hLe2 : (cx G st.heap mu st.nx w).Le (cx G s'.heap (upd mu (st.nx, 0) (some ⟨w.drew.heap.size, 0, ei.size, cs.size⟩)) s'.nx (w.drew.alloc (.cells cs e))) := by
    rw [(putSt_heap hput).1, (putSt_heap hput).2]; exact hLe
  exact hK _ _ (hs2 _ _ _ hsim (Nat.le_trans hn0 hLe2.nx) Q' fun mu2 st2 a2 w2 h1 h2 h3 h4 => hQ mu2 st2 a2 w2 h1 h2 ((Stay.of hn0 hLe2).trans h3) h4)
theorem awpL_sln {T : Tab} (hT : TabOK P T) {ops l : List Oper} {o : Oper} {Q : St → Prop} {st : St} {t : TypeId} {x y : Operand}
    (ho : o.op = .slice t x none (some y) none) (hg : o.guard = none) (hty : (elemT T t).isSome = true) (hx : sv st.env x = .nils) (hy : sv st.env y = .int .i64 0) (hsc : sc st.env x ∧ sc st.env y)
    (h : ∀ K : St → Prop, (∀ s, AwpL P G n0 ops l Q s → K s) → goPut (putSt G.nt st.env st.heap st.nx o.dst .nils) K) : AwpL P G n0 ops (o :: l) Q st := by
  obtain ⟨s', hput, hs2⟩ := goPut_spec (h _ fun _ hs => hs)
  intro mu a w hs hn0 Q' hQ
  refine wpl_step (by rw [ho]; intro c hc; cases hc) fun K hK => ?_
  have hw : Region.wanted o (yielded ops.toArray a.tmps) = true := by simp [Region.wanted, hg]
  rw [if_pos hw]
  have htypes : ∃ e ei, P.underlying t = some (.slice e) ∧ T e = some ei := by
    unfold elemT at hty
    split at hty
    · rename_i e _ _ _ _ h1
      obtain ⟨ei, hei⟩ := Option.isSome_iff_exists.1 hty
      exact ⟨e, ei, (hT t _ h1).kind, hei⟩
    · cases hty
  obtain ⟨e, ei, ht, he⟩ := htypes
  have hsz := (hT e ei he).run_sizeOf w
  have hxr : Rel (cx G st.heap mu st.nx w) (sv st.env x) (a.eval x) := strip_rel (hs.rho x) hsc.1
  rw [hx] at hxr
  have hxv : a.eval x = .slice none 0 0 := hxr
  have hyr : Rel (cx G st.heap mu st.nx w) (sv st.env y) (a.eval y) := strip_rel (hs.rho y) hsc.2
  rw [hy] at hyr
  have hyv : a.eval y = .int .i64 0 := hyr
  have hb := run_sliceBounds (P := P) (c := cx G st.heap mu st.nx w) true 0 0 (Nat.le_refl _) (lo := none) (hi := some (.int .i64 0)) (xl := none) (xh := some (.int .i64 0)) trivial rfl (a := 0) (b := 0) rfl rfl (Int.le_refl _) (Int.le_refl _) (Int.le_refl _) w
  have hrun : (execOp a.eval o).run P w = .ok (.value (.slice none 0 0)) w := by
    simp [execOp, ho, Instr.sliceAt, Instr.slice, hxv, hyv, run_underlying ht, hb, hsz]
  unfold Oper.wp
  rw [hrun]
  have hsim := hs.put (Cx.Le.refl _) hs.heap (show Rel (cx G st.heap mu st.nx w) .nils (.slice none 0 0) from rfl) hput
  refine hK _ _ (hs2 mu _ w hsim (by rw [(putSt_heap hput).2]; exact hn0) Q' fun mu2 st2 a2 w2 h1 h2 h3 h4 => hQ mu2 st2 a2 w2 h1 h2 ?_ h4)
  rw [(putSt_heap hput).1] at h3
  exact h3
end
end Go.Lift
