/- Parts of the proof: LSM VS. -/
import Derived.Laws.IdiomStrings
import Derived.Lib.MakeNoZero
import Derived.Test.YthpdkmoedpcboaaGreatPO09
import Derived.Test.YthpdkmoedpcboaaGreatPO15
import Derived.Test.YthpdkmoedpcboaaGreatPO26
namespace Go.Lift
set_option linter.unusedSimpArgs false
set_option linter.unusedVariables false
open Go.RowKit
def amkT (T : Tab) (t u : TypeId) : Option TI := match T t, T u with
  | some ⟨.slice e, _, _, _, _⟩, some ⟨.int .i64, _, _, _, _⟩ => T e
  | _, _ => none
section
variable {P : Program} {G : Gh} {n0 : Nat}
theorem run_append_make (w : World) (t u ty e : TypeId) (i : TypeInfo) (z : Value) (ht : P.underlying t = some (.slice e)) (hu : P.underlying u = some (.int .i64)) (hi : P.info? e = some i) (hz : i.zero = some z) (n : Nat) (h0 : 0 < n) (hn : n ≤ 1000000) (hb : i.bytes ≤ 1000) (hs : 0 < i.size) :
    (Builtin.append_ #[t, u] ty #[.slice none 0 0, .int .i64 (n : Int)]).run P w = .ok (.slice (some ⟨w.heap.size, 0, none⟩) n (grownCap w n 0 e)) (w.drew.alloc (.cells (Builtin.zeroCells z.cells n ++ Builtin.zeroCells z.cells (grownCap w n 0 e - n)) e)) := by
  have hn0 : n ≠ 0 := by omega
  have h1 : ¬ ((n : Int) < 0) := by omega
  have hw : IntKind.i64.wrap (n : Int) = n := inR_wrap (by
    have e1 : IntKind.i64.min = -9223372036854775808 := rfl
    have e2 : IntKind.i64.max = 9223372036854775807 := rfl
    unfold inR; omega)
  have hm : n * i.bytes ≤ 1000000 * 1000 := Nat.mul_le_mul hn hb
  have h2 : ¬ (281474976710656 < (n : Int) * (i.bytes : Int)) := by
    have : ((n * i.bytes : Nat) : Int) = (n : Int) * i.bytes := by simp
    omega
  have h63' : ¬ (9223372036854775807 < (n : Int)) := by omega
  have h48' : ¬ (281474976710656 < Builtin.nextslicecap n 0 * i.bytes) := by rw [nextslicecap_zero h0]; omega
  have hns : n * i.size ≠ 0 := by
    have := Nat.mul_pos h0 hs; omega
  simp [Builtin.append_, run_underlying ht, run_underlying hu, sizeOf, typeInfo, zeroValue, hi, hz, hw, h1, h2, hn0, h63', h48', hns, Question.forced, run_firstCells_none, newRow, grownCap, asInt, asIntOf, askRoom, roomBytes]
theorem awpL_amk {T : Tab} (hT : TabOK P T) {ops l : List Oper} {o : Oper} {Q : St → Prop} {st : St} {t u : TypeId} {x y : Operand} {ei : TI} {sz : Nat} (n : Nat) (h1 : 1 ≤ n) (hn : n ≤ 1000000)
    (ho : o.op = .call { callee := .builtin .append, args := #[x, y], argTypes := #[t, u] }) (hg : o.guard = none) (hty : amkT T t u = some ei) (hb : ei.bytes ≤ 1000 ∧ 0 < ei.size) (hsz0 : sz = ei.size) (hx : sv st.env x = .nils) (hy : sv st.env y = .int .i64 (n : Int)) (hsc : sc st.env x ∧ sc st.env y)
    (h : ∀ K : St → Prop, (∀ s, AwpL P G n0 ops l Q s → K s) → goPut (putSt G.nt st.env ((st.nx, .one (.arr 0 sz (fun _ _ => .any))) :: st.heap) (st.nx + 1) o.dst (.sl (st.nx, 0) 0 n)) K) : AwpL P G n0 ops (o :: l) Q st := by
  subst hsz0
  obtain ⟨s', hput, hs2⟩ := goPut_spec (h _ fun _ hs => hs)
  intro mu a w hs hn0 Q' hQ
  refine wpl_step (by rw [ho]; intro c hc; cases hc) fun K hK => ?_
  have hw : Region.wanted o (yielded ops.toArray a.tmps) = true := by simp [Region.wanted, hg]
  rw [if_pos hw]
  have htypes : ∃ e, P.underlying t = some (.slice e) ∧ P.underlying u = some (.int .i64) ∧ T e = some ei := by
    unfold amkT at hty
    split at hty
    · rename_i e _ _ _ _ _ _ _ _ h1 h2
      exact ⟨e, (hT t _ h1).kind, (hT u _ h2).kind, hty⟩
    · cases hty
  obtain ⟨e, ht, hu, he⟩ := htypes
  obtain ⟨i, z, k1, k2, k3, k4, k5, _⟩ := (hT e ei he).run_info
  have hxr : Rel (cx G st.heap mu st.nx w) (sv st.env x) (a.eval x) := strip_rel (hs.rho x) hsc.1
  rw [hx] at hxr
  have hxv : a.eval x = .slice none 0 0 := hxr
  have hyr : Rel (cx G st.heap mu st.nx w) (sv st.env y) (a.eval y) := strip_rel (hs.rho y) hsc.2
  rw [hy] at hyr
  have hyv : a.eval y = .int .i64 (n : Int) := hyr
  have hrun0 := run_append_make (P := P) w t u o.type e i z ht hu k1 k4 n (by omega) hn (by rw [k3]; exact hb.1) (by rw [k2]; exact hb.2)
  generalize hcs : Builtin.zeroCells z.cells n ++ Builtin.zeroCells z.cells (grownCap w n 0 e - n) = cs at hrun0
  have hge := grownCap_ge w n 0 e
  have hsz : grownCap w n 0 e * ei.size ≤ cs.size := by
    rw [← hcs]
    simp only [Builtin.zeroCells, Array.size_append, Array.size_map, Array.size_range, k5]
    rw [← Nat.add_mul]
    exact Nat.mul_le_mul_right _ (by omega)
  have hrun : (execOp a.eval o).run P w = .ok (.value (.slice (some ⟨w.heap.size, 0, none⟩) n (grownCap w n 0 e))) (w.drew.alloc (.cells cs e)) := by
    simp [execOp, ho, resolve, invoke, builtin, hxv, hyv, hrun0]
  have hk1 : HOk G st.heap mu st.nx w.drew := hs.heap.drew 1
  have hok := hk1.alloc (e := .one (.arr 0 ei.size (fun _ _ => .any))) 0 ei.size (fun _ _ => .any) cs e (.inl rfl) cs.size rfl (by omega) (fun i hi => absurd hi (Nat.not_lt_zero _))
  have hLe1 := cx_alloc (G := G) (h := st.heap) (mu := mu) (nx := st.nx) (w := w.drew) (e := .one (.arr 0 ei.size (fun _ _ => .any))) (.arr 0 ei.size (fun _ _ => .any)) (.inl rfl) (.cells cs e) ⟨w.drew.heap.size, 0, ei.size, cs.size⟩ rfl
  have hLe0 : (cx G st.heap mu st.nx w).Le (cx G st.heap mu st.nx w.drew) := ⟨Nat.le_refl _, fun _ _ h => h, fun _ _ _ _ => rfl, Nat.le_refl _, fun _ _ => rfl, fun _ h => h⟩
  have hLe := hLe0.trans hLe1
  have hrel : Rel (cx G ((st.nx, .one (.arr 0 ei.size (fun _ _ => .any))) :: st.heap) (upd mu (st.nx, 0) (some ⟨w.drew.heap.size, 0, ei.size, cs.size⟩)) (st.nx + 1) (w.drew.alloc (.cells cs e))) (.sl (st.nx, 0) 0 n) (.slice (some ⟨w.heap.size, 0, none⟩) n (grownCap w n 0 e)) :=
    ⟨Nat.lt_succ_self _, _, _, rfl, hge, .inr ⟨_, upd_same _ _ _, by simp, by simpa using hsz⟩⟩
  unfold Oper.wp
  rw [hrun]
  have hsim := hs.put hLe hok hrel hput
  have hLe2 : (cx G st.heap mu st.nx w).Le (cx G s'.heap (upd mu (st.nx, 0) (some ⟨w.drew.heap.size, 0, ei.size, cs.size⟩)) s'.nx (w.drew.alloc (.cells cs e))) := by
    rw [(putSt_heap hput).1, (putSt_heap hput).2]; exact hLe
  exact hK _ _ (hs2 _ _ _ hsim (Nat.le_trans hn0 hLe2.nx) Q' fun mu2 st2 a2 w2 h1 h2 h3 h4 => hQ mu2 st2 a2 w2 h1 h2 ((Stay.of hn0 hLe2).trans h3) h4)
theorem awpL_sln {T : Tab} (hT : TabOK P T) {ops l : List Oper} {o : Oper} {Q : St → Prop} {st : St} {t : TypeId} {x y : Operand}
    (ho : o.op = .slice t x none (some y) none) (hg : o.guard = none) (hty : (elemT T t).isSome = true) (hx : sv st.env x = .nils) (hy : sv st.env y = .int .i64 0) (hsc : sc st.env x ∧ sc st.env y)
    (h : ∀ K : St → Prop, (∀ s, AwpL P G n0 ops l Q s → K s) → goPut (putSt G.nt st.env st.heap st.nx o.dst .nils) K) : AwpL P G n0 ops (o :: l) Q st := by
  obtain ⟨s', hput, hs2⟩ := goPut_spec (h _ fun _ hs => hs)
  intro mu a w hs hn0 Q' hQ
  refine wpl_step (by rw [ho]; intro c hc; cases hc) fun K hK => ?_
  have hw : Region.wanted o (yielded ops.toArray a.tmps) = true := by simp [Region.wanted, hg]
  rw [if_pos hw]
  have htypes : ∃ e ei, P.underlying t = some (.slice e) ∧ T e = some ei := by
    unfold elemT at hty
    split at hty
    · rename_i e _ _ _ _ h1
      obtain ⟨ei, hei⟩ := Option.isSome_iff_exists.1 hty
      exact ⟨e, ei, (hT t _ h1).kind, hei⟩
    · cases hty
  obtain ⟨e, ei, ht, he⟩ := htypes
  have hsz := (hT e ei he).run_sizeOf w
  have hxr : Rel (cx G st.heap mu st.nx w) (sv st.env x) (a.eval x) := strip_rel (hs.rho x) hsc.1
  rw [hx] at hxr
  have hxv : a.eval x = .slice none 0 0 := hxr
  have hyr : Rel (cx G st.heap mu st.nx w) (sv st.env y) (a.eval y) := strip_rel (hs.rho y) hsc.2
  rw [hy] at hyr
  have hyv : a.eval y = .int .i64 0 := hyr
  have hb := run_sliceBounds (P := P) (c := cx G st.heap mu st.nx w) true 0 0 (Nat.le_refl _) (lo := none) (hi := some (.int .i64 0)) (xl := none) (xh := some (.int .i64 0)) trivial rfl (a := 0) (b := 0) rfl rfl (Int.le_refl _) (Int.le_refl _) (Int.le_refl _) w
  have hrun : (execOp a.eval o).run P w = .ok (.value (.slice none 0 0)) w := by
    simp [execOp, ho, Instr.sliceAt, Instr.slice, hxv, hyv, run_underlying ht, hb, hsz]
  unfold Oper.wp
  rw [hrun]
  have hsim := hs.put (Cx.Le.refl _) hs.heap (show Rel (cx G st.heap mu st.nx w) .nils (.slice none 0 0) from rfl) hput
  refine hK _ _ (hs2 mu _ w hsim (by rw [(putSt_heap hput).2]; exact hn0) Q' fun mu2 st2 a2 w2 h1 h2 h3 h4 => hQ mu2 st2 a2 w2 h1 h2 ?_ h4)
  rw [(putSt_heap hput).1] at h3
  exact h3
end
end Go.Lift
namespace Go.Proofs.YthpdkmoedpcboaaGreat
set_option linter.unusedSimpArgs false
set_option linter.unusedVariables false
open Go Go.Lift Go.Proofs
def preI (L : List (List Int)) (k : Nat) : List Int := (L.take k).flatten
@[simp] theorem pre_zero (L : List (List Int)) : preI L 0 = [] := rfl
theorem pre_succ {L : List (List Int)} {k : Nat} (h : k < L.length) : preI L (k + 1) = preI L k ++ L.getD k [] := by
  unfold preI
  rw [List.take_succ_eq_append_getElem h, List.flatten_append, getD_get h]
  simp
theorem pre_le {L : List (List Int)} (hr : ∀ x ∈ L, x.length ≤ 1024) : ∀ k, k ≤ L.length → (preI L k).length ≤ 1024 * k
  | 0, _ => by simp [pre_zero]
  | k + 1, hk => by
    have h1 := pre_le hr k (by omega)
    have h : k < L.length := hk
    have := hr _ (getD_mem (d := []) h)
    rw [pre_succ h, List.length_append]
    omega
theorem pre_len {L : List (List Int)} (hL : L.length ≤ 100) (hr : ∀ x ∈ L, x.length ≤ 1024) : (preI L L.length).length ≤ 1000000 := by
  have h := pre_le hr L.length (Nat.le_refl _)
  omega
theorem app_ints (a b : List Int) : ∀ i, i < a.length + b.length → app (fun i _ => AVal.int .i64 (a.getD i 0)) a.length (fun i _ => .int .i64 (b.getD i 0)) i 0 = .int .i64 ((a ++ b).getD i 0) := by
  intro i h
  show (if i < a.length then AVal.int .i64 (a.getD i 0) else .int .i64 (b.getD (i - a.length) 0)) = .int .i64 ((a ++ b).getD i 0)
  by_cases h1 : i < a.length
  · rw [if_pos h1, List.getD_eq_getElem?_getD, List.getD_eq_getElem?_getD, List.getElem?_append_left h1]
  · rw [if_neg h1, List.getD_eq_getElem?_getD, List.getD_eq_getElem?_getD, List.getElem?_append_right (by omega)]
set_option maxRecDepth 100000 in
theorem growI_c (n : Nat) (hn : n ≤ 1000000) : FC1 Tryz.prog 114 [.nils, .int .i64 (n : Int)] [] 0 (.sl (0, 0) 0 0) [(0, .one (.arr 0 1 (fun _ _ => .any)))] 1 := by
 refine FC_introS T_ok Tryz.func114 rfl (by simp [Tryz.ntmps114]) fun G hG hR => ?_
 simp only [Tryz.ntmps114, Tryz.results114] at hG ⊢
 simp only [argEnv, Nat.zero_add, Nat.reduceAdd]
 refine zs (zr ?_)
 refine zs (zs (zr ?_))
 refine awpS_cond rfl (fun hb6 => ?_) (fun hb6 => ?_)
 · exact absurd hb6 (by simp)
 try simp [-List.getD_eq_getElem?_getD] at hb6
 refine zk (zs (zs (zr ?_)))
 refine zs (zr ?_)
 refine zy (fun hb16 => ?_) fun hb16 => ?_
 · have hn1 : 1 ≤ n := (by omega)
   refine zL (zl 3 ?_)
   refine awpL_sln T_ok rfl rfl (by decide) rfl (by simp) (by simp) fun K hK => ?_
   simp [hG, List.getD_cons_zero, List.getD_cons_succ, -List.getD_eq_getElem?_getD]
   refine hK _ ?_
   clear K hK
   refine zl 1 ?_
   refine awpL_amk (sz := 1) T_ok n hn1 hn rfl rfl (by rfl) (by decide) rfl rfl (by simp) (by simp) fun K hK => ?_
   simp [hG, List.getD_cons_zero, List.getD_cons_succ, -List.getD_eq_getElem?_getD]
   refine hK _ ?_
   clear K hK
   refine zl 4 ?_
   refine zN (zs (zr ?_))
   refine zt ?_
   refine RetF_of (()) (id) (fun _ => false) (fun _ => false) trivial ?_ ?_ (by rfl) (by simp) (fun k hk => absurd hk (Nat.not_lt_zero _))
   · simp [hG, List.getD_cons_zero, List.getD_cons_succ, -List.getD_eq_getElem?_getD]
   simp [hG, List.getD_cons_zero, List.getD_cons_succ, -List.getD_eq_getElem?_getD]
 refine zk (zs (zr ?_))
 refine zt ?_
 refine RetF_of (()) (id) (fun _ => false) (fun k => k == 0) trivial ?_ ?_ (by rfl) (by simp) (fun k hk => absurd hk (Nat.not_lt_zero _))
 · simp [hG, List.getD_cons_zero, List.getD_cons_succ, -List.getD_eq_getElem?_getD]
 simp [hG, List.getD_cons_zero, List.getD_cons_succ, -List.getD_eq_getElem?_getD]
set_option maxRecDepth 100000 in
theorem concat_c (L : List (List Int)) (hL : L.length ≤ 100) (hr : ∀ x ∈ L, x.length ≤ 1024) : FC1 Tryz.prog 73 [.sl (0, 0) 0 L.length] [(0, .one (.arr L.length 1 (fun i _ => ints (L.getD i []))))] 1 (ints (preI L L.length)) [] 1 := by
 refine FC_introS T_ok Tryz.func73 rfl (by simp [Tryz.ntmps73]) fun G hG hR => ?_
 simp only [Tryz.ntmps73, Tryz.results73] at hG ⊢
 simp only [argEnv, Nat.zero_add, Nat.reduceAdd]
 refine zs ?_
 refine awpS_wk (st2 := ⟨[(0, rowsI L)], [], 1⟩) ?_ ?_
 · refine wk_of (id) (fun _ => true) (fun _ => false) ?_ ?_ rfl (by simp) (fun k hk => by first | exact ⟨rfl, rfl⟩ | (revert k; decide) | (obtain rfl : k = 0 := (by omega); exact ⟨rfl, rfl⟩) | (have hk2 : k = 0 ∨ k = 1 := (by omega); rcases hk2 with rfl | rfl <;> exact ⟨rfl, rfl⟩))
   · simp [hG, List.getD_cons_zero, List.getD_cons_succ, -List.getD_eq_getElem?_getD]
   simp [hG, List.getD_cons_zero, List.getD_cons_succ, -List.getD_eq_getElem?_getD]
 refine zr ?_
 refine zs (zr ?_)
 refine zs (zs (zr ?_))
 refine zb ?_
 refine awpS_loop (α := Nat) (fun k => ⟨[(0, rowsI L), (3, .int .i64 ((preI L k).length : Nat)), (9, rowsI L), (10, .int .i64 L.length), (11, .int .i64 k)], [], 1⟩) (fun k => k ≤ L.length) (fun k => L.length - k) (0) (Nat.zero_le _) ?_ ?_
 · refine wk_of (id) (fun _ => false) (fun _ => false) ?_ ?_ rfl (by simp) (fun k hk => by first | exact ⟨rfl, rfl⟩ | (revert k; decide) | (obtain rfl : k = 0 := (by omega); exact ⟨rfl, rfl⟩) | (have hk2 : k = 0 ∨ k = 1 := (by omega); rcases hk2 with rfl | rfl <;> exact ⟨rfl, rfl⟩))
   · simp [hG, List.getD_cons_zero, List.getD_cons_succ, -List.getD_eq_getElem?_getD]
   simp [hG, List.getD_cons_zero, List.getD_cons_succ, -List.getD_eq_getElem?_getD]
 rintro k hk
 refine zs (zr ?_)
 refine zs (zy (fun hb12 => ?_) fun hb12 => ?_)
 · have hrk := hr _ (getD_mem (d := []) (show k < L.length by omega))
   have hE := pre_succ (L := L) (show k < L.length by omega)
   have hfl := pre_le hr k hk
   refine zk (zs (zb (zs (zr ?_))))
   refine zs (zr ?_)
   refine zs (zr ?_)
   refine awpS_cond rfl (fun hb20 => ?_) (fun hb20 => ?_)
   · exact absurd hb20 (by simp; omega)
   try simp [-List.getD_eq_getElem?_getD] at hb20
   refine zk (zn (zbn (zr ?_)))
   refine zn ?_
   refine round_end (k + 1) (by omega) (by omega) ?_
   refine wk_of (id) (fun _ => false) (fun _ => false) ?_ ?_ rfl (by simp) (fun k hk => by first | exact ⟨rfl, rfl⟩ | (revert k; decide) | (obtain rfl : k = 0 := (by omega); exact ⟨rfl, rfl⟩) | (have hk2 : k = 0 ∨ k = 1 := (by omega); rcases hk2 with rfl | rfl <;> exact ⟨rfl, rfl⟩))
   · rw [hE]; simp [hG, List.getD_cons_zero, List.getD_cons_succ, -List.getD_eq_getElem?_getD]
   simp [hG, List.getD_cons_zero, List.getD_cons_succ, -List.getD_eq_getElem?_getD]
 obtain rfl : k = L.length := (by omega)
 refine zx (ztx (zbx (zs (zL (zl 1 ?_)))))
 refine zf cal114 [] (growI_c (preI L L.length).length (pre_len hL hr)) (fun x hI hno => ?_)
 refine zl 1 ?_
 refine zN (zs (zs (zr ?_)))
 refine zb ?_
 refine awpS_loop (α := Nat) (fun k => ⟨[(0, rowsI L), (6, .sl (1, 0) 0 (preI L k).length), (25, rowsI L), (26, .int .i64 L.length), (27, .int .i64 k)], [(1, .one (.arr (preI L k).length 1 (fun i _ => .int .i64 ((preI L k).getD i 0))))], 2⟩) (fun k => k ≤ L.length) (fun k => L.length - k) (0) (Nat.zero_le _) ?_ ?_
 · refine wk_of (id) (fun _ => false) (fun _ => false) ?_ ?_ rfl (by simp) (fun k hk => by first | exact ⟨rfl, rfl⟩ | (revert k; decide) | (obtain rfl : k = 0 := (by omega); exact ⟨rfl, rfl⟩) | (have hk2 : k = 0 ∨ k = 1 := (by omega); rcases hk2 with rfl | rfl <;> exact ⟨rfl, rfl⟩))
   · simp [hG, List.getD_cons_zero, List.getD_cons_succ, -List.getD_eq_getElem?_getD]
   simp [hG, List.getD_cons_zero, List.getD_cons_succ, -List.getD_eq_getElem?_getD]
 rintro k hk
 refine zs (zr ?_)
 refine zs (zy (fun hb28 => ?_) fun hb28 => ?_)
 · have hrk := hr _ (getD_mem (d := []) (show k < L.length by omega))
   have hE := pre_succ (L := L) (show k < L.length by omega)
   have hfl := pre_le hr k hk
   refine zk (zs (zb (zs (zr ?_))))
   refine zr ?_
   refine zn (zbn (zr ?_))
   refine zn ?_
   refine round_end (k + 1) (by omega) (by omega) ?_
   refine wk_of (fun k => if k = 1 then 2 else k) (fun _ => false) (fun _ => false) ?_ ?_ rfl (by simp) (fun k hk => by first | exact ⟨rfl, rfl⟩ | (revert k; decide) | (obtain rfl : k = 0 := (by omega); exact ⟨rfl, rfl⟩) | (have hk2 : k = 0 ∨ k = 1 := (by omega); rcases hk2 with rfl | rfl <;> exact ⟨rfl, rfl⟩))
   · rw [hE]; simp [hG, List.getD_cons_zero, List.getD_cons_succ, -List.getD_eq_getElem?_getD]
   rw [hE]; simp [hG, List.getD_cons_zero, List.getD_cons_succ, -List.getD_eq_getElem?_getD]; exact app_ints _ _
 obtain rfl : k = L.length := (by omega)
 refine zx (ztx (zbx (zs (zr ?_))))
 refine zt ?_
 refine RetF_of (()) (id) (fun _ => true) (fun _ => false) trivial ?_ ?_ (by rfl) (by simp) (fun k _ => ⟨rfl, rfl⟩)
 · simp [hG, List.getD_cons_zero, List.getD_cons_succ, -List.getD_eq_getElem?_getD]
 simp [hG, List.getD_cons_zero, List.getD_cons_succ, -List.getD_eq_getElem?_getD]
end Go.Proofs.YthpdkmoedpcboaaGreat
