/- Parts of the proof: LSB. -/
import Derived.Laws.IdiomStrings
import Derived.Lib.MakeNoZero
import Derived.Test.YtchjjiedcpfniaaGreatDoorK09
namespace Go.Lift
set_option linter.unusedSimpArgs false
set_option linter.unusedVariables false
open Go.RowKit
def stbT (T : Tab) (src dst : TypeId) : Bool := match T src, T dst with
  | some ⟨.str, _, _, _, _⟩, some ⟨.slice e, _, _, _, _⟩ => isU8T T e
  | _, _ => false
theorem stbT_spec {P : Program} {T : Tab} (hT : TabOK P T) {src dst : TypeId} (h : stbT T src dst = true) : ∃ e, P.underlying src = some .string ∧ P.underlying dst = some (.slice e) ∧ P.underlying e = some (.int .u8) := by
  unfold stbT at h
  split at h
  · rename_i e _ _ _ _ _ _ _ _ hs hd
    refine ⟨_, (hT src _ hs).kind, (hT dst _ hd).kind, ?_⟩
    unfold isU8T at h
    split at h
    · rename_i hi; exact (hT _ _ hi).kind
    · cases h
  · cases h
section
variable {P : Program} {G : Gh} {n0 : Nat}
theorem kept_lay (w : World) (o : Obj) : Kept w (fun _ => False) (w.drew.alloc o) := by
  refine ⟨rfl, rfl, rfl, Nat.le_succ _, ?_, fun b hb _ => ?_⟩
  · show w.heap.size ≤ (w.heap.push o).size
    simp
  · show (w.heap.push o)[b]? = w.heap[b]?
    rw [Array.getElem?_push]
    rw [if_neg (by omega)]
theorem awpL_stb {T : Tab} (hT : TabOK P T) {ops l : List Oper} {o : Oper} {Q : St → Prop} {st : St} {src dst : TypeId} {x : Operand} (s : List UInt8)
    (ho : o.op = .convert src dst x) (hg : o.guard = none) (hty : stbT T src dst = true) (hx : sv st.env x = .str s) (hsc : sc st.env x)
    (h : ∀ K : St → Prop, (∀ s, AwpL P G n0 ops l Q s → K s) → goPut (putSt G.nt st.env st.heap st.nx o.dst (bytes s)) K) : AwpL P G n0 ops (o :: l) Q st := by
  obtain ⟨s', hput, hs2⟩ := goPut_spec (h _ fun _ hs => hs)
  intro mu a w hs hn Q' hQ
  refine wpl_step (by rw [ho]; intro c hc; cases hc) fun K hK => ?_
  have hw : Region.wanted o (yielded ops.toArray a.tmps) = true := by simp [Region.wanted, hg]
  rw [if_pos hw]
  obtain ⟨e, h1, h2, h3⟩ := stbT_spec hT hty
  have hxr := strip_rel (hs.rho x) hsc
  have hxr' : Rel (cx G st.heap mu st.nx w) (sv st.env x) (a.eval x) := hxr
  rw [hx] at hxr'
  have hxv : a.eval x = .string ⟨⟨s⟩⟩ := hxr'
  have hconv := run_bytes_of_string w src dst e ⟨⟨s⟩⟩ h1 h2 h3
  let cap := grownCap w (ByteArray.mk ⟨s⟩).size 0 e
  let row := bytesRow ⟨⟨s⟩⟩ cap
  have hsz : (ByteArray.mk ⟨s⟩).size = s.length := rfl
  have hcap : s.length ≤ cap := by
    have := grownCap_ge w (ByteArray.mk ⟨s⟩).size 0 e
    rwa [hsz] at this
  have hrun : (execOp a.eval o).run P w = .ok (.value (.slice (some ⟨w.heap.size, 0, none⟩) s.length cap)) (w.drew.alloc (.cells row e (row.size, row.size + 1))) := by
    simp only [execOp, ho, hxv, Sem.run_bind, hconv, Result.andThen_ok]
    rfl
  have hkept := kept_lay w (.cells row e (row.size, row.size + 1))
  obtain ⟨hLe, hok⟩ := hs.heap.grow hkept
  have hnF : ¬ Fb G.O st.heap mu w.heap.size := fun hF => by
    have := hs.heap.bound _ hF
    omega
  have hcell : ∀ i, i < s.length → (w.drew.alloc (.cells row e (row.size, row.size + 1))).cell? ⟨w.heap.size, i, none⟩ = some (.int .u8 ((s.getD i 0).toNat : Int)) := fun i hi => by
    unfold World.cell?
    have : (w.drew.alloc (.cells row e (row.size, row.size + 1))).heap[w.heap.size]? = some (.cells row e (row.size, row.size + 1)) := by
      show (w.heap.push _)[w.heap.size]? = _
      simp
    simp only [this]
    have hr : row[i]? = some (.int .u8 ((s.getD i 0).toNat : Int)) := by
      show (_ ++ _ : Array Value)[i]? = _
      rw [Array.getElem?_append_left (by simp; exact hi)]
      simp [List.getD, hi]
    simpa using hr
  have hrel : Rel (cx G st.heap mu st.nx (w.drew.alloc (.cells row e (row.size, row.size + 1)))) (bytes s) (.slice (some ⟨w.heap.size, 0, none⟩) s.length cap) := by
    refine ⟨_, _, rfl, hcap, .inr ⟨w.heap.size, 0, rfl, hnF, ?_, fun i hi j hj => ⟨rfl, _, ?_, rfl⟩⟩⟩
    · show w.heap.size < (w.heap.push _).size
      simp
    · have hj0 : j = 0 := by omega
      subst hj0
      show (w.drew.alloc _).cell? ⟨w.heap.size, 0 + i * 1 + 0, none⟩ = some (.int .u8 ((s.getD i 0).toNat : Int))
      rw [show 0 + i * 1 + 0 = i by omega]
      exact hcell i hi
  unfold Oper.wp
  rw [hrun]
  have hsim := hs.put hLe hok hrel hput
  refine hK _ _ (hs2 mu _ _ hsim (by rw [(putSt_heap hput).2]; exact hn) Q' fun mu2 st2 a2 w2 h1 h2 h3 h4 => hQ mu2 st2 a2 w2 h1 h2 ?_ h4)
  rw [(putSt_heap hput).1] at h3
  exact (Stay.of (Nat.le_trans hn (Nat.le_refl _)) hLe).trans h3
end
section
variable {P : Program} {G : Gh} {n0 : Nat} {ops : List Oper} {W : List (Nat × Id)} {al : AL} {mu0 : Id → Option Base} {nx0 : Nat} {Q : St → Prop}
theorem awpO_mnz {f : FuncId} {fn : Func} {ps : Array TypeId} {t e : TypeId} (hf : P.funcs[f]? = some fn) (hname : (fn.name == "runtime.NumGoroutine") = false) (hb : fn.body.isNone = true) (hnx2 : Extern.findNext fn = none) (he : Extern.find fn = some (Extern.BytealgMakeNoZero.makeNoZero ps #[t]))
    (ht : P.underlying t = some (.slice e)) (n : Nat) (hn48 : n ≤ 281474976710656) {fuel : Nat} {done : List Nat} {i : Nat} {o : Oper} {st : St} {x y : Operand} {ts : Array TypeId}
    (hi : ops.toArray[i]? = some o) (ho : o.op = .call { callee := .value x, args := #[y], argTypes := ts }) (hg : o.guard = none) {fc : Nat → AVal} (hx : sv st.env x = .fn f 0 fc) (hy : sv st.env y = .int .i64 (n : Int)) (hsc : sc st.env x ∧ sc st.env y)
    (h : ∀ K : St → Prop, (∀ s, AwpA P G n0 ops W al mu0 nx0 Q fuel (i :: done) s → K s) →
      goPut (putSt G.nt st.env ((st.nx, .typ e (.arr 0 1 (fun _ _ => .any))) :: st.heap) (st.nx + 1) o.dst (.sl (st.nx, 0) 0 n)) K) : AwpO P G n0 ops W al mu0 nx0 Q fuel done st i := by
  obtain ⟨s, hput, hs2⟩ := goPut_spec (h _ fun _ hs => hs)
  intro mu a w hs hn hnx hm Q' hp hQ
  refine wpOp_of hi ?_
  have hw : Region.wanted o (yielded ops.toArray a.tmps) = true := by simp [Region.wanted, hg]
  rw [if_pos hw]
  have hxr := strip_rel (hs.rho x) hsc.1
  have hxr' : Rel (cx G st.heap mu st.nx w) (sv st.env x) (a.eval x) := hxr
  rw [hx] at hxr'
  obtain ⟨caps, hxv, hcn, hcr⟩ := hxr'
  have hc0 : caps = #[] := Array.eq_empty_of_size_eq_zero hcn
  subst hc0
  have hyr : Rel (cx G st.heap mu st.nx w) (sv st.env y) (a.eval y) := strip_rel (hs.rho y) hsc.2
  rw [hy] at hyr
  have hyv : a.eval y = .int .i64 (n : Int) := hyr
  obtain ⟨cs, hrun0, hle, _⟩ := Lib.run_makeNoZero (P := P) (w := w) ps t e ht n hn48
  have hrun1 : (callFunc f #[.int .i64 (n : Int)]).run P w = .ok (.value (.slice (some ⟨w.heap.size, 0, none⟩) n cs.size)) (w.drew.drew.alloc (.cells cs e)) := by
    rw [run_callFunc_extern hf hname hb hnx2 he, hrun0]
    rfl
  have hrun : (execOp a.eval o).run P w = .ok (.value (.slice (some ⟨w.heap.size, 0, none⟩) n cs.size)) (w.drew.drew.alloc (.cells cs e)) := by
    simp [execOp, ho, resolve, hxv, Deferred.ofValue, invoke, hyv, hrun1]
  have hk1 : HOk G st.heap mu st.nx w.drew.drew := hs.heap.drew 2
  have hok := hk1.alloc (e := .typ e (.arr 0 1 (fun _ _ => .any))) 0 1 (fun _ _ => .any) cs e (.inr rfl) cs.size rfl (by omega) (fun i hi => absurd hi (Nat.not_lt_zero _))
  have hLe1 := cx_alloc (G := G) (h := st.heap) (mu := mu) (nx := st.nx) (w := w.drew.drew) (e := .typ e (.arr 0 1 (fun _ _ => .any))) (.arr 0 1 (fun _ _ => .any)) (.inr ⟨e, rfl⟩) (.cells cs e) ⟨w.drew.drew.heap.size, 0, 1, cs.size⟩ rfl
  have hLe0 : (cx G st.heap mu st.nx w).Le (cx G st.heap mu st.nx w.drew.drew) := ⟨Nat.le_refl _, fun _ _ h => h, fun _ _ _ _ => rfl, Nat.le_refl _, fun _ _ => rfl, fun _ h => h⟩
  have hLe := hLe0.trans hLe1
  have hrel : Rel (cx G ((st.nx, .typ e (.arr 0 1 (fun _ _ => .any))) :: st.heap) (upd mu (st.nx, 0) (some ⟨w.drew.drew.heap.size, 0, 1, cs.size⟩)) (st.nx + 1) (w.drew.drew.alloc (.cells cs e))) (.sl (st.nx, 0) 0 n) (.slice (some ⟨w.heap.size, 0, none⟩) n cs.size) :=
    ⟨Nat.lt_succ_self _, _, _, rfl, hle, .inr ⟨_, upd_same _ _ _, by simp, by simp⟩⟩
  unfold Oper.wp
  rw [hrun]
  have hsim := hs.put hLe hok hrel hput
  have hLe2 : (cx G st.heap mu st.nx w).Le (cx G s.heap (upd mu (st.nx, 0) (some ⟨w.drew.drew.heap.size, 0, 1, cs.size⟩)) s.nx (w.drew.drew.alloc (.cells cs e))) := by
    rw [(putSt_heap hput).1, (putSt_heap hput).2]; exact hLe
  refine ⟨cx G s.heap _ s.nx _, rfl, ⟨hLe2, fun b hb hbs => ?_⟩, ?_⟩
  · have hbs2 : b < w.heap.size := hbs
    show (w.heap.push _)[b]? = w.heap[b]?
    rw [Array.getElem?_push, if_neg (by omega)]
  · exact hs2 _ _ _ hsim (Nat.le_trans hn hLe2.nx) (Nat.le_trans hnx hLe2.nx) (fun id hid => (hLe2.mu id (Nat.lt_of_lt_of_le hid hnx)).trans (hm id hid)) Q' hp
      fun mu2 st2 a2 w2 h1 h2 h3 h4 => hQ mu2 st2 a2 w2 h1 h2 ((Stay.of hn hLe2).trans h3) h4
end
end Go.Lift
