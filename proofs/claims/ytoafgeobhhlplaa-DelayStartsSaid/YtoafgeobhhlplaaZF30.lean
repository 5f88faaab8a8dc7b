/- Parts of the proof: LFG. -/
import Derived.Test.YtoafgeobhhlplaaZF08
import Derived.Test.YtoafgeobhhlplaaZF29
namespace Go.Lift
set_option linter.unusedSimpArgs false
set_option linter.unusedVariables false
open Go.RowKit
section
variable {P : Program} {G : Gh} {n0 : Nat} {α : Type} {I : α → Prop} {r : α → AVal} {hout : α → Heap} {nout : α → Nat}
theorem awpL_fcg {f : FuncId} (hf : Callable P f) (ps : List Nat) (fz : Nat → Bool) {as : List AVal} {hin : Heap} (hc : FC P f as hin ps.length I r hout nout) {ops l : List Oper} {o : Oper} {Q : St → Prop} {st : St} {x : Operand} {args : Array Operand} {ts : Array TypeId}
    (ho : o.op = .call { callee := .value x, args := args, argTypes := ts }) {g : Option Bool} (hg : guardOf ops.toArray o st.env = some g) (hgt : g.getD true = true) {n : Nat} {fc : Nat → AVal} (hx : sv st.env x = .fn f n fc) (hps : ps.Nodup ∧ ∀ k ∈ ps, k < st.nx)
    (hflat : (∀ k, fz k = false) ∨ ∀ x, I x → flat (r x) ∧ flatH (hout x)) (hsc : sc st.env x ∧ argsC st.env args.toList)
    (hle : argsLeS st.heap (sI (inId ps)) fz ps.length as (callArgs st.env args.toList n fc)) (hheap : heapLe st.heap (sI (inId ps)) fz (fun _ => false) ps.length hin)
    (h : ∀ K : St → Prop, (∀ s, AwpL P G n0 ops l Q s → K s) → ∀ x, I x → ps.length ≤ nout x →
      goPut (putSt G.nt st.env (renH (outId ps st.nx) (hout x) ++ st.heap.filter fun e => !ps.contains e.1) (st.nx + (nout x - ps.length)) o.dst (ren (outId ps st.nx) (r x))) K) : AwpL P G n0 ops (o :: l) Q st := by
  intro mu a w hs hn Q' hQ
  have hw := (wanted_of hs hg).trans hgt
  refine wpl_step (by rw [ho]; intro c hc; cases hc) fun K hK => ?_
  rw [if_pos hw]
  have key := fc_ok (P := P) (ops := ops.toArray) (o := { o with guard := none }) (st := st) (Q := Q') (K := K) (by simpa using ho) rfl hx hsc hf ps hps.1 hps.2 hc fz hflat hle hheap hs fun x hI hno => by
    obtain ⟨s, hput, hs2⟩ := goPut_spec (h _ (fun _ hs => hs) x hI hno)
    refine ⟨s, hput, fun mu' a' w' hs' hLe _ => hK _ _ (hs2 mu' a' w' hs' ?_ Q' fun mu2 st2 a2 w2 h1 h2 h3 h4 => hQ mu2 st2 a2 w2 h1 h2 ((Stay.of hn hLe).trans h3) h4)⟩
    exact Nat.le_trans hn hLe.nx
  rw [if_pos (by simp [Region.wanted])] at key
  exact key
end
section
variable {P : Program} {G : Gh} {n0 : Nat}
theorem awpL_mentry {T : Tab} (hT : TabOK P T) {t kt et : TypeId} {ti ei : TI} (ht : T t = some ti) (hik : ti.k = .map kt et) (hei : T et = some ei) {id : Id} {l : List (AVal × AVal)} {r : Option (Nat × AVal)} {x y : Operand} {ops ls : List Oper} {o : Oper} {Q : St → Prop} {st : St} (ho : o.op = .mapEntry t x y) (hg : o.guard = none) (hx : sv st.env x = .map id) (hl : lkH st.heap id = some (.mp l))
    (hkt : keyT T kt (sv st.env y) = true) (hr : luK T kt l 0 (sv st.env y) = some r) (hsc : sc st.env x ∧ sc st.env y)
    (h : ∀ K : St → Prop, (∀ s, AwpL P G n0 ops ls Q s → K s) → ∀ q : MQ, goPut (putSt G.nt st.env (setH st.heap id (.mi q (putK l r (normK (sv st.env y)) (lkV r (mkL ei ei.zero))))) st.nx o.dst (.tup 2 (entF (lkV r (mkL ei ei.zero)) (q.bs.getD (entI l r) 0 : Nat)))) K) : AwpL P G n0 ops (o :: ls) Q st := by
  refine awpL_some (γ := MQ) (fun _ => True) (fun q => setH st.heap id (.mi q (putK l r (normK (sv st.env y)) (lkV r (mkL ei ei.zero))))) (fun _ => st.nx) (fun q => .tup 2 (entF (lkV r (mkL ei ei.zero)) (q.bs.getD (entI l r) 0 : Nat))) hg (by rw [ho]; intro c e; cases e) (fun mu a w hs => ?_) fun K hK q _ => h K hK q
  have hxr := strip_rel (hs.rho x) hsc.1
  have hxr' : Rel (cx G st.heap mu st.nx w) (sv st.env x) (a.eval x) := hxr
  rw [hx] at hxr'
  have hyr := strip_rel (hs.rho y) hsc.2
  obtain ⟨q, z, w', h1, h2, h3, h4, h5⟩ := mapEntry_ok hT hs.heap ht hik hei hl hkt hr hxr' hyr
  exact ⟨q, trivial, z, w', mu, by simp only [execOp, ho, Sem.run_bind, h1, Result.andThen_ok, Sem.run_pure], h2, h3, h4⟩
theorem awpL_estore {t : TypeId} {id : Id} {l : List (AVal × AVal)} {r : Option (Nat × AVal)} {q : MQ} {k v0 : AVal} {x y z : Operand} {ops ls : List Oper} {o : Oper} {Q : St → Prop} {st : St} (ho : o.op = .entryStore t x y z) (hg : o.guard = none) (hx : sv st.env x = .map id) (hl : lkH st.heap id = some (.mi q (putK l r k v0)))
    (hri : ∀ p, r = some p → p.1 < l.length) (hy : sv st.env y = .int .i64 (q.bs.getD (entI l r) 0 : Nat)) (hsc : sc st.env x ∧ sc st.env y ∧ sc st.env z)
    (h : ∀ K : St → Prop, (∀ s, AwpL P G n0 ops ls Q s → K s) → goPut (putSt G.nt st.env (setH st.heap id (.mp (putK l r k (sv st.env z)))) st.nx o.dst .any) K) : AwpL P G n0 ops (o :: ls) Q st := by
  intro mu a w hs hn Q' hQ
  refine wpl_step (by rw [ho]; intro c e; cases e) fun K hK => ?_
  have hw : Region.wanted o (yielded ops.toArray a.tmps) = true := by simp [Region.wanted, hg]
  rw [if_pos hw]
  have hxr := strip_rel (hs.rho x) hsc.1
  have hxr' : Rel (cx G st.heap mu st.nx w) (sv st.env x) (a.eval x) := hxr
  rw [hx] at hxr'
  have hyr := strip_rel (hs.rho y) hsc.2.1
  have hyr' : Rel (cx G st.heap mu st.nx w) (sv st.env y) (a.eval y) := hyr
  rw [hy] at hyr'
  have hzr := strip_rel (hs.rho z) hsc.2.2
  obtain ⟨w', h1, h2, h3, h5⟩ := entryStore_ok (P := P) (t := t) hs.heap hl hri hxr' hyr' hzr
  obtain ⟨s, hput, hs2⟩ := goPut_spec (h _ (fun _ hs => hs))
  have hsim := hs.put (x := undef) h2 h3 (v := .any) trivial hput
  have hLe' : (cx G st.heap mu st.nx w).Le (cx G s.heap mu s.nx w') := by
    rw [(putSt_heap hput).1, (putSt_heap hput).2]; exact h2
  have hr : (execOp a.eval o).run P w = .ok .skip w' := by simp only [execOp, ho, Sem.run_bind, h1, Result.andThen_ok, Sem.run_pure]
  unfold Oper.wp
  rw [hr]
  exact hK _ _ (hs2 mu _ w' hsim (Nat.le_trans hn hLe'.nx) Q' fun mu2 st2 a2 w2 h1 h2 h3 h4 => hQ mu2 st2 a2 w2 h1 h2 ((Stay.of hn hLe').trans h3) h4)
end
end Go.Lift
