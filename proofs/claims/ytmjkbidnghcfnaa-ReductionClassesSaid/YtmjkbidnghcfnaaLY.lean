/-
  The abstract layer, part Y: calls of functions without a body that only compute.
-/
import Derived.Test.YtmjkbidnghcfnaaLRF
import Derived.Laws.Externs
namespace Go.Lift
set_option linter.unusedSimpArgs false
set_option linter.unusedVariables false
open Go.RowKit

/-- the function, which the model answers itself, hands back r. -/
def PX (P : Program) (f : FuncId) (args : List AVal) (r : AVal) : Prop := ∀ (c : Cx) (vals : List Value), ArgsRel c args vals → ∃ v, (∀ w, (callFunc f vals.toArray).run P w = .ok (.value v) w) ∧ ∀ c2, Rel c2 r v

section
variable {P : Program} {G : Gh} {n0 : Nat}
theorem awpL_px {f : FuncId} {as : List AVal} {r : AVal} (hc : PX P f as r) {ops l : List Oper} {o : Oper} {Q : St → Prop} {st : St} {x : Operand} {args : Array Operand} {ts : Array TypeId}
    (ho : o.op = .call { callee := .value x, args := args, argTypes := ts }) (hg : o.guard = none) {n : Nat} {fc : Nat → AVal} (hx : sv st.env x = .fn f n fc) (hsc : sc st.env x ∧ argsC st.env args.toList)
    (hle : argsLe st.heap (fun _ => false) as (callArgs st.env args.toList n fc)) (h : ∀ K : St → Prop, (∀ s, AwpL P G n0 ops l Q s → K s) → goPut (putSt G.nt st.env st.heap st.nx o.dst r) K) : AwpL P G n0 ops (o :: l) Q st := by
  obtain ⟨s, hput, hs2⟩ := goPut_spec (h _ fun _ hs => hs)
  intro mu a w hs hn Q' hQ
  refine wpl_step (by rw [ho]; intro c hc; cases hc) fun K hK => ?_
  have hw : Region.wanted o (yielded ops.toArray a.tmps) = true := by simp [Region.wanted, hg]
  rw [if_pos hw]
  have hxr := strip_rel (hs.rho x) hsc.1
  have hxr' : Rel (cx G st.heap mu st.nx w) (sv st.env x) (a.eval x) := hxr
  rw [hx] at hxr'
  obtain ⟨caps, hxv, hcn, hcr⟩ := hxr'
  have hargs := argsLe_rel hs.heap _ _ _ hle (callArgs_rel (fun y => hs.rho y) hsc.2 hcn hcr)
  obtain ⟨v, hv, hrv⟩ := hc _ _ hargs
  have hrun : (execOp a.eval o).run P w = .ok (.value v) w := by
    have := hv w
    simp only [Array.toArray_toList] at this
    simp [execOp, ho, resolve, hxv, Deferred.ofValue, invoke, this]
  unfold Oper.wp
  rw [hrun]
  have hsim := hs.put (Cx.Le.refl _) hs.heap (hrv _) hput
  refine hK _ _ (hs2 mu _ w hsim (by rw [(putSt_heap hput).2]; exact hn) Q' fun mu2 st2 a2 w2 h1 h2 h3 h4 => hQ mu2 st2 a2 w2 h1 h2 ?_ h4)
  rw [(putSt_heap hput).1] at h3
  exact h3

def idxB (s : List UInt8) (b : UInt8) : Int := match s.idxOf? b with
  | some i => i
  | none => -1

theorem indexByte_px {f : FuncId} {fn : Func} (hf : P.funcs[f]? = some fn) (hname : (fn.name == "runtime.NumGoroutine") = false) (hb : fn.body.isNone = true) (hn : Extern.findNext fn = none) (he : Extern.find fn = some Extern.BytealgIndexByte.indexByte) (s : List UInt8) (b : UInt8) :
    PX P f [.str s, .int .u8 b.toNat] (.int .i64 (idxB s b)) := by
  rintro c vals hargs
  match vals, hargs with
  | [x, y], ⟨h1, h2, _⟩ =>
    simp only [Rel] at h1 h2
    subst h1 h2
    have hfind : ((List.range s.length).find? fun i => (ByteArray.mk ⟨s⟩)[i]! == b) = s.idxOf? b := by
      have hget : ∀ i, i < s.length → (ByteArray.mk ⟨s⟩)[i]! = s.getD i 0 := fun i hi => by
        have hsz : i < (ByteArray.mk ⟨s⟩).size := hi
        rw [getElem!_pos (ByteArray.mk ⟨s⟩) i hsz]
        show s[i] = _
        simp [List.getD, hi]
      rw [List.idxOf?]
      cases hr : s.findIdx? (fun x => x == b) with
      | none =>
        rw [List.find?_eq_none]
        rw [List.findIdx?_eq_none_iff] at hr
        intro i hi
        simp only [List.mem_range] at hi
        rw [hget i hi]
        have := hr _ (getD_mem (d := 0) hi)
        simpa using this
      | some k =>
        rw [List.findIdx?_eq_some_iff_getElem] at hr
        obtain ⟨hk, h1, h2⟩ := hr
        rw [List.find?_range_eq_some]
        refine ⟨?_, by simpa using hk, fun j hj => ?_⟩
        · rw [hget k hk]; simpa [List.getD, hk] using h1
        · have hjl : j < s.length := by omega
          rw [hget j hjl]
          have := h2 j hj
          simpa [List.getD, hjl] using this
    refine ⟨.int .i64 (idxB s b), fun w => ?_, fun _ => rfl⟩
    rw [run_callFunc_extern hf hname hb hn he]
    have hbb : (b.toNat : Int).toNat.toUInt8 = b := by simp
    have hsz : (ByteArray.mk ⟨s⟩).size = s.length := rfl
    have hdef : Extern.BytealgIndexByte.indexByte [Value.string ⟨⟨s⟩⟩, .int .u8 b.toNat].toArray = (match (List.range (ByteArray.mk ⟨s⟩).size).find? fun i => (ByteArray.mk ⟨s⟩)[i]! == (b.toNat : Int).toNat.toUInt8 with
      | some i => pure (goInt i)
      | none => pure (goInt (-1))) := rfl
    rw [hdef, hbb, hsz, hfind]
    unfold idxB
    cases s.idxOf? b with
    | none => rfl
    | some i => rfl
end
end Go.Lift
