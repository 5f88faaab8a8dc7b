/-
  The abstract layer, part U: drawn regions in a walk.
-/
import Derived.Test.YtkmnnmclebdjlaaLS
namespace Go.Lift
set_option linter.unusedSimpArgs false
set_option linter.unusedVariables false
open Go.RowKit

section
variable {P : Program} {G : Gh} {n0 : Nat}

theorem awpS_draw {id : Nat} {ops : List Oper} {cs : List Code} {Q : Exit → St → Prop} {st : St} (hR : G.rd = none) (hm : P.follows .mixedOrders = true) (W : List (Nat × Id)) (al : AL)
    (h : ∀ mu0, AwpA P G n0 ops W al mu0 st.nx (AwpS P G n0 cs Q) ops.length [] st) : AwpS P G n0 (.region id ops.toArray true :: cs) Q st := awp_draw hR hm W al h

variable {ops : List Oper} {W : List (Nat × Id)} {al : AL} {mu0 : Id → Option Base} {nx0 : Nat} {Q : St → Prop}

/-- take the operations of the list ahead. -/
theorem awpA_tk {T : Tab} (hT : TabOK P T) (is : List Nat) (ws : List Id) {fuel fuel' : Nat} {done : List Nat} (done2 : List Nat) {st : St} (hns : Region.noSelect ops.toArray = true) (hok : takesOK ops.toArray W al ws is done = true) (hf : fuel' = fuel + is.length) (hd : is.reverse ++ done = done2)
    (h : ∀ K : St → Prop, (∀ s, AwpA P G n0 ops W al mu0 nx0 Q fuel done2 s → K s) → goEv (evTks T G.nt ops.toArray al ws nx0 (is.filterMap fun i => ops[i]?) st) K) : AwpA P G n0 ops W al mu0 nx0 Q fuel' done st := by
  have key := h _ fun _ hs => hs
  subst hf
  subst hd
  cases he : evTks T G.nt ops.toArray al ws nx0 (is.filterMap fun i => ops[i]?) st with
  | none => rw [he] at key; exact key.elim
  | some p =>
    obtain ⟨s, c⟩ := p
    rw [he] at key
    exact awpA_takes hT hns is hok he key.1 key.2

theorem awpO_reg {T : Tab} (hT : TabOK P T) {fuel : Nat} {done : List Nat} {i : Nat} {o : Oper} {st : St} (hi : ops.toArray[i]? = some o) (hw : wOK W al nx0 i st.heap (wOp st.env o.op))
    (h : ∀ K : St → Prop, (∀ s, AwpA P G n0 ops W al mu0 nx0 Q fuel (i :: done) s → K s) → goEv (evG T G.nt ops.toArray o st) K) : AwpO P G n0 ops W al mu0 nx0 Q fuel done st i := by
  have key := h _ fun _ hs => hs
  cases he : evG T G.nt ops.toArray o st with
  | none => rw [he] at key; exact key.elim
  | some p =>
    obtain ⟨s, c⟩ := p
    rw [he] at key
    exact awpO_ev hT hi he key.1 hw key.2

theorem awpO_call {fuel : Nat} {done : List Nat} {i : Nat} {o : Oper} {st : St} {f : FuncId} (hf : Callable P f) {as : List AVal} {r : AVal} {x : Operand} {args : Array Operand} {ts : Array TypeId} (hi : ops.toArray[i]? = some o)
    (ho : o.op = .call { callee := .value x, args := args, argTypes := ts }) {g : Option Bool} (hg : guardOf ops.toArray o st.env = some g) {n : Nat} {fc : Nat → AVal} (hx : gHolds g → sv st.env x = .fn f n fc)
    (hc : gHolds g → PC P f as r) (hsc : gHolds g → sc st.env x ∧ argsC st.env args.toList) (hle : gHolds g → argsLe st.heap (fun _ => false) as (callArgs st.env args.toList n fc))
    (h : ∀ K : St → Prop, (∀ s, AwpA P G n0 ops W al mu0 nx0 Q fuel (i :: done) s → K s) → goPut (putSt G.nt st.env st.heap st.nx o.dst (optV g r)) K) : AwpO P G n0 ops W al mu0 nx0 Q fuel done st i := by
  obtain ⟨s, hput, hs⟩ := goPut_spec (h _ fun _ hs => hs)
  exact awpO_pc hi ho hg (fun hh => ⟨hx hh, hsc hh⟩) hf hc (fun _ => false) (.inl fun _ => rfl) hle hput hs
theorem awpO_callB (fz : Nat → Bool) {fuel : Nat} {done : List Nat} {i : Nat} {o : Oper} {st : St} {f : FuncId} (hf : Callable P f) {as : List AVal} {r : AVal} (hflat : flat r) {x : Operand} {args : Array Operand} {ts : Array TypeId} (hi : ops.toArray[i]? = some o)
    (ho : o.op = .call { callee := .value x, args := args, argTypes := ts }) {g : Option Bool} (hg : guardOf ops.toArray o st.env = some g) {n : Nat} {fc : Nat → AVal} (hx : gHolds g → sv st.env x = .fn f n fc)
    (hc : gHolds g → PC P f as r) (hsc : gHolds g → sc st.env x ∧ argsC st.env args.toList) (hle : gHolds g → argsLe st.heap fz as (callArgs st.env args.toList n fc))
    (h : ∀ K : St → Prop, (∀ s, AwpA P G n0 ops W al mu0 nx0 Q fuel (i :: done) s → K s) → goPut (putSt G.nt st.env st.heap st.nx o.dst (optV g r)) K) : AwpO P G n0 ops W al mu0 nx0 Q fuel done st i := by
  obtain ⟨s, hput, hs⟩ := goPut_spec (h _ fun _ hs => hs)
  exact awpO_pc hi ho hg (fun hh => ⟨hx hh, hsc hh⟩) hf hc fz (.inr hflat) hle hput hs
theorem awpA_wk {fuel : Nat} {done : List Nat} {st st2 : St} (hw : Wk G n0 st st2) (hr : Region.ready .any ops.toArray (lst ops.toArray.size done) = []) {c : Code} {cs : List Code} {Q : Exit → St → Prop} (h : AwpS P G n0 (c :: cs) Q st2) :
    AwpA P G n0 ops W al mu0 nx0 (AwpS P G n0 (c :: cs) Q) fuel done st := awpA_done hr (awpS_wk hw h)
end
attribute [simp] evTks tkOK wOK wOp wPtr wSl
end Go.Lift
