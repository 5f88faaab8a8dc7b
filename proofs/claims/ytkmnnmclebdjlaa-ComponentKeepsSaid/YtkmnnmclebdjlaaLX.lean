/-
  The abstract layer, part X: such calls in a walk.
-/
import Derived.Test.YtkmnnmclebdjlaaLW
namespace Go.Lift
set_option linter.unusedSimpArgs false
set_option linter.unusedVariables false
open Go.RowKit

section
variable {P : Program} {G : Gh} {n0 : Nat} {α : Type} {I : α → Prop} {r : α → AVal} {hout : α → Heap} {nout : α → Nat}

theorem FC_introS {T : Tab} (hT : TabOK P T) {f : FuncId} {fn : Func} {c : Code} {args : List AVal} {hin : Heap} {nin : Nat} (hf : P.funcs[f]? = some fn) (hb : fn.body = some c) (hn : args.length ≤ fn.ntmps)
    (h : ∀ G : Gh, G.nt = fn.ntmps → G.rd = none → AwpS P G nin [c] (fun e st => match e with | .normal => RetF T fn.results.toList nin I r hout nout st | .ret => RetF T fn.results.toList nin I r hout nout st | _ => False) ⟨argEnv 0 args, hin, nin⟩) :
    FC P f args hin nin I r hout nout := by
  refine FC_intro hT hf hb hn fun G hG hR => awp_mono (h G hG hR) fun e s hq => ?_
  cases e <;> exact hq

theorem RetF_of {T : Tab} {res : List ResultVar} {nin : Nat} {st : St} (x : α) (σ : Nat → Nat) (fz vz : Nat → Bool) (hI : I x) (h : goRet (evRes T st res) (fun v => VLe st.heap (sI σ) fz (vI vz) (nout x) (r x) v))
    (hh : heapLe st.heap (sI σ) fz (vI vz) (nout x) (hout x)) (hinj : keyInj σ vz ((hout x).map (·.1)) = true) (hno : nin ≤ nout x) (hid : ∀ k, k < nin → σ k = k ∧ vz k = false) : RetF T res nin I r hout nout st := by
  cases he : evRes T st res with
  | none => rw [he] at h; exact h.elim
  | some p => rw [he] at h; exact ⟨x, p.1, p.2, hI, he, h.1, σ, fz, vz, h.2, hh, hinj, hno, hid⟩

/-- a call in a region. -/
theorem awpL_fc {f : FuncId} (hf : Callable P f) (ps : List Nat) (fz : Nat → Bool) {as : List AVal} {hin : Heap} (hc : FC P f as hin ps.length I r hout nout) {ops l : List Oper} {o : Oper} {Q : St → Prop} {st : St} {x : Operand} {args : Array Operand} {ts : Array TypeId}
    (ho : o.op = .call { callee := .value x, args := args, argTypes := ts }) (hg : o.guard = none) {n : Nat} {fc : Nat → AVal} (hx : sv st.env x = .fn f n fc) (hps : ps.Nodup ∧ ∀ k ∈ ps, k < st.nx)
    (hflat : (∀ k, fz k = false) ∨ ∀ x, I x → flat (r x) ∧ flatH (hout x)) (hsc : sc st.env x ∧ argsC st.env args.toList)
    (hle : argsLeS st.heap (sI (inId ps)) fz ps.length as (callArgs st.env args.toList n fc)) (hheap : heapLe st.heap (sI (inId ps)) fz (fun _ => false) ps.length hin)
    (h : ∀ K : St → Prop, (∀ s, AwpL P G n0 ops l Q s → K s) → ∀ x, I x → ps.length ≤ nout x →
      goPut (putSt G.nt st.env (renH (outId ps st.nx) (hout x) ++ st.heap.filter fun e => !ps.contains e.1) (st.nx + (nout x - ps.length)) o.dst (ren (outId ps st.nx) (r x))) K) : AwpL P G n0 ops (o :: l) Q st := by
  intro mu a w hs hn Q' hQ
  refine wpl_step (by rw [ho]; intro c hc; cases hc) fun K hK => ?_
  refine fc_ok ho hg hx hsc hf ps hps.1 hps.2 hc fz hflat hle hheap hs fun x hI hno => ?_
  obtain ⟨s, hput, hs2⟩ := goPut_spec (h _ (fun _ hs => hs) x hI hno)
  refine ⟨s, hput, fun mu' a' w' hs' hLe _ => hK _ _ (hs2 mu' a' w' hs' ?_ Q' fun mu2 st2 a2 w2 h1 h2 h3 h4 => hQ mu2 st2 a2 w2 h1 h2 ((Stay.of hn hLe).trans h3) h4)⟩
  exact Nat.le_trans hn hLe.nx

variable {ops : List Oper} {W : List (Nat × Id)} {al : AL} {mu0 : Id → Option Base} {nx0 : Nat} {Q : St → Prop}
theorem awpO_fc {f : FuncId} (hf : Callable P f) (ps : List Nat) (fz : Nat → Bool) {as : List AVal} {hin : Heap} (hc : FC P f as hin ps.length I r hout nout) {fuel : Nat} {done : List Nat} {i : Nat} {o : Oper} {st : St} {x : Operand} {args : Array Operand} {ts : Array TypeId}
    (hi : ops.toArray[i]? = some o) (hal : al.al.contains i = true ∨ ps = []) (ho : o.op = .call { callee := .value x, args := args, argTypes := ts }) (hg : o.guard = none) {n : Nat} {fc : Nat → AVal} (hx : sv st.env x = .fn f n fc) (hps : ps.Nodup ∧ ∀ k ∈ ps, k < st.nx)
    (hflat : (∀ k, fz k = false) ∨ ∀ x, I x → flat (r x) ∧ flatH (hout x)) (hsc : sc st.env x ∧ argsC st.env args.toList)
    (hle : argsLeS st.heap (sI (inId ps)) fz ps.length as (callArgs st.env args.toList n fc)) (hheap : heapLe st.heap (sI (inId ps)) fz (fun _ => false) ps.length hin)
    (h : ∀ K : St → Prop, (∀ s, AwpA P G n0 ops W al mu0 nx0 Q fuel (i :: done) s → K s) → ∀ x, I x → ps.length ≤ nout x →
      goPut (putSt G.nt st.env (renH (outId ps st.nx) (hout x) ++ st.heap.filter fun e => !ps.contains e.1) (st.nx + (nout x - ps.length)) o.dst (ren (outId ps st.nx) (r x))) K) : AwpO P G n0 ops W al mu0 nx0 Q fuel done st i := by
  intro mu a w hs hn hnx hm Q' hp hQ
  refine wpOp_of hi (fc_ok ho hg hx hsc hf ps hps.1 hps.2 hc fz hflat hle hheap hs fun x hI hno => ?_)
  obtain ⟨s, hput, hs2⟩ := goPut_spec (h _ (fun _ hs => hs) x hI hno)
  refine ⟨s, hput, fun mu' a' w' hs' hLe hfr => ?_⟩
  refine ⟨cx G s.heap mu' s.nx w', rfl, ⟨hLe, fun b hb hbs => ?_⟩, ?_⟩
  · rcases hal with hal | hal
    · rw [hb.1] at hal; cases hal
    · subst hal
      exact hfr b hbs fun k hk => absurd hk (by simp)
  · exact hs2 mu' a' w' hs' (Nat.le_trans hn hLe.nx) (Nat.le_trans hnx hLe.nx) (fun id hid => (hLe.mu id (Nat.lt_of_lt_of_le hid hnx)).trans (hm id hid)) Q' hp
      fun mu2 st2 a2 w2 h1 h2 h3 h4 => hQ mu2 st2 a2 w2 h1 h2 ((Stay.of hn hLe).trans h3) h4
end

section
variable {P : Program} {G : Gh} {n0 : Nat}
theorem awpS_condU {t : Tmp} {x y : Code} {cs : List Code} {Q : Exit → St → Prop} {st : St} {p : Prop} (hb : lk st.env t = .ub p) (h1 : p → AwpS P G n0 (x :: cs) Q st) (h2 : AwpS P G n0 (y :: cs) Q st) : AwpS P G n0 (.cond (.tmp t) x y :: cs) Q st := by
  intro mu a w hs hn Q' hQ
  have hr := hs.env t
  rw [hb] at hr
  obtain ⟨b, hb', hp⟩ := hr
  exact wpIn_cond_split (a := a) (c := .tmp t) (t := b) hb' (fun h => h1 (hp h) mu a w hs hn Q' hQ) (fun _ => h2 mu a w hs hn Q' hQ)
end
@[simp] theorem strip_ub {p : Prop} : strip (.ub p) = (.ub p, True) := rfl

attribute [simp] ren renO renE renH argsLeS outId inId flatH flatO
@[simp] theorem ren_vec {α : Type} {ρ : Nat → Nat} {s : Nat} {f : α → Nat → AVal} {d : α} {l : List α} (h : ∀ x j, ren ρ (f x j) = f x j) : ren ρ (vec s f d l) = vec s f d l := by
  show AVal.vsl _ _ _ = _
  have : (fun i j => ren ρ (vecF f d l i j)) = vecF f d l := by
    funext i j
    exact h _ _
  unfold vec
  rw [this]
@[simp] theorem ren_ints {ρ : Nat → Nat} {l : List Int} : ren ρ (ints l) = ints l := ren_vec fun _ _ => rfl
/-- a contract with one outcome. -/
abbrev FC1 (P : Program) (f : FuncId) (args : List AVal) (hin : Heap) (nin : Nat) (r : AVal) (hout : Heap) (nout : Nat) : Prop := FC P f args hin nin (fun _ : Unit => True) (fun _ => r) (fun _ => hout) (fun _ => nout)
end Go.Lift
