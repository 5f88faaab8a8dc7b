/-
  Ranges over maps: the iterator is a piece of the heap; what comes next is any entry that is left.
-/
import Derived.Test.YthpdkmoedpcboaaLEL
import Derived.Maps.RangeRun
namespace Go.Lift
set_option linter.unusedSimpArgs false
set_option linter.unusedVariables false
open Go.RowKit

def nxN (c : Option Nat) : Nat := if c.isSome then 3 else 1
@[simp] theorem nxN_pos {c : Option Nat} : (0 < nxN c) = True := by cases c <;> simp [nxN]
@[simp] theorem nxN_some {i : Nat} : nxN (some i) = 3 := rfl
def nxF (l : List (AVal × AVal)) (c : Option Nat) (j : Nat) : AVal := match j with
  | 0 => .bool c.isSome
  | 1 => (l.getD (c.getD 0) (.any, .any)).1
  | _ => (l.getD (c.getD 0) (.any, .any)).2
@[simp] theorem nxF_zero {l : List (AVal × AVal)} {c : Option Nat} : nxF l c 0 = .bool c.isSome := rfl
@[simp] theorem nxF_one {l : List (AVal × AVal)} {c : Option Nat} : nxF l c 1 = (l.getD (c.getD 0) (.any, .any)).1 := rfl
@[simp] theorem nxF_two {l : List (AVal × AVal)} {c : Option Nat} : nxF l c 2 = (l.getD (c.getD 0) (.any, .any)).2 := rfl
def leftA (left : List Nat) : Option Nat → List Nat
  | none => []
  | some i => left.erase i
@[simp] theorem leftA_some {left : List Nat} {i : Nat} : leftA left (some i) = left.erase i := rfl
@[simp] theorem leftA_none {left : List Nat} : leftA left none = [] := rfl
def enF (l : List (AVal × AVal)) (i j : Nat) : AVal := match j with
  | 0 => (l.getD i (.any, .any)).1
  | _ => (l.getD i (.any, .any)).2
@[simp] theorem enF_zero {l : List (AVal × AVal)} {i : Nat} : enF l i 0 = (l.getD i (.any, .any)).1 := rfl
@[simp] theorem enF_one {l : List (AVal × AVal)} {i : Nat} : enF l i 1 = (l.getD i (.any, .any)).2 := rfl

section
variable {P : Program} {G : Gh} {n0 : Nat}

/-- an operation with several outcomes. -/
theorem awpL_some {γ : Type} (J : γ → Prop) (h' : γ → Heap) (nx' : γ → Nat) (v : γ → AVal) {ops ls : List Oper} {o : Oper} {Q : St → Prop} {st : St} (hg : o.guard = none) (hnb : ∀ c, o.op ≠ .defer c)
    (hrun : ∀ mu a w, Sim G mu st a w → ∃ c, J c ∧ ∃ x w' mu', (execOp a.eval o).run P w = .ok (.value x) w' ∧ (cx G st.heap mu st.nx w).Le (cx G (h' c) mu' (nx' c) w') ∧ HOk G (h' c) mu' (nx' c) w' ∧ Rel (cx G (h' c) mu' (nx' c) w') (v c) x)
    (h : ∀ K : St → Prop, (∀ s, AwpL P G n0 ops ls Q s → K s) → ∀ c, J c → goPut (putSt G.nt st.env (h' c) (nx' c) o.dst (v c)) K) : AwpL P G n0 ops (o :: ls) Q st := by
  intro mu a w hs hn Q' hQ
  refine wpl_step hnb fun K hK => ?_
  have hw : Region.wanted o (yielded ops.toArray a.tmps) = true := by simp [Region.wanted, hg]
  rw [if_pos hw]
  obtain ⟨c, hJ, x, w', mu', hr, hLe, hk, hv⟩ := hrun mu a w hs
  obtain ⟨s, hput, hs2⟩ := goPut_spec (h _ (fun _ hs => hs) c hJ)
  unfold Oper.wp
  rw [hr]
  have hsim := hs.put hLe hk hv hput
  have hLe' : (cx G st.heap mu st.nx w).Le (cx G s.heap mu' s.nx w') := by
    rw [(putSt_heap hput).1, (putSt_heap hput).2]; exact hLe
  exact hK _ _ (hs2 mu' _ w' hsim (Nat.le_trans hn hLe'.nx) Q' fun mu2 st2 a2 w2 h1 h2 h3 h4 => hQ mu2 st2 a2 w2 h1 h2 ((Stay.of hn hLe').trans h3) h4)

theorem bs_at {es : Array MapEntry} {i : Nat} {e : MapEntry} (he : es[i]? = some e) : (es.toList.map (·.born)).getD i 0 = e.born := by
  simp [List.getD, he]

end
end Go.Lift
