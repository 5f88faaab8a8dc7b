/- Parts of the proof: LDR. -/
import Derived.OrdersIn
import Derived.Test.YtoafgeobhhlplaaZF26
namespace Go.Lift
set_option linter.unusedSimpArgs false
set_option linter.unusedVariables false
open Go.RowKit
def isDef : Op → Bool
  | .defer _ => true
  | _ => false
section
variable {P : Program} {r : Option Nat} {ops : Array Oper} {Q : Exit → Act → World → Prop}
theorem wpOp_fen {i : Nat} {a : Act} {w : World} {K : Act → World → Prop} (hnd : ∀ o, ops[i]? = some o → ∀ c, o.op ≠ .defer c) (hQ : ¬ LetsOut Q) (h : wpOp P ops Q i K a w) : wpOpIn (fen r) 0 P ops Q i K a w := by
  unfold wpOp at h
  unfold wpOpIn
  cases ho : ops[i]? with
  | none => rw [ho] at h; exact h
  | some o =>
    rw [ho] at h
    simp only at h ⊢
    split
    · rename_i hw
      rw [if_pos hw] at h
      rcases h with h | h
      · exact oper_wpIn (hnd o ho) h
      · exact absurd h.2 hQ
    · rename_i hw
      rw [if_neg hw] at h
      exact ⟨fun _ _ => trivial, h⟩
theorem wpAny_fen (hnd : ∀ (i : Nat) (o : Oper), ops[i]? = some o → ∀ c, o.op ≠ .defer c) (hQ : ¬ LetsOut Q) : ∀ (fuel : Nat) (listed : Array Bool) (a : Act) (w : World), wpAny P .any ops Q fuel listed a w → wpAnyIn (fen r) 0 P .any ops Q fuel listed a w
  | 0, _, _, _, h => h
  | fuel + 1, listed, a, w, h => ⟨h.1, fun i hi => wpOp_fen (hnd i) hQ (wpOp_mono (fun a w => wpAny_fen hnd hQ fuel _ a w) (h.2 i hi))⟩
end
section
variable {P : Program} {G : Gh} {n0 : Nat}
theorem awpS_drawR {id : Nat} {ops : List Oper} {cs : List Code} {Q : Exit → St → Prop} {st : St} (hd : (ops.all fun o => !isDef o.op) = true) (hm : P.follows .mixedOrders = true) (W : List (Nat × Id)) (al : AL)
    (h : ∀ mu0, AwpA P G n0 ops W al mu0 st.nx (AwpS P G n0 cs Q) ops.length [] st) : AwpS P G n0 (.region id ops.toArray true :: cs) Q st := by
  have key0 : Awp P G n0 (.region id ops.toArray true) (fun e st' => e = .normal ∧ AwpS P G n0 cs Q st') st := by
    intro mu a w hs hn Q' hQ
    have hsim : Sim G mu st a { w with drawn := w.drawn + 1 } := ⟨hs.defers.mono fun _ h => h, hs.size, fun t => Rel.mono (c := cx G st.heap mu st.nx w) (c' := cx G st.heap mu st.nx { w with drawn := w.drawn + 1 }) ⟨Nat.le_refl _, fun _ _ h => h, fun _ _ _ _ => rfl, Nat.le_refl _, fun _ _ => rfl, fun _ h => h⟩ _ _ (hs.env t), hs.heap.drew 1⟩
    have hst : Stay G n0 st.heap mu w st.heap mu { w with drawn := w.drawn + 1 } := ⟨⟨Nat.le_refl _, fun _ _ h => h, fun _ _ _ _ => rfl, Nat.le_refl _, fun _ _ => rfl, fun _ h => h⟩⟩
    have key := h mu mu a _ hsim hn (Nat.le_refl _) (fun _ _ => rfl) (fun e a w => e = .normal ∧ Q' .normal a w) (fun ch a w hh => by cases hh.1)
      (fun mu' st' a' w' h1 h2 h3 h4 => ⟨rfl, hQ .normal mu' st' a' w' h1 h2 (hst.trans h3) ⟨rfl, h4⟩⟩)
    have hw := wpAny_of_C _ _ _ _ _ key
    rw [lst_nil] at hw
    have hnd : ∀ (i : Nat) (o : Oper), ops.toArray[i]? = some o → ∀ c, o.op ≠ .defer c := fun i o ho c e => by
      have h1 : o ∈ ops := by
        have : ops[i]? = some o := by simpa using ho
        exact List.mem_of_getElem? this
      have h2 := List.all_eq_true.1 hd o h1
      rw [e] at h2
      cases h2
    have hw2 := wpAny_fen (r := G.rd) hnd (fun hl => by obtain ⟨_, _, h2, _⟩ := hl; cases h2) _ _ _ _ hw
    exact wpIn_mono (wpIn_region_any hm (by simpa using hw2)) fun e a' w' hq => by
      obtain ⟨rfl, hq⟩ := hq
      exact hq
  refine awp_mono key0 fun e s hs => ?_
  obtain ⟨rfl, hs⟩ := hs
  exact hs
end
end Go.Lift
namespace Go.Lift
open Go.RowKit
section
variable {P : Program} {G : Gh} {n0 : Nat}
theorem awpL_wk {ops l : List Oper} {Q : St → Prop} {st st2 : St} (hw : Wk G n0 st st2) (h : AwpL P G n0 ops l Q st2) : AwpL P G n0 ops l Q st := by
  intro mu a w hs hn Q' hQ
  obtain ⟨mu2, k1, k2, k3⟩ := hw mu a w hs hn
  exact h mu2 a w k1 k2 Q' fun mu' st' a' w' h1 h2 h3 h4 => hQ mu' st' a' w' h1 h2 (k3.trans h3) h4
end
end Go.Lift
