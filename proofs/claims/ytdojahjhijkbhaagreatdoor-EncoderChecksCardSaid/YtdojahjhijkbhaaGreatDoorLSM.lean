/-
  append(nil, make([]T, n)...), nil[:0]: rules for regions.
-/
import Derived.Test.YtdojahjhijkbhaaGreatDoorLSB
namespace Go.Lift
set_option linter.unusedSimpArgs false
set_option linter.unusedVariables false
open Go.RowKit

section
variable {P : Program} {G : Gh} {n0 : Nat}
/-- string of a piece of bytes. -/
theorem awpL_bts {T : Tab} (hT : TabOK P T) {ops l : List Oper} {o : Oper} {Q : St → Prop} {st : St} {src dst : TypeId} {x : Operand} (id : Id) (k n m : Nat) (f : Nat → Nat → AVal) (bs : List UInt8)
    (ho : o.op = .convert src dst x) (hg : o.guard = none) (hty : bytesT T src dst = true) (hx : sv st.env x = .sl id k n) (hl : lkH st.heap id = some (.arr m 1 f)) (hn : 0 < n) (hle : k + n ≤ m) (hlen : bs.length = n)
    (hb : ∀ i, i < n → f (k + i) 0 = .int .u8 ((bs.getD i 0).toNat : Int)) (hsc : sc st.env x)
    (h : ∀ K : St → Prop, (∀ s, AwpL P G n0 ops l Q s → K s) → goPut (putSt G.nt st.env st.heap st.nx o.dst (.str bs)) K) : AwpL P G n0 ops (o :: l) Q st := by
  obtain ⟨s', hput, hs2⟩ := goPut_spec (h _ fun _ hs => hs)
  intro mu a w hs hn0 Q' hQ
  refine wpl_step (by rw [ho]; intro c hc; cases hc) fun K hK => ?_
  have hw : Region.wanted o (yielded ops.toArray a.tmps) = true := by simp [Region.wanted, hg]
  rw [if_pos hw]
  have hxr : Rel (cx G st.heap mu st.nx w) (sv st.env x) (a.eval x) := strip_rel (hs.rho x) hsc
  rw [hx] at hxr
  obtain ⟨_, A, cap, hxv, hcap, hA⟩ := hxr
  obtain ⟨B, hB0, rfl, hsz⟩ := hA.resolve_left (by omega)
  have hB : mu id = some B := hB0
  have hobj := (hs.heap.obj id _ hl).2
  rw [hB] at hobj
  obtain ⟨hss, cs, U, hh, hcsz, hfit, hcc⟩ := hobj
  have hh' : w.heap[B.b]? = some (.cells cs U (0, 0)) := hh
  have hconv : (convert src dst (.slice (some ⟨B.b, B.o + k * B.s, none⟩) n cap)).run P w = .ok (.string ⟨⟨bs⟩⟩) w := by
    unfold bytesT at hty
    split at hty
    · rename_i e _ _ _ _ _ _ _ _ hs1 hd1
      have hsu : P.underlying src = some (.slice e) := (hT src _ hs1).kind
      have hdu : P.underlying dst = some .string := (hT dst _ hd1).kind
      unfold isU8T at hty
      split at hty
      · rename_i hi
        have heu : P.underlying e = some (.int .u8) := (hT e _ hi).kind
        rw [run_convert_bytes_string w src dst e _ n cap hsu heu hdu]
        have hld := run_loadCells (P := P) w ⟨B.b, B.o + k * B.s, none⟩ n (fun i => .int .u8 ((bs.getD i 0).toNat : Int)) (fun i hi => by
          obtain ⟨_, v, hv, hr⟩ := hcc (k + i) (by omega) 0 (by omega)
          rw [hb i hi] at hr
          have hr' : v = .int .u8 ((bs.getD i 0).toNat : Int) := hr
          rw [Addr.add_lit]
          unfold World.cell?
          simp only [hh']
          rw [hr'] at hv
          rw [hss]
          simpa [Nat.add_assoc] using hv)
        rw [run_bytesToString w _ n cap (bs.map fun c => ((c.toNat : Nat) : Int)) (by
          rw [hld, List.map_map]
          congr 2
          apply List.ext_getElem (by simp [hlen])
          intro i h1 h2
          simp only [List.getElem_map, List.getElem_range, Function.comp]
          have : i < bs.length := by simpa using h2
          simp [List.getD, this])]
        rw [push_all]
        congr 3
        rw [List.map_map]
        have h0 : ByteArray.empty.data.toList = [] := rfl
        rw [h0, List.nil_append]
        congr 1
        have h1 : ((fun (n : Int) => UInt8.ofNat n.toNat) ∘ fun (c : UInt8) => ((c.toNat : Nat) : Int)) = fun c => c := by
          funext c
          simp
        rw [h1]
        exact List.map_id' bs
      · cases hty
    · cases hty
  have hrun : (execOp a.eval o).run P w = .ok (.value (.string ⟨⟨bs⟩⟩)) w := by
    simp only [execOp, ho, hxv, Sem.run_bind, hconv, Result.andThen_ok]
    rfl
  unfold Oper.wp
  rw [hrun]
  have hsim := hs.put (Cx.Le.refl _) hs.heap (show Rel (cx G st.heap mu st.nx w) (.str bs) (.string ⟨⟨bs⟩⟩) from rfl) hput
  refine hK _ _ (hs2 mu _ w hsim (by rw [(putSt_heap hput).2]; exact hn0) Q' fun mu2 st2 a2 w2 h1 h2 h3 h4 => hQ mu2 st2 a2 w2 h1 h2 ?_ h4)
  rw [(putSt_heap hput).1] at h3
  exact h3
end
end Go.Lift
