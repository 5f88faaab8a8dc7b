/- Parts of the proof: LDR LMR LME LFG. -/
import Derived.OrdersIn
import Derived.Maps.RangeRun
import Derived.Test.YtoafgeobhhlplaaZU07
import Derived.Test.YtoafgeobhhlplaaZU08
namespace Go.Lift
set_option linter.unusedSimpArgs false
set_option linter.unusedVariables false
open Go.RowKit
def isDef : Op → Bool
  | .defer _ => true
  | _ => false
section
variable {P : Program} {r : Option Nat} {ops : Array Oper} {Q : Exit → Act → World → Prop}
theorem wpOp_fen {i : Nat} {a : Act} {w : World} {K : Act → World → Prop} (hnd : ∀ o, ops[i]? = some o → ∀ c, o.op ≠ .defer c) (hQ : ¬ LetsOut Q) (h : wpOp P ops Q i K a w) : wpOpIn (fen r) 0 P ops Q i K a w := by
  unfold wpOp at h
  unfold wpOpIn
  cases ho : ops[i]? with
  | none => rw [ho] at h; exact h
  | some o =>
    rw [ho] at h
    simp only at h ⊢
    split
    · rename_i hw
      rw [if_pos hw] at h
      rcases h with h | h
      · exact oper_wpIn (hnd o ho) h
      · exact absurd h.2 hQ
    · rename_i hw
      rw [if_neg hw] at h
      exact ⟨fun _ _ => trivial, h⟩
theorem wpAny_fen (hnd : ∀ (i : Nat) (o : Oper), ops[i]? = some o → ∀ c, o.op ≠ .defer c) (hQ : ¬ LetsOut Q) : ∀ (fuel : Nat) (listed : Array Bool) (a : Act) (w : World), wpAny P .any ops Q fuel listed a w → wpAnyIn (fen r) 0 P .any ops Q fuel listed a w
  | 0, _, _, _, h => h
  | fuel + 1, listed, a, w, h => ⟨h.1, fun i hi => wpOp_fen (hnd i) hQ (wpOp_mono (fun a w => wpAny_fen hnd hQ fuel _ a w) (h.2 i hi))⟩
end
section
variable {P : Program} {G : Gh} {n0 : Nat}
theorem awpS_drawR {id : Nat} {ops : List Oper} {cs : List Code} {Q : Exit → St → Prop} {st : St} (hd : (ops.all fun o => !isDef o.op) = true) (hm : P.follows .mixedOrders = true) (W : List (Nat × Id)) (al : AL)
    (h : ∀ mu0, AwpA P G n0 ops W al mu0 st.nx (AwpS P G n0 cs Q) ops.length [] st) : AwpS P G n0 (.region id ops.toArray true :: cs) Q st := by
  have key0 : Awp P G n0 (.region id ops.toArray true) (fun e st' => e = .normal ∧ AwpS P G n0 cs Q st') st := by
    intro mu a w hs hn Q' hQ
    have hsim : Sim G mu st a { w with drawn := w.drawn + 1 } := ⟨hs.defers.mono fun _ h => h, hs.size, fun t => Rel.mono (c := cx G st.heap mu st.nx w) (c' := cx G st.heap mu st.nx { w with drawn := w.drawn + 1 }) ⟨Nat.le_refl _, fun _ _ h => h, fun _ _ _ _ => rfl, Nat.le_refl _, fun _ _ => rfl, fun _ h => h⟩ _ _ (hs.env t), hs.heap.drew 1⟩
    have hst : Stay G n0 st.heap mu w st.heap mu { w with drawn := w.drawn + 1 } := ⟨⟨Nat.le_refl _, fun _ _ h => h, fun _ _ _ _ => rfl, Nat.le_refl _, fun _ _ => rfl, fun _ h => h⟩⟩
    have key := h mu mu a _ hsim hn (Nat.le_refl _) (fun _ _ => rfl) (fun e a w => e = .normal ∧ Q' .normal a w) (fun ch a w hh => by cases hh.1)
      (fun mu' st' a' w' h1 h2 h3 h4 => ⟨rfl, hQ .normal mu' st' a' w' h1 h2 (hst.trans h3) ⟨rfl, h4⟩⟩)
    have hw := wpAny_of_C _ _ _ _ _ key
    rw [lst_nil] at hw
    have hnd : ∀ (i : Nat) (o : Oper), ops.toArray[i]? = some o → ∀ c, o.op ≠ .defer c := fun i o ho c e => by
      have h1 : o ∈ ops := by
        have : ops[i]? = some o := by simpa using ho
        exact List.mem_of_getElem? this
      have h2 := List.all_eq_true.1 hd o h1
      rw [e] at h2
      cases h2
    have hw2 := wpAny_fen (r := G.rd) hnd (fun hl => by obtain ⟨_, _, h2, _⟩ := hl; cases h2) _ _ _ _ hw
    exact wpIn_mono (wpIn_region_any hm (by simpa using hw2)) fun e a' w' hq => by
      obtain ⟨rfl, hq⟩ := hq
      exact hq
  refine awp_mono key0 fun e s hs => ?_
  obtain ⟨rfl, hs⟩ := hs
  exact hs
end
end Go.Lift
namespace Go.Lift
open Go.RowKit
section
variable {P : Program} {G : Gh} {n0 : Nat}
theorem awpL_wk {ops l : List Oper} {Q : St → Prop} {st st2 : St} (hw : Wk G n0 st st2) (h : AwpL P G n0 ops l Q st2) : AwpL P G n0 ops l Q st := by
  intro mu a w hs hn Q' hQ
  obtain ⟨mu2, k1, k2, k3⟩ := hw mu a w hs hn
  exact h mu2 a w k1 k2 Q' fun mu' st' a' w' h1 h2 h3 h4 => hQ mu' st' a' w' h1 h2 (k3.trans h3) h4
end
end Go.Lift
namespace Go.Lift
set_option linter.unusedSimpArgs false
set_option linter.unusedVariables false
open Go.RowKit
def itP (q : MQ) (left : List Nat) (last : Option Nat) (_b : Nat) (x : Obj) : Prop :=
  ∃ seen : Array Nat, x = .mapIter (some q.mb) q.clk seen q.clk ∧ left.Nodup ∧ (∀ i ∈ left, i < q.bs.length) ∧ (∀ i, i < q.bs.length → (i ∈ left ↔ seen.contains (q.bs.getD i 0) = false)) ∧
    ∀ i, last = some i → i < q.bs.length ∧ ∃ s', seen = Array.push s' (q.bs.getD i 0)
def nxN (c : Option Nat) : Nat := if c.isSome then 3 else 1
@[simp] theorem nxN_pos {c : Option Nat} : (0 < nxN c) = True := by cases c <;> simp [nxN]
@[simp] theorem nxN_some {i : Nat} : nxN (some i) = 3 := rfl
def nxF (l : List (AVal × AVal)) (c : Option Nat) (j : Nat) : AVal := match j with
  | 0 => .bool c.isSome
  | 1 => (l.getD (c.getD 0) (.any, .any)).1
  | _ => (l.getD (c.getD 0) (.any, .any)).2
@[simp] theorem nxF_zero {l : List (AVal × AVal)} {c : Option Nat} : nxF l c 0 = .bool c.isSome := rfl
@[simp] theorem nxF_one {l : List (AVal × AVal)} {c : Option Nat} : nxF l c 1 = (l.getD (c.getD 0) (.any, .any)).1 := rfl
@[simp] theorem nxF_two {l : List (AVal × AVal)} {c : Option Nat} : nxF l c 2 = (l.getD (c.getD 0) (.any, .any)).2 := rfl
def leftA (left : List Nat) : Option Nat → List Nat
  | none => []
  | some i => left.erase i
@[simp] theorem leftA_some {left : List Nat} {i : Nat} : leftA left (some i) = left.erase i := rfl
@[simp] theorem leftA_none {left : List Nat} : leftA left none = [] := rfl
def nxOK (left : List Nat) (n : Nat) : Option Nat → Prop
  | none => left = []
  | some i => i ∈ left ∧ i < n
def enF (l : List (AVal × AVal)) (i j : Nat) : AVal := match j with
  | 0 => (l.getD i (.any, .any)).1
  | _ => (l.getD i (.any, .any)).2
@[simp] theorem enF_zero {l : List (AVal × AVal)} {i : Nat} : enF l i 0 = (l.getD i (.any, .any)).1 := rfl
@[simp] theorem enF_one {l : List (AVal × AVal)} {i : Nat} : enF l i 1 = (l.getD i (.any, .any)).2 := rfl
section
variable {P : Program} {G : Gh} {n0 : Nat}
theorem awpL_some {γ : Type} (J : γ → Prop) (h' : γ → Heap) (nx' : γ → Nat) (v : γ → AVal) {ops ls : List Oper} {o : Oper} {Q : St → Prop} {st : St} (hg : o.guard = none) (hnb : ∀ c, o.op ≠ .defer c)
    (hrun : ∀ mu a w, Sim G mu st a w → ∃ c, J c ∧ ∃ x w' mu', (execOp a.eval o).run P w = .ok (.value x) w' ∧ (cx G st.heap mu st.nx w).Le (cx G (h' c) mu' (nx' c) w') ∧ HOk G (h' c) mu' (nx' c) w' ∧ Rel (cx G (h' c) mu' (nx' c) w') (v c) x)
    (h : ∀ K : St → Prop, (∀ s, AwpL P G n0 ops ls Q s → K s) → ∀ c, J c → goPut (putSt G.nt st.env (h' c) (nx' c) o.dst (v c)) K) : AwpL P G n0 ops (o :: ls) Q st := by
  intro mu a w hs hn Q' hQ
  refine wpl_step hnb fun K hK => ?_
  have hw : Region.wanted o (yielded ops.toArray a.tmps) = true := by simp [Region.wanted, hg]
  rw [if_pos hw]
  obtain ⟨c, hJ, x, w', mu', hr, hLe, hk, hv⟩ := hrun mu a w hs
  obtain ⟨s, hput, hs2⟩ := goPut_spec (h _ (fun _ hs => hs) c hJ)
  unfold Oper.wp
  rw [hr]
  have hsim := hs.put hLe hk hv hput
  have hLe' : (cx G st.heap mu st.nx w).Le (cx G s.heap mu' s.nx w') := by
    rw [(putSt_heap hput).1, (putSt_heap hput).2]; exact hLe
  exact hK _ _ (hs2 mu' _ w' hsim (Nat.le_trans hn hLe'.nx) Q' fun mu2 st2 a2 w2 h1 h2 h3 h4 => hQ mu2 st2 a2 w2 h1 h2 ((Stay.of hn hLe').trans h3) h4)
theorem sameW (w : World) : w.os = w.os ∧ w.tape = w.tape ∧ w.output = w.output ∧ w.drawn ≤ w.drawn := ⟨rfl, rfl, rfl, Nat.le_refl _⟩
theorem awpL_range {id : Id} {l : List (AVal × AVal)} {ty kt et : TypeId} {x : Operand} (hu : P.underlying ty = some (.map kt et)) {ops ls : List Oper} {o : Oper} {Q : St → Prop} {st : St} (ho : o.op = .range ty x) (hg : o.guard = none) (hx : sv st.env x = .map id) (hm : lkH st.heap id = some (.mp l)) (hsc : sc st.env x)
    (h : ∀ K : St → Prop, (∀ s, AwpL P G n0 ops ls Q s → K s) → ∀ q : MQ, q.bs.length = l.length →
      goPut (putSt G.nt st.env ((st.nx, .one (.ob (itP q (List.range l.length) none))) :: setH st.heap id (.mi q l)) (st.nx + 1) o.dst (.ptr (st.nx, 0) 0 0)) K) : AwpL P G n0 ops (o :: ls) Q st := by
  refine awpL_some (γ := MQ) (fun q => q.bs.length = l.length) (fun q => (st.nx, .one (.ob (itP q (List.range l.length) none))) :: setH st.heap id (.mi q l)) (fun _ => st.nx + 1) (fun _ => .ptr (st.nx, 0) 0 0) hg (by rw [ho]; intro c e; cases e) (fun mu a w hs => ?_) h
  have hxr := strip_rel (hs.rho x) hsc
  have hxr' : Rel (cx G st.heap mu st.nx w) (sv st.env x) (a.eval x) := hxr
  rw [hx] at hxr'
  obtain ⟨_, B, hB, hxv⟩ := hxr'
  have hB' : mu id = some B := hB
  have hrel := (hs.heap.obj id _ hm).2
  rw [hB'] at hrel
  obtain ⟨es, clock, hh, hsz, hc, hbn⟩ := hrel
  have hh' : w.heap[B.b]? = some (.map es clock) := hh
  let q : MQ := ⟨B.b, clock, es.toList.map (·.born)⟩
  have hql : q.bs.length = l.length := by simp [q, ← hsz]
  refine ⟨q, hql, .pointer (some ⟨w.heap.size, 0, none⟩), w.alloc (.mapIter (some B.b) clock #[] clock), upd mu (st.nx, 0) (some ⟨w.heap.size, 0, 0, 0⟩), ?_, ?_⟩
  · simp only [execOp, ho, hxv, Sem.run_bind, run_range_map w ty kt et B.b es clock hu hh', Result.andThen_ok, Sem.run_pure]
  · have hwr := hs.heap.write (o' := .mi q l) hm hB' (w' := w) rfl (fun _ _ => rfl) (sameW w) (fun hLe => ⟨es, clock, hh, hsz, fun i hi e he => ⟨(hc i hi e he).1.mono hLe, (hc i hi e he).2.mono hLe⟩, hbn, rfl, rfl, rfl⟩) (fun cs t h2 => by rw [hh'] at h2; cases h2)
    have hal := hwr.2.allocOb (itP q (List.range l.length) none) (.mapIter (some B.b) clock #[] clock) trivial ⟨#[], rfl, List.nodup_range, fun i hi => by rw [hql]; exact List.mem_range.1 hi, fun i hi => by simp [← hql, hi], fun i e => by cases e⟩
    have hLe2 := cx_alloc (G := G) (h := setH st.heap id (.mi q l)) (mu := mu) (nx := st.nx) (w := w) (e := .one (.ob (itP q (List.range l.length) none))) (.ob (itP q (List.range l.length) none)) HEnt.Solo.one (.mapIter (some B.b) clock #[] clock) ⟨w.heap.size, 0, 0, 0⟩ rfl
    exact ⟨hwr.1.trans hLe2, hal, Nat.lt_succ_self _, ⟨w.heap.size, 0, 0, 0⟩, by simp [cx], by simp⟩
theorem itP_none {q : MQ} {left : List Nat} {last : Option Nat} {b : Nat} {x : Obj} (h : itP q left last b x) (h0 : left = []) : itP q [] none b x := by
  obtain ⟨seen, h1, h2, h3, h4, h5⟩ := h
  subst h0
  exact ⟨seen, h1, h2, h3, h4, fun i e => by cases e⟩
theorem pos_of_mem {es : Array MapEntry} {e : MapEntry} (he : e ∈ es.toList) : ∃ i, i < es.size ∧ es[i]? = some e := by
  obtain ⟨i, hi, h⟩ := List.mem_iff_getElem.1 he
  exact ⟨i, by simpa using hi, by rw [← h]; simp [show i < es.size by simpa using hi]⟩
theorem mem_left {es : Array MapEntry} {seen : Array Nat} {e : MapEntry} (he : e ∈ (leftOf es seen).toList) : e ∈ es.toList ∧ seen.contains e.born = false := by
  unfold leftOf at he
  simp only [Array.mem_toList_iff, Array.mem_filter, Bool.not_eq_true'] at he
  exact ⟨by simpa using he.1, he.2⟩
theorem left_none {es : Array MapEntry} {seen : Array Nat} (h : (leftOf es seen).size = 0) {i : Nat} {e : MapEntry} (he : es[i]? = some e) : seen.contains e.born = true := by
  unfold leftOf at h
  have h2 := Array.eq_empty_of_size_eq_zero h
  rw [Array.filter_eq_empty_iff] at h2
  have hm : e ∈ es := Array.mem_of_getElem? he
  have := h2 e hm
  simpa using this
theorem bs_at {es : Array MapEntry} {i : Nat} {e : MapEntry} (he : es[i]? = some e) : (es.toList.map (·.born)).getD i 0 = e.born := by
  simp [List.getD, he]
theorem awpL_next {k : Nat} {id : Id} {q : MQ} {l : List (AVal × AVal)} {left : List Nat} {last : Option Nat} (hne : id ≠ (k, 0)) {x : Operand} {ops ls : List Oper} {o : Oper} {Q : St → Prop} {st : St} (ho : o.op = .next x false) (hg : o.guard = none) (hx : sv st.env x = .ptr (k, 0) 0 0) (hi : lkH st.heap (k, 0) = some (.ob (itP q left last))) (hm : lkH st.heap id = some (.mi q l)) (hsc : sc st.env x)
    (h : ∀ K : St → Prop, (∀ s, AwpL P G n0 ops ls Q s → K s) → ∀ c : Option Nat, nxOK left l.length c →
      goPut (putSt G.nt st.env (setH st.heap (k, 0) (.ob (itP q (leftA left c) c))) st.nx o.dst (.tup (nxN c) (nxF l c))) K) : AwpL P G n0 ops (o :: ls) Q st := by
  refine awpL_some (γ := Option Nat) (fun c => nxOK left l.length c) (fun c => setH st.heap (k, 0) (.ob (itP q (leftA left c) c))) (fun _ => st.nx) (fun c => .tup (nxN c) (nxF l c)) hg (by rw [ho]; intro c e; cases e) (fun mu a w hs => ?_) h
  have hxr := strip_rel (hs.rho x) hsc
  have hxr' : Rel (cx G st.heap mu st.nx w) (sv st.env x) (a.eval x) := hxr
  rw [hx] at hxr'
  obtain ⟨_, BI, hBI, hxv⟩ := hxr'
  have hBI' : mu (k, 0) = some BI := hBI
  have hri := (hs.heap.obj _ _ hi).2
  rw [hBI'] at hri
  obtain ⟨y, hy, ⟨_, hBo⟩, hpy⟩ := hri
  have hy' : w.heap[BI.b]? = some y := hy
  have hpy0 := hpy
  obtain ⟨seen, rfl, hnd, hlt, hse, hla⟩ := hpy
  have hrm := (hs.heap.obj _ _ hm).2
  cases hBm : mu id with
  | none => rw [hBm] at hrm; exact hrm.elim
  | some BM =>
  rw [hBm] at hrm
  obtain ⟨es, clock, hh, hsz, hc, hbn, hqb, hqc, hqs⟩ := hrm
  have hh' : w.heap[BM.b]? = some (.map es clock) := hh
  subst hqc
  rw [hqb] at hh'
  have hbl : ∀ i, i < es.size → i < q.bs.length := fun i hi => by rw [← hqs]; simpa using hi
  have hxv2 : a.eval x = .pointer (some ⟨BI.b, 0, none⟩) := by rw [hxv, hBo]; simp
  have hold : ∀ e ∈ es.toList, e.born < q.clk := hbn.2
  have hnx := run_next_at (P := P) w (o.type) BI.b q.mb q.clk q.clk seen es q.clk hy' hh' hold (Nat.le_refl _)
  have hexec : ∀ y w', (Instr.next (.pointer (some ⟨BI.b, 0, none⟩)) false o.type).run P w = .ok y w' → (execOp a.eval o).run P w = .ok (.value y) w' := fun y w' hr => by
    simp only [execOp, ho, hxv2, Sem.run_bind, hr, Result.andThen_ok, Sem.run_pure]
  rcases hnx with ⟨h0, hrun⟩ | ⟨e, he, w1, hw1, hrun⟩
  · -- nothing is left
    have hl0 : left = [] := by
      rw [List.eq_nil_iff_forall_not_mem]
      intro i hil
      have hib := hlt i hil
      have hie : i < es.size := by rw [← hqs] at hib; simpa using hib
      have h2 := left_none h0 (i := i) (e := es[i]) (by simp [hie])
      have h3 := (hse i hib).1 hil
      rw [← hqs, bs_at (es := es) (i := i) (e := es[i]) (by simp [hie]), h2] at h3
      cases h3
    have hwr := hs.heap.write (o' := .ob (itP q [] none)) hi hBI' (w' := w) rfl (fun _ _ => rfl) (sameW w) (fun hLe => ⟨_, hy, ⟨trivial, hBo⟩, itP_none hpy0 hl0⟩) (fun cs t h2 => by rw [hy'] at h2; cases h2)
    exact ⟨none, hl0, _, w, mu, hexec _ _ hrun, hwr.1, hwr.2, #[.bool false], rfl, rfl, fun j hj => by
      obtain rfl : j = 0 := by have : j < 1 := hj; omega
      rfl⟩
  · obtain ⟨hem, hes⟩ := mem_left he
    obtain ⟨i, hie, hei⟩ := pos_of_mem hem
    have hib := hbl i hie
    have hbi : q.bs.getD i 0 = e.born := by rw [← hqs]; exact bs_at hei
    have hil : i ∈ left := (hse i hib).2 (by rw [hbi]; exact hes)
    have hln : i < l.length := by rw [← hsz]; exact hie
    have hw1h : w1.heap = w.heap := by rcases hw1 with rfl | rfl <;> rfl
    have hw1o : w1.os = w.os ∧ w1.tape = w.tape ∧ w1.output = w.output ∧ w.drawn ≤ w1.drawn := by
      rcases hw1 with rfl | rfl
      · exact sameW _
      · exact ⟨rfl, rfl, rfl, Nat.le_succ _⟩
    let ob' : Obj := .mapIter (some q.mb) q.clk (seen.push e.born) q.clk
    let w2 : World := ChangeMaps.setBlock w1 BI.b ob'
    have hb2 : w2.heap[BI.b]? = some ob' := by
      show (w1.heap.setIfInBounds BI.b ob')[BI.b]? = _
      rw [hw1h, Array.getElem?_setIfInBounds_self_of_lt (lt_of_get hy')]
    have hne2 : ∀ b, b ≠ BI.b → w2.heap[b]? = w.heap[b]? := fun b hb => by
      show (w1.heap.setIfInBounds BI.b ob')[b]? = _
      rw [hw1h, Array.getElem?_setIfInBounds_ne (Ne.symm hb)]
    have hsz2 : w2.heap.size = w.heap.size := by
      show (w1.heap.setIfInBounds BI.b ob').size = _
      rw [hw1h, Array.size_setIfInBounds]
    have hp2 : itP q (left.erase i) (some i) BI.b ob' := by
      refine ⟨seen.push e.born, rfl, hnd.erase _, fun j hj => hlt j (List.mem_of_mem_erase hj), fun j hj => ?_, fun j e' => ?_⟩
      · have hje : j < es.size := by rw [← hqs] at hj; simpa using hj
        rw [hnd.mem_erase_iff, hse j hj]
        have hcp : (seen.push e.born).contains (q.bs.getD j 0) = (seen.contains (q.bs.getD j 0) || (e.born == q.bs.getD j 0)) := by
          rw [contains_push, Bool.beq_comm]
        rw [hcp, Bool.or_eq_false_iff]
        constructor
        · rintro ⟨hji, hs0⟩
          refine ⟨hs0, ?_⟩
          rw [beq_eq_false_iff_ne]
          intro heq
          apply hji
          rw [← hbi, ← hqs] at heq
          have h5 : i < (es.toList.map (·.born)).length := by simpa using hie
          have h6 : j < (es.toList.map (·.born)).length := by simpa using hje
          have h7 : (es.toList.map (·.born))[i] = (es.toList.map (·.born))[j] := by
            simpa [List.getD, hie, hje] using heq
          exact ((List.getElem_inj hbn.1).1 h7).symm
        · rintro ⟨hs0, hbe⟩
          refine ⟨fun hji => ?_, hs0⟩
          subst hji
          rw [hbi] at hbe
          simp at hbe
      · injection e' with e'
        subst e'
        exact ⟨hib, seen, by rw [hbi]⟩
    have hwr := hs.heap.write (o' := .ob (itP q (left.erase i) (some i))) hi hBI' (w' := w2) hsz2 hne2 hw1o (fun hLe => ⟨ob', hb2, ⟨trivial, hBo⟩, hp2⟩) (fun cs t h2 => by rw [hy'] at h2; cases h2)
    have hkv := hc i hln e hei
    have hLe2 := hwr.1
    have hld : l.getD i (.any, .any) = l[i] := by simp [List.getD, hln]
    refine ⟨some i, ⟨hil, hln⟩, _, w2, mu, hexec _ _ hrun, hLe2, hwr.2, #[.bool true, e.key, e.val], rfl, rfl, fun j hj => ?_⟩
    have hj3 : j < 3 := hj
    match j, hj3 with
    | 0, _ => rfl
    | 1, _ => show Rel _ (l.getD i (.any, .any)).1 e.key; rw [hld]; exact hkv.1.mono hLe2
    | 2, _ => show Rel _ (l.getD i (.any, .any)).2 e.val; rw [hld]; exact hkv.2.mono hLe2
theorem awpL_entry {k : Nat} {id : Id} {q : MQ} {l : List (AVal × AVal)} {left : List Nat} {i : Nat} {x : Operand} {ops ls : List Oper} {o : Oper} {Q : St → Prop} {st : St} (ho : o.op = .entry x) (hg : o.guard = none) (hx : sv st.env x = .ptr (k, 0) 0 0) (hi : lkH st.heap (k, 0) = some (.ob (itP q left (some i)))) (hm : lkH st.heap id = some (.mi q l)) (hsc : sc st.env x)
    (h : ∀ K : St → Prop, (∀ s, AwpL P G n0 ops ls Q s → K s) → goPut (putSt G.nt st.env st.heap st.nx o.dst (.tup 2 (enF l i))) K) : AwpL P G n0 ops (o :: ls) Q st := by
  refine awpL_some (γ := Unit) (fun _ => True) (fun _ => st.heap) (fun _ => st.nx) (fun _ => .tup 2 (enF l i)) hg (by rw [ho]; intro c e; cases e) (fun mu a w hs => ?_) fun K hK _ _ => h K hK
  have hxr := strip_rel (hs.rho x) hsc
  have hxr' : Rel (cx G st.heap mu st.nx w) (sv st.env x) (a.eval x) := hxr
  rw [hx] at hxr'
  obtain ⟨_, BI, hBI, hxv⟩ := hxr'
  have hBI' : mu (k, 0) = some BI := hBI
  have hri := (hs.heap.obj _ _ hi).2
  rw [hBI'] at hri
  obtain ⟨y, hy, ⟨_, hBo⟩, hpy⟩ := hri
  have hy' : w.heap[BI.b]? = some y := hy
  obtain ⟨seen, rfl, hnd, hlt, hse, hla⟩ := hpy
  obtain ⟨hib, seen', rfl⟩ := hla i rfl
  have hrm := (hs.heap.obj _ _ hm).2
  cases hBm : mu id with
  | none => rw [hBm] at hrm; exact hrm.elim
  | some BM =>
  rw [hBm] at hrm
  obtain ⟨es, clock, hh, hsz, hc, hbn, hqb, hqc, hqs⟩ := hrm
  have hh' : w.heap[BM.b]? = some (.map es clock) := hh
  subst hqc
  rw [hqb] at hh'
  have hie : i < es.size := by rw [← hqs] at hib; simpa using hib
  have hei : es[i]? = some es[i] := by simp [hie]
  have hln : i < l.length := by rw [← hsz]; exact hie
  have hbi : q.bs.getD i 0 = es[i].born := by rw [← hqs]; exact bs_at hei
  rw [hbi] at hy'
  have hrun := run_entry_at (P := P) w BI.b q.mb q.clk seen' es q.clk es[i] hy' hh' (by simp) hbn.1
  have hxv2 : a.eval x = .pointer (some ⟨BI.b, 0, none⟩) := by rw [hxv, hBo]; simp
  have hkv := hc i hln es[i] hei
  have hld : l.getD i (.any, .any) = l[i] := by simp [List.getD, hln]
  refine ⟨(), trivial, _, w, mu, by simp only [execOp, ho, hxv2, Sem.run_bind, hrun, Result.andThen_ok, Sem.run_pure], Cx.Le.refl _, hs.heap, #[es[i].key, es[i].val], rfl, rfl, fun j hj => ?_⟩
  have hj2 : j < 2 := hj
  match j, hj2 with
  | 0, _ => show Rel _ (l.getD i (.any, .any)).1 es[i].key; rw [hld]; exact hkv.1
  | 1, _ => show Rel _ (l.getD i (.any, .any)).2 es[i].val; rw [hld]; exact hkv.2
end
end Go.Lift
namespace Go.Lift
set_option linter.unusedSimpArgs false
set_option linter.unusedVariables false
open Go.RowKit
def entI (l : List (AVal × AVal)) (r : Option (Nat × AVal)) : Nat := (r.map (·.1)).getD l.length
def entF (v : AVal) (n : Int) (j : Nat) : AVal := match j with
  | 0 => v
  | _ => .int .i64 n
@[simp] theorem entF_one {v : AVal} {n : Int} : entF v n 1 = .int .i64 n := rfl
section
variable {P : Program} {G : Gh} {h : Heap} {mu : Id → Option Base} {nx : Nat} {w : World}
theorem map_writeO (hk : HOk G h mu nx w) {id : Id} {o o' : HObj} {l' : List (AVal × AVal)} {B : Base} {es es' : Array MapEntry} {cl cl' : Nat} (hl : lkH h id = some o) (hB : mu id = some B) (hh : w.heap[B.b]? = some (.map es cl)) (hes : EntRel (cx G h mu nx w) l' es'.toList)
    (ho : ∀ c : Cx, c.w.heap[B.b]? = some (.map es' cl') → es'.size = l'.length → (∀ i (hi : i < l'.length) e, es'[i]? = some e → Rel c l'[i].1 e.key ∧ Rel c l'[i].2 e.val) → HRel c (some B) o') :
    (cx G h mu nx w).Le (cx G (setH h id o') mu nx { w with heap := w.heap.setIfInBounds B.b (.map es' cl') }) ∧ HOk G (setH h id o') mu nx { w with heap := w.heap.setIfInBounds B.b (.map es' cl') } ∧
      Frame mu w { w with heap := w.heap.setIfInBounds B.b (.map es' cl') } (some id) := by
  have hbs : B.b < w.heap.size := (hk.own id _ B hl hB).1
  have h1 := hk.write (o' := o') hl hB (w' := { w with heap := w.heap.setIfInBounds B.b (.map es' cl') }) (by simp) (fun b hb => by
    show (w.heap.setIfInBounds B.b _)[b]? = _
    rw [Array.getElem?_setIfInBounds_ne (Ne.symm hb)]) ⟨rfl, rfl, rfl, Nat.le_refl _⟩ (fun hLe => by
    refine ho _ ?_ (by have := hes.1; simpa using this) fun i hi e he => ?_
    · show (w.heap.setIfInBounds B.b _)[B.b]? = _
      rw [Array.getElem?_setIfInBounds_self_of_lt hbs]
    · have := hes.2 i hi e (by simpa using he)
      exact ⟨this.1.mono hLe, this.2.mono hLe⟩) (fun cs t h2 => by rw [hh] at h2; cases h2)
  refine ⟨h1.1, h1.2, fun b hb hne => ?_⟩
  show (w.heap.setIfInBounds B.b _)[b]? = _
  rw [Array.getElem?_setIfInBounds_ne (Ne.symm (hne id B rfl hB))]
theorem born_sets {es : Array MapEntry} {i : Nat} {f : MapEntry → MapEntry} (hf : ∀ e, (f e).born = e.born) : (es.modify i f).toList.map (·.born) = es.toList.map (·.born) := by
  apply List.ext_getElem?
  intro k
  simp only [List.getElem?_map, Array.getElem?_toList, Array.getElem?_modify]
  by_cases hk : i = k
  · rw [if_pos hk]; cases es[k]? <;> simp [hf]
  · rw [if_neg hk]
theorem luK_at {T : Tab} {kt : TypeId} {i : Nat} {v : AVal} : ∀ (l : List (AVal × AVal)) (n : Nat) (k : AVal), luK T kt l n k = some (some (i, v)) → n ≤ i ∧ ∃ h : i - n < l.length, (l[i - n]).2 = v
  | [], _, _, h => by simp [luK] at h
  | (a, b) :: l, n, k, h => by
    unfold luK at h
    split at h
    · simp only [Option.some.injEq, Prod.mk.injEq] at h
      obtain ⟨rfl, rfl⟩ := h
      exact ⟨Nat.le_refl _, by simp, by simp⟩
    · obtain ⟨h1, h2, h3⟩ := luK_at l (n + 1) k h
      have e : i - n = (i - (n + 1)) + 1 := by omega
      refine ⟨by omega, by rw [e]; simp only [List.length_cons]; omega, ?_⟩
      simp only [e, List.getElem_cons_succ]
      exact h3
    · cases h
theorem mapEntry_ok {T : Tab} (hT : TabOK P T) (hk : HOk G h mu nx w) {t kt et : TypeId} {i ei : TI} (ht : T t = some i) (hik : i.k = .map kt et) (hei : T et = some ei) {id : Id} {l : List (AVal × AVal)} (hl : lkH h id = some (.mp l)) {k : AVal} (hkt : keyT T kt k = true) {r : Option (Nat × AVal)} (hr : luK T kt l 0 k = some r)
    {x y : Value} (hx : Rel (cx G h mu nx w) (.map id) x) (hy : Rel (cx G h mu nx w) k y) :
    ∃ q : MQ, ∃ z w', (Instr.mapEntry t x y).run P w = .ok z w' ∧ (cx G h mu nx w).Le (cx G (setH h id (.mi q (putK l r (normK k) (lkV r (mkL ei ei.zero))))) mu nx w') ∧ HOk G (setH h id (.mi q (putK l r (normK k) (lkV r (mkL ei ei.zero))))) mu nx w' ∧
      Rel (cx G (setH h id (.mi q (putK l r (normK k) (lkV r (mkL ei ei.zero))))) mu nx w') (.tup 2 (entF (lkV r (mkL ei ei.zero)) (q.bs.getD (entI l r) 0 : Nat))) z ∧ Frame mu w w' (some id) := by
  have hu : P.underlying t = some (.map kt et) := by have := (hT t _ ht).kind; rw [hik] at this; exact this
  rcases mapOf_ok hk (m := .map id) (l := l) (by simp only [mapOf, hl]) hx with ⟨rfl, _⟩ | ⟨id', B, es, clock, hid, _, hB, rfl, hh, hes, hbn⟩
  · obtain ⟨_, B, _, hxx⟩ := hx; cases hxx
  injection hid with hid
  subst hid
  obtain ⟨zv, hz, hzr⟩ := zero_rel hT hei (cx G h mu nx w)
  have hck := run_check_key hT hkt hy false 9998 w
  obtain ⟨r', hr', hf⟩ := run_findKey hT hkt hy hes hr w
  have hg : (getObj B.b).run P w = .ok (.map es clock) w := by simp [getObj, Sem.run, hh]
  have hlen : es.toList.length = l.length := hes.1
  cases r with
  | none =>
    cases r' with
    | some q => exact hf.elim
    | none =>
      have hes' : EntRel (cx G h mu nx w) (l ++ [(normK k, mkL ei ei.zero)]) (es.push { key := y, val := zv, born := clock }).toList := by
        refine ⟨by simp [← hlen], fun i hi e he => ?_⟩
        simp only [Array.toList_push] at he
        by_cases h1 : i < l.length
        · rw [List.getElem?_append_left (by omega)] at he
          rw [List.getElem_append_left h1]
          exact hes.2 i h1 e he
        · have h2 : i = l.length := by simp at hi; omega
          subst h2
          rw [List.getElem?_append_right (by omega), hlen, Nat.sub_self] at he
          simp only [List.getElem?_cons_zero, Option.some.injEq] at he
          subst he
          simp only [List.getElem_append_right (Nat.le_refl _), Nat.sub_self, List.getElem_cons_zero]
          exact ⟨normK_rel hy, hzr⟩
      let q : MQ := ⟨B.b, clock + 1, (es.push { key := y, val := zv, born := clock }).toList.map (·.born)⟩
      have hbn' : Born (es.push { key := y, val := zv, born := clock }).toList (clock + 1) := by rw [Array.toList_push]; exact hbn.push
      obtain ⟨a1, a2, a3⟩ := map_writeO (o' := .mi q (l ++ [(normK k, mkL ei ei.zero)])) (cl' := clock + 1) hk hl hB hh hes' (fun c h1 h2 h3 => ⟨_, _, h1, h2, h3, hbn', rfl, rfl, rfl⟩)
      refine ⟨q, .tuple #[zv, goInt clock], _, ?_, a1, a2, ⟨_, rfl, rfl, fun j hj => ?_⟩, a3⟩
      · simp only [Instr.mapEntry, Sem.run_bind, run_underlying hu, Result.andThen_ok, hg, hck, hr', hz, setObj_map hh, Sem.run_pure]
      · have hq : q.bs.getD (entI l none) 0 = clock := by
          show ((es.push _).toList.map (·.born)).getD l.length 0 = clock
          rw [Array.toList_push, List.map_append, List.getD_eq_getElem?_getD, List.getElem?_append_right (by simp [hlen])]
          simp [hlen]
        have hj2 : j < 2 := hj
        match j, hj2 with
        | 0, _ => exact hzr.mono a1
        | 1, _ =>
          show (goInt clock : Value) = .int .i64 _
          rw [hq]; rfl
  | some p =>
    obtain ⟨pi, pv⟩ := p
    cases r' with
    | none => exact hf.elim
    | some qq =>
      obtain ⟨qi, qv⟩ := qq
      obtain ⟨rfl, _, hlt, hv, a, ha, hka⟩ := hf
      simp only [Nat.sub_zero] at hlt ha
      have hqs : qi < es.size := by have : es.toList.length = es.size := Array.length_toList; omega
      have hent := hes.2 qi hlt es[qi] (by simp [hqs])
      have hae : l[qi].1 = a := by
        simp only [List.getElem?_map, List.getElem?_eq_getElem hlt, Option.map_some, Option.some.injEq] at ha
        exact ha
      have hbits : Instr.sameBits 10000 es[qi].key y = true := kEq_same hka hkt hy (by rw [← hae]; exact hent.1)
      have hval : qv = es[qi].val ∨ True := .inr trivial
      have hes' : EntRel (cx G h mu nx w) (l.set qi (normK k, pv)) (es.modify qi fun e => { e with key := y }).toList := by
        refine ⟨by simp [hlen], fun i hi e he => ?_⟩
        simp only [List.length_set] at hi
        have hi' : i < es.size := by have : es.toList.length = es.size := Array.length_toList; omega
        simp only [Array.getElem?_toList, Array.getElem?_modify] at he
        by_cases h1 : qi = i
        · subst h1
          simp only [if_true, Array.getElem?_eq_getElem hi', Option.map_some, Option.some.injEq] at he
          subst he
          simp only [List.getElem_set_self]
          refine ⟨normK_rel hy, ?_⟩
          obtain ⟨_, _, hpv⟩ := luK_at l 0 k hr
          have hpv2 : l[qi].2 = pv := hpv
          rw [← hpv2]
          exact hent.2
        · simp only [if_neg h1] at he
          rw [List.getElem_set_ne h1]
          exact hes.2 i hi e (by simpa using he)
      let q : MQ := ⟨B.b, clock, (es.modify qi fun e => { e with key := y }).toList.map (·.born)⟩
      have hbn' : Born (es.modify qi fun e => { e with key := y }).toList clock := hbn.modify _ _ fun _ => rfl
      obtain ⟨a1, a2, a3⟩ := map_writeO (o' := .mi q (l.set qi (normK k, pv))) (cl' := clock) hk hl hB hh hes' (fun c h1 h2 h3 => ⟨_, _, h1, h2, h3, hbn', rfl, rfl, rfl⟩)
      refine ⟨q, .tuple #[qv, goInt es[qi].born], _, ?_, a1, a2, ⟨_, rfl, rfl, fun j hj => ?_⟩, a3⟩
      · have hks : (Instr.keyThatStays (((es[qi]?).map (·.key)).getD y) y).run P w = .ok y w := by
          simp only [Array.getElem?_eq_getElem hqs, Option.map_some, Option.getD_some, Instr.keyThatStays, hbits, if_true, Sem.run_pure]
        have hbo : ((es[qi]?).map (fun e => (e.born : Int))).getD 0 = (es[qi].born : Int) := by simp [Array.getElem?_eq_getElem hqs]
        simp only [Instr.mapEntry, Sem.run_bind, run_underlying hu, Result.andThen_ok, hg, hck, hr', hks, setObj_map hh, Sem.run_pure, hbo]
      · have hq : q.bs.getD (entI l (some (qi, pv))) 0 = es[qi].born := by
          show ((es.modify qi _).toList.map (·.born)).getD qi 0 = _
          rw [born_sets (f := fun e => { e with key := y }) fun _ => rfl]
          exact bs_at (by simp [hqs])
        have hj2 : j < 2 := hj
        match j, hj2 with
        | 0, _ => exact hv.mono a1
        | 1, _ =>
          show (goInt _ : Value) = .int .i64 _
          rw [hq]; rfl
theorem findIdx_stamp {l : List MapEntry} (hn : (l.map (·.born)).Nodup) {j : Nat} {e0 : MapEntry} (h : l[j]? = some e0) : l.findIdx? (fun e => ((e.born : Nat) : Int) == ((e0.born : Nat) : Int)) = some j := by
  induction l generalizing j with
  | nil => simp at h
  | cons a r ih =>
    simp only [List.map_cons, List.nodup_cons] at hn
    cases j with
    | zero =>
      simp only [List.getElem?_cons_zero, Option.some.injEq] at h
      subst h
      simp [List.findIdx?_cons]
    | succ j =>
      simp only [List.getElem?_cons_succ] at h
      have hne : a.born ≠ e0.born := fun e1 => hn.1 (List.mem_map.2 ⟨e0, List.mem_of_getElem? h, e1.symm⟩)
      have hb : (((a.born : Nat) : Int) == ((e0.born : Nat) : Int)) = false := by
        simp only [beq_eq_false_iff_ne, ne_eq, Int.natCast_inj]
        exact hne
      rw [List.findIdx?_cons, hb]
      simp [ih hn.2 h]
theorem findIdx_ar (xs : Array MapEntry) (p : MapEntry → Bool) : xs.findIdx? p = xs.toList.findIdx? p := by
  cases xs
  simp
theorem putK_place {l : List (AVal × AVal)} {r : Option (Nat × AVal)} {k v0 v : AVal} (hri : ∀ p, r = some p → p.1 < l.length) : (putK l r k v0).length = (putK l r k v).length ∧ entI l r < (putK l r k v).length ∧
    ∀ i (h1 : i < (putK l r k v).length) (h2 : i < (putK l r k v0).length), (putK l r k v)[i].1 = (putK l r k v0)[i].1 ∧ (putK l r k v)[i].2 = if i = entI l r then v else (putK l r k v0)[i].2 := by
  cases r with
  | none =>
    refine ⟨by simp [putK], by simp [putK, entI], fun i h1 h2 => ?_⟩
    simp only [putK] at h1 h2
    simp only [putK, entI, Option.map_none, Option.getD_none]
    by_cases h3 : i < l.length
    · rw [List.getElem_append_left h3, List.getElem_append_left h3]
      exact ⟨rfl, (if_neg (show ¬ i = l.length by omega)).symm⟩
    · have h4 : i = l.length := by simp at h1; omega
      subst h4
      simp
  | some p =>
    have h0 := hri p rfl
    refine ⟨by simp [putK], by simp [putK, entI, h0], fun i h1 h2 => ?_⟩
    simp only [putK] at h1 h2
    simp only [putK, entI, Option.map_some, Option.getD_some]
    by_cases h3 : p.1 = i
    · subst h3; simp
    · rw [List.getElem_set_ne h3, List.getElem_set_ne h3]
      exact ⟨rfl, (if_neg (Ne.symm h3)).symm⟩
theorem entryStore_ok (hk : HOk G h mu nx w) {t : TypeId} {id : Id} {l : List (AVal × AVal)} {r : Option (Nat × AVal)} {q : MQ} {k v0 v : AVal} (hl : lkH h id = some (.mi q (putK l r k v0))) (hri : ∀ p, r = some p → p.1 < l.length)
    {x y z : Value} (hx : Rel (cx G h mu nx w) (.map id) x) (hy : Rel (cx G h mu nx w) (.int .i64 (q.bs.getD (entI l r) 0 : Nat)) y) (hz : Rel (cx G h mu nx w) v z) :
    ∃ w', (Instr.entryStore t x y z).run P w = .ok () w' ∧ (cx G h mu nx w).Le (cx G (setH h id (.mp (putK l r k v))) mu nx w') ∧ HOk G (setH h id (.mp (putK l r k v))) mu nx w' ∧ Frame mu w w' (some id) := by
  obtain ⟨_, B, hB, rfl⟩ := hx
  have hB' : mu id = some B := hB
  have ho := (hk.obj id _ hl).2
  rw [hB'] at ho
  obtain ⟨es, clock, hh, hsz, hc, hbn, hqb, hqc, hqs⟩ := ho
  have hh' : w.heap[B.b]? = some (.map es clock) := hh
  have hg : (getObj B.b).run P w = .ok (.map es clock) w := by simp [getObj, Sem.run, hh']
  obtain ⟨hl1, hl2, hl3⟩ := putK_place (k := k) (v0 := v0) (v := v) hri
  have hes : entI l r < es.size := by omega
  have hst : q.bs.getD (entI l r) 0 = es[entI l r].born := by rw [← hqs]; exact bs_at (by simp [hes])
  have hyv : y = .int .i64 (es[entI l r].born : Nat) := by rw [← hst]; exact hy
  have hidx : es.findIdx? (fun e => ((e.born : Nat) : Int) == ((es[entI l r].born : Nat) : Int)) = some (entI l r) := by
    rw [findIdx_ar]
    exact findIdx_stamp hbn.1 (by simp [hes])
  have hes' : EntRel (cx G h mu nx w) (putK l r k v) (es.modify (entI l r) fun e => { e with val := z }).toList := by
    refine ⟨by simp [hsz, hl1], fun i hi e he => ?_⟩
    have hi' : i < es.size := by omega
    obtain ⟨h5, h6⟩ := hl3 i hi (by omega)
    have hci := hc i (by omega) es[i] (by simp [hi'])
    simp only [Array.getElem?_toList, Array.getElem?_modify] at he
    by_cases h1 : entI l r = i
    · simp only [if_pos h1, Array.getElem?_eq_getElem hi', Option.map_some, Option.some.injEq] at he
      subst he
      rw [h5, h6, if_pos h1.symm]
      exact ⟨hci.1, hz⟩
    · simp only [if_neg h1, Array.getElem?_eq_getElem hi', Option.some.injEq] at he
      subst he
      rw [h5, h6, if_neg (Ne.symm h1)]
      exact hci
  obtain ⟨a1, a2, a3⟩ := map_writeO (o' := .mp (putK l r k v)) (cl' := clock) hk hl hB' hh' hes' (fun c h1 h2 h3 => ⟨_, _, h1, h2, h3, hbn.modify _ _ fun _ => rfl⟩)
  refine ⟨_, ?_, a1, a2, a3⟩
  subst hyv
  simp only [Instr.entryStore, Sem.run_bind, hg, asInt, asIntOf, Result.andThen_ok, Sem.run_pure, hidx, setObj_map hh']
end
section
variable {P : Program} {G : Gh} {n0 : Nat}
end
section
variable {P : Program} {G : Gh} {n0 : Nat} {ops : List Oper} {W : List (Nat × Id)} {al : AL} {mu0 : Id → Option Base} {nx0 : Nat} {Q : St → Prop}
theorem awpO_good {γ : Type} (J : γ → Prop) (h' : γ → Heap) (v : γ → AVal) (d : Option Id) {fuel : Nat} {done : List Nat} {i : Nat} {o : Oper} {st : St} (hi : ops.toArray[i]? = some o) (hg : o.guard = none) (hw : wOK W al nx0 i st.heap d)
    (hrun : ∀ mu a w, Sim G mu st a w → ∃ c, J c ∧ GoodN P G st.heap mu st.nx w (execOp a.eval o) (v c) (h' c) st.nx d)
    (h : ∀ K : St → Prop, (∀ s, AwpA P G n0 ops W al mu0 nx0 Q fuel (i :: done) s → K s) → ∀ c, J c → goPut (putSt G.nt st.env (h' c) st.nx o.dst (v c)) K) : AwpO P G n0 ops W al mu0 nx0 Q fuel done st i := by
  intro mu a w hs hn hx hm Q' hp hQ
  refine wpOp_of hi ?_
  have hwd : Region.wanted o (yielded ops.toArray a.tmps) = true := by simp [Region.wanted, hg]
  rw [if_pos hwd]
  obtain ⟨c, hJ, x, w', mu', hr, hLe, hk, hv, hfr⟩ := hrun mu a w hs
  obtain ⟨s, hput, hs2⟩ := goPut_spec (h _ (fun _ hs => hs) c hJ)
  have hsim := hs.put hLe hk hv hput
  have hLe' : (cx G st.heap mu st.nx w).Le (cx G s.heap mu' s.nx w') := by
    rw [(putSt_heap hput).1, (putSt_heap hput).2]; exact hLe
  have fin : ∀ a', Sim G mu' s a' w' → ∃ c' : Cx, c'.w = w' ∧ LeKB (keepOf W al mu0 nx0 i) (cx G st.heap mu st.nx w) c' ∧ wpAnyC P ops.toArray Q' (keepOf W al mu0 nx0) fuel (lst ops.toArray.size (i :: done)) c' a' w' := fun a' hs' => by
    refine ⟨cx G s.heap mu' s.nx w', rfl, ⟨hLe', fun b hb hbs => ?_⟩, ?_⟩
    · refine hfr b hbs fun id B hid hB => ?_
      rw [hid] at hw
      rcases hw with hw | ⟨hw, hlt⟩ | ⟨hw, h1, h2⟩
      · rw [hb.1] at hw; cases hw
      · exact hb.2.2 (i, id) (by simpa using hw) rfl B ((hm id hlt).symm.trans hB)
      · obtain ⟨x, hx1, hx2, B1, hB1, rfl⟩ := hb.2.1 hw
        obtain ⟨k1, k2⟩ := h2 x hx1
        obtain ⟨o1, ho1⟩ := Option.isSome_iff_exists.1 k2
        obtain ⟨o2, ho2⟩ := Option.isSome_iff_exists.1 h1
        exact fun heq => k1 (hs.heap.sep x id o1 o2 B1 B ho1 ho2 ((hm x hx2).trans hB1) hB heq)
    · exact hs2 mu' a' w' hs' (Nat.le_trans hn hLe'.nx) (Nat.le_trans hx hLe'.nx) (fun id hid => (hLe'.mu id (Nat.lt_of_lt_of_le hid hx)).trans (hm id hid)) Q' hp
        fun mu2 st2 a2 w2 h1 h2 h3 h4 => hQ mu2 st2 a2 w2 h1 h2 ((Stay.of hn hLe').trans h3) h4
  unfold Oper.wp
  rcases hr with hr | ⟨hr, hx0⟩
  · rw [hr]; exact fin _ hsim
  · rw [hr]; rw [hx0] at hsim; exact fin _ hsim
theorem awpO_entry {T : Tab} (hT : TabOK P T) {t kt et : TypeId} {ti ei : TI} (ht : T t = some ti) (hik : ti.k = .map kt et) (hei : T et = some ei) {id : Id} {l : List (AVal × AVal)} {r : Option (Nat × AVal)} {x y : Operand} {fuel : Nat} {done : List Nat} {i : Nat} {o : Oper} {st : St} (hi : ops.toArray[i]? = some o) (ho : o.op = .mapEntry t x y) (hg : o.guard = none) (hx : sv st.env x = .map id) (hl : lkH st.heap id = some (.mp l))
    (hkt : keyT T kt (sv st.env y) = true) (hr : luK T kt l 0 (sv st.env y) = some r) (hsc : sc st.env x ∧ sc st.env y) (hw : wOK W al nx0 i st.heap (some id))
    (h : ∀ K : St → Prop, (∀ s, AwpA P G n0 ops W al mu0 nx0 Q fuel (i :: done) s → K s) → ∀ q : MQ, goPut (putSt G.nt st.env (setH st.heap id (.mi q (putK l r (normK (sv st.env y)) (lkV r (mkL ei ei.zero))))) st.nx o.dst (.tup 2 (entF (lkV r (mkL ei ei.zero)) (q.bs.getD (entI l r) 0 : Nat)))) K) : AwpO P G n0 ops W al mu0 nx0 Q fuel done st i := by
  refine awpO_good (γ := MQ) (fun _ => True) (fun q => setH st.heap id (.mi q (putK l r (normK (sv st.env y)) (lkV r (mkL ei ei.zero))))) (fun q => .tup 2 (entF (lkV r (mkL ei ei.zero)) (q.bs.getD (entI l r) 0 : Nat))) (some id) hi hg hw (fun mu a w hs => ?_) fun K hK q _ => h K hK q
  have hxr := strip_rel (hs.rho x) hsc.1
  have hxr' : Rel (cx G st.heap mu st.nx w) (sv st.env x) (a.eval x) := hxr
  rw [hx] at hxr'
  have hyr := strip_rel (hs.rho y) hsc.2
  obtain ⟨q, z, w', h1, h2, h3, h4, h5⟩ := mapEntry_ok hT hs.heap ht hik hei hl hkt hr hxr' hyr
  exact ⟨q, trivial, z, w', mu, .inl (by simp only [execOp, ho, Sem.run_bind, h1, Result.andThen_ok, Sem.run_pure]), h2, h3, h4, h5⟩
theorem awpO_estore {t : TypeId} {id : Id} {l : List (AVal × AVal)} {r : Option (Nat × AVal)} {q : MQ} {k v0 : AVal} {x y z : Operand} {fuel : Nat} {done : List Nat} {i : Nat} {o : Oper} {st : St} (hi : ops.toArray[i]? = some o) (ho : o.op = .entryStore t x y z) (hg : o.guard = none) (hx : sv st.env x = .map id) (hl : lkH st.heap id = some (.mi q (putK l r k v0)))
    (hri : ∀ p, r = some p → p.1 < l.length) (hy : sv st.env y = .int .i64 (q.bs.getD (entI l r) 0 : Nat)) (hsc : sc st.env x ∧ sc st.env y ∧ sc st.env z) (hw : wOK W al nx0 i st.heap (some id))
    (h : ∀ K : St → Prop, (∀ s, AwpA P G n0 ops W al mu0 nx0 Q fuel (i :: done) s → K s) → goPut (putSt G.nt st.env (setH st.heap id (.mp (putK l r k (sv st.env z)))) st.nx o.dst .any) K) : AwpO P G n0 ops W al mu0 nx0 Q fuel done st i := by
  refine awpO_good (γ := Unit) (fun _ => True) (fun _ => setH st.heap id (.mp (putK l r k (sv st.env z)))) (fun _ => .any) (some id) hi hg hw (fun mu a w hs => ?_) fun K hK _ _ => h K hK
  have hxr := strip_rel (hs.rho x) hsc.1
  have hxr' : Rel (cx G st.heap mu st.nx w) (sv st.env x) (a.eval x) := hxr
  rw [hx] at hxr'
  have hyr := strip_rel (hs.rho y) hsc.2.1
  have hyr' : Rel (cx G st.heap mu st.nx w) (sv st.env y) (a.eval y) := hyr
  rw [hy] at hyr'
  have hzr := strip_rel (hs.rho z) hsc.2.2
  obtain ⟨w', h1, h2, h3, h5⟩ := entryStore_ok (P := P) (t := t) hs.heap hl hri hxr' hyr' hzr
  exact ⟨(), trivial, undef, w', mu, .inr ⟨by simp only [execOp, ho, Sem.run_bind, h1, Result.andThen_ok, Sem.run_pure], rfl⟩, h2, h3, trivial, h5⟩
end
end Go.Lift
namespace Go.Lift
set_option linter.unusedSimpArgs false
set_option linter.unusedVariables false
open Go.RowKit
section
variable {P : Program} {G : Gh} {n0 : Nat} {α : Type} {I : α → Prop} {r : α → AVal} {hout : α → Heap} {nout : α → Nat}
theorem awpL_fcg {f : FuncId} (hf : Callable P f) (ps : List Nat) (fz : Nat → Bool) {as : List AVal} {hin : Heap} (hc : FC P f as hin ps.length I r hout nout) {ops l : List Oper} {o : Oper} {Q : St → Prop} {st : St} {x : Operand} {args : Array Operand} {ts : Array TypeId}
    (ho : o.op = .call { callee := .value x, args := args, argTypes := ts }) {g : Option Bool} (hg : guardOf ops.toArray o st.env = some g) (hgt : g.getD true = true) {n : Nat} {fc : Nat → AVal} (hx : sv st.env x = .fn f n fc) (hps : ps.Nodup ∧ ∀ k ∈ ps, k < st.nx)
    (hflat : (∀ k, fz k = false) ∨ ∀ x, I x → flat (r x) ∧ flatH (hout x)) (hsc : sc st.env x ∧ argsC st.env args.toList)
    (hle : argsLeS st.heap (sI (inId ps)) fz ps.length as (callArgs st.env args.toList n fc)) (hheap : heapLe st.heap (sI (inId ps)) fz (fun _ => false) ps.length hin)
    (h : ∀ K : St → Prop, (∀ s, AwpL P G n0 ops l Q s → K s) → ∀ x, I x → ps.length ≤ nout x →
      goPut (putSt G.nt st.env (renH (outId ps st.nx) (hout x) ++ st.heap.filter fun e => !ps.contains e.1) (st.nx + (nout x - ps.length)) o.dst (ren (outId ps st.nx) (r x))) K) : AwpL P G n0 ops (o :: l) Q st := by
  intro mu a w hs hn Q' hQ
  have hw := (wanted_of hs hg).trans hgt
  refine wpl_step (by rw [ho]; intro c hc; cases hc) fun K hK => ?_
  rw [if_pos hw]
  have key := fc_ok (P := P) (ops := ops.toArray) (o := { o with guard := none }) (st := st) (Q := Q') (K := K) (by simpa using ho) rfl hx hsc hf ps hps.1 hps.2 hc fz hflat hle hheap hs fun x hI hno => by
    obtain ⟨s, hput, hs2⟩ := goPut_spec (h _ (fun _ hs => hs) x hI hno)
    refine ⟨s, hput, fun mu' a' w' hs' hLe _ => hK _ _ (hs2 mu' a' w' hs' ?_ Q' fun mu2 st2 a2 w2 h1 h2 h3 h4 => hQ mu2 st2 a2 w2 h1 h2 ((Stay.of hn hLe).trans h3) h4)⟩
    exact Nat.le_trans hn hLe.nx
  rw [if_pos (by simp [Region.wanted])] at key
  exact key
end
section
variable {P : Program} {G : Gh} {n0 : Nat}
theorem awpL_mentry {T : Tab} (hT : TabOK P T) {t kt et : TypeId} {ti ei : TI} (ht : T t = some ti) (hik : ti.k = .map kt et) (hei : T et = some ei) {id : Id} {l : List (AVal × AVal)} {r : Option (Nat × AVal)} {x y : Operand} {ops ls : List Oper} {o : Oper} {Q : St → Prop} {st : St} (ho : o.op = .mapEntry t x y) (hg : o.guard = none) (hx : sv st.env x = .map id) (hl : lkH st.heap id = some (.mp l))
    (hkt : keyT T kt (sv st.env y) = true) (hr : luK T kt l 0 (sv st.env y) = some r) (hsc : sc st.env x ∧ sc st.env y)
    (h : ∀ K : St → Prop, (∀ s, AwpL P G n0 ops ls Q s → K s) → ∀ q : MQ, goPut (putSt G.nt st.env (setH st.heap id (.mi q (putK l r (normK (sv st.env y)) (lkV r (mkL ei ei.zero))))) st.nx o.dst (.tup 2 (entF (lkV r (mkL ei ei.zero)) (q.bs.getD (entI l r) 0 : Nat)))) K) : AwpL P G n0 ops (o :: ls) Q st := by
  refine awpL_some (γ := MQ) (fun _ => True) (fun q => setH st.heap id (.mi q (putK l r (normK (sv st.env y)) (lkV r (mkL ei ei.zero))))) (fun _ => st.nx) (fun q => .tup 2 (entF (lkV r (mkL ei ei.zero)) (q.bs.getD (entI l r) 0 : Nat))) hg (by rw [ho]; intro c e; cases e) (fun mu a w hs => ?_) fun K hK q _ => h K hK q
  have hxr := strip_rel (hs.rho x) hsc.1
  have hxr' : Rel (cx G st.heap mu st.nx w) (sv st.env x) (a.eval x) := hxr
  rw [hx] at hxr'
  have hyr := strip_rel (hs.rho y) hsc.2
  obtain ⟨q, z, w', h1, h2, h3, h4, h5⟩ := mapEntry_ok hT hs.heap ht hik hei hl hkt hr hxr' hyr
  exact ⟨q, trivial, z, w', mu, by simp only [execOp, ho, Sem.run_bind, h1, Result.andThen_ok, Sem.run_pure], h2, h3, h4⟩
theorem awpL_estore {t : TypeId} {id : Id} {l : List (AVal × AVal)} {r : Option (Nat × AVal)} {q : MQ} {k v0 : AVal} {x y z : Operand} {ops ls : List Oper} {o : Oper} {Q : St → Prop} {st : St} (ho : o.op = .entryStore t x y z) (hg : o.guard = none) (hx : sv st.env x = .map id) (hl : lkH st.heap id = some (.mi q (putK l r k v0)))
    (hri : ∀ p, r = some p → p.1 < l.length) (hy : sv st.env y = .int .i64 (q.bs.getD (entI l r) 0 : Nat)) (hsc : sc st.env x ∧ sc st.env y ∧ sc st.env z)
    (h : ∀ K : St → Prop, (∀ s, AwpL P G n0 ops ls Q s → K s) → goPut (putSt G.nt st.env (setH st.heap id (.mp (putK l r k (sv st.env z)))) st.nx o.dst .any) K) : AwpL P G n0 ops (o :: ls) Q st := by
  intro mu a w hs hn Q' hQ
  refine wpl_step (by rw [ho]; intro c e; cases e) fun K hK => ?_
  have hw : Region.wanted o (yielded ops.toArray a.tmps) = true := by simp [Region.wanted, hg]
  rw [if_pos hw]
  have hxr := strip_rel (hs.rho x) hsc.1
  have hxr' : Rel (cx G st.heap mu st.nx w) (sv st.env x) (a.eval x) := hxr
  rw [hx] at hxr'
  have hyr := strip_rel (hs.rho y) hsc.2.1
  have hyr' : Rel (cx G st.heap mu st.nx w) (sv st.env y) (a.eval y) := hyr
  rw [hy] at hyr'
  have hzr := strip_rel (hs.rho z) hsc.2.2
  obtain ⟨w', h1, h2, h3, h5⟩ := entryStore_ok (P := P) (t := t) hs.heap hl hri hxr' hyr' hzr
  obtain ⟨s, hput, hs2⟩ := goPut_spec (h _ (fun _ hs => hs))
  have hsim := hs.put (x := undef) h2 h3 (v := .any) trivial hput
  have hLe' : (cx G st.heap mu st.nx w).Le (cx G s.heap mu s.nx w') := by
    rw [(putSt_heap hput).1, (putSt_heap hput).2]; exact h2
  have hr : (execOp a.eval o).run P w = .ok .skip w' := by simp only [execOp, ho, Sem.run_bind, h1, Result.andThen_ok, Sem.run_pure]
  unfold Oper.wp
  rw [hr]
  exact hK _ _ (hs2 mu _ w' hsim (Nat.le_trans hn hLe'.nx) Q' fun mu2 st2 a2 w2 h1 h2 h3 h4 => hQ mu2 st2 a2 w2 h1 h2 ((Stay.of hn hLe').trans h3) h4)
end
end Go.Lift
