/- Parts of the proof: LMR. -/
import Derived.Maps.RangeRun
import Derived.Test.YtoafgeobhhlplaaZF26
namespace Go.Lift
set_option linter.unusedSimpArgs false
set_option linter.unusedVariables false
open Go.RowKit
def itP (q : MQ) (left : List Nat) (last : Option Nat) (_b : Nat) (x : Obj) : Prop :=
  ∃ seen : Array Nat, x = .mapIter (some q.mb) q.clk seen q.clk ∧ left.Nodup ∧ (∀ i ∈ left, i < q.bs.length) ∧ (∀ i, i < q.bs.length → (i ∈ left ↔ seen.contains (q.bs.getD i 0) = false)) ∧
    ∀ i, last = some i → i < q.bs.length ∧ ∃ s', seen = Array.push s' (q.bs.getD i 0)
def nxN (c : Option Nat) : Nat := if c.isSome then 3 else 1
@[simp] theorem nxN_pos {c : Option Nat} : (0 < nxN c) = True := by cases c <;> simp [nxN]
@[simp] theorem nxN_some {i : Nat} : nxN (some i) = 3 := rfl
def nxF (l : List (AVal × AVal)) (c : Option Nat) (j : Nat) : AVal := match j with
  | 0 => .bool c.isSome
  | 1 => (l.getD (c.getD 0) (.any, .any)).1
  | _ => (l.getD (c.getD 0) (.any, .any)).2
@[simp] theorem nxF_zero {l : List (AVal × AVal)} {c : Option Nat} : nxF l c 0 = .bool c.isSome := rfl
@[simp] theorem nxF_one {l : List (AVal × AVal)} {c : Option Nat} : nxF l c 1 = (l.getD (c.getD 0) (.any, .any)).1 := rfl
@[simp] theorem nxF_two {l : List (AVal × AVal)} {c : Option Nat} : nxF l c 2 = (l.getD (c.getD 0) (.any, .any)).2 := rfl
def leftA (left : List Nat) : Option Nat → List Nat
  | none => []
  | some i => left.erase i
@[simp] theorem leftA_some {left : List Nat} {i : Nat} : leftA left (some i) = left.erase i := rfl
@[simp] theorem leftA_none {left : List Nat} : leftA left none = [] := rfl
def nxOK (left : List Nat) (n : Nat) : Option Nat → Prop
  | none => left = []
  | some i => i ∈ left ∧ i < n
def enF (l : List (AVal × AVal)) (i j : Nat) : AVal := match j with
  | 0 => (l.getD i (.any, .any)).1
  | _ => (l.getD i (.any, .any)).2
@[simp] theorem enF_zero {l : List (AVal × AVal)} {i : Nat} : enF l i 0 = (l.getD i (.any, .any)).1 := rfl
@[simp] theorem enF_one {l : List (AVal × AVal)} {i : Nat} : enF l i 1 = (l.getD i (.any, .any)).2 := rfl
section
variable {P : Program} {G : Gh} {n0 : Nat}
theorem awpL_some {γ : Type} (J : γ → Prop) (h' : γ → Heap) (nx' : γ → Nat) (v : γ → AVal) {ops ls : List Oper} {o : Oper} {Q : St → Prop} {st : St} (hg : o.guard = none) (hnb : ∀ c, o.op ≠ .defer c)
    (hrun : ∀ mu a w, Sim G mu st a w → ∃ c, J c ∧ ∃ x w' mu', (execOp a.eval o).run P w = .ok (.value x) w' ∧ (cx G st.heap mu st.nx w).Le (cx G (h' c) mu' (nx' c) w') ∧ HOk G (h' c) mu' (nx' c) w' ∧ Rel (cx G (h' c) mu' (nx' c) w') (v c) x)
    (h : ∀ K : St → Prop, (∀ s, AwpL P G n0 ops ls Q s → K s) → ∀ c, J c → goPut (putSt G.nt st.env (h' c) (nx' c) o.dst (v c)) K) : AwpL P G n0 ops (o :: ls) Q st := by
  intro mu a w hs hn Q' hQ
  refine wpl_step hnb fun K hK => ?_
  have hw : Region.wanted o (yielded ops.toArray a.tmps) = true := by simp [Region.wanted, hg]
  rw [if_pos hw]
  obtain ⟨c, hJ, x, w', mu', hr, hLe, hk, hv⟩ := hrun mu a w hs
  obtain ⟨s, hput, hs2⟩ := goPut_spec (h _ (fun _ hs => hs) c hJ)
  unfold Oper.wp
  rw [hr]
  have hsim := hs.put hLe hk hv hput
  have hLe' : (cx G st.heap mu st.nx w).Le (cx G s.heap mu' s.nx w') := by
    rw [(putSt_heap hput).1, (putSt_heap hput).2]; exact hLe
  exact hK _ _ (hs2 mu' _ w' hsim (Nat.le_trans hn hLe'.nx) Q' fun mu2 st2 a2 w2 h1 h2 h3 h4 => hQ mu2 st2 a2 w2 h1 h2 ((Stay.of hn hLe').trans h3) h4)
theorem sameW (w : World) : w.os = w.os ∧ w.tape = w.tape ∧ w.output = w.output ∧ w.drawn ≤ w.drawn := ⟨rfl, rfl, rfl, Nat.le_refl _⟩
theorem awpL_range {id : Id} {l : List (AVal × AVal)} {ty kt et : TypeId} {x : Operand} (hu : P.underlying ty = some (.map kt et)) {ops ls : List Oper} {o : Oper} {Q : St → Prop} {st : St} (ho : o.op = .range ty x) (hg : o.guard = none) (hx : sv st.env x = .map id) (hm : lkH st.heap id = some (.mp l)) (hsc : sc st.env x)
    (h : ∀ K : St → Prop, (∀ s, AwpL P G n0 ops ls Q s → K s) → ∀ q : MQ, q.bs.length = l.length →
      goPut (putSt G.nt st.env ((st.nx, .one (.ob (itP q (List.range l.length) none))) :: setH st.heap id (.mi q l)) (st.nx + 1) o.dst (.ptr (st.nx, 0) 0 0)) K) : AwpL P G n0 ops (o :: ls) Q st := by
  refine awpL_some (γ := MQ) (fun q => q.bs.length = l.length) (fun q => (st.nx, .one (.ob (itP q (List.range l.length) none))) :: setH st.heap id (.mi q l)) (fun _ => st.nx + 1) (fun _ => .ptr (st.nx, 0) 0 0) hg (by rw [ho]; intro c e; cases e) (fun mu a w hs => ?_) h
  have hxr := strip_rel (hs.rho x) hsc
  have hxr' : Rel (cx G st.heap mu st.nx w) (sv st.env x) (a.eval x) := hxr
  rw [hx] at hxr'
  obtain ⟨_, B, hB, hxv⟩ := hxr'
  have hB' : mu id = some B := hB
  have hrel := (hs.heap.obj id _ hm).2
  rw [hB'] at hrel
  obtain ⟨es, clock, hh, hsz, hc, hbn⟩ := hrel
  have hh' : w.heap[B.b]? = some (.map es clock) := hh
  let q : MQ := ⟨B.b, clock, es.toList.map (·.born)⟩
  have hql : q.bs.length = l.length := by simp [q, ← hsz]
  refine ⟨q, hql, .pointer (some ⟨w.heap.size, 0, none⟩), w.alloc (.mapIter (some B.b) clock #[] clock), upd mu (st.nx, 0) (some ⟨w.heap.size, 0, 0, 0⟩), ?_, ?_⟩
  · simp only [execOp, ho, hxv, Sem.run_bind, run_range_map w ty kt et B.b es clock hu hh', Result.andThen_ok, Sem.run_pure]
  · have hwr := hs.heap.write (o' := .mi q l) hm hB' (w' := w) rfl (fun _ _ => rfl) (sameW w) (fun hLe => ⟨es, clock, hh, hsz, fun i hi e he => ⟨(hc i hi e he).1.mono hLe, (hc i hi e he).2.mono hLe⟩, hbn, rfl, rfl, rfl⟩) (fun cs t h2 => by rw [hh'] at h2; cases h2)
    have hal := hwr.2.allocOb (itP q (List.range l.length) none) (.mapIter (some B.b) clock #[] clock) trivial ⟨#[], rfl, List.nodup_range, fun i hi => by rw [hql]; exact List.mem_range.1 hi, fun i hi => by simp [← hql, hi], fun i e => by cases e⟩
    have hLe2 := cx_alloc (G := G) (h := setH st.heap id (.mi q l)) (mu := mu) (nx := st.nx) (w := w) (e := .one (.ob (itP q (List.range l.length) none))) (.ob (itP q (List.range l.length) none)) HEnt.Solo.one (.mapIter (some B.b) clock #[] clock) ⟨w.heap.size, 0, 0, 0⟩ rfl
    exact ⟨hwr.1.trans hLe2, hal, Nat.lt_succ_self _, ⟨w.heap.size, 0, 0, 0⟩, by simp [cx], by simp⟩
theorem itP_none {q : MQ} {left : List Nat} {last : Option Nat} {b : Nat} {x : Obj} (h : itP q left last b x) (h0 : left = []) : itP q [] none b x := by
  obtain ⟨seen, h1, h2, h3, h4, h5⟩ := h
  subst h0
  exact ⟨seen, h1, h2, h3, h4, fun i e => by cases e⟩
theorem pos_of_mem {es : Array MapEntry} {e : MapEntry} (he : e ∈ es.toList) : ∃ i, i < es.size ∧ es[i]? = some e := by
  obtain ⟨i, hi, h⟩ := List.mem_iff_getElem.1 he
  exact ⟨i, by simpa using hi, by rw [← h]; simp [show i < es.size by simpa using hi]⟩
theorem mem_left {es : Array MapEntry} {seen : Array Nat} {e : MapEntry} (he : e ∈ (leftOf es seen).toList) : e ∈ es.toList ∧ seen.contains e.born = false := by
  unfold leftOf at he
  simp only [Array.mem_toList_iff, Array.mem_filter, Bool.not_eq_true'] at he
  exact ⟨by simpa using he.1, he.2⟩
theorem left_none {es : Array MapEntry} {seen : Array Nat} (h : (leftOf es seen).size = 0) {i : Nat} {e : MapEntry} (he : es[i]? = some e) : seen.contains e.born = true := by
  unfold leftOf at h
  have h2 := Array.eq_empty_of_size_eq_zero h
  rw [Array.filter_eq_empty_iff] at h2
  have hm : e ∈ es := Array.mem_of_getElem? he
  have := h2 e hm
  simpa using this
theorem bs_at {es : Array MapEntry} {i : Nat} {e : MapEntry} (he : es[i]? = some e) : (es.toList.map (·.born)).getD i 0 = e.born := by
  simp [List.getD, he]
theorem awpL_next {k : Nat} {id : Id} {q : MQ} {l : List (AVal × AVal)} {left : List Nat} {last : Option Nat} (hne : id ≠ (k, 0)) {x : Operand} {ops ls : List Oper} {o : Oper} {Q : St → Prop} {st : St} (ho : o.op = .next x false) (hg : o.guard = none) (hx : sv st.env x = .ptr (k, 0) 0 0) (hi : lkH st.heap (k, 0) = some (.ob (itP q left last))) (hm : lkH st.heap id = some (.mi q l)) (hsc : sc st.env x)
    (h : ∀ K : St → Prop, (∀ s, AwpL P G n0 ops ls Q s → K s) → ∀ c : Option Nat, nxOK left l.length c →
      goPut (putSt G.nt st.env (setH st.heap (k, 0) (.ob (itP q (leftA left c) c))) st.nx o.dst (.tup (nxN c) (nxF l c))) K) : AwpL P G n0 ops (o :: ls) Q st := by
  refine awpL_some (γ := Option Nat) (fun c => nxOK left l.length c) (fun c => setH st.heap (k, 0) (.ob (itP q (leftA left c) c))) (fun _ => st.nx) (fun c => .tup (nxN c) (nxF l c)) hg (by rw [ho]; intro c e; cases e) (fun mu a w hs => ?_) h
  have hxr := strip_rel (hs.rho x) hsc
  have hxr' : Rel (cx G st.heap mu st.nx w) (sv st.env x) (a.eval x) := hxr
  rw [hx] at hxr'
  obtain ⟨_, BI, hBI, hxv⟩ := hxr'
  have hBI' : mu (k, 0) = some BI := hBI
  have hri := (hs.heap.obj _ _ hi).2
  rw [hBI'] at hri
  obtain ⟨y, hy, ⟨_, hBo⟩, hpy⟩ := hri
  have hy' : w.heap[BI.b]? = some y := hy
  have hpy0 := hpy
  obtain ⟨seen, rfl, hnd, hlt, hse, hla⟩ := hpy
  have hrm := (hs.heap.obj _ _ hm).2
  cases hBm : mu id with
  | none => rw [hBm] at hrm; exact hrm.elim
  | some BM =>
  rw [hBm] at hrm
  obtain ⟨es, clock, hh, hsz, hc, hbn, hqb, hqc, hqs⟩ := hrm
  have hh' : w.heap[BM.b]? = some (.map es clock) := hh
  subst hqc
  rw [hqb] at hh'
  have hbl : ∀ i, i < es.size → i < q.bs.length := fun i hi => by rw [← hqs]; simpa using hi
  have hxv2 : a.eval x = .pointer (some ⟨BI.b, 0, none⟩) := by rw [hxv, hBo]; simp
  have hold : ∀ e ∈ es.toList, e.born < q.clk := hbn.2
  have hnx := run_next_at (P := P) w (o.type) BI.b q.mb q.clk q.clk seen es q.clk hy' hh' hold (Nat.le_refl _)
  have hexec : ∀ y w', (Instr.next (.pointer (some ⟨BI.b, 0, none⟩)) false o.type).run P w = .ok y w' → (execOp a.eval o).run P w = .ok (.value y) w' := fun y w' hr => by
    simp only [execOp, ho, hxv2, Sem.run_bind, hr, Result.andThen_ok, Sem.run_pure]
  rcases hnx with ⟨h0, hrun⟩ | ⟨e, he, w1, hw1, hrun⟩
  · -- nothing is left
    have hl0 : left = [] := by
      rw [List.eq_nil_iff_forall_not_mem]
      intro i hil
      have hib := hlt i hil
      have hie : i < es.size := by rw [← hqs] at hib; simpa using hib
      have h2 := left_none h0 (i := i) (e := es[i]) (by simp [hie])
      have h3 := (hse i hib).1 hil
      rw [← hqs, bs_at (es := es) (i := i) (e := es[i]) (by simp [hie]), h2] at h3
      cases h3
    have hwr := hs.heap.write (o' := .ob (itP q [] none)) hi hBI' (w' := w) rfl (fun _ _ => rfl) (sameW w) (fun hLe => ⟨_, hy, ⟨trivial, hBo⟩, itP_none hpy0 hl0⟩) (fun cs t h2 => by rw [hy'] at h2; cases h2)
    exact ⟨none, hl0, _, w, mu, hexec _ _ hrun, hwr.1, hwr.2, #[.bool false], rfl, rfl, fun j hj => by
      obtain rfl : j = 0 := by have : j < 1 := hj; omega
      rfl⟩
  · obtain ⟨hem, hes⟩ := mem_left he
    obtain ⟨i, hie, hei⟩ := pos_of_mem hem
    have hib := hbl i hie
    have hbi : q.bs.getD i 0 = e.born := by rw [← hqs]; exact bs_at hei
    have hil : i ∈ left := (hse i hib).2 (by rw [hbi]; exact hes)
    have hln : i < l.length := by rw [← hsz]; exact hie
    have hw1h : w1.heap = w.heap := by rcases hw1 with rfl | rfl <;> rfl
    have hw1o : w1.os = w.os ∧ w1.tape = w.tape ∧ w1.output = w.output ∧ w.drawn ≤ w1.drawn := by
      rcases hw1 with rfl | rfl
      · exact sameW _
      · exact ⟨rfl, rfl, rfl, Nat.le_succ _⟩
    let ob' : Obj := .mapIter (some q.mb) q.clk (seen.push e.born) q.clk
    let w2 : World := ChangeMaps.setBlock w1 BI.b ob'
    have hb2 : w2.heap[BI.b]? = some ob' := by
      show (w1.heap.setIfInBounds BI.b ob')[BI.b]? = _
      rw [hw1h, Array.getElem?_setIfInBounds_self_of_lt (lt_of_get hy')]
    have hne2 : ∀ b, b ≠ BI.b → w2.heap[b]? = w.heap[b]? := fun b hb => by
      show (w1.heap.setIfInBounds BI.b ob')[b]? = _
      rw [hw1h, Array.getElem?_setIfInBounds_ne (Ne.symm hb)]
    have hsz2 : w2.heap.size = w.heap.size := by
      show (w1.heap.setIfInBounds BI.b ob').size = _
      rw [hw1h, Array.size_setIfInBounds]
    have hp2 : itP q (left.erase i) (some i) BI.b ob' := by
      refine ⟨seen.push e.born, rfl, hnd.erase _, fun j hj => hlt j (List.mem_of_mem_erase hj), fun j hj => ?_, fun j e' => ?_⟩
      · have hje : j < es.size := by rw [← hqs] at hj; simpa using hj
        rw [hnd.mem_erase_iff, hse j hj]
        have hcp : (seen.push e.born).contains (q.bs.getD j 0) = (seen.contains (q.bs.getD j 0) || (e.born == q.bs.getD j 0)) := by
          rw [contains_push, Bool.beq_comm]
        rw [hcp, Bool.or_eq_false_iff]
        constructor
        · rintro ⟨hji, hs0⟩
          refine ⟨hs0, ?_⟩
          rw [beq_eq_false_iff_ne]
          intro heq
          apply hji
          rw [← hbi, ← hqs] at heq
          have h5 : i < (es.toList.map (·.born)).length := by simpa using hie
          have h6 : j < (es.toList.map (·.born)).length := by simpa using hje
          have h7 : (es.toList.map (·.born))[i] = (es.toList.map (·.born))[j] := by
            simpa [List.getD, hie, hje] using heq
          exact ((List.getElem_inj hbn.1).1 h7).symm
        · rintro ⟨hs0, hbe⟩
          refine ⟨fun hji => ?_, hs0⟩
          subst hji
          rw [hbi] at hbe
          simp at hbe
      · injection e' with e'
        subst e'
        exact ⟨hib, seen, by rw [hbi]⟩
    have hwr := hs.heap.write (o' := .ob (itP q (left.erase i) (some i))) hi hBI' (w' := w2) hsz2 hne2 hw1o (fun hLe => ⟨ob', hb2, ⟨trivial, hBo⟩, hp2⟩) (fun cs t h2 => by rw [hy'] at h2; cases h2)
    have hkv := hc i hln e hei
    have hLe2 := hwr.1
    have hld : l.getD i (.any, .any) = l[i] := by simp [List.getD, hln]
    refine ⟨some i, ⟨hil, hln⟩, _, w2, mu, hexec _ _ hrun, hLe2, hwr.2, #[.bool true, e.key, e.val], rfl, rfl, fun j hj => ?_⟩
    have hj3 : j < 3 := hj
    match j, hj3 with
    | 0, _ => rfl
    | 1, _ => show Rel _ (l.getD i (.any, .any)).1 e.key; rw [hld]; exact hkv.1.mono hLe2
    | 2, _ => show Rel _ (l.getD i (.any, .any)).2 e.val; rw [hld]; exact hkv.2.mono hLe2
theorem awpL_entry {k : Nat} {id : Id} {q : MQ} {l : List (AVal × AVal)} {left : List Nat} {i : Nat} {x : Operand} {ops ls : List Oper} {o : Oper} {Q : St → Prop} {st : St} (ho : o.op = .entry x) (hg : o.guard = none) (hx : sv st.env x = .ptr (k, 0) 0 0) (hi : lkH st.heap (k, 0) = some (.ob (itP q left (some i)))) (hm : lkH st.heap id = some (.mi q l)) (hsc : sc st.env x)
    (h : ∀ K : St → Prop, (∀ s, AwpL P G n0 ops ls Q s → K s) → goPut (putSt G.nt st.env st.heap st.nx o.dst (.tup 2 (enF l i))) K) : AwpL P G n0 ops (o :: ls) Q st := by
  refine awpL_some (γ := Unit) (fun _ => True) (fun _ => st.heap) (fun _ => st.nx) (fun _ => .tup 2 (enF l i)) hg (by rw [ho]; intro c e; cases e) (fun mu a w hs => ?_) fun K hK _ _ => h K hK
  have hxr := strip_rel (hs.rho x) hsc
  have hxr' : Rel (cx G st.heap mu st.nx w) (sv st.env x) (a.eval x) := hxr
  rw [hx] at hxr'
  obtain ⟨_, BI, hBI, hxv⟩ := hxr'
  have hBI' : mu (k, 0) = some BI := hBI
  have hri := (hs.heap.obj _ _ hi).2
  rw [hBI'] at hri
  obtain ⟨y, hy, ⟨_, hBo⟩, hpy⟩ := hri
  have hy' : w.heap[BI.b]? = some y := hy
  obtain ⟨seen, rfl, hnd, hlt, hse, hla⟩ := hpy
  obtain ⟨hib, seen', rfl⟩ := hla i rfl
  have hrm := (hs.heap.obj _ _ hm).2
  cases hBm : mu id with
  | none => rw [hBm] at hrm; exact hrm.elim
  | some BM =>
  rw [hBm] at hrm
  obtain ⟨es, clock, hh, hsz, hc, hbn, hqb, hqc, hqs⟩ := hrm
  have hh' : w.heap[BM.b]? = some (.map es clock) := hh
  subst hqc
  rw [hqb] at hh'
  have hie : i < es.size := by rw [← hqs] at hib; simpa using hib
  have hei : es[i]? = some es[i] := by simp [hie]
  have hln : i < l.length := by rw [← hsz]; exact hie
  have hbi : q.bs.getD i 0 = es[i].born := by rw [← hqs]; exact bs_at hei
  rw [hbi] at hy'
  have hrun := run_entry_at (P := P) w BI.b q.mb q.clk seen' es q.clk es[i] hy' hh' (by simp) hbn.1
  have hxv2 : a.eval x = .pointer (some ⟨BI.b, 0, none⟩) := by rw [hxv, hBo]; simp
  have hkv := hc i hln es[i] hei
  have hld : l.getD i (.any, .any) = l[i] := by simp [List.getD, hln]
  refine ⟨(), trivial, _, w, mu, by simp only [execOp, ho, hxv2, Sem.run_bind, hrun, Result.andThen_ok, Sem.run_pure], Cx.Le.refl _, hs.heap, #[es[i].key, es[i].val], rfl, rfl, fun j hj => ?_⟩
  have hj2 : j < 2 := hj
  match j, hj2 with
  | 0, _ => show Rel _ (l.getD i (.any, .any)).1 es[i].key; rw [hld]; exact hkv.1
  | 1, _ => show Rel _ (l.getD i (.any, .any)).2 es[i].val; rw [hld]; exact hkv.2
end
end Go.Lift
