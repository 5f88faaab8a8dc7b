/- Parts of the proof: LME. -/
import Derived.Test.YtoafgeobhhlplaaZF27
import Derived.Test.YtoafgeobhhlplaaZF28
namespace Go.Lift
set_option linter.unusedSimpArgs false
set_option linter.unusedVariables false
open Go.RowKit
def entI (l : List (AVal × AVal)) (r : Option (Nat × AVal)) : Nat := (r.map (·.1)).getD l.length
def entF (v : AVal) (n : Int) (j : Nat) : AVal := match j with
  | 0 => v
  | _ => .int .i64 n
@[simp] theorem entF_one {v : AVal} {n : Int} : entF v n 1 = .int .i64 n := rfl
section
variable {P : Program} {G : Gh} {h : Heap} {mu : Id → Option Base} {nx : Nat} {w : World}
theorem map_writeO (hk : HOk G h mu nx w) {id : Id} {o o' : HObj} {l' : List (AVal × AVal)} {B : Base} {es es' : Array MapEntry} {cl cl' : Nat} (hl : lkH h id = some o) (hB : mu id = some B) (hh : w.heap[B.b]? = some (.map es cl)) (hes : EntRel (cx G h mu nx w) l' es'.toList)
    (ho : ∀ c : Cx, c.w.heap[B.b]? = some (.map es' cl') → es'.size = l'.length → (∀ i (hi : i < l'.length) e, es'[i]? = some e → Rel c l'[i].1 e.key ∧ Rel c l'[i].2 e.val) → HRel c (some B) o') :
    (cx G h mu nx w).Le (cx G (setH h id o') mu nx { w with heap := w.heap.setIfInBounds B.b (.map es' cl') }) ∧ HOk G (setH h id o') mu nx { w with heap := w.heap.setIfInBounds B.b (.map es' cl') } ∧
      Frame mu w { w with heap := w.heap.setIfInBounds B.b (.map es' cl') } (some id) := by
  have hbs : B.b < w.heap.size := (hk.own id _ B hl hB).1
  have h1 := hk.write (o' := o') hl hB (w' := { w with heap := w.heap.setIfInBounds B.b (.map es' cl') }) (by simp) (fun b hb => by
    show (w.heap.setIfInBounds B.b _)[b]? = _
    rw [Array.getElem?_setIfInBounds_ne (Ne.symm hb)]) ⟨rfl, rfl, rfl, Nat.le_refl _⟩ (fun hLe => by
    refine ho _ ?_ (by have := hes.1; simpa using this) fun i hi e he => ?_
    · show (w.heap.setIfInBounds B.b _)[B.b]? = _
      rw [Array.getElem?_setIfInBounds_self_of_lt hbs]
    · have := hes.2 i hi e (by simpa using he)
      exact ⟨this.1.mono hLe, this.2.mono hLe⟩) (fun cs t h2 => by rw [hh] at h2; cases h2)
  refine ⟨h1.1, h1.2, fun b hb hne => ?_⟩
  show (w.heap.setIfInBounds B.b _)[b]? = _
  rw [Array.getElem?_setIfInBounds_ne (Ne.symm (hne id B rfl hB))]
theorem born_sets {es : Array MapEntry} {i : Nat} {f : MapEntry → MapEntry} (hf : ∀ e, (f e).born = e.born) : (es.modify i f).toList.map (·.born) = es.toList.map (·.born) := by
  apply List.ext_getElem?
  intro k
  simp only [List.getElem?_map, Array.getElem?_toList, Array.getElem?_modify]
  by_cases hk : i = k
  · rw [if_pos hk]; cases es[k]? <;> simp [hf]
  · rw [if_neg hk]
theorem luK_at {T : Tab} {kt : TypeId} {i : Nat} {v : AVal} : ∀ (l : List (AVal × AVal)) (n : Nat) (k : AVal), luK T kt l n k = some (some (i, v)) → n ≤ i ∧ ∃ h : i - n < l.length, (l[i - n]).2 = v
  | [], _, _, h => by simp [luK] at h
  | (a, b) :: l, n, k, h => by
    unfold luK at h
    split at h
    · simp only [Option.some.injEq, Prod.mk.injEq] at h
      obtain ⟨rfl, rfl⟩ := h
      exact ⟨Nat.le_refl _, by simp, by simp⟩
    · obtain ⟨h1, h2, h3⟩ := luK_at l (n + 1) k h
      have e : i - n = (i - (n + 1)) + 1 := by omega
      refine ⟨by omega, by rw [e]; simp only [List.length_cons]; omega, ?_⟩
      simp only [e, List.getElem_cons_succ]
      exact h3
    · cases h
theorem mapEntry_ok {T : Tab} (hT : TabOK P T) (hk : HOk G h mu nx w) {t kt et : TypeId} {i ei : TI} (ht : T t = some i) (hik : i.k = .map kt et) (hei : T et = some ei) {id : Id} {l : List (AVal × AVal)} (hl : lkH h id = some (.mp l)) {k : AVal} (hkt : keyT T kt k = true) {r : Option (Nat × AVal)} (hr : luK T kt l 0 k = some r)
    {x y : Value} (hx : Rel (cx G h mu nx w) (.map id) x) (hy : Rel (cx G h mu nx w) k y) :
    ∃ q : MQ, ∃ z w', (Instr.mapEntry t x y).run P w = .ok z w' ∧ (cx G h mu nx w).Le (cx G (setH h id (.mi q (putK l r (normK k) (lkV r (mkL ei ei.zero))))) mu nx w') ∧ HOk G (setH h id (.mi q (putK l r (normK k) (lkV r (mkL ei ei.zero))))) mu nx w' ∧
      Rel (cx G (setH h id (.mi q (putK l r (normK k) (lkV r (mkL ei ei.zero))))) mu nx w') (.tup 2 (entF (lkV r (mkL ei ei.zero)) (q.bs.getD (entI l r) 0 : Nat))) z ∧ Frame mu w w' (some id) := by
  have hu : P.underlying t = some (.map kt et) := by have := (hT t _ ht).kind; rw [hik] at this; exact this
  rcases mapOf_ok hk (m := .map id) (l := l) (by simp only [mapOf, hl]) hx with ⟨rfl, _⟩ | ⟨id', B, es, clock, hid, _, hB, rfl, hh, hes, hbn⟩
  · obtain ⟨_, B, _, hxx⟩ := hx; cases hxx
  injection hid with hid
  subst hid
  obtain ⟨zv, hz, hzr⟩ := zero_rel hT hei (cx G h mu nx w)
  have hck := run_check_key hT hkt hy false 9998 w
  obtain ⟨r', hr', hf⟩ := run_findKey hT hkt hy hes hr w
  have hg : (getObj B.b).run P w = .ok (.map es clock) w := by simp [getObj, Sem.run, hh]
  have hlen : es.toList.length = l.length := hes.1
  cases r with
  | none =>
    cases r' with
    | some q => exact hf.elim
    | none =>
      have hes' : EntRel (cx G h mu nx w) (l ++ [(normK k, mkL ei ei.zero)]) (es.push { key := y, val := zv, born := clock }).toList := by
        refine ⟨by simp [← hlen], fun i hi e he => ?_⟩
        simp only [Array.toList_push] at he
        by_cases h1 : i < l.length
        · rw [List.getElem?_append_left (by omega)] at he
          rw [List.getElem_append_left h1]
          exact hes.2 i h1 e he
        · have h2 : i = l.length := by simp at hi; omega
          subst h2
          rw [List.getElem?_append_right (by omega), hlen, Nat.sub_self] at he
          simp only [List.getElem?_cons_zero, Option.some.injEq] at he
          subst he
          simp only [List.getElem_append_right (Nat.le_refl _), Nat.sub_self, List.getElem_cons_zero]
          exact ⟨normK_rel hy, hzr⟩
      let q : MQ := ⟨B.b, clock + 1, (es.push { key := y, val := zv, born := clock }).toList.map (·.born)⟩
      have hbn' : Born (es.push { key := y, val := zv, born := clock }).toList (clock + 1) := by rw [Array.toList_push]; exact hbn.push
      obtain ⟨a1, a2, a3⟩ := map_writeO (o' := .mi q (l ++ [(normK k, mkL ei ei.zero)])) (cl' := clock + 1) hk hl hB hh hes' (fun c h1 h2 h3 => ⟨_, _, h1, h2, h3, hbn', rfl, rfl, rfl⟩)
      refine ⟨q, .tuple #[zv, goInt clock], _, ?_, a1, a2, ⟨_, rfl, rfl, fun j hj => ?_⟩, a3⟩
      · simp only [Instr.mapEntry, Sem.run_bind, run_underlying hu, Result.andThen_ok, hg, hck, hr', hz, setObj_map hh, Sem.run_pure]
      · have hq : q.bs.getD (entI l none) 0 = clock := by
          show ((es.push _).toList.map (·.born)).getD l.length 0 = clock
          rw [Array.toList_push, List.map_append, List.getD_eq_getElem?_getD, List.getElem?_append_right (by simp [hlen])]
          simp [hlen]
        have hj2 : j < 2 := hj
        match j, hj2 with
        | 0, _ => exact hzr.mono a1
        | 1, _ =>
          show (goInt clock : Value) = .int .i64 _
          rw [hq]; rfl
  | some p =>
    obtain ⟨pi, pv⟩ := p
    cases r' with
    | none => exact hf.elim
    | some qq =>
      obtain ⟨qi, qv⟩ := qq
      obtain ⟨rfl, _, hlt, hv, a, ha, hka⟩ := hf
      simp only [Nat.sub_zero] at hlt ha
      have hqs : qi < es.size := by have : es.toList.length = es.size := Array.length_toList; omega
      have hent := hes.2 qi hlt es[qi] (by simp [hqs])
      have hae : l[qi].1 = a := by
        simp only [List.getElem?_map, List.getElem?_eq_getElem hlt, Option.map_some, Option.some.injEq] at ha
        exact ha
      have hbits : Instr.sameBits 10000 es[qi].key y = true := kEq_same hka hkt hy (by rw [← hae]; exact hent.1)
      have hval : qv = es[qi].val ∨ True := .inr trivial
      have hes' : EntRel (cx G h mu nx w) (l.set qi (normK k, pv)) (es.modify qi fun e => { e with key := y }).toList := by
        refine ⟨by simp [hlen], fun i hi e he => ?_⟩
        simp only [List.length_set] at hi
        have hi' : i < es.size := by have : es.toList.length = es.size := Array.length_toList; omega
        simp only [Array.getElem?_toList, Array.getElem?_modify] at he
        by_cases h1 : qi = i
        · subst h1
          simp only [if_true, Array.getElem?_eq_getElem hi', Option.map_some, Option.some.injEq] at he
          subst he
          simp only [List.getElem_set_self]
          refine ⟨normK_rel hy, ?_⟩
          obtain ⟨_, _, hpv⟩ := luK_at l 0 k hr
          have hpv2 : l[qi].2 = pv := hpv
          rw [← hpv2]
          exact hent.2
        · simp only [if_neg h1] at he
          rw [List.getElem_set_ne h1]
          exact hes.2 i hi e (by simpa using he)
      let q : MQ := ⟨B.b, clock, (es.modify qi fun e => { e with key := y }).toList.map (·.born)⟩
      have hbn' : Born (es.modify qi fun e => { e with key := y }).toList clock := hbn.modify _ _ fun _ => rfl
      obtain ⟨a1, a2, a3⟩ := map_writeO (o' := .mi q (l.set qi (normK k, pv))) (cl' := clock) hk hl hB hh hes' (fun c h1 h2 h3 => ⟨_, _, h1, h2, h3, hbn', rfl, rfl, rfl⟩)
      refine ⟨q, .tuple #[qv, goInt es[qi].born], _, ?_, a1, a2, ⟨_, rfl, rfl, fun j hj => ?_⟩, a3⟩
      · have hks : (Instr.keyThatStays (((es[qi]?).map (·.key)).getD y) y).run P w = .ok y w := by
          simp only [Array.getElem?_eq_getElem hqs, Option.map_some, Option.getD_some, Instr.keyThatStays, hbits, if_true, Sem.run_pure]
        have hbo : ((es[qi]?).map (fun e => (e.born : Int))).getD 0 = (es[qi].born : Int) := by simp [Array.getElem?_eq_getElem hqs]
        simp only [Instr.mapEntry, Sem.run_bind, run_underlying hu, Result.andThen_ok, hg, hck, hr', hks, setObj_map hh, Sem.run_pure, hbo]
      · have hq : q.bs.getD (entI l (some (qi, pv))) 0 = es[qi].born := by
          show ((es.modify qi _).toList.map (·.born)).getD qi 0 = _
          rw [born_sets (f := fun e => { e with key := y }) fun _ => rfl]
          exact bs_at (by simp [hqs])
        have hj2 : j < 2 := hj
        match j, hj2 with
        | 0, _ => exact hv.mono a1
        | 1, _ =>
          show (goInt _ : Value) = .int .i64 _
          rw [hq]; rfl
theorem findIdx_stamp {l : List MapEntry} (hn : (l.map (·.born)).Nodup) {j : Nat} {e0 : MapEntry} (h : l[j]? = some e0) : l.findIdx? (fun e => ((e.born : Nat) : Int) == ((e0.born : Nat) : Int)) = some j := by
  induction l generalizing j with
  | nil => simp at h
  | cons a r ih =>
    simp only [List.map_cons, List.nodup_cons] at hn
    cases j with
    | zero =>
      simp only [List.getElem?_cons_zero, Option.some.injEq] at h
      subst h
      simp [List.findIdx?_cons]
    | succ j =>
      simp only [List.getElem?_cons_succ] at h
      have hne : a.born ≠ e0.born := fun e1 => hn.1 (List.mem_map.2 ⟨e0, List.mem_of_getElem? h, e1.symm⟩)
      have hb : (((a.born : Nat) : Int) == ((e0.born : Nat) : Int)) = false := by
        simp only [beq_eq_false_iff_ne, ne_eq, Int.natCast_inj]
        exact hne
      rw [List.findIdx?_cons, hb]
      simp [ih hn.2 h]
theorem findIdx_ar (xs : Array MapEntry) (p : MapEntry → Bool) : xs.findIdx? p = xs.toList.findIdx? p := by
  cases xs
  simp
theorem putK_place {l : List (AVal × AVal)} {r : Option (Nat × AVal)} {k v0 v : AVal} (hri : ∀ p, r = some p → p.1 < l.length) : (putK l r k v0).length = (putK l r k v).length ∧ entI l r < (putK l r k v).length ∧
    ∀ i (h1 : i < (putK l r k v).length) (h2 : i < (putK l r k v0).length), (putK l r k v)[i].1 = (putK l r k v0)[i].1 ∧ (putK l r k v)[i].2 = if i = entI l r then v else (putK l r k v0)[i].2 := by
  cases r with
  | none =>
    refine ⟨by simp [putK], by simp [putK, entI], fun i h1 h2 => ?_⟩
    simp only [putK] at h1 h2
    simp only [putK, entI, Option.map_none, Option.getD_none]
    by_cases h3 : i < l.length
    · rw [List.getElem_append_left h3, List.getElem_append_left h3]
      exact ⟨rfl, (if_neg (show ¬ i = l.length by omega)).symm⟩
    · have h4 : i = l.length := by simp at h1; omega
      subst h4
      simp
  | some p =>
    have h0 := hri p rfl
    refine ⟨by simp [putK], by simp [putK, entI, h0], fun i h1 h2 => ?_⟩
    simp only [putK] at h1 h2
    simp only [putK, entI, Option.map_some, Option.getD_some]
    by_cases h3 : p.1 = i
    · subst h3; simp
    · rw [List.getElem_set_ne h3, List.getElem_set_ne h3]
      exact ⟨rfl, (if_neg (Ne.symm h3)).symm⟩
theorem entryStore_ok (hk : HOk G h mu nx w) {t : TypeId} {id : Id} {l : List (AVal × AVal)} {r : Option (Nat × AVal)} {q : MQ} {k v0 v : AVal} (hl : lkH h id = some (.mi q (putK l r k v0))) (hri : ∀ p, r = some p → p.1 < l.length)
    {x y z : Value} (hx : Rel (cx G h mu nx w) (.map id) x) (hy : Rel (cx G h mu nx w) (.int .i64 (q.bs.getD (entI l r) 0 : Nat)) y) (hz : Rel (cx G h mu nx w) v z) :
    ∃ w', (Instr.entryStore t x y z).run P w = .ok () w' ∧ (cx G h mu nx w).Le (cx G (setH h id (.mp (putK l r k v))) mu nx w') ∧ HOk G (setH h id (.mp (putK l r k v))) mu nx w' ∧ Frame mu w w' (some id) := by
  obtain ⟨_, B, hB, rfl⟩ := hx
  have hB' : mu id = some B := hB
  have ho := (hk.obj id _ hl).2
  rw [hB'] at ho
  obtain ⟨es, clock, hh, hsz, hc, hbn, hqb, hqc, hqs⟩ := ho
  have hh' : w.heap[B.b]? = some (.map es clock) := hh
  have hg : (getObj B.b).run P w = .ok (.map es clock) w := by simp [getObj, Sem.run, hh']
  obtain ⟨hl1, hl2, hl3⟩ := putK_place (k := k) (v0 := v0) (v := v) hri
  have hes : entI l r < es.size := by omega
  have hst : q.bs.getD (entI l r) 0 = es[entI l r].born := by rw [← hqs]; exact bs_at (by simp [hes])
  have hyv : y = .int .i64 (es[entI l r].born : Nat) := by rw [← hst]; exact hy
  have hidx : es.findIdx? (fun e => ((e.born : Nat) : Int) == ((es[entI l r].born : Nat) : Int)) = some (entI l r) := by
    rw [findIdx_ar]
    exact findIdx_stamp hbn.1 (by simp [hes])
  have hes' : EntRel (cx G h mu nx w) (putK l r k v) (es.modify (entI l r) fun e => { e with val := z }).toList := by
    refine ⟨by simp [hsz, hl1], fun i hi e he => ?_⟩
    have hi' : i < es.size := by omega
    obtain ⟨h5, h6⟩ := hl3 i hi (by omega)
    have hci := hc i (by omega) es[i] (by simp [hi'])
    simp only [Array.getElem?_toList, Array.getElem?_modify] at he
    by_cases h1 : entI l r = i
    · simp only [if_pos h1, Array.getElem?_eq_getElem hi', Option.map_some, Option.some.injEq] at he
      subst he
      rw [h5, h6, if_pos h1.symm]
      exact ⟨hci.1, hz⟩
    · simp only [if_neg h1, Array.getElem?_eq_getElem hi', Option.some.injEq] at he
      subst he
      rw [h5, h6, if_neg (Ne.symm h1)]
      exact hci
  obtain ⟨a1, a2, a3⟩ := map_writeO (o' := .mp (putK l r k v)) (cl' := clock) hk hl hB' hh' hes' (fun c h1 h2 h3 => ⟨_, _, h1, h2, h3, hbn.modify _ _ fun _ => rfl⟩)
  refine ⟨_, ?_, a1, a2, a3⟩
  subst hyv
  simp only [Instr.entryStore, Sem.run_bind, hg, asInt, asIntOf, Result.andThen_ok, Sem.run_pure, hidx, setObj_map hh']
end
section
variable {P : Program} {G : Gh} {n0 : Nat}
end
section
variable {P : Program} {G : Gh} {n0 : Nat} {ops : List Oper} {W : List (Nat × Id)} {al : AL} {mu0 : Id → Option Base} {nx0 : Nat} {Q : St → Prop}
theorem awpO_good {γ : Type} (J : γ → Prop) (h' : γ → Heap) (v : γ → AVal) (d : Option Id) {fuel : Nat} {done : List Nat} {i : Nat} {o : Oper} {st : St} (hi : ops.toArray[i]? = some o) (hg : o.guard = none) (hw : wOK W al nx0 i st.heap d)
    (hrun : ∀ mu a w, Sim G mu st a w → ∃ c, J c ∧ GoodN P G st.heap mu st.nx w (execOp a.eval o) (v c) (h' c) st.nx d)
    (h : ∀ K : St → Prop, (∀ s, AwpA P G n0 ops W al mu0 nx0 Q fuel (i :: done) s → K s) → ∀ c, J c → goPut (putSt G.nt st.env (h' c) st.nx o.dst (v c)) K) : AwpO P G n0 ops W al mu0 nx0 Q fuel done st i := by
  intro mu a w hs hn hx hm Q' hp hQ
  refine wpOp_of hi ?_
  have hwd : Region.wanted o (yielded ops.toArray a.tmps) = true := by simp [Region.wanted, hg]
  rw [if_pos hwd]
  obtain ⟨c, hJ, x, w', mu', hr, hLe, hk, hv, hfr⟩ := hrun mu a w hs
  obtain ⟨s, hput, hs2⟩ := goPut_spec (h _ (fun _ hs => hs) c hJ)
  have hsim := hs.put hLe hk hv hput
  have hLe' : (cx G st.heap mu st.nx w).Le (cx G s.heap mu' s.nx w') := by
    rw [(putSt_heap hput).1, (putSt_heap hput).2]; exact hLe
  have fin : ∀ a', Sim G mu' s a' w' → ∃ c' : Cx, c'.w = w' ∧ LeKB (keepOf W al mu0 nx0 i) (cx G st.heap mu st.nx w) c' ∧ wpAnyC P ops.toArray Q' (keepOf W al mu0 nx0) fuel (lst ops.toArray.size (i :: done)) c' a' w' := fun a' hs' => by
    refine ⟨cx G s.heap mu' s.nx w', rfl, ⟨hLe', fun b hb hbs => ?_⟩, ?_⟩
    · refine hfr b hbs fun id B hid hB => ?_
      rw [hid] at hw
      rcases hw with hw | ⟨hw, hlt⟩ | ⟨hw, h1, h2⟩
      · rw [hb.1] at hw; cases hw
      · exact hb.2.2 (i, id) (by simpa using hw) rfl B ((hm id hlt).symm.trans hB)
      · obtain ⟨x, hx1, hx2, B1, hB1, rfl⟩ := hb.2.1 hw
        obtain ⟨k1, k2⟩ := h2 x hx1
        obtain ⟨o1, ho1⟩ := Option.isSome_iff_exists.1 k2
        obtain ⟨o2, ho2⟩ := Option.isSome_iff_exists.1 h1
        exact fun heq => k1 (hs.heap.sep x id o1 o2 B1 B ho1 ho2 ((hm x hx2).trans hB1) hB heq)
    · exact hs2 mu' a' w' hs' (Nat.le_trans hn hLe'.nx) (Nat.le_trans hx hLe'.nx) (fun id hid => (hLe'.mu id (Nat.lt_of_lt_of_le hid hx)).trans (hm id hid)) Q' hp
        fun mu2 st2 a2 w2 h1 h2 h3 h4 => hQ mu2 st2 a2 w2 h1 h2 ((Stay.of hn hLe').trans h3) h4
  unfold Oper.wp
  rcases hr with hr | ⟨hr, hx0⟩
  · rw [hr]; exact fin _ hsim
  · rw [hr]; rw [hx0] at hsim; exact fin _ hsim
theorem awpO_entry {T : Tab} (hT : TabOK P T) {t kt et : TypeId} {ti ei : TI} (ht : T t = some ti) (hik : ti.k = .map kt et) (hei : T et = some ei) {id : Id} {l : List (AVal × AVal)} {r : Option (Nat × AVal)} {x y : Operand} {fuel : Nat} {done : List Nat} {i : Nat} {o : Oper} {st : St} (hi : ops.toArray[i]? = some o) (ho : o.op = .mapEntry t x y) (hg : o.guard = none) (hx : sv st.env x = .map id) (hl : lkH st.heap id = some (.mp l))
    (hkt : keyT T kt (sv st.env y) = true) (hr : luK T kt l 0 (sv st.env y) = some r) (hsc : sc st.env x ∧ sc st.env y) (hw : wOK W al nx0 i st.heap (some id))
    (h : ∀ K : St → Prop, (∀ s, AwpA P G n0 ops W al mu0 nx0 Q fuel (i :: done) s → K s) → ∀ q : MQ, goPut (putSt G.nt st.env (setH st.heap id (.mi q (putK l r (normK (sv st.env y)) (lkV r (mkL ei ei.zero))))) st.nx o.dst (.tup 2 (entF (lkV r (mkL ei ei.zero)) (q.bs.getD (entI l r) 0 : Nat)))) K) : AwpO P G n0 ops W al mu0 nx0 Q fuel done st i := by
  refine awpO_good (γ := MQ) (fun _ => True) (fun q => setH st.heap id (.mi q (putK l r (normK (sv st.env y)) (lkV r (mkL ei ei.zero))))) (fun q => .tup 2 (entF (lkV r (mkL ei ei.zero)) (q.bs.getD (entI l r) 0 : Nat))) (some id) hi hg hw (fun mu a w hs => ?_) fun K hK q _ => h K hK q
  have hxr := strip_rel (hs.rho x) hsc.1
  have hxr' : Rel (cx G st.heap mu st.nx w) (sv st.env x) (a.eval x) := hxr
  rw [hx] at hxr'
  have hyr := strip_rel (hs.rho y) hsc.2
  obtain ⟨q, z, w', h1, h2, h3, h4, h5⟩ := mapEntry_ok hT hs.heap ht hik hei hl hkt hr hxr' hyr
  exact ⟨q, trivial, z, w', mu, .inl (by simp only [execOp, ho, Sem.run_bind, h1, Result.andThen_ok, Sem.run_pure]), h2, h3, h4, h5⟩
theorem awpO_estore {t : TypeId} {id : Id} {l : List (AVal × AVal)} {r : Option (Nat × AVal)} {q : MQ} {k v0 : AVal} {x y z : Operand} {fuel : Nat} {done : List Nat} {i : Nat} {o : Oper} {st : St} (hi : ops.toArray[i]? = some o) (ho : o.op = .entryStore t x y z) (hg : o.guard = none) (hx : sv st.env x = .map id) (hl : lkH st.heap id = some (.mi q (putK l r k v0)))
    (hri : ∀ p, r = some p → p.1 < l.length) (hy : sv st.env y = .int .i64 (q.bs.getD (entI l r) 0 : Nat)) (hsc : sc st.env x ∧ sc st.env y ∧ sc st.env z) (hw : wOK W al nx0 i st.heap (some id))
    (h : ∀ K : St → Prop, (∀ s, AwpA P G n0 ops W al mu0 nx0 Q fuel (i :: done) s → K s) → goPut (putSt G.nt st.env (setH st.heap id (.mp (putK l r k (sv st.env z)))) st.nx o.dst .any) K) : AwpO P G n0 ops W al mu0 nx0 Q fuel done st i := by
  refine awpO_good (γ := Unit) (fun _ => True) (fun _ => setH st.heap id (.mp (putK l r k (sv st.env z)))) (fun _ => .any) (some id) hi hg hw (fun mu a w hs => ?_) fun K hK _ _ => h K hK
  have hxr := strip_rel (hs.rho x) hsc.1
  have hxr' : Rel (cx G st.heap mu st.nx w) (sv st.env x) (a.eval x) := hxr
  rw [hx] at hxr'
  have hyr := strip_rel (hs.rho y) hsc.2.1
  have hyr' : Rel (cx G st.heap mu st.nx w) (sv st.env y) (a.eval y) := hyr
  rw [hy] at hyr'
  have hzr := strip_rel (hs.rho z) hsc.2.2
  obtain ⟨w', h1, h2, h3, h5⟩ := entryStore_ok (P := P) (t := t) hs.heap hl hri hxr' hyr' hzr
  exact ⟨(), trivial, undef, w', mu, .inr ⟨by simp only [execOp, ho, Sem.run_bind, h1, Result.andThen_ok, Sem.run_pure], rfl⟩, h2, h3, trivial, h5⟩
end
end Go.Lift
