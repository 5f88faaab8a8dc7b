/-
  The abstract layer, part F: append on abstract states.
-/
import Derived.Test.YtmjkbidnghcfnaaLE
namespace Go.Lift
set_option linter.unusedSimpArgs false
set_option linter.unusedVariables false
open Go.RowKit

/-- the new content of an append. -/
def app (f : Nat → Nat → AVal) (n : Nat) (g : Nat → Nat → AVal) : Nat → Nat → AVal := fun i j => if i < n then f i j else g (i - n) j

/-- the source of an append as an abstract value: its elements. -/
def SrcR (P : Program) (c : Cx) (size : Nat) (y : Value) (m : Nat) (g : Nat → Nat → AVal) : Prop :=
  ∃ news, Src P c.w size y m news ∧ ∀ i, i < m → ∀ j, j < size → (g i j).one = true ∧ ∃ v, news[i * size + j]? = some v ∧ Rel c (g i j) v

section
variable {P : Program} {w : World} {G : Gh} {h : Heap} {mu : Id → Option Base} {nx : Nat}

theorem cx_app {h1 : Heap} (hsub : ∀ id' o, lkH h1 id' = some o → lkH h id' = some o) {o : HObj} {m0 : Option Base} {w' : World}
    (hb1 : ∀ B, m0 = some B → w.heap.size ≤ B.b ∨ Fb G.O h mu B.b) (hblk : ∀ b, b < w.heap.size → ¬ Fb G.O h mu b → w'.heap[b]? = w.heap[b]?) (hsz : w.heap.size ≤ w'.heap.size) (hdfr : ∀ D : Nat, w.heap[D]? = some (Obj.deferred (some [])) → w'.heap[D]? = some (Obj.deferred (some []))) :
    (cx G h mu nx w).Le (cx G ((nx, .one o) :: h1) (upd mu (nx, 0) m0) (nx + 1) w') where
  size := hsz
  F := by
    rintro b hb hF (hO | ⟨id', o', B', hl, hmm, hbb⟩)
    · exact hF (.inl hO)
    · rw [lkH_cons_one] at hl
      by_cases h1 : id' = (nx, 0)
      · subst h1
        rw [upd_same] at hmm
        have hb' : b < w.heap.size := hb
        rcases hb1 B' hmm with h2 | h2
        · omega
        · exact hF (by rw [← hbb]; exact h2)
      · rw [if_neg h1] at hl
        by_cases h2 : id'.1 = nx
        · rw [if_pos h2] at hl; cases hl
        · rw [if_neg h2] at hl
          rw [upd_ne _ _ h1] at hmm
          exact hF (.inr ⟨id', o', B', hsub id' o' hl, hmm, hbb⟩)
  cell := fun b o hb hF => World.cell?_of_block (hblk b hb hF)
  nx := Nat.le_succ _
  mu := fun id hid => upd_ne _ _ (fun e => by subst e; exact Nat.lt_irrefl _ hid)
  dfr := hdfr

theorem HOk.app (hk : HOk G h mu nx w) {h1 : Heap} (hsub : ∀ id' o, lkH h1 id' = some o → lkH h id' = some o) {o : HObj} {m0 : Option Base} {w' : World}
    (hb1 : ∀ B, m0 = some B → (w.heap.size ≤ B.b ∨ Fb G.O h mu B.b) ∧ B.b < w'.heap.size ∧ (G.w0.heap.size ≤ B.b ∨ G.mt B.b) ∧ ¬ G.O B.b ∧ ∀ id' o' B', lkH h1 id' = some o' → mu id' = some B' → B'.b ≠ B.b)
    (hblk : ∀ b, b < w.heap.size → (∀ B, m0 = some B → b ≠ B.b) → w'.heap[b]? = w.heap[b]?) (hsz : w.heap.size ≤ w'.heap.size) (hos : w'.os = w.os ∧ w'.tape = w.tape ∧ w'.output = w.output ∧ w.drawn ≤ w'.drawn)
    (hr : (cx G h mu nx w).Le (cx G ((nx, .one o) :: h1) (upd mu (nx, 0) m0) (nx + 1) w') → HRel (cx G ((nx, .one o) :: h1) (upd mu (nx, 0) m0) (nx + 1) w') m0 o) :
    (cx G h mu nx w).Le (cx G ((nx, .one o) :: h1) (upd mu (nx, 0) m0) (nx + 1) w') ∧ HOk G ((nx, .one o) :: h1) (upd mu (nx, 0) m0) (nx + 1) w' := by
  have hLe : (cx G h mu nx w).Le (cx G ((nx, .one o) :: h1) (upd mu (nx, 0) m0) (nx + 1) w') := by
    refine cx_app hsub (fun B hB => (hb1 B hB).1) (fun b hb hF => hblk b hb (fun B hB e => ?_)) hsz (fun D hD => (hblk D (lt_of_get hD) (fun B hB e => ?_)).trans hD)
    · rcases (hb1 B hB).1 with h2 | h2
      · omega
      · exact hF (by rw [e]; exact h2)
    · have hlt := lt_of_get hD
      rcases (hb1 B hB).1 with h2 | h2 | ⟨id', o', B', hl', hm', hb'⟩
      · omega
      · exact (hb1 B hB).2.2.2.1 h2
      · exact hk.ndfr hl' hm' hD (by rw [e, hb'])
  refine ⟨hLe, hk.step hLe (nx, 0) o (Nat.lt_succ_self _) (fun _ => by rw [upd_same]; exact hr hLe) (fun B hB => ?_) (fun id' o' ho' => ?_) ?_⟩
  · rw [upd_same] at hB
    exact ⟨(hb1 B hB).2.1, (hb1 B hB).2.2.1, (hb1 B hB).2.2.2.1⟩
  · rw [lkH_cons_one] at ho'
    by_cases h1 : id' = (nx, 0)
    · rw [if_pos h1] at ho'
      injection ho' with ho'
      exact .inl ⟨h1, ho'.symm⟩
    · rw [if_neg h1] at ho'
      by_cases h2 : id'.1 = nx
      · rw [if_pos h2] at ho'; cases ho'
      · rw [if_neg h2] at ho'
        have hold := hsub id' o' ho'
        refine .inr ⟨h1, hold, fun B hB => ?_⟩
        have hlt := (hk.own id' o' B hold hB).1
        refine ⟨hblk _ hlt (fun B0 hB0 => (hb1 B0 hB0).2.2.2.2 id' o' B ho' hB), fun B0 hB0 => ?_⟩
        rw [upd_same] at hB0
        exact (hb1 B0 hB0).2.2.2.2 id' o' B ho' hB
  · refine ⟨hos.1.trans hk.kept.os, hos.2.1.trans hk.kept.tape, hos.2.2.1.trans hk.kept.output, Nat.le_trans hk.kept.drawn hos.2.2.2, Nat.le_trans hk.kept.size hsz, fun b hb hm => ?_⟩
    rw [hblk b (Nat.lt_of_lt_of_le hb hk.kept.size) (fun B hB e => ?_)]
    · exact hk.kept.block b hb hm
    · subst e
      rcases (hb1 B hB).2.2.1 with h2 | h2
      · exact absurd hb (Nat.not_lt.2 h2)
      · exact hm h2

theorem append_core {t u ty e : TypeId} {d : TypeDesc} {ei : TI} (ht : P.underlying t = some (.slice e)) (hu : P.underlying u = some d) (hd : (∃ e', d = .slice e') ∨ d = .string)
    (hte : TIok P e ei) (hk : HOk G h mu nx w) {h1 : Heap} (hsub : ∀ id' o, lkH h1 id' = some o → lkH h id' = some o)
    {A : Option Addr} {n cap : Nat} (hncap : n ≤ cap) {f : Nat → Nat → AVal} (wid : Option Id)
    (hA : cap = 0 ∨ ∃ b o cs T, A = some ⟨b, o, none⟩ ∧ w.heap[b]? = some (.cells cs T (0, 0)) ∧ o + cap * ei.size ≤ cs.size ∧ Fb G.O h mu b ∧ (G.w0.heap.size ≤ b ∨ G.mt b) ∧ (¬ G.O b ∧ ∃ id B, wid = some id ∧ mu id = some B ∧ B.b = b) ∧
      (∀ id' o' B', lkH h1 id' = some o' → mu id' = some B' → B'.b ≠ b) ∧ ∀ i, i < n → ∀ j, j < ei.size → (f i j).one = true ∧ ∃ v, cs[o + i * ei.size + j]? = some v ∧ Rel (cx G h mu nx w) (f i j) v)
    {m : Nat} {g : Nat → Nat → AVal} {y : Value} (hy : SrcR P (cx G h mu nx w) ei.size y m g) (h63 : n + m ≤ 9223372036854775807) (hby : (n + m) * ei.bytes ≤ 140737488355328) :
    Good P G h mu nx w (Builtin.append_ #[t, u] ty #[.slice A n cap, y]) (.sl (nx, 0) 0 (n + m)) ((nx, .one (.arr (n + m) ei.size (app f n g))) :: h1) (nx + 1) wid := by
  obtain ⟨ti, z, hi, hjs, hjb, hz, hzs, _⟩ := hte.run_info
  obtain ⟨news, hsrc, hg⟩ := hy
  have hsrc' : Src P w ti.size y m news := by rw [hjs]; exact hsrc
  have hnl : news.length = m * ei.size := hsrc.size
  by_cases hroom : n + m ≤ cap
  · -- room: what is there is written
    rcases hA with h0 | ⟨b, o, cs, T, rfl, hb, hfit, hFb, hw0, ⟨hO, wi, wB, hwi, hwB, hwb⟩, hoth, hf⟩
    · have hn : n = 0 := by omega
      have hm : m = 0 := by omega
      subst hn hm
      have hr := run_append_room_gen (P := P) w t u ty e ti d ht hu hd hi A 0 cap 0 y news hsrc' hroom 0 0 0 #[] (.inl rfl)
      rw [if_pos rfl] at hr
      obtain ⟨hLe, hok⟩ := hk.app hsub (o := .arr (0 + 0) ei.size (app f 0 g)) (m0 := none) (w' := w) (fun B hB => by cases hB) (fun _ _ _ => rfl) (Nat.le_refl _) ⟨rfl, rfl, rfl, Nat.le_refl _⟩ (fun _ => rfl)
      exact ⟨_, _, _, hr, hLe, hok, ⟨Nat.lt_succ_self _, A, cap, rfl, hroom, .inl h0⟩, Frame.refl⟩
    · have hle1 : n * ei.size + m * ei.size ≤ cap * ei.size := by rw [← Nat.add_mul]; exact Nat.mul_le_mul_right _ hroom
      let cur := (cs.toList.take (o + n * ti.size) ++ news ++ cs.toList.drop (o + n * ti.size + news.length)).toArray
      have hr := run_append_room_gen (P := P) w t u ty e ti d ht hu hd hi (some ⟨b, o, none⟩) n cap m y news hsrc' hroom b o T cs (.inr ⟨rfl, hb, by rw [hjs]; omega⟩)
      have hcur : (if m = 0 then w else w.setRow b cur) = w.setRow b cur := by
        by_cases hm : m = 0
        · rw [if_pos hm]
          have hn0 : news = [] := List.eq_nil_of_length_eq_zero (by rw [hnl, hm]; simp)
          have : cur = cs := by
            apply Array.ext'
            simp [cur, hn0]
          rw [this, setRow_self w b cs T (0, 0) hb]
        · rw [if_neg hm]
      rw [hcur] at hr
      have hcsz : cur.size = cs.size := by simp [cur, hjs]; omega
      have hold : ∀ k, k < o + n * ei.size → cur[k]? = cs[k]? := fun k hk' => by
        simp only [cur, List.getElem?_toArray, hjs]
        rw [List.getElem?_append_left (by simp; omega), List.getElem?_append_left (by simp; omega)]
        simp [List.getElem?_take, hk']
      have hnew : ∀ k, k < m * ei.size → cur[o + n * ei.size + k]? = news[k]? := fun k hk' => by
        simp only [cur, List.getElem?_toArray, hjs]
        rw [List.getElem?_append_left (by simp; omega), List.getElem?_append_right (by simp; omega)]
        simp only [List.length_take, Array.length_toList]
        congr 1
        omega
      obtain ⟨hLe, hok⟩ := hk.app hsub (o := .arr (n + m) ei.size (app f n g)) (m0 := some ⟨b, o, ei.size, cs.size⟩) (w' := w.setRow b cur)
        (fun B hB => by
          injection hB with hB
          subst hB
          exact ⟨.inr hFb, by simpa using (Array.getElem?_eq_some_iff.1 hb).1, hw0, hO, hoth⟩)
        (fun b' _ hne => setRow_other w b b' cur (hne _ rfl)) (by simp) ⟨rfl, rfl, rfl, Nat.le_refl _⟩ (fun hLe => by
          refine ⟨rfl, cur, T, setRow_heap w b cs cur T (0, 0) hb, hcsz, ?_, fun i hi' j hj => ?_⟩
          · show o + (n + m) * ei.size ≤ cs.size
            rw [Nat.add_mul]; omega
          · unfold Go.Lift.app
            by_cases hin : i < n
            · rw [if_pos hin]
              obtain ⟨h1, v, hv, hrel⟩ := hf i hin j hj
              have := mul_off hin hj
              exact ⟨h1, v, by rw [hold _ (by simp only; omega)]; exact hv, hrel.mono hLe⟩
            · rw [if_neg hin]
              obtain ⟨h1, v, hv, hrel⟩ := hg (i - n) (by omega) j hj
              have h2 := mul_off (show i - n < m by omega) hj
              refine ⟨h1, v, ?_, hrel.mono hLe⟩
              rw [← hv, ← hnew _ h2]
              congr 1
              have : n * ei.size + (i - n) * ei.size = i * ei.size := by rw [← Nat.add_mul]; congr 1; omega
              simp only
              omega)
      exact ⟨_, _, _, hr, hLe, hok, ⟨Nat.lt_succ_self _, _, cap, rfl, hroom, .inr ⟨_, upd_same _ _ _, by simp, by simpa using hfit⟩⟩, fun b' _ hne => setRow_other w b b' cur (by rw [← hwb]; exact hne wi wB hwi hwB)⟩
  · -- no room: a new block
    have hex : ∃ olds : List Value, olds.length = n * ei.size ∧ (∀ w' : World, (∀ a, w'.cell? a = w.cell? a) → (Builtin.firstCells ti.size n (.slice A n cap)).run P w' = .ok olds.toArray w') ∧
        ∀ i, i < n → ∀ j, j < ei.size → (f i j).one = true ∧ ∃ v, olds[i * ei.size + j]? = some v ∧ Rel (cx G h mu nx w) (f i j) v := by
      rcases hA with h0 | ⟨b, o, cs, T, rfl, hb, hfit, hFb, hw0, hO, hoth, hf⟩
      · have hn : n = 0 := by omega
        subst hn
        refine ⟨[], by simp, fun w' _ => ?_, fun i hi' => absurd hi' (Nat.not_lt_zero _)⟩
        cases A with
        | none => simp [Builtin.firstCells]
        | some a => simp [Builtin.firstCells, loadCells, loadCellsFrom]
      · have hle1 : n * ei.size ≤ cap * ei.size := Nat.mul_le_mul_right _ hncap
        refine ⟨(cs.toList.drop o).take (n * ei.size), by simp; omega, fun w' hw' => ?_, fun i hi' j hj => ?_⟩
        · refine run_firstCells_some (P := P) w' ti.size n ⟨b, o, none⟩ n cap _ (by simp [hjs]; omega) (fun k v hv => ?_)
          rw [hw', Addr.add_lit]
          simp only [World.cell?, hb, Option.isSome_none, Bool.false_eq_true, if_false]
          rw [List.getElem?_take] at hv
          split at hv
          · rw [List.getElem?_drop] at hv
            simpa using hv
          · cases hv
        · obtain ⟨h1, v, hv, hrel⟩ := hf i hi' j hj
          have := mul_off hi' hj
          refine ⟨h1, v, ?_, hrel⟩
          rw [List.getElem?_take, if_pos this, List.getElem?_drop, ← Nat.add_assoc]
          simpa using hv
    obtain ⟨olds, hol, hof, hor⟩ := hex
    have hr := run_append_grow_gen (P := P) w t u ty e ti z d ht hu hd hi hz A n cap m y olds news hsrc' (by omega) hof (by omega) (growslice_fits (by omega) (by rw [hjb]; exact hby))
    have hge := grownCap_ge w (n + m) cap e
    let C := olds.toArray ++ news.toArray ++ Builtin.zeroCells z.cells (grownCap w (n + m) cap e - (n + m))
    have hC : C.size = grownCap w (n + m) cap e * ei.size := by
      simp only [C, Array.size_append, List.size_toArray, hol, hnl, size_zeroCells, hzs]
      rw [← Nat.add_mul, ← Nat.add_mul]
      congr 1
      omega
    have hC1 : ∀ k, k < n * ei.size → C[k]? = olds[k]? := fun k hk' => by
      simp only [C]
      rw [Array.getElem?_append_left (by simp [hol, hnl]; omega), Array.getElem?_append_left (by simp [hol]; omega)]
      simp
    have hC2 : ∀ k, k < m * ei.size → C[n * ei.size + k]? = news[k]? := fun k hk' => by
      simp only [C]
      rw [Array.getElem?_append_left (by simp [hol, hnl]; omega), Array.getElem?_append_right (by simp [hol])]
      simp [hol]
    obtain ⟨hLe, hok⟩ := hk.app hsub (o := .arr (n + m) ei.size (app f n g)) (m0 := some ⟨w.heap.size, 0, ei.size, C.size⟩) (w' := w.drew.alloc (.cells C e))
      (fun B hB => by
        injection hB with hB
        subst hB
        refine ⟨.inl (Nat.le_refl _), by simp, .inl hk.kept.size, fun hO => ?_, fun id' o' B' hl hm e => ?_⟩
        · have h1 := hk.out _ hO
          have h2 := hk.kept.size
          simp only at h1
          omega
        · have := (hk.own id' o' B' (hsub id' o' hl) hm).1
          rw [e] at this
          exact Nat.lt_irrefl _ this)
      (fun b' hb' _ => Below.heap_alloc w.drew _ b' hb') (by simp) ⟨rfl, rfl, rfl, Nat.le_succ _⟩ (fun hLe => by
        refine ⟨rfl, C, e, heap_new w.drew _, rfl, ?_, fun i hi' j hj => ?_⟩
        · show 0 + (n + m) * ei.size ≤ C.size
          rw [hC, Nat.zero_add]
          exact Nat.mul_le_mul_right _ hge
        · unfold Go.Lift.app
          by_cases hin : i < n
          · rw [if_pos hin]
            obtain ⟨h1, v, hv, hrel⟩ := hor i hin j hj
            have := mul_off hin hj
            exact ⟨h1, v, by simp only [Nat.zero_add]; rw [hC1 _ this]; exact hv, hrel.mono hLe⟩
          · rw [if_neg hin]
            obtain ⟨h1, v, hv, hrel⟩ := hg (i - n) (by omega) j hj
            have h2 := mul_off (show i - n < m by omega) hj
            refine ⟨h1, v, ?_, hrel.mono hLe⟩
            rw [← hv, ← hC2 _ h2]
            congr 1
            have : n * ei.size + (i - n) * ei.size = i * ei.size := by rw [← Nat.add_mul]; congr 1; omega
            simp only
            omega)
    refine ⟨_, _, _, hr, hLe, hok, ⟨Nat.lt_succ_self _, _, _, rfl, hge, .inr ⟨_, upd_same _ _ _, by simp, ?_⟩⟩, fun b' hb' _ => Below.heap_alloc w.drew _ b' hb'⟩
    simp [hC]

end
end Go.Lift
