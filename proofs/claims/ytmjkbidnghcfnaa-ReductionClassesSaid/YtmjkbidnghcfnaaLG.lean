/-
  The abstract layer, part G: append at abstract values, slices, make, composite literals, len.
-/
import Derived.Test.YtmjkbidnghcfnaaLF
namespace Go.Lift
set_option linter.unusedSimpArgs false
set_option linter.unusedVariables false
open Go.RowKit

section
variable {P : Program} {w : World} {G : Gh} {h : Heap} {mu : Id → Option Base} {nx : Nat}

theorem src_of_cells {c : Cx} {size m cap : Nat} {A : Option Addr} {g : Nat → Nat → AVal}
    (hc : m = 0 ∨ ∃ b o, A = some ⟨b, o, none⟩ ∧ ∀ i, i < m → ∀ j, j < size → (g i j).one = true ∧ ∃ v, c.w.cell? ⟨b, o + i * size + j, none⟩ = some v ∧ Rel c (g i j) v) :
    SrcR P c size (.slice A m cap) m g := by
  rcases hc with rfl | ⟨b, o, rfl, hc⟩
  · refine ⟨[], ⟨fun w' => by simp [Builtin.lenOf], fun w' _ => ?_, by simp, by simp⟩, fun i hi => absurd hi (Nat.not_lt_zero _)⟩
    cases A with
    | none => simp [Builtin.firstCells]
    | some a => simp [Builtin.firstCells, loadCells, loadCellsFrom]
  · let F : Nat → Value := fun k => (c.w.cell? ⟨b, o + k, none⟩).getD undef
    have hF : ∀ i, i < m → ∀ j, j < size → (g i j).one = true ∧ c.w.cell? ⟨b, o + (i * size + j), none⟩ = some (F (i * size + j)) ∧ Rel c (g i j) (F (i * size + j)) := fun i hi j hj => by
      obtain ⟨h1, v, hv, hr⟩ := hc i hi j hj
      rw [Nat.add_assoc] at hv
      have : F (i * size + j) = v := by simp only [F, hv, Option.getD_some]
      rw [this]
      exact ⟨h1, hv, hr⟩
    have hk : ∀ k, k < m * size → c.w.cell? ⟨b, o + k, none⟩ = some (F k) ∧ (F k).oneCell' = true := fun k hk => by
      have hs : 0 < size := by
        rcases Nat.eq_zero_or_pos size with h0 | h0
        · rw [h0] at hk; simp at hk
        · exact h0
      have h1 : k / size < m := Nat.div_lt_of_lt_mul (by rw [Nat.mul_comm]; exact hk)
      obtain ⟨h2, h3, h4⟩ := hF (k / size) h1 (k % size) (Nat.mod_lt _ hs)
      have h5 : k / size * size + k % size = k := by rw [Nat.mul_comm]; exact Nat.div_add_mod k size
      rw [h5] at h3 h4
      exact ⟨h3, Rel.one h2 h4⟩
    refine ⟨(List.range (m * size)).map F, ⟨fun w' => by simp [Builtin.lenOf], fun w' hw' => ?_, by simp, ?_⟩, fun i hi j hj => ?_⟩
    · refine run_firstCells_some (P := P) w' size m ⟨b, o, none⟩ m cap _ (by simp) (fun k v hv => ?_)
      rw [hw', Addr.add_lit]
      rw [List.getElem?_map] at hv
      cases hr : (List.range (m * size))[k]? with
      | none => rw [hr] at hv; cases hv
      | some k' =>
        rw [hr] at hv
        obtain ⟨hlt, hk'⟩ := List.getElem?_eq_some_iff.1 hr
        simp at hk' hlt
        subst hk'
        simp only [Option.map_some, Option.some.injEq] at hv
        rw [← hv]
        exact (hk k hlt).1
    · intro u hu
      simp only [List.mem_map, List.mem_range] at hu
      obtain ⟨k, hk', rfl⟩ := hu
      exact (hk k hk').2
    · obtain ⟨h1, _, h3⟩ := hF i hi j hj
      have := mul_off hi hj
      exact ⟨h1, _, by simp [List.getElem?_map, this], h3⟩

/-- the cells of an owned piece. -/
theorem HOk.cells (hk : HOk G h mu nx w) {id : Id} {n s : Nat} {f : Nat → Nat → AVal} (hl : lkH h id = some (.arr n s f)) {B : Base} (hB : mu id = some B) :
    B.s = s ∧ ∃ cs T, w.heap[B.b]? = some (.cells cs T (0, 0)) ∧ cs.size = B.sz ∧ B.o + n * s ≤ B.sz ∧ ∀ i, i < n → ∀ j, j < s → (f i j).one = true ∧ ∃ v, cs[B.o + i * s + j]? = some v ∧
      w.cell? ⟨B.b, B.o + i * s + j, none⟩ = some v ∧ Rel (cx G h mu nx w) (f i j) v := by
  have ho := (hk.obj id _ hl).2
  rw [hB] at ho
  obtain ⟨hs, cs, T, hh, hsz, hle, hc⟩ := ho
  have hh' : w.heap[B.b]? = some (.cells cs T (0, 0)) := hh
  refine ⟨hs, cs, T, hh', hsz, hle, fun i hi j hj => ?_⟩
  obtain ⟨h1, v, hv, hr⟩ := hc i hi j hj
  exact ⟨h1, v, hv, by simp [World.cell?, hh', hv], hr⟩

/-- the elements that are appended. -/
def evSrc (h : Heap) (size : Nat) (y : AVal) : Option (Nat × (Nat → Nat → AVal) × Prop) :=
  match y with
  | .nils => some (0, (fun _ _ => .any), True)
  | .vsl m s g => if s = size then some (m, g, True) else none
  | .sl id lo m =>
    match lkH h id with
    | some (.arr n s f) => if s = size then some (m, (fun i j => f (lo + i) j), lo + m ≤ n) else none
    | _ => none
  | .str s => if size = 1 then some (s.length, (fun i _ => .int .u8 (s.getD i 0).toNat), True) else none
  | _ => none

theorem evSrc_ok (hk : HOk G h mu nx w) {size m : Nat} {p : AVal} {g : Nat → Nat → AVal} {c : Prop} (he : evSrc h size p = some (m, g, c)) (hc : c) {y : Value} (hy : Rel (cx G h mu nx w) p y) :
    SrcR P (cx G h mu nx w) size y m g := by
  unfold evSrc at he
  split at he
  · simp only [Option.some.injEq, Prod.mk.injEq] at he
    obtain ⟨rfl, rfl, rfl⟩ := he
    simp only [Rel] at hy
    subst hy
    exact src_of_cells (.inl rfl)
  · rename_i m' s g'
    by_cases hs : s = size
    · rw [if_pos hs] at he
      simp only [Option.some.injEq, Prod.mk.injEq] at he
      obtain ⟨rfl, rfl, rfl⟩ := he
      subst hs
      obtain ⟨A, cap, rfl, hn, hA⟩ := hy
      refine src_of_cells ?_
      rcases hA with h0 | ⟨b, o, rfl, _, _, hcc⟩
      · exact .inl h0
      · exact .inr ⟨b, o, rfl, hcc⟩
    · rw [if_neg hs] at he; cases he
  · rename_i id lo m'
    split at he
    · rename_i n s f hl
      by_cases hs : s = size
      · rw [if_pos hs] at he
        simp only [Option.some.injEq, Prod.mk.injEq] at he
        obtain ⟨rfl, rfl, rfl⟩ := he
        subst hs
        obtain ⟨hid, A, cap, rfl, hn, hA⟩ := hy
        refine src_of_cells ?_
        rcases hA with h0 | ⟨B, hB, rfl, hfit⟩
        · exact .inl (by omega)
        · obtain ⟨hBs, cs, T, _, _, _, hcc⟩ := hk.cells hl hB
          refine .inr ⟨B.b, B.o + lo * B.s, rfl, fun i hi j hj => ?_⟩
          obtain ⟨h1, v, _, hv, hr⟩ := hcc (lo + i) (by omega) j hj
          refine ⟨h1, v, ?_, hr⟩
          rw [Nat.add_mul, ← Nat.add_assoc] at hv
          rw [hBs]
          exact hv
      · rw [if_neg hs] at he; cases he
    · cases he
  · rename_i s
    by_cases hs : size = 1
    · rw [if_pos hs] at he
      simp only [Option.some.injEq, Prod.mk.injEq] at he
      obtain ⟨rfl, rfl, rfl⟩ := he
      subst hs
      simp only [Rel] at hy
      subst hy
      refine ⟨s.map (fun b => .int .u8 b.toNat), ⟨fun w' => by simp [Builtin.lenOf, ByteArray.size], fun w' _ => ?_, by simp, ?_⟩, fun i hi j hj => ?_⟩
      · simp [Builtin.firstCells, ByteArray.extract, ByteArray.copySlice]
      · intro u hu
        simp only [List.mem_map] at hu
        obtain ⟨b, _, rfl⟩ := hu
        rfl
      · have : j = 0 := by omega
        subst this
        refine ⟨rfl, .int .u8 (s.getD i 0).toNat, ?_, rfl⟩
        simp [List.getElem?_eq_getElem hi]
    · rw [if_neg hs] at he; cases he
  · cases he

/-- append(x, y...). -/
def evAppend (T : Tab) (h : Heap) (nx : Nat) (t u : TypeId) (x y : AVal) : Option (AVal × Heap × Prop) :=
  match T t, T u with
  | some ⟨.slice e, _, _, _, _⟩, some ui =>
    match T e with
    | some ei =>
      match (match ui.k with | .slice _ => true | .str => true | _ => false), evSrc h ei.size y with
      | true, some (m, g, c) =>
        match x with
        | .nils => some (.sl (nx, 0) 0 m, (nx, .one (.arr m ei.size g)) :: h, c ∧ m ≤ 9223372036854775807 ∧ m * ei.bytes ≤ 140737488355328)
        | .sl id lo n =>
          match lkH h id with
          | some (.arr N s f) => if s = ei.size then
              some (.sl (nx, 0) 0 (n + m), (nx, .one (.arr (n + m) s (app (fun i j => f (lo + i) j) n g))) :: delH h id,
                c ∧ lo + n ≤ N ∧ n + m ≤ 9223372036854775807 ∧ (n + m) * ei.bytes ≤ 140737488355328) else none
          | _ => none
        | _ => none
      | _, _ => none
    | none => none
  | _, _ => none

theorem Good.cast {sem : Sem Value} {v v' : AVal} {h1 h1' : Heap} {n1 n1' : Nat} {wid : Option Id} (hg : Good P G h mu nx w sem v h1 n1 wid) (e1 : v = v') (e2 : h1 = h1') (e3 : n1 = n1') : Good P G h mu nx w sem v' h1' n1' wid := by
  subst e1 e2 e3
  exact hg

def wSl : AVal → Option Id
  | .sl id _ _ => some id
  | _ => none

theorem evAppend_ok {T : Tab} (hT : TabOK P T) (hk : HOk G h mu nx w) {t u ty : TypeId} {p q v : AVal} {h' : Heap} {c : Prop} (he : evAppend T h nx t u p q = some (v, h', c)) (hc : c)
    {x y : Value} (hp : Rel (cx G h mu nx w) p x) (hq : Rel (cx G h mu nx w) q y) : Good P G h mu nx w (Builtin.append_ #[t, u] ty #[x, y]) v h' (nx + 1) (wSl p) := by
  unfold evAppend at he
  split at he
  · rename_i e _ _ _ _ ui hi hui
    have ht : P.underlying t = some (.slice e) := (hT t _ hi).kind
    split at he
    · rename_i ei hei
      have hte := hT e ei hei
      split at he
      · rename_i m g c' hkind hsrc
        have hu : ∃ d, P.underlying u = some d ∧ ((∃ e', d = .slice e') ∨ d = .string) := by
          have hk' := (hT u ui hui).kind
          cases hki : ui.k with
          | slice e' => rw [hki] at hk'; exact ⟨_, hk', .inl ⟨e', rfl⟩⟩
          | str => rw [hki] at hk'; exact ⟨_, hk', .inr rfl⟩
          | _ => rw [hki] at hkind; simp at hkind
        obtain ⟨d, hu, hd⟩ := hu
        split at he
        · simp only [Option.some.injEq, Prod.mk.injEq] at he
          obtain ⟨rfl, rfl, rfl⟩ := he
          simp only [Rel] at hp
          subst hp
          have := append_core (ty := ty) ht hu hd hte hk (h1 := h) (fun _ _ h => h) (A := none) (n := 0) (cap := 0) (Nat.le_refl _) (f := fun _ _ => .any) none (.inl rfl) (evSrc_ok hk hsrc hc.1 hq) (by omega) (by simpa using hc.2.2)
          refine this.cast (by simp) ?_ rfl
          simp only [Nat.zero_add]
          congr 4
        · rename_i id lo n
          split at he
          · rename_i N s f hl
            by_cases hs : s = ei.size
            · rw [if_pos hs] at he
              simp only [Option.some.injEq, Prod.mk.injEq] at he
              obtain ⟨rfl, rfl, rfl⟩ := he
              subst hs
              obtain ⟨hc1, hN, h63, hby⟩ := hc
              obtain ⟨hid, A, cap, rfl, hncap, hA⟩ := hp
              refine append_core ht hu hd hte hk (h1 := delH h id) (fun id' o hl' => (lkH_delH h id id' o hl').1) hncap (some id) ?_ (evSrc_ok hk hsrc hc1 hq) h63 hby
              rcases hA with h0 | ⟨B, hB, rfl, hfit⟩
              · exact .inl h0
              · obtain ⟨hBs, cs, Ty, hh, hsz, hle, hcc⟩ := hk.cells hl hB
                have hown := hk.own id _ B hl hB
                refine .inr ⟨B.b, B.o + lo * B.s, cs, Ty, rfl, hh, ?_, .inr ⟨id, _, B, hl, hB, rfl⟩, hown.2.1, ⟨hown.2.2, id, B, rfl, hB, rfl⟩, fun id' o' B' hl' hm' e => ?_, fun i hi j hj => ?_⟩
                · rw [hsz]
                  rw [Nat.add_mul, ← Nat.add_assoc, hBs] at hfit
                  rw [hBs]
                  exact hfit
                · obtain ⟨h1, h2⟩ := lkH_delH h id id' o' hl'
                  exact h2 (hk.sep id' id o' _ B' B h1 hl hm' hB e)
                · obtain ⟨h1, v, hv, _, hr⟩ := hcc (lo + i) (by omega) j hj
                  refine ⟨h1, v, ?_, hr⟩
                  rw [Nat.add_mul, ← Nat.add_assoc] at hv
                  rw [hBs]
                  exact hv
            · rw [if_neg hs] at he; cases he
          · cases he
        · cases he
      · cases he
    · cases he
  · cases he
end
end Go.Lift
