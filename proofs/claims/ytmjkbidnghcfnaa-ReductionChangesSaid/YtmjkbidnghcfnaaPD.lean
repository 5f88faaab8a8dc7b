/-
  Plain laws of this seat: numbering step by step; the greatest class; cells in range.
-/
import Derived.Test.YtmjkbidnghcfnaaPC
namespace Go.Proofs.Ytmjkbidnghcfnaa
set_option linter.unusedSimpArgs false
set_option linter.unusedVariables false
open Go Go.Lift

section
variable {K : Type} [DecidableEq K]
/-- the keys seen behind a list of keys. -/
def numMap (m : List (K × Int)) : List K → List (K × Int)
  | [] => m
  | k :: r => match alGet m k with
    | some _ => numMap m r
    | none => numMap (m ++ [(k, (m.length : Int))]) r
theorem numMap_app : ∀ (a b : List K) (m : List (K × Int)), numMap m (a ++ b) = numMap (numMap m a) b
  | [], _, _ => rfl
  | k :: r, b, m => by
    simp only [List.cons_append, numMap]
    split <;> exact numMap_app r b _
theorem numMap_one {m : List (K × Int)} {k : K} : numMap m [k] = if (alGet m k).isSome then m else alPut m k m.length := by
  simp only [numMap]
  cases h : alGet m k with
  | some v => simp
  | none => simp [alPut_new h]
theorem numMap_succ {ks : List K} {d : K} {s : Nat} (h : s < ks.length) : numMap [] (ks.take (s + 1)) = if (alGet (numMap [] (ks.take s)) (ks.getD s d)).isSome then numMap [] (ks.take s) else alPut (numMap [] (ks.take s)) (ks.getD s d) (numMap [] (ks.take s)).length := by
  rw [List.take_add_one, numMap_app]
  have : ks[s]?.toList = [ks.getD s d] := by simp [List.getD, List.getElem?_eq_getElem h]
  rw [this, numMap_one]
theorem numGo_at : ∀ (ks : List K) (m : List (K × Int)) (s : Nat) (d : K), s < ks.length → (numGo m ks).getD s 0 = match alGet (numMap m (ks.take s)) (ks.getD s d) with
    | some v => v
    | none => ((numMap m (ks.take s)).length : Int)
  | [], _, _, _, h => absurd h (Nat.not_lt_zero _)
  | k :: r, m, 0, d, _ => by
    simp only [numGo, List.take_zero, numMap, List.getD_cons_zero]
    cases h : alGet m k <;> simp
  | k :: r, m, s + 1, d, h => by
    simp only [numGo, List.take_succ_cons, numMap, List.getD_cons_succ]
    cases hk : alGet m k with
    | some v =>
      simp only [List.getD_cons_succ]
      exact numGo_at r m s d (by simpa using h)
    | none =>
      simp only [List.getD_cons_succ]
      exact numGo_at r _ s d (by simpa using h)
theorem numL_seen {ks : List K} {s : Nat} {d : K} (h : s < ks.length) (hs : (alGet (numMap [] (ks.take s)) (ks.getD s d)).isSome = true) : (numL ks).getD s 0 = (alGet (numMap [] (ks.take s)) (ks.getD s d)).getD 0 := by
  unfold numL
  rw [numGo_at ks [] s d h]
  cases hk : alGet (numMap [] (ks.take s)) (ks.getD s d) with
  | none => rw [hk] at hs; cases hs
  | some v => rfl
theorem numL_new {ks : List K} {s : Nat} {d : K} (h : s < ks.length) (hs : (alGet (numMap [] (ks.take s)) (ks.getD s d)).isSome = false) : (numL ks).getD s 0 = (numMap [] (ks.take s)).length := by
  unfold numL
  rw [numGo_at ks [] s d h]
  cases hk : alGet (numMap [] (ks.take s)) (ks.getD s d) with
  | none => rfl
  | some v => rw [hk] at hs; cases hs
theorem numMap_len : ∀ (ks : List K) (m : List (K × Int)), (numMap m ks).length ≤ m.length + ks.length
  | [], m => Nat.le_refl _
  | k :: r, m => by
    simp only [numMap, List.length_cons]
    split
    · have := numMap_len r m; omega
    · have := numMap_len r (m ++ [(k, (m.length : Int))]); simp at this; omega
end

theorem cntGo_max : ∀ (l : List Int) (c x : Int), RG c l → x = c - 1 → (l.foldl max x) + 1 = cntGo c l
  | [], c, x, _, hx => by simp [cntGo]; omega
  | y :: r, c, x, h, hx => by
    obtain ⟨h1, h2, h3⟩ := h
    simp only [List.foldl_cons, cntGo]
    by_cases hy : y = c
    · rw [if_pos hy] at h3 ⊢
      exact cntGo_max r _ _ h3 (by omega)
    · rw [if_neg hy] at h3 ⊢
      exact cntGo_max r _ _ h3 (by omega)
theorem maxL_cnt {l : List Int} (h : RG 0 l) (h0 : 0 < l.length) : maxL (l ++ [-1]) + 1 = cnt l := by
  cases l with
  | nil => simp at h0
  | cons x r =>
    obtain ⟨h1, h2, h3⟩ := h
    have hx : x = 0 := by omega
    subst hx
    simp only [List.cons_append, maxL, List.foldl_append, List.foldl_cons, List.foldl_nil]
    have h4 := cntGo_max r 1 0 (by simpa using h3) rfl
    have h5 := cntGo_ge r 1
    have : cnt (0 :: r) = cntGo 1 r := by simp [cnt, cntGo]
    rw [this]
    omega
theorem zeros_at {e : Enc} {i : Nat} : (classesAt e 0).getD i 0 = 0 := by
  simp only [classesAt, iter, zerosE, List.getD_eq_getElem?_getD, List.getElem?_replicate]
  split <;> rfl
theorem cell_to {e : Enc} (h : checkE e = 0) {s i : Nat} (hs : s < e.rows.length) (hi : i < (e.rows.getD s []).length) : 0 ≤ (cellAt e s i).to ∧ (cellAt e s i).to < (e.rows.length : Int) := by
  have h1 := (rowCheck_valid ((checkE_valid h).2.2.2 _ (getD_mem (d := []) hs))).2 _ (getD_mem (d := dc) hi)
  unfold cellCheck at h1
  unfold cellAt
  split at h1
  · cases h1
  · omega
theorem row_i {e : Enc} (h : checkE e = 0) {s : Nat} (hs : s < e.rows.length) {i : Nat} (hi : (i : Int) < e.inputs) : i < (e.rows.getD s []).length := by
  have := row_eq h hs; omega
/-- the classes behind the first inputs of a round. -/
def partE (e : Enc) (cl : List Int) (i : Nat) : List Int := (List.range i).foldl (stepE e cl) cl
theorem partE_succ {e : Enc} {cl : List Int} {i : Nat} : partE e cl (i + 1) = stepE e cl (partE e cl i) i := by simp [partE, List.range_succ]
theorem partE_ok {e : Enc} {cl : List Int} {i : Nat} (h : cl.length = e.rows.length) (hr : RG 0 cl) : (partE e cl i).length = e.rows.length ∧ RG 0 (partE e cl i) := by
  have := fold_step (e := e) (cl := cl) (List.range i) cl h hr
  exact ⟨this.1, this.2.1⟩
theorem partE_all {e : Enc} {cl : List Int} {i : Nat} (h : i = e.inputs.toNat) : partE e cl i = roundE e cl := by rw [h]; rfl
theorem keysE_at {e : Enc} {cl nx : List Int} {i s : Nat} {d : Finer} (h : s < e.rows.length) : (keysE e cl i nx).getD s d = ⟨nx.getD s 0, (cellAt e s i).word, cl.getD (cellAt e s i).to.toNat 0⟩ := by
  simp [keysE, List.getD, h]
theorem key_new {e : Enc} {cl nx : List Int} {i s : Nat} (hs : s < e.rows.length) (h : alGet (numMap [] ((keysE e cl i nx).take s)) ⟨nx.getD s 0, ((e.rows.getD s []).getD i dc).word, cl.getD ((e.rows.getD s []).getD i dc).to.toNat 0⟩ = none) :
    numMap [] ((keysE e cl i nx).take (s + 1)) = alPut (numMap [] ((keysE e cl i nx).take s)) ⟨nx.getD s 0, ((e.rows.getD s []).getD i dc).word, cl.getD ((e.rows.getD s []).getD i dc).to.toNat 0⟩ (numMap [] ((keysE e cl i nx).take s)).length ∧ (stepE e cl nx i).getD s 0 = (numMap [] ((keysE e cl i nx).take s)).length := by
  have hk : s < (keysE e cl i nx).length := by simpa using hs
  have hg : alGet (numMap [] ((keysE e cl i nx).take s)) ((keysE e cl i nx).getD s default) = none := by rw [keysE_at hs]; exact h
  refine ⟨?_, numL_new hk (d := default) (by rw [hg]; rfl)⟩
  rw [numMap_succ hk (d := default), hg, if_neg (by simp), keysE_at hs]
  rfl
theorem key_seen {e : Enc} {cl nx : List Int} {i s : Nat} (hs : s < e.rows.length) (h : (alGet (numMap [] ((keysE e cl i nx).take s)) ⟨nx.getD s 0, ((e.rows.getD s []).getD i dc).word, cl.getD ((e.rows.getD s []).getD i dc).to.toNat 0⟩).isSome = true) :
    numMap [] ((keysE e cl i nx).take (s + 1)) = numMap [] ((keysE e cl i nx).take s) ∧ (stepE e cl nx i).getD s 0 = (alGet (numMap [] ((keysE e cl i nx).take s)) ⟨nx.getD s 0, ((e.rows.getD s []).getD i dc).word, cl.getD ((e.rows.getD s []).getD i dc).to.toNat 0⟩).getD 0 := by
  have hk : s < (keysE e cl i nx).length := by simpa using hs
  have hg : (alGet (numMap [] ((keysE e cl i nx).take s)) ((keysE e cl i nx).getD s default)).isSome = true := by rw [keysE_at hs]; exact h
  refine ⟨by rw [numMap_succ hk (d := default), if_pos hg], ?_⟩
  have h2 := numL_seen hk (d := default) hg
  rw [keysE_at hs] at h2
  exact h2
theorem upd_eq {s j : Nat} {A : Int} {X Y : List Int} (hA : X.getD s 0 = A) : (if j = s then AVal.int .i64 A else .int .i64 (if j < s then X.getD j 0 else Y.getD j 0)) = .int .i64 (if j < s + 1 then X.getD j 0 else Y.getD j 0) := by
  by_cases h : j = s
  · subst h; rw [if_pos rfl, if_pos (Nat.lt_succ_self _), hA]
  · rw [if_neg h]
    by_cases h2 : j < s
    · rw [if_pos h2, if_pos (by omega)]
    · rw [if_neg h2, if_neg (by omega)]
theorem getD_app {α : Type} {l m : List α} {i : Nat} {d : α} : (l ++ m).getD i d = if i < l.length then l.getD i d else m.getD (i - l.length) d := by
  by_cases h : i < l.length
  · simp [h, List.getD_eq_getElem?_getD, List.getElem?_append_left]
  · simp [h, List.getD_eq_getElem?_getD, List.getElem?_append_right (Nat.le_of_not_lt h)]
theorem app_one {l : List Int} {v : Int} {g : Nat → Nat → AVal} {i : Nat} (h : i < l.length + 1) : app (fun i _ => .int .i64 (l.getD i 0)) l.length (fun i j => if i = 0 ∧ j = 0 then .int .i64 v else g i j) i 0 = .int .i64 ((l ++ [v]).getD i 0) := by
  rw [getD_app]
  unfold app
  by_cases h2 : i < l.length
  · rw [if_pos h2, if_pos h2]
  · have : i - l.length = 0 := by omega
    rw [if_neg h2, if_neg h2, this]
    rfl

theorem classesE_ok {e : Enc} (h : checkE e = 0) : (classesE e).length = e.rows.length ∧ RG 0 (classesE e) := classesAt_ok e _
/-- what Partition returns. -/
def partR (e : Enc) : AVal := if checkE e = 0 then .tup 2 (fun j => match j with
    | 0 => ints (classesE e)
    | _ => .int .i64 0) else .tup 2 (fun j => match j with
    | 0 => .nils
    | _ => .int .i64 1)
def mcell (cl : List Int) (c : Cell) : Cell := { c with to := cl.getD c.to.toNat 0 }
def mrow (e : Enc) (cl : List Int) (s : Nat) : List Cell := (e.rows.getD s []).map (mcell cl)
def mstep (e : Enc) (cl : List Int) (R : List (List Cell)) (s : Nat) : List (List Cell) := if cl.getD s 0 < (R.length : Int) then R else R ++ [mrow e cl s]
def mrowsAt (e : Enc) (cl : List Int) (s : Nat) : List (List Cell) := (List.range s).foldl (mstep e cl) []
theorem mrowsAt_succ {e : Enc} {cl : List Int} {s : Nat} : mrowsAt e cl (s + 1) = mstep e cl (mrowsAt e cl s) s := by simp [mrowsAt, List.range_succ]
theorem mrowsAt_len (e : Enc) (cl : List Int) : ∀ s, (mrowsAt e cl s).length ≤ s
  | 0 => Nat.le_refl _
  | s + 1 => by
    have := mrowsAt_len e cl s
    rw [mrowsAt_succ]
    unfold mstep
    split
    · omega
    · simp; omega
def mergeE (e : Enc) : Enc := { e with rows := mrowsAt e (classesE e) e.rows.length }
/-- what Merge returns. -/
def mergeR (e : Enc) : AVal := if checkE e = 0 then .tup 3 (fun j => match j with
    | 0 => .agg 4 (encF (mergeE e))
    | 1 => ints (classesE e)
    | _ => .int .i64 0) else .tup 3 (fun j => match j with
    | 0 => .agg 4 (fun j => match j with
      | 0 => .int .i64 0
      | 1 => .int .i64 0
      | 2 => .int .i64 0
      | _ => .nils)
    | 1 => .nils
    | _ => .int .i64 1)
@[simp] theorem mrowsAt_zero {e : Enc} {cl : List Int} : mrowsAt e cl 0 = [] := rfl
@[simp] theorem mergeE_letters {e : Enc} : (mergeE e).letters = e.letters := rfl
@[simp] theorem mergeE_block {e : Enc} : (mergeE e).block = e.block := rfl
@[simp] theorem mergeE_inputs {e : Enc} : (mergeE e).inputs = e.inputs := rfl
theorem mergeE_rows {e : Enc} : (mergeE e).rows = mrowsAt e (classesE e) e.rows.length := rfl
theorem cell_upd {cl : List Int} {row : List Cell} {i q : Nat} : (if q = i then AVal.int .i64 (cl.getD (row.getD i dc).to.toNat 0) else .int .i64 (if q < i then mcell cl (row.getD q dc) else row.getD q dc).to) = .int .i64 (if q < i + 1 then mcell cl (row.getD q dc) else row.getD q dc).to ∧
    (if q < i then mcell cl (row.getD q dc) else row.getD q dc).word = (if q < i + 1 then mcell cl (row.getD q dc) else row.getD q dc).word := by
  by_cases h : q = i
  · subst h; simp [mcell]
  · rw [if_neg h]
    by_cases h2 : q < i
    · rw [if_pos h2, if_pos (by omega)]; exact ⟨rfl, rfl⟩
    · rw [if_neg h2, if_neg (by omega)]; exact ⟨rfl, rfl⟩
theorem mrow_len {e : Enc} {cl : List Int} {s : Nat} : (mrow e cl s).length = (e.rows.getD s []).length := by simp [mrow]
theorem mrow_at {e : Enc} {cl : List Int} {s q : Nat} (h : q < (e.rows.getD s []).length) : (mrow e cl s).getD q dc = mcell cl ((e.rows.getD s []).getD q dc) := by
  simp only [mrow, List.getD_eq_getElem?_getD, List.getElem?_map] at h ⊢
  rw [List.getElem?_eq_getElem h]
  rfl
theorem mrow_done {e : Enc} {cl : List Int} {s i : Nat} (h : (e.rows.getD s []).length ≤ i) : (e.rows.getD s []).length = (mrow e cl s).length ∧ (mrow e cl s).length ≤ (e.rows.getD s []).length ∧ ∀ q, q < (mrow e cl s).length →
    (if q < i then mcell cl ((e.rows.getD s []).getD q dc) else (e.rows.getD s []).getD q dc).to = ((mrow e cl s).getD q dc).to ∧ (if q < i then mcell cl ((e.rows.getD s []).getD q dc) else (e.rows.getD s []).getD q dc).word = ((mrow e cl s).getD q dc).word := by
  refine ⟨mrow_len.symm, Nat.le_of_eq mrow_len, fun q hq => ?_⟩
  rw [mrow_len] at hq
  rw [mrow_at hq, if_pos (by omega)]
  exact ⟨rfl, rfl⟩
end Go.Proofs.Ytmjkbidnghcfnaa

namespace Go.Proofs.Ytmjkbidnghcfnaa
set_option linter.unusedSimpArgs false
set_option linter.unusedVariables false
open Go Go.Lift

theorem cntGo_app : ∀ (a b : List Int) (c : Int), cntGo c (a ++ b) = cntGo (cntGo c a) b
  | [], _, _ => rfl
  | x :: r, b, c => by simp only [List.cons_append, cntGo]; exact cntGo_app r b _
theorem RG_app : ∀ (a b : List Int) (c : Int), RG c (a ++ b) → RG c a ∧ RG (cntGo c a) b
  | [], _, _, h => ⟨trivial, h⟩
  | x :: r, b, c, h => by
    simp only [List.cons_append, RG] at h
    have := RG_app r b _ h.2.2
    exact ⟨⟨h.1, h.2.1, this.1⟩, this.2⟩
theorem RG_at {l : List Int} {k : Nat} (h : RG 0 l) (hk : k < l.length) : 0 ≤ l.getD k 0 ∧ l.getD k 0 ≤ cntGo 0 (l.take k) ∧ cntGo 0 (l.take (k + 1)) = if l.getD k 0 = cntGo 0 (l.take k) then cntGo 0 (l.take k) + 1 else cntGo 0 (l.take k) := by
  have hg : l.getD k 0 = l[k] := by simp [List.getD, hk]
  have h1 : RG 0 (l.take k ++ l[k] :: l.drop (k + 1)) := by rw [← List.drop_eq_getElem_cons hk, List.take_append_drop]; exact h
  have h2 := (RG_app _ _ _ h1).2
  simp only [RG] at h2
  rw [hg]
  refine ⟨h2.1, h2.2.1, ?_⟩
  rw [List.take_add_one, cntGo_app, List.getElem?_eq_getElem hk]
  rfl
theorem cntGo_take {l : List Int} {k : Nat} : 0 ≤ cntGo 0 (l.take k) ∧ cntGo 0 (l.take k) ≤ l.length := by
  have h1 := cntGo_ge (l.take k) 0
  have h2 := cntGo_le (l.take k) 0
  rw [List.length_take] at h2
  omega
theorem RG_zero {l : List Int} (h : RG 0 l) (hk : 0 < l.length) : l.getD 0 0 = 0 := by
  have := RG_at h hk
  simp only [List.take_zero, cntGo] at this
  omega
theorem RG_take {l : List Int} (h : RG 0 l) (k : Nat) : RG 0 (l.take k) := by
  have : RG 0 (l.take k ++ l.drop k) := by rw [List.take_append_drop]; exact h
  exact (RG_app _ _ _ this).1
theorem cntGo_occ : ∀ (l : List Int) (c : Int), RG c l → ∀ v, c ≤ v → v < cntGo c l → v ∈ l
  | [], c, _, v, h1, h2 => by simp only [cntGo] at h2; omega
  | x :: r, c, h, v, h1, h2 => by
    obtain ⟨g1, g2, g3⟩ := h
    simp only [cntGo] at h2
    by_cases hx : x = c
    · rw [if_pos hx] at g3 h2
      by_cases hv : v = c
      · rw [hv, ← hx]; exact List.mem_cons_self
      · exact List.mem_cons_of_mem _ (cntGo_occ r _ g3 v (by omega) h2)
    · rw [if_neg hx] at g3 h2
      exact List.mem_cons_of_mem _ (cntGo_occ r _ g3 v h1 h2)

theorem mrows_cnt {e : Enc} {cl : List Int} (h : RG 0 cl) : ∀ s, s ≤ cl.length → ((mrowsAt e cl s).length : Int) = cntGo 0 (cl.take s)
  | 0, _ => by simp [cntGo]
  | s + 1, hs => by
    have ih := mrows_cnt (e := e) h s (by omega)
    obtain ⟨h1, h2, h3⟩ := RG_at h (show s < cl.length by omega)
    rw [mrowsAt_succ, h3]
    unfold mstep
    split
    · rw [if_neg (by omega), ih]
    · rw [if_pos (by omega), ← ih]; simp
theorem mrows_mem {e : Enc} {cl : List Int} : ∀ s, s ≤ e.rows.length → ∀ r ∈ mrowsAt e cl s, ∃ t, t < e.rows.length ∧ r = mrow e cl t
  | 0, _, r, hr => by simp at hr
  | s + 1, hs, r, hr => by
    rw [mrowsAt_succ] at hr
    unfold mstep at hr
    split at hr
    · exact mrows_mem s (by omega) r hr
    · simp only [List.mem_append, List.mem_singleton] at hr
      rcases hr with hr | hr
      · exact mrows_mem s (by omega) r hr
      · exact ⟨s, by omega, hr⟩
theorem cnt_full {l : List Int} : cntGo 0 (l.take l.length) = cnt l := by rw [List.take_length]; rfl

theorem firstNZ_of {α : Type} {f : α → Int} : ∀ {l : List α}, (∀ x ∈ l, f x = 0) → firstNZ f l = 0
  | [], _ => rfl
  | x :: r, h => by
    have hx := h x List.mem_cons_self
    simp only [firstNZ, hx, if_true]
    exact firstNZ_of fun y hy => h y (List.mem_cons_of_mem _ hy)

section
variable {e : Enc}
theorem merge_rows (hv : checkE e = 0) : ((mergeE e).rows.length : Int) = cnt (classesE e) := by
  obtain ⟨h1, h2⟩ := classesE_ok hv
  rw [mergeE_rows, ← h1, mrows_cnt h2 _ (Nat.le_refl _), cnt_full]
theorem cnt_pos (hv : checkE e = 0) : 0 < cnt (classesE e) := by
  obtain ⟨h1, h2⟩ := classesE_ok hv
  have h3 := (checkE_valid hv).2.1
  have := RG_lt _ _ h2 _ (getD_mem (d := 0) (show 0 < (classesE e).length by omega))
  have e1 : cntGo 0 (classesE e) = cnt (classesE e) := rfl
  omega
theorem cls_lt (hv : checkE e = 0) {s : Nat} (hs : s < e.rows.length) : 0 ≤ (classesE e).getD s 0 ∧ (classesE e).getD s 0 < cnt (classesE e) := by
  obtain ⟨h1, h2⟩ := classesE_ok hv
  exact RG_lt _ _ h2 _ (getD_mem (d := 0) (by omega))
theorem merge_valid (hv : checkE e = 0) : checkE (mergeE e) = 0 := by
  obtain ⟨hd, hp, hl, hr⟩ := checkE_valid hv
  have hm := merge_rows hv
  have hc := cnt_pos hv
  have hle := cnt_le_len (l := classesE e)
  have h1 := (classesE_ok hv).1
  rw [checkE_rows (e := mergeE e) ⟨hd.letters, hd.block, hd.inputs⟩ (by omega) (by omega)]
  refine firstNZ_of fun r hr' => ?_
  obtain ⟨t, ht, rfl⟩ := mrows_mem _ (Nat.le_refl _) _ hr'
  unfold rowCheck
  rw [mergeE_inputs, if_neg (by rw [mrow_len]; have := row_eq hv ht; omega)]
  refine firstNZ_of fun c hc' => ?_
  obtain ⟨c0, hc0, rfl⟩ := List.mem_map.1 hc'
  have h4 := (rowCheck_valid (hr _ (getD_mem ht))).2 c0 hc0
  unfold cellCheck at h4 ⊢
  split at h4
  · cases h4
  · split at h4
    · cases h4
    · rename_i g1 g2
      have h5 := cls_lt hv (s := c0.to.toNat) (by omega)
      rw [if_neg (by simp only [mcell]; omega), if_neg (by rw [mergeE_block, mergeE_letters]; simpa only [mcell] using g2)]

theorem alPut_known {m : List (List UInt8 × Bool)} {k : List UInt8} (h : alGet m k = some true) : alPut m k true = m := by
  induction m with
  | nil => simp [alGet] at h
  | cons p m ih =>
    obtain ⟨a, b⟩ := p
    simp only [alGet] at h
    by_cases hk : k = a
    · simp only [if_pos hk, Option.some.injEq] at h
      simp [alPut, hk, h]
    · simp only [if_neg hk] at h
      simp [alPut, hk, ih h]
theorem alGet_put {m : List (List UInt8 × Bool)} {k a : List UInt8} (h : alGet m a = some true ∨ a = k) : alGet (alPut m k true) a = some true := by
  induction m with
  | nil =>
    rcases h with h | h
    · simp [alGet] at h
    · simp [alPut, alGet, h]
  | cons p m ih =>
    obtain ⟨b, v⟩ := p
    simp only [alPut]
    by_cases hk : k = b
    · simp only [if_pos hk, alGet]
      by_cases ha : a = k
      · simp [ha]
      · have h2 := h.resolve_right ha
        simp only [alGet, if_neg (show a ≠ b from fun e => ha (e.trans hk.symm))] at h2
        simp [ha, h2]
    · simp only [if_neg hk, alGet]
      by_cases ha : a = b
      · rcases h with h | h
        · simpa [alGet, ha] using h
        · exact absurd (h.symm.trans ha) hk
      · simp only [if_neg ha]
        refine ih ?_
        rcases h with h | h
        · simp only [alGet, if_neg ha] at h; exact .inl h
        · exact .inr h
theorem putWords_get : ∀ (l : List Cell) (m : List (List UInt8 × Bool)) (a : List UInt8), alGet m a = some true ∨ a ∈ l.map Cell.word → alGet (putWords m l) a = some true
  | [], m, a, h => by simpa [putWords] using h
  | c :: r, m, a, h => by
    simp only [putWords, List.foldl_cons]
    refine putWords_get r _ a ?_
    simp only [List.map_cons, List.mem_cons] at h
    rcases h with h | h | h
    · exact .inl (alGet_put (.inl h))
    · exact .inl (alGet_put (.inr h))
    · exact .inr h
theorem putRows_get : ∀ (l : List (List Cell)) (m : List (List UInt8 × Bool)) (a : List UInt8), (alGet m a = some true ∨ ∃ r ∈ l, a ∈ r.map Cell.word) → alGet (putRows m l) a = some true
  | [], m, a, h => by simpa [putRows] using h
  | c :: r, m, a, h => by
    simp only [putRows, List.foldl_cons]
    refine putRows_get r _ a ?_
    rcases h with h | ⟨x, hx, h⟩
    · exact .inl (putWords_get _ _ _ (.inl h))
    · cases hx with
      | head => exact .inl (putWords_get _ _ _ (.inr h))
      | tail _ hx => exact .inr ⟨x, hx, h⟩
theorem putWords_known : ∀ (l : List Cell) (m : List (List UInt8 × Bool)), (∀ a ∈ l.map Cell.word, alGet m a = some true) → putWords m l = m
  | [], m, _ => rfl
  | c :: r, m, h => by
    simp only [putWords, List.foldl_cons]
    rw [alPut_known (h c.word (by simp))]
    exact putWords_known r m fun a ha => h a (by simp only [List.map_cons, List.mem_cons]; exact .inr ha)
theorem putWords_map {cl : List Int} : ∀ (l : List Cell) (m : List (List UInt8 × Bool)), putWords m (l.map (mcell cl)) = putWords m l
  | [], _ => rfl
  | c :: r, m => by simp only [List.map_cons, putWords, List.foldl_cons]; exact putWords_map r _
theorem words_same {cl : List Int} (hv : checkE e = 0) (hst : Stable e cl) {s t : Nat} (hs : s < e.rows.length) (ht : t < e.rows.length) (h : cl.getD s 0 = cl.getD t 0) : (e.rows.getD s []).map Cell.word = (e.rows.getD t []).map Cell.word := by
  have h1 := row_eq hv hs
  have h2 := row_eq hv ht
  apply eq_of_getD (d := [])
  · simp only [List.length_map]; omega
  · intro j hj
    have hj' : j < (e.rows.getD s []).length := by simpa using hj
    have h3 := (stable_same hst hs ht (i := j) (by omega) h).1
    unfold cellAt at h3
    have g : ∀ r : List Cell, j < r.length → (r.map Cell.word).getD j [] = (r.getD j dc).word := fun r hr => by
      simp only [List.getD_eq_getElem?_getD, List.getElem?_map]
      rw [List.getElem?_eq_getElem hr]
      rfl
    rw [g _ hj', g _ (by omega)]
    exact h3
theorem mrows_words {cl : List Int} (hv : checkE e = 0) (hst : Stable e cl) : ∀ s, s ≤ e.rows.length → putRows [] (mrowsAt e cl s) = putRows [] (e.rows.take s)
  | 0, _ => by simp
  | s + 1, hs => by
    have ih := mrows_words hv hst s (by omega)
    have hl := hst.len
    have hcnt := mrows_cnt (e := e) hst.rg s (by omega)
    rw [mrowsAt_succ, putRows_succ (show s < e.rows.length by omega)]
    unfold mstep
    split
    · rename_i hlt
      rw [ih]
      rw [hcnt] at hlt
      have hmem := cntGo_occ _ _ (RG_take hst.rg s) _ (RG_at hst.rg (show s < cl.length by omega)).1 hlt
      obtain ⟨t, ht, hte⟩ := List.mem_iff_getElem.1 hmem
      have ht' : t < s := by simp at ht; omega
      have hte' : cl.getD s 0 = cl.getD t 0 := by
        rw [← hte]
        simp [List.getD, show t < cl.length by omega]
      have hw := words_same hv hst (show s < e.rows.length by omega) (show t < e.rows.length by omega) hte'
      symm
      refine putWords_known _ _ fun a ha => ?_
      rw [hw] at ha
      refine putRows_get _ _ _ (.inr ⟨e.rows.getD t [], ?_, ha⟩)
      have : e.rows.getD t [] = (e.rows.take s)[t]'(by simp; omega) := by simp [List.getD, show t < e.rows.length by omega]
      rw [this]
      exact List.getElem_mem _
    · have : putRows [] (mrowsAt e cl s ++ [mrow e cl s]) = putWords (putRows [] (mrowsAt e cl s)) (mrow e cl s) := by simp [putRows]
      rw [this, ih]
      exact putWords_map _ _
theorem merge_words (hv : checkE e = 0) : putRows [] (mergeE e).rows = putRows [] e.rows := by
  rw [mergeE_rows, mrows_words hv (classes_stable (checkE_valid hv).2.1) _ (Nat.le_refl _), List.take_length]

theorem alPut_len (m : List (List UInt8 × Bool)) (k : List UInt8) (b : Bool) : (alPut m k b).length ≤ m.length + 1 := by
  induction m with
  | nil => simp [alPut]
  | cons p m ih =>
    obtain ⟨a, v⟩ := p
    simp only [alPut]
    split <;> simp only [List.length_cons] <;> omega
theorem putWords_len : ∀ (l : List Cell) (m : List (List UInt8 × Bool)), (putWords m l).length ≤ m.length + l.length
  | [], m => Nat.le_refl _
  | c :: r, m => by
    have h1 := alPut_len m c.word true
    have h2 := putWords_len r (alPut m c.word true)
    simp only [putWords, List.foldl_cons, List.length_cons] at h2 ⊢
    omega
theorem putRows_len {n : Nat} : ∀ (l : List (List Cell)) (m : List (List UInt8 × Bool)), (∀ r ∈ l, r.length = n) → (putRows m l).length ≤ m.length + l.length * n
  | [], m, _ => by simp [putRows]
  | c :: r, m, h => by
    have h1 := putWords_len c m
    have h2 := putRows_len r (putWords m c) fun x hx => h x (List.mem_cons_of_mem _ hx)
    have h3 := h c List.mem_cons_self
    simp only [putRows, List.foldl_cons, List.length_cons] at h2 ⊢
    rw [Nat.add_mul]
    omega
theorem words_le (hv : checkE e = 0) : ((putRows [] e.rows).length : Int) ≤ (e.rows.length : Int) * e.inputs := by
  obtain ⟨hd, hp, hl, hr⟩ := checkE_valid hv
  have h1 := putRows_len (n := e.inputs.toNat) e.rows [] fun r hr' => by have := (rowCheck_valid (hr r hr')).1; omega
  have h2 : e.inputs = ((e.inputs.toNat : Nat) : Int) := by have := hd.inputs; omega
  rw [h2]
  simp only [List.length_nil, Nat.zero_add] at h1
  exact_mod_cast h1
end
end Go.Proofs.Ytmjkbidnghcfnaa
