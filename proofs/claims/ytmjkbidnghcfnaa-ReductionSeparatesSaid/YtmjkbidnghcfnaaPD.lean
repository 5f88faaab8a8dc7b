/-
  Plain laws of this seat: numbering step by step; the greatest class; cells in range.
-/
import Derived.Test.YtmjkbidnghcfnaaPC
namespace Go.Proofs.Ytmjkbidnghcfnaa
set_option linter.unusedSimpArgs false
set_option linter.unusedVariables false
open Go Go.Lift

section
variable {K : Type} [DecidableEq K]
/-- the keys seen behind a list of keys. -/
def numMap (m : List (K × Int)) : List K → List (K × Int)
  | [] => m
  | k :: r => match alGet m k with
    | some _ => numMap m r
    | none => numMap (m ++ [(k, (m.length : Int))]) r
theorem numMap_app : ∀ (a b : List K) (m : List (K × Int)), numMap m (a ++ b) = numMap (numMap m a) b
  | [], _, _ => rfl
  | k :: r, b, m => by
    simp only [List.cons_append, numMap]
    split <;> exact numMap_app r b _
theorem numMap_one {m : List (K × Int)} {k : K} : numMap m [k] = if (alGet m k).isSome then m else alPut m k m.length := by
  simp only [numMap]
  cases h : alGet m k with
  | some v => simp
  | none => simp [alPut_new h]
theorem numMap_succ {ks : List K} {d : K} {s : Nat} (h : s < ks.length) : numMap [] (ks.take (s + 1)) = if (alGet (numMap [] (ks.take s)) (ks.getD s d)).isSome then numMap [] (ks.take s) else alPut (numMap [] (ks.take s)) (ks.getD s d) (numMap [] (ks.take s)).length := by
  rw [List.take_add_one, numMap_app]
  have : ks[s]?.toList = [ks.getD s d] := by simp [List.getD, List.getElem?_eq_getElem h]
  rw [this, numMap_one]
theorem numGo_at : ∀ (ks : List K) (m : List (K × Int)) (s : Nat) (d : K), s < ks.length → (numGo m ks).getD s 0 = match alGet (numMap m (ks.take s)) (ks.getD s d) with
    | some v => v
    | none => ((numMap m (ks.take s)).length : Int)
  | [], _, _, _, h => absurd h (Nat.not_lt_zero _)
  | k :: r, m, 0, d, _ => by
    simp only [numGo, List.take_zero, numMap, List.getD_cons_zero]
    cases h : alGet m k <;> simp
  | k :: r, m, s + 1, d, h => by
    simp only [numGo, List.take_succ_cons, numMap, List.getD_cons_succ]
    cases hk : alGet m k with
    | some v =>
      simp only [List.getD_cons_succ]
      exact numGo_at r m s d (by simpa using h)
    | none =>
      simp only [List.getD_cons_succ]
      exact numGo_at r _ s d (by simpa using h)
theorem numL_seen {ks : List K} {s : Nat} {d : K} (h : s < ks.length) (hs : (alGet (numMap [] (ks.take s)) (ks.getD s d)).isSome = true) : (numL ks).getD s 0 = (alGet (numMap [] (ks.take s)) (ks.getD s d)).getD 0 := by
  unfold numL
  rw [numGo_at ks [] s d h]
  cases hk : alGet (numMap [] (ks.take s)) (ks.getD s d) with
  | none => rw [hk] at hs; cases hs
  | some v => rfl
theorem numL_new {ks : List K} {s : Nat} {d : K} (h : s < ks.length) (hs : (alGet (numMap [] (ks.take s)) (ks.getD s d)).isSome = false) : (numL ks).getD s 0 = (numMap [] (ks.take s)).length := by
  unfold numL
  rw [numGo_at ks [] s d h]
  cases hk : alGet (numMap [] (ks.take s)) (ks.getD s d) with
  | none => rfl
  | some v => rw [hk] at hs; cases hs
theorem numMap_len : ∀ (ks : List K) (m : List (K × Int)), (numMap m ks).length ≤ m.length + ks.length
  | [], m => Nat.le_refl _
  | k :: r, m => by
    simp only [numMap, List.length_cons]
    split
    · have := numMap_len r m; omega
    · have := numMap_len r (m ++ [(k, (m.length : Int))]); simp at this; omega
end

theorem cntGo_max : ∀ (l : List Int) (c x : Int), RG c l → x = c - 1 → (l.foldl max x) + 1 = cntGo c l
  | [], c, x, _, hx => by simp [cntGo]; omega
  | y :: r, c, x, h, hx => by
    obtain ⟨h1, h2, h3⟩ := h
    simp only [List.foldl_cons, cntGo]
    by_cases hy : y = c
    · rw [if_pos hy] at h3 ⊢
      exact cntGo_max r _ _ h3 (by omega)
    · rw [if_neg hy] at h3 ⊢
      exact cntGo_max r _ _ h3 (by omega)
theorem maxL_cnt {l : List Int} (h : RG 0 l) (h0 : 0 < l.length) : maxL (l ++ [-1]) + 1 = cnt l := by
  cases l with
  | nil => simp at h0
  | cons x r =>
    obtain ⟨h1, h2, h3⟩ := h
    have hx : x = 0 := by omega
    subst hx
    simp only [List.cons_append, maxL, List.foldl_append, List.foldl_cons, List.foldl_nil]
    have h4 := cntGo_max r 1 0 (by simpa using h3) rfl
    have h5 := cntGo_ge r 1
    have : cnt (0 :: r) = cntGo 1 r := by simp [cnt, cntGo]
    rw [this]
    omega
theorem zeros_at {e : Enc} {i : Nat} : (classesAt e 0).getD i 0 = 0 := by
  simp only [classesAt, iter, zerosE, List.getD_eq_getElem?_getD, List.getElem?_replicate]
  split <;> rfl
theorem cell_to {e : Enc} (h : checkE e = 0) {s i : Nat} (hs : s < e.rows.length) (hi : i < (e.rows.getD s []).length) : 0 ≤ (cellAt e s i).to ∧ (cellAt e s i).to < (e.rows.length : Int) := by
  have h1 := (rowCheck_valid ((checkE_valid h).2.2.2 _ (getD_mem (d := []) hs))).2 _ (getD_mem (d := dc) hi)
  unfold cellCheck at h1
  unfold cellAt
  split at h1
  · cases h1
  · omega
theorem row_i {e : Enc} (h : checkE e = 0) {s : Nat} (hs : s < e.rows.length) {i : Nat} (hi : (i : Int) < e.inputs) : i < (e.rows.getD s []).length := by
  have := row_eq h hs; omega
/-- the classes behind the first inputs of a round. -/
def partE (e : Enc) (cl : List Int) (i : Nat) : List Int := (List.range i).foldl (stepE e cl) cl
theorem partE_succ {e : Enc} {cl : List Int} {i : Nat} : partE e cl (i + 1) = stepE e cl (partE e cl i) i := by simp [partE, List.range_succ]
theorem partE_ok {e : Enc} {cl : List Int} {i : Nat} (h : cl.length = e.rows.length) (hr : RG 0 cl) : (partE e cl i).length = e.rows.length ∧ RG 0 (partE e cl i) := by
  have := fold_step (e := e) (cl := cl) (List.range i) cl h hr
  exact ⟨this.1, this.2.1⟩
theorem partE_all {e : Enc} {cl : List Int} {i : Nat} (h : i = e.inputs.toNat) : partE e cl i = roundE e cl := by rw [h]; rfl
theorem keysE_at {e : Enc} {cl nx : List Int} {i s : Nat} {d : Finer} (h : s < e.rows.length) : (keysE e cl i nx).getD s d = ⟨nx.getD s 0, (cellAt e s i).word, cl.getD (cellAt e s i).to.toNat 0⟩ := by
  simp [keysE, List.getD, h]
theorem key_new {e : Enc} {cl nx : List Int} {i s : Nat} (hs : s < e.rows.length) (h : alGet (numMap [] ((keysE e cl i nx).take s)) ⟨nx.getD s 0, ((e.rows.getD s []).getD i dc).word, cl.getD ((e.rows.getD s []).getD i dc).to.toNat 0⟩ = none) :
    numMap [] ((keysE e cl i nx).take (s + 1)) = alPut (numMap [] ((keysE e cl i nx).take s)) ⟨nx.getD s 0, ((e.rows.getD s []).getD i dc).word, cl.getD ((e.rows.getD s []).getD i dc).to.toNat 0⟩ (numMap [] ((keysE e cl i nx).take s)).length ∧ (stepE e cl nx i).getD s 0 = (numMap [] ((keysE e cl i nx).take s)).length := by
  have hk : s < (keysE e cl i nx).length := by simpa using hs
  have hg : alGet (numMap [] ((keysE e cl i nx).take s)) ((keysE e cl i nx).getD s default) = none := by rw [keysE_at hs]; exact h
  refine ⟨?_, numL_new hk (d := default) (by rw [hg]; rfl)⟩
  rw [numMap_succ hk (d := default), hg, if_neg (by simp), keysE_at hs]
  rfl
theorem key_seen {e : Enc} {cl nx : List Int} {i s : Nat} (hs : s < e.rows.length) (h : (alGet (numMap [] ((keysE e cl i nx).take s)) ⟨nx.getD s 0, ((e.rows.getD s []).getD i dc).word, cl.getD ((e.rows.getD s []).getD i dc).to.toNat 0⟩).isSome = true) :
    numMap [] ((keysE e cl i nx).take (s + 1)) = numMap [] ((keysE e cl i nx).take s) ∧ (stepE e cl nx i).getD s 0 = (alGet (numMap [] ((keysE e cl i nx).take s)) ⟨nx.getD s 0, ((e.rows.getD s []).getD i dc).word, cl.getD ((e.rows.getD s []).getD i dc).to.toNat 0⟩).getD 0 := by
  have hk : s < (keysE e cl i nx).length := by simpa using hs
  have hg : (alGet (numMap [] ((keysE e cl i nx).take s)) ((keysE e cl i nx).getD s default)).isSome = true := by rw [keysE_at hs]; exact h
  refine ⟨by rw [numMap_succ hk (d := default), if_pos hg], ?_⟩
  have h2 := numL_seen hk (d := default) hg
  rw [keysE_at hs] at h2
  exact h2
theorem upd_eq {s j : Nat} {A : Int} {X Y : List Int} (hA : X.getD s 0 = A) : (if j = s then AVal.int .i64 A else .int .i64 (if j < s then X.getD j 0 else Y.getD j 0)) = .int .i64 (if j < s + 1 then X.getD j 0 else Y.getD j 0) := by
  by_cases h : j = s
  · subst h; rw [if_pos rfl, if_pos (Nat.lt_succ_self _), hA]
  · rw [if_neg h]
    by_cases h2 : j < s
    · rw [if_pos h2, if_pos (by omega)]
    · rw [if_neg h2, if_neg (by omega)]
theorem getD_app {α : Type} {l m : List α} {i : Nat} {d : α} : (l ++ m).getD i d = if i < l.length then l.getD i d else m.getD (i - l.length) d := by
  by_cases h : i < l.length
  · simp [h, List.getD_eq_getElem?_getD, List.getElem?_append_left]
  · simp [h, List.getD_eq_getElem?_getD, List.getElem?_append_right (Nat.le_of_not_lt h)]
theorem app_one {l : List Int} {v : Int} {g : Nat → Nat → AVal} {i : Nat} (h : i < l.length + 1) : app (fun i _ => .int .i64 (l.getD i 0)) l.length (fun i j => if i = 0 ∧ j = 0 then .int .i64 v else g i j) i 0 = .int .i64 ((l ++ [v]).getD i 0) := by
  rw [getD_app]
  unfold app
  by_cases h2 : i < l.length
  · rw [if_pos h2, if_pos h2]
  · have : i - l.length = 0 := by omega
    rw [if_neg h2, if_neg h2, this]
    rfl

theorem classesE_ok {e : Enc} (h : checkE e = 0) : (classesE e).length = e.rows.length ∧ RG 0 (classesE e) := classesAt_ok e _
/-- what Partition returns. -/
def partR (e : Enc) : AVal := if checkE e = 0 then .tup 2 (fun j => match j with
    | 0 => ints (classesE e)
    | _ => .int .i64 0) else .tup 2 (fun j => match j with
    | 0 => .nils
    | _ => .int .i64 1)
def mcell (cl : List Int) (c : Cell) : Cell := { c with to := cl.getD c.to.toNat 0 }
def mrow (e : Enc) (cl : List Int) (s : Nat) : List Cell := (e.rows.getD s []).map (mcell cl)
def mstep (e : Enc) (cl : List Int) (R : List (List Cell)) (s : Nat) : List (List Cell) := if cl.getD s 0 < (R.length : Int) then R else R ++ [mrow e cl s]
def mrowsAt (e : Enc) (cl : List Int) (s : Nat) : List (List Cell) := (List.range s).foldl (mstep e cl) []
theorem mrowsAt_succ {e : Enc} {cl : List Int} {s : Nat} : mrowsAt e cl (s + 1) = mstep e cl (mrowsAt e cl s) s := by simp [mrowsAt, List.range_succ]
theorem mrowsAt_len (e : Enc) (cl : List Int) : ∀ s, (mrowsAt e cl s).length ≤ s
  | 0 => Nat.le_refl _
  | s + 1 => by
    have := mrowsAt_len e cl s
    rw [mrowsAt_succ]
    unfold mstep
    split
    · omega
    · simp; omega
def mergeE (e : Enc) : Enc := { e with rows := mrowsAt e (classesE e) e.rows.length }
/-- what Merge returns. -/
def mergeR (e : Enc) : AVal := if checkE e = 0 then .tup 3 (fun j => match j with
    | 0 => .agg 4 (encF (mergeE e))
    | 1 => ints (classesE e)
    | _ => .int .i64 0) else .tup 3 (fun j => match j with
    | 0 => .agg 4 (fun j => match j with
      | 0 => .int .i64 0
      | 1 => .int .i64 0
      | 2 => .int .i64 0
      | _ => .nils)
    | 1 => .nils
    | _ => .int .i64 1)
@[simp] theorem mrowsAt_zero {e : Enc} {cl : List Int} : mrowsAt e cl 0 = [] := rfl
@[simp] theorem mergeE_letters {e : Enc} : (mergeE e).letters = e.letters := rfl
@[simp] theorem mergeE_block {e : Enc} : (mergeE e).block = e.block := rfl
@[simp] theorem mergeE_inputs {e : Enc} : (mergeE e).inputs = e.inputs := rfl
theorem mergeE_rows {e : Enc} : (mergeE e).rows = mrowsAt e (classesE e) e.rows.length := rfl
theorem cell_upd {cl : List Int} {row : List Cell} {i q : Nat} : (if q = i then AVal.int .i64 (cl.getD (row.getD i dc).to.toNat 0) else .int .i64 (if q < i then mcell cl (row.getD q dc) else row.getD q dc).to) = .int .i64 (if q < i + 1 then mcell cl (row.getD q dc) else row.getD q dc).to ∧
    (if q < i then mcell cl (row.getD q dc) else row.getD q dc).word = (if q < i + 1 then mcell cl (row.getD q dc) else row.getD q dc).word := by
  by_cases h : q = i
  · subst h; simp [mcell]
  · rw [if_neg h]
    by_cases h2 : q < i
    · rw [if_pos h2, if_pos (by omega)]; exact ⟨rfl, rfl⟩
    · rw [if_neg h2, if_neg (by omega)]; exact ⟨rfl, rfl⟩
theorem mrow_len {e : Enc} {cl : List Int} {s : Nat} : (mrow e cl s).length = (e.rows.getD s []).length := by simp [mrow]
theorem mrow_at {e : Enc} {cl : List Int} {s q : Nat} (h : q < (e.rows.getD s []).length) : (mrow e cl s).getD q dc = mcell cl ((e.rows.getD s []).getD q dc) := by
  simp only [mrow, List.getD_eq_getElem?_getD, List.getElem?_map] at h ⊢
  rw [List.getElem?_eq_getElem h]
  rfl
theorem mrow_done {e : Enc} {cl : List Int} {s i : Nat} (h : (e.rows.getD s []).length ≤ i) : (e.rows.getD s []).length = (mrow e cl s).length ∧ (mrow e cl s).length ≤ (e.rows.getD s []).length ∧ ∀ q, q < (mrow e cl s).length →
    (if q < i then mcell cl ((e.rows.getD s []).getD q dc) else (e.rows.getD s []).getD q dc).to = ((mrow e cl s).getD q dc).to ∧ (if q < i then mcell cl ((e.rows.getD s []).getD q dc) else (e.rows.getD s []).getD q dc).word = ((mrow e cl s).getD q dc).word := by
  refine ⟨mrow_len.symm, Nat.le_of_eq mrow_len, fun q hq => ?_⟩
  rw [mrow_len] at hq
  rw [mrow_at hq, if_pos (by omega)]
  exact ⟨rfl, rfl⟩
end Go.Proofs.Ytmjkbidnghcfnaa
