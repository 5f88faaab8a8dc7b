/-
  Plain: cells in order.
-/
import Derived.Sort.Walk0
import Derived.Test.YtmjkbidnghcfnaaPN
namespace Go.Proofs.Ytmjkbidnghcfnaa
set_option linter.unusedVariables false
open Go Go.Lift

/-- one word before another. -/
theorem less_irrefl (a : List UInt8) : Op.bytesLess a a = false := by
  rw [Go.Proofs.bytesLess_eq, decide_eq_false_iff_not]
  exact List.lt_irrefl a
theorem less_trans {a b c : List UInt8} (h1 : Op.bytesLess a b = true) (h2 : Op.bytesLess b c = true) : Op.bytesLess a c = true := by
  rw [Go.Proofs.bytesLess_eq, decide_eq_true_eq] at *
  exact List.lt_trans h1 h2
theorem less_total {a b : List UInt8} (h1 : Op.bytesLess a b = false) (h2 : Op.bytesLess b a = false) : a = b := by
  rw [Go.Proofs.bytesLess_eq, decide_eq_false_iff_not] at *
  exact List.le_antisymm (List.not_lt.1 h2) (List.not_lt.1 h1)

def ltC (x y : Cell) : Prop := Op.bytesLess x.word y.word = true ∨ (x.word = y.word ∧ x.to < y.to)
instance (x y : Cell) : Decidable (ltC x y) := inferInstanceAs (Decidable (_ ∨ _))
theorem ltC_irrefl (x : Cell) : ¬ ltC x x := by
  rintro (h | h)
  · rw [less_irrefl] at h; cases h
  · omega
theorem ltC_trans {x y z : Cell} (h1 : ltC x y) (h2 : ltC y z) : ltC x z := by
  rcases h1 with h1 | ⟨e1, h1⟩ <;> rcases h2 with h2 | ⟨e2, h2⟩
  · exact .inl (less_trans h1 h2)
  · exact .inl (by rw [← e2]; exact h1)
  · exact .inl (by rw [e1]; exact h2)
  · exact .inr ⟨e1.trans e2, by omega⟩
theorem ltC_total {x y : Cell} (h1 : ¬ ltC x y) (h2 : ¬ ltC y x) : x = y := by
  unfold ltC at *
  have a1 : Op.bytesLess x.word y.word = false := by simpa using fun h => h1 (.inl h)
  have a2 : Op.bytesLess y.word x.word = false := by simpa using fun h => h2 (.inl h)
  have e := less_total a1 a2
  have b1 : ¬ x.to < y.to := fun h => h1 (.inr ⟨e, h⟩)
  have b2 : ¬ y.to < x.to := fun h => h2 (.inr ⟨e.symm, h⟩)
  cases x; cases y
  simp only at *
  subst e
  congr 1
  omega
theorem ltC_asymm {x y : Cell} (h : ltC x y) : ¬ ltC y x := fun h2 => ltC_irrefl _ (ltC_trans h h2)
/-- not after: an order. -/
theorem leC_trans {x y z : Cell} (h1 : ¬ ltC y x) (h2 : ¬ ltC z y) : ¬ ltC z x := fun h => by
  by_cases h3 : ltC x y
  · exact h2 (ltC_trans h h3)
  · have := ltC_total h3 h1
    subst this
    exact h2 h
abbrev Asc (l : List Cell) : Prop := l.Pairwise fun a b => ¬ ltC b a
theorem asc_eq : ∀ {x y : List Cell}, x.Perm y → Asc x → Asc y → x = y
  | [], y, h, _, _ => (List.nil_perm.1 h).symm
  | a :: x, [], h, _, _ => absurd (h.length_eq) (by simp)
  | a :: x, b :: y, h, hx, hy => by
    have hx' := List.pairwise_cons.1 hx
    have hy' := List.pairwise_cons.1 hy
    have hab : a = b := by
      have ha : a ∈ b :: y := h.subset (List.mem_cons_self ..)
      have hb : b ∈ a :: x := h.symm.subset (List.mem_cons_self ..)
      rcases List.mem_cons.1 ha with h1 | h1
      · exact h1
      · rcases List.mem_cons.1 hb with h2 | h2
        · exact h2.symm
        · exact ltC_total (hy'.1 a h1) (hx'.1 b h2)
    subst hab
    rw [asc_eq h.cons_inv hx'.2 hy'.2]
/-- a cell put in its place. -/
def insC (a : Cell) : List Cell → List Cell
  | [] => [a]
  | b :: r => if ltC b a then b :: insC a r else a :: b :: r
def srt : List Cell → List Cell
  | [] => []
  | a :: r => insC a (srt r)
theorem insC_perm (a : Cell) : ∀ l, (insC a l).Perm (a :: l)
  | [] => List.Perm.refl _
  | b :: r => by
    unfold insC
    split
    · exact ((insC_perm a r).cons b).trans (List.Perm.swap a b r)
    · exact List.Perm.refl _
theorem srt_perm : ∀ l, (srt l).Perm l
  | [] => List.Perm.refl _
  | a :: r => (insC_perm a _).trans ((srt_perm r).cons a)
theorem insC_asc (a : Cell) : ∀ l, Asc l → Asc (insC a l)
  | [], _ => List.pairwise_singleton _ _
  | b :: r, h => by
    have h' := List.pairwise_cons.1 h
    unfold insC
    split
    · rename_i h1
      refine List.pairwise_cons.2 ⟨fun c hc => ?_, insC_asc a r h'.2⟩
      rcases List.mem_cons.1 ((insC_perm a r).subset hc) with e | e
      · rw [e]; exact ltC_asymm h1
      · exact h'.1 c e
    · rename_i h1
      refine List.pairwise_cons.2 ⟨fun c hc => ?_, h⟩
      rcases List.mem_cons.1 hc with e | e
      · rw [e]; exact h1
      · exact leC_trans h1 (h'.1 c e)
theorem srt_asc : ∀ l, Asc (srt l)
  | [] => List.Pairwise.nil
  | a :: r => insC_asc a _ (srt_asc r)
theorem srt_of {x l : List Cell} (h : x.Perm l) (hs : ∀ i j, i < j → j < x.length → ¬ ltC (x.getD j dc) (x.getD i dc)) : x = srt l := by
  refine asc_eq (h.trans (srt_perm l).symm) ?_ (srt_asc l)
  refine List.pairwise_iff_getElem.2 fun i j hi hj hij => ?_
  have := hs i j hij hj
  rwa [getD_get hi, getD_get hj] at this
theorem srt_same {x y : List Cell} (h : x.Perm y) : srt x = srt y := asc_eq ((srt_perm x).trans (h.trans (srt_perm y).symm)) (srt_asc x) (srt_asc y)
@[simp] theorem srt_len {l : List Cell} : (srt l).length = l.length := (srt_perm l).length_eq
theorem srt_adj {l : List Cell} {i : Nat} (hi : i + 1 < (srt l).length) : ¬ ltC ((srt l).getD (i + 1) dc) ((srt l).getD i dc) := by
  have := List.pairwise_iff_getElem.1 (srt_asc l) i (i + 1) (by omega) hi (Nat.lt_succ_self _)
  rwa [getD_get hi, getD_get (by omega)]

/-- the encoder with its cells in order. -/
def srtE (e : Enc) : Enc := { e with rows := e.rows.map srt }
def srtX (e : Enc) : Enc := if checkE e = 0 then srtE e else ⟨0, 0, 0, []⟩
def srtN (e : Enc) : Int := if checkE e = 0 then 0 else 1
@[simp] theorem srtE_len {e : Enc} : (srtE e).rows.length = e.rows.length := List.length_map ..
theorem srtE_row {e : Enc} {s : Nat} (h : s < e.rows.length) : (srtE e).rows.getD s [] = srt (e.rows.getD s []) := by
  rw [getD_get (by rw [srtE_len]; exact h), getD_get h]
  exact List.getElem_map ..
theorem srt_valid {e : Enc} (hv : checkE e = 0) : checkE (srtE e) = 0 := by
  obtain ⟨hd, hp, hl, hr⟩ := checkE_valid hv
  rw [checkE_rows (e := srtE e) ⟨hd.letters, hd.block, hd.inputs⟩ (by rw [srtE_len]; omega) (by rw [srtE_len]; omega)]
  refine firstNZ_of fun r hr' => ?_
  obtain ⟨r0, h0, rfl⟩ := List.mem_map.1 hr'
  have h1 := rowCheck_valid (hr _ h0)
  unfold rowCheck
  rw [if_neg (by rw [srt_len]; show ¬ _ ≠ e.inputs; omega)]
  refine firstNZ_of fun c hc => ?_
  have := h1.2 c ((srt_perm r0).subset hc)
  unfold cellCheck at this ⊢
  rw [srtE_len]
  exact this
theorem enc_rows {a b : Enc} (h1 : a.letters = b.letters) (h2 : a.block = b.block) (h3 : a.inputs = b.inputs) (h4 : a.rows = b.rows) : a = b := by
  cases a; cases b; simp only at *; subst h1 h2 h3 h4; rfl
theorem srt_twice {e : Enc} : srtE (srtE e) = srtE e := enc_rows rfl rfl rfl (by
  show (e.rows.map srt).map srt = e.rows.map srt
  rw [List.map_map]
  exact List.map_congr_left fun r _ => srt_same (srt_perm r))
theorem perm_up {x : List Int} {n : Nat} (h : PermOK x n) : x.Perm (upI n) := by
  have hx : x.Nodup := by
    rw [List.nodup_iff_pairwise_ne, List.pairwise_iff_getElem]
    intro i j hi hj hij e
    have := h.inj i j (by rw [← h.len]; exact hi) (by rw [← h.len]; exact hj) (by rw [getD_get hi, getD_get hj]; exact e)
    omega
  have hnd : (upI n).Nodup := by
    unfold upI
    rw [List.nodup_iff_pairwise_ne, List.pairwise_map]
    exact List.nodup_range.imp fun {a b} hne e => hne (by omega)
  refine (List.perm_ext_iff_of_nodup hx hnd).2 fun v => ?_
  unfold upI
  rw [List.mem_map]
  constructor
  · intro hv
    obtain ⟨i, hi, rfl⟩ := List.mem_iff_getElem.1 hv
    have := h.lt i (by rw [← h.len]; exact hi)
    rw [getD_get hi] at this
    exact ⟨x[i].toNat, List.mem_range.2 (by omega), by omega⟩
  · rintro ⟨k, hk, rfl⟩
    obtain ⟨j, hj, he⟩ := h.surj k (List.mem_range.1 hk)
    rw [← he]
    exact getD_mem (by rw [h.len]; exact hj)
theorem scat_perm {x : List Int} {row : List Cell} (h : PermOK x row.length) : (scat x row dc row.length row.length).Perm row := by
  have h1 : scat x row dc row.length row.length = (invL x).map fun v => row.getD v.toNat dc := by
    apply List.ext_getElem
    · rw [scat_len, List.length_map, invL_len, h.len]
    · intro k hk1 hk2
      have hk : k < row.length := by rw [scat_len] at hk1; exact hk1
      obtain ⟨j, hj, he⟩ := h.surj k hk
      have e1 := h.scat (row := row) (d := dc) hj
      have e2 := h.inv_at hj
      rw [he, Int.toNat_natCast] at e1 e2
      rw [← getD_get (d := dc) hk1, e1, List.getElem_map, ← getD_get (d := 0), e2, Int.toNat_natCast]
  have h2 : row = (upI row.length).map fun v => row.getD v.toNat dc := by
    apply List.ext_getElem
    · simp
    · intro k hk1 hk2
      rw [List.getElem_map, ← getD_get (l := upI row.length) (d := 0), upI_at hk1, Int.toNat_natCast, getD_get hk1]
  rw [h1]
  refine List.Perm.trans ((perm_up h.inv).map _) ?_
  rw [← h2]
theorem srt_rel {e : Enc} {L : List (List Int)} (hv : checkE e = 0) (hP : Perms e L) : srtE (relE e L) = srtE e := enc_rows rfl rfl rfl (by
  show ((List.range e.rows.length).map (relCells e L)).map srt = e.rows.map srt
  rw [List.map_map]
  apply List.ext_getElem
  · simp
  · intro s hs1 hs2
    have hs : s < e.rows.length := by simpa using hs2
    simp only [List.getElem_map, List.getElem_range, Function.comp_apply]
    have hr := row_eq hv hs
    have hin := (checkE_valid hv).1.inputs
    have hp := hP.row s hs
    rw [show e.inputs.toNat = (e.rows.getD s []).length by omega] at hp
    have h1 := srt_same (scat_perm hp)
    rw [getD_get (l := e.rows) hs] at h1
    show srt (relCells e L s) = _
    unfold relCells
    rw [getD_get (l := e.rows) hs]
    exact h1)
/-- how often a cell lies in a list. -/
def countC (l : List Cell) (x : Cell) : Nat := l.count x
theorem countC_srt {l : List Cell} {x : Cell} : countC (srt l) x = countC l x := (srt_perm l).count_eq x
end Go.Proofs.Ytmjkbidnghcfnaa
