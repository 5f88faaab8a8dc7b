/- Parts of the proof: WD WE. -/
import Derived.Test.YtchjjiedcpfniaaGreatDoorK16
import Derived.Test.YtchjjiedcpfniaaGreatDoorK19
import Derived.Test.YtchjjiedcpfniaaGreatDoorK20
namespace Go.Proofs.YtchjjiedcpfniaaGreatDoor
set_option linter.unusedSimpArgs false
set_option linter.unusedVariables false
open Go Go.Lift Go.Proofs
section
variable {g : Gr} {v : List Int} {m : Int} {x : Spl}
end
def bigS (x : Spl) : Bool := decide (6 < x.parts.length) || x.parts.any fun p => decide (16 < p.length)
def greatR (l : List Spl) : Bool := l.any bigS || decide (8 < l.length)
theorem list_ext {α : Type} {d : α} {a b : List α} (hl : a.length = b.length) (h : ∀ j, j < a.length → a.getD j d = b.getD j d) : a = b := by
  refine List.ext_getElem hl fun j h1 h2 => ?_
  have := h j h1
  simpa [List.getD, h1, h2] using this
set_option maxRecDepth 100000 in
theorem greatR_c (l : List Spl) (hl : l.length ≤ maxLen) (hp : ∀ x ∈ l, x.parts.length ≤ maxLen) : PC Tryz.prog 20 [spls l] (.bool (greatR l)) := by
 have hML : maxLen = 9223372036854775807 := by decide
 refine zp Tryz.func20 fun G hG hR => ?_
 refine zs (zrP ?_)
 refine zs (zs (zrP ?_))
 refine zb ?_
 refine awpS_loop (α := Nat) (fun i => ⟨[(0, spls l), (3, .int .i64 i)], [], 0⟩) (fun i => i ≤ l.length ∧ ∀ j, j < i → bigS (l.getD j ds) = false) (fun i => l.length - i) (0) (⟨Nat.zero_le _, fun j hj => absurd hj (Nat.not_lt_zero _)⟩) ?_ ?_
 · exact ziP
 rintro i ⟨hi, hn⟩
 refine zs (zs (zrP ?_))
 refine zy (fun hb8 => ?_) fun hb8 => ?_
 · have hxm := hp _ (getD_mem (d := ds) (show i < l.length by omega))
   refine zk (zs (zb (zs (zs (zrP ?_)))))
   refine zy (fun hb17 => ?_) fun hb17 => ?_
   · refine zs (zrP ?_)
     refine zt (zbt (ztt (zbt ?_)))
     refine RetOK_of ?_
     simp [hG, List.getD_cons_zero, List.getD_cons_succ, -List.getD_eq_getElem?_getD, pureOp]
     unfold greatR; rw [any_hit (f := bigS) (d := ds) (i := i) (by omega) (by unfold bigS; rw [decide_eq_true (by omega)]; rfl)]; rfl
   refine zk (zs (zrP ?_))
   refine zb ?_
   refine awpS_loop (α := Nat) (fun k => ⟨[(0, spls l), (3, .int .i64 i), (4, .int .i64 k)], [], 0⟩) (fun k => k ≤ (l.getD i ds).parts.length ∧ ∀ j, j < k → decide (16 < ((l.getD i ds).parts.getD j []).length) = false) (fun k => (l.getD i ds).parts.length - k) (0) (⟨Nat.zero_le _, fun j hj => absurd hj (Nat.not_lt_zero _)⟩) ?_ ?_
   · exact ziP
   rintro k ⟨hk, hn2⟩
   refine zs (zs (zrP ?_))
   refine zy (fun hb25 => ?_) fun hb25 => ?_
   · refine zk (zs (zb (zs (zrP ?_))))
     refine zy (fun hb37 => ?_) fun hb37 => ?_
     · refine zs (zrP ?_)
       refine zt (zbt (ztt (zbt (zbt (ztt (zbt ?_))))))
       refine RetOK_of ?_
       simp [hG, List.getD_cons_zero, List.getD_cons_succ, -List.getD_eq_getElem?_getD, pureOp]
       unfold greatR; rw [any_hit (f := bigS) (d := ds) (i := i) (by omega) (by unfold bigS; rw [any_hit (d := ([] : List Int)) (i := k) (by omega) (decide_eq_true (by omega)), Bool.or_true])]; rfl
     refine zk (zn (zbn (zrP ?_)))
     refine zn ?_
     refine round_end (k + 1) (⟨by omega, step_all hn2 (decide_eq_false (by omega))⟩) (by omega) ?_
     exact ziP
   refine zx (ztx (zbx (zn (zbn (zrP ?_)))))
   refine zn ?_
   refine round_end (i + 1) (⟨by omega, step_all hn (by unfold bigS; rw [decide_eq_false (by omega), any_miss (d := ([] : List Int)) (fun j hj => hn2 j (by omega))]; rfl)⟩) (by omega) ?_
   exact ziP
 refine zx (ztx (zbx (zs (zrP ?_))))
 refine zt ?_
 refine RetOK_of ?_
 simp [hG, List.getD_cons_zero, List.getD_cons_succ, -List.getD_eq_getElem?_getD, pureOp]
 unfold greatR; rw [any_miss (f := bigS) (d := ds) (fun j hj => hn j (by omega)), Bool.false_or]; congr 1; simp only [eq_iff_iff]; omega
end Go.Proofs.YtchjjiedcpfniaaGreatDoor
namespace Go.Proofs.YtchjjiedcpfniaaGreatDoor
set_option linter.unusedSimpArgs false
set_option linter.unusedVariables false
open Go Go.Lift Go.Proofs
def SortedI (l : List Int) : Prop := ∀ i, i + 1 < l.length → l.getD i 0 ≤ l.getD (i + 1) 0
open Classical in
noncomputable def sortedB (l : List Int) : Bool := decide (SortedI l)
theorem sorted_next {l : List Int} {v : Nat} (hv : 2 ≤ v) (hn : ∀ j, v ≤ j + 1 → j + 1 < l.length → l.getD j 0 ≤ l.getD (j + 1) 0) (h : l.getD (v - 2) 0 ≤ l.getD (v - 1) 0) : ∀ j, v - 1 ≤ j + 1 → j + 1 < l.length → l.getD j 0 ≤ l.getD (j + 1) 0 := fun j h1 h2 => by
  by_cases e : v ≤ j + 1
  · exact hn j e h2
  · obtain rfl : j = v - 2 := by omega
    rw [show v - 2 + 1 = v - 1 by omega]; exact h
open Classical in
theorem sorted_no {l : List Int} {v : Nat} (hv : 2 ≤ v) (hl : v ≤ l.length) (h : l.getD (v - 1) 0 < l.getD (v - 2) 0) : sortedB l = false := decide_eq_false fun hs => by
  have := hs (v - 2) (by omega)
  rw [show v - 2 + 1 = v - 1 by omega] at this
  omega
open Classical in
theorem sorted_yes {l : List Int} {v : Nat} (hv : v ≤ 1) (hn : ∀ j, v ≤ j + 1 → j + 1 < l.length → l.getD j 0 ≤ l.getD (j + 1) 0) : sortedB l = true := decide_eq_true fun i hi => hn i (by omega) hi
theorem sortAny_c (l : List Int) (hl : l.length ≤ 1000000) :
    FC1 Tryz.prog 45 [.sl (0, 0) 0 l.length] [(0, .one (.arr l.length 1 (fun i _ => .int .i64 (l.getD i 0))))] 1 .any [(0, .one (.arr l.length 1 (fun i _ => .int .i64 ((srtI l).getD i 0))))] 1 := by
  rcases Nat.eq_zero_or_pos l.length with h | h
  · obtain rfl := List.length_eq_zero_iff.1 h
    have e : srtI [] = [] := List.length_eq_zero_iff.1 (by rw [srtI_len]; rfl)
    rw [e]
    exact sortI0_c
  · exact sortI_pos l h hl
def flA (L : List (List Int)) (i : Nat) : List Int := (L.take i).flatten
theorem flA_zero {L : List (List Int)} : flA L 0 = [] := rfl
theorem flA_succ {L : List (List Int)} {i : Nat} (h : i < L.length) : flA L (i + 1) = flA L i ++ L.getD i [] := by
  unfold flA
  rw [List.take_add_one, List.getElem?_eq_getElem h, List.flatten_append]
  simp [List.getD, h]
theorem flA_all {L : List (List Int)} : flA L L.length = L.flatten := by unfold flA; rw [List.take_length]
theorem flA_len {L : List (List Int)} (h : ∀ p ∈ L, p.length ≤ 1024) : ∀ i, i ≤ L.length → (flA L i).length ≤ i * 1024
  | 0, _ => Nat.le_refl _
  | i + 1, hi => by
    have h1 := flA_len h i (by omega)
    have h2 := h _ (getD_mem (d := []) (show i < L.length by omega))
    rw [flA_succ (by omega), List.length_append]
    omega
theorem app_list {K P : List Int} {q : Nat} (hq : q < K.length + P.length) : app (fun p _ => AVal.int .i64 (K.getD p 0)) K.length (fun i _ => AVal.int .i64 (P.getD i 0)) q 0 = .int .i64 ((K ++ P).getD q 0) := by
  unfold app
  by_cases h : q < K.length
  · rw [if_pos h]; simp [List.getD, List.getElem?_append_left h]
  · rw [if_neg h]; simp [List.getD, List.getElem?_append_right (Nat.le_of_not_lt h)]
noncomputable def divB (L : List (List Int)) (l : List Int) : Bool := (L.all fun p => !decide (p = []) && sortedB p) && (decide (1 < L.length) && decide (srtI L.flatten = l))
theorem div_no {L : List (List Int)} {l : List Int} {i : Nat} (hi : i < L.length) (h : L.getD i [] = [] ∨ sortedB (L.getD i []) = false) : divB L l = false := by
  unfold divB
  rw [Bool.and_eq_false_iff]
  refine .inl (List.all_eq_false.2 ⟨L.getD i [], getD_mem hi, ?_⟩)
  rcases h with h | h
  · rw [h]; simp
  · rw [h]; simp
theorem div_at {L : List (List Int)} {l : List Int} (h : ∀ j, j < L.length → L.getD j [] ≠ [] ∧ sortedB (L.getD j []) = true) : divB L l = (decide (1 < L.length) && decide (srtI L.flatten = l)) := by
  unfold divB
  rw [List.all_eq_true.2, Bool.true_and]
  intro p hp
  obtain ⟨j, hj, rfl⟩ := List.mem_iff_getElem.1 hp
  have := h j hj
  simp only [List.getD, List.getElem?_eq_getElem hj, Option.getD_some] at this
  simp [this]
set_option maxRecDepth 100000 in
theorem less_c (x y : Int) : PC Tryz.prog 97 [.int .i64 x, .int .i64 y] (.bool (decide (x < y))) := by
 refine zp Tryz.func97 fun G hG hR => ?_
 refine zs (zr ?_)
 refine zs (zL (zl 1 ?_))
 refine zc cal127 (nanI_c x) ?_
 refine zl 2 ?_
 refine zc cal127 (nanI_c y) ?_
 refine zl 8 ?_
 refine zN (zt ?_)
 exact zR
set_option maxRecDepth 100000 in
theorem isSorted_c (l : List Int) (hl : l.length ≤ 1000000) : PC Tryz.prog 141 [ints l] (.bool (sortedB l)) := by
 refine zp Tryz.func141 fun G hG hR => ?_
 refine zs (zr ?_)
 refine zs (zs (zr ?_))
 refine zb ?_
 refine awpS_loop (α := Nat) (fun v => ⟨[(0, ints l), (3, .int .i64 ((v : Int) - 1))], [], 0⟩) (fun v => v ≤ l.length ∧ ∀ j, v ≤ j + 1 → j + 1 < l.length → l.getD j 0 ≤ l.getD (j + 1) 0) (fun v => v) (l.length) (⟨Nat.le_refl _, fun j h1 h2 => absurd h2 (by omega)⟩) ?_ ?_
 · exact zi
 rintro v ⟨hv, hn⟩
 refine zs (zs (zr ?_))
 refine zy (fun hb8 => ?_) fun hb8 => ?_
 · refine zk (zs (zb (zs ?_)))
   refine awpS_draw hR mixed [] ⟨[], [], []⟩ fun mu0 => ?_
   refine za [0, 1, 2, 3, 4, 5, 6, 7, 8] [] 1 [8, 7, 6, 5, 4, 3, 2, 1, 0] ?_
   refine awpA_only (fuel := 0) (i := 9) (by decide +kernel) ?_
   refine ze cal97 (less_c (l.getD (v - 1) 0) (l.getD (v - 2) 0)) ?_ (b := fun hg => by simp [hG, List.getD_cons_zero, List.getD_cons_succ, -List.getD_eq_getElem?_getD]; rw [Nat.sub_sub])
   refine awpA_done (by decide +kernel) ?_
   refine zy (fun hb20 => ?_) fun hb20 => ?_
   · refine zs (zr ?_)
     refine zt (zbt (ztt (zbt ?_)))
     refine RetOK_of ?_
     simp [hG, List.getD_cons_zero, List.getD_cons_succ, -List.getD_eq_getElem?_getD]
     exact sorted_no (by omega) hv hb20
   refine zk (zn (zbn (zr ?_)))
   refine zn ?_
   refine round_end ((v - 1)) (⟨by omega, sorted_next (by omega) hn hb20⟩) (by omega) ?_
   exact zi (e := by simp [hG, List.getD_cons_zero, List.getD_cons_succ, -List.getD_eq_getElem?_getD]; omega)
 refine zx (ztx (zbx (zs (zr ?_))))
 refine zt ?_
 refine RetOK_of ?_
 simp [hG, List.getD_cons_zero, List.getD_cons_succ, -List.getD_eq_getElem?_getD]
 exact sorted_yes (by omega) hn
set_option maxRecDepth 100000 in
theorem divC_c (L : List (List Int)) (l : List Int) (hn : L.length ≤ 900) (hp : ∀ p ∈ L, p.length ≤ 1024) : PC Tryz.prog 117 [rowsI L, ints l] (.bool (divB L l)) := by
 refine zp Tryz.func117 fun G hG hR => ?_
 refine zs (zrP ?_)
 refine zs (zrP ?_)
 refine zs (zs (zrP ?_))
 refine zb ?_
 refine awpS_loop (α := Nat) (fun i => ⟨[(0, rowsI L), (1, ints l), (5, .sl (0, 0) 0 (flA L i).length), (8, rowsI L), (9, .int .i64 L.length), (10, .int .i64 i)], [(0, .one (.arr (flA L i).length 1 (fun p _ => .int .i64 ((flA L i).getD p 0))))], 1⟩) (fun i => i ≤ L.length ∧ ∀ j, j < i → L.getD j [] ≠ [] ∧ sortedB (L.getD j []) = true) (fun i => L.length - i) (0) (⟨Nat.zero_le _, fun j hj => absurd hj (Nat.not_lt_zero _)⟩) ?_ ?_
 · exact zw (id) (fun _ => false) (fun k => k == 0) (e := by rw [flA_zero]; simp [hG, List.getD_cons_zero, List.getD_cons_succ, -List.getD_eq_getElem?_getD]) (h := by rw [flA_zero]; simp [hG, List.getD_cons_zero, List.getD_cons_succ, -List.getD_eq_getElem?_getD])
 rintro i ⟨hi, hn2⟩
 refine zs (zrP ?_)
 refine zs (zy (fun hb11 => ?_) fun hb11 => ?_)
 · have hil : i < L.length := (by omega)
   have hpl := hp _ (getD_mem (d := ([] : List Int)) hil)
   have hfs := flA_succ hil
   have hfl := flA_len hp i (by omega)
   refine zk (zs (zb (zs (zrP ?_))))
   refine zs (zs (zL (zlP 5 ?_)))
   refine zcP cal141 (isSorted_c (L.getD i []) (by omega)) ?_
   refine zlP 2 ?_
   refine zN (zy (fun hb21 => ?_) fun hb21 => ?_)
   · refine zs (zrP ?_)
     refine zt (zbt (ztt (zbt ?_)))
     refine RetOK_of ?_
     simp [hG, List.getD_cons_zero, List.getD_cons_succ, -List.getD_eq_getElem?_getD, pureOp]
     exact div_no (by omega) hb21
   refine zk (zrP ?_)
   refine zn (zbn (zrP ?_))
   refine zn ?_
   refine round_end (i + 1) (⟨by omega, step_all hn2 hb21⟩) (by omega) ?_
   exact zw (fun k => if k = 0 then 1 else k) (fun _ => false) (fun _ => false) (e := by rw [hfs]; simp [hG, List.getD_cons_zero, List.getD_cons_succ, -List.getD_eq_getElem?_getD]) (h := by rw [hfs]; simp [hG, List.getD_cons_zero, List.getD_cons_succ, -List.getD_eq_getElem?_getD]; exact fun q hq => app_list hq)
 obtain rfl : i = L.length := (by omega)
 have hfl := flA_len hp L.length (Nat.le_refl _)
 have hfa := flA_all (L := L)
 refine zx (ztx (zbx (zs (zL (zlP 1 ?_)))))
 refine zfP cal45 [0] (sortAny_c (flA L L.length) (by omega)) (fun x hI hno => ?_)
 refine zN (zs (zL (zlP 6 ?_)))
 refine awpL_callB (mem [0]) cal142 (by simp [flat]) rfl rfl (fun _ => rfl) (fun hg => equalI_c (srtI L.flatten) l (by rw [srtI_len, ← flA_all]; omega)) (fun hg => ?_) (fun hg => ?_) fun K hK => ?_
 · first | (simp [hG, List.getD_cons_zero, List.getD_cons_succ, -List.getD_eq_getElem?_getD, pureOp]; done) | (simp [-List.getD_eq_getElem?_getD] at hg; done) | (simp [-List.getD_eq_getElem?_getD] at hg; simp [hG, List.getD_cons_zero, List.getD_cons_succ, -List.getD_eq_getElem?_getD, pureOp]; first | omega | exact hg | (simp_all [-List.getD_eq_getElem?_getD]; done) | (simp_all [-List.getD_eq_getElem?_getD]; first | exact ⟨rfl, rfl⟩ | exact rfl))
 · simp [hG, List.getD_cons_zero, List.getD_cons_succ, -List.getD_eq_getElem?_getD]; exact ⟨by rw [srtI_len, ← flA_all], by rw [srtI_len, ← flA_all]; exact Nat.le_refl _, fun q hq => by rw [flA_all]⟩
 simp [hG, List.getD_cons_zero, List.getD_cons_succ, -List.getD_eq_getElem?_getD, pureOp]
 refine hK _ ?_
 clear K hK
 refine zlP 2 ?_
 refine zN (zt ?_)
 refine RetOK_of ?_
 simp [hG, List.getD_cons_zero, List.getD_cons_succ, -List.getD_eq_getElem?_getD, pureOp]
 rw [div_at (fun j hj => hn2 j (by omega))]; congr 1; simp only [decide_eq_decide]; omega
end Go.Proofs.YtchjjiedcpfniaaGreatDoor
