/- Parts of the proof: WG. -/
import Derived.Test.YtchjjiedcpfniaaGreatDoorU16
import Derived.Test.YtchjjiedcpfniaaGreatDoorU22
namespace Go.Proofs.YtchjjiedcpfniaaGreatDoor
set_option linter.unusedSimpArgs false
set_option linter.unusedVariables false
open Go Go.Lift Go.Proofs
@[simp] theorem luK3 {β : Type} {ev : β → AVal} {l : List (Int × β)} {k : Int} : luK T 3 (mpE intK ev l) 0 (.int .i64 k) = some ((alFind l 0 k).map fun p => (p.1, ev p.2)) := luK_intK (by simp)
@[simp high] theorem HLe_ib {h : Heap} {σ : Lift.Id → Lift.Id} {fz : Nat → Bool} {vz : Lift.Id → Bool} {nx : Nat} {l2 l : List (Int × Bool)} (e : l2 = l) : HLe h σ fz vz nx (.mp (mpE intK boolV l2)) (some (.mp (mpE intK boolV l))) = True := eq_true (HLe_mpE (ek := intK) (ev := boolV) (fun _ => trivial) (fun _ => trivial) e)
@[simp] theorem ren_mpI {σ : Nat → Nat} {l : List (Int × Bool)} : List.map (fun p => (ren σ p.1, ren σ p.2)) (mpE intK boolV l) = mpE intK boolV l := by
  conv => rhs; rw [← List.map_id (mpE intK boolV l)]
  refine List.map_congr_left fun p hp => ?_
  obtain ⟨q, _, rfl⟩ := List.mem_map.1 hp
  rfl
def seenI (F : List Int) : List (Int × Bool) := F.map fun x => (x, true)
@[simp] theorem seenI_nil : seenI [] = [] := rfl
theorem seenI_get {F : List Int} {p : Int} : alGet (seenI F) p = if p ∈ F then some true else none := by
  unfold seenI
  induction F with
  | nil => rfl
  | cons x F ih =>
    simp only [List.map_cons, alGet]
    by_cases h : p = x
    · rw [if_pos h, if_pos (by rw [h]; exact List.mem_cons_self ..)]
    · rw [if_neg h, ih]
      by_cases h2 : p ∈ F
      · rw [if_pos h2, if_pos (List.mem_cons_of_mem _ h2)]
      · rw [if_neg h2, if_neg (fun e => (List.mem_cons.1 e).elim h h2)]
theorem put_newI {m : List (Int × Bool)} {k : Int} {v : Bool} (h : alGet m k = none) : alPut m k v = m ++ [(k, v)] := by
  induction m with
  | nil => rfl
  | cons p m ih =>
    obtain ⟨a, b⟩ := p
    simp only [alGet] at h
    by_cases hk : k = a
    · rw [if_pos hk] at h; cases h
    · rw [if_neg hk] at h
      simp only [alPut, if_neg hk, ih h, List.cons_append]
theorem seenI_put {F : List Int} {y : Int} (h : ¬ y ∈ F) : alPut (seenI F) y true = seenI (F ++ [y]) := by
  rw [put_newI (by rw [seenI_get, if_neg h])]
  simp [seenI]
theorem seenI_no {F : List Int} {p : Int} (h : (alGet (seenI F) p).getD false = false) : ¬ p ∈ F := fun hm => by
  rw [seenI_get, if_pos hm] at h; cases h
theorem seenI_yes {F : List Int} {p : Int} (h : (alGet (seenI F) p).getD false = true) : p ∈ F := by
  by_cases hm : p ∈ F
  · exact hm
  · rw [seenI_get, if_neg hm] at h; cases h
@[simp] theorem putK_ib {l : List (Int × Bool)} {k : Int} {v : Bool} : putK (mpE intK boolV l) ((alFind l 0 k).map fun p => (p.1, boolV p.2)) (.int .i64 k) (.bool v) = mpE intK boolV (alPut l k v) := putK_mpE (ek := intK) (ev := boolV) l k v
theorem sub_perm : ∀ {a b : List Int}, a.Nodup → (∀ x ∈ a, x ∈ b) → b.length ≤ a.length → b.Perm a
  | [], b, _, _, h => by rw [List.length_eq_zero_iff.1 (Nat.le_zero.1 h)]
  | x :: a, b, hn, hs, hl => by
    have hx := hs x (List.mem_cons_self ..)
    have h1 := List.perm_cons_erase hx
    rw [List.nodup_cons] at hn
    have h2 : (b.erase x).Perm a := sub_perm hn.2 (fun y hy => (List.mem_erase_of_ne (fun (e : y = x) => hn.1 (by rw [← e]; exact hy))).2 (hs y (List.mem_cons_of_mem _ hy))) (by rw [List.length_erase_of_mem hx]; simp only [List.length_cons] at hl; omega)
    exact h1.trans (h2.cons x)
theorem outA_asc {g : Gr} {s : Int} : ∀ i, (outA g s i).Pairwise (· < ·)
  | 0 => List.Pairwise.nil
  | i + 1 => by
    rw [outA_succ, List.pairwise_append]
    refine ⟨outA_asc i, by split <;> simp, fun a ha b hb => ?_⟩
    obtain ⟨j, hj, rfl, _⟩ := outA_mem.1 ha
    split at hb
    · have := List.mem_singleton.1 hb; omega
    · cases hb
theorem asc_nodup {l : List Int} (h : l.Pairwise (· < ·)) : l.Nodup := h.imp fun h => by omega
theorem srt_of {a b : List Int} (hb : b.Pairwise (· < ·)) (h : a.Perm b) : srtI a = b := by
  have h1 : (srtI a).Perm b := srtI_perm.trans h
  refine h1.eq_of_pairwise (le := fun x y => x ≤ y) (fun x y _ _ h1 h2 => by omega) srtI_asc (hb.imp fun h => by omega)
def seK (L : List (List Int)) (i k : Nat) : List Int := flA L i ++ (L.getD i []).take k
theorem seK_zero {L : List (List Int)} {i : Nat} : seK L i 0 = flA L i := by simp [seK]
theorem seK_all {L : List (List Int)} {i : Nat} (h : i < L.length) : seK L i (L.getD i []).length = flA L (i + 1) := by unfold seK; rw [List.take_length, flA_succ h]
theorem seK_succ {L : List (List Int)} {i k : Nat} (h : k < (L.getD i []).length) : seK L i (k + 1) = seK L i k ++ [(L.getD i []).getD k 0] := by
  have e : (L.getD i []).take (k + 1) = (L.getD i []).take k ++ [(L.getD i []).getD k 0] := by
    generalize L.getD i [] = P at h
    rw [List.take_add_one, List.getElem?_eq_getElem h]
    simp [List.getD, h]
  unfold seK
  rw [e, List.append_assoc]
open Classical in
theorem sorted_of {l : List Int} (h : sortedB l = true) : SortedI l := by
  unfold sortedB at h
  exact of_decide_eq_true h
open Classical in
theorem sorted_if {l : List Int} (h : SortedI l) : sortedB l = true := by
  unfold sortedB
  exact decide_eq_true h
theorem flA_pre {L : List (List Int)} : ∀ i, i ≤ L.length → ∃ r, L.flatten = flA L i ++ r := fun i hi => ⟨(L.drop i).flatten, by unfold flA; rw [← List.flatten_append, List.take_append_drop]⟩
theorem getD_take2 {l : List Int} {a b : Nat} (h : b < a) : (l.take a).getD b 0 = l.getD b 0 := by simp [List.getD_eq_getElem?_getD, List.getElem?_take_of_lt h]
section
variable {L : List (List Int)} {l : List Int}
theorem div_dup {i k : Nat} (hl : l.Pairwise (· < ·)) (hi : i < L.length) (hk : k < (L.getD i []).length) (h : (0 < k ∧ (L.getD i []).getD k 0 ≤ (L.getD i []).getD (k - 1) 0) ∨ (L.getD i []).getD k 0 ∈ seK L i k) : divB L l = false := by
  cases hd : divB L l with
  | false => rfl
  | true =>
    exfalso
    obtain ⟨h1, h2, h3⟩ := div_ok hd
    have hnd : L.flatten.Nodup := h3.nodup_iff.2 (asc_nodup hl)
    obtain ⟨r, hr⟩ := flA_pre (L := L) (i + 1) hi
    rw [hr, ← seK_all hi] at hnd
    have hnd2 : (seK L i (L.getD i []).length).Nodup := (List.nodup_append.1 hnd).1
    have hsp : ∃ r2, seK L i (L.getD i []).length = seK L i (k + 1) ++ r2 := ⟨(L.getD i []).drop (k + 1), by unfold seK; rw [List.take_length, List.append_assoc, List.take_append_drop]⟩
    obtain ⟨r2, hr2⟩ := hsp
    rw [hr2] at hnd2
    have hnd3 := (List.nodup_append.1 hnd2).1
    rw [seK_succ hk] at hnd3
    have hnm : ¬ (L.getD i []).getD k 0 ∈ seK L i k := fun hm => (List.nodup_append.1 hnd3).2.2 _ hm _ (List.mem_singleton.2 rfl) rfl
    rcases h with ⟨hk0, h⟩ | h
    · have hs : SortedI (L.getD i []) := sorted_of (h2 _ (getD_mem hi)).2
      have := hs (k - 1) (by omega)
      rw [show k - 1 + 1 = k by omega] at this
      have he : (L.getD i []).getD k 0 = (L.getD i []).getD (k - 1) 0 := by omega
      apply hnm
      rw [he]
      unfold seK
      refine List.mem_append.2 (.inr ?_)
      have hlt : k - 1 < ((L.getD i []).take k).length := by rw [List.length_take]; omega
      have := getD_mem (d := (0 : Int)) hlt
      rwa [getD_take2 (by omega)] at this
    · exact hnm h
theorem div_out {x : Int} (hx : x ∈ l) (h : ¬ x ∈ L.flatten) : divB L l = false := by
  cases hd : divB L l with
  | false => rfl
  | true => exact absurd ((div_ok hd).2.2.mem_iff.2 hx) h
theorem div_short (h : L.length < 2) : divB L l = false := by
  cases hd : divB L l with
  | false => rfl
  | true => have := (div_ok hd).1; omega
theorem div_end (hl : l.Pairwise (· < ·)) (h0 : 2 ≤ L.length) (h : ∀ j, j < L.length → L.getD j [] ≠ [] ∧ sortedB (L.getD j []) = true) (hs : ∀ x ∈ l, x ∈ L.flatten) : divB L l = decide (L.flatten.length = l.length) := by
  rw [div_at h, decide_eq_true (show 1 < L.length by omega), Bool.true_and, decide_eq_decide]
  constructor
  · intro e; rw [← e, srtI_len]
  · intro e; exact srt_of hl (sub_perm (asc_nodup hl) hs (by omega))
end
set_option maxRecDepth 100000 in
set_option maxHeartbeats 1000000 in
theorem divRf_c (g : Gr) (x : Spl) (hv : gcheck g = 0) (hs : 0 ≤ x.st ∧ x.st < g.states) (hn : x.parts.length ≤ 900) (hp : ∀ p ∈ x.parts, p.length ≤ 1024) : PC Tryz.prog 136 [.agg 3 (grF g), .agg 2 (splF x)] (.bool (divB x.parts (outR g x.st))) := by
 have hed := (gcheck_valid hv).1.ed
 have hoe := (out_3 hv hs).1
 have hol := outA_len (g := g) (s := x.st) g.edges.length
 have hoa : (outR g x.st).Pairwise (· < ·) := (by rw [hoe]; exact outA_asc _)
 have hoN : (outR g x.st).length ≤ 1024 := (by rw [hoe]; unfold outL; omega)
 refine zp Tryz.func136 fun G hG hR => ?_
 refine zs (zr ?_ (h := by intro c K h; simp [hG, List.getD_cons_zero, List.getD_cons_succ, -List.getD_eq_getElem?_getD, pureOp, flA_zero, seenI_nil]; first | exact z1 c h | exact ⟨.mk c, h⟩))
 refine zs (zs (zr ?_ (h := by intro c K h; simp [hG, List.getD_cons_zero, List.getD_cons_succ, -List.getD_eq_getElem?_getD, pureOp, flA_zero, seenI_nil]; first | exact z1 c h | exact ⟨.mk c, h⟩)))
 refine zy (fun hb16 => ?_) fun hb16 => ?_
 · refine zs (zr ?_ (h := by intro c K h; simp [hG, List.getD_cons_zero, List.getD_cons_succ, -List.getD_eq_getElem?_getD, pureOp, flA_zero, seenI_nil]; first | exact z1 c h | exact ⟨.mk c, h⟩))
   refine zt ?_
   refine RetOK_of ?_
   simp [hG, List.getD_cons_zero, List.getD_cons_succ, -List.getD_eq_getElem?_getD, pureOp, flA_zero, seenI_nil]
   exact div_short (by omega)
 refine zk (zs (zL (zl 3 ?_ (h := by intro c K h; simp [hG, List.getD_cons_zero, List.getD_cons_succ, -List.getD_eq_getElem?_getD, pureOp, flA_zero, seenI_nil]; first | exact z1 c h | exact ⟨.mk c, h⟩))))
 refine zc cal32 (outRf_c g x.st) ?_ (a := fun hg => by simp [hG, List.getD_cons_zero, List.getD_cons_succ, -List.getD_eq_getElem?_getD, pureOp, flA_zero, seenI_nil]) (b := fun hg => by simp [hG, List.getD_cons_zero, List.getD_cons_succ, -List.getD_eq_getElem?_getD, pureOp, flA_zero, seenI_nil]) (h := by intro K h; simp [hG, List.getD_cons_zero, List.getD_cons_succ, -List.getD_eq_getElem?_getD, pureOp, flA_zero, seenI_nil]; exact h)
 refine zl 5 ?_ (h := by intro c K h; simp [hG, List.getD_cons_zero, List.getD_cons_succ, -List.getD_eq_getElem?_getD, pureOp, flA_zero, seenI_nil]; first | exact z1 c h | exact ⟨.mk c, h⟩)
 refine zN (zs (zr ?_ (h := by intro c K h; simp [hG, List.getD_cons_zero, List.getD_cons_succ, -List.getD_eq_getElem?_getD, pureOp, flA_zero, seenI_nil]; first | exact z1 c h | exact ⟨.mk c, h⟩)))
 refine zs (zr ?_ (h := by intro c K h; simp [hG, List.getD_cons_zero, List.getD_cons_succ, -List.getD_eq_getElem?_getD, pureOp, flA_zero, seenI_nil]; first | exact z1 c h | exact ⟨.mk c, h⟩))
 refine zs (zs (zr ?_ (h := by intro c K h; simp [hG, List.getD_cons_zero, List.getD_cons_succ, -List.getD_eq_getElem?_getD, pureOp, flA_zero, seenI_nil]; first | exact z1 c h | exact ⟨.mk c, h⟩)))
 refine zb ?_
 refine awpS_loop (α := Nat) (fun i => ⟨[(2, .ptr (0, 0) 0 0), (3, .ptr (1, 0) 0 0), (5, ints (outR g x.st)), (7, .map (2, 0)), (8, .int .i64 (flA x.parts i).length), (9, .int .i64 i)], [(0, .one (.arr 1 3 (fun _ => grF g))), (1, .one (.arr 1 2 (fun _ => splF x))), (2, .one (.mp (mpE intK boolV (seenI (flA x.parts i)))))], 3⟩) (fun i => i ≤ x.parts.length ∧ ∀ j, j < i → x.parts.getD j [] ≠ [] ∧ sortedB (x.parts.getD j []) = true) (fun i => x.parts.length - i) (0) (⟨Nat.zero_le _, fun j hj => absurd hj (Nat.not_lt_zero _)⟩) ?_ ?_
 · exact zi (e := by simp [hG, List.getD_cons_zero, List.getD_cons_succ, -List.getD_eq_getElem?_getD, pureOp, flA_zero, seenI_nil]) (h := by simp [hG, List.getD_cons_zero, List.getD_cons_succ, -List.getD_eq_getElem?_getD, pureOp, flA_zero, seenI_nil])
 rintro i ⟨hi, hn2⟩
 refine zs (zs (zr ?_ (h := by intro c K h; simp [hG, List.getD_cons_zero, List.getD_cons_succ, -List.getD_eq_getElem?_getD, pureOp, flA_zero, seenI_nil]; first | exact z1 c h | exact ⟨.mk c, h⟩)))
 refine zy (fun hb29 => ?_) fun hb29 => ?_
 · have hil : i < x.parts.length := (by omega)
   have hpl := hp _ (getD_mem (d := ([] : List Int)) hil)
   have hfl := flA_len hp i (by omega)
   refine zk (zs (zb (zs (zr ?_ (h := by intro c K h; simp [hG, List.getD_cons_zero, List.getD_cons_succ, -List.getD_eq_getElem?_getD, pureOp, flA_zero, seenI_nil]; first | exact z1 c h | exact ⟨.mk c, h⟩)))))
   refine zs (zs (zr ?_ (h := by intro c K h; simp [hG, List.getD_cons_zero, List.getD_cons_succ, -List.getD_eq_getElem?_getD, pureOp, flA_zero, seenI_nil]; first | exact z1 c h | exact ⟨.mk c, h⟩)))
   refine zy (fun hb39 => ?_) fun hb39 => ?_
   · refine zs (zr ?_ (h := by intro c K h; simp [hG, List.getD_cons_zero, List.getD_cons_succ, -List.getD_eq_getElem?_getD, pureOp, flA_zero, seenI_nil]; first | exact z1 c h | exact ⟨.mk c, h⟩))
     refine zt (zbt (ztt (zbt ?_)))
     refine RetOK_of ?_
     simp [hG, List.getD_cons_zero, List.getD_cons_succ, -List.getD_eq_getElem?_getD, pureOp, flA_zero, seenI_nil]
     exact div_no hil (.inl hb39)
   refine zk (zs (zr ?_ (h := by intro c K h; simp [hG, List.getD_cons_zero, List.getD_cons_succ, -List.getD_eq_getElem?_getD, pureOp, flA_zero, seenI_nil]; first | exact z1 c h | exact ⟨.mk c, h⟩)))
   refine zb ?_
   refine awpS_loop (α := Nat) (fun k => ⟨[(2, .ptr (0, 0) 0 0), (3, .ptr (1, 0) 0 0), (5, ints (outR g x.st)), (7, .map (2, 0)), (8, .int .i64 (seK x.parts i k).length), (9, .int .i64 i), (10, ints (x.parts.getD i [])), (11, .int .i64 k)], [(0, .one (.arr 1 3 (fun _ => grF g))), (1, .one (.arr 1 2 (fun _ => splF x))), (2, .one (.mp (mpE intK boolV (seenI (seK x.parts i k)))))], 3⟩) (fun k => k ≤ (x.parts.getD i []).length ∧ ∀ j, j < k → 0 < j → (x.parts.getD i []).getD (j - 1) 0 < (x.parts.getD i []).getD j 0) (fun k => (x.parts.getD i []).length - k) (0) (⟨Nat.zero_le _, fun j hj => absurd hj (Nat.not_lt_zero _)⟩) ?_ ?_
   · exact zi (e := by rw [seK_zero]; simp [hG, List.getD_cons_zero, List.getD_cons_succ, -List.getD_eq_getElem?_getD]) (h := by rw [seK_zero]; simp [hG, List.getD_cons_zero, List.getD_cons_succ, -List.getD_eq_getElem?_getD])
   rintro k ⟨hk, hq2⟩
   refine zs (zs (zr ?_ (h := by intro c K h; simp [hG, List.getD_cons_zero, List.getD_cons_succ, -List.getD_eq_getElem?_getD, pureOp, flA_zero, seenI_nil]; first | exact z1 c h | exact ⟨.mk c, h⟩)))
   refine zy (fun hb43 => ?_) fun hb43 => ?_
   · have hkl : k < (x.parts.getD i []).length := (by omega)
     have hks := seK_succ hkl
     have hsl : (seK x.parts i k).length ≤ i * 1024 + k := by unfold seK; rw [List.length_append, List.length_take]; omega
     refine zk (zs (zb (zs (zs ?_))))
     refine awpS_draw hR mixed [] ⟨[], [], []⟩ fun mu0 => ?_
     refine za [0, 1, 2, 3, 4, 5, 6, 7, 8, 9, 10, 11, 12, 13, 14, 15, 16, 17, 18, 19] [] 2 [19, 18, 17, 16, 15, 14, 13, 12, 11, 10, 9, 8, 7, 6, 5, 4, 3, 2, 1, 0] ?_ (h := by intro c K h; simp [hG, List.getD_cons_zero, List.getD_cons_succ, -List.getD_eq_getElem?_getD, pureOp, flA_zero, seenI_nil]; first | exact z1 c h | exact ⟨.mk c, h⟩)
     refine awpA_only (fuel := 1) (i := 20) (by decide +kernel) ?_
     refine zo ?_ (hw := by simp [hG, List.getD_cons_zero, List.getD_cons_succ, -List.getD_eq_getElem?_getD, pureOp, flA_zero, seenI_nil]; (try exact trivial)) (h := by intro c K h; simp [hG, List.getD_cons_zero, List.getD_cons_succ, -List.getD_eq_getElem?_getD, pureOp, flA_zero, seenI_nil]; first | exact z1 c h | exact ⟨.mk c, h⟩)
     refine za [21] [] 0 [21, 20, 19, 18, 17, 16, 15, 14, 13, 12, 11, 10, 9, 8, 7, 6, 5, 4, 3, 2, 1, 0] ?_ (h := by intro c K h; simp [hG, List.getD_cons_zero, List.getD_cons_succ, -List.getD_eq_getElem?_getD, pureOp, flA_zero, seenI_nil]; first | exact z1 c h | exact ⟨.mk c, h⟩)
     refine awpA_done (by decide +kernel) ?_
     refine zy (fun hb67 => ?_) fun hb67 => ?_
     · refine zs (zr ?_ (h := by intro c K h; simp [hG, List.getD_cons_zero, List.getD_cons_succ, -List.getD_eq_getElem?_getD, pureOp, flA_zero, seenI_nil]; first | exact z1 c h | exact ⟨.mk c, h⟩))
       refine zt (zbt (ztt (zbt (zbt (ztt (zbt ?_))))))
       refine RetOK_of ?_
       simp [hG, List.getD_cons_zero, List.getD_cons_succ, -List.getD_eq_getElem?_getD, pureOp, flA_zero, seenI_nil]
       exact div_dup hoa hil hkl (hb67.imp id fun h => seenI_yes h)
     have hnm : ¬ (x.parts.getD i []).getD k 0 ∈ seK x.parts i k := seenI_no hb67.2
     have hpt := seenI_put hnm
     refine zk (zs (zr ?_ (h := by intro c K h; simp [hG, List.getD_cons_zero, List.getD_cons_succ, -List.getD_eq_getElem?_getD, pureOp, flA_zero, seenI_nil]; first | exact z1 c h | exact ⟨.mk c, h⟩)))
     refine zr ?_ (h := by intro c K h; simp [hG, List.getD_cons_zero, List.getD_cons_succ, -List.getD_eq_getElem?_getD, pureOp, flA_zero, seenI_nil]; first | exact z1 c h | exact ⟨.mk c, h⟩)
     refine zn (zbn (zr ?_ (h := by intro c K h; simp [hG, List.getD_cons_zero, List.getD_cons_succ, -List.getD_eq_getElem?_getD, pureOp, flA_zero, seenI_nil]; first | exact z1 c h | exact ⟨.mk c, h⟩)))
     refine zn ?_
     refine round_end (k + 1) (⟨by omega, step_all hq2 (fun h => by have := hb67.1 h; omega)⟩) (by omega) ?_
     exact zi (e := by rw [hks]; simp [hG, List.getD_cons_zero, List.getD_cons_succ, -List.getD_eq_getElem?_getD]) (h := by rw [hks, ← hpt]; simp [hG, List.getD_cons_zero, List.getD_cons_succ, -List.getD_eq_getElem?_getD])
   obtain rfl : k = (x.parts.getD i []).length := (by omega)
   have hka := seK_all hil
   refine zx (ztx (zbx (zn (zbn (zr ?_ (h := by intro c K h; simp [hG, List.getD_cons_zero, List.getD_cons_succ, -List.getD_eq_getElem?_getD, pureOp, flA_zero, seenI_nil]; first | exact z1 c h | exact ⟨.mk c, h⟩))))))
   refine zn ?_
   refine round_end (i + 1) (⟨by omega, step_all hn2 ⟨hb39, sorted_if fun j hj => by have := hq2 (j + 1) hj (by omega); rw [Nat.add_sub_cancel] at this; omega⟩⟩) (by omega) ?_
   exact zi (e := by rw [hka]; simp [hG, List.getD_cons_zero, List.getD_cons_succ, -List.getD_eq_getElem?_getD]) (h := by rw [hka]; simp [hG, List.getD_cons_zero, List.getD_cons_succ, -List.getD_eq_getElem?_getD])
 obtain rfl : i = x.parts.length := (by omega)
 have hfl := flA_len hp x.parts.length (Nat.le_refl _)
 have hfa := flA_all (L := x.parts)
 refine zx (ztx (zbx (zs (zs (zr ?_ (h := by intro c K h; simp [hG, List.getD_cons_zero, List.getD_cons_succ, -List.getD_eq_getElem?_getD, pureOp, flA_zero, seenI_nil]; first | exact z1 c h | exact ⟨.mk c, h⟩))))))
 refine zb ?_
 refine awpS_loop (α := Nat) (fun q => ⟨[(2, .ptr (0, 0) 0 0), (3, .ptr (1, 0) 0 0), (5, ints (outR g x.st)), (7, .map (2, 0)), (8, .int .i64 (flA x.parts x.parts.length).length), (12, .int .i64 q)], [(0, .one (.arr 1 3 (fun _ => grF g))), (1, .one (.arr 1 2 (fun _ => splF x))), (2, .one (.mp (mpE intK boolV (seenI (flA x.parts x.parts.length)))))], 3⟩) (fun q => q ≤ (outR g x.st).length ∧ ∀ j, j < q → (outR g x.st).getD j 0 ∈ x.parts.flatten) (fun q => (outR g x.st).length - q) (0) (⟨Nat.zero_le _, fun j hj => absurd hj (Nat.not_lt_zero _)⟩) ?_ ?_
 · exact zi (e := by simp [hG, List.getD_cons_zero, List.getD_cons_succ, -List.getD_eq_getElem?_getD, pureOp, flA_zero, seenI_nil]) (h := by simp [hG, List.getD_cons_zero, List.getD_cons_succ, -List.getD_eq_getElem?_getD, pureOp, flA_zero, seenI_nil])
 rintro q ⟨hq, hq3⟩
 refine zs (zs (zr ?_ (h := by intro c K h; simp [hG, List.getD_cons_zero, List.getD_cons_succ, -List.getD_eq_getElem?_getD, pureOp, flA_zero, seenI_nil]; first | exact z1 c h | exact ⟨.mk c, h⟩)))
 refine zy (fun hb78 => ?_) fun hb78 => ?_
 · refine zk (zs (zb (zs (zr ?_ (h := by intro c K h; simp [hG, List.getD_cons_zero, List.getD_cons_succ, -List.getD_eq_getElem?_getD, pureOp, flA_zero, seenI_nil]; first | exact z1 c h | exact ⟨.mk c, h⟩)))))
   refine zy (fun hb87 => ?_) fun hb87 => ?_
   · refine zs (zr ?_ (h := by intro c K h; simp [hG, List.getD_cons_zero, List.getD_cons_succ, -List.getD_eq_getElem?_getD, pureOp, flA_zero, seenI_nil]; first | exact z1 c h | exact ⟨.mk c, h⟩))
     refine zt (zbt (ztt (zbt ?_)))
     refine RetOK_of ?_
     simp [hG, List.getD_cons_zero, List.getD_cons_succ, -List.getD_eq_getElem?_getD, pureOp, flA_zero, seenI_nil]
     exact div_out (x := (outR g x.st).getD q 0) (getD_mem (by omega)) (by rw [← hfa]; exact seenI_no hb87)
   refine zk (zn (zbn (zr ?_ (h := by intro c K h; simp [hG, List.getD_cons_zero, List.getD_cons_succ, -List.getD_eq_getElem?_getD, pureOp, flA_zero, seenI_nil]; first | exact z1 c h | exact ⟨.mk c, h⟩))))
   refine zn ?_
   refine round_end (q + 1) (⟨by omega, step_all hq3 (by rw [← hfa]; exact seenI_yes (by simpa using hb87))⟩) (by omega) ?_
   exact zi (e := by simp [hG, List.getD_cons_zero, List.getD_cons_succ, -List.getD_eq_getElem?_getD, pureOp, flA_zero, seenI_nil]) (h := by simp [hG, List.getD_cons_zero, List.getD_cons_succ, -List.getD_eq_getElem?_getD, pureOp, flA_zero, seenI_nil])
 refine zx (ztx (zbx (zs (zr ?_ (h := by intro c K h; simp [hG, List.getD_cons_zero, List.getD_cons_succ, -List.getD_eq_getElem?_getD, pureOp, flA_zero, seenI_nil]; first | exact z1 c h | exact ⟨.mk c, h⟩)))))
 refine zt ?_
 refine RetOK_of ?_
 simp [hG, List.getD_cons_zero, List.getD_cons_succ, -List.getD_eq_getElem?_getD, pureOp, flA_zero, seenI_nil]
 rw [div_end hoa (by omega) (fun j hj => hn2 j hj) (fun y hy => by obtain ⟨j, hj, rfl⟩ := List.mem_iff_getElem.1 hy; have := hq3 j (by omega); rwa [getD_get hj] at this), hfa, decide_eq_decide]; omega
end Go.Proofs.YtchjjiedcpfniaaGreatDoor
