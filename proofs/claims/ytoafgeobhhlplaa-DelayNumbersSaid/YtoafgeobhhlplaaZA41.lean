/- Parts of the proof: VO DP. -/
import Derived.Test.YtoafgeobhhlplaaZA21
import Derived.Test.YtoafgeobhhlplaaZA39
import Derived.Test.YtoafgeobhhlplaaZA40
namespace Go.Proofs.Ytoafgeobhhlplaa
set_option linter.unusedSimpArgs false
set_option linter.unusedVariables false
open Go Go.Lift Go.Proofs
structure DlJ (c : Cd) (m : List (Rc × Int)) (S : Nat → Wd → Prop) (mo : Int) : Prop where
  le : ∀ i s, S i s → ∃ v : Nat, HV c.ws ([], s) v ∧ (v : Int) ≤ mo
  at_ : mo = -1 ∨ ∃ i s, i < c.ws.length ∧ AtM c.ws i s ∧ ∃ v : Nat, HV c.ws ([], s) v ∧ mo = v
  hi : -1 ≤ mo ∧ mo ≤ 4464769
theorem dlJ_add {c : Cd} {m : List (Rc × Int)} {S T : Nat → Wd → Prop} {mo : Int} (h : DlJ c m S mo) {i : Nat} {s : Wd} (hi : i < c.ws.length) (hs : AtM c.ws i s) {r : Int} (hr : RvB c.ws ([], s) r) (hb : ¬ r = forever) (hT : ∀ j t, T j t → S j t ∨ t = s) : DlJ c m T (max mo r) := by
  obtain ⟨v, hv, rfl, hvb⟩ : ∃ v : Nat, HV c.ws ([], s) v ∧ r = v ∧ v ≤ 4464769 := by
    rcases hr with h1 | ⟨h1, _⟩
    · exact h1
    · exact absurd h1 hb
  refine ⟨fun j t ht => ?_, ?_, by have := h.hi; omega⟩
  · rcases hT j t ht with h1 | rfl
    · obtain ⟨w, hw, hle⟩ := h.le j t h1
      exact ⟨w, hw, by omega⟩
    · exact ⟨v, hv, by omega⟩
  · rcases h.at_ with h1 | h1
    · exact .inr ⟨i, s, hi, hs, v, hv, by omega⟩
    · by_cases e : mo ≤ (v : Int)
      · exact .inr ⟨i, s, hi, hs, v, hv, by omega⟩
      · obtain ⟨j, t, h2, h3, w, hw, e2⟩ := h1
        exact .inr ⟨j, t, h2, h3, w, hw, by omega⟩
theorem dl_fin {c : Cd} (ho : cdN c = 0) {m : List (Rc × Int)} {mo : Int} (h : DlJ c m (fun i s => i < c.ws.length ∧ AtM c.ws i s) mo) : dlD c = mo + 1 ∧ dlB c = true := by
  have h1 := h.hi
  obtain ⟨d, hd⟩ : ∃ d : Nat, (d : Int) = mo + 1 := ⟨(mo + 1).toNat, by omega⟩
  have h2 := dl_yes ho (dl_races (fun i s hi hs => h.le i s ⟨hi, hs⟩) h.at_ hd)
  unfold dlD dlB
  rw [if_pos ho, h2, ← hd, decide_eq_true ho]
  exact ⟨rfl, rfl⟩
theorem dl_inf {c : Cd} (ho : cdN c = 0) {i : Nat} {s : Wd} (hi : i < c.ws.length) (hs : AtM c.ws i s) {r : Int} (hr : RvB c.ws ([], s) r) (hb : r = forever) : dlD c = 0 ∧ dlB c = false := by
  have h1 : ∀ n, Gn c.ws n [] s := by
    rcases hr with ⟨v, _, e, hv⟩ | ⟨_, h1⟩
    · unfold forever at hb; omega
    · exact h1
  have h2 := dl_not ho (dl_never hi hs h1)
  unfold dlD dlB
  rw [if_pos ho, h2]
  exact ⟨rfl, by simp⟩
theorem dlJ_sub {c : Cd} {m : List (Rc × Int)} {S T : Nat → Wd → Prop} {mo : Int} (h : DlJ c m S mo) (hT : ∀ k s, T k s → S k s) : DlJ c m T mo := ⟨fun i s hs => h.le i s (hT i s hs), h.at_, h.hi⟩
theorem bd_zero {c : Cd} {n : Int} (h : bdN c n = 0) : cdN c = 0 := by
  unfold bdN at h
  split at h
  · cases h
  · rename_i h2; simpa using h2
set_option maxRecDepth 100000 in
set_option maxHeartbeats 1000000 in
theorem delay_c (c : Cd) (hl : c.ws.length ≤ maxLen) : PC Try.prog 12 [.agg 2 (cdF c)] (.tup 3 (fun j => [.int .i64 (dlD c), .bool (dlB c), .int .i64 (arN c)].getD j .any)) := by
 have hML : maxLen = 9223372036854775807 := by decide
 refine zp Try.func12 fun G hG hR => ?_
 refine zs (zrP ?_)
 refine zs (zs (zL (zlP 1 ?_)))
 refine zcP cal38 (check_c c hl) ?_
 refine zlP 1 ?_
 refine zN (zy (fun hb12 => ?_) fun hb12 => ?_)
 · refine zs (zrP ?_)
   refine zt ?_
   refine RetOK_of ?_
   simp [hG, List.getD_cons_zero, List.getD_cons_succ, -List.getD_eq_getElem?_getD, pureOp]
   unfold dlD dlB arN; rw [if_neg hb12, if_neg hb12, decide_eq_false hb12]; exact ⟨rfl, rfl, rfl⟩
 have ho : cdN c = 0 := (by simpa using hb12)
 have hv := cd_ok ho
 have hWn := hv.n
 refine zk (zs (zL (zlP 1 ?_)))
 refine zfP cal39 [] (newRaces_c c hv) (fun m hI hno => ?_)
 refine zlP 2 ?_
 refine zN (zs (zrP ?_))
 refine zs (zs (zrP ?_))
 refine zb ?_
 refine awpS_loop (α := Nat × Int) (fun z => ⟨[(1, .vptr 2 (cdF c) 0), (5, .ptr (1, 0) 0 0), (6, .int .i64 z.2), (16, strs c.ws), (17, .int .i64 c.ws.length), (18, .int .i64 (z.1 : Nat))], [(0, .one (.mp (mpE rcK intV m))), (1, .one (.arr 1 3 (fun _ => rvF c (.map (0, 0)))))], 2⟩) (fun z => z.1 ≤ c.ws.length ∧ DlJ c m (fun k s => k < z.1 ∧ AtM c.ws k s) z.2) (fun z => c.ws.length - z.1) ((0, -1)) (⟨Nat.zero_le _, ⟨fun k s h => absurd h.1 (Nat.not_lt_zero _), .inl rfl, by decide⟩⟩) ?_ ?_
 · exact zwP (fun k => if k = 0 then 1 else if k = 1 then 2 else k) (fun k => k == 0) (fun _ => false)
 rintro ⟨i, mo⟩ ⟨hi, hD⟩
 simp only at hi hD
 obtain ⟨K, hclr, hbx0, hm4, hm5⟩ := hI
 have hDh := hD.hi
 refine zs (zrP ?_)
 refine zs (zy (fun hb19 => ?_) fun hb19 => ?_)
 · refine zk (zs (zb (zs (zrP ?_))))
   refine zs (zL (zlP 2 ?_))
   refine zfP cal40 [0] (atR_c c hv i hb19 m) (fun L hI hno => ?_) (b := by simp [hG, List.range'_succ, List.range'_zero, List.getD_cons_zero, List.getD_cons_succ, -List.getD_eq_getElem?_getD])
   refine zlP 2 ?_
   refine zN (zb ?_)
   refine awpS_loop (α := Nat × Int) (fun z => ⟨[(1, .vptr 2 (cdF c) 0), (5, .ptr (1, 0) 0 0), (6, .int .i64 z.2), (16, strs c.ws), (17, .int .i64 c.ws.length), (18, .int .i64 (i : Nat)), (23, rcs L), (24, .int .i64 L.length), (25, .int .i64 (z.1 : Nat))], [(0, .one (.mp (mpE rcK intV m))), (1, .one (.arr 1 3 (fun _ => rvF c (.map (0, 0)))))], 2⟩) (fun z => z.1 ≤ L.length ∧ DlJ c m (fun k s => (k < i ∧ AtM c.ws k s) ∨ (([], s) : Rc) ∈ L.take z.1) z.2) (fun z => L.length - z.1) ((0, mo)) (⟨Nat.zero_le _, dlJ_sub hD fun k s h => h.elim id fun h => (by cases h)⟩) ?_ ?_
   · exact ziP
   rintro ⟨j, mo2⟩ ⟨hj, hD2⟩
   simp only at hj hD2
   refine zs (zrP ?_)
   refine zs (zy (fun hb26 => ?_) fun hb26 => ?_)
   · obtain ⟨hp1, hp2⟩ := (hI.mem _).1 (getD_mem (d := dRc) hb26)
     have hpe : (([], (L.getD j dRc).2) : Rc) = L.getD j dRc := (by rw [← hp1])
     have hrb : RvB c.ws ([], (L.getD j dRc).2) ((alGet m (L.getD j dRc)).getD 0) := (by have h := hm5 _ (hm4 i hb19 _ hp2); rw [hpe] at h; rw [hpe]; exact h)
     have hLb := at_len hv.len hWn.2 hI
     refine zk (zs (zb (zs (zrP ?_))))
     refine zs (zs (zrP ?_))
     refine zy (fun hb33 => ?_) fun hb33 => ?_
     · refine zs (zrP ?_)
       refine zt (zbt (ztt (zbt (zbt (ztt (zbt ?_))))))
       refine RetOK_of ?_
       simp [hG, List.getD_cons_zero, List.getD_cons_succ, -List.getD_eq_getElem?_getD, pureOp]
       obtain ⟨h1, h2⟩ := dl_inf ho hb19 hp2 hrb hb33; rw [h1, h2]; exact ⟨rfl, rfl, (if_pos ho).symm⟩
     refine zk (zrP ?_)
     refine zn (zbn (zrP ?_))
     refine zn ?_
     refine round_end ((j + 1, max mo2 ((alGet m (L.getD j dRc)).getD 0))) (⟨by simp only; omega, dlJ_add hD2 hb19 hp2 hrb hb33 fun k s h => h.elim (fun h => .inl (.inl h)) fun h => by rw [← take_getD (d := dRc) hb26, List.mem_append, List.mem_singleton] at h; exact h.elim (fun h => .inl (.inr h)) fun h => .inr (congrArg Prod.snd h)⟩) (by simp only; omega) ?_
     exact ziP
   obtain rfl : j = L.length := (by omega)
   rw [List.take_length] at hD2
   refine zx (ztx (zbx (zn (zbn (zrP ?_)))))
   refine zn ?_
   refine round_end ((i + 1, mo2)) (⟨by simp only; omega, dlJ_sub hD2 fun k s h => by rcases Nat.lt_or_ge k i with h1 | h1; (exact .inl ⟨h1, h.2⟩); (obtain rfl : k = i := (by have := h.1; simp only at this; omega); exact .inr ((hI.mem _).2 ⟨rfl, h.2⟩))⟩) (by simp only; omega) ?_
   exact ziP
 obtain rfl : i = c.ws.length := (by omega)
 refine zx (ztx (zbx (zs (zrP ?_))))
 refine zt ?_
 refine RetOK_of ?_
 simp [hG, List.getD_cons_zero, List.getD_cons_succ, -List.getD_eq_getElem?_getD, pureOp]
 obtain ⟨h1, h2⟩ := dl_fin ho hD; rw [h1, h2]; exact ⟨rfl, rfl, (if_pos ho).symm⟩
set_option maxRecDepth 100000 in
theorem bounded_c (c : Cd) (hl : c.ws.length ≤ maxLen) (n : Int) : PC Try.prog 14 [.agg 2 (cdF c), .int .i64 n] (.tup 2 (fun j => [.bool (bdB c n), .int .i64 (bdN c n)].getD j .any)) := by
 refine zp Try.func14 fun G hG hR => ?_
 refine zs (zrP ?_)
 refine zs (zs (zL (zlP 2 ?_)))
 refine zcP cal46 (number_c c hl n) ?_
 refine zlP 1 ?_
 refine zN (zs (zrP ?_))
 refine zy (fun hb14 => ?_) fun hb14 => ?_
 · refine zs (zrP ?_)
   refine zt ?_
   refine RetOK_of ?_
   simp [hG, List.getD_cons_zero, List.getD_cons_succ, -List.getD_eq_getElem?_getD, pureOp]
   unfold bdB; rw [decide_eq_false hb14]; rfl
 refine zk (zs (zL (zlP 1 ?_)))
 refine zcP cal12 (delay_c c hl) ?_
 refine zlP 7 ?_
 refine zN (zs (zrP ?_))
 refine zt ?_
 refine RetOK_of ?_
 simp [hG, List.getD_cons_zero, List.getD_cons_succ, -List.getD_eq_getElem?_getD, pureOp]
 have h0 : bdN c n = 0 := (by simpa using hb14); have h1 := bd_zero h0; unfold bdB arN; rw [h0, if_pos h1]; exact ⟨by simp, rfl⟩
end Go.Proofs.Ytoafgeobhhlplaa
namespace Go.Proofs.Ytoafgeobhhlplaa
set_option linter.unusedSimpArgs false
set_option linter.unusedVariables false
open Go Go.Lift
theorem tkS_getD {α : Type} {d : α} {L : List α} {j : Nat} (h : j < L.length) : L.take j ++ [L.getD j d] = L.take (j + 1) := by
  rw [List.getD_eq_getElem?_getD, List.getElem?_eq_getElem h, List.take_succ_eq_append_getElem h]; rfl
theorem cmn_step {a b : Wd} {n : Nat} (ha : n < a.length) (hb : n < b.length) (h : a.take n = b.take n) (he : a.getD n 0 = b.getD n 0) : a.take (n + 1) = b.take (n + 1) := by
  rw [← tkS_getD (d := (0 : UInt8)) ha, ← tkS_getD (d := (0 : UInt8)) hb, h, he]
theorem cmn_at {a b : Wd} {n : Nat} (ha : n ≤ a.length) (hb : n ≤ b.length) (h : a.take n = b.take n) (hs : n < a.length → n < b.length → a.getD n 0 ≠ b.getD n 0) : cmn a b = n := by
  have h1 := cmn_ge (List.take_prefix n a) (h ▸ List.take_prefix n b)
  rw [List.length_take] at h1
  refine Nat.le_antisymm (Nat.not_lt.1 fun hlt => ?_) (by omega)
  have h2 := cmn_le (x := a) (y := b)
  refine hs (by omega) (by omega) ?_
  have h3 := congrArg (fun l : Wd => l.getD n 0) (cmn_take (x := a) (y := b))
  simp only [List.getD_eq_getElem?_getD, List.getElem?_take, if_pos hlt] at h3
  simpa only [List.getD_eq_getElem?_getD] using h3
theorem plS_at {l : List Wd} {s : Wd} {i : Nat} (hi : i < l.length) (hn : ∀ j, j < i → l.getD j [] ≠ s) (h : l.getD i [] = s) : plS l s = i := by
  have hm : s ∈ l := h ▸ q_mem hi
  obtain ⟨h1, h2, h3⟩ := plS_mem hm
  rw [h1]
  rcases Nat.lt_trichotomy (l.idxOf s) i with h4 | h4 | h4
  · exact absurd h3 (hn _ h4)
  · rw [h4]
  · exfalso
    have := List.not_of_lt_findIdx (p := (· == s)) (xs := l) (i := i) h4
    rw [List.getD_eq_getElem?_getD, List.getElem?_eq_getElem hi] at h
    simp only [Option.getD_some] at h
    simp [h] at this
theorem plS_no {l : List Wd} {s : Wd} (hn : ∀ j, j < l.length → l.getD j [] ≠ s) : plS l s = -1 := by
  unfold plS
  rw [if_neg]
  intro h
  obtain ⟨_, h2, h3⟩ := plS_mem h
  exact hn _ h2 h3
theorem plS_pos {l : List Wd} {s : Wd} : 0 ≤ plS l s ↔ s ∈ l := by
  unfold plS
  by_cases h : s ∈ l
  · simp [h]
  · simp [h]
theorem addS_in {l : List Wd} {s : Wd} (h : 0 ≤ plS l s) : addS l s = l := if_pos (plS_pos.1 h)
theorem addS_out {l : List Wd} {s : Wd} (h : ¬ 0 ≤ plS l s) : addS l s = l ++ [s] := if_neg fun k => h (plS_pos.2 k)
section
variable {W : List Wd}
theorem iyA_yes {x y : Nat} {l : List Wd} (h : x ≠ y) (h2 : W.getD y [] <+: W.getD x []) : iyA W x l (y + 1) = addS (iyA W x l y) ((W.getD x []).drop (W.getD y []).length) := if_pos ⟨h, h2⟩
theorem iyA_not {x y : Nat} {l : List Wd} (h : ¬ (x ≠ y ∧ W.getD y [] <+: W.getD x [])) : iyA W x l (y + 1) = iyA W x l y := if_neg h
theorem ckA_nil {r : Wd} {l : List Wd} {k : Nat} (h : r = []) : ckA W r l (k + 1) = ckA W r l k := if_pos h
theorem ckA_in {r : Wd} {l : List Wd} {k : Nat} (h : r ≠ []) (h2 : W.getD k [] <+: r) : ckA W r l (k + 1) = addS (ckA W r l k) (r.drop (W.getD k []).length) := by
  show (if _ then _ else _) = _
  rw [if_neg h, if_pos h2]
theorem ckA_ov {r : Wd} {l : List Wd} {k : Nat} (h : r ≠ []) (h2 : ¬ W.getD k [] <+: r) (h3 : r <+: W.getD k []) : ckA W r l (k + 1) = addS (ckA W r l k) ((W.getD k []).drop r.length) := by
  show (if _ then _ else _) = _
  rw [if_neg h, if_neg h2, if_pos h3]
theorem ckA_off {r : Wd} {l : List Wd} {k : Nat} (h : r ≠ []) (h2 : ¬ W.getD k [] <+: r) (h3 : ¬ r <+: W.getD k []) : ckA W r l (k + 1) = ckA W r l k := by
  show (if _ then _ else _) = _
  rw [if_neg h, if_neg h2, if_neg h3]
theorem ixA_zero : ixA W 0 = [] := rfl
theorem iyA_zero {x : Nat} {l : List Wd} : iyA W x l 0 = l := rfl
theorem ixA_all : ixA W W.length = qsA W 0 := rfl
theorem ckA_zero {r : Wd} {l : List Wd} : ckA W r l 0 = l := rfl
theorem ixA_full {x : Nat} : iyA W x (ixA W x) W.length = ixA W (x + 1) := rfl
theorem qsA_next {i : Nat} (h : i < (qsA W i).length) : ckA W ((qsA W i).getD i []) (qsA W i) W.length = qsA W (i + 1) := (if_pos h).symm
theorem qsA_stay {i : Nat} (h : (qsA W i).length ≤ i) : ∀ d, qsA W (i + d) = qsA W i
  | 0 => rfl
  | d + 1 => by
    have ih := qsA_stay h d
    have e : qsA W (i + (d + 1)) = if i + d < (qsA W (i + d)).length then ckA W ((qsA W (i + d)).getD (i + d) []) (qsA W (i + d)) W.length else qsA W (i + d) := rfl
    rw [e, if_neg (by rw [ih]; omega), ih]
theorem restL_at {i : Nat} (hi : i ≤ (qsA W i).length) (h : ¬ i < (qsA W i).length) : restL W = qsA W i := by
  have h1 := (qs_st (W := W) i).len
  unfold restL
  rw [show (sufs W).length = i + ((sufs W).length - i) by omega, qsA_stay (by omega)]
theorem sufs_len : ∀ {W : List Wd}, (∀ w ∈ W, w.length ≤ 32) → (sufs W).length ≤ W.length * 33
  | [], _ => by simp [sufs]
  | w :: W, h => by
    have ih := sufs_len (W := W) fun v hv => h v (List.mem_cons_of_mem _ hv)
    have h1 := h w List.mem_cons_self
    have e : sufs (w :: W) = ((List.range (w.length + 1)).map fun k => w.drop k) ++ sufs W := rfl
    rw [e, List.length_append, List.length_map, List.length_range, List.length_cons]
    omega
theorem rst_box {l : List Wd} (hn : W.length ≤ 64) (hW : ∀ w ∈ W, w.length ≤ 32) (h : RSt W l) : l.length ≤ 2112 := by
  have := h.len
  have := sufs_len hW
  omega
theorem rest_box {l : List Wd} (hn : W.length ≤ 64) (hW : ∀ w ∈ W, w.length ≤ 32) : (restL W).length ≤ 2112 := rst_box hn hW (qs_st _)
theorem suf_le {n : Nat} (hW : ∀ w ∈ W, w.length ≤ n) {r : Wd} (h : r ∈ sufs W) : r.length ≤ n := by
  obtain ⟨w, hw, k, _, rfl⟩ := suf_mem.1 h
  rw [List.length_drop]
  have := hW w hw
  omega
def nxA (W l : List Wd) (now : List Nat) (r k p : Nat) : Nat := if p < r then (nxN W l now).getD p 0 else if p = r then mxA l now (l.getD r []) (W.take k) else 0
theorem nxA_zero {l : List Wd} {now : List Nat} {p : Nat} : nxA W l now 0 0 p = 0 := by
  unfold nxA
  rw [if_neg (Nat.not_lt_zero _), List.take_zero]
  split <;> rfl
theorem nxA_st {l : List Wd} {now : List Nat} {r k p v : Nat} (hk : k < W.length) (h : v = max (mxA l now (l.getD r []) (W.take k)) (mK l now (l.getD r []) (W.getD k []))) : (if p = r then v else nxA W l now r k p) = nxA W l now r (k + 1) p := by
  unfold nxA
  by_cases h1 : p = r
  · rw [if_pos h1, if_neg (by omega), if_pos h1, ← tkS_getD hk, mxA_snoc, h]
  · rw [if_neg h1, if_neg h1, if_neg h1]
theorem nxA_row {l : List Wd} {now : List Nat} {r p : Nat} (hp : p < l.length) : nxA W l now r W.length p = nxA W l now (r + 1) 0 p := by
  unfold nxA
  rw [List.take_length, List.take_zero]
  by_cases h1 : p < r
  · rw [if_pos h1, if_pos (by omega)]
  · rw [if_neg h1]
    by_cases h2 : p = r
    · rw [if_pos h2, if_pos (by omega), nxN_at hp, h2]
    · rw [if_neg h2, if_neg (by omega)]
      split <;> rfl
theorem nxA_self {l : List Wd} {now : List Nat} {r k : Nat} : nxA W l now r k r = mxA l now (l.getD r []) (W.take k) := by
  unfold nxA
  rw [if_neg (Nat.lt_irrefl r), if_pos rfl]
theorem nxA_full {l : List Wd} {t p : Nat} (hp : p < l.length) : nxA W l (itN W l t) l.length 0 p = (itN W l (t + 1)).getD p 0 := by
  unfold nxA
  rw [if_pos hp]; rfl
theorem itN_zero {l : List Wd} {p : Nat} : (itN W l 0).getD p 0 = 0 := by
  unfold itN
  rw [List.getD_eq_getElem?_getD, List.getElem?_replicate]
  split <;> rfl
theorem mK_in {l : List Wd} {now : List Nat} {r u : Wd} (h : u <+: r) : mK l now r u = cmn r u + now.getD (l.idxOf (r.drop u.length)) 0 := by unfold mK; rw [if_pos h]
theorem mK_ov {l : List Wd} {now : List Nat} {r u : Wd} (h : ¬ u <+: r) (h2 : r <+: u) : mK l now r u = cmn r u + now.getD (l.idxOf (u.drop r.length)) 0 := by unfold mK; rw [if_neg h, if_pos h2]
theorem mK_off {l : List Wd} {now : List Nat} {r u : Wd} (h : ¬ u <+: r) (h2 : ¬ r <+: u) : mK l now r u = cmn r u := by unfold mK; rw [if_neg h, if_neg h2]; rfl
theorem itN_le {n : Nat} (hW : ∀ w ∈ W, w.length ≤ n) {l : List Wd} : ∀ t i, (itN W l t).getD i 0 ≤ n * t
  | 0, i => by rw [itN_zero]; exact Nat.zero_le _
  | t + 1, i => by
    by_cases hi : i < l.length
    · show (nxN W l (itN W l t)).getD i 0 ≤ _
      rw [nxN_at hi]
      rcases mxA_ge.1 (Nat.le_refl (mxA l (itN W l t) (l.getD i []) W)) with h | ⟨u, hu, h⟩
      · omega
      · refine Nat.le_trans h ?_
        have h1 := (cmn_le (x := l.getD i []) (y := u)).2
        have h2 := hW u hu
        have h3 : ∀ j, (itN W l t).getD j 0 ≤ n * t := itN_le hW t
        rw [Nat.mul_succ]
        unfold mK
        split
        · have := h3 (l.idxOf ((l.getD i []).drop u.length)); omega
        · split
          · have := h3 (l.idxOf (u.drop (l.getD i []).length)); omega
          · omega
    · rw [List.getD_eq_getElem?_getD, List.getElem?_eq_none (by rw [itN_len]; omega)]
      exact Nat.zero_le _
def eqU (A B : List Nat) : Nat → Bool
  | 0 => true
  | i + 1 => eqU A B i && decide (A.getD i 0 = B.getD i 0)
theorem eqU_iff {A B : List Nat} : ∀ n, eqU A B n = true ↔ ∀ i, i < n → A.getD i 0 = B.getD i 0
  | 0 => by simp [eqU]
  | n + 1 => by
    unfold eqU
    rw [Bool.and_eq_true, eqU_iff n, decide_eq_true_eq]
    constructor
    · rintro ⟨h1, h2⟩ i hi
      rcases Nat.lt_or_ge i n with h3 | h3
      · exact h1 i h3
      · obtain rfl : i = n := by omega
        exact h2
    · exact fun h => ⟨fun i hi => h i (by omega), h n (by omega)⟩
theorem eqU_full {A B : List Nat} {n : Nat} (ha : A.length = n) (hb : B.length = n) : eqU A B n = true ↔ A = B := by
  rw [eqU_iff]
  constructor
  · intro h
    apply List.ext_getElem (by omega)
    intro i h1 h2
    have := h i (by omega)
    rw [List.getD_eq_getElem?_getD, List.getElem?_eq_getElem h1, List.getD_eq_getElem?_getD, List.getElem?_eq_getElem h2] at this
    simpa using this
  · rintro rfl i _; rfl
def lnL (W l : List Wd) : List Int := ((lenF W l).map fun n => (itN W l n).map fun x : Nat => (x : Int)).getD []
theorem lnL_none {l : List Wd} (h : lenF W l = none) : lnL W l = [] := by unfold lnL; rw [h]; rfl
theorem lnL_len {l : List Wd} {n : Nat} (h : lenF W l = some n) : (lnL W l).length = l.length := by unfold lnL; rw [h]; simp [itN_len]
theorem lnL_at {l : List Wd} {n i : Nat} (h : lenF W l = some n) (hi : i < l.length) : (lnL W l).getD i 0 = (((itN W l n).getD i 0 : Nat) : Int) := by
  unfold lnL
  rw [h]
  have : i < (itN W l n).length := by rw [itN_len]; exact hi
  simp [List.getD_eq_getElem?_getD, this]
theorem lenF_in {l : List Wd} (h : [] ∈ l) : lenF W l = none := if_pos h
theorem lenF_le {l : List Wd} {n : Nat} (h : lenF W l = some n) : n ≤ l.length + 1 := by
  unfold lenF at h
  split at h
  · cases h
  · have := List.mem_of_find?_eq_some h
    have := List.mem_range.1 this
    omega
theorem dlR_some {n : Nat} (h : lenF W (restL W) = some n) : dlR W = some (dxA W (itN W (restL W) n) W.length) := by unfold dlR lenW; rw [h]; rfl
theorem dlR_out (h : lenF W (restL W) = none) : dlR W = none := by unfold dlR lenW; rw [h]; rfl
theorem dUp_yes {most : List Nat} {x y d : Nat} (h : (W.getD x []).length ≤ tgD W most x y) (h2 : d < tgD W most x y - (W.getD x []).length + 1) : dUp W most x y d = tgD W most x y - (W.getD x []).length + 1 := if_pos ⟨h, h2⟩
theorem dUp_not {most : List Nat} {x y d : Nat} (h : ¬ ((W.getD x []).length ≤ tgD W most x y ∧ d < tgD W most x y - (W.getD x []).length + 1)) : dUp W most x y d = d := if_neg h
theorem tgD_in {most : List Nat} {x y : Nat} (h : x ≠ y) (h2 : W.getD y [] <+: W.getD x []) : tgD W most x y = (W.getD y []).length + most.getD ((restL W).idxOf ((W.getD x []).drop (W.getD y []).length)) 0 := if_pos ⟨h, h2⟩
theorem tgD_ov {most : List Nat} {x y : Nat} (h : ¬ (x ≠ y ∧ W.getD y [] <+: W.getD x [])) (h2 : x ≠ y ∧ W.getD x [] <+: W.getD y []) : tgD W most x y = (W.getD x []).length + most.getD ((restL W).idxOf ((W.getD y []).drop (W.getD x []).length)) 0 := by unfold tgD; rw [if_neg h, if_pos h2]
theorem tgD_off {most : List Nat} {x y : Nat} (h : ¬ (x ≠ y ∧ W.getD y [] <+: W.getD x [])) (h2 : ¬ (x ≠ y ∧ W.getD x [] <+: W.getD y [])) : tgD W most x y = 0 := by unfold tgD; rw [if_neg h, if_neg h2]
end
end Go.Proofs.Ytoafgeobhhlplaa
