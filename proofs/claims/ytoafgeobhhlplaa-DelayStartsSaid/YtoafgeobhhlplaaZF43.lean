/- Parts of the proof: VO. -/
import Derived.Test.YtoafgeobhhlplaaZF22
import Derived.Test.YtoafgeobhhlplaaZF42
namespace Go.Proofs.Ytoafgeobhhlplaa
set_option linter.unusedSimpArgs false
set_option linter.unusedVariables false
open Go Go.Lift Go.Proofs
structure DlJ (c : Cd) (m : List (Rc × Int)) (S : Nat → Wd → Prop) (mo : Int) : Prop where
  le : ∀ i s, S i s → ∃ v : Nat, HV c.ws ([], s) v ∧ (v : Int) ≤ mo
  at_ : mo = -1 ∨ ∃ i s, i < c.ws.length ∧ AtM c.ws i s ∧ ∃ v : Nat, HV c.ws ([], s) v ∧ mo = v
  hi : -1 ≤ mo ∧ mo ≤ 4464769
theorem dlJ_add {c : Cd} {m : List (Rc × Int)} {S T : Nat → Wd → Prop} {mo : Int} (h : DlJ c m S mo) {i : Nat} {s : Wd} (hi : i < c.ws.length) (hs : AtM c.ws i s) {r : Int} (hr : RvB c.ws ([], s) r) (hb : ¬ r = forever) (hT : ∀ j t, T j t → S j t ∨ t = s) : DlJ c m T (max mo r) := by
  obtain ⟨v, hv, rfl, hvb⟩ : ∃ v : Nat, HV c.ws ([], s) v ∧ r = v ∧ v ≤ 4464769 := by
    rcases hr with h1 | ⟨h1, _⟩
    · exact h1
    · exact absurd h1 hb
  refine ⟨fun j t ht => ?_, ?_, by have := h.hi; omega⟩
  · rcases hT j t ht with h1 | rfl
    · obtain ⟨w, hw, hle⟩ := h.le j t h1
      exact ⟨w, hw, by omega⟩
    · exact ⟨v, hv, by omega⟩
  · rcases h.at_ with h1 | h1
    · exact .inr ⟨i, s, hi, hs, v, hv, by omega⟩
    · by_cases e : mo ≤ (v : Int)
      · exact .inr ⟨i, s, hi, hs, v, hv, by omega⟩
      · obtain ⟨j, t, h2, h3, w, hw, e2⟩ := h1
        exact .inr ⟨j, t, h2, h3, w, hw, by omega⟩
theorem dl_fin {c : Cd} (ho : cdN c = 0) {m : List (Rc × Int)} {mo : Int} (h : DlJ c m (fun i s => i < c.ws.length ∧ AtM c.ws i s) mo) : dlD c = mo + 1 ∧ dlB c = true := by
  have h1 := h.hi
  obtain ⟨d, hd⟩ : ∃ d : Nat, (d : Int) = mo + 1 := ⟨(mo + 1).toNat, by omega⟩
  have h2 := dl_yes ho (dl_races (fun i s hi hs => h.le i s ⟨hi, hs⟩) h.at_ hd)
  unfold dlD dlB
  rw [if_pos ho, h2, ← hd, decide_eq_true ho]
  exact ⟨rfl, rfl⟩
theorem dl_inf {c : Cd} (ho : cdN c = 0) {i : Nat} {s : Wd} (hi : i < c.ws.length) (hs : AtM c.ws i s) {r : Int} (hr : RvB c.ws ([], s) r) (hb : r = forever) : dlD c = 0 ∧ dlB c = false := by
  have h1 : ∀ n, Gn c.ws n [] s := by
    rcases hr with ⟨v, _, e, hv⟩ | ⟨_, h1⟩
    · unfold forever at hb; omega
    · exact h1
  have h2 := dl_not ho (dl_never hi hs h1)
  unfold dlD dlB
  rw [if_pos ho, h2]
  exact ⟨rfl, by simp⟩
theorem dlJ_sub {c : Cd} {m : List (Rc × Int)} {S T : Nat → Wd → Prop} {mo : Int} (h : DlJ c m S mo) (hT : ∀ k s, T k s → S k s) : DlJ c m T mo := ⟨fun i s hs => h.le i s (hT i s hs), h.at_, h.hi⟩
set_option maxRecDepth 100000 in
set_option maxHeartbeats 1000000 in
theorem delay_c (c : Cd) (hl : c.ws.length ≤ maxLen) : PC Try.prog 12 [.agg 2 (cdF c)] (.tup 3 (fun j => [.int .i64 (dlD c), .bool (dlB c), .int .i64 (arN c)].getD j .any)) := by
 have hML : maxLen = 9223372036854775807 := by decide
 refine zp Try.func12 fun G hG hR => ?_
 refine zs (zrP ?_)
 refine zs (zs (zL (zlP 1 ?_)))
 refine zcP cal38 (check_c c hl) ?_
 refine zlP 1 ?_
 refine zN (zy (fun hb12 => ?_) fun hb12 => ?_)
 · refine zs (zrP ?_)
   refine zt ?_
   refine RetOK_of ?_
   simp [hG, List.getD_cons_zero, List.getD_cons_succ, -List.getD_eq_getElem?_getD, pureOp]
   unfold dlD dlB arN; rw [if_neg hb12, if_neg hb12, decide_eq_false hb12]; exact ⟨rfl, rfl, rfl⟩
 have ho : cdN c = 0 := (by simpa using hb12)
 have hv := cd_ok ho
 have hWn := hv.n
 refine zk (zs (zL (zlP 1 ?_)))
 refine zfP cal39 [] (newRaces_c c hv) (fun m hI hno => ?_)
 refine zlP 2 ?_
 refine zN (zs (zrP ?_))
 refine zs (zs (zrP ?_))
 refine zb ?_
 refine awpS_loop (α := Nat × Int) (fun z => ⟨[(1, .vptr 2 (cdF c) 0), (5, .ptr (1, 0) 0 0), (6, .int .i64 z.2), (16, strs c.ws), (17, .int .i64 c.ws.length), (18, .int .i64 (z.1 : Nat))], [(0, .one (.mp (mpE rcK intV m))), (1, .one (.arr 1 3 (fun _ => rvF c (.map (0, 0)))))], 2⟩) (fun z => z.1 ≤ c.ws.length ∧ DlJ c m (fun k s => k < z.1 ∧ AtM c.ws k s) z.2) (fun z => c.ws.length - z.1) ((0, -1)) (⟨Nat.zero_le _, ⟨fun k s h => absurd h.1 (Nat.not_lt_zero _), .inl rfl, by decide⟩⟩) ?_ ?_
 · exact zwP (fun k => if k = 0 then 1 else if k = 1 then 2 else k) (fun k => k == 0) (fun _ => false)
 rintro ⟨i, mo⟩ ⟨hi, hD⟩
 simp only at hi hD
 obtain ⟨K, hclr, hbx0, hm4, hm5⟩ := hI
 have hDh := hD.hi
 refine zs (zrP ?_)
 refine zs (zy (fun hb19 => ?_) fun hb19 => ?_)
 · refine zk (zs (zb (zs (zrP ?_))))
   refine zs (zL (zlP 2 ?_))
   refine zfP cal40 [0] (atR_c c hv i hb19 m) (fun L hI hno => ?_) (b := by simp [hG, List.range'_succ, List.range'_zero, List.getD_cons_zero, List.getD_cons_succ, -List.getD_eq_getElem?_getD])
   refine zlP 2 ?_
   refine zN (zb ?_)
   refine awpS_loop (α := Nat × Int) (fun z => ⟨[(1, .vptr 2 (cdF c) 0), (5, .ptr (1, 0) 0 0), (6, .int .i64 z.2), (16, strs c.ws), (17, .int .i64 c.ws.length), (18, .int .i64 (i : Nat)), (23, rcs L), (24, .int .i64 L.length), (25, .int .i64 (z.1 : Nat))], [(0, .one (.mp (mpE rcK intV m))), (1, .one (.arr 1 3 (fun _ => rvF c (.map (0, 0)))))], 2⟩) (fun z => z.1 ≤ L.length ∧ DlJ c m (fun k s => (k < i ∧ AtM c.ws k s) ∨ (([], s) : Rc) ∈ L.take z.1) z.2) (fun z => L.length - z.1) ((0, mo)) (⟨Nat.zero_le _, dlJ_sub hD fun k s h => h.elim id fun h => (by cases h)⟩) ?_ ?_
   · exact ziP
   rintro ⟨j, mo2⟩ ⟨hj, hD2⟩
   simp only at hj hD2
   refine zs (zrP ?_)
   refine zs (zy (fun hb26 => ?_) fun hb26 => ?_)
   · obtain ⟨hp1, hp2⟩ := (hI.mem _).1 (getD_mem (d := dRc) hb26)
     have hpe : (([], (L.getD j dRc).2) : Rc) = L.getD j dRc := (by rw [← hp1])
     have hrb : RvB c.ws ([], (L.getD j dRc).2) ((alGet m (L.getD j dRc)).getD 0) := (by have h := hm5 _ (hm4 i hb19 _ hp2); rw [hpe] at h; rw [hpe]; exact h)
     have hLb := at_len hv.len hWn.2 hI
     refine zk (zs (zb (zs (zrP ?_))))
     refine zs (zs (zrP ?_))
     refine zy (fun hb33 => ?_) fun hb33 => ?_
     · refine zs (zrP ?_)
       refine zt (zbt (ztt (zbt (zbt (ztt (zbt ?_))))))
       refine RetOK_of ?_
       simp [hG, List.getD_cons_zero, List.getD_cons_succ, -List.getD_eq_getElem?_getD, pureOp]
       obtain ⟨h1, h2⟩ := dl_inf ho hb19 hp2 hrb hb33; rw [h1, h2]; exact ⟨rfl, rfl, (if_pos ho).symm⟩
     refine zk (zrP ?_)
     refine zn (zbn (zrP ?_))
     refine zn ?_
     refine round_end ((j + 1, max mo2 ((alGet m (L.getD j dRc)).getD 0))) (⟨by simp only; omega, dlJ_add hD2 hb19 hp2 hrb hb33 fun k s h => h.elim (fun h => .inl (.inl h)) fun h => by rw [← take_getD (d := dRc) hb26, List.mem_append, List.mem_singleton] at h; exact h.elim (fun h => .inl (.inr h)) fun h => .inr (congrArg Prod.snd h)⟩) (by simp only; omega) ?_
     exact ziP
   obtain rfl : j = L.length := (by omega)
   rw [List.take_length] at hD2
   refine zx (ztx (zbx (zn (zbn (zrP ?_)))))
   refine zn ?_
   refine round_end ((i + 1, mo2)) (⟨by simp only; omega, dlJ_sub hD2 fun k s h => by rcases Nat.lt_or_ge k i with h1 | h1; (exact .inl ⟨h1, h.2⟩); (obtain rfl : k = i := (by have := h.1; simp only at this; omega); exact .inr ((hI.mem _).2 ⟨rfl, h.2⟩))⟩) (by simp only; omega) ?_
   exact ziP
 obtain rfl : i = c.ws.length := (by omega)
 refine zx (ztx (zbx (zs (zrP ?_))))
 refine zt ?_
 refine RetOK_of ?_
 simp [hG, List.getD_cons_zero, List.getD_cons_succ, -List.getD_eq_getElem?_getD, pureOp]
 obtain ⟨h1, h2⟩ := dl_fin ho hD; rw [h1, h2]; exact ⟨rfl, rfl, (if_pos ho).symm⟩
end Go.Proofs.Ytoafgeobhhlplaa
