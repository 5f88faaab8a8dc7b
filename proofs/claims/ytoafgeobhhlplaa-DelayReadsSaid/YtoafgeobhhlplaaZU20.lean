/- Parts of the proof: VO DP DQ VS VT. -/
import Derived.Test.YtoafgeobhhlplaaZU11
import Derived.Test.YtoafgeobhhlplaaZU14
import Derived.Test.YtoafgeobhhlplaaZU18
import Derived.Test.YtoafgeobhhlplaaZU19
namespace Go.Proofs.Ytoafgeobhhlplaa
set_option linter.unusedSimpArgs false
set_option linter.unusedVariables false
open Go Go.Lift Go.Proofs
structure DlJ (c : Cd) (m : List (Rc × Int)) (S : Nat → Wd → Prop) (mo : Int) : Prop where
  le : ∀ i s, S i s → ∃ v : Nat, HV c.ws ([], s) v ∧ (v : Int) ≤ mo
  at_ : mo = -1 ∨ ∃ i s, i < c.ws.length ∧ AtM c.ws i s ∧ ∃ v : Nat, HV c.ws ([], s) v ∧ mo = v
  hi : -1 ≤ mo ∧ mo ≤ 4464769
theorem dlJ_add {c : Cd} {m : List (Rc × Int)} {S T : Nat → Wd → Prop} {mo : Int} (h : DlJ c m S mo) {i : Nat} {s : Wd} (hi : i < c.ws.length) (hs : AtM c.ws i s) {r : Int} (hr : RvB c.ws ([], s) r) (hb : ¬ r = forever) (hT : ∀ j t, T j t → S j t ∨ t = s) : DlJ c m T (max mo r) := by
  obtain ⟨v, hv, rfl, hvb⟩ : ∃ v : Nat, HV c.ws ([], s) v ∧ r = v ∧ v ≤ 4464769 := by
    rcases hr with h1 | ⟨h1, _⟩
    · exact h1
    · exact absurd h1 hb
  refine ⟨fun j t ht => ?_, ?_, by have := h.hi; omega⟩
  · rcases hT j t ht with h1 | rfl
    · obtain ⟨w, hw, hle⟩ := h.le j t h1
      exact ⟨w, hw, by omega⟩
    · exact ⟨v, hv, by omega⟩
  · rcases h.at_ with h1 | h1
    · exact .inr ⟨i, s, hi, hs, v, hv, by omega⟩
    · by_cases e : mo ≤ (v : Int)
      · exact .inr ⟨i, s, hi, hs, v, hv, by omega⟩
      · obtain ⟨j, t, h2, h3, w, hw, e2⟩ := h1
        exact .inr ⟨j, t, h2, h3, w, hw, by omega⟩
theorem dl_fin {c : Cd} (ho : cdN c = 0) {m : List (Rc × Int)} {mo : Int} (h : DlJ c m (fun i s => i < c.ws.length ∧ AtM c.ws i s) mo) : dlD c = mo + 1 ∧ dlB c = true := by
  have h1 := h.hi
  obtain ⟨d, hd⟩ : ∃ d : Nat, (d : Int) = mo + 1 := ⟨(mo + 1).toNat, by omega⟩
  have h2 := dl_yes ho (dl_races (fun i s hi hs => h.le i s ⟨hi, hs⟩) h.at_ hd)
  unfold dlD dlB
  rw [if_pos ho, h2, ← hd, decide_eq_true ho]
  exact ⟨rfl, rfl⟩
theorem dl_inf {c : Cd} (ho : cdN c = 0) {i : Nat} {s : Wd} (hi : i < c.ws.length) (hs : AtM c.ws i s) {r : Int} (hr : RvB c.ws ([], s) r) (hb : r = forever) : dlD c = 0 ∧ dlB c = false := by
  have h1 : ∀ n, Gn c.ws n [] s := by
    rcases hr with ⟨v, _, e, hv⟩ | ⟨_, h1⟩
    · unfold forever at hb; omega
    · exact h1
  have h2 := dl_not ho (dl_never hi hs h1)
  unfold dlD dlB
  rw [if_pos ho, h2]
  exact ⟨rfl, by simp⟩
theorem dlJ_sub {c : Cd} {m : List (Rc × Int)} {S T : Nat → Wd → Prop} {mo : Int} (h : DlJ c m S mo) (hT : ∀ k s, T k s → S k s) : DlJ c m T mo := ⟨fun i s hs => h.le i s (hT i s hs), h.at_, h.hi⟩
set_option maxRecDepth 100000 in
set_option maxHeartbeats 1000000 in
theorem delay_c (c : Cd) (hl : c.ws.length ≤ maxLen) : PC Try.prog 12 [.agg 2 (cdF c)] (.tup 3 (fun j => [.int .i64 (dlD c), .bool (dlB c), .int .i64 (arN c)].getD j .any)) := by
 have hML : maxLen = 9223372036854775807 := by decide
 refine zp Try.func12 fun G hG hR => ?_
 refine zs (zrP ?_)
 refine zs (zs (zL (zlP 1 ?_)))
 refine zcP cal38 (check_c c hl) ?_
 refine zlP 1 ?_
 refine zN (zy (fun hb12 => ?_) fun hb12 => ?_)
 · refine zs (zrP ?_)
   refine zt ?_
   refine RetOK_of ?_
   simp [hG, List.getD_cons_zero, List.getD_cons_succ, -List.getD_eq_getElem?_getD, pureOp]
   unfold dlD dlB arN; rw [if_neg hb12, if_neg hb12, decide_eq_false hb12]; exact ⟨rfl, rfl, rfl⟩
 have ho : cdN c = 0 := (by simpa using hb12)
 have hv := cd_ok ho
 have hWn := hv.n
 refine zk (zs (zL (zlP 1 ?_)))
 refine zfP cal39 [] (newRaces_c c hv) (fun m hI hno => ?_)
 refine zlP 2 ?_
 refine zN (zs (zrP ?_))
 refine zs (zs (zrP ?_))
 refine zb ?_
 refine awpS_loop (α := Nat × Int) (fun z => ⟨[(1, .vptr 2 (cdF c) 0), (5, .ptr (1, 0) 0 0), (6, .int .i64 z.2), (16, strs c.ws), (17, .int .i64 c.ws.length), (18, .int .i64 (z.1 : Nat))], [(0, .one (.mp (mpE rcK intV m))), (1, .one (.arr 1 3 (fun _ => rvF c (.map (0, 0)))))], 2⟩) (fun z => z.1 ≤ c.ws.length ∧ DlJ c m (fun k s => k < z.1 ∧ AtM c.ws k s) z.2) (fun z => c.ws.length - z.1) ((0, -1)) (⟨Nat.zero_le _, ⟨fun k s h => absurd h.1 (Nat.not_lt_zero _), .inl rfl, by decide⟩⟩) ?_ ?_
 · exact zwP (fun k => if k = 0 then 1 else if k = 1 then 2 else k) (fun k => k == 0) (fun _ => false)
 rintro ⟨i, mo⟩ ⟨hi, hD⟩
 simp only at hi hD
 obtain ⟨K, hclr, hbx0, hm4, hm5⟩ := hI
 have hDh := hD.hi
 refine zs (zrP ?_)
 refine zs (zy (fun hb19 => ?_) fun hb19 => ?_)
 · refine zk (zs (zb (zs (zrP ?_))))
   refine zs (zL (zlP 2 ?_))
   refine zfP cal40 [0] (atR_c c hv i hb19 m) (fun L hI hno => ?_) (b := by simp [hG, List.range'_succ, List.range'_zero, List.getD_cons_zero, List.getD_cons_succ, -List.getD_eq_getElem?_getD])
   refine zlP 2 ?_
   refine zN (zb ?_)
   refine awpS_loop (α := Nat × Int) (fun z => ⟨[(1, .vptr 2 (cdF c) 0), (5, .ptr (1, 0) 0 0), (6, .int .i64 z.2), (16, strs c.ws), (17, .int .i64 c.ws.length), (18, .int .i64 (i : Nat)), (23, rcs L), (24, .int .i64 L.length), (25, .int .i64 (z.1 : Nat))], [(0, .one (.mp (mpE rcK intV m))), (1, .one (.arr 1 3 (fun _ => rvF c (.map (0, 0)))))], 2⟩) (fun z => z.1 ≤ L.length ∧ DlJ c m (fun k s => (k < i ∧ AtM c.ws k s) ∨ (([], s) : Rc) ∈ L.take z.1) z.2) (fun z => L.length - z.1) ((0, mo)) (⟨Nat.zero_le _, dlJ_sub hD fun k s h => h.elim id fun h => (by cases h)⟩) ?_ ?_
   · exact ziP
   rintro ⟨j, mo2⟩ ⟨hj, hD2⟩
   simp only at hj hD2
   refine zs (zrP ?_)
   refine zs (zy (fun hb26 => ?_) fun hb26 => ?_)
   · obtain ⟨hp1, hp2⟩ := (hI.mem _).1 (getD_mem (d := dRc) hb26)
     have hpe : (([], (L.getD j dRc).2) : Rc) = L.getD j dRc := (by rw [← hp1])
     have hrb : RvB c.ws ([], (L.getD j dRc).2) ((alGet m (L.getD j dRc)).getD 0) := (by have h := hm5 _ (hm4 i hb19 _ hp2); rw [hpe] at h; rw [hpe]; exact h)
     have hLb := at_len hv.len hWn.2 hI
     refine zk (zs (zb (zs (zrP ?_))))
     refine zs (zs (zrP ?_))
     refine zy (fun hb33 => ?_) fun hb33 => ?_
     · refine zs (zrP ?_)
       refine zt (zbt (ztt (zbt (zbt (ztt (zbt ?_))))))
       refine RetOK_of ?_
       simp [hG, List.getD_cons_zero, List.getD_cons_succ, -List.getD_eq_getElem?_getD, pureOp]
       obtain ⟨h1, h2⟩ := dl_inf ho hb19 hp2 hrb hb33; rw [h1, h2]; exact ⟨rfl, rfl, (if_pos ho).symm⟩
     refine zk (zrP ?_)
     refine zn (zbn (zrP ?_))
     refine zn ?_
     refine round_end ((j + 1, max mo2 ((alGet m (L.getD j dRc)).getD 0))) (⟨by simp only; omega, dlJ_add hD2 hb19 hp2 hrb hb33 fun k s h => h.elim (fun h => .inl (.inl h)) fun h => by rw [← take_getD (d := dRc) hb26, List.mem_append, List.mem_singleton] at h; exact h.elim (fun h => .inl (.inr h)) fun h => .inr (congrArg Prod.snd h)⟩) (by simp only; omega) ?_
     exact ziP
   obtain rfl : j = L.length := (by omega)
   rw [List.take_length] at hD2
   refine zx (ztx (zbx (zn (zbn (zrP ?_)))))
   refine zn ?_
   refine round_end ((i + 1, mo2)) (⟨by simp only; omega, dlJ_sub hD2 fun k s h => by rcases Nat.lt_or_ge k i with h1 | h1; (exact .inl ⟨h1, h.2⟩); (obtain rfl : k = i := (by have := h.1; simp only at this; omega); exact .inr ((hI.mem _).2 ⟨rfl, h.2⟩))⟩) (by simp only; omega) ?_
   exact ziP
 obtain rfl : i = c.ws.length := (by omega)
 refine zx (ztx (zbx (zs (zrP ?_))))
 refine zt ?_
 refine RetOK_of ?_
 simp [hG, List.getD_cons_zero, List.getD_cons_succ, -List.getD_eq_getElem?_getD, pureOp]
 obtain ⟨h1, h2⟩ := dl_fin ho hD; rw [h1, h2]; exact ⟨rfl, rfl, (if_pos ho).symm⟩
end Go.Proofs.Ytoafgeobhhlplaa
namespace Go.Proofs.Ytoafgeobhhlplaa
set_option linter.unusedSimpArgs false
set_option linter.unusedVariables false
open Go Go.Lift
theorem tkS_getD {α : Type} {d : α} {L : List α} {j : Nat} (h : j < L.length) : L.take j ++ [L.getD j d] = L.take (j + 1) := by
  rw [List.getD_eq_getElem?_getD, List.getElem?_eq_getElem h, List.take_succ_eq_append_getElem h]; rfl
theorem plS_at {l : List Wd} {s : Wd} {i : Nat} (hi : i < l.length) (hn : ∀ j, j < i → l.getD j [] ≠ s) (h : l.getD i [] = s) : plS l s = i := by
  have hm : s ∈ l := h ▸ q_mem hi
  obtain ⟨h1, h2, h3⟩ := plS_mem hm
  rw [h1]
  rcases Nat.lt_trichotomy (l.idxOf s) i with h4 | h4 | h4
  · exact absurd h3 (hn _ h4)
  · rw [h4]
  · exfalso
    have := List.not_of_lt_findIdx (p := (· == s)) (xs := l) (i := i) h4
    rw [List.getD_eq_getElem?_getD, List.getElem?_eq_getElem hi] at h
    simp only [Option.getD_some] at h
    simp [h] at this
theorem plS_no {l : List Wd} {s : Wd} (hn : ∀ j, j < l.length → l.getD j [] ≠ s) : plS l s = -1 := by
  unfold plS
  rw [if_neg]
  intro h
  obtain ⟨_, h2, h3⟩ := plS_mem h
  exact hn _ h2 h3
theorem plS_pos {l : List Wd} {s : Wd} : 0 ≤ plS l s ↔ s ∈ l := by
  unfold plS
  by_cases h : s ∈ l
  · simp [h]
  · simp [h]
section
variable {W : List Wd}
theorem sufs_len : ∀ {W : List Wd}, (∀ w ∈ W, w.length ≤ 32) → (sufs W).length ≤ W.length * 33
  | [], _ => by simp [sufs]
  | w :: W, h => by
    have ih := sufs_len (W := W) fun v hv => h v (List.mem_cons_of_mem _ hv)
    have h1 := h w List.mem_cons_self
    have e : sufs (w :: W) = ((List.range (w.length + 1)).map fun k => w.drop k) ++ sufs W := rfl
    rw [e, List.length_append, List.length_map, List.length_range, List.length_cons]
    omega
theorem rst_box {l : List Wd} (hn : W.length ≤ 64) (hW : ∀ w ∈ W, w.length ≤ 32) (h : RSt W l) : l.length ≤ 2112 := by
  have := h.len
  have := sufs_len hW
  omega
theorem rest_box {l : List Wd} (hn : W.length ≤ 64) (hW : ∀ w ∈ W, w.length ≤ 32) : (restL W).length ≤ 2112 := rst_box hn hW (qs_st _)
theorem itN_zero {l : List Wd} {p : Nat} : (itN W l 0).getD p 0 = 0 := by
  unfold itN
  rw [List.getD_eq_getElem?_getD, List.getElem?_replicate]
  split <;> rfl
theorem itN_le {n : Nat} (hW : ∀ w ∈ W, w.length ≤ n) {l : List Wd} : ∀ t i, (itN W l t).getD i 0 ≤ n * t
  | 0, i => by rw [itN_zero]; exact Nat.zero_le _
  | t + 1, i => by
    by_cases hi : i < l.length
    · show (nxN W l (itN W l t)).getD i 0 ≤ _
      rw [nxN_at hi]
      rcases mxA_ge.1 (Nat.le_refl (mxA l (itN W l t) (l.getD i []) W)) with h | ⟨u, hu, h⟩
      · omega
      · refine Nat.le_trans h ?_
        have h1 := (cmn_le (x := l.getD i []) (y := u)).2
        have h2 := hW u hu
        have h3 : ∀ j, (itN W l t).getD j 0 ≤ n * t := itN_le hW t
        rw [Nat.mul_succ]
        unfold mK
        split
        · have := h3 (l.idxOf ((l.getD i []).drop u.length)); omega
        · split
          · have := h3 (l.idxOf (u.drop (l.getD i []).length)); omega
          · omega
    · rw [List.getD_eq_getElem?_getD, List.getElem?_eq_none (by rw [itN_len]; omega)]
      exact Nat.zero_le _
theorem lenF_le {l : List Wd} {n : Nat} (h : lenF W l = some n) : n ≤ l.length + 1 := by
  unfold lenF at h
  split at h
  · cases h
  · have := List.mem_of_find?_eq_some h
    have := List.mem_range.1 this
    omega
theorem dlR_some {n : Nat} (h : lenF W (restL W) = some n) : dlR W = some (dxA W (itN W (restL W) n) W.length) := by unfold dlR lenW; rw [h]; rfl
theorem dlR_out (h : lenF W (restL W) = none) : dlR W = none := by unfold dlR lenW; rw [h]; rfl
end
noncomputable def gnF (W : List Wd) (k : Nat) (L : List Rc) : List Rc := L.filter fun y => @decide (Gn W k y.1 y.2) (Classical.propDecidable _)
section
variable {W : List Wd} {q i n k : Nat} {K : List Rc}
theorem gnF_mem {L : List Rc} {y : Rc} : y ∈ gnF W k L ↔ y ∈ L ∧ Gn W k y.1 y.2 := by
  unfold gnF
  rw [List.mem_filter]
  simp
theorem gnF_nil : gnF W k [] = [] := rfl
theorem gnF_app {A B : List Rc} : gnF W k (A ++ B) = gnF W k A ++ gnF W k B := List.filter_append ..
theorem gnF_yes {L : List Rc} {j : Nat} (hj : j < L.length) (h : Gn W k (L.getD j dRc).1 (L.getD j dRc).2) : gnF W k (L.take (j + 1)) = gnF W k (L.take j) ++ [L.getD j dRc] := by
  rw [← tkS_getD (d := dRc) hj, gnF_app]
  congr 1
  unfold gnF
  rw [List.filter_cons_of_pos (by simpa using h)]; rfl
theorem gnF_not {L : List Rc} {j : Nat} (hj : j < L.length) (h : ¬ Gn W k (L.getD j dRc).1 (L.getD j dRc).2) : gnF W k (L.take (j + 1)) = gnF W k (L.take j) := by
  rw [← tkS_getD (d := dRc) hj, gnF_app]
  unfold gnF
  rw [List.filter_cons_of_neg (by simpa using h)]; exact List.append_nil _
structure FirJ (W : List Wd) (q i n : Nat) (K : List Rc) (u : Wd) (N : List Rc) : Prop where
  le : u.length ≤ n
  nd : N.Nodup
  sub : ∀ p ∈ N, p ∈ K
  set : ∀ p, p ∈ N ↔ NowR W i (n - u.length) u p
  gr : grW W q i (n - u.length) u = grW W q i n []
  ex : exO W i n [] ↔ exO W i (n - u.length) u
  pos : 0 < u.length → N ≠ []
theorem fir_ini {L N : List Rc} (hL : AtL W i L) (hN : N.Nodup) (hs : ∀ p ∈ N, p ∈ K) (h : ∀ p, p ∈ N ↔ p ∈ L ∧ Gn W n p.1 p.2) : FirJ W q i n K [] N where
  le := Nat.zero_le _
  nd := hN
  sub := hs
  set := fun p => by
    rw [h, hL.mem]
    exact now_zero.symm
  gr := rfl
  ex := Iff.rfl
  pos := fun h => absurd h (Nat.lt_irrefl 0)
theorem done_mem {N : List Rc} {done : List Nat} (hz : done.Perm (List.range N.length)) {f : Rc → List Rc} {y : Rc} : y ∈ (done.flatMap fun d => f (N.getD d dRc)) ↔ ∃ p ∈ N, y ∈ f p := by
  rw [List.mem_flatMap]
  constructor
  · rintro ⟨d, hd, h⟩
    have := List.mem_range.1 (hz.mem_iff.1 hd)
    refine ⟨_, ?_, h⟩
    rw [List.getD_eq_getElem?_getD, List.getElem?_eq_getElem this]
    exact List.getElem_mem this
  · rintro ⟨p, hp, h⟩
    obtain ⟨d, hd, e⟩ := List.mem_iff_getElem.1 hp
    refine ⟨d, hz.mem_iff.2 (List.mem_range.2 hd), ?_⟩
    rw [List.getD_eq_getElem?_getD, List.getElem?_eq_getElem hd]
    simpa [e] using h
noncomputable def fiN (W : List Wd) (k : Nat) (N : List Rc) (done : List Nat) (l : UInt8) : List Rc := addL [] (gnF W k (done.flatMap fun d => aft W (N.getD d dRc) l))
theorem fiN_nil {N : List Rc} {l : UInt8} : fiN W k N [] l = [] := rfl
theorem fiN_row {N : List Rc} {done : List Nat} {d : Nat} {l : UInt8} : fiN W k N (done ++ [d]) l = addL (fiN W k N done l) (gnF W k (aft W (N.getD d dRc) l)) := by
  unfold fiN
  rw [List.flatMap_append, gnF_app, addL_app]
  simp
theorem fiN_nd {N : List Rc} {done : List Nat} {l : UInt8} : (fiN W k N done l).Nodup := addL_nd List.nodup_nil
section
variable {u : Wd} {N : List Rc} (hF : FirJ W q i n K u N) (hk : n - u.length = k + 1)
include hF hk
theorem fir_set {done : List Nat} (hz : done.Perm (List.range N.length)) {l : UInt8} {y : Rc} : y ∈ fiN W k N done l ↔ NowR W i k (u ++ [l]) y := by
  unfold fiN
  rw [addL_mem, gnF_mem, done_mem hz (f := fun p => aft W p l), now_succ]
  constructor
  · rintro (h | ⟨⟨p, hp, h1⟩, h2⟩)
    · cases h
    · exact ⟨⟨p, by have := (hF.set p).1 hp; rwa [hk] at this, h1⟩, h2⟩
  · rintro ⟨⟨p, hp, h1⟩, h2⟩
    exact .inr ⟨⟨p, (hF.set p).2 (by rw [hk]; exact hp), h1⟩, h2⟩
theorem fir_miss {done : List Nat} (hz : done.Perm (List.range N.length)) {l : UInt8} (h : fiN W k N done l = []) : ¬ exO W i k (u ++ [l]) := by
  intro h2
  obtain ⟨p, hp⟩ := now_ex.1 h2
  have := (fir_set hF hk hz).2 hp
  rw [h] at this; cases this
theorem fir_next (hW : ∀ w ∈ W, LtOK q w) (hK : Clr W q K) {done : List Nat} (hz : done.Perm (List.range N.length)) {j : Nat} (hj : j < q) (hno : ∀ j', j' < j → ¬ exO W i k (u ++ [letters.getD j' 0])) (hne : fiN W k N done (letters.getD j 0) ≠ []) : FirJ W q i n K (u ++ [letters.getD j 0]) (fiN W k N done (letters.getD j 0)) := by
  have hl : n - (u ++ [letters.getD j 0]).length = k := by rw [List.length_append, List.length_singleton]; omega
  have he : exO W i k (u ++ [letters.getD j 0]) := by
    obtain ⟨y, hy⟩ := List.exists_mem_of_ne_nil _ hne
    exact now_ex.2 ⟨y, (fir_set hF hk hz).1 hy⟩
  refine ⟨by rw [List.length_append, List.length_singleton]; omega, fiN_nd, ?_, ?_, ?_, ?_, fun _ => hne⟩
  · intro y hy
    unfold fiN at hy
    rw [addL_mem, gnF_mem, done_mem hz (f := fun p => aft W p (letters.getD j 0))] at hy
    rcases hy with h | ⟨⟨p, hp, h1⟩, _⟩
    · cases h
    · exact hK.suc p (hF.sub p hp) y (suc_mem.2 ⟨j, hj, h1⟩)
  · intro y; rw [hl]; exact fir_set hF hk hz
  · rw [hl, ← gr_step hj he hno, ← hk]; exact hF.gr
  · rw [hF.ex, hl, hk, exO_succ hW]
    exact ⟨fun _ => he, fun _ => ⟨j, hj, he⟩⟩
theorem fir_none (hW : ∀ w ∈ W, LtOK q w) (hno : ∀ j, j < q → ¬ exO W i k (u ++ [letters.getD j 0])) : fstW W q i n = none := by
  unfold fstW
  rw [if_neg]
  rw [hF.ex, hk, exO_succ hW]
  rintro ⟨j, hj, h⟩
  exact hno j hj h
end
theorem fir_yes {u : Wd} {N : List Rc} (hF : FirJ W q i n K u N) (h : u.length = n) (hne : N ≠ []) : fstW W q i n = some u := by
  have hz : n - u.length = 0 := by omega
  obtain ⟨y, hy⟩ := List.exists_mem_of_ne_nil _ hne
  have h1 : exO W i n [] := by rw [hF.ex, now_ex]; exact ⟨y, (hF.set y).1 hy⟩
  unfold fstW
  rw [if_pos h1, ← hF.gr, hz]; rfl
theorem fir_not {u : Wd} {N : List Rc} (hF : FirJ W q i n K u N) (h : N = []) : u = [] ∧ fstW W q i n = none := by
  have hu : u = [] := by
    rcases Nat.eq_zero_or_pos u.length with h1 | h1
    · exact List.length_eq_zero_iff.1 h1
    · exact absurd h (hF.pos h1)
  refine ⟨hu, ?_⟩
  unfold fstW
  rw [if_neg]
  rw [hF.ex, now_ex]
  rintro ⟨p, hp⟩
  have := (hF.set p).2 hp
  rw [h] at this; cases this
theorem fir_fin {u : Wd} {N : List Rc} (hF : FirJ W q i n K u N) (h : u.length = n) : (fstW W q i n).getD [] = u ∧ (fstW W q i n).isSome = decide (0 < N.length) := by
  by_cases hN : N = []
  · obtain ⟨h1, h2⟩ := fir_not hF hN
    rw [h2, h1, hN]; exact ⟨rfl, rfl⟩
  · rw [fir_yes hF h hN]
    exact ⟨rfl, (decide_eq_true (List.length_pos_iff.2 hN)).symm⟩
theorem aft_in {x y : Rc} (hK : Clr W q K) (hx : x ∈ K) {j : Nat} (hj : j < q) (hy : y ∈ aft W x (letters.getD j 0)) : y ∈ K := hK.suc x hx y (suc_mem.2 ⟨j, hj, hy⟩)
end
end Go.Proofs.Ytoafgeobhhlplaa
namespace Go.Proofs.Ytoafgeobhhlplaa
set_option linter.unusedSimpArgs false
set_option linter.unusedVariables false
open Go Go.Lift Go.Proofs
def posB (k : Nat) : Bool := decide (0 < k)
@[simp] theorem posB_zero : posB 0 = false := rfl
@[simp] theorem posB_succ {k : Nat} : posB (k + 1) = true := by simp [posB]
theorem posB_no {k : Nat} (h : posB k = false) : k = 0 := by simpa [posB] using h
theorem posB_yes {k : Nat} (h : posB k = true) : 0 < k := by simpa [posB] using h
def bufA (b : Bool) (p m : Nat) : AVal := match b with
  | true => .sl (p, 0) 0 m
  | false => .nils
@[simp] theorem bufA_true {p m : Nat} : bufA true p m = .sl (p, 0) 0 m := rfl
@[simp] theorem bufA_false {p m : Nat} : bufA false p m = .nils := rfl
@[simp] theorem one_bufA {b : Bool} {p m : Nat} : (bufA b p m).one = true := by cases b <;> rfl
def byF (w : List UInt8) (i _j : Nat) : AVal := .int .u8 (w.getD i 0).toNat
@[simp] theorem byF_eq {w : List UInt8} {i j : Nat} : byF w i j = .int .u8 (w.getD i 0).toNat := rfl
theorem app_bytes {w v : List UInt8} {i j : Nat} (h : i < w.length + v.length) : app (fun i _ => .int .u8 (w.getD i 0).toNat) w.length (fun i _ => .int .u8 (v.getD i 0).toNat) i j = .int .u8 ((w ++ v).getD i 0).toNat := by
  unfold app
  by_cases h1 : i < w.length
  · rw [if_pos h1]; simp only [List.getD_eq_getElem?_getD, List.getElem?_append_left h1]
  · rw [if_neg h1]; simp only [List.getD_eq_getElem?_getD, List.getElem?_append_right (Nat.le_of_not_lt h1)]
def selfQ : Bool → AVal
  | true => .ptr (0, 0) 0 0
  | false => .nilp
@[simp] theorem selfQ_true : selfQ true = .ptr (0, 0) 0 0 := rfl
@[simp] theorem selfQ_false : selfQ false = .nilp := rfl
@[simp] theorem one_selfQ {b : Bool} : (selfQ b).one = true := by cases b <;> rfl
@[simp] theorem VLe_selfQ {h : Heap} {σ : Lift.Id → Lift.Id} {fz : Nat → Bool} {vz : Lift.Id → Bool} {x : Nat} {b : Bool} : VLe h σ fz vz x (selfQ b) (selfQ b) = (b = true → VLe h σ fz vz x (.ptr (0, 0) 0 0) (.ptr (0, 0) 0 0)) := by
  cases b <;> simp [VLe]
theorem selfQ_or {b : Bool} : selfQ b = .nilp ∨ selfQ b = .ptr (0, 0) 0 0 := by cases b <;> simp
def bF (b u : AVal) (j : Nat) : AVal := [b, u].getD j .any
@[simp] theorem bF0 {b u : AVal} : bF b u 0 = b := rfl
@[simp] theorem bF1 {b u : AVal} : bF b u 1 = u := rfl
theorem blies : liesAt Try.prog Try.prog.depth 87 1 0 87 1 = true := by kernel_rfl
theorem bcells : Try.prog.cellsOf 87 = 2 := by kernel_rfl
@[simp] theorem selfF_eq {f : Nat → Nat → AVal} {off i j : Nat} : selfF f off i j = if j = off then .ptr (0, 0) 0 off else f i j := rfl
theorem app_byte {w : List UInt8} {v : UInt8} {f : Nat → Nat → AVal} {i : Nat} (hf : f 0 0 = .int .u8 v.toNat) (h : i < w.length + 1) : app (fun i _ => .int .u8 (w.getD i 0).toNat) w.length f i 0 = .int .u8 ((w ++ [v]).getD i 0).toNat := by
  unfold app
  by_cases h1 : i < w.length
  · rw [if_pos h1]; simp only [List.getD_eq_getElem?_getD, List.getElem?_append_left h1]
  · obtain rfl : i = w.length := by omega
    rw [if_neg h1, Nat.sub_self, hf]
    simp
set_option maxRecDepth 100000 in
theorem writeByte_c (b : Bool) (w : List UInt8) (v : UInt8) (hw : w.length ≤ 1000000) : FC1 Try.prog 75 [.ptr (0, 0) 0 0, .int .u8 v.toNat] [(0, .typ 87 (.arr 1 2 (fun _ j => bF (selfQ b) (.sl (1, 0) 0 w.length) j))), (1, .typ 5 (.arr (w).length 1 (byF (w))))] 2 (.any) [(0, .typ 87 (.arr 1 2 (fun _ j => bF (.ptr (0, 0) 0 0) (.sl (2, 0) 0 (w ++ [v]).length) j))), (2, .typ 5 (.arr ((w ++ [v])).length 1 (byF ((w ++ [v])))))] 3 := by
 refine FC_introS T_ok Try.func75 rfl (by simp [Try.ntmps75]) fun G hG hR => ?_
 simp only [Try.ntmps75, Try.results75] at hG ⊢
 simp only [argEnv, Nat.zero_add, Nat.reduceAdd]
 refine zs (zrP ?_)
 refine zs (zL (zlP 1 ?_))
 refine zfP cal77 [0, 1] (copyCheckB (hin := [(0, .typ 87 (.arr 1 2 (fun _ j => bF (selfQ b) (.sl (1, 0) 0 w.length) j))), (1, .typ 5 (.arr (w).length 1 (byF (w))))]) (nin := 2) rfl rfl bcells (by omega) blies selfQ_or) (fun x hI hno => ?_)
 refine zN (zs (zrP ?_))
 refine zs (zrP ?_)
 refine zt ?_
 refine RetF_of (()) (fun k => if k = 2 then 3 else k) (fun _ => false) (fun _ => false) trivial ?_ ?_ (by rfl) (by simp) (fun k hk => ⟨if_neg (by omega), rfl⟩)
 · simp [hG, List.getD_cons_zero, List.getD_cons_succ, -List.getD_eq_getElem?_getD, pureOp]
 simp [hG, pureOp, List.getD_cons_zero, List.getD_cons_succ, -List.getD_eq_getElem?_getD]; exact fun i hi => app_byte (by simp) hi
set_option maxRecDepth 100000 in
theorem lessD_c (a b : List UInt8) : PC Try.prog 53 [.str a, .str b] (.bool (decide (lessW a b))) := by
 refine zp Try.func53 fun G hG hR => ?_
 refine zs (zr ?_)
 refine zs (zr ?_)
 refine zt ?_
 refine RetOK_of ?_
 simp [hG, List.getD_cons_zero, List.getD_cons_succ, -List.getD_eq_getElem?_getD]
 by_cases h : a.length = b.length; (rw [lessW_lex h, h]; simp); (rw [lessW_len h]; simp; omega)
@[simp] theorem putK_rcB {l : List (Rc × Bool)} {k : Rc} {v : Bool} : putK (mpE rcK boolV l) ((alFind l 0 k).map fun p => (p.1, boolV p.2)) (rcK k) (.bool v) = mpE rcK boolV (alPut l k v) := putK_mpE (ek := rcK) (ev := boolV) l k v
@[simp high] theorem HLe_rcB {h : Heap} {σ : Lift.Id → Lift.Id} {fz : Nat → Bool} {vz : Lift.Id → Bool} {nx : Nat} {l2 l : List (Rc × Bool)} (e : l2 = l) : HLe h σ fz vz nx (.mp (mpE rcK boolV l2)) (some (.mp (mpE rcK boolV l))) = True := eq_true (HLe_mpE (ek := rcK) (ev := boolV) (fun _ => Clo_rcK) (fun _ => trivial) e)
@[simp high] theorem HLe_rcb_mm {h : Heap} {σ : Lift.Id → Lift.Id} {fz : Nat → Bool} {vz : Lift.Id → Bool} {nx : Nat} {q : MQ} {l : List (Rc × Bool)} : HLe h σ fz vz nx (.mi q (mpE rcK boolV l)) (some (.mi q (mpE rcK boolV l))) = True := eq_true (HLe_mm (ek := rcK) (ev := boolV) (fun _ => Clo_rcK) (fun _ => trivial)).1
@[simp high] theorem HLe_rcb_mp {h : Heap} {σ : Lift.Id → Lift.Id} {fz : Nat → Bool} {vz : Lift.Id → Bool} {nx : Nat} {q : MQ} {l : List (Rc × Bool)} : HLe h σ fz vz nx (.mp (mpE rcK boolV l)) (some (.mi q (mpE rcK boolV l))) = True := eq_true (HLe_mm (ek := rcK) (ev := boolV) (fun _ => Clo_rcK) (fun _ => trivial)).2
@[simp] theorem ren_mpRB {ρ : Nat → Nat} {l : List (Rc × Bool)} : List.map (fun p => (ren ρ p.1, ren ρ p.2)) (mpE rcK boolV l) = mpE rcK boolV l := by
  unfold mpE
  rw [List.map_map]
  refine List.map_congr_left fun p _ => ?_
  show (ren ρ (rcK p.1), ren ρ (boolV p.2)) = _
  rw [ren_rcK]; rfl
def enRB (x : Rc) (j : Nat) : AVal := match j with
  | 0 => .agg 2 (fun j => [AVal.str x.1, AVal.str x.2].getD j .any)
  | _ => .bool true
@[simp] theorem enRB_zero {x : Rc} : enRB x 0 = .agg 2 (fun j => [AVal.str x.1, AVal.str x.2].getD j .any) := rfl
theorem enF_rb {F : List Rc} {i : Nat} (h : i < F.length) : enF (mpE rcK boolV (seenG F)) i = enRB (F.getD i dRc) := by
  have hg : (mpE rcK boolV (seenG F)).getD i (.any, .any) = (rcK (F.getD i dRc), .bool true) := by
    simp [mpE, seenG, List.getD, h]
    rfl
  funext j
  cases j with
  | zero => show ((mpE rcK boolV (seenG F)).getD i (.any, .any)).1 = _; rw [hg]; rfl
  | succ j => show ((mpE rcK boolV (seenG F)).getD i (.any, .any)).2 = _; rw [hg]; rfl
def selfA (p : Nat) : Bool → AVal
  | true => .ptr (p, 0) 0 0
  | false => .nilp
@[simp] theorem selfA_true {p : Nat} : selfA p true = .ptr (p, 0) 0 0 := rfl
@[simp] theorem selfA_false {p : Nat} : selfA p false = .nilp := rfl
@[simp] theorem one_selfA {p : Nat} {b : Bool} : (selfA p b).one = true := by cases b <;> rfl
@[simp] theorem VLe_selfA {h : Heap} {σ : Lift.Id → Lift.Id} {fz : Nat → Bool} {vz : Lift.Id → Bool} {x p : Nat} {b : Bool} : VLe h σ fz vz x (selfA p b) (selfA p b) = (b = true → VLe h σ fz vz x (.ptr (p, 0) 0 0) (.ptr (p, 0) 0 0)) := by
  cases b <;> simp [VLe]
@[simp] theorem VLe_bufA {h : Heap} {σ : Lift.Id → Lift.Id} {fz : Nat → Bool} {vz : Lift.Id → Bool} {x p m : Nat} {b : Bool} : VLe h σ fz vz x (bufA b p m) (bufA b p m) = (b = true → VLe h σ fz vz x (.sl (p, 0) 0 m) (.sl (p, 0) 0 m)) := by
  cases b <;> simp [VLe]
set_option maxRecDepth 100000 in
set_option maxHeartbeats 1000000 in
theorem first_c (c : Cd) (hv : CdOK c) (i : Nat) (hi : i < c.ws.length) (n : Nat) (hn : n ≤ 4096) (m : List (Rc × Int)) (hRO : ReachOK c m) : FC1 Try.prog 52 [.agg 3 (rvF c (.map (0, 0))), .int .i64 (i : Nat), .int .i64 (n : Nat)] [(0, .one (.mp (mpE rcK intV m)))] 1 (.tup 2 (fun j => [.str ((fstW c.ws c.q.toNat i n).getD []), .bool (fstW c.ws c.q.toNat i n).isSome].getD j .any)) [(0, .one (.mp (mpE rcK intV m)))] 1 := by
 have hML : maxLen = 9223372036854775807 := by decide
 have hWn := hv.n
 have hq16 := hv.q
 obtain ⟨K, hclr, hbx, hat0, hrv⟩ := hRO
 refine FC_introS T_ok Try.func52 rfl (by simp [Try.ntmps52]) fun G hG hR => ?_
 simp only [Try.ntmps52, Try.results52] at hG ⊢
 simp only [argEnv, Nat.zero_add, Nat.reduceAdd]
 refine zs (zr ?_ (h := by intro c K h; simp [hG, List.getD_cons_zero, List.getD_cons_succ, -List.getD_eq_getElem?_getD, pureOp, addL_nil, seenG_nil, gnF_nil, fiN_nil]; first | exact z1 c h | exact ⟨.mk c, h⟩))
 refine zs (zr ?_ (h := by intro c K h; simp [hG, List.getD_cons_zero, List.getD_cons_succ, -List.getD_eq_getElem?_getD, pureOp, addL_nil, seenG_nil, gnF_nil, fiN_nil]; first | exact z1 c h | exact ⟨.mk c, h⟩))
 refine zs (zr ?_ (h := by intro c K h; simp [hG, List.getD_cons_zero, List.getD_cons_succ, -List.getD_eq_getElem?_getD, pureOp, addL_nil, seenG_nil, gnF_nil, fiN_nil]; first | exact z1 c h | exact ⟨.mk c, h⟩))
 refine zs (zs (zL (zl 2 ?_ (h := by intro c K h; simp [hG, List.getD_cons_zero, List.getD_cons_succ, -List.getD_eq_getElem?_getD, pureOp, addL_nil, seenG_nil, gnF_nil, fiN_nil]; first | exact z1 c h | exact ⟨.mk c, h⟩))))
 refine zf cal40 [0] (atR_c c hv i hi m) (fun L hI hno => ?_) (a := by simp [hG, List.getD_cons_zero, List.getD_cons_succ, -List.getD_eq_getElem?_getD, pureOp, addL_nil, seenG_nil, gnF_nil, fiN_nil]) (b := by simp [hG, List.range'_succ, List.range'_zero, List.getD_cons_zero, List.getD_cons_succ, -List.getD_eq_getElem?_getD]) (c := by simp [hG, List.getD_cons_zero, List.getD_cons_succ, -List.getD_eq_getElem?_getD, pureOp, addL_nil, seenG_nil, gnF_nil, fiN_nil]) (h := by intro K h L hI hno; simp [hG, List.getD_cons_zero, List.getD_cons_succ, -List.getD_eq_getElem?_getD, pureOp, addL_nil, seenG_nil, gnF_nil, fiN_nil]; exact h L hI hno)
 refine zl 2 ?_ (h := by intro c K h; simp [hG, List.getD_cons_zero, List.getD_cons_succ, -List.getD_eq_getElem?_getD, pureOp, addL_nil, seenG_nil, gnF_nil, fiN_nil]; first | exact z1 c h | exact ⟨.mk c, h⟩)
 refine zN (zb ?_)
 refine awpS_loop (α := Nat) (fun j => ⟨[(2, .int .i64 (n : Nat)), (3, .vptr 3 (rvF c (.map (0, 0))) 0), (8, .ptr (1, 0) 0 0), (9, .map (3, 0)), (22, rcs L), (23, .int .i64 L.length), (24, .int .i64 (j : Nat))], [(0, .one (.mp (mpE rcK intV m))), (1, .typ 87 (.arr 1 2 (fun _ j => bF (.nilp) (.nils) j))), (3, .one (.mp (mpE rcK boolV (seenG (addL [] (gnF c.ws n (L.take j)))))))], 4⟩) (fun j => j ≤ L.length) (fun j => L.length - j) (0) (Nat.zero_le _) ?_ ?_
 · refine wk_of (fun k => if k = 1 then 2 else k) (fun k => k == 1) (fun _ => false) ?_ ?_ rfl (by simp) (fun k hk => by first | exact ⟨rfl, rfl⟩ | (revert k; decide) | (obtain rfl : k = 0 := (by omega); exact ⟨rfl, rfl⟩) | (have hk2 : k = 0 ∨ k = 1 := (by omega); rcases hk2 with rfl | rfl <;> exact ⟨rfl, rfl⟩))
   · simp [hG, List.getD_cons_zero, List.getD_cons_succ, -List.getD_eq_getElem?_getD, pureOp, addL_nil, seenG_nil, gnF_nil, fiN_nil]
   simp [hG, List.getD_cons_zero, List.getD_cons_succ, -List.getD_eq_getElem?_getD, pureOp, addL_nil, seenG_nil, gnF_nil, fiN_nil]
 rintro j hj
 refine zs (zr ?_ (h := by intro c K h; simp [hG, List.getD_cons_zero, List.getD_cons_succ, -List.getD_eq_getElem?_getD, pureOp, addL_nil, seenG_nil, gnF_nil, fiN_nil]; first | exact z1 c h | exact ⟨.mk c, h⟩))
 refine zs (zy (fun hb25 => ?_) fun hb25 => ?_)
 · have hLb := at_len hv.len hWn.2 hI
   obtain ⟨hp1, hp2⟩ := (hI.mem _).1 (getD_mem (d := dRc) hb25)
   have hpe : (([], (L.getD j dRc).2) : Rc) = L.getD j dRc := (by rw [← hp1])
   have hpK : L.getD j dRc ∈ K := (by rw [← hpe]; exact hat0 i hi _ hp2)
   have hge := rv_ge (hrv _ hpK).ok (n := n) (by omega)
   refine zk (zs (zb (zs (zr ?_ (h := by intro c K h; simp [hG, List.getD_cons_zero, List.getD_cons_succ, -List.getD_eq_getElem?_getD, pureOp, addL_nil, seenG_nil, gnF_nil, fiN_nil]; first | exact z1 c h | exact ⟨.mk c, h⟩)))))
   refine zs (zr ?_ (h := by intro c K h; simp [hG, List.getD_cons_zero, List.getD_cons_succ, -List.getD_eq_getElem?_getD, pureOp, addL_nil, seenG_nil, gnF_nil, fiN_nil]; first | exact z1 c h | exact ⟨.mk c, h⟩))
   refine zy (fun hb33 => ?_) fun hb33 => ?_
   · have hst := gnF_yes (W := c.ws) (k := n) hb25 (hge.1 hb33)
     refine zr ?_ (h := by intro c K h; simp [hG, List.getD_cons_zero, List.getD_cons_succ, -List.getD_eq_getElem?_getD, pureOp, addL_nil, seenG_nil, gnF_nil, fiN_nil]; first | exact z1 c h | exact ⟨.mk c, h⟩)
     refine zn (zbn (zr ?_ (h := by intro c K h; simp [hG, List.getD_cons_zero, List.getD_cons_succ, -List.getD_eq_getElem?_getD, pureOp, addL_nil, seenG_nil, gnF_nil, fiN_nil]; first | exact z1 c h | exact ⟨.mk c, h⟩)))
     refine zn ?_
     refine round_end (j + 1) (by omega) (by omega) ?_
     refine wk_of (id) (fun _ => false) (fun _ => false) ?_ ?_ rfl (by simp) (fun k hk => by first | exact ⟨rfl, rfl⟩ | (revert k; decide) | (obtain rfl : k = 0 := (by omega); exact ⟨rfl, rfl⟩) | (have hk2 : k = 0 ∨ k = 1 := (by omega); rcases hk2 with rfl | rfl <;> exact ⟨rfl, rfl⟩))
     · simp [hG, List.getD_cons_zero, List.getD_cons_succ, -List.getD_eq_getElem?_getD, pureOp, addL_nil, seenG_nil, gnF_nil, fiN_nil]
     rw [hst, addL_snoc]; simp [hG, pureOp, List.getD_cons_zero, List.getD_cons_succ, -List.getD_eq_getElem?_getD]
   have hst := gnF_not (W := c.ws) (k := n) hb25 (fun h => by have := hge.2 h; omega)
   refine zk (zn (zbn (zr ?_ (h := by intro c K h; simp [hG, List.getD_cons_zero, List.getD_cons_succ, -List.getD_eq_getElem?_getD, pureOp, addL_nil, seenG_nil, gnF_nil, fiN_nil]; first | exact z1 c h | exact ⟨.mk c, h⟩))))
   refine zn ?_
   refine round_end (j + 1) (by omega) (by omega) ?_
   refine wk_of (id) (fun _ => false) (fun _ => false) ?_ ?_ rfl (by simp) (fun k hk => by first | exact ⟨rfl, rfl⟩ | (revert k; decide) | (obtain rfl : k = 0 := (by omega); exact ⟨rfl, rfl⟩) | (have hk2 : k = 0 ∨ k = 1 := (by omega); rcases hk2 with rfl | rfl <;> exact ⟨rfl, rfl⟩))
   · simp [hG, List.getD_cons_zero, List.getD_cons_succ, -List.getD_eq_getElem?_getD, pureOp, addL_nil, seenG_nil, gnF_nil, fiN_nil]
   rw [hst]; simp [hG, pureOp, List.getD_cons_zero, List.getD_cons_succ, -List.getD_eq_getElem?_getD]
 obtain rfl : j = L.length := (by omega)
 have hF0 : FirJ c.ws c.q.toNat i n K [] (addL [] (gnF c.ws n L)) := fir_ini hI (addL_nd List.nodup_nil) (fun p hp => by rw [addL_mem, gnF_mem] at hp; rcases hp with h | ⟨h, _⟩; (cases h); obtain ⟨e, h2⟩ := (hI.mem p).1 h; have := hat0 i hi _ h2; rw [← e] at this; exact this) (fun p => by rw [addL_mem, gnF_mem]; simp)
 rw [List.take_length]
 refine zx (ztx (zbx (zs (zs (zr ?_ (h := by intro c K h; simp [hG, List.getD_cons_zero, List.getD_cons_succ, -List.getD_eq_getElem?_getD, pureOp, addL_nil, seenG_nil, gnF_nil, fiN_nil]; first | exact z1 c h | exact ⟨.mk c, h⟩))))))
 refine zb ?_
 refine awpS_loop (α := Wd × List Rc) (fun z => ⟨[(2, .int .i64 (n : Nat)), (3, .vptr 3 (rvF c (.map (0, 0))) 0), (8, .ptr (1, 0) 0 0), (9, .map (3, 0)), (12, .int .i64 ((n : Nat) - 1 - (z.1.length : Nat) : Int))], [(0, .one (.mp (mpE rcK intV m))), (1, .typ 87 (.arr 1 2 (fun _ j => bF (selfA 1 (posB z.1.length)) (bufA (posB z.1.length) 2 z.1.length) j))), (2, .typ 5 (.arr (z.1).length 1 (byF (z.1)))), (3, .one (.mp (mpE rcK boolV (seenG z.2))))], 4⟩) (fun z => FirJ c.ws c.q.toNat i n K z.1 z.2) (fun z => n - z.1.length) (([], addL [] (gnF c.ws n L))) (hF0) ?_ ?_
 · refine wk_of (id) (fun _ => false) (fun k => k == 2) ?_ ?_ rfl (by simp) (fun k hk => by first | exact ⟨rfl, rfl⟩ | (revert k; decide) | (obtain rfl : k = 0 := (by omega); exact ⟨rfl, rfl⟩) | (have hk2 : k = 0 ∨ k = 1 := (by omega); rcases hk2 with rfl | rfl <;> exact ⟨rfl, rfl⟩))
   · simp [hG, List.getD_cons_zero, List.getD_cons_succ, -List.getD_eq_getElem?_getD, pureOp, addL_nil, seenG_nil, gnF_nil, fiN_nil]
   simp [hG, List.getD_cons_zero, List.getD_cons_succ, -List.getD_eq_getElem?_getD, pureOp, addL_nil, seenG_nil, gnF_nil, fiN_nil]
 rintro ⟨u, N⟩ hF
 simp only at hF
 refine zs (zs (zr ?_ (h := by intro c K h; simp [hG, List.getD_cons_zero, List.getD_cons_succ, -List.getD_eq_getElem?_getD, pureOp, addL_nil, seenG_nil, gnF_nil, fiN_nil]; first | exact z1 c h | exact ⟨.mk c, h⟩)))
 refine zy (fun hb40 => ?_) fun hb40 => ?_
 · have hle := hF.le
   obtain ⟨k, hk⟩ : ∃ k, n - u.length = k + 1 := ⟨n - u.length - 1, by omega⟩
   refine zk (zs (zb (zs (zr ?_ (h := by intro c K h; simp [hG, List.getD_cons_zero, List.getD_cons_succ, -List.getD_eq_getElem?_getD, pureOp, addL_nil, seenG_nil, gnF_nil, fiN_nil]; first | exact z1 c h | exact ⟨.mk c, h⟩)))))
   refine zs (zs (zr ?_ (h := by intro c K h; simp [hG, List.getD_cons_zero, List.getD_cons_succ, -List.getD_eq_getElem?_getD, pureOp, addL_nil, seenG_nil, gnF_nil, fiN_nil]; first | exact z1 c h | exact ⟨.mk c, h⟩)))
   refine zb ?_
   refine awpS_loop (α := Nat × Bool × Wd × List Rc) (fun z => ⟨[(2, .int .i64 (n : Nat)), (3, .vptr 3 (rvF c (.map (0, 0))) 0), (8, .ptr (1, 0) 0 0), (9, .map (3, 0)), (12, .int .i64 (k : Nat)), (13, .bool z.2.1), (14, .int .i64 (z.1 : Nat))], [(0, .one (.mp (mpE rcK intV m))), (1, .typ 87 (.arr 1 2 (fun _ j => bF (selfA 1 (posB z.2.2.1.length)) (bufA (posB z.2.2.1.length) 2 z.2.2.1.length) j))), (2, .typ 5 (.arr (z.2.2.1).length 1 (byF (z.2.2.1)))), (3, .one (.mp (mpE rcK boolV (seenG z.2.2.2))))], 4⟩) (fun z => z.1 ≤ c.q.toNat ∧ (z.2.1 = false → u = z.2.2.1 ∧ N = z.2.2.2 ∧ ∀ j, j < z.1 → ¬ exO c.ws i k (u ++ [letters.getD j 0])) ∧ (z.2.1 = true → FirJ c.ws c.q.toNat i n K z.2.2.1 z.2.2.2 ∧ z.2.2.1.length = u.length + 1)) (fun z => c.q.toNat - z.1) ((0, false, u, N)) (⟨Nat.zero_le _, fun _ => ⟨rfl, rfl, fun j hj => absurd hj (Nat.not_lt_zero _)⟩, fun h => (by cases h)⟩) ?_ ?_
   · refine wk_of (id) (fun _ => false) (fun _ => false) ?_ ?_ rfl (by simp) (fun k hk => by first | exact ⟨rfl, rfl⟩ | (revert k; decide) | (obtain rfl : k = 0 := (by omega); exact ⟨rfl, rfl⟩) | (have hk2 : k = 0 ∨ k = 1 := (by omega); rcases hk2 with rfl | rfl <;> exact ⟨rfl, rfl⟩))
     · simp [hG, pureOp, List.getD_cons_zero, List.getD_cons_succ, -List.getD_eq_getElem?_getD]; omega
     simp [hG, List.getD_cons_zero, List.getD_cons_succ, -List.getD_eq_getElem?_getD, pureOp, addL_nil, seenG_nil, gnF_nil, fiN_nil]
   rintro ⟨j, f, u2, N2⟩ ⟨hj, hf, ht⟩
   simp only at hj hf ht
   refine zs (zs (zr ?_ (h := by intro c K h; simp [hG, List.getD_cons_zero, List.getD_cons_succ, -List.getD_eq_getElem?_getD, pureOp, addL_nil, seenG_nil, gnF_nil, fiN_nil]; first | exact z1 c h | exact ⟨.mk c, h⟩)))
   refine zy (fun hb51 => ?_) fun hb51 => ?_
   · obtain ⟨hjq, rfl⟩ := hb51
     obtain ⟨hu2, hN2, hno1⟩ := hf rfl
     subst hu2
     subst hN2
     have hnb := box_len hv.len hWn.2 hF.nd (fun p hp => hbx p (hF.sub p hp))
     refine zk (zs (zb (zs (zr ?_ (h := by intro c K h; simp [hG, List.getD_cons_zero, List.getD_cons_succ, -List.getD_eq_getElem?_getD, pureOp, addL_nil, seenG_nil, gnF_nil, fiN_nil]; first | exact z1 c h | exact ⟨.mk c, h⟩)))))
     refine zs (zs (zL (zl 1 ?_ (h := by intro c K h; simp [hG, List.getD_cons_zero, List.getD_cons_succ, -List.getD_eq_getElem?_getD, pureOp, addL_nil, seenG_nil, gnF_nil, fiN_nil]; first | exact z1 c h | exact ⟨.mk c, h⟩))))
     refine awpL_range (id := (3, 0)) Try.underlying108 rfl rfl rfl rfl trivial fun K hK q hq => ?_
     simp [hG, List.getD_cons_zero, List.getD_cons_succ, -List.getD_eq_getElem?_getD, pureOp, addL_nil, seenG_nil, gnF_nil, fiN_nil]
     refine hK _ ?_
     clear K hK
     refine zN (zb ?_)
     refine awpS_loop (α := List Nat × List Nat) (fun z => ⟨[(2, .int .i64 (n : Nat)), (3, .vptr 3 (rvF c (.map (0, 0))) 0), (8, .ptr (1, 0) 0 0), (9, .map (3, 0)), (12, .int .i64 (k : Nat)), (14, .int .i64 (j : Nat)), (15, .map (4, 0)), (56, .ptr (5, 0) 0 0)], [(0, .one (.mp (mpE rcK intV m))), (1, .typ 87 (.arr 1 2 (fun _ j => bF (selfA 1 (posB u.length)) (bufA (posB u.length) 2 u.length) j))), (2, .typ 5 (.arr (u).length 1 (byF (u)))), (3, .one (.mi q (mpE rcK boolV (seenG N)))), (4, .one (.mp (mpE rcK boolV (seenG (fiN c.ws k N z.1 (letters.getD j 0)))))), (5, .one (.ob (itP q z.2 none)))], 6⟩) (fun z => (z.1 ++ z.2).Perm (List.range N.length)) (fun z => z.2.length) (([], List.range N.length)) (List.Perm.refl _) ?_ ?_
     · refine wk_of (id) (fun _ => false) (fun _ => false) ?_ ?_ rfl (by simp) (fun k hk => by first | exact ⟨rfl, rfl⟩ | (revert k; decide) | (obtain rfl : k = 0 := (by omega); exact ⟨rfl, rfl⟩) | (have hk2 : k = 0 ∨ k = 1 := (by omega); rcases hk2 with rfl | rfl <;> exact ⟨rfl, rfl⟩))
       · simp [hG, List.getD_cons_zero, List.getD_cons_succ, -List.getD_eq_getElem?_getD, pureOp, addL_nil, seenG_nil, gnF_nil, fiN_nil]
       simp [hG, List.getD_cons_zero, List.getD_cons_succ, -List.getD_eq_getElem?_getD, pureOp, addL_nil, seenG_nil, gnF_nil, fiN_nil]
     rintro ⟨done, left⟩ hz
     simp only at hz
     refine zs (zL ?_)
     refine awpL_next (id := (3, 0)) (by decide) rfl rfl rfl rfl rfl trivial fun K hK cc hc => ?_
     simp [hG, List.getD_cons_zero, List.getD_cons_succ, -List.getD_eq_getElem?_getD, pureOp, addL_nil, seenG_nil, gnF_nil, fiN_nil]
     refine hK _ ?_
     clear K hK
     refine zl 1 ?_ (h := by intro c K h; simp [hG, List.getD_cons_zero, List.getD_cons_succ, -List.getD_eq_getElem?_getD, pureOp, addL_nil, seenG_nil, gnF_nil, fiN_nil]; first | exact z1 c h | exact ⟨.mk c, h⟩)
     refine zN (zs (zy (fun hb58 => ?_) fun hb58 => ?_))
     · rw [length_mpE, seenG_len] at hc
       obtain ⟨i0, rfl, hi0, hil⟩ := nx_some hc hb58
       have hst0 := left_step hz hi0
       refine zk (zb (zs (zL ?_)))
       refine awpL_entry (id := (3, 0)) rfl rfl rfl rfl rfl trivial fun K hK => ?_; rw [enF_rb hil]
       simp [hG, List.getD_cons_zero, List.getD_cons_succ, -List.getD_eq_getElem?_getD, pureOp, addL_nil, seenG_nil, gnF_nil, fiN_nil]
       refine hK _ ?_
       clear K hK
       refine zl 3 ?_ (h := by intro c K h; simp [hG, List.getD_cons_zero, List.getD_cons_succ, -List.getD_eq_getElem?_getD, pureOp, addL_nil, seenG_nil, gnF_nil, fiN_nil]; first | exact z1 c h | exact ⟨.mk c, h⟩)
       refine zN (zs ?_)
       refine awpS_draw hR mixed [] ⟨[], [4], [(6, 0)]⟩ fun mu0 => ?_
       refine za [0, 1, 2, 3, 6] [] 2 [6, 3, 2, 1, 0] ?_ (h := by intro c K h; simp [hG, List.getD_cons_zero, List.getD_cons_succ, -List.getD_eq_getElem?_getD, pureOp, addL_nil, seenG_nil, gnF_nil, fiN_nil]; first | exact z1 c h | exact ⟨.mk c, h⟩)
       refine awpA_only (fuel := 1) (i := 4) (by decide +kernel) ?_
       refine awpO_fcr cal67 [0] (fun _ => false) (after_c c hv (N.getD i0 dRc) (letters.getD j 0) m) rfl ⟨by decide, by decide, by simp⟩ rfl rfl rfl (by simp) (.inl fun _ => rfl) ?_ ?_ ?_ fun K hK x hI hno => ?_
       · simp [hG, List.getD_cons_zero, List.getD_cons_succ, -List.getD_eq_getElem?_getD, pureOp, addL_nil, seenG_nil, gnF_nil, fiN_nil]
       · simp [hG, List.range'_succ, List.range'_zero, List.getD_cons_zero, List.getD_cons_succ, -List.getD_eq_getElem?_getD]; rfl
       · simp [hG, List.getD_cons_zero, List.getD_cons_succ, -List.getD_eq_getElem?_getD, pureOp, addL_nil, seenG_nil, gnF_nil, fiN_nil]
       simp [hG, List.getD_cons_zero, List.getD_cons_succ, -List.getD_eq_getElem?_getD, pureOp, addL_nil, seenG_nil, gnF_nil, fiN_nil]
       refine hK _ ?_
       clear K hK
       refine za [5] [] 0 [5, 4, 6, 3, 2, 1, 0] ?_ (h := by intro c K h; simp [hG, List.getD_cons_zero, List.getD_cons_succ, -List.getD_eq_getElem?_getD, pureOp, addL_nil, seenG_nil, gnF_nil, fiN_nil]; first | exact z1 c h | exact ⟨.mk c, h⟩)
       refine awpA_done (by decide +kernel) ?_
       refine zb ?_
       refine awpS_loop (α := Nat) (fun e => ⟨[(2, .int .i64 (n : Nat)), (3, .vptr 3 (rvF c (.map (0, 0))) 0), (8, .ptr (1, 0) 0 0), (9, .map (3, 0)), (12, .int .i64 (k : Nat)), (14, .int .i64 (j : Nat)), (15, .map (4, 0)), (56, .ptr (5, 0) 0 0), (65, rcs (aft c.ws (N.getD i0 dRc) (letters.getD j 0))), (66, .int .i64 (aft c.ws (N.getD i0 dRc) (letters.getD j 0)).length), (67, .int .i64 (e : Nat))], [(0, .one (.mp (mpE rcK intV m))), (1, .typ 87 (.arr 1 2 (fun _ j => bF (selfA 1 (posB u.length)) (bufA (posB u.length) 2 u.length) j))), (2, .typ 5 (.arr (u).length 1 (byF (u)))), (3, .one (.mi q (mpE rcK boolV (seenG N)))), (4, .one (.mp (mpE rcK boolV (seenG (addL (fiN c.ws k N done (letters.getD j 0)) (gnF c.ws k ((aft c.ws (N.getD i0 dRc) (letters.getD j 0)).take e))))))), (5, .one (.ob (itP q (left.erase i0) none)))], 6⟩) (fun e => e ≤ (aft c.ws (N.getD i0 dRc) (letters.getD j 0)).length) (fun e => (aft c.ws (N.getD i0 dRc) (letters.getD j 0)).length - e) (0) (Nat.zero_le _) ?_ ?_
       · refine wk_of (id) (fun _ => false) (fun _ => false) ?_ ?_ rfl (by simp) (fun k hk => by first | exact ⟨rfl, rfl⟩ | (revert k; decide) | (obtain rfl : k = 0 := (by omega); exact ⟨rfl, rfl⟩) | (have hk2 : k = 0 ∨ k = 1 := (by omega); rcases hk2 with rfl | rfl <;> exact ⟨rfl, rfl⟩))
         · simp [hG, List.getD_cons_zero, List.getD_cons_succ, -List.getD_eq_getElem?_getD, pureOp, addL_nil, seenG_nil, gnF_nil, fiN_nil]
         simp [hG, List.getD_cons_zero, List.getD_cons_succ, -List.getD_eq_getElem?_getD, pureOp, addL_nil, seenG_nil, gnF_nil, fiN_nil]
       rintro e he
       refine zs (zr ?_ (h := by intro c K h; simp [hG, List.getD_cons_zero, List.getD_cons_succ, -List.getD_eq_getElem?_getD, pureOp, addL_nil, seenG_nil, gnF_nil, fiN_nil]; first | exact z1 c h | exact ⟨.mk c, h⟩))
       refine zs (zy (fun hb68 => ?_) fun hb68 => ?_)
       · have hal := aft_len hWn (p := N.getD i0 dRc) (l := (letters.getD j 0))
         have hyK : (aft c.ws (N.getD i0 dRc) (letters.getD j 0)).getD e dRc ∈ K := aft_in hclr (hF.sub _ (getD_mem (d := dRc) hil)) (show j < c.q.toNat by omega) (getD_mem hb68)
         have hge := rv_ge (hrv _ hyK).ok (n := k) (by omega)
         refine zk (zs (zb (zs (zr ?_ (h := by intro c K h; simp [hG, List.getD_cons_zero, List.getD_cons_succ, -List.getD_eq_getElem?_getD, pureOp, addL_nil, seenG_nil, gnF_nil, fiN_nil]; first | exact z1 c h | exact ⟨.mk c, h⟩)))))
         refine zs (zr ?_ (h := by intro c K h; simp [hG, List.getD_cons_zero, List.getD_cons_succ, -List.getD_eq_getElem?_getD, pureOp, addL_nil, seenG_nil, gnF_nil, fiN_nil]; first | exact z1 c h | exact ⟨.mk c, h⟩))
         refine zy (fun hb76 => ?_) fun hb76 => ?_
         · have hst := gnF_yes (W := c.ws) (k := k) hb68 (hge.1 hb76)
           refine zr ?_ (h := by intro c K h; simp [hG, List.getD_cons_zero, List.getD_cons_succ, -List.getD_eq_getElem?_getD, pureOp, addL_nil, seenG_nil, gnF_nil, fiN_nil]; first | exact z1 c h | exact ⟨.mk c, h⟩)
           refine zn (zbn (zr ?_ (h := by intro c K h; simp [hG, List.getD_cons_zero, List.getD_cons_succ, -List.getD_eq_getElem?_getD, pureOp, addL_nil, seenG_nil, gnF_nil, fiN_nil]; first | exact z1 c h | exact ⟨.mk c, h⟩)))
           refine zn ?_
           refine round_end (e + 1) (by omega) (by omega) ?_
           refine wk_of (id) (fun _ => false) (fun _ => false) ?_ ?_ rfl (by simp) (fun k hk => by first | exact ⟨rfl, rfl⟩ | (revert k; decide) | (obtain rfl : k = 0 := (by omega); exact ⟨rfl, rfl⟩) | (have hk2 : k = 0 ∨ k = 1 := (by omega); rcases hk2 with rfl | rfl <;> exact ⟨rfl, rfl⟩))
           · simp [hG, List.getD_cons_zero, List.getD_cons_succ, -List.getD_eq_getElem?_getD, pureOp, addL_nil, seenG_nil, gnF_nil, fiN_nil]
           rw [hst, addL_snoc]; simp [hG, pureOp, List.getD_cons_zero, List.getD_cons_succ, -List.getD_eq_getElem?_getD]
         have hst := gnF_not (W := c.ws) (k := k) hb68 (fun h => by have := hge.2 h; omega)
         refine zk (zn (zbn (zr ?_ (h := by intro c K h; simp [hG, List.getD_cons_zero, List.getD_cons_succ, -List.getD_eq_getElem?_getD, pureOp, addL_nil, seenG_nil, gnF_nil, fiN_nil]; first | exact z1 c h | exact ⟨.mk c, h⟩))))
         refine zn ?_
         refine round_end (e + 1) (by omega) (by omega) ?_
         refine wk_of (id) (fun _ => false) (fun _ => false) ?_ ?_ rfl (by simp) (fun k hk => by first | exact ⟨rfl, rfl⟩ | (revert k; decide) | (obtain rfl : k = 0 := (by omega); exact ⟨rfl, rfl⟩) | (have hk2 : k = 0 ∨ k = 1 := (by omega); rcases hk2 with rfl | rfl <;> exact ⟨rfl, rfl⟩))
         · simp [hG, List.getD_cons_zero, List.getD_cons_succ, -List.getD_eq_getElem?_getD, pureOp, addL_nil, seenG_nil, gnF_nil, fiN_nil]
         rw [hst]; simp [hG, pureOp, List.getD_cons_zero, List.getD_cons_succ, -List.getD_eq_getElem?_getD]
       obtain rfl : e = (aft c.ws (N.getD i0 dRc) (letters.getD j 0)).length := (by omega)
       refine zx (ztx (zbx (zn (zbn (zn ?_)))))
       refine round_end ((done ++ [i0], left.erase i0)) (hst0.1) (hst0.2) ?_
       refine wk_of (id) (fun _ => false) (fun _ => false) ?_ ?_ rfl (by simp) (fun k hk => by first | exact ⟨rfl, rfl⟩ | (revert k; decide) | (obtain rfl : k = 0 := (by omega); exact ⟨rfl, rfl⟩) | (have hk2 : k = 0 ∨ k = 1 := (by omega); rcases hk2 with rfl | rfl <;> exact ⟨rfl, rfl⟩))
       · simp [hG, List.getD_cons_zero, List.getD_cons_succ, -List.getD_eq_getElem?_getD, pureOp, addL_nil, seenG_nil, gnF_nil, fiN_nil]
       rw [fiN_row]; simp [hG, pureOp, List.getD_cons_zero, List.getD_cons_succ, -List.getD_eq_getElem?_getD]
     obtain rfl := nx_none hc (by simpa using hb58)
     rw [List.append_nil] at hz
     refine zx (ztx (zbx (zs (zr ?_ (h := by intro c K h; simp [hG, List.getD_cons_zero, List.getD_cons_succ, -List.getD_eq_getElem?_getD, pureOp, addL_nil, seenG_nil, gnF_nil, fiN_nil]; first | exact z1 c h | exact ⟨.mk c, h⟩)))))
     refine zs (zr ?_ (h := by intro c K h; simp [hG, List.getD_cons_zero, List.getD_cons_succ, -List.getD_eq_getElem?_getD, pureOp, addL_nil, seenG_nil, gnF_nil, fiN_nil]; first | exact z1 c h | exact ⟨.mk c, h⟩))
     refine zy (fun hb83 => ?_) fun hb83 => ?_
     · have hne : fiN c.ws k N done (letters.getD j 0) ≠ [] := List.length_pos_iff.1 hb83
       have hnp : decide (0 < (fiN c.ws k N done (letters.getD j 0)).length) = true := decide_eq_true hb83
       refine zs (zL (zl 2 ?_ (h := by intro c K h; simp [hG, List.getD_cons_zero, List.getD_cons_succ, -List.getD_eq_getElem?_getD, pureOp, addL_nil, seenG_nil, gnF_nil, fiN_nil]; first | exact z1 c h | exact ⟨.mk c, h⟩)))
       refine awpL_fc cal75 [1, 2] (fun _ => false) (writeByte_c (posB u.length) u (letters.getD j 0) (by omega)) rfl rfl rfl (by simp) (.inl fun _ => rfl) ?_ ?_ ?_ fun K hK x hI hno => ?_
       · simp [hG, List.getD_cons_zero, List.getD_cons_succ, -List.getD_eq_getElem?_getD, pureOp, addL_nil, seenG_nil, gnF_nil, fiN_nil]
       · simp [hG, List.range'_succ, List.range'_zero, List.getD_cons_zero, List.getD_cons_succ, -List.getD_eq_getElem?_getD]; rfl
       · cases hp : posB u.length with
           | true => simp [hG, pureOp, List.getD_cons_zero, List.getD_cons_succ, -List.getD_eq_getElem?_getD]
           | false => obtain rfl := List.length_eq_zero_iff.1 (posB_no hp); simp [hG, pureOp, List.getD_cons_zero, List.getD_cons_succ, -List.getD_eq_getElem?_getD]
       simp [hG, List.getD_cons_zero, List.getD_cons_succ, -List.getD_eq_getElem?_getD, pureOp, addL_nil, seenG_nil, gnF_nil, fiN_nil]
       refine hK _ ?_
       clear K hK
       refine zN (zr ?_ (h := by intro c K h; simp [hG, List.getD_cons_zero, List.getD_cons_succ, -List.getD_eq_getElem?_getD, pureOp, addL_nil, seenG_nil, gnF_nil, fiN_nil]; first | exact z1 c h | exact ⟨.mk c, h⟩))
       refine zn (zbn (zr ?_ (h := by intro c K h; simp [hG, List.getD_cons_zero, List.getD_cons_succ, -List.getD_eq_getElem?_getD, pureOp, addL_nil, seenG_nil, gnF_nil, fiN_nil]; first | exact z1 c h | exact ⟨.mk c, h⟩)))
       refine zn ?_
       refine round_end ((j + 1, true, u ++ [(letters.getD j 0)], fiN c.ws k N done (letters.getD j 0))) (⟨by simp only; omega, fun h => (by cases h), fun _ => ⟨fir_next hF hk hv.lt hclr hz (show j < c.q.toNat by omega) hno1 hne, by simp⟩⟩) (by simp only; omega) ?_
       refine wk_of (fun k => if k = 2 then 6 else if k = 3 then 4 else k) (fun _ => false) (fun _ => false) ?_ ?_ rfl (by simp) (fun k hk => by first | exact ⟨rfl, rfl⟩ | (revert k; decide) | (obtain rfl : k = 0 := (by omega); exact ⟨rfl, rfl⟩) | (have hk2 : k = 0 ∨ k = 1 := (by omega); rcases hk2 with rfl | rfl <;> exact ⟨rfl, rfl⟩))
       · rw [hnp]; simp [hG, pureOp, List.getD_cons_zero, List.getD_cons_succ, -List.getD_eq_getElem?_getD]
       simp [hG, List.getD_cons_zero, List.getD_cons_succ, -List.getD_eq_getElem?_getD, pureOp, addL_nil, seenG_nil, gnF_nil, fiN_nil]
     have hne := fir_miss hF hk hz (l := (letters.getD j 0)) (by simpa using hb83)
     have hnp : decide (0 < (fiN c.ws k N done (letters.getD j 0)).length) = false := (by simpa using hb83)
     refine zk (zn (zbn (zr ?_ (h := by intro c K h; simp [hG, List.getD_cons_zero, List.getD_cons_succ, -List.getD_eq_getElem?_getD, pureOp, addL_nil, seenG_nil, gnF_nil, fiN_nil]; first | exact z1 c h | exact ⟨.mk c, h⟩))))
     refine zn ?_
     refine round_end ((j + 1, false, u, N)) (⟨by simp only; omega, fun _ => ⟨rfl, rfl, step_all hno1 hne⟩, fun h => (by cases h)⟩) (by simp only; omega) ?_
     refine wk_of (id) (fun _ => false) (fun _ => false) ?_ ?_ rfl (by simp) (fun k hk => by first | exact ⟨rfl, rfl⟩ | (revert k; decide) | (obtain rfl : k = 0 := (by omega); exact ⟨rfl, rfl⟩) | (have hk2 : k = 0 ∨ k = 1 := (by omega); rcases hk2 with rfl | rfl <;> exact ⟨rfl, rfl⟩))
     · rw [hnp]; simp [hG, pureOp, List.getD_cons_zero, List.getD_cons_succ, -List.getD_eq_getElem?_getD]
     simp [hG, List.getD_cons_zero, List.getD_cons_succ, -List.getD_eq_getElem?_getD, pureOp, addL_nil, seenG_nil, gnF_nil, fiN_nil]
   refine zx (ztx (zbx (zs (zr ?_ (h := by intro c K h; simp [hG, List.getD_cons_zero, List.getD_cons_succ, -List.getD_eq_getElem?_getD, pureOp, addL_nil, seenG_nil, gnF_nil, fiN_nil]; first | exact z1 c h | exact ⟨.mk c, h⟩)))))
   refine zy (fun hb89 => ?_) fun hb89 => ?_
   · obtain rfl : f = false := (by simpa using hb89)
     obtain ⟨hu2, hN2, hno⟩ := hf rfl
     subst hu2
     subst hN2
     obtain rfl : j = c.q.toNat := (by simp at hb51; omega)
     have hfn := fir_none hF hk hv.lt hno
     refine zs (zr ?_ (h := by intro c K h; simp [hG, List.getD_cons_zero, List.getD_cons_succ, -List.getD_eq_getElem?_getD, pureOp, addL_nil, seenG_nil, gnF_nil, fiN_nil]; first | exact z1 c h | exact ⟨.mk c, h⟩))
     refine zt (zbt (ztt (zbt ?_)))
     refine RetF_of (()) (id) (fun _ => false) (fun _ => false) trivial ?_ ?_ (by rfl) (by simp) (fun k hk => ⟨rfl, rfl⟩)
     · rw [hfn]; simp [hG, pureOp, List.getD_cons_zero, List.getD_cons_succ, -List.getD_eq_getElem?_getD]
     simp [hG, List.getD_cons_zero, List.getD_cons_succ, -List.getD_eq_getElem?_getD, pureOp, addL_nil, seenG_nil, gnF_nil, fiN_nil]
   obtain rfl : f = true := (by simpa using hb89)
   obtain ⟨hF2, hl2⟩ := ht rfl
   refine zk (zn (zbn (zr ?_ (h := by intro c K h; simp [hG, List.getD_cons_zero, List.getD_cons_succ, -List.getD_eq_getElem?_getD, pureOp, addL_nil, seenG_nil, gnF_nil, fiN_nil]; first | exact z1 c h | exact ⟨.mk c, h⟩))))
   refine zn ?_
   refine round_end ((u2, N2)) (hF2) (by simp only; omega) ?_
   refine wk_of (id) (fun _ => false) (fun _ => false) ?_ ?_ rfl (by simp) (fun k hk => by first | exact ⟨rfl, rfl⟩ | (revert k; decide) | (obtain rfl : k = 0 := (by omega); exact ⟨rfl, rfl⟩) | (have hk2 : k = 0 ∨ k = 1 := (by omega); rcases hk2 with rfl | rfl <;> exact ⟨rfl, rfl⟩))
   · simp [hG, pureOp, List.getD_cons_zero, List.getD_cons_succ, -List.getD_eq_getElem?_getD]; omega
   simp [hG, List.getD_cons_zero, List.getD_cons_succ, -List.getD_eq_getElem?_getD, pureOp, addL_nil, seenG_nil, gnF_nil, fiN_nil]
 have hle := hF.le
 have hun : u.length = n := (by omega)
 obtain ⟨hf1, hf2⟩ := fir_fin hF hun
 refine zx (ztx (zbx (zs ?_)))
 by_cases hsp : posB u.length = true
 · have hwne : u ≠ [] := (fun e => by have := posB_yes hsp; rw [e] at this; exact absurd this (Nat.lt_irrefl 0))
   refine zL ?_
   refine zf cal58 [1, 2] (stringB (S := 2) (off := 0) (hin := [(0, .typ 87 (.arr 1 2 (fun _ j => bF (.ptr (0, 0) 0 0) (.sl (1, 0) 0 u.length) j))), (1, .typ 5 (.arr (u).length 1 (byF (u))))]) (nin := 2) (l := u) (id := (1, 0)) rfl (by omega) rfl rfl rfl (Nat.le_refl _) hwne (fun i hi => rfl) (by omega)) (fun x hI hno => ?_) (a := by simp [hG, List.getD_cons_zero, List.getD_cons_succ, -List.getD_eq_getElem?_getD, pureOp, addL_nil, seenG_nil, gnF_nil, fiN_nil, hsp]) (b := by simp [hG, List.getD_cons_zero, List.getD_cons_succ, -List.getD_eq_getElem?_getD, pureOp, addL_nil, seenG_nil, gnF_nil, fiN_nil, hsp]) (c := by simp [hG, List.getD_cons_zero, List.getD_cons_succ, -List.getD_eq_getElem?_getD, pureOp, addL_nil, seenG_nil, gnF_nil, fiN_nil, hsp]) (h := by intro K h x hI hno; simp [hG, List.getD_cons_zero, List.getD_cons_succ, -List.getD_eq_getElem?_getD, pureOp, addL_nil, seenG_nil, gnF_nil, fiN_nil, hsp]; exact h x hI hno)
   refine zl 5 ?_ (h := by intro c K h; simp [hG, List.getD_cons_zero, List.getD_cons_succ, -List.getD_eq_getElem?_getD, pureOp, addL_nil, seenG_nil, gnF_nil, fiN_nil, hsp]; first | exact z1 c h | exact ⟨.mk c, h⟩)
   refine zN (zt ?_)
   refine RetF_of (()) (id) (fun _ => false) (fun _ => false) trivial ?_ ?_ (by rfl) (by simp) (fun k hk => ⟨rfl, rfl⟩)
   · rw [hf1, hf2]; simp [hG, pureOp, List.getD_cons_zero, List.getD_cons_succ, -List.getD_eq_getElem?_getD]
   simp [hG, List.getD_cons_zero, List.getD_cons_succ, -List.getD_eq_getElem?_getD, pureOp, addL_nil, seenG_nil, gnF_nil, fiN_nil, hsp]
 obtain rfl : u = [] := List.length_eq_zero_iff.1 (posB_no (by simpa using hsp))
 refine zL ?_
 refine zf cal58 [1] (stringNilB (S := 2) (off := 0) (hin := [(0, .typ 87 (.arr 1 2 (fun _ j => bF (.nilp) (.nils) j)))]) (nin := 1) rfl (by omega) rfl) (fun x hI hno => ?_) (a := by simp [hG, List.getD_cons_zero, List.getD_cons_succ, -List.getD_eq_getElem?_getD, pureOp, addL_nil, seenG_nil, gnF_nil, fiN_nil, hsp]) (b := by simp [hG, List.getD_cons_zero, List.getD_cons_succ, -List.getD_eq_getElem?_getD, pureOp, addL_nil, seenG_nil, gnF_nil, fiN_nil, hsp]) (c := by simp [hG, List.getD_cons_zero, List.getD_cons_succ, -List.getD_eq_getElem?_getD, pureOp, addL_nil, seenG_nil, gnF_nil, fiN_nil, hsp]) (h := by intro K h x hI hno; simp [hG, List.getD_cons_zero, List.getD_cons_succ, -List.getD_eq_getElem?_getD, pureOp, addL_nil, seenG_nil, gnF_nil, fiN_nil, hsp]; exact h x hI hno)
 refine zl 5 ?_ (h := by intro c K h; simp [hG, List.getD_cons_zero, List.getD_cons_succ, -List.getD_eq_getElem?_getD, pureOp, addL_nil, seenG_nil, gnF_nil, fiN_nil, hsp]; first | exact z1 c h | exact ⟨.mk c, h⟩)
 refine zN (zt ?_)
 refine RetF_of (()) (id) (fun _ => false) (fun _ => false) trivial ?_ ?_ (by rfl) (by simp) (fun k hk => ⟨rfl, rfl⟩)
 · rw [hf1, hf2]; simp [hG, pureOp, List.getD_cons_zero, List.getD_cons_succ, -List.getD_eq_getElem?_getD]
 simp [hG, List.getD_cons_zero, List.getD_cons_succ, -List.getD_eq_getElem?_getD, pureOp, addL_nil, seenG_nil, gnF_nil, fiN_nil, hsp]
end Go.Proofs.Ytoafgeobhhlplaa
