/-
  Plain: the reference's lists for Lossless (numbers of pairs) and Within (states with sets).
-/
import Derived.Test.YtfoeigajlkonpaaDoorQX
import Derived.Test.YtfoeigajlkonpaaDoorQT
namespace Go.Proofs.YtfoeigajlkonpaaDoor
set_option linter.unusedSimpArgs false
set_option linter.unusedVariables false
open Go Go.Lift

def encP (n : Nat) (p : Pr) : Int := p.s * n + p.t
theorem encP_div {n : Nat} {p : Pr} (h : 0 ≤ p.t ∧ p.t < (n : Int)) : encP n p / n = p.s := by
  unfold encP
  rw [Int.add_comm, Int.add_mul_ediv_right _ _ (by omega), Int.ediv_eq_zero_of_lt h.1 h.2]; omega
theorem encP_mod {n : Nat} {p : Pr} (h : 0 ≤ p.t ∧ p.t < (n : Int)) : encP n p % n = p.t := by
  unfold encP
  rw [Int.add_comm, Int.add_mul_emod_self_right, Int.emod_eq_of_lt h.1 h.2]
theorem encP_inj {n : Nat} {p q : Pr} (hp : 0 ≤ p.t ∧ p.t < (n : Int)) (hq : 0 ≤ q.t ∧ q.t < (n : Int)) (h : encP n p = encP n q) : p = q := by
  have h1 := encP_div hp
  have h2 := encP_mod hp
  rw [h, encP_div hq] at h1
  rw [h, encP_mod hq] at h2
  obtain ⟨a, b⟩ := p; obtain ⟨c, d⟩ := q
  simp only at h1 h2
  rw [h1, h2]
theorem encP_box {n : Nat} {p : Pr} (h : (0 ≤ p.s ∧ p.s < (n : Int)) ∧ 0 ≤ p.t ∧ p.t < (n : Int)) : 0 ≤ encP n p ∧ encP n p < (n : Int) * n := by
  obtain ⟨⟨p1, p2⟩, p3, p4⟩ := h
  have h1 : 0 ≤ p.s * (n : Int) := Int.mul_nonneg p1 (by omega)
  have h2 : (p.s + 1) * (n : Int) ≤ n * n := Int.mul_le_mul_of_nonneg_right (by omega) (by omega)
  rw [Int.add_mul] at h2
  unfold encP
  omega
/-- what the reference has seen. -/
def seenB (n : Nat) (Q : List Pr) (j : Int) : Bool := Q.any fun p => decide (encP n p = j)
theorem seenB_nil {n : Nat} {j : Int} : seenB n [] j = false := rfl
theorem seenB_mem {n : Nat} {Q : List Pr} {p : Pr} (hQ : ∀ q ∈ Q, 0 ≤ q.t ∧ q.t < (n : Int)) (hp : 0 ≤ p.t ∧ p.t < (n : Int)) : seenB n Q (encP n p) = decide (p ∈ Q) := by
  by_cases h : p ∈ Q
  · rw [decide_eq_true h]
    exact List.any_eq_true.2 ⟨p, h, decide_eq_true rfl⟩
  · rw [decide_eq_false h]
    refine List.any_eq_false.2 fun q hq he => h ?_
    rw [← encP_inj (hQ q hq) hp (of_decide_eq_true he)]; exact hq
theorem seenB_app {n : Nat} {Q : List Pr} {p : Pr} {j : Int} : seenB n (Q ++ [p]) j = (seenB n Q j || decide (encP n p = j)) := by
  unfold seenB; rw [List.any_append]; simp
theorem losPut_new {Q : List Pr} {p : Pr} (h : p ∉ Q) : losPut Q p = Q ++ [p] := if_neg h
theorem losPut_old {Q : List Pr} {p : Pr} (h : p ∈ Q) : losPut Q p = Q := if_pos h
theorem losIf_yes {a b : List Cell} {d : Bool} {i k : Nat} {Q : List Pr} (h : (a.getD i dc).word = (b.getD k dc).word) (h2 : d = true → i ≠ k) : losIf a b d i Q k = losPut Q ⟨(a.getD i dc).to, (b.getD k dc).to⟩ := if_pos ⟨h, h2⟩
theorem losIf_no {a b : List Cell} {d : Bool} {i k : Nat} {Q : List Pr} (h : ¬ ((a.getD i dc).word = (b.getD k dc).word ∧ (d = true → i ≠ k))) : losIf a b d i Q k = Q := if_neg h

/-- a list of pairs of states and sets has a pair exactly if the list of numbers has it. -/
theorem met_mem {g : Gr} {st : Sb} (h : SbFin g st) {Q : List Pr} (hQ : ∀ p ∈ Q, 0 ≤ p.t ∧ p.t < (st.all.length : Int)) {s : Int} {q : Nat} (hq : q < st.all.length) : (∃ p ∈ Q, p.s = s ∧ st.all.getD p.t.toNat [] = st.all.getD q []) ↔ (⟨s, (q : Int)⟩ : Pr) ∈ Q := by
  constructor
  · rintro ⟨p, hp, h1, h2⟩
    have hb := hQ p hp
    have : p.t.toNat = q := by
      refine Classical.byContradiction fun hne => ?_
      have h3 := List.pairwise_iff_getElem.1 (List.nodup_iff_pairwise_ne.1 h.nd)
      have hp' : p.t.toNat < st.all.length := by omega
      rw [getD_get hp', getD_get hq] at h2
      rcases Nat.lt_or_gt_of_ne hne with h4 | h4
      · exact h3 _ _ hp' hq h4 h2
      · exact h3 _ _ hq hp' h4 h2.symm
    obtain ⟨a, b⟩ := p
    simp only at h1 this hb
    have : b = (q : Int) := by omega
    rw [← h1, ← this]; exact hp
  · intro hm
    exact ⟨_, hm, rfl, rfl⟩
end Go.Proofs.YtfoeigajlkonpaaDoor

namespace Go.Proofs.YtfoeigajlkonpaaDoor
set_option linter.unusedSimpArgs false
set_option linter.unusedVariables false
open Go Go.Lift

def withinN (e : Enc) (g : Gr) : Int := if checkE e ≠ 0 ∨ gcheck g ≠ 0 then 1 else if g.labels ≠ e.letters then 11 else buildN g
def withinB (e : Enc) (g : Gr) : Bool := decide (withinN e g = 0) && decide (0 < g.states) && wiB e (sbAt g 65)
theorem withinN_arg {e : Enc} {g : Gr} (h : checkE e ≠ 0 ∨ gcheck g ≠ 0) : withinN e g = 1 := if_pos h
theorem withinN_mis {e : Enc} {g : Gr} (h : checkE e = 0) (h2 : gcheck g = 0) (h3 : g.labels ≠ e.letters) : withinN e g = 11 := by
  unfold withinN; rw [if_neg (by rintro (k | k) <;> contradiction), if_pos h3]
theorem withinN_ok {e : Enc} {g : Gr} (h : checkE e = 0) (h2 : gcheck g = 0) (h3 : g.labels = e.letters) : withinN e g = buildN g := by
  unfold withinN; rw [if_neg (by rintro (k | k) <;> contradiction), if_neg (fun k => k h3)]
theorem withinB_err {e : Enc} {g : Gr} (h : withinN e g ≠ 0) : withinB e g = false := by unfold withinB; rw [decide_eq_false h]; rfl
theorem withinB_none {e : Enc} {g : Gr} (h : ¬ 0 < g.states) : withinB e g = false := by unfold withinB; rw [decide_eq_false h]; simp
theorem withinB_ok {e : Enc} {g : Gr} (h : withinN e g = 0) (h2 : 0 < g.states) : withinB e g = wiB e (sbAt g 65) := by unfold withinB; rw [decide_eq_true h, decide_eq_true h2]; simp
theorem buildN_ok {g : Gr} (h : gcheck g = 0) (h2 : ¬ (0 < g.states ∧ sbOver (sbAt g 65))) : buildN g = 0 := by unfold buildN; rw [if_neg (fun k => k h), if_neg h2]
theorem buildN_over {g : Gr} (h : gcheck g = 0) (h2 : 0 < g.states) (h3 : sbOver (sbAt g 65)) : buildN g = 4 := by unfold buildN; rw [if_neg (fun k => k h), if_pos ⟨h2, h3⟩]
theorem sbAt_first {g : Gr} (i : Nat) : (sbAt g i).all.getD 0 [] = iotaL g.states.toNat := by
  have h := sbAt_up (g := g) (i := 0) i
  rw [Nat.zero_add] at h
  rw [pre_at h.all (by simp [sbAt])]
  rfl
theorem build_fin {g : Gr} (hv : gcheck g = 0) (hs : 0 < g.states) (hb : buildN g = 0) : SbFin g (sbAt g 65) := by
  have ho : ¬ sbOver (sbAt g 65) := by
    intro ho
    rw [buildN_over hv hs ho] at hb; omega
  exact sb_fin hv hs (by have := (sb_done ho).1; omega)
theorem run_dig {e : Enc} (hv : checkE e = 0) : ∀ {l : List Int} {s : Int}, 0 ≤ s → s < (e.rows.length : Int) → (∀ i ∈ l, badI e i = false) → ∀ c ∈ (runE e s l).1, 0 ≤ idxB letters c ∧ idxB letters c < e.letters
  | [], s, _, _, _, c, hc => by cases hc
  | i :: l, s, h0, h1, hg, c, hc => by
    have hi := bad_no.1 (hg i (by simp))
    have hr := row_eq hv (k := s.toNat) (by omega)
    have ht := cell_to hv (s := s.toNat) (i := i.toNat) (by omega) (by omega)
    simp only [runE] at hc
    rcases List.mem_append.1 hc with h2 | h2
    · exact cell_dig hv (s := s.toNat) (i := i.toNat) (by omega) (by omega) c h2
    · exact run_dig hv ht.1 ht.2 (fun j hj => hg j (by simp [hj])) c h2
/-- WITHIN: each word that is written is one of the graph. -/
theorem within_acc {e : Enc} {g : Gr} (hb : withinB e g = true) {s : Int} {l : List Int} (h0 : 0 ≤ s) (h1 : s < (e.rows.length : Int)) (hg : ∀ i ∈ l, badI e i = false) : setA g (iotaL g.states.toNat) (runE e s l).1 ≠ [] := by
  have hN : withinN e g = 0 := Classical.byContradiction fun h => by rw [withinB_err h] at hb; cases hb
  have hs : 0 < g.states := Classical.byContradiction fun h => by rw [withinB_none h] at hb; cases hb
  rw [withinB_ok hN hs] at hb
  have hv : checkE e = 0 := Classical.byContradiction fun h => by rw [withinN_arg (.inl h)] at hN; omega
  have hgv : gcheck g = 0 := Classical.byContradiction fun h => by rw [withinN_arg (.inr h)] at hN; omega
  have hl : g.labels = e.letters := Classical.byContradiction fun h => by rw [withinN_mis hv hgv h] at hN; omega
  rw [withinN_ok hv hgv hl] at hN
  have hf := build_fin hgv hs hN
  have hm := wi_start hv hf hl (s := s.toNat) (by omega)
  rw [Int.toNat_of_nonneg h0] at hm
  have hr := wi_run hv hf hl hb hm hg
  have hd := run_dig hv h0 h1 hg
  rcases hf.fol (w := (runE e s l).1) (t := 0) hf.ne (by rw [hl]; exact hd) with ⟨_, h2⟩ | ⟨q, h2, h3, h4⟩
  · have : folA (sbAt g 65) ((0 : Nat) : Int) (runE e s l).1 = folA (sbAt g 65) 0 (runE e s l).1 := rfl
    omega
  · rw [sbAt_first] at h4
    rw [← h4]
    exact (hf.set _ (getD_mem (d := []) h3)).1
end Go.Proofs.YtfoeigajlkonpaaDoor

namespace Go.Proofs.YtfoeigajlkonpaaDoor
set_option linter.unusedSimpArgs false
set_option linter.unusedVariables false
open Go Go.Lift

/-- whether an edge with a label leads from a set to a state. -/
def nxE (k : Int) (L : List Int) (t : Int) (x : Edge) : Bool := decide (x.to = t) && decide (x.lab = k) && decide (x.frm ∈ L)
def nxF (g : Gr) (k : Int) (L : List Int) (t : Int) (m : Nat) : Bool := (g.edges.take m).any (nxE k L t)
def nxT (g : Gr) (k : Int) (L : List Int) (T : Nat) : List Int := (iotaL T).filter fun t => nxF g k L t g.edges.length
theorem nxF_zero {g : Gr} {k : Int} {L : List Int} {t : Int} : nxF g k L t 0 = false := by simp [nxF]
theorem nxF_succ {g : Gr} {k : Int} {L : List Int} {t : Int} {m : Nat} (h : m < g.edges.length) : nxF g k L t (m + 1) = (nxF g k L t m || nxE k L t (g.edges.getD m de)) := by
  unfold nxF; rw [List.take_succ_eq_append_getElem h, List.any_append, getD_get h]; simp
theorem nxT_zero {g : Gr} {k : Int} {L : List Int} : nxT g k L 0 = [] := rfl
theorem nxT_succ {g : Gr} {k : Int} {L : List Int} {T : Nat} : nxT g k L (T + 1) = if nxF g k L T g.edges.length then nxT g k L T ++ [(T : Int)] else nxT g k L T := by
  unfold nxT iotaL
  rw [List.range_succ, List.map_append, List.filter_append]
  by_cases h : nxF g k L T g.edges.length <;> simp [h]
theorem nxT_len {g : Gr} {k : Int} {L : List Int} {T : Nat} : (nxT g k L T).length ≤ T := by
  unfold nxT
  exact Nat.le_trans (List.length_filter_le _ _) (by rw [iota_len]; exact Nat.le_refl _)
theorem nxT_all {g : Gr} (hv : gcheck g = 0) {k : Int} {L : List Int} : nxT g k L g.states.toNat = stepL g k L := by
  refine ascI_ext (iota_asc.filter _) step_asc fun t => ?_
  unfold nxT
  rw [List.mem_filter, step_mem]
  unfold nxF
  rw [List.take_length, List.any_eq_true]
  constructor
  · rintro ⟨_, x, hx, h⟩
    unfold nxE at h
    simp at h
    exact ⟨x.frm, h.2, x, hx, rfl, h.1.2, h.1.1⟩
  · rintro ⟨s, hs, x, hx, h1, h2, h3⟩
    have hb := (edge_in hv hx).2.2
    refine ⟨?_, x, hx, by unfold nxE; simp [h1, h2, h3, hs]⟩
    rw [h3] at hb
    exact List.mem_map.2 ⟨t.toNat, List.mem_range.2 (by omega), by omega⟩
/-- the place of a set; -1 if it is not there. -/
def idxL (l : List (List Int)) (x : List Int) : Int := if x ∈ l then (l.idxOf x : Int) else -1
theorem idxL_none {l : List (List Int)} {x : List Int} (h : ∀ j, j < l.length → l.getD j [] ≠ x) : idxL l x = -1 := by
  unfold idxL
  rw [if_neg]
  intro hm
  obtain ⟨j, hj, e⟩ := List.mem_iff_getElem.1 hm
  exact h j hj (by rw [getD_get hj]; exact e)
theorem idxL_some : ∀ {l : List (List Int)} {x : List Int} {k : Nat}, k < l.length → (∀ j, j < k → l.getD j [] ≠ x) → l.getD k [] = x → idxL l x = k
  | [], x, k, hk, _, _ => absurd hk (Nat.not_lt_zero _)
  | y :: l, x, 0, _, _, h => by
    have : y = x := h
    subst this
    unfold idxL
    rw [if_pos List.mem_cons_self, List.idxOf_cons_self]
  | y :: l, x, k + 1, hk, h0, h => by
    have hne : y ≠ x := h0 0 (Nat.succ_pos _)
    have ih := idxL_some (l := l) (x := x) (k := k) (by simpa using hk) (fun j hj => by simpa using h0 (j + 1) (by omega)) (by simpa using h)
    unfold idxL at ih ⊢
    by_cases hm : x ∈ l
    · rw [if_pos hm] at ih
      rw [if_pos (List.mem_cons_of_mem _ hm), List.idxOf_cons, show (y == x) = false from beq_false_of_ne hne, cond_false]
      omega
    · rw [if_neg hm] at ih
      omega
theorem idxL_put {l : List (List Int)} {x : List Int} : (idxL l x = -1 ↔ x ∉ l) ∧ (x ∈ l → idxL l x = (l.idxOf x : Int)) := by
  unfold idxL
  by_cases h : x ∈ l
  · rw [if_pos h]
    exact ⟨⟨fun h2 => by omega, fun h2 => absurd h h2⟩, fun _ => rfl⟩
  · rw [if_neg h]
    exact ⟨⟨fun _ => h, fun _ => rfl⟩, fun h2 => absurd h2 h⟩
theorem sbPut_none {g : Gr} {i k : Nat} {st : Sb} (h : stepL g k (st.all.getD i []) = []) : sbPut g i st k = st := if_pos h
theorem sbPut_new {g : Gr} {i k : Nat} {st : Sb} (h : stepL g k (st.all.getD i []) ≠ []) (hm : stepL g k (st.all.getD i []) ∉ st.all) : sbPut g i st k = ⟨st.all ++ [stepL g k (st.all.getD i [])], st.es ++ [⟨i, k, st.all.length⟩]⟩ := by
  unfold sbPut
  rw [if_neg h, if_neg hm, List.idxOf_eq_length hm]
theorem sbPut_old {g : Gr} {i k : Nat} {st : Sb} (h : stepL g k (st.all.getD i []) ≠ []) (hm : stepL g k (st.all.getD i []) ∈ st.all) : sbPut g i st k = ⟨st.all, st.es ++ [⟨i, k, st.all.idxOf (stepL g k (st.all.getD i []))⟩]⟩ := by
  unfold sbPut
  rw [if_neg h, if_pos hm]
end Go.Proofs.YtfoeigajlkonpaaDoor

namespace Go.Proofs.YtfoeigajlkonpaaDoor
set_option linter.unusedSimpArgs false
set_option linter.unusedVariables false
open Go Go.Lift

/-- the encoder of the example. -/
def smp : Enc := ⟨2, 2, 2, [[⟨0, [48, 49]⟩, ⟨1, [48, 48]⟩], [⟨0, [49, 48]⟩, ⟨1, [48, 48]⟩]]⟩
def gold : Gr := ⟨2, 2, [⟨0, 0, 0⟩, ⟨0, 1, 1⟩, ⟨1, 0, 0⟩]⟩
theorem smp_ok : checkE smp = 0 := by decide
theorem smp_los : losB smp = true := by decide +kernel
theorem smp_enc : encodeN smp 0 [1, 0, 0] = 0 ∧ runE smp 0 [1, 0, 0] = ([48, 48, 49, 48, 48, 49], 0) := by decide +kernel
theorem smp_text : textE smp = [101, 110, 99, 111, 100, 101, 114, 32, 50, 32, 50, 32, 50, 32, 50, 10, 48, 49, 62, 48, 32, 48, 48, 62, 49, 10, 49, 48, 62, 48, 32, 48, 48, 62, 49, 10] := by decide +kernel
theorem gold_ok : gcheck gold = 0 := by decide
def goldS : Sb := ⟨[[0, 1], [0], [1]], [⟨0, 0, 1⟩, ⟨0, 1, 2⟩, ⟨1, 0, 1⟩, ⟨1, 1, 2⟩, ⟨2, 0, 1⟩]⟩
/-- the graph of sets by the reference's way to the next set, which the kernel reckons. -/
def stepN (g : Gr) (k : Int) (L : List Int) : List Int := nxT g k L g.states.toNat
def sbPutN (g : Gr) (i : Nat) (st : Sb) (k : Nat) : Sb :=
  if stepN g k (st.all.getD i []) = [] then st else
    ⟨if stepN g k (st.all.getD i []) ∈ st.all then st.all else st.all ++ [stepN g k (st.all.getD i [])], st.es ++ [⟨i, k, st.all.idxOf (stepN g k (st.all.getD i []))⟩]⟩
def sbRowN (g : Gr) (i : Nat) (st : Sb) (k : Nat) : Sb := (List.range k).foldl (sbPutN g i) st
def sbAtN (g : Gr) : Nat → Sb
  | 0 => ⟨[iotaL g.states.toNat], []⟩
  | i + 1 => if i < (sbAtN g i).all.length then sbRowN g i (sbAtN g i) g.labels.toNat else sbAtN g i
theorem sbPutN_eq {g : Gr} (hv : gcheck g = 0) {i : Nat} : sbPutN g i = sbPut g i := by
  funext st k
  unfold sbPutN sbPut stepN
  rw [nxT_all hv]
theorem sbAtN_eq {g : Gr} (hv : gcheck g = 0) : ∀ i, sbAtN g i = sbAt g i
  | 0 => rfl
  | i + 1 => by
    show (if _ then _ else _) = if _ then _ else _
    unfold sbRowN
    rw [sbAtN_eq hv i, sbPutN_eq hv]; rfl
deriving instance DecidableEq for Sb
theorem gold_3 : sbAtN gold 3 = goldS := by decide +kernel
theorem gold_sb : sbAt gold 65 = goldS := by
  have h3 : sbAt gold 3 = goldS := by rw [← sbAtN_eq gold_ok]; exact gold_3
  rw [sb_final (i := 3) (by omega) (by rw [h3]; decide), h3]
theorem gold_build : buildN gold = 0 := buildN_ok gold_ok (by rw [gold_sb]; decide)
theorem smp_in : withinB smp gold = true ∧ withinN smp gold = 0 := by
  have hN : withinN smp gold = 0 := by rw [withinN_ok smp_ok gold_ok rfl, gold_build]
  refine ⟨?_, hN⟩
  rw [withinB_ok hN (by decide), gold_sb]
  decide +kernel
end Go.Proofs.YtfoeigajlkonpaaDoor
