/- Parts of the proof: QM. -/
import Derived.Test.YthpdkmoedpcboaaGreatPO09
import Derived.Test.YthpdkmoedpcboaaGreatPO10
namespace Go.Proofs.YthpdkmoedpcboaaGreat
set_option linter.unusedSimpArgs false
set_option linter.unusedVariables false
open Go Go.Lift
structure Cell where
  to : Int
  word : List UInt8
deriving DecidableEq, Inhabited
structure Enc where
  letters : Int
  block : Int
  inputs : Int
  rows : List (List Cell)
deriving DecidableEq, Inhabited
def dc : Cell := ⟨0, []⟩
def cellF (c : Cell) (j : Nat) : AVal := match j with
  | 0 => .int .i64 c.to
  | _ => .str c.word
@[simp] theorem cellF0 {c : Cell} : cellF c 0 = .int .i64 c.to := rfl
@[simp] theorem cellF1 {c : Cell} : cellF c 1 = .str c.word := rfl
@[simp] theorem one_cellF {c : Cell} {j : Nat} : (cellF c j).one = true := by unfold cellF; split <;> rfl
@[simp] theorem Clo_cellF {c : Cell} {j : Nat} : Clo (cellF c j) := by unfold cellF; split <;> trivial
@[simp] theorem ren_cellF {ρ : Nat → Nat} {c : Cell} {j : Nat} : ren ρ (cellF c j) = cellF c j := by unfold cellF; split <;> rfl
@[simp] theorem flat_cellF {c : Cell} {j : Nat} : flat (cellF c j) := by unfold cellF; split <;> trivial
def cells (l : List Cell) : AVal := vec 2 cellF dc l
@[simp] theorem evLen_cells {h : Heap} {l : List Cell} : evLen h (cells l) = some (.int .i64 l.length) := rfl
@[simp] theorem strip_cells {l : List Cell} : strip (cells l) = (cells l, True) := rfl
@[simp] theorem mkOpt_cells {g : Bool} {l : List Cell} : mkOpt g (cells l) = .opt g (cells l) := rfl
@[simp] theorem one_cells {l : List Cell} : (cells l).one = true := rfl
@[simp] theorem acell_cells {l : List Cell} {j : Nat} : acell (cells l) j = cells l := rfl
@[simp] theorem Clo_cells {l : List Cell} : Clo (cells l) := Clo_vec fun x _ j hj => ⟨one_cellF, Clo_cellF⟩
@[simp] theorem lenT_cells {T : Tab} {t : TypeId} {l : List Cell} : lenT T t (cells l) = sliceT T t := lenT_vec
@[simp] theorem evIndexAddr_cells {T : Tab} {h : Heap} {t : TypeId} {k : IntKind} {m : Int} {l : List Cell} : evIndexAddr T h t (cells l) (.int k m) = match elemT T t with
    | some ei => if 2 = ei.size then some (.vptr 2 (fun j => cellF (l.getD m.toNat dc) j) 0, 0 ≤ m ∧ m < (l.length : Int)) else none
    | none => none := evIndexAddr_vec
@[simp] theorem evSrc_cells {h : Heap} {l : List Cell} : evSrc h 2 (cells l) = some (l.length, (fun i j => cellF (l.getD i dc) j), True) := by
  unfold cells
  rw [evSrc_vec rfl]
  rfl
@[simp] theorem evBin_cells {o : BinOp} {v : AVal} {l : List Cell} : evBin o (cells l) v = none := rfl
@[simp] theorem evEq_cells {T : Tab} {t : TypeId} {l : List Cell} : evEq T .eql t (cells l) .nils = if sliceT T t then some (.ub (l.length = 0)) else none := rfl
@[simp] theorem VLe_cells_nils {h : Heap} {σ : Lift.Id → Lift.Id} {fz : Nat → Bool} {vz : Lift.Id → Bool} {x : Nat} {l : List Cell} : VLe h σ fz vz x (cells l) .nils = (l.length = 0) := rfl
@[simp] theorem VLe_cells_sl {h : Heap} {σ : Lift.Id → Lift.Id} {fz : Nat → Bool} {vz : Lift.Id → Bool} {y lo x' : Nat} {id : Lift.Id} {l : List Cell} : VLe h σ fz vz y (cells l) (.sl id lo x') = (x' = l.length ∧ fz id.1 = true ∧ match lkH h id with
    | some (.arr N s' g') => s' = 2 ∧ lo + l.length ≤ N ∧ ∀ i, i < l.length → ∀ j, j < 2 → (cellF (l.getD i dc) j).one = true ∧ VLe h σ fz vz y (cellF (l.getD i dc) j) (g' (lo + i) j)
    | _ => False) := VLe_vsl_sl
@[simp] theorem VLe_cells_vsl {h : Heap} {σ : Lift.Id → Lift.Id} {fz : Nat → Bool} {vz : Lift.Id → Bool} {x' s' y : Nat} {g' : Nat → Nat → AVal} {l : List Cell} : VLe h σ fz vz y (cells l) (.vsl x' s' g') = (x' = l.length ∧ s' = 2 ∧ ∀ i, i < l.length → ∀ j, j < 2 → (cellF (l.getD i dc) j).one = true ∧ VLe h σ fz vz y (cellF (l.getD i dc) j) (g' i j)) := rfl
@[simp] theorem ren_cells {ρ : Nat → Nat} {l : List Cell} : ren ρ (cells l) = cells l := ren_vec fun _ _ => ren_cellF
@[simp] theorem mkOpt_vecF {α : Type} {g : Bool} {f : α → Nat → AVal} {d : α} {l : List α} {i j : Nat} : mkOpt g (vecF f d l i j) = mkOpt g (f (l.getD i d) j) := rfl
end Go.Proofs.YthpdkmoedpcboaaGreat
namespace Go.Proofs.YthpdkmoedpcboaaGreat
set_option linter.unusedSimpArgs false
set_option linter.unusedVariables false
open Go Go.Lift
def cellCheck (e : Enc) (c : Cell) : Int := if c.to < 0 ∨ (e.rows.length : Int) ≤ c.to then 25 else if (c.word.length : Int) ≠ e.block ∨ wordCheck e.letters c.word ≠ 0 then 13 else 0
def rowCheck (e : Enc) (r : List Cell) : Int := if (r.length : Int) ≠ e.inputs then 11 else firstNZ (cellCheck e) r
def checkE (e : Enc) : Int :=
  if e.letters < 1 ∨ 16 < e.letters then 12 else if (e.block < 1 ∨ 16 < e.block) ∨ e.inputs < 1 ∨ 256 < e.inputs then 2 else if e.rows.length = 0 then 5 else if 64 < e.rows.length then 4 else firstNZ (rowCheck e) e.rows
section
variable {e : Enc}
end
def cellAt (e : Enc) (s i : Nat) : Cell := (e.rows.getD s []).getD i dc
theorem nodup_le : ∀ {n : Nat} {L : List Int}, L.Nodup → (∀ x ∈ L, 0 ≤ x ∧ x < (n : Int)) → L.length ≤ n
  | 0, [], _, _ => Nat.le_refl _
  | 0, x :: L, _, h => by have := h x List.mem_cons_self; omega
  | n + 1, L, hn, h => by
    by_cases hm : (n : Int) ∈ L
    · have h1 := nodup_le (n := n) (L := L.erase (n : Int)) (hn.erase _) fun x hx => by
        have h2 := h x (List.mem_of_mem_erase hx)
        have h3 : x ≠ (n : Int) := fun e => by rw [e] at hx; exact (hn.not_mem_erase) hx
        omega
      rw [List.length_erase_of_mem hm] at h1
      omega
    · have := nodup_le (n := n) hn fun x hx => by
        have h2 := h x hx
        have h3 : x ≠ (n : Int) := fun e => by rw [e] at hx; exact hm hx
        omega
      omega
end Go.Proofs.YthpdkmoedpcboaaGreat
namespace Go.Proofs.YthpdkmoedpcboaaGreat
set_option linter.unusedSimpArgs false
set_option linter.unusedVariables false
open Go Go.Lift
structure Pr where
  s : Int
  t : Int
deriving DecidableEq, Inhabited
def dp : Pr := ⟨0, 0⟩
structure Ext (P : Pr → Prop) (Q R : List Pr) : Prop where
  pre : Q <+: R
  nd : Q.Nodup → R.Nodup
  new : ∀ p ∈ R, p ∈ Q ∨ P p
theorem Ext.refl {P : Pr → Prop} {Q : List Pr} : Ext P Q Q := ⟨List.prefix_refl _, id, fun p h => .inl h⟩
theorem Ext.trans {P : Pr → Prop} {Q R S : List Pr} (h : Ext P Q R) (k : Ext P R S) : Ext P Q S :=
  ⟨h.pre.trans k.pre, fun x => k.nd (h.nd x), fun p hp => (k.new p hp).elim (fun h1 => h.new p h1) .inr⟩
theorem Ext.imp {P P' : Pr → Prop} {Q R : List Pr} (h : Ext P Q R) (k : ∀ p, P p → P' p) : Ext P' Q R := ⟨h.pre, h.nd, fun p hp => (h.new p hp).imp id (k p)⟩
theorem Ext.mem {P : Pr → Prop} {Q R : List Pr} (h : Ext P Q R) {p : Pr} (hp : p ∈ Q) : p ∈ R := h.pre.subset hp
def InE (e : Enc) (p : Pr) : Prop := (0 ≤ p.s ∧ p.s < (e.rows.length : Int)) ∧ 0 ≤ p.t ∧ p.t < (e.rows.length : Int)
section
variable {e : Enc} (hv : checkE e = 0)
include hv
structure LosOK (e : Enc) (Q : List Pr) : Prop where
  nd : Q.Nodup
  inE : ∀ p ∈ Q, InE e p
omit hv in
theorem LosOK.grow {Q R : List Pr} (h : LosOK e Q) (k : Ext (InE e) Q R) : LosOK e R := ⟨k.nd h.nd, fun p hp => (k.new p hp).elim (h.inE p) id⟩
omit hv in
theorem LosOK.at {Q : List Pr} (h : LosOK e Q) {i : Nat} (hi : i < Q.length) : InE e (Q.getD i dp) := h.inE _ (getD_mem (d := dp) hi)
omit hv in
theorem LosOK.len {Q : List Pr} (h : LosOK e Q) : Q.length ≤ e.rows.length * e.rows.length := by
  have h1 := nodup_le (n := e.rows.length * e.rows.length) (L := Q.map fun p => p.s * e.rows.length + p.t) ?_ ?_
  · rwa [List.length_map] at h1
  · unfold List.Nodup
    rw [List.pairwise_map]
    refine (List.Pairwise.imp_of_mem (l := Q) (R := fun a b => a ≠ b) ?_ h.nd)
    intro a b ha hb hne he
    apply hne
    obtain ⟨⟨a1, a2⟩, a3, a4⟩ := h.inE a ha
    obtain ⟨⟨b1, b2⟩, b3, b4⟩ := h.inE b hb
    have e1 : (a.s * e.rows.length + a.t) / (e.rows.length : Int) = a.s := by
      rw [Int.add_comm, Int.add_mul_ediv_right _ _ (by omega), Int.ediv_eq_zero_of_lt a3 a4]; omega
    have e2 : (b.s * e.rows.length + b.t) / (e.rows.length : Int) = b.s := by
      rw [Int.add_comm, Int.add_mul_ediv_right _ _ (by omega), Int.ediv_eq_zero_of_lt b3 b4]; omega
    rw [he, e2] at e1
    obtain ⟨as, at'⟩ := a; obtain ⟨bs, bt⟩ := b
    simp only at *
    subst e1
    congr 1
    omega
  · intro x hx
    obtain ⟨p, hp, rfl⟩ := List.mem_map.1 hx
    obtain ⟨⟨p1, p2⟩, p3, p4⟩ := h.inE p hp
    have h1 : 0 ≤ p.s * (e.rows.length : Int) := Int.mul_nonneg p1 (by omega)
    have h2 : (p.s + 1) * (e.rows.length : Int) ≤ e.rows.length * e.rows.length := Int.mul_le_mul_of_nonneg_right (by omega) (by omega)
    rw [Int.add_mul] at h2
    push_cast
    omega
end
end Go.Proofs.YthpdkmoedpcboaaGreat
namespace Go.Proofs.YthpdkmoedpcboaaGreat
set_option linter.unusedSimpArgs false
set_option linter.unusedVariables false
open Go Go.Lift
section
variable {e : Enc} (hv : checkE e = 0)
include hv
end
end Go.Proofs.YthpdkmoedpcboaaGreat
namespace Go.Proofs.YthpdkmoedpcboaaGreat
set_option linter.unusedSimpArgs false
set_option linter.unusedVariables false
open Go Go.Lift
structure Sb where
  all : List (List Int)
  es : List Edge
def sbPut (g : Gr) (i : Nat) (st : Sb) (k : Nat) : Sb :=
  if stepL g k (st.all.getD i []) = [] then st else
    ⟨if stepL g k (st.all.getD i []) ∈ st.all then st.all else st.all ++ [stepL g k (st.all.getD i [])], st.es ++ [⟨i, k, st.all.idxOf (stepL g k (st.all.getD i []))⟩]⟩
def sbRow (g : Gr) (i : Nat) (st : Sb) (k : Nat) : Sb := (List.range k).foldl (sbPut g i) st
theorem sbRow_succ {g : Gr} {i k : Nat} {st : Sb} : sbRow g i st (k + 1) = sbPut g i (sbRow g i st k) k := by simp [sbRow, List.range_succ]
def sbOver (st : Sb) : Prop := 64 < st.all.length ∨ 1024 < st.es.length
instance {st : Sb} : Decidable (sbOver st) := by unfold sbOver; infer_instance
theorem pre_at {α : Type} {L M : List α} {d : α} (h : L <+: M) {k : Nat} (hk : k < L.length) : M.getD k d = L.getD k d := by
  obtain ⟨N, rfl⟩ := h
  simp only [List.getD_eq_getElem?_getD]; rw [List.getElem?_append_left hk]
structure SbPre (a b : Sb) : Prop where
  all : a.all <+: b.all
  es : a.es <+: b.es
theorem SbPre.refl {a : Sb} : SbPre a a := ⟨List.prefix_refl _, List.prefix_refl _⟩
theorem SbPre.trans {a b c : Sb} (h : SbPre a b) (k : SbPre b c) : SbPre a c := ⟨h.all.trans k.all, h.es.trans k.es⟩
theorem SbPre.over {a b : Sb} (h : SbPre a b) (k : sbOver a) : sbOver b := by
  have := h.all.length_le; have := h.es.length_le
  unfold sbOver at *; omega
theorem sbPut_pre {g : Gr} {i k : Nat} {st : Sb} : SbPre st (sbPut g i st k) := by
  unfold sbPut
  split
  · exact .refl
  · refine ⟨?_, List.prefix_append _ _⟩
    show _ <+: if _ then _ else _
    split
    · exact List.prefix_refl _
    · exact List.prefix_append _ _
theorem sbRow_pre {g : Gr} {i : Nat} {st : Sb} : ∀ k, SbPre st (sbRow g i st k)
  | 0 => .refl
  | k + 1 => by rw [sbRow_succ]; exact (sbRow_pre k).trans sbPut_pre
def Done (i k t l : Nat) : Prop := t < i ∨ t = i ∧ l < k
structure SbOK (g : Gr) (i k : Nat) (st : Sb) : Prop where
  nd : st.all.Nodup
  ne : 0 < st.all.length
  set : ∀ x ∈ st.all, x ≠ [] ∧ x.Pairwise (· < ·) ∧ ∀ y ∈ x, 0 ≤ y ∧ y < g.states
  edg : ∀ x ∈ st.es, ∃ t l q : Nat, x = ⟨t, l, q⟩ ∧ Done i k t l ∧ t < st.all.length ∧ l < g.labels.toNat ∧ q < st.all.length ∧ st.all.getD q [] = stepL g l (st.all.getD t [])
  cov : ∀ t l : Nat, Done i k t l → t < st.all.length → l < g.labels.toNat → stepL g l (st.all.getD t []) ≠ [] → ∃ x ∈ st.es, x.frm = t ∧ x.lab = l
  srt : st.es.Pairwise fun a b => a.frm < b.frm ∨ a.frm = b.frm ∧ a.lab < b.lab
theorem put_all {all : List (List Int)} {x : List Int} : (if x ∈ all then all else all ++ [x]).getD (all.idxOf x) [] = x ∧ all.idxOf x < (if x ∈ all then all else all ++ [x]).length := by
  by_cases h : x ∈ all
  · rw [if_pos h]
    have := List.idxOf_lt_length_of_mem h
    exact ⟨by rw [getD_get this]; exact List.getElem_idxOf this, this⟩
  · rw [if_neg h, List.idxOf_eq_length h]
    simp
theorem SbOK.put {g : Gr} (hv : gcheck g = 0) {i k : Nat} {st : Sb} (h : SbOK g i k st) (hi : i < st.all.length) (hk : k < g.labels.toNat) : SbOK g i (k + 1) (sbPut g i st k) := by
  obtain ⟨x, hx⟩ : ∃ x, stepL g k (st.all.getD i []) = x := ⟨_, rfl⟩
  have hp : SbPre st (sbPut g i st k) := sbPut_pre
  unfold sbPut at hp ⊢
  rw [hx] at hp ⊢
  by_cases he : x = []
  · rw [if_pos he]
    refine ⟨h.nd, h.ne, h.set, fun y hy => ?_, fun t l hd ht hl hne => ?_, h.srt⟩
    · obtain ⟨t, l, q, h1, h2, h3⟩ := h.edg y hy
      exact ⟨t, l, q, h1, by unfold Done at *; omega, h3⟩
    · refine h.cov t l ?_ ht hl hne
      unfold Done at *
      rcases hd with hd | ⟨rfl, hd⟩
      · exact .inl hd
      · refine .inr ⟨rfl, ?_⟩
        rcases Nat.lt_succ_iff_lt_or_eq.1 hd with h1 | rfl
        · exact h1
        · rw [hx] at hne; exact absurd he hne
  · rw [if_neg he] at hp ⊢
    obtain ⟨p1, p2⟩ := put_all (all := st.all) (x := x)
    have pa := hp.all
    refine ⟨?_, Nat.lt_of_lt_of_le h.ne pa.length_le, ?_, ?_, ?_, ?_⟩
    · show (if _ then _ else _ : List (List Int)).Nodup
      split
      · exact h.nd
      · rename_i hn
        rw [List.nodup_append]
        refine ⟨h.nd, by simp, fun a ha b hb e => ?_⟩
        rw [List.mem_singleton] at hb
        subst hb; subst e; exact hn ha
    · intro y hy
      have hy' : y ∈ st.all ∨ y = x := by
        change y ∈ (if _ then _ else _ : List (List Int)) at hy
        split at hy
        · exact .inl hy
        · rcases List.mem_append.1 hy with h1 | h1
          · exact .inl h1
          · exact .inr (List.mem_singleton.1 h1)
      rcases hy' with h1 | rfl
      · exact h.set y h1
      · rw [← hx] at he ⊢
        exact ⟨he, step_asc, step_box hv⟩
    · intro y hy
      rcases List.mem_append.1 hy with h1 | h1
      · obtain ⟨t, l, q, h2, h3, h4, h5, h6, h7⟩ := h.edg y h1
        refine ⟨t, l, q, h2, by unfold Done at *; omega, Nat.lt_of_lt_of_le h4 pa.length_le, h5, Nat.lt_of_lt_of_le h6 pa.length_le, ?_⟩
        rw [pre_at pa h6, pre_at pa h4]; exact h7
      · rw [List.mem_singleton] at h1
        subst h1
        refine ⟨i, k, _, rfl, .inr ⟨rfl, Nat.lt_succ_self _⟩, Nat.lt_of_lt_of_le hi pa.length_le, hk, p2, ?_⟩
        rw [pre_at pa hi, hx]; exact p1
    · intro t l hd ht hl hne
      by_cases hq : t = i ∧ l = k
      · obtain ⟨rfl, rfl⟩ := hq
        exact ⟨_, List.mem_append_right _ (List.mem_singleton.2 rfl), rfl, rfl⟩
      · have hd' : Done i k t l := by unfold Done at *; omega
        have ht' : t < st.all.length := by unfold Done at hd'; omega
        rw [pre_at pa ht'] at hne
        obtain ⟨y, h1, h2⟩ := h.cov t l hd' ht' hl hne
        exact ⟨y, List.mem_append_left _ h1, h2⟩
    · show (st.es ++ [_]).Pairwise _
      rw [List.pairwise_append]
      refine ⟨h.srt, List.pairwise_singleton _ _, fun a ha b hb => ?_⟩
      rw [List.mem_singleton] at hb
      subst hb
      obtain ⟨t, l, q, rfl, h3, _⟩ := h.edg a ha
      show ((t : Int) < i ∨ (t : Int) = i ∧ (l : Int) < k)
      unfold Done at h3; omega
theorem SbOK.row {g : Gr} (hv : gcheck g = 0) {i : Nat} {st : Sb} (h : SbOK g i 0 st) (hi : i < st.all.length) : ∀ {k : Nat}, k ≤ g.labels.toNat → SbOK g i k (sbRow g i st k)
  | 0, _ => h
  | k + 1, hk => by
    rw [sbRow_succ]
    exact (SbOK.row hv h hi (k := k) (by omega)).put hv (Nat.lt_of_lt_of_le hi (sbRow_pre k).all.length_le) (by omega)
theorem SbOK.next {g : Gr} {i : Nat} {st : Sb} (h : SbOK g i g.labels.toNat st) : SbOK g (i + 1) 0 st := by
  refine ⟨h.nd, h.ne, h.set, fun x hx => ?_, fun t l hd ht hl hne => ?_, h.srt⟩
  · obtain ⟨t, l, q, h1, h2, h3⟩ := h.edg x hx
    exact ⟨t, l, q, h1, (by unfold Done at *; omega), h3⟩
  · exact h.cov t l (by unfold Done at *; omega) ht hl hne
end Go.Proofs.YthpdkmoedpcboaaGreat
namespace Go.Proofs.YthpdkmoedpcboaaGreat
set_option linter.unusedSimpArgs false
set_option linter.unusedVariables false
open Go Go.Lift
def qAt (Q0 : List Pr) (nx : List Pr → Pr → List Pr) : Nat → List Pr
  | 0 => Q0
  | i + 1 => if i < (qAt Q0 nx i).length then nx (qAt Q0 nx i) ((qAt Q0 nx i).getD i dp) else qAt Q0 nx i
structure QOK (P : Pr → Prop) (N : Nat) (Q0 : List Pr) (nx : List Pr → Pr → List Pr) : Prop where
  ext0 : Ext P [] Q0
  ext : ∀ Q p, P p → Ext P Q (nx Q p)
  len : ∀ Q : List Pr, Q.Nodup → (∀ p ∈ Q, P p) → Q.length ≤ N
theorem qAt_succ {Q0 : List Pr} {nx : List Pr → Pr → List Pr} {i : Nat} (h : i < (qAt Q0 nx i).length) : qAt Q0 nx (i + 1) = nx (qAt Q0 nx i) ((qAt Q0 nx i).getD i dp) := if_pos h
theorem qAt_stay {Q0 : List Pr} {nx : List Pr → Pr → List Pr} {i : Nat} (h : (qAt Q0 nx i).length ≤ i) : ∀ j, qAt Q0 nx (i + j) = qAt Q0 nx i
  | 0 => rfl
  | j + 1 => by
    have := qAt_stay h j
    show (if i + j < (qAt Q0 nx (i + j)).length then _ else qAt Q0 nx (i + j)) = _
    rw [if_neg (by rw [this]; omega), this]
section
variable {P : Pr → Prop} {N : Nat} {Q0 : List Pr} {nx : List Pr → Pr → List Pr} (h : QOK P N Q0 nx)
include h
theorem QOK.ok : ∀ i, (qAt Q0 nx i).Nodup ∧ ∀ p ∈ qAt Q0 nx i, P p
  | 0 => ⟨h.ext0.nd List.nodup_nil, fun p hp => (h.ext0.new p hp).elim (fun hx => by cases hx) id⟩
  | i + 1 => by
    obtain ⟨h1, h2⟩ := QOK.ok i
    by_cases hi : i < (qAt Q0 nx i).length
    · rw [qAt_succ hi]
      have he := h.ext (qAt Q0 nx i) _ (h2 _ (getD_mem (d := dp) hi))
      exact ⟨he.nd h1, fun p hp => (he.new p hp).elim (h2 p) id⟩
    · rw [qAt_stay (by omega) 1]
      exact ⟨h1, h2⟩
theorem QOK.at {i j : Nat} (hj : j < (qAt Q0 nx i).length) : P ((qAt Q0 nx i).getD j dp) := (h.ok i).2 _ (getD_mem (d := dp) hj)
theorem QOK.bd (i : Nat) : (qAt Q0 nx i).length ≤ N := h.len _ (h.ok i).1 (h.ok i).2
theorem QOK.step (i : Nat) : Ext P (qAt Q0 nx i) (qAt Q0 nx (i + 1)) := by
  show Ext _ _ (if _ then _ else _)
  split
  · rename_i hi; exact h.ext _ _ (h.at hi)
  · exact .refl
theorem QOK.up (i : Nat) : ∀ j, Ext P (qAt Q0 nx i) (qAt Q0 nx (i + j))
  | 0 => .refl
  | j + 1 => (QOK.up i j).trans (h.step _)
theorem QOK.all (i : Nat) (hi : i ≤ N) : Ext P (qAt Q0 nx i) (qAt Q0 nx N) := by
  have := h.up i (N - i)
  rwa [Nat.add_sub_cancel' hi] at this
theorem QOK.nth : ∀ {i j : Nat}, j < i → j < (qAt Q0 nx i).length → (qAt Q0 nx i).getD j dp = (qAt Q0 nx j).getD j dp ∧ j < (qAt Q0 nx j).length
  | 0, j, hj, _ => by omega
  | i + 1, j, hj, hl => by
    have key : j < (qAt Q0 nx i).length → (qAt Q0 nx (i + 1)).getD j dp = (qAt Q0 nx i).getD j dp := fun hc => pre_at (h.step i).pre hc
    by_cases hc : j < (qAt Q0 nx i).length
    · rw [key hc]
      rcases Nat.lt_succ_iff_lt_or_eq.1 hj with h1 | rfl
      · exact QOK.nth h1 hc
      · exact ⟨rfl, hc⟩
    · have h2 := qAt_stay (Q0 := Q0) (nx := nx) (i := i) (by omega) 1
      rw [h2] at hl; exact absurd hl hc
theorem QOK.next {p x : Pr} (hp : p ∈ qAt Q0 nx N) (hx : ∀ Q, x ∈ nx Q p) : x ∈ qAt Q0 nx N := by
  obtain ⟨j, hj, rfl⟩ := List.mem_iff_getElem.1 hp
  have hb := h.bd N
  obtain ⟨h1, h2⟩ := h.nth (i := N) (j := j) (by omega) hj
  rw [getD_get hj] at h1
  refine (h.all (j + 1) (by omega)).mem ?_
  rw [qAt_succ h2, ← h1]
  exact hx _
theorem QOK.hit {bad : Pr → Bool} {i : Nat} (hi : i < (qAt Q0 nx i).length) (hb : bad ((qAt Q0 nx i).getD i dp) = true) : (qAt Q0 nx N).any bad = true := by
  have := h.bd i
  rw [List.any_eq_true]
  exact ⟨_, (h.all i (by omega)).mem (getD_mem (d := dp) hi), hb⟩
end
structure SbFin (g : Gr) (st : Sb) : Prop where
  nd : st.all.Nodup
  ne : 0 < st.all.length
  set : ∀ x ∈ st.all, x ≠ [] ∧ x.Pairwise (· < ·) ∧ ∀ y ∈ x, 0 ≤ y ∧ y < g.states
  edg : ∀ x ∈ st.es, ∃ t l q : Nat, x = ⟨t, l, q⟩ ∧ t < st.all.length ∧ l < g.labels.toNat ∧ q < st.all.length ∧ st.all.getD q [] = stepL g l (st.all.getD t [])
  cov : ∀ t l : Nat, t < st.all.length → l < g.labels.toNat → stepL g l (st.all.getD t []) ≠ [] → ∃ x ∈ st.es, x.frm = t ∧ x.lab = l
  srt : st.es.Pairwise fun a b => a.frm < b.frm ∨ a.frm = b.frm ∧ a.lab < b.lab
section
variable {g : Gr} {st : Sb} (h : SbFin g st)
include h
end
def setA (g : Gr) (L : List Int) (w : List UInt8) : List Int := w.foldl (fun L c => stepL g (idxB letters c) L) L
theorem step_nil {g : Gr} {k : Int} : stepL g k [] = [] := by
  have := @step_mem g k []
  cases hs : stepL g k [] with
  | nil => rfl
  | cons x r => exact absurd ((this (t := x)).1 (by rw [hs]; exact List.mem_cons_self)) (by simp)
theorem setA_nil {g : Gr} : ∀ {w : List UInt8}, setA g [] w = []
  | [] => rfl
  | c :: w => by
    show setA g (stepL g _ []) w = []
    rw [step_nil]; exact setA_nil
end Go.Proofs.YthpdkmoedpcboaaGreat
namespace Go.Proofs.YthpdkmoedpcboaaGreat
set_option linter.unusedSimpArgs false
set_option linter.unusedVariables false
open Go Go.Lift
section
variable {e : Enc} {g : Gr} {st : Sb} (hv : checkE e = 0) (hf : SbFin g st) (hl : g.labels = e.letters)
include hv hf hl
end
end Go.Proofs.YthpdkmoedpcboaaGreat
namespace Go.Proofs.YthpdkmoedpcboaaGreat
set_option linter.unusedSimpArgs false
set_option linter.unusedVariables false
open Go Go.Lift
end Go.Proofs.YthpdkmoedpcboaaGreat
namespace Go.Proofs.YthpdkmoedpcboaaGreat
set_option linter.unusedSimpArgs false
set_option linter.unusedVariables false
open Go Go.Lift
end Go.Proofs.YthpdkmoedpcboaaGreat
namespace Go.Proofs.YthpdkmoedpcboaaGreat
set_option linter.unusedSimpArgs false
set_option linter.unusedVariables false
open Go Go.Lift
end Go.Proofs.YthpdkmoedpcboaaGreat
namespace Go.Proofs.YthpdkmoedpcboaaGreat
set_option linter.unusedSimpArgs false
set_option linter.unusedVariables false
open Go Go.Lift
end Go.Proofs.YthpdkmoedpcboaaGreat
namespace Go.Proofs.YthpdkmoedpcboaaGreat
set_option linter.unusedSimpArgs false
set_option linter.unusedVariables false
open Go Go.Lift
end Go.Proofs.YthpdkmoedpcboaaGreat
namespace Go.Proofs.YthpdkmoedpcboaaGreat
set_option linter.unusedSimpArgs false
set_option linter.unusedVariables false
open Go Go.Lift
end Go.Proofs.YthpdkmoedpcboaaGreat
namespace Go.Proofs.YthpdkmoedpcboaaGreat
set_option linter.unusedSimpArgs false
set_option linter.unusedVariables false
open Go Go.Lift
def nxE (k : Int) (L : List Int) (t : Int) (x : Edge) : Bool := decide (x.to = t) && decide (x.lab = k) && decide (x.frm ∈ L)
def nxF (g : Gr) (k : Int) (L : List Int) (t : Int) (m : Nat) : Bool := (g.edges.take m).any (nxE k L t)
theorem nxF_zero {g : Gr} {k : Int} {L : List Int} {t : Int} : nxF g k L t 0 = false := by simp [nxF]
end Go.Proofs.YthpdkmoedpcboaaGreat
namespace Go.Proofs.YthpdkmoedpcboaaGreat
set_option linter.unusedSimpArgs false
set_option linter.unusedVariables false
open Go Go.Lift
end Go.Proofs.YthpdkmoedpcboaaGreat
namespace Go.Proofs.YthpdkmoedpcboaaGreat
set_option linter.unusedSimpArgs false
set_option linter.unusedVariables false
open Go Go.Lift
def cellE (e : Enc) (s i : Nat) : Edge := ⟨s, valW e.letters (cellAt e s i).word, (cellAt e s i).to⟩
section
variable {e : Enc} (hv : checkE e = 0)
include hv
end
section
variable {e : Enc} {g : Gr} (hv : checkE e = 0) (hg : gcheck g = 0) (hge : g.states = e.rows.length) (he : ∀ s i, s < e.rows.length → i < (e.rows.getD s []).length → cellE e s i ∈ g.edges)
end
end Go.Proofs.YthpdkmoedpcboaaGreat
