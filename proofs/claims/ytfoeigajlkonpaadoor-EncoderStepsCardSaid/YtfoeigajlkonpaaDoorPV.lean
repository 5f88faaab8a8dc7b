/-
  Plain: relations of labels, powers of a graph.
-/
import Derived.Test.YtfoeigajlkonpaaDoorPQ
import Derived.Test.YtfoeigajlkonpaaDoorEN
namespace Go.Proofs.YtfoeigajlkonpaaDoor
set_option linter.unusedSimpArgs false
set_option linter.unusedVariables false
open Go Go.Lift

abbrev Rl := Nat → Nat → Bool
def r0 : Rl := fun _ _ => false
def relF (r : Rl) (j : Nat) : AVal := .int .u64 (m64 (r j) : Nat)
@[simp] theorem relF_eq {r : Rl} {j : Nat} : relF r j = .int .u64 (m64 (r j) : Nat) := rfl
@[simp] theorem one_relF {r : Rl} {j : Nat} : (relF r j).one = true := rfl
@[simp] theorem Clo_relF {r : Rl} {j : Nat} : Clo (relF r j) := trivial
@[simp] theorem ren_relF {ρ : Nat → Nat} {r : Rl} {j : Nat} : ren ρ (relF r j) = relF r j := rfl
@[simp] theorem flat_relF {r : Rl} {j : Nat} : flat (relF r j) := trivial

def relsC (l : List Rl) : AVal := vec 64 relF r0 l
@[simp] theorem evLen_relsC {h : Heap} {l : List Rl} : evLen h (relsC l) = some (.int .i64 l.length) := rfl
@[simp] theorem strip_relsC {l : List Rl} : strip (relsC l) = (relsC l, True) := rfl
@[simp] theorem mkOpt_relsC {g : Bool} {l : List Rl} : mkOpt g (relsC l) = .opt g (relsC l) := rfl
@[simp] theorem one_relsC {l : List Rl} : (relsC l).one = true := rfl
@[simp] theorem acell_relsC {l : List Rl} {j : Nat} : acell (relsC l) j = relsC l := rfl
@[simp] theorem Clo_relsC {l : List Rl} : Clo (relsC l) := Clo_vec fun x _ j hj => ⟨one_relF, Clo_relF⟩
@[simp] theorem lenT_relsC {T : Tab} {t : TypeId} {l : List Rl} : lenT T t (relsC l) = sliceT T t := lenT_vec
@[simp] theorem evIndexAddr_relsC {T : Tab} {h : Heap} {t : TypeId} {k : IntKind} {m : Int} {l : List Rl} : evIndexAddr T h t (relsC l) (.int k m) = match elemT T t with
    | some ei => if 64 = ei.size then some (.vptr 64 (fun j => relF (l.getD m.toNat r0) j) 0, 0 ≤ m ∧ m < (l.length : Int)) else none
    | none => none := evIndexAddr_vec
@[simp] theorem evSrc_relsC {h : Heap} {l : List Rl} : evSrc h 64 (relsC l) = some (l.length, (fun i j => relF (l.getD i r0) j), True) := by
  unfold relsC
  rw [evSrc_vec rfl]
  rfl
@[simp] theorem evBin_relsC {o : BinOp} {v : AVal} {l : List Rl} : evBin o (relsC l) v = none := rfl
@[simp] theorem evEq_relsC {T : Tab} {t : TypeId} {l : List Rl} : evEq T .eql t (relsC l) .nils = if sliceT T t then some (.ub (l.length = 0)) else none := rfl
@[simp] theorem VLe_relsC_nils {h : Heap} {σ : Lift.Id → Lift.Id} {fz : Nat → Bool} {vz : Lift.Id → Bool} {x : Nat} {l : List Rl} : VLe h σ fz vz x (relsC l) .nils = (l.length = 0) := rfl
@[simp] theorem VLe_relsC_sl {h : Heap} {σ : Lift.Id → Lift.Id} {fz : Nat → Bool} {vz : Lift.Id → Bool} {y lo x' : Nat} {id : Lift.Id} {l : List Rl} : VLe h σ fz vz y (relsC l) (.sl id lo x') = (x' = l.length ∧ fz id.1 = true ∧ match lkH h id with
    | some (.arr N s' g') => s' = 64 ∧ lo + l.length ≤ N ∧ ∀ i, i < l.length → ∀ j, j < 64 → (relF (l.getD i r0) j).one = true ∧ VLe h σ fz vz y (relF (l.getD i r0) j) (g' (lo + i) j)
    | _ => False) := VLe_vsl_sl
@[simp] theorem VLe_relsC_vsl {h : Heap} {σ : Lift.Id → Lift.Id} {fz : Nat → Bool} {vz : Lift.Id → Bool} {x' s' y : Nat} {g' : Nat → Nat → AVal} {l : List Rl} : VLe h σ fz vz y (relsC l) (.vsl x' s' g') = (x' = l.length ∧ s' = 64 ∧ ∀ i, i < l.length → ∀ j, j < 64 → (relF (l.getD i r0) j).one = true ∧ VLe h σ fz vz y (relF (l.getD i r0) j) (g' i j)) := rfl

@[simp] theorem ren_relsC {ρ : Nat → Nat} {l : List Rl} : ren ρ (relsC l) = relsC l := ren_vec fun _ _ => ren_relF

/-- the relation of a label. -/
def stepB (es : List Edge) (l s t : Nat) : Bool := es.any fun x => decide (x.lab = l ∧ x.frm = s ∧ x.to = t)
def stepsL (g : Gr) : List Rl := (List.range g.labels.toNat).map fun l => stepB g.edges l
@[simp] theorem stepsL_len {g : Gr} : (stepsL g).length = g.labels.toNat := by simp [stepsL]
theorem stepsL_at {g : Gr} {l : Nat} (h : l < g.labels.toNat) : (stepsL g).getD l r0 = stepB g.edges l := by
  simp [stepsL, List.getD, h]
theorem stepB_succ {es : List Edge} {k l s t : Nat} (h : k < es.length) : stepB (es.take (k + 1)) l s t = (stepB (es.take k) l s t || decide ((es.getD k de).lab = l ∧ (es.getD k de).frm = s ∧ (es.getD k de).to = t)) := by
  unfold stepB
  rw [List.take_succ_eq_append_getElem h, List.any_append]
  simp [List.getD, h]
/-- one relation, then another one. -/
def thenR (a b : Rl) : Rl := fun s t => (List.range 64).any fun u => a s u && b u t
def thenAt (a b : Rl) (s u : Nat) : Rl := fun j t => if j < s then thenR a b j t else if j = s then (List.range u).any (fun v => a s v && b v t) else false
theorem thenAt_zero {a b : Rl} {j : Nat} : thenAt a b 0 0 j = fun _ => false := by
  funext t; unfold thenAt
  rw [if_neg (by omega)]; split <;> simp
theorem thenAt_next {a b : Rl} {s : Nat} : thenAt a b s 64 = thenAt a b (s + 1) 0 := by
  funext j t; unfold thenAt
  by_cases h : j < s
  · rw [if_pos h, if_pos (by omega)]
  · rw [if_neg h]
    by_cases h2 : j = s
    · subst h2; rw [if_pos rfl, if_pos (by omega)]; rfl
    · rw [if_neg h2, if_neg (by omega)]; split <;> simp
theorem thenAt_all {a b : Rl} {j : Nat} (h : j < 64) : thenAt a b 64 0 j = thenR a b j := by
  funext t; unfold thenAt; rw [if_pos h]
theorem thenAt_yes {a b : Rl} {s u : Nat} (h : a s u = true) : (fun t => thenAt a b s u s t || b u t) = thenAt a b s (u + 1) s := by
  funext t; unfold thenAt
  rw [if_neg (by omega), if_pos rfl, if_neg (by omega), if_pos rfl, List.range_succ, List.any_append]
  simp [h]
theorem thenAt_no {a b : Rl} {s u : Nat} (h : a s u = false) : thenAt a b s u = thenAt a b s (u + 1) := by
  funext j t; unfold thenAt
  rw [List.range_succ, List.any_append]
  simp [h]
theorem thenAt_other {a b : Rl} {s u j : Nat} (h : j ≠ s) : thenAt a b s u j = thenAt a b s (u + 1) j := by
  funext t; unfold thenAt
  by_cases h2 : j < s
  · rw [if_pos h2, if_pos h2]
  · rw [if_neg h2, if_neg h2, if_neg h, if_neg h]
/-- every block with one label more. -/
def longer (B O : List Rl) : List Rl := B.flatMap fun b => O.map fun o => thenR b o
def longAt (B O : List Rl) (i k : Nat) : List Rl := longer (B.take i) O ++ (O.take k).map fun o => thenR (B.getD i r0) o
theorem longer_len {B O : List Rl} : (longer B O).length = B.length * O.length := by
  unfold longer
  induction B with
  | nil => simp
  | cons b B ih => rw [List.flatMap_cons, List.length_append, ih, List.length_map, List.length_cons, Nat.add_mul]; omega
theorem longAt_len {B O : List Rl} {i k : Nat} (hi : i ≤ B.length) (hk : k ≤ O.length) : (longAt B O i k).length = i * O.length + k := by
  unfold longAt
  rw [List.length_append, longer_len, List.length_take, List.length_map, List.length_take, Nat.min_eq_left hi, Nat.min_eq_left hk]
theorem longAt_zero {B O : List Rl} : longAt B O 0 0 = [] := by simp [longAt, longer]
theorem longAt_succ {B O : List Rl} {i k : Nat} (hk : k < O.length) : longAt B O i (k + 1) = longAt B O i k ++ [thenR (B.getD i r0) (O.getD k r0)] := by
  unfold longAt
  rw [List.take_succ_eq_append_getElem hk, List.map_append, List.append_assoc]
  simp [List.getD, hk]
theorem longAt_next {B O : List Rl} {i : Nat} (hi : i < B.length) : longAt B O i O.length = longAt B O (i + 1) 0 := by
  unfold longAt longer
  rw [List.take_length, List.take_succ_eq_append_getElem hi, List.flatMap_append]
  simp [List.getD, hi]
theorem longAt_all {B O : List Rl} : longAt B O B.length 0 = longer B O := by simp [longAt]
/-- the relations of the blocks of k + 1 labels. -/
def pwL (g : Gr) : Nat → List Rl
  | 0 => stepsL g
  | k + 1 => longer (pwL g k) (stepsL g)
theorem pwL_len {g : Gr} : ∀ {k : Nat}, (pwL g k).length = g.labels.toNat ^ (k + 1)
  | 0 => by simp [pwL]
  | k + 1 => by rw [pwL, longer_len, pwL_len, stepsL_len, ← Nat.pow_succ]
def bit (B : List Rl) (s l t : Nat) : Bool := (B.getD l r0) s t
def eRow (B : List Rl) (s l m : Nat) : List Edge := (List.range m).flatMap fun t => if bit B s l t then [(⟨s, l, t⟩ : Edge)] else []
def eLab (n : Nat) (B : List Rl) (s m : Nat) : List Edge := (List.range m).flatMap fun l => eRow B s l n
def eAll (n : Nat) (B : List Rl) (m : Nat) : List Edge := (List.range m).flatMap fun s => eLab n B s B.length
def eAt (n : Nat) (B : List Rl) (s l t : Nat) : List Edge := eAll n B s ++ eLab n B s l ++ eRow B s l t
theorem eRow_len {B : List Rl} {s l m : Nat} : (eRow B s l m).length ≤ m := by
  unfold eRow
  induction m with
  | zero => simp
  | succ m ih =>
    rw [List.range_succ, List.flatMap_append, List.length_append]
    have : ([m].flatMap fun t => if bit B s l t then [(⟨s, l, t⟩ : Edge)] else []).length ≤ 1 := by
      simp only [List.flatMap_cons, List.flatMap_nil, List.append_nil]; split <;> simp
    omega
theorem eLab_len {n : Nat} {B : List Rl} {s m : Nat} : (eLab n B s m).length ≤ m * n := by
  unfold eLab
  induction m with
  | zero => simp
  | succ m ih =>
    rw [List.range_succ, List.flatMap_append, List.length_append, Nat.succ_mul]
    have : ([m].flatMap fun l => eRow B s l n).length ≤ n := by
      simp only [List.flatMap_cons, List.flatMap_nil, List.append_nil]; exact eRow_len
    omega
theorem eAll_succ {n : Nat} {B : List Rl} {m : Nat} : eAll n B (m + 1) = eAll n B m ++ eLab n B m B.length := by
  unfold eAll; rw [List.range_succ, List.flatMap_append]; simp
theorem eAt_row {n : Nat} {B : List Rl} {s l t : Nat} : eAt n B s l (t + 1) = eAt n B s l t ++ (if bit B s l t then [(⟨s, l, t⟩ : Edge)] else []) := by
  unfold eAt eRow; rw [List.range_succ, List.flatMap_append]; simp
theorem eAt_lab {n : Nat} {B : List Rl} {s l : Nat} : eAt n B s l n = eAt n B s (l + 1) 0 := by
  unfold eAt
  have : eLab n B s (l + 1) = eLab n B s l ++ eRow B s l n := by unfold eLab; rw [List.range_succ, List.flatMap_append]; simp
  rw [this]; simp [eRow]
theorem eAt_all {n : Nat} {B : List Rl} {s : Nat} : eAt n B s B.length 0 = eAll n B (s + 1) := by
  rw [eAll_succ]; simp [eAt, eRow]
theorem eAt_start {n : Nat} {B : List Rl} {s : Nat} : eAt n B s 0 0 = eAll n B s := by simp [eAt, eRow, eLab]
theorem eAt_len {n : Nat} {B : List Rl} {s l t : Nat} (h : (eAll n B s).length ≤ 1024) (hn : n ≤ 64) (hl : l ≤ 256) (ht : t ≤ 64) : (eAt n B s l t).length ≤ 20000 := by
  unfold eAt
  rw [List.length_append, List.length_append]
  have h1 := eLab_len (n := n) (B := B) (s := s) (m := l)
  have h2 := eRow_len (B := B) (s := s) (l := l) (m := t)
  have h3 : l * n ≤ 256 * 64 := Nat.mul_le_mul hl hn
  omega
theorem eAll_mono {n : Nat} {B : List Rl} {s m : Nat} (h : s ≤ m) : (eAll n B s).length ≤ (eAll n B m).length := by
  obtain ⟨d, rfl⟩ : ∃ d, m = s + d := ⟨m - s, by omega⟩
  induction d with
  | zero => exact Nat.le_refl _
  | succ d ih =>
    rw [← Nat.add_assoc, eAll_succ, List.length_append]
    have := ih (by omega)
    omega
theorem eAll_zero {n : Nat} {B : List Rl} : eAll n B 0 = [] := rfl
def powE (g : Gr) (n : Int) : List Edge := eAll g.states.toNat (pwL g (n.toNat - 1)) g.states.toNat
def powN (g : Gr) (n : Int) : Int := if gcheck g ≠ 0 then 1 else if n < 1 ∨ 16 < n then 2 else if 256 < upTo g.labels n.toNat then 4 else if 1024 < (powE g n).length then 4 else 0
def powX (g : Gr) (n : Int) : Gr := if powN g n = 0 then ⟨(pwL g (n.toNat - 1)).length, g.states, powE g n⟩ else ⟨0, 0, []⟩
theorem pow_ok {g : Gr} {n : Int} (h : powN g n = 0) : powX g n = ⟨(pwL g (n.toNat - 1)).length, g.states, powE g n⟩ := if_pos h
theorem pow_no {g : Gr} {n m : Int} (h : powN g n = m) (hm : m ≠ 0) : powX g n = ⟨0, 0, []⟩ := if_neg (by rw [h]; exact hm)
end Go.Proofs.YtfoeigajlkonpaaDoor
