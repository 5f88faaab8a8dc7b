/- Parts of the proof: NB NC NF. -/
import Derived.Test.YtchjjiedcpfniaaGreatDoorK11
namespace Go.Proofs.YtchjjiedcpfniaaGreatDoor
set_option linter.unusedSimpArgs false
set_option linter.unusedVariables false
open Go Go.Lift
structure Spl where
  st : Int
  parts : List (List Int)
deriving DecidableEq, Inhabited
def ds : Spl := ⟨0, []⟩
def splF (x : Spl) (j : Nat) : AVal := match j with
  | 0 => .int .i64 x.st
  | _ => rowsI x.parts
@[simp] theorem splF0 {x : Spl} : splF x 0 = .int .i64 x.st := rfl
@[simp] theorem splF1 {x : Spl} : splF x 1 = rowsI x.parts := rfl
@[simp] theorem one_splF {c : Spl} {j : Nat} : (splF c j).one = true := by unfold splF; split <;> rfl
@[simp] theorem Clo_splF {c : Spl} {j : Nat} : Clo (splF c j) := by unfold splF; split <;> first | trivial | exact Clo_rowsI
@[simp] theorem ren_splF {ρ : Nat → Nat} {c : Spl} {j : Nat} : ren ρ (splF c j) = splF c j := by unfold splF; split <;> first | rfl | exact ren_rowsI
def spls (l : List Spl) : AVal := vec 2 splF ds l
@[simp] theorem evLen_spls {h : Heap} {l : List Spl} : evLen h (spls l) = some (.int .i64 l.length) := rfl
@[simp] theorem strip_spls {l : List Spl} : strip (spls l) = (spls l, True) := rfl
@[simp] theorem mkOpt_spls {g : Bool} {l : List Spl} : mkOpt g (spls l) = .opt g (spls l) := rfl
@[simp] theorem one_spls {l : List Spl} : (spls l).one = true := rfl
@[simp] theorem acell_spls {l : List Spl} {j : Nat} : acell (spls l) j = spls l := rfl
@[simp] theorem Clo_spls {l : List Spl} : Clo (spls l) := Clo_vec fun x _ j hj => ⟨one_splF, Clo_splF⟩
@[simp] theorem lenT_spls {T : Tab} {t : TypeId} {l : List Spl} : lenT T t (spls l) = sliceT T t := lenT_vec
@[simp] theorem evIndexAddr_spls {T : Tab} {h : Heap} {t : TypeId} {k : IntKind} {m : Int} {l : List Spl} : evIndexAddr T h t (spls l) (.int k m) = match elemT T t with
    | some ei => if 2 = ei.size then some (.vptr 2 (fun j => splF (l.getD m.toNat ds) j) 0, 0 ≤ m ∧ m < (l.length : Int)) else none
    | none => none := evIndexAddr_vec
@[simp] theorem evSrc_spls {h : Heap} {l : List Spl} : evSrc h 2 (spls l) = some (l.length, (fun i j => splF (l.getD i ds) j), True) := by
  unfold spls
  rw [evSrc_vec rfl]
  rfl
@[simp] theorem evBin_spls {o : BinOp} {v : AVal} {l : List Spl} : evBin o (spls l) v = none := rfl
@[simp] theorem evEq_spls {T : Tab} {t : TypeId} {l : List Spl} : evEq T .eql t (spls l) .nils = if sliceT T t then some (.ub (l.length = 0)) else none := rfl
@[simp] theorem VLe_spls_nils {h : Heap} {σ : Lift.Id → Lift.Id} {fz : Nat → Bool} {vz : Lift.Id → Bool} {x : Nat} {l : List Spl} : VLe h σ fz vz x (spls l) .nils = (l.length = 0) := rfl
@[simp] theorem VLe_spls_sl {h : Heap} {σ : Lift.Id → Lift.Id} {fz : Nat → Bool} {vz : Lift.Id → Bool} {y lo x' : Nat} {id : Lift.Id} {l : List Spl} : VLe h σ fz vz y (spls l) (.sl id lo x') = (x' = l.length ∧ fz id.1 = true ∧ match lkH h id with
    | some (.arr N s' g') => s' = 2 ∧ lo + l.length ≤ N ∧ ∀ i, i < l.length → ∀ j, j < 2 → (splF (l.getD i ds) j).one = true ∧ VLe h σ fz vz y (splF (l.getD i ds) j) (g' (lo + i) j)
    | _ => False) := VLe_vsl_sl
@[simp] theorem VLe_spls_vsl {h : Heap} {σ : Lift.Id → Lift.Id} {fz : Nat → Bool} {vz : Lift.Id → Bool} {x' s' y : Nat} {g' : Nat → Nat → AVal} {l : List Spl} : VLe h σ fz vz y (spls l) (.vsl x' s' g') = (x' = l.length ∧ s' = 2 ∧ ∀ i, i < l.length → ∀ j, j < 2 → (splF (l.getD i ds) j).one = true ∧ VLe h σ fz vz y (splF (l.getD i ds) j) (g' i j)) := rfl
@[simp] theorem ren_spls {ρ : Nat → Nat} {l : List Spl} : ren ρ (spls l) = spls l := ren_vec fun _ _ => ren_splF
def psA (g : Gr) (v : List Int) (p : List Int) : Nat → Int
  | 0 => 0
  | q + 1 => psA g v p q + v.getD (g.edges.getD (p.getD q 0).toNat de).to.toNat 0
def psV (g : Gr) (v : List Int) (p : List Int) : Int := psA g v p p.length
theorem psA_succ {g : Gr} {v p : List Int} {q : Nat} : psA g v p (q + 1) = psA g v p q + v.getD (g.edges.getD (p.getD q 0).toNat de).to.toNat 0 := rfl
theorem psA_box {g : Gr} {v p : List Int} (h : BoxV v) : ∀ q, 0 ≤ psA g v p q ∧ psA g v p q ≤ q * 4096
  | 0 => by simp [psA]
  | q + 1 => by
    have h1 := psA_box (p := p) (g := g) h q
    have h2 := box_at h (g.edges.getD (p.getD q 0).toNat de).to.toNat
    rw [psA_succ]
    omega
def lfA (g : Gr) (v : List Int) (m : Int) (x : Spl) : Nat → Int
  | 0 => v.getD x.st.toNat 0
  | i + 1 => lfA g v m x i - if i + 1 = x.parts.length then lfA g v m x i else psV g v (x.parts.getD i []) / m
def wtI (g : Gr) (v : List Int) (m : Int) (x : Spl) (i : Nat) : Int := if i + 1 = x.parts.length then lfA g v m x i else psV g v (x.parts.getD i []) / m
def wtA (g : Gr) (v : List Int) (m : Int) (x : Spl) (i : Nat) : List Int := (List.range i).map (wtI g v m x)
def wtL (g : Gr) (v : List Int) (m : Int) (x : Spl) : List Int := wtA g v m x x.parts.length
theorem lfA_succ {g : Gr} {v : List Int} {m : Int} {x : Spl} {i : Nat} : lfA g v m x (i + 1) = lfA g v m x i - wtI g v m x i := rfl
theorem wtA_succ {g : Gr} {v : List Int} {m : Int} {x : Spl} {i : Nat} : wtA g v m x (i + 1) = wtA g v m x i ++ [wtI g v m x i] := by simp [wtA, List.range_succ]
theorem wtA_len {g : Gr} {v : List Int} {m : Int} {x : Spl} {i : Nat} : (wtA g v m x i).length = i := by simp [wtA]
theorem wtA_at {g : Gr} {v : List Int} {m : Int} {x : Spl} {i j : Nat} (h : j < i) : (wtA g v m x i).getD j 0 = wtI g v m x j := by simp [wtA, List.getD, h]
theorem wtL_len {g : Gr} {v : List Int} {m : Int} {x : Spl} : (wtL g v m x).length = x.parts.length := wtA_len
def wtB (g : Gr) (v : List Int) (m : Int) (x : Spl) : Bool := (wtL g v m x).all (fun n => decide (1 ≤ n)) && decide (m * wtI g v m x (x.parts.length - 1) ≤ psV g v (x.parts.getD (x.parts.length - 1) []))
structure SplOK (g : Gr) (x : Spl) : Prop where
  st : 0 ≤ x.st ∧ x.st < g.states
  num : x.parts.length ≤ 1024
  len : ∀ p ∈ x.parts, p.length ≤ 1024
  box : ∀ p ∈ x.parts, ∀ k ∈ p, 0 ≤ k ∧ k < (g.edges.length : Int)
theorem lfA_box {g : Gr} {v : List Int} {m : Int} {x : Spl} (hb : BoxV v) (hm : 1 ≤ m) (hx : SplOK g x) : ∀ i, i < x.parts.length → - (i * 4194304 : Int) ≤ lfA g v m x i ∧ lfA g v m x i ≤ 4096
  | 0, _ => by
    have := box_at hb x.st.toNat
    show _ ≤ v.getD x.st.toNat 0 ∧ v.getD x.st.toNat 0 ≤ _
    omega
  | i + 1, hi => by
    have h1 := lfA_box hb hm hx i (by omega)
    have hl := hx.len _ (getD_mem (d := []) (show i < x.parts.length by omega))
    have h2 := psA_box (g := g) (p := x.parts.getD i []) hb (x.parts.getD i []).length
    have h3 : 0 ≤ psV g v (x.parts.getD i []) / m := Int.ediv_nonneg h2.1 (by omega)
    have h4 : psV g v (x.parts.getD i []) / m ≤ psV g v (x.parts.getD i []) := Int.ediv_le_self _ h2.1
    have h5 : psV g v (x.parts.getD i []) ≤ 4194304 := by
      have : psV g v (x.parts.getD i []) ≤ ((x.parts.getD i []).length : Int) * 4096 := h2.2
      omega
    rw [lfA_succ]
    unfold wtI
    rw [if_neg (by omega)]
    omega
def psP (g : Gr) (v : List Int) (x : Spl) (i : Nat) : Int := if i = 0 then 0 else psV g v (x.parts.getD (i - 1) [])
theorem psP_last {g : Gr} {v : List Int} {x : Spl} (h : 0 < x.parts.length) : psP g v x x.parts.length = psV g v (x.parts.getD (x.parts.length - 1) []) := if_neg (by omega)
theorem psP_succ {g : Gr} {v : List Int} {x : Spl} {i : Nat} : psP g v x (i + 1) = psV g v (x.parts.getD i []) := if_neg (by omega)
def mnA (l : List Int) : Nat → Int
  | 0 => l.getD 0 0
  | i + 1 => min (mnA l i) (l.getD (i + 1) 0)
def mnV (l : List Int) : Int := mnA l (l.length - 1)
theorem mnA_ge {l : List Int} {c : Int} : ∀ i, c ≤ mnA l i ↔ ∀ j, j ≤ i → c ≤ l.getD j 0
  | 0 => by
    constructor
    · intro h j hj
      obtain rfl : j = 0 := Nat.le_zero.1 hj
      exact h
    · exact fun h => h 0 (Nat.le_refl _)
  | i + 1 => by
    have ih := mnA_ge (l := l) (c := c) i
    show c ≤ min (mnA l i) (l.getD (i + 1) 0) ↔ _
    constructor
    · intro h j hj
      by_cases e : j = i + 1
      · subst e; omega
      · exact ih.1 (by omega) j (by omega)
    · intro h
      have h1 := ih.2 fun j hj => h j (by omega)
      have h2 := h (i + 1) (Nat.le_refl _)
      omega
theorem mnV_ge {l : List Int} {c : Int} (h0 : 0 < l.length) : c ≤ mnV l ↔ (l.all fun n => decide (c ≤ n)) = true := by
  unfold mnV
  rw [mnA_ge, List.all_eq_true]
  constructor
  · intro h x hx
    obtain ⟨j, hj, rfl⟩ := List.mem_iff_getElem.1 hx
    have := h j (by omega)
    simp only [List.getD, List.getElem?_eq_getElem hj, Option.getD_some] at this
    exact decide_eq_true this
  · intro h j hj
    have hj2 : j < l.length := by omega
    have := of_decide_eq_true (h _ (getD_mem (d := 0) hj2))
    exact this
end Go.Proofs.YtchjjiedcpfniaaGreatDoor
namespace Go.Proofs.YtchjjiedcpfniaaGreatDoor
set_option linter.unusedSimpArgs false
set_option linter.unusedVariables false
open Go Go.Lift
theorem take_next {l : List Int} {q : Nat} (h : q < l.length) : l.take (q + 1) = l.take q ++ [l.getD q 0] := by
  rw [List.take_add_one, List.getElem?_eq_getElem h]
  simp [List.getD, h]
def splO (l : List Spl) (s : Nat) : Option Spl := l.find? fun x => decide (x.st = (s : Int))
def prS (g : Gr) (l : List Spl) (s : Nat) : List (List Int) := match splO l s with
  | some x => x.parts
  | none => [outR g s]
def wsS (g : Gr) (v : List Int) (m : Int) (l : List Spl) (s : Nat) : List Int := match splO l s with
  | some x => wtL g v m x
  | none => [v.getD s 0]
theorem splO_hit {l : List Spl} {s k : Nat} (hk : k < l.length) (h : (l.getD k ds).st = s) (hn : ∀ j, j < k → (l.getD j ds).st ≠ s) : splO l s = some (l.getD k ds) := by
  unfold splO
  rw [List.find?_eq_some_iff_getElem]
  have e : l.getD k ds = l[k] := by simp [List.getD, hk]
  refine ⟨by simpa using h, k, hk, e.symm, fun j hj => ?_⟩
  have := hn j hj
  simp only [List.getD, List.getElem?_eq_getElem (show j < l.length by omega), Option.getD_some] at this
  simpa using this
theorem splO_none {l : List Spl} {s : Nat} (hn : ∀ j, j < l.length → (l.getD j ds).st ≠ s) : splO l s = none := by
  unfold splO
  rw [List.find?_eq_none]
  intro x hx
  obtain ⟨j, hj, rfl⟩ := List.mem_iff_getElem.1 hx
  have := hn j hj
  simp only [List.getD, List.getElem?_eq_getElem hj, Option.getD_some] at this
  simpa using this
theorem wsS_len {g : Gr} {v : List Int} {m : Int} {l : List Spl} {s : Nat} : (wsS g v m l s).length = (prS g l s).length := by
  unfold wsS prS
  cases splO l s with
  | none => rfl
  | some x => exact wtL_len
def offA (g : Gr) (l : List Spl) : Nat → Nat
  | 0 => 0
  | s + 1 => offA g l s + (prS g l s).length
theorem offA_zero {g : Gr} {l : List Spl} : offA g l 0 = 0 := rfl
theorem offA_succ {g : Gr} {l : List Spl} {s : Nat} : offA g l (s + 1) = offA g l s + (prS g l s).length := rfl
def parA (g : Gr) (l : List Spl) : Nat → List Int
  | 0 => []
  | s + 1 => parA g l s ++ List.replicate (prS g l s).length (s : Int)
def parP (g : Gr) (l : List Spl) (s i : Nat) : List Int := parA g l s ++ List.replicate i (s : Int)
def hvA (g : Gr) (v : List Int) (m : Int) (l : List Spl) : Nat → List Int
  | 0 => []
  | s + 1 => hvA g v m l s ++ wsS g v m l s
def hvP (g : Gr) (v : List Int) (m : Int) (l : List Spl) (s i : Nat) : List Int := hvA g v m l s ++ (wsS g v m l s).take i
section
variable {g : Gr} {v : List Int} {m : Int} {l : List Spl} {s i : Nat}
theorem parA_len : ∀ s, (parA g l s).length = offA g l s
  | 0 => rfl
  | s + 1 => by simp [parA, offA, parA_len s]
theorem parP_zero : parP g l s 0 = parA g l s := by simp [parP]
theorem parP_succ : parP g l s (i + 1) = parP g l s i ++ [(s : Int)] := by unfold parP; rw [List.replicate_succ', List.append_assoc]
theorem parP_all : parP g l s (prS g l s).length = parA g l (s + 1) := rfl
theorem parP_len : (parP g l s i).length = offA g l s + i := by simp [parP, parA_len]
theorem hvA_len : ∀ s, (hvA g v m l s).length = offA g l s
  | 0 => rfl
  | s + 1 => by simp [hvA, offA, hvA_len s, wsS_len]
theorem hvP_zero : hvP g v m l s 0 = hvA g v m l s := by simp [hvP]
theorem hvP_succ (h : i < (prS g l s).length) : hvP g v m l s (i + 1) = hvP g v m l s i ++ [(wsS g v m l s).getD i 0] := by
  have h2 : i < (wsS g v m l s).length := by rw [wsS_len]; exact h
  unfold hvP
  generalize wsS g v m l s = W at h2
  rw [List.take_add_one, List.getElem?_eq_getElem h2, List.append_assoc]
  simp [List.getD, h2]
theorem hvP_all : hvP g v m l s (prS g l s).length = hvA g v m l (s + 1) := by unfold hvP; rw [← wsS_len (v := v) (m := m), List.take_length]; rfl
theorem hvP_len (h : i ≤ (prS g l s).length) : (hvP g v m l s i).length = offA g l s + i := by
  unfold hvP
  rw [List.length_append, List.length_take, wsS_len, hvA_len]
  omega
end
def chL (g : Gr) (l : List Spl) (s : Nat) : List Int := (List.range (prS g l s).length).map fun j => ((offA g l s + j : Nat) : Int)
def chP (g : Gr) (l : List Spl) (s i : Nat) : List Int := (List.range i).map fun j => ((offA g l s + j : Nat) : Int)
theorem chP_zero {g : Gr} {l : List Spl} {s : Nat} : chP g l s 0 = [] := rfl
theorem chP_succ {g : Gr} {l : List Spl} {s i : Nat} : chP g l s (i + 1) = chP g l s i ++ [((offA g l s + i : Nat) : Int)] := by simp [chP, List.range_succ]
theorem chP_len {g : Gr} {l : List Spl} {s i : Nat} : (chP g l s i).length = i := by simp [chP]
theorem chP_all {g : Gr} {l : List Spl} {s : Nat} : chP g l s (prS g l s).length = chL g l s := rfl
def asgS (g : Gr) (l : List Spl) (s : Nat) : Nat → List (Int × Nat)
  | 0 => []
  | i + 1 => asgS g l s i ++ ((prS g l s).getD i []).map fun e => (e, offA g l s + i)
def asgA (g : Gr) (l : List Spl) : Nat → List (Int × Nat)
  | 0 => []
  | s + 1 => asgA g l s ++ asgS g l s (prS g l s).length
def asgP (g : Gr) (l : List Spl) (s i q : Nat) : List (Int × Nat) := asgA g l s ++ (asgS g l s i ++ (((prS g l s).getD i []).take q).map fun e => (e, offA g l s + i))
def ownL (a : List (Int × Nat)) (k : Nat) : Int := a.foldl (fun d p => if p.1 = (k : Int) then (p.2 : Int) else d) 0
theorem ownL_nil {k : Nat} : ownL [] k = 0 := rfl
theorem ownL_snoc {a : List (Int × Nat)} {p : Int × Nat} {k : Nat} : ownL (a ++ [p]) k = if p.1 = (k : Int) then (p.2 : Int) else ownL a k := by simp [ownL, List.foldl_append]
theorem asgP_zero {g : Gr} {l : List Spl} {s i : Nat} : asgP g l s i 0 = asgA g l s ++ asgS g l s i := by simp [asgP]
theorem asgP_succ {g : Gr} {l : List Spl} {s i q : Nat} (h : q < ((prS g l s).getD i []).length) : asgP g l s i (q + 1) = asgP g l s i q ++ [(((prS g l s).getD i []).getD q 0, offA g l s + i)] := by
  unfold asgP
  rw [take_next h, List.map_append, ← List.append_assoc, ← List.append_assoc, ← List.append_assoc]
  rfl
theorem asgP_all {g : Gr} {l : List Spl} {s i : Nat} : asgP g l s i ((prS g l s).getD i []).length = asgA g l s ++ asgS g l s (i + 1) := by
  unfold asgP
  rw [List.take_length]
  rfl
theorem asgA_succ {g : Gr} {l : List Spl} {s : Nat} : asgA g l (s + 1) = asgA g l s ++ asgS g l s (prS g l s).length := rfl
def ownE (g : Gr) (l : List Spl) (k : Nat) : Int := ownL (asgA g l g.states.toNat) k
def spE (g : Gr) (l : List Spl) (i : Nat) (c : Int) : Edge := ⟨ownE g l i, (g.edges.getD i de).lab, c⟩
def edA (g : Gr) (l : List Spl) : Nat → List Edge
  | 0 => []
  | i + 1 => edA g l i ++ (chL g l (g.edges.getD i de).to.toNat).map (spE g l i)
def edP (g : Gr) (l : List Spl) (i k : Nat) : List Edge := edA g l i ++ ((chL g l (g.edges.getD i de).to.toNat).take k).map (spE g l i)
theorem edP_zero {g : Gr} {l : List Spl} {i : Nat} : edP g l i 0 = edA g l i := by simp [edP]
theorem edP_succ {g : Gr} {l : List Spl} {i k : Nat} (h : k < (chL g l (g.edges.getD i de).to.toNat).length) : edP g l i (k + 1) = edP g l i k ++ [spE g l i ((chL g l (g.edges.getD i de).to.toNat).getD k 0)] := by
  unfold edP
  rw [take_next h, List.map_append, ← List.append_assoc]
  rfl
theorem edP_all {g : Gr} {l : List Spl} {i : Nat} : edP g l i (chL g l (g.edges.getD i de).to.toNat).length = edA g l (i + 1) := by
  unfold edP
  rw [List.take_length]
  rfl
end Go.Proofs.YtchjjiedcpfniaaGreatDoor
namespace Go.Proofs.YtchjjiedcpfniaaGreatDoor
set_option linter.unusedSimpArgs false
set_option linter.unusedVariables false
open Go Go.Lift
section
variable {g : Gr} {v : List Int} {m w : Int} {o : List Int} {i j s : Nat}
end
def wtE (g : Gr) (v : List Int) (k : Int) : Int := v.getD (g.edges.getD k.toNat de).to.toNat 0
theorem psA_sum {g : Gr} {v p : List Int} : ∀ q, q ≤ p.length → psA g v p q = ((p.take q).map (wtE g v)).sum
  | 0, _ => rfl
  | q + 1, h => by
    rw [psA_succ, psA_sum q (by omega), take_next (by omega), List.map_append, List.sum_append]
    simp [wtE]
theorem psV_sum {g : Gr} {v p : List Int} : psV g v p = (p.map (wtE g v)).sum := by
  unfold psV
  rw [psA_sum _ (Nat.le_refl _), List.take_length]
theorem psV_out {g : Gr} {v : List Int} {s : Nat} : psV g v (outL g s) = sumV g v s := by
  rw [psV_sum]
  unfold outL sumV
  have key : ∀ i, ((outA g (s : Int) i).map (wtE g v)).sum = sumA g v i s := by
    intro i
    induction i with
    | zero => rfl
    | succ i ih =>
      rw [outA_succ, sumA_succ, List.map_append, List.sum_append, ih]
      split
      · simp [wtE]
      · simp
  exact key _
end Go.Proofs.YtchjjiedcpfniaaGreatDoor
