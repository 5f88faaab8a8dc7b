/- Parts of the proof: LC1 RD NC NF. -/
import Derived.Test.YthpdkmoedpcboaaGreatRows
import Derived.Test.YthpdkmoedpcboaaGreatPO09
import Derived.Test.YthpdkmoedpcboaaGreatPO10
import Derived.Test.YthpdkmoedpcboaaGreatPO11
import Derived.Test.YthpdkmoedpcboaaGreatPO12
namespace Go.Proofs.YthpdkmoedpcboaaGreat
set_option linter.unusedSimpArgs false
set_option linter.unusedVariables false
open Go Go.Lift Go.Proofs
theorem mixed : Tryz.prog.follows .mixedOrders = true := by decide +kernel
theorem cal9 : Callable Tryz.prog 9 := ⟨_, Tryz.func9, by decide, rfl⟩
theorem cal10 : Callable Tryz.prog 10 := ⟨_, Tryz.func10, by decide, rfl⟩
theorem cal12 : Callable Tryz.prog 12 := ⟨_, Tryz.func12, by decide, rfl⟩
theorem cal14 : Callable Tryz.prog 14 := ⟨_, Tryz.func14, by decide, rfl⟩
theorem cal15 : Callable Tryz.prog 15 := ⟨_, Tryz.func15, by decide, rfl⟩
theorem cal16 : Callable Tryz.prog 16 := ⟨_, Tryz.func16, by decide, rfl⟩
theorem cal17 : Callable Tryz.prog 17 := ⟨_, Tryz.func17, by decide, rfl⟩
theorem cal18 : Callable Tryz.prog 18 := ⟨_, Tryz.func18, by decide, rfl⟩
theorem cal19 : Callable Tryz.prog 19 := ⟨_, Tryz.func19, by decide, rfl⟩
theorem cal20 : Callable Tryz.prog 20 := ⟨_, Tryz.func20, by decide, rfl⟩
theorem cal23 : Callable Tryz.prog 23 := ⟨_, Tryz.func23, by decide, rfl⟩
theorem cal25 : Callable Tryz.prog 25 := ⟨_, Tryz.func25, by decide, rfl⟩
theorem cal27 : Callable Tryz.prog 27 := ⟨_, Tryz.func27, by decide, rfl⟩
theorem cal28 : Callable Tryz.prog 28 := ⟨_, Tryz.func28, by decide, rfl⟩
theorem cal29 : Callable Tryz.prog 29 := ⟨_, Tryz.func29, by decide, rfl⟩
theorem cal30 : Callable Tryz.prog 30 := ⟨_, Tryz.func30, by decide, rfl⟩
theorem cal32 : Callable Tryz.prog 32 := ⟨_, Tryz.func32, by decide, rfl⟩
theorem cal33 : Callable Tryz.prog 33 := ⟨_, Tryz.func33, by decide, rfl⟩
theorem cal34 : Callable Tryz.prog 34 := ⟨_, Tryz.func34, by decide, rfl⟩
theorem cal35 : Callable Tryz.prog 35 := ⟨_, Tryz.func35, by decide, rfl⟩
theorem cal36 : Callable Tryz.prog 36 := ⟨_, Tryz.func36, by decide, rfl⟩
theorem cal38 : Callable Tryz.prog 38 := ⟨_, Tryz.func38, by decide, rfl⟩
theorem cal39 : Callable Tryz.prog 39 := ⟨_, Tryz.func39, by decide, rfl⟩
theorem cal40 : Callable Tryz.prog 40 := ⟨_, Tryz.func40, by decide, rfl⟩
theorem cal41 : Callable Tryz.prog 41 := ⟨_, Tryz.func41, by decide, rfl⟩
theorem cal42 : Callable Tryz.prog 42 := ⟨_, Tryz.func42, by decide, rfl⟩
theorem cal43 : Callable Tryz.prog 43 := ⟨_, Tryz.func43, by decide, rfl⟩
theorem cal44 : Callable Tryz.prog 44 := ⟨_, Tryz.func44, by decide, rfl⟩
theorem cal45 : Callable Tryz.prog 45 := ⟨_, Tryz.func45, by decide, rfl⟩
theorem cal46 : Callable Tryz.prog 46 := ⟨_, Tryz.func46, by decide, rfl⟩
theorem cal47 : Callable Tryz.prog 47 := ⟨_, Tryz.func47, by decide, rfl⟩
theorem cal48 : Callable Tryz.prog 48 := ⟨_, Tryz.func48, by decide, rfl⟩
theorem cal49 : Callable Tryz.prog 49 := ⟨_, Tryz.func49, by decide, rfl⟩
theorem cal50 : Callable Tryz.prog 50 := ⟨_, Tryz.func50, by decide, rfl⟩
theorem cal53 : Callable Tryz.prog 53 := ⟨_, Tryz.func53, by decide, rfl⟩
theorem cal54 : Callable Tryz.prog 54 := ⟨_, Tryz.func54, by decide, rfl⟩
theorem cal55 : Callable Tryz.prog 55 := ⟨_, Tryz.func55, by decide, rfl⟩
theorem cal56 : Callable Tryz.prog 56 := ⟨_, Tryz.func56, by decide, rfl⟩
theorem cal57 : Callable Tryz.prog 57 := ⟨_, Tryz.func57, by decide, rfl⟩
theorem cal58 : Callable Tryz.prog 58 := ⟨_, Tryz.func58, by decide, rfl⟩
theorem cal66 : Callable Tryz.prog 66 := ⟨_, Tryz.func66, by decide, rfl⟩
theorem cal67 : Callable Tryz.prog 67 := ⟨_, Tryz.func67, by decide, rfl⟩
theorem cal68 : Callable Tryz.prog 68 := ⟨_, Tryz.func68, by decide, rfl⟩
theorem cal69 : Callable Tryz.prog 69 := ⟨_, Tryz.func69, by decide, rfl⟩
theorem cal70 : Callable Tryz.prog 70 := ⟨_, Tryz.func70, by decide, rfl⟩
theorem cal71 : Callable Tryz.prog 71 := ⟨_, Tryz.func71, by decide, rfl⟩
theorem cal72 : Callable Tryz.prog 72 := ⟨_, Tryz.func72, by decide, rfl⟩
theorem cal73 : Callable Tryz.prog 73 := ⟨_, Tryz.func73, by decide, rfl⟩
theorem cal74 : Callable Tryz.prog 74 := ⟨_, Tryz.func74, by decide, rfl⟩
theorem cal75 : Callable Tryz.prog 75 := ⟨_, Tryz.func75, by decide, rfl⟩
theorem cal76 : Callable Tryz.prog 76 := ⟨_, Tryz.func76, by decide, rfl⟩
theorem cal77 : Callable Tryz.prog 77 := ⟨_, Tryz.func77, by decide, rfl⟩
theorem cal78 : Callable Tryz.prog 78 := ⟨_, Tryz.func78, by decide, rfl⟩
theorem cal79 : Callable Tryz.prog 79 := ⟨_, Tryz.func79, by decide, rfl⟩
theorem cal80 : Callable Tryz.prog 80 := ⟨_, Tryz.func80, by decide, rfl⟩
theorem cal81 : Callable Tryz.prog 81 := ⟨_, Tryz.func81, by decide, rfl⟩
theorem cal82 : Callable Tryz.prog 82 := ⟨_, Tryz.func82, by decide, rfl⟩
theorem cal83 : Callable Tryz.prog 83 := ⟨_, Tryz.func83, by decide, rfl⟩
theorem cal84 : Callable Tryz.prog 84 := ⟨_, Tryz.func84, by decide, rfl⟩
theorem cal87 : Callable Tryz.prog 87 := ⟨_, Tryz.func87, by decide, rfl⟩
theorem cal88 : Callable Tryz.prog 88 := ⟨_, Tryz.func88, by decide, rfl⟩
theorem cal89 : Callable Tryz.prog 89 := ⟨_, Tryz.func89, by decide, rfl⟩
theorem cal90 : Callable Tryz.prog 90 := ⟨_, Tryz.func90, by decide, rfl⟩
theorem cal91 : Callable Tryz.prog 91 := ⟨_, Tryz.func91, by decide, rfl⟩
theorem cal92 : Callable Tryz.prog 92 := ⟨_, Tryz.func92, by decide, rfl⟩
theorem cal93 : Callable Tryz.prog 93 := ⟨_, Tryz.func93, by decide, rfl⟩
theorem cal94 : Callable Tryz.prog 94 := ⟨_, Tryz.func94, by decide, rfl⟩
theorem cal95 : Callable Tryz.prog 95 := ⟨_, Tryz.func95, by decide, rfl⟩
theorem cal96 : Callable Tryz.prog 96 := ⟨_, Tryz.func96, by decide, rfl⟩
theorem cal97 : Callable Tryz.prog 97 := ⟨_, Tryz.func97, by decide, rfl⟩
theorem cal98 : Callable Tryz.prog 98 := ⟨_, Tryz.func98, by decide, rfl⟩
theorem cal110 : Callable Tryz.prog 110 := ⟨_, Tryz.func110, by decide, rfl⟩
theorem cal111 : Callable Tryz.prog 111 := ⟨_, Tryz.func111, by decide, rfl⟩
theorem cal112 : Callable Tryz.prog 112 := ⟨_, Tryz.func112, by decide, rfl⟩
theorem cal113 : Callable Tryz.prog 113 := ⟨_, Tryz.func113, by decide, rfl⟩
theorem cal114 : Callable Tryz.prog 114 := ⟨_, Tryz.func114, by decide, rfl⟩
theorem cal115 : Callable Tryz.prog 115 := ⟨_, Tryz.func115, by decide, rfl⟩
theorem cal116 : Callable Tryz.prog 116 := ⟨_, Tryz.func116, by decide, rfl⟩
theorem cal117 : Callable Tryz.prog 117 := ⟨_, Tryz.func117, by decide, rfl⟩
theorem cal118 : Callable Tryz.prog 118 := ⟨_, Tryz.func118, by decide, rfl⟩
theorem cal119 : Callable Tryz.prog 119 := ⟨_, Tryz.func119, by decide, rfl⟩
theorem cal120 : Callable Tryz.prog 120 := ⟨_, Tryz.func120, by decide, rfl⟩
theorem cal121 : Callable Tryz.prog 121 := ⟨_, Tryz.func121, by decide, rfl⟩
theorem cal122 : Callable Tryz.prog 122 := ⟨_, Tryz.func122, by decide, rfl⟩
theorem cal123 : Callable Tryz.prog 123 := ⟨_, Tryz.func123, by decide, rfl⟩
theorem cal124 : Callable Tryz.prog 124 := ⟨_, Tryz.func124, by decide, rfl⟩
theorem cal125 : Callable Tryz.prog 125 := ⟨_, Tryz.func125, by decide, rfl⟩
theorem cal126 : Callable Tryz.prog 126 := ⟨_, Tryz.func126, by decide, rfl⟩
theorem cal127 : Callable Tryz.prog 127 := ⟨_, Tryz.func127, by decide, rfl⟩
theorem cal128 : Callable Tryz.prog 128 := ⟨_, Tryz.func128, by decide, rfl⟩
theorem cal129 : Callable Tryz.prog 129 := ⟨_, Tryz.func129, by decide, rfl⟩
theorem cal130 : Callable Tryz.prog 130 := ⟨_, Tryz.func130, by decide, rfl⟩
theorem cal131 : Callable Tryz.prog 131 := ⟨_, Tryz.func131, by decide, rfl⟩
theorem cal132 : Callable Tryz.prog 132 := ⟨_, Tryz.func132, by decide, rfl⟩
theorem cal133 : Callable Tryz.prog 133 := ⟨_, Tryz.func133, by decide, rfl⟩
theorem cal138 : Callable Tryz.prog 138 := ⟨_, Tryz.func138, by decide, rfl⟩
theorem cal139 : Callable Tryz.prog 139 := ⟨_, Tryz.func139, by decide, rfl⟩
theorem cal140 : Callable Tryz.prog 140 := ⟨_, Tryz.func140, by decide, rfl⟩
theorem cal141 : Callable Tryz.prog 141 := ⟨_, Tryz.func141, by decide, rfl⟩
theorem cal150 : Callable Tryz.prog 150 := ⟨_, Tryz.func150, by decide, rfl⟩
theorem cal151 : Callable Tryz.prog 151 := ⟨_, Tryz.func151, by decide, rfl⟩
theorem cal152 : Callable Tryz.prog 152 := ⟨_, Tryz.func152, by decide, rfl⟩
theorem cal153 : Callable Tryz.prog 153 := ⟨_, Tryz.func153, by decide, rfl⟩
theorem cal154 : Callable Tryz.prog 154 := ⟨_, Tryz.func154, by decide, rfl⟩
theorem cal163 : Callable Tryz.prog 163 := ⟨_, Tryz.func163, by decide, rfl⟩
theorem cal164 : Callable Tryz.prog 164 := ⟨_, Tryz.func164, by decide, rfl⟩
theorem cal165 : Callable Tryz.prog 165 := ⟨_, Tryz.func165, by decide, rfl⟩
theorem cal166 : Callable Tryz.prog 166 := ⟨_, Tryz.func166, by decide, rfl⟩
theorem cal167 : Callable Tryz.prog 167 := ⟨_, Tryz.func167, by decide, rfl⟩
theorem cal185 : Callable Tryz.prog 185 := ⟨_, Tryz.func185, by decide, rfl⟩
theorem cal186 : Callable Tryz.prog 186 := ⟨_, Tryz.func186, by decide, rfl⟩
end Go.Proofs.YthpdkmoedpcboaaGreat
namespace Go.Proofs.YthpdkmoedpcboaaGreat
set_option linter.unusedSimpArgs false
set_option linter.unusedVariables false
open Go Go.Lift Go.RowKit Go.ChangeShapes Go.WideShapes Go.ChangeAt
theorem Tryz.own : ownKnob Tryz.prog.godebug = none := by kernel_rfl
theorem Tryz.laidOut : laidOutB Tryz.prog = true := by kernel_rfl
theorem wf_u8 {n : Int} (h : (Lit.int .u8 n).wf = true) : 0 ≤ n ∧ n < 256 := by
  simp only [Lit.wf, Bool.and_eq_true, decide_eq_true_eq] at h
  have h1 : IntKind.u8.min = 0 := rfl
  have h2 : IntKind.u8.max = 255 := rfl
  omega
theorem rdI : Reads Tryz.prog 3 1 (fun (n : Int) _ => .int .i64 n) (fun n => (Lit.int .i64 n).wf = true) := reads_int Tryz.underlying3 (by kernel_rfl)
theorem rdE : Reads Tryz.prog 59 3 edgeF (fun _ => True) :=
  (reads_struct (f := _) (I := _) Tryz.underlying59 (by kernel_rfl) (readsF_cons rfl rdI (readsF_cons rfl rdI (readsF_cons rfl rdI readsF_nil)))).as (fun p => (⟨p.1, p.2.1, p.2.2.1⟩ : Edge)) (fun a j hj => by
    match j, hj with
    | 0, _ => rfl
    | 1, _ => rfl
    | 2, _ => rfl) (fun _ _ => trivial)
theorem rdEs : Reads Tryz.prog 22 1 (fun (l : List Edge) _ => edgesC l) (fun l => l.length ≤ maxLen) :=
  (reads_slice de Tryz.underlying22 (by kernel_rfl) (by decide) rdE).as id (fun _ _ _ => rfl) (fun _ h => h.1)
theorem rdG : Reads Tryz.prog 24 3 grF (fun g => g.edges.length ≤ maxLen) :=
  (reads_struct (f := _) (I := _) Tryz.underlying24 (by kernel_rfl) (readsF_cons rfl rdI (readsF_cons rfl rdI (readsF_cons rfl rdEs readsF_nil)))).as (fun p => (⟨p.1, p.2.1, p.2.2.1⟩ : Gr)) (fun a j hj => by
    match j, hj with
    | 0, _ => rfl
    | 1, _ => rfl
    | 2, _ => rfl) (fun _ h => h.2.2.1)
theorem rdIs : Reads Tryz.prog 25 1 (fun (l : List Int) _ => ints l) (fun l => l.length ≤ maxLen) :=
  (reads_slice (0 : Int) Tryz.underlying25 (by kernel_rfl) (by decide) rdI).as id (fun _ _ _ => rfl) (fun _ h => h.1)
end Go.Proofs.YthpdkmoedpcboaaGreat
namespace Go.Proofs.YthpdkmoedpcboaaGreat
set_option linter.unusedSimpArgs false
set_option linter.unusedVariables false
open Go Go.Lift
theorem take_next {l : List Int} {q : Nat} (h : q < l.length) : l.take (q + 1) = l.take q ++ [l.getD q 0] := by
  rw [List.take_add_one, List.getElem?_eq_getElem h]
  simp [List.getD, h]
def splO (l : List Spl) (s : Nat) : Option Spl := l.find? fun x => decide (x.st = (s : Int))
def prS (g : Gr) (l : List Spl) (s : Nat) : List (List Int) := match splO l s with
  | some x => x.parts
  | none => [outR g s]
def wsS (g : Gr) (v : List Int) (m : Int) (l : List Spl) (s : Nat) : List Int := match splO l s with
  | some x => wtL g v m x
  | none => [v.getD s 0]
theorem splO_hit {l : List Spl} {s k : Nat} (hk : k < l.length) (h : (l.getD k ds).st = s) (hn : ∀ j, j < k → (l.getD j ds).st ≠ s) : splO l s = some (l.getD k ds) := by
  unfold splO
  rw [List.find?_eq_some_iff_getElem]
  have e : l.getD k ds = l[k] := by simp [List.getD, hk]
  refine ⟨by simpa using h, k, hk, e.symm, fun j hj => ?_⟩
  have := hn j hj
  simp only [List.getD, List.getElem?_eq_getElem (show j < l.length by omega), Option.getD_some] at this
  simpa using this
theorem splO_none {l : List Spl} {s : Nat} (hn : ∀ j, j < l.length → (l.getD j ds).st ≠ s) : splO l s = none := by
  unfold splO
  rw [List.find?_eq_none]
  intro x hx
  obtain ⟨j, hj, rfl⟩ := List.mem_iff_getElem.1 hx
  have := hn j hj
  simp only [List.getD, List.getElem?_eq_getElem hj, Option.getD_some] at this
  simpa using this
theorem wsS_len {g : Gr} {v : List Int} {m : Int} {l : List Spl} {s : Nat} : (wsS g v m l s).length = (prS g l s).length := by
  unfold wsS prS
  cases splO l s with
  | none => rfl
  | some x => exact wtL_len
def offA (g : Gr) (l : List Spl) : Nat → Nat
  | 0 => 0
  | s + 1 => offA g l s + (prS g l s).length
theorem offA_zero {g : Gr} {l : List Spl} : offA g l 0 = 0 := rfl
theorem offA_succ {g : Gr} {l : List Spl} {s : Nat} : offA g l (s + 1) = offA g l s + (prS g l s).length := rfl
def parA (g : Gr) (l : List Spl) : Nat → List Int
  | 0 => []
  | s + 1 => parA g l s ++ List.replicate (prS g l s).length (s : Int)
def parP (g : Gr) (l : List Spl) (s i : Nat) : List Int := parA g l s ++ List.replicate i (s : Int)
def hvA (g : Gr) (v : List Int) (m : Int) (l : List Spl) : Nat → List Int
  | 0 => []
  | s + 1 => hvA g v m l s ++ wsS g v m l s
def hvP (g : Gr) (v : List Int) (m : Int) (l : List Spl) (s i : Nat) : List Int := hvA g v m l s ++ (wsS g v m l s).take i
section
variable {g : Gr} {v : List Int} {m : Int} {l : List Spl} {s i : Nat}
theorem parA_len : ∀ s, (parA g l s).length = offA g l s
  | 0 => rfl
  | s + 1 => by simp [parA, offA, parA_len s]
theorem parP_zero : parP g l s 0 = parA g l s := by simp [parP]
theorem parP_succ : parP g l s (i + 1) = parP g l s i ++ [(s : Int)] := by unfold parP; rw [List.replicate_succ', List.append_assoc]
theorem parP_all : parP g l s (prS g l s).length = parA g l (s + 1) := rfl
theorem parP_len : (parP g l s i).length = offA g l s + i := by simp [parP, parA_len]
theorem hvA_len : ∀ s, (hvA g v m l s).length = offA g l s
  | 0 => rfl
  | s + 1 => by simp [hvA, offA, hvA_len s, wsS_len]
theorem hvP_zero : hvP g v m l s 0 = hvA g v m l s := by simp [hvP]
theorem hvP_succ (h : i < (prS g l s).length) : hvP g v m l s (i + 1) = hvP g v m l s i ++ [(wsS g v m l s).getD i 0] := by
  have h2 : i < (wsS g v m l s).length := by rw [wsS_len]; exact h
  unfold hvP
  generalize wsS g v m l s = W at h2
  rw [List.take_add_one, List.getElem?_eq_getElem h2, List.append_assoc]
  simp [List.getD, h2]
theorem hvP_all : hvP g v m l s (prS g l s).length = hvA g v m l (s + 1) := by unfold hvP; rw [← wsS_len (v := v) (m := m), List.take_length]; rfl
theorem hvP_len (h : i ≤ (prS g l s).length) : (hvP g v m l s i).length = offA g l s + i := by
  unfold hvP
  rw [List.length_append, List.length_take, wsS_len, hvA_len]
  omega
end
def chL (g : Gr) (l : List Spl) (s : Nat) : List Int := (List.range (prS g l s).length).map fun j => ((offA g l s + j : Nat) : Int)
def chP (g : Gr) (l : List Spl) (s i : Nat) : List Int := (List.range i).map fun j => ((offA g l s + j : Nat) : Int)
theorem chP_zero {g : Gr} {l : List Spl} {s : Nat} : chP g l s 0 = [] := rfl
theorem chP_succ {g : Gr} {l : List Spl} {s i : Nat} : chP g l s (i + 1) = chP g l s i ++ [((offA g l s + i : Nat) : Int)] := by simp [chP, List.range_succ]
theorem chP_len {g : Gr} {l : List Spl} {s i : Nat} : (chP g l s i).length = i := by simp [chP]
theorem chP_all {g : Gr} {l : List Spl} {s : Nat} : chP g l s (prS g l s).length = chL g l s := rfl
def asgS (g : Gr) (l : List Spl) (s : Nat) : Nat → List (Int × Nat)
  | 0 => []
  | i + 1 => asgS g l s i ++ ((prS g l s).getD i []).map fun e => (e, offA g l s + i)
def asgA (g : Gr) (l : List Spl) : Nat → List (Int × Nat)
  | 0 => []
  | s + 1 => asgA g l s ++ asgS g l s (prS g l s).length
def asgP (g : Gr) (l : List Spl) (s i q : Nat) : List (Int × Nat) := asgA g l s ++ (asgS g l s i ++ (((prS g l s).getD i []).take q).map fun e => (e, offA g l s + i))
def ownL (a : List (Int × Nat)) (k : Nat) : Int := a.foldl (fun d p => if p.1 = (k : Int) then (p.2 : Int) else d) 0
theorem ownL_nil {k : Nat} : ownL [] k = 0 := rfl
theorem ownL_snoc {a : List (Int × Nat)} {p : Int × Nat} {k : Nat} : ownL (a ++ [p]) k = if p.1 = (k : Int) then (p.2 : Int) else ownL a k := by simp [ownL, List.foldl_append]
theorem asgP_zero {g : Gr} {l : List Spl} {s i : Nat} : asgP g l s i 0 = asgA g l s ++ asgS g l s i := by simp [asgP]
theorem asgP_succ {g : Gr} {l : List Spl} {s i q : Nat} (h : q < ((prS g l s).getD i []).length) : asgP g l s i (q + 1) = asgP g l s i q ++ [(((prS g l s).getD i []).getD q 0, offA g l s + i)] := by
  unfold asgP
  rw [take_next h, List.map_append, ← List.append_assoc, ← List.append_assoc, ← List.append_assoc]
  rfl
theorem asgP_all {g : Gr} {l : List Spl} {s i : Nat} : asgP g l s i ((prS g l s).getD i []).length = asgA g l s ++ asgS g l s (i + 1) := by
  unfold asgP
  rw [List.take_length]
  rfl
theorem asgA_succ {g : Gr} {l : List Spl} {s : Nat} : asgA g l (s + 1) = asgA g l s ++ asgS g l s (prS g l s).length := rfl
def ownE (g : Gr) (l : List Spl) (k : Nat) : Int := ownL (asgA g l g.states.toNat) k
def spE (g : Gr) (l : List Spl) (i : Nat) (c : Int) : Edge := ⟨ownE g l i, (g.edges.getD i de).lab, c⟩
def edA (g : Gr) (l : List Spl) : Nat → List Edge
  | 0 => []
  | i + 1 => edA g l i ++ (chL g l (g.edges.getD i de).to.toNat).map (spE g l i)
def edP (g : Gr) (l : List Spl) (i k : Nat) : List Edge := edA g l i ++ ((chL g l (g.edges.getD i de).to.toNat).take k).map (spE g l i)
theorem edP_zero {g : Gr} {l : List Spl} {i : Nat} : edP g l i 0 = edA g l i := by simp [edP]
theorem edP_succ {g : Gr} {l : List Spl} {i k : Nat} (h : k < (chL g l (g.edges.getD i de).to.toNat).length) : edP g l i (k + 1) = edP g l i k ++ [spE g l i ((chL g l (g.edges.getD i de).to.toNat).getD k 0)] := by
  unfold edP
  rw [take_next h, List.map_append, ← List.append_assoc]
  rfl
theorem edP_all {g : Gr} {l : List Spl} {i : Nat} : edP g l i (chL g l (g.edges.getD i de).to.toNat).length = edA g l (i + 1) := by
  unfold edP
  rw [List.take_length]
  rfl
end Go.Proofs.YthpdkmoedpcboaaGreat
namespace Go.Proofs.YthpdkmoedpcboaaGreat
set_option linter.unusedSimpArgs false
set_option linter.unusedVariables false
open Go Go.Lift
def segS (g : Gr) (v : List Int) (o : List Int) (i j : Nat) : Int := psA g v o j - psA g v o i
def okC (g : Gr) (v : List Int) (m w : Int) (o : List Int) (i j : Nat) : Bool := decide (segS g v o i j % m = 0 ∧ 1 ≤ segS g v o i j / m ∧ segS g v o i j / m < w)
def chI (g : Gr) (v : List Int) (m w : Int) (o : List Int) (j : Nat) : Option Nat := (List.range j).find? fun i => okC g v m w o i j
def chJ (g : Gr) (v : List Int) (m w : Int) (o : List Int) : Nat → Option (Nat × Nat)
  | 0 => none
  | j + 1 => match chJ g v m w o j with
    | some p => some p
    | none => (chI g v m w o (j + 1)).map fun i => (i, j + 1)
def prts (o : List Int) (i j : Nat) : List (List Int) := [(o.drop i).take (j - i), o.take i ++ o.drop j]
def chS (g : Gr) (v : List Int) (m : Int) (s : Nat) : Option Spl := (chJ g v m (v.getD s 0) (outR g s) (outR g s).length).map fun p => ⟨s, prts (outR g s) p.1 p.2⟩
def cRd (g : Gr) (v : List Int) (m : Int) : Nat → List Spl
  | 0 => []
  | s + 1 => cRd g v m s ++ if v.getD s 0 < 2 then [] else (chS g v m s).toList
def cNo (g : Gr) (v : List Int) (m : Int) : Int := if baseN g v m ≠ 0 then baseN g v m else if cRd g v m g.states.toNat = [] then 16 else 0
def cLs (g : Gr) (v : List Int) (m : Int) : List Spl := if baseN g v m = 0 then cRd g v m g.states.toNat else []
section
variable {g : Gr} {v : List Int} {m w : Int} {o : List Int} {i j s : Nat}
theorem cRd_zero : cRd g v m 0 = [] := rfl
theorem cRd_light (h : v.getD s 0 < 2) : cRd g v m (s + 1) = cRd g v m s := by
  show cRd g v m s ++ _ = _
  rw [if_pos h, List.append_nil]
theorem cRd_no (h : ¬ v.getD s 0 < 2) (h2 : chS g v m s = none) : cRd g v m (s + 1) = cRd g v m s := by
  show cRd g v m s ++ _ = _
  rw [if_neg h, h2]; exact List.append_nil _
theorem cRd_yes (h : ¬ v.getD s 0 < 2) {x : Spl} (h2 : chS g v m s = some x) : cRd g v m (s + 1) = cRd g v m s ++ [x] := by
  show cRd g v m s ++ _ = _
  rw [if_neg h, h2]; rfl
theorem cNo_1 (h : baseN g v m ≠ 0) : cNo g v m = baseN g v m ∧ cLs g v m = [] := ⟨if_pos h, if_neg h⟩
theorem cNo_2 (h : baseN g v m = 0) (h2 : cRd g v m g.states.toNat = []) : cNo g v m = 16 ∧ cLs g v m = [] := ⟨by unfold cNo; rw [if_neg (fun h3 => h3 h), if_pos h2], by unfold cLs; rw [if_pos h, h2]⟩
theorem cNo_3 (h : baseN g v m = 0) (h2 : cRd g v m g.states.toNat ≠ []) : cNo g v m = 0 ∧ cLs g v m = cRd g v m g.states.toNat := ⟨by unfold cNo; rw [if_neg (fun h3 => h3 h), if_neg h2], if_pos h⟩
theorem cRd_len : (cRd g v m s).length ≤ s := by
  induction s with
  | zero => exact Nat.le_refl _
  | succ s ih =>
    show (cRd g v m s ++ _).length ≤ _
    rw [List.length_append]
    split
    · simp; omega
    · cases chS g v m s <;> simp <;> omega
theorem chI_none (h : ∀ i, i < j → okC g v m w o i j = false) : chI g v m w o j = none := by
  unfold chI
  rw [List.find?_eq_none]
  intro i hi
  rw [h i (List.mem_range.1 hi)]
  simp
theorem chI_some (hi : i < j) (h : okC g v m w o i j = true) (hn : ∀ k, k < i → okC g v m w o k j = false) : chI g v m w o j = some i := by
  unfold chI
  rw [List.find?_eq_some_iff_getElem]
  refine ⟨h, i, by simpa using hi, by simp, fun k hk => ?_⟩
  simp [hn k hk]
theorem chJ_keep {p : Nat × Nat} (h : chJ g v m w o j = some p) : ∀ d, chJ g v m w o (j + d) = some p
  | 0 => h
  | d + 1 => by
    show (match chJ g v m w o (j + d) with | some p => some p | none => _) = _
    rw [chJ_keep h d]
theorem chJ_ok : ∀ {n : Nat} {p : Nat × Nat}, chJ g v m w o n = some p → p.1 < p.2 ∧ p.2 ≤ n ∧ okC g v m w o p.1 p.2 = true
  | 0, p, h => by cases h
  | n + 1, p, h => by
    cases h1 : chJ g v m w o n with
    | some q =>
      have h2 := chJ_keep h1 1
      rw [h2] at h
      obtain rfl := Option.some.inj h
      obtain ⟨h3, h4, h5⟩ := chJ_ok h1
      exact ⟨h3, by omega, h5⟩
    | none =>
      have h2 : chJ g v m w o (n + 1) = (chI g v m w o (n + 1)).map fun i => (i, n + 1) := by
        show (match chJ g v m w o n with | some p => some p | none => _) = _
        rw [h1]
      rw [h2] at h
      cases h3 : chI g v m w o (n + 1) with
      | none => rw [h3] at h; cases h
      | some i =>
        rw [h3] at h
        obtain rfl := Option.some.inj h
        unfold chI at h3
        have h4 := List.find?_some h3
        exact ⟨List.mem_range.1 (List.mem_of_find?_eq_some h3), Nat.le_refl _, h4⟩
end
def wtE (g : Gr) (v : List Int) (k : Int) : Int := v.getD (g.edges.getD k.toNat de).to.toNat 0
theorem psA_sum {g : Gr} {v p : List Int} : ∀ q, q ≤ p.length → psA g v p q = ((p.take q).map (wtE g v)).sum
  | 0, _ => rfl
  | q + 1, h => by
    rw [psA_succ, psA_sum q (by omega), take_next (by omega), List.map_append, List.sum_append]
    simp [wtE]
theorem psV_sum {g : Gr} {v p : List Int} : psV g v p = (p.map (wtE g v)).sum := by
  unfold psV
  rw [psA_sum _ (Nat.le_refl _), List.take_length]
theorem segS_seg {g : Gr} {v o : List Int} {i j : Nat} (hi : i ≤ j) (hj : j ≤ o.length) : psV g v ((o.drop i).take (j - i)) = segS g v o i j := by
  unfold segS
  rw [psV_sum, psA_sum i (by omega), psA_sum j hj]
  have e : o.take j = o.take i ++ (o.drop i).take (j - i) := by rw [← List.take_append_drop i (o.take j), List.take_take, List.drop_take, Nat.min_eq_left hi]
  rw [e, List.map_append, List.sum_append]
  omega
theorem segS_rest {g : Gr} {v o : List Int} {i j : Nat} (hi : i ≤ j) (hj : j ≤ o.length) : psV g v (o.take i ++ o.drop j) = psV g v o - segS g v o i j := by
  unfold segS
  rw [psV_sum, psV_sum, psA_sum i (by omega), psA_sum j hj, List.map_append, List.sum_append]
  have e : (o.map (wtE g v)).sum = ((o.take j).map (wtE g v)).sum + ((o.drop j).map (wtE g v)).sum := by rw [← List.sum_append, ← List.map_append, List.take_append_drop]
  omega
theorem psV_out {g : Gr} {v : List Int} {s : Nat} : psV g v (outL g s) = sumV g v s := by
  rw [psV_sum]
  unfold outL sumV
  have key : ∀ i, ((outA g (s : Int) i).map (wtE g v)).sum = sumA g v i s := by
    intro i
    induction i with
    | zero => rfl
    | succ i ih =>
      rw [outA_succ, sumA_succ, List.map_append, List.sum_append, ih]
      split
      · simp [wtE]
      · simp
  exact key _
end Go.Proofs.YthpdkmoedpcboaaGreat
