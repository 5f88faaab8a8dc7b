/- Parts of the proof: BL LC1 PG DA DB. -/
import Derived.Test.YtoafgeobhhlplaaProg
import Derived.KernelRfl
import Derived.Test.YtoafgeobhhlplaaZU08
import Derived.Test.YtoafgeobhhlplaaZU10
namespace Go.Proofs.Ytoafgeobhhlplaa
set_option linter.unusedVariables false
open Go Go.Proofs Go.Lift
def bldRen : Go.Shelf.Ren := ⟨fun | 169 => 58 | 240 => 77 | 276 => 87 | n => n, fun | 0 => 0 | 3 => 3 | 4 => 4 | 5 => 5 | 9 => 9 | 20 => 20 | 37 => 48 | 70 => 85 | 72 => 87 | 127 => 110 | 164 => 118 | n => n, fun n => n⟩
theorem bld240 : Go.Proofs.Lays.n240 Try.prog bldRen := {
  mixed := by kernel_rfl,
  f240 := Try.func77.trans (congrArg some (by kernel_rfl)),
  f276 := Try.func87.trans (congrArg some (by kernel_rfl)),
  t0 := Try.underlying0,
  a0 := Try.isAgg0,
  z0 := Try.sizeOf0,
  v0 := Try.zeroValue0,
  t4 := Try.underlying4,
  a4 := Try.isAgg4,
  z4 := Try.sizeOf4,
  v4 := Try.zeroValue4,
  t9 := Try.underlying9,
  a9 := Try.isAgg9,
  z9 := Try.sizeOf9,
  v9 := Try.zeroValue9,
  t20 := Try.underlying20,
  a20 := Try.isAgg20,
  z20 := Try.sizeOf20,
  v20 := Try.zeroValue20,
  t70 := Try.underlying85,
  a70 := Try.isAgg85,
  z70 := Try.sizeOf85,
  v70 := Try.zeroValue85,
  t72 := Try.underlying87,
  a72 := Try.isAgg87,
  z72 := Try.sizeOf87,
  v72 := Try.zeroValue87,
  t164 := Try.underlying118,
  a164 := Try.isAgg118,
  z164 := Try.sizeOf118,
  v164 := Try.zeroValue118 }
theorem bld169 : Go.Proofs.Lays.n169 Try.prog bldRen := {
  mixed := by kernel_rfl,
  f169 := Try.func58.trans (congrArg some (by kernel_rfl)),
  t0 := Try.underlying0,
  a0 := Try.isAgg0,
  z0 := Try.sizeOf0,
  v0 := Try.zeroValue0,
  t3 := Try.underlying3,
  a3 := Try.isAgg3,
  z3 := Try.sizeOf3,
  v3 := Try.zeroValue3,
  t9 := Try.underlying9,
  a9 := Try.isAgg9,
  z9 := Try.sizeOf9,
  v9 := Try.zeroValue9,
  t37 := Try.underlying48,
  a37 := Try.isAgg48,
  z37 := Try.sizeOf48,
  v37 := Try.zeroValue48,
  t70 := Try.underlying85,
  a70 := Try.isAgg85,
  z70 := Try.sizeOf85,
  v70 := Try.zeroValue85,
  t72 := Try.underlying87,
  a72 := Try.isAgg87,
  z72 := Try.sizeOf87,
  v72 := Try.zeroValue87,
  t127 := Try.underlying110,
  a127 := Try.isAgg110,
  z127 := Try.sizeOf110,
  v127 := Try.zeroValue110 }
theorem bldX : Builder.Extra Try.prog bldRen := {
  sizeBuilder := by kernel_rfl,
  liesBuilder := by kernel_rfl,
  t5 := Try.underlying5,
  a5 := Try.isAgg5,
  z5 := Try.sizeOf5,
  v5 := Try.zeroValue5,
  infoByte := by kernel_rfl,
  cellsByte := by kernel_rfl,
  sizeByte := by kernel_rfl,
  neB5 := by decide }
theorem copyCheckB {hin : Heap} {nin : Nat} {T : TypeId} {S off : Nat} {f : Nat → Nat → AVal} (hl : lkH hin (0, 0) = some (.arr 1 S f)) (ht : tyH hin (0, 0) = some T)
    (hS : Try.prog.cellsOf T = S) (hoff : off < S) (hlies : liesAt Try.prog Try.prog.depth T 1 off 87 1 = true) (hf : f 0 off = .nilp ∨ f 0 off = .ptr (0, 0) 0 off) :
    FC Try.prog 77 [.ptr (0, 0) 0 off] hin nin (fun _ : Unit => True) (fun _ => .tup 0 (fun _ => .any)) (fun _ => setH hin (0, 0) (.arr 1 S (selfF f off))) (fun _ => nin) :=
  copyCheck_c bld240 bldX.toX72 hl ht hS hoff hlies hf
theorem stringB {hin : Heap} {nin : Nat} {S off N : Nat} {f g : Nat → Nat → AVal} {id : Lift.Id} {l : List UInt8} (hl : lkH hin (0, 0) = some (.arr 1 S f)) (hoff : off + 1 < S)
    (hf : f 0 (off + 1) = .sl id 0 l.length) (hl1 : lkH hin id = some (.arr N 1 g)) (ht1 : tyH hin id = some 5) (hN : l.length ≤ N) (h0 : l ≠ []) (hg : ∀ i, i < l.length → g i 0 = .int .u8 (l.getD i 0).toNat) (h63 : l.length ≤ 9223372036854775807) :
    FC Try.prog 58 [.ptr (0, 0) 0 off] hin nin (fun _ : Unit => True) (fun _ => .str l) (fun _ => delH hin id) (fun _ => nin) :=
  string_c bld169 bldX hl hoff hf hl1 ht1 hN h0 hg h63
theorem stringNilB {hin : Heap} {nin : Nat} {S off : Nat} {f : Nat → Nat → AVal} (hl : lkH hin (0, 0) = some (.arr 1 S f)) (hoff : off + 1 < S) (hf : f 0 (off + 1) = .nils) :
    FC Try.prog 58 [.ptr (0, 0) 0 off] hin nin (fun _ : Unit => True) (fun _ => .str []) (fun _ => hin) (fun _ => nin) :=
  string_nil_c bld169 bldX hl hoff hf
end Go.Proofs.Ytoafgeobhhlplaa
namespace Go.Proofs.Ytoafgeobhhlplaa
set_option linter.unusedSimpArgs false
set_option linter.unusedVariables false
open Go Go.Lift Go.Proofs
theorem mixed : Try.prog.follows .mixedOrders = true := by decide +kernel
theorem cal10 : Callable Try.prog 10 := ⟨_, Try.func10, by decide, rfl⟩
theorem cal11 : Callable Try.prog 11 := ⟨_, Try.func11, by decide, rfl⟩
theorem cal12 : Callable Try.prog 12 := ⟨_, Try.func12, by decide, rfl⟩
theorem cal16 : Callable Try.prog 16 := ⟨_, Try.func16, by decide, rfl⟩
theorem cal18 : Callable Try.prog 18 := ⟨_, Try.func18, by decide, rfl⟩
theorem cal19 : Callable Try.prog 19 := ⟨_, Try.func19, by decide, rfl⟩
theorem cal20 : Callable Try.prog 20 := ⟨_, Try.func20, by decide, rfl⟩
theorem cal21 : Callable Try.prog 21 := ⟨_, Try.func21, by decide, rfl⟩
theorem cal22 : Callable Try.prog 22 := ⟨_, Try.func22, by decide, rfl⟩
theorem cal23 : Callable Try.prog 23 := ⟨_, Try.func23, by decide, rfl⟩
theorem cal24 : Callable Try.prog 24 := ⟨_, Try.func24, by decide, rfl⟩
theorem cal25 : Callable Try.prog 25 := ⟨_, Try.func25, by decide, rfl⟩
theorem cal26 : Callable Try.prog 26 := ⟨_, Try.func26, by decide, rfl⟩
theorem cal27 : Callable Try.prog 27 := ⟨_, Try.func27, by decide, rfl⟩
theorem cal29 : Callable Try.prog 29 := ⟨_, Try.func29, by decide, rfl⟩
theorem cal30 : Callable Try.prog 30 := ⟨_, Try.func30, by decide, rfl⟩
theorem cal31 : Callable Try.prog 31 := ⟨_, Try.func31, by decide, rfl⟩
theorem cal33 : Callable Try.prog 33 := ⟨_, Try.func33, by decide, rfl⟩
theorem cal34 : Callable Try.prog 34 := ⟨_, Try.func34, by decide, rfl⟩
theorem cal35 : Callable Try.prog 35 := ⟨_, Try.func35, by decide, rfl⟩
theorem cal36 : Callable Try.prog 36 := ⟨_, Try.func36, by decide, rfl⟩
theorem cal37 : Callable Try.prog 37 := ⟨_, Try.func37, by decide, rfl⟩
theorem cal38 : Callable Try.prog 38 := ⟨_, Try.func38, by decide, rfl⟩
theorem cal39 : Callable Try.prog 39 := ⟨_, Try.func39, by decide, rfl⟩
theorem cal40 : Callable Try.prog 40 := ⟨_, Try.func40, by decide, rfl⟩
theorem cal41 : Callable Try.prog 41 := ⟨_, Try.func41, by decide, rfl⟩
theorem cal44 : Callable Try.prog 44 := ⟨_, Try.func44, by decide, rfl⟩
theorem cal46 : Callable Try.prog 46 := ⟨_, Try.func46, by decide, rfl⟩
theorem cal47 : Callable Try.prog 47 := ⟨_, Try.func47, by decide, rfl⟩
theorem cal48 : Callable Try.prog 48 := ⟨_, Try.func48, by decide, rfl⟩
theorem cal49 : Callable Try.prog 49 := ⟨_, Try.func49, by decide, rfl⟩
theorem cal50 : Callable Try.prog 50 := ⟨_, Try.func50, by decide, rfl⟩
theorem cal51 : Callable Try.prog 51 := ⟨_, Try.func51, by decide, rfl⟩
theorem cal52 : Callable Try.prog 52 := ⟨_, Try.func52, by decide, rfl⟩
theorem cal53 : Callable Try.prog 53 := ⟨_, Try.func53, by decide, rfl⟩
theorem cal54 : Callable Try.prog 54 := ⟨_, Try.func54, by decide, rfl⟩
theorem cal55 : Callable Try.prog 55 := ⟨_, Try.func55, by decide, rfl⟩
theorem cal57 : Callable Try.prog 57 := ⟨_, Try.func57, by decide, rfl⟩
theorem cal58 : Callable Try.prog 58 := ⟨_, Try.func58, by decide, rfl⟩
theorem cal59 : Callable Try.prog 59 := ⟨_, Try.func59, by decide, rfl⟩
theorem cal61 : Callable Try.prog 61 := ⟨_, Try.func61, by decide, rfl⟩
theorem cal62 : Callable Try.prog 62 := ⟨_, Try.func62, by decide, rfl⟩
theorem cal63 : Callable Try.prog 63 := ⟨_, Try.func63, by decide, rfl⟩
theorem cal64 : Callable Try.prog 64 := ⟨_, Try.func64, by decide, rfl⟩
theorem cal65 : Callable Try.prog 65 := ⟨_, Try.func65, by decide, rfl⟩
theorem cal66 : Callable Try.prog 66 := ⟨_, Try.func66, by decide, rfl⟩
theorem cal67 : Callable Try.prog 67 := ⟨_, Try.func67, by decide, rfl⟩
theorem cal68 : Callable Try.prog 68 := ⟨_, Try.func68, by decide, rfl⟩
theorem cal69 : Callable Try.prog 69 := ⟨_, Try.func69, by decide, rfl⟩
theorem cal72 : Callable Try.prog 72 := ⟨_, Try.func72, by decide, rfl⟩
theorem cal73 : Callable Try.prog 73 := ⟨_, Try.func73, by decide, rfl⟩
theorem cal74 : Callable Try.prog 74 := ⟨_, Try.func74, by decide, rfl⟩
theorem cal75 : Callable Try.prog 75 := ⟨_, Try.func75, by decide, rfl⟩
theorem cal76 : Callable Try.prog 76 := ⟨_, Try.func76, by decide, rfl⟩
theorem cal77 : Callable Try.prog 77 := ⟨_, Try.func77, by decide, rfl⟩
theorem cal78 : Callable Try.prog 78 := ⟨_, Try.func78, by decide, rfl⟩
theorem cal79 : Callable Try.prog 79 := ⟨_, Try.func79, by decide, rfl⟩
theorem cal80 : Callable Try.prog 80 := ⟨_, Try.func80, by decide, rfl⟩
theorem cal81 : Callable Try.prog 81 := ⟨_, Try.func81, by decide, rfl⟩
theorem cal82 : Callable Try.prog 82 := ⟨_, Try.func82, by decide, rfl⟩
theorem cal83 : Callable Try.prog 83 := ⟨_, Try.func83, by decide, rfl⟩
theorem cal84 : Callable Try.prog 84 := ⟨_, Try.func84, by decide, rfl⟩
theorem cal85 : Callable Try.prog 85 := ⟨_, Try.func85, by decide, rfl⟩
theorem cal86 : Callable Try.prog 86 := ⟨_, Try.func86, by decide, rfl⟩
theorem cal88 : Callable Try.prog 88 := ⟨_, Try.func88, by decide, rfl⟩
theorem cal89 : Callable Try.prog 89 := ⟨_, Try.func89, by decide, rfl⟩
theorem cal90 : Callable Try.prog 90 := ⟨_, Try.func90, by decide, rfl⟩
theorem cal91 : Callable Try.prog 91 := ⟨_, Try.func91, by decide, rfl⟩
theorem cal92 : Callable Try.prog 92 := ⟨_, Try.func92, by decide, rfl⟩
theorem cal94 : Callable Try.prog 94 := ⟨_, Try.func94, by decide, rfl⟩
theorem cal95 : Callable Try.prog 95 := ⟨_, Try.func95, by decide, rfl⟩
theorem cal96 : Callable Try.prog 96 := ⟨_, Try.func96, by decide, rfl⟩
theorem cal97 : Callable Try.prog 97 := ⟨_, Try.func97, by decide, rfl⟩
theorem cal98 : Callable Try.prog 98 := ⟨_, Try.func98, by decide, rfl⟩
theorem cal99 : Callable Try.prog 99 := ⟨_, Try.func99, by decide, rfl⟩
theorem cal100 : Callable Try.prog 100 := ⟨_, Try.func100, by decide, rfl⟩
theorem cal103 : Callable Try.prog 103 := ⟨_, Try.func103, by decide, rfl⟩
theorem cal104 : Callable Try.prog 104 := ⟨_, Try.func104, by decide, rfl⟩
theorem cal113 : Callable Try.prog 113 := ⟨_, Try.func113, by decide, rfl⟩
end Go.Proofs.Ytoafgeobhhlplaa
namespace Go.Proofs.Ytoafgeobhhlplaa
set_option linter.unusedSimpArgs false
set_option linter.unusedVariables false
open Go Go.Lift
structure Edge where
  frm : Int
  lab : Int
  to : Int
deriving DecidableEq
structure Gr where
  labels : Int
  states : Int
  edges : List Edge
structure Fit (g : Gr) : Prop where
  st : 0 ≤ g.states ∧ g.states ≤ 64
  frm : ∀ x ∈ g.edges, 0 ≤ x.frm ∧ x.frm < g.states
  to : ∀ x ∈ g.edges, 0 ≤ x.to ∧ x.to < g.states
def Gr.n (g : Gr) : Nat := g.states.toNat
inductive Rch (g : Gr) (s : Nat) : Nat → Prop
  | refl : Rch g s s
  | step {t : Nat} {x : Edge} : Rch g s t → x ∈ g.edges → x.frm = (t : Int) → Rch g s x.to.toNat
theorem Rch.trans {g : Gr} {a b c : Nat} (h : Rch g a b) (k : Rch g b c) : Rch g a c := by
  induction k with
  | refl => exact h
  | step _ hx he ih => exact ih.step hx he
theorem Rch.lt {g : Gr} (hf : Fit g) {a b : Nat} (ha : a < g.n) (h : Rch g a b) : b < g.n := by
  cases h with
  | refl => exact ha
  | step _ hx _ => have := hf.to _ hx; unfold Gr.n; omega
theorem Rch.mem {g : Gr} {s : Nat} {p : Nat → Prop} (h0 : p s) (hs : ∀ x ∈ g.edges, ∀ t : Nat, x.frm = (t : Int) → p t → p x.to.toNat) {t : Nat} (h : Rch g s t) : p t := by
  induction h with
  | refl => exact h0
  | step _ hx he ih => exact hs _ hx _ he ih
open Classical in
noncomputable def reachL (g : Gr) (s : Nat) : List Bool := (List.range g.n).map fun t => decide (Rch g s t)
@[simp] theorem reachL_len {g : Gr} {s : Nat} : (reachL g s).length = g.n := by simp [reachL]
theorem reachL_at {g : Gr} {s t : Nat} (h : t < g.n) : (reachL g s).getD t false = true ↔ Rch g s t := by
  simp [reachL, List.getD, h]
theorem reachL_eq {g : Gr} {s : Nat} {l : List Bool} (hl : l.length = g.n) (h1 : ∀ t, t < g.n → l.getD t false = true → Rch g s t) (h2 : ∀ t, t < g.n → Rch g s t → l.getD t false = true) : l = reachL g s := by
  apply eq_of_getD (d := false)
  · simp [hl]
  · intro t ht
    have ht' : t < g.n := by omega
    rw [Bool.eq_iff_iff, reachL_at ht']
    exact ⟨h1 t ht', h2 t ht'⟩
def adj (g : Gr) (s : Nat) : List Int := (g.edges.filter fun x => decide (x.frm = (s : Int))).map Edge.to
theorem adj_mem {g : Gr} {s : Nat} {t : Int} (h : t ∈ adj g s) : ∃ x ∈ g.edges, x.frm = (s : Int) ∧ x.to = t := by
  obtain ⟨x, hx, rfl⟩ := List.mem_map.1 h
  simp only [List.mem_filter, decide_eq_true_eq] at hx
  exact ⟨x, hx.1, hx.2, rfl⟩
theorem adj_of {g : Gr} {s : Nat} {x : Edge} (hx : x ∈ g.edges) (he : x.frm = (s : Int)) : x.to ∈ adj g s :=
  List.mem_map.2 ⟨x, by simp [hx, he], rfl⟩
structure Dfs (g : Gr) (seen seen' : List Bool) (s : Nat) : Prop where
  len : seen'.length = g.n
  sub : ∀ t, seen.getD t false = true → seen'.getD t false = true
  own : seen'.getD s false = true
  new : ∀ u, seen'.getD u false = true → seen.getD u false = false → Rch g s u ∧ ∀ x ∈ g.edges, x.frm = (u : Int) → seen'.getD x.to.toNat false = true
structure DfsM (g : Gr) (seen c : List Bool) (s i : Nat) : Prop where
  len : c.length = g.n
  sub : ∀ t, seen.getD t false = true → c.getD t false = true
  own : c.getD s false = true
  new : ∀ u, c.getD u false = true → seen.getD u false = false → Rch g s u ∧ (u ≠ s → ∀ x ∈ g.edges, x.frm = (u : Int) → c.getD x.to.toNat false = true)
  nb : ∀ j, j < i → c.getD ((adj g s).getD j 0).toNat false = true
theorem getD_set {α : Type} {l : List α} {i j : Nat} {v d : α} : (l.set i v).getD j d = if j = i ∧ i < l.length then v else l.getD j d := by
  simp only [List.getD_eq_getElem?_getD, List.getElem?_set]
  by_cases h : i = j
  · subst h
    by_cases h2 : i < l.length
    · simp [h2]
    · simp [h2]
  · rw [if_neg h, if_neg (fun e => h e.1.symm)]
section
variable {g : Gr} {seen c c' : List Bool} {s : Nat}
theorem DfsM.first (hl : seen.length = g.n) (hs : s < g.n) : DfsM g seen (seen.set s true) s 0 := by
  refine ⟨by simpa using hl, fun t ht => ?_, ?_, fun u hu hn => ?_, fun j hj => absurd hj (Nat.not_lt_zero _)⟩
  · rw [getD_set]; split
    · rfl
    · exact ht
  · rw [getD_set, if_pos ⟨rfl, by omega⟩]
  · rw [getD_set] at hu
    split at hu
    · rename_i h; rw [h.1]; exact ⟨.refl, fun h2 => absurd rfl h2⟩
    · rw [hn] at hu; cases hu
theorem DfsM.skip {i : Nat} (h : DfsM g seen c s i) (hc : c.getD ((adj g s).getD i 0).toNat false = true) : DfsM g seen c s (i + 1) :=
  ⟨h.len, h.sub, h.own, h.new, step_all h.nb hc⟩
theorem DfsM.call {i : Nat} (hf : Fit g) (h : DfsM g seen c s i) (hi : i < (adj g s).length) (hd : Dfs g c c' ((adj g s).getD i 0).toNat) : DfsM g seen c' s (i + 1) := by
  obtain ⟨x, hx, he, ht⟩ := adj_mem (getD_mem (d := 0) hi)
  have hst : Rch g s ((adj g s).getD i 0).toNat := by rw [← ht]; exact Rch.refl.step hx he
  refine ⟨hd.len, fun t ht => hd.sub t (h.sub t ht), hd.sub _ h.own, fun u hu hn => ?_, step_all (fun j hj => hd.sub _ (h.nb j hj)) hd.own⟩
  cases hcu : c.getD u false with
  | true =>
    obtain ⟨h1, h2⟩ := h.new u hcu hn
    exact ⟨h1, fun hne y hy hye => hd.sub _ (h2 hne y hy hye)⟩
  | false =>
    obtain ⟨h1, h2⟩ := hd.new u hu hcu
    exact ⟨hst.trans h1, fun _ => h2⟩
theorem DfsM.done (h : DfsM g seen c s (adj g s).length) : Dfs g seen c s := by
  refine ⟨h.len, h.sub, h.own, fun u hu hn => ⟨(h.new u hu hn).1, fun x hx he => ?_⟩⟩
  by_cases hus : u = s
  · subst hus
    obtain ⟨j, hj, hje⟩ := List.mem_iff_getElem.1 (adj_of hx he)
    have := h.nb j hj
    rwa [show (adj g u).getD j 0 = x.to by simp [List.getD, hj, hje]] at this
  · exact (h.new u hu hn).2 hus x hx he
theorem Dfs.all (hf : Fit g) (hs : s < g.n) (h : Dfs g (List.replicate g.n false) c s) : c = reachL g s := by
  have hfalse : ∀ u, (List.replicate g.n false).getD u false = false := fun u => by
    simp only [List.getD_eq_getElem?_getD, List.getElem?_replicate]; split <;> rfl
  refine reachL_eq h.len (fun t ht hc => (h.new t hc (hfalse t)).1) fun t ht hr => ?_
  exact hr.mem (p := fun t => c.getD t false = true) h.own fun x hx u he hu => (h.new u hu (hfalse u)).2 x hx he
end
noncomputable def mutB (g : Gr) (s t : Nat) : Bool := (reachL g s).getD t false && (reachL g t).getD s false
noncomputable def compAt (g : Gr) (s k : Nat) : List Int := ((List.range k).filter fun t => mutB g s t).map fun (t : Nat) => (t : Int)
noncomputable def compL (g : Gr) (s : Nat) : List Int := compAt g s g.n
noncomputable def least (g : Gr) (s : Nat) : Bool := decide ((compL g s).getD 0 0 = (s : Int))
def firstNZ {α : Type} (f : α → Int) : List α → Int
  | [] => 0
  | x :: r => if f x = 0 then firstNZ f r else f x
theorem firstNZ_range {f : Nat → Int} {n k : Nat} (h0 : ∀ j, j < k → f j = 0) (hk : k < n) (h : f k ≠ 0) : firstNZ f (List.range n) = f k := by
  have key : ∀ (l : List Nat) (m : Nat), l = List.range' m (n - m) → m ≤ k → firstNZ f l = f k := by
    intro l
    induction l with
    | nil => intro m hl hm; have := congrArg List.length hl; simp at this; omega
    | cons x r ih =>
      intro m hl hm
      obtain ⟨q, hq⟩ : ∃ q, n - m = q + 1 := ⟨n - m - 1, by omega⟩
      rw [hq, List.range'_succ] at hl
      injection hl with h1 h2
      rw [h1]
      by_cases hmk : m = k
      · rw [hmk, firstNZ, if_neg h]
      · rw [firstNZ, if_pos (h0 m (by omega))]
        exact ih (m + 1) (by rw [h2]; congr 1; omega) (by omega)
  exact key _ 0 (by rw [List.range_eq_range']; simp) (Nat.zero_le _)
theorem firstNZ_none {f : Nat → Int} {n : Nat} (h0 : ∀ j, j < n → f j = 0) : firstNZ f (List.range n) = 0 := by
  have key : ∀ (l : List Nat), (∀ x ∈ l, f x = 0) → firstNZ f l = 0 := by
    intro l
    induction l with
    | nil => intro _; rfl
    | cons x r ih => intro h; rw [firstNZ, if_pos (h x List.mem_cons_self)]; exact ih fun y hy => h y (List.mem_cons_of_mem _ hy)
  exact key _ fun x hx => h0 x (by simpa using hx)
theorem firstNZ_zero {f : Nat → Int} {n : Nat} (h : firstNZ f (List.range n) = 0) : ∀ j, j < n → f j = 0 := by
  have key : ∀ (l : List Nat), firstNZ f l = 0 → ∀ x ∈ l, f x = 0 := by
    intro l
    induction l with
    | nil => intro _ x hx; cases hx
    | cons y r ih =>
      intro h x hx
      rw [firstNZ] at h
      split at h
      · rename_i hy
        cases hx with
        | head => exact hy
        | tail _ hx => exact ih h x hx
      · rename_i hy; exact absurd h hy
  exact fun j hj => key _ h j (by simpa using hj)
def edgeOut (g : Gr) (x : Edge) : Prop := x.frm < 0 ∨ g.states ≤ x.frm ∨ x.to < 0 ∨ g.states ≤ x.to ∨ x.lab < 0 ∨ g.labels ≤ x.lab
instance {g : Gr} {x : Edge} : Decidable (edgeOut g x) := by unfold edgeOut; infer_instance
section
variable {g : Gr}
end
def greatG (g : Gr) : Prop := (8 < g.states ∧ g.states ≤ 64) ∨ (30 < (g.edges.length : Int) ∧ (g.edges.length : Int) ≤ 1024) ∨ 1027 < (g.edges.length : Int)
instance {g : Gr} : Decidable (greatG g) := by unfold greatG; infer_instance
def great9 (g : Gr) : Prop := 30 < (g.edges.length : Int) ∨ (10 < g.states ∧ g.states ≤ 64)
instance (g : Gr) : Decidable (great9 g) := inferInstanceAs (Decidable (_ ∨ _))
def letters : List UInt8 := [48, 49, 50, 51, 52, 53, 54, 55, 56, 57, 97, 98, 99, 100, 101, 102]
def wordCheck (q : Int) (w : List UInt8) : Int :=
  if q < 1 ∨ 16 < q then 12 else if 65536 < w.length then 4 else if ∀ c ∈ w, 0 ≤ idxB (letters.take q.toNat) c then 0 else 13
theorem wordCheck_bad {q : Int} {w : List UInt8} (h : ¬ (1 ≤ q ∧ q ≤ 16)) : wordCheck q w = 12 := by
  unfold wordCheck; rw [if_pos (by omega)]
theorem wordCheck_long {q : Int} {w : List UInt8} (h : 1 ≤ q ∧ q ≤ 16) (hl : 65536 < w.length) : wordCheck q w = 4 := by
  unfold wordCheck; rw [if_neg (by omega), if_pos hl]
theorem wordCheck_not {q : Int} {w : List UInt8} {k : Nat} (h : 1 ≤ q ∧ q ≤ 16) (hl : w.length ≤ 65536) (hk : k < w.length) (hb : idxB (letters.take q.toNat) (w.getD k 0) < 0) : wordCheck q w = 13 := by
  unfold wordCheck
  rw [if_neg (by omega), if_neg (by omega), if_neg]
  intro hh
  have := hh _ (getD_mem (d := 0) hk)
  omega
theorem wordCheck_ok {q : Int} {w : List UInt8} (h : 1 ≤ q ∧ q ≤ 16) (hl : w.length ≤ 65536) (hb : ∀ k, k < w.length → 0 ≤ idxB (letters.take q.toNat) (w.getD k 0)) : wordCheck q w = 0 := by
  unfold wordCheck
  rw [if_neg (by omega), if_neg (by omega), if_pos]
  intro c hc
  obtain ⟨j, hj, he⟩ := List.mem_iff_getElem.1 hc
  have := hb j hj
  simpa [List.getD, hj, he] using this
theorem idxB_none (l : List UInt8) (n : UInt8) (h : ∀ j, j < l.length → l.getD j 0 ≠ n) : idxB l n = -1 := by
  unfold idxB
  have : l.idxOf? n = none := by
    rw [List.idxOf?_eq_none_iff]
    intro hm
    obtain ⟨j, hj, he⟩ := List.mem_iff_getElem.1 hm
    exact h j hj (by simp [List.getD, hj, he])
  rw [this]
theorem idxB_some (l : List UInt8) (n : UInt8) (k : Nat) (hk : k < l.length) (h : ∀ j, j < k → l.getD j 0 ≠ n) (he : l.getD k 0 = n) : idxB l n = k := by
  unfold idxB
  have : l.idxOf? n = some k := by
    rw [List.idxOf?, List.findIdx?_eq_some_iff_getElem]
    refine ⟨hk, by simpa [List.getD, hk] using he, fun j hj => ?_⟩
    have := h j hj
    have hj' : j < l.length := by omega
    simpa [List.getD, hj'] using this
  rw [this]
theorem first_at : ∀ (l : List UInt8) (n : UInt8), n ∈ l → ∃ k, k < l.length ∧ (∀ j, j < k → l.getD j 0 ≠ n) ∧ l.getD k 0 = n
  | x :: l, n, h => by
    by_cases e : x = n
    · exact ⟨0, by simp, fun j hj => absurd hj (Nat.not_lt_zero _), by simpa using e⟩
    · obtain ⟨k, h1, h2, h3⟩ := first_at l n ((List.mem_cons.1 h).resolve_left (Ne.symm e))
      refine ⟨k + 1, by simp; omega, fun j hj => ?_, by simpa using h3⟩
      cases j with
      | zero => simpa using e
      | succ j => simpa using h2 j (by omega)
theorem idxB_ge {l : List UInt8} {n : UInt8} : 0 ≤ idxB l n ↔ n ∈ l := by
  constructor
  · intro h
    by_cases hm : n ∈ l
    · exact hm
    · rw [idxB_none l n fun j hj e => hm (by rw [← e]; exact getD_mem hj)] at h; omega
  · intro hm
    obtain ⟨k, h1, h2, h3⟩ := first_at l n hm
    rw [idxB_some l n k h1 h2 h3]; omega
theorem take_getDB {l : List UInt8} {s t : Nat} (h : t < s) : (l.take s).getD t 0 = l.getD t 0 := by
  simp [List.getD, List.getElem?_take, h]
theorem idxB_take {l : List UInt8} {n : UInt8} {q : Nat} : 0 ≤ idxB (l.take q) n ↔ 0 ≤ idxB l n ∧ idxB l n < (q : Int) := by
  constructor
  · intro h
    obtain ⟨k, h1, h2, h3⟩ := first_at _ n (idxB_ge.1 h)
    rw [List.length_take] at h1
    have h4 := idxB_some l n k (by omega) (fun j hj => by rw [← take_getDB (s := q) (by omega)]; exact h2 j hj) (by rw [← take_getDB (s := q) (by omega)]; exact h3)
    rw [h4]; omega
  · rintro ⟨h, hq⟩
    obtain ⟨k, h1, h2, h3⟩ := first_at l n (idxB_ge.1 h)
    have h4 := idxB_some l n k h1 h2 h3
    rw [h4] at hq
    rw [idxB_ge]
    have : (l.take q).getD k 0 = n := by rw [take_getDB (by omega)]; exact h3
    rw [← this]
    exact getD_mem (by rw [List.length_take]; omega)
theorem digit_step {n : UInt8} {k : Nat} (h : ∀ j, j < k → letters.getD j 0 ≠ n) (hk : ¬ (letters.getD k 0).toNat = n.toNat) : ∀ j, j < k + 1 → letters.getD j 0 ≠ n := fun j hj => by
  rcases Nat.lt_succ_iff_lt_or_eq.1 hj with h1 | h1
  · exact h j h1
  · rw [h1]; exact fun e => hk (by rw [e])
theorem word_step {q : Int} {w : List UInt8} {k : Nat} (hn : ∀ j, j < k → 0 ≤ idxB (letters.take q.toNat) (w.getD j 0)) (h : 0 ≤ idxB letters (w.getD k 0)) (h2 : idxB letters (w.getD k 0) < q) : ∀ j, j < k + 1 → 0 ≤ idxB (letters.take q.toNat) (w.getD j 0) := fun j hj => by
  rcases Nat.lt_succ_iff_lt_or_eq.1 hj with h1 | h1
  · exact hn j h1
  · rw [h1]; exact idxB_take.2 ⟨h, by omega⟩
theorem word_bad {q : Int} {w : List UInt8} {k : Nat} (hq : 1 ≤ q ∧ q ≤ 16) (h : ¬ (0 ≤ idxB letters (w.getD k 0) ∧ idxB letters (w.getD k 0) < q)) : idxB (letters.take q.toNat) (w.getD k 0) < 0 := by
  apply Classical.byContradiction
  intro hc
  have := idxB_take.1 (Int.not_lt.1 hc)
  exact h ⟨this.1, by omega⟩
theorem getD_get {α : Type} {l : List α} {k : Nat} {d : α} (h : k < l.length) : l.getD k d = l[k] := by simp [List.getD, h]
def Dig (q : Int) (w : List UInt8) : Prop := ∀ k, k < w.length → 0 ≤ idxB letters (w.getD k 0) ∧ idxB letters (w.getD k 0) < q
theorem word_dig {q : Int} {w : List UInt8} (h : wordCheck q w = 0) : (1 ≤ q ∧ q ≤ 16) ∧ Dig q w := by
  unfold wordCheck at h
  split at h
  · cases h
  · split at h
    · cases h
    · split at h
      · rename_i h1 h2 h3
        refine ⟨by omega, fun k hk => ?_⟩
        have := idxB_take.1 (h3 _ (getD_mem (d := 0) hk))
        exact ⟨this.1, by omega⟩
      · cases h
abbrev Rl := Nat → Nat → Bool
def r0 : Rl := fun _ _ => false
def ltE (a b : Edge) : Prop := a.frm < b.frm ∨ (a.frm = b.frm ∧ (a.lab < b.lab ∨ (a.lab = b.lab ∧ a.to < b.to)))
instance (a b : Edge) : Decidable (ltE a b) := inferInstanceAs (Decidable (_ ∨ _))
instance : DecidableEq Edge := fun a b => if h : a.frm = b.frm ∧ a.lab = b.lab ∧ a.to = b.to then .isTrue (by cases a; cases b; simp at h; simp [h]) else .isFalse fun e => h (by rw [e]; exact ⟨rfl, rfl, rfl⟩)
section
variable {α : Type} [DecidableEq α] {d : α} {l : List α}
end
end Go.Proofs.Ytoafgeobhhlplaa
namespace Go.Proofs.Ytoafgeobhhlplaa
set_option linter.unusedSimpArgs false
set_option linter.unusedVariables false
open Go Go.Lift Go.Proofs
end Go.Proofs.Ytoafgeobhhlplaa
namespace Go.Proofs.Ytoafgeobhhlplaa
set_option linter.unusedSimpArgs false
set_option linter.unusedVariables false
open Go Go.Lift
abbrev Wd := List UInt8
def rst (W : List Wd) (s : Wd) (l : UInt8) : List Wd := match s with
  | [] => (W.filter fun x => decide (x.head? = some l)).map List.tail
  | h :: t => if h = l then [t] else []
def rd (W : List Wd) : Wd → Wd → Bool
  | _, [] => true
  | s, l :: u => (rst W s l).any fun s' => rd W s' u
section
variable {W : List Wd}
@[simp] theorem rd_nil {s : Wd} : rd W s [] = true := by unfold rd; rfl
theorem rd_step {s : Wd} {l : UInt8} {u : Wd} : rd W s (l :: u) = true ↔ ∃ s' ∈ rst W s l, rd W s' u = true := by
  rw [rd, List.any_eq_true]
theorem rst_nil {l : UInt8} {s : Wd} : s ∈ rst W [] l ↔ l :: s ∈ W := by
  unfold rst
  rw [List.mem_map]
  constructor
  · rintro ⟨x, hx, rfl⟩
    rw [List.mem_filter, decide_eq_true_eq] at hx
    cases x with
    | nil => cases hx.2
    | cons a t => have := hx.2; injection this with this; subst this; exact hx.1
  · intro h
    exact ⟨l :: s, List.mem_filter.2 ⟨h, decide_eq_true rfl⟩, rfl⟩
theorem rst_cons {h l : UInt8} {t s : Wd} : s ∈ rst W (h :: t) l ↔ h = l ∧ s = t := by
  show s ∈ (if h = l then [t] else []) ↔ _
  by_cases e : h = l
  · rw [if_pos e]; simp [e]
  · rw [if_neg e]; simp [e]
theorem rd_cons {h l : UInt8} {t u : Wd} : rd W (h :: t) (l :: u) = true ↔ h = l ∧ rd W t u = true := by
  rw [rd_step]
  constructor
  · rintro ⟨s, hs, hr⟩
    obtain ⟨e, rfl⟩ := rst_cons.1 hs
    exact ⟨e, hr⟩
  · rintro ⟨e, hr⟩
    exact ⟨t, rst_cons.2 ⟨e, rfl⟩, hr⟩
theorem rd_word {l : UInt8} {u : Wd} : rd W [] (l :: u) = true ↔ ∃ s, l :: s ∈ W ∧ rd W s u = true := by
  rw [rd_step]
  constructor
  · rintro ⟨s, hs, hr⟩; exact ⟨s, rst_nil.1 hs, hr⟩
  · rintro ⟨s, hs, hr⟩; exact ⟨s, rst_nil.2 hs, hr⟩
theorem rd_pre : ∀ {s u : Wd}, rd W s u = true ↔ u <+: s ∨ (s <+: u ∧ rd W [] (u.drop s.length) = true)
  | [], u => by
    constructor
    · intro h; exact .inr ⟨List.nil_prefix, h⟩
    · rintro (h | h)
      · rw [List.prefix_nil.1 h]; rfl
      · exact h.2
  | h :: t, [] => by simp
  | h :: t, l :: u => by
    rw [rd_cons, rd_pre (s := t) (u := u), List.cons_prefix_cons, List.cons_prefix_cons]
    constructor
    · rintro ⟨rfl, h1 | h1⟩
      · exact .inl ⟨rfl, h1⟩
      · exact .inr ⟨⟨rfl, h1.1⟩, h1.2⟩
    · rintro (⟨rfl, h1⟩ | ⟨⟨rfl, h1⟩, h2⟩)
      · exact ⟨rfl, .inl h1⟩
      · exact ⟨rfl, .inr ⟨h1, h2⟩⟩
theorem rd_app : ∀ {s u v : Wd}, rd W (s ++ v) (s ++ u) = rd W v u
  | [], u, v => rfl
  | h :: t, u, v => by
    rw [Bool.eq_iff_iff]
    show rd W (h :: (t ++ v)) (h :: (t ++ u)) = true ↔ _
    rw [rd_cons, rd_app]; simp
theorem rd_app0 {s u : Wd} : rd W s (s ++ u) = rd W [] u := by
  have := rd_app (W := W) (s := s) (u := u) (v := [])
  rwa [List.append_nil] at this
theorem rd_less : ∀ {u v s : Wd}, rd W s (u ++ v) = true → rd W s u = true
  | [], v, s, _ => rfl
  | l :: u, v, s, h => by
    obtain ⟨s', h1, h2⟩ := rd_step.1 h
    exact rd_step.2 ⟨s', h1, rd_less h2⟩
theorem rd_less' {u w s : Wd} (h : u <+: w) (hr : rd W s w = true) : rd W s u = true := by
  obtain ⟨v, rfl⟩ := h
  exact rd_less hr
theorem rd_first (hW : ∀ x ∈ W, x ≠ []) {v : Wd} (hv : v ≠ []) : rd W [] v = true ↔ ∃ x ∈ W, rd W x v = true := by
  cases v with
  | nil => exact absurd rfl hv
  | cons l u =>
    rw [rd_word]
    constructor
    · rintro ⟨s, hs, hr⟩; exact ⟨l :: s, hs, rd_cons.2 ⟨rfl, hr⟩⟩
    · rintro ⟨x, hx, hr⟩
      cases x with
      | nil => exact absurd rfl (hW _ hx)
      | cons h t =>
        obtain ⟨rfl, h2⟩ := rd_cons.1 hr
        exact ⟨t, hx, h2⟩
theorem rd_of_word {x u : Wd} (hx : x ∈ W) (h : rd W x u = true) : rd W [] u = true := by
  cases u with
  | nil => rfl
  | cons l u =>
    cases x with
    | nil => exact h
    | cons a t =>
      obtain ⟨rfl, h2⟩ := rd_cons.1 h
      exact rd_word.2 ⟨t, hx, h2⟩
def runS (W : List Wd) (S : List Wd) (u : Wd) : List Wd := u.foldl (fun S l => S.flatMap fun s => rst W s l) S
theorem run_mem : ∀ {v u : Wd} {S : List Wd}, (∃ s ∈ S, rd W s (v ++ u) = true) ↔ ∃ s ∈ runS W S v, rd W s u = true
  | [], u, S => Iff.rfl
  | l :: v, u, S => by
    show _ ↔ ∃ s ∈ runS W (S.flatMap fun s => rst W s l) v, _
    rw [← run_mem]
    constructor
    · rintro ⟨s, hs, hr⟩
      obtain ⟨s', h1, h2⟩ := rd_step.1 hr
      exact ⟨s', List.mem_flatMap.2 ⟨s, hs, h1⟩, h2⟩
    · rintro ⟨s', h1, h2⟩
      obtain ⟨s, hs, h3⟩ := List.mem_flatMap.1 h1
      exact ⟨s, hs, rd_step.2 ⟨s', h3, h2⟩⟩
theorem run_one {s v : Wd} {u : Wd} : rd W s (v ++ u) = true ↔ ∃ s' ∈ runS W [s] v, rd W s' u = true := by
  rw [← run_mem]; simp
theorem run_snoc {S : List Wd} {v : Wd} {l : UInt8} : runS W S (v ++ [l]) = (runS W S v).flatMap fun s => rst W s l := by
  unfold runS; rw [List.foldl_append]; rfl
theorem run_nil_set : ∀ {v : Wd}, runS W [] v = []
  | [] => rfl
  | l :: v => run_nil_set (v := v)
theorem run_app : ∀ {x t : Wd}, runS W [x ++ t] x = [t]
  | [], t => rfl
  | h :: x, t => by
    show runS W (([h :: (x ++ t)] : List Wd).flatMap fun s => rst W s h) x = [t]
    have : ([h :: (x ++ t)] : List Wd).flatMap (fun s => rst W s h) = [x ++ t] := by simp [rst]
    rw [this, run_app]
theorem run_word : ∀ {y t : Wd}, runS W [y] (y ++ t) = runS W [[]] t
  | [], t => rfl
  | h :: y, t => by
    show runS W (([h :: y] : List Wd).flatMap fun s => rst W s h) (y ++ t) = _
    have : ([h :: y] : List Wd).flatMap (fun s => rst W s h) = [y] := by simp [rst]
    rw [this, run_word]
theorem run_off : ∀ {y x : Wd}, ¬ x <+: y → ¬ y <+: x → runS W [y] x = []
  | [], x, _, h => absurd List.nil_prefix h
  | h :: y, [], h1, _ => absurd List.nil_prefix h1
  | h :: y, l :: x, h1, h2 => by
    show runS W (([h :: y] : List Wd).flatMap fun s => rst W s l) x = []
    by_cases e : h = l
    · subst e
      have : ([h :: y] : List Wd).flatMap (fun s => rst W s h) = [y] := by simp [rst]
      rw [this]
      exact run_off (fun h3 => h1 (List.cons_prefix_cons.2 ⟨rfl, h3⟩)) (fun h3 => h2 (List.cons_prefix_cons.2 ⟨rfl, h3⟩))
    · have : ([h :: y] : List Wd).flatMap (fun s => rst W s l) = [] := by simp [rst, e]
      rw [this, run_nil_set]
def Gn (W : List Wd) (n : Nat) (a b : Wd) : Prop := ∃ u : Wd, u.length = n ∧ rd W a u = true ∧ rd W b u = true
theorem Gn_zero {a b : Wd} : Gn W 0 a b := ⟨[], rfl, rfl, rfl⟩
theorem Gn_less {n m : Nat} {a b : Wd} (h : n ≤ m) (hg : Gn W m a b) : Gn W n a b := by
  obtain ⟨u, rfl, h1, h2⟩ := hg
  exact ⟨u.take n, by rw [List.length_take]; omega, rd_less' (List.take_prefix _ _) h1, rd_less' (List.take_prefix _ _) h2⟩
def aft (W : List Wd) (p : Wd × Wd) (l : UInt8) : List (Wd × Wd) := (rst W p.1 l).flatMap fun a => (rst W p.2 l).map fun b => (a, b)
theorem aft_mem {p r : Wd × Wd} {l : UInt8} : r ∈ aft W p l ↔ r.1 ∈ rst W p.1 l ∧ r.2 ∈ rst W p.2 l := by
  unfold aft
  rw [List.mem_flatMap]
  constructor
  · rintro ⟨a, ha, h⟩
    obtain ⟨b, hb, rfl⟩ := List.mem_map.1 h
    exact ⟨ha, hb⟩
  · rintro ⟨h1, h2⟩
    exact ⟨r.1, h1, List.mem_map.2 ⟨r.2, h2, rfl⟩⟩
theorem Gn_succ {n : Nat} {p : Wd × Wd} : Gn W (n + 1) p.1 p.2 ↔ ∃ l, ∃ r ∈ aft W p l, Gn W n r.1 r.2 := by
  constructor
  · rintro ⟨u, e, h1, h2⟩
    cases u with
    | nil => cases e
    | cons l u =>
      obtain ⟨a, ha, ha2⟩ := rd_step.1 h1
      obtain ⟨b, hb, hb2⟩ := rd_step.1 h2
      exact ⟨l, (a, b), aft_mem.2 ⟨ha, hb⟩, u, by simpa using e, ha2, hb2⟩
  · rintro ⟨l, r, hr, u, e, h1, h2⟩
    obtain ⟨ha, hb⟩ := aft_mem.1 hr
    exact ⟨l :: u, by simp [e], rd_step.2 ⟨_, ha, h1⟩, rd_step.2 ⟨_, hb, h2⟩⟩
end
def cmn : Wd → Wd → Nat
  | a :: x, b :: y => if a = b then cmn x y + 1 else 0
  | _, _ => 0
theorem cmn_le : ∀ {x y : Wd}, cmn x y ≤ x.length ∧ cmn x y ≤ y.length
  | [], _ => by simp [cmn]
  | a :: x, [] => by simp [cmn]
  | a :: x, b :: y => by
    have := cmn_le (x := x) (y := y)
    unfold cmn
    split <;> simp <;> omega
theorem cmn_take : ∀ {x y : Wd}, x.take (cmn x y) = y.take (cmn x y)
  | [], _ => by simp [cmn]
  | a :: x, [] => by simp [cmn]
  | a :: x, b :: y => by
    unfold cmn
    by_cases h : a = b
    · rw [if_pos h, List.take_succ_cons, List.take_succ_cons, h, cmn_take]
    · rw [if_neg h]; rfl
theorem cmn_ge : ∀ {u x y : Wd}, u <+: x → u <+: y → u.length ≤ cmn x y
  | [], _, _, _, _ => Nat.zero_le _
  | l :: u, [], _, h, _ => by simp at h
  | l :: u, a :: x, [], _, h => by simp at h
  | l :: u, a :: x, b :: y, h1, h2 => by
    obtain ⟨rfl, h3⟩ := List.cons_prefix_cons.1 h1
    obtain ⟨rfl, h4⟩ := List.cons_prefix_cons.1 h2
    show (l :: u).length ≤ (if l = l then cmn x y + 1 else 0)
    rw [if_pos rfl]
    have := cmn_ge h3 h4
    simp; omega
theorem cmn_pre {x y : Wd} (h : x <+: y) : cmn x y = x.length ∧ cmn y x = x.length := by
  have h1 := cmn_ge (List.prefix_refl x) h
  have h2 := cmn_ge h (List.prefix_refl x)
  have h3 := cmn_le (x := x) (y := y)
  have h4 := cmn_le (x := y) (y := x)
  omega
theorem pre_drop {x r : Wd} (h : x <+: r) : x ++ r.drop x.length = r := by
  obtain ⟨t, rfl⟩ := h; simp
section
variable {W : List Wd}
def Fr (W : List Wd) (n : Nat) (r : Wd) : Prop := Gn W n [] r
theorem rd_split {x r u : Wd} (h : x <+: r) : rd W r (x ++ u) = rd W (r.drop x.length) u := by
  conv => lhs; rw [← pre_drop h]
  exact rd_app
theorem fr_in {r x : Wd} (hx : x ∈ W) {n : Nat} (h : x <+: r) (hf : Fr W n (r.drop x.length)) : Fr W (x.length + n) r := by
  obtain ⟨u, rfl, h1, h2⟩ := hf
  refine ⟨x ++ u, by simp, rd_of_word hx (by rw [rd_app0]; exact h1), by rw [rd_split h]; exact h2⟩
theorem fr_over {r x : Wd} (hx : x ∈ W) {n : Nat} (h : r <+: x) (hf : Fr W n (x.drop r.length)) : Fr W (r.length + n) r := by
  obtain ⟨u, rfl, h1, h2⟩ := hf
  refine ⟨r ++ u, by simp, rd_of_word hx (by rw [rd_split h]; exact h2), by rw [rd_app0]; exact h1⟩
theorem fr_off {r x : Wd} (hx : x ∈ W) : Fr W (cmn r x) r := by
  have h1 := cmn_le (x := r) (y := x)
  refine ⟨r.take (cmn r x), by rw [List.length_take]; omega, ?_, rd_pre.2 (.inl (List.take_prefix _ _))⟩
  rw [cmn_take]
  exact rd_of_word hx (rd_pre.2 (.inl (List.take_prefix _ _)))
theorem fr_cases (hW : ∀ x ∈ W, x ≠ []) {r : Wd} {n : Nat} (hn : 0 < n) (hf : Fr W n r) : ∃ x ∈ W, n ≤ cmn r x ∨ (x <+: r ∧ ∃ k, n = x.length + k ∧ Fr W k (r.drop x.length)) ∨ (r <+: x ∧ ¬ x <+: r ∧ ∃ k, n = r.length + k ∧ Fr W k (x.drop r.length)) := by
  obtain ⟨u, rfl, h1, h2⟩ := hf
  have hu : u ≠ [] := by intro h; subst h; simp at hn
  obtain ⟨x, hx, h3⟩ := (rd_first hW hu).1 h1
  refine ⟨x, hx, ?_⟩
  rcases rd_pre.1 h2 with h4 | ⟨h4, h5⟩ <;> rcases rd_pre.1 h3 with h6 | ⟨h6, h7⟩
  · exact .inl (cmn_ge h4 h6)
  · have h8 : x <+: r := List.IsPrefix.trans h6 h4
    refine .inr (.inl ⟨h8, u.length - x.length, ?_, u.drop x.length, by simp, h7, ?_⟩)
    · have := h6.length_le; omega
    · rw [← rd_split h8, pre_drop h6]; exact h2
  · by_cases h9 : x <+: r
    · have h10 : x = r := h9.eq_of_length_le (Nat.le_trans h4.length_le h6.length_le)
      subst h10
      exact .inr (.inl ⟨h9, u.length - x.length, by have := h4.length_le; omega, u.drop x.length, by simp, h5, by rw [← rd_split h9, pre_drop h4]; exact h2⟩)
    · have h8 : r <+: x := List.IsPrefix.trans h4 h6
      refine .inr (.inr ⟨h8, h9, u.length - r.length, by have := h4.length_le; omega, u.drop r.length, by simp, h5, ?_⟩)
      rw [← rd_split h8, pre_drop h4]; exact h3
  · by_cases h9 : x <+: r
    · exact .inr (.inl ⟨h9, u.length - x.length, by have := h6.length_le; omega, u.drop x.length, by simp, h7, by rw [← rd_split h9, pre_drop h6]; exact h2⟩)
    · have h8 : r <+: x := by
        rcases List.prefix_or_prefix_of_prefix h4 h6 with h | h
        · exact h
        · exact absurd h h9
      refine .inr (.inr ⟨h8, h9, u.length - r.length, by have := h4.length_le; omega, u.drop r.length, by simp, h5, ?_⟩)
      rw [← rd_split h8, pre_drop h4]; exact h3
def plS (l : List Wd) (s : Wd) : Int := if s ∈ l then (l.idxOf s : Int) else -1
theorem plS_mem {l : List Wd} {s : Wd} (h : s ∈ l) : plS l s = (l.idxOf s : Int) ∧ l.idxOf s < l.length ∧ l.getD (l.idxOf s) [] = s := by
  have h1 := List.idxOf_lt_length_of_mem h
  refine ⟨if_pos h, h1, ?_⟩
  rw [List.getD_eq_getElem?_getD, List.getElem?_eq_getElem h1]
  exact List.getElem_idxOf h1
def mK (l : List Wd) (now : List Nat) (r u : Wd) : Nat := cmn r u + if u <+: r then now.getD (l.idxOf (r.drop u.length)) 0 else if r <+: u then now.getD (l.idxOf (u.drop r.length)) 0 else 0
def mxA (l : List Wd) (now : List Nat) (r : Wd) (ws : List Wd) : Nat := ws.foldl (fun a u => max a (mK l now r u)) 0
theorem fold_max {f : Wd → Nat} : ∀ {ws : List Wd} {a n : Nat}, n ≤ ws.foldl (fun a u => max a (f u)) a ↔ n ≤ a ∨ ∃ u ∈ ws, n ≤ f u
  | [], a, n => by simp
  | w :: ws, a, n => by
    show n ≤ ws.foldl (fun a u => max a (f u)) (max a (f w)) ↔ _
    rw [fold_max]
    constructor
    · rintro (h | ⟨u, hu, h⟩)
      · rcases Nat.le_total a (f w) with h2 | h2
        · exact .inr ⟨w, List.mem_cons_self, by omega⟩
        · exact .inl (by omega)
      · exact .inr ⟨u, List.mem_cons_of_mem _ hu, h⟩
    · rintro (h | ⟨u, hu, h⟩)
      · exact .inl (by omega)
      · rcases List.mem_cons.1 hu with rfl | hu
        · exact .inl (by omega)
        · exact .inr ⟨u, hu, h⟩
theorem mxA_ge {l : List Wd} {now : List Nat} {r : Wd} {ws : List Wd} {n : Nat} : n ≤ mxA l now r ws ↔ n = 0 ∨ ∃ u ∈ ws, n ≤ mK l now r u := by
  unfold mxA; rw [fold_max]; simp
def nxN (W l : List Wd) (now : List Nat) : List Nat := l.map fun r => mxA l now r W
def itN (W l : List Wd) : Nat → List Nat
  | 0 => List.replicate l.length 0
  | k + 1 => nxN W l (itN W l k)
theorem nxN_len {l : List Wd} {now : List Nat} : (nxN W l now).length = l.length := by simp [nxN]
theorem itN_len {l : List Wd} : ∀ k, (itN W l k).length = l.length
  | 0 => by simp [itN]
  | k + 1 => nxN_len
theorem nxN_at {l : List Wd} {now : List Nat} {i : Nat} (h : i < l.length) : (nxN W l now).getD i 0 = mxA l now (l.getD i []) W := by simp [nxN, List.getD, h]
structure Clsd (W l : List Wd) : Prop where
  ne : [] ∉ l
  step : ∀ r ∈ l, ∀ u ∈ W, (u <+: r → r.drop u.length ∈ l) ∧ (¬ u <+: r → r <+: u → u.drop r.length ∈ l)
section
variable {l : List Wd} (hl : Clsd W l)
include hl
theorem mK_step {r u : Wd} (hr : r ∈ l) (hu : u ∈ W) {now : List Nat} {P : Nat → Wd → Prop} (h0 : ∀ i, i < l.length → P (now.getD i 0) (l.getD i [])) :
    (u <+: r ∧ ∃ k, mK l now r u = u.length + k ∧ P k (r.drop u.length)) ∨ (¬ u <+: r ∧ r <+: u ∧ ∃ k, mK l now r u = r.length + k ∧ P k (u.drop r.length)) ∨ (¬ u <+: r ∧ ¬ r <+: u ∧ mK l now r u = cmn r u) := by
  unfold mK
  by_cases h1 : u <+: r
  · rw [if_pos h1, (cmn_pre h1).2]
    obtain ⟨_, h2, h3⟩ := plS_mem ((hl.step r hr u hu).1 h1)
    have := h0 _ h2
    rw [h3] at this
    exact .inl ⟨h1, _, rfl, this⟩
  · rw [if_neg h1]
    by_cases h4 : r <+: u
    · rw [if_pos h4, (cmn_pre h4).1]
      obtain ⟨_, h2, h3⟩ := plS_mem ((hl.step r hr u hu).2 h1 h4)
      have := h0 _ h2
      rw [h3] at this
      exact .inr (.inl ⟨h1, h4, _, rfl, this⟩)
    · rw [if_neg h4]
      exact .inr (.inr ⟨h1, h4, Nat.add_zero _⟩)
theorem it_sound : ∀ k i, i < l.length → Fr W ((itN W l k).getD i 0) (l.getD i [])
  | 0, i, hi => by
    have : (itN W l 0).getD i 0 = 0 := by simp [itN, List.getD, hi]
    rw [this]; exact Gn_zero
  | k + 1, i, hi => by
    show Fr W ((nxN W l (itN W l k)).getD i 0) _
    rw [nxN_at hi]
    have hr : l.getD i [] ∈ l := by rw [List.getD_eq_getElem?_getD, List.getElem?_eq_getElem hi]; exact List.getElem_mem hi
    generalize l.getD i [] = r at hr
    rcases mxA_ge.1 (Nat.le_refl (mxA l (itN W l k) r W)) with h | ⟨u, hu, h⟩
    · rw [h]; exact Gn_zero
    · refine Gn_less h ?_
      rcases mK_step hl hr hu (now := itN W l k) (P := fun n r => Fr W n r) (fun i hi => it_sound k i hi) with ⟨h1, n, e, hf⟩ | ⟨h1, h2, n, e, hf⟩ | ⟨h1, h2, e⟩
      · rw [e]; exact fr_in hu h1 hf
      · rw [e]; exact fr_over hu h2 hf
      · rw [e]; exact fr_off hu
theorem fix_max (hW : ∀ x ∈ W, x ≠ []) {now : List Nat} (hfix : nxN W l now = now) : ∀ n i, i < l.length → Fr W n (l.getD i []) → n ≤ now.getD i 0 := by
  intro n
  induction n using Nat.strongRecOn with
  | ind n ih =>
    intro i hi hf
    rcases Nat.eq_zero_or_pos n with h0 | h0
    · omega
    · have hr : l.getD i [] ∈ l := by rw [List.getD_eq_getElem?_getD, List.getElem?_eq_getElem hi]; exact List.getElem_mem hi
      rw [← hfix, nxN_at hi]
      generalize l.getD i [] = r at hr hf
      obtain ⟨x, hx, h⟩ := fr_cases hW h0 hf
      have hxp : 0 < x.length := List.length_pos_iff.2 (hW x hx)
      have hrp : 0 < r.length := List.length_pos_iff.2 (fun e => hl.ne (e ▸ hr))
      refine mxA_ge.2 (.inr ⟨x, hx, ?_⟩)
      rcases h with h | ⟨h1, k, e, h2⟩ | ⟨h1, h3, k, e, h2⟩
      · exact Nat.le_trans h (Nat.le_add_right _ _)
      · unfold mK
        rw [if_pos h1, (cmn_pre h1).2]
        obtain ⟨_, h4, h5⟩ := plS_mem ((hl.step r hr x hx).1 h1)
        have := ih k (by omega) _ h4 (by rw [h5]; exact h2)
        omega
      · unfold mK
        rw [if_neg h3, if_pos h1, (cmn_pre h1).1]
        obtain ⟨_, h4, h5⟩ := plS_mem ((hl.step r hr x hx).2 h3 h1)
        have := ih k (by omega) _ h4 (by rw [h5]; exact h2)
        omega
theorem it_stop (hW : ∀ x ∈ W, x ≠ []) (H : Wd → Nat) (hH : ∀ r ∈ l, Fr W (H r) r ∧ ∀ n, Fr W n r → n ≤ H r) : ∃ k, k ≤ l.length ∧ itN W l (k + 1) = itN W l k := by
  -- what is less than a number
  have key : ∀ k i, i < l.length → ((l.filter fun r => decide (H r < H (l.getD i []))).length < k → (itN W l k).getD i 0 = H (l.getD i [])) := by
    intro k
    induction k with
    | zero => intro i hi h; omega
    | succ k ih =>
      intro i hi h
      show (nxN W l (itN W l k)).getD i 0 = _
      rw [nxN_at hi]
      have hr : l.getD i [] ∈ l := by rw [List.getD_eq_getElem?_getD, List.getElem?_eq_getElem hi]; exact List.getElem_mem hi
      have hs := it_sound hl (k + 1) i hi
      have hs2 : Fr W (mxA l (itN W l k) (l.getD i []) W) (l.getD i []) := by
        have : (itN W l (k + 1)).getD i 0 = mxA l (itN W l k) (l.getD i []) W := nxN_at hi
        rwa [this] at hs
      refine Nat.le_antisymm ((hH _ hr).2 _ hs2) ?_
      rcases Nat.eq_zero_or_pos (H (l.getD i [])) with h0 | h0
      · omega
      generalize hre : l.getD i [] = r at hr h h0
      -- a step down
      have down : ∀ t ∈ l, H t < H r → (itN W l k).getD (l.idxOf t) 0 = H t := by
        intro t ht hlt
        obtain ⟨_, h4, h5⟩ := plS_mem ht
        have h6 := ih (l.idxOf t) h4
        rw [h5] at h6
        refine h6 (Nat.lt_of_lt_of_le ?_ (Nat.le_of_lt_succ h))
        have h7 : (l.filter fun s => decide (H s < H t)).Sublist (l.filter fun s => decide (H s < H r)) := by
          have : (l.filter fun s => decide (H s < H t)) = (l.filter fun s => decide (H s < H r)).filter fun s => decide (H s < H t) := by
            rw [List.filter_filter]
            refine List.filter_congr fun s _ => ?_
            by_cases h8 : H s < H t
            · have : H s < H r := by omega
              simp [h8, this]
            · simp [h8]
          rw [this]; exact List.filter_sublist
        refine Nat.lt_of_le_of_ne h7.length_le fun e => ?_
        have h8 := h7.eq_of_length e
        have h9 : t ∈ l.filter fun s => decide (H s < H r) := List.mem_filter.2 ⟨ht, decide_eq_true hlt⟩
        rw [← h8] at h9
        have := (List.mem_filter.1 h9).2
        simp at this
      obtain ⟨x, hx, h⟩ := fr_cases hW h0 (hH r hr).1
      have hxp : 0 < x.length := List.length_pos_iff.2 (hW x hx)
      have hrp : 0 < r.length := List.length_pos_iff.2 (fun e => hl.ne (e ▸ hr))
      refine mxA_ge.2 (.inr ⟨x, hx, ?_⟩)
      rcases h with h | ⟨h1, n, e, h2⟩ | ⟨h1, h3, n, e, h2⟩
      · exact Nat.le_trans h (Nat.le_add_right _ _)
      · unfold mK
        have ht := (hl.step r hr x hx).1 h1
        have h4 := (hH _ ht).2 _ h2
        have h5 := (hH r hr).2 _ (fr_in hx h1 (hH _ ht).1)
        rw [if_pos h1, (cmn_pre h1).2, down _ ht (by omega)]
        omega
      · unfold mK
        have ht := (hl.step r hr x hx).2 h3 h1
        have h4 := (hH _ ht).2 _ h2
        have h5 := (hH r hr).2 _ (fr_over hx h1 (hH _ ht).1)
        rw [if_neg h3, if_pos h1, (cmn_pre h1).1, down _ ht (by omega)]
        omega
  refine ⟨l.length, Nat.le_refl _, ?_⟩
  have hall : ∀ k, l.length ≤ k → ∀ i, i < l.length → (itN W l k).getD i 0 = H (l.getD i []) := by
    intro k hk i hi
    refine key k i hi (Nat.lt_of_lt_of_le ?_ hk)
    have hr : l.getD i [] ∈ l := by rw [List.getD_eq_getElem?_getD, List.getElem?_eq_getElem hi]; exact List.getElem_mem hi
    refine Nat.lt_of_le_of_ne (List.length_filter_le _ _) fun e => ?_
    have h8 := List.filter_sublist.eq_of_length e
    have h9 : l.getD i [] ∈ l.filter fun r => decide (H r < H (l.getD i [])) := by rw [h8]; exact hr
    have := (List.mem_filter.1 h9).2
    simp at this
  apply List.ext_getElem (by rw [itN_len, itN_len])
  intro i h1 h2
  rw [itN_len] at h1
  have a := hall (l.length + 1) (by omega) i h1
  have b := hall l.length (Nat.le_refl _) i h1
  rw [List.getD_eq_getElem?_getD, List.getElem?_eq_getElem (by rw [itN_len]; exact h1)] at a b
  simp only [Option.getD_some] at a b
  rw [a, b]
end
end
end Go.Proofs.Ytoafgeobhhlplaa
