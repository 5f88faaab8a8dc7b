/- Parts of the proof: DP DQ VS. -/
import Derived.Test.YtoafgeobhhlplaaZF11
import Derived.Test.YtoafgeobhhlplaaZF22
import Derived.Test.YtoafgeobhhlplaaZF41
import Derived.Test.YtoafgeobhhlplaaZF43
namespace Go.Proofs.Ytoafgeobhhlplaa
set_option linter.unusedSimpArgs false
set_option linter.unusedVariables false
open Go Go.Lift
theorem tkS_getD {α : Type} {d : α} {L : List α} {j : Nat} (h : j < L.length) : L.take j ++ [L.getD j d] = L.take (j + 1) := by
  rw [List.getD_eq_getElem?_getD, List.getElem?_eq_getElem h, List.take_succ_eq_append_getElem h]; rfl
section
variable {W : List Wd}
end
end Go.Proofs.Ytoafgeobhhlplaa
namespace Go.Proofs.Ytoafgeobhhlplaa
set_option linter.unusedSimpArgs false
set_option linter.unusedVariables false
open Go Go.Lift
noncomputable def gnF (W : List Wd) (k : Nat) (L : List Rc) : List Rc := L.filter fun y => @decide (Gn W k y.1 y.2) (Classical.propDecidable _)
section
variable {W : List Wd} {q i n k : Nat} {K : List Rc}
theorem gnF_mem {L : List Rc} {y : Rc} : y ∈ gnF W k L ↔ y ∈ L ∧ Gn W k y.1 y.2 := by
  unfold gnF
  rw [List.mem_filter]
  simp
theorem gnF_nil : gnF W k [] = [] := rfl
theorem gnF_app {A B : List Rc} : gnF W k (A ++ B) = gnF W k A ++ gnF W k B := List.filter_append ..
theorem gnF_yes {L : List Rc} {j : Nat} (hj : j < L.length) (h : Gn W k (L.getD j dRc).1 (L.getD j dRc).2) : gnF W k (L.take (j + 1)) = gnF W k (L.take j) ++ [L.getD j dRc] := by
  rw [← tkS_getD (d := dRc) hj, gnF_app]
  congr 1
  unfold gnF
  rw [List.filter_cons_of_pos (by simpa using h)]; rfl
theorem gnF_not {L : List Rc} {j : Nat} (hj : j < L.length) (h : ¬ Gn W k (L.getD j dRc).1 (L.getD j dRc).2) : gnF W k (L.take (j + 1)) = gnF W k (L.take j) := by
  rw [← tkS_getD (d := dRc) hj, gnF_app]
  unfold gnF
  rw [List.filter_cons_of_neg (by simpa using h)]; exact List.append_nil _
structure FirJ (W : List Wd) (q i n : Nat) (K : List Rc) (u : Wd) (N : List Rc) : Prop where
  le : u.length ≤ n
  nd : N.Nodup
  sub : ∀ p ∈ N, p ∈ K
  set : ∀ p, p ∈ N ↔ NowR W i (n - u.length) u p
  gr : grW W q i (n - u.length) u = grW W q i n []
  ex : exO W i n [] ↔ exO W i (n - u.length) u
  pos : 0 < u.length → N ≠ []
theorem fir_ini {L N : List Rc} (hL : AtL W i L) (hN : N.Nodup) (hs : ∀ p ∈ N, p ∈ K) (h : ∀ p, p ∈ N ↔ p ∈ L ∧ Gn W n p.1 p.2) : FirJ W q i n K [] N where
  le := Nat.zero_le _
  nd := hN
  sub := hs
  set := fun p => by
    rw [h, hL.mem]
    exact now_zero.symm
  gr := rfl
  ex := Iff.rfl
  pos := fun h => absurd h (Nat.lt_irrefl 0)
theorem done_mem {N : List Rc} {done : List Nat} (hz : done.Perm (List.range N.length)) {f : Rc → List Rc} {y : Rc} : y ∈ (done.flatMap fun d => f (N.getD d dRc)) ↔ ∃ p ∈ N, y ∈ f p := by
  rw [List.mem_flatMap]
  constructor
  · rintro ⟨d, hd, h⟩
    have := List.mem_range.1 (hz.mem_iff.1 hd)
    refine ⟨_, ?_, h⟩
    rw [List.getD_eq_getElem?_getD, List.getElem?_eq_getElem this]
    exact List.getElem_mem this
  · rintro ⟨p, hp, h⟩
    obtain ⟨d, hd, e⟩ := List.mem_iff_getElem.1 hp
    refine ⟨d, hz.mem_iff.2 (List.mem_range.2 hd), ?_⟩
    rw [List.getD_eq_getElem?_getD, List.getElem?_eq_getElem hd]
    simpa [e] using h
noncomputable def fiN (W : List Wd) (k : Nat) (N : List Rc) (done : List Nat) (l : UInt8) : List Rc := addL [] (gnF W k (done.flatMap fun d => aft W (N.getD d dRc) l))
theorem fiN_nil {N : List Rc} {l : UInt8} : fiN W k N [] l = [] := rfl
theorem fiN_row {N : List Rc} {done : List Nat} {d : Nat} {l : UInt8} : fiN W k N (done ++ [d]) l = addL (fiN W k N done l) (gnF W k (aft W (N.getD d dRc) l)) := by
  unfold fiN
  rw [List.flatMap_append, gnF_app, addL_app]
  simp
theorem fiN_nd {N : List Rc} {done : List Nat} {l : UInt8} : (fiN W k N done l).Nodup := addL_nd List.nodup_nil
section
variable {u : Wd} {N : List Rc} (hF : FirJ W q i n K u N) (hk : n - u.length = k + 1)
include hF hk
theorem fir_set {done : List Nat} (hz : done.Perm (List.range N.length)) {l : UInt8} {y : Rc} : y ∈ fiN W k N done l ↔ NowR W i k (u ++ [l]) y := by
  unfold fiN
  rw [addL_mem, gnF_mem, done_mem hz (f := fun p => aft W p l), now_succ]
  constructor
  · rintro (h | ⟨⟨p, hp, h1⟩, h2⟩)
    · cases h
    · exact ⟨⟨p, by have := (hF.set p).1 hp; rwa [hk] at this, h1⟩, h2⟩
  · rintro ⟨⟨p, hp, h1⟩, h2⟩
    exact .inr ⟨⟨p, (hF.set p).2 (by rw [hk]; exact hp), h1⟩, h2⟩
theorem fir_miss {done : List Nat} (hz : done.Perm (List.range N.length)) {l : UInt8} (h : fiN W k N done l = []) : ¬ exO W i k (u ++ [l]) := by
  intro h2
  obtain ⟨p, hp⟩ := now_ex.1 h2
  have := (fir_set hF hk hz).2 hp
  rw [h] at this; cases this
theorem fir_next (hW : ∀ w ∈ W, LtOK q w) (hK : Clr W q K) {done : List Nat} (hz : done.Perm (List.range N.length)) {j : Nat} (hj : j < q) (hno : ∀ j', j' < j → ¬ exO W i k (u ++ [letters.getD j' 0])) (hne : fiN W k N done (letters.getD j 0) ≠ []) : FirJ W q i n K (u ++ [letters.getD j 0]) (fiN W k N done (letters.getD j 0)) := by
  have hl : n - (u ++ [letters.getD j 0]).length = k := by rw [List.length_append, List.length_singleton]; omega
  have he : exO W i k (u ++ [letters.getD j 0]) := by
    obtain ⟨y, hy⟩ := List.exists_mem_of_ne_nil _ hne
    exact now_ex.2 ⟨y, (fir_set hF hk hz).1 hy⟩
  refine ⟨by rw [List.length_append, List.length_singleton]; omega, fiN_nd, ?_, ?_, ?_, ?_, fun _ => hne⟩
  · intro y hy
    unfold fiN at hy
    rw [addL_mem, gnF_mem, done_mem hz (f := fun p => aft W p (letters.getD j 0))] at hy
    rcases hy with h | ⟨⟨p, hp, h1⟩, _⟩
    · cases h
    · exact hK.suc p (hF.sub p hp) y (suc_mem.2 ⟨j, hj, h1⟩)
  · intro y; rw [hl]; exact fir_set hF hk hz
  · rw [hl, ← gr_step hj he hno, ← hk]; exact hF.gr
  · rw [hF.ex, hl, hk, exO_succ hW]
    exact ⟨fun _ => he, fun _ => ⟨j, hj, he⟩⟩
theorem fir_none (hW : ∀ w ∈ W, LtOK q w) (hno : ∀ j, j < q → ¬ exO W i k (u ++ [letters.getD j 0])) : fstW W q i n = none := by
  unfold fstW
  rw [if_neg]
  rw [hF.ex, hk, exO_succ hW]
  rintro ⟨j, hj, h⟩
  exact hno j hj h
end
theorem fir_yes {u : Wd} {N : List Rc} (hF : FirJ W q i n K u N) (h : u.length = n) (hne : N ≠ []) : fstW W q i n = some u := by
  have hz : n - u.length = 0 := by omega
  obtain ⟨y, hy⟩ := List.exists_mem_of_ne_nil _ hne
  have h1 : exO W i n [] := by rw [hF.ex, now_ex]; exact ⟨y, (hF.set y).1 hy⟩
  unfold fstW
  rw [if_pos h1, ← hF.gr, hz]; rfl
theorem fir_not {u : Wd} {N : List Rc} (hF : FirJ W q i n K u N) (h : N = []) : u = [] ∧ fstW W q i n = none := by
  have hu : u = [] := by
    rcases Nat.eq_zero_or_pos u.length with h1 | h1
    · exact List.length_eq_zero_iff.1 h1
    · exact absurd h (hF.pos h1)
  refine ⟨hu, ?_⟩
  unfold fstW
  rw [if_neg]
  rw [hF.ex, now_ex]
  rintro ⟨p, hp⟩
  have := (hF.set p).2 hp
  rw [h] at this; cases this
theorem fir_fin {u : Wd} {N : List Rc} (hF : FirJ W q i n K u N) (h : u.length = n) : (fstW W q i n).getD [] = u ∧ (fstW W q i n).isSome = decide (0 < N.length) := by
  by_cases hN : N = []
  · obtain ⟨h1, h2⟩ := fir_not hF hN
    rw [h2, h1, hN]; exact ⟨rfl, rfl⟩
  · rw [fir_yes hF h hN]
    exact ⟨rfl, (decide_eq_true (List.length_pos_iff.2 hN)).symm⟩
theorem aft_in {x y : Rc} (hK : Clr W q K) (hx : x ∈ K) {j : Nat} (hj : j < q) (hy : y ∈ aft W x (letters.getD j 0)) : y ∈ K := hK.suc x hx y (suc_mem.2 ⟨j, hj, hy⟩)
end
end Go.Proofs.Ytoafgeobhhlplaa
namespace Go.Proofs.Ytoafgeobhhlplaa
set_option linter.unusedSimpArgs false
set_option linter.unusedVariables false
open Go Go.Lift Go.Proofs
def posB (k : Nat) : Bool := decide (0 < k)
@[simp] theorem posB_zero : posB 0 = false := rfl
@[simp] theorem posB_succ {k : Nat} : posB (k + 1) = true := by simp [posB]
theorem posB_no {k : Nat} (h : posB k = false) : k = 0 := by simpa [posB] using h
theorem posB_yes {k : Nat} (h : posB k = true) : 0 < k := by simpa [posB] using h
def bufA (b : Bool) (p m : Nat) : AVal := match b with
  | true => .sl (p, 0) 0 m
  | false => .nils
@[simp] theorem bufA_true {p m : Nat} : bufA true p m = .sl (p, 0) 0 m := rfl
@[simp] theorem bufA_false {p m : Nat} : bufA false p m = .nils := rfl
@[simp] theorem one_bufA {b : Bool} {p m : Nat} : (bufA b p m).one = true := by cases b <;> rfl
def byF (w : List UInt8) (i _j : Nat) : AVal := .int .u8 (w.getD i 0).toNat
@[simp] theorem byF_eq {w : List UInt8} {i j : Nat} : byF w i j = .int .u8 (w.getD i 0).toNat := rfl
theorem app_bytes {w v : List UInt8} {i j : Nat} (h : i < w.length + v.length) : app (fun i _ => .int .u8 (w.getD i 0).toNat) w.length (fun i _ => .int .u8 (v.getD i 0).toNat) i j = .int .u8 ((w ++ v).getD i 0).toNat := by
  unfold app
  by_cases h1 : i < w.length
  · rw [if_pos h1]; simp only [List.getD_eq_getElem?_getD, List.getElem?_append_left h1]
  · rw [if_neg h1]; simp only [List.getD_eq_getElem?_getD, List.getElem?_append_right (Nat.le_of_not_lt h1)]
def selfQ : Bool → AVal
  | true => .ptr (0, 0) 0 0
  | false => .nilp
@[simp] theorem selfQ_true : selfQ true = .ptr (0, 0) 0 0 := rfl
@[simp] theorem selfQ_false : selfQ false = .nilp := rfl
@[simp] theorem one_selfQ {b : Bool} : (selfQ b).one = true := by cases b <;> rfl
@[simp] theorem VLe_selfQ {h : Heap} {σ : Lift.Id → Lift.Id} {fz : Nat → Bool} {vz : Lift.Id → Bool} {x : Nat} {b : Bool} : VLe h σ fz vz x (selfQ b) (selfQ b) = (b = true → VLe h σ fz vz x (.ptr (0, 0) 0 0) (.ptr (0, 0) 0 0)) := by
  cases b <;> simp [VLe]
theorem selfQ_or {b : Bool} : selfQ b = .nilp ∨ selfQ b = .ptr (0, 0) 0 0 := by cases b <;> simp
def bF (b u : AVal) (j : Nat) : AVal := [b, u].getD j .any
@[simp] theorem bF0 {b u : AVal} : bF b u 0 = b := rfl
@[simp] theorem bF1 {b u : AVal} : bF b u 1 = u := rfl
theorem blies : liesAt Try.prog Try.prog.depth 87 1 0 87 1 = true := by kernel_rfl
theorem bcells : Try.prog.cellsOf 87 = 2 := by kernel_rfl
@[simp] theorem selfF_eq {f : Nat → Nat → AVal} {off i j : Nat} : selfF f off i j = if j = off then .ptr (0, 0) 0 off else f i j := rfl
theorem app_byte {w : List UInt8} {v : UInt8} {f : Nat → Nat → AVal} {i : Nat} (hf : f 0 0 = .int .u8 v.toNat) (h : i < w.length + 1) : app (fun i _ => .int .u8 (w.getD i 0).toNat) w.length f i 0 = .int .u8 ((w ++ [v]).getD i 0).toNat := by
  unfold app
  by_cases h1 : i < w.length
  · rw [if_pos h1]; simp only [List.getD_eq_getElem?_getD, List.getElem?_append_left h1]
  · obtain rfl : i = w.length := by omega
    rw [if_neg h1, Nat.sub_self, hf]
    simp
set_option maxRecDepth 100000 in
theorem writeByte_c (b : Bool) (w : List UInt8) (v : UInt8) (hw : w.length ≤ 1000000) : FC1 Try.prog 75 [.ptr (0, 0) 0 0, .int .u8 v.toNat] [(0, .typ 87 (.arr 1 2 (fun _ j => bF (selfQ b) (.sl (1, 0) 0 w.length) j))), (1, .typ 5 (.arr (w).length 1 (byF (w))))] 2 (.any) [(0, .typ 87 (.arr 1 2 (fun _ j => bF (.ptr (0, 0) 0 0) (.sl (2, 0) 0 (w ++ [v]).length) j))), (2, .typ 5 (.arr ((w ++ [v])).length 1 (byF ((w ++ [v])))))] 3 := by
 refine FC_introS T_ok Try.func75 rfl (by simp [Try.ntmps75]) fun G hG hR => ?_
 simp only [Try.ntmps75, Try.results75] at hG ⊢
 simp only [argEnv, Nat.zero_add, Nat.reduceAdd]
 refine zs (zrP ?_)
 refine zs (zL (zlP 1 ?_))
 refine zfP cal77 [0, 1] (copyCheckB (hin := [(0, .typ 87 (.arr 1 2 (fun _ j => bF (selfQ b) (.sl (1, 0) 0 w.length) j))), (1, .typ 5 (.arr (w).length 1 (byF (w))))]) (nin := 2) rfl rfl bcells (by omega) blies selfQ_or) (fun x hI hno => ?_)
 refine zN (zs (zrP ?_))
 refine zs (zrP ?_)
 refine zt ?_
 refine RetF_of (()) (fun k => if k = 2 then 3 else k) (fun _ => false) (fun _ => false) trivial ?_ ?_ (by rfl) (by simp) (fun k hk => ⟨if_neg (by omega), rfl⟩)
 · simp [hG, List.getD_cons_zero, List.getD_cons_succ, -List.getD_eq_getElem?_getD, pureOp]
 simp [hG, pureOp, List.getD_cons_zero, List.getD_cons_succ, -List.getD_eq_getElem?_getD]; exact fun i hi => app_byte (by simp) hi
set_option maxRecDepth 100000 in
theorem lessD_c (a b : List UInt8) : PC Try.prog 53 [.str a, .str b] (.bool (decide (lessW a b))) := by
 refine zp Try.func53 fun G hG hR => ?_
 refine zs (zr ?_)
 refine zs (zr ?_)
 refine zt ?_
 refine RetOK_of ?_
 simp [hG, List.getD_cons_zero, List.getD_cons_succ, -List.getD_eq_getElem?_getD]
 by_cases h : a.length = b.length; (rw [lessW_lex h, h]; simp); (rw [lessW_len h]; simp; omega)
end Go.Proofs.Ytoafgeobhhlplaa
