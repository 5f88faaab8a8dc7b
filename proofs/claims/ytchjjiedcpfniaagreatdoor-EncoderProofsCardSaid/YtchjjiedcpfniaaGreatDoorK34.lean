/- Parts of the proof: UB. -/
import Derived.Test.YtchjjiedcpfniaaGreatDoorK16
import Derived.Test.YtchjjiedcpfniaaGreatDoorK33
namespace Go.Proofs.YtchjjiedcpfniaaGreatDoor
set_option linter.unusedSimpArgs false
set_option linter.unusedVariables false
open Go Go.Lift Go.Proofs
def selfP : Bool → AVal
  | true => .ptr (0, 0) 0 5
  | false => .nilp
@[simp] theorem selfP_true : selfP true = .ptr (0, 0) 0 5 := rfl
@[simp] theorem selfP_false : selfP false = .nilp := rfl
@[simp] theorem one_selfP {b : Bool} : (selfP b).one = true := by cases b <;> rfl
@[simp] theorem VLe_selfP {h : Heap} {σ : Lift.Id → Lift.Id} {fz : Nat → Bool} {vz : Lift.Id → Bool} {x : Nat} {b : Bool} : VLe h σ fz vz x (selfP b) (selfP b) = (b = true → VLe h σ fz vz x (.ptr (0, 0) 0 5) (.ptr (0, 0) 0 5)) := by
  cases b <;> simp [VLe]
theorem selfP_or {b : Bool} : selfP b = .nilp ∨ selfP b = .ptr (0, 0) 0 5 := by cases b <;> simp
@[simp] theorem selfF_eq {f : Nat → Nat → AVal} {off i j : Nat} : selfF f off i j = if j = off then .ptr (0, 0) 0 off else f i j := rfl
def wF (e : Enc) (st : Int) (b u : AVal) (j : Nat) : AVal := [encF e 0, encF e 1, encF e 2, encF e 3, .int .i64 st, b, u].getD j .any
section
variable {e : Enc} {st : Int} {b u : AVal}
@[simp] theorem wF0 : wF e st b u 0 = .int .i64 e.letters := rfl
@[simp] theorem wF1 : wF e st b u 1 = .int .i64 e.block := rfl
@[simp] theorem wF2 : wF e st b u 2 = .int .i64 e.inputs := rfl
@[simp] theorem wF3 : wF e st b u 3 = rowsC e.rows := rfl
@[simp] theorem wF4 : wF e st b u 4 = .int .i64 st := rfl
@[simp] theorem wF5 : wF e st b u 5 = b := rfl
@[simp] theorem wF6 : wF e st b u 6 = u := rfl
end
def posB (k : Nat) : Bool := decide (0 < k)
@[simp] theorem posB_zero : posB 0 = false := rfl
@[simp] theorem posB_succ {k : Nat} : posB (k + 1) = true := by simp [posB]
theorem posB_no {k : Nat} (h : posB k = false) : k = 0 := by simpa [posB] using h
theorem posB_yes {k : Nat} (h : posB k = true) : 0 < k := by simpa [posB] using h
def bufA (b : Bool) (p m : Nat) : AVal := match b with
  | true => .sl (p, 0) 0 m
  | false => .nils
@[simp] theorem bufA_true {p m : Nat} : bufA true p m = .sl (p, 0) 0 m := rfl
@[simp] theorem bufA_false {p m : Nat} : bufA false p m = .nils := rfl
@[simp] theorem one_bufA {b : Bool} {p m : Nat} : (bufA b p m).one = true := by cases b <;> rfl
@[simp] theorem VLe_fn1 {h : Heap} {σ : Lift.Id → Lift.Id} {fz : Nat → Bool} {vz : Lift.Id → Bool} {nx l : Nat} {f f' : Nat → AVal} : VLe h σ fz vz nx (.fn l 1 f) (.fn l 1 f') = VLe h σ fz vz nx (f 0) (f' 0) := by
  apply propext
  constructor
  · rintro ⟨_, _, h⟩
    exact h 0 (by omega)
  · intro h0
    refine ⟨rfl, rfl, fun j hj => ?_⟩
    obtain rfl : j = 0 := by omega
    exact h0
@[simp] theorem VLe_bnd {h : Heap} {σ : Lift.Id → Lift.Id} {fz : Nat → Bool} {vz : Lift.Id → Bool} {nx g g' : Nat} {v v' : AVal} : VLe h σ fz vz nx (.bnd g v) (.bnd g' v') = (g' = g ∧ VLe h σ fz vz nx v v') := rfl
def byF (w : List UInt8) (i _j : Nat) : AVal := .int .u8 (w.getD i 0).toNat
@[simp] theorem byF_eq {w : List UInt8} {i j : Nat} : byF w i j = .int .u8 (w.getD i 0).toNat := rfl
theorem app_bytes {w v : List UInt8} {i j : Nat} (h : i < w.length + v.length) : app (fun i _ => .int .u8 (w.getD i 0).toNat) w.length (fun i _ => .int .u8 (v.getD i 0).toNat) i j = .int .u8 ((w ++ v).getD i 0).toNat := by
  unfold app
  by_cases h1 : i < w.length
  · rw [if_pos h1]; simp only [List.getD_eq_getElem?_getD, List.getElem?_append_left h1]
  · rw [if_neg h1]; simp only [List.getD_eq_getElem?_getD, List.getElem?_append_right (Nat.le_of_not_lt h1)]
theorem wlies : liesAt Tryz.prog Tryz.prog.depth 83 1 5 81 1 = true := by kernel_rfl
theorem wcells : Tryz.prog.cellsOf 83 = 7 := by kernel_rfl
def selfQ : Bool → AVal
  | true => .ptr (0, 0) 0 0
  | false => .nilp
@[simp] theorem selfQ_true : selfQ true = .ptr (0, 0) 0 0 := rfl
@[simp] theorem selfQ_false : selfQ false = .nilp := rfl
@[simp] theorem one_selfQ {b : Bool} : (selfQ b).one = true := by cases b <;> rfl
@[simp] theorem VLe_selfQ {h : Heap} {σ : Lift.Id → Lift.Id} {fz : Nat → Bool} {vz : Lift.Id → Bool} {x : Nat} {b : Bool} : VLe h σ fz vz x (selfQ b) (selfQ b) = (b = true → VLe h σ fz vz x (.ptr (0, 0) 0 0) (.ptr (0, 0) 0 0)) := by
  cases b <;> simp [VLe]
theorem selfQ_or {b : Bool} : selfQ b = .nilp ∨ selfQ b = .ptr (0, 0) 0 0 := by cases b <;> simp
def bF (b u : AVal) (j : Nat) : AVal := [b, u].getD j .any
@[simp] theorem bF0 {b u : AVal} : bF b u 0 = b := rfl
@[simp] theorem bF1 {b u : AVal} : bF b u 1 = u := rfl
theorem blies : liesAt Tryz.prog Tryz.prog.depth 81 1 0 81 1 = true := by kernel_rfl
theorem bcells : Tryz.prog.cellsOf 81 = 2 := by kernel_rfl
set_option maxRecDepth 100000 in
theorem writeW_c (e : Enc) (st : Int) (b : Bool) (w v : List UInt8) (hw : w.length + v.length ≤ 1000000) : FC1 Tryz.prog 53 [.ptr (0, 0) 0 5, .str v] [(0, .typ 83 (.arr 1 7 (fun _ j => wF e (st) (selfP b) (.sl (1, 0) 0 (w).length) j))), (1, .typ 5 (.arr (w).length 1 (byF (w))))] 2 (.tup 2 (fun j => [.int .i64 v.length, .any].getD j .any)) [(0, .typ 83 (.arr 1 7 (fun _ j => wF e (st) (.ptr (0, 0) 0 5) (.sl (2, 0) 0 (w ++ v).length) j))), (2, .typ 5 (.arr (w ++ v).length 1 (byF (w ++ v))))] 3 := by
 refine FC_introS T_ok Tryz.func53 rfl (by simp [Tryz.ntmps53]) fun G hG hR => ?_
 simp only [Tryz.ntmps53, Tryz.results53] at hG ⊢
 simp only [argEnv, Nat.zero_add, Nat.reduceAdd]
 refine zs (zr ?_)
 refine zs (zL (zl 1 ?_))
 refine zf cal72 [0, 1] (copyCheckB (hin := [(0, .typ 83 (.arr 1 7 (fun _ j => wF e (st) (selfP b) (.sl (1, 0) 0 (w).length) j))), (1, .typ 5 (.arr (w).length 1 (byF (w))))]) (nin := 2) rfl rfl wcells (by omega) wlies selfP_or) (fun x hI hno => ?_)
 refine zN (zs (zr ?_))
 refine zs (zr ?_)
 refine zt ?_
 refine RetF_of (()) (id) (fun _ => false) (fun _ => false) trivial ?_ ?_ (by rfl) (by simp) (fun k hk => ⟨rfl, rfl⟩)
 · simp [hG, List.getD_cons_zero, List.getD_cons_succ, -List.getD_eq_getElem?_getD]
 simp [hG, List.getD_cons_zero, List.getD_cons_succ, -List.getD_eq_getElem?_getD]; exact fun i hi => app_bytes hi
set_option maxRecDepth 100000 in
theorem put_c (e : Enc) (hv : checkE e = 0) (st i : Int) (b : Bool) (w : List UInt8) (hst : 0 ≤ st ∧ st < (e.rows.length : Int)) (hi : badI e i = false) (hw : w.length ≤ 100000) : FC1 Tryz.prog 38 [.ptr (0, 0) 0 0, .int .i64 i] [(0, .typ 83 (.arr 1 7 (fun _ j => wF e (st) (selfP b) (.sl (1, 0) 0 (w).length) j))), (1, .typ 5 (.arr (w).length 1 (byF (w))))] 2 (.tup 0 (fun _ => .any)) [(0, .typ 83 (.arr 1 7 (fun _ j => wF e (((e.rows.getD st.toNat []).getD i.toNat dc).to) (.ptr (0, 0) 0 5) (.sl (2, 0) 0 (w ++ ((e.rows.getD st.toNat []).getD i.toNat dc).word).length) j))), (2, .typ 5 (.arr (w ++ ((e.rows.getD st.toNat []).getD i.toNat dc).word).length 1 (byF (w ++ ((e.rows.getD st.toNat []).getD i.toNat dc).word))))] 3 := by
 have hib := bad_no.1 hi
 have hr := row_eq hv (k := st.toNat) (by omega)
 have hin := (checkE_valid hv).1.inputs
 have hbl := (checkE_valid hv).1.block
 have hwl := cell_wlen hv (s := st.toNat) (i := i.toNat) (by omega) (by omega)
 unfold cellAt at hwl
 refine FC_introS T_ok Tryz.func38 rfl (by simp [Tryz.ntmps38]) fun G hG hR => ?_
 simp only [Tryz.ntmps38, Tryz.results38] at hG ⊢
 simp only [argEnv, Nat.zero_add, Nat.reduceAdd]
 refine zs ?_
 refine awpS_draw hR mixed [] ⟨[15], [], []⟩ fun mu0 => ?_
 refine za [0, 1, 2, 3, 4, 5, 6, 7, 8, 9, 10, 11, 12, 13] [] 2 [13, 12, 11, 10, 9, 8, 7, 6, 5, 4, 3, 2, 1, 0] ?_
 refine awpA_only (fuel := 1) (i := 14) (by decide +kernel) ?_
 refine zo ?_
 refine awpA_only (fuel := 0) (i := 15) (by decide +kernel) ?_
 refine zo ?_
 refine awpA_done (by decide +kernel) ?_
 refine zs ?_
 refine awpS_draw hR mixed [] ⟨[5], [], []⟩ fun mu0 => ?_
 refine za [0, 1, 2, 3, 4] [] 1 [4, 3, 2, 1, 0] ?_
 refine awpA_only (fuel := 0) (i := 5) (by decide +kernel) ?_
 refine awpO_fc cal53 [0, 1] (fun _ => false) (writeW_c e st b w ((e.rows.getD st.toNat []).getD i.toNat dc).word (by omega)) rfl (by decide) rfl rfl rfl (by simp) (.inl fun _ => rfl) ?_ ?_ ?_ fun K hK x hI hno => ?_
 · simp [hG, List.getD_cons_zero, List.getD_cons_succ, -List.getD_eq_getElem?_getD]
 · simp [hG, List.getD_cons_zero, List.getD_cons_succ, -List.getD_eq_getElem?_getD]
 · simp [hG, List.getD_cons_zero, List.getD_cons_succ, -List.getD_eq_getElem?_getD]
 simp [hG, List.getD_cons_zero, List.getD_cons_succ, -List.getD_eq_getElem?_getD]
 refine hK _ ?_
 clear K hK
 refine awpA_done (by decide +kernel) ?_
 refine zr ?_
 refine zn ?_
 refine RetF_of (()) (fun k => if k = 2 then 3 else k) (fun _ => false) (fun _ => false) trivial ?_ ?_ (by rfl) (by simp) (fun k hk => ⟨if_neg (by have h2 : k < 2 := hk; omega), rfl⟩)
 · simp [hG, List.getD_cons_zero, List.getD_cons_succ, -List.getD_eq_getElem?_getD]
 simp [hG, List.getD_cons_zero, List.getD_cons_succ, -List.getD_eq_getElem?_getD]
set_option maxRecDepth 100000 in
theorem badIn_c (e : Enc) (i : Int) : PC Tryz.prog 37 [.int .i64 i, .vptr 4 (encF e) 0] (.bool (badI e i)) := by
 refine zp Tryz.func37 fun G hG hR => ?_
 refine zs (zr ?_)
 refine zs (zr ?_)
 refine zt ?_
 refine RetOK_of ?_
 simp [hG, List.getD_cons_zero, List.getD_cons_succ, -List.getD_eq_getElem?_getD]
 simp [badI]
set_option maxRecDepth 100000 in
theorem encode_c (e : Enc) (s : Int) (l : List Int) (hl : l.length ≤ 100000) : PC Tryz.prog 12 [.agg 4 (encF e), .int .i64 s, ints l] (encodeR e s l) := by
 refine zp Tryz.func12 fun G hG hR => ?_
 refine zs (zr ?_)
 refine zs (zb (zs (zL (zl 1 ?_))))
 refine zc cal11 (check_c e) ?_
 refine zl 2 ?_
 refine zN (zy (fun hb13 => ?_) fun hb13 => ?_)
 · refine zs (zr ?_)
   refine zt (zbt ?_)
   refine RetOK_of ?_
   simp [hG, List.getD_cons_zero, List.getD_cons_succ, -List.getD_eq_getElem?_getD]
   rw [encodeR_err (n := 1) (by unfold encodeN; rw [if_pos (by simpa using hb13)]) (by omega)]; simp
 have hv : checkE e = 0 := (by simpa using hb13)
 have hbl := (checkE_valid hv).1.block
 have hl64 := rows_len hv
 refine zs (zr ?_)
 refine zy (fun hb17 => ?_) fun hb17 => ?_
 · refine zs (zr ?_)
   refine zt (zbt ?_)
   refine RetOK_of ?_
   simp [hG, List.getD_cons_zero, List.getD_cons_succ, -List.getD_eq_getElem?_getD]
   rw [encodeR_err (n := 25) (by unfold encodeN; rw [if_neg (by simpa using hv), if_pos (by omega)]) (by omega)]; simp
 have hs0 : 0 ≤ s ∧ s < (e.rows.length : Int) := (by omega)
 refine zs (zL (zl 2 ?_))
 refine awpL_callB (mem [0]) cal17 (by simp [flat]) rfl rfl (fun _ => rfl) (fun hg => containsG_c l (badI e) 37 1 (fun _ => .vptr 4 (encF e) 0) (by omega) cal37 (fun _ => by simp) fun i _ => badIn_c e i) (fun hg => ?_) (fun hg => ?_) fun K hK => ?_
 · simp [hG, List.getD_cons_zero, List.getD_cons_succ, -List.getD_eq_getElem?_getD]
 · simp [hG, List.getD_cons_zero, List.getD_cons_succ, -List.getD_eq_getElem?_getD]
 simp [hG, List.getD_cons_zero, List.getD_cons_succ, -List.getD_eq_getElem?_getD]
 refine hK _ ?_
 clear K hK
 refine zl 1 ?_
 refine zN (zy (fun hb27 => ?_) fun hb27 => ?_)
 · refine zs (zr ?_)
   refine zt (zbt ?_)
   refine RetOK_of ?_
   simp [hG, List.getD_cons_zero, List.getD_cons_succ, -List.getD_eq_getElem?_getD]
   rw [encodeR_err (n := 2) (by unfold encodeN; rw [if_neg (by simpa using hv), if_neg (by omega), if_pos (by simpa using hb27)]) (by omega)]; simp
 have hgd : l.any (badI e) = false := (by simpa using hb27)
 have hmul := mul_bd (a := (l.length : Int)) (b := e.block) (c := 100000) (by omega) hbl
 refine zs (zr ?_)
 refine zy (fun hb31 => ?_) fun hb31 => ?_
 · refine zs (zr ?_)
   refine zt (zbt ?_)
   refine RetOK_of ?_
   simp [hG, List.getD_cons_zero, List.getD_cons_succ, -List.getD_eq_getElem?_getD]
   rw [encodeR_err (n := 4) (by unfold encodeN; rw [if_neg (by simpa using hv), if_neg (by omega), if_neg (by rw [hgd]; exact Bool.false_ne_true), if_pos (by omega)]) (by omega)]; simp
 have hm : (l.length : Int) * e.block ≤ 65536 := (by omega)
 have hN : encodeN e s l = 0 := (by unfold encodeN; rw [if_neg (by simpa using hv), if_neg (by omega), if_neg (by rw [hgd]; exact Bool.false_ne_true), if_neg (by omega)])
 refine zk (zn (zbn (zs (zr ?_))))
 refine zs (zr ?_)
 refine zs (zs (zr ?_))
 refine zb ?_
 refine awpS_loop (α := Nat) (fun k => ⟨[(9, .ptr (0, 0) 0 0), (10, .bnd 38 (.ptr (0, 0) 0 0)), (44, ints l), (45, .int .i64 l.length), (46, .int .i64 k)], [(0, .typ 83 (.arr 1 7 (fun _ j => wF e ((runE e s (l.take (k))).2) (selfP (posB (k))) (bufA (posB (k)) 1 (runE e s (l.take (k))).1.length) j))), (1, .typ 5 (.arr ((runE e s (l.take (k))).1).length 1 (byF ((runE e s (l.take (k))).1))))], 2⟩) (fun k => k ≤ l.length) (fun k => l.length - k) (0) (Nat.zero_le _) ?_ ?_
 · exact zw (fun k => k + 1) (fun _ => false) (fun k => k == 1) (h := by simp [hG, runE, List.getD_cons_zero, List.getD_cons_succ, -List.getD_eq_getElem?_getD])
 rintro k hk
 refine zs (zr ?_)
 refine zs (zy (fun hb47 => ?_) fun hb47 => ?_)
 · have hkl : k < l.length := (by omega)
   have hrun := run_at hv hs0.1 hs0.2 hgd hm hk
   have hrt := runE_take (e := e) (s := s) hkl
   unfold cellAt at hrt
   refine zk (zs (zb (zs (zr ?_))))
   refine zL (zl 2 ?_)
   refine awpL_fcb cal38 [0, 1] (fun _ => false) (put_c e hv (runE e s (l.take k)).2 (l.getD k 0) (posB k) (runE e s (l.take k)).1 hrun.1 (good_at hgd hkl) (by omega)) rfl rfl rfl (by simp) (.inl fun _ => rfl) ?_ ?_ ?_ fun K hK x hI hno => ?_
   · simp [hG, List.getD_cons_zero, List.getD_cons_succ, -List.getD_eq_getElem?_getD]
   · simp [hG, List.getD_cons_zero, List.getD_cons_succ, -List.getD_eq_getElem?_getD]
   · simp [hG, List.getD_cons_zero, List.getD_cons_succ, -List.getD_eq_getElem?_getD]; cases hp : posB k with
       | true => exact .inl rfl
       | false => rw [posB_no hp]; exact .inr ⟨rfl, rfl⟩
   simp [hG, List.getD_cons_zero, List.getD_cons_succ, -List.getD_eq_getElem?_getD]
   refine hK _ ?_
   clear K hK
   refine zN (zn (zbn (zr ?_)))
   refine zn ?_
   refine round_end (k + 1) (by omega) (by omega) ?_
   exact zw (fun k => if k = 1 then 2 else k) (fun _ => false) (fun _ => false) (h := by rw [hrt]; simp [hG, List.getD_cons_zero, List.getD_cons_succ, -List.getD_eq_getElem?_getD])
 obtain rfl : k = l.length := (by omega)
 have hrun := run_at hv hs0.1 hs0.2 hgd hm hk
 refine zx (ztx (zbx (zs ?_)))
 by_cases hsp : posB l.length = true
 · have hwne := run_ne hbl.1 (posB_yes hsp) hrun.2.1
   refine awpS_draw hR mixed [] ⟨[3], [], []⟩ fun mu0 => ?_
   refine za [0, 1, 2, 4, 5, 6] [] 5 [6, 5, 4, 2, 1, 0] ?_ (h := by intro c K h; simp [hG, List.getD_cons_zero, List.getD_cons_succ, -List.getD_eq_getElem?_getD, hsp]; first | exact z1 c h | exact ⟨.mk c, h⟩)
   refine awpA_two (fuel := 4) (i := 3) (k := 7) (by decide +kernel) ?_ ?_
   · refine awpO_fc cal39 [0, 1] (fun _ => false) (stringB (S := 7) (off := 5) (hin := [(0, .typ 83 (.arr 1 7 (fun _ j => wF e ((runE e s (l.take l.length)).2) (selfP true) (.sl (1, 0) 0 ((runE e s (l.take l.length)).1).length) j))), (1, .typ 5 (.arr ((runE e s (l.take l.length)).1).length 1 (byF ((runE e s (l.take l.length)).1))))]) (nin := 2) (l := (runE e s (l.take l.length)).1) (id := (1, 0)) rfl (by omega) rfl rfl rfl (Nat.le_refl _) hwne (fun i hi => rfl) (by omega)) rfl (by decide) rfl rfl rfl (by simp) (.inl fun _ => rfl) ?_ ?_ ?_ fun K hK x hI hno => ?_
     · simp [hG, List.getD_cons_zero, List.getD_cons_succ, -List.getD_eq_getElem?_getD, hsp]
     · simp [hG, List.getD_cons_zero, List.getD_cons_succ, -List.getD_eq_getElem?_getD, hsp]
     · simp [hG, List.getD_cons_zero, List.getD_cons_succ, -List.getD_eq_getElem?_getD, hsp]
     simp [hG, List.getD_cons_zero, List.getD_cons_succ, -List.getD_eq_getElem?_getD, hsp]
     refine hK _ ?_
     clear K hK
     refine za [7, 8, 9, 10] [] 0 [10, 9, 8, 7, 3, 6, 5, 4, 2, 1, 0] ?_ (h := by intro c K h; simp [hG, List.getD_cons_zero, List.getD_cons_succ, -List.getD_eq_getElem?_getD, hsp]; first | exact z1 c h | exact ⟨.mk c, h⟩)
     refine awpA_done (by decide +kernel) ?_
     refine zt ?_
     refine RetOK_of ?_
     simp [hG, List.getD_cons_zero, List.getD_cons_succ, -List.getD_eq_getElem?_getD, hsp]
     rw [encodeR_ok hN]; simp
   refine zo ?_ (hw := by simp [hG, List.getD_cons_zero, List.getD_cons_succ, -List.getD_eq_getElem?_getD, hsp]; (try exact trivial)) (h := by intro c K h; simp [hG, List.getD_cons_zero, List.getD_cons_succ, -List.getD_eq_getElem?_getD, hsp]; first | exact z1 c h | exact ⟨.mk c, h⟩)
   refine awpA_only (fuel := 3) (i := 3) (by decide +kernel) ?_
   refine awpO_fc cal39 [0, 1] (fun _ => false) (stringB (S := 7) (off := 5) (hin := [(0, .typ 83 (.arr 1 7 (fun _ j => wF e ((runE e s (l.take l.length)).2) (selfP true) (.sl (1, 0) 0 ((runE e s (l.take l.length)).1).length) j))), (1, .typ 5 (.arr ((runE e s (l.take l.length)).1).length 1 (byF ((runE e s (l.take l.length)).1))))]) (nin := 2) (l := (runE e s (l.take l.length)).1) (id := (1, 0)) rfl (by omega) rfl rfl rfl (Nat.le_refl _) hwne (fun i hi => rfl) (by omega)) rfl (by decide) rfl rfl rfl (by simp) (.inl fun _ => rfl) ?_ ?_ ?_ fun K hK x hI hno => ?_
   · simp [hG, List.getD_cons_zero, List.getD_cons_succ, -List.getD_eq_getElem?_getD, hsp]
   · simp [hG, List.getD_cons_zero, List.getD_cons_succ, -List.getD_eq_getElem?_getD, hsp]
   · simp [hG, List.getD_cons_zero, List.getD_cons_succ, -List.getD_eq_getElem?_getD, hsp]
   simp [hG, List.getD_cons_zero, List.getD_cons_succ, -List.getD_eq_getElem?_getD, hsp]
   refine hK _ ?_
   clear K hK
   refine za [8, 9, 10] [] 0 [10, 9, 8, 3, 7, 6, 5, 4, 2, 1, 0] ?_ (h := by intro c K h; simp [hG, List.getD_cons_zero, List.getD_cons_succ, -List.getD_eq_getElem?_getD, hsp]; first | exact z1 c h | exact ⟨.mk c, h⟩)
   refine awpA_done (by decide +kernel) ?_
   refine zt ?_
   refine RetOK_of ?_
   simp [hG, List.getD_cons_zero, List.getD_cons_succ, -List.getD_eq_getElem?_getD, hsp]
   rw [encodeR_ok hN]; simp
 have hl0 := posB_no (by simpa using hsp)
 refine awpS_draw hR mixed [] ⟨[3], [], []⟩ fun mu0 => ?_
 refine za [0, 1, 2, 4, 5, 6] [] 5 [6, 5, 4, 2, 1, 0] ?_ (h := by intro c K h; simp [hG, List.getD_cons_zero, List.getD_cons_succ, -List.getD_eq_getElem?_getD, hsp]; first | exact z1 c h | exact ⟨.mk c, h⟩)
 refine awpA_two (fuel := 4) (i := 3) (k := 7) (by decide +kernel) ?_ ?_
 · refine awpO_fc cal39 [0] (fun _ => false) (stringNilB (S := 7) (off := 5) (hin := [(0, .typ 83 (.arr 1 7 (fun _ j => wF e (runE e s (l.take l.length)).2 (selfP false) .nils j)))]) (nin := 1) rfl (by omega) rfl) rfl (by decide) rfl rfl rfl (by simp) (.inl fun _ => rfl) ?_ ?_ ?_ fun K hK x hI hno => ?_
   · simp [hG, List.getD_cons_zero, List.getD_cons_succ, -List.getD_eq_getElem?_getD, hsp]
   · simp [hG, List.getD_cons_zero, List.getD_cons_succ, -List.getD_eq_getElem?_getD, hsp]
   · simp [hG, List.getD_cons_zero, List.getD_cons_succ, -List.getD_eq_getElem?_getD, hsp]
   simp [hG, List.getD_cons_zero, List.getD_cons_succ, -List.getD_eq_getElem?_getD, hsp]
   refine hK _ ?_
   clear K hK
   refine za [7, 8, 9, 10] [] 0 [10, 9, 8, 7, 3, 6, 5, 4, 2, 1, 0] ?_ (h := by intro c K h; simp [hG, List.getD_cons_zero, List.getD_cons_succ, -List.getD_eq_getElem?_getD, hsp]; first | exact z1 c h | exact ⟨.mk c, h⟩)
   refine awpA_done (by decide +kernel) ?_
   refine zt ?_
   refine RetOK_of ?_
   simp [hG, List.getD_cons_zero, List.getD_cons_succ, -List.getD_eq_getElem?_getD, hsp]
   obtain rfl := List.length_eq_zero_iff.1 hl0; rw [encodeR_ok hN]; simp [runE]
 refine zo ?_ (hw := by simp [hG, List.getD_cons_zero, List.getD_cons_succ, -List.getD_eq_getElem?_getD, hsp]; (try exact trivial)) (h := by intro c K h; simp [hG, List.getD_cons_zero, List.getD_cons_succ, -List.getD_eq_getElem?_getD, hsp]; first | exact z1 c h | exact ⟨.mk c, h⟩)
 refine awpA_only (fuel := 3) (i := 3) (by decide +kernel) ?_
 refine awpO_fc cal39 [0] (fun _ => false) (stringNilB (S := 7) (off := 5) (hin := [(0, .typ 83 (.arr 1 7 (fun _ j => wF e (runE e s (l.take l.length)).2 (selfP false) .nils j)))]) (nin := 1) rfl (by omega) rfl) rfl (by decide) rfl rfl rfl (by simp) (.inl fun _ => rfl) ?_ ?_ ?_ fun K hK x hI hno => ?_
 · simp [hG, List.getD_cons_zero, List.getD_cons_succ, -List.getD_eq_getElem?_getD, hsp]
 · simp [hG, List.getD_cons_zero, List.getD_cons_succ, -List.getD_eq_getElem?_getD, hsp]
 · simp [hG, List.getD_cons_zero, List.getD_cons_succ, -List.getD_eq_getElem?_getD, hsp]
 simp [hG, List.getD_cons_zero, List.getD_cons_succ, -List.getD_eq_getElem?_getD, hsp]
 refine hK _ ?_
 clear K hK
 refine za [8, 9, 10] [] 0 [10, 9, 8, 3, 7, 6, 5, 4, 2, 1, 0] ?_ (h := by intro c K h; simp [hG, List.getD_cons_zero, List.getD_cons_succ, -List.getD_eq_getElem?_getD, hsp]; first | exact z1 c h | exact ⟨.mk c, h⟩)
 refine awpA_done (by decide +kernel) ?_
 refine zt ?_
 refine RetOK_of ?_
 simp [hG, List.getD_cons_zero, List.getD_cons_succ, -List.getD_eq_getElem?_getD, hsp]
 obtain rfl := List.length_eq_zero_iff.1 hl0; rw [encodeR_ok hN]; simp [runE]
set_option maxRecDepth 100000 in
theorem writeK_c (b : Bool) (w v : List UInt8) (hw : w.length + v.length ≤ 1000000) : FC1 Tryz.prog 53 [.ptr (0, 0) 0 0, .str v] [(0, .typ 81 (.arr 1 2 (fun _ j => bF (selfQ b) (.sl (1, 0) 0 (w).length) j))), (1, .typ 5 (.arr (w).length 1 (byF (w))))] 2 (.tup 2 (fun j => [.int .i64 v.length, .any].getD j .any)) [(0, .typ 81 (.arr 1 2 (fun _ j => bF (.ptr (0, 0) 0 0) (.sl (2, 0) 0 (w ++ v).length) j))), (2, .typ 5 (.arr (w ++ v).length 1 (byF (w ++ v))))] 3 := by
 refine FC_introS T_ok Tryz.func53 rfl (by simp [Tryz.ntmps53]) fun G hG hR => ?_
 simp only [Tryz.ntmps53, Tryz.results53] at hG ⊢
 simp only [argEnv, Nat.zero_add, Nat.reduceAdd]
 refine zs (zr ?_)
 refine zs (zL (zl 1 ?_))
 refine zf cal72 [0, 1] (copyCheckB (hin := [(0, .typ 81 (.arr 1 2 (fun _ j => bF (selfQ b) (.sl (1, 0) 0 (w).length) j))), (1, .typ 5 (.arr (w).length 1 (byF (w))))]) (nin := 2) rfl rfl bcells (by omega) blies selfQ_or) (fun x hI hno => ?_)
 refine zN (zs (zr ?_))
 refine zs (zr ?_)
 refine zt ?_
 refine RetF_of (()) (id) (fun _ => false) (fun _ => false) trivial ?_ ?_ (by rfl) (by simp) (fun k hk => ⟨rfl, rfl⟩)
 · simp [hG, List.getD_cons_zero, List.getD_cons_succ, -List.getD_eq_getElem?_getD]
 simp [hG, List.getD_cons_zero, List.getD_cons_succ, -List.getD_eq_getElem?_getD]; exact fun i hi => app_bytes hi
end Go.Proofs.YtchjjiedcpfniaaGreatDoor
