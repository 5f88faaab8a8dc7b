/- Parts of the proof: BL UA. -/
import Derived.Test.YtchjjiedcpfniaaGreatDoorProg
import Derived.KernelRfl
import Derived.Test.YtchjjiedcpfniaaGreatDoorK13
import Derived.Test.YtchjjiedcpfniaaGreatDoorK16
import Derived.Test.YtchjjiedcpfniaaGreatDoorK31
import Derived.Test.YtchjjiedcpfniaaGreatDoorK32
namespace Go.Proofs.YtchjjiedcpfniaaGreatDoor
set_option linter.unusedVariables false
open Go Go.Proofs Go.Lift
def bldRen : Go.Shelf.Ren := ⟨fun | 169 => 39 | 240 => 72 | 276 => 106 | n => n, fun | 0 => 0 | 3 => 3 | 4 => 4 | 5 => 5 | 9 => 9 | 20 => 20 | 37 => 39 | 70 => 79 | 72 => 81 | 127 => 123 | 164 => 157 | n => n, fun n => n⟩
theorem bld240 : Go.Proofs.Lays.n240 Tryz.prog bldRen := {
  mixed := by kernel_rfl,
  f240 := Tryz.func72.trans (congrArg some (by kernel_rfl)),
  f276 := Tryz.func106.trans (congrArg some (by kernel_rfl)),
  t0 := Tryz.underlying0,
  a0 := Tryz.isAgg0,
  z0 := Tryz.sizeOf0,
  v0 := Tryz.zeroValue0,
  t4 := Tryz.underlying4,
  a4 := Tryz.isAgg4,
  z4 := Tryz.sizeOf4,
  v4 := Tryz.zeroValue4,
  t9 := Tryz.underlying9,
  a9 := Tryz.isAgg9,
  z9 := Tryz.sizeOf9,
  v9 := Tryz.zeroValue9,
  t20 := Tryz.underlying20,
  a20 := Tryz.isAgg20,
  z20 := Tryz.sizeOf20,
  v20 := Tryz.zeroValue20,
  t70 := Tryz.underlying79,
  a70 := Tryz.isAgg79,
  z70 := Tryz.sizeOf79,
  v70 := Tryz.zeroValue79,
  t72 := Tryz.underlying81,
  a72 := Tryz.isAgg81,
  z72 := Tryz.sizeOf81,
  v72 := Tryz.zeroValue81,
  t164 := Tryz.underlying157,
  a164 := Tryz.isAgg157,
  z164 := Tryz.sizeOf157,
  v164 := Tryz.zeroValue157 }
theorem bld169 : Go.Proofs.Lays.n169 Tryz.prog bldRen := {
  mixed := by kernel_rfl,
  f169 := Tryz.func39.trans (congrArg some (by kernel_rfl)),
  t0 := Tryz.underlying0,
  a0 := Tryz.isAgg0,
  z0 := Tryz.sizeOf0,
  v0 := Tryz.zeroValue0,
  t3 := Tryz.underlying3,
  a3 := Tryz.isAgg3,
  z3 := Tryz.sizeOf3,
  v3 := Tryz.zeroValue3,
  t9 := Tryz.underlying9,
  a9 := Tryz.isAgg9,
  z9 := Tryz.sizeOf9,
  v9 := Tryz.zeroValue9,
  t37 := Tryz.underlying39,
  a37 := Tryz.isAgg39,
  z37 := Tryz.sizeOf39,
  v37 := Tryz.zeroValue39,
  t70 := Tryz.underlying79,
  a70 := Tryz.isAgg79,
  z70 := Tryz.sizeOf79,
  v70 := Tryz.zeroValue79,
  t72 := Tryz.underlying81,
  a72 := Tryz.isAgg81,
  z72 := Tryz.sizeOf81,
  v72 := Tryz.zeroValue81,
  t127 := Tryz.underlying123,
  a127 := Tryz.isAgg123,
  z127 := Tryz.sizeOf123,
  v127 := Tryz.zeroValue123 }
theorem bldX : Builder.Extra Tryz.prog bldRen := {
  sizeBuilder := by kernel_rfl,
  liesBuilder := by kernel_rfl,
  t5 := Tryz.underlying5,
  a5 := Tryz.isAgg5,
  z5 := Tryz.sizeOf5,
  v5 := Tryz.zeroValue5,
  infoByte := by kernel_rfl,
  cellsByte := by kernel_rfl,
  sizeByte := by kernel_rfl,
  neB5 := by decide }
theorem copyCheckB {hin : Heap} {nin : Nat} {T : TypeId} {S off : Nat} {f : Nat → Nat → AVal} (hl : lkH hin (0, 0) = some (.arr 1 S f)) (ht : tyH hin (0, 0) = some T)
    (hS : Tryz.prog.cellsOf T = S) (hoff : off < S) (hlies : liesAt Tryz.prog Tryz.prog.depth T 1 off 81 1 = true) (hf : f 0 off = .nilp ∨ f 0 off = .ptr (0, 0) 0 off) :
    FC Tryz.prog 72 [.ptr (0, 0) 0 off] hin nin (fun _ : Unit => True) (fun _ => .tup 0 (fun _ => .any)) (fun _ => setH hin (0, 0) (.arr 1 S (selfF f off))) (fun _ => nin) :=
  copyCheck_c bld240 bldX.toX72 hl ht hS hoff hlies hf
theorem stringB {hin : Heap} {nin : Nat} {S off N : Nat} {f g : Nat → Nat → AVal} {id : Lift.Id} {l : List UInt8} (hl : lkH hin (0, 0) = some (.arr 1 S f)) (hoff : off + 1 < S)
    (hf : f 0 (off + 1) = .sl id 0 l.length) (hl1 : lkH hin id = some (.arr N 1 g)) (ht1 : tyH hin id = some 5) (hN : l.length ≤ N) (h0 : l ≠ []) (hg : ∀ i, i < l.length → g i 0 = .int .u8 (l.getD i 0).toNat) (h63 : l.length ≤ 9223372036854775807) :
    FC Tryz.prog 39 [.ptr (0, 0) 0 off] hin nin (fun _ : Unit => True) (fun _ => .str l) (fun _ => delH hin id) (fun _ => nin) :=
  string_c bld169 bldX hl hoff hf hl1 ht1 hN h0 hg h63
theorem stringNilB {hin : Heap} {nin : Nat} {S off : Nat} {f : Nat → Nat → AVal} (hl : lkH hin (0, 0) = some (.arr 1 S f)) (hoff : off + 1 < S) (hf : f 0 (off + 1) = .nils) :
    FC Tryz.prog 39 [.ptr (0, 0) 0 off] hin nin (fun _ : Unit => True) (fun _ => .str []) (fun _ => hin) (fun _ => nin) :=
  string_nil_c bld169 bldX hl hoff hf
end Go.Proofs.YtchjjiedcpfniaaGreatDoor
namespace Go.Proofs.YtchjjiedcpfniaaGreatDoor
set_option linter.unusedSimpArgs false
set_option linter.unusedVariables false
open Go Go.Lift Go.Proofs
theorem idxp (s : List UInt8) (b : UInt8) : PX Tryz.prog 88 [.str s, .int .u8 b.toNat] (.int .i64 (idxB s b)) := indexByte_px (fn := Tryz.f88) (by kernel_rfl) (by decide +kernel) (by decide +kernel) (by kernel_rfl) (by kernel_rfl) s b
set_option maxRecDepth 100000 in
theorem known_c (q : Int) : PC Tryz.prog 64 [.int .i64 q] (.bool (decide (1 ≤ q ∧ q ≤ 16))) := by
 refine zp Tryz.func64 fun G hG hR => ?_
 refine zs (zr ?_)
 refine zs (zr ?_)
 refine zt ?_
 exact zR
set_option maxRecDepth 100000 in
theorem idx0_c (s : List UInt8) (b : UInt8) : PC Tryz.prog 65 [.str s, .int .u8 b.toNat] (.int .i64 (idxB s b)) := by
 refine zp Tryz.func65 fun G hG hR => ?_
 refine zs (zr ?_)
 refine zs (zL (zl 2 ?_))
 refine awpL_px (idxp s b) rfl rfl rfl ?_ ?_ fun K hK => ?_
 · simp [hG, List.getD_cons_zero, List.getD_cons_succ, -List.getD_eq_getElem?_getD]
 · simp [hG, List.getD_cons_zero, List.getD_cons_succ, -List.getD_eq_getElem?_getD]
 simp [hG, List.getD_cons_zero, List.getD_cons_succ, -List.getD_eq_getElem?_getD]
 refine hK _ ?_
 clear K hK
 refine zl 1 ?_
 refine zN (zt ?_)
 exact zR
set_option maxRecDepth 100000 in
theorem idx_c (s : List UInt8) (b : UInt8) : PC Tryz.prog 41 [.str s, .int .u8 b.toNat] (.int .i64 (idxB s b)) := by
 refine zp Tryz.func41 fun G hG hR => ?_
 refine zs (zr ?_)
 refine zs (zL (zl 2 ?_))
 refine zc cal65 (idx0_c s b) ?_
 refine zl 1 ?_
 refine zN (zt ?_)
 exact zR
set_option maxRecDepth 100000 in
theorem wcheck_c (q : Int) (w : List UInt8) : PC Tryz.prog 36 [.int .i64 q, .str w] (.int .i64 (wordCheck q w)) := by
 refine zp Tryz.func36 fun G hG hR => ?_
 refine zs (zr ?_)
 refine zs (zb (zs (zL (zl 1 ?_))))
 refine zc cal64 (known_c q) ?_
 refine zl 2 ?_
 refine zN (zy (fun hb6 => ?_) fun hb6 => ?_)
 · refine zs (zr ?_)
   refine zt (zbt ?_)
   refine RetOK_of ?_
   simp [hG, List.getD_cons_zero, List.getD_cons_succ, -List.getD_eq_getElem?_getD]
   exact (wordCheck_bad (by omega)).symm
 refine zs (zr ?_)
 refine zy (fun hb10 => ?_) fun hb10 => ?_
 · refine zs (zr ?_)
   refine zt (zbt ?_)
   refine RetOK_of ?_
   simp [hG, List.getD_cons_zero, List.getD_cons_succ, -List.getD_eq_getElem?_getD]
   exact (wordCheck_long hb6 (by omega)).symm
 refine zk (zn (zbn (zs (zs (zr ?_)))))
 refine zb ?_
 refine awpS_loop (α := Nat) (fun k => ⟨[(0, .int .i64 q), (1, .str w), (15, .int .i64 w.length), (16, .int .i64 k)], [], 0⟩) (fun k => (1 ≤ q ∧ q ≤ 16) ∧ w.length ≤ 65536 ∧ k ≤ w.length ∧ ∀ j, j < k → 0 ≤ idxB (letters.take q.toNat) (w.getD j 0)) (fun k => w.length - k) (0) (⟨by simpa using hb6, by omega, Nat.zero_le _, fun j hj => absurd hj (Nat.not_lt_zero _)⟩) ?_ ?_
 · exact zi
 rintro k ⟨hq, hl, hk, hn⟩
 refine zs (zr ?_)
 refine zs (zy (fun hb17 => ?_) fun hb17 => ?_)
 · refine zk (zs (zb (zs (zr ?_))))
   refine zs ?_
   refine awpS_draw hR mixed [] ⟨[], [], []⟩ fun mu0 => ?_
   refine za [0, 1, 2, 3, 4] [] 2 [4, 3, 2, 1, 0] ?_
   refine awpA_only (fuel := 1) (i := 5) (by decide +kernel) ?_
   refine ze cal41 (idx_c (letters.take q.toNat) (w.getD k 0)) ?_ (b := fun hg => by simp [hG]; rfl)
   refine za [6] [] 0 [6, 5, 4, 3, 2, 1, 0] ?_
   refine awpA_done (by decide +kernel) ?_
   refine zy (fun hb25 => ?_) fun hb25 => ?_
   · refine zs (zr ?_)
     refine zt (zbt (ztt (zbt ?_)))
     refine RetOK_of ?_
     simp [hG, List.getD_cons_zero, List.getD_cons_succ, -List.getD_eq_getElem?_getD]
     exact (wordCheck_not hq hl hb17 hb25).symm
   refine zk (zn (zbn (zr ?_)))
   refine zn ?_
   refine round_end (k + 1) (⟨hq, hl, by omega, step_all hn (by omega)⟩) (by omega) ?_
   exact zi
 refine zx (ztx (zbx (zs (zr ?_))))
 refine zt ?_
 refine RetOK_of ?_
 simp [hG, List.getD_cons_zero, List.getD_cons_succ, -List.getD_eq_getElem?_getD]
 exact (wordCheck_ok hq hl (fun j hj => hn j (by omega))).symm
set_option maxRecDepth 100000 in
theorem check_c (e : Enc) : PC Tryz.prog 11 [.agg 4 (encF e)] (.int .i64 (checkE e)) := by
 refine zp Tryz.func11 fun G hG hR => ?_
 refine zs (zr ?_)
 refine zs (zb (zs (zr ?_)))
 refine zy (fun hb7 => ?_) fun hb7 => ?_
 · refine zs (zr ?_)
   refine zt (zbt ?_)
   refine RetOK_of ?_
   simp [hG, List.getD_cons_zero, List.getD_cons_succ, -List.getD_eq_getElem?_getD]
   exact (checkE_letters (by omega)).symm
 refine zs (zr ?_)
 refine zy (fun hb16 => ?_) fun hb16 => ?_
 · refine zs (zr ?_)
   refine zt (zbt ?_)
   refine RetOK_of ?_
   simp [hG, List.getD_cons_zero, List.getD_cons_succ, -List.getD_eq_getElem?_getD]
   exact (checkE_range hb7 (by omega)).symm
 refine zs (zr ?_)
 refine zy (fun hb35 => ?_) fun hb35 => ?_
 · refine zs (zr ?_)
   refine zt (zbt ?_)
   refine RetOK_of ?_
   simp [hG, List.getD_cons_zero, List.getD_cons_succ, -List.getD_eq_getElem?_getD]
   exact (checkE_empty ⟨by omega, by omega, by omega⟩ (by rw [hb35]; rfl)).symm
 refine zs (zr ?_)
 refine zy (fun hb40 => ?_) fun hb40 => ?_
 · refine zs (zr ?_)
   refine zt (zbt ?_)
   refine RetOK_of ?_
   simp [hG, List.getD_cons_zero, List.getD_cons_succ, -List.getD_eq_getElem?_getD]
   exact (checkE_limit ⟨by omega, by omega, by omega⟩ (by omega)).symm
 refine zk (zn (zbn (zs (zs (zr ?_)))))
 refine zb ?_
 refine awpS_loop (α := Nat) (fun k => ⟨[(1, .ptr (0, 0) 0 0), (46, rowsC e.rows), (47, .int .i64 e.rows.length), (48, .int .i64 k)], [(0, .one (.arr 1 4 (fun _ => encF e)))], 1⟩) (fun k => Dims e ∧ 0 < e.rows.length ∧ e.rows.length ≤ 64 ∧ k ≤ e.rows.length ∧ ∀ j, j < k → rowCheck e (e.rows.getD j []) = 0) (fun k => e.rows.length - k) (0) (⟨⟨by omega, by omega, by omega⟩, List.length_pos_iff.2 hb35, by omega, Nat.zero_le _, fun j hj => absurd hj (Nat.not_lt_zero _)⟩) ?_ ?_
 · exact zi
 rintro k ⟨hd, hp, hl, hk, hn⟩
 refine zs (zr ?_)
 refine zs (zy (fun hb49 => ?_) fun hb49 => ?_)
 · refine zk (zs (zb (zs (zr ?_))))
   refine zs (zs (zr ?_))
   refine zy (fun hb56 => ?_) fun hb56 => ?_
   · refine zs (zr ?_)
     refine zt (zbt (ztt (zbt ?_)))
     refine RetOK_of ?_
     simp [hG, List.getD_cons_zero, List.getD_cons_succ, -List.getD_eq_getElem?_getD]
     exact (checkE_row hd hp hl hb49 hn (rowCheck_len hb56) (by decide)).symm
   refine zk (zs (zr ?_))
   refine zb ?_
   refine awpS_loop (α := Nat) (fun i => ⟨[(1, .ptr (0, 0) 0 0), (46, rowsC e.rows), (47, .int .i64 e.rows.length), (48, .int .i64 k), (57, cells (e.rows.getD k [])), (58, .int .i64 (e.rows.getD k []).length), (59, .int .i64 i)], [(0, .one (.arr 1 4 (fun _ => encF e)))], 1⟩) (fun i => i ≤ (e.rows.getD k []).length ∧ ∀ j, j < i → cellCheck e ((e.rows.getD k []).getD j dc) = 0) (fun i => (e.rows.getD k []).length - i) (0) (⟨Nat.zero_le _, fun j hj => absurd hj (Nat.not_lt_zero _)⟩) ?_ ?_
   · exact zi
   rintro i ⟨hi, hm⟩
   refine zs (zr ?_)
   refine zs (zy (fun hb60 => ?_) fun hb60 => ?_)
   · refine zk (zs (zb (zs (zr ?_))))
     refine zs (zs (zr ?_))
     refine zy (fun hb73 => ?_) fun hb73 => ?_
     · refine zs (zr ?_)
       refine zt (zbt (ztt (zbt (zbt (ztt (zbt ?_))))))
       refine RetOK_of ?_
       simp [hG, List.getD_cons_zero, List.getD_cons_succ, -List.getD_eq_getElem?_getD]
       exact (checkE_row hd hp hl hb49 hn (rowCheck_cell hb56 hb60 hm (cellCheck_to hb73) (by decide)) (by decide)).symm
     refine zk (zs (zL (zl 11 ?_)))
     refine zc cal36 (wcheck_c e.letters ((e.rows.getD k []).getD i dc).word) ?_
     refine zl 2 ?_
     refine zN (zy (fun hb87 => ?_) fun hb87 => ?_)
     · refine zs (zr ?_)
       refine zt (zbt (ztt (zbt (zbt (ztt (zbt ?_))))))
       refine RetOK_of ?_
       simp [hG, List.getD_cons_zero, List.getD_cons_succ, -List.getD_eq_getElem?_getD]
       exact (checkE_row hd hp hl hb49 hn (rowCheck_cell hb56 hb60 hm (cellCheck_word hb73 hb87) (by decide)) (by decide)).symm
     refine zk (zn (zbn (zr ?_)))
     refine zn ?_
     refine round_end (i + 1) (⟨by omega, step_all hm (cellCheck_ok hb73 hb87)⟩) (by omega) ?_
     exact zi
   refine zx (ztx (zbx (zn (zbn (zr ?_)))))
   refine zn ?_
   refine round_end (k + 1) (⟨hd, hp, hl, by omega, step_all hn (rowCheck_ok hb56 (fun j hj => hm j (by omega)))⟩) (by omega) ?_
   exact zi
 refine zx (ztx (zbx (zs (zr ?_))))
 refine zt ?_
 refine RetOK_of ?_
 simp [hG, List.getD_cons_zero, List.getD_cons_succ, -List.getD_eq_getElem?_getD]
 exact ((checkE_rows hd hp hl).trans (firstNZ_zeroL (d := []) fun j hj => hn j (by omega))).symm
end Go.Proofs.YtchjjiedcpfniaaGreatDoor
