/- Parts of the proof: VX. -/
import Derived.Test.YtoafgeobhhlplaaZF22
import Derived.Test.YtoafgeobhhlplaaZF47
import Derived.Test.YtoafgeobhhlplaaZF48
namespace Go.Proofs.Ytoafgeobhhlplaa
set_option linter.unusedSimpArgs false
set_option linter.unusedVariables false
open Go Go.Lift Go.Proofs
theorem app_last {F : Nat → Int} {s i : Nat} {c : Int} {w : Nat → Nat → AVal} (hi : i < s + 1) (h : F s = c) : app (fun j _ => .int .i64 (F j)) s (fun i j => if i = 0 ∧ j = 0 then .int .i64 c else w i j) i 0 = .int .i64 (F i) := by
  unfold app
  by_cases e : i < s
  · rw [if_pos e]
  · obtain rfl : i = s := by omega
    rw [if_neg e, Nat.sub_self, h]; rfl
theorem bytes_take {l : List UInt8} {i q : Nat} (h : q < i) : (l.take i).getD q 0 = l.getD q 0 := by
  simp [List.getD, List.getElem?_take, h]
@[simp] theorem vecF_bytes {l : List UInt8} {i j : Nat} : vecF (fun (x : UInt8) (_ : Nat) => AVal.int .u8 x.toNat) 0 l i j = .int .u8 (l.getD i 0).toNat := rfl
theorem msg_nil0 {W : List Wd} : msg W [] = [] := rfl
theorem asc_two {l : List Int} (h : l.Pairwise (· < ·)) {i : Nat} (hi : i + 1 < l.length) : l.getD i 0 < l.getD (i + 1) 0 := by
  rw [getD_get (show i < l.length by omega), getD_get hi]
  exact List.pairwise_iff_getElem.1 h i (i + 1) (by omega) hi (by omega)
theorem enc_ne {c : Cd} (hv : CdOK c) {l : List Int} (hkl : ∀ k ∈ l, 0 ≤ k ∧ k < (c.ws.length : Int)) (h : 0 < l.length) : msg c.ws (l.take l.length) ≠ [] := by
  rw [List.take_length]
  cases l with
  | nil => cases h
  | cons k l =>
    have hk := hkl k List.mem_cons_self
    have hw := List.length_pos_iff.2 (hv.ne _ (W_mem (show k.toNat < c.ws.length by omega)))
    intro e
    have e2 := congrArg List.length e
    rw [msg_cons, List.length_append, List.length_nil] at e2
    omega
theorem fine_ok {c : Cd} (h : fineC c = true) : cdN c = 0 ∧ CdOK c ∧ c.ws.length ≤ 6 ∧ ∀ w ∈ c.ws, w.length ≤ 6 := by
  obtain ⟨h1, h2⟩ := fine_iff.1 h
  have hv := cd_ok h2
  obtain ⟨h3, h4⟩ := big_ok h1 hv
  exact ⟨h2, hv, h3, h4⟩
theorem fin_msg {c : Cd} (hv : CdOK c) (hb : ∀ w ∈ c.ws, w.length ≤ 6) {l : List UInt8} : (msg c.ws (listL c l)).length ≤ 72 := by
  have h1 := msg_len hb (l := listL c l) (listL_ok (by have := hv.n; omega))
  have h2 := listL_len (c := c) (l := l)
  omega
theorem fin_chk {c : Cd} (hv : CdOK c) (hb : ∀ w ∈ c.ws, w.length ≤ 6) {l : List UInt8} {n : Nat} : wordCheck c.q ((msg c.ws (listL c l)).take n) = 0 :=
  msg_chk hv hb (listL_ok (by have := hv.n; omega)) (by have := listL_len (c := c) (l := l); omega)
set_option maxRecDepth 100000 in
theorem writeK_c (b : Bool) (w v : List UInt8) (hw : w.length + v.length ≤ 1000000) : FC1 Try.prog 57 [.ptr (0, 0) 0 0, .str v] [(0, .typ 87 (.arr 1 2 (fun _ j => bF (selfQ b) (.sl (1, 0) 0 (w).length) j))), (1, .typ 5 (.arr (w).length 1 (byF (w))))] 2 (.tup 2 (fun j => [.int .i64 v.length, .any].getD j .any)) [(0, .typ 87 (.arr 1 2 (fun _ j => bF (.ptr (0, 0) 0 0) (.sl (2, 0) 0 (w ++ v).length) j))), (2, .typ 5 (.arr (w ++ v).length 1 (byF (w ++ v))))] 3 := by
 refine FC_introS T_ok Try.func57 rfl (by simp [Try.ntmps57]) fun G hG hR => ?_
 simp only [Try.ntmps57, Try.results57] at hG ⊢
 simp only [argEnv, Nat.zero_add, Nat.reduceAdd]
 refine zs (zr ?_)
 refine zs (zL (zl 1 ?_))
 refine zf cal77 [0, 1] (copyCheckB (hin := [(0, .typ 87 (.arr 1 2 (fun _ j => bF (selfQ b) (.sl (1, 0) 0 (w).length) j))), (1, .typ 5 (.arr (w).length 1 (byF (w))))]) (nin := 2) rfl rfl bcells (by omega) blies selfQ_or) (fun x hI hno => ?_)
 refine zN (zs (zr ?_))
 refine zs (zr ?_)
 refine zt ?_
 refine RetF_of (()) (id) (fun _ => false) (fun _ => false) trivial ?_ ?_ (by rfl) (by simp) (fun k hk => ⟨rfl, rfl⟩)
 · simp [hG, List.getD_cons_zero, List.getD_cons_succ, -List.getD_eq_getElem?_getD]
 simp [hG, List.getD_cons_zero, List.getD_cons_succ, -List.getD_eq_getElem?_getD]; exact fun i hi => app_bytes hi
set_option maxRecDepth 100000 in
theorem isSortedA_c (l : List Int) (hl : l.length ≤ 1000000) (hs : l.Pairwise (· < ·)) : PC Try.prog 32 [ints l] (.bool true) := by
 have hML : maxLen = 9223372036854775807 := by decide
 refine zp Try.func32 fun G hG hR => ?_
 refine zs (zrP ?_)
 refine zs (zs (zrP ?_))
 refine zb ?_
 refine awpS_loop (α := Nat) (fun j => ⟨[(0, ints l), (3, .int .i64 ((j : Nat) - 1 : Int))], [], 0⟩) (fun j => j ≤ l.length) (fun j => j) (l.length) (Nat.le_refl _) ?_ ?_
 · exact ziP
 rintro j hj
 refine zs (zs (zrP ?_))
 refine zy (fun hb8 => ?_) fun hb8 => ?_
 · obtain ⟨i, rfl⟩ : ∃ i, j = i + 2 := ⟨j - 2, by omega⟩
   have hi1 : ((i + 2 : Nat) : Int) - 1 = ((i + 1 : Nat) : Int) := (by omega)
   rw [hi1]
   have hlt := asc_two hs (i := i) (by omega)
   refine zk (zs (zb (zs ?_)))
   refine awpS_draw hR mixed [] ⟨[], [], []⟩ fun mu0 => ?_
   refine zaP [0, 1, 2, 3, 4, 5, 6, 7, 8] [] 1 [8, 7, 6, 5, 4, 3, 2, 1, 0] ?_
   refine awpA_only (fuel := 0) (i := 9) (by decide +kernel) ?_
   refine zeP cal60 (lessI_c (l.getD (i + 1) 0) (l.getD i 0)) ?_
   refine awpA_done (by decide +kernel) ?_
   refine awpS_cond rfl (fun hb20 => ?_) (fun hb20 => ?_)
   · simp [-List.getD_eq_getElem?_getD] at hb20; omega
   try simp [-List.getD_eq_getElem?_getD] at hb20
   refine zk (zn (zbn (zrP ?_)))
   refine zn ?_
   refine round_end (i + 1) (by omega) (by omega) ?_
   exact ziP
 refine zx (ztx (zbx (zs (zrP ?_))))
 refine zt ?_
 exact zRP
set_option maxRecDepth 100000 in
theorem listC_c (c : Cd) (h0 : 0 < c.ws.length) (h6 : c.ws.length ≤ 64) (l : List UInt8) (hll : l.length ≤ maxLen) : PC Try.prog 29 [.agg 2 (cdF c), Lift.bytes l] (ints (listL c l)) := by
 have hML : maxLen = 9223372036854775807 := by decide
 have h12 : (l.take 12).length = min 12 l.length := List.length_take
 refine zp Try.func29 fun G hG hR => ?_
 refine zs (zrP ?_)
 refine zs (zrP ?_)
 refine zs (zs (zrP ?_))
 refine zb ?_
 refine awpS_loop (α := Nat) (fun k => ⟨[(2, .vptr 2 (cdF c) 0), (5, .sl (0, 0) 0 k), (12, Lift.bytes (l.take 12)), (13, .int .i64 (l.take 12).length), (14, .int .i64 (k : Nat))], [(0, .one (.arr k 1 (fun i _ => .int .i64 ((listL c l).getD i 0))))], 1⟩) (fun k => k ≤ (l.take 12).length) (fun k => (l.take 12).length - k) (0) (Nat.zero_le _) ?_ ?_
 · exact zwP (fun k => if k = 0 then 1 else k) (fun k => k == 0) (fun k => k == 0) (e := by simp [hG, pureOp, List.getD_cons_zero, List.getD_cons_succ, -List.getD_eq_getElem?_getD]; exact ⟨⟨by omega, fun i hi => by rw [bytes_take (by omega)]⟩, by omega⟩)
 rintro k hk
 refine zs (zrP ?_)
 refine zs (zy (fun hb15 => ?_) fun hb15 => ?_)
 · have hat := listL_at (c := c) (l := l) (k := k) (by omega)
   refine zk (zs (zb (zs (zrP ?_))))
   refine zrP ?_ (c := by have hb8 := ((l.take 12).getD k 0).toNat_lt; (try simp [-List.getD_eq_getElem?_getD]); repeat (first | omega | apply And.intro))
   refine zn (zbn (zrP ?_))
   refine zn ?_
   refine round_end (k + 1) (by omega) (by omega) ?_
   exact zwP (fun k => if k = 0 then 2 else k) (fun _ => false) (fun _ => false) (h := by simp [hG, pureOp, List.getD_cons_zero, List.getD_cons_succ, -List.getD_eq_getElem?_getD]; exact fun i hi => app_last hi (by rw [hat]; first | rfl | omega))
 obtain rfl : k = (l.take 12).length := (by omega)
 refine zx (ztx (zbx (zs (zrP ?_))))
 refine zt ?_
 refine RetOK_of ?_
 simp [hG, List.getD_cons_zero, List.getD_cons_succ, -List.getD_eq_getElem?_getD, pureOp]
 rw [listL_len]; exact ⟨rfl, Nat.le_refl _⟩
set_option maxRecDepth 100000 in
theorem encode_c (c : Cd) (hl : c.ws.length ≤ maxLen) (ho : cdN c = 0) (l : List Int) (hll : l.length ≤ 1000000) (hkl : ∀ k ∈ l, 0 ≤ k ∧ k < (c.ws.length : Int)) (hm : (msg c.ws l).length ≤ 65536) : PC Try.prog 30 [.agg 2 (cdF c), ints l] (.tup 2 (fun j => [.str (msg c.ws l), .int .i64 0].getD j .any)) := by
 have hML : maxLen = 9223372036854775807 := by decide
 have hv := cd_ok ho
 have hWn := hv.n
 refine zp Try.func30 fun G hG hR => ?_
 refine zs (zr ?_ (h := by intro c K h; simp [hG, List.getD_cons_zero, List.getD_cons_succ, -List.getD_eq_getElem?_getD, pureOp, msg_nil0]; first | exact z1 c h | exact ⟨.mk c, h⟩))
 refine zs (zs (zL (zl 1 ?_ (h := by intro c K h; simp [hG, List.getD_cons_zero, List.getD_cons_succ, -List.getD_eq_getElem?_getD, pureOp, msg_nil0]; first | exact z1 c h | exact ⟨.mk c, h⟩))))
 refine zc cal38 (check_c c hl) ?_ (a := fun hg => by simp [hG, List.getD_cons_zero, List.getD_cons_succ, -List.getD_eq_getElem?_getD, pureOp, msg_nil0]) (b := fun hg => by simp [hG, List.getD_cons_zero, List.getD_cons_succ, -List.getD_eq_getElem?_getD, pureOp, msg_nil0]) (h := by intro K h; simp [hG, List.getD_cons_zero, List.getD_cons_succ, -List.getD_eq_getElem?_getD, pureOp, msg_nil0]; exact h)
 refine zl 1 ?_ (h := by intro c K h; simp [hG, List.getD_cons_zero, List.getD_cons_succ, -List.getD_eq_getElem?_getD, pureOp, msg_nil0]; first | exact z1 c h | exact ⟨.mk c, h⟩)
 refine zN ?_
 refine awpS_cond rfl (fun hb14 => ?_) (fun hb14 => ?_)
 · simp [ho] at hb14
 try simp [-List.getD_eq_getElem?_getD] at hb14
 refine zk (zs (zr ?_ (h := by intro c K h; simp [hG, List.getD_cons_zero, List.getD_cons_succ, -List.getD_eq_getElem?_getD, pureOp, msg_nil0]; first | exact z1 c h | exact ⟨.mk c, h⟩)))
 refine zs (zs (zr ?_ (h := by intro c K h; simp [hG, List.getD_cons_zero, List.getD_cons_succ, -List.getD_eq_getElem?_getD, pureOp, msg_nil0]; first | exact z1 c h | exact ⟨.mk c, h⟩)))
 refine zb ?_
 refine awpS_loop (α := Nat) (fun k => ⟨[(1, ints l), (2, .vptr 2 (cdF c) 0), (6, .int .i64 ((msg c.ws (l.take k)).length : Nat)), (15, ints l), (16, .int .i64 l.length), (17, .int .i64 (k : Nat))], [], 0⟩) (fun k => k ≤ l.length) (fun k => l.length - k) (0) (Nat.zero_le _) ?_ ?_
 · exact zw (id) (fun k => k == 0) (fun _ => false) (e := by simp [hG, List.getD_cons_zero, List.getD_cons_succ, -List.getD_eq_getElem?_getD, pureOp, msg_nil0]) (h := by simp [hG, List.getD_cons_zero, List.getD_cons_succ, -List.getD_eq_getElem?_getD, pureOp, msg_nil0])
 rintro k hk
 refine zs (zr ?_ (h := by intro c K h; simp [hG, List.getD_cons_zero, List.getD_cons_succ, -List.getD_eq_getElem?_getD, pureOp, msg_nil0]; first | exact z1 c h | exact ⟨.mk c, h⟩))
 refine zs (zy (fun hb18 => ?_) fun hb18 => ?_)
 · have hkk := hkl _ (getD_mem (d := (0 : Int)) hb18)
   have hE := msg_take (W := c.ws) hb18
   have hpr := msg_pre (W := c.ws) (l := l) (k := k)
   have hpr1 := msg_pre (W := c.ws) (l := l) (k := k + 1)
   have hEl := congrArg List.length hE
   rw [List.length_append] at hEl
   refine zk (zs (zb (zs (zr ?_ (h := by intro c K h; simp [hG, List.getD_cons_zero, List.getD_cons_succ, -List.getD_eq_getElem?_getD, pureOp, msg_nil0]; first | exact z1 c h | exact ⟨.mk c, h⟩)))))
   refine zs (zs (zr ?_ (h := by intro c K h; simp [hG, List.getD_cons_zero, List.getD_cons_succ, -List.getD_eq_getElem?_getD, pureOp, msg_nil0]; first | exact z1 c h | exact ⟨.mk c, h⟩)))
   refine awpS_cond rfl (fun hb29 => ?_) (fun hb29 => ?_)
   · simp [-List.getD_eq_getElem?_getD] at hb29; omega
   try simp [-List.getD_eq_getElem?_getD] at hb29
   refine zk (zr ?_ (h := by intro c K h; simp [hG, List.getD_cons_zero, List.getD_cons_succ, -List.getD_eq_getElem?_getD, pureOp, msg_nil0]; first | exact z1 c h | exact ⟨.mk c, h⟩))
   refine zn (zbn (zr ?_ (h := by intro c K h; simp [hG, List.getD_cons_zero, List.getD_cons_succ, -List.getD_eq_getElem?_getD, pureOp, msg_nil0]; first | exact z1 c h | exact ⟨.mk c, h⟩)))
   refine zn ?_
   refine round_end (k + 1) (by omega) (by omega) ?_
   exact zi (e := by rw [hE, List.length_append]; simp [hG, pureOp, List.getD_cons_zero, List.getD_cons_succ, -List.getD_eq_getElem?_getD]) (h := by simp [hG, List.getD_cons_zero, List.getD_cons_succ, -List.getD_eq_getElem?_getD, pureOp, msg_nil0])
 obtain rfl : k = l.length := (by omega)
 refine zx (ztx (zbx (zs (zs (zr ?_ (h := by intro c K h; simp [hG, List.getD_cons_zero, List.getD_cons_succ, -List.getD_eq_getElem?_getD, pureOp, msg_nil0]; first | exact z1 c h | exact ⟨.mk c, h⟩))))))
 refine awpS_cond rfl (fun hb40 => ?_) (fun hb40 => ?_)
 · simp at hb40; omega
 try simp [-List.getD_eq_getElem?_getD] at hb40
 refine zk (zs (zr ?_ (h := by intro c K h; simp [hG, List.getD_cons_zero, List.getD_cons_succ, -List.getD_eq_getElem?_getD, pureOp, msg_nil0]; first | exact z1 c h | exact ⟨.mk c, h⟩)))
 refine zs (zs (zr ?_ (h := by intro c K h; simp [hG, List.getD_cons_zero, List.getD_cons_succ, -List.getD_eq_getElem?_getD, pureOp, msg_nil0]; first | exact z1 c h | exact ⟨.mk c, h⟩)))
 refine zb ?_
 refine awpS_loop (α := Nat) (fun k => ⟨[(2, .vptr 2 (cdF c) 0), (9, .ptr (0, 0) 0 0), (41, ints l), (42, .int .i64 l.length), (43, .int .i64 (k : Nat))], [(0, .typ 87 (.arr 1 2 (fun _ j => bF (selfQ (posB k)) (bufA (posB k) 1 (msg c.ws (l.take k)).length) j))), (1, .typ 5 (.arr (msg c.ws (l.take k)).length 1 (byF (msg c.ws (l.take k)))))], 2⟩) (fun k => k ≤ l.length) (fun k => l.length - k) (0) (Nat.zero_le _) ?_ ?_
 · exact zw (fun k => k) (fun _ => false) (fun k => k == 1) (e := by simp [hG, List.getD_cons_zero, List.getD_cons_succ, -List.getD_eq_getElem?_getD, pureOp, msg_nil0]) (h := by simp [hG, List.getD_cons_zero, List.getD_cons_succ, -List.getD_eq_getElem?_getD, pureOp, msg_nil0])
 rintro k hk
 refine zs (zr ?_ (h := by intro c K h; simp [hG, List.getD_cons_zero, List.getD_cons_succ, -List.getD_eq_getElem?_getD, pureOp, msg_nil0]; first | exact z1 c h | exact ⟨.mk c, h⟩))
 refine zs (zy (fun hb44 => ?_) fun hb44 => ?_)
 · have hkk := hkl _ (getD_mem (d := (0 : Int)) hb44)
   have hE := msg_take (W := c.ws) hb44
   have hwp := List.length_pos_iff.2 (hv.ne _ (W_mem (show (l.getD k 0).toNat < c.ws.length by omega)))
   refine zk (zs (zb (zs (zr ?_ (h := by intro c K h; simp [hG, List.getD_cons_zero, List.getD_cons_succ, -List.getD_eq_getElem?_getD, pureOp, msg_nil0]; first | exact z1 c h | exact ⟨.mk c, h⟩)))))
   refine zL (zl 5 ?_ (h := by intro c K h; simp [hG, List.getD_cons_zero, List.getD_cons_succ, -List.getD_eq_getElem?_getD, pureOp, msg_nil0]; first | exact z1 c h | exact ⟨.mk c, h⟩))
   refine awpL_fc cal57 [0, 1] (fun _ => false) (writeK_c (posB k) (msg c.ws (l.take k)) (c.ws.getD (l.getD k 0).toNat []) (by have := msg_pre (W := c.ws) (l := l) (k := k + 1); rw [hE, List.length_append] at this; omega)) rfl rfl rfl (by simp) (.inl fun _ => rfl) ?_ ?_ ?_ fun K hK x hI hno => ?_
   · simp [hG, List.getD_cons_zero, List.getD_cons_succ, -List.getD_eq_getElem?_getD, pureOp, msg_nil0]
   · simp [hG, List.range'_succ, List.range'_zero, List.getD_cons_zero, List.getD_cons_succ, -List.getD_eq_getElem?_getD]
   · simp [hG, pureOp, List.getD_cons_zero, List.getD_cons_succ, -List.getD_eq_getElem?_getD]; cases hp : posB k with
       | true => exact .inl rfl
       | false => rw [posB_no hp]; exact .inr ⟨rfl, rfl⟩
   simp [hG, List.getD_cons_zero, List.getD_cons_succ, -List.getD_eq_getElem?_getD, pureOp, msg_nil0]
   refine hK _ ?_
   clear K hK
   refine zN (zn (zbn (zr ?_ (h := by intro c K h; simp [hG, List.getD_cons_zero, List.getD_cons_succ, -List.getD_eq_getElem?_getD, pureOp, msg_nil0]; first | exact z1 c h | exact ⟨.mk c, h⟩))))
   refine zn ?_
   refine round_end (k + 1) (by omega) (by omega) ?_
   exact zw (fun k => if k = 1 then 2 else k) (fun _ => false) (fun _ => false) (e := by simp [hG, List.getD_cons_zero, List.getD_cons_succ, -List.getD_eq_getElem?_getD, pureOp, msg_nil0]) (h := by rw [hE]; simp [hG, pureOp, List.getD_cons_zero, List.getD_cons_succ, -List.getD_eq_getElem?_getD])
 obtain rfl : k = l.length := (by omega)
 refine zx (ztx (zbx (zs ?_)))
 by_cases hsp : posB l.length = true
 · have hwne : (msg c.ws (l.take l.length)) ≠ [] := enc_ne hv hkl (posB_yes hsp)
   refine zL ?_
   refine zf cal58 [0, 1] (stringB (S := 2) (off := 0) (hin := [(0, .typ 87 (.arr 1 2 (fun _ j => bF (selfQ true) (.sl (1, 0) 0 ((msg c.ws (l.take l.length))).length) j))), (1, .typ 5 (.arr ((msg c.ws (l.take l.length))).length 1 (byF ((msg c.ws (l.take l.length))))))]) (nin := 2) (l := (msg c.ws (l.take l.length))) (id := (1, 0)) rfl (by omega) rfl rfl rfl (Nat.le_refl _) hwne (fun i hi => rfl) (by rw [List.take_length]; omega)) (fun x hI hno => ?_) (a := by simp [hG, List.getD_cons_zero, List.getD_cons_succ, -List.getD_eq_getElem?_getD, pureOp, msg_nil0, hsp]) (b := by simp [hG, List.getD_cons_zero, List.getD_cons_succ, -List.getD_eq_getElem?_getD, pureOp, msg_nil0, hsp]) (c := by simp [hG, List.getD_cons_zero, List.getD_cons_succ, -List.getD_eq_getElem?_getD, pureOp, msg_nil0, hsp]) (h := by intro K h x hI hno; simp [hG, List.getD_cons_zero, List.getD_cons_succ, -List.getD_eq_getElem?_getD, pureOp, msg_nil0, hsp]; exact h x hI hno)
   refine zl 2 ?_ (h := by intro c K h; simp [hG, List.getD_cons_zero, List.getD_cons_succ, -List.getD_eq_getElem?_getD, pureOp, msg_nil0, hsp]; first | exact z1 c h | exact ⟨.mk c, h⟩)
   refine zN (zt ?_)
   refine RetOK_of ?_
   simp [hG, List.getD_cons_zero, List.getD_cons_succ, -List.getD_eq_getElem?_getD, pureOp, msg_nil0, hsp]
 obtain rfl : l = [] := List.length_eq_zero_iff.1 (posB_no (by simpa using hsp))
 refine zL ?_
 refine zf cal58 [0] (stringNilB (S := 2) (off := 0) (hin := [(0, .typ 87 (.arr 1 2 (fun _ j => bF (selfQ false) .nils j)))]) (nin := 1) rfl (by omega) rfl) (fun x hI hno => ?_) (a := by simp [hG, List.getD_cons_zero, List.getD_cons_succ, -List.getD_eq_getElem?_getD, pureOp, msg_nil0, hsp]) (b := by simp [hG, List.getD_cons_zero, List.getD_cons_succ, -List.getD_eq_getElem?_getD, pureOp, msg_nil0, hsp]) (c := by simp [hG, List.getD_cons_zero, List.getD_cons_succ, -List.getD_eq_getElem?_getD, pureOp, msg_nil0, hsp]) (h := by intro K h x hI hno; simp [hG, List.getD_cons_zero, List.getD_cons_succ, -List.getD_eq_getElem?_getD, pureOp, msg_nil0, hsp]; exact h x hI hno)
 refine zl 2 ?_ (h := by intro c K h; simp [hG, List.getD_cons_zero, List.getD_cons_succ, -List.getD_eq_getElem?_getD, pureOp, msg_nil0, hsp]; first | exact z1 c h | exact ⟨.mk c, h⟩)
 refine zN (zt ?_)
 refine RetOK_of ?_
 simp [hG, List.getD_cons_zero, List.getD_cons_succ, -List.getD_eq_getElem?_getD, pureOp, msg_nil0, hsp]
end Go.Proofs.Ytoafgeobhhlplaa
