/- Parts of the proof: VX WB WC DT YI. -/
import Derived.Test.YtoafgeobhhlplaaZU14
import Derived.Test.YtoafgeobhhlplaaZU22
namespace Go.Proofs.Ytoafgeobhhlplaa
set_option linter.unusedSimpArgs false
set_option linter.unusedVariables false
open Go Go.Lift Go.Proofs
theorem app_last {F : Nat → Int} {s i : Nat} {c : Int} {w : Nat → Nat → AVal} (hi : i < s + 1) (h : F s = c) : app (fun j _ => .int .i64 (F j)) s (fun i j => if i = 0 ∧ j = 0 then .int .i64 c else w i j) i 0 = .int .i64 (F i) := by
  unfold app
  by_cases e : i < s
  · rw [if_pos e]
  · obtain rfl : i = s := by omega
    rw [if_neg e, Nat.sub_self, h]; rfl
theorem bytes_take {l : List UInt8} {i q : Nat} (h : q < i) : (l.take i).getD q 0 = l.getD q 0 := by
  simp [List.getD, List.getElem?_take, h]
@[simp] theorem vecF_bytes {l : List UInt8} {i j : Nat} : vecF (fun (x : UInt8) (_ : Nat) => AVal.int .u8 x.toNat) 0 l i j = .int .u8 (l.getD i 0).toNat := rfl
theorem msg_nil0 {W : List Wd} : msg W [] = [] := rfl
theorem enc_ne {c : Cd} (hv : CdOK c) {l : List Int} (hkl : ∀ k ∈ l, 0 ≤ k ∧ k < (c.ws.length : Int)) (h : 0 < l.length) : msg c.ws (l.take l.length) ≠ [] := by
  rw [List.take_length]
  cases l with
  | nil => cases h
  | cons k l =>
    have hk := hkl k List.mem_cons_self
    have hw := List.length_pos_iff.2 (hv.ne _ (W_mem (show k.toNat < c.ws.length by omega)))
    intro e
    have e2 := congrArg List.length e
    rw [msg_cons, List.length_append, List.length_nil] at e2
    omega
theorem fine_ok {c : Cd} (h : fineC c = true) : cdN c = 0 ∧ CdOK c ∧ c.ws.length ≤ 6 ∧ ∀ w ∈ c.ws, w.length ≤ 6 := by
  obtain ⟨h1, h2⟩ := fine_iff.1 h
  have hv := cd_ok h2
  obtain ⟨h3, h4⟩ := big_ok h1 hv
  exact ⟨h2, hv, h3, h4⟩
theorem fin_msg {c : Cd} (hv : CdOK c) (hb : ∀ w ∈ c.ws, w.length ≤ 6) {l : List UInt8} : (msg c.ws (listL c l)).length ≤ 72 := by
  have h1 := msg_len hb (l := listL c l) (listL_ok (by have := hv.n; omega))
  have h2 := listL_len (c := c) (l := l)
  omega
theorem fin_chk {c : Cd} (hv : CdOK c) (hb : ∀ w ∈ c.ws, w.length ≤ 6) {l : List UInt8} {n : Nat} : wordCheck c.q ((msg c.ws (listL c l)).take n) = 0 :=
  msg_chk hv hb (listL_ok (by have := hv.n; omega)) (by have := listL_len (c := c) (l := l); omega)
set_option maxRecDepth 100000 in
theorem writeK_c (b : Bool) (w v : List UInt8) (hw : w.length + v.length ≤ 1000000) : FC1 Try.prog 57 [.ptr (0, 0) 0 0, .str v] [(0, .typ 87 (.arr 1 2 (fun _ j => bF (selfQ b) (.sl (1, 0) 0 (w).length) j))), (1, .typ 5 (.arr (w).length 1 (byF (w))))] 2 (.tup 2 (fun j => [.int .i64 v.length, .any].getD j .any)) [(0, .typ 87 (.arr 1 2 (fun _ j => bF (.ptr (0, 0) 0 0) (.sl (2, 0) 0 (w ++ v).length) j))), (2, .typ 5 (.arr (w ++ v).length 1 (byF (w ++ v))))] 3 := by
 refine FC_introS T_ok Try.func57 rfl (by simp [Try.ntmps57]) fun G hG hR => ?_
 simp only [Try.ntmps57, Try.results57] at hG ⊢
 simp only [argEnv, Nat.zero_add, Nat.reduceAdd]
 refine zs (zr ?_)
 refine zs (zL (zl 1 ?_))
 refine zf cal77 [0, 1] (copyCheckB (hin := [(0, .typ 87 (.arr 1 2 (fun _ j => bF (selfQ b) (.sl (1, 0) 0 (w).length) j))), (1, .typ 5 (.arr (w).length 1 (byF (w))))]) (nin := 2) rfl rfl bcells (by omega) blies selfQ_or) (fun x hI hno => ?_)
 refine zN (zs (zr ?_))
 refine zs (zr ?_)
 refine zt ?_
 refine RetF_of (()) (id) (fun _ => false) (fun _ => false) trivial ?_ ?_ (by rfl) (by simp) (fun k hk => ⟨rfl, rfl⟩)
 · simp [hG, List.getD_cons_zero, List.getD_cons_succ, -List.getD_eq_getElem?_getD]
 simp [hG, List.getD_cons_zero, List.getD_cons_succ, -List.getD_eq_getElem?_getD]; exact fun i hi => app_bytes hi
set_option maxRecDepth 100000 in
theorem listC_c (c : Cd) (h0 : 0 < c.ws.length) (h6 : c.ws.length ≤ 64) (l : List UInt8) (hll : l.length ≤ maxLen) : PC Try.prog 29 [.agg 2 (cdF c), Lift.bytes l] (ints (listL c l)) := by
 have hML : maxLen = 9223372036854775807 := by decide
 have h12 : (l.take 12).length = min 12 l.length := List.length_take
 refine zp Try.func29 fun G hG hR => ?_
 refine zs (zrP ?_)
 refine zs (zrP ?_)
 refine zs (zs (zrP ?_))
 refine zb ?_
 refine awpS_loop (α := Nat) (fun k => ⟨[(2, .vptr 2 (cdF c) 0), (5, .sl (0, 0) 0 k), (12, Lift.bytes (l.take 12)), (13, .int .i64 (l.take 12).length), (14, .int .i64 (k : Nat))], [(0, .one (.arr k 1 (fun i _ => .int .i64 ((listL c l).getD i 0))))], 1⟩) (fun k => k ≤ (l.take 12).length) (fun k => (l.take 12).length - k) (0) (Nat.zero_le _) ?_ ?_
 · exact zwP (fun k => if k = 0 then 1 else k) (fun k => k == 0) (fun k => k == 0) (e := by simp [hG, pureOp, List.getD_cons_zero, List.getD_cons_succ, -List.getD_eq_getElem?_getD]; exact ⟨⟨by omega, fun i hi => by rw [bytes_take (by omega)]⟩, by omega⟩)
 rintro k hk
 refine zs (zrP ?_)
 refine zs (zy (fun hb15 => ?_) fun hb15 => ?_)
 · have hat := listL_at (c := c) (l := l) (k := k) (by omega)
   refine zk (zs (zb (zs (zrP ?_))))
   refine zrP ?_ (c := by have hb8 := ((l.take 12).getD k 0).toNat_lt; (try simp [-List.getD_eq_getElem?_getD]); repeat (first | omega | apply And.intro))
   refine zn (zbn (zrP ?_))
   refine zn ?_
   refine round_end (k + 1) (by omega) (by omega) ?_
   exact zwP (fun k => if k = 0 then 2 else k) (fun _ => false) (fun _ => false) (h := by simp [hG, pureOp, List.getD_cons_zero, List.getD_cons_succ, -List.getD_eq_getElem?_getD]; exact fun i hi => app_last hi (by rw [hat]; first | rfl | omega))
 obtain rfl : k = (l.take 12).length := (by omega)
 refine zx (ztx (zbx (zs (zrP ?_))))
 refine zt ?_
 refine RetOK_of ?_
 simp [hG, List.getD_cons_zero, List.getD_cons_succ, -List.getD_eq_getElem?_getD, pureOp]
 rw [listL_len]; exact ⟨rfl, Nat.le_refl _⟩
set_option maxRecDepth 100000 in
theorem encode_c (c : Cd) (hl : c.ws.length ≤ maxLen) (ho : cdN c = 0) (l : List Int) (hll : l.length ≤ 1000000) (hkl : ∀ k ∈ l, 0 ≤ k ∧ k < (c.ws.length : Int)) (hm : (msg c.ws l).length ≤ 65536) : PC Try.prog 30 [.agg 2 (cdF c), ints l] (.tup 2 (fun j => [.str (msg c.ws l), .int .i64 0].getD j .any)) := by
 have hML : maxLen = 9223372036854775807 := by decide
 have hv := cd_ok ho
 have hWn := hv.n
 refine zp Try.func30 fun G hG hR => ?_
 refine zs (zr ?_ (h := by intro c K h; simp [hG, List.getD_cons_zero, List.getD_cons_succ, -List.getD_eq_getElem?_getD, pureOp, msg_nil0]; first | exact z1 c h | exact ⟨.mk c, h⟩))
 refine zs (zs (zL (zl 1 ?_ (h := by intro c K h; simp [hG, List.getD_cons_zero, List.getD_cons_succ, -List.getD_eq_getElem?_getD, pureOp, msg_nil0]; first | exact z1 c h | exact ⟨.mk c, h⟩))))
 refine zc cal38 (check_c c hl) ?_ (a := fun hg => by simp [hG, List.getD_cons_zero, List.getD_cons_succ, -List.getD_eq_getElem?_getD, pureOp, msg_nil0]) (b := fun hg => by simp [hG, List.getD_cons_zero, List.getD_cons_succ, -List.getD_eq_getElem?_getD, pureOp, msg_nil0]) (h := by intro K h; simp [hG, List.getD_cons_zero, List.getD_cons_succ, -List.getD_eq_getElem?_getD, pureOp, msg_nil0]; exact h)
 refine zl 1 ?_ (h := by intro c K h; simp [hG, List.getD_cons_zero, List.getD_cons_succ, -List.getD_eq_getElem?_getD, pureOp, msg_nil0]; first | exact z1 c h | exact ⟨.mk c, h⟩)
 refine zN ?_
 refine awpS_cond rfl (fun hb14 => ?_) (fun hb14 => ?_)
 · simp [ho] at hb14
 try simp [-List.getD_eq_getElem?_getD] at hb14
 refine zk (zs (zr ?_ (h := by intro c K h; simp [hG, List.getD_cons_zero, List.getD_cons_succ, -List.getD_eq_getElem?_getD, pureOp, msg_nil0]; first | exact z1 c h | exact ⟨.mk c, h⟩)))
 refine zs (zs (zr ?_ (h := by intro c K h; simp [hG, List.getD_cons_zero, List.getD_cons_succ, -List.getD_eq_getElem?_getD, pureOp, msg_nil0]; first | exact z1 c h | exact ⟨.mk c, h⟩)))
 refine zb ?_
 refine awpS_loop (α := Nat) (fun k => ⟨[(1, ints l), (2, .vptr 2 (cdF c) 0), (6, .int .i64 ((msg c.ws (l.take k)).length : Nat)), (15, ints l), (16, .int .i64 l.length), (17, .int .i64 (k : Nat))], [], 0⟩) (fun k => k ≤ l.length) (fun k => l.length - k) (0) (Nat.zero_le _) ?_ ?_
 · exact zw (id) (fun k => k == 0) (fun _ => false) (e := by simp [hG, List.getD_cons_zero, List.getD_cons_succ, -List.getD_eq_getElem?_getD, pureOp, msg_nil0]) (h := by simp [hG, List.getD_cons_zero, List.getD_cons_succ, -List.getD_eq_getElem?_getD, pureOp, msg_nil0])
 rintro k hk
 refine zs (zr ?_ (h := by intro c K h; simp [hG, List.getD_cons_zero, List.getD_cons_succ, -List.getD_eq_getElem?_getD, pureOp, msg_nil0]; first | exact z1 c h | exact ⟨.mk c, h⟩))
 refine zs (zy (fun hb18 => ?_) fun hb18 => ?_)
 · have hkk := hkl _ (getD_mem (d := (0 : Int)) hb18)
   have hE := msg_take (W := c.ws) hb18
   have hpr := msg_pre (W := c.ws) (l := l) (k := k)
   have hpr1 := msg_pre (W := c.ws) (l := l) (k := k + 1)
   have hEl := congrArg List.length hE
   rw [List.length_append] at hEl
   refine zk (zs (zb (zs (zr ?_ (h := by intro c K h; simp [hG, List.getD_cons_zero, List.getD_cons_succ, -List.getD_eq_getElem?_getD, pureOp, msg_nil0]; first | exact z1 c h | exact ⟨.mk c, h⟩)))))
   refine zs (zs (zr ?_ (h := by intro c K h; simp [hG, List.getD_cons_zero, List.getD_cons_succ, -List.getD_eq_getElem?_getD, pureOp, msg_nil0]; first | exact z1 c h | exact ⟨.mk c, h⟩)))
   refine awpS_cond rfl (fun hb29 => ?_) (fun hb29 => ?_)
   · simp [-List.getD_eq_getElem?_getD] at hb29; omega
   try simp [-List.getD_eq_getElem?_getD] at hb29
   refine zk (zr ?_ (h := by intro c K h; simp [hG, List.getD_cons_zero, List.getD_cons_succ, -List.getD_eq_getElem?_getD, pureOp, msg_nil0]; first | exact z1 c h | exact ⟨.mk c, h⟩))
   refine zn (zbn (zr ?_ (h := by intro c K h; simp [hG, List.getD_cons_zero, List.getD_cons_succ, -List.getD_eq_getElem?_getD, pureOp, msg_nil0]; first | exact z1 c h | exact ⟨.mk c, h⟩)))
   refine zn ?_
   refine round_end (k + 1) (by omega) (by omega) ?_
   exact zi (e := by rw [hE, List.length_append]; simp [hG, pureOp, List.getD_cons_zero, List.getD_cons_succ, -List.getD_eq_getElem?_getD]) (h := by simp [hG, List.getD_cons_zero, List.getD_cons_succ, -List.getD_eq_getElem?_getD, pureOp, msg_nil0])
 obtain rfl : k = l.length := (by omega)
 refine zx (ztx (zbx (zs (zs (zr ?_ (h := by intro c K h; simp [hG, List.getD_cons_zero, List.getD_cons_succ, -List.getD_eq_getElem?_getD, pureOp, msg_nil0]; first | exact z1 c h | exact ⟨.mk c, h⟩))))))
 refine awpS_cond rfl (fun hb40 => ?_) (fun hb40 => ?_)
 · simp at hb40; omega
 try simp [-List.getD_eq_getElem?_getD] at hb40
 refine zk (zs (zr ?_ (h := by intro c K h; simp [hG, List.getD_cons_zero, List.getD_cons_succ, -List.getD_eq_getElem?_getD, pureOp, msg_nil0]; first | exact z1 c h | exact ⟨.mk c, h⟩)))
 refine zs (zs (zr ?_ (h := by intro c K h; simp [hG, List.getD_cons_zero, List.getD_cons_succ, -List.getD_eq_getElem?_getD, pureOp, msg_nil0]; first | exact z1 c h | exact ⟨.mk c, h⟩)))
 refine zb ?_
 refine awpS_loop (α := Nat) (fun k => ⟨[(2, .vptr 2 (cdF c) 0), (9, .ptr (0, 0) 0 0), (41, ints l), (42, .int .i64 l.length), (43, .int .i64 (k : Nat))], [(0, .typ 87 (.arr 1 2 (fun _ j => bF (selfQ (posB k)) (bufA (posB k) 1 (msg c.ws (l.take k)).length) j))), (1, .typ 5 (.arr (msg c.ws (l.take k)).length 1 (byF (msg c.ws (l.take k)))))], 2⟩) (fun k => k ≤ l.length) (fun k => l.length - k) (0) (Nat.zero_le _) ?_ ?_
 · exact zw (fun k => k) (fun _ => false) (fun k => k == 1) (e := by simp [hG, List.getD_cons_zero, List.getD_cons_succ, -List.getD_eq_getElem?_getD, pureOp, msg_nil0]) (h := by simp [hG, List.getD_cons_zero, List.getD_cons_succ, -List.getD_eq_getElem?_getD, pureOp, msg_nil0])
 rintro k hk
 refine zs (zr ?_ (h := by intro c K h; simp [hG, List.getD_cons_zero, List.getD_cons_succ, -List.getD_eq_getElem?_getD, pureOp, msg_nil0]; first | exact z1 c h | exact ⟨.mk c, h⟩))
 refine zs (zy (fun hb44 => ?_) fun hb44 => ?_)
 · have hkk := hkl _ (getD_mem (d := (0 : Int)) hb44)
   have hE := msg_take (W := c.ws) hb44
   have hwp := List.length_pos_iff.2 (hv.ne _ (W_mem (show (l.getD k 0).toNat < c.ws.length by omega)))
   refine zk (zs (zb (zs (zr ?_ (h := by intro c K h; simp [hG, List.getD_cons_zero, List.getD_cons_succ, -List.getD_eq_getElem?_getD, pureOp, msg_nil0]; first | exact z1 c h | exact ⟨.mk c, h⟩)))))
   refine zL (zl 5 ?_ (h := by intro c K h; simp [hG, List.getD_cons_zero, List.getD_cons_succ, -List.getD_eq_getElem?_getD, pureOp, msg_nil0]; first | exact z1 c h | exact ⟨.mk c, h⟩))
   refine awpL_fc cal57 [0, 1] (fun _ => false) (writeK_c (posB k) (msg c.ws (l.take k)) (c.ws.getD (l.getD k 0).toNat []) (by have := msg_pre (W := c.ws) (l := l) (k := k + 1); rw [hE, List.length_append] at this; omega)) rfl rfl rfl (by simp) (.inl fun _ => rfl) ?_ ?_ ?_ fun K hK x hI hno => ?_
   · simp [hG, List.getD_cons_zero, List.getD_cons_succ, -List.getD_eq_getElem?_getD, pureOp, msg_nil0]
   · simp [hG, List.range'_succ, List.range'_zero, List.getD_cons_zero, List.getD_cons_succ, -List.getD_eq_getElem?_getD]
   · simp [hG, pureOp, List.getD_cons_zero, List.getD_cons_succ, -List.getD_eq_getElem?_getD]; cases hp : posB k with
       | true => exact .inl rfl
       | false => rw [posB_no hp]; exact .inr ⟨rfl, rfl⟩
   simp [hG, List.getD_cons_zero, List.getD_cons_succ, -List.getD_eq_getElem?_getD, pureOp, msg_nil0]
   refine hK _ ?_
   clear K hK
   refine zN (zn (zbn (zr ?_ (h := by intro c K h; simp [hG, List.getD_cons_zero, List.getD_cons_succ, -List.getD_eq_getElem?_getD, pureOp, msg_nil0]; first | exact z1 c h | exact ⟨.mk c, h⟩))))
   refine zn ?_
   refine round_end (k + 1) (by omega) (by omega) ?_
   exact zw (fun k => if k = 1 then 2 else k) (fun _ => false) (fun _ => false) (e := by simp [hG, List.getD_cons_zero, List.getD_cons_succ, -List.getD_eq_getElem?_getD, pureOp, msg_nil0]) (h := by rw [hE]; simp [hG, pureOp, List.getD_cons_zero, List.getD_cons_succ, -List.getD_eq_getElem?_getD])
 obtain rfl : k = l.length := (by omega)
 refine zx (ztx (zbx (zs ?_)))
 by_cases hsp : posB l.length = true
 · have hwne : (msg c.ws (l.take l.length)) ≠ [] := enc_ne hv hkl (posB_yes hsp)
   refine zL ?_
   refine zf cal58 [0, 1] (stringB (S := 2) (off := 0) (hin := [(0, .typ 87 (.arr 1 2 (fun _ j => bF (selfQ true) (.sl (1, 0) 0 ((msg c.ws (l.take l.length))).length) j))), (1, .typ 5 (.arr ((msg c.ws (l.take l.length))).length 1 (byF ((msg c.ws (l.take l.length))))))]) (nin := 2) (l := (msg c.ws (l.take l.length))) (id := (1, 0)) rfl (by omega) rfl rfl rfl (Nat.le_refl _) hwne (fun i hi => rfl) (by rw [List.take_length]; omega)) (fun x hI hno => ?_) (a := by simp [hG, List.getD_cons_zero, List.getD_cons_succ, -List.getD_eq_getElem?_getD, pureOp, msg_nil0, hsp]) (b := by simp [hG, List.getD_cons_zero, List.getD_cons_succ, -List.getD_eq_getElem?_getD, pureOp, msg_nil0, hsp]) (c := by simp [hG, List.getD_cons_zero, List.getD_cons_succ, -List.getD_eq_getElem?_getD, pureOp, msg_nil0, hsp]) (h := by intro K h x hI hno; simp [hG, List.getD_cons_zero, List.getD_cons_succ, -List.getD_eq_getElem?_getD, pureOp, msg_nil0, hsp]; exact h x hI hno)
   refine zl 2 ?_ (h := by intro c K h; simp [hG, List.getD_cons_zero, List.getD_cons_succ, -List.getD_eq_getElem?_getD, pureOp, msg_nil0, hsp]; first | exact z1 c h | exact ⟨.mk c, h⟩)
   refine zN (zt ?_)
   refine RetOK_of ?_
   simp [hG, List.getD_cons_zero, List.getD_cons_succ, -List.getD_eq_getElem?_getD, pureOp, msg_nil0, hsp]
 obtain rfl : l = [] := List.length_eq_zero_iff.1 (posB_no (by simpa using hsp))
 refine zL ?_
 refine zf cal58 [0] (stringNilB (S := 2) (off := 0) (hin := [(0, .typ 87 (.arr 1 2 (fun _ j => bF (selfQ false) .nils j)))]) (nin := 1) rfl (by omega) rfl) (fun x hI hno => ?_) (a := by simp [hG, List.getD_cons_zero, List.getD_cons_succ, -List.getD_eq_getElem?_getD, pureOp, msg_nil0, hsp]) (b := by simp [hG, List.getD_cons_zero, List.getD_cons_succ, -List.getD_eq_getElem?_getD, pureOp, msg_nil0, hsp]) (c := by simp [hG, List.getD_cons_zero, List.getD_cons_succ, -List.getD_eq_getElem?_getD, pureOp, msg_nil0, hsp]) (h := by intro K h x hI hno; simp [hG, List.getD_cons_zero, List.getD_cons_succ, -List.getD_eq_getElem?_getD, pureOp, msg_nil0, hsp]; exact h x hI hno)
 refine zl 2 ?_ (h := by intro c K h; simp [hG, List.getD_cons_zero, List.getD_cons_succ, -List.getD_eq_getElem?_getD, pureOp, msg_nil0, hsp]; first | exact z1 c h | exact ⟨.mk c, h⟩)
 refine zN (zt ?_)
 refine RetOK_of ?_
 simp [hG, List.getD_cons_zero, List.getD_cons_succ, -List.getD_eq_getElem?_getD, pureOp, msg_nil0, hsp]
@[simp] theorem vecF_ints {l : List Int} {i j : Nat} : vecF (fun (x : Int) (_ : Nat) => AVal.int .i64 x) 0 l i j = .int .i64 (l.getD i 0) := rfl
theorem ints_take {l : List Int} {i q : Nat} (h : q < i) : (l.take i).getD q 0 = l.getD q 0 := by
  simp [List.getD, List.getElem?_take, h]
theorem mean_one {c : Cd} (ho : cdN c = 0) (hb : ∀ w ∈ c.ws, w.length ≤ 6) {l : List UInt8} (h0 : 0 < l.length) {d : Nat} (hd : DlIs c.ws d) (hle : (c.ws.getD ((listL c l).getD 0 0).toNat []).length + d ≤ (msg c.ws (listL c l)).length) :
    pfL c ((msg c.ws (listL c l)).take ((c.ws.getD ((listL c l).getD 0 0).toNat []).length + d)) = [(listL c l).getD 0 0] ∧ ckN c ((msg c.ws (listL c l)).take ((c.ws.getD ((listL c l).getD 0 0).toNat []).length + d)) = 0 ∧ (listL c l).take 1 = [(listL c l).getD 0 0] := by
  have hv := cd_ok ho
  have hck := fin_chk hv hb (l := l) (n := (c.ws.getD ((listL c l).getD 0 0).toNat []).length + d)
  have hlk := listL_ok (c := c) (l := l) (by have := hv.n; omega)
  rw [pf_ok ho hck]
  refine ⟨?_, ck_ok ho hck, ?_⟩
  all_goals
    have hlen := listL_len (c := c) (l := l)
    generalize listL c l = L at *
    cases L with
    | nil => simp at hlen; omega
    | cons k L => first | exact pre_one hd hlk (Nat.le_refl _) hle | rfl
set_option maxRecDepth 100000 in
set_option maxHeartbeats 1000000 in
theorem meaningLaw_c (c : Cd) (hl : c.ws.length ≤ maxLen) (l : List UInt8) (hll : l.length ≤ maxLen) : PC Try.prog 7 [.agg 2 (cdF c), Lift.bytes l] (.bool true) := by
 have hML : maxLen = 9223372036854775807 := by decide
 refine zp Try.func7 fun G hG hR => ?_
 refine zs (zrP ?_)
 refine zs (zs (zL (zlP 1 ?_)))
 refine zcP cal26 (fine_c c hl) ?_
 refine zlP 6 ?_
 refine zN (zy (fun hb31 => ?_) fun hb31 => ?_)
 · refine zs (zL ?_)
   refine zcP cal11 awake_c ?_
   refine zlP 1 ?_
   refine zN (zt ?_)
   exact zRP
 obtain ⟨ho, hv, h6, hw6⟩ := fine_ok hb31.1
 have hWn := hv.n
 have hl0 : 0 < l.length := (by first | omega | exact List.length_pos_iff.2 hb31.2)
 have hdp := dlD_pos (c := c)
 have har := ar_ok ho
 have hlk := listL_ok (c := c) (l := l) (by omega)
 have hlen := listL_len (c := c) (l := l)
 have hk0 := hlk _ (getD_mem (d := (0 : Int)) (show 0 < (listL c l).length by omega))
 have hxl := hw6 _ (W_mem (show ((listL c l).getD 0 0).toNat < c.ws.length by omega))
 refine zk (zs (zL (zlP 1 ?_)))
 refine zcP cal12 (delay_c c hl) ?_
 refine zlP 7 ?_
 refine zN (zs (zs (zrP ?_)))
 refine awpS_cond rfl (fun hb44 => ?_) (fun hb44 => ?_)
 · simp [har] at hb44; omega
 try simp [-List.getD_eq_getElem?_getD] at hb44
 refine zk (zs (zs (zrP ?_)))
 refine zy (fun hb46 => ?_) fun hb46 => ?_
 · have hz := dl_none ho (by simpa using hb46)
   refine zs (zL (zlP 3 ?_))
   refine zcP cal11 awake_c ?_
   refine zlP 2 ?_
   refine zN (zt ?_)
   refine RetOK_of ?_
   simp [hG, List.getD_cons_zero, List.getD_cons_succ, -List.getD_eq_getElem?_getD, pureOp]
   exact hz
 have hdB : dlB c = true := (by simpa using hb46)
 obtain ⟨dd, hdd, hdi⟩ := dl_some ho hdB
 have hdl := dd_le ho hdd hdB
 rw [hdd]
 have hwn : bdN c (min (dd : Int) 4096) = 0 := bd_ok ho (by omega)
 have hwz : (dd : Int) ≤ 4096 → wsB c (min (dd : Int) 4096) = false := (fun h => by rw [Int.min_eq_left h]; exact ws_none ho hdi (by omega))
 refine zk (zs (zs (zL (zlP 3 ?_))))
 refine zcP cal24 (witness_c c hl (min (dd : Nat) 4096 : Int)) ?_
 refine zlP 11 ?_
 refine zN (zs (zrP ?_))
 refine awpS_cond rfl (fun hb70 => ?_) (fun hb70 => ?_)
 · simp [hwn] at hb70; exact absurd (hwz hb70.2) (by simp [hb70.1])
 try simp [-List.getD_eq_getElem?_getD] at hb70
 refine zk (zs (zs (zrP ?_)))
 refine zy (fun hb76 => ?_) fun hb76 => ?_
 · have hw1 : wsB c ((dd : Int) - 1) = true := ws_some ho hdi (by omega) (by omega)
   have hw2 : bdN c ((dd : Int) - 1) = 0 := bd_ok ho (by omega)
   refine zs (zL (zlP 3 ?_))
   refine zcP cal24 (witness_c c hl ((dd : Nat) - 1 : Int)) ?_
   refine zlP 11 ?_
   refine zN (zs (zrP ?_))
   refine awpS_cond rfl (fun hb92 => ?_) (fun hb92 => ?_)
   · simp [hw1, hw2] at hb92
   try simp [-List.getD_eq_getElem?_getD] at hb92
   refine zk (zs (zL (zlP 2 ?_)))
   refine zcP cal29 (listC_c c (by omega) (by omega) l hll) ?_
   refine zlP 1 ?_
   refine zN (zs (zL (zlP 2 ?_)))
   refine zcP cal30 (encode_c c hl ho (listL c l) (by have := listL_len (c := c) (l := l); omega) (listL_ok (by omega)) (by have := fin_msg hv hw6 (l := l); omega)) ?_
   refine zlP 5 ?_
   refine zN (zs ?_)
   refine awpS_draw hR mixed [] ⟨[], [], []⟩ fun mu0 => ?_
   refine zaP [0, 1, 2, 3, 4, 5, 6, 7, 8, 9, 10] [] 0 [10, 9, 8, 7, 6, 5, 4, 3, 2, 1, 0] ?_
   refine awpA_done (by decide +kernel) ?_
   refine zs (zs (zrP ?_))
   refine zy (fun hb119 => ?_) fun hb119 => ?_
   · refine zs (zL (zlP 3 ?_))
     refine zcP cal11 awake_c ?_
     refine zlP 2 ?_
     refine zN (zt ?_)
     exact zRP
   have hmo := mean_one ho hw6 hl0 hdi (by omega)
   refine zk (zs ?_)
   refine awpS_draw hR mixed [] ⟨[], [], []⟩ fun mu0 => ?_
   refine zaP [0, 1, 2, 3] [] 6 [3, 2, 1, 0] ?_
   refine awpA_only (fuel := 5) (i := 4) (by decide +kernel) ?_
   refine zeP cal19 (prefixes_c c hl ((msg c.ws (listL c l)).take ((c.ws.getD ((listL c l).getD 0 0).toNat []).length + dd))) ?_
   refine zaP [5, 6, 7, 8, 9] [] 0 [9, 8, 7, 6, 5, 4, 3, 2, 1, 0] ?_
   refine awpA_done (by decide +kernel) ?_
   refine zs (zL (zlP 6 ?_))
   refine zcP cal23 (equalI_c (pfL c ((msg c.ws (listL c l)).take ((c.ws.getD ((listL c l).getD 0 0).toNat []).length + dd))) ((listL c l).take 1) (pf_len c _)) ?_ (b := fun hg => by simp [hG, pureOp, List.getD_cons_zero, List.getD_cons_succ, -List.getD_eq_getElem?_getD]; exact ⟨by omega, fun i hi => by rw [ints_take (by omega)]⟩)
   refine zlP 2 ?_
   refine zcP cal11 awake_c ?_
   refine zlP 2 ?_
   refine zN (zt ?_)
   refine RetOK_of ?_
   simp [hG, List.getD_cons_zero, List.getD_cons_succ, -List.getD_eq_getElem?_getD, pureOp]
   obtain ⟨h1, h2, h3⟩ := hmo; exact ⟨h2, by rw [h1, h3]⟩
 refine zk (zs (zL (zlP 2 ?_)))
 refine zcP cal29 (listC_c c (by omega) (by omega) l hll) ?_
 refine zlP 1 ?_
 refine zN (zs (zL (zlP 2 ?_)))
 refine zcP cal30 (encode_c c hl ho (listL c l) (by have := listL_len (c := c) (l := l); omega) (listL_ok (by omega)) (by have := fin_msg hv hw6 (l := l); omega)) ?_
 refine zlP 5 ?_
 refine zN (zs ?_)
 refine awpS_draw hR mixed [] ⟨[], [], []⟩ fun mu0 => ?_
 refine zaP [0, 1, 2, 3, 4, 5, 6, 7, 8, 9, 10] [] 0 [10, 9, 8, 7, 6, 5, 4, 3, 2, 1, 0] ?_
 refine awpA_done (by decide +kernel) ?_
 refine zs (zs (zrP ?_))
 refine zy (fun hb119 => ?_) fun hb119 => ?_
 · refine zs (zL (zlP 3 ?_))
   refine zcP cal11 awake_c ?_
   refine zlP 2 ?_
   refine zN (zt ?_)
   exact zRP
 have hmo := mean_one ho hw6 hl0 hdi (by omega)
 refine zk (zs ?_)
 refine awpS_draw hR mixed [] ⟨[], [], []⟩ fun mu0 => ?_
 refine zaP [0, 1, 2, 3] [] 6 [3, 2, 1, 0] ?_
 refine awpA_only (fuel := 5) (i := 4) (by decide +kernel) ?_
 refine zeP cal19 (prefixes_c c hl ((msg c.ws (listL c l)).take ((c.ws.getD ((listL c l).getD 0 0).toNat []).length + dd))) ?_
 refine zaP [5, 6, 7, 8, 9] [] 0 [9, 8, 7, 6, 5, 4, 3, 2, 1, 0] ?_
 refine awpA_done (by decide +kernel) ?_
 refine zs (zL (zlP 6 ?_))
 refine zcP cal23 (equalI_c (pfL c ((msg c.ws (listL c l)).take ((c.ws.getD ((listL c l).getD 0 0).toNat []).length + dd))) ((listL c l).take 1) (pf_len c _)) ?_ (b := fun hg => by simp [hG, pureOp, List.getD_cons_zero, List.getD_cons_succ, -List.getD_eq_getElem?_getD]; exact ⟨by omega, fun i hi => by rw [ints_take (by omega)]⟩)
 refine zlP 2 ?_
 refine zcP cal11 awake_c ?_
 refine zlP 2 ?_
 refine zN (zt ?_)
 refine RetOK_of ?_
 simp [hG, List.getD_cons_zero, List.getD_cons_succ, -List.getD_eq_getElem?_getD, pureOp]
 obtain ⟨h1, h2, h3⟩ := hmo; exact ⟨h2, by rw [h1, h3]⟩
theorem read_as {c : Cd} (hl : c.ws.length ≤ maxLen) {d : Int} {w : Wd} {L : List Int} {m : Int} (h1 : reL c d w = L) (h2 : reM c d w = m) (h3 : reN c d w = 0) : PC Try.prog 21 [.agg 2 (cdF c), .int .i64 d, .str w] (.tup 3 (fun j => [ints L, .int .i64 m, .int .i64 0].getD j .any)) := by
  have h := read_c c hl d w
  rw [h1, h2, h3] at h
  exact h
set_option maxRecDepth 100000 in
set_option maxHeartbeats 1000000 in
theorem readingLaw_c (c : Cd) (hl : c.ws.length ≤ maxLen) (l : List UInt8) (hll : l.length ≤ maxLen) (b : Int) (hb8 : 0 ≤ b ∧ b < 256) : PC Try.prog 6 [.agg 2 (cdF c), Lift.bytes l, .int .u8 b] (.bool true) := by
 have hML : maxLen = 9223372036854775807 := by decide
 refine zp Try.func6 fun G hG hR => ?_
 refine zs (zrP ?_)
 refine zs (zs (zL (zlP 1 ?_)))
 refine zcP cal26 (fine_c c hl) ?_
 refine zlP 1 ?_
 refine zN (zy (fun hb20 => ?_) fun hb20 => ?_)
 · refine zs (zL ?_)
   refine zcP cal11 awake_c ?_
   refine zlP 1 ?_
   refine zN (zt ?_)
   exact zRP
 obtain ⟨ho, hv, h6, hw6⟩ := fine_ok hb20
 have hWn := hv.n
 have har := ar_ok ho
 have hdp := dlD_pos (c := c)
 have hlk := listL_ok (c := c) (l := l) (by omega)
 have hlen := listL_len (c := c) (l := l)
 have hmg := fin_msg hv hw6 (l := l)
 refine zk (zs (zL (zlP 1 ?_)))
 refine zcP cal12 (delay_c c hl) ?_
 refine zlP 7 ?_
 refine zN (zs (zs (zrP ?_)))
 refine zy (fun hb41 => ?_) fun hb41 => ?_
 · refine zs (zL (zlP 7 ?_))
   refine zcP cal11 awake_c ?_
   refine zlP 2 ?_
   refine zN (zt ?_)
   refine RetOK_of ?_
   simp [hG, List.getD_cons_zero, List.getD_cons_succ, -List.getD_eq_getElem?_getD, pureOp]
   exact ⟨har, hdp⟩
 have hdB : dlB c = true := (by simp_all)
 have hd100 : dlD c ≤ 100 := (by simp_all)
 obtain ⟨dd, hdd, hdi⟩ := dl_some ho hdB
 obtain ⟨e, he⟩ : ∃ e : Nat, (e : Int) = dlD c + b % 4 := ⟨(dlD c + b % 4).toNat, by omega⟩
 have hck : ckN c (msg c.ws (listL c l)) = 0 := ck_ok ho (by have := fin_chk hv hw6 (l := l) (n := (msg c.ws (listL c l)).length); rwa [List.take_length] at this)
 obtain ⟨k, hkl, hrL, hrM, hrN, hfin⟩ := rdg ho hdi (show dd ≤ e by omega) (by omega) hlk hck
 have hpg := msg_pre (W := c.ws) (l := (listL c l)) (k := k)
 have hRo := fun j (hj : j ∈ (listL c l).take k) => hlk j (List.mem_of_mem_take hj)
 have hRk : ((listL c l).take k).length = k := (by rw [List.length_take]; omega)
 generalize hRT : (listL c l).take k = R at *
 subst hRk
 refine zk (zs (zL (zlP 2 ?_)))
 refine zcP cal29 (listC_c c (by omega) (by omega) l hll) ?_
 refine zlP 1 ?_
 refine zN (zs (zL (zlP 2 ?_)))
 refine zcP cal30 (encode_c c hl ho (listL c l) (by have := listL_len (c := c) (l := l); omega) (listL_ok (by omega)) (by have := fin_msg hv hw6 (l := l); omega)) ?_
 refine zlP 5 ?_
 refine zN (zs (zL (zlP 7 ?_)))
 refine zcP cal21 (read_as hl hrL hrM hrN) ?_
 refine zlP 7 ?_
 refine zN (zs (zs (zL (zlP 19 ?_))))
 refine zcP cal23 (equalI_c R ((listL c l).take R.length) (by omega)) ?_ (b := fun hg => by simp [hG, pureOp, List.getD_cons_zero, List.getD_cons_succ, -List.getD_eq_getElem?_getD]; exact ⟨by omega, fun i hi => by rw [ints_take (by omega)]⟩)
 refine zlP 2 ?_
 refine zN ?_
 refine awpS_cond rfl (fun hb93 => ?_) (fun hb93 => ?_)
 · simp [hRT] at hb93 <;> omega
 try simp [-List.getD_eq_getElem?_getD] at hb93
 refine zk (zs (zL (zlP 2 ?_)))
 refine zcP cal30 (encode_c c hl ho R (by omega) hRo (by omega)) ?_
 refine zlP 5 ?_
 refine zN (zs (zs (zrP ?_)))
 refine awpS_cond rfl (fun hb107 => ?_) (fun hb107 => ?_)
 · simp at hb107
 try simp [-List.getD_eq_getElem?_getD] at hb107
 refine zk (zs ?_)
 by_cases hE : R.length = (listL c l).length
 · refine awpS_draw hR mixed [] ⟨[], [], []⟩ fun mu0 => ?_
   refine za [0, 1, 2, 3, 4, 5, 6, 7, 8, 9, 10, 11, 12, 13, 14, 15, 16, 17, 18, 19, 20, 21, 22, 23, 24, 25, 26, 27, 28] [] 3 [28, 27, 26, 25, 24, 23, 22, 21, 20, 19, 18, 17, 16, 15, 14, 13, 12, 11, 10, 9, 8, 7, 6, 5, 4, 3, 2, 1, 0] ?_ (h := by intro c K h; simp [hG, List.getD_cons_zero, List.getD_cons_succ, -List.getD_eq_getElem?_getD, pureOp, hE]; first | exact z1 c h | exact ⟨.mk c, h⟩)
   refine awpA_only (fuel := 2) (i := 29) (by decide +kernel) ?_
   refine ze cal11 awake_c ?_ (a := fun hg => by first | (simp [hG, List.getD_cons_zero, List.getD_cons_succ, -List.getD_eq_getElem?_getD, pureOp, hE]; done) | (simp [-List.getD_eq_getElem?_getD] at hg; done) | (simp [-List.getD_eq_getElem?_getD] at hg; simp [hG, List.getD_cons_zero, List.getD_cons_succ, -List.getD_eq_getElem?_getD, pureOp, hE]; first | omega | exact hg | (simp_all [-List.getD_eq_getElem?_getD]; done) | (simp_all [-List.getD_eq_getElem?_getD]; first | exact ⟨rfl, rfl⟩ | exact rfl))) (b := fun hg => by first | (simp [hG, List.getD_cons_zero, List.getD_cons_succ, -List.getD_eq_getElem?_getD, pureOp, hE]; done) | (simp [-List.getD_eq_getElem?_getD] at hg; done) | (simp [-List.getD_eq_getElem?_getD] at hg; simp [hG, List.getD_cons_zero, List.getD_cons_succ, -List.getD_eq_getElem?_getD, pureOp, hE]; first | omega | exact hg | (simp_all [-List.getD_eq_getElem?_getD]; done) | (simp_all [-List.getD_eq_getElem?_getD]; first | exact ⟨rfl, rfl⟩ | exact rfl))) (h := by intro K h; simp [hG, List.getD_cons_zero, List.getD_cons_succ, -List.getD_eq_getElem?_getD, pureOp, hE]; exact h)
   refine za [30, 31] [] 0 [31, 30, 29, 28, 27, 26, 25, 24, 23, 22, 21, 20, 19, 18, 17, 16, 15, 14, 13, 12, 11, 10, 9, 8, 7, 6, 5, 4, 3, 2, 1, 0] ?_ (h := by intro c K h; simp [hG, List.getD_cons_zero, List.getD_cons_succ, -List.getD_eq_getElem?_getD, pureOp, hE]; first | exact z1 c h | exact ⟨.mk c, h⟩)
   refine awpA_done (by decide +kernel) ?_
   refine zt ?_
   refine RetOK_of ?_
   simp [hG, List.getD_cons_zero, List.getD_cons_succ, -List.getD_eq_getElem?_getD, pureOp, hE]
 have hRl : R.length < (listL c l).length := (by omega)
 have hxk := hlk _ (getD_mem (d := (0 : Int)) hRl)
 have hxw := hw6 _ (W_mem (show ((listL c l).getD R.length 0).toNat < c.ws.length by omega))
 refine awpS_draw hR mixed [] ⟨[], [], []⟩ fun mu0 => ?_
 refine za [0, 1, 2, 3, 4, 5, 6, 7, 8, 9, 10, 11, 12, 13, 14, 15, 16, 17, 18, 19, 20, 21, 22, 23, 24, 25, 26, 27, 28] [] 3 [28, 27, 26, 25, 24, 23, 22, 21, 20, 19, 18, 17, 16, 15, 14, 13, 12, 11, 10, 9, 8, 7, 6, 5, 4, 3, 2, 1, 0] ?_ (h := by intro c K h; simp [hG, List.getD_cons_zero, List.getD_cons_succ, -List.getD_eq_getElem?_getD, pureOp, hE]; first | exact z1 c h | exact ⟨.mk c, h⟩)
 refine awpA_only (fuel := 2) (i := 29) (by decide +kernel) ?_
 refine ze cal11 awake_c ?_ (a := fun hg => by first | (simp [hG, List.getD_cons_zero, List.getD_cons_succ, -List.getD_eq_getElem?_getD, pureOp, hE]; done) | (simp [-List.getD_eq_getElem?_getD] at hg; done) | (simp [-List.getD_eq_getElem?_getD] at hg; simp [hG, List.getD_cons_zero, List.getD_cons_succ, -List.getD_eq_getElem?_getD, pureOp, hE]; first | omega | exact hg | (simp_all [-List.getD_eq_getElem?_getD]; done) | (simp_all [-List.getD_eq_getElem?_getD]; first | exact ⟨rfl, rfl⟩ | exact rfl))) (b := fun hg => by first | (simp [hG, List.getD_cons_zero, List.getD_cons_succ, -List.getD_eq_getElem?_getD, pureOp, hE]; done) | (simp [-List.getD_eq_getElem?_getD] at hg; done) | (simp [-List.getD_eq_getElem?_getD] at hg; simp [hG, List.getD_cons_zero, List.getD_cons_succ, -List.getD_eq_getElem?_getD, pureOp, hE]; first | omega | exact hg | (simp_all [-List.getD_eq_getElem?_getD]; done) | (simp_all [-List.getD_eq_getElem?_getD]; first | exact ⟨rfl, rfl⟩ | exact rfl))) (h := by intro K h; simp [hG, List.getD_cons_zero, List.getD_cons_succ, -List.getD_eq_getElem?_getD, pureOp, hE]; exact h)
 refine za [30, 31] [] 0 [31, 30, 29, 28, 27, 26, 25, 24, 23, 22, 21, 20, 19, 18, 17, 16, 15, 14, 13, 12, 11, 10, 9, 8, 7, 6, 5, 4, 3, 2, 1, 0] ?_ (h := by intro c K h; simp [hG, List.getD_cons_zero, List.getD_cons_succ, -List.getD_eq_getElem?_getD, pureOp, hE]; first | exact z1 c h | exact ⟨.mk c, h⟩)
 refine awpA_done (by decide +kernel) ?_
 refine zt ?_
 refine RetOK_of ?_
 simp [hG, List.getD_cons_zero, List.getD_cons_succ, -List.getD_eq_getElem?_getD, pureOp, hE]
 rcases hfin with h | h; (exact .inl (by omega)); exact .inr (by omega)
end Go.Proofs.Ytoafgeobhhlplaa
namespace Go.Proofs.Ytoafgeobhhlplaa
set_option linter.unusedSimpArgs false
set_option linter.unusedVariables false
open Go Go.Lift
section
variable {W : List Wd}
theorem pfx_zero (h : ∀ i k, i < W.length → k < W.length → i ≠ k → ¬ W.getD k [] <+: W.getD i []) : DlIs W 0 := by
  constructor
  · intro i u hi ho
    exfalso
    have h1 := opn_less (u := []) (v := u) (by simpa using ho)
    obtain ⟨_, k, hk, hne, h2⟩ := h1
    rw [List.append_nil] at h2
    rcases rd_pre.1 h2 with h3 | ⟨h3, _⟩
    · exact h k i hk hi hne h3
    · exact h i k hi hk (Ne.symm hne) h3
  · intro n hn; omega
theorem RSt.addG {l : List Wd} {s : Wd} (h : RSt W l) (hs : DerR W s) : RSt W (addG l s) := by
  refine ⟨addG_nd h.1, fun r hr => ?_⟩
  rcases addG_mem.1 hr with h1 | rfl
  · exact h.2 r h1
  · exact hs
theorem RSt.nil : RSt W [] := ⟨List.nodup_nil, fun r hr => by cases hr⟩
theorem seen_get {r : Wd} : ∀ {L : List Wd}, (alGet (seenG L) r).getD false = decide (r ∈ L)
  | [] => rfl
  | a :: L => by
    show ((if r = a then some true else alGet (seenG L) r) : Option Bool).getD false = _
    by_cases h : r = a
    · rw [if_pos h, h]; simp
    · rw [if_neg h, seen_get]
      simp [h]
theorem addG_len {α : Type} [DecidableEq α] {L : List α} {r : α} : L.length ≤ (addG L r).length := by
  unfold addG; split <;> simp
theorem rst_perm {L M : List Wd} (h : RSt W L) (hp : M.Perm L) : RSt W M := ⟨hp.nodup_iff.2 h.1, fun r hr => h.2 r (hp.mem_iff.1 hr)⟩
theorem addG_yes {α : Type} [DecidableEq α] {L : List α} {r : α} (h : r ∈ L) : addG L r = L := if_pos h
theorem addG_no {α : Type} [DecidableEq α] {L : List α} {r : α} (h : r ∉ L) : addG L r = L ++ [r] := if_neg h
theorem der_first {i k : Nat} (hi : i < W.length) (hk : k < W.length) (h : W.getD i [] <+: W.getD k []) (h0 : (W.getD k []).drop (W.getD i []).length ≠ []) : DerR W ((W.getD k []).drop (W.getD i []).length) :=
  .ini hk hi (fun e => h0 (by rw [e]; simp)) h
end
section
variable {c : Cd}
theorem pfx_iff (ho : cdN c = 0) : (dlB c && decide (dlD c = 0)) = true ↔ ∀ i k, i < c.ws.length → k < c.ws.length → i ≠ k → ¬ c.ws.getD k [] <+: c.ws.getD i [] := by
  constructor
  · intro h
    rw [Bool.and_eq_true, decide_eq_true_eq] at h
    obtain ⟨d, h1, h2⟩ := dl_some ho h.1
    exact (dl_zero h2).1 (by omega)
  · intro h
    have h1 := dl_yes ho (pfx_zero h)
    unfold dlB dlD
    rw [if_pos ho, h1, decide_eq_true ho]; rfl
theorem der_no (ho : cdN c = 0) (h : DerR c.ws []) : dlB c = false := by
  have hv := cd_ok ho
  cases hb : dlB c with
  | false => rfl
  | true =>
    obtain ⟨d, _, h2⟩ := dl_some ho hb
    exact absurd (no_end hv.ne h fun n => by
      obtain ⟨u, e, hr⟩ := rd_long (show 0 < c.ws.length by have := hv.n; omega) hv.ne n
      exact ⟨u, e, hr, hr⟩) h2.not
end
theorem lessW_tri {a b : Wd} (h : ¬ lessW a b) (h2 : ¬ lessW b a) : a = b := by
  unfold lessW at h h2
  have hl : a.length = b.length := by omega
  have h3 : ¬ a < b := fun k => h (.inr ⟨hl, k⟩)
  have h4 : ¬ b < a := fun k => h2 (.inr ⟨hl.symm, k⟩)
  exact List.le_antisymm (List.not_lt.1 h4) (List.not_lt.1 h3)
theorem lessW_irr {a : Wd} : ¬ lessW a a := fun h => lessW_ne h rfl
theorem lessW_ntr {a b d : Wd} (h : ¬ lessW a b) (h2 : ¬ lessW b d) : ¬ lessW a d := by
  intro h3
  by_cases h4 : lessW d b
  · exact h (lessW_trans h3 h4)
  · have := lessW_tri h2 h4
    subst this
    exact h h3
end Go.Proofs.Ytoafgeobhhlplaa
namespace Go.Proofs.Ytoafgeobhhlplaa
set_option linter.unusedSimpArgs false
set_option linter.unusedVariables false
open Go Go.Lift Go.Proofs
set_option maxRecDepth 100000 in
theorem cutP0_c (s p : List UInt8) : PC Try.prog 103 [.str s, .str p] (.tup 2 (fun j => [.str (if p <+: s then s.drop p.length else s), .bool (decide (p <+: s))].getD j .any)) := by
 refine zp Try.func103 fun G hG hR => ?_
 refine zs (zrP ?_)
 refine zs (zs (zL (zlP 2 ?_)))
 refine zcP cal55 (preS_c s p) ?_
 refine zlP 1 ?_
 refine zN (zy (fun hb9 => ?_) fun hb9 => ?_)
 · have hno : ¬ p <+: s := (by simpa using hb9)
   refine zs (zrP ?_)
   refine zt ?_
   refine RetOK_of ?_
   simp [hG, List.getD_cons_zero, List.getD_cons_succ, -List.getD_eq_getElem?_getD, pureOp]
   exact ⟨fun h => absurd h hno, hno⟩
 have hye : p <+: s := (by simpa using hb9)
 have hpl := hye.length_le
 refine zk (zs (zrP ?_))
 refine zt ?_
 refine RetOK_of ?_
 simp [hG, List.getD_cons_zero, List.getD_cons_succ, -List.getD_eq_getElem?_getD, pureOp]
 exact ⟨fun h => absurd hye h, hye⟩
set_option maxRecDepth 100000 in
theorem cutP_c (s p : List UInt8) : PC Try.prog 97 [.str s, .str p] (.tup 2 (fun j => [.str (if p <+: s then s.drop p.length else s), .bool (decide (p <+: s))].getD j .any)) := by
 refine zp Try.func97 fun G hG hR => ?_
 refine zs (zr ?_)
 refine zs (zL (zl 2 ?_))
 refine zc cal103 (cutP0_c s p) ?_
 refine zl 4 ?_
 refine zN (zt ?_)
 exact zR
set_option maxRecDepth 100000 in
theorem addRes_c (L : List Wd) (r : List UInt8) (hL : L.length ≤ 100000) : FC1 Try.prog 89 [.str r, .ptr (0, 0) 0 0, .ptr (1, 0) 0 0] [(0, .one (.arr 1 1 (fun _ _ => .map (2, 0)))), (1, .one (.arr 1 1 (fun _ _ => .sl (3, 0) 0 L.length))), (2, .one (.mp (mpE strK boolV (seenG L)))), (3, .one (.arr L.length 1 (fun p _ => .str (L.getD p []))))] 4 (.tup 0 (fun _ => .any)) [(0, .one (.arr 1 1 (fun _ _ => .map (2, 0)))), (1, .one (.arr 1 1 (fun _ _ => .sl (4, 0) 0 (addG L r).length))), (2, .one (.mp (mpE strK boolV (seenG (addG L r))))), (4, .one (.arr (addG L r).length 1 (fun p _ => .str ((addG L r).getD p []))))] 5 := by
 refine FC_introS T_ok Try.func89 rfl (by simp [Try.ntmps89]) fun G hG hR => ?_
 simp only [Try.ntmps89, Try.results89] at hG ⊢
 simp only [argEnv, Nat.zero_add, Nat.reduceAdd]
 refine zs (zr ?_ (h := by intro c K h; simp [hG, List.getD_cons_zero, List.getD_cons_succ, -List.getD_eq_getElem?_getD, pureOp, seen_get]; first | exact z1 c h | exact ⟨.mk c, h⟩))
 refine zy (fun hb7 => ?_) fun hb7 => ?_
 · have hg := addG_no (L := L) (r := r) (by simpa using hb7)
   refine zs (zr ?_ (h := by intro c K h; simp [hG, List.getD_cons_zero, List.getD_cons_succ, -List.getD_eq_getElem?_getD, pureOp, seen_get]; first | exact z1 c h | exact ⟨.mk c, h⟩))
   refine zr ?_ (h := by intro c K h; simp [hG, List.getD_cons_zero, List.getD_cons_succ, -List.getD_eq_getElem?_getD, pureOp, seen_get]; first | exact z1 c h | exact ⟨.mk c, h⟩)
   refine zn ?_
   refine RetF_of (()) (fun k => if k = 4 then 5 else k) (fun _ => false) (fun _ => false) trivial ?_ ?_ (by rfl) (by simp) (fun k hk => ⟨if_neg (by omega), rfl⟩)
   · simp [hG, List.getD_cons_zero, List.getD_cons_succ, -List.getD_eq_getElem?_getD, pureOp, seen_get]
   rw [hg]; simp [hG, pureOp, List.getD_cons_zero, List.getD_cons_succ, -List.getD_eq_getElem?_getD]; exact fun i hi => app_oneS rfl hi
 have hg := addG_yes (L := L) (r := r) (by simpa using hb7)
 refine zk (zn ?_)
 refine RetF_of (()) (fun k => if k = 4 then 3 else k) (fun _ => false) (fun _ => false) trivial ?_ ?_ (by rfl) (by simp) (fun k hk => ⟨if_neg (by omega), rfl⟩)
 · simp [hG, List.getD_cons_zero, List.getD_cons_succ, -List.getD_eq_getElem?_getD, pureOp, seen_get]
 rw [hg]; simp [hG, pureOp, List.getD_cons_zero, List.getD_cons_succ, -List.getD_eq_getElem?_getD]
set_option maxRecDepth 100000 in
theorem bodyR_y (L : List Wd) (y r : List UInt8) (hL : L.length ≤ 100000) {l : Nat} {rec : Loop} {vs : Array Value} (hok : RecOK rec [5] vs #[14, 15] (rngA Try.f80.body 0) (rngB Try.f80.body 0) 44) : YC Try.prog l rec vs ([.str y, .str r] ++ [.ptr (3, 0) 0 0]) [(0, .one (.arr 1 1 (fun _ _ => .map (2, 0)))), (1, .one (.arr 1 1 (fun _ _ => .sl (4, 0) 0 L.length))), (2, .one (.mp (mpE strK boolV (seenG L)))), (3, .one (.arr 1 1 (fun _ _ => .fn 89 2 (fun j => [.ptr (0, 0) 0 0, .ptr (1, 0) 0 0].getD j .any)))), (4, .one (.arr L.length 1 (fun p _ => .str (L.getD p []))))] 5 (fun _ : Unit => True) (fun _ : Unit => .bool true) (fun _ : Unit => [(0, .one (.arr 1 1 (fun _ _ => .map (2, 0)))), (1, .one (.arr 1 1 (fun _ _ => .sl (5, 0) 0 (addG L r).length))), (2, .one (.mp (mpE strK boolV (seenG (addG L r))))), (3, .one (.arr 1 1 (fun _ _ => .fn 89 2 (fun j => [.ptr (0, 0) 0 0, .ptr (1, 0) 0 0].getD j .any)))), (5, .one (.arr (addG L r).length 1 (fun p _ => .str ((addG L r).getD p []))))]) (fun _ : Unit => 6) := by
 refine YC_introS hok rfl rfl (by simp [nobH, nobO]) rfl (by simp) rfl fun G hG hR => ?_
 show AwpS _ _ _ _ _ ⟨[(15, .str r), (14, .str y), (5, .ptr (3, 0) 0 0)], [(0, .one (.arr 1 1 (fun _ _ => .map (2, 0)))), (1, .one (.arr 1 1 (fun _ _ => .sl (4, 0) 0 L.length))), (2, .one (.mp (mpE strK boolV (seenG L)))), (3, .one (.arr 1 1 (fun _ _ => .fn 89 2 (fun j => [.ptr (0, 0) 0 0, .ptr (1, 0) 0 0].getD j .any)))), (4, .one (.arr L.length 1 (fun p _ => .str (L.getD p []))))], 5⟩
 refine zrP ?_
 refine zn ?_
 refine ⟨rfl, fun G hG hR => ?_⟩
 refine zb (zL (zlP 2 ?_))
 refine zfP cal89 [0, 1, 2, 4] (addRes_c L r hL) (fun x hI hno => ?_) (b := by simp [hG, List.range'_succ, List.range'_zero, List.getD_cons_zero, List.getD_cons_succ, -List.getD_eq_getElem?_getD])
 refine zN (zn (zbn (zn ?_)))
 refine ⟨rfl, RetY_of (()) (fun k => if k = 5 then 5 else k) (fun _ => false) (fun _ => false) trivial ?_ (by rfl) (by simp) (fun k hk => ⟨if_neg (by omega), rfl⟩)⟩
 simp [hG, List.getD_cons_zero, List.getD_cons_succ, -List.getD_eq_getElem?_getD, pureOp]
set_option maxRecDepth 100000 in
theorem bodyN_y (L : List Wd) (r : List UInt8) (n : Int) (hL : L.length ≤ 100000) {l : Nat} {rec : Loop} {vs : Array Value} (hok : RecOK rec [5] vs #[36, 37] (rngA Try.f80.body 1) (rngB Try.f80.body 1) 44) : YC Try.prog l rec vs ([.str r, .int .i64 n] ++ [.ptr (3, 0) 0 0]) [(0, .one (.arr 1 1 (fun _ _ => .map (2, 0)))), (1, .one (.arr 1 1 (fun _ _ => .sl (4, 0) 0 L.length))), (2, .one (.mp (mpE strK boolV (seenG L)))), (3, .one (.arr 1 1 (fun _ _ => .fn 89 2 (fun j => [.ptr (0, 0) 0 0, .ptr (1, 0) 0 0].getD j .any)))), (4, .one (.arr L.length 1 (fun p _ => .str (L.getD p []))))] 5 (fun _ : Unit => True) (fun _ : Unit => .bool true) (fun _ : Unit => [(0, .one (.arr 1 1 (fun _ _ => .map (2, 0)))), (1, .one (.arr 1 1 (fun _ _ => .sl (5, 0) 0 (addG L r).length))), (2, .one (.mp (mpE strK boolV (seenG (addG L r))))), (3, .one (.arr 1 1 (fun _ _ => .fn 89 2 (fun j => [.ptr (0, 0) 0 0, .ptr (1, 0) 0 0].getD j .any)))), (5, .one (.arr (addG L r).length 1 (fun p _ => .str ((addG L r).getD p []))))]) (fun _ : Unit => 6) := by
 refine YC_introS hok rfl rfl (by simp [nobH, nobO]) rfl (by simp) rfl fun G hG hR => ?_
 show AwpS _ _ _ _ _ ⟨[(37, .int .i64 n), (36, .str r), (5, .ptr (3, 0) 0 0)], [(0, .one (.arr 1 1 (fun _ _ => .map (2, 0)))), (1, .one (.arr 1 1 (fun _ _ => .sl (4, 0) 0 L.length))), (2, .one (.mp (mpE strK boolV (seenG L)))), (3, .one (.arr 1 1 (fun _ _ => .fn 89 2 (fun j => [.ptr (0, 0) 0 0, .ptr (1, 0) 0 0].getD j .any)))), (4, .one (.arr L.length 1 (fun p _ => .str (L.getD p []))))], 5⟩
 refine zrP ?_
 refine zn ?_
 refine ⟨rfl, fun G hG hR => ?_⟩
 refine zb (zL (zlP 2 ?_))
 refine zfP cal89 [0, 1, 2, 4] (addRes_c L r hL) (fun x hI hno => ?_) (b := by simp [hG, List.range'_succ, List.range'_zero, List.getD_cons_zero, List.getD_cons_succ, -List.getD_eq_getElem?_getD])
 refine zN (zn (zbn (zn ?_)))
 refine ⟨rfl, RetY_of (()) (fun k => if k = 5 then 5 else k) (fun _ => false) (fun _ => false) trivial ?_ (by rfl) (by simp) (fun k hk => ⟨if_neg (by omega), rfl⟩)⟩
 simp [hG, List.getD_cons_zero, List.getD_cons_succ, -List.getD_eq_getElem?_getD, pureOp]
set_option maxRecDepth 100000 in
set_option maxHeartbeats 1000000 in
theorem firstsI_c (l : Nat) (rec : Loop) (vs : Array Value) (hok : RecOK rec [5] vs #[14, 15] (rngA Try.f80.body 0) (rngB Try.f80.body 0) 44) (c : Cd) (hl : c.ws.length ≤ maxLen) (hv : CdOK c) (L : List Wd) (hL : RSt c.ws L) : FCY Try.prog 96 l rec [.yld l vs 1 (fun j => [.ptr (3, 0) 0 0].getD j .any), .vptr 2 (cdF c) 0] [(0, .one (.arr 1 1 (fun _ _ => .map (2, 0)))), (1, .one (.arr 1 1 (fun _ _ => .sl (4, 0) 0 L.length))), (2, .one (.mp (mpE strK boolV (seenG L)))), (3, .one (.arr 1 1 (fun _ _ => .fn 89 2 (fun j => [.ptr (0, 0) 0 0, .ptr (1, 0) 0 0].getD j .any)))), (4, .one (.arr L.length 1 (fun p _ => .str (L.getD p []))))] 5 (fun L2 : List Wd => RSt c.ws L2 ∧ L.length ≤ L2.length) (fun L2 : List Wd => .any) (fun L2 : List Wd => [(0, .one (.arr 1 1 (fun _ _ => .map (2, 0)))), (1, .one (.arr 1 1 (fun _ _ => .sl (5, 0) 0 L2.length))), (2, .one (.mp (mpE strK boolV (seenG L2)))), (3, .one (.arr 1 1 (fun _ _ => .fn 89 2 (fun j => [.ptr (0, 0) 0 0, .ptr (1, 0) 0 0].getD j .any)))), (5, .one (.arr L2.length 1 (fun p _ => .str (L2.getD p []))))]) (fun L2 : List Wd => 6) := by
 have hML : maxLen = 9223372036854775807 := by decide
 have hWn := hv.n
 refine FCY_introS T_ok (by simp [nobH, nobO]) Try.func96 rfl (by simp [Try.ntmps96]) fun G hG hR hrec => ?_
 simp only [Try.ntmps96, Try.results96] at hG ⊢
 simp only [argEnv, Nat.zero_add, Nat.reduceAdd]
 refine zs (zrP ?_)
 refine zb ?_
 refine awpS_loop (α := Nat × List Wd) (fun z => ⟨[(0, .yld l vs 1 (fun j => [.ptr (3, 0) 0 0].getD j .any)), (1, .vptr 2 (cdF c) 0), (10, strs c.ws), (11, .int .i64 c.ws.length), (12, .int .i64 (z.1 : Nat))], [(0, .one (.arr 1 1 (fun _ _ => .map (2, 0)))), (1, .one (.arr 1 1 (fun _ _ => .sl (5, 0) 0 z.2.length))), (2, .one (.mp (mpE strK boolV (seenG z.2)))), (3, .one (.arr 1 1 (fun _ _ => .fn 89 2 (fun j => [.ptr (0, 0) 0 0, .ptr (1, 0) 0 0].getD j .any)))), (5, .one (.arr z.2.length 1 (fun p _ => .str (z.2.getD p []))))], 6⟩) (fun z => z.1 ≤ c.ws.length ∧ RSt c.ws z.2 ∧ L.length ≤ z.2.length) (fun z => c.ws.length - z.1) ((0, L)) (⟨Nat.zero_le _, hL, Nat.le_refl _⟩) ?_ ?_
 · refine wk_of (fun k => if k = 5 then 4 else k) (fun _ => false) (fun _ => false) ?_ ?_ rfl (by simp) (fun k hk => by first | exact ⟨rfl, rfl⟩ | (revert k; decide) | (obtain rfl : k = 0 := (by omega); exact ⟨rfl, rfl⟩) | (have hk2 : k = 0 ∨ k = 1 := (by omega); rcases hk2 with rfl | rfl <;> exact ⟨rfl, rfl⟩))
   · simp [hG, List.getD_cons_zero, List.getD_cons_succ, -List.getD_eq_getElem?_getD, pureOp]
   simp [hG, List.getD_cons_zero, List.getD_cons_succ, -List.getD_eq_getElem?_getD, pureOp]
 rintro ⟨i, L1⟩ ⟨hi, hL1, hG1⟩
 simp only at hi hL1 hG1
 refine zs (zrP ?_)
 refine zs (zy (fun hb13 => ?_) fun hb13 => ?_)
 · refine zk (zs (zb (zs (zrP ?_))))
   refine zs (zrP ?_)
   refine zb ?_
   refine awpS_loop (α := Nat × List Wd) (fun z => ⟨[(0, .yld l vs 1 (fun j => [.ptr (3, 0) 0 0].getD j .any)), (1, .vptr 2 (cdF c) 0), (4, .str (c.ws.getD i [])), (10, strs c.ws), (11, .int .i64 c.ws.length), (12, .int .i64 (i : Nat)), (17, strs c.ws), (18, .int .i64 c.ws.length), (19, .int .i64 (z.1 : Nat))], [(0, .one (.arr 1 1 (fun _ _ => .map (2, 0)))), (1, .one (.arr 1 1 (fun _ _ => .sl (5, 0) 0 z.2.length))), (2, .one (.mp (mpE strK boolV (seenG z.2)))), (3, .one (.arr 1 1 (fun _ _ => .fn 89 2 (fun j => [.ptr (0, 0) 0 0, .ptr (1, 0) 0 0].getD j .any)))), (5, .one (.arr z.2.length 1 (fun p _ => .str (z.2.getD p []))))], 6⟩) (fun z => z.1 ≤ c.ws.length ∧ RSt c.ws z.2 ∧ L.length ≤ z.2.length) (fun z => c.ws.length - z.1) ((0, L1)) (⟨Nat.zero_le _, hL1, hG1⟩) ?_ ?_
   · refine wk_of (id) (fun _ => false) (fun _ => false) ?_ ?_ rfl (by simp) (fun k hk => by first | exact ⟨rfl, rfl⟩ | (revert k; decide) | (obtain rfl : k = 0 := (by omega); exact ⟨rfl, rfl⟩) | (have hk2 : k = 0 ∨ k = 1 := (by omega); rcases hk2 with rfl | rfl <;> exact ⟨rfl, rfl⟩))
     · simp [hG, List.getD_cons_zero, List.getD_cons_succ, -List.getD_eq_getElem?_getD, pureOp]
     simp [hG, List.getD_cons_zero, List.getD_cons_succ, -List.getD_eq_getElem?_getD, pureOp]
   rintro ⟨k, L2⟩ ⟨hk, hL2, hG2⟩
   simp only at hk hL2 hG2
   refine zs (zrP ?_)
   refine zs (zy (fun hb20 => ?_) fun hb20 => ?_)
   · have hLb := rst_box hWn.2 hv.len hL2
     refine zk (zs (zb (zs (zrP ?_))))
     refine zs (zL (zlP 2 ?_))
     refine zcP cal97 (cutP_c (c.ws.getD k []) (c.ws.getD i [])) ?_
     refine zlP 5 ?_
     refine zN (zs ?_)
     by_cases hA : (c.ws.getD i []) <+: (c.ws.getD k [])
     · by_cases hZ : ((c.ws.getD k []).drop (c.ws.getD i []).length) = []
       · refine zL (zl 9 ?_ (h := by intro c K h; simp [hG, List.getD_cons_zero, List.getD_cons_succ, -List.getD_eq_getElem?_getD, pureOp, hA, hZ]; first | exact z1 c h | exact ⟨.mk c, h⟩))
         refine awpL_not (.bool true) rfl (fun K hK => ?_) (by intro c hc; cases hc)
         simp [hG, List.getD_cons_zero, List.getD_cons_succ, -List.getD_eq_getElem?_getD, pureOp, hA, hZ]
         refine hK _ ?_
         clear K hK
         refine zl 2 ?_ (h := by intro c K h; simp [hG, List.getD_cons_zero, List.getD_cons_succ, -List.getD_eq_getElem?_getD, pureOp, hA, hZ]; first | exact z1 c h | exact ⟨.mk c, h⟩)
         refine zN ?_
         refine awpS_cond rfl (fun hb40 => ?_) (fun hb40 => ?_)
         · simp at hb40
         try simp [-List.getD_eq_getElem?_getD] at hb40
         refine zk (zn (zbn (zr ?_ (h := by intro c K h; simp [hG, List.getD_cons_zero, List.getD_cons_succ, -List.getD_eq_getElem?_getD, pureOp, hA, hZ]; first | exact z1 c h | exact ⟨.mk c, h⟩))))
         refine zn ?_
         refine round_end ((k + 1, L2)) (⟨by simp only; omega, hL2, hG2⟩) (by simp only; omega) ?_
         refine wk_of (id) (fun _ => false) (fun _ => false) ?_ ?_ rfl (by simp) (fun k hk => by first | exact ⟨rfl, rfl⟩ | (revert k; decide) | (obtain rfl : k = 0 := (by omega); exact ⟨rfl, rfl⟩) | (have hk2 : k = 0 ∨ k = 1 := (by omega); rcases hk2 with rfl | rfl <;> exact ⟨rfl, rfl⟩))
         · simp [hG, List.getD_cons_zero, List.getD_cons_succ, -List.getD_eq_getElem?_getD, pureOp, hA, hZ]
         simp [hG, List.getD_cons_zero, List.getD_cons_succ, -List.getD_eq_getElem?_getD, pureOp, hA, hZ]
       refine zL (zl 9 ?_ (h := by intro c K h; simp [hG, List.getD_cons_zero, List.getD_cons_succ, -List.getD_eq_getElem?_getD, pureOp, hA, hZ]; first | exact z1 c h | exact ⟨.mk c, h⟩))
       refine awpL_yield hrec hR [0, 1, 2, 3, 5] (fun _ => false) (bodyR_y L2 (c.ws.getD k []) ((c.ws.getD k []).drop (c.ws.getD i []).length) (by omega) hok) rfl (by rw [hok.params]; rfl) rfl rfl rfl (by simp) (.inl fun _ => rfl) ?_ ?_ ?_ fun K hK x hI hno => ?_
       · simp [hG, List.getD_cons_zero, List.getD_cons_succ, -List.getD_eq_getElem?_getD, pureOp, hA, hZ]
       · simp [hG, List.range'_succ, List.range'_zero, List.getD_cons_zero, List.getD_cons_succ, -List.getD_eq_getElem?_getD]
       · simp [hG, List.getD_cons_zero, List.getD_cons_succ, -List.getD_eq_getElem?_getD, pureOp, hA, hZ]
       simp [hG, List.getD_cons_zero, List.getD_cons_succ, -List.getD_eq_getElem?_getD, pureOp, hA, hZ]
       refine hK _ ?_
       clear K hK
       refine zl 2 ?_ (h := by intro c K h; simp [hG, List.getD_cons_zero, List.getD_cons_succ, -List.getD_eq_getElem?_getD, pureOp, hA, hZ]; first | exact z1 c h | exact ⟨.mk c, h⟩)
       refine zN ?_
       refine awpS_cond rfl (fun hb40 => ?_) (fun hb40 => ?_)
       · simp at hb40
       try simp [-List.getD_eq_getElem?_getD] at hb40
       refine zk (zn (zbn (zr ?_ (h := by intro c K h; simp [hG, List.getD_cons_zero, List.getD_cons_succ, -List.getD_eq_getElem?_getD, pureOp, hA, hZ]; first | exact z1 c h | exact ⟨.mk c, h⟩))))
       refine zn ?_
       refine round_end ((k + 1, addG L2 ((c.ws.getD k []).drop (c.ws.getD i []).length))) (⟨by simp only; omega, hL2.addG (der_first (by omega) (by omega) hA hZ), Nat.le_trans hG2 addG_len⟩) (by simp only; omega) ?_
       refine wk_of (fun k => if k = 5 then 6 else k) (fun _ => false) (fun _ => false) ?_ ?_ rfl (by simp) (fun k hk => by first | exact ⟨rfl, rfl⟩ | (revert k; decide) | (obtain rfl : k = 0 := (by omega); exact ⟨rfl, rfl⟩) | (have hk2 : k = 0 ∨ k = 1 := (by omega); rcases hk2 with rfl | rfl <;> exact ⟨rfl, rfl⟩))
       · simp [hG, List.getD_cons_zero, List.getD_cons_succ, -List.getD_eq_getElem?_getD, pureOp, hA, hZ]
       simp [hG, List.getD_cons_zero, List.getD_cons_succ, -List.getD_eq_getElem?_getD, pureOp, hA, hZ]
     refine zL (zl 9 ?_ (h := by intro c K h; simp [hG, List.getD_cons_zero, List.getD_cons_succ, -List.getD_eq_getElem?_getD, pureOp, hA]; first | exact z1 c h | exact ⟨.mk c, h⟩))
     refine awpL_not (.bool true) rfl (fun K hK => ?_) (by intro c hc; cases hc)
     simp [hG, List.getD_cons_zero, List.getD_cons_succ, -List.getD_eq_getElem?_getD, pureOp, hA]
     refine hK _ ?_
     clear K hK
     refine zl 2 ?_ (h := by intro c K h; simp [hG, List.getD_cons_zero, List.getD_cons_succ, -List.getD_eq_getElem?_getD, pureOp, hA]; first | exact z1 c h | exact ⟨.mk c, h⟩)
     refine zN ?_
     refine awpS_cond rfl (fun hb40 => ?_) (fun hb40 => ?_)
     · simp at hb40
     try simp [-List.getD_eq_getElem?_getD] at hb40
     refine zk (zn (zbn (zr ?_ (h := by intro c K h; simp [hG, List.getD_cons_zero, List.getD_cons_succ, -List.getD_eq_getElem?_getD, pureOp, hA]; first | exact z1 c h | exact ⟨.mk c, h⟩))))
     refine zn ?_
     refine round_end ((k + 1, L2)) (⟨by simp only; omega, hL2, hG2⟩) (by simp only; omega) ?_
     refine wk_of (id) (fun _ => false) (fun _ => false) ?_ ?_ rfl (by simp) (fun k hk => by first | exact ⟨rfl, rfl⟩ | (revert k; decide) | (obtain rfl : k = 0 := (by omega); exact ⟨rfl, rfl⟩) | (have hk2 : k = 0 ∨ k = 1 := (by omega); rcases hk2 with rfl | rfl <;> exact ⟨rfl, rfl⟩))
     · simp [hG, List.getD_cons_zero, List.getD_cons_succ, -List.getD_eq_getElem?_getD, pureOp, hA]
     simp [hG, List.getD_cons_zero, List.getD_cons_succ, -List.getD_eq_getElem?_getD, pureOp, hA]
   obtain rfl : k = c.ws.length := (by omega)
   refine zx (ztx (zbx (zn (zbn (zrP ?_)))))
   refine zn ?_
   refine round_end ((i + 1, L2)) (⟨by simp only; omega, hL2, hG2⟩) (by simp only; omega) ?_
   refine wk_of (id) (fun _ => false) (fun _ => false) ?_ ?_ rfl (by simp) (fun k hk => by first | exact ⟨rfl, rfl⟩ | (revert k; decide) | (obtain rfl : k = 0 := (by omega); exact ⟨rfl, rfl⟩) | (have hk2 : k = 0 ∨ k = 1 := (by omega); rcases hk2 with rfl | rfl <;> exact ⟨rfl, rfl⟩))
   · simp [hG, List.getD_cons_zero, List.getD_cons_succ, -List.getD_eq_getElem?_getD, pureOp]
   simp [hG, List.getD_cons_zero, List.getD_cons_succ, -List.getD_eq_getElem?_getD, pureOp]
 obtain rfl : i = c.ws.length := (by omega)
 refine zx (ztx (zbx (zn ?_)))
 refine RetF_of (L1) (fun k => if k = 5 then 5 else k) (fun _ => false) (fun _ => false) ⟨hL1, hG1⟩ ?_ ?_ (by rfl) (by simp) (fun k hk => ⟨if_neg (by omega), rfl⟩)
 · simp [hG, List.getD_cons_zero, List.getD_cons_succ, -List.getD_eq_getElem?_getD, pureOp]
 simp [hG, pureOp, List.getD_cons_zero, List.getD_cons_succ, -List.getD_eq_getElem?_getD]
set_option maxRecDepth 100000 in
set_option maxHeartbeats 1000000 in
theorem nextsI_c (l : Nat) (rec : Loop) (vs : Array Value) (hok : RecOK rec [5] vs #[36, 37] (rngA Try.f80.body 1) (rngB Try.f80.body 1) 44) (c : Cd) (hl : c.ws.length ≤ maxLen) (hv : CdOK c) (L : List Wd) (hL : RSt c.ws L) (r : List UInt8) (hr : DerR c.ws r) (hr0 : r ≠ []) : FCY Try.prog 98 l rec [.yld l vs 1 (fun j => [.ptr (3, 0) 0 0].getD j .any), .vptr 2 (cdF c) 0, .vptr 1 (fun _ => .str r) 0] [(0, .one (.arr 1 1 (fun _ _ => .map (2, 0)))), (1, .one (.arr 1 1 (fun _ _ => .sl (4, 0) 0 L.length))), (2, .one (.mp (mpE strK boolV (seenG L)))), (3, .one (.arr 1 1 (fun _ _ => .fn 89 2 (fun j => [.ptr (0, 0) 0 0, .ptr (1, 0) 0 0].getD j .any)))), (4, .one (.arr L.length 1 (fun p _ => .str (L.getD p []))))] 5 (fun L2 : List Wd => RSt c.ws L2 ∧ L.length ≤ L2.length) (fun L2 : List Wd => .any) (fun L2 : List Wd => [(0, .one (.arr 1 1 (fun _ _ => .map (2, 0)))), (1, .one (.arr 1 1 (fun _ _ => .sl (5, 0) 0 L2.length))), (2, .one (.mp (mpE strK boolV (seenG L2)))), (3, .one (.arr 1 1 (fun _ _ => .fn 89 2 (fun j => [.ptr (0, 0) 0 0, .ptr (1, 0) 0 0].getD j .any)))), (5, .one (.arr L2.length 1 (fun p _ => .str (L2.getD p []))))]) (fun L2 : List Wd => 6) := by
 have hML : maxLen = 9223372036854775807 := by decide
 have hWn := hv.n
 refine FCY_introS T_ok (by simp [nobH, nobO]) Try.func98 rfl (by simp [Try.ntmps98]) fun G hG hR hrec => ?_
 simp only [Try.ntmps98, Try.results98] at hG ⊢
 simp only [argEnv, Nat.zero_add, Nat.reduceAdd]
 refine zs (zrP ?_)
 refine zb ?_
 refine awpS_loop (α := Nat × List Wd) (fun z => ⟨[(0, .yld l vs 1 (fun j => [.ptr (3, 0) 0 0].getD j .any)), (1, .vptr 2 (cdF c) 0), (2, .vptr 1 (fun _ => .str r) 0), (11, strs c.ws), (12, .int .i64 c.ws.length), (13, .int .i64 (z.1 : Nat))], [(0, .one (.arr 1 1 (fun _ _ => .map (2, 0)))), (1, .one (.arr 1 1 (fun _ _ => .sl (5, 0) 0 z.2.length))), (2, .one (.mp (mpE strK boolV (seenG z.2)))), (3, .one (.arr 1 1 (fun _ _ => .fn 89 2 (fun j => [.ptr (0, 0) 0 0, .ptr (1, 0) 0 0].getD j .any)))), (5, .one (.arr z.2.length 1 (fun p _ => .str (z.2.getD p []))))], 6⟩) (fun z => z.1 ≤ c.ws.length ∧ RSt c.ws z.2 ∧ L.length ≤ z.2.length) (fun z => c.ws.length - z.1) ((0, L)) (⟨Nat.zero_le _, hL, Nat.le_refl _⟩) ?_ ?_
 · refine wk_of (fun k => if k = 5 then 4 else k) (fun _ => false) (fun _ => false) ?_ ?_ rfl (by simp) (fun k hk => by first | exact ⟨rfl, rfl⟩ | (revert k; decide) | (obtain rfl : k = 0 := (by omega); exact ⟨rfl, rfl⟩) | (have hk2 : k = 0 ∨ k = 1 := (by omega); rcases hk2 with rfl | rfl <;> exact ⟨rfl, rfl⟩))
   · simp [hG, List.getD_cons_zero, List.getD_cons_succ, -List.getD_eq_getElem?_getD, pureOp]
   simp [hG, List.getD_cons_zero, List.getD_cons_succ, -List.getD_eq_getElem?_getD, pureOp]
 rintro ⟨i, L1⟩ ⟨hi, hL1, hG1⟩
 simp only at hi hL1 hG1
 refine zs (zrP ?_)
 refine zs (zy (fun hb14 => ?_) fun hb14 => ?_)
 · have hLb := rst_box hWn.2 hv.len hL1
   have hwi := W_mem (W := c.ws) hb14
   refine zk (zs (zb (zs (zrP ?_))))
   refine zs (zL (zlP 2 ?_))
   refine zcP cal97 (cutP_c r (c.ws.getD i [])) ?_
   refine zlP 5 ?_
   refine zN (zs (zrP ?_))
   refine zy (fun hb23 => ?_) fun hb23 => ?_
   · have hA : (c.ws.getD i []) <+: r := (by simpa using hb23)
     refine zs (zL (zlP 2 ?_))
     refine awpL_yield hrec hR [0, 1, 2, 3, 5] (fun _ => false) (bodyN_y L1 (r.drop (c.ws.getD i []).length) 0 (by omega) hok) rfl (by rw [hok.params]; rfl) rfl rfl rfl (by simp) (.inl fun _ => rfl) ?_ ?_ ?_ fun K hK x hI hno => ?_
     · simp [hG, List.getD_cons_zero, List.getD_cons_succ, -List.getD_eq_getElem?_getD, pureOp]
     · simp [hG, hA, pureOp, List.getD_cons_zero, List.getD_cons_succ, -List.getD_eq_getElem?_getD]
     · simp [hG, List.getD_cons_zero, List.getD_cons_succ, -List.getD_eq_getElem?_getD, pureOp]
     simp [hG, List.getD_cons_zero, List.getD_cons_succ, -List.getD_eq_getElem?_getD, pureOp]
     refine hK _ ?_
     clear K hK
     refine zlP 1 ?_
     refine zN ?_
     refine awpS_cond rfl (fun hb27 => ?_) (fun hb27 => ?_)
     · simp at hb27
     try simp [-List.getD_eq_getElem?_getD] at hb27
     refine zk (zn (zbn (zrP ?_)))
     refine zn ?_
     refine round_end ((i + 1, addG L1 (r.drop (c.ws.getD i []).length))) (⟨by simp only; omega, hL1.addG (.inn hr hr0 hwi hA), Nat.le_trans hG1 addG_len⟩) (by simp only; omega) ?_
     refine wk_of (fun k => if k = 5 then 6 else k) (fun _ => false) (fun _ => false) ?_ ?_ rfl (by simp) (fun k hk => by first | exact ⟨rfl, rfl⟩ | (revert k; decide) | (obtain rfl : k = 0 := (by omega); exact ⟨rfl, rfl⟩) | (have hk2 : k = 0 ∨ k = 1 := (by omega); rcases hk2 with rfl | rfl <;> exact ⟨rfl, rfl⟩))
     · simp [hG, List.getD_cons_zero, List.getD_cons_succ, -List.getD_eq_getElem?_getD, pureOp]
     simp [hG, List.getD_cons_zero, List.getD_cons_succ, -List.getD_eq_getElem?_getD, pureOp]
   have hA : ¬ (c.ws.getD i []) <+: r := (by simpa using hb23)
   refine zs (zL (zlP 2 ?_))
   refine zcP cal97 (cutP_c (c.ws.getD i []) r) ?_
   refine zlP 5 ?_
   refine zN (zs ?_)
   by_cases hB : r <+: (c.ws.getD i [])
   · refine zL (zl 6 ?_ (h := by intro c K h; simp [hG, List.getD_cons_zero, List.getD_cons_succ, -List.getD_eq_getElem?_getD, pureOp, hB]; first | exact z1 c h | exact ⟨.mk c, h⟩))
     refine awpL_yield hrec hR [0, 1, 2, 3, 5] (fun _ => false) (bodyN_y L1 ((c.ws.getD i []).drop r.length) ((c.ws.getD i []).drop r.length).length (by omega) hok) rfl (by rw [hok.params]; rfl) rfl rfl rfl (by simp) (.inl fun _ => rfl) ?_ ?_ ?_ fun K hK x hI hno => ?_
     · simp [hG, List.getD_cons_zero, List.getD_cons_succ, -List.getD_eq_getElem?_getD, pureOp, hB]
     · simp [hG, List.range'_succ, List.range'_zero, List.getD_cons_zero, List.getD_cons_succ, -List.getD_eq_getElem?_getD]
     · simp [hG, List.getD_cons_zero, List.getD_cons_succ, -List.getD_eq_getElem?_getD, pureOp, hB]
     simp [hG, List.getD_cons_zero, List.getD_cons_succ, -List.getD_eq_getElem?_getD, pureOp, hB]
     refine hK _ ?_
     clear K hK
     refine zl 2 ?_ (h := by intro c K h; simp [hG, List.getD_cons_zero, List.getD_cons_succ, -List.getD_eq_getElem?_getD, pureOp, hB]; first | exact z1 c h | exact ⟨.mk c, h⟩)
     refine zN ?_
     refine awpS_cond rfl (fun hb42 => ?_) (fun hb42 => ?_)
     · simp at hb42
     try simp [-List.getD_eq_getElem?_getD] at hb42
     refine zk (zn (zbn (zr ?_ (h := by intro c K h; simp [hG, List.getD_cons_zero, List.getD_cons_succ, -List.getD_eq_getElem?_getD, pureOp, hB]; first | exact z1 c h | exact ⟨.mk c, h⟩))))
     refine zn ?_
     refine round_end ((i + 1, addG L1 ((c.ws.getD i []).drop r.length))) (⟨by simp only; omega, hL1.addG (.ovr hr hr0 hwi hA hB), Nat.le_trans hG1 addG_len⟩) (by simp only; omega) ?_
     refine wk_of (fun k => if k = 5 then 6 else k) (fun _ => false) (fun _ => false) ?_ ?_ rfl (by simp) (fun k hk => by first | exact ⟨rfl, rfl⟩ | (revert k; decide) | (obtain rfl : k = 0 := (by omega); exact ⟨rfl, rfl⟩) | (have hk2 : k = 0 ∨ k = 1 := (by omega); rcases hk2 with rfl | rfl <;> exact ⟨rfl, rfl⟩))
     · simp [hG, List.getD_cons_zero, List.getD_cons_succ, -List.getD_eq_getElem?_getD, pureOp, hB]
     simp [hG, List.getD_cons_zero, List.getD_cons_succ, -List.getD_eq_getElem?_getD, pureOp, hB]
   refine zL (zl 6 ?_ (h := by intro c K h; simp [hG, List.getD_cons_zero, List.getD_cons_succ, -List.getD_eq_getElem?_getD, pureOp, hB]; first | exact z1 c h | exact ⟨.mk c, h⟩))
   refine awpL_not (.bool true) rfl (fun K hK => ?_) (by intro c hc; cases hc)
   simp [hG, List.getD_cons_zero, List.getD_cons_succ, -List.getD_eq_getElem?_getD, pureOp, hB]
   refine hK _ ?_
   clear K hK
   refine zl 2 ?_ (h := by intro c K h; simp [hG, List.getD_cons_zero, List.getD_cons_succ, -List.getD_eq_getElem?_getD, pureOp, hB]; first | exact z1 c h | exact ⟨.mk c, h⟩)
   refine zN ?_
   refine awpS_cond rfl (fun hb42 => ?_) (fun hb42 => ?_)
   · simp at hb42
   try simp [-List.getD_eq_getElem?_getD] at hb42
   refine zk (zn (zbn (zr ?_ (h := by intro c K h; simp [hG, List.getD_cons_zero, List.getD_cons_succ, -List.getD_eq_getElem?_getD, pureOp, hB]; first | exact z1 c h | exact ⟨.mk c, h⟩))))
   refine zn ?_
   refine round_end ((i + 1, L1)) (⟨by simp only; omega, hL1, hG1⟩) (by simp only; omega) ?_
   refine wk_of (id) (fun _ => false) (fun _ => false) ?_ ?_ rfl (by simp) (fun k hk => by first | exact ⟨rfl, rfl⟩ | (revert k; decide) | (obtain rfl : k = 0 := (by omega); exact ⟨rfl, rfl⟩) | (have hk2 : k = 0 ∨ k = 1 := (by omega); rcases hk2 with rfl | rfl <;> exact ⟨rfl, rfl⟩))
   · simp [hG, List.getD_cons_zero, List.getD_cons_succ, -List.getD_eq_getElem?_getD, pureOp, hB]
   simp [hG, List.getD_cons_zero, List.getD_cons_succ, -List.getD_eq_getElem?_getD, pureOp, hB]
 obtain rfl : i = c.ws.length := (by omega)
 refine zx (ztx (zbx (zn ?_)))
 refine RetF_of (L1) (fun k => if k = 5 then 5 else k) (fun _ => false) (fun _ => false) ⟨hL1, hG1⟩ ?_ ?_ (by rfl) (by simp) (fun k hk => ⟨if_neg (by omega), rfl⟩)
 · simp [hG, List.getD_cons_zero, List.getD_cons_succ, -List.getD_eq_getElem?_getD, pureOp]
 simp [hG, pureOp, List.getD_cons_zero, List.getD_cons_succ, -List.getD_eq_getElem?_getD]
set_option maxRecDepth 100000 in
theorem firstsC_c (c : Cd) : PC Try.prog 90 [.agg 2 (cdF c)] (.fn 96 1 (fun j => [.vptr 2 (cdF c) 0].getD j .any)) := by
 refine zp Try.func90 fun G hG hR => ?_
 refine zs (zr ?_)
 refine zs (zr ?_)
 refine zt ?_
 exact zR
set_option maxRecDepth 100000 in
theorem nextsC_c (c : Cd) (r : List UInt8) : PC Try.prog 91 [.agg 2 (cdF c), .str r] (.fn 98 2 (fun j => [.vptr 2 (cdF c) 0, .vptr 1 (fun _ => .str r) 0].getD j .any)) := by
 refine zp Try.func91 fun G hG hR => ?_
 refine zs (zr ?_)
 refine zs (zr ?_)
 refine zt ?_
 exact zR
end Go.Proofs.Ytoafgeobhhlplaa
