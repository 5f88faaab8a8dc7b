/- Parts of the proof: UD UG. -/
import Derived.Test.YtchjjiedcpfniaaGreatDoorK16
import Derived.Test.YtchjjiedcpfniaaGreatDoorK34
import Derived.Test.YtchjjiedcpfniaaGreatDoorK35
import Derived.Test.YtchjjiedcpfniaaGreatDoorK36
namespace Go.Proofs.YtchjjiedcpfniaaGreatDoor
set_option linter.unusedSimpArgs false
set_option linter.unusedVariables false
open Go Go.Lift Go.Proofs
theorem key_ne {x : List Int} {k : Nat} (hk : 0 < k) (h : k ≤ x.length) : keyS (x.take k) ≠ [] := by
  obtain ⟨j, rfl⟩ : ∃ j, k = j + 1 := ⟨k - 1, by omega⟩
  rw [keyS_succ (by omega)]
  simp
theorem key_take {x : List Int} {k : Nat} (h : k ≤ x.length) : (keyS (x.take k)).length ≤ 3 * x.length := by
  have h1 := keyS_len (x.take k)
  rw [List.length_take] at h1
  omega
set_option maxRecDepth 100000 in
theorem small_c (n : Int) (h : 0 ≤ n ∧ n < 100) : PC Tryz.prog 129 [.int .i64 n] (.str (itoa2 n)) := by
 refine zp Tryz.func129 fun G hG hR => ?_
 refine zs (zr ?_)
 refine zs (zs (zr ?_))
 refine zy (fun hb4 => ?_) fun hb4 => ?_
 · refine zs (zr ?_)
   refine zt ?_
   refine RetOK_of ?_
   simp [hG, List.getD_cons_zero, List.getD_cons_succ, -List.getD_eq_getElem?_getD]
   obtain ⟨m, rfl⟩ : ∃ m : Nat, n = m := ⟨n.toNat, by omega⟩; have hm : m < 10 := (by omega); clear h hb4; revert m; decide
 refine zk (zs (zr ?_))
 refine zt ?_
 refine RetOK_of ?_
 simp [hG, List.getD_cons_zero, List.getD_cons_succ, -List.getD_eq_getElem?_getD]
 obtain ⟨m, rfl⟩ : ∃ m : Nat, n = m := ⟨n.toNat, by omega⟩; have hm : m < 100 := (by omega); have hm2 : 10 ≤ m := (by omega); clear h hb4; revert m; decide +kernel
set_option maxRecDepth 100000 in
theorem formatInt_c (n : Int) (h : 0 ≤ n ∧ n < 100) : PC Tryz.prog 108 [.int .i64 n, .int .i64 10] (.str (itoa2 n)) := by
 refine zp Tryz.func108 fun G hG hR => ?_
 refine zs (zr ?_)
 refine zs (zs (zr ?_))
 refine awpS_cond rfl (fun hb11 => ?_) (fun hb11 => ?_)
 · try simp [-List.getD_eq_getElem?_getD] at hb11
   refine zs (zs (zr ?_))
   refine awpS_cond rfl (fun hb17 => ?_) (fun hb17 => ?_)
   · try simp [-List.getD_eq_getElem?_getD] at hb17
     refine zs (zL (zl 1 ?_))
     refine zc cal129 (small_c n h) ?_
     refine zl 1 ?_
     refine zN (zt ?_)
     exact zR
   exact absurd hb17 (by simp; omega)
 exact absurd hb11 (by simp)
set_option maxRecDepth 100000 in
theorem itoaI_c (n : Int) (h : 0 ≤ n ∧ n < 100) : PC Tryz.prog 74 [.int .i64 n] (.str (itoa2 n)) := by
 refine zp Tryz.func74 fun G hG hR => ?_
 refine zs (zr ?_)
 refine zs (zL (zl 1 ?_))
 refine zc cal108 (formatInt_c n h) ?_
 refine zl 1 ?_
 refine zN (zt ?_)
 exact zR
set_option maxRecDepth 100000 in
theorem itoa_c (n : Int) (h : 0 ≤ n ∧ n < 100) : PC Tryz.prog 55 [.int .i64 n] (.str (itoa2 n)) := by
 refine zp Tryz.func55 fun G hG hR => ?_
 refine zs (zr ?_)
 refine zs (zL (zl 1 ?_))
 refine zc cal74 (itoaI_c n h) ?_
 refine zl 1 ?_
 refine zN (zt ?_)
 exact zR
set_option maxRecDepth 100000 in
theorem key_c (x : List Int) (hx : Small x) (hl : x.length ≤ 1000) : PC Tryz.prog 102 [ints x] (.str (keyS x)) := by
 refine zp Tryz.func102 fun G hG hR => ?_
 refine zs (zr ?_ (h := by intro c K h; simp [hG, List.getD_cons_zero, List.getD_cons_succ, -List.getD_eq_getElem?_getD, keyS_nil, List.take_zero]; first | exact z1 c h | exact ⟨.mk c, h⟩))
 refine zs (zr ?_ (h := by intro c K h; simp [hG, List.getD_cons_zero, List.getD_cons_succ, -List.getD_eq_getElem?_getD, keyS_nil, List.take_zero]; first | exact z1 c h | exact ⟨.mk c, h⟩))
 refine zs (zs (zr ?_ (h := by intro c K h; simp [hG, List.getD_cons_zero, List.getD_cons_succ, -List.getD_eq_getElem?_getD, keyS_nil, List.take_zero]; first | exact z1 c h | exact ⟨.mk c, h⟩)))
 refine zb ?_
 refine awpS_loop (α := Nat) (fun k => ⟨[(3, .ptr (0, 0) 0 0), (6, ints x), (7, .int .i64 x.length), (8, .int .i64 k)], [(0, .typ 81 (.arr 1 2 (fun _ j => bF (selfQ (posB k)) (bufA (posB k) 1 (keyS (x.take k)).length) j))), (1, .typ 5 (.arr (keyS (x.take k)).length 1 (byF (keyS (x.take k)))))], 2⟩) (fun k => k ≤ x.length) (fun k => x.length - k) (0) (Nat.zero_le _) ?_ ?_
 · exact zw (fun k => k) (fun _ => false) (fun k => k == 1) (e := by simp [hG, List.getD_cons_zero, List.getD_cons_succ, -List.getD_eq_getElem?_getD, keyS_nil, List.take_zero]) (h := by simp [hG, List.getD_cons_zero, List.getD_cons_succ, -List.getD_eq_getElem?_getD]; rfl)
 rintro k hk
 refine zs (zr ?_ (h := by intro c K h; simp [hG, List.getD_cons_zero, List.getD_cons_succ, -List.getD_eq_getElem?_getD, keyS_nil, List.take_zero]; first | exact z1 c h | exact ⟨.mk c, h⟩))
 refine zs (zy (fun hb9 => ?_) fun hb9 => ?_)
 · have hkl : k < x.length := (by omega)
   have hE := keyS_succ hkl
   have hi2 := itoa2_len (a := x.getD k 0)
   refine zk (zs (zb (zs (zr ?_ (h := by intro c K h; simp [hG, List.getD_cons_zero, List.getD_cons_succ, -List.getD_eq_getElem?_getD, keyS_nil, List.take_zero]; first | exact z1 c h | exact ⟨.mk c, h⟩)))))
   refine zL (zl 1 ?_ (h := by intro c K h; simp [hG, List.getD_cons_zero, List.getD_cons_succ, -List.getD_eq_getElem?_getD, keyS_nil, List.take_zero]; first | exact z1 c h | exact ⟨.mk c, h⟩))
   refine zc cal55 (itoa_c (x.getD k 0) (hx _ (getD_mem (by omega)))) ?_ (a := fun hg => by simp [hG, List.getD_cons_zero, List.getD_cons_succ, -List.getD_eq_getElem?_getD, keyS_nil, List.take_zero]) (b := fun hg => by simp [hG, List.getD_cons_zero, List.getD_cons_succ, -List.getD_eq_getElem?_getD, keyS_nil, List.take_zero]) (h := by intro K h; simp [hG, List.getD_cons_zero, List.getD_cons_succ, -List.getD_eq_getElem?_getD, keyS_nil, List.take_zero]; exact h)
   refine zl 1 ?_ (h := by intro c K h; simp [hG, List.getD_cons_zero, List.getD_cons_succ, -List.getD_eq_getElem?_getD, keyS_nil, List.take_zero]; first | exact z1 c h | exact ⟨.mk c, h⟩)
   refine awpL_fc cal53 [0, 1] (fun _ => false) (writeK_c (posB k) (keyS (x.take k)) (itoa2 (x.getD k 0) ++ [32]) (by have := key_take (x := x) hk; have := (itoa2_len (a := x.getD k 0)).1; simp only [List.length_append, List.length_singleton]; omega)) rfl rfl rfl (by simp) (.inl fun _ => rfl) ?_ ?_ ?_ fun K hK x hI hno => ?_
   · simp [hG, List.getD_cons_zero, List.getD_cons_succ, -List.getD_eq_getElem?_getD, keyS_nil, List.take_zero]
   · simp [hG, List.getD_cons_zero, List.getD_cons_succ, -List.getD_eq_getElem?_getD, keyS_nil, List.take_zero]
   · simp [hG, List.getD_cons_zero, List.getD_cons_succ, -List.getD_eq_getElem?_getD]; cases hp : posB k with
       | true => exact .inl rfl
       | false => rw [posB_no hp]; exact .inr ⟨rfl, rfl⟩
   simp [hG, List.getD_cons_zero, List.getD_cons_succ, -List.getD_eq_getElem?_getD, keyS_nil, List.take_zero]
   refine hK _ ?_
   clear K hK
   refine zN (zn (zbn (zr ?_ (h := by intro c K h; simp [hG, List.getD_cons_zero, List.getD_cons_succ, -List.getD_eq_getElem?_getD, keyS_nil, List.take_zero]; first | exact z1 c h | exact ⟨.mk c, h⟩))))
   refine zn ?_
   refine round_end (k + 1) (by omega) (by omega) ?_
   exact zw (fun k => if k = 1 then 2 else k) (fun _ => false) (fun _ => false) (e := by simp [hG, List.getD_cons_zero, List.getD_cons_succ, -List.getD_eq_getElem?_getD, keyS_nil, List.take_zero]) (h := by rw [hE]; simp [hG, List.getD_cons_zero, List.getD_cons_succ, -List.getD_eq_getElem?_getD])
 obtain rfl : k = x.length := (by omega)
 refine zx (ztx (zbx (zs ?_)))
 by_cases hsp : posB x.length = true
 · have hwne := key_ne (posB_yes hsp) (Nat.le_refl x.length)
   refine zL ?_
   refine zf cal39 [0, 1] (stringB (S := 2) (off := 0) (hin := [(0, .typ 81 (.arr 1 2 (fun _ j => bF (selfQ true) (.sl (1, 0) 0 ((keyS (x.take x.length))).length) j))), (1, .typ 5 (.arr ((keyS (x.take x.length))).length 1 (byF ((keyS (x.take x.length))))))]) (nin := 2) (l := (keyS (x.take x.length))) (id := (1, 0)) rfl (by omega) rfl rfl rfl (Nat.le_refl _) hwne (fun i hi => rfl) (by have := key_take (x := x) (Nat.le_refl _); omega)) (fun x hI hno => ?_) (a := by simp [hG, List.getD_cons_zero, List.getD_cons_succ, -List.getD_eq_getElem?_getD, keyS_nil, List.take_zero, hsp]) (b := by simp [hG, List.getD_cons_zero, List.getD_cons_succ, -List.getD_eq_getElem?_getD, keyS_nil, List.take_zero, hsp]) (c := by simp [hG, List.getD_cons_zero, List.getD_cons_succ, -List.getD_eq_getElem?_getD, keyS_nil, List.take_zero, hsp]) (h := by intro K h x hI hno; simp [hG, List.getD_cons_zero, List.getD_cons_succ, -List.getD_eq_getElem?_getD, keyS_nil, List.take_zero, hsp]; exact h x hI hno)
   refine zl 1 ?_ (h := by intro c K h; simp [hG, List.getD_cons_zero, List.getD_cons_succ, -List.getD_eq_getElem?_getD, keyS_nil, List.take_zero, hsp]; first | exact z1 c h | exact ⟨.mk c, h⟩)
   refine zN (zt ?_)
   refine RetOK_of ?_
   simp [hG, List.getD_cons_zero, List.getD_cons_succ, -List.getD_eq_getElem?_getD, keyS_nil, List.take_zero, hsp]
 have hl0 := posB_no (by simpa using hsp)
 refine zL ?_
 refine zf cal39 [0] (stringNilB (S := 2) (off := 0) (hin := [(0, .typ 81 (.arr 1 2 (fun _ j => bF (selfQ false) .nils j)))]) (nin := 1) rfl (by omega) rfl) (fun x hI hno => ?_) (a := by simp [hG, List.getD_cons_zero, List.getD_cons_succ, -List.getD_eq_getElem?_getD, keyS_nil, List.take_zero, hsp]) (b := by simp [hG, List.getD_cons_zero, List.getD_cons_succ, -List.getD_eq_getElem?_getD, keyS_nil, List.take_zero, hsp]) (c := by simp [hG, List.getD_cons_zero, List.getD_cons_succ, -List.getD_eq_getElem?_getD, keyS_nil, List.take_zero, hsp]) (h := by intro K h x hI hno; simp [hG, List.getD_cons_zero, List.getD_cons_succ, -List.getD_eq_getElem?_getD, keyS_nil, List.take_zero, hsp]; exact h x hI hno)
 refine zl 1 ?_ (h := by intro c K h; simp [hG, List.getD_cons_zero, List.getD_cons_succ, -List.getD_eq_getElem?_getD, keyS_nil, List.take_zero, hsp]; first | exact z1 c h | exact ⟨.mk c, h⟩)
 refine zN (zt ?_)
 refine RetOK_of ?_
 simp [hG, List.getD_cons_zero, List.getD_cons_succ, -List.getD_eq_getElem?_getD, keyS_nil, List.take_zero, hsp]
 obtain rfl := List.length_eq_zero_iff.1 hl0; rfl
end Go.Proofs.YtchjjiedcpfniaaGreatDoor
namespace Go.Proofs.YtchjjiedcpfniaaGreatDoor
set_option linter.unusedSimpArgs false
set_option linter.unusedVariables false
open Go Go.Lift Go.Proofs
def SetOK (g : Gr) (L : List Int) : Prop := L.Pairwise (· < ·) ∧ ∀ x ∈ L, 0 ≤ x ∧ x < g.states
theorem SetOK.len {g : Gr} (hv : gcheck g = 0) {L : List Int} (h : SetOK g L) : L.length ≤ 64 := asc_short h.1 h.2 (gcheck_valid hv).1.st.2
theorem SetOK.small {g : Gr} (hv : gcheck g = 0) {L : List Int} (h : SetOK g L) : Small L := fun n hn => by
  have h1 := h.2 n hn
  have h2 := (gcheck_valid hv).1.st
  omega
theorem SetOK.step {g : Gr} (hv : gcheck g = 0) {k : Int} {L : List Int} : SetOK g (stepL g k L) := ⟨step_asc, step_box hv⟩
theorem SetOK.all {g : Gr} : SetOK g (iotaL g.states.toNat) := ⟨iota_asc, fun x hx => by have := iota_mem hx; omega⟩
theorem app_one1 {k j : Nat} : (if j = k then AVal.int .i64 (k : Int) else .int .i64 (if j < k then (j : Int) else 0)) = .int .i64 (if j < k + 1 then (j : Int) else 0) := by
  by_cases h : j = k
  · subst h; rw [if_pos rfl, if_pos (by omega)]
  · rw [if_neg h]
    by_cases h2 : j < k
    · rw [if_pos h2, if_pos (by omega)]
    · rw [if_neg h2, if_neg (by omega)]
end Go.Proofs.YtchjjiedcpfniaaGreatDoor
