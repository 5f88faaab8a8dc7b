/- Parts of the proof: UK. -/
import Derived.Test.YtchjjiedcpfniaaGreatDoorK16
import Derived.Test.YtchjjiedcpfniaaGreatDoorK37
import Derived.Test.YtchjjiedcpfniaaGreatDoorK40
namespace Go.Proofs.YtchjjiedcpfniaaGreatDoor
set_option linter.unusedSimpArgs false
set_option linter.unusedVariables false
open Go Go.Lift Go.Proofs
def jN (l : List (List UInt8)) (k : Nat) : Nat := (l.length - 1) + ((l.take k).map List.length).sum
theorem jN_succ {l : List (List UInt8)} {k : Nat} (h : k < l.length) : jN l (k + 1) = jN l k + (l.getD k []).length := by
  unfold jN
  rw [List.take_succ_eq_append_getElem h, List.map_append, List.sum_append, getD_get h]
  simp
  omega
theorem jN_le {l : List (List UInt8)} (hl : l.length ≤ 1000) (hw : ∀ w ∈ l, w.length ≤ 100) : ∀ k, jN l k ≤ 1000 + 100 * k
  | 0 => by unfold jN; simp; omega
  | k + 1 => by
    have h1 := jN_le hl hw k
    by_cases h : k < l.length
    · rw [jN_succ h]
      have := hw _ (getD_mem (d := []) h)
      omega
    · have : jN l (k + 1) = jN l k := by unfold jN; rw [List.take_of_length_le (by omega), List.take_of_length_le (by omega)]
      omega
theorem join_step {l : List (List UInt8)} {k : Nat} (h : 1 + k < l.length) : joinB 32 (l.take (k + 1 + 1)) = joinB 32 (l.take (k + 1)) ++ [32] ++ l.getD (1 + k) [] := by
  have h2 : k + 1 < l.length := by omega
  rw [List.take_succ_eq_append_getElem h2, joinB_succ (by intro e; have h3 : (l.take (k + 1)).length = 0 := (by rw [e]; rfl); rw [List.length_take] at h3; omega), Nat.add_comm 1 k, getD_get h2]
  simp
theorem join_all {l : List (List UInt8)} (h : 1 ≤ l.length) : l.take (l.length - 1 + 1) = l := List.take_of_length_le (by omega)
theorem join_first {l : List (List UInt8)} (h : 1 ≤ l.length) : joinB 32 (l.take (0 + 1)) = l.getD 0 [] := by
  cases l with
  | nil => simp at h
  | cons x r => rfl
theorem join_one {l : List (List UInt8)} (h : (l.length : Int) = 1) : l.getD 0 [] = joinB 32 l := by
  have h1 := join_first (l := l) (by omega)
  rw [List.take_of_length_le (by omega)] at h1
  exact h1.symm
theorem join_ne {l : List (List UInt8)} (h : 2 ≤ l.length) : joinB 32 l ≠ [] := by
  have h1 := join_step (l := l) (k := l.length - 2) (by omega)
  rw [List.take_of_length_le (by omega)] at h1
  rw [h1]
  simp
theorem join_le {l : List (List UInt8)} (hl : l.length ≤ 1000) (hw : ∀ w ∈ l, w.length ≤ 100) : (joinB 32 l).length ≤ 101000 := by
  have := joinB_len (c := 32) (l := l) (n := 100) hw
  omega
set_option maxRecDepth 100000 in
theorem growK_c (n : Nat) (hn : n ≤ 1000000) : FC1 Tryz.prog 107 [.ptr (0, 0) 0 0, .int .i64 (n : Int)] [(0, .typ 81 (.arr 1 2 (fun _ j => bF (.ptr (0, 0) 0 0) .nils j)))] 1 (.tup 0 (fun _ => .any)) [(0, .typ 81 (.arr 1 2 (fun _ j => bF (.ptr (0, 0) 0 0) (.sl (1, 0) 0 (([] : List UInt8)).length) j))), (1, .typ 5 (.arr (([] : List UInt8)).length 1 (byF (([] : List UInt8)))))] 2 := by
 refine FC_introS T_ok Tryz.func107 rfl (by simp [Tryz.ntmps107]) fun G hG hR => ?_
 simp only [Tryz.ntmps107, Tryz.results107] at hG ⊢
 simp only [argEnv, Nat.zero_add, Nat.reduceAdd]
 refine zs ?_
 refine awpS_draw hR mixed [] ⟨[], [], []⟩ fun mu0 => ?_
 refine za [0, 1, 2, 3, 6, 9, 10, 11, 12, 13] [] 6 [13, 12, 11, 10, 9, 6, 3, 2, 1, 0] ?_
 refine awpA_only (fuel := 5) (i := 4) (by decide +kernel) ?_
 refine zo ?_
 refine za [5, 7] [] 3 [7, 5, 4, 13, 12, 11, 10, 9, 6, 3, 2, 1, 0] ?_
 refine awpA_only (fuel := 2) (i := 8) (by decide +kernel) ?_
 refine awpO_mnz (fn := Tryz.f128) (ps := #[3]) (t := 39) (e := 5) Tryz.func128 (by decide +kernel) (by kernel_rfl) (by kernel_rfl) (by kernel_rfl) Tryz.underlying39 n (by omega) rfl rfl rfl rfl (by simp) (by simp) fun K hK => ?_
 simp [hG, List.getD_cons_zero, List.getD_cons_succ, -List.getD_eq_getElem?_getD]
 refine hK _ ?_
 clear K hK
 refine za [14, 15] [] 0 [15, 14, 8, 7, 5, 4, 13, 12, 11, 10, 9, 6, 3, 2, 1, 0] ?_
 refine awpA_done (by decide +kernel) ?_
 refine zs (zr ?_)
 refine zr ?_
 refine zn ?_
 refine RetF_of (()) (id) (fun _ => false) (fun _ => false) trivial ?_ ?_ (by rfl) (by simp) (fun k _ => ⟨rfl, rfl⟩)
 · simp [hG, List.getD_cons_zero, List.getD_cons_succ, -List.getD_eq_getElem?_getD]
 simp [hG, List.getD_cons_zero, List.getD_cons_succ, -List.getD_eq_getElem?_getD]
set_option maxRecDepth 100000 in
theorem growB_c (n : Nat) (h1 : 1 ≤ n) (hn : n ≤ 1000000) : FC1 Tryz.prog 73 [.ptr (0, 0) 0 0, .int .i64 (n : Int)] [(0, .typ 81 (.arr 1 2 (fun _ j => bF (selfQ false) .nils j)))] 1 (.tup 0 (fun _ => .any)) [(0, .typ 81 (.arr 1 2 (fun _ j => bF (.ptr (0, 0) 0 0) (.sl (1, 0) 0 (([] : List UInt8)).length) j))), (1, .typ 5 (.arr (([] : List UInt8)).length 1 (byF (([] : List UInt8)))))] 2 := by
 refine FC_introS T_ok Tryz.func73 rfl (by simp [Tryz.ntmps73]) fun G hG hR => ?_
 simp only [Tryz.ntmps73, Tryz.results73] at hG ⊢
 simp only [argEnv, Nat.zero_add, Nat.reduceAdd]
 refine zs (zL (zl 1 ?_))
 refine zf cal72 [0] (copyCheckB (hin := [(0, .typ 81 (.arr 1 2 (fun _ j => bF (selfQ false) .nils j)))]) (nin := 1) rfl rfl bcells (by omega) blies (.inl rfl)) (fun x hI hno => ?_)
 refine zN (zs (zs (zr ?_)))
 refine awpS_cond rfl (fun hb7 => ?_) (fun hb7 => ?_)
 · exact absurd hb7 (by simp)
 try simp [-List.getD_eq_getElem?_getD] at hb7
 refine zk (zs ?_)
 refine awpS_draw hR mixed [] ⟨[], [], []⟩ fun mu0 => ?_
 refine za [0, 1, 2, 3, 5, 6, 7, 8, 9, 11] [] 3 [11, 9, 8, 7, 6, 5, 3, 2, 1, 0] ?_
 refine awpA_only (fuel := 2) (i := 4) (by decide +kernel) ?_
 refine zo ?_
 refine za [10, 12] [] 0 [12, 10, 4, 11, 9, 8, 7, 6, 5, 3, 2, 1, 0] ?_
 refine awpA_done (by decide +kernel) ?_
 refine awpS_cond rfl (fun hb21 => ?_) (fun hb21 => ?_)
 · try simp [-List.getD_eq_getElem?_getD] at hb21
   refine zL (zl 2 ?_)
   refine zf cal107 [0] (growK_c n hn) (fun x hI hno => ?_)
   refine zN (zn ?_)
   refine RetF_of (()) (id) (fun _ => false) (fun _ => false) trivial ?_ ?_ (by rfl) (by simp) (fun k _ => ⟨rfl, rfl⟩)
   · simp [hG, List.getD_cons_zero, List.getD_cons_succ, -List.getD_eq_getElem?_getD]
   simp [hG, List.getD_cons_zero, List.getD_cons_succ, -List.getD_eq_getElem?_getD]
 exact absurd hb21 (by simp; omega)
set_option maxRecDepth 100000 in
theorem join_c (l : List (List UInt8)) (hl : l.length ≤ 1000) (hw : ∀ w ∈ l, w.length ≤ 100) : PC Tryz.prog 54 [strs l, .str [32]] (.str (joinB 32 l)) := by
 refine zp Tryz.func54 fun G hG hR => ?_
 refine zs (zr ?_)
 refine zs (zs (zr ?_))
 refine zb (zs (zr ?_))
 refine zy (fun hb13 => ?_) fun hb13 => ?_
 · refine zs (zr ?_)
   refine zt (zbt ?_)
   refine RetOK_of ?_
   simp [hG, List.getD_cons_zero, List.getD_cons_succ, -List.getD_eq_getElem?_getD]
   rw [hb13]; rfl
 refine zs (zr ?_)
 refine zy (fun hb15 => ?_) fun hb15 => ?_
 · refine zs (zr ?_)
   refine zt (zbt ?_)
   refine RetOK_of ?_
   simp [hG, List.getD_cons_zero, List.getD_cons_succ, -List.getD_eq_getElem?_getD]
   exact join_one hb15
 have hl2 : 2 ≤ l.length := (by have := List.length_pos_iff.2 hb13; omega)
 refine zk (zn (zbn (zs (zr ?_))))
 refine zs (zs (zr ?_))
 refine awpS_cond rfl (fun hb22 => ?_) (fun hb22 => ?_)
 · try simp [-List.getD_eq_getElem?_getD] at hb22
   refine zs (zs (zr ?_))
   refine awpS_cond rfl (fun hb29 => ?_) (fun hb29 => ?_)
   · have h1 := of_decide_eq_true hb29; have h2 : 2 ≤ (9223372036854775807 : Int) / ((l.length : Int) - 1) := Int.le_ediv_of_mul_le (by omega) (by omega); omega
   try simp [-List.getD_eq_getElem?_getD] at hb29
   refine zk (zr ?_)
   refine zs (zs (zr ?_))
   refine zb ?_
   refine awpS_loop (α := Nat) (fun k => ⟨[(0, strs l), (1, .str [32]), (5, .int .i64 (jN l k : Nat)), (39, strs l), (40, .int .i64 l.length), (41, .int .i64 k)], [], 0⟩) (fun k => k ≤ l.length) (fun k => l.length - k) (0) (Nat.zero_le _) ?_ ?_
   · exact zi (e := by simp [hG, List.getD_cons_zero, List.getD_cons_succ, -List.getD_eq_getElem?_getD]; unfold jN; simp; omega)
   rintro k hk
   refine zs (zr ?_)
   refine zs (zy (fun hb42 => ?_) fun hb42 => ?_)
   · have hwk := hw _ (getD_mem (d := []) (show k < l.length by omega))
     have hjb := jN_le hl hw k
     have hjs := jN_succ (l := l) (k := k) (by omega)
     refine zk (zs (zb (zs (zr ?_))))
     refine zs (zs (zr ?_))
     refine awpS_cond rfl (fun hb49 => ?_) (fun hb49 => ?_)
     · have h1 := of_decide_eq_true hb49; omega
     try simp [-List.getD_eq_getElem?_getD] at hb49
     refine zk (zr ?_)
     refine zn (zbn (zr ?_))
     refine zn ?_
     refine round_end (k + 1) (by omega) (by omega) ?_
     exact zi (e := by simp [hG, List.getD_cons_zero, List.getD_cons_succ, -List.getD_eq_getElem?_getD]; omega)
   obtain rfl : k = l.length := (by omega)
   have hjb := jN_le hl hw l.length
   refine zx (ztx (zbx (zs (zr ?_))))
   refine zs (zL (zl 1 ?_))
   refine zf cal73 [0] (growB_c (jN l l.length) (by unfold jN; omega) (by omega)) (fun x hI hno => ?_)
   refine zN (zs (zL (zl 3 ?_)))
   refine zf cal53 [0, 1] (writeK_c true ([] : List UInt8) (l.getD 0 []) (by have := hw _ (getD_mem (d := []) (show 0 < l.length by omega)); simp only [List.length_nil]; omega)) (fun x hI hno => ?_)
   refine zN (zs (zs (zr ?_)))
   refine zb ?_
   refine awpS_loop (α := Nat) (fun k => ⟨[(0, strs l), (1, .str [32]), (8, .ptr (0, 0) 0 0), (63, .vsl (l.length - 1) 1 (fun i _ => .str (l.getD (1 + i) []))), (64, .int .i64 (l.length - 1 : Nat)), (65, .int .i64 k)], [(0, .typ 81 (.arr 1 2 (fun _ j => bF (.ptr (0, 0) 0 0) (.sl (1, 0) 0 ((joinB 32 (l.take (k + 1)))).length) j))), (1, .typ 5 (.arr ((joinB 32 (l.take (k + 1)))).length 1 (byF ((joinB 32 (l.take (k + 1)))))))], 2⟩) (fun k => k ≤ l.length - 1) (fun k => l.length - 1 - k) (0) (Nat.zero_le _) ?_ ?_
   · exact zw (fun k => if k = 1 then 2 else k) (fun _ => false) (fun _ => false) (e := by simp [hG, List.getD_cons_zero, List.getD_cons_succ, -List.getD_eq_getElem?_getD]; exact fun i hi => rfl) (h := by rw [join_first (by omega)]; simp [hG, List.getD_cons_zero, List.getD_cons_succ, -List.getD_eq_getElem?_getD])
   rintro k hk
   refine zs (zr ?_)
   refine zs (zy (fun hb66 => ?_) fun hb66 => ?_)
   · have hjl := joinB_len (c := 32) (l := l.take (k + 1)) (n := 100) (fun w hh => hw w (List.mem_of_mem_take hh))
     have htl : (l.take (k + 1)).length ≤ 1000 := (by rw [List.length_take]; omega)
     have hwk := hw _ (getD_mem (d := []) (show 1 + k < l.length by omega))
     have hE := join_step (l := l) (k := k) (by omega)
     refine zk (zs (zb (zs (zr ?_))))
     refine zs (zL (zl 1 ?_))
     refine zf cal53 [0, 1] (writeK_c true (joinB 32 (l.take (k + 1))) [32] (by simp only [List.length_singleton]; omega)) (fun x hI hno => ?_)
     refine zN (zL (zl 1 ?_))
     refine zf cal53 [0, 2] (writeK_c true ((joinB 32 (l.take (k + 1))) ++ [32]) (l.getD (1 + k) []) (by simp only [List.length_append, List.length_singleton]; omega)) (fun x hI hno => ?_)
     refine zN (zn (zbn (zr ?_)))
     refine zn ?_
     refine round_end (k + 1) (by omega) (by omega) ?_
     exact zw (fun k => if k = 1 then 3 else k) (fun _ => false) (fun _ => false) (h := by rw [hE]; simp [hG, List.getD_cons_zero, List.getD_cons_succ, -List.getD_eq_getElem?_getD])
   obtain rfl : k = l.length - 1 := (by omega)
   have hE := join_all (l := l) (by omega)
   refine zx (ztx (zbx (zs (zL ?_))))
   refine zf cal39 [0, 1] (stringB (S := 2) (off := 0) (hin := [(0, .typ 81 (.arr 1 2 (fun _ j => bF (.ptr (0, 0) 0 0) (.sl (1, 0) 0 (joinB 32 l).length) j))), (1, .typ 5 (.arr (joinB 32 l).length 1 (byF (joinB 32 l))))]) (nin := 2) (l := joinB 32 l) (id := (1, 0)) rfl (by omega) rfl rfl rfl (Nat.le_refl _) (join_ne hl2) (fun i hi => rfl) (by have := join_le hl hw; omega)) (fun x hI hno => ?_) (c := by rw [hE]; simp [hG, List.getD_cons_zero, List.getD_cons_succ, -List.getD_eq_getElem?_getD])
   refine zl 1 ?_
   refine zN (zt ?_)
   exact zR
 exact absurd hb22 (by simp)
end Go.Proofs.YtchjjiedcpfniaaGreatDoor
