/- Parts of the proof: VE. -/
import Derived.Test.YtchjjiedcpfniaaGreatDoorK10
import Derived.Test.YtchjjiedcpfniaaGreatDoorK16
import Derived.Test.YtchjjiedcpfniaaGreatDoorK17
import Derived.Test.YtchjjiedcpfniaaGreatDoorK19
namespace Go.Lift
set_option linter.unusedSimpArgs false
set_option linter.unusedVariables false
variable {P : Program} {G : Gh} {n0 : Nat}
theorem awpS_condC {b : Bool} {x y : Code} {cs : List Code} {Q : Exit → St → Prop} {st : St} (h : AwpS P G n0 ((if b = true then x else y) :: cs) Q st) : AwpS P G n0 (.cond (.const (.bool b)) x y :: cs) Q st := by
  intro mu a w hs hn Q' hQ
  refine wpIn_cond_split (a := a) (c := .const (.bool b)) (t := b) rfl (fun hb => ?_) (fun hb => ?_)
  · subst hb; exact h mu a w hs hn Q' hQ
  · subst hb; exact h mu a w hs hn Q' hQ
end Go.Lift
namespace Go.Proofs.YtchjjiedcpfniaaGreatDoor
set_option linter.unusedSimpArgs false
set_option linter.unusedVariables false
open Go Go.Lift Go.Proofs
def len8 (n : Nat) : Int := if n = 0 then 0 else if n < 2 then 1 else if n < 4 then 2 else if n < 8 then 3 else 4
theorem lt13 {n : Nat} (h : n < 13) : n = 0 ∨ n = 1 ∨ n = 2 ∨ n = 3 ∨ n = 4 ∨ n = 5 ∨ n = 6 ∨ n = 7 ∨ n = 8 ∨ n = 9 ∨ n = 10 ∨ n = 11 ∨ n = 12 := by omega
theorem clr_endI {l : List Int} {i : Nat} (hi : i < l.length) : clr (fun i _ => AVal.int .i64 (ddG 0 l l.length i)) (ddAt 0 l l.length).length (l.length - (ddAt 0 l l.length).length) (fun j => [AVal.int .i64 0].getD j .any) i 0 = .int .i64 ((ddL 0 l).getD i 0) := by
  unfold clr ddL
  have hle := dd_len (d := 0) (l := l) (k := l.length)
  by_cases h : (ddAt 0 l l.length).length ≤ i
  · rw [if_pos (by omega), show (ddAt 0 l l.length).getD i 0 = 0 by simp [List.getD, List.getElem?_eq_none h]]; rfl
  · rw [if_neg (by omega)]
    show AVal.int .i64 (ddG 0 l l.length i) = _
    unfold ddG; rw [if_pos (by omega)]
theorem ddL_shortI {l : List Int} (h : l.length < 2) : ddL 0 l = l := ddL_none fun j hj h1 => by omega
theorem intsEq {a b : List Int} (h : a.length = b.length) (hn : ∀ j, j < a.length → a.getD j 0 = b.getD j 0) : a = b := by
  apply List.ext_getElem h
  intro i h1 h2
  have := hn i h1
  rwa [getD_get h1, getD_get h2] at this
@[simp] theorem VLe_yl1 {h : Heap} {σ : Lift.Id → Lift.Id} {fz : Nat → Bool} {vz : Lift.Id → Bool} {nx l : Nat} {vs : Array Value} : VLe h σ fz vz nx (.yld l vs 1 (fun j => [.ptr (0, 0) 0 0].getD j .any)) (.yld l vs 1 (fun j => [.ptr (0, 0) 0 0].getD j .any)) = (0 < nx ∧ vz (0, 0) = false ∧ (0, 0) = σ (0, 0)) := by
  apply propext
  constructor
  · intro h
    have h1 := h.2.2.2 0 (by decide)
    have h2 : 0 < nx ∧ vz (0, 0) = false ∧ (AVal.ptr (0, 0) 0 0) = .ptr (σ (0, 0)) 0 0 := h1
    refine ⟨h2.1, h2.2.1, ?_⟩
    have := h2.2.2
    injection this
  · rintro ⟨h1, h2, h3⟩
    refine ⟨rfl, rfl, rfl, fun j hj => ?_⟩
    match j, hj with
    | 0, _ => exact ⟨h1, h2, by rw [← h3]; rfl⟩
set_option maxRecDepth 100000 in
theorem cloneI_c (l : List Int) (hl : l.length ≤ 1000000) : FC1 Tryz.prog 103 [ints l] [] 0 (.sl (0, 0) 0 l.length) [(0, .one (.arr l.length 1 (fun i _ => .int .i64 (l.getD i 0))))] 1 := by
 refine FC_introS T_ok Tryz.func103 rfl (by simp [Tryz.ntmps103]) fun G hG hR => ?_
 simp only [Tryz.ntmps103, Tryz.results103] at hG ⊢
 simp only [argEnv, Nat.zero_add, Nat.reduceAdd]
 refine zs (zr ?_)
 refine zs (zs (zr ?_))
 refine awpS_condU rfl (fun hb4 => ?_) ?_
 · refine zs (zr ?_)
   refine zt ?_
   refine RetF_of (()) (id) (fun _ => false) (fun _ => true) trivial ?_ ?_ (by rfl) (by simp) (fun k hk => absurd hk (Nat.not_lt_zero _))
   · simp [hG]; exact hb4
   simp [hG]; exact hb4
 refine zk (zs (zr ?_))
 refine zt ?_
 refine RetF_of (()) (fun _ => 1) (fun _ => false) (fun _ => false) trivial ?_ ?_ (by rfl) (by simp) (fun k hk => absurd hk (Nat.not_lt_zero _))
 · simp [hG, List.getD_cons_zero, List.getD_cons_succ, -List.getD_eq_getElem?_getD]
 simp [hG, List.getD_cons_zero, List.getD_cons_succ, -List.getD_eq_getElem?_getD]
set_option maxRecDepth 100000 in
theorem bitLen64_c (n : Nat) (hn : n < 13) : PC Tryz.prog 101 [.int .u64 n] (.int .i64 (len8 n)) := by
 refine zp Tryz.func101 fun G hG hR => ?_
 refine zs (zr ?_)
 refine zs (zs (zr ?_))
 refine awpS_cond rfl (fun hb4 => ?_) (fun hb4 => ?_)
 · exact absurd hb4 (by simp; omega)
 try simp [-List.getD_eq_getElem?_getD] at hb4
 refine zk (zs (zs (zr ?_)))
 refine awpS_cond rfl (fun hb8 => ?_) (fun hb8 => ?_)
 · exact absurd hb8 (by simp; omega)
 try simp [-List.getD_eq_getElem?_getD] at hb8
 refine zk (zs (zs (zr ?_)))
 refine awpS_cond rfl (fun hb14 => ?_) (fun hb14 => ?_)
 · exact absurd hb14 (by simp; omega)
 try simp [-List.getD_eq_getElem?_getD] at hb14
 refine zk (zs (zr ?_ (c := by have hu : ∀ b : UInt8, ((b.toNat : Nat) : Int) ≤ 9223372036854775807 := fun b => (by have := b.toNat_lt; omega); exact ⟨by omega, by omega, hu _⟩)))
 refine zt ?_
 refine RetOK_of ?_
 simp [hG, List.getD_cons_zero, List.getD_cons_succ, -List.getD_eq_getElem?_getD]
 rcases lt13 hn with rfl | rfl | rfl | rfl | rfl | rfl | rfl | rfl | rfl | rfl | rfl | rfl | rfl <;> rfl
set_option maxRecDepth 100000 in
theorem bitLen_c (n : Nat) (hn : n < 13) : PC Tryz.prog 70 [.int .u64 n] (.int .i64 (len8 n)) := by
 refine zp Tryz.func70 fun G hG hR => ?_
 refine zs (zr ?_)
 refine zs ?_
 refine awpS_condC (b := false) ?_
 simp only [if_true, if_false, Bool.false_eq_true]
 refine zk (zs (zL (zl 1 ?_)))
 refine zc cal101 (bitLen64_c n hn) ?_
 refine zl 1 ?_
 refine zN (zt ?_)
 exact zR
set_option maxRecDepth 100000 in
theorem equalI_c (a b : List Int) (ha : a.length ≤ 1000000) : PC Tryz.prog 142 [ints a, ints b] (.bool (decide (a = b))) := by
 refine zp Tryz.func142 fun G hG hR => ?_
 refine zs (zr ?_)
 refine zs (zs (zr ?_))
 refine zy (fun hb10 => ?_) fun hb10 => ?_
 · refine zs (zr ?_)
   refine zt ?_
   refine RetOK_of ?_
   simp [hG, List.getD_cons_zero, List.getD_cons_succ, -List.getD_eq_getElem?_getD]
   intro h; rw [h] at hb10; omega
 refine zk (zs (zs (zr ?_)))
 refine zb ?_
 refine awpS_loop (α := Nat) (fun k => ⟨[(0, ints a), (1, ints b), (12, .int .i64 a.length), (13, .int .i64 k)], [], 0⟩) (fun k => a.length = b.length ∧ k ≤ a.length ∧ ∀ j, j < k → a.getD j 0 = b.getD j 0) (fun k => a.length - k) (0) (⟨by omega, Nat.zero_le _, fun j hj => absurd hj (Nat.not_lt_zero _)⟩) ?_ ?_
 · exact zi
 rintro k ⟨h3, hk, hn⟩
 refine zs (zr ?_)
 refine zs (zy (fun hb14 => ?_) fun hb14 => ?_)
 · refine zk (zs (zb (zs (zr ?_))))
   refine zs ?_
   refine awpS_draw hR mixed [] ⟨[], [], []⟩ fun mu0 => ?_
   refine za [0, 1, 2, 3, 4, 5, 6, 7, 8] [] 0 [8, 7, 6, 5, 4, 3, 2, 1, 0] ?_
   refine awpA_done (by decide +kernel) ?_
   refine zy (fun hb24 => ?_) fun hb24 => ?_
   · refine zs (zr ?_)
     refine zt (zbt (ztt (zbt ?_)))
     refine RetOK_of ?_
     simp [hG, List.getD_cons_zero, List.getD_cons_succ, -List.getD_eq_getElem?_getD]
     intro h; rw [h] at hb24; exact hb24 rfl
   refine zk (zn (zbn (zr ?_)))
   refine zn ?_
   refine round_end (k + 1) (⟨h3, by omega, step_all hn hb24⟩) (by omega) ?_
   exact zi
 refine zx (ztx (zbx (zs (zr ?_))))
 refine zt ?_
 refine RetOK_of ?_
 simp [hG, List.getD_cons_zero, List.getD_cons_succ, -List.getD_eq_getElem?_getD]
 exact intsEq h3 fun j hj => hn j (by omega)
set_option maxRecDepth 100000 in
theorem insI0_c  : FC1 Tryz.prog 91 [.sl (0, 0) 0 0, .int .i64 0, .int .i64 0] [(0, .one (.arr 0 1 (fun i _ => .int .i64 (([] : List Int).getD i 0))))] 1 (.any) [(0, .one (.arr 0 1 (fun i _ => .int .i64 (([] : List Int).getD i 0))))] 1 := by
 refine FC_introS T_ok Tryz.func91 rfl (by simp [Tryz.ntmps91]) fun G hG hR => ?_
 simp only [Tryz.ntmps91, Tryz.results91] at hG ⊢
 simp only [argEnv, Nat.zero_add, Nat.reduceAdd]
 refine zs (zr ?_)
 refine zb ?_
 refine awpS_loop (α := Unit) (fun u => ⟨[(0, .sl (0, 0) 0 0), (1, .int .i64 0), (2, .int .i64 0), (6, .int .i64 1)], [(0, .one (.arr 0 1 (fun i _ => .int .i64 (([] : List Int).getD i 0))))], 1⟩) (fun u => True) (fun u => 0) (()) (trivial) ?_ ?_
 · refine wk_of (id) (fun _ => false) (fun _ => false) ?_ ?_ rfl (by simp) (fun k hk => by first | exact ⟨rfl, rfl⟩ | (revert k; decide) | (obtain rfl : k = 0 := (by omega); exact ⟨rfl, rfl⟩) | (have hk2 : k = 0 ∨ k = 1 := (by omega); rcases hk2 with rfl | rfl <;> exact ⟨rfl, rfl⟩))
   · simp [hG, List.getD_cons_zero, List.getD_cons_succ, -List.getD_eq_getElem?_getD]
   simp [hG, List.getD_cons_zero, List.getD_cons_succ, -List.getD_eq_getElem?_getD]
 rintro u hu
 refine zs (zs (zr ?_))
 refine awpS_cond rfl (fun hb12 => ?_) (fun hb12 => ?_)
 · simp at hb12
 try simp [-List.getD_eq_getElem?_getD] at hb12
 refine zx (ztx (zbx (zn ?_)))
 refine RetF_of (()) (id) (fun _ => false) (fun _ => false) trivial ?_ ?_ (by rfl) (by simp) (fun k _ => ⟨rfl, rfl⟩)
 · simp [hG, List.getD_cons_zero, List.getD_cons_succ, -List.getD_eq_getElem?_getD]
 simp [hG, List.getD_cons_zero, List.getD_cons_succ, -List.getD_eq_getElem?_getD]
set_option maxRecDepth 100000 in
theorem pdqI0_c (m : Int) : FC1 Tryz.prog 69 [.sl (0, 0) 0 0, .int .i64 0, .int .i64 0, .int .i64 m] [(0, .one (.arr 0 1 (fun i _ => .int .i64 (([] : List Int).getD i 0))))] 1 (.any) [(0, .one (.arr 0 1 (fun i _ => .int .i64 (([] : List Int).getD i 0))))] 1 := by
 refine FC_introS T_ok Tryz.func69 rfl (by simp [Tryz.ntmps69]) fun G hG hR => ?_
 simp only [Tryz.ntmps69, Tryz.results69] at hG ⊢
 simp only [argEnv, Nat.zero_add, Nat.reduceAdd]
 refine zs (zr ?_)
 refine zs (zr ?_)
 refine zb ?_
 refine awpS_loop (α := Unit) (fun u => ⟨[(0, .sl (0, 0) 0 0), (1, .int .i64 0), (2, .int .i64 0), (3, .int .i64 m), (8, .bool true), (9, .bool true)], [(0, .one (.arr 0 1 (fun i _ => .int .i64 (([] : List Int).getD i 0))))], 1⟩) (fun u => True) (fun u => 0) (()) (trivial) ?_ ?_
 · refine wk_of (id) (fun _ => false) (fun _ => false) ?_ ?_ rfl (by simp) (fun k hk => by first | exact ⟨rfl, rfl⟩ | (revert k; decide) | (obtain rfl : k = 0 := (by omega); exact ⟨rfl, rfl⟩) | (have hk2 : k = 0 ∨ k = 1 := (by omega); rcases hk2 with rfl | rfl <;> exact ⟨rfl, rfl⟩))
   · simp [hG, List.getD_cons_zero, List.getD_cons_succ, -List.getD_eq_getElem?_getD]
   simp [hG, List.getD_cons_zero, List.getD_cons_succ, -List.getD_eq_getElem?_getD]
 rintro u hu
 refine zb (zs (zr ?_))
 refine zs (zs (zr ?_))
 refine awpS_cond rfl (fun hb23 => ?_) (fun hb23 => ?_)
 · try simp [-List.getD_eq_getElem?_getD] at hb23
   refine zs (zL (zl 3 ?_))
   refine zf cal91 [0] insI0_c (fun x hI hno => ?_)
   refine zN (zt (zbt (ztt (zbt ?_))))
   refine RetF_of (()) (id) (fun _ => false) (fun _ => false) trivial ?_ ?_ (by rfl) (by simp) (fun k _ => ⟨rfl, rfl⟩)
   · simp [hG, List.getD_cons_zero, List.getD_cons_succ, -List.getD_eq_getElem?_getD]
   simp [hG, List.getD_cons_zero, List.getD_cons_succ, -List.getD_eq_getElem?_getD]
 simp at hb23
set_option maxRecDepth 100000 in
theorem sortI0_c  : FC1 Tryz.prog 45 [.sl (0, 0) 0 0] [(0, .one (.arr 0 1 (fun i _ => .int .i64 (([] : List Int).getD i 0))))] 1 (.any) [(0, .one (.arr 0 1 (fun i _ => .int .i64 (([] : List Int).getD i 0))))] 1 := by
 refine FC_introS T_ok Tryz.func45 rfl (by simp [Tryz.ntmps45]) fun G hG hR => ?_
 simp only [Tryz.ntmps45, Tryz.results45] at hG ⊢
 simp only [argEnv, Nat.zero_add, Nat.reduceAdd]
 refine zs (zr ?_)
 refine zL (zl 4 ?_)
 refine zc cal70 (bitLen_c 0 (by decide)) ?_
 refine zf cal69 [0] (pdqI0_c (len8 0)) (fun x hI hno => ?_)
 refine zN (zn ?_)
 refine RetF_of (()) (id) (fun _ => false) (fun _ => false) trivial ?_ ?_ (by rfl) (by simp) (fun k _ => ⟨rfl, rfl⟩)
 · simp [hG, List.getD_cons_zero, List.getD_cons_succ, -List.getD_eq_getElem?_getD]
 simp [hG, List.getD_cons_zero, List.getD_cons_succ, -List.getD_eq_getElem?_getD]
set_option maxRecDepth 100000 in
theorem outB_y (x : Edge) (q : Int) (K : List Int) (hK : K.length ≤ 100000) {l : Nat} {rec : Loop} {vs : Array Value} (hok : RecOK rec [6] vs #[22, 23] (rngA Tryz.f28.body 0) (rngB Tryz.f28.body 0) 29) : YC Tryz.prog l rec vs ([.int .i64 q, .agg 3 (edgeF x)] ++ [.ptr (0, 0) 0 0]) [(0, .one (.arr 1 1 (fun _ _ => .sl (1, 0) 0 (K).length))), (1, .one (.arr (K).length 1 (fun p _ => .int .i64 ((K).getD p 0))))] 2 (fun _ : Unit => True) (fun _ : Unit => .bool true) (fun _ : Unit => [(0, .one (.arr 1 1 (fun _ _ => .sl (2, 0) 0 ((K ++ [q])).length))), (2, .one (.arr ((K ++ [q])).length 1 (fun p _ => .int .i64 (((K ++ [q])).getD p 0))))]) (fun _ : Unit => 3) := by
 refine YC_introS hok rfl rfl (by simp [nobH, nobO]) rfl (by simp) rfl fun G hG hR => ?_
 show AwpS _ _ _ _ _ ⟨[(23, .agg 3 (edgeF x)), (22, .int .i64 q), (6, .ptr (0, 0) 0 0)], [(0, .one (.arr 1 1 (fun _ _ => .sl (1, 0) 0 (K).length))), (1, .one (.arr (K).length 1 (fun p _ => .int .i64 ((K).getD p 0))))], 2⟩
 refine zr ?_
 refine zn ?_
 refine ⟨rfl, fun G hG hR => ?_⟩
 refine zb (zr ?_)
 refine zn (zbn (zn ?_))
 refine ⟨rfl, RetY_of (()) (fun k => if k = 2 then 3 else k) (fun _ => false) (fun _ => false) trivial ?_ (by rfl) (by simp) (fun k hk => ⟨if_neg (by omega), rfl⟩)⟩
 simp [hG, List.getD_cons_zero, List.getD_cons_succ, -List.getD_eq_getElem?_getD]; exact fun i hi => app_oneI rfl hi
set_option maxRecDepth 100000 in
theorem leavingIt_c (g : Gr) (s : Int) (hed : g.edges.length ≤ 1024) (l : Nat) (rec : Loop) (vs : Array Value) (hok : RecOK rec [6] vs #[22, 23] (rngA Tryz.f28.body 0) (rngB Tryz.f28.body 0) 29) : FCY Tryz.prog 68 l rec [.yld l vs 1 (fun j => [.ptr (0, 0) 0 0].getD j .any), .vptr 3 (grF g) 0, .vptr 1 (fun _ => .int .i64 s) 0] [(0, .one (.arr 1 1 (fun _ _ => .sl (1, 0) 0 (([] : List Int)).length))), (1, .one (.arr (([] : List Int)).length 1 (fun p _ => .int .i64 ((([] : List Int)).getD p 0))))] 2 (fun _ : Unit => True) (fun _ : Unit => .any) (fun _ : Unit => [(0, .one (.arr 1 1 (fun _ _ => .sl (2, 0) 0 ((outA g s g.edges.length)).length))), (2, .one (.arr ((outA g s g.edges.length)).length 1 (fun p _ => .int .i64 (((outA g s g.edges.length)).getD p 0))))]) (fun _ : Unit => 3) := by
 refine FCY_introS T_ok (by simp [nobH, nobO]) Tryz.func68 rfl (by simp [Tryz.ntmps68]) fun G hG hR hrec => ?_
 simp only [Tryz.ntmps68, Tryz.results68] at hG ⊢
 simp only [argEnv, Nat.zero_add, Nat.reduceAdd]
 refine zs (zr ?_ (h := by intro c K h; simp [hG, List.getD_cons_zero, List.getD_cons_succ, -List.getD_eq_getElem?_getD, outA_zero]; first | exact z1 c h | exact ⟨.mk c, h⟩))
 refine zb ?_
 refine awpS_loop (α := Nat) (fun i => ⟨[(0, .yld l vs 1 (fun j => [.ptr (0, 0) 0 0].getD j .any)), (1, .vptr 3 (grF g) 0), (2, .vptr 1 (fun _ => .int .i64 s) 0), (7, edgesC g.edges), (8, .int .i64 g.edges.length), (9, .int .i64 i)], [(0, .one (.arr 1 1 (fun _ _ => .sl (2, 0) 0 ((outA g s i)).length))), (2, .one (.arr ((outA g s i)).length 1 (fun p _ => .int .i64 (((outA g s i)).getD p 0))))], 3⟩) (fun i => i ≤ g.edges.length) (fun i => g.edges.length - i) (0) (Nat.zero_le _) ?_ ?_
 · refine wk_of (fun k => if k = 2 then 1 else k) (fun _ => false) (fun _ => false) ?_ ?_ rfl (by simp) (fun k hk => by first | exact ⟨rfl, rfl⟩ | (revert k; decide) | (obtain rfl : k = 0 := (by omega); exact ⟨rfl, rfl⟩) | (have hk2 : k = 0 ∨ k = 1 := (by omega); rcases hk2 with rfl | rfl <;> exact ⟨rfl, rfl⟩))
   · simp [hG, List.getD_cons_zero, List.getD_cons_succ, -List.getD_eq_getElem?_getD, outA_zero]
   simp [hG, List.getD_cons_zero, List.getD_cons_succ, -List.getD_eq_getElem?_getD, outA_zero]
 rintro i hi
 refine zs (zr ?_ (h := by intro c K h; simp [hG, List.getD_cons_zero, List.getD_cons_succ, -List.getD_eq_getElem?_getD, outA_zero]; first | exact z1 c h | exact ⟨.mk c, h⟩))
 refine zs (zy (fun hb10 => ?_) fun hb10 => ?_)
 · have hol := outA_len (g := g) (s := s) i
   have hos := outA_succ (g := g) (s := s) (i := i)
   refine zk (zs (zb (zs (zr ?_ (h := by intro c K h; simp [hG, List.getD_cons_zero, List.getD_cons_succ, -List.getD_eq_getElem?_getD, outA_zero]; first | exact z1 c h | exact ⟨.mk c, h⟩)))))
   refine zs ?_
   by_cases hs3 : (g.edges.getD i de).frm = s
   · refine zL (zl 8 ?_ (h := by intro c K h; simp [hG, List.getD_cons_zero, List.getD_cons_succ, -List.getD_eq_getElem?_getD, outA_zero, hs3]; first | exact z1 c h | exact ⟨.mk c, h⟩))
     refine awpL_yield hrec hR [0, 2] (fun _ => false) (outB_y (g.edges.getD i de) i (outA g s i) (by omega) hok) rfl (by rw [hok.params]; rfl) rfl rfl rfl (by simp) (.inl fun _ => rfl) ?_ ?_ ?_ fun K hK x hI hno => ?_
     · simp [hG, List.getD_cons_zero, List.getD_cons_succ, -List.getD_eq_getElem?_getD, outA_zero, hs3]
     · simp [hG, List.getD_cons_zero, List.getD_cons_succ, -List.getD_eq_getElem?_getD, outA_zero, hs3]
     · simp [hG, List.getD_cons_zero, List.getD_cons_succ, -List.getD_eq_getElem?_getD, outA_zero, hs3]
     simp [hG, List.getD_cons_zero, List.getD_cons_succ, -List.getD_eq_getElem?_getD, outA_zero, hs3]
     refine hK _ ?_
     clear K hK
     refine zl 2 ?_ (h := by intro c K h; simp [hG, List.getD_cons_zero, List.getD_cons_succ, -List.getD_eq_getElem?_getD, outA_zero, hs3]; first | exact z1 c h | exact ⟨.mk c, h⟩)
     refine zN ?_
     refine awpS_cond rfl (fun hb24 => ?_) (fun hb24 => ?_)
     · simp at hb24
     try simp [-List.getD_eq_getElem?_getD] at hb24
     refine zk (zn (zbn (zr ?_ (h := by intro c K h; simp [hG, List.getD_cons_zero, List.getD_cons_succ, -List.getD_eq_getElem?_getD, outA_zero, hs3]; first | exact z1 c h | exact ⟨.mk c, h⟩))))
     refine zn ?_
     refine round_end (i + 1) (by omega) (by omega) ?_
     refine wk_of (fun k => if k = 2 then 4 else k) (fun _ => false) (fun _ => false) ?_ ?_ rfl (by simp) (fun k hk => by first | exact ⟨rfl, rfl⟩ | (revert k; decide) | (obtain rfl : k = 0 := (by omega); exact ⟨rfl, rfl⟩) | (have hk2 : k = 0 ∨ k = 1 := (by omega); rcases hk2 with rfl | rfl <;> exact ⟨rfl, rfl⟩))
     · simp [hG, List.getD_cons_zero, List.getD_cons_succ, -List.getD_eq_getElem?_getD, outA_zero, hs3]
     rw [hos, if_pos hs3]; simp [hG, List.getD_cons_zero, List.getD_cons_succ, -List.getD_eq_getElem?_getD]
   refine zL (zl 8 ?_ (h := by intro c K h; simp [hG, List.getD_cons_zero, List.getD_cons_succ, -List.getD_eq_getElem?_getD, outA_zero, hs3]; first | exact z1 c h | exact ⟨.mk c, h⟩))
   refine awpL_not (.bool true) rfl (fun K hK => ?_) (by intro c hc; cases hc)
   simp [hG, List.getD_cons_zero, List.getD_cons_succ, -List.getD_eq_getElem?_getD, outA_zero, hs3]
   refine hK _ ?_
   clear K hK
   refine zl 2 ?_ (h := by intro c K h; simp [hG, List.getD_cons_zero, List.getD_cons_succ, -List.getD_eq_getElem?_getD, outA_zero, hs3]; first | exact z1 c h | exact ⟨.mk c, h⟩)
   refine zN ?_
   refine awpS_cond rfl (fun hb24 => ?_) (fun hb24 => ?_)
   · simp at hb24
   try simp [-List.getD_eq_getElem?_getD] at hb24
   refine zk (zn (zbn (zr ?_ (h := by intro c K h; simp [hG, List.getD_cons_zero, List.getD_cons_succ, -List.getD_eq_getElem?_getD, outA_zero, hs3]; first | exact z1 c h | exact ⟨.mk c, h⟩))))
   refine zn ?_
   refine round_end (i + 1) (by omega) (by omega) ?_
   refine wk_of (id) (fun _ => false) (fun _ => false) ?_ ?_ rfl (by simp) (fun k hk => by first | exact ⟨rfl, rfl⟩ | (revert k; decide) | (obtain rfl : k = 0 := (by omega); exact ⟨rfl, rfl⟩) | (have hk2 : k = 0 ∨ k = 1 := (by omega); rcases hk2 with rfl | rfl <;> exact ⟨rfl, rfl⟩))
   · simp [hG, List.getD_cons_zero, List.getD_cons_succ, -List.getD_eq_getElem?_getD, outA_zero, hs3]
   rw [hos, if_neg hs3]; simp [hG, List.getD_cons_zero, List.getD_cons_succ, -List.getD_eq_getElem?_getD]
 obtain rfl : i = g.edges.length := (by omega)
 refine zx (ztx (zbx (zn ?_)))
 refine RetF_of (()) (id) (fun _ => false) (fun _ => false) trivial ?_ ?_ (by rfl) (by simp) (fun k hk => ⟨rfl, rfl⟩)
 · simp [hG, List.getD_cons_zero, List.getD_cons_succ, -List.getD_eq_getElem?_getD, outA_zero]
 simp [hG, List.getD_cons_zero, List.getD_cons_succ, -List.getD_eq_getElem?_getD]
set_option maxRecDepth 100000 in
theorem leaving_c (g : Gr) (s : Int) : PC Tryz.prog 44 [.agg 3 (grF g), .int .i64 s] (.fn 68 2 (fun j => [.vptr 3 (grF g) 0, .vptr 1 (fun _ => .int .i64 s) 0].getD j .any)) := by
 refine zp Tryz.func44 fun G hG hR => ?_
 refine zs (zr ?_)
 refine zs (zr ?_)
 refine zt ?_
 exact zR
set_option maxRecDepth 100000 in
theorem outC_c (g : Gr) (s : Int) : PC Tryz.prog 28 [.agg 3 (grF g), .int .i64 s] (.tup 2 (fun j => [ints (outR g s), .int .i64 (outN g s)].getD j .any)) := by
 refine zp Tryz.func28 fun G hG hR => ?_
 refine zs (zrP ?_)
 refine zs (zs (zL (zlP 1 ?_)))
 refine zcP cal42 (checkC_c g) ?_
 refine zlP 1 ?_
 refine zN (zy (fun hb10 => ?_) fun hb10 => ?_)
 · refine zs (zrP ?_)
   refine zt ?_
   refine RetOK_of ?_
   simp [hG, List.getD_cons_zero, List.getD_cons_succ, -List.getD_eq_getElem?_getD, pureOp]
   obtain ⟨e1, e2⟩ := out_1 (s := s) hb10; exact ⟨e1, e2.symm⟩
 have hv : gcheck g = 0 := (by omega)
 have hed := (gcheck_valid hv).1.ed
 refine zk (zs (zs (zrP ?_)))
 refine zy (fun hb18 => ?_) fun hb18 => ?_
 · refine zs (zrP ?_)
   refine zt ?_
   refine RetOK_of ?_
   simp [hG, List.getD_cons_zero, List.getD_cons_succ, -List.getD_eq_getElem?_getD, pureOp]
   obtain ⟨e1, e2⟩ := out_2 hv hb18; exact ⟨e1, e2.symm⟩
 refine zk (zs (zrP ?_))
 refine zs (zs (zL (zlP 2 ?_)))
 refine zcP cal44 (leaving_c g s) ?_
 refine zN (zb ?_)
 refine awpS_wk (st2 := ⟨[(6, .ptr (0, 0) 0 0), (21, .fn 68 2 (fun j => [.vptr 3 (grF g) 0, .vptr 1 (fun _ => .int .i64 s) 0].getD j .any))], [(0, .one (.arr 1 1 (fun _ _ => .sl (1, 0) 0 (([] : List Int)).length))), (1, .one (.arr (([] : List Int)).length 1 (fun p _ => .int .i64 ((([] : List Int)).getD p 0))))], 2⟩) ?_ ?_
 · exact zwP (fun k => if k = 0 then 1 else k + 5) (fun k => k == 0) (fun k => k == 1)
 refine awpS_range hR [6] [0, 1] (fun _ => false) cal68 rfl trivial (fun l rec vs hok => by rw [hG] at hok; exact leavingIt_c g s hed l rec vs hok) (by simp) (.inl fun _ => rfl) (fun l vs => ?_) ?_ fun K hK x hI hno => ?_
 · simp [hG, List.getD_cons_zero, List.getD_cons_succ, -List.getD_eq_getElem?_getD]; exact ⟨Clo.le _ (fun j hj => ⟨one_grF, Clo_grF⟩), Clo.le _ (fun j hj => ⟨rfl, trivial⟩), trivial⟩
 · simp [hG, List.getD_cons_zero, List.getD_cons_succ, -List.getD_eq_getElem?_getD, pureOp]
 simp [hG, List.getD_cons_zero, List.getD_cons_succ, -List.getD_eq_getElem?_getD, pureOp]
 refine hK _ ?_
 clear K hK
 refine zn (zbn (zs (zrP ?_)))
 refine zt ?_
 refine RetOK_of ?_
 simp [hG, List.getD_cons_zero, List.getD_cons_succ, -List.getD_eq_getElem?_getD, pureOp]
 obtain ⟨e1, e2⟩ := out_3 hv hb18; rw [e1, e2]; exact ⟨⟨rfl, Nat.le_refl _, fun _ _ => rfl⟩, rfl⟩
end Go.Proofs.YtchjjiedcpfniaaGreatDoor
