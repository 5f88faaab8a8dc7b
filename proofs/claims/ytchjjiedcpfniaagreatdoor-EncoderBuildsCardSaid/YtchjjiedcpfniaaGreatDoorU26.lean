/- Parts of the proof: ZH. -/
import Derived.Test.YtchjjiedcpfniaaGreatDoorU16
import Derived.Test.YtchjjiedcpfniaaGreatDoorU17
import Derived.Test.YtchjjiedcpfniaaGreatDoorU25
namespace Go.Proofs.YtchjjiedcpfniaaGreatDoor
set_option linter.unusedSimpArgs false
set_option linter.unusedVariables false
open Go Go.Lift Go.Proofs
theorem lt3 {j : Nat} (h : j < 3) : j = 0 ∨ j = 1 ∨ j = 2 := by omega
theorem sortE_c (l : List Edge) (hl : l.length ≤ 1000000) :
    FC Tryz.prog 119 [.sl (0, 0) 0 l.length, .fn 89 1 (fun _ => .vptr 1 (fun _ => .fn 67 0 (fun _ => .any)) 0)] [(0, .one (.arr l.length 3 (fun i j => edgeF (l.getD i de) j)))] 1 (fun x : List Edge => x.Perm l ∧ ∀ i j, i < j → j < x.length → ¬ cmpE (x.getD j de) (x.getD i de) < 0) (fun _ => .any)
      (fun x => [(0, .one (.arr l.length 3 (fun i j => edgeF (x.getD i de) j)))]) (fun _ => 1) := by
  rcases Nat.eq_zero_or_pos l.length with h | h
  · obtain rfl := List.length_eq_zero_iff.1 h
    intro O w mu vals hk ha
    refine (sortE0_c O w mu vals hk ha).mono ?_
    rintro e w' ⟨v, x, mu', he, hx, rest⟩
    have hx' : x = [] := hx
    subst hx'
    exact ⟨v, [], mu', he, ⟨List.Perm.refl _, fun i j _ hj => absurd hj (Nat.not_lt_zero _)⟩, rest⟩
  · exact sortE_pos l h hl
theorem app_edge {l : List Edge} {v : Edge} {w : Nat → Nat → AVal} {i j : Nat} (h : i < (l ++ [v]).length) (hj : j < 3) (hw : ∀ j, j < 3 → w 0 j = edgeF v j) : app (fun q j => edgeF (l.getD q de) j) l.length w i j = edgeF ((l ++ [v]).getD i de) j := by
  unfold app
  rw [List.length_append] at h
  by_cases h2 : i < l.length
  · rw [if_pos h2]; simp [List.getD, List.getElem?_append_left h2]
  · rw [if_neg h2]
    have : i = l.length := by simp at h; omega
    subst this
    rw [Nat.sub_self, hw j hj]; simp [List.getD]
theorem app_edge3 {l : List Edge} {v : Edge} {w : Nat → Nat → AVal} {i : Nat} (h : i < (l ++ [v]).length) (hw : ∀ j, j < 3 → w 0 j = edgeF v j) : app (fun q j => edgeF (l.getD q de) j) l.length w i 0 = edgeF ((l ++ [v]).getD i de) 0 ∧ app (fun q j => edgeF (l.getD q de) j) l.length w i 1 = edgeF ((l ++ [v]).getD i de) 1 ∧ app (fun q j => edgeF (l.getD q de) j) l.length w i 2 = edgeF ((l ++ [v]).getD i de) 2 :=
  ⟨app_edge h (by decide) hw, app_edge h (by decide) hw, app_edge h (by decide) hw⟩
theorem edge_ext3 {a b : Edge} (h1 : a.frm = b.frm) (h2 : a.lab = b.lab) (h3 : a.to = b.to) : a = b := by
  cases a; cases b; simp at h1 h2 h3; simp [h1, h2, h3]
def normAt (l : List Edge) (i : Nat) : List Edge := normE (l.take i)
theorem normAt_zero {l : List Edge} : normAt l 0 = [] := by simp [normAt, normE]
theorem normAt_all {l : List Edge} : normAt l l.length = normE l := by simp [normAt]
theorem normAt_len {l : List Edge} {i : Nat} : (normAt l i).length ≤ i := by
  have := norm_len (l := l.take i)
  rw [List.length_take] at this
  unfold normAt; omega
theorem norm_same {l : List Edge} {i k : Nat} (hi : i < l.length) (hn : ∀ j, j < k → ltE ((normAt l i).getD j de) (l.getD i de)) (hb : k < (normAt l i).length ∧ (normAt l i).getD k de = l.getD i de) : normAt l (i + 1) = normAt l i := by
  unfold normAt at *
  rw [norm_succ hi, insE_eq hn hb.1 hb.2]
theorem norm_put {l : List Edge} {i k : Nat} (hi : i < l.length) (hn : ∀ j, j < k → ltE ((normAt l i).getD j de) (l.getD i de)) (hk : k ≤ (normAt l i).length) (hs : k < (normAt l i).length → ¬ ltE ((normAt l i).getD k de) (l.getD i de)) (hb : k < (normAt l i).length → (normAt l i).getD k de ≠ l.getD i de) : normAt l (i + 1) = (normAt l i).take k ++ l.getD i de :: (normAt l i).drop k := by
  unfold normAt at *
  rw [norm_succ hi, insE_at hn hk fun h => ⟨hs h, hb h⟩]
theorem app_put {A : List Edge} {x : Edge} {k : Nat} {w : Nat → Nat → AVal} {i j : Nat} (hk : k ≤ A.length) (hi : i < min k A.length + (A.length - k + 1)) (hw : w 0 j = edgeF x j) : app (fun i j => app (fun q j => edgeF (A.getD q de) j) k w i j) (k + 1) (fun i j => edgeF (A.getD (k + i) de) j) i j = edgeF ((A.take k ++ x :: A.drop k).getD i de) j := by
  simp only [app]
  have hlt : (A.take k).length = k := by rw [List.length_take]; omega
  by_cases h1 : i < k
  · rw [if_pos (by omega), if_pos h1, List.getD_eq_getElem?_getD, List.getD_eq_getElem?_getD, List.getElem?_append_left (by omega), List.getElem?_take_of_lt h1]
  · rw [List.getD_eq_getElem?_getD (l := A.take k ++ x :: A.drop k), List.getElem?_append_right (by omega), hlt]
    by_cases h2 : i = k
    · subst h2
      rw [if_pos (by omega), if_neg (by omega), Nat.sub_self, hw]; rfl
    · rw [if_neg (by omega), show i - k = (i - (k + 1)) + 1 by omega, List.getElem?_cons_succ, List.getElem?_drop, List.getD_eq_getElem?_getD]
theorem app_put3 {A : List Edge} {x : Edge} {k : Nat} {w : Nat → Nat → AVal} (hk : k ≤ A.length) (hw : ∀ j, j < 3 → w 0 j = edgeF x j) : ∀ i, i < min k A.length + (A.length - k + 1) → app (fun i j => app (fun q j => edgeF (A.getD q de) j) k w i j) (k + 1) (fun i j => edgeF (A.getD (k + i) de) j) i 0 = .int .i64 ((A.take k ++ x :: A.drop k).getD i de).frm ∧ app (fun i j => app (fun q j => edgeF (A.getD q de) j) k w i j) (k + 1) (fun i j => edgeF (A.getD (k + i) de) j) i 1 = .int .i64 ((A.take k ++ x :: A.drop k).getD i de).lab ∧ app (fun i j => app (fun q j => edgeF (A.getD q de) j) k w i j) (k + 1) (fun i j => edgeF (A.getD (k + i) de) j) i 2 = .int .i64 ((A.take k ++ x :: A.drop k).getD i de).to :=
  fun i hi => ⟨app_put hk hi (hw 0 (by decide)), app_put hk hi (hw 1 (by decide)), app_put hk hi (hw 2 (by decide))⟩
theorem ddL_short {α : Type} [DecidableEq α] {d : α} {l : List α} (h : l.length < 2) : ddL d l = l := ddL_none fun j hj h1 => by omega
theorem edge_ne {a b : Edge} (h : a.frm = b.frm → a.lab = b.lab → ¬ a.to = b.to) : a ≠ b := fun e => h (by rw [e]) (by rw [e]) (by rw [e])
theorem clr_end {l : List Edge} {m i j : Nat} {f : Nat → Nat → AVal} (hm : m = l.length) (hi : i < l.length) (hj : j < 3) (hf : ∀ i j, f i j = edgeF (ddG de l m i) j) : clr f (ddAt de l m).length (l.length - (ddAt de l m).length) (fun j => [AVal.int .i64 0, .int .i64 0, .int .i64 0].getD j .any) i j = edgeF ((ddL de l).getD i de) j := by
  subst hm
  unfold clr ddL
  have hle := dd_len (d := de) (l := l) (k := l.length)
  by_cases h : (ddAt de l l.length).length ≤ i
  · rw [if_pos (by omega), show (ddAt de l l.length).getD i de = de by simp [List.getD, List.getElem?_eq_none h]]
    rcases lt3 hj with rfl | rfl | rfl <;> rfl
  · rw [if_neg (by omega), hf]
    unfold ddG; rw [if_pos (by omega)]
set_option maxRecDepth 100000 in
theorem sorted_c (l : List Edge) (hl : l.length ≤ 1000000) : PC Tryz.prog 138 [edgesC l] (edgesC (normE l)) := by
 refine zp Tryz.func138 fun G hG hR => ?_
 refine zs (zr ?_ (h := by intro c K h; simp [hG, List.getD_cons_zero, List.getD_cons_succ, -List.getD_eq_getElem?_getD, normAt_zero]; first | exact z1 c h | exact ⟨.mk c, h⟩))
 refine zs (zr ?_ (h := by intro c K h; simp [hG, List.getD_cons_zero, List.getD_cons_succ, -List.getD_eq_getElem?_getD, normAt_zero]; first | exact z1 c h | exact ⟨.mk c, h⟩))
 refine zs (zs (zr ?_ (h := by intro c K h; simp [hG, List.getD_cons_zero, List.getD_cons_succ, -List.getD_eq_getElem?_getD, normAt_zero]; first | exact z1 c h | exact ⟨.mk c, h⟩)))
 refine zb ?_
 refine awpS_loop (α := Nat) (fun i => ⟨[(0, edgesC l), (3, .sl (0, 0) 0 (normAt l i).length), (4, .int .i64 i)], [(0, .one (.arr (normAt l i).length 3 (fun q j => edgeF ((normAt l i).getD q de) j)))], 1⟩) (fun i => i ≤ l.length) (fun i => l.length - i) (0) (Nat.zero_le _) ?_ ?_
 · exact zw (id) (fun _ => false) (fun k => k == 0) (e := by simp [hG, List.getD_cons_zero, List.getD_cons_succ, -List.getD_eq_getElem?_getD, normAt_zero]) (h := by simp [hG, List.getD_cons_zero, List.getD_cons_succ, -List.getD_eq_getElem?_getD, normAt_zero])
 rintro i hi
 have hal := normAt_len (l := l) (i := i)
 refine zs (zs (zr ?_ (h := by intro c K h; simp [hG, List.getD_cons_zero, List.getD_cons_succ, -List.getD_eq_getElem?_getD, normAt_zero]; first | exact z1 c h | exact ⟨.mk c, h⟩)))
 refine zy (fun hb9 => ?_) fun hb9 => ?_
 · refine zk (zs (zb (zs (zr ?_ (h := by intro c K h; simp [hG, List.getD_cons_zero, List.getD_cons_succ, -List.getD_eq_getElem?_getD, normAt_zero]; first | exact z1 c h | exact ⟨.mk c, h⟩)))))
   refine zs (zb ?_)
   refine awpS_loop (α := Nat) (fun k => ⟨[(0, edgesC l), (3, .sl (0, 0) 0 (normAt l i).length), (4, .int .i64 i), (5, .int .i64 k)], [(0, .one (.arr (normAt l i).length 3 (fun q j => edgeF ((normAt l i).getD q de) j)))], 1⟩) (fun k => k ≤ (normAt l i).length ∧ ∀ j, j < k → ltE ((normAt l i).getD j de) (l.getD i de)) (fun k => (normAt l i).length - k) (0) (⟨Nat.zero_le _, fun j hj => absurd hj (Nat.not_lt_zero _)⟩) ?_ ?_
   · exact zi (e := by simp [hG, List.getD_cons_zero, List.getD_cons_succ, -List.getD_eq_getElem?_getD, normAt_zero]) (h := by simp [hG, List.getD_cons_zero, List.getD_cons_succ, -List.getD_eq_getElem?_getD, normAt_zero])
   rintro k ⟨hk, hn⟩
   have hil : i < l.length := (by omega)
   refine zs (zs ?_)
   refine awpS_draw hR mixed [] ⟨[], [], []⟩ fun mu0 => ?_
   refine za [0, 1, 2, 3, 4, 5, 6, 7, 8, 9, 10, 11, 12] [] 3 [12, 11, 10, 9, 8, 7, 6, 5, 4, 3, 2, 1, 0] ?_ (h := by intro c K h; simp [hG, List.getD_cons_zero, List.getD_cons_succ, -List.getD_eq_getElem?_getD, normAt_zero]; first | exact z1 c h | exact ⟨.mk c, h⟩)
   refine awpA_only (fuel := 2) (i := 13) (by decide +kernel) ?_
   refine ze cal79 (compare_c ((normAt l i).getD k de) (l.getD i de)) ?_ (a := fun hg => by first | (simp [hG, List.getD_cons_zero, List.getD_cons_succ, -List.getD_eq_getElem?_getD, normAt_zero]; done) | (simp [-List.getD_eq_getElem?_getD] at hg; done) | (simp [-List.getD_eq_getElem?_getD] at hg; simp [hG, List.getD_cons_zero, List.getD_cons_succ, -List.getD_eq_getElem?_getD, normAt_zero]; first | omega | exact hg | (simp_all [-List.getD_eq_getElem?_getD]; done) | (simp_all [-List.getD_eq_getElem?_getD]; first | exact ⟨rfl, rfl⟩ | exact rfl))) (b := fun hg => by simp [hG, List.getD_cons_zero, List.getD_cons_succ, -List.getD_eq_getElem?_getD]; exact ⟨rfl, rfl, rfl⟩) (h := by intro K h; simp [hG, List.getD_cons_zero, List.getD_cons_succ, -List.getD_eq_getElem?_getD, normAt_zero]; exact h)
   refine za [14, 15] [] 0 [15, 14, 13, 12, 11, 10, 9, 8, 7, 6, 5, 4, 3, 2, 1, 0] ?_ (h := by intro c K h; simp [hG, List.getD_cons_zero, List.getD_cons_succ, -List.getD_eq_getElem?_getD, normAt_zero]; first | exact z1 c h | exact ⟨.mk c, h⟩)
   refine awpA_done (by decide +kernel) ?_
   refine zy (fun hb27 => ?_) fun hb27 => ?_
   · have hkk : k < (normAt l i).length ∧ ltE ((normAt l i).getD k de) (l.getD i de) := ⟨hb27.1, cmp_lt.1 hb27.2⟩
     refine zk (zb (zr ?_ (h := by intro c K h; simp [hG, List.getD_cons_zero, List.getD_cons_succ, -List.getD_eq_getElem?_getD, normAt_zero]; first | exact z1 c h | exact ⟨.mk c, h⟩)))
     refine zn (zbn (zn ?_))
     refine round_end (k + 1) (⟨by omega, fun j hj => (Nat.lt_or_ge j k).elim (hn j) fun h => by rw [show j = k by omega]; exact hkk.2⟩) (by omega) ?_
     exact zi (e := by simp [hG, List.getD_cons_zero, List.getD_cons_succ, -List.getD_eq_getElem?_getD, normAt_zero]) (h := by simp [hG, List.getD_cons_zero, List.getD_cons_succ, -List.getD_eq_getElem?_getD, normAt_zero])
   have hstop : k < (normAt l i).length → ¬ ltE ((normAt l i).getD k de) (l.getD i de) := (fun h h2 => by have := hb27 h; rw [← cmp_lt] at h2; omega)
   refine zx (ztx (zbx (zs (zs ?_))))
   refine awpS_draw hR mixed [] ⟨[], [], []⟩ fun mu0 => ?_
   refine za [0, 1, 2, 3, 4, 5, 6, 7, 8, 9, 10, 11, 12, 13, 14] [] 0 [14, 13, 12, 11, 10, 9, 8, 7, 6, 5, 4, 3, 2, 1, 0] ?_ (h := by intro c K h; simp [hG, List.getD_cons_zero, List.getD_cons_succ, -List.getD_eq_getElem?_getD, normAt_zero]; first | exact z1 c h | exact ⟨.mk c, h⟩)
   refine awpA_done (by decide +kernel) ?_
   refine zy (fun hb44 => ?_) fun hb44 => ?_
   · have hsame := norm_same hil hn ⟨hb44.1, edge_ext3 hb44.2.1 hb44.2.2.1 hb44.2.2.2⟩
     refine zx (zbx (zr ?_ (h := by intro c K h; simp [hG, List.getD_cons_zero, List.getD_cons_succ, -List.getD_eq_getElem?_getD, normAt_zero]; first | exact z1 c h | exact ⟨.mk c, h⟩)))
     refine zn ?_
     refine round_end (i + 1) (by omega) (by omega) ?_
     exact zi (e := by rw [hsame]; simp [hG, List.getD_cons_zero, List.getD_cons_succ, -List.getD_eq_getElem?_getD]) (h := by rw [hsame]; simp [hG, List.getD_cons_zero, List.getD_cons_succ, -List.getD_eq_getElem?_getD])
   have hput := norm_put hil hn hk hstop (fun h e => hb44 h (by rw [e]) (by rw [e]) (by rw [e]))
   refine zk ?_
   refine awpS_draw hR mixed [] ⟨[], [4, 10, 14], [(0, 0)]⟩ fun mu0 => ?_
   refine za [1, 2, 3, 5, 6, 7, 8, 11, 12, 13] [] 6 [13, 12, 11, 8, 7, 6, 5, 3, 2, 1] ?_ (h := by intro c K h; simp [hG, List.getD_cons_zero, List.getD_cons_succ, -List.getD_eq_getElem?_getD, normAt_zero]; first | exact z1 c h | exact ⟨.mk c, h⟩)
   refine awpA_two (fuel := 5) (i := 0) (k := 9) (by decide +kernel) ?_ ?_
   · refine zo ?_ (hw := by simp [hG, List.getD_cons_zero, List.getD_cons_succ, -List.getD_eq_getElem?_getD, normAt_zero]; (try exact trivial)) (h := by intro c K h; simp [hG, List.getD_cons_zero, List.getD_cons_succ, -List.getD_eq_getElem?_getD, normAt_zero]; first | exact z1 c h | exact ⟨.mk c, h⟩)
     refine awpA_two (fuel := 4) (i := 4) (k := 9) (by decide +kernel) ?_ ?_
     · refine zo ?_ (hw := by simp [hG, List.getD_cons_zero, List.getD_cons_succ, -List.getD_eq_getElem?_getD, normAt_zero]; (try exact trivial)) (h := by intro c K h; simp [hG, List.getD_cons_zero, List.getD_cons_succ, -List.getD_eq_getElem?_getD, normAt_zero]; first | exact z1 c h | exact ⟨.mk c, h⟩)
       refine awpA_only (fuel := 3) (i := 9) (by decide +kernel) ?_
       refine zo ?_ (hw := by simp [hG, List.getD_cons_zero, List.getD_cons_succ, -List.getD_eq_getElem?_getD, normAt_zero]; (try exact trivial)) (h := by intro c K h; simp [hG, List.getD_cons_zero, List.getD_cons_succ, -List.getD_eq_getElem?_getD, normAt_zero]; first | exact z1 c h | exact ⟨.mk c, h⟩)
       refine awpA_only (fuel := 2) (i := 10) (by decide +kernel) ?_
       refine zo ?_ (hw := by simp [hG, List.getD_cons_zero, List.getD_cons_succ, -List.getD_eq_getElem?_getD, normAt_zero]; (try exact trivial)) (h := by intro c K h; simp [hG, List.getD_cons_zero, List.getD_cons_succ, -List.getD_eq_getElem?_getD, normAt_zero]; first | exact z1 c h | exact ⟨.mk c, h⟩)
       refine awpA_only (fuel := 1) (i := 14) (by decide +kernel) ?_
       refine zo ?_ (hw := by simp [hG, List.getD_cons_zero, List.getD_cons_succ, -List.getD_eq_getElem?_getD, normAt_zero]; (try exact trivial)) (h := by intro c K h; simp [hG, List.getD_cons_zero, List.getD_cons_succ, -List.getD_eq_getElem?_getD, normAt_zero]; first | exact z1 c h | exact ⟨.mk c, h⟩)
       refine za [15] [] 0 [15, 14, 10, 9, 4, 0, 13, 12, 11, 8, 7, 6, 5, 3, 2, 1] ?_ (h := by intro c K h; simp [hG, List.getD_cons_zero, List.getD_cons_succ, -List.getD_eq_getElem?_getD, normAt_zero]; first | exact z1 c h | exact ⟨.mk c, h⟩)
       refine awpA_done (by decide +kernel) ?_
       refine zn (zbn (zr ?_ (h := by intro c K h; simp [hG, List.getD_cons_zero, List.getD_cons_succ, -List.getD_eq_getElem?_getD, normAt_zero]; first | exact z1 c h | exact ⟨.mk c, h⟩)))
       refine zn ?_
       refine round_end (i + 1) (by omega) (by omega) ?_
       exact zw (fun k => if k = 0 then 5 else k) (fun _ => false) (fun _ => false) (e := by rw [hput]; simp [hG, List.getD_cons_zero, List.getD_cons_succ, -List.getD_eq_getElem?_getD]; omega) (h := by rw [hput]; simp [hG, List.getD_cons_zero, List.getD_cons_succ, -List.getD_eq_getElem?_getD]; exact ⟨by omega, app_put3 hk (fun j hj => by rcases lt3 hj with rfl | rfl | rfl <;> rfl)⟩)
     refine zo ?_ (hw := by simp [hG, List.getD_cons_zero, List.getD_cons_succ, -List.getD_eq_getElem?_getD, normAt_zero]; (try exact trivial)) (h := by intro c K h; simp [hG, List.getD_cons_zero, List.getD_cons_succ, -List.getD_eq_getElem?_getD, normAt_zero]; first | exact z1 c h | exact ⟨.mk c, h⟩)
     refine awpA_only (fuel := 3) (i := 4) (by decide +kernel) ?_
     refine zo ?_ (hw := by simp [hG, List.getD_cons_zero, List.getD_cons_succ, -List.getD_eq_getElem?_getD, normAt_zero]; (try exact trivial)) (h := by intro c K h; simp [hG, List.getD_cons_zero, List.getD_cons_succ, -List.getD_eq_getElem?_getD, normAt_zero]; first | exact z1 c h | exact ⟨.mk c, h⟩)
     refine awpA_only (fuel := 2) (i := 10) (by decide +kernel) ?_
     refine zo ?_ (hw := by simp [hG, List.getD_cons_zero, List.getD_cons_succ, -List.getD_eq_getElem?_getD, normAt_zero]; (try exact trivial)) (h := by intro c K h; simp [hG, List.getD_cons_zero, List.getD_cons_succ, -List.getD_eq_getElem?_getD, normAt_zero]; first | exact z1 c h | exact ⟨.mk c, h⟩)
     refine awpA_only (fuel := 1) (i := 14) (by decide +kernel) ?_
     refine zo ?_ (hw := by simp [hG, List.getD_cons_zero, List.getD_cons_succ, -List.getD_eq_getElem?_getD, normAt_zero]; (try exact trivial)) (h := by intro c K h; simp [hG, List.getD_cons_zero, List.getD_cons_succ, -List.getD_eq_getElem?_getD, normAt_zero]; first | exact z1 c h | exact ⟨.mk c, h⟩)
     refine za [15] [] 0 [15, 14, 10, 4, 9, 0, 13, 12, 11, 8, 7, 6, 5, 3, 2, 1] ?_ (h := by intro c K h; simp [hG, List.getD_cons_zero, List.getD_cons_succ, -List.getD_eq_getElem?_getD, normAt_zero]; first | exact z1 c h | exact ⟨.mk c, h⟩)
     refine awpA_done (by decide +kernel) ?_
     refine zn (zbn (zr ?_ (h := by intro c K h; simp [hG, List.getD_cons_zero, List.getD_cons_succ, -List.getD_eq_getElem?_getD, normAt_zero]; first | exact z1 c h | exact ⟨.mk c, h⟩)))
     refine zn ?_
     refine round_end (i + 1) (by omega) (by omega) ?_
     exact zw (fun k => if k = 0 then 5 else k) (fun _ => false) (fun _ => false) (e := by rw [hput]; simp [hG, List.getD_cons_zero, List.getD_cons_succ, -List.getD_eq_getElem?_getD]; omega) (h := by rw [hput]; simp [hG, List.getD_cons_zero, List.getD_cons_succ, -List.getD_eq_getElem?_getD]; exact ⟨by omega, app_put3 hk (fun j hj => by rcases lt3 hj with rfl | rfl | rfl <;> rfl)⟩)
   refine zo ?_ (hw := by simp [hG, List.getD_cons_zero, List.getD_cons_succ, -List.getD_eq_getElem?_getD, normAt_zero]; (try exact trivial)) (h := by intro c K h; simp [hG, List.getD_cons_zero, List.getD_cons_succ, -List.getD_eq_getElem?_getD, normAt_zero]; first | exact z1 c h | exact ⟨.mk c, h⟩)
   refine awpA_only (fuel := 4) (i := 0) (by decide +kernel) ?_
   refine zo ?_ (hw := by simp [hG, List.getD_cons_zero, List.getD_cons_succ, -List.getD_eq_getElem?_getD, normAt_zero]; (try exact trivial)) (h := by intro c K h; simp [hG, List.getD_cons_zero, List.getD_cons_succ, -List.getD_eq_getElem?_getD, normAt_zero]; first | exact z1 c h | exact ⟨.mk c, h⟩)
   refine awpA_only (fuel := 3) (i := 4) (by decide +kernel) ?_
   refine zo ?_ (hw := by simp [hG, List.getD_cons_zero, List.getD_cons_succ, -List.getD_eq_getElem?_getD, normAt_zero]; (try exact trivial)) (h := by intro c K h; simp [hG, List.getD_cons_zero, List.getD_cons_succ, -List.getD_eq_getElem?_getD, normAt_zero]; first | exact z1 c h | exact ⟨.mk c, h⟩)
   refine awpA_only (fuel := 2) (i := 10) (by decide +kernel) ?_
   refine zo ?_ (hw := by simp [hG, List.getD_cons_zero, List.getD_cons_succ, -List.getD_eq_getElem?_getD, normAt_zero]; (try exact trivial)) (h := by intro c K h; simp [hG, List.getD_cons_zero, List.getD_cons_succ, -List.getD_eq_getElem?_getD, normAt_zero]; first | exact z1 c h | exact ⟨.mk c, h⟩)
   refine awpA_only (fuel := 1) (i := 14) (by decide +kernel) ?_
   refine zo ?_ (hw := by simp [hG, List.getD_cons_zero, List.getD_cons_succ, -List.getD_eq_getElem?_getD, normAt_zero]; (try exact trivial)) (h := by intro c K h; simp [hG, List.getD_cons_zero, List.getD_cons_succ, -List.getD_eq_getElem?_getD, normAt_zero]; first | exact z1 c h | exact ⟨.mk c, h⟩)
   refine za [15] [] 0 [15, 14, 10, 4, 0, 9, 13, 12, 11, 8, 7, 6, 5, 3, 2, 1] ?_ (h := by intro c K h; simp [hG, List.getD_cons_zero, List.getD_cons_succ, -List.getD_eq_getElem?_getD, normAt_zero]; first | exact z1 c h | exact ⟨.mk c, h⟩)
   refine awpA_done (by decide +kernel) ?_
   refine zn (zbn (zr ?_ (h := by intro c K h; simp [hG, List.getD_cons_zero, List.getD_cons_succ, -List.getD_eq_getElem?_getD, normAt_zero]; first | exact z1 c h | exact ⟨.mk c, h⟩)))
   refine zn ?_
   refine round_end (i + 1) (by omega) (by omega) ?_
   exact zw (fun k => if k = 0 then 5 else k) (fun _ => false) (fun _ => false) (e := by rw [hput]; simp [hG, List.getD_cons_zero, List.getD_cons_succ, -List.getD_eq_getElem?_getD]; omega) (h := by rw [hput]; simp [hG, List.getD_cons_zero, List.getD_cons_succ, -List.getD_eq_getElem?_getD]; exact ⟨by omega, app_put3 hk (fun j hj => by rcases lt3 hj with rfl | rfl | rfl <;> rfl)⟩)
 refine zx (ztx (zbx (zs (zr ?_ (h := by intro c K h; simp [hG, List.getD_cons_zero, List.getD_cons_succ, -List.getD_eq_getElem?_getD, normAt_zero]; first | exact z1 c h | exact ⟨.mk c, h⟩)))))
 refine zt ?_
 refine RetOK_of ?_
 simp [hG, List.getD_cons_zero, List.getD_cons_succ, -List.getD_eq_getElem?_getD, normAt_zero]
 obtain rfl : i = l.length := (by omega); rw [normAt_all]; simp
set_option maxRecDepth 100000 in
theorem makeR_c (labels states : Int) (l : List Edge) (hl : l.length ≤ 1000000) : PC Tryz.prog 112 [.int .i64 labels, .int .i64 states, edgesC l] (.tup 2 (fun j => [.agg 3 (grF (mkX labels states l)), .int .i64 (mkN labels states l)].getD j .any)) := by
 refine zp Tryz.func112 fun G hG hR => ?_
 refine zs (zr ?_)
 refine zs (zL (zl 3 ?_))
 refine zc cal138 (sorted_c l hl) ?_
 refine zl 3 ?_
 refine zN (zs (zs (zL (zl 1 ?_))))
 refine zc cal60 (check9_c ⟨labels, states, normE l⟩) ?_
 refine zl 1 ?_
 refine zN (zs (zr ?_))
 refine zy (fun hb18 => ?_) fun hb18 => ?_
 · refine zs (zr ?_)
   refine zt ?_
   refine RetOK_of ?_
   simp [hG, List.getD_cons_zero, List.getD_cons_succ, -List.getD_eq_getElem?_getD]
   rw [mk_no (m := mkN labels states l) rfl hb18]; simp; exact rfl
 refine zk (zs (zr ?_))
 refine zt ?_
 refine RetOK_of ?_
 simp [hG, List.getD_cons_zero, List.getD_cons_succ, -List.getD_eq_getElem?_getD]
 rw [mk_ok hb18]; simp; exact hb18.symm
set_option maxRecDepth 100000 in
theorem compactF_c (l : List Edge) (hl : l.length ≤ 1000000) : FC1 Tryz.prog 120 [.sl (0, 0) 0 l.length] [(0, .one (.arr l.length 3 (fun i j => edgeF (l.getD i de) j)))] 1 (.sl (0, 0) 0 (ddL de l).length) [(0, .one (.arr l.length 3 (fun i j => edgeF ((ddL de l).getD i de) j)))] 1 := by
 refine FC_introS T_ok Tryz.func120 rfl (by simp [Tryz.ntmps120]) fun G hG hR => ?_
 simp only [Tryz.ntmps120, Tryz.results120] at hG ⊢
 simp only [argEnv, Nat.zero_add, Nat.reduceAdd]
 refine zs (zr ?_)
 refine zs (zs (zr ?_))
 refine zy (fun hb8 => ?_) fun hb8 => ?_
 · refine zs (zr ?_)
   refine zt ?_
   refine RetF_of (()) (id) (fun _ => false) (fun _ => false) trivial ?_ ?_ (by rfl) (by simp) (fun k _ => ⟨rfl, rfl⟩)
   · rw [ddL_short (by omega)]; simp [hG]
   rw [ddL_short (by omega)]; simp [hG]
 refine zk (zs (zs (zr ?_)))
 refine zb ?_
 refine awpS_loop (α := Nat) (fun k => ⟨[(0, .sl (0, 0) 0 l.length), (3, .int .i64 k)], [(0, .one (.arr l.length 3 (fun i j => edgeF (l.getD i de) j)))], 1⟩) (fun k => 1 ≤ k ∧ k ≤ l.length ∧ ∀ j, j < k → 1 ≤ j → l.getD j de ≠ l.getD (j - 1) de) (fun k => l.length - k) (1) (⟨Nat.le_refl _, by omega, fun j hj h1 => by omega⟩) ?_ ?_
 · refine wk_of (id) (fun _ => false) (fun _ => false) ?_ ?_ rfl (by simp) (fun k hk => by first | exact ⟨rfl, rfl⟩ | (revert k; decide) | (obtain rfl : k = 0 := (by omega); exact ⟨rfl, rfl⟩) | (have hk2 : k = 0 ∨ k = 1 := (by omega); rcases hk2 with rfl | rfl <;> exact ⟨rfl, rfl⟩))
   · simp [hG, List.getD_cons_zero, List.getD_cons_succ, -List.getD_eq_getElem?_getD]
   simp [hG, List.getD_cons_zero, List.getD_cons_succ, -List.getD_eq_getElem?_getD]
 rintro k ⟨hk1, hk, hn⟩
 refine zs (zs (zr ?_))
 refine zy (fun hb13 => ?_) fun hb13 => ?_
 · refine zk (zs (zb (zs ?_)))
   refine awpS_draw hR mixed [] ⟨[], [], []⟩ fun mu0 => ?_
   refine za [0, 1, 2, 3, 4, 5, 6, 7, 8, 9] [] 0 [9, 8, 7, 6, 5, 4, 3, 2, 1, 0] ?_
   refine awpA_done (by decide +kernel) ?_
   refine zy (fun hb25 => ?_) fun hb25 => ?_
   · have heq : l.getD k de = l.getD (k - 1) de := edge_ext hb25.1 hb25.2.1 hb25.2.2
     have hdf := dd_full (d := de) hk hn
     have hdk : (ddAt de l k).length = k := (by rw [hdf, List.length_take]; omega)
     have hde := dd_eq (d := de) (l := l) (k := k) (by omega) heq
     refine zs (zr ?_)
     refine zs (zs (zr ?_))
     refine zb ?_
     refine awpS_loop (α := Nat) (fun u => ⟨[(0, .sl (0, 0) 0 l.length), (3, .int .i64 (ddAt de l (k + u)).length), (4, .sl (0, 0) k (l.length - k)), (5, .int .i64 u)], [(0, .one (.arr l.length 3 (fun i j => edgeF (ddG de l (k + u) i) j)))], 1⟩) (fun u => 1 ≤ u ∧ k + u ≤ l.length ∧ (ddAt de l (k + u)).length + 1 ≤ k + u) (fun u => l.length - k - u) (1) (⟨Nat.le_refl _, by omega, by rw [hde]; omega⟩) ?_ ?_
     · refine wk_of (id) (fun _ => false) (fun _ => false) ?_ ?_ rfl (by simp) (fun k hk => by first | exact ⟨rfl, rfl⟩ | (revert k; decide) | (obtain rfl : k = 0 := (by omega); exact ⟨rfl, rfl⟩) | (have hk2 : k = 0 ∨ k = 1 := (by omega); rcases hk2 with rfl | rfl <;> exact ⟨rfl, rfl⟩))
       · simp [hG, List.getD_cons_zero, List.getD_cons_succ, -List.getD_eq_getElem?_getD]; rw [hde, hdk]
       simp [hG, List.getD_cons_zero, List.getD_cons_succ, -List.getD_eq_getElem?_getD]; intro i hi; have e := ddG_full (d := de) (l := l) (k := k) (i := i) hk hn; rw [ddG_skip (by omega) heq, e]; exact ⟨rfl, rfl, rfl⟩
     rintro u ⟨hu1, hu, hdl⟩
     refine zs (zs (zr ?_))
     refine zy (fun hb32 => ?_) fun hb32 => ?_
     · have hg1 := ddG_old (d := de) (l := l) (m := k + u) (i := k + u) (by omega)
       have hg2 := ddG_old (d := de) (l := l) (m := k + u) (i := k + (u - 1)) (by omega)
       refine zk (zs (zb (zs ?_)))
       refine awpS_draw hR mixed [] ⟨[], [], []⟩ fun mu0 => ?_
       refine za [0, 1, 2, 3, 4, 5, 6, 7, 8, 9] [] 0 [9, 8, 7, 6, 5, 4, 3, 2, 1, 0] ?_
       refine awpA_done (by decide +kernel) ?_
       refine zy (fun hb44 => ?_) fun hb44 => ?_
       · have hnx : l.getD (k + u) de ≠ l.getD (k + u - 1) de := (by rw [show k + u - 1 = k + (u - 1) by omega, ← hg1, ← hg2]; intro e; rw [e] at hb44; simp at hb44)
         have hds := dd_ne hnx
         refine zs (zr ?_)
         refine zr ?_
         refine zn (zbn (zr ?_))
         refine zn ?_
         refine round_end (u + 1) (⟨by omega, by omega, by rw [show k + (u + 1) = k + u + 1 by omega, hds, List.length_append, List.length_singleton]; omega⟩) (by omega) ?_
         refine wk_of (id) (fun _ => false) (fun _ => false) ?_ ?_ rfl (by simp) (fun k hk => by first | exact ⟨rfl, rfl⟩ | (revert k; decide) | (obtain rfl : k = 0 := (by omega); exact ⟨rfl, rfl⟩) | (have hk2 : k = 0 ∨ k = 1 := (by omega); rcases hk2 with rfl | rfl <;> exact ⟨rfl, rfl⟩))
         · rw [show k + (u + 1) = k + u + 1 by omega, hds]; simp [hG, List.getD_cons_zero, List.getD_cons_succ, -List.getD_eq_getElem?_getD]
         simp [hG, List.getD_cons_zero, List.getD_cons_succ, -List.getD_eq_getElem?_getD]; intro i hi; rw [show k + (u + 1) = k + u + 1 by omega, ddG_put hnx, hg1]; by_cases h : i = (ddAt de l (k + u)).length <;> simp [h]
       have heq2 : l.getD (k + u) de = l.getD (k + u - 1) de := (by rw [show k + u - 1 = k + (u - 1) by omega, ← hg1, ← hg2]; exact edge_ext hb44.1 hb44.2.1 hb44.2.2)
       have hdq := dd_eq (d := de) (l := l) (k := k + u) (by omega) heq2
       refine zk (zn (zbn (zr ?_)))
       refine zn ?_
       refine round_end (u + 1) (⟨by omega, by omega, by rw [show k + (u + 1) = k + u + 1 by omega, hdq]; omega⟩) (by omega) ?_
       refine wk_of (id) (fun _ => false) (fun _ => false) ?_ ?_ rfl (by simp) (fun k hk => by first | exact ⟨rfl, rfl⟩ | (revert k; decide) | (obtain rfl : k = 0 := (by omega); exact ⟨rfl, rfl⟩) | (have hk2 : k = 0 ∨ k = 1 := (by omega); rcases hk2 with rfl | rfl <;> exact ⟨rfl, rfl⟩))
       · rw [show k + (u + 1) = k + u + 1 by omega, hdq]; simp [hG, List.getD_cons_zero, List.getD_cons_succ, -List.getD_eq_getElem?_getD]
       simp [hG, List.getD_cons_zero, List.getD_cons_succ, -List.getD_eq_getElem?_getD]; intro i hi; rw [show k + (u + 1) = k + u + 1 by omega, ddG_skip (by omega) heq2]; exact ⟨rfl, rfl, rfl⟩
     refine zx (ztx (zbx (zs (zr ?_))))
     refine zs (zr ?_)
     refine zt (zbt (ztt (zbt ?_)))
     refine RetF_of (()) (id) (fun _ => false) (fun _ => false) trivial ?_ ?_ (by rfl) (by simp) (fun k _ => ⟨rfl, rfl⟩)
     · simp [hG, List.getD_cons_zero, List.getD_cons_succ, -List.getD_eq_getElem?_getD]; unfold ddL; rw [show k + u = l.length by omega]
     simp [hG, List.getD_cons_zero, List.getD_cons_succ, -List.getD_eq_getElem?_getD]; exact fun i hi => ⟨clr_end (j := 0) (by omega) hi (by decide) (fun _ _ => rfl), clr_end (j := 1) (by omega) hi (by decide) (fun _ _ => rfl), clr_end (j := 2) (by omega) hi (by decide) (fun _ _ => rfl)⟩
   have hneq := edge_ne hb25
   refine zk (zn (zbn (zr ?_)))
   refine zn ?_
   refine round_end (k + 1) (⟨by omega, by omega, fun j hj h1 => (Nat.lt_or_ge j k).elim (fun h => hn j h h1) fun h => by rw [show j = k by omega]; exact hneq⟩) (by omega) ?_
   refine wk_of (id) (fun _ => false) (fun _ => false) ?_ ?_ rfl (by simp) (fun k hk => by first | exact ⟨rfl, rfl⟩ | (revert k; decide) | (obtain rfl : k = 0 := (by omega); exact ⟨rfl, rfl⟩) | (have hk2 : k = 0 ∨ k = 1 := (by omega); rcases hk2 with rfl | rfl <;> exact ⟨rfl, rfl⟩))
   · simp [hG, List.getD_cons_zero, List.getD_cons_succ, -List.getD_eq_getElem?_getD]
   simp [hG, List.getD_cons_zero, List.getD_cons_succ, -List.getD_eq_getElem?_getD]
 refine zx (ztx (zbx (zs (zr ?_))))
 refine zt ?_
 refine RetF_of (()) (id) (fun _ => false) (fun _ => false) trivial ?_ ?_ (by rfl) (by simp) (fun k _ => ⟨rfl, rfl⟩)
 · rw [ddL_none fun j hj h1 => hn j (by omega) h1]; simp [hG]
 rw [ddL_none fun j hj h1 => hn j (by omega) h1]; simp [hG]
set_option maxRecDepth 100000 in
theorem makeG_c (labels states : Int) (l : List Edge) (hl : l.length ≤ 1000000) : PC Tryz.prog 86 [.int .i64 labels, .int .i64 states, edgesC l] (.tup 2 (fun j => [.agg 3 (grF (mkX labels states l)), .int .i64 (mkN labels states l)].getD j .any)) := by
 refine zp Tryz.func86 fun G hG hR => ?_
 refine zs (zr ?_)
 refine zs (zL (zl 1 ?_))
 refine zf cal58 [] (cloneE_c l (by omega)) (fun x hI hno => ?_)
 refine zl 1 ?_
 refine zN (zs (zL (zl 1 ?_)))
 refine zc cal66 by_c ?_
 refine awpL_fc cal119 [1] (fun _ => false) (sortE_c l (by omega)) rfl rfl rfl (by simp) (.inl fun _ => rfl) ?_ ?_ ?_ fun K hK x hI hno => ?_
 · simp [hG, List.getD_cons_zero, List.getD_cons_succ, -List.getD_eq_getElem?_getD]
 · simp [hG, List.getD_cons_zero, List.getD_cons_succ, -List.getD_eq_getElem?_getD]
 · simp [hG, List.getD_cons_zero, List.getD_cons_succ, -List.getD_eq_getElem?_getD]
 have hxl := hI.1.length_eq
 have hxe := dd_norm hI.1 hI.2
 simp [hG, List.getD_cons_zero, List.getD_cons_succ, -List.getD_eq_getElem?_getD]
 refine hK _ ?_
 clear K hK
 refine zN (zs ?_)
 refine awpS_wk (st2 := ⟨[(0, .int .i64 labels), (1, .int .i64 states), (6, .ptr (0, 0) 0 0), (8, .sl (1, 0) 0 x.length)], [(0, .one (.arr 1 3 (fun _ j => [.int .i64 0, .int .i64 0, .nils].getD j .any))), (1, .one (.arr x.length 3 (fun i j => edgeF (x.getD i de) j)))], 2⟩) ?_ ?_
 · exact zi (e := by simp [hG, List.getD_cons_zero, List.getD_cons_succ, -List.getD_eq_getElem?_getD]; omega) (h := by simp [hG, List.getD_cons_zero, List.getD_cons_succ, -List.getD_eq_getElem?_getD]; omega)
 refine zL (zl 3 ?_)
 refine awpL_fc cal120 [1] (fun _ => false) (compactF_c x (by omega)) rfl rfl rfl (by simp) (.inl fun _ => rfl) ?_ ?_ ?_ fun K hK x hI hno => ?_
 · simp [hG, List.getD_cons_zero, List.getD_cons_succ, -List.getD_eq_getElem?_getD]
 · simp [hG, List.getD_cons_zero, List.getD_cons_succ, -List.getD_eq_getElem?_getD]
 · simp [hG, List.getD_cons_zero, List.getD_cons_succ, -List.getD_eq_getElem?_getD]
 simp only [hxe]
 simp [hG, List.getD_cons_zero, List.getD_cons_succ, -List.getD_eq_getElem?_getD]
 refine hK _ ?_
 clear K hK
 refine zl 3 ?_
 refine zN (zs (zs (zL (zl 1 ?_))))
 refine awpL_callB (mem [1]) cal42 (by simp [flat]) rfl rfl (fun _ => rfl) (fun hg => checkC_c ⟨labels, states, normE l⟩) (fun hg => ?_) (fun hg => ?_) fun K hK => ?_
 · simp [hG, List.getD_cons_zero, List.getD_cons_succ, -List.getD_eq_getElem?_getD]
 · simp [hG, List.getD_cons_zero, List.getD_cons_succ, -List.getD_eq_getElem?_getD]; have := norm_len (l := l); omega
 simp [hG, List.getD_cons_zero, List.getD_cons_succ, -List.getD_eq_getElem?_getD]
 refine hK _ ?_
 clear K hK
 refine zl 1 ?_
 refine zN (zs (zr ?_))
 refine zy (fun hb24 => ?_) fun hb24 => ?_
 · refine zs (zr ?_)
   refine zt ?_
   refine RetOK_of ?_
   simp [hG, List.getD_cons_zero, List.getD_cons_succ, -List.getD_eq_getElem?_getD]
   rw [mk_no (m := mkN labels states l) rfl hb24]; simp; exact rfl
 refine zk (zs (zr ?_))
 refine zt ?_
 refine RetOK_of ?_
 simp [hG, List.getD_cons_zero, List.getD_cons_succ, -List.getD_eq_getElem?_getD]
 rw [mk_ok hb24]; simp; exact ⟨by have := norm_len (l := l); omega, hb24.symm⟩
end Go.Proofs.YtchjjiedcpfniaaGreatDoor
