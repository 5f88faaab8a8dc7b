/- Parts of the proof: UC. -/
import Derived.Test.YtchjjiedcpfniaaGreatDoorK16
import Derived.Test.YtchjjiedcpfniaaGreatDoorK34
namespace Go.Proofs.YtchjjiedcpfniaaGreatDoor
set_option linter.unusedSimpArgs false
set_option linter.unusedVariables false
open Go Go.Lift Go.Proofs
def prK (x : Pr) : AVal := aggL [.int .i64 x.s, .int .i64 x.t]
@[simp] theorem aggL_pr {a c : Int} : aggL [.int .i64 a, .int .i64 c] = prK ⟨a, c⟩ := rfl
theorem kEq_pr (a b : Pr) : kEq T 102 (prK a) (prK b) = some (decide (a = b)) := by
  have : kEq T 102 (prK a) (prK b) = some (decide (a.s = b.s) && (decide (a.t = b.t) && true)) := by
    simp [prK, aggL]
  rw [this]
  congr 1
  rw [Bool.eq_iff_iff]
  simp only [Bool.and_eq_true, decide_eq_true_eq, Bool.and_true]
  obtain ⟨a1, a2⟩ := a
  obtain ⟨b1, b2⟩ := b
  simp
def luKy := luK
theorem luK_congr2 {l : List (AVal × AVal)} {f g : Nat → AVal} (h : f 0 = g 0 ∧ f 1 = g 1) : ∀ i, luK T 102 l i (.agg 2 f) = luK T 102 l i (.agg 2 g) := by
  obtain ⟨h0, h1⟩ := h
  induction l with
  | nil => intro i; rfl
  | cons p l ih =>
    intro i
    obtain ⟨a, v⟩ := p
    have hk : kEq T 102 (.agg 2 f) a = kEq T 102 (.agg 2 g) a := by
      cases a <;> simp [h0, h1]
    simp only [luK, hk, ih (i + 1)]
@[simp] theorem luKpr {l : List (Pr × Bool)} {f : Nat → AVal} : luK T 102 (mpE prK boolV l) 0 (.agg 2 f) = (match f 0, f 1 with
    | .int .i64 a, .int .i64 b => some ((alFind l 0 (⟨a, b⟩ : Pr)).map fun p => (p.1, boolV p.2))
    | _, _ => luKy T 102 (mpE prK boolV l) 0 (.agg 2 f)) := by
  split
  · rename_i a b h0 h1
    rw [← luK_mpE (ek := prK) (ev := boolV) kEq_pr l 0 ⟨a, b⟩]
    exact luK_congr2 ⟨h0, h1⟩ 0
  · rfl
@[simp] theorem putK_pr {l : List (Pr × Bool)} {k : Pr} {v : Bool} : putK (mpE prK boolV l) ((alFind l 0 k).map fun p => (p.1, boolV p.2)) (prK k) (.bool v) = mpE prK boolV (alPut l k v) := putK_mpE (ek := prK) (ev := boolV) l k v
@[simp high] theorem HLe_pr {h : Heap} {σ : Lift.Id → Lift.Id} {fz : Nat → Bool} {vz : Lift.Id → Bool} {nx : Nat} {l2 l : List (Pr × Bool)} (e : l2 = l) : HLe h σ fz vz nx (.mp (mpE prK boolV l2)) (some (.mp (mpE prK boolV l))) = True := eq_true (HLe_mpE (ek := prK) (ev := boolV) (fun a => by simp [prK, aggL, Clo]) (fun _ => trivial) e)
@[simp] theorem ren_mpP {σ : Nat → Nat} {l : List (Pr × Bool)} : List.map (fun p => (ren σ p.1, ren σ p.2)) (mpE prK boolV l) = mpE prK boolV l := by
  conv => rhs; rw [← List.map_id (mpE prK boolV l)]
  refine List.map_congr_left fun p hp => ?_
  obtain ⟨q, _, rfl⟩ := List.mem_map.1 hp
  simp only [prK, aggL, boolV, ren, id]
  congr 2
  funext j
  match j with
  | 0 => rfl
  | 1 => rfl
  | _ + 2 => rfl
def seenP (Q : List Pr) : List (Pr × Bool) := Q.map fun x => (x, true)
@[simp] theorem seenP_nil : seenP [] = [] := rfl
theorem seenP_get {Q : List Pr} {p : Pr} : alGet (seenP Q) p = if p ∈ Q then some true else none := by
  unfold seenP
  induction Q with
  | nil => rfl
  | cons x F ih =>
    simp only [List.map_cons, alGet]
    by_cases h : p = x
    · rw [if_pos h, if_pos (by rw [h]; exact List.mem_cons_self ..)]
    · rw [if_neg h, ih]
      by_cases h2 : p ∈ F
      · rw [if_pos h2, if_pos (List.mem_cons_of_mem _ h2)]
      · rw [if_neg h2, if_neg (fun e => (List.mem_cons.1 e).elim h h2)]
theorem put_newP {m : List (Pr × Bool)} {k : Pr} {v : Bool} (h : alGet m k = none) : alPut m k v = m ++ [(k, v)] := by
  induction m with
  | nil => rfl
  | cons p m ih =>
    obtain ⟨a, b⟩ := p
    simp only [alGet] at h
    by_cases hk : k = a
    · rw [if_pos hk] at h; cases h
    · rw [if_neg hk] at h
      simp only [alPut, if_neg hk, ih h, List.cons_append]
theorem seenP_put {Q : List Pr} {y : Pr} (h : ¬ y ∈ Q) : alPut (seenP Q) y true = seenP (Q ++ [y]) := by
  rw [put_newP (by rw [seenP_get, if_neg h])]
  simp [seenP]
theorem seenP_no {Q : List Pr} {p : Pr} (h : (alGet (seenP Q) p).getD false = false) : ¬ p ∈ Q := fun hm => by
  rw [seenP_get, if_pos hm] at h; cases h
theorem seenP_yes {Q : List Pr} {p : Pr} (h : (alGet (seenP Q) p).getD false = true) : p ∈ Q := by
  by_cases hm : p ∈ Q
  · exact hm
  · rw [seenP_get, if_neg hm] at h; cases h
def prF (x : Pr) (j : Nat) : AVal := match j with
  | 0 => .int .i64 x.s
  | _ => .int .i64 x.t
@[simp] theorem prF0 {x : Pr} : prF x 0 = .int .i64 x.s := rfl
@[simp] theorem prF1 {x : Pr} : prF x 1 = .int .i64 x.t := rfl
@[simp] theorem one_prF {x : Pr} {j : Nat} : (prF x j).one = true := by unfold prF; split <;> rfl
@[simp] theorem Clo_prF {x : Pr} {j : Nat} : Clo (prF x j) := by unfold prF; split <;> trivial
@[simp] theorem ren_prF {ρ : Nat → Nat} {c : Pr} {j : Nat} : ren ρ (prF c j) = prF c j := by unfold prF; split <;> rfl
theorem getD_app {α : Type} {l m : List α} {i : Nat} {d : α} : (l ++ m).getD i d = if i < l.length then l.getD i d else m.getD (i - l.length) d := by
  by_cases h : i < l.length
  · rw [if_pos h]; simp [List.getD, List.getElem?_append_left h]
  · rw [if_neg h]; simp [List.getD, List.getElem?_append_right (Nat.le_of_not_lt h)]
theorem pr_app {Q : List Pr} {y : Pr} {q j : Nat} {w : Nat → Nat → AVal} (hq : q < Q.length + 1) (hw : w 0 j = prF y j) : app (fun i j => prF (Q.getD i dp) j) Q.length w q j = prF ((Q ++ [y]).getD q dp) j := by
  rw [getD_app]
  unfold app
  by_cases h2 : q < Q.length
  · rw [if_pos h2, if_pos h2]
  · have : q - Q.length = 0 := by omega
    rw [if_neg h2, if_neg h2, this, hw]
    rfl
def losN (e : Enc) : Int := if checkE e = 0 then 0 else 1
def losR (e : Enc) : Bool := if checkE e = 0 then losB e else false
theorem losAdd_ok {e : Enc} (hv : checkE e = 0) {s t : Nat} (hs : s < e.rows.length) (ht : t < e.rows.length) {d : Bool} {Q : List Pr} (hQ : LosOK e Q) {i : Nat} (hi : i ≤ (e.rows.getD s []).length) : LosOK e (losAdd (e.rows.getD s []) (e.rows.getD t []) d Q i) :=
  hQ.grow (losAdd_ext hv hs ht hi)
theorem losRow_ok {e : Enc} (hv : checkE e = 0) {s t : Nat} (hs : s < e.rows.length) (ht : t < e.rows.length) {d : Bool} {Q : List Pr} (hQ : LosOK e Q) {i k : Nat} (hi : i < (e.rows.getD s []).length) (hk : k ≤ (e.rows.getD t []).length) : LosOK e (losRow (e.rows.getD s []) (e.rows.getD t []) d i (losAdd (e.rows.getD s []) (e.rows.getD t []) d Q i) k) :=
  (losAdd_ok hv hs ht hQ (by omega)).grow (losRow_ext hv hs ht hi hk)
theorem LosOK.le {e : Enc} (hv : checkE e = 0) {Q : List Pr} (h : LosOK e Q) : Q.length ≤ 4096 := by
  have h1 := h.len
  have h2 := rows_len hv
  exact Nat.le_trans h1 (Nat.mul_le_mul h2 h2)
theorem los0_ok {e : Enc} (hv : checkE e = 0) {s : Nat} (hs : s ≤ e.rows.length) : LosOK e (los0 e s) := losOK_nil.grow (los0_ext hv hs)
theorem losRow_zero {a b : List Cell} {d : Bool} {i : Nat} {Q : List Pr} : losRow a b d i Q 0 = Q := rfl
theorem losAdd_zero {a b : List Cell} {d : Bool} {Q : List Pr} : losAdd a b d Q 0 = Q := rfl
theorem los0_zero {e : Enc} : los0 e 0 = [] := rfl
theorem los_new {a b : List Cell} {d : Bool} {i k : Nat} {Q : List Pr} (h : ((a.getD i dc).word = (b.getD k dc).word ∧ (d = false ∨ ¬ (i : Int) = k)) ∧ (alGet (seenP (losRow a b d i Q k)) ⟨(a.getD i dc).to, (b.getD k dc).to⟩).getD false = false) :
    losRow a b d i Q (k + 1) = losRow a b d i Q k ++ [⟨(a.getD i dc).to, (b.getD k dc).to⟩] ∧ ¬ (⟨(a.getD i dc).to, (b.getD k dc).to⟩ : Pr) ∈ losRow a b d i Q k := by
  have hn := seenP_no h.2
  refine ⟨?_, hn⟩
  rw [losRow_succ]
  unfold losIf
  rw [if_pos ⟨h.1.1, fun hd => by rcases h.1.2 with e | e; (rw [hd] at e; cases e); omega⟩]
  exact if_neg hn
theorem los_old {a b : List Cell} {d : Bool} {i k : Nat} {Q : List Pr} (h : (a.getD i dc).word = (b.getD k dc).word → d = false ∨ ¬ (i : Int) = k → (alGet (seenP (losRow a b d i Q k)) ⟨(a.getD i dc).to, (b.getD k dc).to⟩).getD false = true) :
    losRow a b d i Q (k + 1) = losRow a b d i Q k := by
  rw [losRow_succ]
  unfold losIf
  split
  · rename_i h2
    refine if_pos (seenP_yes (h h2.1 ?_))
    cases d
    · exact .inl rfl
    · exact .inr (by have := h2.2 rfl; omega)
  · rfl
theorem los_step {e : Enc} (hv : checkE e = 0) {i : Nat} (hil : i < (losQ e i).length) (hn : ∀ j, j < i → ((losQ e i).getD j dp).s ≠ ((losQ e i).getD j dp).t) (hb : ¬ ((losQ e i).getD i dp).s = ((losQ e i).getD i dp).t) :
    i + 1 ≤ (losQ e (i + 1)).length ∧ ∀ j, j < i + 1 → ((losQ e (i + 1)).getD j dp).s ≠ ((losQ e (i + 1)).getD j dp).t := by
  have h1 := (losQ_ext hv i).pre.length_le
  refine ⟨by omega, fun j hj => ?_⟩
  rw [losQ_at hv (by omega)]
  rcases Nat.lt_succ_iff_lt_or_eq.1 hj with h | rfl
  · exact hn j h
  · exact hb
theorem cell_ext {c d : Cell} (h : c.to = d.to) (h2 : c.word = d.word) : c = d := by cases c; cases d; simp only at h h2; rw [h, h2]
theorem cell_eq {c d : Cell} (h : c.to = d.to ∧ c.word = d.word) : c = d := cell_ext h.1 h.2
set_option maxRecDepth 100000 in
theorem losAddC_c (e : Enc) (hv : checkE e = 0) (s t : Nat) (hs : s < e.rows.length) (ht : t < e.rows.length) (d : Bool) (Q : List Pr) (hQ : LosOK e Q) : FC1 Tryz.prog 49 [cells (e.rows.getD s []), cells (e.rows.getD t []), .bool d, .ptr (0, 0) 0 0, .ptr (1, 0) 0 0] [(0, .one (.arr 1 1 (fun _ _ => .map (2, 0)))), (1, .one (.arr 1 1 (fun _ _ => .sl (3, 0) 0 (Q).length))), (2, .one (.mp (mpE prK boolV (seenP (Q))))), (3, .one (.arr (Q).length 2 (fun q j => prF ((Q).getD q dp) j)))] 4 (.tup 0 (fun _ => .any)) [(0, .one (.arr 1 1 (fun _ _ => .map (2, 0)))), (1, .one (.arr 1 1 (fun _ _ => .sl (4, 0) 0 (losAdd (e.rows.getD s []) (e.rows.getD t []) d Q (e.rows.getD s []).length).length))), (2, .one (.mp (mpE prK boolV (seenP (losAdd (e.rows.getD s []) (e.rows.getD t []) d Q (e.rows.getD s []).length))))), (4, .one (.arr (losAdd (e.rows.getD s []) (e.rows.getD t []) d Q (e.rows.getD s []).length).length 2 (fun q j => prF ((losAdd (e.rows.getD s []) (e.rows.getD t []) d Q (e.rows.getD s []).length).getD q dp) j)))] 5 := by
 have hra := row_len hv hs
 have hrb := row_len hv ht
 refine FC_introS T_ok Tryz.func49 rfl (by simp [Tryz.ntmps49]) fun G hG hR => ?_
 simp only [Tryz.ntmps49, Tryz.results49] at hG ⊢
 simp only [argEnv, Nat.zero_add, Nat.reduceAdd]
 refine zs (zr ?_ (h := by intro c K h; simp [hG, List.getD_cons_zero, List.getD_cons_succ, -List.getD_eq_getElem?_getD, pureOp, losAdd_zero, losRow_zero]; first | exact z1 c h | exact ⟨.mk c, h⟩))
 refine zb ?_
 refine awpS_loop (α := Nat) (fun i => ⟨[(0, cells (e.rows.getD s [])), (1, cells (e.rows.getD t [])), (2, .bool d), (3, .ptr (0, 0) 0 0), (4, .ptr (1, 0) 0 0), (13, cells (e.rows.getD s [])), (14, .int .i64 (e.rows.getD s []).length), (15, .int .i64 i)], [(0, .one (.arr 1 1 (fun _ _ => .map (2, 0)))), (1, .one (.arr 1 1 (fun _ _ => .sl (4, 0) 0 ((losAdd (e.rows.getD s []) (e.rows.getD t []) d Q i)).length))), (2, .one (.mp (mpE prK boolV (seenP ((losAdd (e.rows.getD s []) (e.rows.getD t []) d Q i)))))), (4, .one (.arr ((losAdd (e.rows.getD s []) (e.rows.getD t []) d Q i)).length 2 (fun q j => prF (((losAdd (e.rows.getD s []) (e.rows.getD t []) d Q i)).getD q dp) j)))], 5⟩) (fun i => i ≤ (e.rows.getD s []).length) (fun i => (e.rows.getD s []).length - i) (0) (Nat.zero_le _) ?_ ?_
 · refine wk_of (fun k => if k = 4 then 3 else k) (fun _ => false) (fun _ => false) ?_ ?_ rfl (by simp) (fun k hk => by first | exact ⟨rfl, rfl⟩ | (revert k; decide) | (obtain rfl : k = 0 := (by omega); exact ⟨rfl, rfl⟩) | (have hk2 : k = 0 ∨ k = 1 := (by omega); rcases hk2 with rfl | rfl <;> exact ⟨rfl, rfl⟩))
   · simp [hG, List.getD_cons_zero, List.getD_cons_succ, -List.getD_eq_getElem?_getD, pureOp, losAdd_zero, losRow_zero]
   simp [hG, List.getD_cons_zero, List.getD_cons_succ, -List.getD_eq_getElem?_getD, pureOp, losAdd_zero, losRow_zero]
 rintro i hi
 refine zs (zr ?_ (h := by intro c K h; simp [hG, List.getD_cons_zero, List.getD_cons_succ, -List.getD_eq_getElem?_getD, pureOp, losAdd_zero, losRow_zero]; first | exact z1 c h | exact ⟨.mk c, h⟩))
 refine zs (zy (fun hb16 => ?_) fun hb16 => ?_)
 · have hoi := (losAdd_ok hv hs ht hQ (d := d) (i := i) hi).le hv
   refine zk (zs (zb (zs (zr ?_ (h := by intro c K h; simp [hG, List.getD_cons_zero, List.getD_cons_succ, -List.getD_eq_getElem?_getD, pureOp, losAdd_zero, losRow_zero]; first | exact z1 c h | exact ⟨.mk c, h⟩)))))
   refine zs (zr ?_ (h := by intro c K h; simp [hG, List.getD_cons_zero, List.getD_cons_succ, -List.getD_eq_getElem?_getD, pureOp, losAdd_zero, losRow_zero]; first | exact z1 c h | exact ⟨.mk c, h⟩))
   refine zb ?_
   refine awpS_loop (α := Nat) (fun k => ⟨[(0, cells (e.rows.getD s [])), (1, cells (e.rows.getD t [])), (2, .bool d), (3, .ptr (0, 0) 0 0), (4, .ptr (1, 0) 0 0), (8, .int .i64 i), (9, .ptr (5, 0) 0 0), (13, cells (e.rows.getD s [])), (14, .int .i64 (e.rows.getD s []).length), (15, .int .i64 i), (20, cells (e.rows.getD t [])), (21, .int .i64 (e.rows.getD t []).length), (22, .int .i64 k)], [(0, .one (.arr 1 1 (fun _ _ => .map (2, 0)))), (1, .one (.arr 1 1 (fun _ _ => .sl (4, 0) 0 ((losRow (e.rows.getD s []) (e.rows.getD t []) d i (losAdd (e.rows.getD s []) (e.rows.getD t []) d Q i) k)).length))), (2, .one (.mp (mpE prK boolV (seenP ((losRow (e.rows.getD s []) (e.rows.getD t []) d i (losAdd (e.rows.getD s []) (e.rows.getD t []) d Q i) k)))))), (4, .one (.arr ((losRow (e.rows.getD s []) (e.rows.getD t []) d i (losAdd (e.rows.getD s []) (e.rows.getD t []) d Q i) k)).length 2 (fun q j => prF (((losRow (e.rows.getD s []) (e.rows.getD t []) d i (losAdd (e.rows.getD s []) (e.rows.getD t []) d Q i) k)).getD q dp) j))), (5, .one (.arr 1 2 (fun _ => cellF ((e.rows.getD s []).getD i dc))))], 6⟩) (fun k => k ≤ (e.rows.getD t []).length) (fun k => (e.rows.getD t []).length - k) (0) (Nat.zero_le _) ?_ ?_
   · refine wk_of (id) (fun _ => false) (fun _ => false) ?_ ?_ rfl (by simp) (fun k hk => by first | exact ⟨rfl, rfl⟩ | (revert k; decide) | (obtain rfl : k = 0 := (by omega); exact ⟨rfl, rfl⟩) | (have hk2 : k = 0 ∨ k = 1 := (by omega); rcases hk2 with rfl | rfl <;> exact ⟨rfl, rfl⟩))
     · simp [hG, List.getD_cons_zero, List.getD_cons_succ, -List.getD_eq_getElem?_getD, pureOp, losAdd_zero, losRow_zero]
     simp [hG, List.getD_cons_zero, List.getD_cons_succ, -List.getD_eq_getElem?_getD, pureOp, losAdd_zero, losRow_zero]
   rintro k hk
   refine zs (zr ?_ (h := by intro c K h; simp [hG, List.getD_cons_zero, List.getD_cons_succ, -List.getD_eq_getElem?_getD, pureOp, losAdd_zero, losRow_zero]; first | exact z1 c h | exact ⟨.mk c, h⟩))
   refine zs (zy (fun hb23 => ?_) fun hb23 => ?_)
   · have hok := (losRow_ok hv hs ht hQ (d := d) (i := i) (k := k) (by omega) hk).le hv
     refine zk (zs (zb (zs (zr ?_ (h := by intro c K h; simp [hG, List.getD_cons_zero, List.getD_cons_succ, -List.getD_eq_getElem?_getD, pureOp, losAdd_zero, losRow_zero]; first | exact z1 c h | exact ⟨.mk c, h⟩)))))
     refine zs (zr ?_ (h := by intro c K h; simp [hG, List.getD_cons_zero, List.getD_cons_succ, -List.getD_eq_getElem?_getD, pureOp, losAdd_zero, losRow_zero]; first | exact z1 c h | exact ⟨.mk c, h⟩))
     refine zs (zr ?_ (h := by intro c K h; simp [hG, List.getD_cons_zero, List.getD_cons_succ, -List.getD_eq_getElem?_getD, pureOp, losAdd_zero, losRow_zero]; first | exact z1 c h | exact ⟨.mk c, h⟩) (c := by exact fun h1 => ⟨h1, fun h2 => ⟨h1, h2⟩⟩))
     refine zy (fun hb51 => ?_) fun hb51 => ?_
     · have hE := los_new hb51
       refine zs (zr ?_ (h := by intro c K h; simp [hG, List.getD_cons_zero, List.getD_cons_succ, -List.getD_eq_getElem?_getD, pureOp, losAdd_zero, losRow_zero]; first | exact z1 c h | exact ⟨.mk c, h⟩))
       refine zr ?_ (h := by intro c K h; simp [hG, List.getD_cons_zero, List.getD_cons_succ, -List.getD_eq_getElem?_getD, pureOp, losAdd_zero, losRow_zero]; first | exact z1 c h | exact ⟨.mk c, h⟩)
       refine zn (zbn (zr ?_ (h := by intro c K h; simp [hG, List.getD_cons_zero, List.getD_cons_succ, -List.getD_eq_getElem?_getD, pureOp, losAdd_zero, losRow_zero]; first | exact z1 c h | exact ⟨.mk c, h⟩)))
       refine zn ?_
       refine round_end (k + 1) (by omega) (by omega) ?_
       refine wk_of (fun k => if k = 4 then 9 else k) (fun _ => false) (fun _ => false) ?_ ?_ rfl (by simp) (fun k hk => by first | exact ⟨rfl, rfl⟩ | (revert k; decide) | (obtain rfl : k = 0 := (by omega); exact ⟨rfl, rfl⟩) | (have hk2 : k = 0 ∨ k = 1 := (by omega); rcases hk2 with rfl | rfl <;> exact ⟨rfl, rfl⟩))
       · simp [hG, List.getD_cons_zero, List.getD_cons_succ, -List.getD_eq_getElem?_getD, pureOp, losAdd_zero, losRow_zero]
       rw [hE.1]; simp [hG, List.getD_cons_zero, List.getD_cons_succ, -List.getD_eq_getElem?_getD]; exact ⟨of_eq_true (HLe_pr (seenP_put hE.2).symm), fun q hq => ⟨pr_app (j := 0) hq rfl, pr_app (j := 1) hq rfl⟩⟩
     have hE := los_old hb51
     refine zk (zn (zbn (zr ?_ (h := by intro c K h; simp [hG, List.getD_cons_zero, List.getD_cons_succ, -List.getD_eq_getElem?_getD, pureOp, losAdd_zero, losRow_zero]; first | exact z1 c h | exact ⟨.mk c, h⟩))))
     refine zn ?_
     refine round_end (k + 1) (by omega) (by omega) ?_
     refine wk_of (id) (fun _ => false) (fun _ => false) ?_ ?_ rfl (by simp) (fun k hk => by first | exact ⟨rfl, rfl⟩ | (revert k; decide) | (obtain rfl : k = 0 := (by omega); exact ⟨rfl, rfl⟩) | (have hk2 : k = 0 ∨ k = 1 := (by omega); rcases hk2 with rfl | rfl <;> exact ⟨rfl, rfl⟩))
     · simp [hG, List.getD_cons_zero, List.getD_cons_succ, -List.getD_eq_getElem?_getD, pureOp, losAdd_zero, losRow_zero]
     rw [hE]; simp [hG, List.getD_cons_zero, List.getD_cons_succ, -List.getD_eq_getElem?_getD]
   obtain rfl : k = (e.rows.getD t []).length := (by omega)
   have hE : losAdd (e.rows.getD s []) (e.rows.getD t []) d Q (i + 1) = (losRow (e.rows.getD s []) (e.rows.getD t []) d i (losAdd (e.rows.getD s []) (e.rows.getD t []) d Q i) (e.rows.getD t []).length) := losAdd_succ
   refine zx (ztx (zbx (zn (zbn (zr ?_ (h := by intro c K h; simp [hG, List.getD_cons_zero, List.getD_cons_succ, -List.getD_eq_getElem?_getD, pureOp, losAdd_zero, losRow_zero]; first | exact z1 c h | exact ⟨.mk c, h⟩))))))
   refine zn ?_
   refine round_end (i + 1) (by omega) (by omega) ?_
   refine wk_of (id) (fun _ => false) (fun _ => false) ?_ ?_ rfl (by simp) (fun k hk => by first | exact ⟨rfl, rfl⟩ | (revert k; decide) | (obtain rfl : k = 0 := (by omega); exact ⟨rfl, rfl⟩) | (have hk2 : k = 0 ∨ k = 1 := (by omega); rcases hk2 with rfl | rfl <;> exact ⟨rfl, rfl⟩))
   · simp [hG, List.getD_cons_zero, List.getD_cons_succ, -List.getD_eq_getElem?_getD]
   rw [hE]; simp [hG, List.getD_cons_zero, List.getD_cons_succ, -List.getD_eq_getElem?_getD]
 obtain rfl : i = (e.rows.getD s []).length := (by omega)
 refine zx (ztx (zbx (zn ?_)))
 refine RetF_of (()) (id) (fun _ => false) (fun _ => false) trivial ?_ ?_ (by rfl) (by simp) (fun k _ => ⟨rfl, rfl⟩)
 · simp [hG, List.getD_cons_zero, List.getD_cons_succ, -List.getD_eq_getElem?_getD, pureOp, losAdd_zero, losRow_zero]
 simp [hG, List.getD_cons_zero, List.getD_cons_succ, -List.getD_eq_getElem?_getD, pureOp, losAdd_zero, losRow_zero]
set_option maxRecDepth 100000 in
theorem lossless_c (e : Enc) : PC Tryz.prog 22 [.agg 4 (encF e)] (.tup 2 (fun j => [.bool (losR e), .int .i64 (losN e)].getD j .any)) := by
 refine zp Tryz.func22 fun G hG hR => ?_
 refine zs (zr ?_ (h := by intro c K h; simp [hG, List.getD_cons_zero, List.getD_cons_succ, -List.getD_eq_getElem?_getD, los0_zero]; first | exact z1 c h | exact ⟨.mk c, h⟩))
 refine zs (zs (zL (zl 1 ?_ (h := by intro c K h; simp [hG, List.getD_cons_zero, List.getD_cons_succ, -List.getD_eq_getElem?_getD, los0_zero]; first | exact z1 c h | exact ⟨.mk c, h⟩))))
 refine zc cal11 (check_c e) ?_ (a := fun hg => by simp [hG, List.getD_cons_zero, List.getD_cons_succ, -List.getD_eq_getElem?_getD, los0_zero]) (b := fun hg => by simp [hG, List.getD_cons_zero, List.getD_cons_succ, -List.getD_eq_getElem?_getD, los0_zero]) (h := by intro K h; simp [hG, List.getD_cons_zero, List.getD_cons_succ, -List.getD_eq_getElem?_getD, los0_zero]; exact h)
 refine zl 1 ?_ (h := by intro c K h; simp [hG, List.getD_cons_zero, List.getD_cons_succ, -List.getD_eq_getElem?_getD, los0_zero]; first | exact z1 c h | exact ⟨.mk c, h⟩)
 refine zN (zy (fun hb13 => ?_) fun hb13 => ?_)
 · refine zs (zr ?_ (h := by intro c K h; simp [hG, List.getD_cons_zero, List.getD_cons_succ, -List.getD_eq_getElem?_getD, los0_zero]; first | exact z1 c h | exact ⟨.mk c, h⟩))
   refine zt ?_
   refine RetOK_of ?_
   simp [hG, List.getD_cons_zero, List.getD_cons_succ, -List.getD_eq_getElem?_getD, los0_zero]
   have h1 : losN e = 1 := (by unfold losN; rw [if_neg hb13]); have h2 : losR e = false := (by unfold losR; rw [if_neg hb13]); rw [h1, h2]; exact ⟨rfl, rfl⟩
 have hv : checkE e = 0 := (by simpa using hb13)
 have h64 := rows_len hv
 refine zk (zs (zr ?_ (h := by intro c K h; simp [hG, List.getD_cons_zero, List.getD_cons_succ, -List.getD_eq_getElem?_getD, los0_zero]; first | exact z1 c h | exact ⟨.mk c, h⟩)))
 refine zs (zr ?_ (h := by intro c K h; simp [hG, List.getD_cons_zero, List.getD_cons_succ, -List.getD_eq_getElem?_getD, los0_zero]; first | exact z1 c h | exact ⟨.mk c, h⟩))
 refine zs (zr ?_ (h := by intro c K h; simp [hG, List.getD_cons_zero, List.getD_cons_succ, -List.getD_eq_getElem?_getD, los0_zero]; first | exact z1 c h | exact ⟨.mk c, h⟩))
 refine zs (zs (zr ?_ (h := by intro c K h; simp [hG, List.getD_cons_zero, List.getD_cons_succ, -List.getD_eq_getElem?_getD, los0_zero]; first | exact z1 c h | exact ⟨.mk c, h⟩)))
 refine zb ?_
 refine awpS_loop (α := Nat) (fun s => ⟨[(1, .ptr (0, 0) 0 0), (4, .ptr (2, 0) 0 0), (5, .ptr (3, 0) 0 0), (6, .fn 49 2 (fun j => [.ptr (2, 0) 0 0, .ptr (3, 0) 0 0].getD j .any)), (17, rowsC e.rows), (18, .int .i64 e.rows.length), (19, .int .i64 s)], [(0, .one (.arr 1 4 (fun _ => encF e))), (1, .one (.mp (mpE prK boolV (seenP (los0 e s))))), (2, .one (.arr 1 1 (fun _ _ => .map (1, 0)))), (3, .one (.arr 1 1 (fun _ _ => .sl (4, 0) 0 (los0 e s).length))), (4, .one (.arr (los0 e s).length 2 (fun q j => prF ((los0 e s).getD q dp) j)))], 5⟩) (fun s => s ≤ e.rows.length) (fun s => e.rows.length - s) (0) (Nat.zero_le _) ?_ ?_
 · exact zw (id) (fun _ => false) (fun k => k == 4) (e := by simp [hG, List.getD_cons_zero, List.getD_cons_succ, -List.getD_eq_getElem?_getD, los0_zero]) (h := by simp [hG, List.getD_cons_zero, List.getD_cons_succ, -List.getD_eq_getElem?_getD, los0_zero])
 rintro s hs
 refine zs (zr ?_ (h := by intro c K h; simp [hG, List.getD_cons_zero, List.getD_cons_succ, -List.getD_eq_getElem?_getD, los0_zero]; first | exact z1 c h | exact ⟨.mk c, h⟩))
 refine zs (zy (fun hb20 => ?_) fun hb20 => ?_)
 · have hsl : s < e.rows.length := (by omega)
   have hE := los0_succ (e := e) (s := s)
   refine zk (zs (zb (zs (zr ?_ (h := by intro c K h; simp [hG, List.getD_cons_zero, List.getD_cons_succ, -List.getD_eq_getElem?_getD, los0_zero]; first | exact z1 c h | exact ⟨.mk c, h⟩)))))
   refine zL (zl 3 ?_ (h := by intro c K h; simp [hG, List.getD_cons_zero, List.getD_cons_succ, -List.getD_eq_getElem?_getD, los0_zero]; first | exact z1 c h | exact ⟨.mk c, h⟩))
   refine zf cal49 [2, 3, 1, 4] (losAddC_c e hv s s hsl hsl true (los0 e s) (los0_ok hv hs)) (fun x hI hno => ?_) (a := by simp [hG, List.getD_cons_zero, List.getD_cons_succ, -List.getD_eq_getElem?_getD, los0_zero]) (b := by simp [hG, List.range'_succ, List.range'_zero, List.getD_cons_zero, List.getD_cons_succ, -List.getD_eq_getElem?_getD]) (c := by simp [hG, List.getD_cons_zero, List.getD_cons_succ, -List.getD_eq_getElem?_getD, los0_zero]) (h := by intro K h x hI hno; simp [hG, List.getD_cons_zero, List.getD_cons_succ, -List.getD_eq_getElem?_getD, los0_zero]; exact h x hI hno)
   refine zN (zn (zbn (zr ?_ (h := by intro c K h; simp [hG, List.getD_cons_zero, List.getD_cons_succ, -List.getD_eq_getElem?_getD, los0_zero]; first | exact z1 c h | exact ⟨.mk c, h⟩))))
   refine zn ?_
   refine round_end (s + 1) (by omega) (by omega) ?_
   exact zw (fun k => if k = 4 then 5 else k) (fun _ => false) (fun _ => false) (e := by simp [hG, List.getD_cons_zero, List.getD_cons_succ, -List.getD_eq_getElem?_getD, los0_zero]) (h := by rw [hE]; simp [hG, List.getD_cons_zero, List.getD_cons_succ, -List.getD_eq_getElem?_getD])
 obtain rfl : s = e.rows.length := (by omega)
 have hE : losQ e 0 = los0 e e.rows.length := rfl
 refine zx (ztx (zbx (zs (zs (zr ?_ (h := by intro c K h; simp [hG, List.getD_cons_zero, List.getD_cons_succ, -List.getD_eq_getElem?_getD, los0_zero]; first | exact z1 c h | exact ⟨.mk c, h⟩))))))
 refine zb ?_
 refine awpS_loop (α := Nat) (fun i => ⟨[(1, .ptr (0, 0) 0 0), (4, .ptr (2, 0) 0 0), (5, .ptr (3, 0) 0 0), (6, .fn 49 2 (fun j => [.ptr (2, 0) 0 0, .ptr (3, 0) 0 0].getD j .any)), (9, .int .i64 i)], [(0, .one (.arr 1 4 (fun _ => encF e))), (1, .one (.mp (mpE prK boolV (seenP (losQ e i))))), (2, .one (.arr 1 1 (fun _ _ => .map (1, 0)))), (3, .one (.arr 1 1 (fun _ _ => .sl (4, 0) 0 (losQ e i).length))), (4, .one (.arr (losQ e i).length 2 (fun q j => prF ((losQ e i).getD q dp) j)))], 5⟩) (fun i => i ≤ (losQ e i).length ∧ ∀ j, j < i → ((losQ e i).getD j dp).s ≠ ((losQ e i).getD j dp).t) (fun i => 4097 - i) (0) (⟨Nat.zero_le _, fun j hj => absurd hj (Nat.not_lt_zero _)⟩) ?_ ?_
 · exact zi (e := by simp [hG, List.getD_cons_zero, List.getD_cons_succ, -List.getD_eq_getElem?_getD, los0_zero]) (h := by rw [hE]; simp [hG, List.getD_cons_zero, List.getD_cons_succ, -List.getD_eq_getElem?_getD])
 rintro i ⟨hi, hn⟩
 have hlq := (losQ_ok hv i).le hv
 refine zs (zs (zr ?_ (h := by intro c K h; simp [hG, List.getD_cons_zero, List.getD_cons_succ, -List.getD_eq_getElem?_getD, los0_zero]; first | exact z1 c h | exact ⟨.mk c, h⟩)))
 refine zy (fun hb31 => ?_) fun hb31 => ?_
 · have hil : i < (losQ e i).length := (by omega)
   have hin := (losQ_ok hv i).at hil
   obtain ⟨hi1, hi2⟩ := hin
   have hE := losQ_succ hil
   unfold losNext at hE
   refine zk (zs (zb (zs (zr ?_ (h := by intro c K h; simp [hG, List.getD_cons_zero, List.getD_cons_succ, -List.getD_eq_getElem?_getD, los0_zero]; first | exact z1 c h | exact ⟨.mk c, h⟩)))))
   refine zs (zs (zr ?_ (h := by intro c K h; simp [hG, List.getD_cons_zero, List.getD_cons_succ, -List.getD_eq_getElem?_getD, los0_zero]; first | exact z1 c h | exact ⟨.mk c, h⟩)))
   refine zy (fun hb42 => ?_) fun hb42 => ?_
   · refine zs (zr ?_ (h := by intro c K h; simp [hG, List.getD_cons_zero, List.getD_cons_succ, -List.getD_eq_getElem?_getD, los0_zero]; first | exact z1 c h | exact ⟨.mk c, h⟩))
     refine zt (zbt (ztt (zbt ?_)))
     refine RetOK_of ?_
     simp [hG, List.getD_cons_zero, List.getD_cons_succ, -List.getD_eq_getElem?_getD, los0_zero]
     have h1 : losN e = 0 := (by unfold losN; rw [if_pos hv]); have h2 : losR e = false := (by unfold losR; rw [if_pos hv]; exact los_hit hv hil hb42); rw [h1, h2]; exact ⟨rfl, rfl⟩
   refine zk ?_
   refine awpS_draw hR mixed [] ⟨[], [13], [(0, 0), (5, 0)]⟩ fun mu0 => ?_
   refine za [0, 1, 2, 3, 4, 5, 6, 7, 8, 9, 10, 11, 12] [] 1 [12, 11, 10, 9, 8, 7, 6, 5, 4, 3, 2, 1, 0] ?_ (h := by intro c K h; simp [hG, List.getD_cons_zero, List.getD_cons_succ, -List.getD_eq_getElem?_getD, los0_zero]; first | exact z1 c h | exact ⟨.mk c, h⟩)
   refine awpA_only (fuel := 0) (i := 13) (by decide +kernel) ?_
   refine awpO_fcr cal49 [2, 3, 1, 4] (fun _ => false) (losAddC_c e hv ((losQ e i).getD i dp).s.toNat ((losQ e i).getD i dp).t.toNat (by omega) (by omega) false (losQ e i) (losQ_ok hv i)) rfl ⟨by decide, by decide, by simp⟩ rfl rfl rfl (by simp) (.inl fun _ => rfl) ?_ ?_ ?_ fun K hK x hI hno => ?_
   · simp [hG, List.getD_cons_zero, List.getD_cons_succ, -List.getD_eq_getElem?_getD, los0_zero]
   · simp [hG, List.range'_succ, List.range'_zero, List.getD_cons_zero, List.getD_cons_succ, -List.getD_eq_getElem?_getD]
   · simp [hG, List.getD_cons_zero, List.getD_cons_succ, -List.getD_eq_getElem?_getD, los0_zero]
   simp [hG, List.getD_cons_zero, List.getD_cons_succ, -List.getD_eq_getElem?_getD, los0_zero]
   refine hK _ ?_
   clear K hK
   refine awpA_done (by decide +kernel) ?_
   refine zn (zbn (zr ?_ (h := by intro c K h; simp [hG, List.getD_cons_zero, List.getD_cons_succ, -List.getD_eq_getElem?_getD, los0_zero]; first | exact z1 c h | exact ⟨.mk c, h⟩)))
   refine zn ?_
   refine round_end (i + 1) (los_step hv hil hn hb42) (by omega) ?_
   exact zw (fun k => if k = 4 then 6 else k) (fun _ => false) (fun _ => false) (e := by simp [hG, List.getD_cons_zero, List.getD_cons_succ, -List.getD_eq_getElem?_getD, los0_zero]) (h := by rw [hE]; simp [hG, List.getD_cons_zero, List.getD_cons_succ, -List.getD_eq_getElem?_getD])
 refine zx (ztx (zbx (zs (zr ?_ (h := by intro c K h; simp [hG, List.getD_cons_zero, List.getD_cons_succ, -List.getD_eq_getElem?_getD, los0_zero]; first | exact z1 c h | exact ⟨.mk c, h⟩)))))
 refine zt ?_
 refine RetOK_of ?_
 simp [hG, List.getD_cons_zero, List.getD_cons_succ, -List.getD_eq_getElem?_getD, los0_zero]
 have h1 : losN e = 0 := (by unfold losN; rw [if_pos hv]); have h2 : losR e = true := (by unfold losR; rw [if_pos hv]; exact los_end hv (by omega) (by have := (losQ_ok hv i).len; omega) hn); rw [h1, h2]; exact ⟨rfl, rfl⟩
end Go.Proofs.YtchjjiedcpfniaaGreatDoor
