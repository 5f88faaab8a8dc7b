/- Parts of the proof: NP NK WS. -/
import Derived.Test.YthpdkmoedpcboaaGreatPB15
import Derived.Test.YthpdkmoedpcboaaGreatPB37
import Derived.Test.YthpdkmoedpcboaaGreatPB39
namespace Go.Proofs.YthpdkmoedpcboaaGreat
set_option linter.unusedSimpArgs false
set_option linter.unusedVariables false
open Go Go.Lift Go.Proofs
def supA (v : List Int) : Nat → List Int
  | 0 => []
  | i + 1 => supA v i ++ if v.getD i 0 > 0 then [(i : Int)] else []
def supL (v : List Int) : List Int := supA v v.length
theorem supA_zero {v : List Int} : supA v 0 = [] := rfl
theorem supA_yes {v : List Int} {i : Nat} (h : v.getD i 0 > 0) : supA v (i + 1) = supA v i ++ [(i : Int)] := by show supA v i ++ _ = _; rw [if_pos h]
theorem supA_no {v : List Int} {i : Nat} (h : ¬ v.getD i 0 > 0) : supA v (i + 1) = supA v i := by show supA v i ++ _ = _; rw [if_neg h, List.append_nil]
theorem supA_len {v : List Int} : ∀ i, (supA v i).length ≤ i
  | 0 => Nat.le_refl _
  | i + 1 => by
    have := supA_len (v := v) i
    show (supA v i ++ _).length ≤ _
    rw [List.length_append]; split <;> simp <;> omega
theorem supA_mem {v : List Int} {x : Int} : ∀ {i : Nat}, x ∈ supA v i ↔ ∃ j : Nat, j < i ∧ x = j ∧ v.getD j 0 > 0
  | 0 => by simp [supA]
  | i + 1 => by
    show x ∈ supA v i ++ _ ↔ _
    rw [List.mem_append, supA_mem (i := i)]
    constructor
    · rintro (⟨j, h1, h2, h3⟩ | h)
      · exact ⟨j, by omega, h2, h3⟩
      · split at h
        · rename_i h2
          rw [List.mem_singleton] at h
          exact ⟨i, by omega, h, h2⟩
        · cases h
    · rintro ⟨j, h1, h2, h3⟩
      by_cases e : j = i
      · subst e; exact .inr (by rw [if_pos h3]; simp [h2])
      · exact .inl ⟨j, by omega, h2, h3⟩
theorem supA_asc {v : List Int} : ∀ i, (supA v i).Pairwise (· < ·)
  | 0 => List.Pairwise.nil
  | i + 1 => by
    show (supA v i ++ _).Pairwise _
    rw [List.pairwise_append]
    refine ⟨supA_asc i, by split <;> simp, fun a ha b hb => ?_⟩
    obtain ⟨j, h1, h2, _⟩ := supA_mem.1 ha
    split at hb
    · rw [List.mem_singleton] at hb; omega
    · cases hb
theorem supL_in {v : List Int} {n : Int} (hl : (v.length : Int) = n) : ∀ x ∈ supL v, 0 ≤ x ∧ x < n := fun x hx => by
  obtain ⟨j, h1, h2, _⟩ := supA_mem.1 hx
  omega
end Go.Proofs.YthpdkmoedpcboaaGreat
namespace Go.Proofs.YthpdkmoedpcboaaGreat
set_option linter.unusedSimpArgs false
set_option linter.unusedVariables false
open Go Go.Lift Go.Proofs
theorem greatR_no {l : List Spl} (h : greatR l = false) : RndOK l := by
  unfold greatR at h
  rw [Bool.or_eq_false_iff, decide_eq_false_iff_not] at h
  refine ⟨by omega, fun x hx => ?_, fun x hx p hp => ?_⟩
  · have := List.any_eq_false.1 h.1 x hx
    unfold bigS at this
    rw [Bool.or_eq_true, not_or, decide_eq_true_eq] at this
    omega
  · have := List.any_eq_false.1 h.1 x hx
    unfold bigS at this
    rw [Bool.or_eq_true, not_or] at this
    have h2 := this.2
    rw [List.any_eq_true] at h2
    refine Nat.le_of_not_lt fun h3 => h2 ⟨p, hp, by simp; omega⟩
theorem aplG_len {g : Gr} {v : List Int} {m : Int} {l : List Spl} (hr : RndOK l) : (aplG g v m l).edges.length ≤ 1024 ∧ (aplW g v m l).length ≤ 64 ∧ (aplP g v m l).length ≤ 64 := by
  by_cases h : aplN g v m l = 0
  · have h0 : rndN g v m l = 0 := by
      refine Classical.byContradiction fun hc => ?_
      have e : aplN g v m l = rndN g v m l := if_pos hc
      exact hc (e ▸ h)
    have h2 : ¬ (64 < offA g l g.states.toNat ∨ 1024 < (edA g l g.edges.length).length) := fun hc => by
      obtain ⟨_, _, _, e4⟩ := apl_2 (g := g) (v := v) (m := m) (l := l) h0 hc
      rw [e4] at h; cases h
    obtain ⟨e1, e2, e3, _⟩ := apl_3 h0 h2
    have hRd : Rd g v m l := ⟨hr, h0⟩
    have hv := (gcheck_limits (hRd.valid (by omega) (by omega))).2
    rw [e1, e2, e3, hvA_len, parA_len]
    exact ⟨hv, by omega, by omega⟩
  · unfold aplG aplW aplP
    rw [if_neg h, if_neg h, if_neg h]
    exact ⟨Nat.zero_le _, Nat.zero_le _, Nat.zero_le _⟩
section
variable {g : Gr} {v : List Int} {m : Int}
theorem cls_no (h : cNo g v m ≠ 0) : cLs g v m = [] := by
  by_cases hb : baseN g v m = 0
  · by_cases hc : cRd g v m g.states.toNat = []
    · exact (cNo_2 hb hc).2
    · exact absurd (cNo_3 hb hc).1 h
  · exact (cNo_1 hb).2
theorem cls_ok (h : cNo g v m = 0) : cLs g v m = cRd g v m g.states.toNat ∧ Rd g v m (cLs g v m) := by
  by_cases hb : baseN g v m = 0
  · by_cases hc : cRd g v m g.states.toNat = []
    · rw [(cNo_2 hb hc).1] at h; cases h
    · have e := (cNo_3 hb hc).2
      rw [e]
      exact ⟨rfl, cRd_ok (vecN_zero (eigN_zero (baseN_zero hb).1).1).1 (Nat.le_refl _), cRd_round hb hc⟩
  · exact absurd ((cNo_1 hb).1 ▸ h) hb
end
def rds (l : List (List Spl)) : AVal := vec 1 (fun (x : List Spl) _ => spls x) [] l
@[simp] theorem evLen_rds {h : Heap} {l : List (List Spl)} : evLen h (rds l) = some (.int .i64 l.length) := rfl
@[simp] theorem strip_rds {l : List (List Spl)} : strip (rds l) = (rds l, True) := rfl
@[simp] theorem mkOpt_rds {g : Bool} {l : List (List Spl)} : mkOpt g (rds l) = .opt g (rds l) := rfl
@[simp] theorem one_rds {l : List (List Spl)} : (rds l).one = true := rfl
@[simp] theorem acell_rds {l : List (List Spl)} {j : Nat} : acell (rds l) j = rds l := rfl
@[simp] theorem Clo_rds {l : List (List Spl)} : Clo (rds l) := Clo_vec fun x _ j hj => ⟨rfl, Clo_spls⟩
@[simp] theorem lenT_rds {T : Tab} {t : TypeId} {l : List (List Spl)} : lenT T t (rds l) = sliceT T t := lenT_vec
@[simp] theorem evIndexAddr_rds {T : Tab} {h : Heap} {t : TypeId} {k : IntKind} {m : Int} {l : List (List Spl)} : evIndexAddr T h t (rds l) (.int k m) = match elemT T t with
    | some ei => if 1 = ei.size then some (.vptr 1 (fun j => (fun (x : List Spl) _ => spls x) (l.getD m.toNat []) j) 0, 0 ≤ m ∧ m < (l.length : Int)) else none
    | none => none := evIndexAddr_vec
@[simp] theorem evSrc_rds {h : Heap} {l : List (List Spl)} : evSrc h 1 (rds l) = some (l.length, (fun i j => (fun (x : List Spl) _ => spls x) (l.getD i []) j), True) := by
  unfold rds
  rw [evSrc_vec rfl]
  rfl
@[simp] theorem evBin_rds {o : BinOp} {v : AVal} {l : List (List Spl)} : evBin o (rds l) v = none := rfl
@[simp] theorem evEq_rds {T : Tab} {t : TypeId} {l : List (List Spl)} : evEq T .eql t (rds l) .nils = if sliceT T t then some (.ub (l.length = 0)) else none := rfl
@[simp] theorem VLe_rds_nils {h : Heap} {σ : Lift.Id → Lift.Id} {fz : Nat → Bool} {vz : Lift.Id → Bool} {x : Nat} {l : List (List Spl)} : VLe h σ fz vz x (rds l) .nils = (l.length = 0) := rfl
@[simp] theorem VLe_rds_sl {h : Heap} {σ : Lift.Id → Lift.Id} {fz : Nat → Bool} {vz : Lift.Id → Bool} {y lo x' : Nat} {id : Lift.Id} {l : List (List Spl)} : VLe h σ fz vz y (rds l) (.sl id lo x') = (x' = l.length ∧ fz id.1 = true ∧ match lkH h id with
    | some (.arr N s' g') => s' = 1 ∧ lo + l.length ≤ N ∧ ∀ i, i < l.length → ∀ j, j < 1 → ((fun (x : List Spl) _ => spls x) (l.getD i []) j).one = true ∧ VLe h σ fz vz y ((fun (x : List Spl) _ => spls x) (l.getD i []) j) (g' (lo + i) j)
    | _ => False) := VLe_vsl_sl
@[simp] theorem VLe_rds_vsl {h : Heap} {σ : Lift.Id → Lift.Id} {fz : Nat → Bool} {vz : Lift.Id → Bool} {x' s' y : Nat} {g' : Nat → Nat → AVal} {l : List (List Spl)} : VLe h σ fz vz y (rds l) (.vsl x' s' g') = (x' = l.length ∧ s' = 1 ∧ ∀ i, i < l.length → ∀ j, j < 1 → ((fun (x : List Spl) _ => spls x) (l.getD i []) j).one = true ∧ VLe h σ fz vz y ((fun (x : List Spl) _ => spls x) (l.getD i []) j) (g' i j)) := rfl
@[simp] theorem ren_rds {ρ : Nat → Nat} {l : List (List Spl)} : ren ρ (rds l) = rds l := ren_vec fun _ _ => ren_spls
structure Prf where
  g : Gr
  w : List Int
  m : Int
  rounds : List (List Spl)
def prfF (p : Prf) (j : Nat) : AVal := match j with
  | 0 => .int .i64 p.g.labels
  | 1 => .int .i64 p.g.states
  | 2 => edgesC p.g.edges
  | 3 => ints p.w
  | 4 => .int .i64 p.m
  | _ => rds p.rounds
section
variable {p : Prf} {j : Nat} {ρ : Nat → Nat}
@[simp] theorem prfF0 : prfF p 0 = .int .i64 p.g.labels := rfl
@[simp] theorem prfF1 : prfF p 1 = .int .i64 p.g.states := rfl
@[simp] theorem prfF2 : prfF p 2 = edgesC p.g.edges := rfl
@[simp] theorem prfF3 : prfF p 3 = ints p.w := rfl
@[simp] theorem prfF4 : prfF p 4 = .int .i64 p.m := rfl
@[simp] theorem prfF5 : prfF p 5 = rds p.rounds := rfl
@[simp] theorem one_prfF : (prfF p j).one = true := by unfold prfF; split <;> rfl
@[simp] theorem Clo_prfF : Clo (prfF p j) := by unfold prfF; split <;> first | trivial | exact Clo_edgesC | exact Clo_ints | exact Clo_rds
@[simp] theorem ren_prfF : ren ρ (prfF p j) = prfF p j := by unfold prfF; split <;> first | rfl | exact ren_edgesC | exact ren_ints | exact ren_rds
end
def pickL (l q : List Int) : List Int := q.map fun s => l.getD s.toNat 0
theorem pickL_len {l q : List Int} : (pickL l q).length = q.length := by simp [pickL]
def onesB (v : List Int) : Bool := v.all fun n => decide (n = 1)
section
variable {p : Prf}
def PrfOK (p : Prf) : Prop := ∀ l ∈ p.rounds, RndOK l
theorem PrfOK.at (h : PrfOK p) {i : Nat} : RndOK (p.rounds.getD i []) := by
  by_cases hi : i < p.rounds.length
  · exact h _ (getD_mem hi)
  · rw [List.getD_eq_getElem?_getD, List.getElem?_eq_none (Nat.le_of_not_lt hi)]
    exact ⟨Nat.zero_le _, fun x hx => (List.not_mem_nil hx).elim, fun x hx => (List.not_mem_nil hx).elim⟩
end
end Go.Proofs.YthpdkmoedpcboaaGreat
namespace Go.Proofs.YthpdkmoedpcboaaGreat
set_option linter.unusedSimpArgs false
set_option linter.unusedVariables false
open Go Go.Lift Go.Proofs
theorem pick_zero {l q : List Int} : pickL l (q.take 0) = [] := rfl
theorem pick_next {l q : List Int} {i : Nat} (h : i < q.length) : pickL l (q.take (i + 1)) = pickL l (q.take i) ++ [l.getD (q.getD i 0).toNat 0] := by
  unfold pickL
  rw [take_next h, List.map_append]; rfl
theorem any_ones {v : List Int} : (v.any fun n => !decide (n = 1)) = !onesB v := by
  unfold onesB
  rw [List.all_eq_not_any_not, Bool.not_not]
set_option maxRecDepth 100000 in
theorem light1_c (n : Int) : PC Tryz.prog 98 [.int .i64 n] (.bool (!decide (n = 1))) := by
 refine zp Tryz.func98 fun G hG hR => ?_
 refine zs (zr ?_)
 refine zs (zr ?_)
 refine zt ?_
 exact zR
set_option maxRecDepth 100000 in
theorem light_c (v : List Int) (hl : v.length ≤ 1000000) : PC Tryz.prog 58 [ints v] (.bool (onesB v)) := by
 refine zp Tryz.func58 fun G hG hR => ?_
 refine zs (zr ?_)
 refine zs (zL (zl 1 ?_))
 refine zc cal97 (containsG_c v (fun n => !decide (n = 1)) 98 0 (fun _ => .any) (by omega) cal98 (fun _ => trivial) fun x _ => light1_c x) ?_
 refine zl 2 ?_
 refine zN (zt ?_)
 refine RetOK_of ?_
 simp [hG, List.getD_cons_zero, List.getD_cons_succ, -List.getD_eq_getElem?_getD]
 exact any_ones
set_option maxRecDepth 100000 in
theorem onesR_c (v : List Int) (hl : v.length ≤ 1000000) : PC Tryz.prog 64 [ints v] (.bool (onesB v)) := by
 refine zp Tryz.func64 fun G hG hR => ?_
 refine zs (zr ?_)
 refine zs (zs (zr ?_))
 refine zb ?_
 refine awpS_loop (α := Nat) (fun i => ⟨[(0, ints v), (3, .int .i64 (i : Nat))], [], 0⟩) (fun i => i ≤ v.length ∧ ∀ j, j < i → v.getD j 0 = 1) (fun i => v.length - i) (0) (⟨Nat.zero_le _, fun j hj => absurd hj (Nat.not_lt_zero _)⟩) ?_ ?_
 · exact zi
 rintro i ⟨hi, hn⟩
 refine zs (zs (zr ?_))
 refine zy (fun hb7 => ?_) fun hb7 => ?_
 · refine zk (zs (zb (zs (zr ?_))))
   refine zy (fun hb14 => ?_) fun hb14 => ?_
   · refine zs (zr ?_)
     refine zt (zbt (ztt (zbt ?_)))
     refine RetOK_of ?_
     simp [hG, List.getD_cons_zero, List.getD_cons_succ, -List.getD_eq_getElem?_getD]
     unfold onesB; exact List.all_eq_false.2 ⟨_, getD_mem (d := 0) (show i < v.length by omega), by simpa using hb14⟩
   refine zk (zn (zbn (zr ?_)))
   refine zn ?_
   refine round_end (i + 1) (⟨by omega, step_all hn (by omega)⟩) (by omega) ?_
   exact zi
 refine zx (ztx (zbx (zs (zr ?_))))
 refine zt ?_
 refine RetOK_of ?_
 simp [hG, List.getD_cons_zero, List.getD_cons_succ, -List.getD_eq_getElem?_getD]
 unfold onesB; exact List.all_eq_true.2 fun x hx => by obtain ⟨j, hj, rfl⟩ := List.mem_iff_getElem.1 hx; have := hn j (by omega); rw [getD_get hj] at this; exact decide_eq_true this
set_option maxRecDepth 100000 in
theorem pickR_c (l q : List Int) (hq : q.length ≤ 100000) (hb : ∀ s ∈ q, 0 ≤ s ∧ s < (l.length : Int)) : PC Tryz.prog 63 [ints l, ints q] (ints (pickL l q)) := by
 refine zp Tryz.func63 fun G hG hR => ?_
 refine zs (zr ?_)
 refine zs (zr ?_)
 refine zs (zs (zr ?_))
 refine zb ?_
 refine awpS_loop (α := Nat) (fun i => ⟨[(0, ints l), (1, ints q), (5, .sl (0, 0) 0 (pickL l (q.take i)).length), (6, .int .i64 (i : Nat))], [(0, .one (.arr (pickL l (q.take i)).length 1 (fun k _ => .int .i64 ((pickL l (q.take i)).getD k 0))))], 1⟩) (fun i => i ≤ q.length) (fun i => q.length - i) (0) (Nat.zero_le _) ?_ ?_
 · exact zi (e := by rw [pick_zero]; simp [hG, List.getD_cons_zero, List.getD_cons_succ, -List.getD_eq_getElem?_getD]) (h := by rw [pick_zero]; simp [hG, List.getD_cons_zero, List.getD_cons_succ, -List.getD_eq_getElem?_getD])
 rintro i hi
 refine zs (zs (zr ?_))
 refine zy (fun hb11 => ?_) fun hb11 => ?_
 · have hil : i < q.length := (by omega)
   have hbi := hb _ (getD_mem (d := (0 : Int)) hil)
   have hps := pick_next (l := l) hil
   have hpl : (pickL l (q.take i)).length = i := (by rw [pickL_len, List.length_take]; omega)
   refine zk (zs (zb (zr ?_)))
   refine zn (zbn (zr ?_))
   refine zn ?_
   refine round_end (i + 1) (by omega) (by omega) ?_
   exact zw (fun k => if k = 0 then 2 else k) (fun _ => false) (fun _ => false) (e := by rw [hps]; simp [hG, List.getD_cons_zero, List.getD_cons_succ, -List.getD_eq_getElem?_getD]) (h := by rw [hps]; simp [hG, List.getD_cons_zero, List.getD_cons_succ, -List.getD_eq_getElem?_getD]; exact fun k hk => app_oneI rfl (by simpa using hk))
 obtain rfl : i = q.length := (by omega)
 have hpl : (pickL l q).length = q.length := pickL_len
 refine zx (ztx (zbx (zs (zr ?_))))
 refine zt ?_
 refine RetOK_of ?_
 simp [hG, List.getD_cons_zero, List.getD_cons_succ, -List.getD_eq_getElem?_getD]
 first | done | (rw [List.take_length]; first | done | exact ⟨rfl, Nat.le_refl _, fun _ _ => rfl⟩)
end Go.Proofs.YthpdkmoedpcboaaGreat
