/- Parts of the proof: NP WS. -/
import Derived.Test.YthpdkmoedpcboaaGreatPR16
import Derived.Test.YthpdkmoedpcboaaGreatPR38
import Derived.Test.YthpdkmoedpcboaaGreatPR40
namespace Go.Proofs.YthpdkmoedpcboaaGreat
set_option linter.unusedSimpArgs false
set_option linter.unusedVariables false
open Go Go.Lift Go.Proofs
def supA (v : List Int) : Nat → List Int
  | 0 => []
  | i + 1 => supA v i ++ if v.getD i 0 > 0 then [(i : Int)] else []
def supL (v : List Int) : List Int := supA v v.length
theorem supA_zero {v : List Int} : supA v 0 = [] := rfl
theorem supA_yes {v : List Int} {i : Nat} (h : v.getD i 0 > 0) : supA v (i + 1) = supA v i ++ [(i : Int)] := by show supA v i ++ _ = _; rw [if_pos h]
theorem supA_no {v : List Int} {i : Nat} (h : ¬ v.getD i 0 > 0) : supA v (i + 1) = supA v i := by show supA v i ++ _ = _; rw [if_neg h, List.append_nil]
theorem supA_len {v : List Int} : ∀ i, (supA v i).length ≤ i
  | 0 => Nat.le_refl _
  | i + 1 => by
    have := supA_len (v := v) i
    show (supA v i ++ _).length ≤ _
    rw [List.length_append]; split <;> simp <;> omega
theorem supA_mem {v : List Int} {x : Int} : ∀ {i : Nat}, x ∈ supA v i ↔ ∃ j : Nat, j < i ∧ x = j ∧ v.getD j 0 > 0
  | 0 => by simp [supA]
  | i + 1 => by
    show x ∈ supA v i ++ _ ↔ _
    rw [List.mem_append, supA_mem (i := i)]
    constructor
    · rintro (⟨j, h1, h2, h3⟩ | h)
      · exact ⟨j, by omega, h2, h3⟩
      · split at h
        · rename_i h2
          rw [List.mem_singleton] at h
          exact ⟨i, by omega, h, h2⟩
        · cases h
    · rintro ⟨j, h1, h2, h3⟩
      by_cases e : j = i
      · subst e; exact .inr (by rw [if_pos h3]; simp [h2])
      · exact .inl ⟨j, by omega, h2, h3⟩
theorem supA_asc {v : List Int} : ∀ i, (supA v i).Pairwise (· < ·)
  | 0 => List.Pairwise.nil
  | i + 1 => by
    show (supA v i ++ _).Pairwise _
    rw [List.pairwise_append]
    refine ⟨supA_asc i, by split <;> simp, fun a ha b hb => ?_⟩
    obtain ⟨j, h1, h2, _⟩ := supA_mem.1 ha
    split at hb
    · rw [List.mem_singleton] at hb; omega
    · cases hb
theorem supL_in {v : List Int} {n : Int} (hl : (v.length : Int) = n) : ∀ x ∈ supL v, 0 ≤ x ∧ x < n := fun x hx => by
  obtain ⟨j, h1, h2, _⟩ := supA_mem.1 hx
  omega
end Go.Proofs.YthpdkmoedpcboaaGreat
namespace Go.Proofs.YthpdkmoedpcboaaGreat
set_option linter.unusedSimpArgs false
set_option linter.unusedVariables false
open Go Go.Lift Go.Proofs
theorem pick_zero {l q : List Int} : pickL l (q.take 0) = [] := rfl
theorem pick_next {l q : List Int} {i : Nat} (h : i < q.length) : pickL l (q.take (i + 1)) = pickL l (q.take i) ++ [l.getD (q.getD i 0).toNat 0] := by
  unfold pickL
  rw [take_next h, List.map_append]; rfl
theorem flw_len {p : Prf} (hp : PrfOK p) (hb : baseN p.g p.w p.m = 0) {i : Nat} (hn : ∀ j, j < i → flE p j = 0) (hi : i ≤ p.rounds.length) : (flS p i).2.1.length ≤ 1000000 := by
  obtain ⟨h1, _, _⟩ := fl_inv hp hb i hi hn
  obtain ⟨hv, _, hl, _⟩ := vecN_zero (eigN_zero (baseN_zero h1).1).1
  have := (gcheck_valid hv).1.st
  omega
theorem any_ones {v : List Int} : (v.any fun n => !decide (n = 1)) = !onesB v := by
  unfold onesB
  rw [List.all_eq_not_any_not, Bool.not_not]
theorem flS_zero {p : Prf} : flS p 0 = (p.g, p.w, iotaI p.g.states.toNat) := rfl
set_option maxRecDepth 100000 in
theorem light1_c (n : Int) : PC Tryz.prog 98 [.int .i64 n] (.bool (!decide (n = 1))) := by
 refine zp Tryz.func98 fun G hG hR => ?_
 refine zs (zr ?_)
 refine zs (zr ?_)
 refine zt ?_
 exact zR
set_option maxRecDepth 100000 in
theorem light_c (v : List Int) (hl : v.length ≤ 1000000) : PC Tryz.prog 58 [ints v] (.bool (onesB v)) := by
 refine zp Tryz.func58 fun G hG hR => ?_
 refine zs (zr ?_)
 refine zs (zL (zl 1 ?_))
 refine zc cal97 (containsG_c v (fun n => !decide (n = 1)) 98 0 (fun _ => .any) (by omega) cal98 (fun _ => trivial) fun x _ => light1_c x) ?_
 refine zl 2 ?_
 refine zN (zt ?_)
 refine RetOK_of ?_
 simp [hG, List.getD_cons_zero, List.getD_cons_succ, -List.getD_eq_getElem?_getD]
 exact any_ones
set_option maxRecDepth 100000 in
theorem verify1_c (par : List Int) : PC Tryz.prog 38 [ints par] (.tup 0 (fun _ => .any)) := by
 refine zp Tryz.func38 fun G hG hR => ?_
 refine zk (zn ?_)
 exact zR
set_option maxRecDepth 100000 in
set_option maxHeartbeats 1000000 in
theorem followV_c (p : Prf) (hp : PrfOK p) (hpr : p.rounds.length ≤ 66) : PC Tryz.prog 34 [.agg 6 (prfF p), .fn 38 0 (fun _ => .any)] (.tup 2 (fun j => [.agg 3 (grF (flG p)), .int .i64 (flN p)].getD j .any)) := by
 refine zp Tryz.func34 fun G hG hR => ?_
 refine zs (zrP ?_)
 refine zs (zs (zL (zlP 6 ?_)))
 refine zcP cal39 (baseC_c p.g p.w p.m) ?_
 refine zlP 1 ?_
 refine zN (zs (zrP ?_))
 refine zy (fun hb23 => ?_) fun hb23 => ?_
 · refine zs (zrP ?_)
   refine zt ?_
   refine RetOK_of ?_
   simp [hG, List.getD_cons_zero, List.getD_cons_succ, -List.getD_eq_getElem?_getD, pureOp]
   obtain ⟨e1, e2⟩ := fl_err (fl_1 hb23) hb23; rw [e1, fl_1 hb23]; exact ⟨⟨rfl, rfl, rfl⟩, rfl⟩
 have hb0 : baseN p.g p.w p.m = 0 := hb23
 refine zk (zs (zs (zrP ?_)))
 refine zy (fun hb29 => ?_) fun hb29 => ?_
 · refine zs (zrP ?_)
   refine zt ?_
   refine RetOK_of ?_
   simp [hG, List.getD_cons_zero, List.getD_cons_succ, -List.getD_eq_getElem?_getD, pureOp]
   have e0 := fl_2 hb0 (by omega); obtain ⟨e1, e2⟩ := fl_err e0 (by decide); rw [e1, e0]; exact ⟨⟨rfl, rfl, rfl⟩, rfl⟩
 have h64 : p.rounds.length ≤ 64 := (by omega)
 refine zk (zs ?_)
 refine awpS_draw hR mixed [] ⟨[], [5], [(0, 0)]⟩ fun mu0 => ?_
 refine zaP [0, 1, 2, 3] [] 3 [3, 2, 1, 0] ?_
 refine awpA_only (fuel := 2) (i := 4) (by decide +kernel) ?_
 refine zoP ?_
 refine awpA_only (fuel := 1) (i := 5) (by decide +kernel) ?_
 refine zoP ?_
 refine zaP [6] [] 0 [6, 5, 4, 3, 2, 1, 0] ?_
 refine awpA_done (by decide +kernel) ?_
 refine zs (zs (zrP ?_))
 refine zb ?_
 refine awpS_loop (α := Nat) (fun i => ⟨[(1, .fn 38 0 (fun _ => .any)), (2, .ptr (0, 0) 0 0), (4, .ptr (1, 0) 0 0), (7, .ptr (2, 0) 0 0), (8, ints (flS p i).2.1), (36, rds p.rounds), (37, .int .i64 p.rounds.length), (38, .int .i64 (i : Nat))], [(0, .one (.arr 1 6 (fun _ j => prfF p j))), (1, .one (.arr 1 3 (fun _ j => [.int .i64 0, .int .i64 0, .nils].getD j .any))), (2, .one (.arr 1 3 (fun _ => grF (flS p i).1)))], 3⟩) (fun i => i ≤ p.rounds.length ∧ ∀ j, j < i → flE p j = 0) (fun i => p.rounds.length - i) (0) (⟨Nat.zero_le _, fun j hj => absurd hj (Nat.not_lt_zero _)⟩) ?_ ?_
 · exact zi (e := by rw [flS_zero]; simp [hG, List.getD_cons_zero, List.getD_cons_succ, -List.getD_eq_getElem?_getD]) (h := by rw [flS_zero]; simp [hG, List.getD_cons_zero, List.getD_cons_succ, -List.getD_eq_getElem?_getD])
 rintro i ⟨hi, hn⟩
 refine zs (zrP ?_)
 refine zs (zy (fun hb39 => ?_) fun hb39 => ?_)
 · have hil : i < p.rounds.length := (by omega)
   refine zk (zs (zb (zs (zrP ?_))))
   refine zs (zL (zlP 5 ?_))
   refine zcP cal19 (applyC_c (flS p i).1 (flS p i).2.1 p.m (p.rounds.getD i []) hp.at) ?_
   refine zlP 10 ?_
   refine zN (zs (zs (zrP ?_)))
   refine zy (fun hb54 => ?_) fun hb54 => ?_
   · have hne : flE p i ≠ 0 := hb54
     refine zs (zrP ?_)
     refine zt (zbt (ztt (zbt ?_)))
     refine RetOK_of ?_
     simp [hG, List.getD_cons_zero, List.getD_cons_succ, -List.getD_eq_getElem?_getD, pureOp]
     have e0 := fl_3 hb0 h64 hil hn hne; obtain ⟨e1, e2⟩ := fl_err e0 hne; rw [e1, e0]; exact ⟨⟨rfl, rfl, rfl⟩, rfl⟩
   have hez : flE p i = 0 := hb54
   have hfs := flS_succ (p := p) (i := i)
   refine zk (zs (zrP ?_))
   refine zL (zlP 2 ?_)
   refine zcP cal38 (verify1_c (aplP (flS p i).1 (flS p i).2.1 p.m (p.rounds.getD i []))) ?_
   refine zN (zn (zbn (zrP ?_)))
   refine zn ?_
   refine round_end (i + 1) (⟨by omega, step_all hn hez⟩) (by omega) ?_
   exact zi (e := by rw [hfs]; simp [hG, List.getD_cons_zero, List.getD_cons_succ, -List.getD_eq_getElem?_getD]) (h := by rw [hfs]; simp [hG, List.getD_cons_zero, List.getD_cons_succ, -List.getD_eq_getElem?_getD])
 obtain rfl : i = p.rounds.length := (by omega)
 have hlen := flw_len hp hb0 hn (Nat.le_refl _)
 refine zx (ztx (zbx (zs (zs (zL (zlP 1 ?_))))))
 refine zcP cal58 (light_c (flS p p.rounds.length).2.1 (by omega)) ?_
 refine zlP 1 ?_
 refine zN (zy (fun hb65 => ?_) fun hb65 => ?_)
 · refine zs (zrP ?_)
   refine zt ?_
   refine RetOK_of ?_
   simp [hG, List.getD_cons_zero, List.getD_cons_succ, -List.getD_eq_getElem?_getD, pureOp]
   have e0 := fl_4 hb0 h64 hn; rw [if_pos hb65] at e0; obtain ⟨e1, e2⟩ := fl_err e0 (by decide); rw [e1, e0]; exact ⟨⟨rfl, rfl, rfl⟩, rfl⟩
 refine zk (zs (zrP ?_))
 refine zt ?_
 refine RetOK_of ?_
 simp [hG, List.getD_cons_zero, List.getD_cons_succ, -List.getD_eq_getElem?_getD, pureOp]
 have e0 := fl_4 hb0 h64 hn; rw [if_neg (by rw [hb65]; simp)] at e0; rw [(flG_ok e0).1, e0]; exact ⟨⟨rfl, rfl, Clo.le _ Clo_edgesC⟩, rfl⟩
set_option maxRecDepth 100000 in
theorem verifyM_c (p : Prf) (hp : PrfOK p) (hpr : p.rounds.length ≤ 66) : PC Tryz.prog 12 [.agg 6 (prfF p)] (.int .i64 (flN p)) := by
 refine zp Tryz.func12 fun G hG hR => ?_
 refine zs (zr ?_)
 refine zs (zL (zl 1 ?_))
 refine zc cal34 (followV_c p hp hpr) ?_
 refine zl 6 ?_
 refine zN (zs (zr ?_))
 refine zt ?_
 exact zR
end Go.Proofs.YthpdkmoedpcboaaGreat
