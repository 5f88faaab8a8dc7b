/- Parts of the proof: NK LEL LMR. -/
import Derived.Maps.RangeRun
import Derived.OrdersIn
import Derived.Test.YtchjjiedcpfniaaGreatDoorK08
import Derived.Test.YtchjjiedcpfniaaGreatDoorK12
import Derived.Test.YtchjjiedcpfniaaGreatDoorK16
import Derived.Test.YtchjjiedcpfniaaGreatDoorK25
import Derived.Test.YtchjjiedcpfniaaGreatDoorK27
import Derived.Test.YtchjjiedcpfniaaGreatDoorK28
namespace Go.Proofs.YtchjjiedcpfniaaGreatDoor
set_option linter.unusedSimpArgs false
set_option linter.unusedVariables false
open Go Go.Lift Go.Proofs
theorem greatR_no {l : List Spl} (h : greatR l = false) : RndOK l := by
  unfold greatR at h
  rw [Bool.or_eq_false_iff, decide_eq_false_iff_not] at h
  refine ⟨by omega, fun x hx => ?_, fun x hx p hp => ?_⟩
  · have := List.any_eq_false.1 h.1 x hx
    unfold bigS at this
    rw [Bool.or_eq_true, not_or, decide_eq_true_eq] at this
    omega
  · have := List.any_eq_false.1 h.1 x hx
    unfold bigS at this
    rw [Bool.or_eq_true, not_or] at this
    have h2 := this.2
    rw [List.any_eq_true] at h2
    refine Nat.le_of_not_lt fun h3 => h2 ⟨p, hp, by simp; omega⟩
section
variable {g : Gr} {v : List Int} {m : Int}
theorem apl_z {l : List Spl} (hr : Rd g v m l) (h : aplN g v m l = 0) : aplG g v m l = splG g l ∧ aplW g v m l = hvA g v m l g.states.toNat ∧ aplP g v m l = parA g l g.states.toNat ∧ offA g l g.states.toNat ≤ 64 ∧ (edA g l g.edges.length).length ≤ 1024 := by
  by_cases hc : 64 < offA g l g.states.toNat ∨ 1024 < (edA g l g.edges.length).length
  · rw [(apl_2 hr.rd hc).2.2.2] at h; cases h
  · obtain ⟨e1, e2, e3, _⟩ := apl_3 hr.rd hc
    exact ⟨e1, e2, e3, by omega, by omega⟩
end
def rds (l : List (List Spl)) : AVal := vec 1 (fun (x : List Spl) _ => spls x) [] l
@[simp] theorem evLen_rds {h : Heap} {l : List (List Spl)} : evLen h (rds l) = some (.int .i64 l.length) := rfl
@[simp] theorem strip_rds {l : List (List Spl)} : strip (rds l) = (rds l, True) := rfl
@[simp] theorem mkOpt_rds {g : Bool} {l : List (List Spl)} : mkOpt g (rds l) = .opt g (rds l) := rfl
@[simp] theorem one_rds {l : List (List Spl)} : (rds l).one = true := rfl
@[simp] theorem acell_rds {l : List (List Spl)} {j : Nat} : acell (rds l) j = rds l := rfl
@[simp] theorem Clo_rds {l : List (List Spl)} : Clo (rds l) := Clo_vec fun x _ j hj => ⟨rfl, Clo_spls⟩
@[simp] theorem lenT_rds {T : Tab} {t : TypeId} {l : List (List Spl)} : lenT T t (rds l) = sliceT T t := lenT_vec
@[simp] theorem evIndexAddr_rds {T : Tab} {h : Heap} {t : TypeId} {k : IntKind} {m : Int} {l : List (List Spl)} : evIndexAddr T h t (rds l) (.int k m) = match elemT T t with
    | some ei => if 1 = ei.size then some (.vptr 1 (fun j => (fun (x : List Spl) _ => spls x) (l.getD m.toNat []) j) 0, 0 ≤ m ∧ m < (l.length : Int)) else none
    | none => none := evIndexAddr_vec
@[simp] theorem evSrc_rds {h : Heap} {l : List (List Spl)} : evSrc h 1 (rds l) = some (l.length, (fun i j => (fun (x : List Spl) _ => spls x) (l.getD i []) j), True) := by
  unfold rds
  rw [evSrc_vec rfl]
  rfl
@[simp] theorem evBin_rds {o : BinOp} {v : AVal} {l : List (List Spl)} : evBin o (rds l) v = none := rfl
@[simp] theorem evEq_rds {T : Tab} {t : TypeId} {l : List (List Spl)} : evEq T .eql t (rds l) .nils = if sliceT T t then some (.ub (l.length = 0)) else none := rfl
@[simp] theorem VLe_rds_nils {h : Heap} {σ : Lift.Id → Lift.Id} {fz : Nat → Bool} {vz : Lift.Id → Bool} {x : Nat} {l : List (List Spl)} : VLe h σ fz vz x (rds l) .nils = (l.length = 0) := rfl
@[simp] theorem VLe_rds_sl {h : Heap} {σ : Lift.Id → Lift.Id} {fz : Nat → Bool} {vz : Lift.Id → Bool} {y lo x' : Nat} {id : Lift.Id} {l : List (List Spl)} : VLe h σ fz vz y (rds l) (.sl id lo x') = (x' = l.length ∧ fz id.1 = true ∧ match lkH h id with
    | some (.arr N s' g') => s' = 1 ∧ lo + l.length ≤ N ∧ ∀ i, i < l.length → ∀ j, j < 1 → ((fun (x : List Spl) _ => spls x) (l.getD i []) j).one = true ∧ VLe h σ fz vz y ((fun (x : List Spl) _ => spls x) (l.getD i []) j) (g' (lo + i) j)
    | _ => False) := VLe_vsl_sl
@[simp] theorem VLe_rds_vsl {h : Heap} {σ : Lift.Id → Lift.Id} {fz : Nat → Bool} {vz : Lift.Id → Bool} {x' s' y : Nat} {g' : Nat → Nat → AVal} {l : List (List Spl)} : VLe h σ fz vz y (rds l) (.vsl x' s' g') = (x' = l.length ∧ s' = 1 ∧ ∀ i, i < l.length → ∀ j, j < 1 → ((fun (x : List Spl) _ => spls x) (l.getD i []) j).one = true ∧ VLe h σ fz vz y ((fun (x : List Spl) _ => spls x) (l.getD i []) j) (g' i j)) := rfl
@[simp] theorem ren_rds {ρ : Nat → Nat} {l : List (List Spl)} : ren ρ (rds l) = rds l := ren_vec fun _ _ => ren_spls
structure Prf where
  g : Gr
  w : List Int
  m : Int
  rounds : List (List Spl)
def prfF (p : Prf) (j : Nat) : AVal := match j with
  | 0 => .int .i64 p.g.labels
  | 1 => .int .i64 p.g.states
  | 2 => edgesC p.g.edges
  | 3 => ints p.w
  | 4 => .int .i64 p.m
  | _ => rds p.rounds
section
variable {p : Prf} {j : Nat} {ρ : Nat → Nat}
@[simp] theorem prfF0 : prfF p 0 = .int .i64 p.g.labels := rfl
@[simp] theorem prfF1 : prfF p 1 = .int .i64 p.g.states := rfl
@[simp] theorem prfF2 : prfF p 2 = edgesC p.g.edges := rfl
@[simp] theorem prfF3 : prfF p 3 = ints p.w := rfl
@[simp] theorem prfF4 : prfF p 4 = .int .i64 p.m := rfl
@[simp] theorem prfF5 : prfF p 5 = rds p.rounds := rfl
@[simp] theorem one_prfF : (prfF p j).one = true := by unfold prfF; split <;> rfl
@[simp] theorem Clo_prfF : Clo (prfF p j) := by unfold prfF; split <;> first | trivial | exact Clo_edgesC | exact Clo_ints | exact Clo_rds
@[simp] theorem ren_prfF : ren ρ (prfF p j) = prfF p j := by unfold prfF; split <;> first | rfl | exact ren_edgesC | exact ren_ints | exact ren_rds
end
def pickL (l q : List Int) : List Int := q.map fun s => l.getD s.toNat 0
theorem pickL_len {l q : List Int} : (pickL l q).length = q.length := by simp [pickL]
theorem pickL_at {l q : List Int} {k : Nat} (h : k < q.length) : (pickL l q).getD k 0 = l.getD (q.getD k 0).toNat 0 := by simp [pickL, List.getD, h]
def onesB (v : List Int) : Bool := v.all fun n => decide (n = 1)
def iotaI (n : Nat) : List Int := (List.range n).map fun s : Nat => (s : Int)
theorem iotaI_len {n : Nat} : (iotaI n).length = n := by simp [iotaI]
theorem iotaI_at {n k : Nat} (h : k < n) : (iotaI n).getD k 0 = k := by simp [iotaI, List.getD, h]
theorem iotaI_succ {n : Nat} : iotaI (n + 1) = iotaI n ++ [(n : Int)] := by simp [iotaI, List.range_succ]
noncomputable def flS (p : Prf) : Nat → Gr × List Int × List Int
  | 0 => (p.g, p.w, iotaI p.g.states.toNat)
  | i + 1 => (aplG (flS p i).1 (flS p i).2.1 p.m (p.rounds.getD i []), aplW (flS p i).1 (flS p i).2.1 p.m (p.rounds.getD i []), pickL (flS p i).2.2 (aplP (flS p i).1 (flS p i).2.1 p.m (p.rounds.getD i [])))
noncomputable def flE (p : Prf) (i : Nat) : Int := aplN (flS p i).1 (flS p i).2.1 p.m (p.rounds.getD i [])
noncomputable def flN (p : Prf) : Int := if baseN p.g p.w p.m ≠ 0 then baseN p.g p.w p.m else if 64 < p.rounds.length then 4
  else if firstNZ (flE p) (List.range p.rounds.length) ≠ 0 then firstNZ (flE p) (List.range p.rounds.length)
  else if onesB (flS p p.rounds.length).2.1 = false then 23 else 0
noncomputable def flG (p : Prf) : Gr := if flN p = 0 then (flS p p.rounds.length).1 else ⟨0, 0, []⟩
noncomputable def flO (p : Prf) : List Int := if flN p = 0 then (flS p p.rounds.length).2.2 else []
section
variable {p : Prf}
theorem flS_succ {i : Nat} : flS p (i + 1) = (aplG (flS p i).1 (flS p i).2.1 p.m (p.rounds.getD i []), aplW (flS p i).1 (flS p i).2.1 p.m (p.rounds.getD i []), pickL (flS p i).2.2 (aplP (flS p i).1 (flS p i).2.1 p.m (p.rounds.getD i []))) := rfl
theorem fl_err {n : Int} (h : flN p = n) (hn : n ≠ 0) : flG p = ⟨0, 0, []⟩ ∧ flO p = [] := by
  unfold flG flO
  rw [h, if_neg hn, if_neg hn]; exact ⟨rfl, rfl⟩
theorem fl_1 (h : baseN p.g p.w p.m ≠ 0) : flN p = baseN p.g p.w p.m := if_pos h
theorem fl_2 (h : baseN p.g p.w p.m = 0) (h2 : 64 < p.rounds.length) : flN p = 4 := by unfold flN; rw [if_neg (fun c => c h), if_pos h2]
theorem fl_3 (h : baseN p.g p.w p.m = 0) (h2 : p.rounds.length ≤ 64) {i : Nat} (hi : i < p.rounds.length) (hn : ∀ j, j < i → flE p j = 0) (he : flE p i ≠ 0) : flN p = flE p i := by
  unfold flN
  rw [if_neg (fun c => c h), if_neg (by omega), firstNZ_range hn hi he, if_pos he]
theorem fl_4 (h : baseN p.g p.w p.m = 0) (h2 : p.rounds.length ≤ 64) (hn : ∀ j, j < p.rounds.length → flE p j = 0) : flN p = if onesB (flS p p.rounds.length).2.1 = false then 23 else 0 := by
  unfold flN
  rw [if_neg (fun c => c h), if_neg (by omega), firstNZ_none hn]
  rfl
theorem flN_zero (h : flN p = 0) : baseN p.g p.w p.m = 0 ∧ p.rounds.length ≤ 64 ∧ (∀ j, j < p.rounds.length → flE p j = 0) ∧ onesB (flS p p.rounds.length).2.1 = true := by
  unfold flN at h
  split at h
  · rename_i h1; exact absurd h h1
  · rename_i h1
    split at h
    · cases h
    · rename_i h2
      split at h
      · rename_i h3; exact absurd h h3
      · rename_i h3
        split at h
        · cases h
        · rename_i h4
          exact ⟨Classical.byContradiction h1, by omega, firstNZ_zero (Classical.byContradiction h3), by simpa using h4⟩
theorem flG_ok (h : flN p = 0) : flG p = (flS p p.rounds.length).1 ∧ flO p = (flS p p.rounds.length).2.2 := ⟨if_pos h, if_pos h⟩
def PrfOK (p : Prf) : Prop := ∀ l ∈ p.rounds, RndOK l
theorem PrfOK.at (h : PrfOK p) {i : Nat} : RndOK (p.rounds.getD i []) := by
  by_cases hi : i < p.rounds.length
  · exact h _ (getD_mem hi)
  · rw [List.getD_eq_getElem?_getD, List.getElem?_eq_none (Nat.le_of_not_lt hi)]
    exact ⟨Nat.zero_le _, fun x hx => (List.not_mem_nil hx).elim, fun x hx => (List.not_mem_nil hx).elim⟩
theorem apl_step {g : Gr} {v : List Int} {m : Int} {l : List Spl} (hr : RndOK l) (h : aplN g v m l = 0) : Rd g v m l ∧ aplG g v m l = splG g l ∧ aplW g v m l = hvA g v m l g.states.toNat ∧ aplP g v m l = parA g l g.states.toNat ∧ offA g l g.states.toNat ≤ 64 ∧ (edA g l g.edges.length).length ≤ 1024 := by
  have h0 : rndN g v m l = 0 := by
    refine Classical.byContradiction fun hc => ?_
    have e : aplN g v m l = rndN g v m l := if_pos hc
    exact hc (e ▸ h)
  exact ⟨⟨hr, h0⟩, apl_z ⟨hr, h0⟩ h⟩
theorem fl_inv (hp : PrfOK p) (hb : baseN p.g p.w p.m = 0) : ∀ i, i ≤ p.rounds.length → (∀ j, j < i → flE p j = 0) → baseN (flS p i).1 (flS p i).2.1 p.m = 0 ∧ ((flS p i).2.2.length : Int) = (flS p i).1.states ∧ ∀ s ∈ (flS p i).2.2, 0 ≤ s ∧ s < p.g.states
  | 0, _, _ => by
    have hv := (vecN_zero (eigN_zero (baseN_zero hb).1).1).1
    have hst := (gcheck_valid hv).1.st
    refine ⟨hb, ?_, fun s hs => ?_⟩
    · show ((iotaI p.g.states.toNat).length : Int) = p.g.states
      rw [iotaI_len]; omega
    · obtain ⟨k, hk, rfl⟩ := List.mem_map.1 (show s ∈ (List.range p.g.states.toNat).map fun s : Nat => (s : Int) from hs)
      have := List.mem_range.1 hk
      omega
  | i + 1, hi, hn => by
    obtain ⟨h1, h2, h3⟩ := fl_inv hp hb i (by omega) fun j hj => hn j (by omega)
    obtain ⟨hRd, e1, e2, e3, ho, he⟩ := apl_step (hp.at (i := i)) (hn i (by omega))
    rw [flS_succ, e1, e2, e3]
    refine ⟨hRd.eig ho he, ?_, fun s hs => ?_⟩
    · show ((pickL (flS p i).2.2 (parA (flS p i).1 (p.rounds.getD i []) (flS p i).1.states.toNat)).length : Int) = (offA (flS p i).1 (p.rounds.getD i []) (flS p i).1.states.toNat : Nat)
      rw [pickL_len, parA_len]
    · obtain ⟨k, hk, rfl⟩ := List.mem_map.1 (show s ∈ (parA (flS p i).1 (p.rounds.getD i []) (flS p i).1.states.toNat).map fun s => (flS p i).2.2.getD s.toNat 0 from hs)
      have hk2 := parA_mem hk
      exact h3 _ (getD_mem (by omega))
end
end Go.Proofs.YtchjjiedcpfniaaGreatDoor
namespace Go.Lift
set_option linter.unusedSimpArgs false
set_option linter.unusedVariables false
open Go.RowKit
def recJ (rec : Loop) : Option Code → Loop
  | none => rec
  | some c => { rec with state := .done, pending := some c }
def lpP (l : Nat) (rec : Loop) (j : Option Code) (b : Nat) (x : Obj) : Prop := b = l ∧ x = .loop (recJ rec j)
@[simp] theorem HLe_ob {h : Heap} {σ : Id → Id} {fz : Nat → Bool} {vz : Id → Bool} {nx : Nat} {p : Nat → Obj → Prop} : HLe h σ fz vz nx (.ob p) (some (.ob p)) = True := eq_true fun _ _ h => h
section
variable {P : Program} {G : Gh} {n0 : Nat} {α : Type} {I : α → Prop} {r : α → AVal} {houtR : α → Heap} {nout : α → Nat} {j : α → Option Code}
theorem HOk.tail {k : Nat} {e : HEnt} {h : Heap} {mu : Id → Option Base} {nx : Nat} {w : World} (hk : HOk G ((k, e) :: h) mu nx w) (hn : k ∉ h.map (·.1)) : HOk G h mu nx w ∧ (cx G ((k, e) :: h) mu nx w).Le (cx G h mu nx w) := by
  have hs : ∀ id o, lkH h id = some o → lkH ((k, e) :: h) id = some o := fun id o hl => by
    simp only [lkH]
    rw [if_neg (fun hk' => hn (by rw [hk']; exact lkH_mem hl))]
    exact hl
  have hLe : (cx G ((k, e) :: h) mu nx w).Le (cx G h mu nx w) := by
    refine ⟨Nat.le_refl _, fun b hb hF hF' => hF ?_, fun _ _ _ _ => rfl, Nat.le_refl _, fun _ _ => rfl, fun _ h => h⟩
    rcases hF' with hO | ⟨id, o, B, h1, h2, h3⟩
    · exact .inl hO
    · exact .inr ⟨id, o, B, hs id o h1, h2, h3⟩
  refine ⟨⟨fun id o hl => ⟨(hk.obj id o (hs id o hl)).1, (hk.obj id o (hs id o hl)).2.mono hLe fun _ _ => rfl⟩, fun id id' o o' B B' h1 h2 => hk.sep id id' o o' B B' (hs _ _ h1) (hs _ _ h2), fun id o B h1 => hk.own id o B (hs _ _ h1), hk.kept, hk.out, fun id t B ht => hk.typ id t B ?_⟩, hLe⟩
  obtain ⟨o, ho⟩ := tyH_lk ht
  simp only [tyH]
  rw [if_neg (fun hk' => hn (by rw [hk']; exact lkH_mem ho))]
  exact ht
theorem kept_unput {w w' : World} {mt mt' : Nat → Prop} {l : Nat} {x : Obj} (hk : Kept (w.putObj l x) mt w') (h1 : ∀ b, mt b → mt' b) (h2 : mt' l) : Kept w mt' w' := by
  refine ⟨hk.os, hk.tape, hk.output, hk.drawn, by have := hk.size; rwa [World.putObj_size] at this, fun b hb hm => ?_⟩
  have hbl : b ≠ l := fun e => hm (e ▸ h2)
  have := hk.block b (by rw [World.putObj_size]; exact hb) fun h => hm (h1 b h)
  rw [this, World.putObj_heap_other hbl]
theorem HOk.push {w0 w : World} {mt mt' O : Nat → Prop} {nt nt' : Nat} {rd rd' : Option Nat} {h : Heap} {mu : Id → Option Base} {nx l : Nat} {x0 : Obj} {rec : Loop} {jj : Option Code} {B : Base}
    (hk : HOk ⟨w0.putObj l x0, mt, fun b => O b ∨ b = l, nt, rd⟩ h mu nx w) (hn : 0 ∉ h.map (·.1)) (hx : 0 < nx) (hB : mu (0, 0) = some B) (hBl : B.b = l) (hBo : B.o = 0) (hl : w.heap[l]? = some (.loop (recJ rec jj))) (hmt : ∀ b, mt b → mt' b) (hml : mt' l) (hO : ¬ O l) :
    HOk ⟨w0, mt', O, nt', rd'⟩ ((0, .one (.ob (lpP l rec jj))) :: h) mu nx w := by
  have hlk : ∀ id o, lkH ((0, .one (.ob (lpP l rec jj))) :: h) id = some o → (id = (0, 0) ∧ o = .ob (lpP l rec jj)) ∨ (id.1 ≠ 0 ∧ lkH h id = some o) := fun id o h1 => by
    rw [lkH_cons_one h 0 _ HEnt.Solo.one] at h1
    by_cases e : id = (0, 0)
    · rw [if_pos e] at h1; injection h1 with h1; exact .inl ⟨e, h1.symm⟩
    · rw [if_neg e] at h1
      by_cases e2 : id.1 = 0
      · rw [if_pos e2] at h1; cases h1
      · rw [if_neg e2] at h1; exact .inr ⟨e2, h1⟩
  have hne : ∀ id o B', lkH h id = some o → mu id = some B' → B'.b ≠ l := fun id o B' h1 h2 e => (hk.own id o B' h1 h2).2.2 (.inr e)
  have hLe : (cx ⟨w0.putObj l x0, mt, fun b => O b ∨ b = l, nt, rd⟩ h mu nx w).Le (cx ⟨w0, mt', O, nt', rd'⟩ ((0, .one (.ob (lpP l rec jj))) :: h) mu nx w) := by
    refine ⟨Nat.le_refl _, fun b hb hF hF' => hF ?_, fun _ _ _ _ => rfl, Nat.le_refl _, fun _ _ => rfl, fun _ h => h⟩
    rcases hF' with hO' | ⟨id, o, B', h1, h2, h3⟩
    · exact .inl (.inl hO')
    · rcases hlk id o h1 with ⟨rfl, _⟩ | ⟨_, h4⟩
      · rw [hB] at h2; injection h2 with h2; subst h2
        exact .inl (.inr (h3.symm.trans hBl))
      · exact .inr ⟨id, o, B', h4, h2, h3⟩
  refine ⟨fun id o h1 => ?_, fun id id' o o' B1 B2 h1 h2 hm1 hm2 hb => ?_, fun id o B1 h1 hm => ?_, kept_unput hk.kept hmt hml, fun b hb => ?_, fun id t B1 ht hm => ?_⟩
  · rcases hlk id o h1 with ⟨rfl, rfl⟩ | ⟨_, h4⟩
    · refine ⟨hx, ?_⟩
      rw [hB]
      exact ⟨.loop (recJ rec jj), by rw [hBl]; exact hl, ⟨trivial, hBo⟩, hBl, rfl⟩
    · exact ⟨(hk.obj id o h4).1, (hk.obj id o h4).2.mono hLe fun _ _ => rfl⟩
  · rcases hlk id o h1 with ⟨rfl, _⟩ | ⟨_, h4⟩ <;> rcases hlk id' o' h2 with ⟨rfl, _⟩ | ⟨_, h5⟩
    · rfl
    · rw [hB] at hm1; injection hm1 with hm1; subst hm1
      exact absurd (hb.symm.trans hBl) (hne _ _ _ h5 hm2)
    · rw [hB] at hm2; injection hm2 with hm2; subst hm2
      exact absurd (hb.trans hBl) (hne _ _ _ h4 hm1)
    · exact hk.sep id id' o o' B1 B2 h4 h5 hm1 hm2 hb
  · rcases hlk id o h1 with ⟨rfl, _⟩ | ⟨_, h4⟩
    · rw [hB] at hm; injection hm with hm; subst hm
      rw [hBl]
      exact ⟨lt_of_get hl, .inr hml, hO⟩
    · obtain ⟨k1, k2, k3⟩ := hk.own id o B1 h4 hm
      refine ⟨k1, ?_, fun h => k3 (.inl h)⟩
      rcases k2 with k2 | k2
      · left
        have : (w0.putObj l x0).heap.size ≤ B1.b := k2
        rwa [World.putObj_size] at this
      · exact .inr (hmt _ k2)
  · have : b < (w0.putObj l x0).heap.size := hk.out b (.inl hb)
    rwa [World.putObj_size] at this
  · simp only [tyH] at ht
    by_cases e : 0 = id.1
    · rw [if_pos e] at ht; cases ht
    · rw [if_neg e] at ht
      exact hk.typ id t B1 ht hm
end
end Go.Lift
namespace Go.Lift
set_option linter.unusedSimpArgs false
set_option linter.unusedVariables false
open Go.RowKit
def nxF (l : List (AVal × AVal)) (c : Option Nat) (j : Nat) : AVal := match j with
  | 0 => .bool c.isSome
  | 1 => (l.getD (c.getD 0) (.any, .any)).1
  | _ => (l.getD (c.getD 0) (.any, .any)).2
@[simp] theorem nxF_zero {l : List (AVal × AVal)} {c : Option Nat} : nxF l c 0 = .bool c.isSome := rfl
@[simp] theorem nxF_one {l : List (AVal × AVal)} {c : Option Nat} : nxF l c 1 = (l.getD (c.getD 0) (.any, .any)).1 := rfl
@[simp] theorem nxF_two {l : List (AVal × AVal)} {c : Option Nat} : nxF l c 2 = (l.getD (c.getD 0) (.any, .any)).2 := rfl
section
variable {P : Program} {G : Gh} {n0 : Nat}
end
end Go.Lift
