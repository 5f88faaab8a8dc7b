/- Parts of the proof: NK NL XQ. -/
import Derived.Test.YtchjjiedcpfniaaGreatDoorU10
import Derived.Test.YtchjjiedcpfniaaGreatDoorU12
import Derived.Test.YtchjjiedcpfniaaGreatDoorU15
import Derived.Test.YtchjjiedcpfniaaGreatDoorU27
import Derived.Test.YtchjjiedcpfniaaGreatDoorU28
import Derived.Test.YtchjjiedcpfniaaGreatDoorU30
namespace Go.Proofs.YtchjjiedcpfniaaGreatDoor
set_option linter.unusedSimpArgs false
set_option linter.unusedVariables false
open Go Go.Lift Go.Proofs
theorem greatR_no {l : List Spl} (h : greatR l = false) : RndOK l := by
  unfold greatR at h
  rw [Bool.or_eq_false_iff, decide_eq_false_iff_not] at h
  refine ⟨by omega, fun x hx => ?_, fun x hx p hp => ?_⟩
  · have := List.any_eq_false.1 h.1 x hx
    unfold bigS at this
    rw [Bool.or_eq_true, not_or, decide_eq_true_eq] at this
    omega
  · have := List.any_eq_false.1 h.1 x hx
    unfold bigS at this
    rw [Bool.or_eq_true, not_or] at this
    have h2 := this.2
    rw [List.any_eq_true] at h2
    refine Nat.le_of_not_lt fun h3 => h2 ⟨p, hp, by simp; omega⟩
section
variable {g : Gr} {v : List Int} {m : Int}
theorem apl_z {l : List Spl} (hr : Rd g v m l) (h : aplN g v m l = 0) : aplG g v m l = splG g l ∧ aplW g v m l = hvA g v m l g.states.toNat ∧ aplP g v m l = parA g l g.states.toNat ∧ offA g l g.states.toNat ≤ 64 ∧ (edA g l g.edges.length).length ≤ 1024 := by
  by_cases hc : 64 < offA g l g.states.toNat ∨ 1024 < (edA g l g.edges.length).length
  · rw [(apl_2 hr.rd hc).2.2.2] at h; cases h
  · obtain ⟨e1, e2, e3, _⟩ := apl_3 hr.rd hc
    exact ⟨e1, e2, e3, by omega, by omega⟩
end
def rds (l : List (List Spl)) : AVal := vec 1 (fun (x : List Spl) _ => spls x) [] l
@[simp] theorem evLen_rds {h : Heap} {l : List (List Spl)} : evLen h (rds l) = some (.int .i64 l.length) := rfl
@[simp] theorem strip_rds {l : List (List Spl)} : strip (rds l) = (rds l, True) := rfl
@[simp] theorem mkOpt_rds {g : Bool} {l : List (List Spl)} : mkOpt g (rds l) = .opt g (rds l) := rfl
@[simp] theorem one_rds {l : List (List Spl)} : (rds l).one = true := rfl
@[simp] theorem acell_rds {l : List (List Spl)} {j : Nat} : acell (rds l) j = rds l := rfl
@[simp] theorem Clo_rds {l : List (List Spl)} : Clo (rds l) := Clo_vec fun x _ j hj => ⟨rfl, Clo_spls⟩
@[simp] theorem lenT_rds {T : Tab} {t : TypeId} {l : List (List Spl)} : lenT T t (rds l) = sliceT T t := lenT_vec
@[simp] theorem evIndexAddr_rds {T : Tab} {h : Heap} {t : TypeId} {k : IntKind} {m : Int} {l : List (List Spl)} : evIndexAddr T h t (rds l) (.int k m) = match elemT T t with
    | some ei => if 1 = ei.size then some (.vptr 1 (fun j => (fun (x : List Spl) _ => spls x) (l.getD m.toNat []) j) 0, 0 ≤ m ∧ m < (l.length : Int)) else none
    | none => none := evIndexAddr_vec
@[simp] theorem evSrc_rds {h : Heap} {l : List (List Spl)} : evSrc h 1 (rds l) = some (l.length, (fun i j => (fun (x : List Spl) _ => spls x) (l.getD i []) j), True) := by
  unfold rds
  rw [evSrc_vec rfl]
  rfl
@[simp] theorem evBin_rds {o : BinOp} {v : AVal} {l : List (List Spl)} : evBin o (rds l) v = none := rfl
@[simp] theorem evEq_rds {T : Tab} {t : TypeId} {l : List (List Spl)} : evEq T .eql t (rds l) .nils = if sliceT T t then some (.ub (l.length = 0)) else none := rfl
@[simp] theorem VLe_rds_nils {h : Heap} {σ : Lift.Id → Lift.Id} {fz : Nat → Bool} {vz : Lift.Id → Bool} {x : Nat} {l : List (List Spl)} : VLe h σ fz vz x (rds l) .nils = (l.length = 0) := rfl
@[simp] theorem VLe_rds_sl {h : Heap} {σ : Lift.Id → Lift.Id} {fz : Nat → Bool} {vz : Lift.Id → Bool} {y lo x' : Nat} {id : Lift.Id} {l : List (List Spl)} : VLe h σ fz vz y (rds l) (.sl id lo x') = (x' = l.length ∧ fz id.1 = true ∧ match lkH h id with
    | some (.arr N s' g') => s' = 1 ∧ lo + l.length ≤ N ∧ ∀ i, i < l.length → ∀ j, j < 1 → ((fun (x : List Spl) _ => spls x) (l.getD i []) j).one = true ∧ VLe h σ fz vz y ((fun (x : List Spl) _ => spls x) (l.getD i []) j) (g' (lo + i) j)
    | _ => False) := VLe_vsl_sl
@[simp] theorem VLe_rds_vsl {h : Heap} {σ : Lift.Id → Lift.Id} {fz : Nat → Bool} {vz : Lift.Id → Bool} {x' s' y : Nat} {g' : Nat → Nat → AVal} {l : List (List Spl)} : VLe h σ fz vz y (rds l) (.vsl x' s' g') = (x' = l.length ∧ s' = 1 ∧ ∀ i, i < l.length → ∀ j, j < 1 → ((fun (x : List Spl) _ => spls x) (l.getD i []) j).one = true ∧ VLe h σ fz vz y ((fun (x : List Spl) _ => spls x) (l.getD i []) j) (g' i j)) := rfl
@[simp] theorem ren_rds {ρ : Nat → Nat} {l : List (List Spl)} : ren ρ (rds l) = rds l := ren_vec fun _ _ => ren_spls
structure Prf where
  g : Gr
  w : List Int
  m : Int
  rounds : List (List Spl)
def prfF (p : Prf) (j : Nat) : AVal := match j with
  | 0 => .int .i64 p.g.labels
  | 1 => .int .i64 p.g.states
  | 2 => edgesC p.g.edges
  | 3 => ints p.w
  | 4 => .int .i64 p.m
  | _ => rds p.rounds
section
variable {p : Prf} {j : Nat} {ρ : Nat → Nat}
@[simp] theorem prfF0 : prfF p 0 = .int .i64 p.g.labels := rfl
@[simp] theorem prfF1 : prfF p 1 = .int .i64 p.g.states := rfl
@[simp] theorem prfF2 : prfF p 2 = edgesC p.g.edges := rfl
@[simp] theorem prfF3 : prfF p 3 = ints p.w := rfl
@[simp] theorem prfF4 : prfF p 4 = .int .i64 p.m := rfl
@[simp] theorem prfF5 : prfF p 5 = rds p.rounds := rfl
@[simp] theorem one_prfF : (prfF p j).one = true := by unfold prfF; split <;> rfl
@[simp] theorem Clo_prfF : Clo (prfF p j) := by unfold prfF; split <;> first | trivial | exact Clo_edgesC | exact Clo_ints | exact Clo_rds
@[simp] theorem ren_prfF : ren ρ (prfF p j) = prfF p j := by unfold prfF; split <;> first | rfl | exact ren_edgesC | exact ren_ints | exact ren_rds
end
def pickL (l q : List Int) : List Int := q.map fun s => l.getD s.toNat 0
theorem pickL_len {l q : List Int} : (pickL l q).length = q.length := by simp [pickL]
theorem pickL_at {l q : List Int} {k : Nat} (h : k < q.length) : (pickL l q).getD k 0 = l.getD (q.getD k 0).toNat 0 := by simp [pickL, List.getD, h]
def onesB (v : List Int) : Bool := v.all fun n => decide (n = 1)
def iotaI (n : Nat) : List Int := (List.range n).map fun s : Nat => (s : Int)
theorem iotaI_len {n : Nat} : (iotaI n).length = n := by simp [iotaI]
theorem iotaI_succ {n : Nat} : iotaI (n + 1) = iotaI n ++ [(n : Int)] := by simp [iotaI, List.range_succ]
noncomputable def flS (p : Prf) : Nat → Gr × List Int × List Int
  | 0 => (p.g, p.w, iotaI p.g.states.toNat)
  | i + 1 => (aplG (flS p i).1 (flS p i).2.1 p.m (p.rounds.getD i []), aplW (flS p i).1 (flS p i).2.1 p.m (p.rounds.getD i []), pickL (flS p i).2.2 (aplP (flS p i).1 (flS p i).2.1 p.m (p.rounds.getD i [])))
noncomputable def flE (p : Prf) (i : Nat) : Int := aplN (flS p i).1 (flS p i).2.1 p.m (p.rounds.getD i [])
noncomputable def flN (p : Prf) : Int := if baseN p.g p.w p.m ≠ 0 then baseN p.g p.w p.m else if 64 < p.rounds.length then 4
  else if firstNZ (flE p) (List.range p.rounds.length) ≠ 0 then firstNZ (flE p) (List.range p.rounds.length)
  else if onesB (flS p p.rounds.length).2.1 = false then 23 else 0
noncomputable def flG (p : Prf) : Gr := if flN p = 0 then (flS p p.rounds.length).1 else ⟨0, 0, []⟩
noncomputable def flO (p : Prf) : List Int := if flN p = 0 then (flS p p.rounds.length).2.2 else []
section
variable {p : Prf}
theorem flS_succ {i : Nat} : flS p (i + 1) = (aplG (flS p i).1 (flS p i).2.1 p.m (p.rounds.getD i []), aplW (flS p i).1 (flS p i).2.1 p.m (p.rounds.getD i []), pickL (flS p i).2.2 (aplP (flS p i).1 (flS p i).2.1 p.m (p.rounds.getD i []))) := rfl
theorem fl_err {n : Int} (h : flN p = n) (hn : n ≠ 0) : flG p = ⟨0, 0, []⟩ ∧ flO p = [] := by
  unfold flG flO
  rw [h, if_neg hn, if_neg hn]; exact ⟨rfl, rfl⟩
theorem fl_1 (h : baseN p.g p.w p.m ≠ 0) : flN p = baseN p.g p.w p.m := if_pos h
theorem fl_2 (h : baseN p.g p.w p.m = 0) (h2 : 64 < p.rounds.length) : flN p = 4 := by unfold flN; rw [if_neg (fun c => c h), if_pos h2]
theorem fl_3 (h : baseN p.g p.w p.m = 0) (h2 : p.rounds.length ≤ 64) {i : Nat} (hi : i < p.rounds.length) (hn : ∀ j, j < i → flE p j = 0) (he : flE p i ≠ 0) : flN p = flE p i := by
  unfold flN
  rw [if_neg (fun c => c h), if_neg (by omega), firstNZ_range hn hi he, if_pos he]
theorem fl_4 (h : baseN p.g p.w p.m = 0) (h2 : p.rounds.length ≤ 64) (hn : ∀ j, j < p.rounds.length → flE p j = 0) : flN p = if onesB (flS p p.rounds.length).2.1 = false then 23 else 0 := by
  unfold flN
  rw [if_neg (fun c => c h), if_neg (by omega), firstNZ_none hn]
  rfl
theorem flN_zero (h : flN p = 0) : baseN p.g p.w p.m = 0 ∧ p.rounds.length ≤ 64 ∧ (∀ j, j < p.rounds.length → flE p j = 0) ∧ onesB (flS p p.rounds.length).2.1 = true := by
  unfold flN at h
  split at h
  · rename_i h1; exact absurd h h1
  · rename_i h1
    split at h
    · cases h
    · rename_i h2
      split at h
      · rename_i h3; exact absurd h h3
      · rename_i h3
        split at h
        · cases h
        · rename_i h4
          exact ⟨Classical.byContradiction h1, by omega, firstNZ_zero (Classical.byContradiction h3), by simpa using h4⟩
theorem flG_ok (h : flN p = 0) : flG p = (flS p p.rounds.length).1 ∧ flO p = (flS p p.rounds.length).2.2 := ⟨if_pos h, if_pos h⟩
def PrfOK (p : Prf) : Prop := ∀ l ∈ p.rounds, RndOK l
theorem PrfOK.at (h : PrfOK p) {i : Nat} : RndOK (p.rounds.getD i []) := by
  by_cases hi : i < p.rounds.length
  · exact h _ (getD_mem hi)
  · rw [List.getD_eq_getElem?_getD, List.getElem?_eq_none (Nat.le_of_not_lt hi)]
    exact ⟨Nat.zero_le _, fun x hx => (List.not_mem_nil hx).elim, fun x hx => (List.not_mem_nil hx).elim⟩
theorem apl_step {g : Gr} {v : List Int} {m : Int} {l : List Spl} (hr : RndOK l) (h : aplN g v m l = 0) : Rd g v m l ∧ aplG g v m l = splG g l ∧ aplW g v m l = hvA g v m l g.states.toNat ∧ aplP g v m l = parA g l g.states.toNat ∧ offA g l g.states.toNat ≤ 64 ∧ (edA g l g.edges.length).length ≤ 1024 := by
  have h0 : rndN g v m l = 0 := by
    refine Classical.byContradiction fun hc => ?_
    have e : aplN g v m l = rndN g v m l := if_pos hc
    exact hc (e ▸ h)
  exact ⟨⟨hr, h0⟩, apl_z ⟨hr, h0⟩ h⟩
theorem fl_inv (hp : PrfOK p) (hb : baseN p.g p.w p.m = 0) : ∀ i, i ≤ p.rounds.length → (∀ j, j < i → flE p j = 0) → baseN (flS p i).1 (flS p i).2.1 p.m = 0 ∧ ((flS p i).2.2.length : Int) = (flS p i).1.states ∧ ∀ s ∈ (flS p i).2.2, 0 ≤ s ∧ s < p.g.states
  | 0, _, _ => by
    have hv := (vecN_zero (eigN_zero (baseN_zero hb).1).1).1
    have hst := (gcheck_valid hv).1.st
    refine ⟨hb, ?_, fun s hs => ?_⟩
    · show ((iotaI p.g.states.toNat).length : Int) = p.g.states
      rw [iotaI_len]; omega
    · obtain ⟨k, hk, rfl⟩ := List.mem_map.1 (show s ∈ (List.range p.g.states.toNat).map fun s : Nat => (s : Int) from hs)
      have := List.mem_range.1 hk
      omega
  | i + 1, hi, hn => by
    obtain ⟨h1, h2, h3⟩ := fl_inv hp hb i (by omega) fun j hj => hn j (by omega)
    obtain ⟨hRd, e1, e2, e3, ho, he⟩ := apl_step (hp.at (i := i)) (hn i (by omega))
    rw [flS_succ, e1, e2, e3]
    refine ⟨hRd.eig ho he, ?_, fun s hs => ?_⟩
    · show ((pickL (flS p i).2.2 (parA (flS p i).1 (p.rounds.getD i []) (flS p i).1.states.toNat)).length : Int) = (offA (flS p i).1 (p.rounds.getD i []) (flS p i).1.states.toNat : Nat)
      rw [pickL_len, parA_len]
    · obtain ⟨k, hk, rfl⟩ := List.mem_map.1 (show s ∈ (parA (flS p i).1 (p.rounds.getD i []) (flS p i).1.states.toNat).map fun s => (flS p i).2.2.getD s.toNat 0 from hs)
      have hk2 := parA_mem hk
      exact h3 _ (getD_mem (by omega))
end
section
variable {α β : Type} [DecidableEq α]
def alDel : List (α × β) → α → List (α × β)
  | [], _ => []
  | (a, b) :: r, k => if k = a then r else (a, b) :: alDel r k
theorem alGet_none : ∀ {l : List (α × β)} {k : α}, alGet l k = none ↔ k ∉ l.map (·.1)
  | [], k => by simp [alGet]
  | (a, b) :: r, k => by
    simp only [alGet, List.map_cons, List.mem_cons, not_or]
    by_cases h : k = a
    · simp [h]
    · simp only [if_neg h, alGet_none (l := r)]
      exact ⟨fun h2 => ⟨h, h2⟩, fun h2 => h2.2⟩
theorem alDel_sub : ∀ {l : List (α × β)} {k : α}, ((alDel l k).map (·.1)).Sublist (l.map (·.1))
  | [], k => .slnil
  | (a, b) :: r, k => by
    simp only [alDel]
    split
    · exact List.sublist_cons_self _ _
    · exact (alDel_sub (l := r)).cons_cons _
theorem alGet_del : ∀ {l : List (α × β)} {k o : α}, (l.map (·.1)).Nodup → alGet (alDel l k) o = if o = k then none else alGet l o
  | [], k, o, _ => by simp [alDel, alGet]
  | (a, b) :: r, k, o, hn => by
    rw [List.map_cons, List.nodup_cons] at hn
    simp only [alDel, alGet]
    by_cases h : k = a
    · subst h
      rw [if_pos rfl]
      by_cases h2 : o = k
      · subst h2
        rw [if_pos rfl]
        exact alGet_none.2 hn.1
      · rw [if_neg h2, if_neg h2]
    · rw [if_neg h]
      simp only [alGet]
      by_cases h2 : o = a
      · subst h2
        rw [if_pos rfl, if_neg (Ne.symm h), if_pos rfl]
      · rw [if_neg h2, if_neg h2]
        exact alGet_del hn.2
theorem alPut_keys : ∀ {l : List (α × β)} {k : α} {v : β}, (l.map (·.1)).Nodup → ((alPut l k v).map (·.1)).Nodup ∧ ∀ o, o ∈ (alPut l k v).map (·.1) ↔ o = k ∨ o ∈ l.map (·.1)
  | [], k, v, _ => by simp [alPut]
  | (a, b) :: r, k, v, hn => by
    rw [List.map_cons, List.nodup_cons] at hn
    simp only [alPut]
    by_cases h : k = a
    · subst h
      rw [if_pos rfl]
      simp only [List.map_cons, List.nodup_cons, List.mem_cons]
      exact ⟨hn, fun o => ⟨fun h => h.elim .inl fun h => .inr (.inr h), fun h => h.elim .inl fun h => h⟩⟩
    · rw [if_neg h]
      obtain ⟨h1, h2⟩ := alPut_keys (k := k) (v := v) hn.2
      simp only [List.map_cons, List.nodup_cons, List.mem_cons]
      refine ⟨⟨fun h3 => ((h2 a).1 h3).elim (fun e => h e.symm) hn.1, h1⟩, fun o => ?_⟩
      rw [h2 o]
      exact ⟨fun h => h.elim (fun h => .inr (.inl h)) fun h => h.elim .inl fun h => .inr (.inr h), fun h => h.elim (fun h => .inr (.inl h)) fun h => h.elim .inl fun h => .inr (.inr h)⟩
end
def oldE (g : Gr) (l : List Spl) (x : Edge) : Edge := ⟨(parA g l g.states.toNat).getD x.frm.toNat 0, x.lab, (parA g l g.states.toNat).getD x.to.toNat 0⟩
def spEs (g : Gr) (l : List Spl) : List Edge := (splG g l).edges
def oldK (g : Gr) (l : List Spl) (k : Nat) : Edge := oldE g l ((spEs g l).getD k de)
def cnM (g : Gr) (l : List Spl) : Nat → List (Edge × Int)
  | 0 => []
  | k + 1 => alPut (cnM g l k) (oldK g l k) ((alGet (cnM g l k) (oldK g l k)).getD 0 + 1)
def dlM (g : Gr) (l : List Spl) : Nat → List (Edge × Int)
  | 0 => cnM g l (spEs g l).length
  | j + 1 => alDel (dlM g l j) (g.edges.getD j de)
def cntE (g : Gr) (l : List Spl) (o : Edge) : Nat → Int
  | 0 => 0
  | k + 1 => cntE g l o k + if oldK g l k = o then 1 else 0
theorem cnM_succ {g : Gr} {l : List Spl} {k : Nat} : cnM g l (k + 1) = alPut (cnM g l k) (oldK g l k) ((alGet (cnM g l k) (oldK g l k)).getD 0 + 1) := rfl
theorem dlM_succ {g : Gr} {l : List Spl} {j : Nat} : dlM g l (j + 1) = alDel (dlM g l j) (g.edges.getD j de) := rfl
def chN (p : List Int) : Nat → Nat → Int
  | 0, _ => 0
  | k + 1, s => chN p k s + if p.getD k 0 = (s : Int) then 1 else 0
theorem chN_succ {p : List Int} {k s : Nat} : chN p (k + 1) s = chN p k s + if p.getD k 0 = (s : Int) then 1 else 0 := rfl
theorem chN_count {p : List Int} {s : Nat} : ∀ k, k ≤ p.length → chN p k s = ((p.take k).count (s : Int) : Nat)
  | 0, _ => by simp [chN]
  | k + 1, h => by
    rw [chN_succ, chN_count k (by omega), take_next (by omega), List.count_append, List.count_singleton]
    by_cases e : p.getD k 0 = (s : Int)
    · rw [if_pos e, if_pos (by simpa using e)]; rfl
    · rw [if_neg e, if_neg (by simpa using e)]; rfl
theorem edges_nodup {g : Gr} (h : gcheck g = 0) : g.edges.Nodup := ascE_nodup (edges_asc h)
section
variable {g : Gr} {v : List Int} {m : Int} {l : List Spl}
theorem count_rep {q n s : Nat} : (List.replicate q (n : Int)).count (s : Int) = if s = n then q else 0 := by
  rw [List.count_replicate]
  by_cases e : s = n
  · subst e; simp
  · rw [if_neg e, if_neg (by simp; omega)]
theorem parA_count {s : Nat} : ∀ n, (parA g l n).count (s : Int) = if s < n then (prS g l s).length else 0
  | 0 => by simp [parA]
  | n + 1 => by
    rw [← parP_all, parP, List.count_append, parA_count n, count_rep]
    by_cases e : s = n
    · subst e; simp
    · rw [if_neg e, Nat.add_zero]
      by_cases h : s < n
      · rw [if_pos h, if_pos (by omega)]
      · rw [if_neg h, if_neg (by omega)]
theorem chN_all {s : Nat} (hs : s < g.states.toNat) : chN (parA g l g.states.toNat) (parA g l g.states.toNat).length s = (prS g l s).length := by
  rw [chN_count _ (Nat.le_refl _), List.take_length, parA_count, if_pos hs]
theorem Rd.spE_old (h : Rd g v m l) {a : Nat} (ha : a < g.edges.length) {c : Int} (hc : c ∈ chL g l (g.edges.getD a de).to.toNat) : oldE g l (spE g l a c) = g.edges.getD a de := by
  obtain ⟨hb1, hb2, hb3⟩ := edge_at h.gv ha
  obtain ⟨i, hi, _, ho⟩ := h.own ha
  obtain ⟨j, hj, hcj⟩ := chL_mem.1 hc
  have h1 : (parA g l g.states.toNat).getD (ownE g l a).toNat 0 = (g.edges.getD a de).frm := by
    rw [ho, Int.toNat_natCast, parA_at hi _ (by omega)]; omega
  have h2 : (parA g l g.states.toNat).getD c.toNat 0 = (g.edges.getD a de).to := by
    rw [hcj, Int.toNat_natCast, parA_at hj _ (by omega)]; omega
  show (⟨(parA g l g.states.toNat).getD (ownE g l a).toNat 0, (g.edges.getD a de).lab, (parA g l g.states.toNat).getD c.toNat 0⟩ : Edge) = _
  rw [h1, h2]
theorem Rd.es_mem (h : Rd g v m l) {x : Edge} : x ∈ spEs g l ↔ ∃ a c, a < g.edges.length ∧ c ∈ chL g l (g.edges.getD a de).to.toNat ∧ x = spE g l a c := by
  rw [← edA_mem]
  exact (norm_perm (h.nodup _ (Nat.le_refl _))).mem_iff
theorem Rd.old_at (h : Rd g v m l) {k : Nat} (hk : k < (spEs g l).length) : oldK g l k ∈ g.edges ∧ ∀ j, j < (spEs g l).length → oldK g l j = oldK g l k → ((spEs g l).getD j de).frm = ((spEs g l).getD k de).frm := by
  obtain ⟨a, c, ha, hc, e⟩ := h.es_mem.1 (getD_mem (d := de) hk)
  have hok : oldK g l k = g.edges.getD a de := by unfold oldK; rw [e]; exact h.spE_old ha hc
  refine ⟨by rw [hok]; exact getD_mem ha, fun j hj hjk => ?_⟩
  obtain ⟨b, d, hb, hd, e2⟩ := h.es_mem.1 (getD_mem (d := de) hj)
  have hoj : oldK g l j = g.edges.getD b de := by unfold oldK; rw [e2]; exact h.spE_old hb hd
  have hab : a = b := by
    have hn := edges_nodup h.gv
    have e3 : g.edges.getD b de = g.edges.getD a de := by rw [← hoj, hjk, hok]
    rw [getD_get ha, getD_get hb] at e3
    exact ((List.getElem_inj hn).1 e3).symm
  subst hab
  rw [e, e2]
  rfl
theorem cnM_get {o : Edge} : ∀ {k : Nat}, (alGet (cnM g l k) o).getD 0 = cntE g l o k
  | 0 => rfl
  | k + 1 => by
    rw [cnM_succ, alGet_put]
    unfold cntE
    by_cases e : o = oldK g l k
    · rw [if_pos e, if_pos e.symm, ← e, cnM_get (k := k)]; rfl
    · rw [if_neg e, if_neg (Ne.symm e), cnM_get (k := k), Int.add_zero]
theorem Rd.cnM_keys (h : Rd g v m l) : ∀ {k : Nat}, k ≤ (spEs g l).length → ((cnM g l k).map (·.1)).Nodup ∧ ∀ o ∈ (cnM g l k).map (·.1), o ∈ g.edges
  | 0, _ => ⟨List.nodup_nil, fun o ho => by cases ho⟩
  | k + 1, hk => by
    obtain ⟨h1, h2⟩ := Rd.cnM_keys h (k := k) (by omega)
    obtain ⟨h3, h4⟩ := alPut_keys (k := oldK g l k) (v := (alGet (cnM g l k) (oldK g l k)).getD 0 + 1) h1
    refine ⟨h3, fun o ho => ?_⟩
    rcases (h4 o).1 ho with rfl | ho
    · exact (h.old_at (by omega)).1
    · exact h2 o ho
theorem Rd.dlM_get (h : Rd g v m l) : ∀ {j : Nat}, j ≤ g.edges.length → ((dlM g l j).map (·.1)).Nodup ∧ ∀ o, alGet (dlM g l j) o = if o ∈ g.edges.take j then none else alGet (cnM g l (spEs g l).length) o
  | 0, _ => ⟨(h.cnM_keys (Nat.le_refl _)).1, fun o => by simp [dlM]⟩
  | j + 1, hj => by
    obtain ⟨h1, h2⟩ := Rd.dlM_get h (j := j) (by omega)
    refine ⟨h1.sublist alDel_sub, fun o => ?_⟩
    rw [dlM_succ, alGet_del h1, h2]
    have e : g.edges.take (j + 1) = g.edges.take j ++ [g.edges.getD j de] := by
      rw [List.take_succ_eq_append_getElem (by omega), getD_get (by omega)]
    rw [e]
    by_cases h3 : o = g.edges.getD j de
    · rw [if_pos h3, if_pos (by rw [h3]; simp)]
    · rw [if_neg h3]
      by_cases h4 : o ∈ g.edges.take j
      · rw [if_pos h4, if_pos (by simp [h4])]
      · rw [if_neg h4, if_neg (by simp only [List.mem_append, List.mem_singleton]; exact fun h5 => h5.elim h4 h3)]
theorem Rd.dlM_at (h : Rd g v m l) {j : Nat} (hj : j < g.edges.length) : (alGet (dlM g l j) (g.edges.getD j de)).getD 0 = cntE g l (g.edges.getD j de) (spEs g l).length := by
  rw [(h.dlM_get (Nat.le_of_lt hj)).2, if_neg ?_, cnM_get]
  intro hm
  obtain ⟨i, hi, e⟩ := List.mem_iff_getElem.1 hm
  rw [List.getElem_take, getD_get hj] at e
  have := (List.getElem_inj (edges_nodup h.gv)).1 e
  rw [List.length_take] at hi
  omega
theorem cntE_count {o : Edge} : ∀ k, k ≤ (spEs g l).length → cntE g l o k = (((spEs g l).take k).countP fun x => decide (oldE g l x = o) : Nat)
  | 0, _ => by simp [cntE]
  | k + 1, hk => by
    unfold cntE
    rw [cntE_count k (by omega), List.take_succ_eq_append_getElem (by omega), List.countP_append, ← getD_get (d := de) (by omega : k < (spEs g l).length)]
    show _ + (if oldE g l ((spEs g l).getD k de) = o then 1 else 0) = _
    by_cases e : oldE g l ((spEs g l).getD k de) = o
    · rw [if_pos e, List.countP_singleton, if_pos (by simpa using e)]; rfl
    · rw [if_neg e, List.countP_singleton, if_neg (by simpa using e)]; rfl
theorem Rd.edA_count (h : Rd g v m l) {j : Nat} (hj : j < g.edges.length) : ∀ n, n ≤ g.edges.length → ((edA g l n).countP fun x => decide (oldE g l x = g.edges.getD j de)) = if j < n then (prS g l (g.edges.getD j de).to.toNat).length else 0
  | 0, _ => by simp [edA]
  | n + 1, hn => by
    rw [← edP_all, edP, List.take_length, List.countP_append, Rd.edA_count h hj n (by omega), List.countP_map]
    have key : ∀ c ∈ chL g l (g.edges.getD n de).to.toNat, ((fun x => decide (oldE g l x = g.edges.getD j de)) ∘ spE g l n) c = decide (n = j) := fun c hc => by
      show decide (oldE g l (spE g l n c) = g.edges.getD j de) = _
      rw [h.spE_old (by omega) hc, decide_eq_decide, getD_get hj, getD_get (by omega)]
      exact List.getElem_inj (edges_nodup h.gv)
    rw [List.countP_congr (q := fun _ => decide (n = j)) fun c hc => by rw [key c hc]]
    by_cases e : n = j
    · subst e
      rw [if_neg (by omega), if_pos (by omega), Nat.zero_add]
      simp [chL_len]
    · have h0 : (List.countP (fun _ => decide (n = j)) (chL g l (g.edges.getD n de).to.toNat)) = 0 := by
        rw [List.countP_eq_zero]; intro a _; simp [e]
      rw [h0, Nat.add_zero]
      by_cases h2 : j < n
      · rw [if_pos h2, if_pos (by omega)]
      · rw [if_neg h2, if_neg (by omega)]
theorem Rd.count (h : Rd g v m l) {j : Nat} (hj : j < g.edges.length) : (alGet (dlM g l j) (g.edges.getD j de)).getD 0 = chN (parA g l g.states.toNat) (parA g l g.states.toNat).length (g.edges.getD j de).to.toNat := by
  have hb := edge_at h.gv hj
  rw [h.dlM_at hj, cntE_count _ (Nat.le_refl _), List.take_length, chN_all (by omega)]
  have := (norm_perm (h.nodup _ (Nat.le_refl _))).countP_eq (fun x => decide (oldE g l x = g.edges.getD j de))
  have e : (spEs g l).countP (fun x => decide (oldE g l x = g.edges.getD j de)) = (edA g l g.edges.length).countP (fun x => decide (oldE g l x = g.edges.getD j de)) := this
  rw [e, h.edA_count hj _ (Nat.le_refl _), if_pos hj]
end
def ltrB (i : Nat) : UInt8 := letters.getD i 0
def keyT (g : Gr) (L : List Int) (w : List UInt8) (n : Nat) : List (List UInt8) := ((List.range n).filter fun i => decide (setA g L (w ++ [ltrB i]) ≠ [])).map fun i => w ++ [ltrB i]
section
variable {g : Gr} {v : List Int} {m : Int} {l : List Spl}
end
end Go.Proofs.YtchjjiedcpfniaaGreatDoor
