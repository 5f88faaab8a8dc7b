/- Parts of the proof: XH. -/
import Derived.Test.YthpdkmoedpcboaaGreatPB15
import Derived.Test.YthpdkmoedpcboaaGreatPB44
namespace Go.Proofs.YthpdkmoedpcboaaGreat
set_option linter.unusedSimpArgs false
set_option linter.unusedVariables false
open Go Go.Lift Go.Proofs
def placeQ (l : List Edge) (q : Edge → Bool) : Int := if l.any q then (l.findIdx q : Nat) else -1
theorem placeQ_at {l : List Edge} {q : Edge → Bool} {i : Nat} (hi : i < l.length) (hq : q (l.getD i de) = true) (hn : ∀ j, j < i → q (l.getD j de) = false) : placeQ l q = i := by
  unfold placeQ
  have hg : ∀ j (hj : j < l.length), l.getD j de = l[j] := fun j hj => by simp [List.getD, hj]
  rw [if_pos (List.any_eq_true.2 ⟨l[i], List.getElem_mem hi, by rw [← hg]; exact hq⟩)]
  have : l.findIdx q = i := (List.findIdx_eq hi).2 ⟨by rw [← hg]; exact hq, fun j hj => by rw [← hg]; exact hn j hj⟩
  rw [this]
theorem placeQ_none {l : List Edge} {q : Edge → Bool} (hn : ∀ j, j < l.length → q (l.getD j de) = false) : placeQ l q = -1 := by
  unfold placeQ
  rw [if_neg]
  intro h
  obtain ⟨x, hx, hq⟩ := List.any_eq_true.1 h
  obtain ⟨j, hj, rfl⟩ := List.mem_iff_getElem.1 hx
  have := hn j hj
  rw [show l.getD j de = l[j] by simp [List.getD, hj]] at this
  rw [this] at hq; cases hq
theorem placeQ_any {l : List Edge} {q : Edge → Bool} : decide (0 ≤ placeQ l q) = l.any q := by
  unfold placeQ
  split
  · rename_i h; rw [h]; simp
  · rename_i h; simp only [Bool.not_eq_true] at h; rw [h]; simp
noncomputable def firstAt (g : Gr) (i k : Nat) : Bool := (List.range k).all fun t => !mutB g i t || decide (i ≤ t)
@[simp] theorem firstAt_zero {g : Gr} {i : Nat} : firstAt g i 0 = true := rfl
theorem firstAt_succ {g : Gr} {i k : Nat} : firstAt g i (k + 1) = (firstAt g i k && (!mutB g i k || decide (i ≤ k))) := by
  unfold firstAt
  rw [List.range_succ, List.all_append]
  simp
theorem firstAt_all {g : Gr} {i : Nat} (hi : i < g.n) : firstAt g i g.n = least g i := by
  rw [Bool.eq_iff_iff, least_iff hi]
  unfold firstAt
  simp only [List.all_eq_true, List.mem_range, Bool.or_eq_true, Bool.not_eq_true', decide_eq_true_eq]
  constructor
  · intro h t ht hm
    rcases h t ht with h1 | h1
    · rw [hm] at h1; cases h1
    · exact h1
  · intro h t ht
    cases hm : mutB g i t with
    | false => exact .inl rfl
    | true => exact .inr (h t ht hm)
def leaves (g : Gr) (c : List Int) : Bool := g.edges.any fun x => hasI c x.frm && !hasI c x.to
set_option maxRecDepth 100000 in
theorem indexQ_c (l : List Edge) (q : Edge → Bool) (hfn hn : Nat) (hc : Nat → AVal) (hl : l.length ≤ 1024) (hcal : Callable Tryz.prog hfn) (hclo : ∀ j, Clo (hc j)) (hp : ∀ x ∈ l, PC Tryz.prog hfn (.agg 3 (edgeF x) :: (List.range' 0 hn).map hc) (.bool (q x))) : PC Tryz.prog 132 [edgesC l, .fn hfn hn hc] (.int .i64 (placeQ l q)) := by
 have hV : ∀ {h : Heap} {σ : Lift.Id → Lift.Id} {fz : Nat → Bool} {vz : Lift.Id → Bool} {nx j : Nat}, VLe h σ fz vz nx (hc j) (hc j) := fun {h σ fz vz nx j} => Clo.le _ (hclo j)
 refine zp Tryz.func132 fun G hG hR => ?_
 refine zs (zr ?_ (h := by intro c K h; simp [hG, List.getD_cons_zero, List.getD_cons_succ, -List.getD_eq_getElem?_getD, hV]; first | exact z1 c h | exact ⟨.mk c, h⟩))
 refine zs (zs (zr ?_ (h := by intro c K h; simp [hG, List.getD_cons_zero, List.getD_cons_succ, -List.getD_eq_getElem?_getD, hV]; first | exact z1 c h | exact ⟨.mk c, h⟩)))
 refine zb ?_
 refine awpS_loop (α := Nat) (fun i => ⟨[(0, edgesC l), (1, .fn hfn hn hc), (7, .int .i64 l.length), (8, .int .i64 i)], [], 0⟩) (fun i => i ≤ l.length ∧ ∀ j, j < i → q (l.getD j de) = false) (fun i => l.length - i) (0) (⟨Nat.zero_le _, fun j hj => absurd hj (Nat.not_lt_zero _)⟩) ?_ ?_
 · exact zi (e := by simp [hG, List.getD_cons_zero, List.getD_cons_succ, -List.getD_eq_getElem?_getD, hV]) (h := by simp [hG, List.getD_cons_zero, List.getD_cons_succ, -List.getD_eq_getElem?_getD, hV])
 rintro i ⟨hi, hn0⟩
 refine zs (zr ?_ (h := by intro c K h; simp [hG, List.getD_cons_zero, List.getD_cons_succ, -List.getD_eq_getElem?_getD, hV]; first | exact z1 c h | exact ⟨.mk c, h⟩))
 refine zs (zy (fun hb9 => ?_) fun hb9 => ?_)
 · refine zk (zs (zb (zs (zr ?_ (h := by intro c K h; simp [hG, List.getD_cons_zero, List.getD_cons_succ, -List.getD_eq_getElem?_getD, hV]; first | exact z1 c h | exact ⟨.mk c, h⟩)))))
   refine zs (zL (zl 5 ?_ (h := by intro c K h; simp [hG, List.getD_cons_zero, List.getD_cons_succ, -List.getD_eq_getElem?_getD, hV]; first | exact z1 c h | exact ⟨.mk c, h⟩)))
   refine zc hcal (hp _ (getD_mem (d := de) (by simpa using hb9))) ?_ (a := fun hg => by simp [hG, List.getD_cons_zero, List.getD_cons_succ, -List.getD_eq_getElem?_getD, hV]) (b := fun hg => by simp [hG, List.getD_cons_zero, List.getD_cons_succ, -List.getD_eq_getElem?_getD]; exact argsLe_caps fun j _ => hclo j) (h := by intro K h; simp [hG, List.getD_cons_zero, List.getD_cons_succ, -List.getD_eq_getElem?_getD, hV]; exact h)
   refine zN (zy (fun hb16 => ?_) fun hb16 => ?_)
   · refine zs (zr ?_ (h := by intro c K h; simp [hG, List.getD_cons_zero, List.getD_cons_succ, -List.getD_eq_getElem?_getD, hV]; first | exact z1 c h | exact ⟨.mk c, h⟩))
     refine zt (zbt (ztt (zbt ?_)))
     refine RetOK_of ?_
     simp [hG, List.getD_cons_zero, List.getD_cons_succ, -List.getD_eq_getElem?_getD, hV]
     exact (placeQ_at (by simpa using hb9) hb16 hn0).symm
   refine zk (zn (zbn (zr ?_ (h := by intro c K h; simp [hG, List.getD_cons_zero, List.getD_cons_succ, -List.getD_eq_getElem?_getD, hV]; first | exact z1 c h | exact ⟨.mk c, h⟩))))
   refine zn ?_
   refine round_end (i + 1) (⟨by omega, fun j hj => (Nat.lt_succ_iff_lt_or_eq.1 hj).elim (hn0 j) fun e => by rw [e]; exact hb16⟩) (by omega) ?_
   exact zi (e := by simp [hG, List.getD_cons_zero, List.getD_cons_succ, -List.getD_eq_getElem?_getD, hV]) (h := by simp [hG, List.getD_cons_zero, List.getD_cons_succ, -List.getD_eq_getElem?_getD, hV])
 refine zx (ztx (zbx (zs (zr ?_ (h := by intro c K h; simp [hG, List.getD_cons_zero, List.getD_cons_succ, -List.getD_eq_getElem?_getD, hV]; first | exact z1 c h | exact ⟨.mk c, h⟩)))))
 refine zt ?_
 refine RetOK_of ?_
 simp [hG, List.getD_cons_zero, List.getD_cons_succ, -List.getD_eq_getElem?_getD, hV]
 exact (placeQ_none fun j hj => hn0 j (by omega)).symm
set_option maxRecDepth 100000 in
theorem containsQ_c (l : List Edge) (q : Edge → Bool) (hfn hn : Nat) (hc : Nat → AVal) (hl : l.length ≤ 1024) (hcal : Callable Tryz.prog hfn) (hclo : ∀ j, Clo (hc j)) (hp : ∀ x ∈ l, PC Tryz.prog hfn (.agg 3 (edgeF x) :: (List.range' 0 hn).map hc) (.bool (q x))) : PC Tryz.prog 95 [edgesC l, .fn hfn hn hc] (.bool (l.any q)) := by
 have hV : ∀ {h : Heap} {σ : Lift.Id → Lift.Id} {fz : Nat → Bool} {vz : Lift.Id → Bool} {nx j : Nat}, VLe h σ fz vz nx (hc j) (hc j) := fun {h σ fz vz nx j} => Clo.le _ (hclo j)
 refine zp Tryz.func95 fun G hG hR => ?_
 refine zs (zr ?_ (h := by intro c K h; simp [hG, List.getD_cons_zero, List.getD_cons_succ, -List.getD_eq_getElem?_getD, hV]; first | exact z1 c h | exact ⟨.mk c, h⟩))
 refine zs (zL (zl 2 ?_ (h := by intro c K h; simp [hG, List.getD_cons_zero, List.getD_cons_succ, -List.getD_eq_getElem?_getD, hV]; first | exact z1 c h | exact ⟨.mk c, h⟩)))
 refine zc cal132 (indexQ_c l q hfn hn hc hl hcal hclo hp) ?_ (a := fun hg => by simp [hG, List.getD_cons_zero, List.getD_cons_succ, -List.getD_eq_getElem?_getD, hV]) (b := fun hg => by simp [hG, List.getD_cons_zero, List.getD_cons_succ, -List.getD_eq_getElem?_getD, hV]) (h := by intro K h; simp [hG, List.getD_cons_zero, List.getD_cons_succ, -List.getD_eq_getElem?_getD, hV]; exact h)
 refine zl 2 ?_ (h := by intro c K h; simp [hG, List.getD_cons_zero, List.getD_cons_succ, -List.getD_eq_getElem?_getD, hV]; first | exact z1 c h | exact ⟨.mk c, h⟩)
 refine zN (zt ?_)
 refine RetOK_of ?_
 simp [hG, List.getD_cons_zero, List.getD_cons_succ, -List.getD_eq_getElem?_getD, hV]
 rw [← placeQ_any]
set_option maxRecDepth 100000 in
theorem sink2_c (c : List Int) (x : Edge) (hl : c.length ≤ 64) : PC Tryz.prog 96 [.agg 3 (edgeF x), .vptr 1 (fun _ => ints c) 0] (.bool (hasI c x.frm && !hasI c x.to)) := by
 refine zp Tryz.func96 fun G hG hR => ?_
 refine zs (zr ?_)
 refine zs (zL (zl 3 ?_))
 refine zc cal71 (containsI_c c x.frm (by omega)) ?_
 refine zl 4 ?_
 refine zc cal71 (containsI_c c x.to (by omega)) ?_
 refine zl 3 ?_
 refine zN (zt ?_)
 exact zR
set_option maxRecDepth 100000 in
theorem sink1_c (g : Gr) (c : List Int) (hl : c.length ≤ 64) (hed : g.edges.length ≤ 1024) : PC Tryz.prog 94 [ints c, .vptr 3 (grF g) 0] (.bool (!leaves g c)) := by
 refine zp Tryz.func94 fun G hG hR => ?_
 refine zs (zr ?_)
 refine zs (zL (zl 3 ?_))
 refine awpL_callB (mem [0]) cal95 (by simp [flat]) rfl rfl (fun _ => rfl) (fun hg => containsQ_c g.edges (fun x => hasI c x.frm && !hasI c x.to) 96 1 (fun _ => .vptr 1 (fun _ => ints c) 0) hed cal96 (fun _ => by simp) fun x _ => sink2_c c x hl) (fun hg => ?_) (fun hg => ?_) fun K hK => ?_
 · simp [hG, List.getD_cons_zero, List.getD_cons_succ, -List.getD_eq_getElem?_getD]
 · simp [hG, List.getD_cons_zero, List.getD_cons_succ, -List.getD_eq_getElem?_getD]
 simp [hG, List.getD_cons_zero, List.getD_cons_succ, -List.getD_eq_getElem?_getD]
 refine hK _ ?_
 clear K hK
 refine zl 2 ?_
 refine zN (zt ?_)
 refine RetOK_of ?_
 simp [hG, List.getD_cons_zero, List.getD_cons_succ, -List.getD_eq_getElem?_getD]
 rfl
set_option maxRecDepth 100000 in
theorem sinks_c (g : Gr) : PC Tryz.prog 57 [.agg 3 (grF g)] (.tup 2 (fun j => [rowsI (if gcheck g = 0 then (compsL g).filter (fun c => !leaves g c) else []), .int .i64 (if gcheck g = 0 then 0 else 1)].getD j .any)) := by
 refine zp Tryz.func57 fun G hG hR => ?_
 refine zs (zr ?_)
 refine zs ?_
 refine awpS_wk (st2 := ⟨[(1, .vptr 3 (grF g) 0)], [], 0⟩) ?_ ?_
 · exact zw (id) (fun _ => true) (fun _ => false)
 refine zL (zl 2 ?_)
 refine zc cal93 (some_c g (fun c => !leaves g c) 94 1 (fun _ => .vptr 3 (grF g) 0) cal94 (fun _ => by simp) fun hgc s hs => sink1_c g (compL g s) (Nat.le_trans compAt_len (by have := (gcheck_fit hgc).st; unfold Gr.n; omega)) (gcheck_valid hgc).1.ed) ?_
 refine zl 4 ?_
 refine zN (zt ?_)
 exact zR
end Go.Proofs.YthpdkmoedpcboaaGreat
