/- A proof left short is refused, and so is one with a raised weight. No condition. -/
import Derived.Test.YthpdkmoedpcboaaGreatPR16
import Derived.Test.YthpdkmoedpcboaaGreatPR39
import Derived.Test.YthpdkmoedpcboaaGreatPR49
namespace Go.Proofs.YthpdkmoedpcboaaGreat
set_option linter.unusedSimpArgs false
set_option linter.unusedVariables false
open Go Go.Lift Go.Proofs
section
variable {g : Gr} {v : List Int} {m : Int}
theorem keep_pth {c : List Int} (hc : c.Pairwise (· < ·)) : ∀ {ks : List Int} {s : Int} {t : Int}, Pth (keptG g c) s ks t → Pth g (c.getD s.toNat 0) ks (c.getD t.toNat 0)
  | [], s, t, hp => by
    have : s = t := hp
    subst this; rfl
  | k :: ks, s, t, ⟨y, hy, e1, e2, hp⟩ => by
    obtain ⟨x, hx, hb, rfl⟩ := keep_mem.1 hy
    obtain ⟨h1, h2⟩ := inBoth_mem hb
    have h3 := keep_pth hc hp
    have e3 : c.getD (mapE c x).to.toNat 0 = x.to := by
      show c.getD ((rankI c x.to : Int)).toNat 0 = _
      rw [Int.toNat_natCast, at_rank hc h2]
    rw [e3] at h3
    refine ⟨x, hx, ?_, e2, h3⟩
    rw [← e1]
    show _ = c.getD ((rankI c x.frm : Int)).toNat 0
    rw [Int.toNat_natCast, at_rank hc h1]
theorem keep_words {c : List Int} (hc : c.Pairwise (· < ·)) (hp : ∀ x ∈ c, 0 ≤ x ∧ x < g.states) {w : List UInt8} (h : setA (keptG g c) (iotaL (keptG g c).states.toNat) w ≠ []) : setA g (iotaL g.states.toNat) w ≠ [] := by
  obtain ⟨s, hs, t, h1⟩ := setA_some.1 h
  have hs2 := all_mem.1 hs
  have hs3 : s < (c.length : Int) := hs2.2
  exact setA_some.2 ⟨_, all_mem.2 (hp _ (getD_mem (d := (0 : Int)) (show s.toNat < c.length by omega))), _, keep_pth hc h1⟩
theorem bg_words (h : eigN g v m = 0) {w : List UInt8} (hw : setA (bg g v m) (iotaL (bg g v m).states.toNat) w ≠ []) : setA g (iotaL g.states.toNat) w ≠ [] := by
  obtain ⟨_, h2, h3, _, _⟩ := bc_ok h
  exact keep_words supL_asc (fun x hx => ((sup_in h).1 hx).1) (keep_words h2 h3 hw)
end
structure BPF (g : Gr) (m : Int) (p : Prf) : Prop where
  wl : 0 < p.w.length
  ws : (p.w.length : Int) = p.g.states
  w64 : p.w.length ≤ 64
  box : ∀ n ∈ p.w, 1 ≤ n ∧ n ≤ 4096
  gv : gcheck p.g = 0
  pm : p.m = m
  ok : PrfOK p
  rl : p.rounds.length ≤ 64
  yes : flN p = 0
  short : 0 < p.rounds.length → flN ⟨p.g, p.w, p.m, p.rounds.take (p.rounds.length - 1)⟩ = 23
  lab : p.g.labels = g.labels
  og : gcheck g = 0
  wrds : ∀ w, setA p.g (iotaL p.g.states.toNat) w ≠ [] → setA g (iotaL g.states.toNat) w ≠ []
theorem bP_facts {g : Gr} {v : List Int} {m : Int} (h : bErr g v m = 0) : BPF g m (bP g v m) := by
  have h0 := bErr_eig h
  have hb := bg_base h0
  obtain ⟨hv, hm, hl, hbx⟩ := vecN_zero (eigN_zero (baseN_zero hb).1).1
  have hK := bK_le (g := g) (v := v) (m := m)
  have hwl : (bw g v m).length = (bc g v m).length := pickL_len
  have hy := bP_yes h
  rw [bP_Q h] at hy ⊢
  obtain ⟨_, _, _, c4, c5⟩ := bc_ok h0
  exact { wl := by show 0 < (bw g v m).length; omega
          ws := hl
          w64 := by show (bw g v m).length ≤ 64; omega
          box := (baseN_zero hb).2
          gv := hv
          pm := rfl
          ok := bQ_ok (Nat.le_refl _)
          rl := by rw [bQ_len]; exact hK
          yes := hy
          short := fun h1 => by
            rw [bQ_len] at h1 ⊢
            have e : (bRs g v m (bK g v m)).take (bK g v m - 1) = bRs g v m (bK g v m - 1) := by
              obtain ⟨k, hk⟩ : ∃ k, bK g v m = k + 1 := ⟨bK g v m - 1, by omega⟩
              rw [hk, Nat.add_sub_cancel, bRs_succ]
              exact List.take_left' bRs_len
            show flN ⟨bg g v m, bw g v m, m, (bRs g v m (bK g v m)).take (bK g v m - 1)⟩ = 23
            rw [e]
            exact bQ_short h (by omega)
          lab := rfl
          og := (vecN_zero (eigN_zero h0).1).1
          wrds := fun w hw => bg_words h0 hw }
theorem BPF.cut {g : Gr} {m : Int} {p : Prf} (h : BPF g m p) : PrfOK ⟨p.g, p.w, p.m, p.rounds.take (p.rounds.length - 1)⟩ := fun l hl => h.ok l (List.mem_of_mem_take hl)
def smA (w : List Int) (i : Nat) : Int := (w.take i).sum
theorem smA_zero {w : List Int} : smA w 0 = 0 := rfl
theorem smA_succ {w : List Int} {i : Nat} (h : i < w.length) : smA w (i + 1) = smA w i + w.getD i 0 := by
  unfold smA
  rw [take_next h, List.sum_append]; simp
theorem smA_box {w : List Int} (hb : ∀ n ∈ w, 1 ≤ n ∧ n ≤ 4096) : ∀ i, i ≤ w.length → 0 ≤ smA w i ∧ smA w i ≤ i * 4096 ∧ ∀ j, j < i → w.getD j 0 ≤ smA w i
  | 0, _ => ⟨Int.le_refl _, by simp [smA], fun j hj => absurd hj (Nat.not_lt_zero _)⟩
  | i + 1, hi => by
    obtain ⟨h1, h2, h3⟩ := smA_box hb i (by omega)
    have h4 := hb _ (getD_mem (d := (0 : Int)) (show i < w.length by omega))
    rw [smA_succ (by omega)]
    refine ⟨by omega, by omega, fun j hj => ?_⟩
    by_cases e : j = i
    · subst e; omega
    · have := h3 j (by omega); omega
def rsW (S : Int) (c : Nat) : Int := min 4096 ((S + 1) * ((c : Int) + 1) * ((c : Int) + 1))
theorem rsW_box {S : Int} {c : Nat} (h0 : 0 ≤ S ∧ S ≤ 262144) (hc : c ≤ 1024) : (0 ≤ (S + 1) * ((c : Int) + 1) ∧ (S + 1) * ((c : Int) + 1) ≤ 268700000) ∧ (0 ≤ (S + 1) * ((c : Int) + 1) * ((c : Int) + 1) ∧ (S + 1) * ((c : Int) + 1) * ((c : Int) + 1) ≤ 275500000000) ∧ S + 1 ≤ (S + 1) * ((c : Int) + 1) * ((c : Int) + 1) := by
  have a1 : 0 ≤ (S + 1) * ((c : Int) + 1) := Int.mul_nonneg (by omega) (by omega)
  have a2 : (S + 1) * ((c : Int) + 1) ≤ 262145 * 1025 := Int.mul_le_mul (by omega) (by omega) (by omega) (by omega)
  have a3 : (S + 1) * 1 ≤ (S + 1) * ((c : Int) + 1) := Int.mul_le_mul_of_nonneg_left (by omega) (by omega)
  have a4 : (S + 1) * ((c : Int) + 1) * 1 ≤ (S + 1) * ((c : Int) + 1) * ((c : Int) + 1) := Int.mul_le_mul_of_nonneg_left (by omega) a1
  have a5 : (S + 1) * ((c : Int) + 1) * ((c : Int) + 1) ≤ 268698625 * 1025 := Int.mul_le_mul (by omega) (by omega) (by omega) (by omega)
  omega
theorem BPF.raised {g : Gr} {m : Int} {p : Prf} (h : BPF g m p) {k : Nat} (hk : k < p.w.length) (hm : ((outL p.g k).length : Int) < m) : flN ⟨p.g, p.w.set k (rsW (smA p.w p.w.length) (outL p.g k).length), p.m, p.rounds⟩ ≠ 0 := by
  obtain ⟨h1, h2, h3⟩ := smA_box h.box p.w.length (Nat.le_refl _)
  have h4 := h.w64
  have hol : (outL p.g k).length ≤ 1024 := Nat.le_trans (outA_len _) (gcheck_valid h.gv).1.ed
  obtain ⟨_, _, h5⟩ := rsW_box (S := smA p.w p.w.length) (c := (outL p.g k).length) ⟨h1, by omega⟩ hol
  refine raise_no hk ?_ (fun j => ?_) (by rw [h.pm]; exact hm)
  · unfold rsW; omega
  · by_cases hj : j < p.w.length
    · have := h3 j hj
      have h6 := (h.box _ (getD_mem (d := (0 : Int)) hj)).2
      unfold rsW; omega
    · rw [show p.w.getD j 0 = 0 by simp [List.getD, List.getElem?_eq_none (Nat.le_of_not_lt hj)]]
      unfold rsW; omega
def odA (g : Gr) : Nat → Nat → Int
  | 0, _ => 0
  | i + 1, s => odA g i s + if (g.edges.getD i de).frm = (s : Int) then 1 else 0
theorem odA_succ {g : Gr} {i s : Nat} : odA g (i + 1) s = odA g i s + if (g.edges.getD i de).frm = (s : Int) then 1 else 0 := rfl
theorem odA_sum {g : Gr} {w : List Int} {s : Nat} (h : ∀ x ∈ g.edges, w.getD x.to.toNat 0 = 1) : ∀ i, i ≤ g.edges.length → sumA g w i s = odA g i s
  | 0, _ => rfl
  | i + 1, hi => by
    rw [sumA_succ, odA_succ, odA_sum h i (by omega)]
    congr 1
    split
    · exact h _ (getD_mem (by omega))
    · rfl
structure FLF (p : Prf) (m : Int) : Prop where
  gv : gcheck (flG p) = 0
  ol : ((flO p).length : Int) = (flG p).states
  or : ∀ s ∈ flO p, 0 ≤ s ∧ s < p.g.states
  out : ∀ s : Nat, (s : Int) < (flG p).states → m ≤ odA (flG p) (flG p).edges.length s
  pos : 0 < (flG p).states
theorem BPF.fin {g : Gr} {m : Int} {p : Prf} (h : BPF g m p) : FLF p m := by
  obtain ⟨h1, h2, h3, h4⟩ := flN_zero h.yes
  obtain ⟨i1, i2, i3⟩ := fl_inv h.ok h1 p.rounds.length (Nat.le_refl _) h3
  obtain ⟨e1, e2⟩ := flG_ok h.yes
  rw [h.pm] at i1
  rw [← e1, ← e2] at i2
  rw [← e1] at i1
  rw [← e2] at i3
  obtain ⟨j1, j2⟩ := baseN_zero i1
  obtain ⟨k1, k2, k3⟩ := eigN_zero j1
  obtain ⟨l1, l2, l3, l4⟩ := vecN_zero k1
  have hone : ∀ s : Nat, (s : Int) < (flG p).states → (flS p p.rounds.length).2.1.getD s 0 = 1 := fun s hs => by
    have := List.all_eq_true.1 h4 _ (getD_mem (d := (0 : Int)) (show s < (flS p p.rounds.length).2.1.length by omega))
    exact of_decide_eq_true this
  have hpos : 0 < (flG p).states := by
    have h5 : (flS p p.rounds.length).2.1.length ≠ 0 := fun hc => by
      rw [List.length_eq_zero_iff.1 hc] at k2
      cases k2
    omega
  refine ⟨l1, i2, i3, fun s hs => ?_, hpos⟩
  have h5 := eig_low j1 hs
  rw [hone s hs, Int.mul_one] at h5
  have h6 : sumV (flG p) (flS p p.rounds.length).2.1 s = odA (flG p) (flG p).edges.length s := odA_sum (fun x hx => by
    have := edge_in l1 hx
    exact hone _ (by omega)) _ (Nat.le_refl _)
  omega
end Go.Proofs.YthpdkmoedpcboaaGreat
namespace Go.Proofs.YthpdkmoedpcboaaGreat
set_option linter.unusedSimpArgs false
set_option linter.unusedVariables false
open Go Go.Lift Go.Proofs
set_option maxRecDepth 100000 in
set_option maxHeartbeats 1000000 in
theorem refusedLaw_c (g : Gr) (hge : g.edges.length ≤ maxLen) (v : List Int) (hvl : v.length ≤ maxLen) (m : Int) (b : Int) (hb : 0 ≤ b ∧ b < 256) : PC Tryz.prog 6 [.agg 3 (grF g), ints v, .int .i64 m, .int .u8 b] (.bool true) := by
 have hML : maxLen = 9223372036854775807 := by decide
 refine zp Tryz.func6 fun G hG hR => ?_
 refine zs (zrP ?_)
 refine zs (zs (zL (zlP 1 ?_)))
 refine zcP cal16 (great9_c g) ?_
 refine zlP 2 ?_
 refine zcP cal17 (greatV_c v hvl) ?_
 refine zlP 1 ?_
 refine zN (zy (fun hb24 => ?_) fun hb24 => ?_)
 · refine zs (zL ?_)
   refine zcP cal9 awake_c ?_
   refine zlP 1 ?_
   refine zN (zt ?_)
   exact zRP
 refine zk (zs (zL (zlP 3 ?_)))
 refine zcP cal23 (buildM_c g v m) ?_
 refine zlP 6 ?_
 refine zN (zs (zs (zrP ?_)))
 refine zy (fun hb34 => ?_) fun hb34 => ?_
 · refine zs (zL ?_)
   refine zcP cal9 awake_c ?_
   refine zlP 1 ?_
   refine zN (zt ?_)
   exact zRP
 have hE : bErr g v m = 0 := (by simpa using hb34)
 have hF := bP_facts hE
 generalize bP g v m = p at hF ⊢
 have hwl := hF.wl
 have hws := hF.ws
 have hw64 := hF.w64
 have hrl := hF.rl
 refine zk (zs (zs (zrP ?_)))
 refine awpS_cond rfl (fun hb48 => ?_) (fun hb48 => ?_)
 · exfalso; have hz : ¬ p.w = [] := (fun h => by rw [h] at hwl; simp at hwl); simp [-List.getD_eq_getElem?_getD, hz] at hb48; omega
 try simp [-List.getD_eq_getElem?_getD] at hb48
 refine zk (zs (zrP ?_))
 refine zs (zs (zrP ?_))
 refine zs (zrP ?_)
 refine awpS_cut (α := List (List Spl)) (fun l => ⟨[(2, .int .i64 m), (3, .int .u8 b), (4, .ptr (0, 0) 0 0), (9, .ptr (1, 0) 0 0), (11, .ptr (2, 0) 0 0)], [(0, .one (.arr 1 3 (fun _ => grF g))), (1, .one (.arr 1 6 (fun _ j => prfF p j))), (2, .one (.arr 1 6 (fun _ j => prfF ⟨p.g, p.w, p.m, l⟩ j)))], 3⟩) (fun l => True) ?_ ?_ (by simp)
 · refine zy (fun hb54 => ?_) fun hb54 => ?_
   · refine zs (zrP ?_)
     refine zs (zL (zlP 1 ?_))
     refine zcP cal12 (verifyM_c ⟨p.g, p.w, p.m, p.rounds.take (p.rounds.length - 1)⟩ hF.cut (by simp only [List.length_take]; omega)) ?_ (b := fun hg => by simp [hG, List.getD_cons_zero, List.getD_cons_succ, -List.getD_eq_getElem?_getD]; intro i hi; rw [show (p.rounds.take (p.rounds.length - 1)).getD i [] = p.rounds.getD i [] by simp [List.getD_eq_getElem?_getD, List.getElem?_take_of_lt hi]]; exact Clo.le _ Clo_spls)
     refine zlP 1 ?_
     refine zN ?_
     refine awpS_cond rfl (fun hb63 => ?_) (fun hb63 => ?_)
     · exfalso; simp [-List.getD_eq_getElem?_getD, hF.short (show 0 < p.rounds.length by omega)] at hb63
     try simp [-List.getD_eq_getElem?_getD] at hb63
     refine zk (zn ?_)
     refine cut_end ((p.rounds.take (p.rounds.length - 1))) (trivial) ?_
     exact ziP (h := by simp [hG, List.getD_cons_zero, List.getD_cons_succ, -List.getD_eq_getElem?_getD]; intro i hi; rw [show (p.rounds.take (p.rounds.length - 1)).getD i [] = p.rounds.getD i [] by simp [List.getD_eq_getElem?_getD, List.getElem?_take_of_lt hi]]; exact Clo.le _ Clo_spls)
   refine zk (zn ?_)
   refine cut_end (p.rounds) (trivial) ?_
   exact ziP
 rintro l _
 refine zs (zrP ?_)
 refine zs (zL (zlP 2 ?_))
 refine zfP cal27 [] (cloneI_c p.w (by omega)) (fun x hI hno => ?_)
 refine zlP 2 ?_
 refine zN (zs (zrP ?_))
 refine zs (zs (zrP ?_))
 refine zb ?_
 refine awpS_loop (α := Nat) (fun i => ⟨[(2, .int .i64 m), (3, .int .u8 b), (4, .ptr (0, 0) 0 0), (9, .ptr (1, 0) 0 0), (11, .ptr (2, 0) 0 0), (13, .int .i64 (smA p.w i)), (70, ints p.w), (71, .int .i64 p.w.length), (72, .int .i64 (i : Nat))], [(0, .one (.arr 1 3 (fun _ => grF g))), (1, .one (.arr 1 6 (fun _ j => prfF p j))), (2, .one (.arr 1 6 (fun _ j => [.int .i64 p.g.labels, .int .i64 p.g.states, edgesC p.g.edges, .sl (3, 0) 0 p.w.length, .int .i64 p.m, rds p.rounds].getD j .any))), (3, .one (.arr p.w.length 1 (fun i _ => .int .i64 (p.w.getD i 0))))], 4⟩) (fun i => i ≤ p.w.length) (fun i => p.w.length - i) (0) (Nat.zero_le _) ?_ ?_
 · exact ziP (e := by simp [hG, List.getD_cons_zero, List.getD_cons_succ, -List.getD_eq_getElem?_getD]; exact smA_zero.symm)
 rintro i hi
 refine zs (zrP ?_)
 refine zs (zy (fun hb73 => ?_) fun hb73 => ?_)
 · have hil : i < p.w.length := (by omega)
   have hsb := smA_box hF.box i (by omega)
   have hwb := hF.box _ (getD_mem (d := (0 : Int)) hil)
   have hss := smA_succ hil
   refine zk (zs (zb (zs (zrP ?_))))
   refine zrP ?_
   refine zn (zbn (zrP ?_))
   refine zn ?_
   refine round_end (i + 1) (by omega) (by omega) ?_
   exact ziP (e := by rw [hss]; simp [hG, List.getD_cons_zero, List.getD_cons_succ, -List.getD_eq_getElem?_getD])
 obtain rfl : i = p.w.length := (by omega)
 have hsb := smA_box hF.box p.w.length (Nat.le_refl _)
 obtain ⟨k, hk⟩ : ∃ k : Nat, b % (p.w.length : Int) = (k : Int) := ⟨(b % (p.w.length : Int)).toNat, by have := Int.emod_nonneg b (show (p.w.length : Int) ≠ 0 by omega); omega⟩
 have hkl : k < p.w.length := (by have := Int.emod_lt_of_pos b (show 0 < (p.w.length : Int) by omega); omega)
 obtain ⟨ho1, ho2⟩ := out_3 (g := p.g) (s := (k : Int)) hF.gv ⟨by omega, by omega⟩
 have hol : (outL p.g k).length ≤ 1024 := Nat.le_trans (outA_len _) (gcheck_valid hF.gv).1.ed
 obtain ⟨hm1, hm2, hm3⟩ := rsW_box (S := smA p.w p.w.length) (c := (outL p.g k).length) ⟨hsb.1, by omega⟩ hol
 refine zx (ztx (zbx (zs (zrP ?_))))
 refine zs (zL (zlP 3 ?_))
 refine zcP cal28 (outC_c p.g (k : Int)) ?_ (b := fun hg => by simp [hG, List.getD_cons_zero, List.getD_cons_succ, -List.getD_eq_getElem?_getD]; exact hk)
 refine zlP 5 ?_
 refine zN (zs (zs (zrP ?_)))
 refine awpS_cond rfl (fun hb94 => ?_) (fun hb94 => ?_)
 · exfalso; simp [-List.getD_eq_getElem?_getD, ho2] at hb94
 try simp [-List.getD_eq_getElem?_getD] at hb94
 refine zk (zs (zrP ?_ (c := by simp only [ho1, hk, Int.toNat_natCast]; refine ⟨⟨by omega, by omega⟩, ⟨by omega, by omega⟩, ⟨by omega, by omega⟩, ⟨by omega, by omega⟩, ⟨by omega, by omega⟩, ⟨by omega, by omega⟩, by omega⟩)))
 refine zs (zs (zrP ?_))
 refine zy (fun hb113 => ?_) fun hb113 => ?_
 · refine zs (zL ?_)
   refine zcP cal9 awake_c ?_
   refine zlP 1 ?_
   refine zN (zt ?_)
   exact zRP
 rw [ho1] at hb113
 have hno := hF.raised hkl (by omega)
 refine zk (zs (zL (zlP 1 ?_)))
 refine awpL_callB (mem [3]) cal12 (by simp [flat]) rfl rfl (fun _ => rfl) (fun hg => verifyM_c ⟨p.g, p.w.set k (rsW (smA p.w p.w.length) (outL p.g k).length), p.m, p.rounds⟩ hF.ok (by show p.rounds.length ≤ 66; omega)) (fun hg => ?_) (fun hg => ?_) fun K hK => ?_
 · simp [hG, List.getD_cons_zero, List.getD_cons_succ, -List.getD_eq_getElem?_getD, pureOp]
 · simp [hG, List.getD_cons_zero, List.getD_cons_succ, -List.getD_eq_getElem?_getD]; intro i hi; rw [ho1, hk, Int.toNat_natCast]; by_cases h : i = k; (subst h; rw [if_pos rfl]; simp [rsW, List.getD, hkl]); (rw [if_neg h]; simp [List.getD, List.getElem?_set, Ne.symm h])
 simp [hG, List.getD_cons_zero, List.getD_cons_succ, -List.getD_eq_getElem?_getD, pureOp]
 refine hK _ ?_
 clear K hK
 refine zlP 2 ?_
 refine zcP cal9 awake_c ?_
 refine zlP 2 ?_
 refine zN (zt ?_)
 refine RetOK_of ?_
 simp [hG, List.getD_cons_zero, List.getD_cons_succ, -List.getD_eq_getElem?_getD, pureOp]
 exact hno
end Go.Proofs.YthpdkmoedpcboaaGreat
namespace Go.Proofs.YthpdkmoedpcboaaGreat
set_option linter.unusedSimpArgs false
set_option linter.unusedVariables false
open Go Go.Lift Go.RowKit Go.ChangeShapes Go.WideShapes Go.ChangeAt
set_option maxRecDepth 100000 in
theorem refusedLaw_lifted (os : Os) (started : os.Started) (H : Type) (enc : TypeId × Value → H) :
    ReturnsInHanded {} Tryz.checked os 6 .any (Rows.splittingRefusedSpec.pre6 enc Tryz.prog Tryz.f6 Rows.splittingRefusedRow.domain false) (Rows.splittingRefusedSpec.post enc Tryz.prog Tryz.f6 false true false false) := by
  refine returnsInHanded_of_change (C := Tryz.checked) Tryz.own started (by kernel_rfl) Tryz.func6
    (ChangeSpec.witness6 (enc := enc) (C := Tryz.checked) false ⟨#[], #[.agg #[.int .i64 0, .int .i64 0, .slice none 0 0], .slice none 0 0, .int .i64 0, .int .u8 0], []⟩ 8 (by kernel_rfl) (by kernel_rfl) (by kernel_rfl) (by kernel_rfl)) ?_
  intro W base args ds gs before hval0 hW _ _
  have hval : ∀ (j : Nat) t v, Tryz.f6.params[j]? = some t → args[j]? = some v → Value.okWide Tryz.prog W .any base t v := hval0
  have hW' := hW
  obtain ⟨p, q, hA0, hV, rfl, _, _⟩ := hW
  have hA : DataW.TrodAll enc Tryz.prog W 0 (fun _ => true) true Tryz.f6.params.toList args.toList ds p := hA0
  rw [Tryz.params6] at hA hval
  obtain ⟨al, rfl⟩ : ∃ al : List Value, args = al.toArray := ⟨args.toList, by simp⟩
  simp only at hA
  obtain ⟨v0, al0, d0, ds0, p0, q0, rfl, rfl, rfl, h0, hA⟩ := trodAll_cons hA
  obtain ⟨v1, al1, d1, ds1, p1, q1, rfl, rfl, rfl, h1, hA⟩ := trodAll_cons hA
  obtain ⟨v2, al2, d2, ds2, p2, q2, rfl, rfl, rfl, h2, hA⟩ := trodAll_cons hA
  obtain ⟨v3, al3, d3, ds3, p3, q3, rfl, rfl, rfl, h3, hA⟩ := trodAll_cons hA
  obtain ⟨rfl, rfl, rfl⟩ := trodAll_nil hA
  obtain ⟨rfl, rfl⟩ := trodVars_none hV
  obtain ⟨x0, w0, r0⟩ := arg_struct Tryz.underlying24 rdG (hval 0 24 v0 rfl rfl) h0
  obtain ⟨x1, w1, r1⟩ := arg_slice Tryz.underlying25 rdIs (hval 1 25 v1 rfl rfl) h1
  obtain ⟨x2, w2, r2⟩ := arg_int Tryz.underlying3 rdI (hval 2 3 v2 rfl rfl) h2
  obtain ⟨x3, w3, r3⟩ := arg_int Tryz.underlying5 rdB (hval 3 5 v3 rfl rfl) h3
  refine (refusedLaw_c x0 w0 x1 w1 x2 x3 (wf_u8 w3) (fun _ => False) W [v0, v1, v2, v3] (fun _ h => h.elim) ⟨r0, r1, r2, r3, trivial⟩).mono fun r W' ⟨v, hr, hk, hv⟩ => ?_
  subst hr
  have hv' : v = .bool true := hv
  subst hv'
  exact ⟨_, rfl, law_post Tryz.laidOut (by kernel_rfl) rfl rfl rfl Tryz.underlying4 hW' hk⟩
theorem refusedLaw_holds : Rows.SplittingRefusedSaid :=
  OpenClaim.holds_of_wide 6 Tryz.f6 rfl rfl rfl rfl rfl rfl rfl ⟨rfl, rfl, rfl, rfl, rfl⟩ rfl rfl rfl rfl rfl (by kernel_rfl) Tryz.func6 (by kernel_rfl)
    (of_decide_eq_true (by kernel_rfl)) (by unfold Func.isWrapper; first | (rw [if_pos (by decide +kernel)]; kernel_rfl) | (rw [if_neg (by decide +kernel)]; exact ⟨rfl, rfl⟩))
    (fun os started H enc _ => refusedLaw_lifted os started H enc)
#print axioms refusedLaw_holds
end Go.Proofs.YthpdkmoedpcboaaGreat
