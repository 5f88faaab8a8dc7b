/- What Build returns is verified; each state at the end has at least m edges; the words of its graph are words of the graph. No condition. -/
import Derived.Test.YthpdkmoedpcboaaGreatPO15
import Derived.Test.YthpdkmoedpcboaaGreatPO34
import Derived.Test.YthpdkmoedpcboaaGreatPO38
import Derived.Test.YthpdkmoedpcboaaGreatPO41
import Derived.Test.YthpdkmoedpcboaaGreatPO49
namespace Go.Proofs.YthpdkmoedpcboaaGreat
set_option linter.unusedSimpArgs false
set_option linter.unusedVariables false
open Go Go.Lift Go.Proofs
section
variable {g : Gr} {v : List Int} {m : Int}
theorem keep_pth {c : List Int} (hc : c.Pairwise (· < ·)) : ∀ {ks : List Int} {s : Int} {t : Int}, Pth (keptG g c) s ks t → Pth g (c.getD s.toNat 0) ks (c.getD t.toNat 0)
  | [], s, t, hp => by
    have : s = t := hp
    subst this; rfl
  | k :: ks, s, t, ⟨y, hy, e1, e2, hp⟩ => by
    obtain ⟨x, hx, hb, rfl⟩ := keep_mem.1 hy
    obtain ⟨h1, h2⟩ := inBoth_mem hb
    have h3 := keep_pth hc hp
    have e3 : c.getD (mapE c x).to.toNat 0 = x.to := by
      show c.getD ((rankI c x.to : Int)).toNat 0 = _
      rw [Int.toNat_natCast, at_rank hc h2]
    rw [e3] at h3
    refine ⟨x, hx, ?_, e2, h3⟩
    rw [← e1]
    show _ = c.getD ((rankI c x.frm : Int)).toNat 0
    rw [Int.toNat_natCast, at_rank hc h1]
theorem keep_words {c : List Int} (hc : c.Pairwise (· < ·)) (hp : ∀ x ∈ c, 0 ≤ x ∧ x < g.states) {w : List UInt8} (h : setA (keptG g c) (iotaL (keptG g c).states.toNat) w ≠ []) : setA g (iotaL g.states.toNat) w ≠ [] := by
  obtain ⟨s, hs, t, h1⟩ := setA_some.1 h
  have hs2 := all_mem.1 hs
  have hs3 : s < (c.length : Int) := hs2.2
  exact setA_some.2 ⟨_, all_mem.2 (hp _ (getD_mem (d := (0 : Int)) (show s.toNat < c.length by omega))), _, keep_pth hc h1⟩
theorem bg_words (h : eigN g v m = 0) {w : List UInt8} (hw : setA (bg g v m) (iotaL (bg g v m).states.toNat) w ≠ []) : setA g (iotaL g.states.toNat) w ≠ [] := by
  obtain ⟨_, h2, h3, _, _⟩ := bc_ok h
  exact keep_words supL_asc (fun x hx => ((sup_in h).1 hx).1) (keep_words h2 h3 hw)
end
theorem wrd_ltr {g : Gr} {L : List Int} : ∀ {n : Nat} {w : List UInt8}, w ∈ wrd g L n → ∀ c ∈ w, ∃ i, i < g.labels.toNat ∧ c = ltrB i
  | 0, w, h => by
    unfold wrd at h
    split at h
    · cases h
    · rw [List.mem_singleton.1 h]; exact fun c hc => by cases hc
  | n + 1, w, h => by
    obtain ⟨u, hu, h2⟩ := List.mem_flatMap.1 h
    obtain ⟨i, hi, rfl, _⟩ := keyT_mem.1 h2
    intro c hc
    rcases List.mem_append.1 hc with h3 | h3
    · exact wrd_ltr hu c h3
    · exact ⟨i, hi, List.mem_singleton.1 h3⟩
theorem ltr_take {i q : Nat} (h : i < q) (h2 : i < 16) : 0 ≤ idxB (letters.take q) (ltrB i) := by
  refine idxB_ge.2 ?_
  have hl : i < (letters.take q).length := by rw [List.length_take]; have : letters.length = 16 := by decide
                                              omega
  have e : ltrB i = (letters.take q)[i] := by
    rw [List.getElem_take]
    unfold ltrB
    rw [getD_get (show i < letters.length by have : letters.length = 16 := by decide
                                             omega)]
  rw [e]; exact List.getElem_mem hl
theorem word_acc {p g : Gr} {n : Nat} (hg : gcheck g = 0) (hl : p.labels = g.labels) (hl3 : g.labels ≤ 3) (hn : n ≤ 5) (hw : ∀ w, setA p (iotaL p.states.toNat) w ≠ [] → setA g (iotaL g.states.toNat) w ≠ []) {w : List UInt8} (h : w ∈ wordsL p n) : accN g w = 0 ∧ accB g w = true := by
  have h1 : w ∈ wrd p (iotaL p.states.toNat) n := srtS_perm.mem_iff.1 h
  have h2 := hw w (wrd_set h1)
  have h3 := wrd_ltr h1
  have h4 := wrd_wlen h1
  have hlb := (gcheck_valid hg).1.lab
  have ha : accN g w = 0 := by
    have hln : langN g = 0 := by unfold langN; rw [if_neg (fun hc => hc hg), if_neg (by omega)]
    unfold accN
    rw [if_neg (fun hc => hc hln)]
    refine wordCheck_ok (by omega) (by omega) fun k hk => ?_
    obtain ⟨i, hi, e⟩ := h3 _ (getD_mem (d := (0 : UInt8)) hk)
    rw [e]
    exact ltr_take (by omega) (by omega)
  refine ⟨ha, ?_⟩
  unfold accB
  rw [decide_eq_true ha, decide_eq_true (List.length_pos_iff.2 h2)]; rfl
structure BPF (g : Gr) (m : Int) (p : Prf) : Prop where
  wl : 0 < p.w.length
  ws : (p.w.length : Int) = p.g.states
  w64 : p.w.length ≤ 64
  box : ∀ n ∈ p.w, 1 ≤ n ∧ n ≤ 4096
  gv : gcheck p.g = 0
  pm : p.m = m
  ok : PrfOK p
  rl : p.rounds.length ≤ 64
  yes : flN p = 0
  short : 0 < p.rounds.length → flN ⟨p.g, p.w, p.m, p.rounds.take (p.rounds.length - 1)⟩ = 23
  lab : p.g.labels = g.labels
  og : gcheck g = 0
  wrds : ∀ w, setA p.g (iotaL p.g.states.toNat) w ≠ [] → setA g (iotaL g.states.toNat) w ≠ []
theorem bP_facts {g : Gr} {v : List Int} {m : Int} (h : bErr g v m = 0) : BPF g m (bP g v m) := by
  have h0 := bErr_eig h
  have hb := bg_base h0
  obtain ⟨hv, hm, hl, hbx⟩ := vecN_zero (eigN_zero (baseN_zero hb).1).1
  have hK := bK_le (g := g) (v := v) (m := m)
  have hwl : (bw g v m).length = (bc g v m).length := pickL_len
  have hy := bP_yes h
  rw [bP_Q h] at hy ⊢
  obtain ⟨_, _, _, c4, c5⟩ := bc_ok h0
  exact { wl := by show 0 < (bw g v m).length; omega
          ws := hl
          w64 := by show (bw g v m).length ≤ 64; omega
          box := (baseN_zero hb).2
          gv := hv
          pm := rfl
          ok := bQ_ok (Nat.le_refl _)
          rl := by rw [bQ_len]; exact hK
          yes := hy
          short := fun h1 => by
            rw [bQ_len] at h1 ⊢
            have e : (bRs g v m (bK g v m)).take (bK g v m - 1) = bRs g v m (bK g v m - 1) := by
              obtain ⟨k, hk⟩ : ∃ k, bK g v m = k + 1 := ⟨bK g v m - 1, by omega⟩
              rw [hk, Nat.add_sub_cancel, bRs_succ]
              exact List.take_left' bRs_len
            show flN ⟨bg g v m, bw g v m, m, (bRs g v m (bK g v m)).take (bK g v m - 1)⟩ = 23
            rw [e]
            exact bQ_short h (by omega)
          lab := rfl
          og := (vecN_zero (eigN_zero h0).1).1
          wrds := fun w hw => bg_words h0 hw }
def odA (g : Gr) : Nat → Nat → Int
  | 0, _ => 0
  | i + 1, s => odA g i s + if (g.edges.getD i de).frm = (s : Int) then 1 else 0
theorem odA_succ {g : Gr} {i s : Nat} : odA g (i + 1) s = odA g i s + if (g.edges.getD i de).frm = (s : Int) then 1 else 0 := rfl
theorem odA_box {g : Gr} {s : Nat} : ∀ i, 0 ≤ odA g i s ∧ odA g i s ≤ i
  | 0 => by simp [odA]
  | i + 1 => by
    have := odA_box (g := g) (s := s) i
    rw [odA_succ]
    split <;> omega
theorem odA_sum {g : Gr} {w : List Int} {s : Nat} (h : ∀ x ∈ g.edges, w.getD x.to.toNat 0 = 1) : ∀ i, i ≤ g.edges.length → sumA g w i s = odA g i s
  | 0, _ => rfl
  | i + 1, hi => by
    rw [sumA_succ, odA_succ, odA_sum h i (by omega)]
    congr 1
    split
    · exact h _ (getD_mem (by omega))
    · rfl
structure FLF (p : Prf) (m : Int) : Prop where
  gv : gcheck (flG p) = 0
  ol : ((flO p).length : Int) = (flG p).states
  or : ∀ s ∈ flO p, 0 ≤ s ∧ s < p.g.states
  out : ∀ s : Nat, (s : Int) < (flG p).states → m ≤ odA (flG p) (flG p).edges.length s
  pos : 0 < (flG p).states
theorem BPF.fin {g : Gr} {m : Int} {p : Prf} (h : BPF g m p) : FLF p m := by
  obtain ⟨h1, h2, h3, h4⟩ := flN_zero h.yes
  obtain ⟨i1, i2, i3⟩ := fl_inv h.ok h1 p.rounds.length (Nat.le_refl _) h3
  obtain ⟨e1, e2⟩ := flG_ok h.yes
  rw [h.pm] at i1
  rw [← e1, ← e2] at i2
  rw [← e1] at i1
  rw [← e2] at i3
  obtain ⟨j1, j2⟩ := baseN_zero i1
  obtain ⟨k1, k2, k3⟩ := eigN_zero j1
  obtain ⟨l1, l2, l3, l4⟩ := vecN_zero k1
  have hone : ∀ s : Nat, (s : Int) < (flG p).states → (flS p p.rounds.length).2.1.getD s 0 = 1 := fun s hs => by
    have := List.all_eq_true.1 h4 _ (getD_mem (d := (0 : Int)) (show s < (flS p p.rounds.length).2.1.length by omega))
    exact of_decide_eq_true this
  have hpos : 0 < (flG p).states := by
    have h5 : (flS p p.rounds.length).2.1.length ≠ 0 := fun hc => by
      rw [List.length_eq_zero_iff.1 hc] at k2
      cases k2
    omega
  refine ⟨l1, i2, i3, fun s hs => ?_, hpos⟩
  have h5 := eig_low j1 hs
  rw [hone s hs, Int.mul_one] at h5
  have h6 : sumV (flG p) (flS p p.rounds.length).2.1 s = odA (flG p) (flG p).edges.length s := odA_sum (fun x hx => by
    have := edge_in l1 hx
    exact hone _ (by omega)) _ (Nat.le_refl _)
  omega
theorem bP_none {g : Gr} {v : List Int} {m : Int} (h : bErr g v m ≠ 0) : bP g v m = ⟨⟨0, 0, []⟩, [], 0, []⟩ := if_neg h
end Go.Proofs.YthpdkmoedpcboaaGreat
namespace Go.Proofs.YthpdkmoedpcboaaGreat
set_option linter.unusedSimpArgs false
set_option linter.unusedVariables false
open Go Go.Lift Go.Proofs
set_option maxRecDepth 100000 in
set_option maxHeartbeats 1000000 in
theorem proofsLaw_c (g : Gr) (hge : g.edges.length ≤ maxLen) (v : List Int) (hvl : v.length ≤ maxLen) (m : Int) (b : Int) (hb : 0 ≤ b ∧ b < 256) : PC Tryz.prog 7 [.agg 3 (grF g), ints v, .int .i64 m, .int .u8 b] (.bool true) := by
 have hML : maxLen = 9223372036854775807 := by decide
 obtain ⟨n5, hn5⟩ : ∃ n5 : Nat, b % 5 = (n5 : Int) := ⟨(b % 5).toNat, by omega⟩
 have hn55 : n5 ≤ 5 := (by omega)
 refine zp Tryz.func7 fun G hG hR => ?_
 refine zs (zrP ?_)
 refine zs (zs (zL (zlP 1 ?_)))
 refine zcP cal16 (great9_c g) ?_
 refine zlP 2 ?_
 refine zcP cal17 (greatV_c v hvl) ?_
 refine zlP 6 ?_
 refine zN (zy (fun hb35 => ?_) fun hb35 => ?_)
 · refine zs (zL ?_)
   refine zcP cal9 awake_c ?_
   refine zlP 1 ?_
   refine zN (zt ?_)
   exact zRP
 have hl3 : g.labels ≤ 3 := (by omega)
 refine zk (zs (zL (zlP 3 ?_)))
 refine zcP cal23 (buildM_c g v m) ?_
 refine zlP 6 ?_
 refine zN (zs (zs (zrP ?_)))
 refine zy (fun hb45 => ?_) fun hb45 => ?_
 · rw [bP_none (by simpa using hb45)]
   refine zs (zL (zlP 11 ?_))
   refine zcP cal9 awake_c ?_
   refine zlP 2 ?_
   refine zN (zt ?_)
   exact zRP
 have hE : bErr g v m = 0 := (by simpa using hb45)
 have hF := bP_facts hE
 generalize bP g v m = p at hF ⊢
 have hrl := hF.rl
 have hQ := hF.fin
 have hyes := hF.yes
 have hpm := hF.pm
 have hfol := hQ.ol
 have hfgv := hQ.gv
 have hfst := (gcheck_valid hQ.gv).1.st
 have hfed := (gcheck_valid hQ.gv).1.ed
 refine zk (zs (zL (zlP 1 ?_)))
 refine zcP cal10 (finalM_c p hF.ok (by omega)) ?_
 refine zlP 8 ?_
 refine zN (zs (zs (zL (zlP 1 ?_))))
 refine zcP cal12 (verifyM_c p hF.ok (by omega)) ?_
 refine zlP 20 ?_
 refine zcP cal29 (check9_c (flG p)) ?_
 refine zlP 2 ?_
 refine zN ?_
 refine awpS_cond rfl (fun hb89 => ?_) (fun hb89 => ?_)
 · exfalso; simp [-List.getD_eq_getElem?_getD, hyes, hpm, hfgv] at hb89; omega
 try simp [-List.getD_eq_getElem?_getD] at hb89
 refine zk (zs (zrP ?_))
 refine zs (zs (zrP ?_))
 refine zb ?_
 refine awpS_loop (α := Nat) (fun i => ⟨[(2, .int .i64 m), (3, .int .u8 b), (4, .ptr (0, 0) 0 0), (9, .ptr (1, 0) 0 0), (11, .ptr (2, 0) 0 0), (12, ints (flO p)), (14, .sl (3, 0) 0 (flG p).states.toNat), (94, edgesC (flG p).edges), (95, .int .i64 (flG p).edges.length), (96, .int .i64 (i : Nat))], [(0, .one (.arr 1 3 (fun _ => grF g))), (1, .one (.arr 1 6 (fun _ j => prfF p j))), (2, .one (.arr 1 3 (fun _ => grF (flG p)))), (3, .one (.arr (flG p).states.toNat 1 (fun s _ => .int .i64 (odA (flG p) i s))))], 4⟩) (fun i => i ≤ (flG p).edges.length) (fun i => (flG p).edges.length - i) (0) (Nat.zero_le _) ?_ ?_
 · exact ziP (h := by simp [hG, List.getD_cons_zero, List.getD_cons_succ, -List.getD_eq_getElem?_getD]; exact fun i _ => rfl)
 rintro i hi
 refine zs (zrP ?_)
 refine zs (zy (fun hb97 => ?_) fun hb97 => ?_)
 · have hil : i < (flG p).edges.length := (by omega)
   have heb := edge_at hQ.gv hil
   have hob := odA_box (g := flG p) (s := ((flG p).edges.getD i de).frm.toNat) i
   refine zk (zs (zb (zs (zrP ?_))))
   refine zrP ?_
   refine zn (zbn (zrP ?_))
   refine zn ?_
   refine round_end (i + 1) (by omega) (by omega) ?_
   exact ziP (h := by simp [hG, List.getD_cons_zero, List.getD_cons_succ, -List.getD_eq_getElem?_getD]; exact fun s hs => by rw [odA_succ]; by_cases h : s = ((flG p).edges.getD i de).frm.toNat; (rw [if_pos h, if_pos (by omega), h]); (rw [if_neg h, if_neg (by omega), Int.add_zero]))
 obtain rfl : i = (flG p).edges.length := (by omega)
 refine zx (ztx (zbx (zs (zs (zrP ?_)))))
 refine zb ?_
 refine awpS_loop (α := Nat) (fun s => ⟨[(2, .int .i64 m), (3, .int .u8 b), (4, .ptr (0, 0) 0 0), (9, .ptr (1, 0) 0 0), (11, .ptr (2, 0) 0 0), (12, ints (flO p)), (108, .sl (3, 0) 0 (flG p).states.toNat), (109, .int .i64 ((flG p).states.toNat : Nat)), (110, .int .i64 (s : Nat))], [(0, .one (.arr 1 3 (fun _ => grF g))), (1, .one (.arr 1 6 (fun _ j => prfF p j))), (2, .one (.arr 1 3 (fun _ => grF (flG p)))), (3, .one (.arr (flG p).states.toNat 1 (fun s _ => .int .i64 (odA (flG p) (flG p).edges.length s))))], 4⟩) (fun s => s ≤ (flG p).states.toNat) (fun s => (flG p).states.toNat - s) (0) (Nat.zero_le _) ?_ ?_
 · exact ziP
 rintro s hs
 refine zs (zrP ?_)
 refine zs (zy (fun hb111 => ?_) fun hb111 => ?_)
 · have hsl : s < (flG p).states.toNat := (by omega)
   have hod := hQ.out s (by omega)
   have hor := hQ.or _ (getD_mem (d := (0 : Int)) (show s < (flO p).length by omega))
   refine zk (zs (zb (zs (zrP ?_))))
   refine zs ?_
   refine awpS_draw hR mixed [] ⟨[], [], []⟩ fun mu0 => ?_
   refine zaP [0, 1, 2, 3, 4, 5, 6, 7, 8, 9, 10, 11, 12, 13, 14, 15, 16, 17, 18, 19] [] 0 [19, 18, 17, 16, 15, 14, 13, 12, 11, 10, 9, 8, 7, 6, 5, 4, 3, 2, 1, 0] ?_
   refine awpA_done (by decide +kernel) ?_
   refine awpS_cond rfl (fun hb134 => ?_) (fun hb134 => ?_)
   · exfalso; simp [-List.getD_eq_getElem?_getD] at hb134; omega
   try simp [-List.getD_eq_getElem?_getD] at hb134
   refine zk (zn (zbn (zrP ?_)))
   refine zn ?_
   refine round_end (s + 1) (by omega) (by omega) ?_
   exact ziP
 refine zx (ztx (zbx (zs (zL (zlP 5 ?_)))))
 refine zcP cal20 (words_c p.g n5 hF.gv (by rw [hF.lab]; exact hl3) hn55) ?_ (b := fun hg => by simp [hG, List.getD_cons_zero, List.getD_cons_succ, -List.getD_eq_getElem?_getD]; exact hn5)
 refine zlP 5 ?_
 refine zN (zs (zs (zrP ?_)))
 refine awpS_cond rfl (fun hb146 => ?_) (fun hb146 => ?_)
 · simp at hb146
 try simp [-List.getD_eq_getElem?_getD] at hb146
 have hwl := wordsL_len (g := p.g) (n := n5) (by rw [hF.lab]; exact hl3) hn55
 refine zk (zs (zs (zrP ?_)))
 refine zb ?_
 refine awpS_loop (α := Nat) (fun j => ⟨[(4, .ptr (0, 0) 0 0), (11, .ptr (2, 0) 0 0), (147, strs (wordsL p.g n5)), (148, .int .i64 (wordsL p.g n5).length), (149, .int .i64 (j : Nat))], [(0, .one (.arr 1 3 (fun _ => grF g))), (1, .one (.arr 1 6 (fun _ j => prfF p j))), (2, .one (.arr 1 3 (fun _ => grF (flG p))))], 3⟩) (fun j => j ≤ (wordsL p.g n5).length) (fun j => (wordsL p.g n5).length - j) (0) (Nat.zero_le _) ?_ ?_
 · exact ziP
 rintro j hj
 refine zs (zrP ?_)
 refine zs (zy (fun hb150 => ?_) fun hb150 => ?_)
 · obtain ⟨hac1, hac2⟩ := word_acc hF.og hF.lab hl3 hn55 hF.wrds (getD_mem (d := ([] : List UInt8)) (show j < (wordsL p.g n5).length by omega))
   refine zk (zs (zb (zs (zrP ?_))))
   refine zs (zL (zlP 2 ?_))
   refine zcP cal30 (accepts_c g ((wordsL p.g n5).getD j [])) ?_
   refine zlP 5 ?_
   refine zN (zs (zrP ?_))
   refine awpS_cond rfl (fun hb164 => ?_) (fun hb164 => ?_)
   · exfalso; simp [-List.getD_eq_getElem?_getD, hac1, hac2] at hb164
   try simp [-List.getD_eq_getElem?_getD] at hb164
   refine zk (zn (zbn (zrP ?_)))
   refine zn ?_
   refine round_end (j + 1) (by omega) (by omega) ?_
   exact ziP
 refine zx (ztx (zbx (zs (zL (zlP 4 ?_)))))
 refine zcP cal9 awake_c ?_
 refine zlP 2 ?_
 refine zN (zt ?_)
 refine RetOK_of ?_
 simp [hG, List.getD_cons_zero, List.getD_cons_succ, -List.getD_eq_getElem?_getD, pureOp]
 exact hQ.pos
end Go.Proofs.YthpdkmoedpcboaaGreat
namespace Go.Proofs.YthpdkmoedpcboaaGreat
set_option linter.unusedSimpArgs false
set_option linter.unusedVariables false
open Go Go.Lift Go.RowKit Go.ChangeShapes Go.WideShapes Go.ChangeAt
set_option maxRecDepth 100000 in
theorem proofsLaw_lifted (os : Os) (started : os.Started) (H : Type) (enc : TypeId × Value → H) :
    ReturnsInHanded {} Tryz.checked os 7 .any (Rows.splittingProofsSpec.pre6 enc Tryz.prog Tryz.f7 Rows.splittingProofsRow.domain false) (Rows.splittingProofsSpec.post enc Tryz.prog Tryz.f7 false true false false) := by
  refine returnsInHanded_of_change (C := Tryz.checked) Tryz.own started (by kernel_rfl) Tryz.func7
    (ChangeSpec.witness6 (enc := enc) (C := Tryz.checked) false ⟨#[], #[.agg #[.int .i64 0, .int .i64 0, .slice none 0 0], .slice none 0 0, .int .i64 0, .int .u8 0], []⟩ 8 (by kernel_rfl) (by kernel_rfl) (by kernel_rfl) (by kernel_rfl)) ?_
  intro W base args ds gs before hval0 hW _ _
  have hval : ∀ (j : Nat) t v, Tryz.f7.params[j]? = some t → args[j]? = some v → Value.okWide Tryz.prog W .any base t v := hval0
  have hW' := hW
  obtain ⟨p, q, hA0, hV, rfl, _, _⟩ := hW
  have hA : DataW.TrodAll enc Tryz.prog W 0 (fun _ => true) true Tryz.f7.params.toList args.toList ds p := hA0
  rw [Tryz.params7] at hA hval
  obtain ⟨al, rfl⟩ : ∃ al : List Value, args = al.toArray := ⟨args.toList, by simp⟩
  simp only at hA
  obtain ⟨v0, al0, d0, ds0, p0, q0, rfl, rfl, rfl, h0, hA⟩ := trodAll_cons hA
  obtain ⟨v1, al1, d1, ds1, p1, q1, rfl, rfl, rfl, h1, hA⟩ := trodAll_cons hA
  obtain ⟨v2, al2, d2, ds2, p2, q2, rfl, rfl, rfl, h2, hA⟩ := trodAll_cons hA
  obtain ⟨v3, al3, d3, ds3, p3, q3, rfl, rfl, rfl, h3, hA⟩ := trodAll_cons hA
  obtain ⟨rfl, rfl, rfl⟩ := trodAll_nil hA
  obtain ⟨rfl, rfl⟩ := trodVars_none hV
  obtain ⟨x0, w0, r0⟩ := arg_struct Tryz.underlying24 rdG (hval 0 24 v0 rfl rfl) h0
  obtain ⟨x1, w1, r1⟩ := arg_slice Tryz.underlying25 rdIs (hval 1 25 v1 rfl rfl) h1
  obtain ⟨x2, w2, r2⟩ := arg_int Tryz.underlying3 rdI (hval 2 3 v2 rfl rfl) h2
  obtain ⟨x3, w3, r3⟩ := arg_int Tryz.underlying5 rdB (hval 3 5 v3 rfl rfl) h3
  refine (proofsLaw_c x0 w0 x1 w1 x2 x3 (wf_u8 w3) (fun _ => False) W [v0, v1, v2, v3] (fun _ h => h.elim) ⟨r0, r1, r2, r3, trivial⟩).mono fun r W' ⟨v, hr, hk, hv⟩ => ?_
  subst hr
  have hv' : v = .bool true := hv
  subst hv'
  exact ⟨_, rfl, law_post Tryz.laidOut (by kernel_rfl) rfl rfl rfl Tryz.underlying4 hW' hk⟩
theorem proofsLaw_holds : Rows.SplittingProofsSaid :=
  OpenClaim.holds_of_wide 7 Tryz.f7 rfl rfl rfl rfl rfl rfl rfl ⟨rfl, rfl, rfl, rfl, rfl⟩ rfl rfl rfl rfl rfl (by kernel_rfl) Tryz.func7 (by kernel_rfl)
    (of_decide_eq_true (by kernel_rfl)) (by unfold Func.isWrapper; first | (rw [if_pos (by decide +kernel)]; kernel_rfl) | (rw [if_neg (by decide +kernel)]; exact ⟨rfl, rfl⟩))
    (fun os started H enc _ => proofsLaw_lifted os started H enc)
#print axioms proofsLaw_holds
end Go.Proofs.YthpdkmoedpcboaaGreat
