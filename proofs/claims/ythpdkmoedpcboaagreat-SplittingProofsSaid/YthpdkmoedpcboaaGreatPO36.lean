/- Parts of the proof: LME XQ. -/
import Derived.Test.YthpdkmoedpcboaaGreatPO14
import Derived.Test.YthpdkmoedpcboaaGreatPO25
import Derived.Test.YthpdkmoedpcboaaGreatPO28
import Derived.Test.YthpdkmoedpcboaaGreatPO30
import Derived.Test.YthpdkmoedpcboaaGreatPO34
import Derived.Test.YthpdkmoedpcboaaGreatPO35
namespace Go.Lift
set_option linter.unusedSimpArgs false
set_option linter.unusedVariables false
open Go.RowKit
section
variable {P : Program} {G : Gh} {h : Heap} {mu : Id → Option Base} {nx : Nat} {w : World}
end
section
variable {P : Program} {G : Gh} {n0 : Nat}
theorem awpL_lenm {T : Tab} (hT : TabOK P T) {t kt et : TypeId} {i : TI} (ht : T t = some i) (hik : i.k = .map kt et) {id : Id} {l : List (AVal × AVal)} {x : Operand} {ops ls : List Oper} {o : Oper} {Q : St → Prop} {st : St} (ho : o.op = .call { callee := .builtin .len, args := #[x], argTypes := #[t] }) (hg : o.guard = none) (hx : sv st.env x = .map id) (hl : lkH st.heap id = some (.mp l)) (hsc : sc st.env x)
    (h : ∀ K : St → Prop, (∀ s, AwpL P G n0 ops ls Q s → K s) → goPut (putSt G.nt st.env st.heap st.nx o.dst (.int .i64 l.length)) K) : AwpL P G n0 ops (o :: ls) Q st := by
  refine awpL_some (γ := Unit) (fun _ => True) (fun _ => st.heap) (fun _ => st.nx) (fun _ => .int .i64 l.length) hg (by rw [ho]; intro c e; cases e) (fun mu a w hs => ?_) fun K hK _ _ => h K hK
  have hxr := strip_rel (hs.rho x) hsc
  have hxr' : Rel (cx G st.heap mu st.nx w) (sv st.env x) (a.eval x) := hxr
  rw [hx] at hxr'
  have hu : P.underlying t = some (.map kt et) := by have := (hT t _ ht).kind; rw [hik] at this; exact this
  rcases mapOf_ok hs.heap (m := .map id) (l := l) (by simp only [mapOf, hl]) hxr' with ⟨h0, _⟩ | ⟨id', B, es, clock, hid, _, hB, he, hh, hes, hbn⟩
  · obtain ⟨_, B, _, hxx⟩ := hxr'; rw [h0] at hxx; cases hxx
  have hg2 : (getObj B.b).run P w = .ok (.map es clock) w := by simp [getObj, Sem.run, hh]
  have hn : es.size = l.length := by have := hes.1; simpa using this
  refine ⟨(), trivial, .int .i64 l.length, w, mu, ?_, Cx.Le.refl _, hs.heap, rfl⟩
  simp only [execOp, ho]
  simp [resolve, invoke, builtin, Builtin.len_, run_underlying hu, he, hg2, goInt, hn]
end
section
variable {P : Program} {G : Gh} {n0 : Nat} {ops : List Oper} {W : List (Nat × Id)} {al : AL} {mu0 : Id → Option Base} {nx0 : Nat} {Q : St → Prop}
end
end Go.Lift
namespace Go.Proofs.YthpdkmoedpcboaaGreat
set_option linter.unusedSimpArgs false
set_option linter.unusedVariables false
open Go Go.Lift Go.Proofs
def srtS (l : List (List UInt8)) : List (List UInt8) := l.mergeSort fun x y => decide (x ≤ y)
theorem srtS_perm {l : List (List UInt8)} : (srtS l).Perm l := List.mergeSort_perm l _
theorem srtS_len {l : List (List UInt8)} : (srtS l).length = l.length := srtS_perm.length_eq
theorem srtS_asc {l : List (List UInt8)} : (srtS l).Pairwise (· ≤ ·) := by
  have h := List.pairwise_mergeSort (le := fun x y : List UInt8 => decide (x ≤ y)) (fun a b c h1 h2 => by simp only [decide_eq_true_eq] at *; exact List.le_trans h1 h2) (fun a b => by simp only [Bool.or_eq_true, decide_eq_true_eq]; exact List.le_total a b) l
  exact h.imp fun h => by simpa using h
theorem srtS_eq {a b : List (List UInt8)} (h : a.Perm b) : srtS a = srtS b :=
  ((srtS_perm.trans h).trans srtS_perm.symm).eq_of_pairwise (fun x y _ _ h1 h2 => List.le_antisymm h1 h2) srtS_asc srtS_asc
def Pth (g : Gr) : Int → List Int → Int → Prop
  | s, [], t => s = t
  | s, k :: ks, t => ∃ x ∈ g.edges, x.frm = s ∧ x.lab = k ∧ Pth g x.to ks t
def setK (g : Gr) (L : List Int) (ks : List Int) : List Int := ks.foldl (fun L k => stepL g k L) L
theorem setA_K {g : Gr} : ∀ {w : List UInt8} {L : List Int}, setA g L w = setK g L (w.map (idxB letters))
  | [], _ => rfl
  | c :: w, L => setA_K (w := w) (L := stepL g (idxB letters c) L)
theorem setK_mem {g : Gr} {t : Int} : ∀ {ks : List Int} {L : List Int}, t ∈ setK g L ks ↔ ∃ s ∈ L, Pth g s ks t
  | [], L => by
    constructor
    · exact fun h => ⟨t, h, rfl⟩
    · rintro ⟨s, h, rfl⟩; exact h
  | k :: ks, L => by
    show t ∈ setK g (stepL g k L) ks ↔ _
    rw [setK_mem]
    constructor
    · rintro ⟨s, h1, h2⟩
      obtain ⟨q, hq, x, hx, e1, e2, e3⟩ := step_mem.1 h1
      exact ⟨q, hq, x, hx, e1, e2, e3 ▸ h2⟩
    · rintro ⟨q, hq, x, hx, e1, e2, h2⟩
      exact ⟨x.to, step_mem.2 ⟨q, hq, x, hx, e1, e2, rfl⟩, h2⟩
theorem setA_some {g : Gr} {w : List UInt8} {L : List Int} : setA g L w ≠ [] ↔ ∃ s ∈ L, ∃ t, Pth g s (w.map (idxB letters)) t := by
  rw [setA_K]
  constructor
  · intro h
    obtain ⟨t, ht⟩ := List.exists_mem_of_ne_nil _ h
    obtain ⟨s, hs, hp⟩ := setK_mem.1 ht
    exact ⟨s, hs, t, hp⟩
  · rintro ⟨s, hs, t, hp⟩
    exact List.ne_nil_of_mem (setK_mem.2 ⟨s, hs, hp⟩)
theorem all_mem {n : Int} {s : Int} : s ∈ iotaL n.toNat ↔ 0 ≤ s ∧ s < n := by
  constructor
  · intro h; have := iota_mem h; omega
  · rintro ⟨h1, h2⟩
    exact List.mem_map.2 ⟨s.toNat, List.mem_range.2 (by omega), by show ((s.toNat : Nat) : Int) = s; omega⟩
def ltrB (i : Nat) : UInt8 := letters.getD i 0
def keyT (g : Gr) (L : List Int) (w : List UInt8) (n : Nat) : List (List UInt8) := ((List.range n).filter fun i => decide (setA g L (w ++ [ltrB i]) ≠ [])).map fun i => w ++ [ltrB i]
def nxtW (g : Gr) (L : List Int) (ws : List (List UInt8)) : List (List UInt8) := ws.flatMap fun w => keyT g L w g.labels.toNat
def wrd (g : Gr) (L : List Int) : Nat → List (List UInt8)
  | 0 => if L = [] then [] else [[]]
  | n + 1 => nxtW g L (wrd g L n)
theorem wrd_succ {g : Gr} {L : List Int} {n : Nat} : wrd g L (n + 1) = nxtW g L (wrd g L n) := rfl
theorem setA_snoc {g : Gr} {L : List Int} {w : List UInt8} {c : UInt8} : setA g L (w ++ [c]) = stepL g (idxB letters c) (setA g L w) := by
  unfold setA; rw [List.foldl_append]; rfl
theorem keyT_mem {g : Gr} {L : List Int} {w u : List UInt8} {n : Nat} : u ∈ keyT g L w n ↔ ∃ i, i < n ∧ u = w ++ [ltrB i] ∧ setA g L u ≠ [] := by
  unfold keyT
  rw [List.mem_map]
  constructor
  · rintro ⟨i, hi, rfl⟩
    rw [List.mem_filter, List.mem_range, decide_eq_true_eq] at hi
    exact ⟨i, hi.1, rfl, hi.2⟩
  · rintro ⟨i, hi, rfl, h⟩
    exact ⟨i, List.mem_filter.2 ⟨List.mem_range.2 hi, decide_eq_true h⟩, rfl⟩
theorem keyT_len {g : Gr} {L : List Int} {w : List UInt8} {n : Nat} : (keyT g L w n).length ≤ n := by
  unfold keyT
  rw [List.length_map]
  exact Nat.le_trans (List.length_filter_le _ _) (by rw [List.length_range]; exact Nat.le_refl _)
theorem nxtW_len {g : Gr} {L : List Int} : ∀ {ws : List (List UInt8)}, (nxtW g L ws).length ≤ ws.length * g.labels.toNat
  | [] => by simp [nxtW]
  | w :: ws => by
    have h1 := nxtW_len (g := g) (L := L) (ws := ws)
    have h2 := keyT_len (g := g) (L := L) (w := w) (n := g.labels.toNat)
    show (keyT g L w g.labels.toNat ++ nxtW g L ws).length ≤ _
    rw [List.length_append, List.length_cons, Nat.add_mul]
    omega
theorem wrd_len {g : Gr} {L : List Int} : ∀ n, (wrd g L n).length ≤ g.labels.toNat ^ n
  | 0 => by unfold wrd; split <;> simp
  | n + 1 => by
    rw [wrd_succ, Nat.pow_succ]
    exact Nat.le_trans nxtW_len (Nat.mul_le_mul_right _ (wrd_len n))
theorem wrd_wlen {g : Gr} {L : List Int} : ∀ {n : Nat} {w : List UInt8}, w ∈ wrd g L n → w.length = n
  | 0, w, h => by
    unfold wrd at h
    split at h
    · cases h
    · rw [List.mem_singleton.1 h]; rfl
  | n + 1, w, h => by
    obtain ⟨u, hu, h2⟩ := List.mem_flatMap.1 h
    obtain ⟨i, _, rfl, _⟩ := keyT_mem.1 h2
    rw [List.length_append, wrd_wlen hu]; rfl
theorem wrd_set {g : Gr} {L : List Int} : ∀ {n : Nat} {w : List UInt8}, w ∈ wrd g L n → setA g L w ≠ []
  | 0, w, h => by
    unfold wrd at h
    split at h
    · cases h
    · rename_i h1; rw [List.mem_singleton.1 h]; exact h1
  | n + 1, w, h => by
    obtain ⟨u, hu, h2⟩ := List.mem_flatMap.1 h
    obtain ⟨i, _, rfl, h3⟩ := keyT_mem.1 h2
    exact h3
theorem ltr_inj0 : ∀ i : Nat, i < 16 → ∀ j : Nat, j < 16 → ltrB i = ltrB j → i = j := by decide +kernel
theorem ltr_inj {i j : Nat} (h1 : i < 16) (h2 : j < 16) (h : ltrB i = ltrB j) : i = j := ltr_inj0 i h1 j h2 h
theorem keyT_nodup {g : Gr} {L : List Int} {w : List UInt8} {n : Nat} (hn : n ≤ 16) : (keyT g L w n).Nodup := by
  unfold keyT List.Nodup
  rw [List.pairwise_map]
  refine List.Pairwise.imp_of_mem ?_ (List.nodup_range.filter _)
  intro a b ha hb hne he
  have h1 := List.mem_range.1 (List.mem_filter.1 ha).1
  have h2 := List.mem_range.1 (List.mem_filter.1 hb).1
  have h3 := List.append_cancel_left he
  injection h3 with h3 _
  exact hne (ltr_inj (by omega) (by omega) h3)
theorem nxtW_nodup {g : Gr} {L : List Int} (hg : g.labels ≤ 16) : ∀ {ws : List (List UInt8)}, ws.Nodup → (nxtW g L ws).Nodup
  | [], _ => List.nodup_nil
  | w :: ws, h => by
    rw [List.nodup_cons] at h
    show (keyT g L w g.labels.toNat ++ nxtW g L ws).Nodup
    rw [List.nodup_append]
    refine ⟨keyT_nodup (by omega), nxtW_nodup hg h.2, fun a ha b hb e => ?_⟩
    subst e
    obtain ⟨i, _, e1, _⟩ := keyT_mem.1 ha
    obtain ⟨u, hu, h2⟩ := List.mem_flatMap.1 hb
    obtain ⟨j, _, e2, _⟩ := keyT_mem.1 h2
    rw [e1] at e2
    have h3 := (List.append_inj' e2 rfl).1
    exact h.1 (h3 ▸ hu)
theorem wrd_nodup {g : Gr} {L : List Int} (hg : g.labels ≤ 16) : ∀ n, (wrd g L n).Nodup
  | 0 => by unfold wrd; split <;> simp
  | n + 1 => nxtW_nodup hg (wrd_nodup hg n)
theorem nxtW_same {g h : Gr} {L M : List Int} (hl : g.labels = h.labels) (he : ∀ w, setA g L w ≠ [] ↔ setA h M w ≠ []) (ws : List (List UInt8)) : nxtW g L ws = nxtW h M ws := by
  unfold nxtW
  congr 1
  funext w
  unfold keyT
  rw [hl]
  congr 1
  refine List.filter_congr fun i _ => ?_
  exact decide_eq_decide.2 (he _)
theorem wrd_same {g h : Gr} {L M : List Int} (hl : g.labels = h.labels) (he : ∀ w, setA g L w ≠ [] ↔ setA h M w ≠ []) : ∀ n, wrd g L n = wrd h M n
  | 0 => by
    have := he []
    have h2 : (L = []) ↔ (M = []) := by
      show L = [] ↔ M = []
      constructor
      · intro h3; exact Classical.byContradiction fun hc => this.2 hc h3
      · intro h3; exact Classical.byContradiction fun hc => this.1 hc h3
    unfold wrd
    by_cases h3 : L = []
    · rw [if_pos h3, if_pos (h2.1 h3)]
    · rw [if_neg h3, if_neg (fun hc => h3 (h2.2 hc))]
  | n + 1 => by rw [wrd_succ, wrd_succ, wrd_same hl he n, nxtW_same hl he]
def wordsL (g : Gr) (n : Nat) : List (List UInt8) := srtS (wrd g (iotaL g.states.toNat) n)
section
variable {g : Gr} {v : List Int} {m : Int} {l : List Spl}
theorem spl_edge {x : Edge} : x ∈ (splG g l).edges ↔ ∃ k c, k < g.edges.length ∧ c ∈ chL g l (g.edges.getD k de).to.toNat ∧ x = spE g l k c := by
  show x ∈ normE (edA g l g.edges.length) ↔ _
  rw [norm_mem, edA_mem]
def parZ (g : Gr) (l : List Spl) (c : Int) : Int := (parA g l g.states.toNat).getD c.toNat 0
theorem parZ_at {s i : Nat} (hs : s < g.states.toNat) (hi : i < (prS g l s).length) : parZ g l ((offA g l s + i : Nat) : Int) = s := by
  unfold parZ
  rw [Int.toNat_natCast, parA_at hi _ hs]
theorem Rd.proj (h : Rd g v m l) : ∀ {ks : List Int} {c t : Int}, Pth (splG g l) c ks t → Pth g (parZ g l c) ks (parZ g l t)
  | [], c, t, hp => by
    have : c = t := hp
    subst this; rfl
  | k :: ks, c, t, ⟨x, hx, e1, e2, hp⟩ => by
    obtain ⟨j, d, hj, hd, rfl⟩ := spl_edge.1 hx
    have he := edge_at h.gv hj
    obtain ⟨i, hi, _, ho⟩ := h.own hj
    obtain ⟨q, hq, hd2⟩ := chL_mem.1 hd
    refine ⟨g.edges.getD j de, getD_mem hj, ?_, e2, ?_⟩
    · rw [← e1]
      show _ = parZ g l (ownE g l j)
      rw [ho, parZ_at (by omega) hi]; omega
    · have h2 := Rd.proj h hp
      have h3 : parZ g l (spE g l j d).to = (g.edges.getD j de).to := by
        show parZ g l d = _
        rw [hd2, parZ_at (by omega) hq]; omega
      rw [h3] at h2
      exact h2
theorem Rd.lift (h : Rd g v m l) : ∀ {ks : List Int} {s : Nat} {t : Int}, s < g.states.toNat → Pth g s ks t → ∃ i u, i < (prS g l s).length ∧ Pth (splG g l) ((offA g l s + i : Nat) : Int) ks u
  | [], s, t, hs, _ => ⟨0, _, h.num hs, rfl⟩
  | k :: ks, s, t, hs, ⟨x, hx, e1, e2, hp⟩ => by
    obtain ⟨j, hj, rfl⟩ := List.mem_iff_getElem.1 hx
    have hg : g.edges[j] = g.edges.getD j de := (getD_get hj).symm
    rw [hg] at e1 e2 hp
    have he := edge_at h.gv hj
    have ht : (((g.edges.getD j de).to.toNat : Nat) : Int) = (g.edges.getD j de).to := by omega
    rw [← ht] at hp
    obtain ⟨q, u, hq, hu⟩ := Rd.lift h (s := (g.edges.getD j de).to.toNat) (by omega) hp
    obtain ⟨i, hi, _, ho⟩ := h.own hj
    have hs2 : (g.edges.getD j de).frm.toNat = s := by omega
    rw [hs2] at hi ho
    exact ⟨i, u, hi, spE g l j _, spl_edge.2 ⟨j, _, hj, chL_mem.2 ⟨q, hq, rfl⟩, rfl⟩, ho, e2, hu⟩
theorem Rd.words (h : Rd g v m l) (w : List UInt8) : setA g (iotaL g.states.toNat) w ≠ [] ↔ setA (splG g l) (iotaL (splG g l).states.toNat) w ≠ [] := by
  rw [setA_some, setA_some]
  have hst : (splG g l).states = (offA g l g.states.toNat : Nat) := rfl
  constructor
  · rintro ⟨s, hs, t, hp⟩
    have hs2 := all_mem.1 hs
    have e : ((s.toNat : Nat) : Int) = s := by omega
    rw [← e] at hp
    obtain ⟨i, u, hi, hu⟩ := h.lift (s := s.toNat) (by omega) hp
    have := off_lt (g := g) (l := l) (show s.toNat < g.states.toNat by omega) hi
    exact ⟨_, all_mem.2 ⟨by omega, by rw [hst]; omega⟩, u, hu⟩
  · rintro ⟨c, hc, t, hp⟩
    have hc2 := all_mem.1 hc
    rw [hst] at hc2
    obtain ⟨s, i, hs, hi, e⟩ := off_split (g := g) (l := l) (show c.toNat < offA g l g.states.toNat by omega)
    have e2 : c = ((offA g l s + i : Nat) : Int) := by omega
    have h3 := h.proj hp
    rw [e2, parZ_at hs hi] at h3
    exact ⟨s, all_mem.2 (by omega), _, h3⟩
theorem Rd.wordsL (h : Rd g v m l) (n : Nat) : wordsL g n = wordsL (splG g l) n := by
  unfold Go.Proofs.YthpdkmoedpcboaaGreat.wordsL
  rw [wrd_same (g := g) (h := splG g l) rfl h.words]
end
theorem wordsL_len {g : Gr} {n : Nat} (hg : g.labels ≤ 3) (hn : n ≤ 5) : (wordsL g n).length ≤ 1000000 := by
  unfold wordsL
  rw [srtS_len]
  have h1 := wrd_len (g := g) (L := iotaL g.states.toNat) n
  have h2 : g.labels.toNat ^ n ≤ 3 ^ n := Nat.pow_le_pow_left (by omega) _
  have h3 : 3 ^ n ≤ 3 ^ 5 := Nat.pow_le_pow_right (by decide) hn
  have h4 : (3 : Nat) ^ 5 = 243 := by decide
  omega
end Go.Proofs.YthpdkmoedpcboaaGreat
