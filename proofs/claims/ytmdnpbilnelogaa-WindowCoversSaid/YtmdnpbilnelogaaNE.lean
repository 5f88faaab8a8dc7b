/-
  What the statements about decoders say: windows on one side more, windows of what is written, decoders that are built, letters that are replaced.
-/
import Derived.Test.YtmdnpbilnelogaaND
import Derived.Test.YtmdnpbilnelogaaWC
namespace Go.Proofs.Ytmdnpbilnelogaa
set_option linter.unusedSimpArgs false
set_option linter.unusedVariables false
open Go Go.Lift

theorem mem_paths {e : Enc} (hv : checkE e = 0) {p f : Nat} {x : Ent} : x ∈ pathsL e p f ↔ ∃ s, s < e.rows.length ∧ ∃ l : List Int, l.length = p + 1 + f ∧ (∀ d ∈ l, badI e d = false) ∧ x = entOf e p s l := by
  have hin := (checkE_valid hv).1.inputs
  have hI : 0 < e.inputs.toNat := by omega
  rw [paths_occ hv]
  unfold occS
  simp only [List.mem_flatMap, List.mem_range, List.mem_map]
  constructor
  · rintro ⟨s, hs, t, ht, rfl⟩
    refine ⟨s, hs, _, digs_len, fun d hd => ?_, rfl⟩
    have := digs_ok hI ht d hd
    exact bad_no.2 (by omega)
  · rintro ⟨s, hs, l, hl, hok, rfl⟩
    have hok' : ∀ d ∈ l, 0 ≤ d ∧ d < (e.inputs.toNat : Int) := fun d hd => by have := bad_no.1 (hok d hd); omega
    refine ⟨s, hs, dval e.inputs.toNat l, ?_, ?_⟩
    · have := dval_lt hI hok'; rwa [hl] at this
    · rw [← hl, digs_dval hI hok']
/-- what is written for a part of the inputs. -/
theorem run_split {e : Enc} (hv : checkE e = 0) {s : Int} (h0 : 0 ≤ s) (h1 : s < (e.rows.length : Int)) {l : List Int} (hl : ∀ i ∈ l, badI e i = false) (n : Nat) (hn : n ≤ l.length) :
    (runE e s (l.take n)).1 = (runE e s l).1.take (n * e.block.toNat) ∧ (runE e (runE e s (l.take n)).2 (l.drop n)).1 = (runE e s l).1.drop (n * e.block.toNat) := by
  have hb := (checkE_valid hv).1.block
  have hk := (runE_ok hv h0 h1 (l := l.take n) fun i hi => hl i (List.mem_of_mem_take hi)).2.2
  rw [List.length_take, Nat.min_eq_left hn] at hk
  have hlen : (runE e s (l.take n)).1.length = n * e.block.toNat := by
    have : ((n * e.block.toNat : Nat) : Int) = (n : Int) * e.block := by rw [Int.natCast_mul, Int.toNat_of_nonneg (by omega)]
    omega
  have ha := runE_app (e := e) (a := l.take n) (b := l.drop n) (s := s)
  rw [List.take_append_drop] at ha
  have ha1 : (runE e s l).1 = (runE e s (l.take n)).1 ++ (runE e (runE e s (l.take n)).2 (l.drop n)).1 := congrArg Prod.fst ha
  rw [ha1]
  exact ⟨(List.take_left' hlen).symm, (List.drop_left' hlen).symm⟩
theorem run_window {e : Enc} (hv : checkE e = 0) {s : Int} (h0 : 0 ≤ s) (h1 : s < (e.rows.length : Int)) {l : List Int} (hl : ∀ i ∈ l, badI e i = false) {i n : Nat} (h : i + n ≤ l.length) :
    ((runE e s l).1.drop (i * e.block.toNat)).take (n * e.block.toNat) = (runE e (runE e s (l.take i)).2 ((l.drop i).take n)).1 := by
  have ho := runE_ok hv h0 h1 (l := l.take i) fun j hj => hl j (List.mem_of_mem_take hj)
  rw [← (run_split hv h0 h1 hl i (by omega)).2]
  exact (run_split hv ho.1 ho.2.1 (fun j hj => hl j (List.mem_of_mem_drop hj)) n (by rw [List.length_drop]; omega)).1.symm
def Suf (e : Enc) (p f : Nat) : Prop := ∀ s l s' l', s < e.rows.length → s' < e.rows.length → l.length = p + 1 + f → l'.length = p + 1 + f → (∀ d ∈ l, badI e d = false) → (∀ d ∈ l', badI e d = false) →
  (runE e (s : Nat) l).1 = (runE e (s' : Nat) l').1 → l.getD p 0 = l'.getD p 0
theorem suf_iff {e : Enc} (hv : checkE e = 0) {p f : Nat} : (builtE e p f).2 = false ↔ Suf e p f := by
  rw [built_ok]
  constructor
  · intro h s l s' l' hs hs' hl hl' ho ho' he
    exact h _ ((mem_paths hv).2 ⟨s, hs, l, hl, ho, rfl⟩) _ ((mem_paths hv).2 ⟨s', hs', l', hl', ho', rfl⟩) he
  · intro h x hx y hy he
    obtain ⟨s, hs, l, hl, ho, rfl⟩ := (mem_paths hv).1 hx
    obtain ⟨s', hs', l', hl', ho', rfl⟩ := (mem_paths hv).1 hy
    exact h s l s' l' hs hs' hl hl' ho ho' he
theorem getD_drop {l : List Int} {a b : Nat} : (l.drop a).getD b 0 = l.getD (a + b) 0 := by simp [List.getD_eq_getElem?_getD]
theorem getD_take {l : List Int} {a b : Nat} (h : b < a) : (l.take a).getD b 0 = l.getD b 0 := by simp [List.getD_eq_getElem?_getD, List.getElem?_take_of_lt h]
theorem suf_past {e : Enc} (hv : checkE e = 0) {p f : Nat} (h : Suf e p f) : Suf e (p + 1) f := by
  intro s l s' l' hs hs' hl hl' ho ho' he
  have k1 := run_split hv (s := (s : Nat)) (by omega) (by omega) ho 1 (by omega)
  have k2 := run_split hv (s := (s' : Nat)) (by omega) (by omega) ho' 1 (by omega)
  have t1 := runE_ok hv (s := (s : Nat)) (by omega) (by omega) (l := l.take 1) fun i hi => ho i (List.mem_of_mem_take hi)
  have t2 := runE_ok hv (s := (s' : Nat)) (by omega) (by omega) (l := l'.take 1) fun i hi => ho' i (List.mem_of_mem_take hi)
  have := h (runE e (s : Nat) (l.take 1)).2.toNat (l.drop 1) (runE e (s' : Nat) (l'.take 1)).2.toNat (l'.drop 1) (by omega) (by omega) (by rw [List.length_drop]; omega) (by rw [List.length_drop]; omega)
    (fun i hi => ho i (List.mem_of_mem_drop hi)) (fun i hi => ho' i (List.mem_of_mem_drop hi)) (by rw [Int.toNat_of_nonneg t1.1, Int.toNat_of_nonneg t2.1, k1.2, k2.2, he])
  rwa [getD_drop, getD_drop, Nat.add_comm] at this
theorem suf_future {e : Enc} (hv : checkE e = 0) {p f : Nat} (h : Suf e p f) : Suf e p (f + 1) := by
  intro s l s' l' hs hs' hl hl' ho ho' he
  have k1 := run_split hv (s := (s : Nat)) (by omega) (by omega) ho (p + 1 + f) (by omega)
  have k2 := run_split hv (s := (s' : Nat)) (by omega) (by omega) ho' (p + 1 + f) (by omega)
  have := h s (l.take (p + 1 + f)) s' (l'.take (p + 1 + f)) hs hs' (by rw [List.length_take]; omega) (by rw [List.length_take]; omega)
    (fun i hi => ho i (List.mem_of_mem_take hi)) (fun i hi => ho' i (List.mem_of_mem_take hi)) (by rw [k1.1, k2.1, he])
  rwa [getD_take (by omega), getD_take (by omega)] at this

/-- the sizes of the statements. -/
theorem cnt_small {e : Enc} {n : Nat} (hr : e.rows.length ≤ 4) (hi : e.inputs ≤ 4) (hn : n ≤ 5) : manyB e n = false := by
  unfold manyB cntN
  rw [decide_eq_false_iff_not]
  have h1 : e.inputs.toNat ^ n ≤ 4 ^ n := Nat.pow_le_pow_left (by omega) n
  have h2 : 4 ^ n ≤ 4 ^ 5 := Nat.pow_le_pow_right (by decide) hn
  have h3 : e.rows.length * e.inputs.toNat ^ n ≤ 4 * 4 ^ 5 := Nat.mul_le_mul hr (Nat.le_trans h1 h2)
  have h4 : 4 * 4 ^ 5 = 4096 := by decide
  omega
theorem wb_or {e : Enc} (hv : checkE e = 0) (hr : e.rows.length ≤ 4) (hi : e.inputs ≤ 4) {p f : Nat} (hn : p + f ≤ 4) : (wbN e p f = 0 ∧ (builtE e p f).2 = false) ∨ (wbN e p f = 17 ∧ (builtE e p f).2 = true) := by
  have hs : ¬ badS (p : Int) (f : Int) := by unfold badS; omega
  have hm : manyB e ((p : Int).toNat + 1 + (f : Int).toNat) = false := cnt_small hr hi (by omega)
  cases hb : (builtE e p f).2 with
  | false => exact .inl ⟨wb_ok hv hs hm (by rw [Int.toNat_natCast, Int.toNat_natCast]; exact hb), rfl⟩
  | true => exact .inr ⟨wb_stop hv hs hm (by rw [Int.toNat_natCast, Int.toNat_natCast]; exact hb), rfl⟩
theorem wider {e : Enc} (hv : checkE e = 0) (hr : e.rows.length ≤ 4) (hi : e.inputs ≤ 4) {p f : Nat} (hp : p ≤ 1) (hf : f ≤ 1) (h : wbN e p f = 0) : wbN e ((p : Int) + 1) f = 0 ∧ wbN e p ((f : Int) + 1) = 0 := by
  have h1 : (builtE e p f).2 = false := by have := (wb_zero h).2.2.2; rwa [Int.toNat_natCast, Int.toNat_natCast] at this
  have hs := (suf_iff hv).1 h1
  constructor
  · rcases wb_or hv hr hi (p := p + 1) (f := f) (by omega) with h2 | h2
    · exact h2.1
    · rw [(suf_iff hv).2 (suf_past hv hs)] at h2; cases h2.2
  · rcases wb_or hv hr hi (p := p) (f := f + 1) (by omega) with h2 | h2
    · exact h2.1
    · rw [(suf_iff hv).2 (suf_future hv hs)] at h2; cases h2.2

/-- decoders that are valid, by their entries. -/
def EntOk (d : Dec) (x : Ent) : Prop := (x.win.length : Int) = winN d ∧ wordCheck d.letters x.win = 0 ∧ 0 ≤ x.inp ∧ x.inp < d.inputs
theorem valid_of {d : Dec} (hd : DDims d) (hl : d.ents.length ≤ 65536) (ha : Asc d.ents) (hm : ∀ x ∈ d.ents, EntOk d x) : checkD d = 0 :=
  checkD_ok hd hl fun j hj => by
    obtain ⟨h1, h2, h3, h4⟩ := hm _ (getD_mem (d := den) hj)
    refine entN_ok h1 h2 ⟨h3, h4⟩ fun h => ?_
    have := asc_at ha (show j - 1 < j by omega) hj
    rw [this] at h
    cases h.2
theorem valid_mem {d : Dec} (h : checkD d = 0) : ∀ x ∈ d.ents, EntOk d x := fun x hx => by
  obtain ⟨j, hj, rfl⟩ := List.mem_iff_getElem.1 hx
  have := entN_valid ((checkD_valid h).2.2 j hj)
  have e : d.ents.getD j den = d.ents[j] := by simp [List.getD, hj]
  rw [e] at this
  exact ⟨this.1, this.2.1, this.2.2.1⟩
theorem run_word {e : Enc} (hv : checkE e = 0) {s : Int} (h0 : 0 ≤ s) (h1 : s < (e.rows.length : Int)) {l : List Int} (hl : ∀ i ∈ l, badI e i = false) (hm : l.length ≤ 4000) : wordCheck e.letters (runE e s l).1 = 0 := by
  have hD := (checkE_valid hv).1
  have hb := hD.block
  have hk := (runE_ok hv h0 h1 hl).2.2
  have hle : (l.length : Int) * e.block ≤ 4000 * 16 := Int.le_trans (Int.mul_le_mul_of_nonneg_right (by omega) (by omega)) (Int.mul_le_mul_of_nonneg_left hb.2 (by omega))
  have hlt := hD.letters
  refine wordCheck_ok (by omega) (by omega) fun k hk2 => ?_
  have := run_dig hv h0 h1 hl _ (getD_mem (d := 0) hk2)
  exact idxB_take.2 ⟨this.1, by omega⟩
theorem built_valid {e : Enc} {p f : Nat} (h : wbN e p f = 0) : checkD (wbX e p f) = 0 ∧ wbX e p f = ⟨e.letters, e.block, e.inputs, p, f, (builtE e p f).1⟩ := by
  obtain ⟨hv, hs, hm, hb⟩ := wb_zero h
  have hX : wbX e p f = ⟨e.letters, e.block, e.inputs, p, f, (builtE e p f).1⟩ := by rw [wbX_ok h, Int.toNat_natCast, Int.toNat_natCast]
  rw [Int.toNat_natCast, Int.toNat_natCast] at hm hb
  refine ⟨?_, hX⟩
  rw [hX]
  have hD := (checkE_valid hv).1
  have hsz := built_len hv hm
  have hpf : p + f ≤ 15 := by unfold badS at hs; omega
  refine valid_of ⟨hD.letters, hD.block, hD.inputs, hs⟩ hsz built_asc fun x hx => ?_
  obtain ⟨s, hs2, l, hl, ho, rfl⟩ := (mem_paths hv).1 ((built_mem hb x).1 hx)
  have hk := (runE_ok hv (s := (s : Nat)) (by omega) (by omega) ho).2.2
  refine ⟨?_, run_word hv (by omega) (by omega) ho (by omega), bad_no.1 (ho _ (getD_mem (by omega)))⟩
  show (((runE e (s : Nat) l).1.length : Nat) : Int) = ((p : Int) + 1 + f) * e.block
  rw [hk, hl]
  have : ((p + 1 + f : Nat) : Int) = (p : Int) + 1 + f := by omega
  rw [this]

/-- decoding by whole blocks. -/
def nW (d : Dec) : Nat := (d.past + 1 + d.future).toNat
theorem winN_nat {d : Dec} (hd : DDims d) : (winN d).toNat = nW d * d.block.toNat ∧ 1 ≤ nW d := by
  obtain ⟨h1, h2, h3, h4⟩ := not_badS hd.sides
  have hb := hd.block
  unfold winN nW
  refine ⟨?_, by omega⟩
  have : (d.past + 1 + d.future) * d.block = (((d.past + 1 + d.future).toNat * d.block.toNat : Nat) : Int) := by
    rw [Int.natCast_mul, Int.toNat_of_nonneg (by omega), Int.toNat_of_nonneg (by omega)]
  rw [this, Int.toNat_natCast]
theorem decCnt_blocks {d : Dec} (hd : DDims d) {w : List UInt8} {q : Nat} (hq : w.length = q * d.block.toNat) : decCnt d w = if nW d ≤ q then q - nW d + 1 else 0 := by
  obtain ⟨h1, h2⟩ := winN_nat hd
  have hb : 0 < d.block.toNat := by have := hd.block; omega
  unfold decCnt
  rw [h1, hq]
  by_cases h : nW d ≤ q
  · rw [if_pos h, if_pos (Nat.mul_le_mul_right _ h), ← Nat.sub_mul, Nat.mul_div_cancel _ hb]
  · rw [if_neg h, if_neg]
    intro h3
    exact h (Nat.le_of_mul_le_mul_right h3 hb)
theorem blocks {d : Dec} (hd : DDims d) {w : List UInt8} (h : (w.length : Int) % d.block = 0) : w.length = (w.length / d.block.toNat) * d.block.toNat ∧ (w.length : Int) / d.block = ((w.length / d.block.toNat : Nat) : Int) := by
  have hb := hd.block
  have e : d.block = (d.block.toNat : Int) := (Int.toNat_of_nonneg (by omega)).symm
  rw [e] at h
  have h2 : w.length % d.block.toNat = 0 := by omega
  refine ⟨?_, ?_⟩
  · have := Nat.div_add_mod w.length d.block.toNat
    rw [h2, Nat.add_zero, Nat.mul_comm] at this
    exact this.symm
  · conv => lhs; rw [e]
    exact (Int.natCast_ediv _ _).symm
theorem decode_len_eq {d : Dec} (hd : DDims d) {w : List UInt8} (h : (w.length : Int) % d.block = 0) : ((decCnt d w : Nat) : Int) = max 0 ((w.length : Int) / d.block - (d.past + 1 + d.future) + 1) := by
  obtain ⟨h1, h2⟩ := blocks hd h
  obtain ⟨k1, k2, k3, k4⟩ := not_badS hd.sides
  rw [decCnt_blocks hd h1, h2]
  have : (nW d : Int) = d.past + 1 + d.future := Int.toNat_of_nonneg (by omega)
  split <;> omega
/-- what is decoded, by what is known. -/
theorem known_at {d : Dec} (hv : checkD d = 0) {v : List UInt8} : (knownN d v = 6 ∧ (lookE d.ents v).getD (-1) = -1) ∨ (knownN d v = 0 ∧ (lookE d.ents v).getD (-1) = knownI d v ∧ 0 ≤ knownI d v) := by
  unfold knownN knownI
  simp only [ne_eq, hv, not_true_eq_false, if_false]
  cases h : lookE d.ents v with
  | none => exact .inl ⟨rfl, rfl⟩
  | some k =>
    have hm := (look_some (checkD_asc hv)).1 h
    exact .inr ⟨rfl, rfl, (valid_mem hv _ hm).2.2.1⟩

theorem known_win {d : Dec} (hd : DDims d) {w : List UInt8} {i : Nat} (hi : i < decCnt d w) : (0 ≤ (i : Int) * d.block ∧ (i : Int) * d.block ≤ ((i : Int) + (d.past + 1 + d.future)) * d.block ∧ ((i : Int) + (d.past + 1 + d.future)) * d.block ≤ (w.length : Int)) ∧
    (w.take (((i : Int) + (d.past + 1 + d.future)) * d.block).toNat).drop ((i : Int) * d.block).toNat = (w.drop (i * d.block.toNat)).take (winN d).toNat := by
  have hb := hd.block
  have hm := (dec_more hb.1).2 hi
  have hw := winN_bd hd
  have e : (i : Int) * d.block = ((i * d.block.toNat : Nat) : Int) := by rw [Int.natCast_mul, Int.toNat_of_nonneg (by omega)]
  have e2 : ((i : Int) + (d.past + 1 + d.future)) * d.block = (i : Int) * d.block + winN d := Int.add_mul ..
  rw [e2, e]
  refine ⟨by omega, ?_⟩
  have e3 : (((i * d.block.toNat : Nat) : Int) + winN d).toNat = i * d.block.toNat + (winN d).toNat := by omega
  rw [e3, Int.toNat_natCast, List.drop_take, Nat.add_sub_cancel_left]
theorem quo_bd {d : Dec} (hd : DDims d) {n : Nat} : 0 ≤ (n : Int) / d.block ∧ (n : Int) / d.block ≤ n := by
  have hb := hd.block
  exact ⟨Int.ediv_nonneg (by omega) (by omega), Int.ediv_le_self _ (by omega)⟩

/-- a letter is replaced. -/
def setL (w : List UInt8) (k : Nat) (c : UInt8) : List UInt8 := w.take k ++ [c] ++ w.drop (k + 1)
theorem setL_len {w : List UInt8} {k : Nat} {c : UInt8} (h : k < w.length) : (setL w k c).length = w.length := by unfold setL; simp; omega
theorem setL_get {w : List UInt8} {k : Nat} {c : UInt8} (h : k < w.length) {j : Nat} (hj : j ≠ k) : (setL w k c)[j]? = w[j]? := by
  unfold setL
  rw [List.append_assoc]
  have hl : (w.take k).length = k := by rw [List.length_take]; omega
  by_cases h1 : j < k
  · rw [List.getElem?_append_left (by omega), List.getElem?_take_of_lt h1]
  · rw [List.getElem?_append_right (by omega), hl, show j - k = (j - k - 1) + 1 by omega, List.singleton_append, List.getElem?_cons_succ, List.getElem?_drop]
    congr 1; omega
theorem local_at {d : Dec} (hv : checkD d = 0) {w : List UInt8} {k : Nat} {c : UInt8} (hk : k < w.length) {i : Nat} (h : (i : Int) > (k : Int) / d.block ∨ (i : Int) + d.past + d.future < (k : Int) / d.block) : decAt d (setL w k c) i = decAt d w i := by
  have hd := (checkD_valid hv).1
  have hb := hd.block
  obtain ⟨k1, k2, k3, k4⟩ := not_badS hd.sides
  obtain ⟨w1, w2⟩ := winN_nat hd
  have hnn : (nW d : Int) = d.past + 1 + d.future := Int.toNat_of_nonneg (by omega)
  have e : d.block = (d.block.toNat : Int) := (Int.toNat_of_nonneg (by omega)).symm
  have hq : (k : Int) / d.block = ((k / d.block.toNat : Nat) : Int) := by
    conv => lhs; rw [e]
    exact (Int.natCast_ediv _ _).symm
  rw [hq] at h
  have hb0 : 0 < d.block.toNat := by omega
  unfold decAt
  rw [w1]
  have hw : ((setL w k c).drop (i * d.block.toNat)).take (nW d * d.block.toNat) = (w.drop (i * d.block.toNat)).take (nW d * d.block.toNat) := by
    apply List.ext_getElem?
    intro j
    by_cases hj : j < nW d * d.block.toNat
    · rw [List.getElem?_take_of_lt hj, List.getElem?_take_of_lt hj, List.getElem?_drop, List.getElem?_drop]
      refine setL_get hk ?_
      rcases h with h | h
      · have h3 : k / d.block.toNat + 1 ≤ i := by omega
        have h4 := Nat.mul_le_mul_right d.block.toNat h3
        have h5 := Nat.lt_div_mul_add (a := k) hb0
        rw [Nat.add_mul, Nat.one_mul] at h4
        omega
      · have h3 : i + nW d ≤ k / d.block.toNat := by omega
        have h4 := Nat.mul_le_mul_right d.block.toNat h3
        have h5 := Nat.div_mul_le_self k d.block.toNat
        rw [Nat.add_mul] at h4
        omega
    · rw [List.getElem?_eq_none (by rw [List.length_take]; omega), List.getElem?_eq_none (by rw [List.length_take]; omega)]
  rw [hw]
/-- INVERTS: what is written is decoded. -/
theorem inverts {e : Enc} {p f : Nat} (h : wbN e p f = 0) {s : Int} (h0 : 0 ≤ s) (h1 : s < (e.rows.length : Int)) {l : List Int} (hl : ∀ i ∈ l, badI e i = false) (hm : l.length ≤ 4000) :
    decodeN (wbX e p f) (runE e s l).1 = 0 ∧ decodeL (wbX e p f) (runE e s l).1 = (l.take (l.length - f)).drop p := by
  obtain ⟨hv, hs, hmn, hb⟩ := wb_zero h
  rw [Int.toNat_natCast, Int.toNat_natCast] at hb
  obtain ⟨hcv, hX⟩ := built_valid h
  have hd := (checkD_valid hcv).1
  have hw := run_word hv h0 h1 hl hm
  have hk := (runE_ok hv h0 h1 hl).2.2
  have hbk := (checkE_valid hv).1.block
  have hXb : (wbX e p f).block = e.block := by rw [hX]
  have hXl : (wbX e p f).letters = e.letters := by rw [hX]
  have hXe : (wbX e p f).ents = (builtE e p f).1 := by rw [hX]
  have hlen : (runE e s l).1.length = l.length * (wbX e p f).block.toNat := by
    rw [hXb]
    have : ((l.length * e.block.toNat : Nat) : Int) = (l.length : Int) * e.block := by rw [Int.natCast_mul, Int.toNat_of_nonneg (by omega)]
    omega
  have hN : decodeN (wbX e p f) (runE e s l).1 = 0 := decode_ok hcv (by rw [hXl]; exact hw) (by rw [hXb, hk]; exact Int.mul_emod_left ..)
  refine ⟨hN, ?_⟩
  have hnW : nW (wbX e p f) = p + 1 + f := by
    unfold nW
    rw [hX]
    show ((p : Int) + 1 + f).toNat = _
    omega
  have hc : decCnt (wbX e p f) (runE e s l).1 = l.length - f - p := by
    rw [decCnt_blocks hd hlen, hnW]
    split <;> omega
  unfold decodeL
  rw [if_pos hN, hc]
  apply List.ext_getElem
  · simp
  · intro i hi1 hi2
    have hi : i < l.length - f - p := by simpa using hi1
    rw [List.getElem_map, List.getElem_range, List.getElem_drop, List.getElem_take]
    unfold decAt
    rw [(winN_nat hd).1, hnW, hXb, hXe, run_window hv h0 h1 hl (i := i) (n := p + 1 + f) (by omega)]
    have ho := runE_ok hv h0 h1 (l := l.take i) fun j hj => hl j (List.mem_of_mem_take hj)
    have hmem : entOf e p (runE e s (l.take i)).2.toNat ((l.drop i).take (p + 1 + f)) ∈ pathsL e p f :=
      (mem_paths hv).2 ⟨_, by omega, _, by rw [List.length_take, List.length_drop]; omega, fun j hj => hl j (List.mem_of_mem_drop (List.mem_of_mem_take hj)), rfl⟩
    have hlk := (look_some built_asc).2 ((built_mem hb _).2 hmem)
    unfold entOf at hlk
    rw [Int.toNat_of_nonneg ho.1] at hlk
    rw [hlk]
    show ((l.drop i).take (p + 1 + f)).getD p 0 = _
    rw [getD_take (by omega), getD_drop, List.getD_eq_getElem?_getD, List.getElem?_eq_getElem (by omega), Option.getD_some]
    congr 1
    omega
/-- COVERS: a decoder covers the encoder that it was built of. -/
theorem covers_built {e : Enc} {p f : Nat} (h : wbN e p f = 0) : coversN (wbX e p f) e = 0 ∧ coversB (wbX e p f) e = true := by
  obtain ⟨hv, hs, hmn, hb⟩ := wb_zero h
  obtain ⟨hcv, hX⟩ := built_valid h
  rw [Int.toNat_natCast, Int.toNat_natCast] at hb hmn
  have hN : coversN (wbX e p f) e = 0 := by
    unfold coversN
    rw [if_neg (by rw [hcv, hv]; simp), hX]
    show (if e.letters ≠ e.letters ∨ e.block ≠ e.block ∨ e.inputs ≠ e.inputs then (11 : Int) else if manyB e ((p : Int).toNat + 1 + (f : Int).toNat) = true then 4 else 0) = 0
    rw [if_neg (by simp), Int.toNat_natCast, Int.toNat_natCast, if_neg (by rw [hmn]; simp)]
  refine ⟨hN, ?_⟩
  unfold coversB
  rw [hN, hX]
  simp only [decide_true, Bool.true_and, List.all_eq_true]
  intro x hx
  rw [Int.toNat_natCast, Int.toNat_natCast] at hx
  unfold covE
  exact decide_eq_true ((look_some built_asc).2 ((built_mem hb x).2 hx))
def withE (d : Dec) (l : List Ent) : Dec := { d with ents := l }
theorem covers_with {e : Enc} {p f : Nat} (h : wbN e p f = 0) {L : List Ent} (hl : L.length ≤ 65536) (ha : Asc L) (hm : ∀ x ∈ L, EntOk (wbX e p f) x) {x : Ent} (hx : x ∈ (wbX e p f).ents) (hn : x ∉ L) :
    coversN (withE (wbX e p f) L) e = 0 ∧ coversB (withE (wbX e p f) L) e = false := by
  obtain ⟨hv, hs, hmn, hb⟩ := wb_zero h
  obtain ⟨hcv, hX⟩ := built_valid h
  rw [Int.toNat_natCast, Int.toNat_natCast] at hb hmn
  have hd := (checkD_valid hcv).1
  have hcv2 : checkD (withE (wbX e p f) L) = 0 := valid_of (d := withE (wbX e p f) L) ⟨hd.letters, hd.block, hd.inputs, hd.sides⟩ hl ha hm
  have hN : coversN (withE (wbX e p f) L) e = 0 := by
    unfold coversN
    rw [if_neg (by rw [hcv2, hv]; simp), hX]
    show (if e.letters ≠ e.letters ∨ e.block ≠ e.block ∨ e.inputs ≠ e.inputs then (11 : Int) else if manyB e ((p : Int).toNat + 1 + (f : Int).toNat) = true then 4 else 0) = 0
    rw [if_neg (by simp), Int.toNat_natCast, Int.toNat_natCast, if_neg (by rw [hmn]; simp)]
  refine ⟨hN, ?_⟩
  unfold coversB
  rw [hN]
  have hp : (withE (wbX e p f) L).past.toNat = p := by rw [hX]; exact Int.toNat_natCast p
  have hf : (withE (wbX e p f) L).future.toNat = f := by rw [hX]; exact Int.toNat_natCast f
  rw [hp, hf]
  simp only [decide_true, Bool.true_and, List.all_eq_false]
  rw [hX] at hx
  refine ⟨x, (built_mem hb x).1 hx, ?_⟩
  unfold covE
  simp only [decide_eq_true_eq]
  intro h2
  exact hn ((look_some (l := L) ha).1 h2)
theorem asc_map {l : List Ent} : Asc l ↔ (l.map (·.win)).Pairwise fun a b => Op.bytesLess a b = true := by
  unfold Asc
  rw [List.pairwise_map]
def lessL (l : List Ent) (i : Nat) : List Ent := l.take i ++ l.drop (i + 1)
def nextX (x : Ent) (n : Int) : Ent := ⟨x.win, (x.inp + 1) % n⟩
def nextL (l : List Ent) (i : Nat) (n : Int) : List Ent := l.set i (nextX (l.getD i den) n)
theorem covers_less {e : Enc} {p f : Nat} (h : wbN e p f = 0) {i : Nat} (hi : i < (wbX e p f).ents.length) : coversN (withE (wbX e p f) (lessL (wbX e p f).ents i)) e = 0 ∧ coversB (withE (wbX e p f) (lessL (wbX e p f).ents i)) e = false := by
  obtain ⟨hcv, hX⟩ := built_valid h
  have ha := checkD_asc hcv
  have hsz := (checkD_valid hcv).2.1
  have hme := valid_mem hcv
  generalize hE : (wbX e p f).ents = E at hi ha hsz hme ⊢
  have hsplit : E = E.take i ++ E[i] :: E.drop (i + 1) := by rw [← List.drop_eq_getElem_cons hi, List.take_append_drop]
  have hsub : (lessL E i).Sublist E := by
    conv => rhs; rw [hsplit]
    exact List.Sublist.append_left (List.sublist_cons_self ..) _
  refine covers_with h (x := E[i]) (Nat.le_trans hsub.length_le hsz) (ha.sublist hsub) (fun x hx => hme x (hsub.subset hx)) (by rw [hE]; exact List.getElem_mem hi) ?_
  intro hx
  unfold Asc at ha
  rw [hsplit, List.pairwise_append] at ha
  rcases List.mem_append.1 hx with h1 | h1
  · have := ha.2.2 _ h1 _ (List.mem_cons_self ..)
    rw [less_irrefl] at this; cases this
  · have := (List.pairwise_cons.1 ha.2.1).1 _ h1
    rw [less_irrefl] at this; cases this
theorem covers_next {e : Enc} {p f : Nat} (h : wbN e p f = 0) (h2 : 2 ≤ e.inputs) {i : Nat} (hi : i < (wbX e p f).ents.length) : coversN (withE (wbX e p f) (nextL (wbX e p f).ents i e.inputs)) e = 0 ∧ coversB (withE (wbX e p f) (nextL (wbX e p f).ents i e.inputs)) e = false := by
  obtain ⟨hcv, hX⟩ := built_valid h
  have ha := checkD_asc hcv
  have hsz := (checkD_valid hcv).2.1
  have hme := valid_mem hcv
  have hin : (wbX e p f).inputs = e.inputs := by rw [hX]
  generalize hE : (wbX e p f).ents = E at hi ha hsz hme ⊢
  have hx : E.getD i den ∈ E := getD_mem hi
  have hxo := hme _ hx
  have hla : Asc (nextL E i e.inputs) := by
    rw [asc_map] at ha ⊢
    have : (nextL E i e.inputs).map (·.win) = E.map (·.win) := by
      unfold nextL
      rw [List.map_set]
      show (E.map (·.win)).set i (E.getD i den).win = _
      apply List.ext_getElem
      · simp
      · intro j h3 h4
        rw [List.getElem_set]
        split
        · rename_i h5; subst h5
          simp [List.getD, show i < E.length from hi]
        · rfl
    rwa [this]
  have hy : nextX (E.getD i den) e.inputs ∈ nextL E i e.inputs := List.mem_set hi _
  refine covers_with h (x := E.getD i den) (by unfold nextL; rw [List.length_set]; exact hsz) hla (fun x hx2 => ?_) (by rw [hE]; exact hx) fun hx2 => ?_
  · rcases List.mem_or_eq_of_mem_set hx2 with h3 | rfl
    · exact hme x h3
    · exact ⟨hxo.1, hxo.2.1, Int.emod_nonneg _ (by omega), by rw [hin]; exact Int.emod_lt_of_pos _ (by omega)⟩
  · have h3 := asc_inj hla hx2 hy rfl
    have h4 : (E.getD i den).inp = ((E.getD i den).inp + 1) % e.inputs := congrArg Ent.inp h3
    have h5 := hxo.2.2
    rw [hin] at h5
    by_cases h6 : (E.getD i den).inp + 1 < e.inputs
    · rw [Int.emod_eq_of_lt (by omega) h6] at h4; omega
    · have h7 : (E.getD i den).inp + 1 = e.inputs := by omega
      rw [h7, Int.emod_self] at h4; omega
end Go.Proofs.Ytmdnpbilnelogaa
