/- Parts of the proof: DC. -/
import Derived.Test.YtoafgeobhhlplaaZF15
namespace Go.Proofs.Ytoafgeobhhlplaa
set_option linter.unusedSimpArgs false
set_option linter.unusedVariables false
open Go Go.Lift
def addS (l : List Wd) (s : Wd) : List Wd := if s ∈ l then l else l ++ [s]
theorem addS_mem {l : List Wd} {s t : Wd} : t ∈ addS l s ↔ t ∈ l ∨ t = s := by
  unfold addS
  by_cases h : s ∈ l
  · rw [if_pos h]
    exact ⟨.inl, fun h2 => h2.elim (fun h3 => h3) fun e => by subst e; exact h⟩
  · rw [if_neg h]; simp
theorem addS_nodup {l : List Wd} {s : Wd} (h : l.Nodup) : (addS l s).Nodup := by
  unfold addS
  by_cases h2 : s ∈ l
  · rw [if_pos h2]; exact h
  · rw [if_neg h2, List.nodup_append]
    exact ⟨h, by simp, fun a ha b hb e => by rw [List.mem_singleton.1 hb] at e; subst e; exact h2 ha⟩
theorem addS_pre {l : List Wd} {s : Wd} : l <+: addS l s := by
  unfold addS
  split
  · exact List.prefix_refl _
  · exact List.prefix_append _ _
inductive DerR (W : List Wd) : Wd → Prop
  | ini {x y : Nat} (hx : x < W.length) (hy : y < W.length) (hne : x ≠ y) (h : W.getD y [] <+: W.getD x []) : DerR W ((W.getD x []).drop (W.getD y []).length)
  | inn {r u : Wd} (h : DerR W r) (h0 : r ≠ []) (hu : u ∈ W) (hp : u <+: r) : DerR W (r.drop u.length)
  | ovr {r u : Wd} (h : DerR W r) (h0 : r ≠ []) (hu : u ∈ W) (hn : ¬ u <+: r) (hp : r <+: u) : DerR W (u.drop r.length)
def iyA (W : List Wd) (x : Nat) (l : List Wd) : Nat → List Wd
  | 0 => l
  | y + 1 => if x ≠ y ∧ W.getD y [] <+: W.getD x [] then addS (iyA W x l y) ((W.getD x []).drop (W.getD y []).length) else iyA W x l y
def ixA (W : List Wd) : Nat → List Wd
  | 0 => []
  | x + 1 => iyA W x (ixA W x) W.length
def ckA (W : List Wd) (r : Wd) (l : List Wd) : Nat → List Wd
  | 0 => l
  | k + 1 => if r = [] then ckA W r l k else if W.getD k [] <+: r then addS (ckA W r l k) (r.drop (W.getD k []).length) else if r <+: W.getD k [] then addS (ckA W r l k) ((W.getD k []).drop r.length) else ckA W r l k
def qsA (W : List Wd) : Nat → List Wd
  | 0 => ixA W W.length
  | i + 1 => if i < (qsA W i).length then ckA W ((qsA W i).getD i []) (qsA W i) W.length else qsA W i
def sufs (W : List Wd) : List Wd := W.flatMap fun w => (List.range (w.length + 1)).map fun k => w.drop k
def restL (W : List Wd) : List Wd := qsA W (sufs W).length
section
variable {W : List Wd}
theorem W_mem {x : Nat} (h : x < W.length) : W.getD x [] ∈ W := by rw [List.getD_eq_getElem?_getD, List.getElem?_eq_getElem h]; exact List.getElem_mem h
theorem W_at {u : Wd} (h : u ∈ W) : ∃ k, k < W.length ∧ W.getD k [] = u := by
  obtain ⟨k, hk, e⟩ := List.mem_iff_getElem.1 h
  exact ⟨k, hk, by rw [List.getD_eq_getElem?_getD, List.getElem?_eq_getElem hk]; exact e⟩
theorem suf_mem {r : Wd} : r ∈ sufs W ↔ ∃ w ∈ W, ∃ k, k ≤ w.length ∧ r = w.drop k := by
  unfold sufs
  rw [List.mem_flatMap]
  constructor
  · rintro ⟨w, hw, h⟩
    obtain ⟨k, hk, rfl⟩ := List.mem_map.1 h
    exact ⟨w, hw, k, by have := List.mem_range.1 hk; omega, rfl⟩
  · rintro ⟨w, hw, k, hk, rfl⟩
    exact ⟨w, hw, List.mem_map.2 ⟨k, List.mem_range.2 (by omega), rfl⟩⟩
theorem der_suf {r : Wd} (h : DerR W r) : r ∈ sufs W := by
  induction h with
  | ini hx hy hne h => exact suf_mem.2 ⟨_, W_mem hx, _, h.length_le, rfl⟩
  | inn h h0 hu hp ih =>
    obtain ⟨w, hw, k, hk, e⟩ := suf_mem.1 ih
    subst e
    rw [List.drop_drop]
    have := hp.length_le
    rw [List.length_drop] at this
    exact suf_mem.2 ⟨w, hw, _, by omega, rfl⟩
  | ovr h h0 hu hn hp ih => exact suf_mem.2 ⟨_, hu, _, hp.length_le, rfl⟩
def RSt (W l : List Wd) : Prop := l.Nodup ∧ ∀ r ∈ l, DerR W r
theorem RSt.add {l : List Wd} {s : Wd} (h : RSt W l) (hs : DerR W s) : RSt W (addS l s) :=
  ⟨addS_nodup h.1, fun r hr => (addS_mem.1 hr).elim (h.2 r) fun e => by subst e; exact hs⟩
theorem nodup_len : ∀ {l K : List Wd}, l.Nodup → (∀ r ∈ l, r ∈ K) → l.length ≤ K.length
  | [], _, _, _ => Nat.zero_le _
  | a :: l, K, hn, h => by
    rw [List.nodup_cons] at hn
    have h1 := nodup_len (l := l) (K := K.erase a) hn.2 fun r hr => (List.mem_erase_of_ne (fun e => by subst e; exact hn.1 hr)).2 (h r (List.mem_cons_of_mem _ hr))
    have h2 := h a List.mem_cons_self
    rw [List.length_erase_of_mem h2] at h1
    have := List.length_pos_of_mem h2
    simp; omega
theorem RSt.len {l : List Wd} (h : RSt W l) : l.length ≤ (sufs W).length := nodup_len h.1 fun r hr => der_suf (h.2 r hr)
theorem iy_st {x : Nat} (hx : x < W.length) {l : List Wd} (h : RSt W l) : ∀ y, y ≤ W.length → RSt W (iyA W x l y)
  | 0, _ => h
  | y + 1, hy => by
    have ih := iy_st hx h y (by omega)
    unfold iyA
    split
    · rename_i hc; exact ih.add (.ini hx (by omega) hc.1 hc.2)
    · exact ih
theorem ix_st : ∀ x, x ≤ W.length → RSt W (ixA W x)
  | 0, _ => ⟨List.nodup_nil, fun r hr => by cases hr⟩
  | x + 1, hx => iy_st (by omega) (ix_st x (by omega)) _ (Nat.le_refl _)
theorem ck_st {r : Wd} {l : List Wd} (hr : DerR W r) (h : RSt W l) : ∀ k, k ≤ W.length → RSt W (ckA W r l k)
  | 0, _ => h
  | k + 1, hk => by
    have ih := ck_st hr h k (by omega)
    unfold ckA
    split
    · exact ih
    · rename_i h0
      split
      · rename_i h1; exact ih.add (.inn hr h0 (W_mem (by omega)) h1)
      · rename_i h1
        split
        · rename_i h2; exact ih.add (.ovr hr h0 (W_mem (by omega)) h1 h2)
        · exact ih
theorem q_mem {l : List Wd} {i : Nat} (h : i < l.length) : l.getD i [] ∈ l := by rw [List.getD_eq_getElem?_getD, List.getElem?_eq_getElem h]; exact List.getElem_mem h
theorem qs_st : ∀ i, RSt W (qsA W i)
  | 0 => ix_st _ (Nat.le_refl _)
  | i + 1 => by
    have ih := qs_st i
    unfold qsA
    split
    · rename_i h; exact ck_st (ih.2 _ (q_mem h)) ih _ (Nat.le_refl _)
    · exact ih
theorem iy_pre {x : Nat} {l : List Wd} : ∀ y, l <+: iyA W x l y
  | 0 => List.prefix_refl _
  | y + 1 => by
    unfold iyA
    split
    · exact (iy_pre y).trans addS_pre
    · exact iy_pre y
theorem ck_pre {r : Wd} {l : List Wd} : ∀ k, l <+: ckA W r l k
  | 0 => List.prefix_refl _
  | k + 1 => by
    unfold ckA
    split
    · exact ck_pre k
    · split
      · exact (ck_pre k).trans addS_pre
      · split
        · exact (ck_pre k).trans addS_pre
        · exact ck_pre k
theorem preS_at {l m : List Wd} (h : l <+: m) {i : Nat} (hi : i < l.length) : m.getD i [] = l.getD i [] := by
  obtain ⟨t, rfl⟩ := h
  simp [List.getD, List.getElem?_append_left hi]
theorem qs_pre {i : Nat} : qsA W i <+: qsA W (i + 1) := by
  conv => rhs; unfold qsA
  split
  · exact ck_pre _
  · exact List.prefix_refl _
theorem qs_pre' {i : Nat} : ∀ d, qsA W i <+: qsA W (i + d)
  | 0 => List.prefix_refl _
  | d + 1 => (qs_pre' d).trans qs_pre
theorem qs_stay {i : Nat} (h : (qsA W i).length ≤ i) : ∀ d, qsA W (i + d) = qsA W i
  | 0 => rfl
  | d + 1 => by
    show (if i + d < (qsA W (i + d)).length then ckA W ((qsA W (i + d)).getD (i + d) []) (qsA W (i + d)) W.length else qsA W (i + d)) = _
    rw [qs_stay h d, if_neg (by omega)]
theorem rest_len : (restL W).length ≤ (sufs W).length := (qs_st _).len
theorem rest_step {i : Nat} (h : i < (restL W).length) : ∀ k, k < W.length → (restL W).getD i [] ≠ [] →
    ((W.getD k [] <+: (restL W).getD i [] → ((restL W).getD i []).drop (W.getD k []).length ∈ restL W) ∧ (¬ W.getD k [] <+: (restL W).getD i [] → (restL W).getD i [] <+: W.getD k [] → (W.getD k []).drop ((restL W).getD i []).length ∈ restL W)) := by
  intro k hk h0
  have hK := rest_len (W := W)
  -- the element is there when its turn comes
  have hil : i < (qsA W i).length := by
    refine Classical.byContradiction fun hc => ?_
    have := qs_stay (i := i) (W := W) (by omega) ((sufs W).length - i)
    rw [show i + ((sufs W).length - i) = (sufs W).length by omega] at this
    have e : restL W = qsA W i := this
    rw [e] at h; exact hc h
  have hsub : ∀ j, j ≤ (sufs W).length → qsA W j <+: restL W := fun j hj => by
    have := qs_pre' (W := W) (i := j) ((sufs W).length - j)
    rwa [show j + ((sufs W).length - j) = (sufs W).length by omega] at this
  have hat : (restL W).getD i [] = (qsA W i).getD i [] := preS_at (hsub i (by omega)) hil
  have hnext : qsA W (i + 1) = ckA W ((qsA W i).getD i []) (qsA W i) W.length := by
    conv => lhs; unfold qsA
    rw [if_pos hil]
  have hs1 := hsub (i + 1) (by omega)
  rw [hnext] at hs1
  rw [hat] at h0 ⊢
  generalize (qsA W i).getD i [] = r at h0 hs1
  have hck : ∀ n, k < n → n ≤ W.length → ((W.getD k [] <+: r → r.drop (W.getD k []).length ∈ ckA W r (qsA W i) n) ∧ (¬ W.getD k [] <+: r → r <+: W.getD k [] → (W.getD k []).drop r.length ∈ ckA W r (qsA W i) n)) := by
    intro n
    induction n with
    | zero => intro h; omega
    | succ n ih =>
      intro h1 h2
      have hsub1 : ckA W r (qsA W i) n <+: ckA W r (qsA W i) (n + 1) := by
        conv => rhs; unfold ckA
        rw [if_neg h0]
        split
        · exact addS_pre
        · split
          · exact addS_pre
          · exact List.prefix_refl _
      rcases Nat.lt_or_ge k n with h3 | h3
      · obtain ⟨a, b⟩ := ih h3 (by omega)
        exact ⟨fun h => hsub1.subset (a h), fun h h' => hsub1.subset (b h h')⟩
      · obtain rfl : k = n := by omega
        unfold ckA
        rw [if_neg h0]
        constructor
        · intro h; rw [if_pos h]; exact addS_mem.2 (.inr rfl)
        · intro h h'; rw [if_neg h, if_pos h']; exact addS_mem.2 (.inr rfl)
  obtain ⟨a, b⟩ := hck W.length hk (Nat.le_refl _)
  exact ⟨fun h => hs1.subset (a h), fun h h' => hs1.subset (b h h')⟩
theorem rest_ini {x y : Nat} (hx : x < W.length) (hy : y < W.length) (hne : x ≠ y) (h : W.getD y [] <+: W.getD x []) : (W.getD x []).drop (W.getD y []).length ∈ restL W := by
  have h1 : (W.getD x []).drop (W.getD y []).length ∈ ixA W W.length := by
    have hiy : ∀ n, y < n → n ≤ W.length → (W.getD x []).drop (W.getD y []).length ∈ iyA W x (ixA W x) n := by
      intro n
      induction n with
      | zero => intro h; omega
      | succ n ih =>
        intro h1 h2
        unfold iyA
        rcases Nat.lt_or_ge y n with h3 | h3
        · split
          · exact addS_mem.2 (.inl (ih h3 (by omega)))
          · exact ih h3 (by omega)
        · obtain rfl : y = n := by omega
          rw [if_pos ⟨hne, h⟩]
          exact addS_mem.2 (.inr rfl)
    have hix : ∀ n, x < n → n ≤ W.length → (W.getD x []).drop (W.getD y []).length ∈ ixA W n := by
      intro n
      induction n with
      | zero => intro h; omega
      | succ n ih =>
        intro h1 h2
        rcases Nat.lt_or_ge x n with h3 | h3
        · exact (iy_pre _).subset (ih h3 (by omega))
        · obtain rfl : x = n := by omega
          exact hiy _ hy (Nat.le_refl _)
    exact hix _ hx (Nat.le_refl _)
  have := (qs_pre' (W := W) (i := 0) (sufs W).length).subset h1
  rwa [Nat.zero_add] at this
theorem rest_mem {r : Wd} : r ∈ restL W ↔ DerR W r := by
  constructor
  · exact (qs_st _).2 r
  · intro h
    induction h with
    | ini hx hy hne h => exact rest_ini hx hy hne h
    | inn h h0 hu hp ih =>
      obtain ⟨i, hi, e⟩ := W_at ih
      obtain ⟨k, hk, e2⟩ := W_at hu
      have := (rest_step hi k hk (by rw [e]; exact h0)).1 (by rw [e, e2]; exact hp)
      rwa [e, e2] at this
    | ovr h h0 hu hn hp ih =>
      obtain ⟨i, hi, e⟩ := W_at ih
      obtain ⟨k, hk, e2⟩ := W_at hu
      have := (rest_step hi k hk (by rw [e]; exact h0)).2 (by rw [e, e2]; exact hn) (by rw [e, e2]; exact hp)
      rwa [e, e2] at this
theorem rest_clsd (h0 : [] ∉ restL W) : Clsd W (restL W) where
  ne := h0
  step := fun r hr u hu => ⟨fun h => rest_mem.2 (.inn (rest_mem.1 hr) (fun e => h0 (e ▸ hr)) hu h), fun h1 h2 => rest_mem.2 (.ovr (rest_mem.1 hr) (fun e => h0 (e ▸ hr)) hu h1 h2)⟩
def opn (W : List Wd) (i : Nat) (u : Wd) : Prop := rd W [] u = true ∧ ∃ k, k < W.length ∧ k ≠ i ∧ rd W (W.getD k []) (W.getD i [] ++ u) = true
theorem opn_less {i : Nat} {u v : Wd} (h : opn W i (u ++ v)) : opn W i u := by
  obtain ⟨h1, k, hk, hne, h2⟩ := h
  rw [← List.append_assoc] at h2
  exact ⟨rd_less h1, k, hk, hne, rd_less h2⟩
def DlNo (W : List Wd) : Prop := ∃ i, i < W.length ∧ ∀ n, ∃ u, u.length = n ∧ opn W i u
def DlIs (W : List Wd) (d : Nat) : Prop := (∀ i u, i < W.length → opn W i u → u.length < d) ∧ ∀ n, n < d → ∃ i, i < W.length ∧ ∃ u, u.length = n ∧ opn W i u
theorem DlIs.one {d e : Nat} (h : DlIs W d) (h2 : DlIs W e) : d = e := by
  have key : ∀ {a b : Nat}, DlIs W a → DlIs W b → a ≤ b := fun {a b} ha hb => by
    refine Nat.not_lt.1 fun hlt => ?_
    obtain ⟨i, hi, u, e, ho⟩ := ha.2 b hlt
    have := hb.1 i u hi ho
    omega
  exact Nat.le_antisymm (key h h2) (key h2 h)
theorem DlIs.not {d : Nat} (h : DlIs W d) : ¬ DlNo W := fun ⟨i, hi, hn⟩ => by
  obtain ⟨u, e, ho⟩ := hn d
  have := h.1 i u hi ho
  omega
theorem opn_in {x y : Nat} (hx : x < W.length) (hy : y < W.length) (hne : x ≠ y) (h : W.getD y [] <+: W.getD x []) {n : Nat} (hf : Fr W (((W.getD x []).drop (W.getD y []).length).length + n) ((W.getD x []).drop (W.getD y []).length)) : ∃ u, u.length = n ∧ opn W x u := by
  obtain ⟨v, e, h1, h2⟩ := hf
  rcases rd_pre.1 h2 with h3 | ⟨h3, h4⟩
  · have h5 := h3.length_le
    have h6 : n = 0 := by omega
    subst h6
    have h7 : v = (W.getD x []).drop (W.getD y []).length := h3.eq_of_length (by omega)
    refine ⟨[], rfl, rfl, y, hy, Ne.symm hne, ?_⟩
    rw [List.append_nil, ← pre_drop h, rd_app0, ← h7]; exact h1
  · obtain ⟨u, rfl⟩ := h3
    refine ⟨u, by simpa using e, by simpa using h4, y, hy, Ne.symm hne, ?_⟩
    have e2 : W.getD x [] ++ u = W.getD y [] ++ ((W.getD x []).drop (W.getD y []).length ++ u) := by rw [← List.append_assoc, pre_drop h]
    rw [e2, rd_app0]; exact h1
theorem opn_ov {x y : Nat} (hx : x < W.length) (hy : y < W.length) (hne : x ≠ y) (h : W.getD x [] <+: W.getD y []) {n : Nat} (hf : Fr W n ((W.getD y []).drop (W.getD x []).length)) : ∃ u, u.length = n ∧ opn W x u := by
  obtain ⟨u, e, h1, h2⟩ := hf
  exact ⟨u, e, h1, y, hy, Ne.symm hne, by rw [rd_split h]; exact h2⟩
theorem opn_cases {x : Nat} {u : Wd} (hx : x < W.length) (h : opn W x u) : ∃ y, y < W.length ∧ x ≠ y ∧ ((W.getD y [] <+: W.getD x [] ∧ Fr W (((W.getD x []).drop (W.getD y []).length).length + u.length) ((W.getD x []).drop (W.getD y []).length)) ∨ (W.getD x [] <+: W.getD y [] ∧ Fr W u.length ((W.getD y []).drop (W.getD x []).length))) := by
  obtain ⟨h1, y, hy, hne, h2⟩ := h
  refine ⟨y, hy, Ne.symm hne, ?_⟩
  by_cases h3 : W.getD x [] <+: W.getD y []
  · exact .inr ⟨h3, u, rfl, h1, by rw [← rd_split h3]; exact h2⟩
  · have h4 : W.getD y [] <+: W.getD x [] := by
      rcases rd_pre.1 h2 with h5 | ⟨h5, _⟩
      · exact absurd ((List.prefix_append _ _).trans h5) h3
      · rcases List.prefix_or_prefix_of_prefix h5 (List.prefix_append _ _) with h6 | h6
        · exact h6
        · exact absurd h6 h3
    refine .inl ⟨h4, (W.getD x []).drop (W.getD y []).length ++ u, by simp, ?_, by rw [rd_app0]; exact h1⟩
    have e2 : W.getD x [] ++ u = W.getD y [] ++ ((W.getD x []).drop (W.getD y []).length ++ u) := by rw [← List.append_assoc, pre_drop h4]
    rw [e2, rd_app0] at h2; exact h2
theorem rd_long (h0 : 0 < W.length) (hW : ∀ x ∈ W, x ≠ []) : ∀ n, ∃ u : Wd, u.length = n ∧ rd W [] u = true := by
  obtain ⟨x, hx⟩ : ∃ x, x ∈ W := ⟨_, W_mem h0⟩
  have hl : ∀ n, ∃ u : Wd, n ≤ u.length ∧ rd W [] u = true := by
    intro n
    induction n with
    | zero => exact ⟨[], Nat.le_refl _, rfl⟩
    | succ n ih =>
      obtain ⟨u, h1, h2⟩ := ih
      have := List.length_pos_iff.2 (hW x hx)
      refine ⟨x ++ u, by simp; omega, rd_of_word hx (by rw [rd_app0]; exact h2)⟩
  intro n
  obtain ⟨u, h1, h2⟩ := hl n
  exact ⟨u.take n, by rw [List.length_take]; omega, rd_less' (List.take_prefix _ _) h2⟩
theorem no_end (hW : ∀ x ∈ W, x ≠ []) {r : Wd} (h : DerR W r) (hf : ∀ n, Fr W n r) : DlNo W := by
  induction h with
  | ini hx hy hne h => exact ⟨_, hx, fun n => opn_in hx hy hne h (hf _)⟩
  | inn h h0 hu hp ih => exact ih fun n => Gn_less (Nat.le_add_left _ _) (fr_in hu hp (hf n))
  | ovr h h0 hu hn hp ih => exact ih fun n => Gn_less (Nat.le_add_left _ _) (fr_over hu hp (hf n))
end
end Go.Proofs.Ytoafgeobhhlplaa
