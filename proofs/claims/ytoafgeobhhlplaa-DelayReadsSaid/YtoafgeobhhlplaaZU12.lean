/- Parts of the proof: DC DD DE. -/
import Derived.Test.YtoafgeobhhlplaaZU11
namespace Go.Proofs.Ytoafgeobhhlplaa
set_option linter.unusedSimpArgs false
set_option linter.unusedVariables false
open Go Go.Lift
def addS (l : List Wd) (s : Wd) : List Wd := if s ∈ l then l else l ++ [s]
theorem addS_mem {l : List Wd} {s t : Wd} : t ∈ addS l s ↔ t ∈ l ∨ t = s := by
  unfold addS
  by_cases h : s ∈ l
  · rw [if_pos h]
    exact ⟨.inl, fun h2 => h2.elim (fun h3 => h3) fun e => by subst e; exact h⟩
  · rw [if_neg h]; simp
theorem addS_nodup {l : List Wd} {s : Wd} (h : l.Nodup) : (addS l s).Nodup := by
  unfold addS
  by_cases h2 : s ∈ l
  · rw [if_pos h2]; exact h
  · rw [if_neg h2, List.nodup_append]
    exact ⟨h, by simp, fun a ha b hb e => by rw [List.mem_singleton.1 hb] at e; subst e; exact h2 ha⟩
theorem addS_pre {l : List Wd} {s : Wd} : l <+: addS l s := by
  unfold addS
  split
  · exact List.prefix_refl _
  · exact List.prefix_append _ _
inductive DerR (W : List Wd) : Wd → Prop
  | ini {x y : Nat} (hx : x < W.length) (hy : y < W.length) (hne : x ≠ y) (h : W.getD y [] <+: W.getD x []) : DerR W ((W.getD x []).drop (W.getD y []).length)
  | inn {r u : Wd} (h : DerR W r) (h0 : r ≠ []) (hu : u ∈ W) (hp : u <+: r) : DerR W (r.drop u.length)
  | ovr {r u : Wd} (h : DerR W r) (h0 : r ≠ []) (hu : u ∈ W) (hn : ¬ u <+: r) (hp : r <+: u) : DerR W (u.drop r.length)
def iyA (W : List Wd) (x : Nat) (l : List Wd) : Nat → List Wd
  | 0 => l
  | y + 1 => if x ≠ y ∧ W.getD y [] <+: W.getD x [] then addS (iyA W x l y) ((W.getD x []).drop (W.getD y []).length) else iyA W x l y
def ixA (W : List Wd) : Nat → List Wd
  | 0 => []
  | x + 1 => iyA W x (ixA W x) W.length
def ckA (W : List Wd) (r : Wd) (l : List Wd) : Nat → List Wd
  | 0 => l
  | k + 1 => if r = [] then ckA W r l k else if W.getD k [] <+: r then addS (ckA W r l k) (r.drop (W.getD k []).length) else if r <+: W.getD k [] then addS (ckA W r l k) ((W.getD k []).drop r.length) else ckA W r l k
def qsA (W : List Wd) : Nat → List Wd
  | 0 => ixA W W.length
  | i + 1 => if i < (qsA W i).length then ckA W ((qsA W i).getD i []) (qsA W i) W.length else qsA W i
def sufs (W : List Wd) : List Wd := W.flatMap fun w => (List.range (w.length + 1)).map fun k => w.drop k
def restL (W : List Wd) : List Wd := qsA W (sufs W).length
section
variable {W : List Wd}
theorem W_mem {x : Nat} (h : x < W.length) : W.getD x [] ∈ W := by rw [List.getD_eq_getElem?_getD, List.getElem?_eq_getElem h]; exact List.getElem_mem h
theorem W_at {u : Wd} (h : u ∈ W) : ∃ k, k < W.length ∧ W.getD k [] = u := by
  obtain ⟨k, hk, e⟩ := List.mem_iff_getElem.1 h
  exact ⟨k, hk, by rw [List.getD_eq_getElem?_getD, List.getElem?_eq_getElem hk]; exact e⟩
theorem suf_mem {r : Wd} : r ∈ sufs W ↔ ∃ w ∈ W, ∃ k, k ≤ w.length ∧ r = w.drop k := by
  unfold sufs
  rw [List.mem_flatMap]
  constructor
  · rintro ⟨w, hw, h⟩
    obtain ⟨k, hk, rfl⟩ := List.mem_map.1 h
    exact ⟨w, hw, k, by have := List.mem_range.1 hk; omega, rfl⟩
  · rintro ⟨w, hw, k, hk, rfl⟩
    exact ⟨w, hw, List.mem_map.2 ⟨k, List.mem_range.2 (by omega), rfl⟩⟩
theorem der_suf {r : Wd} (h : DerR W r) : r ∈ sufs W := by
  induction h with
  | ini hx hy hne h => exact suf_mem.2 ⟨_, W_mem hx, _, h.length_le, rfl⟩
  | inn h h0 hu hp ih =>
    obtain ⟨w, hw, k, hk, e⟩ := suf_mem.1 ih
    subst e
    rw [List.drop_drop]
    have := hp.length_le
    rw [List.length_drop] at this
    exact suf_mem.2 ⟨w, hw, _, by omega, rfl⟩
  | ovr h h0 hu hn hp ih => exact suf_mem.2 ⟨_, hu, _, hp.length_le, rfl⟩
def RSt (W l : List Wd) : Prop := l.Nodup ∧ ∀ r ∈ l, DerR W r
theorem RSt.add {l : List Wd} {s : Wd} (h : RSt W l) (hs : DerR W s) : RSt W (addS l s) :=
  ⟨addS_nodup h.1, fun r hr => (addS_mem.1 hr).elim (h.2 r) fun e => by subst e; exact hs⟩
theorem nodup_len : ∀ {l K : List Wd}, l.Nodup → (∀ r ∈ l, r ∈ K) → l.length ≤ K.length
  | [], _, _, _ => Nat.zero_le _
  | a :: l, K, hn, h => by
    rw [List.nodup_cons] at hn
    have h1 := nodup_len (l := l) (K := K.erase a) hn.2 fun r hr => (List.mem_erase_of_ne (fun e => by subst e; exact hn.1 hr)).2 (h r (List.mem_cons_of_mem _ hr))
    have h2 := h a List.mem_cons_self
    rw [List.length_erase_of_mem h2] at h1
    have := List.length_pos_of_mem h2
    simp; omega
theorem RSt.len {l : List Wd} (h : RSt W l) : l.length ≤ (sufs W).length := nodup_len h.1 fun r hr => der_suf (h.2 r hr)
theorem iy_st {x : Nat} (hx : x < W.length) {l : List Wd} (h : RSt W l) : ∀ y, y ≤ W.length → RSt W (iyA W x l y)
  | 0, _ => h
  | y + 1, hy => by
    have ih := iy_st hx h y (by omega)
    unfold iyA
    split
    · rename_i hc; exact ih.add (.ini hx (by omega) hc.1 hc.2)
    · exact ih
theorem ix_st : ∀ x, x ≤ W.length → RSt W (ixA W x)
  | 0, _ => ⟨List.nodup_nil, fun r hr => by cases hr⟩
  | x + 1, hx => iy_st (by omega) (ix_st x (by omega)) _ (Nat.le_refl _)
theorem ck_st {r : Wd} {l : List Wd} (hr : DerR W r) (h : RSt W l) : ∀ k, k ≤ W.length → RSt W (ckA W r l k)
  | 0, _ => h
  | k + 1, hk => by
    have ih := ck_st hr h k (by omega)
    unfold ckA
    split
    · exact ih
    · rename_i h0
      split
      · rename_i h1; exact ih.add (.inn hr h0 (W_mem (by omega)) h1)
      · rename_i h1
        split
        · rename_i h2; exact ih.add (.ovr hr h0 (W_mem (by omega)) h1 h2)
        · exact ih
theorem q_mem {l : List Wd} {i : Nat} (h : i < l.length) : l.getD i [] ∈ l := by rw [List.getD_eq_getElem?_getD, List.getElem?_eq_getElem h]; exact List.getElem_mem h
theorem qs_st : ∀ i, RSt W (qsA W i)
  | 0 => ix_st _ (Nat.le_refl _)
  | i + 1 => by
    have ih := qs_st i
    unfold qsA
    split
    · rename_i h; exact ck_st (ih.2 _ (q_mem h)) ih _ (Nat.le_refl _)
    · exact ih
theorem iy_pre {x : Nat} {l : List Wd} : ∀ y, l <+: iyA W x l y
  | 0 => List.prefix_refl _
  | y + 1 => by
    unfold iyA
    split
    · exact (iy_pre y).trans addS_pre
    · exact iy_pre y
theorem ck_pre {r : Wd} {l : List Wd} : ∀ k, l <+: ckA W r l k
  | 0 => List.prefix_refl _
  | k + 1 => by
    unfold ckA
    split
    · exact ck_pre k
    · split
      · exact (ck_pre k).trans addS_pre
      · split
        · exact (ck_pre k).trans addS_pre
        · exact ck_pre k
theorem preS_at {l m : List Wd} (h : l <+: m) {i : Nat} (hi : i < l.length) : m.getD i [] = l.getD i [] := by
  obtain ⟨t, rfl⟩ := h
  simp [List.getD, List.getElem?_append_left hi]
theorem qs_pre {i : Nat} : qsA W i <+: qsA W (i + 1) := by
  conv => rhs; unfold qsA
  split
  · exact ck_pre _
  · exact List.prefix_refl _
theorem qs_pre' {i : Nat} : ∀ d, qsA W i <+: qsA W (i + d)
  | 0 => List.prefix_refl _
  | d + 1 => (qs_pre' d).trans qs_pre
theorem qs_stay {i : Nat} (h : (qsA W i).length ≤ i) : ∀ d, qsA W (i + d) = qsA W i
  | 0 => rfl
  | d + 1 => by
    show (if i + d < (qsA W (i + d)).length then ckA W ((qsA W (i + d)).getD (i + d) []) (qsA W (i + d)) W.length else qsA W (i + d)) = _
    rw [qs_stay h d, if_neg (by omega)]
theorem rest_len : (restL W).length ≤ (sufs W).length := (qs_st _).len
theorem rest_step {i : Nat} (h : i < (restL W).length) : ∀ k, k < W.length → (restL W).getD i [] ≠ [] →
    ((W.getD k [] <+: (restL W).getD i [] → ((restL W).getD i []).drop (W.getD k []).length ∈ restL W) ∧ (¬ W.getD k [] <+: (restL W).getD i [] → (restL W).getD i [] <+: W.getD k [] → (W.getD k []).drop ((restL W).getD i []).length ∈ restL W)) := by
  intro k hk h0
  have hK := rest_len (W := W)
  -- the element is there when its turn comes
  have hil : i < (qsA W i).length := by
    refine Classical.byContradiction fun hc => ?_
    have := qs_stay (i := i) (W := W) (by omega) ((sufs W).length - i)
    rw [show i + ((sufs W).length - i) = (sufs W).length by omega] at this
    have e : restL W = qsA W i := this
    rw [e] at h; exact hc h
  have hsub : ∀ j, j ≤ (sufs W).length → qsA W j <+: restL W := fun j hj => by
    have := qs_pre' (W := W) (i := j) ((sufs W).length - j)
    rwa [show j + ((sufs W).length - j) = (sufs W).length by omega] at this
  have hat : (restL W).getD i [] = (qsA W i).getD i [] := preS_at (hsub i (by omega)) hil
  have hnext : qsA W (i + 1) = ckA W ((qsA W i).getD i []) (qsA W i) W.length := by
    conv => lhs; unfold qsA
    rw [if_pos hil]
  have hs1 := hsub (i + 1) (by omega)
  rw [hnext] at hs1
  rw [hat] at h0 ⊢
  generalize (qsA W i).getD i [] = r at h0 hs1
  have hck : ∀ n, k < n → n ≤ W.length → ((W.getD k [] <+: r → r.drop (W.getD k []).length ∈ ckA W r (qsA W i) n) ∧ (¬ W.getD k [] <+: r → r <+: W.getD k [] → (W.getD k []).drop r.length ∈ ckA W r (qsA W i) n)) := by
    intro n
    induction n with
    | zero => intro h; omega
    | succ n ih =>
      intro h1 h2
      have hsub1 : ckA W r (qsA W i) n <+: ckA W r (qsA W i) (n + 1) := by
        conv => rhs; unfold ckA
        rw [if_neg h0]
        split
        · exact addS_pre
        · split
          · exact addS_pre
          · exact List.prefix_refl _
      rcases Nat.lt_or_ge k n with h3 | h3
      · obtain ⟨a, b⟩ := ih h3 (by omega)
        exact ⟨fun h => hsub1.subset (a h), fun h h' => hsub1.subset (b h h')⟩
      · obtain rfl : k = n := by omega
        unfold ckA
        rw [if_neg h0]
        constructor
        · intro h; rw [if_pos h]; exact addS_mem.2 (.inr rfl)
        · intro h h'; rw [if_neg h, if_pos h']; exact addS_mem.2 (.inr rfl)
  obtain ⟨a, b⟩ := hck W.length hk (Nat.le_refl _)
  exact ⟨fun h => hs1.subset (a h), fun h h' => hs1.subset (b h h')⟩
theorem rest_ini {x y : Nat} (hx : x < W.length) (hy : y < W.length) (hne : x ≠ y) (h : W.getD y [] <+: W.getD x []) : (W.getD x []).drop (W.getD y []).length ∈ restL W := by
  have h1 : (W.getD x []).drop (W.getD y []).length ∈ ixA W W.length := by
    have hiy : ∀ n, y < n → n ≤ W.length → (W.getD x []).drop (W.getD y []).length ∈ iyA W x (ixA W x) n := by
      intro n
      induction n with
      | zero => intro h; omega
      | succ n ih =>
        intro h1 h2
        unfold iyA
        rcases Nat.lt_or_ge y n with h3 | h3
        · split
          · exact addS_mem.2 (.inl (ih h3 (by omega)))
          · exact ih h3 (by omega)
        · obtain rfl : y = n := by omega
          rw [if_pos ⟨hne, h⟩]
          exact addS_mem.2 (.inr rfl)
    have hix : ∀ n, x < n → n ≤ W.length → (W.getD x []).drop (W.getD y []).length ∈ ixA W n := by
      intro n
      induction n with
      | zero => intro h; omega
      | succ n ih =>
        intro h1 h2
        rcases Nat.lt_or_ge x n with h3 | h3
        · exact (iy_pre _).subset (ih h3 (by omega))
        · obtain rfl : x = n := by omega
          exact hiy _ hy (Nat.le_refl _)
    exact hix _ hx (Nat.le_refl _)
  have := (qs_pre' (W := W) (i := 0) (sufs W).length).subset h1
  rwa [Nat.zero_add] at this
theorem rest_mem {r : Wd} : r ∈ restL W ↔ DerR W r := by
  constructor
  · exact (qs_st _).2 r
  · intro h
    induction h with
    | ini hx hy hne h => exact rest_ini hx hy hne h
    | inn h h0 hu hp ih =>
      obtain ⟨i, hi, e⟩ := W_at ih
      obtain ⟨k, hk, e2⟩ := W_at hu
      have := (rest_step hi k hk (by rw [e]; exact h0)).1 (by rw [e, e2]; exact hp)
      rwa [e, e2] at this
    | ovr h h0 hu hn hp ih =>
      obtain ⟨i, hi, e⟩ := W_at ih
      obtain ⟨k, hk, e2⟩ := W_at hu
      have := (rest_step hi k hk (by rw [e]; exact h0)).2 (by rw [e, e2]; exact hn) (by rw [e, e2]; exact hp)
      rwa [e, e2] at this
theorem rest_clsd (h0 : [] ∉ restL W) : Clsd W (restL W) where
  ne := h0
  step := fun r hr u hu => ⟨fun h => rest_mem.2 (.inn (rest_mem.1 hr) (fun e => h0 (e ▸ hr)) hu h), fun h1 h2 => rest_mem.2 (.ovr (rest_mem.1 hr) (fun e => h0 (e ▸ hr)) hu h1 h2)⟩
def opn (W : List Wd) (i : Nat) (u : Wd) : Prop := rd W [] u = true ∧ ∃ k, k < W.length ∧ k ≠ i ∧ rd W (W.getD k []) (W.getD i [] ++ u) = true
theorem opn_less {i : Nat} {u v : Wd} (h : opn W i (u ++ v)) : opn W i u := by
  obtain ⟨h1, k, hk, hne, h2⟩ := h
  rw [← List.append_assoc] at h2
  exact ⟨rd_less h1, k, hk, hne, rd_less h2⟩
def DlNo (W : List Wd) : Prop := ∃ i, i < W.length ∧ ∀ n, ∃ u, u.length = n ∧ opn W i u
def DlIs (W : List Wd) (d : Nat) : Prop := (∀ i u, i < W.length → opn W i u → u.length < d) ∧ ∀ n, n < d → ∃ i, i < W.length ∧ ∃ u, u.length = n ∧ opn W i u
theorem DlIs.one {d e : Nat} (h : DlIs W d) (h2 : DlIs W e) : d = e := by
  have key : ∀ {a b : Nat}, DlIs W a → DlIs W b → a ≤ b := fun {a b} ha hb => by
    refine Nat.not_lt.1 fun hlt => ?_
    obtain ⟨i, hi, u, e, ho⟩ := ha.2 b hlt
    have := hb.1 i u hi ho
    omega
  exact Nat.le_antisymm (key h h2) (key h2 h)
theorem DlIs.not {d : Nat} (h : DlIs W d) : ¬ DlNo W := fun ⟨i, hi, hn⟩ => by
  obtain ⟨u, e, ho⟩ := hn d
  have := h.1 i u hi ho
  omega
theorem opn_in {x y : Nat} (hx : x < W.length) (hy : y < W.length) (hne : x ≠ y) (h : W.getD y [] <+: W.getD x []) {n : Nat} (hf : Fr W (((W.getD x []).drop (W.getD y []).length).length + n) ((W.getD x []).drop (W.getD y []).length)) : ∃ u, u.length = n ∧ opn W x u := by
  obtain ⟨v, e, h1, h2⟩ := hf
  rcases rd_pre.1 h2 with h3 | ⟨h3, h4⟩
  · have h5 := h3.length_le
    have h6 : n = 0 := by omega
    subst h6
    have h7 : v = (W.getD x []).drop (W.getD y []).length := h3.eq_of_length (by omega)
    refine ⟨[], rfl, rfl, y, hy, Ne.symm hne, ?_⟩
    rw [List.append_nil, ← pre_drop h, rd_app0, ← h7]; exact h1
  · obtain ⟨u, rfl⟩ := h3
    refine ⟨u, by simpa using e, by simpa using h4, y, hy, Ne.symm hne, ?_⟩
    have e2 : W.getD x [] ++ u = W.getD y [] ++ ((W.getD x []).drop (W.getD y []).length ++ u) := by rw [← List.append_assoc, pre_drop h]
    rw [e2, rd_app0]; exact h1
theorem opn_ov {x y : Nat} (hx : x < W.length) (hy : y < W.length) (hne : x ≠ y) (h : W.getD x [] <+: W.getD y []) {n : Nat} (hf : Fr W n ((W.getD y []).drop (W.getD x []).length)) : ∃ u, u.length = n ∧ opn W x u := by
  obtain ⟨u, e, h1, h2⟩ := hf
  exact ⟨u, e, h1, y, hy, Ne.symm hne, by rw [rd_split h]; exact h2⟩
theorem opn_cases {x : Nat} {u : Wd} (hx : x < W.length) (h : opn W x u) : ∃ y, y < W.length ∧ x ≠ y ∧ ((W.getD y [] <+: W.getD x [] ∧ Fr W (((W.getD x []).drop (W.getD y []).length).length + u.length) ((W.getD x []).drop (W.getD y []).length)) ∨ (W.getD x [] <+: W.getD y [] ∧ Fr W u.length ((W.getD y []).drop (W.getD x []).length))) := by
  obtain ⟨h1, y, hy, hne, h2⟩ := h
  refine ⟨y, hy, Ne.symm hne, ?_⟩
  by_cases h3 : W.getD x [] <+: W.getD y []
  · exact .inr ⟨h3, u, rfl, h1, by rw [← rd_split h3]; exact h2⟩
  · have h4 : W.getD y [] <+: W.getD x [] := by
      rcases rd_pre.1 h2 with h5 | ⟨h5, _⟩
      · exact absurd ((List.prefix_append _ _).trans h5) h3
      · rcases List.prefix_or_prefix_of_prefix h5 (List.prefix_append _ _) with h6 | h6
        · exact h6
        · exact absurd h6 h3
    refine .inl ⟨h4, (W.getD x []).drop (W.getD y []).length ++ u, by simp, ?_, by rw [rd_app0]; exact h1⟩
    have e2 : W.getD x [] ++ u = W.getD y [] ++ ((W.getD x []).drop (W.getD y []).length ++ u) := by rw [← List.append_assoc, pre_drop h4]
    rw [e2, rd_app0] at h2; exact h2
theorem rd_long (h0 : 0 < W.length) (hW : ∀ x ∈ W, x ≠ []) : ∀ n, ∃ u : Wd, u.length = n ∧ rd W [] u = true := by
  obtain ⟨x, hx⟩ : ∃ x, x ∈ W := ⟨_, W_mem h0⟩
  have hl : ∀ n, ∃ u : Wd, n ≤ u.length ∧ rd W [] u = true := by
    intro n
    induction n with
    | zero => exact ⟨[], Nat.le_refl _, rfl⟩
    | succ n ih =>
      obtain ⟨u, h1, h2⟩ := ih
      have := List.length_pos_iff.2 (hW x hx)
      refine ⟨x ++ u, by simp; omega, rd_of_word hx (by rw [rd_app0]; exact h2)⟩
  intro n
  obtain ⟨u, h1, h2⟩ := hl n
  exact ⟨u.take n, by rw [List.length_take]; omega, rd_less' (List.take_prefix _ _) h2⟩
theorem no_end (hW : ∀ x ∈ W, x ≠ []) {r : Wd} (h : DerR W r) (hf : ∀ n, Fr W n r) : DlNo W := by
  induction h with
  | ini hx hy hne h => exact ⟨_, hx, fun n => opn_in hx hy hne h (hf _)⟩
  | inn h h0 hu hp ih => exact ih fun n => Gn_less (Nat.le_add_left _ _) (fr_in hu hp (hf n))
  | ovr h h0 hu hn hp ih => exact ih fun n => Gn_less (Nat.le_add_left _ _) (fr_over hu hp (hf n))
end
def stopN (W l : List Wd) (n : Nat) : Bool := decide (itN W l n = itN W l (n + 1))
def lenF (W l : List Wd) : Option Nat := if [] ∈ l then none else (List.range (l.length + 2)).find? (stopN W l)
def lenW (W : List Wd) : Option (List Nat) := (lenF W (restL W)).map fun n => itN W (restL W) n
def tgD (W : List Wd) (most : List Nat) (x y : Nat) : Nat :=
  if x ≠ y ∧ W.getD y [] <+: W.getD x [] then (W.getD y []).length + most.getD ((restL W).idxOf ((W.getD x []).drop (W.getD y []).length)) 0
  else if x ≠ y ∧ W.getD x [] <+: W.getD y [] then (W.getD x []).length + most.getD ((restL W).idxOf ((W.getD y []).drop (W.getD x []).length)) 0 else 0
def dUp (W : List Wd) (most : List Nat) (x y d : Nat) : Nat := if (W.getD x []).length ≤ tgD W most x y ∧ d < tgD W most x y - (W.getD x []).length + 1 then tgD W most x y - (W.getD x []).length + 1 else d
def dyA (W : List Wd) (most : List Nat) (x d : Nat) : Nat → Nat
  | 0 => d
  | y + 1 => dUp W most x y (dyA W most x d y)
def dxA (W : List Wd) (most : List Nat) : Nat → Nat
  | 0 => 0
  | x + 1 => dyA W most x (dxA W most x) W.length
def dlR (W : List Wd) : Option Nat := (lenW W).map fun most => dxA W most W.length
section
variable {W : List Wd}
theorem dUp_ge {most : List Nat} {x y d n : Nat} : n < dUp W most x y d ↔ n < d ∨ ((W.getD x []).length + n ≤ tgD W most x y) := by
  unfold dUp
  split
  · rename_i h; omega
  · rename_i h; omega
theorem dyA_ge {most : List Nat} {x d n : Nat} : ∀ k, n < dyA W most x d k ↔ n < d ∨ ∃ y, y < k ∧ (W.getD x []).length + n ≤ tgD W most x y
  | 0 => by simp [dyA]
  | k + 1 => by
    show n < dUp W most x k (dyA W most x d k) ↔ _
    rw [dUp_ge, dyA_ge k]
    constructor
    · rintro ((h | ⟨y, hy, h⟩) | h)
      · exact .inl h
      · exact .inr ⟨y, by omega, h⟩
      · exact .inr ⟨k, by omega, h⟩
    · rintro (h | ⟨y, hy, h⟩)
      · exact .inl (.inl h)
      · rcases Nat.lt_or_ge y k with h2 | h2
        · exact .inl (.inr ⟨y, h2, h⟩)
        · obtain rfl : y = k := by omega
          exact .inr h
theorem dxA_ge {most : List Nat} {n : Nat} : ∀ k, n < dxA W most k ↔ ∃ x, x < k ∧ ∃ y, y < W.length ∧ (W.getD x []).length + n ≤ tgD W most x y
  | 0 => by simp [dxA]
  | k + 1 => by
    show n < dyA W most k (dxA W most k) W.length ↔ _
    rw [dyA_ge, dxA_ge k]
    constructor
    · rintro (⟨x, hx, h⟩ | h)
      · exact ⟨x, by omega, h⟩
      · exact ⟨k, by omega, h⟩
    · rintro ⟨x, hx, h⟩
      rcases Nat.lt_or_ge x k with h2 | h2
      · exact .inl ⟨x, h2, h⟩
      · obtain rfl : x = k := by omega
        exact .inr h
def Mst (W : List Wd) (most : List Nat) : Prop := ∀ r ∈ restL W, Fr W (most.getD ((restL W).idxOf r) 0) r ∧ ∀ n, Fr W n r → n ≤ most.getD ((restL W).idxOf r) 0
theorem tgD_iff (hW : ∀ x ∈ W, x ≠ []) (hd : W.Nodup) {most : List Nat} (hm : Mst W most) {x : Nat} (hx : x < W.length) {n : Nat} : (∃ y, y < W.length ∧ (W.getD x []).length + n ≤ tgD W most x y) ↔ ∃ u, u.length = n ∧ opn W x u := by
  constructor
  · rintro ⟨y, hy, h⟩
    have hxp := List.length_pos_iff.2 (hW _ (W_mem hx))
    unfold tgD at h
    split at h
    · rename_i h1
      have hr := rest_ini hx hy h1.1 h1.2
      refine opn_in hx hy h1.1 h1.2 (Gn_less ?_ (hm _ hr).1)
      have := h1.2.length_le
      rw [List.length_drop]; omega
    · split at h
      · rename_i h1
        have hr := rest_ini hy hx (Ne.symm h1.1) h1.2
        exact opn_ov hx hy h1.1 h1.2 (Gn_less (by omega) (hm _ hr).1)
      · omega
  · rintro ⟨u, rfl, ho⟩
    obtain ⟨y, hy, hne, h⟩ := opn_cases hx ho
    refine ⟨y, hy, ?_⟩
    unfold tgD
    by_cases h1 : W.getD y [] <+: W.getD x []
    · rw [if_pos ⟨hne, h1⟩]
      have hr := rest_ini hx hy hne h1
      have hl := h1.length_le
      rcases h with ⟨_, h2⟩ | ⟨h2, _⟩
      · have := (hm _ hr).2 _ h2
        rw [List.length_drop] at this
        omega
      · exfalso
        have e : W.getD x [] = W.getD y [] := h2.eq_of_length_le h1.length_le
        rw [List.getD_eq_getElem?_getD, List.getElem?_eq_getElem hx, List.getD_eq_getElem?_getD, List.getElem?_eq_getElem hy] at e
        have hpw := List.pairwise_iff_getElem.1 hd
        rcases Nat.lt_trichotomy x y with h3 | h3 | h3
        · exact hpw x y hx hy h3 e
        · exact hne h3
        · exact hpw y x hy hx h3 e.symm
    · rw [if_neg (fun h2 => h1 h2.2)]
      rcases h with ⟨h2, _⟩ | ⟨h2, h3⟩
      · exact absurd h2 h1
      · rw [if_pos ⟨hne, h2⟩]
        have hr := rest_ini hy hx (Ne.symm hne) h2
        have := (hm _ hr).2 _ h3
        omega
theorem lenF_some {l : List Wd} {n : Nat} (h : lenF W l = some n) : [] ∉ l ∧ itN W l n = itN W l (n + 1) := by
  unfold lenF at h
  split at h
  · cases h
  · rename_i h1
    have := List.find?_some h
    exact ⟨h1, of_decide_eq_true this⟩
theorem lenF_none {l : List Wd} (h : lenF W l = none) (h0 : [] ∉ l) : ∀ n, n ≤ l.length + 1 → itN W l n ≠ itN W l (n + 1) := by
  unfold lenF at h
  rw [if_neg h0] at h
  intro n hn e
  have := List.find?_eq_none.1 h n (List.mem_range.2 (by omega))
  exact this (decide_eq_true e)
theorem bnd_max {P : Nat → Prop} (h0 : P 0) (hl : ∀ n m, n ≤ m → P m → P n) {N : Nat} (h : ¬ P N) : ∃ k, P k ∧ ∀ n, P n → n ≤ k := by
  induction N with
  | zero => exact absurd h0 h
  | succ N ih =>
    by_cases hN : P N
    · exact ⟨N, hN, fun n hn => Nat.not_lt.1 fun hlt => h (hl _ _ hlt hn)⟩
    · exact ih hN
theorem dlR_is (hW : ∀ x ∈ W, x ≠ []) (hd : W.Nodup) {d : Nat} (h : dlR W = some d) : DlIs W d := by
  unfold dlR lenW at h
  cases hf : lenF W (restL W) with
  | none => rw [hf] at h; cases h
  | some n =>
    rw [hf] at h
    obtain ⟨h0, hfix⟩ := lenF_some hf
    have hcl := rest_clsd h0
    have hm : Mst W (itN W (restL W) n) := fun r hr => by
      obtain ⟨_, h1, h2⟩ := plS_mem hr
      have h3 := it_sound hcl n _ h1
      rw [h2] at h3
      refine ⟨h3, fun k hk => ?_⟩
      have := fix_max hcl hW (now := itN W (restL W) n) hfix.symm k _ h1
      rw [h2] at this
      exact this hk
    have e : dxA W (itN W (restL W) n) W.length = d := by simpa using h
    subst e
    constructor
    · intro i u hi ho
      exact (dxA_ge _).2 ⟨i, hi, (tgD_iff hW hd hm hi).2 ⟨u, rfl, ho⟩⟩
    · intro k hk
      obtain ⟨x, hx, h1⟩ := (dxA_ge _).1 hk
      exact ⟨x, hx, (tgD_iff hW hd hm hx).1 h1⟩
theorem dlR_no (hW : ∀ x ∈ W, x ≠ []) (hn : 0 < W.length) (h : dlR W = none) : DlNo W := by
  unfold dlR lenW at h
  cases hf : lenF W (restL W) with
  | some n => rw [hf] at h; cases h
  | none =>
    by_cases h0 : [] ∈ restL W
    · refine no_end hW (rest_mem.1 h0) fun n => ?_
      obtain ⟨u, e, hr⟩ := rd_long hn hW n
      exact ⟨u, e, hr, hr⟩
    · refine Classical.byContradiction fun hno => ?_
      have hb : ∀ r, r ∈ restL W → ∃ k, Fr W k r ∧ ∀ n, Fr W n r → n ≤ k := fun r hr => by
        refine Classical.byContradiction fun hc => hno (no_end hW (rest_mem.1 hr) fun N => ?_)
        refine Classical.byContradiction fun hN => hc ?_
        exact bnd_max (P := fun n => Fr W n r) Gn_zero (fun n m h1 h2 => Gn_less h1 h2) hN
      let H : Wd → Nat := fun r => if hr : r ∈ restL W then (hb r hr).choose else 0
      have hH : ∀ r ∈ restL W, Fr W (H r) r ∧ ∀ n, Fr W n r → n ≤ H r := fun r hr => by
        have : H r = (hb r hr).choose := dif_pos hr
        rw [this]
        exact (hb r hr).choose_spec
      obtain ⟨k, hk, e⟩ := it_stop (rest_clsd h0) hW H hH
      exact lenF_none hf h0 k (by omega) e.symm
end
abbrev Rc := Wd × Wd
def sucA (W : List Wd) (p : Rc) : Nat → List Rc
  | 0 => []
  | i + 1 => sucA W p i ++ aft W p (letters.getD i 0)
def sucs (W : List Wd) (q : Nat) (p : Rc) : List Rc := sucA W p q
def LtOK (q : Nat) (s : Wd) : Prop := ∀ c ∈ s, ∃ i, i < q ∧ letters.getD i 0 = c
def RcOK (q : Nat) (p : Rc) : Prop := LtOK q p.1 ∧ LtOK q p.2
def HV (W : List Wd) (p : Rc) (v : Nat) : Prop := Gn W v p.1 p.2 ∧ ¬ Gn W (v + 1) p.1 p.2
section
variable {W : List Wd} {q : Nat}
theorem suc_mem {p r : Rc} : ∀ {n : Nat}, r ∈ sucA W p n ↔ ∃ i, i < n ∧ r ∈ aft W p (letters.getD i 0)
  | 0 => by simp [sucA]
  | n + 1 => by
    show r ∈ sucA W p n ++ _ ↔ _
    rw [List.mem_append, suc_mem]
    constructor
    · rintro (⟨i, hi, h⟩ | h)
      · exact ⟨i, by omega, h⟩
      · exact ⟨n, by omega, h⟩
    · rintro ⟨i, hi, h⟩
      rcases Nat.lt_or_ge i n with h2 | h2
      · exact .inl ⟨i, h2, h⟩
      · obtain rfl : i = n := by omega
        exact .inr h
theorem rst_ok (hW : ∀ w ∈ W, LtOK q w) {s t : Wd} {l : UInt8} (hs : LtOK q s) (h : t ∈ rst W s l) : LtOK q t ∧ ∃ i, i < q ∧ letters.getD i 0 = l := by
  cases s with
  | nil =>
    have h1 := hW _ (rst_nil.1 h)
    exact ⟨fun c hc => h1 c (List.mem_cons_of_mem _ hc), h1 l List.mem_cons_self⟩
  | cons a r =>
    obtain ⟨rfl, rfl⟩ := rst_cons.1 h
    exact ⟨fun c hc => hs c (List.mem_cons_of_mem _ hc), hs _ List.mem_cons_self⟩
theorem Gn_suc (hW : ∀ w ∈ W, LtOK q w) {p : Rc} (hp : RcOK q p) {n : Nat} : Gn W (n + 1) p.1 p.2 ↔ ∃ r ∈ sucs W q p, Gn W n r.1 r.2 := by
  rw [Gn_succ]
  constructor
  · rintro ⟨l, r, hr, hg⟩
    obtain ⟨i, hi, e⟩ := (rst_ok hW hp.1 (aft_mem.1 hr).1).2
    exact ⟨r, suc_mem.2 ⟨i, hi, by rw [e]; exact hr⟩, hg⟩
  · rintro ⟨r, hr, hg⟩
    obtain ⟨i, _, h⟩ := suc_mem.1 hr
    exact ⟨_, r, h, hg⟩
theorem HV.one {p : Rc} {v w : Nat} (h : HV W p v) (h2 : HV W p w) : v = w := by
  rcases Nat.lt_trichotomy v w with h3 | h3 | h3
  · exact absurd (Gn_less (by omega) h2.1) h.2
  · exact h3
  · exact absurd (Gn_less (by omega) h.1) h2.2
theorem hv_max (hW : ∀ w ∈ W, LtOK q w) {p : Rc} (hp : RcOK q p) {m : Nat} (h1 : ∀ y ∈ sucs W q p, ∃ v, HV W y v ∧ v + 1 ≤ m) (h2 : m = 0 ∨ ∃ y ∈ sucs W q p, ∃ v, HV W y v ∧ m = v + 1) : HV W p m := by
  constructor
  · rcases h2 with rfl | ⟨y, hy, v, hv, rfl⟩
    · exact Gn_zero
    · exact (Gn_suc hW hp).2 ⟨y, hy, hv.1⟩
  · intro hg
    obtain ⟨y, hy, h3⟩ := (Gn_suc hW hp).1 hg
    obtain ⟨v, hv, hle⟩ := h1 y hy
    exact hv.2 (Gn_less hle h3)
theorem inf_all (hW : ∀ w ∈ W, LtOK q w) {U : Rc → Prop} (hU : ∀ x, U x → RcOK q x ∧ ∃ y ∈ sucs W q x, U y) : ∀ n x, U x → Gn W n x.1 x.2
  | 0, _, _ => Gn_zero
  | n + 1, x, hx => by
    obtain ⟨h1, y, hy, h2⟩ := hU x hx
    exact (Gn_suc hW h1).2 ⟨y, hy, inf_all hW hU n y h2⟩
def lfv (W : List Wd) (q : Nat) (E : List Rc) (y : Rc) : Nat := (sucs W q y).countP fun z => !decide (z ∈ E)
theorem countP_split {E : List Rc} {x : Rc} (hx : x ∉ E) : ∀ l : List Rc, (l.countP fun z => !decide (z ∈ E)) = (l.countP fun z => !decide (z ∈ E ++ [x])) + l.count x
  | [] => rfl
  | a :: l => by
    have ih := countP_split hx l
    rw [List.countP_cons, List.countP_cons, List.count_cons, ih]
    by_cases h : a ∈ E
    · have h2 : a ≠ x := fun e => hx (e ▸ h)
      simp [h, h2]
    · by_cases h2 : a = x
      · subst h2; simp [h]; omega
      · simp [h, h2]; omega
theorem lfv_snoc {E : List Rc} {x y : Rc} (hx : x ∉ E) : lfv W q E y = lfv W q (E ++ [x]) y + (sucs W q y).count x := countP_split hx _
theorem lfv_zero {E : List Rc} {y : Rc} : lfv W q E y = 0 ↔ ∀ z ∈ sucs W q y, z ∈ E := by
  unfold lfv
  rw [List.countP_eq_zero]
  constructor
  · intro h z hz
    have := h z hz
    simpa using this
  · intro h z hz
    simpa using h z hz
def befL (W : List Wd) (q : Nat) (K : List Rc) (y : Rc) : List Rc := K.flatMap fun p => List.replicate ((sucs W q p).count y) p
theorem bef_count {y p : Rc} : ∀ {K : List Rc}, K.Nodup → p ∈ K → (befL W q K y).count p = (sucs W q p).count y
  | [], _, h => by cases h
  | a :: K, hn, h => by
    rw [List.nodup_cons] at hn
    show (List.replicate _ a ++ befL W q K y).count p = _
    rw [List.count_append, List.count_replicate]
    have h0 : ∀ {K : List Rc}, p ∉ K → (befL W q K y).count p = 0 := fun {K} hk => by
      rw [List.count_eq_zero]
      intro hm
      obtain ⟨b, hb, h2⟩ := List.mem_flatMap.1 hm
      have := (List.mem_replicate.1 h2).2
      exact hk (this ▸ hb)
    rcases List.mem_cons.1 h with rfl | h
    · rw [h0 hn.1]; simp
    · have h2 : ¬ a = p := fun e => hn.1 (e ▸ h)
      rw [bef_count hn.2 h]; simp [h2]
theorem bef_mem {y p : Rc} {K : List Rc} : p ∈ befL W q K y ↔ p ∈ K ∧ y ∈ sucs W q p := by
  unfold befL
  rw [List.mem_flatMap]
  constructor
  · rintro ⟨b, hb, h2⟩
    obtain ⟨h3, rfl⟩ := List.mem_replicate.1 h2
    exact ⟨hb, List.count_pos_iff.1 (Nat.pos_of_ne_zero h3)⟩
  · rintro ⟨h1, h2⟩
    exact ⟨p, h1, List.mem_replicate.2 ⟨Nat.pos_iff_ne_zero.1 (List.count_pos_iff.2 h2), rfl⟩⟩
def forever : Int := 9223372036854775807
structure Clr (W : List Wd) (q : Nat) (K : List Rc) : Prop where
  nd : K.Nodup
  ok : ∀ x ∈ K, RcOK q x
  suc : ∀ x ∈ K, ∀ y ∈ sucs W q x, y ∈ K
structure Peel (W : List Wd) (q : Nat) (K E Q : List Rc) (lv mv rv : Rc → Int) : Prop where
  nd : (E ++ Q).Nodup
  sub : ∀ x ∈ E ++ Q, x ∈ K
  lf : ∀ y ∈ K, lv y = lfv W q E y
  q0 : ∀ y ∈ K, (y ∈ E ++ Q ↔ lfv W q E y = 0)
  up : ∀ y ∈ K, ∀ z ∈ sucs W q y, z ∈ E → ∃ v : Nat, HV W z v ∧ (v : Int) + 1 ≤ mv y
  at_ : ∀ y ∈ K, mv y = 0 ∨ ∃ z ∈ sucs W q y, z ∈ E ∧ ∃ v : Nat, HV W z v ∧ mv y = (v : Int) + 1
  re : ∀ x ∈ E, ∃ v : Nat, HV W x v ∧ rv x = v
  fo : ∀ x ∈ K, x ∉ E → rv x = forever
structure PeelJ (W : List Wd) (q : Nat) (K E Q : List Rc) (x : Rc) (j : Nat) (lv mv rv : Rc → Int) : Prop where
  nd : ((E ++ [x]) ++ Q).Nodup
  sub : ∀ y ∈ (E ++ [x]) ++ Q, y ∈ K
  lf : ∀ y ∈ K, lv y = (lfv W q E y : Int) - ((befL W q K x).take j).count y
  q0 : ∀ y ∈ K, (y ∈ (E ++ [x]) ++ Q ↔ lv y = 0)
  up : ∀ y ∈ K, ∀ z ∈ sucs W q y, (z ∈ E ∨ (z = x ∧ y ∈ (befL W q K x).take j)) → ∃ v : Nat, HV W z v ∧ (v : Int) + 1 ≤ mv y
  at_ : ∀ y ∈ K, mv y = 0 ∨ ∃ z ∈ sucs W q y, z ∈ E ++ [x] ∧ ∃ v : Nat, HV W z v ∧ mv y = (v : Int) + 1
  re : ∀ y ∈ E ++ [x], ∃ v : Nat, HV W y v ∧ rv y = v
  fo : ∀ y ∈ K, y ∉ E ++ [x] → rv y = forever
theorem Peel.head (hW : ∀ w ∈ W, LtOK q w) {K E Q : List Rc} {x : Rc} {lv mv rv : Rc → Int} (hK : Clr W q K) (h : Peel W q K E (x :: Q) lv mv rv) :
    x ∈ K ∧ x ∉ E ∧ ∃ v : Nat, HV W x v ∧ mv x = v := by
  have hx : x ∈ E ++ x :: Q := List.mem_append_right _ List.mem_cons_self
  have hxK := h.sub x hx
  have hall := lfv_zero.1 ((h.q0 x hxK).1 hx)
  have hxE : x ∉ E := by
    have := h.nd
    rw [List.nodup_append] at this
    exact fun hE => this.2.2 x hE x List.mem_cons_self rfl
  refine ⟨hxK, hxE, ?_⟩
  rcases h.at_ x hxK with h0 | ⟨z, hz, hzE, v, hv, e⟩
  · refine ⟨0, hv_max hW (hK.ok x hxK) (fun y hy => ?_) (.inl rfl), h0⟩
    obtain ⟨v, hv, hle⟩ := h.up x hxK y hy (hall y hy)
    omega
  · refine ⟨v + 1, hv_max hW (hK.ok x hxK) (fun y hy => ?_) (.inr ⟨z, hz, v, hv, rfl⟩), by omega⟩
    obtain ⟨w, hw, hle⟩ := h.up x hxK y hy (hall y hy)
    exact ⟨w, hw, by omega⟩
theorem Peel.take (hW : ∀ w ∈ W, LtOK q w) {K E Q : List Rc} {x : Rc} {lv mv rv : Rc → Int} (hK : Clr W q K) (h : Peel W q K E (x :: Q) lv mv rv) :
    PeelJ W q K E Q x 0 lv mv (fun y => if y = x then mv x else rv y) := by
  obtain ⟨hxK, hxE, v, hv, e⟩ := h.head hW hK
  have hp : ((E ++ [x]) ++ Q) = E ++ x :: Q := by simp
  constructor
  · rw [hp]; exact h.nd
  · rw [hp]; exact h.sub
  · intro y hy; rw [h.lf y hy]; simp
  · intro y hy; rw [hp, h.q0 y hy, h.lf y hy]; omega
  · rintro y hy z hz (h1 | ⟨_, h1⟩)
    · exact h.up y hy z hz h1
    · simp at h1
  · intro y hy
    rcases h.at_ y hy with h1 | ⟨z, hz, hzE, w, hw, e2⟩
    · exact .inl h1
    · exact .inr ⟨z, hz, List.mem_append_left _ hzE, w, hw, e2⟩
  · intro y hy
    by_cases hyx : y = x
    · subst hyx; exact ⟨v, hv, by simp [e]⟩
    · obtain ⟨w, hw, e2⟩ := h.re y (by simpa [hyx] using hy)
      exact ⟨w, hw, by rw [if_neg hyx]; exact e2⟩
  · intro y hy hn
    have hyx : y ≠ x := fun e => hn (by subst e; simp)
    show (if y = x then _ else _) = _
    rw [if_neg hyx]
    exact h.fo y hy fun hE => hn (List.mem_append_left _ hE)
theorem PeelJ.step {K E Q : List Rc} {x : Rc} {j : Nat} {lv mv rv : Rc → Int} (hK : Clr W q K) (hxK : x ∈ K) (hxE : x ∉ E) (h : PeelJ W q K E Q x j lv mv rv) {v : Nat} (hv : HV W x v) (hj : j < (befL W q K x).length) {y : Rc} (hy : (befL W q K x)[j] = y) :
    y ∈ K ∧ 0 < lv y ∧ PeelJ W q K E (if lv y - 1 = 0 then Q ++ [y] else Q) x (j + 1) (fun z => if z = y then lv y - 1 else lv z) (fun z => if z = y then max (mv y) ((v : Int) + 1) else mv z) rv := by
  have hym : y ∈ befL W q K x := hy ▸ List.getElem_mem hj
  obtain ⟨hyK, hys⟩ := bef_mem.1 hym
  have htk : (befL W q K x).take (j + 1) = (befL W q K x).take j ++ [y] := by rw [List.take_succ_eq_append_getElem hj, hy]
  have hcnt : ((befL W q K x).take (j + 1)).count y ≤ (befL W q K x).count y := List.Sublist.count_le _ (List.take_sublist _ _)
  have hc2 : ((befL W q K x).take (j + 1)).count y = ((befL W q K x).take j).count y + 1 := by rw [htk, List.count_append]; simp
  have hc3 : ∀ z, z ≠ y → ((befL W q K x).take (j + 1)).count z = ((befL W q K x).take j).count z := fun z hz => by
    rw [htk, List.count_append]; simp [Ne.symm hz]
  have hsn := lfv_snoc (W := W) (q := q) (y := y) hxE
  have hbc := bef_count (W := W) (q := q) (y := x) hK.nd hyK
  have hpos : 0 < lv y := by rw [h.lf y hyK]; omega
  have hyn : y ∉ (E ++ [x]) ++ Q := fun hm => by have := (h.q0 y hyK).1 hm; omega
  refine ⟨hyK, hpos, ?_⟩
  have hset : ∀ z, z ∈ (E ++ [x]) ++ (if lv y - 1 = 0 then Q ++ [y] else Q) ↔ (z ∈ (E ++ [x]) ++ Q ∨ (z = y ∧ lv y - 1 = 0)) := fun z => by
    by_cases h0 : lv y - 1 = 0
    · rw [if_pos h0]; simp [h0, or_assoc]
    · rw [if_neg h0]; simp [h0]
  constructor
  · by_cases h0 : lv y - 1 = 0
    · rw [if_pos h0, ← List.append_assoc, List.nodup_append]
      exact ⟨h.nd, by simp, fun a ha b hb e => by rw [List.mem_singleton.1 hb] at e; subst e; exact hyn ha⟩
    · rw [if_neg h0]; exact h.nd
  · intro z hz
    rcases (hset z).1 hz with h1 | ⟨rfl, _⟩
    · exact h.sub z h1
    · exact hyK
  · intro z hz
    by_cases e : z = y
    · subst e; simp only [if_true]; rw [h.lf z hz, hc2]; omega
    · simp only [if_neg e]; rw [h.lf z hz, hc3 z e]
  · intro z hz
    rw [hset]
    by_cases e : z = y
    · subst e; rw [if_pos rfl]
      exact ⟨fun h1 => h1.elim (fun h2 => absurd h2 hyn) fun h2 => h2.2, fun h1 => .inr ⟨rfl, h1⟩⟩
    · simp only [if_neg e]
      rw [← h.q0 z hz]
      exact ⟨fun h1 => h1.elim id fun h2 => absurd h2.1 e, .inl⟩
  · rintro z hz t ht h1
    by_cases e : z = y
    · subst e
      simp only [if_true]
      rcases h1 with h1 | ⟨rfl, _⟩
      · obtain ⟨w, hw, hle⟩ := h.up z hz t ht (.inl h1)
        exact ⟨w, hw, by omega⟩
      · exact ⟨v, hv, by omega⟩
    · simp only [if_neg e]
      refine h.up z hz t ht (h1.imp id fun h2 => ⟨h2.1, ?_⟩)
      have := h2.2
      rw [htk] at this
      simpa [e] using this
  · intro z hz
    by_cases e : z = y
    · subst e
      simp only [if_true]
      by_cases hm : mv z ≤ (v : Int) + 1
      · exact .inr ⟨x, hys, by simp, v, hv, by omega⟩
      · rcases h.at_ z hz with h1 | h1
        · omega
        · obtain ⟨t, ht, htE, w, hw, e2⟩ := h1
          exact .inr ⟨t, ht, htE, w, hw, by omega⟩
    · simp only [if_neg e]; exact h.at_ z hz
  · exact h.re
  · exact h.fo
theorem PeelJ.done {K E Q : List Rc} {x : Rc} {lv mv rv : Rc → Int} (hK : Clr W q K) (hxK : x ∈ K) (hxE : x ∉ E) (h : PeelJ W q K E Q x (befL W q K x).length lv mv rv) : Peel W q K (E ++ [x]) Q lv mv rv := by
  have hlf : ∀ y ∈ K, lv y = lfv W q (E ++ [x]) y := fun y hy => by
    rw [h.lf y hy, List.take_length, bef_count hK.nd hy]
    have := lfv_snoc (W := W) (q := q) (y := y) hxE
    omega
  constructor
  · exact h.nd
  · exact h.sub
  · exact hlf
  · intro y hy; rw [h.q0 y hy, hlf y hy]; omega
  · intro y hy z hz hzE
    rcases List.mem_append.1 hzE with h1 | h1
    · exact h.up y hy z hz (.inl h1)
    · have h2 := List.mem_singleton.1 h1
      subst h2
      exact h.up y hy z hz (.inr ⟨rfl, by rw [List.take_length]; exact bef_mem.2 ⟨hy, hz⟩⟩)
  · exact h.at_
  · exact h.re
  · exact h.fo
def RvOK (W : List Wd) (p : Rc) (r : Int) : Prop := (∃ v : Nat, HV W p v ∧ r = v) ∨ (r = forever ∧ ∀ n, Gn W n p.1 p.2)
theorem Peel.fin (hW : ∀ w ∈ W, LtOK q w) {K E : List Rc} {lv mv rv : Rc → Int} (hK : Clr W q K) (h : Peel W q K E [] lv mv rv) : ∀ x ∈ K, RvOK W x (rv x) := by
  intro x hx
  by_cases hE : x ∈ E
  · exact .inl (h.re x hE)
  · refine .inr ⟨h.fo x hx hE, fun n => inf_all hW (U := fun y => y ∈ K ∧ y ∉ E) (fun y hy => ⟨hK.ok y hy.1, ?_⟩) n x ⟨hx, hE⟩⟩
    refine Classical.byContradiction fun hc => hy.2 ?_
    have : lfv W q E y = 0 := lfv_zero.2 fun z hz => Classical.byContradiction fun hzE => hc ⟨z, hz, hK.suc y hy.1 z hz, hzE⟩
    simpa using (h.q0 y hy.1).2 this
end
end Go.Proofs.Ytoafgeobhhlplaa
