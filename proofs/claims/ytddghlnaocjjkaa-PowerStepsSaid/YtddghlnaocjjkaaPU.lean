/-
  Plain: lists of edges that follow each other, in lexicographic order; higher graphs.
-/
import Derived.Test.YtddghlnaocjjkaaPT
namespace Go.Proofs.Ytddghlnaocjjkaa
set_option linter.unusedSimpArgs false
set_option linter.unusedVariables false
open Go Go.Lift

/-- lists of numbers compared. -/
def cmpLL : List Int → List Int → Int
  | [], [] => 0
  | [], _ :: _ => -1
  | _ :: _, [] => 1
  | x :: a, y :: b => if x < y then -1 else if y < x then 1 else cmpLL a b
theorem cmpLL_self : ∀ (a : List Int), cmpLL a a = 0
  | [] => rfl
  | x :: a => by unfold cmpLL; rw [if_neg (by omega), if_neg (by omega), cmpLL_self a]
theorem cmpLL_anti : ∀ {a b : List Int}, cmpLL a b < 0 → 0 < cmpLL b a
  | [], [], h => by simp [cmpLL] at h
  | [], _ :: _, _ => by simp [cmpLL]
  | _ :: _, [], h => by simp [cmpLL] at h
  | x :: a, y :: b, h => by
    unfold cmpLL at h ⊢
    by_cases h1 : x < y
    · rw [if_neg (by omega), if_pos h1]; omega
    · rw [if_neg h1] at h
      by_cases h2 : y < x
      · rw [if_pos h2] at h; omega
      · rw [if_neg h2] at h
        rw [if_neg h2, if_neg h1]
        exact cmpLL_anti h
theorem cmpLL_at : ∀ {a b : List Int} {k : Nat}, (∀ j, j < k → a.getD j 0 = b.getD j 0) → k < a.length → k < b.length → a.getD k 0 ≠ b.getD k 0 → cmpLL a b = if a.getD k 0 < b.getD k 0 then -1 else if b.getD k 0 < a.getD k 0 then 1 else 0
  | [], _, k, _, h, _, _ => absurd h (Nat.not_lt_zero _)
  | _ :: _, [], k, _, _, h, _ => absurd h (Nat.not_lt_zero _)
  | x :: a, y :: b, 0, _, _, _, hn => by
    simp only [List.getD_cons_zero] at hn ⊢
    unfold cmpLL
    by_cases h1 : x < y
    · rw [if_pos h1, if_pos h1]
    · rw [if_neg h1, if_neg h1, if_pos (by omega), if_pos (by omega)]
  | x :: a, y :: b, k + 1, h0, h1, h2, hn => by
    have hx := h0 0 (by omega)
    simp only [List.getD_cons_zero] at hx
    simp only [List.getD_cons_succ] at hn ⊢
    unfold cmpLL
    rw [if_neg (by omega), if_neg (by omega)]
    exact cmpLL_at (fun j hj => by have := h0 (j + 1) (by omega); simpa using this) (by simpa using h1) (by simpa using h2) hn
theorem cmpLL_end : ∀ {a b : List Int}, (∀ j, j < a.length → j < b.length → a.getD j 0 = b.getD j 0) → cmpLL a b = if a.length < b.length then -1 else if b.length < a.length then 1 else 0
  | [], [], _ => rfl
  | [], _ :: _, _ => by simp [cmpLL]
  | _ :: _, [], _ => by simp [cmpLL]
  | x :: a, y :: b, h => by
    have hx := h 0 (by simp) (by simp)
    simp only [List.getD_cons_zero] at hx
    unfold cmpLL
    rw [if_neg (by omega), if_neg (by omega), cmpLL_end (a := a) (b := b) fun j h1 h2 => by have := h (j + 1) (by simpa using h1) (by simpa using h2); simpa using this]
    simp only [List.length_cons, Nat.add_lt_add_iff_right]
abbrev AscL (B : List (List Int)) : Prop := B.Pairwise fun a b => cmpLL a b < 0
theorem ascL_at {B : List (List Int)} (h : AscL B) {i j : Nat} (hij : i < j) (hj : j < B.length) : cmpLL (B.getD i []) (B.getD j []) < 0 := by
  have := List.pairwise_iff_getElem.1 h i j (by omega) hj hij
  rwa [getD_get (show i < B.length by omega), getD_get hj]
/-- a list found at its place: less are those ahead of it. -/
theorem cmp_place {B : List (List Int)} (h : AscL B) {i r : Nat} (hi : i < B.length) (hr : r < B.length) : cmpLL (B.getD i []) (B.getD r []) < 0 ↔ i < r := by
  rcases Nat.lt_trichotomy i r with h1 | h1 | h1
  · exact ⟨fun _ => h1, fun _ => ascL_at h h1 hr⟩
  · subst h1; rw [cmpLL_self]; omega
  · have := cmpLL_anti (ascL_at h h1 hi)
    exact ⟨fun h2 => by omega, fun h2 => by omega⟩

/-- the edges behind a list of edges. -/
def nxt (g : Gr) (p : List Int) : List (List Int) := (List.range g.edges.length).flatMap fun i => if (g.edges.getD (p.getLastD 0).toNat de).to = (g.edges.getD i de).frm then [p ++ [(i : Int)]] else []
def nxtAt (g : Gr) (p : List Int) (m : Nat) : List (List Int) := (List.range m).flatMap fun i => if (g.edges.getD (p.getLastD 0).toNat de).to = (g.edges.getD i de).frm then [p ++ [(i : Int)]] else []
def pth (g : Gr) : Nat → List (List Int)
  | 0 => (List.range g.edges.length).map fun (i : Nat) => [(i : Int)]
  | k + 1 => (pth g k).flatMap (nxt g)
def pthAt (g : Gr) (k i m : Nat) : List (List Int) := ((pth g k).take i).flatMap (nxt g) ++ nxtAt g ((pth g k).getD i []) m
theorem nxtAt_succ {g : Gr} {p : List Int} {m : Nat} : nxtAt g p (m + 1) = nxtAt g p m ++ (if (g.edges.getD (p.getLastD 0).toNat de).to = (g.edges.getD m de).frm then [p ++ [(m : Int)]] else []) := by
  unfold nxtAt; rw [List.range_succ, List.flatMap_append]; simp
theorem nxtAt_len {g : Gr} {p : List Int} {m : Nat} : (nxtAt g p m).length ≤ m := by
  induction m with
  | zero => simp [nxtAt]
  | succ m ih =>
    rw [nxtAt_succ, List.length_append]
    split <;> simp <;> omega
theorem pthAt_zero {g : Gr} {k : Nat} : pthAt g k 0 0 = [] := by simp [pthAt, nxtAt]
theorem pthAt_succ {g : Gr} {k i m : Nat} : pthAt g k i (m + 1) = pthAt g k i m ++ (if (g.edges.getD (((pth g k).getD i []).getLastD 0).toNat de).to = (g.edges.getD m de).frm then [(pth g k).getD i [] ++ [(m : Int)]] else []) := by
  unfold pthAt; rw [nxtAt_succ, List.append_assoc]
theorem pthAt_next {g : Gr} {k i : Nat} (hi : i < (pth g k).length) : pthAt g k i g.edges.length = pthAt g k (i + 1) 0 := by
  unfold pthAt
  rw [List.take_succ_eq_append_getElem hi, List.flatMap_append, ← getD_get (d := []) hi]
  simp [nxtAt, nxt]
theorem pthAt_all {g : Gr} {k : Nat} : pthAt g k (pth g k).length 0 = pth g (k + 1) := by simp [pthAt, nxtAt, pth]
theorem flat_len {α β : Type} {f : α → List β} {m : Nat} (h : ∀ x, (f x).length ≤ m) : ∀ (l : List α), (l.flatMap f).length ≤ l.length * m
  | [] => by simp
  | x :: l => by
    rw [List.flatMap_cons, List.length_append, List.length_cons, Nat.add_mul, Nat.one_mul]
    have := flat_len h l
    have := h x
    omega
theorem pthAt_len {g : Gr} {k i m : Nat} (hed : g.edges.length ≤ 1024) (hp : (pth g k).length ≤ 64) (hi : i ≤ 64) (hm : m ≤ g.edges.length) : (pthAt g k i m).length ≤ 70000 := by
  unfold pthAt
  rw [List.length_append]
  have h1 := flat_len (f := nxt g) (m := 1024) (fun p => Nat.le_trans (nxtAt_len (m := g.edges.length)) hed) ((pth g k).take i)
  rw [List.length_take] at h1
  have h2 := nxtAt_len (g := g) (p := (pth g k).getD i []) (m := m)
  have h3 : min i (pth g k).length * 1024 ≤ 64 * 1024 := Nat.mul_le_mul (by omega) (by omega)
  omega
theorem nxt_mem {g : Gr} {p q : List Int} : q ∈ nxt g p ↔ ∃ i, i < g.edges.length ∧ (g.edges.getD (p.getLastD 0).toNat de).to = (g.edges.getD i de).frm ∧ q = p ++ [(i : Int)] := by
  unfold nxt
  rw [List.mem_flatMap]
  constructor
  · rintro ⟨i, hi, h⟩
    split at h
    · rename_i h2
      exact ⟨i, List.mem_range.1 hi, h2, by simpa using h⟩
    · cases h
  · rintro ⟨i, hi, h2, rfl⟩
    exact ⟨i, List.mem_range.2 hi, by rw [if_pos h2]; simp⟩
theorem pth_mem {g : Gr} {k : Nat} {q : List Int} : q ∈ pth g (k + 1) ↔ ∃ p ∈ pth g k, ∃ i, i < g.edges.length ∧ (g.edges.getD (p.getLastD 0).toNat de).to = (g.edges.getD i de).frm ∧ q = p ++ [(i : Int)] := by
  show q ∈ (pth g k).flatMap (nxt g) ↔ _
  rw [List.mem_flatMap]
  constructor
  · rintro ⟨p, hp, h⟩; exact ⟨p, hp, nxt_mem.1 h⟩
  · rintro ⟨p, hp, h⟩; exact ⟨p, hp, nxt_mem.2 h⟩
theorem pth_row {g : Gr} : ∀ {k : Nat} {p : List Int}, p ∈ pth g k → p.length = k + 1 ∧ ∀ x ∈ p, 0 ≤ x ∧ x < g.edges.length
  | 0, p, h => by
    obtain ⟨i, hi, rfl⟩ := List.mem_map.1 h
    have := List.mem_range.1 hi
    refine ⟨rfl, fun x hx => ?_⟩
    have : x = (i : Int) := by simpa using hx
    omega
  | k + 1, p, h => by
    obtain ⟨q, hq, i, hi, _, rfl⟩ := pth_mem.1 h
    obtain ⟨h1, h2⟩ := pth_row hq
    refine ⟨by simp [h1], fun x hx => ?_⟩
    rcases List.mem_append.1 hx with hx | hx
    · exact h2 x hx
    · have : x = (i : Int) := by simpa using hx
      omega
theorem cmp_app : ∀ {a b : List Int} (c d : List Int), a.length = b.length → cmpLL a b < 0 → cmpLL (a ++ c) (b ++ d) < 0
  | [], [], c, d, _, h => by simp [cmpLL] at h
  | [], _ :: _, c, d, h, _ => by simp at h
  | _ :: _, [], c, d, h, _ => by simp at h
  | x :: a, y :: b, c, d, hl, h => by
    rw [List.cons_append, List.cons_append]
    unfold cmpLL at h ⊢
    by_cases h1 : x < y
    · rw [if_pos h1]; omega
    · rw [if_neg h1] at h ⊢
      by_cases h2 : y < x
      · rw [if_pos h2] at h; omega
      · rw [if_neg h2] at h ⊢
        exact cmp_app c d (by simpa using hl) h
theorem cmp_same (p : List Int) {c d : List Int} : cmpLL (p ++ c) (p ++ d) = cmpLL c d := by
  induction p with
  | nil => rfl
  | cons x p ih =>
    rw [List.cons_append, List.cons_append, cmpLL, if_neg (by omega), if_neg (by omega), ih]
theorem nxtAt_asc {g : Gr} {p : List Int} : ∀ {m : Nat}, AscL (nxtAt g p m) ∧ ∀ q ∈ nxtAt g p m, ∃ i : Nat, i < m ∧ q = p ++ [(i : Int)]
  | 0 => by simp [nxtAt, AscL]
  | m + 1 => by
    obtain ⟨h1, h2⟩ := nxtAt_asc (g := g) (p := p) (m := m)
    rw [nxtAt_succ]
    split
    · refine ⟨List.pairwise_append.2 ⟨h1, by simp, fun a ha b hb => ?_⟩, fun q hq => ?_⟩
      · obtain ⟨i, hi, rfl⟩ := h2 a ha
        have : b = p ++ [(m : Int)] := by simpa using hb
        subst this
        rw [cmp_same]
        unfold cmpLL
        rw [if_pos (by omega)]; omega
      · rcases List.mem_append.1 hq with hq | hq
        · obtain ⟨i, hi, e⟩ := h2 q hq; exact ⟨i, by omega, e⟩
        · exact ⟨m, by omega, by simpa using hq⟩
    · rw [List.append_nil]
      exact ⟨h1, fun q hq => by obtain ⟨i, hi, e⟩ := h2 q hq; exact ⟨i, by omega, e⟩⟩
theorem flat_asc {g : Gr} {k : Nat} : ∀ {l : List (List Int)}, AscL l → (∀ p ∈ l, p.length = k) → AscL (l.flatMap (nxt g))
  | [], _, _ => by simp [AscL]
  | p :: l, h, hk => by
    obtain ⟨h1, h2⟩ := List.pairwise_cons.1 h
    rw [List.flatMap_cons]
    refine List.pairwise_append.2 ⟨(nxtAt_asc (m := g.edges.length)).1, flat_asc h2 fun q hq => hk q (List.mem_cons_of_mem _ hq), fun a ha b hb => ?_⟩
    obtain ⟨i, _, _, rfl⟩ := nxt_mem.1 ha
    obtain ⟨q, hq, hb⟩ := List.mem_flatMap.1 hb
    obtain ⟨j, _, _, rfl⟩ := nxt_mem.1 hb
    exact cmp_app _ _ (by rw [hk p (List.mem_cons_self ..), hk q (List.mem_cons_of_mem _ hq)]) (h1 q hq)
theorem pth_asc {g : Gr} : ∀ {k : Nat}, AscL (pth g k)
  | 0 => by
    show ((List.range g.edges.length).map fun (i : Nat) => [(i : Int)]).Pairwise _
    rw [List.pairwise_map]
    refine List.pairwise_lt_range.imp fun {a b} h => ?_
    unfold cmpLL
    rw [if_pos (by omega)]; omega
  | k + 1 => flat_asc pth_asc fun p hp => (pth_row hp).1
/-- without its last edge, and without its first one, a list is a list of one edge less. -/
theorem pth_take {g : Gr} : ∀ {k : Nat} {p : List Int}, p ∈ pth g (k + 1) → p.take (k + 1) ∈ pth g k
  | k, p, h => by
    obtain ⟨q, hq, i, hi, _, rfl⟩ := pth_mem.1 h
    rw [List.take_append_of_le_length (by rw [(pth_row hq).1]; omega), List.take_of_length_le (by rw [(pth_row hq).1]; omega)]
    exact hq
theorem pth_drop {g : Gr} : ∀ {k : Nat} {p : List Int}, p ∈ pth g (k + 1) → p.drop 1 ∈ pth g k
  | 0, p, h => by
    obtain ⟨q, hq, i, hi, _, rfl⟩ := pth_mem.1 h
    obtain ⟨j, hj, rfl⟩ := List.mem_map.1 hq
    exact List.mem_map.2 ⟨i, List.mem_range.2 hi, rfl⟩
  | k + 1, p, h => by
    obtain ⟨q, hq, i, hi, he, rfl⟩ := pth_mem.1 h
    have h1 := pth_drop hq
    have hl := (pth_row hq).1
    have hl2 := (pth_row h1).1
    rw [List.drop_append_of_le_length (by omega)]
    refine pth_mem.2 ⟨q.drop 1, h1, i, hi, ?_, rfl⟩
    have : (q.drop 1).getLastD 0 = q.getLastD 0 := by
      match q, hl with
      | x :: y :: r, _ => simp [List.getLastD]
    rw [this]; exact he
def plc (B : List (List Int)) (x : List Int) : Nat := B.idxOf x
theorem plc_at {B : List (List Int)} {x : List Int} (h : x ∈ B) : plc B x < B.length ∧ B.getD (plc B x) [] = x := by
  have h1 : B.idxOf x < B.length := List.idxOf_lt_length_iff.2 h
  exact ⟨h1, by unfold plc; rw [getD_get h1]; exact List.getElem_idxOf h1⟩
/-- the edge of a list of n + 1 edges, between lists of n edges. -/
def hiEd (g : Gr) (n : Nat) (p : List Int) : Edge := ⟨plc (pth g (n - 1)) (p.take n), (g.edges.getD (p.getD n 0).toNat de).lab, plc (pth g (n - 1)) (p.drop 1)⟩
def hiE (g : Gr) (n : Nat) : List Edge := (pth g n).map (hiEd g n)
/-- the first number of edges whose lists are too many. -/
def hiBad (g : Gr) (n : Nat) : Bool := (List.range n).any fun k => decide (64 < (pth g k).length)
def hiN (g : Gr) (n : Int) : Int := if gcheck g ≠ 0 then 1 else if n < 0 ∨ 16 < n then 2 else if n = 0 then 0 else if hiBad g n.toNat then 4 else if 1024 < (pth g n.toNat).length then 4 else mkN g.labels (pth g (n.toNat - 1)).length (hiE g n.toNat)
def hiX (g : Gr) (n : Int) : Gr := if hiN g n ≠ 0 then ⟨0, 0, []⟩ else if n = 0 then g else mkX g.labels (pth g (n.toNat - 1)).length (hiE g n.toNat)
theorem hi_no {g : Gr} {n m : Int} (h : hiN g n = m) (hm : m ≠ 0) : hiX g n = ⟨0, 0, []⟩ := if_pos (by rw [h]; exact hm)
theorem hiE_nodup {g : Gr} {n : Nat} (hn : 1 ≤ n) : (hiE g n).Nodup := by
  obtain ⟨m, rfl⟩ : ∃ m, n = m + 1 := ⟨n - 1, by omega⟩
  rw [List.nodup_iff_pairwise_ne, hiE, List.pairwise_map]
  refine (pth_asc (k := m + 1)).imp_of_mem fun {a b} ha hb h e => ?_
  have e1 := congrArg Edge.frm e
  have e2 := congrArg Edge.to e
  simp only [hiEd, Nat.add_sub_cancel] at e1 e2
  have ta := plc_at (pth_take ha)
  have tb := plc_at (pth_take hb)
  have da := plc_at (pth_drop ha)
  have db := plc_at (pth_drop hb)
  have f1 : a.take (m + 1) = b.take (m + 1) := by rw [← ta.2, ← tb.2, show plc (pth g m) (a.take (m + 1)) = plc (pth g m) (b.take (m + 1)) by omega]
  have f2 : a.drop 1 = b.drop 1 := by rw [← da.2, ← db.2, show plc (pth g m) (a.drop 1) = plc (pth g m) (b.drop 1) by omega]
  have : a = b := by
    match a, b, (pth_row ha).1, (pth_row hb).1 with
    | x :: a, y :: b, _, _ =>
      simp at f1 f2
      rw [f1.1, f2]
  subst this
  rw [cmpLL_self] at h
  omega
end Go.Proofs.Ytddghlnaocjjkaa
