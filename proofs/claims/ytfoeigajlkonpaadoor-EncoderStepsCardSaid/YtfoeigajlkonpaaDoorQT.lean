/-
  Plain: numerals, keys of sets, texts.
-/
import Derived.Test.YtfoeigajlkonpaaDoorQX
namespace Go.Proofs.YtfoeigajlkonpaaDoor
set_option linter.unusedSimpArgs false
set_option linter.unusedVariables false
open Go Go.Lift

theorem sep_inj {c : UInt8} : ∀ {u v x y : List UInt8}, c ∉ u → c ∉ v → u ++ c :: x = v ++ c :: y → u = v ∧ x = y
  | [], [], x, y, _, _, h => ⟨rfl, by simpa using h⟩
  | [], b :: v, x, y, _, hv, h => by
    simp only [List.nil_append, List.cons_append, List.cons.injEq] at h
    exact absurd (h.1 ▸ List.mem_cons_self) hv
  | a :: u, [], x, y, hu, _, h => by
    simp only [List.nil_append, List.cons_append, List.cons.injEq] at h
    exact absurd (h.1 ▸ List.mem_cons_self) hu
  | a :: u, b :: v, x, y, hu, hv, h => by
    simp only [List.cons_append, List.cons.injEq] at h
    obtain ⟨h1, h2⟩ := sep_inj (fun hc => hu (List.mem_cons_of_mem _ hc)) (fun hc => hv (List.mem_cons_of_mem _ hc)) h.2
    exact ⟨by rw [h.1, h1], h2⟩

/-- numerals of numbers below 100. -/
def itoa2 (n : Int) : List UInt8 := if n < 10 then [ltr n] else [ltr (n / 10), ltr (n % 10)]
theorem itoa2_val : ∀ n : Nat, n < 100 → valW 10 (itoa2 n) = n := by decide
theorem itoa2_inj {a b : Int} (ha : 0 ≤ a ∧ a < 100) (hb : 0 ≤ b ∧ b < 100) (h : itoa2 a = itoa2 b) : a = b := by
  obtain ⟨m, rfl⟩ : ∃ m : Nat, a = m := ⟨a.toNat, by omega⟩
  obtain ⟨n, rfl⟩ : ∃ n : Nat, b = n := ⟨b.toNat, by omega⟩
  have h1 := itoa2_val m (by omega)
  have h2 := itoa2_val n (by omega)
  rw [h, h2] at h1
  exact h1.symm
theorem itoa2_dig : ∀ n : Nat, n < 100 → ∀ c ∈ itoa2 n, c ∈ letters := by decide
theorem itoa2_let {a : Int} (ha : 0 ≤ a ∧ a < 100) {c : UInt8} (h : c ∈ itoa2 a) : c ∈ letters := by
  obtain ⟨m, rfl⟩ : ∃ m : Nat, a = m := ⟨a.toNat, by omega⟩
  exact itoa2_dig m (by omega) c h
theorem itoa2_no {a : Int} (ha : 0 ≤ a ∧ a < 100) {c : UInt8} (hc : c ∉ letters) : c ∉ itoa2 a := fun h => hc (itoa2_let ha h)
theorem itoa2_len {a : Int} : (itoa2 a).length ≤ 2 ∧ 1 ≤ (itoa2 a).length := by unfold itoa2; split <;> simp

/-- the key of a set. -/
def keyS (x : List Int) : List UInt8 := x.flatMap fun n => itoa2 n ++ [32]
theorem keyS_nil : keyS [] = [] := rfl
theorem keyS_cons {n : Int} {x : List Int} : keyS (n :: x) = itoa2 n ++ 32 :: keyS x := by simp [keyS]
theorem keyS_succ {x : List Int} {k : Nat} (h : k < x.length) : keyS (x.take (k + 1)) = keyS (x.take k) ++ (itoa2 (x.getD k 0) ++ [32]) := by
  unfold keyS
  rw [List.take_succ_eq_append_getElem h, List.flatMap_append, getD_get h]; simp
theorem keyS_len (x : List Int) : (keyS x).length ≤ 3 * x.length := by
  induction x with
  | nil => simp [keyS]
  | cons n x ih =>
    rw [keyS_cons]
    have := (itoa2_len (a := n)).1
    simp only [List.length_append, List.length_cons]
    omega
theorem keyS_inj : ∀ {x y : List Int}, (∀ n ∈ x, 0 ≤ n ∧ n < 100) → (∀ n ∈ y, 0 ≤ n ∧ n < 100) → keyS x = keyS y → x = y
  | [], [], _, _, _ => rfl
  | [], b :: y, _, _, h => by rw [keyS_cons, keyS_nil] at h; simp at h
  | a :: x, [], _, _, h => by rw [keyS_cons, keyS_nil] at h; simp at h
  | a :: x, b :: y, hx, hy, h => by
    rw [keyS_cons, keyS_cons] at h
    have ha := hx a List.mem_cons_self
    have hb := hy b List.mem_cons_self
    obtain ⟨h1, h2⟩ := sep_inj (itoa2_no ha (by decide)) (itoa2_no hb (by decide)) h
    rw [itoa2_inj ha hb h1, keyS_inj (fun n hn => hx n (List.mem_cons_of_mem _ hn)) (fun n hn => hy n (List.mem_cons_of_mem _ hn)) h2]
end Go.Proofs.YtfoeigajlkonpaaDoor

namespace Go.Proofs.YtfoeigajlkonpaaDoor
set_option linter.unusedSimpArgs false
set_option linter.unusedVariables false
open Go Go.Lift

/-- sets with their numbers, from m on. -/
def numK (m : Nat) : List (List Int) → List (List UInt8 × Int)
  | [] => []
  | x :: r => (keyS x, (m : Int)) :: numK (m + 1) r
theorem numK_app : ∀ {l : List (List Int)} {m : Nat} {x : List Int}, numK m (l ++ [x]) = numK m l ++ [(keyS x, ((m + l.length : Nat) : Int))]
  | [], m, x => rfl
  | y :: l, m, x => by
    simp only [List.cons_append, numK, numK_app (l := l), List.length_cons]
    rw [show m + 1 + l.length = m + (l.length + 1) by omega]
theorem numK_len : ∀ {l : List (List Int)} {m : Nat}, (numK m l).length = l.length
  | [], m => rfl
  | y :: l, m => by simp only [numK, List.length_cons, numK_len (l := l)]
def Small (x : List Int) : Prop := ∀ n ∈ x, 0 ≤ n ∧ n < 100
theorem numK_get : ∀ {l : List (List Int)} {m : Nat} {x : List Int}, (∀ y ∈ l, Small y) → Small x → alGet (numK m l) (keyS x) = if x ∈ l then some ((m + l.idxOf x : Nat) : Int) else none
  | [], m, x, _, _ => rfl
  | y :: l, m, x, hl, hx => by
    simp only [numK, alGet]
    by_cases he : keyS x = keyS y
    · rw [if_pos he]
      obtain rfl := keyS_inj hx (hl y List.mem_cons_self) he
      rw [if_pos List.mem_cons_self, List.idxOf_cons_self]; rfl
    · rw [if_neg he, numK_get (fun y hy => hl y (List.mem_cons_of_mem _ hy)) hx]
      have hne : x ≠ y := fun h => he (by rw [h])
      by_cases hm : x ∈ l
      · rw [if_pos hm, if_pos (List.mem_cons_of_mem _ hm), List.idxOf_cons, show (y == x) = false from beq_false_of_ne (fun h => hne h.symm), cond_false]
        rw [show m + 1 + l.idxOf x = m + (l.idxOf x + 1) by omega]
      · rw [if_neg hm, if_neg]
        intro h
        rcases List.mem_cons.1 h with h | h
        · exact hne h
        · exact hm h
theorem alPut_end {α β : Type} [DecidableEq α] : ∀ {m : List (α × β)} {k : α} {v : β}, alGet m k = none → alPut m k v = m ++ [(k, v)]
  | [], k, v, _ => rfl
  | (a, b) :: m, k, v, h => by
    simp only [alGet] at h
    split at h
    · cases h
    · rename_i hne
      simp only [alPut, if_neg hne, alPut_end h, List.cons_append]

/-- the edges as a map from ends with labels. -/
def keyE (x : Edge) : Edge := ⟨x.frm, x.lab, 0⟩
def nextM (l : List Edge) : List (Edge × Int) := l.map fun x => (keyE x, x.to)
theorem nextM_get : ∀ {l : List Edge} {t k : Int}, alGet (nextM l) ⟨t, k, 0⟩ = (l.find? fun x => decide (x.frm = t ∧ x.lab = k)).map Edge.to
  | [], t, k => rfl
  | x :: l, t, k => by
    show (if _ then _ else _) = _
    by_cases h : x.frm = t ∧ x.lab = k
    · rw [if_pos (by unfold keyE; rw [h.1, h.2]), List.find?_cons_of_pos (by exact decide_eq_true h)]; rfl
    · rw [if_neg (fun he => h ⟨(congrArg Edge.frm he).symm, (congrArg Edge.lab he).symm⟩), List.find?_cons_of_neg (by simpa using h)]
      exact nextM_get
theorem nextM_put {l : List Edge} (hs : l.Pairwise fun a b => a.frm < b.frm ∨ a.frm = b.frm ∧ a.lab < b.lab) {k : Nat} (hk : k < l.length) : alPut (nextM (l.take k)) (keyE (l.getD k de)) (l.getD k de).to = nextM (l.take (k + 1)) := by
  rw [alPut_end, List.take_succ_eq_append_getElem hk, getD_get hk]
  · unfold nextM; rw [List.map_append]; rfl
  · show alGet (nextM (l.take k)) ⟨(l.getD k de).frm, (l.getD k de).lab, 0⟩ = none
    rw [nextM_get, List.find?_eq_none.2]
    · rfl
    · intro x hx he
      obtain ⟨j, hj, rfl⟩ := List.mem_iff_getElem.1 hx
      rw [List.length_take] at hj
      rw [List.getElem_take] at he
      have h1 := of_decide_eq_true he
      have := List.pairwise_iff_getElem.1 hs j k (by omega) hk (by omega)
      rw [getD_get hk] at h1
      omega
theorem sbTo_get {st : Sb} {t k : Int} (h : ∀ x ∈ st.es, 0 ≤ x.to) : (alGet (nextM st.es) ⟨t, k, 0⟩).isSome = decide (0 ≤ sbTo st t k) ∧ (0 ≤ sbTo st t k → alGet (nextM st.es) ⟨t, k, 0⟩ = some (sbTo st t k)) := by
  rw [nextM_get]
  unfold sbTo
  cases hf : st.es.find? (fun x : Edge => decide (x.frm = t ∧ x.lab = k)) with
  | none => exact ⟨rfl, fun h => absurd (show (0 : Int) ≤ -1 from h) (by decide)⟩
  | some x => exact ⟨(decide_eq_true (h x (List.mem_of_find?_eq_some hf))).symm, fun _ => rfl⟩

/-- words with a byte between them. -/
def joinB (c : UInt8) : List (List UInt8) → List UInt8
  | [] => []
  | [w] => w
  | w :: v :: r => w ++ c :: joinB c (v :: r)
theorem joinB_succ {c : UInt8} : ∀ {l : List (List UInt8)} {w : List UInt8}, l ≠ [] → joinB c (l ++ [w]) = joinB c l ++ c :: w
  | [], w, h => absurd rfl h
  | [v], w, _ => rfl
  | v :: x :: l, w, _ => by
    show v ++ c :: joinB c ((x :: l) ++ [w]) = _
    rw [joinB_succ (by simp)]
    simp [joinB]
theorem joinB_inj {c : UInt8} : ∀ {l m : List (List UInt8)}, (∀ w ∈ l, c ∉ w) → (∀ w ∈ m, c ∉ w) → l.length = m.length → joinB c l = joinB c m → l = m
  | [], [], _, _, _, _ => rfl
  | [v], [w], _, _, _, h => by rw [show v = w from h]
  | v :: x :: l, w :: y :: m, h1, h2, h3, h => by
    obtain ⟨k1, k2⟩ := sep_inj (h1 v List.mem_cons_self) (h2 w List.mem_cons_self) h
    rw [k1, joinB_inj (fun w hw => h1 w (List.mem_cons_of_mem _ hw)) (fun w hw => h2 w (List.mem_cons_of_mem _ hw)) (by simpa using h3) k2]
theorem joinB_mem {c a : UInt8} : ∀ {l : List (List UInt8)}, a ∈ joinB c l → a = c ∨ ∃ w ∈ l, a ∈ w
  | [w], h => .inr ⟨w, List.mem_singleton.2 rfl, h⟩
  | w :: v :: r, h => by
    rcases List.mem_append.1 h with h1 | h1
    · exact .inr ⟨w, List.mem_cons_self, h1⟩
    · rcases List.mem_cons.1 h1 with h2 | h2
      · exact .inl h2
      · rcases joinB_mem h2 with h3 | ⟨u, h3, h4⟩
        · exact .inl h3
        · exact .inr ⟨u, List.mem_cons_of_mem _ h3, h4⟩
theorem joinB_count {c a : UInt8} (hne : c ≠ a) : ∀ {l : List (List UInt8)}, (joinB c l).count a = (l.map fun w => w.count a).sum
  | [] => rfl
  | [w] => by simp [joinB]
  | w :: v :: r => by
    show (w ++ c :: joinB c (v :: r)).count a = _
    rw [List.count_append, List.count_cons_of_ne hne, joinB_count hne]
    simp
theorem joinB_len {c : UInt8} {n : Nat} : ∀ {l : List (List UInt8)}, (∀ w ∈ l, w.length ≤ n) → (joinB c l).length ≤ l.length * (n + 1)
  | [], _ => by simp [joinB]
  | [w], h => by have := h w List.mem_cons_self; simp [joinB]; omega
  | w :: v :: r, h => by
    have h1 := h w List.mem_cons_self
    have h2 := joinB_len (c := c) (l := v :: r) (fun w hw => h w (List.mem_cons_of_mem _ hw))
    show (w ++ c :: joinB c (v :: r)).length ≤ _
    rw [List.length_append, List.length_cons, show (w :: v :: r).length = (v :: r).length + 1 from rfl, Nat.add_mul]
    omega

def lineT (ws : List (List UInt8)) : List UInt8 := joinB 32 ws ++ [10]
def cellT (c : Cell) : List UInt8 := c.word ++ 62 :: itoa2 c.to
def encW : List UInt8 := [101, 110, 99, 111, 100, 101, 114]
def headW (e : Enc) : List (List UInt8) := [encW, itoa2 e.letters, itoa2 e.block, itoa2 e.inputs, itoa2 e.rows.length]
def rowT (r : List Cell) : List UInt8 := lineT (r.map cellT)
/-- the text of an encoder. -/
def textE (e : Enc) : List UInt8 := lineT (headW e) ++ e.rows.flatMap rowT
end Go.Proofs.YtfoeigajlkonpaaDoor

namespace Go.Proofs.YtfoeigajlkonpaaDoor
set_option linter.unusedSimpArgs false
set_option linter.unusedVariables false
open Go Go.Lift

structure SmallE (e : Enc) : Prop where
  ok : checkE e = 0
  inputs : e.inputs < 100
  rows : e.rows.length < 100
theorem cell_let {e : Enc} (hv : checkE e = 0) {r : List Cell} (hr : r ∈ e.rows) {c : Cell} (hc : c ∈ r) : (0 ≤ c.to ∧ c.to < (e.rows.length : Int)) ∧ ∀ a ∈ c.word, a ∈ letters := by
  obtain ⟨s, hs, rfl⟩ := List.mem_iff_getElem.1 hr
  obtain ⟨i, hi, rfl⟩ := List.mem_iff_getElem.1 hc
  have hi' : i < (e.rows.getD s []).length := by rw [getD_get hs]; exact hi
  have h1 := cell_to hv hs hi'
  have h2 := cell_dig hv hs hi'
  have he : cellAt e s i = (e.rows[s])[i] := by unfold cellAt; rw [getD_get hi']; congr 1; exact getD_get hs
  rw [he] at h1 h2
  exact ⟨h1, fun a ha => idxB_ge.1 (h2 a ha).1⟩
theorem cellT_no {e : Enc} (h : SmallE e) {r : List Cell} (hr : r ∈ e.rows) {c : Cell} (hc : c ∈ r) {a : UInt8} (ha : a ∉ letters) (ha2 : a ≠ 62) : a ∉ cellT c := by
  obtain ⟨h1, h2⟩ := cell_let h.ok hr hc
  have := h.rows
  intro hm
  unfold cellT at hm
  rcases List.mem_append.1 hm with h3 | h3
  · exact ha (h2 a h3)
  · rcases List.mem_cons.1 h3 with h4 | h4
    · exact ha2 h4
    · exact itoa2_no (by omega) ha h4
theorem cellT_inj {e d : Enc} (he : SmallE e) (hd : SmallE d) {r q : List Cell} (hr : r ∈ e.rows) (hq : q ∈ d.rows) {c x : Cell} (hc : c ∈ r) (hx : x ∈ q) (h : cellT c = cellT x) : c = x := by
  obtain ⟨h1, h2⟩ := cell_let he.ok hr hc
  obtain ⟨h3, h4⟩ := cell_let hd.ok hq hx
  have := he.rows; have := hd.rows
  obtain ⟨k1, k2⟩ := sep_inj (fun hm => absurd (h2 _ hm) (by decide)) (fun hm => absurd (h4 _ hm) (by decide)) h
  have k3 := itoa2_inj (by omega) (by omega) k2
  obtain ⟨ct, cw⟩ := c; obtain ⟨xt, xw⟩ := x
  simp only at k1 k3
  rw [k1, k3]
theorem map_inj2 {α β : Type} {f : α → β} : ∀ {l m : List α}, (∀ x ∈ l, ∀ y ∈ m, f x = f y → x = y) → l.map f = m.map f → l = m
  | [], [], _, _ => rfl
  | [], y :: m, _, h => by simp at h
  | x :: l, [], _, h => by simp at h
  | x :: l, y :: m, hi, h => by
    simp only [List.map_cons, List.cons.injEq] at h
    rw [hi x List.mem_cons_self y List.mem_cons_self h.1, map_inj2 (fun a ha b hb => hi a (List.mem_cons_of_mem _ ha) b (List.mem_cons_of_mem _ hb)) h.2]
theorem rowT_no {e : Enc} (h : SmallE e) {r : List Cell} (hr : r ∈ e.rows) : (10 : UInt8) ∉ joinB 32 (r.map cellT) := by
  intro hm
  rcases joinB_mem hm with h1 | ⟨w, hw, h2⟩
  · exact absurd h1 (by decide)
  · obtain ⟨c, hc, rfl⟩ := List.mem_map.1 hw
    exact cellT_no h hr hc (by decide) (by decide) h2
theorem rowT_inj {e d : Enc} (he : SmallE e) (hd : SmallE d) : ∀ {l m : List (List Cell)}, (∀ r ∈ l, r ∈ e.rows ∧ (r.length : Int) = e.inputs) → (∀ r ∈ m, r ∈ d.rows ∧ (r.length : Int) = e.inputs) → l.length = m.length → l.flatMap rowT = m.flatMap rowT → l = m
  | [], [], _, _, _, _ => rfl
  | r :: l, q :: m, hl, hm, hn, h => by
    obtain ⟨a1, a2⟩ := hl r List.mem_cons_self
    obtain ⟨b1, b2⟩ := hm q List.mem_cons_self
    rw [List.flatMap_cons, List.flatMap_cons] at h
    unfold rowT lineT at h
    rw [List.append_assoc, List.append_assoc] at h
    obtain ⟨k1, k2⟩ := sep_inj (rowT_no he a1) (rowT_no hd b1) h
    have k3 := joinB_inj (fun w hw => by
      obtain ⟨c, hc, rfl⟩ := List.mem_map.1 hw
      exact cellT_no he a1 hc (by decide) (by decide)) (fun w hw => by
      obtain ⟨c, hc, rfl⟩ := List.mem_map.1 hw
      exact cellT_no hd b1 hc (by decide) (by decide)) (by simp; omega) k1
    have k4 := map_inj2 (fun x hx y hy hxy => cellT_inj he hd a1 b1 hx hy hxy) k3
    rw [k4, rowT_inj he hd (fun r hr => hl r (List.mem_cons_of_mem _ hr)) (fun r hr => hm r (List.mem_cons_of_mem _ hr)) (by simpa using hn) k2]
theorem row_inp {e : Enc} (hv : checkE e = 0) {r : List Cell} (hr : r ∈ e.rows) : (r.length : Int) = e.inputs := (rowCheck_valid ((checkE_valid hv).2.2.2 r hr)).1
theorem headW_no {e : Enc} (h : SmallE e) {a : UInt8} (ha : a ∉ letters) (ha2 : a ∉ encW) : ∀ w ∈ headW e, a ∉ w := by
  obtain ⟨hd, h0, h64, hr⟩ := checkE_valid h.ok
  obtain ⟨h1, h2, h3⟩ := hd
  have h4 := h.inputs; have h5 := h.rows
  intro w hw
  unfold headW at hw
  simp only [List.mem_cons, List.not_mem_nil, or_false] at hw
  rcases hw with rfl | rfl | rfl | rfl | rfl
  · exact ha2
  · exact itoa2_no (by omega) ha
  · exact itoa2_no (by omega) ha
  · exact itoa2_no (by omega) ha
  · exact itoa2_no (by omega) ha
theorem head_no {e : Enc} (h : SmallE e) : (10 : UInt8) ∉ joinB 32 (headW e) := by
  intro hm
  rcases joinB_mem hm with h1 | ⟨w, hw, h2⟩
  · exact absurd h1 (by decide)
  · exact headW_no h (by decide) (by decide) w hw h2
/-- different encoders have different texts. -/
theorem text_inj {e d : Enc} (he : SmallE e) (hd : SmallE d) (h : textE e = textE d) : e = d := by
  unfold textE lineT at h
  rw [List.append_assoc, List.append_assoc] at h
  obtain ⟨k1, k2⟩ := sep_inj (head_no he) (head_no hd) h
  have k3 := joinB_inj (headW_no he (by decide) (by decide)) (headW_no hd (by decide) (by decide)) rfl k1
  unfold headW at k3
  simp only [List.cons.injEq, and_true, true_and] at k3
  obtain ⟨a1, a2, a3, a4⟩ := k3
  obtain ⟨⟨e1, e2, e3⟩, e4, e5, _⟩ := checkE_valid he.ok
  obtain ⟨⟨d1, d2, d3⟩, d4, d5, _⟩ := checkE_valid hd.ok
  have := he.inputs; have := hd.inputs; have := he.rows; have := hd.rows
  have b1 := itoa2_inj (by omega) (by omega) a1
  have b2 := itoa2_inj (by omega) (by omega) a2
  have b3 := itoa2_inj (by omega) (by omega) a3
  have b4 := itoa2_inj (by omega) (by omega) a4
  have b5 := rowT_inj he hd (l := e.rows) (m := d.rows) (fun r hr => ⟨hr, row_inp he.ok hr⟩) (fun r hr => ⟨hr, by rw [b3]; exact row_inp hd.ok hr⟩) (by omega) k2
  obtain ⟨x1, x2, x3, x4⟩ := e; obtain ⟨y1, y2, y3, y4⟩ := d
  simp only at b1 b2 b3 b5
  rw [b1, b2, b3, b5]

theorem count_no {a : UInt8} {w : List UInt8} (h : a ∉ w) : w.count a = 0 := List.count_eq_zero.2 h
theorem sum_const {α : Type} {f : α → Nat} {n : Nat} : ∀ {l : List α}, (∀ x ∈ l, f x = n) → (l.map f).sum = l.length * n
  | [], _ => by simp
  | x :: l, h => by
    rw [List.map_cons, List.sum_cons, h x List.mem_cons_self, sum_const (fun y hy => h y (List.mem_cons_of_mem _ hy)), List.length_cons, Nat.add_mul]
    omega
theorem count_flat {α : Type} {f : α → List UInt8} {a : UInt8} : ∀ {l : List α}, (l.flatMap f).count a = (l.map fun x => (f x).count a).sum
  | [] => rfl
  | x :: l => by rw [List.flatMap_cons, List.count_append, count_flat]; simp
/-- a line for each state, and one in front. -/
theorem text_lines {e : Enc} (h : SmallE e) : (textE e).count 10 = e.rows.length + 1 := by
  unfold textE
  rw [List.count_append, count_flat, sum_const (n := 1)]
  · unfold lineT
    rw [List.count_append, count_no (head_no h)]
    simp; omega
  · intro r hr
    unfold rowT lineT
    rw [List.count_append, count_no (rowT_no h hr)]; rfl
theorem cellT_count {e : Enc} (h : SmallE e) {r : List Cell} (hr : r ∈ e.rows) {c : Cell} (hc : c ∈ r) : (cellT c).count 62 = 1 := by
  obtain ⟨h1, h2⟩ := cell_let h.ok hr hc
  have := h.rows
  unfold cellT
  rw [List.count_append, List.count_cons_self, count_no (fun hm => absurd (h2 _ hm) (by decide)), count_no (itoa2_no (by omega) (by decide))]
theorem text_cells {e : Enc} (h : SmallE e) : ((textE e).count 62 : Int) = e.rows.length * e.inputs := by
  unfold textE
  rw [List.count_append, count_flat, sum_const (n := e.inputs.toNat)]
  · unfold lineT
    rw [List.count_append, joinB_count (by decide), sum_const (n := 0) (fun w hw => count_no (headW_no h (by decide) (by decide) w hw))]
    have := (checkE_valid h.ok).1.inputs
    have h3 : (List.count (62 : UInt8) [10]) = 0 := rfl
    rw [h3]
    push_cast
    rw [Int.toNat_of_nonneg (by omega)]
    omega
  · intro r hr
    unfold rowT lineT
    have h1 := row_inp h.ok hr
    rw [List.count_append, joinB_count (by decide), List.map_map, sum_const (f := (fun w => List.count 62 w) ∘ cellT) (n := 1) (fun c hc => cellT_count h hr hc)]
    have h3 : (List.count (62 : UInt8) [10]) = 0 := rfl
    rw [h3]
    omega
theorem text_ends {e : Enc} (h : checkE e = 0) : ∃ w, textE e = w ++ [10] := by
  unfold textE
  cases hc : e.rows.reverse with
  | nil =>
    rw [List.reverse_eq_nil_iff] at hc
    rw [hc]
    exact ⟨joinB 32 (headW e), by simp [lineT]⟩
  | cons r l =>
    have he : e.rows = l.reverse ++ [r] := by rw [← List.reverse_reverse e.rows, hc]; simp
    rw [he, List.flatMap_append]
    refine ⟨lineT (headW e) ++ (l.reverse.flatMap rowT ++ joinB 32 (r.map cellT)), ?_⟩
    simp [rowT, lineT]
theorem textE_succ {e : Enc} {k : Nat} (h : k < e.rows.length) : (e.rows.take (k + 1)).flatMap rowT = (e.rows.take k).flatMap rowT ++ rowT (e.rows.getD k []) := by
  rw [List.take_succ_eq_append_getElem h, List.flatMap_append, getD_get h]; simp
end Go.Proofs.YtfoeigajlkonpaaDoor

namespace Go.Proofs.YtfoeigajlkonpaaDoor
set_option linter.unusedSimpArgs false
set_option linter.unusedVariables false
open Go Go.Lift

def greatTop (e : Enc) : Prop := (6 < (e.rows.length : Int) ∧ (e.rows.length : Int) ≤ 64) ∨ 65 < (e.rows.length : Int)
def greatWord (c : Cell) : Prop := 20 < (c.word.length : Int)
def greatLen (r : List Cell) : Prop := 6 < (r.length : Int)
def greatE (e : Enc) : Prop := greatTop e ∨ ∃ r ∈ e.rows, greatLen r ∨ ∃ c ∈ r, greatWord c
open Classical in
noncomputable def great (e : Enc) : Bool := decide (greatE e)
theorem great_yes {e : Enc} (h : greatE e) : great e = true := by simp [great, h]
theorem great_no {e : Enc} (h : ¬ greatTop e) (h2 : ∀ k, k < e.rows.length → ¬ greatLen (e.rows.getD k []) ∧ ∀ i, i < (e.rows.getD k []).length → ¬ greatWord ((e.rows.getD k []).getD i dc)) : great e = false := by
  have : ¬ greatE e := by
    rintro (h3 | ⟨r, hr, h4⟩)
    · exact h h3
    · obtain ⟨k, hk, hke⟩ := List.mem_iff_getElem.1 hr
      have h5 := h2 k hk
      have hg : e.rows.getD k [] = r := by simp [List.getD, hk, hke]
      rw [hg] at h5
      rcases h4 with h4 | ⟨c, hc, h6⟩
      · exact h5.1 h4
      · obtain ⟨i, hi, hie⟩ := List.mem_iff_getElem.1 hc
        have hg2 : r.getD i dc = c := by simp [List.getD, hi, hie]
        have := h5.2 i hi
        rw [hg2] at this
        exact this h6
  simp [great, this]
theorem great_row {e : Enc} {k : Nat} (hk : k < e.rows.length) (h : greatLen (e.rows.getD k [])) : great e = true := great_yes (.inr ⟨_, getD_mem hk, .inl h⟩)
theorem great_word {e : Enc} {k i : Nat} (hk : k < e.rows.length) (hi : i < (e.rows.getD k []).length) (h : greatWord ((e.rows.getD k []).getD i dc)) : great e = true := great_yes (.inr ⟨_, getD_mem hk, .inr ⟨_, getD_mem hi, h⟩⟩)
/-- what is not great is small. -/
structure Sml (e : Enc) : Prop where
  top : e.rows.length ≤ 65
  rows : e.rows.length ≤ 6 ∨ e.rows.length = 65
  row : ∀ r ∈ e.rows, r.length ≤ 6
  word : ∀ r ∈ e.rows, ∀ c ∈ r, c.word.length ≤ 20
theorem great_sml {e : Enc} (h : great e = false) : Sml e := by
  have h1 : ¬ greatE e := by simpa [great] using h
  unfold greatE greatTop greatLen greatWord at h1
  have h2 : ¬ ((6 < (e.rows.length : Int) ∧ (e.rows.length : Int) ≤ 64) ∨ 65 < (e.rows.length : Int)) := fun hh => h1 (.inl hh)
  refine ⟨by omega, by omega, fun r hr => ?_, fun r hr c hc => ?_⟩
  · refine Classical.byContradiction fun h3 => h1 (.inr ⟨r, hr, .inl (by omega)⟩)
  · refine Classical.byContradiction fun h3 => h1 (.inr ⟨r, hr, .inr ⟨c, hc, by omega⟩⟩)
theorem sml_rows {e : Enc} (h : Sml e) (hv : checkE e = 0) : e.rows.length ≤ 6 := by
  have := rows_len hv; have := h.rows; omega
theorem sml_inputs {e : Enc} (h : Sml e) (hv : checkE e = 0) : 1 ≤ e.inputs ∧ e.inputs ≤ 6 := by
  obtain ⟨h1, h2, _⟩ := checkE_valid hv
  have h3 := row_eq hv (k := 0) h2
  have h4 := h.row _ (getD_mem (d := []) h2)
  have := h1.inputs
  omega
theorem sml_small {e : Enc} (h : Sml e) (hv : checkE e = 0) : SmallE e := ⟨hv, by have := sml_inputs h hv; omega, by have := sml_rows h hv; omega⟩

theorem cellT_len {e : Enc} (hv : checkE e = 0) {r : List Cell} (hr : r ∈ e.rows) {c : Cell} (hc : c ∈ r) : (cellT c).length ≤ 19 := by
  have hb := (checkE_valid hv).1.block
  obtain ⟨s, hs, rfl⟩ := List.mem_iff_getElem.1 hr
  obtain ⟨i, hi, rfl⟩ := List.mem_iff_getElem.1 hc
  have hi' : i < (e.rows.getD s []).length := by rw [getD_get hs]; exact hi
  have h1 := cell_wlen hv hs hi'
  have he : cellAt e s i = (e.rows[s])[i] := by unfold cellAt; rw [getD_get hi']; congr 1; exact getD_get hs
  rw [he] at h1
  have := (itoa2_len (a := ((e.rows[s])[i]).to)).1
  unfold cellT
  rw [List.length_append, List.length_cons]
  omega
theorem rowT_len {e : Enc} (hv : checkE e = 0) {r : List Cell} (hr : r ∈ e.rows) : (rowT r).length ≤ r.length * 20 + 1 := by
  have h1 := joinB_len (c := 32) (n := 19) (l := r.map cellT) (fun w hw => by
    obtain ⟨c, hc, rfl⟩ := List.mem_map.1 hw
    exact cellT_len hv hr hc)
  rw [List.length_map] at h1
  unfold rowT lineT
  rw [List.length_append]
  simpa using h1
theorem headT_len {e : Enc} : (lineT (headW e)).length ≤ 41 := by
  have h1 := joinB_len (c := 32) (n := 7) (l := headW e) (fun w hw => by
    unfold headW at hw
    simp only [List.mem_cons, List.not_mem_nil, or_false] at hw
    rcases hw with rfl | rfl | rfl | rfl | rfl
    · exact Nat.le_refl _
    all_goals exact Nat.le_trans itoa2_len.1 (by decide))
  unfold lineT
  rw [List.length_append]
  have : (headW e).length = 5 := rfl
  rw [this] at h1
  simpa using h1
theorem rows_text_len {e : Enc} (h : Sml e) (hv : checkE e = 0) : ∀ l : List (List Cell), (∀ r ∈ l, r ∈ e.rows) → (l.flatMap rowT).length ≤ l.length * 121
  | [], _ => by simp
  | r :: l, hl => by
    have h1 := rowT_len hv (hl r List.mem_cons_self)
    have h2 := h.row r (hl r List.mem_cons_self)
    have h3 := rows_text_len h hv l (fun q hq => hl q (List.mem_cons_of_mem _ hq))
    rw [List.flatMap_cons, List.length_append, List.length_cons, Nat.add_mul]
    omega
/-- the text behind the first rows. -/
def textA (e : Enc) (k : Nat) : List UInt8 := lineT (headW e) ++ (e.rows.take k).flatMap rowT
theorem textA_zero {e : Enc} : textA e 0 = lineT (headW e) := by simp [textA]
theorem textA_succ {e : Enc} {k : Nat} (h : k < e.rows.length) : textA e (k + 1) = textA e k ++ rowT (e.rows.getD k []) := by
  unfold textA; rw [textE_succ h, List.append_assoc]
theorem textA_all {e : Enc} {k : Nat} (h : e.rows.length ≤ k) : textA e k = textE e := by
  unfold textA; rw [List.take_of_length_le h]; rfl
theorem textA_len {e : Enc} (h : Sml e) (hv : checkE e = 0) {k : Nat} : (textA e k).length ≤ 1000 := by
  have h1 := headT_len (e := e)
  have h2 := rows_text_len h hv (e.rows.take k) (fun r hr => List.mem_of_mem_take hr)
  have h3 := sml_rows h hv
  rw [List.length_take] at h2
  have h4 : min k e.rows.length * 121 ≤ 6 * 121 := Nat.mul_le_mul_right _ (by omega)
  unfold textA
  rw [List.length_append]
  omega
/-- what Print answers. -/
def printN (e : Enc) : Int := if checkE e ≠ 0 then 1 else 0
def printX (e : Enc) : List UInt8 := if checkE e ≠ 0 then [] else textE e
end Go.Proofs.YtfoeigajlkonpaaDoor
