/- Parts of the proof: LBD. -/
import Derived.Shelf.Strings.Builder1
import Derived.Test.YtchjjiedcpfniaaGreatDoorK08
namespace Go.Lift
set_option linter.unusedVariables false
open Go.Proofs Go.Shelf Go.RowKit
section
variable {P : Program} {ρ : Ren}
theorem liesAt_in {e u : TypeId} {count q r : Nat} (hq : q < count) (hs : r < P.cellsOf e) (hu : ∀ m u', P.underlying u ≠ some (.array m u')) (h : liesAt P P.depth e 1 r u 1 = true) :
    liesAt P P.depth e count (q * P.cellsOf e + r) u 1 = true := by
  have hd : P.depth = (2 * (P.types.size + Made.depth) + 1) + 1 := rfl
  have h1 : (q * P.cellsOf e + r) / P.cellsOf e = q := by
    rw [Nat.mul_comm, Nat.mul_add_div (by omega), Nat.div_eq_of_lt hs, Nat.add_zero]
  have h2 : (q * P.cellsOf e + r) % P.cellsOf e = r := by
    rw [Nat.mul_comm, Nat.mul_add_mod, Nat.mod_eq_of_lt hs]
  have hn : ∀ (c o : Nat), liesAt P P.depth e c o u 1 = rowAt P (sameLayout P P.depth · u) P.depth e c o 1 := fun c o => by
    rw [hd]
    simp only [liesAt]
    rw [← hd]
    first
      | (simp; done)
      | (split
         · rename_i m u' hm
           exact absurd hm (hu m u')
         · simp)
  rw [hn] at h ⊢
  rw [hd] at h ⊢
  simp only [rowAt] at h ⊢
  rw [h1, h2]
  rw [Nat.div_eq_of_lt hs, Nat.mod_eq_of_lt hs] at h
  have hs0 : P.cellsOf e ≠ 0 := by omega
  rw [if_neg hs0] at h ⊢
  simp only [Bool.or_eq_true, Bool.and_eq_true, decide_eq_true_eq] at h ⊢
  rcases h with ⟨⟨h3, _⟩, h5⟩ | ⟨_, h4⟩
  · exact .inl ⟨⟨h3, by omega⟩, h5⟩
  · exact .inr ⟨hq, h4⟩
set_option maxHeartbeats 1000000 in
set_option maxRecDepth 100000 in
theorem cc_used (L : Lays.n240 P ρ) (X : Builder.X72 P ρ) (b o : Nat) (w : World) (h0 : w.cell? ⟨b, o, none⟩ = some (.pointer (some ⟨b, o, none⟩))) :
    Calls P (ρ.f 240) #[.pointer (some ⟨b, o, none⟩)] w fun e w' => e = .returned (.tuple #[]) ∧ w' = w := by
  obtain ⟨j, hj, _⟩ := Option.map_eq_some_iff.1 X.sizeBuilder
  have mixed := L.mixed
  have t72 := L.t72; have a72 := L.a72; have z72 := L.z72; have v72 := L.v72; have u72 := run_underlying L.t72
  have t70 := L.t70; have a70 := L.a70; have z70 := L.z70; have v70 := L.v70; have u70 := run_underlying L.t70
  have t9 := L.t9; have a9 := L.a9; have z9 := L.z9; have v9 := L.v9; have u9 := run_underlying L.t9
  have t4 := L.t4; have a4 := L.a4; have z4 := L.z4; have v4 := L.v4; have u4 := run_underlying L.t4
  have t164 := L.t164; have a164 := L.a164; have z164 := L.z164; have v164 := L.v164; have u164 := run_underlying L.t164
  go_enter L.f240, Body.n240_ntmps ρ
  go_wp2
  rw [Lib.run_neq_ptr_same w _ L.t70 hj]
  go_wp2
  go_end0
  exact ⟨rfl, rfl⟩
set_option maxHeartbeats 1000000 in
set_option maxRecDepth 100000 in
theorem cc_fresh (L : Lays.n240 P ρ) (X : Builder.X72 P ρ) (b o : Nat) (w : World) {T : TypeId} {n : Nat} (h0 : w.cell? ⟨b, o, none⟩ = some (.pointer none)) (hsh : w.shape? b = some (T, n)) (ho : o < n)
    (hlies : liesAt P P.depth T (n / P.cellsOf T) o (ρ.t 72) 1 = true) (hfz : w.frozen? ⟨b, o, none⟩ = false) :
    Calls P (ρ.f 240) #[.pointer (some ⟨b, o, none⟩)] w fun e w' => e = .returned (.tuple #[]) ∧ w' = w.setCell ⟨b, o, none⟩ (.pointer (some ⟨b, o, none⟩)) := by
  obtain ⟨j, hj, hjs⟩ := Option.map_eq_some_iff.1 X.sizeBuilder
  have mixed := L.mixed
  have t72 := L.t72; have a72 := L.a72; have z72 := L.z72; have v72 := L.v72; have u72 := run_underlying L.t72
  have t70 := L.t70; have a70 := L.a70; have z70 := L.z70; have v70 := L.v70; have u70 := run_underlying L.t70
  have t9 := L.t9; have a9 := L.a9; have z9 := L.z9; have v9 := L.v9; have u9 := run_underlying L.t9
  have t4 := L.t4; have a4 := L.a4; have z4 := L.z4; have v4 := L.v4; have u4 := run_underlying L.t4
  have t164 := L.t164; have a164 := L.a164; have z164 := L.z164; have v164 := L.v164; have u164 := run_underlying L.t164
  go_enter L.f240, Body.n240_ntmps ρ
  go_wp2
  rw [Lib.run_to_unsafe w ⟨b, o, none⟩ L.t70 L.t164 hj (by rw [hjs]; decide) hsh ho]
  simp only [Result.andThen]
  rw [Oper.upon_value]
  go_wp2
  rw [run_callFunc_extern L.f276 (by kernel_rfl) (by kernel_rfl) (by kernel_rfl) (e := Extern.AbiNoEscape.same) (by kernel_rfl)]
  rw [Lib.run_noEscape]
  simp only [Result.andThen]
  rw [Oper.upon_value]
  go_wp2
  rw [Lib.run_from_unsafe w ⟨b, o, none⟩ L.t164 L.t70 hj hsh hlies]
  simp only [Result.andThen]
  rw [Oper.upon_value]
  go_wp2
  go_end0
  exact ⟨rfl, rfl⟩
end
section
variable {P : Program} {ρ : Ren}
theorem typ_open {G : Gh} {h : Heap} {mu : Id → Option Base} {nx : Nat} {w : World} (hk : HOk G h mu nx w) {id : Id} {n S : Nat} {f : Nat → Nat → AVal} {T : TypeId} {B : Base} (hl : lkH h id = some (.arr n S f)) (ht : tyH h id = some T) (hB : mu id = some B) :
    B.s = S ∧ ∃ cs q, w.heap[B.b]? = some (.cells cs T (0, 0)) ∧ B.o = q * S ∧ cs.size = B.sz ∧ B.o + n * S ≤ cs.size ∧
      ∀ i, i < n → ∀ j, j < S → (f i j).one = true ∧ ∃ v, cs[B.o + i * S + j]? = some v ∧ Rel (cx G h mu nx w) (f i j) v := by
  have ho := (hk.obj id _ hl).2
  rw [hB] at ho
  obtain ⟨hs, cs, T', hh, hsz, hle, hcc⟩ := ho
  obtain ⟨cs2, hh2, q, hq⟩ := hk.typ id T B ht hB
  have hh' : w.heap[B.b]? = some (.cells cs T' (0, 0)) := hh
  rw [hh'] at hh2
  injection hh2 with hh2
  injection hh2 with h1 h2 _
  subst h2
  exact ⟨hs, cs, q, hh', by rw [hq, hs, Nat.mul_comm], hsz, by rw [hsz]; exact hle, hcc⟩
theorem heap_setCell_cells {w : World} {b o : Nat} {cs : Array Value} {T : TypeId} (hh : w.heap[b]? = some (.cells cs T (0, 0))) (v : Value) :
    (w.setCell ⟨b, o, none⟩ v).heap[b]? = some (.cells (cs.setIfInBounds o v) T (0, 0)) := by
  simp [World.setCell, Array.getElem?_modify, hh]
def selfF (f : Nat → Nat → AVal) (off i j : Nat) : AVal := if j = off then .ptr (0, 0) 0 off else f i j
theorem selfF_same {f : Nat → Nat → AVal} {off i : Nat} : selfF f off i off = .ptr (0, 0) 0 off := if_pos rfl
theorem selfF_ne {f : Nat → Nat → AVal} {off i j : Nat} (h : j ≠ off) : selfF f off i j = f i j := if_neg h
theorem copyCheck_c (L : Lays.n240 P ρ) (X : Builder.X72 P ρ) {hin : Heap} {nin : Nat} {T : TypeId} {S off : Nat} {f : Nat → Nat → AVal} (hl : lkH hin (0, 0) = some (.arr 1 S f)) (ht : tyH hin (0, 0) = some T)
    (hS : P.cellsOf T = S) (hoff : off < S) (hlies : liesAt P P.depth T 1 off (ρ.t 72) 1 = true) (hf : f 0 off = .nilp ∨ f 0 off = .ptr (0, 0) 0 off) :
    FC P (ρ.f 240) [.ptr (0, 0) 0 off] hin nin (fun _ : Unit => True) (fun _ => .tup 0 (fun _ => .any)) (fun _ => setH hin (0, 0) (.arr 1 S (selfF f off))) (fun _ => nin) := by
  intro O w mu vals hk hargs
  match vals, hargs with
  | [v0], ⟨r0, _⟩ =>
  obtain ⟨hid, B, hB0, rfl⟩ := r0
  have hB : mu (0, 0) = some B := hB0
  obtain ⟨hs, cs, q, hh, hq, hsz, hfit, hcc⟩ := typ_open hk hl ht hB
  have hadr : (⟨B.b, B.o + 0 * B.s + off, none⟩ : Addr) = ⟨B.b, B.o + off, none⟩ := by rw [Nat.zero_mul, Nat.add_zero]
  rw [hadr]
  obtain ⟨h1, v, hv, hr⟩ := hcc 0 (by omega) off hoff
  rw [Nat.zero_mul, Nat.add_zero] at hv
  have hcell : w.cell? ⟨B.b, B.o + off, none⟩ = some v := by simp only [World.cell?, hh]; simpa using hv
  have hT0 : ∀ m u', P.underlying (ρ.t 72) ≠ some (.array m u') := fun m u' he => by rw [L.t72] at he; cases he
  rcases hf with hf | hf
  · rw [hf] at hr
    have hv' : v = .pointer none := hr
    subst hv'
    have hn : B.o + off < cs.size := by omega
    have hlies' : liesAt P P.depth T (cs.size / P.cellsOf T) (B.o + off) (ρ.t 72) 1 = true := by
      rw [hq, ← hS]
      refine liesAt_in ?_ (by omega) hT0 hlies
      rw [hS]
      rw [hq] at hfit
      rw [Nat.lt_iff_add_one_le, Nat.le_div_iff_mul_le (by omega), Nat.add_mul]
      omega
    refine (cc_fresh L X B.b (B.o + off) w hcell (by simp [World.shape?, hh]) hn hlies' (by simp [World.frozen?, hh])).mono ?_
    rintro e w' ⟨rfl, rfl⟩
    refine ⟨_, (), mu, rfl, trivial, Nat.le_refl _, fun _ _ => rfl, ?_⟩
    obtain ⟨hLe, hok⟩ := hk.write (o' := .arr 1 S (selfF f off)) hl hB (w' := w.setCell ⟨B.b, B.o + off, none⟩ (.pointer (some ⟨B.b, B.o + off, none⟩))) (by simp) (fun b hb => Below.heap_setCell _ _ _ _ hb) ⟨rfl, rfl, rfl, Nat.le_refl _⟩ (fun hLe => by
      refine ⟨hs, _, T, heap_setCell_cells hh _, by simpa using hsz, by rw [← hsz]; exact hfit, fun i hi j hj => ?_⟩
      have hi0 : i = 0 := by omega
      subst hi0
      by_cases hj0 : j = off
      · subst hj0
        refine ⟨by rw [selfF_same]; rfl, .pointer (some ⟨B.b, B.o + j, none⟩), ?_, ?_⟩
        · rw [Nat.zero_mul, Nat.add_zero, Array.getElem?_setIfInBounds_self_of_lt hn]
        · rw [selfF_same]
          exact ⟨hid, B, hB, by rw [Nat.zero_mul, Nat.add_zero]⟩
      · obtain ⟨k1, u, hu, hru⟩ := hcc 0 (by omega) j hj
        refine ⟨by rw [selfF_ne hj0]; exact k1, u, ?_, by rw [selfF_ne hj0]; exact hru.mono hLe⟩
        rw [Array.getElem?_setIfInBounds_ne (by omega)]
        exact hu) (fun cs2 t2 h2 => by
      rw [hh] at h2
      injection h2 with h2; injection h2 with _ h3 _; subst h3
      exact ⟨_, heap_setCell_cells hh _⟩)
    exact ⟨hok, ⟨#[], rfl, rfl, fun j hj => absurd hj (Nat.not_lt_zero _)⟩⟩
  · rw [hf] at hr
    obtain ⟨_, B', hB', hv'⟩ := hr
    have hBB : mu (0, 0) = some B' := hB'
    rw [hB] at hBB
    injection hBB with hBB
    subst hBB
    rw [hadr] at hv'
    subst hv'
    refine (cc_used L X B.b (B.o + off) w hcell).mono ?_
    rintro e w' ⟨rfl, rfl⟩
    refine ⟨_, (), mu, rfl, trivial, Nat.le_refl _, fun _ _ => rfl, ?_⟩
    obtain ⟨hLe, hok⟩ := hk.write (o' := .arr 1 S (selfF f off)) hl hB (w' := w') rfl (fun b hb => rfl) ⟨rfl, rfl, rfl, Nat.le_refl _⟩ (fun hLe => by
      refine ⟨hs, _, T, hh, hsz, by rw [← hsz]; exact hfit, fun i hi j hj => ?_⟩
      obtain ⟨k1, u, hu, hru⟩ := hcc i hi j hj
      by_cases hj0 : j = off
      · subst hj0
        have hi0 : i = 0 := by omega
        subst hi0
        rw [selfF_same, ← hf]
        exact ⟨k1, u, hu, hru.mono hLe⟩
      · rw [selfF_ne hj0]
        exact ⟨k1, u, hu, hru.mono hLe⟩) (fun cs2 t2 h2 => ⟨_, h2⟩)
    exact ⟨hok, ⟨#[], rfl, rfl, fun j hj => absurd hj (Nat.not_lt_zero _)⟩⟩
theorem liesAt_bytesO {e : TypeId} (hc : P.cellsOf e = 1) (count off n : Nat) (hn : off + n ≤ count) : liesAt P P.depth e count off e n = true := by
  have hd : P.depth = (2 * (P.types.size + Made.depth) + 1) + 1 := rfl
  rw [hd]
  simp only [liesAt, Bool.or_eq_true]
  left
  rw [hd]
  simp [rowAt, hc, hn, sameLayout, Nat.mod_one]
theorem run_unsafeString_at (w : World) (pt it ty e : TypeId) (hp : P.underlying pt = some (.pointer e)) (hc : P.cellsOf e = 1) (g go cells : Nat) (hsh : w.shape? g = some (e, cells)) (l : List UInt8) (h0 : l ≠ []) (hn : go + l.length ≤ cells) (h63 : l.length ≤ 9223372036854775807)
    (hcell : ∀ j x, l[j]? = some x → w.cell? ((⟨g, go, none⟩ : Addr).add j) = some (.int .u8 x.toNat)) :
    (Builtin.unsafeString_ #[pt, it] ty #[.pointer (some ⟨g, go, none⟩), .int .i64 l.length]).run P w = .ok (.string ⟨l.toArray⟩) (w.freeze ⟨g, go, none⟩ l.length) := by
  have hl : l.length ≠ 0 := by simpa using h0
  have hlb := Lib.run_loadBytes (P := P) w l ⟨g, go, none⟩ .empty hcell
  have hlies := liesAt_bytesO (P := P) hc (cells / P.cellsOf e) go l.length (by rw [hc]; simpa using hn)
  have h63' : ¬ (9223372036854775807 : Int) < (l.length : Int) := by omega
  have hdef : Builtin.unsafeString_ #[pt, it] ty #[.pointer (some ⟨g, go, none⟩), .int .i64 l.length] =
      (do
        let n ← asInt (.int .i64 l.length)
        if n < 0 then runtimePanic (.error "unsafe.String: len out of range")
        if n > IntKind.i64.max then unsupported (.unsafePointer "String: a length above the largest int")
        if n = 0 then pure (.string .empty)
        else if ← variablesAt ⟨g, go, none⟩ (← elemOf pt) n.toNat then do
          let s ← loadBytes ⟨g, go, none⟩ .empty n.toNat
          freeze ⟨g, go, none⟩ n.toNat
          pure (.string s)
        else unsupported (.unsafePointer "String: not so many bytes at ptr")) := rfl
  rw [hdef]
  have hmax : IntKind.i64.max = 9223372036854775807 := rfl
  have hneg : ¬ (l.length : Int) < 0 := by omega
  simp [asInt, asIntOf, hmax, h63', hneg, hl, variablesAt, hsh, elemOf, run_underlying hp, hlies, hlb]
set_option maxHeartbeats 1000000 in
set_option maxRecDepth 100000 in
theorem st_some (L : Lays.n169 P ρ) (X : Builder.Extra P ρ) (b o g go cap n : Nat) (l : List UInt8) (w : World) (h1 : w.cell? ⟨b, o + 1, none⟩ = some (.slice (some ⟨g, go, none⟩) l.length cap)) (h0 : l ≠ []) (hc0 : cap ≠ 0) (h63 : l.length ≤ 9223372036854775807)
    (hsh : w.shape? g = some (ρ.t 5, n)) (hn : go + l.length ≤ n) (hcell : ∀ j x, l[j]? = some x → w.cell? ((⟨g, go, none⟩ : Addr).add j) = some (.int .u8 x.toNat)) :
    Calls P (ρ.f 169) #[.pointer (some ⟨b, o, none⟩)] w fun e w' => e = .returned (.string ⟨l.toArray⟩) ∧ w' = w.drew.freeze ⟨g, go, none⟩ l.length := by
  have c1 : w.drew.cell? ⟨b, o + 1, none⟩ = some (.slice (some ⟨g, go, none⟩) l.length cap) := h1
  have hSD : (Builtin.unsafeSliceData_ #[(ρ.t 37)] (ρ.t 127) #[.slice (some ⟨g, go, none⟩) l.length cap]).run P w.drew = .ok (.pointer (some ⟨g, go, none⟩)) w.drew :=
    Lib.run_unsafeSliceData_row _ _ _ _ _ _ hc0
  have hUS : (Builtin.unsafeString_ #[(ρ.t 127), (ρ.t 3)] (ρ.t 9) #[.pointer (some ⟨g, go, none⟩), .int .i64 l.length]).run P w.drew = .ok (.string ⟨l.toArray⟩) (w.drew.freeze ⟨g, go, none⟩ l.length) :=
    run_unsafeString_at w.drew (ρ.t 127) (ρ.t 3) (ρ.t 9) (ρ.t 5) L.t127 X.cellsByte g go n hsh l h0 hn h63 hcell
  have mixed := L.mixed
  have t72 := L.t72; have a72 := L.a72; have z72 := L.z72; have v72 := L.v72; have u72 := run_underlying L.t72
  have t70 := L.t70; have a70 := L.a70; have z70 := L.z70; have v70 := L.v70; have u70 := run_underlying L.t70
  have t37 := L.t37; have a37 := L.a37; have z37 := L.z37; have v37 := L.v37; have u37 := run_underlying L.t37
  have t127 := L.t127; have a127 := L.a127; have z127 := L.z127; have v127 := L.v127; have u127 := run_underlying L.t127
  have t3 := L.t3; have a3 := L.a3; have z3 := L.z3; have v3 := L.v3; have u3 := run_underlying L.t3
  have t9 := L.t9; have a9 := L.a9; have z9 := L.z9; have v9 := L.v9; have u9 := run_underlying L.t9
  have t5 := X.t5; have a5 := X.a5; have z5 := X.z5; have v5 := X.v5; have u5 := run_underlying X.t5
  go_enter L.f169, Body.n169_ntmps ρ
  go_wp2
  go_region_o
  all_goals (go_wp2; go_ret; exact ⟨rfl, rfl⟩)
set_option maxHeartbeats 2000000 in
set_option maxRecDepth 100000 in
theorem st_nil (L : Lays.n169 P ρ) (X : Builder.Extra P ρ) (b o : Nat) (w : World) (h1 : w.cell? ⟨b, o + 1, none⟩ = some (.slice none 0 0)) :
    Calls P (ρ.f 169) #[.pointer (some ⟨b, o, none⟩)] w fun e w' => e = .returned (.string ⟨#[]⟩) ∧ w' = w.drew := by
  have hUS := Any.unsafeString_none L X
  have c1 : w.drew.cell? ⟨b, o + 1, none⟩ = some (.slice none 0 0) := h1
  have hSD : (Builtin.unsafeSliceData_ #[(ρ.t 37)] (ρ.t 127) #[.slice none 0 0]).run P w.drew = .ok (.pointer none) w.drew := rfl
  have mixed := L.mixed
  have t72 := L.t72; have a72 := L.a72; have z72 := L.z72; have v72 := L.v72; have u72 := run_underlying L.t72
  have t70 := L.t70; have a70 := L.a70; have z70 := L.z70; have v70 := L.v70; have u70 := run_underlying L.t70
  have t37 := L.t37; have a37 := L.a37; have z37 := L.z37; have v37 := L.v37; have u37 := run_underlying L.t37
  have t127 := L.t127; have a127 := L.a127; have z127 := L.z127; have v127 := L.v127; have u127 := run_underlying L.t127
  have t3 := L.t3; have a3 := L.a3; have z3 := L.z3; have v3 := L.v3; have u3 := run_underlying L.t3
  have t9 := L.t9; have a9 := L.a9; have z9 := L.z9; have v9 := L.v9; have u9 := run_underlying L.t9
  have t5 := X.t5; have a5 := X.a5; have z5 := X.z5; have v5 := X.v5; have u5 := run_underlying X.t5
  go_enter L.f169, Body.n169_ntmps ρ
  go_wp2
  go_region_o
  all_goals (go_wp2; go_ret; exact ⟨rfl, rfl⟩)
theorem heap_freeze_other {w : World} {a : Addr} {n b : Nat} (hb : b ≠ a.block) : (w.freeze a n).heap[b]? = w.heap[b]? := by
  unfold World.freeze
  split
  · rfl
  · simp only [Array.getElem?_modify]
    rw [if_neg (fun e => hb e.symm)]
theorem size_freeze {w : World} {a : Addr} {n : Nat} : (w.freeze a n).heap.size = w.heap.size := by
  unfold World.freeze
  split
  · rfl
  · simp
theorem HOk.drop {G : Gh} {h : Heap} {mu : Id → Option Base} {nx : Nat} {w w' : World} (hk : HOk G h mu nx w) {id : Id} {o : HObj} {B : Base} (hl : lkH h id = some o) (hB : mu id = some B) (hcs : ∃ cs T fr, w.heap[B.b]? = some (.cells cs T fr))
    (hsize : w'.heap.size = w.heap.size) (hblk : ∀ b, b ≠ B.b → w'.heap[b]? = w.heap[b]?) (hos : w'.os = w.os ∧ w'.tape = w.tape ∧ w'.output = w.output ∧ w.drawn ≤ w'.drawn) :
    HOk G (delH h id) mu nx w' := by
  have hno : lkH (delH h id) id = none := by
    cases he : lkH (delH h id) id with
    | none => rfl
    | some o => exact absurd rfl (lkH_delH h id id o he).2
  have hown := hk.own id o B hl hB
  have hLe : (cx G h mu nx w).Le (cx G (delH h id) mu nx w') := by
    refine ⟨Nat.le_of_eq hsize.symm, fun b hb hF hF' => hF ?_, fun b off hb hF => ?_, Nat.le_refl _, fun _ _ => rfl, fun D hD => ?_⟩
    · rcases hF' with h1 | ⟨id', o', B', h1, h2, h3⟩
      · exact .inl h1
      · exact .inr ⟨id', o', B', (lkH_delH h id id' o' h1).1, h2, h3⟩
    · exact World.cell?_of_block (hblk b fun e => hF (.inr ⟨id, o, B, hl, hB, e.symm⟩))
    · have hD' : w.heap[D]? = some (Obj.deferred (some [])) := hD
      refine (hblk D fun e => ?_).trans hD'
      obtain ⟨cs, T, fr, hh⟩ := hcs
      rw [e, hh] at hD'
      cases hD'
  have hsub : ∀ id' t, tyH (delH h id) id' = some t → tyH h id' = some t := fun id' t ht => tyH_delH ht
  refine hk.step hLe id o ((hk.obj id o hl).1) (fun h1 => by rw [hno] at h1; cases h1) (fun B' hB' => ?_) (fun id' o' h1 => ?_) ?_ (fun id' t ht => ?_)
  · rw [hB] at hB'
    injection hB' with hB'
    subst hB'
    exact ⟨by rw [hsize]; exact hown.1, hown.2⟩
  · obtain ⟨h2, h3⟩ := lkH_delH h id id' o' h1
    refine .inr ⟨h3, h2, fun B1 hB1 => ?_⟩
    have hne : B1.b ≠ B.b := fun e => h3 (hk.sep id' id o' o B1 B h2 hl hB1 hB e)
    refine ⟨hblk _ hne, fun B0 hB0 => ?_⟩
    rw [hB] at hB0
    injection hB0 with hB0
    subst hB0
    exact hne
  · refine ⟨hos.1.trans hk.kept.os, hos.2.1.trans hk.kept.tape, hos.2.2.1.trans hk.kept.output, Nat.le_trans hk.kept.drawn hos.2.2.2, by rw [hsize]; exact hk.kept.size, fun b hb hm => ?_⟩
    rw [hblk b fun e => ?_]
    · exact hk.kept.block b hb hm
    · rcases hown.2.1 with h1 | h1
      · rw [e] at hb; exact absurd hb (Nat.not_lt.2 h1)
      · rw [e] at hm; exact hm h1
  · by_cases h1 : id' = id
    · obtain ⟨o', ho'⟩ := tyH_lk ht
      rw [h1, hno] at ho'
      cases ho'
    · exact .inr ⟨h1, hsub id' t ht⟩
theorem string_c (L : Lays.n169 P ρ) (X : Builder.Extra P ρ) {hin : Heap} {nin : Nat} {S off N : Nat} {f g : Nat → Nat → AVal} {id : Id} {l : List UInt8} (hl : lkH hin (0, 0) = some (.arr 1 S f)) (hoff : off + 1 < S)
    (hf : f 0 (off + 1) = .sl id 0 l.length) (hl1 : lkH hin id = some (.arr N 1 g)) (ht1 : tyH hin id = some (ρ.t 5)) (hN : l.length ≤ N) (h0 : l ≠ []) (hg : ∀ i, i < l.length → g i 0 = .int .u8 (l.getD i 0).toNat) (h63 : l.length ≤ 9223372036854775807) :
    FC P (ρ.f 169) [.ptr (0, 0) 0 off] hin nin (fun _ : Unit => True) (fun _ => .str l) (fun _ => delH hin id) (fun _ => nin) := by
  intro O w mu vals hk hargs
  match vals, hargs with
  | [v0], ⟨r0, _⟩ =>
  obtain ⟨hid, B, hB0, rfl⟩ := r0
  have hB : mu (0, 0) = some B := hB0
  have ho := (hk.obj (0, 0) _ hl).2
  rw [hB] at ho
  obtain ⟨hs, cs, T', hh0, hsz, hle, hcc⟩ := ho
  have hh : w.heap[B.b]? = some (.cells cs T' (0, 0)) := hh0
  have hadr : (⟨B.b, B.o + 0 * B.s + off, none⟩ : Addr) = ⟨B.b, B.o + off, none⟩ := by rw [Nat.zero_mul, Nat.add_zero]
  rw [hadr]
  have hlp : l.length ≠ 0 := by simpa using h0
  obtain ⟨_, v, hv, hr⟩ := hcc 0 (by omega) (off + 1) hoff
  rw [hf] at hr
  obtain ⟨_, A, cap, rfl, hcap, hA⟩ := hr
  obtain ⟨B1, hB10, rfl, _⟩ := hA.resolve_left (by omega)
  have hB1 : mu id = some B1 := hB10
  rw [Nat.zero_mul, Nat.add_zero] at hv
  obtain ⟨hs1, cs1, q1, hh1, hq1, hsz1, hle1, hcc1⟩ := typ_open hk hl1 ht1 hB1
  rw [Nat.mul_one] at hle1
  have hbo : B1.o + 0 * B1.s = B1.o := by rw [Nat.zero_mul, Nat.add_zero]
  rw [hbo] at hv
  refine (st_some L X B.b (B.o + off) B1.b B1.o cap cs1.size l w ?_ h0 (by omega) h63 (by simp [World.shape?, hh1]) (by omega) (fun j x hx => ?_)).mono ?_
  · have : w.cell? ⟨B.b, B.o + (off + 1), none⟩ = some (.slice (some ⟨B1.b, B1.o, none⟩) l.length cap) := by
      simp only [World.cell?, hh]; simpa using hv
    rw [Nat.add_assoc]; exact this
  · have hj : j < l.length := by
      rcases Nat.lt_or_ge j l.length with h | h
      · exact h
      · rw [List.getElem?_eq_none h] at hx; cases hx
    obtain ⟨_, u, hu, hru⟩ := hcc1 j (by omega) 0 (by omega)
    rw [hg j hj] at hru
    have hru' : u = .int .u8 ((l.getD j 0).toNat : Int) := hru
    have hx' : l.getD j 0 = x := by rw [List.getD_eq_getElem?_getD, hx]; rfl
    rw [hx'] at hru'
    rw [Nat.mul_one, Nat.add_zero] at hu
    rw [Addr.add_lit]
    simp only [World.cell?, hh1]
    rw [hu, hru']
    simp
  · rintro e w' ⟨rfl, rfl⟩
    refine ⟨_, (), mu, rfl, trivial, Nat.le_refl _, fun _ _ => rfl, ?_, rfl⟩
    refine hk.drop hl1 hB1 ⟨_, _, _, hh1⟩ (by rw [size_freeze]; rfl) (fun b hb => by rw [heap_freeze_other (by exact hb)]; rfl) ?_
    unfold World.freeze
    rw [if_neg hlp]
    exact ⟨rfl, rfl, rfl, Nat.le_succ _⟩
theorem string_nil_c (L : Lays.n169 P ρ) (X : Builder.Extra P ρ) {hin : Heap} {nin : Nat} {S off : Nat} {f : Nat → Nat → AVal} (hl : lkH hin (0, 0) = some (.arr 1 S f)) (hoff : off + 1 < S)
    (hf : f 0 (off + 1) = .nils) :
    FC P (ρ.f 169) [.ptr (0, 0) 0 off] hin nin (fun _ : Unit => True) (fun _ => .str []) (fun _ => hin) (fun _ => nin) := by
  intro O w mu vals hk hargs
  match vals, hargs with
  | [v0], ⟨r0, _⟩ =>
  obtain ⟨hid, B, hB0, rfl⟩ := r0
  have hB : mu (0, 0) = some B := hB0
  have ho := (hk.obj (0, 0) _ hl).2
  rw [hB] at ho
  obtain ⟨hs, cs, T', hh0, hsz, hle, hcc⟩ := ho
  have hh : w.heap[B.b]? = some (.cells cs T' (0, 0)) := hh0
  have hadr : (⟨B.b, B.o + 0 * B.s + off, none⟩ : Addr) = ⟨B.b, B.o + off, none⟩ := by rw [Nat.zero_mul, Nat.add_zero]
  rw [hadr]
  obtain ⟨_, v, hv, hr⟩ := hcc 0 (by omega) (off + 1) hoff
  rw [hf] at hr
  have hv' : v = .slice none 0 0 := hr
  subst hv'
  rw [Nat.zero_mul, Nat.add_zero] at hv
  refine (st_nil L X B.b (B.o + off) w ?_).mono ?_
  · have : w.cell? ⟨B.b, B.o + (off + 1), none⟩ = some (.slice none 0 0) := by
      simp only [World.cell?, hh]; simpa using hv
    rw [Nat.add_assoc]; exact this
  · rintro e w' ⟨rfl, rfl⟩
    exact ⟨_, (), mu, rfl, trivial, Nat.le_refl _, fun _ _ => rfl, (hk.grow (w' := w.drew) ⟨rfl, rfl, rfl, Nat.le_succ _, Nat.le_refl _, fun _ _ _ => rfl⟩).2, rfl⟩
end
end Go.Lift
