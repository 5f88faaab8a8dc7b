/-
  The abstract layer, part J: operations on values alone.
-/
import Derived.Test.YtmjkbidnghcfnaaLI
namespace Go.Lift
set_option linter.unusedSimpArgs false
set_option linter.unusedVariables false
open Go.RowKit

def inR : IntKind → Int → Prop
  | .i8, n => -128 ≤ n ∧ n ≤ 127
  | .i16, n => -32768 ≤ n ∧ n ≤ 32767
  | .i32, n => -2147483648 ≤ n ∧ n ≤ 2147483647
  | .i64, n => -9223372036854775808 ≤ n ∧ n ≤ 9223372036854775807
  | .u8, n => 0 ≤ n ∧ n ≤ 255
  | .u16, n => 0 ≤ n ∧ n ≤ 65535
  | .u32, n => 0 ≤ n ∧ n ≤ 4294967295
  | .u64, n => 0 ≤ n ∧ n ≤ 18446744073709551615

theorem inR_wrap {k : IntKind} {n : Int} (h : inR k n) : k.wrap n = n := by
  cases k <;> simp only [inR] at h <;> simp only [IntKind.wrap, IntKind.bits, IntKind.signed] <;> simp <;> omega

/-- what an operand may lean on: the branch in which it was computed. -/
def strip : AVal → AVal × Prop
  | .opt g v => (v, g = true)
  | v => (v, True)
theorem strip_rel {c : Cx} {v : AVal} {x : Value} (h : Rel c v x) (hs : (strip v).2) : Rel c (strip v).1 x := by
  cases v <;> simp only [strip] at hs ⊢ <;> first | exact h | exact h.1 hs

/-- the value of a guarded operation. -/
def mkOpt (g : Bool) : AVal → AVal
  | .opt g2 v => .opt (g && g2) v
  | v => .opt g v
theorem mkOpt_rel {c : Cx} {g : Bool} {v : AVal} {x : Value} (h1 : g = true → Rel c v x) (h2 : g = false → x = undef) : Rel c (mkOpt g v) x := by
  cases v with
  | opt g2 v2 =>
    cases g with
    | true => exact ⟨fun h => (h1 rfl).1 (by simpa using h), fun h => (h1 rfl).2 (by simpa using h)⟩
    | false => exact ⟨fun h => by simp at h, fun _ => h2 rfl⟩
  | _ => exact ⟨h1, h2⟩

def evBin (op : BinOp) (x y : AVal) : Option (AVal × Prop) :=
  match x, y with
  | .int k a, .int k' b =>
    if k = k' then
      match op with
      | .add => some (.int k (a + b), inR k (a + b))
      | .sub => some (.int k (a - b), inR k (a - b))
      | .mul => some (.int k (a * b), inR k (a * b))
      | .quo => some (.int k (a / b), 0 ≤ a ∧ 0 < b ∧ inR k a)
      | .rem => some (.int k (a % b), 0 ≤ a ∧ 0 < b)
      | .shr => some (.int k (a / 2 ^ b.toNat), 0 ≤ a ∧ 0 ≤ b ∧ b ≤ 7)
      | .eql => some (.bool (decide (a = b)), True)
      | .neq => some (.bool (!decide (a = b)), True)
      | .lss => some (.bool (decide (a < b)), True)
      | .leq => some (.bool (decide (a ≤ b)), True)
      | .gtr => some (.bool (decide (b < a)), True)
      | .geq => some (.bool (decide (b ≤ a)), True)
      | _ => none
    else none
  | .str a, .str b =>
    match op with
    | .add => some (.str (a ++ b), a.length + b.length ≤ 9223372036854775807)
    | .eql => some (.bool (decide (a = b)), True)
    | .neq => some (.bool (!decide (a = b)), True)
    | .lss => some (.bool (Op.bytesLess a b), True)
    | .leq => some (.bool (Op.bytesLess a b || decide (a = b)), True)
    | .gtr => some (.bool (!(Op.bytesLess a b || decide (a = b))), True)
    | .geq => some (.bool (!Op.bytesLess a b), True)
    | _ => none
  | _, _ => none

theorem inR_div {k : IntKind} {a b : Int} (h0 : 0 ≤ a) (hb : 0 < b) (h : inR k a) : inR k (a / b) := by
  have h1 : 0 ≤ a / b := Int.ediv_nonneg h0 (Int.le_of_lt hb)
  have h2 : a / b ≤ a := Int.ediv_le_self b h0
  cases k <;> simp only [inR] at h ⊢ <;> omega

section
variable {P : Program} {w : World} {G : Gh} {h : Heap} {mu : Id → Option Base} {nx : Nat}

theorem eqGuard_int {op : BinOp} {t : TypeId} {x y : Operand} {k k' : IntKind} {a b : Int} : eqGuard op t x y (.int k a) (.int k' b) = pure () := by cases op <;> rfl
theorem eqGuard_str {op : BinOp} {t : TypeId} {x y : Operand} {a b : ByteArray} : eqGuard op t x y (.string a) (.string b) = pure () := by cases op <;> rfl

theorem beq_dec {α : Type} [BEq α] [LawfulBEq α] [DecidableEq α] (a b : α) : (a == b) = decide (a = b) := by
  rw [Bool.eq_iff_iff]; simp

theorem toList_mk (s : List UInt8) : (ByteArray.mk ⟨s⟩).toList = s := ByteArray.toList_eq _

theorem evBin_ok {op : BinOp} {p q v : AVal} {c : Prop} (he : evBin op p q = some (v, c)) (hc : c) {x y : Value} {cx' : Cx} (hp : Rel cx' p x) (hq : Rel cx' q y) (t : TypeId) (ox oy : Operand) :
    ∃ z, (∀ w : World, (do eqGuard op t ox oy x y; binOp op t x y : Sem Value).run P w = .ok z w) ∧ ∀ c2, Rel c2 v z := by
  unfold evBin at he
  split at he
  · rename_i k a k' b
    simp only [Rel] at hp hq
    subst hp hq
    by_cases hk : k = k'
    · subst hk
      rw [if_pos rfl] at he
      rw [eqGuard_int]
      cases op <;> simp only [Option.some.injEq, Prod.mk.injEq, reduceCtorEq] at he
      case add => obtain ⟨rfl, rfl⟩ := he; exact ⟨_, fun w => by simp [binOp, Op.intArith, inR_wrap hc], fun _ => rfl⟩
      case sub => obtain ⟨rfl, rfl⟩ := he; exact ⟨_, fun w => by simp [binOp, Op.intArith, inR_wrap hc], fun _ => rfl⟩
      case mul => obtain ⟨rfl, rfl⟩ := he; exact ⟨_, fun w => by simp [binOp, Op.intArith, inR_wrap hc], fun _ => rfl⟩
      case quo =>
        obtain ⟨rfl, rfl⟩ := he
        obtain ⟨h0, hb, hr⟩ := hc
        have hb' : ¬ b = 0 := by omega
        exact ⟨.int k (a / b), fun w => by simp [binOp, Op.intDiv, hb', Int.tdiv_eq_ediv_of_nonneg h0, inR_wrap (inR_div h0 hb hr)], fun _ => rfl⟩
      case rem =>
        obtain ⟨rfl, rfl⟩ := he
        obtain ⟨h0, hb⟩ := hc
        have hb' : ¬ b = 0 := by omega
        exact ⟨.int k (a % b), fun w => by simp [binOp, Op.intDiv, hb', Int.tmod_eq_emod_of_nonneg h0], fun _ => rfl⟩
      case shr =>
        obtain ⟨rfl, rfl⟩ := he
        obtain ⟨h0, hb, hb7⟩ := hc
        have hn : min b.toNat k.bits = b.toNat := by cases k <;> simp [IntKind.bits] <;> omega
        have hb' : ¬ b < 0 := by omega
        exact ⟨.int k (a / 2 ^ b.toNat), fun w => by simp [binOp, Op.shift, hb', hn, Int.fdiv_eq_ediv_of_nonneg _ (Int.le_of_lt (Int.pow_pos (n := 2) (m := b.toNat) (by omega)))], fun _ => rfl⟩
      case eql => obtain ⟨rfl, rfl⟩ := he; exact ⟨.bool (decide (a = b)), fun w => by simp [binOp, Op.intCmp]; exact beq_dec a b, fun _ => rfl⟩
      case neq => obtain ⟨rfl, rfl⟩ := he; exact ⟨.bool (!decide (a = b)), fun w => by simp [binOp, Op.intCmp, bne]; exact beq_dec a b, fun _ => rfl⟩
      case lss => obtain ⟨rfl, rfl⟩ := he; exact ⟨_, fun w => by simp [binOp, Op.intCmp], fun _ => rfl⟩
      case leq => obtain ⟨rfl, rfl⟩ := he; exact ⟨_, fun w => by simp [binOp, Op.intCmp], fun _ => rfl⟩
      case gtr => obtain ⟨rfl, rfl⟩ := he; exact ⟨_, fun w => by simp [binOp, Op.intCmp], fun _ => rfl⟩
      case geq => obtain ⟨rfl, rfl⟩ := he; exact ⟨_, fun w => by simp [binOp, Op.intCmp], fun _ => rfl⟩
    · rw [if_neg hk] at he; cases he
  · rename_i a b
    simp only [Rel] at hp hq
    subst hp hq
    rw [eqGuard_str]
    have hsa : (ByteArray.mk ⟨a⟩).size = a.length := by simp [ByteArray.size]
    have hsb : (ByteArray.mk ⟨b⟩).size = b.length := by simp [ByteArray.size]
    have hbeq : (a == b) = decide (a = b) := beq_dec a b
    cases op <;> simp only [Option.some.injEq, Prod.mk.injEq, reduceCtorEq] at he
    case add =>
      obtain ⟨rfl, rfl⟩ := he
      have hc' : ¬ (9223372036854775807 < (a.length : Int) + (b.length : Int)) := by omega
      refine ⟨.string ⟨⟨a ++ b⟩⟩, fun w => ?_, fun _ => rfl⟩
      simp [binOp, Op.stringOp, hsa, hsb, hc']
      apply ByteArray.ext
      simp
    case eql => obtain ⟨rfl, rfl⟩ := he; exact ⟨.bool (decide (a = b)), fun w => by simp [binOp, Op.stringOp, toList_mk, hbeq], fun _ => rfl⟩
    case neq => obtain ⟨rfl, rfl⟩ := he; exact ⟨.bool (!decide (a = b)), fun w => by simp [binOp, Op.stringOp, toList_mk, hbeq], fun _ => rfl⟩
    case lss => obtain ⟨rfl, rfl⟩ := he; exact ⟨_, fun w => by simp [binOp, Op.stringOp, toList_mk], fun _ => rfl⟩
    case leq => obtain ⟨rfl, rfl⟩ := he; exact ⟨.bool (Op.bytesLess a b || decide (a = b)), fun w => by simp [binOp, Op.stringOp, toList_mk, hbeq], fun _ => rfl⟩
    case gtr => obtain ⟨rfl, rfl⟩ := he; exact ⟨.bool (!(Op.bytesLess a b || decide (a = b))), fun w => by simp [binOp, Op.stringOp, toList_mk, hbeq], fun _ => rfl⟩
    case geq => obtain ⟨rfl, rfl⟩ := he; exact ⟨_, fun w => by simp [binOp, Op.stringOp, toList_mk], fun _ => rfl⟩
  · cases he

def evUn (op : UnOp) (x : AVal) : Option (AVal × Prop) :=
  match op, x with
  | .not, .bool b => some (.bool (!b), True)
  | .neg, .int k n => some (.int k (0 - n), inR k (0 - n))
  | _, _ => none

theorem evUn_ok {op : UnOp} {p v : AVal} {c : Prop} (he : evUn op p = some (v, c)) (hc : c) {x : Value} {cx' : Cx} (hp : Rel cx' p x) :
    ∃ z, (∀ w : World, (Op.unary op x).run P w = .ok z w) ∧ ∀ c2, Rel c2 v z := by
  unfold evUn at he
  split at he
  · simp only [Option.some.injEq, Prod.mk.injEq] at he
    obtain ⟨rfl, rfl⟩ := he
    simp only [Rel] at hp
    subst hp
    exact ⟨_, fun w => by simp [Op.unary], fun _ => rfl⟩
  · simp only [Option.some.injEq, Prod.mk.injEq] at he
    obtain ⟨rfl, rfl⟩ := he
    simp only [Rel] at hp
    subst hp
    rename_i k n
    exact ⟨.int k (0 - n), fun w => by simp only [Op.unary, Op.intArith, inR_wrap hc]; rfl, fun _ => rfl⟩
  · cases he

def evConv (T : Tab) (src dst : TypeId) (x : AVal) : Option (AVal × Prop) :=
  match T src, T dst with
  | some ⟨.int _, _, _, _, _⟩, some ⟨.int k, _, _, _, _⟩ => match x with
    | .int _ n => some (.int k n, inR k n)
    | _ => none
  | some ⟨.str, _, _, _, _⟩, some ⟨.str, _, _, _, _⟩ => match x with
    | .str s => some (.str s, True)
    | _ => none
  | _, _ => none

theorem evConv_ok {T : Tab} (hT : TabOK P T) {src dst : TypeId} {p v : AVal} {c : Prop} (he : evConv T src dst p = some (v, c)) (hc : c) {x : Value} {cx' : Cx} (hp : Rel cx' p x) :
    ∃ z, (∀ w : World, (convert src dst x).run P w = .ok z w) ∧ ∀ c2, Rel c2 v z := by
  unfold evConv at he
  split at he
  · rename_i ks _ _ _ _ kd _ _ _ _ hs hd
    have h1 : P.underlying src = some (.int ks) := (hT src _ hs).kind
    have h2 : P.underlying dst = some (.int kd) := (hT dst _ hd).kind
    split at he
    · simp only [Option.some.injEq, Prod.mk.injEq] at he
      obtain ⟨rfl, rfl⟩ := he
      simp only [Rel] at hp
      subst hp
      exact ⟨_, fun w => by simp [convert, run_underlying h1, run_underlying h2, Conv.intToInt, inR_wrap hc], fun _ => rfl⟩
    · cases he
  · rename_i _ _ _ _ _ _ hs hd
    have h1 : P.underlying src = some .string := (hT src _ hs).kind
    have h2 : P.underlying dst = some .string := (hT dst _ hd).kind
    split at he
    · simp only [Option.some.injEq, Prod.mk.injEq] at he
      obtain ⟨rfl, rfl⟩ := he
      simp only [Rel] at hp
      subst hp
      exact ⟨_, fun w => by simp [convert, run_underlying h1, run_underlying h2], fun _ => rfl⟩
    · cases he
  · cases he

def evField (T : Tab) (t : TypeId) (x : AVal) (k : Nat) : Option (AVal × Prop) :=
  match T t, x with
  | some ⟨.struct l, _, _, _, _⟩, .agg n f =>
    match placeS T l k with
    | some (o, i) => some (mkL i (fun j => f (o + j)), o + i.size ≤ n)
    | none => none
  | _, _ => none

theorem evField_ok {T : Tab} (hT : TabOK P T) {t : TypeId} {p v : AVal} {k : Nat} {c : Prop} (he : evField T t p k = some (v, c)) (hc : c) {x : Value} {cx' : Cx} (hp : Rel cx' p x) :
    ∃ z, (∀ w : World, (Instr.field t x k).run P w = .ok z w) ∧ Rel cx' v z := by
  unfold evField at he
  split at he
  · rename_i l _ _ _ n f hi
    obtain ⟨fs, pl, hu, _, hfs⟩ := (hT t _ hi).kind
    split at he
    · rename_i o i hpl
      simp only [Option.some.injEq, Prod.mk.injEq] at he
      obtain ⟨rfl, rfl⟩ := he
      unfold placeS at hpl
      split at hpl
      · rename_i o' ft hlk
        split at hpl
        · rename_i i' hi'
          simp only [Option.some.injEq, Prod.mk.injEq] at hpl
          obtain ⟨rfl, rfl⟩ := hpl
          obtain ⟨fd, hfd, rfl, rfl⟩ := hfs k o' ft hlk
          have htf := hT fd.type _ hi'
          obtain ⟨cs, rfl, hsz, hr⟩ := hp
          unfold mkL
          cases hag : i'.k.agg with
          | true =>
            refine ⟨.agg (cs.extract fd.offset (fd.offset + i'.size)), fun w => by simp [Instr.field, run_underlying hu, hfd, part, htf.run_isAgg, hag, htf.run_sizeOf, asAgg], _, rfl, by simp; omega, fun j hj => ?_⟩
            have := hr (fd.offset + j) (by omega)
            have h2 : (cs.extract fd.offset (fd.offset + i'.size)).getD j undef = cs.getD (fd.offset + j) undef := by
              have h3 : fd.offset + j < cs.size := by omega
              simp only [Array.getD_eq_getD_getElem?]
              rw [Array.getElem?_extract]
              have h4 : j < min (fd.offset + i'.size) cs.size - fd.offset := by omega
              simp [h4]
            rw [h2]
            exact this
          | false =>
            have h1 := htf.one hag
            have h3 : fd.offset < cs.size := by omega
            refine ⟨cs.getD fd.offset undef, fun w => by simp [Instr.field, run_underlying hu, hfd, part, htf.run_isAgg, hag, asAgg, h3, Array.getD], ?_⟩
            exact hr (fd.offset + 0) (by omega)
        · cases hpl
      · cases hpl
    · cases he
  · cases he

def evIndex (x ix : AVal) : Option (AVal × Prop) :=
  match x, ix with
  | .str s, .int _ m => some (.int .u8 (s.getD m.toNat 0).toNat, 0 ≤ m ∧ m < (s.length : Int))
  | _, _ => none

theorem evIndex_ok {T : Tab} (hT : TabOK P T) {t : TypeId} {i : TI} (hi : T t = some i) (hs : (match i.k with | .str => true | _ => false) = true) {p q v : AVal} {c : Prop} (he : evIndex p q = some (v, c)) (hc : c)
    {x y : Value} {cx' : Cx} (hp : Rel cx' p x) (hq : Rel cx' q y) : ∃ z, (∀ w : World, (Instr.index t x y).run P w = .ok z w) ∧ ∀ c2, Rel c2 v z := by
  have hkd := (hT t i hi).kind
  cases hki : i.k <;> rw [hki] at hs <;> simp at hs
  rw [hki] at hkd
  have hu : P.underlying t = some .string := hkd
  unfold evIndex at he
  split at he
  · rename_i s k m
    simp only [Option.some.injEq, Prod.mk.injEq] at he
    obtain ⟨rfl, rfl⟩ := he
    simp only [Rel] at hp hq
    subst hp hq
    obtain ⟨h0, h1⟩ := hc
    have h2 : m.toNat < s.length := by omega
    have h3 : (ByteArray.mk ⟨s⟩)[m.toNat]? = some s[m.toNat] := by
      have h4 : m.toNat < (ByteArray.mk ⟨s⟩).size := by simpa [ByteArray.size] using h2
      rw [getElem?_pos (ByteArray.mk ⟨s⟩) m.toNat h4]
      rfl
    refine ⟨.int .u8 (s.getD m.toNat 0).toNat, fun w => ?_, fun _ => rfl⟩
    simp [Instr.index, asIntOf, run_underlying hu, h0, h3, h2]
  · cases he
end
def sliceT (T : Tab) (t : TypeId) : Bool := match T t with
  | some ⟨.slice _, _, _, _, _⟩ => true
  | _ => false
def elemT (T : Tab) (t : TypeId) : Option TI := match T t with
  | some ⟨.slice e, _, _, _, _⟩ => T e
  | _ => none
def isBoolT (T : Tab) (t : TypeId) : Bool := match T t with
  | some i => match i.k with
    | .bool => true
    | _ => false
  | none => false
def eqC (T : Tab) (ft : TypeId) (a b : AVal) : Option Bool := match T ft with
  | some i => match i.k, a, b with
    | .int _, .int k x, .int k' y => if k = k' then some (decide (x = y)) else none
    | .str, .str x, .str y => some (decide (x = y))
    | .bool, .bool x, .bool y => some (x == y)
    | _, _, _ => none
  | none => none
def eqL (T : Tab) : List (Nat × TypeId) → (Nat → AVal) → (Nat → AVal) → Option Bool
  | [], _, _ => some true
  | (o, ft) :: r, f, g => match eqC T ft (f o) (g o), eqL T r f g with
    | some a, some b => some (a && b)
    | _, _ => none
def evEqA (T : Tab) (t : TypeId) (n : Nat) (f g : Nat → AVal) : Option Bool := match T t with
  | some i => match i.k with
    | .struct l => if i.eq && i.size == n && l.all (fun p => decide (p.1 < n)) then eqL T l f g else none
    | _ => none
  | none => none
def evEq (T : Tab) (o : BinOp) (t : TypeId) (x y : AVal) : Option AVal := match o, x, y with
  | .eql, .bool a, .bool b => if isBoolT T t then some (.bool (a == b)) else none
  | .neq, .bool a, .bool b => if isBoolT T t then some (.bool (!(a == b))) else none
  | .eql, .vsl n _ _, .nils => if sliceT T t then some (.ub (n = 0)) else none
  | .eql, .sl _ _ n, .nils => if sliceT T t then some (.ub (n = 0)) else none
  | .eql, .nils, .nils => if sliceT T t then some (.bool true) else none
  | .eql, .agg n f, .agg m g => (if n = m then evEqA T t n f g else none).map fun r => .bool r
  | .neq, .agg n f, .agg m g => (if n = m then evEqA T t n f g else none).map fun r => .bool (!r)
  | _, _, _ => none

section
variable {P : Program}
theorem isBoolT_spec {T : Tab} (hT : TabOK P T) {t : TypeId} (h : isBoolT T t = true) : P.underlying t = some .bool := by
  unfold isBoolT at h
  split at h
  · rename_i i hi
    have := (hT t i hi).kind
    split at h
    · rename_i hk; rw [hk] at this; exact this
    · cases h
  · cases h
theorem sliceT_spec {T : Tab} (hT : TabOK P T) {t : TypeId} (h : sliceT T t = true) : ∃ e, P.underlying t = some (.slice e) := by
  unfold sliceT at h
  split at h
  · rename_i hi
    have := (hT t _ hi).kind
    exact ⟨_, this⟩
  · cases h

theorem equal_eq (t : TypeId) (x y : Value) : Op.equal t x y = Op.equalIn (9999 + 1) t x y := rfl
theorem run_equal_nil {e : TypeId} {t : TypeId} (hu : P.underlying t = some (.slice e)) (A : Option Addr) (n m : Nat) (w : World) : (Op.equal t (.slice A n m) (.slice none 0 0)).run P w = .ok A.isNone w := by
  rw [equal_eq]
  unfold Op.equalIn
  cases A <;> simp only [Sem.run_bind, run_underlying hu, Result.andThen_ok, Sem.run_pure] <;> rfl

theorem eqC_ok {T : Tab} (hT : TabOK P T) {ft : TypeId} {a b : AVal} {r : Bool} (h : eqC T ft a b = some r) {x y : Value} {c : Cx} (ha : Rel c a x) (hb : Rel c b y) (d : Nat) (w : World) :
    (Op.equalIn (d + 1) ft x y).run P w = .ok r w ∧ isAgg ft = isAgg ft ∧ (isAgg ft).run P w = .ok false w := by
  unfold eqC at h
  split at h
  · rename_i i hi
    have hk := (hT ft i hi).kind
    have hagg := (hT ft i hi).run_isAgg w
    split at h
    · rename_i k0 k p k' q hki
      rw [hki] at hk hagg
      split at h
      · rename_i hkk
        subst hkk
        injection h with h
        simp only [Rel] at ha hb
        subst ha hb h
        refine ⟨?_, rfl, hagg⟩
        rw [run_equalIn_int w d ft k k0 p q hk, beq_dec]
      · cases h
    · rename_i p q hki
      rw [hki] at hk hagg
      injection h with h
      simp only [Rel] at ha hb
      subst ha hb h
      refine ⟨?_, rfl, hagg⟩
      rw [run_equalIn_string w d ft _ _ hk, toList_mk, toList_mk, beq_dec]
    · rename_i p q hki
      rw [hki] at hk hagg
      injection h with h
      simp only [Rel] at ha hb
      subst ha hb h
      exact ⟨run_equalIn_bool w d ft p q hk, rfl, hagg⟩
    · cases h
  · cases h

theorem eqL_ok {T : Tab} (hT : TabOK P T) {n : Nat} {f g : Nat → AVal} {xs ys : Array Value} {c : Cx} (hx : ∀ j, j < n → Rel c (f j) (xs.getD j undef)) (hy : ∀ j, j < n → Rel c (g j) (ys.getD j undef)) (hxn : xs.size = n) (hyn : ys.size = n) (d : Nat) (w : World) :
    ∀ (fs : List Field) (r : Bool), (∀ q ∈ fs, q.name ≠ "_") → (∀ p ∈ fs.map (fun f => (f.offset, f.type)), p.1 < n) → eqL T (fs.map fun f => (f.offset, f.type)) f g = some r → (Op.eqFields (d + 1) xs ys fs).run P w = .ok r w
  | [], r, _, _, h => by
    simp only [List.map_nil, eqL, Option.some.injEq] at h
    subst h
    simp [Op.eqFields]
  | q :: fs, r, hn, hlt, h => by
    simp only [List.map_cons, eqL] at h
    split at h
    · rename_i a b h1 h2
      injection h with h
      subst h
      have hq : q.offset < n := hlt (q.offset, q.type) (by simp)
      obtain ⟨e1, _, e2⟩ := eqC_ok hT h1 (hx _ hq) (hy _ hq) d w
      have ih := eqL_ok hT hx hy hxn hyn d w fs b (fun z hz => hn z (by simp [hz])) (fun p hp => hlt p (by simp only [List.map_cons, List.mem_cons]; exact .inr hp)) h2
      have p1 : (part q.type xs q.offset).run P w = .ok (xs.getD q.offset undef) w := by
        have hq1 : q.offset < xs.size := by omega
        simp [part, e2, hq1, Array.getD]
      have p2 : (part q.type ys q.offset).run P w = .ok (ys.getD q.offset undef) w := by
        have hq1 : q.offset < ys.size := by omega
        simp [part, e2, hq1, Array.getD]
      have hne : q.name ≠ "_" := hn q (by simp)
      simp only [Op.eqFields, hne, ne_eq, not_false_eq_true, if_true, Sem.run_bind, p1, p2, e1, Result.andThen_ok]
      cases a with
      | true => simpa using ih
      | false => simp
    · cases h

theorem evEqA_ok {T : Tab} (hT : TabOK P T) {t : TypeId} {n : Nat} {f g : Nat → AVal} {r : Bool} (h : evEqA T t n f g = some r) {xs ys : Array Value} {c : Cx} (hx : ∀ j, j < n → Rel c (f j) (xs.getD j undef)) (hy : ∀ j, j < n → Rel c (g j) (ys.getD j undef)) (hxn : xs.size = n) (hyn : ys.size = n) (w : World) :
    (Op.equal t (.agg xs) (.agg ys)).run P w = .ok r w ∧ P.eqGuardType P.depth t = false := by
  unfold evEqA at h
  split at h
  · rename_i i hi
    split at h
    · rename_i l hk
      split at h
      · rename_i hc
        simp only [Bool.and_eq_true, beq_iff_eq, List.all_eq_true, decide_eq_true_eq] at hc
        have he := (hT t i hi).eqv hc.1.1 l hk
        refine ⟨?_, he.guard⟩
        have hlt := hc.2
        rw [← he.fields] at h hlt
        have := run_equalIn_struct w 9999 t xs ys he.und he.held
        rw [equal_eq, this]
        exact eqL_ok hT hx hy hxn hyn 9998 w _ r he.names hlt h
      · cases h
    · cases h
  · cases h

theorem evEq_ok {T : Tab} (hT : TabOK P T) {op : BinOp} {t : TypeId} {p q v : AVal} (he : evEq T op t p q = some v) {x y : Value} {c : Cx} (hp : Rel c p x) (hq : Rel c q y) (ox oy : Operand) :
    ∃ z, (∀ w : World, (do eqGuard op t ox oy x y; binOp op t x y : Sem Value).run P w = .ok z w) ∧ ∀ c2, Rel c2 v z := by
  unfold evEq at he
  split at he
  · rename_i a b
    split at he
    · rename_i ht
      injection he with he
      subst he
      simp only [Rel] at hp hq
      subst hp hq
      have hu := isBoolT_spec hT ht
      exact ⟨.bool (a == b), fun w => by simp [eqGuard, binOp, run_equal_bool w t a b hu], fun _ => rfl⟩
    · cases he
  · rename_i a b
    split at he
    · rename_i ht
      injection he with he
      subst he
      simp only [Rel] at hp hq
      subst hp hq
      have hu := isBoolT_spec hT ht
      exact ⟨.bool (!(a == b)), fun w => by simp [eqGuard, binOp, run_equal_bool w t a b hu], fun _ => rfl⟩
    · cases he
  · rename_i n s f
    split at he
    · rename_i ht
      injection he with he
      subst he
      obtain ⟨A, cap, rfl, hn, hA⟩ := hp
      simp only [Rel] at hq
      subst hq
      obtain ⟨e, hu⟩ := sliceT_spec hT ht
      cases A with
      | none =>
        refine ⟨.bool true, fun w => by simp [eqGuard, binOp, run_equal_nil hu], fun _ => ⟨true, rfl, fun _ => ?_⟩⟩
        rcases hA with hA | ⟨b, o, hA, _⟩
        · exact hA
        · cases hA
      | some A => exact ⟨.bool false, fun w => by simp [eqGuard, binOp, run_equal_nil hu], fun _ => ⟨false, rfl, fun h => by cases h⟩⟩
    · cases he
  · rename_i id lo n
    split at he
    · rename_i ht
      injection he with he
      subst he
      obtain ⟨_, A, cap, rfl, hn, hA⟩ := hp
      simp only [Rel] at hq
      subst hq
      obtain ⟨e, hu⟩ := sliceT_spec hT ht
      cases A with
      | none =>
        refine ⟨.bool true, fun w => by simp [eqGuard, binOp, run_equal_nil hu], fun _ => ⟨true, rfl, fun _ => ?_⟩⟩
        rcases hA with hA | ⟨B, _, hA, _⟩
        · omega
        · cases hA
      | some A => exact ⟨.bool false, fun w => by simp [eqGuard, binOp, run_equal_nil hu], fun _ => ⟨false, rfl, fun h => by cases h⟩⟩
    · cases he
  · split at he
    · rename_i ht
      injection he with he
      subst he
      simp only [Rel] at hp hq
      subst hp hq
      obtain ⟨e, hu⟩ := sliceT_spec hT ht
      exact ⟨.bool true, fun w => by simp [eqGuard, binOp, run_equal_nil hu], fun _ => rfl⟩
    · cases he
  · rename_i n f m g
    split at he
    · rename_i hnm
      subst hnm
      cases hr : evEqA T t n f g with
      | none => rw [hr] at he; cases he
      | some r =>
        rw [hr] at he
        injection he with he
        subst he
        obtain ⟨xs, rfl, hxn, hx⟩ := hp
        obtain ⟨ys, rfl, hyn, hy⟩ := hq
        exact ⟨.bool r, fun w => by
          obtain ⟨h1, h2⟩ := evEqA_ok hT hr hx hy hxn hyn w
          simp [eqGuard, binOp, h1, h2], fun _ => rfl⟩
    · cases he
  · rename_i n f m g
    split at he
    · rename_i hnm
      subst hnm
      cases hr : evEqA T t n f g with
      | none => rw [hr] at he; cases he
      | some r =>
        rw [hr] at he
        injection he with he
        subst he
        obtain ⟨xs, rfl, hxn, hx⟩ := hp
        obtain ⟨ys, rfl, hyn, hy⟩ := hq
        exact ⟨.bool (!r), fun w => by
          obtain ⟨h1, h2⟩ := evEqA_ok hT hr hx hy hxn hyn w
          simp [eqGuard, binOp, h1, h2], fun _ => rfl⟩
    · cases he
  · cases he
end
end Go.Lift
