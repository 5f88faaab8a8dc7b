/-
  The abstract layer, part Q: the rules by which simp evaluates.
-/
import Derived.Test.YtmjkbidnghcfnaaLP
namespace Go.Lift
set_option linter.unusedSimpArgs false
set_option linter.unusedVariables false
open Go.RowKit

section
variable {T : Tab} {h : Heap} {t e : TypeId} {sz by_ : Nat} {z : Nat → AVal} {ei ti : TI} {k k' : IntKind} {n m a b : Int} {id : Id} {lo i off s N x y : Nat} {p q : Bool} {v : AVal} {f : Nat → AVal} {g : Nat → Nat → AVal} {cs ds : List UInt8}

@[simp] theorem strip_int : strip (.int k n) = (.int k n, True) := rfl
@[simp] theorem strip_bool : strip (.bool p) = (.bool p, True) := rfl
@[simp] theorem strip_str : strip (.str cs) = (.str cs, True) := rfl
@[simp] theorem strip_nilp : strip .nilp = (.nilp, True) := rfl
@[simp] theorem strip_nils : strip .nils = (.nils, True) := rfl
@[simp] theorem strip_nilmap : strip .nilmap = (.nilmap, True) := rfl
@[simp] theorem strip_nilfn : strip .nilfn = (.nilfn, True) := rfl
@[simp] theorem strip_ptr : strip (.ptr id i off) = (.ptr id i off, True) := rfl
@[simp] theorem strip_vptr : strip (.vptr s f off) = (.vptr s f off, True) := rfl
@[simp] theorem strip_sl : strip (.sl id lo x) = (.sl id lo x, True) := rfl
@[simp] theorem strip_vsl : strip (.vsl x s g) = (.vsl x s g, True) := rfl
@[simp] theorem strip_agg : strip (.agg x f) = (.agg x f, True) := rfl
@[simp] theorem strip_tup : strip (.tup x f) = (.tup x f, True) := rfl
@[simp] theorem strip_yld {l : Nat} {vs : Array Value} {n : Nat} {f : Nat → AVal} : strip (.yld l vs n f) = (.yld l vs n f, True) := rfl
@[simp] theorem strip_fn : strip (.fn i x f) = (.fn i x f, True) := rfl
@[simp] theorem strip_map : strip (.map id) = (.map id, True) := rfl
@[simp] theorem strip_opt : strip (.opt p v) = (v, p = true) := rfl
@[simp] theorem strip_any : strip .any = (.any, True) := rfl

@[simp] theorem mkOpt_opt {g g2 : Bool} {v : AVal} : mkOpt g (.opt g2 v) = .opt (g && g2) v := rfl
@[simp] theorem mkOpt_int {g : Bool} {k : IntKind} {n : Int} : mkOpt g (.int k n) = .opt g (.int k n) := rfl
@[simp] theorem mkOpt_bool {g : Bool} {b : Bool} : mkOpt g (.bool b) = .opt g (.bool b) := rfl
@[simp] theorem mkOpt_str {g : Bool} {l : List UInt8} : mkOpt g (.str l) = .opt g (.str l) := rfl
@[simp] theorem mkOpt_nilp {g : Bool}  : mkOpt g .nilp = .opt g .nilp := rfl
@[simp] theorem mkOpt_nils {g : Bool}  : mkOpt g .nils = .opt g .nils := rfl
@[simp] theorem mkOpt_nilmap {g : Bool}  : mkOpt g .nilmap = .opt g .nilmap := rfl
@[simp] theorem mkOpt_nilfn {g : Bool}  : mkOpt g .nilfn = .opt g .nilfn := rfl
@[simp] theorem mkOpt_ptr {g : Bool} {id : Id} {i o : Nat} : mkOpt g (.ptr id i o) = .opt g (.ptr id i o) := rfl
@[simp] theorem mkOpt_vptr {g : Bool} {s : Nat} {f : Nat → AVal} {o : Nat} : mkOpt g (.vptr s f o) = .opt g (.vptr s f o) := rfl
@[simp] theorem mkOpt_sl {g : Bool} {id : Id} {l n : Nat} : mkOpt g (.sl id l n) = .opt g (.sl id l n) := rfl
@[simp] theorem mkOpt_vsl {g : Bool} {n s : Nat} {f : Nat → Nat → AVal} : mkOpt g (.vsl n s f) = .opt g (.vsl n s f) := rfl
@[simp] theorem mkOpt_agg {g : Bool} {n : Nat} {f : Nat → AVal} : mkOpt g (.agg n f) = .opt g (.agg n f) := rfl
@[simp] theorem mkOpt_tup {g : Bool} {n : Nat} {f : Nat → AVal} : mkOpt g (.tup n f) = .opt g (.tup n f) := rfl
@[simp] theorem mkOpt_yld {g : Bool} {l : Nat} {vs : Array Value} {n : Nat} {f : Nat → AVal} : mkOpt g (.yld l vs n f) = .opt g (.yld l vs n f) := rfl
@[simp] theorem mkOpt_fn {g : Bool} {i n : Nat} {f : Nat → AVal} : mkOpt g (.fn i n f) = .opt g (.fn i n f) := rfl
@[simp] theorem mkOpt_map {g : Bool} {id : Id} : mkOpt g (.map id) = .opt g (.map id) := rfl
@[simp] theorem mkOpt_any {g : Bool}  : mkOpt g .any = .opt g .any := rfl
@[simp] theorem mkOpt_ub {g : Bool} {p : Prop} : mkOpt g (.ub p) = .opt g (.ub p) := rfl
@[simp] theorem gB_bool : gB q (.bool p) = some (p == q) := rfl
@[simp] theorem gB_opt {y' : Bool} : gB q (.opt y' (.bool p)) = some (y' && (p == q)) := rfl
@[simp] theorem pickB_bool : pickB (.bool p) = some (p, True) := rfl
@[simp] theorem pickB_opt : pickB (.opt q (.bool p)) = some (p, q = true) := rfl

@[simp] theorem evMM_nil {mx : Bool} : evMM mx (.int k n) [] = some (.int k n) := rfl
@[simp] theorem evMM_max {r : List AVal} : evMM true (.int k n) (.int k' m :: r) = evMM true (.int k (max n m)) r := rfl
@[simp] theorem evMM_min {r : List AVal} : evMM false (.int k n) (.int k' m :: r) = evMM false (.int k (min n m)) r := rfl

@[simp] theorem evLen_nils : evLen h .nils = some (.int .i64 0) := rfl
@[simp] theorem evLen_vsl : evLen h (.vsl x s g) = some (.int .i64 x) := rfl
@[simp] theorem evLen_sl : evLen h (.sl id lo x) = some (.int .i64 x) := rfl
@[simp] theorem evLen_str : evLen h (.str cs) = some (.int .i64 cs.length) := rfl
@[simp] theorem lenT_nils : lenT T t .nils = sliceT T t := by
  unfold lenT sliceT
  cases T t with
  | none => rfl
  | some i => obtain ⟨k, a, b, c, dq⟩ := i; cases k <;> rfl
@[simp] theorem lenT_vsl : lenT T t (.vsl x s g) = sliceT T t := by
  unfold lenT sliceT
  cases T t with
  | none => rfl
  | some i => obtain ⟨k, a, b, c, dq⟩ := i; cases k <;> rfl
@[simp] theorem lenT_sl : lenT T t (.sl id lo x) = sliceT T t := by
  unfold lenT sliceT
  cases T t with
  | none => rfl
  | some i => obtain ⟨k, a, b, c, dq⟩ := i; cases k <;> rfl
@[simp] theorem lenT_str : lenT T t (.str cs) = isStrT T t := by
  unfold lenT isStrT
  cases T t with
  | none => rfl
  | some i => obtain ⟨k, a, b, c, dq⟩ := i; cases k <;> rfl

attribute [simp] isBoolT eqC eqL evEqA evLoad evStore evFieldAddr evField placeS isStrT sliceT elemT evBox evAlloc evMake evBuild evBuildSlice evAppend evParts allLt
@[simp] theorem mkL_int : mkL ⟨.int k, sz, by_, z, q⟩ f = f 0 := rfl
@[simp] theorem mkL_bool : mkL ⟨.bool, sz, by_, z, q⟩ f = f 0 := rfl
@[simp] theorem mkL_str : mkL ⟨.str, sz, by_, z, q⟩ f = f 0 := rfl
@[simp] theorem mkL_slice : mkL ⟨.slice e, sz, by_, z, q⟩ f = f 0 := rfl
@[simp] theorem mkL_map {e' : TypeId} : mkL ⟨.map e e', sz, by_, z, q⟩ f = f 0 := rfl
@[simp] theorem mkL_ptr : mkL ⟨.ptr e, sz, by_, z, q⟩ f = f 0 := rfl
@[simp] theorem mkL_func : mkL ⟨.func, sz, by_, z, q⟩ f = f 0 := rfl
@[simp] theorem mkL_struct {l : List (Nat × TypeId)} : mkL ⟨.struct l, sz, by_, z, q⟩ f = .agg sz f := rfl

@[simp] theorem acell_agg : acell (.agg x f) y = f y := rfl
@[simp] theorem acell_int : acell (.int k n) y = .int k n := rfl
@[simp] theorem acell_bool : acell (.bool p) y = .bool p := rfl
@[simp] theorem acell_str : acell (.str cs) y = .str cs := rfl
@[simp] theorem acell_nils : acell .nils y = .nils := rfl
@[simp] theorem acell_nilp : acell .nilp y = .nilp := rfl
@[simp] theorem acell_nilmap : acell .nilmap y = .nilmap := rfl
@[simp] theorem acell_sl : acell (.sl id lo x) y = .sl id lo x := rfl
@[simp] theorem acell_vsl : acell (.vsl x s g) y = .vsl x s g := rfl
@[simp] theorem acell_ptr : acell (.ptr id i off) y = .ptr id i off := rfl
@[simp] theorem acell_map : acell (.map id) y = .map id := rfl
@[simp] theorem acell_yld {y : Nat} {l : Nat} {vs : Array Value} {n : Nat} {f : Nat → AVal} : acell (.yld l vs n f) y = .yld l vs n f := rfl
@[simp] theorem acell_fn : acell (.fn i x f) y = .fn i x f := rfl

@[simp] theorem one_int : (AVal.int k n).one = true := rfl
@[simp] theorem one_bool : (AVal.bool p).one = true := rfl
@[simp] theorem one_str : (AVal.str cs).one = true := rfl
@[simp] theorem one_nils : AVal.nils.one = true := rfl
@[simp] theorem one_nilp : AVal.nilp.one = true := rfl
@[simp] theorem one_nilmap : AVal.nilmap.one = true := rfl
@[simp] theorem one_nilfn : AVal.nilfn.one = true := rfl
@[simp] theorem one_sl : (AVal.sl id lo x).one = true := rfl
@[simp] theorem one_vsl : (AVal.vsl x s g).one = true := rfl
@[simp] theorem one_ptr : (AVal.ptr id i off).one = true := rfl
@[simp] theorem one_vptr : (AVal.vptr s f off).one = true := rfl
@[simp] theorem one_map : (AVal.map id).one = true := rfl
@[simp] theorem one_yld {l : Nat} {vs : Array Value} {n : Nat} {f : Nat → AVal} : (AVal.yld l vs n f).one = true := rfl
@[simp] theorem one_fn : (AVal.fn i x f).one = true := rfl

@[simp] theorem fits_one (h1 : v.one = true) (h2 : ti.k.agg = false) : fits ti v = true := by
  cases v <;> simp [AVal.one] at h1 <;> simp [fits, h2, AVal.one]
@[simp] theorem fits_agg (h1 : ti.k.agg = true) (h2 : x = ti.size) : fits ti (.agg x f) = allLt ti.size (fun j => (f j).one) := by
  simp [fits, h1, h2]

@[simp] theorem evIndexAddr_sl : evIndexAddr T h t (.sl id lo x) (.int k m) = match elemT T t with
    | some ei => (match lkH h id with
      | some (.arr _ s _) => if s = ei.size then some (.ptr id (lo + m.toNat) 0, 0 ≤ m ∧ m < (x : Int)) else none
      | _ => none)
    | none => none := by
  unfold evIndexAddr elemT
  cases T t with
  | none => rfl
  | some i =>
    obtain ⟨k, a, b, c, dq⟩ := i
    cases k <;> try rfl
    rename_i e
    simp only
    cases T e <;> rfl
@[simp] theorem evIndexAddr_vsl : evIndexAddr T h t (.vsl x s g) (.int k m) = match elemT T t with
    | some ei => if s = ei.size then some (.vptr s (g m.toNat) 0, 0 ≤ m ∧ m < (x : Int)) else none
    | none => none := by
  unfold evIndexAddr elemT
  cases T t with
  | none => rfl
  | some i =>
    obtain ⟨k, a, b, c, dq⟩ := i
    cases k <;> try rfl
    rename_i e
    simp only
    cases T e <;> rfl
@[simp] theorem evIndex_str : evIndex (.str cs) (.int k m) = some (.int .u8 (cs.getD m.toNat 0).toNat, 0 ≤ m ∧ m < (cs.length : Int)) := rfl

@[simp] theorem evBin_add : evBin .add (.int k a) (.int k b) = some (.int k (a + b), inR k (a + b)) := by simp [evBin]
@[simp] theorem evBin_sub : evBin .sub (.int k a) (.int k b) = some (.int k (a - b), inR k (a - b)) := by simp [evBin]
@[simp] theorem evBin_mul : evBin .mul (.int k a) (.int k b) = some (.int k (a * b), inR k (a * b)) := by simp [evBin]
@[simp] theorem evBin_quo : evBin .quo (.int k a) (.int k b) = some (.int k (a / b), 0 ≤ a ∧ 0 < b ∧ inR k a) := by simp [evBin]
@[simp] theorem evBin_rem : evBin .rem (.int k a) (.int k b) = some (.int k (a % b), 0 ≤ a ∧ 0 < b) := by simp [evBin]
@[simp] theorem evBin_eql : evBin .eql (.int k a) (.int k b) = some (.bool (decide (a = b)), True) := by simp [evBin]
@[simp] theorem evBin_neq : evBin .neq (.int k a) (.int k b) = some (.bool (!decide (a = b)), True) := by simp [evBin]
@[simp] theorem evBin_lss : evBin .lss (.int k a) (.int k b) = some (.bool (decide (a < b)), True) := by simp [evBin]
@[simp] theorem evBin_leq : evBin .leq (.int k a) (.int k b) = some (.bool (decide (a ≤ b)), True) := by simp [evBin]
@[simp] theorem evBin_gtr : evBin .gtr (.int k a) (.int k b) = some (.bool (decide (b < a)), True) := by simp [evBin]
@[simp] theorem evBin_geq : evBin .geq (.int k a) (.int k b) = some (.bool (decide (b ≤ a)), True) := by simp [evBin]
@[simp] theorem evBin_nvsl {o : BinOp} {v : AVal} : evBin o (.vsl x s g) v = none := rfl
@[simp] theorem evBin_nsl {o : BinOp} {v : AVal} : evBin o (.sl id lo x) v = none := rfl
@[simp] theorem evBin_nnils {o : BinOp} {v : AVal} : evBin o .nils v = none := rfl
@[simp] theorem evBin_nbool {o : BinOp} {v : AVal} : evBin o (.bool p) v = none := rfl
@[simp] theorem evBin_nagg {o : BinOp} {v : AVal} : evBin o (.agg x f) v = none := rfl
@[simp] theorem evEq_bool : evEq T .eql t (.bool p) (.bool q) = if isBoolT T t then some (.bool (p == q)) else none := rfl
@[simp] theorem evEq_nbool : evEq T .neq t (.bool p) (.bool q) = if isBoolT T t then some (.bool (!(p == q))) else none := rfl
@[simp] theorem evEq_vsl : evEq T .eql t (.vsl x s g) .nils = if sliceT T t then some (.ub (x = 0)) else none := rfl
@[simp] theorem evEq_sl : evEq T .eql t (.sl id lo x) .nils = if sliceT T t then some (.ub (x = 0)) else none := rfl
@[simp] theorem evEq_nils : evEq T .eql t .nils .nils = if sliceT T t then some (.bool true) else none := rfl
@[simp] theorem evEq_agg {f' : Nat → AVal} : evEq T .eql t (.agg x f) (.agg y f') = (if x = y then evEqA T t x f f' else none).map fun r => .bool r := rfl
@[simp] theorem evEq_nagg {f' : Nat → AVal} : evEq T .neq t (.agg x f) (.agg y f') = (if x = y then evEqA T t x f f' else none).map fun r => .bool (!r) := rfl
@[simp] theorem evBin_sadd : evBin .add (.str cs) (.str ds) = some (.str (cs ++ ds), cs.length + ds.length ≤ 9223372036854775807) := rfl
@[simp] theorem evBin_seql : evBin .eql (.str cs) (.str ds) = some (.bool (decide (cs = ds)), True) := rfl
@[simp] theorem evBin_sneq : evBin .neq (.str cs) (.str ds) = some (.bool (!decide (cs = ds)), True) := rfl
@[simp] theorem evBin_slss : evBin .lss (.str cs) (.str ds) = some (.bool (Op.bytesLess cs ds), True) := rfl
@[simp] theorem evBin_sleq : evBin .leq (.str cs) (.str ds) = some (.bool (Op.bytesLess cs ds || decide (cs = ds)), True) := rfl
@[simp] theorem evBin_sgtr : evBin .gtr (.str cs) (.str ds) = some (.bool (!(Op.bytesLess cs ds || decide (cs = ds))), True) := rfl
@[simp] theorem evBin_sgeq : evBin .geq (.str cs) (.str ds) = some (.bool (!Op.bytesLess cs ds), True) := rfl
@[simp] theorem evUn_not : evUn .not (.bool p) = some (.bool (!p), True) := rfl
@[simp] theorem evUn_neg : evUn .neg (.int k n) = some (.int k (0 - n), inR k (0 - n)) := rfl
@[simp] theorem inR_i64 : inR .i64 n = (-9223372036854775808 ≤ n ∧ n ≤ 9223372036854775807) := rfl
@[simp] theorem inR_u8 : inR .u8 n = (0 ≤ n ∧ n ≤ 255) := rfl
@[simp] theorem inR_u64 : inR .u64 n = (0 ≤ n ∧ n ≤ 18446744073709551615) := rfl

@[simp] theorem evSrc_nils : evSrc h s .nils = some (0, (fun _ _ => .any), True) := rfl
@[simp] theorem evSrc_vsl : evSrc h s (.vsl x y g) = if y = s then some (x, g, True) else none := rfl
@[simp] theorem evSrc_sl : evSrc h s (.sl id lo x) = match lkH h id with
    | some (.arr n s' f) => if s' = s then some (x, (fun i j => f (lo + i) j), lo + x ≤ n) else none
    | _ => none := rfl
@[simp] theorem evSrc_str1 : evSrc h 1 (.str cs) = some (cs.length, (fun i _ => .int .u8 (cs.getD i 0).toNat), True) := rfl
@[simp] theorem loA_none : loA none = some 0 := rfl
@[simp] theorem loA_some : loA (some (.int k n)) = some n := rfl
@[simp] theorem hiA_none : hiA x none = some (x : Int) := rfl
@[simp] theorem hiA_some : hiA x (some (.int k n)) = some n := rfl

@[simp] theorem VLe_any {σ : Id → Id} {fz : Nat → Bool} {vz : Id → Bool} : VLe h σ fz vz x .any v := trivial
@[simp] theorem VLe_int {σ : Id → Id} {fz : Nat → Bool} {vz : Id → Bool} : VLe h σ fz vz x (.int k n) v = (v = .int k n) := rfl
@[simp] theorem VLe_bool {σ : Id → Id} {fz : Nat → Bool} {vz : Id → Bool} : VLe h σ fz vz x (.bool p) v = (v = .bool p) := rfl
@[simp] theorem VLe_str {σ : Id → Id} {fz : Nat → Bool} {vz : Id → Bool} : VLe h σ fz vz x (.str cs) v = (v = .str cs) := rfl
@[simp] theorem VLe_nils {σ : Id → Id} {fz : Nat → Bool} {vz : Id → Bool} : VLe h σ fz vz x .nils v = (v = .nils) := rfl
@[simp] theorem VLe_nilp {σ : Id → Id} {fz : Nat → Bool} {vz : Id → Bool} : VLe h σ fz vz x .nilp v = (v = .nilp) := rfl
@[simp] theorem VLe_nilmap {σ : Id → Id} {fz : Nat → Bool} {vz : Id → Bool} : VLe h σ fz vz x .nilmap v = (v = .nilmap) := rfl
@[simp] theorem VLe_ptr {σ : Id → Id} {fz : Nat → Bool} {vz : Id → Bool} : VLe h σ fz vz x (.ptr id i off) v = (id.1 < x ∧ vz id = false ∧ v = .ptr (σ id) i off) := rfl
@[simp] theorem VLe_sl {σ : Id → Id} {fz : Nat → Bool} {vz : Id → Bool} : VLe h σ fz vz x (.sl id lo y) v = (id.1 < x ∧ ((vz id = false ∧ v = .sl (σ id) lo y) ∨ (v = .nils ∧ y = 0))) := rfl
@[simp] theorem VLe_map {σ : Id → Id} {fz : Nat → Bool} {vz : Id → Bool} : VLe h σ fz vz x (.map id) v = (id.1 < x ∧ vz id = false ∧ v = .map (σ id)) := rfl
@[simp] theorem VLe_vsl_vsl {σ : Id → Id} {fz : Nat → Bool} {vz : Id → Bool} {x' s' : Nat} {g' : Nat → Nat → AVal} : VLe h σ fz vz y (.vsl x s g) (.vsl x' s' g') = (x' = x ∧ s' = s ∧ ∀ i, i < x → ∀ j, j < s → (g i j).one = true ∧ VLe h σ fz vz y (g i j) (g' i j)) := rfl
@[simp] theorem VLe_vsl_nils {σ : Id → Id} {fz : Nat → Bool} {vz : Id → Bool} : VLe h σ fz vz y (.vsl x s g) .nils = (x = 0) := rfl
@[simp] theorem VLe_vsl_sl {σ : Id → Id} {fz : Nat → Bool} {vz : Id → Bool} {x' : Nat} : VLe h σ fz vz y (.vsl x s g) (.sl id lo x') = (x' = x ∧ fz id.1 = true ∧ match lkH h id with
    | some (.arr N s' g') => s' = s ∧ lo + x ≤ N ∧ ∀ i, i < x → ∀ j, j < s → (g i j).one = true ∧ VLe h σ fz vz y (g i j) (g' (lo + i) j)
    | _ => False) := by
  simp only [VLe]
  cases lkH h id with
  | none => rfl
  | some o => cases o <;> rfl
@[simp] theorem VLe_vptr_vptr {σ : Id → Id} {fz : Nat → Bool} {vz : Id → Bool} {s' off' : Nat} {f' : Nat → AVal} : VLe h σ fz vz y (.vptr s f off) (.vptr s' f' off') = (s' = s ∧ off' = off ∧ ∀ j, j < s → (f j).one = true ∧ VLe h σ fz vz y (f j) (f' j)) := rfl
@[simp] theorem VLe_agg_agg {σ : Id → Id} {fz : Nat → Bool} {vz : Id → Bool} {x' : Nat} {f' : Nat → AVal} : VLe h σ fz vz y (.agg x f) (.agg x' f') = (x' = x ∧ ∀ j, j < x → VLe h σ fz vz y (f j) (f' j)) := rfl
@[simp] theorem VLe_tup_tup {σ : Id → Id} {fz : Nat → Bool} {vz : Id → Bool} {x' : Nat} {f' : Nat → AVal} : VLe h σ fz vz y (.tup x f) (.tup x' f') = (x' = x ∧ ∀ j, j < x → VLe h σ fz vz y (f j) (f' j)) := rfl

attribute [simp] TK.agg

/-- values without pieces of one's own. -/
def Clo : AVal → Prop
  | .ptr .. => False
  | .sl .. => False
  | .map _ => False
  | .vsl n s f => ∀ i, i < n → ∀ j, j < s → (f i j).one = true ∧ Clo (f i j)
  | .vptr s f _ => ∀ j, j < s → (f j).one = true ∧ Clo (f j)
  | .agg n f => ∀ j, j < n → Clo (f j)
  | .tup n f => ∀ j, j < n → Clo (f j)
  | .fn _ n f => ∀ j, j < n → Clo (f j)
  | .yld _ _ n f => ∀ j, j < n → Clo (f j)
  | .opt _ v => Clo v
  | _ => True
theorem Clo.le {h : Heap} {σ : Id → Id} {fz : Nat → Bool} {vz : Id → Bool} {nx : Nat} : ∀ (v : AVal), Clo v → VLe h σ fz vz nx v v := by
  intro v
  induction v with
  | ptr => intro h; exact h.elim
  | sl => intro h; exact h.elim
  | map => intro h; exact h.elim
  | vsl n s f ih => intro h; exact ⟨rfl, rfl, fun i hi j hj => ⟨(h i hi j hj).1, ih i j (h i hi j hj).2⟩⟩
  | vptr s f off ih => intro h; exact ⟨rfl, rfl, fun j hj => ⟨(h j hj).1, ih j (h j hj).2⟩⟩
  | agg n f ih => intro h; exact ⟨rfl, fun j hj => ih j (h j hj)⟩
  | tup n f ih => intro h; exact ⟨rfl, fun j hj => ih j (h j hj)⟩
  | fn g n f ih => intro h; exact ⟨rfl, rfl, fun j hj => ih j (h j hj)⟩
  | yld l vs n f ih => intro h; exact ⟨rfl, rfl, rfl, fun j hj => ih j (h j hj)⟩
  | opt g v ih => intro h; exact ⟨rfl, ih h⟩
  | any => intro _; trivial
  | _ => intro _; rfl
end
@[simp] theorem VLe_self {h : Heap} {σ : Id → Id} {fz : Nat → Bool} {vz : Id → Bool} {nx : Nat} {v : AVal} (hv : Clo v) : VLe h σ fz vz nx v v := Clo.le v hv
@[simp] theorem Clo_int {k : IntKind} {n : Int} : Clo (.int k n) := trivial
@[simp] theorem Clo_bool {p : Bool} : Clo (.bool p) := trivial
@[simp] theorem Clo_str {cs : List UInt8} : Clo (.str cs) := trivial
@[simp] theorem Clo_nils : Clo .nils := trivial
@[simp] theorem Clo_any : Clo .any := trivial
@[simp] theorem Clo_nilp : Clo .nilp := trivial
@[simp] theorem Clo_agg {n : Nat} {f : Nat → AVal} : Clo (.agg n f) = ∀ j, j < n → Clo (f j) := rfl
@[simp] theorem Clo_tup {n : Nat} {f : Nat → AVal} : Clo (.tup n f) = ∀ j, j < n → Clo (f j) := rfl
@[simp] theorem Clo_vsl {n s : Nat} {f : Nat → Nat → AVal} : Clo (.vsl n s f) = ∀ i, i < n → ∀ j, j < s → (f i j).one = true ∧ Clo (f i j) := rfl
@[simp] theorem Clo_vptr {off s : Nat} {f : Nat → AVal} : Clo (.vptr s f off) = ∀ j, j < s → (f j).one = true ∧ Clo (f j) := rfl
@[simp] theorem one_vec {α : Type} {s : Nat} {f : α → Nat → AVal} {d : α} {l : List α} : (vec s f d l).one = true := rfl
@[simp] theorem acell_vec {α : Type} {s : Nat} {f : α → Nat → AVal} {d : α} {l : List α} {j : Nat} : acell (vec s f d l) j = vec s f d l := rfl
theorem Clo_vec {α : Type} {s : Nat} {f : α → Nat → AVal} {d : α} {l : List α} (h : ∀ x ∈ l, ∀ j, j < s → (f x j).one = true ∧ Clo (f x j)) : Clo (vec s f d l) := by
  intro i hi j hj
  have : l.getD i d ∈ l := by
    rw [List.getD_eq_getElem?_getD, List.getElem?_eq_getElem hi]
    exact List.getElem_mem hi
  exact h _ this j hj
@[simp] theorem evSrc_vec {h : Heap} {α : Type} {s y : Nat} {f : α → Nat → AVal} {d : α} {l : List α} (h1 : s = y) : evSrc h y (vec s f d l) = some (l.length, vecF f d l, True) := by
  subst h1
  simp [evSrc, vec]

/-- slices of ints. -/
def ints (l : List Int) : AVal := vec 1 (fun x _ => .int .i64 x) 0 l
@[simp] theorem mkOpt_ints {g : Bool} {l : List Int} : mkOpt g (ints l) = .opt g (ints l) := rfl
@[simp] theorem evLen_ints {h : Heap} {l : List Int} : evLen h (ints l) = some (.int .i64 l.length) := rfl
@[simp] theorem strip_ints {l : List Int} : strip (ints l) = (ints l, True) := rfl
@[simp] theorem one_ints {l : List Int} : (ints l).one = true := rfl
@[simp] theorem acell_ints {l : List Int} {j : Nat} : acell (ints l) j = ints l := rfl
@[simp] theorem Clo_ints {l : List Int} : Clo (ints l) := Clo_vec fun _ _ _ _ => ⟨rfl, trivial⟩
section
variable {T : Tab} {h : Heap} {t : TypeId} {k : IntKind} {m : Int} {l : List Int}
@[simp] theorem lenT_ints : lenT T t (ints l) = sliceT T t := lenT_vec
@[simp] theorem evIndexAddr_ints : evIndexAddr T h t (ints l) (.int k m) = match elemT T t with
    | some ei => if 1 = ei.size then some (.vptr 1 (fun _ => .int .i64 (l.getD m.toNat 0)) 0, 0 ≤ m ∧ m < (l.length : Int)) else none
    | none => none := evIndexAddr_vec
@[simp] theorem evSrc_ints : evSrc h 1 (ints l) = some (l.length, (fun i _ => .int .i64 (l.getD i 0)), True) := rfl
end

attribute [simp] evOps evG evOp evCallB putSt evX sv sc lk ofValue lkH HEnt.get setH HEnt.set partsV partsC argsC envLe argsLe callArgs guardOf optV gHolds wr evRes evResL evRes1
@[simp] theorem delH_root (h : Heap) (k : Nat) : delH h (k, 0) = h.filter (fun e => !(e.1 == k)) := rfl

def goPut : Option St → (St → Prop) → Prop
  | some s, K => K s
  | none, _ => False
@[simp] theorem goPut_some (s : St) (K : St → Prop) : goPut (some s) K = K s := rfl
theorem goPut_spec {r : Option St} {K : St → Prop} (h : goPut r K) : ∃ s, r = some s ∧ K s := by
  cases r with
  | none => exact h.elim
  | some p => exact ⟨p, rfl, h⟩

section
variable {P : Program} {G : Gh} {n0 : Nat}
/-- a call in a region. -/
theorem awpL_call {f : FuncId} (hf : Callable P f) {as : List AVal} {r : AVal} {ops l : List Oper} {o : Oper} {Q : St → Prop} {st : St} {x : Operand} {args : Array Operand} {ts : Array TypeId}
    (ho : o.op = .call { callee := .value x, args := args, argTypes := ts }) {g : Option Bool} (hg : guardOf ops.toArray o st.env = some g) {n : Nat} {fc : Nat → AVal} (hx : gHolds g → sv st.env x = .fn f n fc)
    (hc : gHolds g → PC P f as r) (hsc : gHolds g → sc st.env x ∧ argsC st.env args.toList) (hle : gHolds g → argsLe st.heap (fun _ => false) as (callArgs st.env args.toList n fc))
    (h : ∀ K : St → Prop, (∀ s, AwpL P G n0 ops l Q s → K s) → goPut (putSt G.nt st.env st.heap st.nx o.dst (optV g r)) K) : AwpL P G n0 ops (o :: l) Q st := by
  obtain ⟨s, hput, hs⟩ := goPut_spec (h _ fun _ hs => hs)
  exact awpL_pc ho hg (fun hh => ⟨hx hh, hsc hh⟩) hf hc (fun _ => false) (.inl fun _ => rfl) hle hput hs
/-- a call to which pieces are lent. -/
theorem awpL_callB (fz : Nat → Bool) {f : FuncId} (hf : Callable P f) {as : List AVal} {r : AVal} (hflat : flat r) {ops l : List Oper} {o : Oper} {Q : St → Prop} {st : St} {x : Operand} {args : Array Operand} {ts : Array TypeId}
    (ho : o.op = .call { callee := .value x, args := args, argTypes := ts }) {g : Option Bool} (hg : guardOf ops.toArray o st.env = some g) {n : Nat} {fc : Nat → AVal} (hx : gHolds g → sv st.env x = .fn f n fc)
    (hc : gHolds g → PC P f as r) (hsc : gHolds g → sc st.env x ∧ argsC st.env args.toList) (hle : gHolds g → argsLe st.heap fz as (callArgs st.env args.toList n fc))
    (h : ∀ K : St → Prop, (∀ s, AwpL P G n0 ops l Q s → K s) → goPut (putSt G.nt st.env st.heap st.nx o.dst (optV g r)) K) : AwpL P G n0 ops (o :: l) Q st := by
  obtain ⟨s, hput, hs⟩ := goPut_spec (h _ fun _ hs => hs)
  exact awpL_pc ho hg (fun hh => ⟨hx hh, hsc hh⟩) hf hc fz (.inr hflat) hle hput hs

theorem blockQ_exit {id : Nat} {Q : Exit → St → Prop} {st : St} (h : Q .normal st) : blockQ id Q (.exit id) st := by simp only [blockQ, if_true]; exact h
theorem blockQ_exit_ne {id id' : Nat} {Q : Exit → St → Prop} {st : St} (hne : id' ≠ id) (h : Q (.exit id') st) : blockQ id Q (.exit id') st := by simp only [blockQ]; rw [if_neg hne]; exact h
theorem blockQ_norm {id : Nat} {Q : Exit → St → Prop} {st : St} (h : Q .normal st) : blockQ id Q .normal st := h
theorem blockQ_ret {id : Nat} {Q : Exit → St → Prop} {st : St} (h : Q .ret st) : blockQ id Q .ret st := h
theorem thenQ_norm {N : St → Prop} {Q : Exit → St → Prop} {st : St} (h : N st) : thenQ N Q .normal st := h
theorem thenQ_exit {N : St → Prop} {id : Nat} {Q : Exit → St → Prop} {st : St} (h : Q (.exit id) st) : thenQ N Q (.exit id) st := h
theorem thenQ_ret {N : St → Prop} {Q : Exit → St → Prop} {st : St} (h : Q .ret st) : thenQ N Q .ret st := h
theorem cut_end {α : Type} {I : α → Prop} {S : α → St} {Q : Exit → St → Prop} {st' : St} (y : α) (h1 : I y) (h3 : Wk G n0 st' (S y)) : thenQ (fun st' => ∃ y, I y ∧ Wk G n0 st' (S y)) Q .normal st' := ⟨y, h1, h3⟩
end
def goRet : Option (AVal × Prop) → (AVal → Prop) → Prop
  | some (v, c), K => Cond c ∧ K v
  | none, _ => False
@[simp] theorem goRet_some (v : AVal) (c : Prop) (K : AVal → Prop) : goRet (some (v, c)) K = (Cond c ∧ K v) := rfl
theorem RetOK_of {T : Tab} {res : List ResultVar} {r : AVal} {st : St} (h : goRet (evRes T st res) (fun v => VLe st.heap id (fun _ => true) (fun _ => false) 0 r v)) : RetOK T res r st := by
  unfold RetOK
  cases he : evRes T st res with
  | none => rw [he] at h; exact h.elim
  | some p => rw [he] at h; exact ⟨p.1, p.2, rfl, h.1, h.2⟩
/-- a list of numbers as a map of numbers, elsewhere the identity. -/
def sg (l : List (Nat × Nat)) (k : Nat) : Nat := match l with
  | [] => k
  | (a, b) :: r => if k = a then b else sg r k
def mem (l : List Nat) (k : Nat) : Bool := l.contains k
attribute [simp] sg mem heapLe
@[simp] theorem HLe_arr {h : Heap} {σ : Id → Id} {fz : Nat → Bool} {vz : Id → Bool} {nx n2 s2 n s : Nat} {f2 f : Nat → Nat → AVal} : HLe h σ fz vz nx (.arr n2 s2 f2) (some (.arr n s f)) = (n2 ≤ n ∧ s2 = s ∧ ∀ i, i < n2 → ∀ j, j < s2 → (f2 i j).one = true ∧ VLe h σ fz vz nx (f2 i j) (f i j)) := rfl
end Go.Lift
