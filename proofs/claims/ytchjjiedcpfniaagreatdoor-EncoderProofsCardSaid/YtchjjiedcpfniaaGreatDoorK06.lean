/- Parts of the proof: LQ. -/
import Derived.OrdersHeld
import Derived.Test.YtchjjiedcpfniaaGreatDoorK05
namespace Go.Lift
set_option linter.unusedSimpArgs false
set_option linter.unusedVariables false
open Go.RowKit
section
variable {T : Tab} {h : Heap} {t e : TypeId} {sz by_ : Nat} {z : Nat → AVal} {ei ti : TI} {k k' : IntKind} {n m a b : Int} {id : Id} {lo i off s N x y : Nat} {p q : Bool} {v : AVal} {f : Nat → AVal} {g : Nat → Nat → AVal} {cs ds : List UInt8}
@[simp] theorem strip_int : strip (.int k n) = (.int k n, True) := rfl
@[simp] theorem strip_bool : strip (.bool p) = (.bool p, True) := rfl
@[simp] theorem strip_str : strip (.str cs) = (.str cs, True) := rfl
@[simp] theorem strip_nilp : strip .nilp = (.nilp, True) := rfl
@[simp] theorem strip_nils : strip .nils = (.nils, True) := rfl
@[simp] theorem strip_nilmap : strip .nilmap = (.nilmap, True) := rfl
@[simp] theorem strip_nilfn : strip .nilfn = (.nilfn, True) := rfl
@[simp] theorem strip_ptr : strip (.ptr id i off) = (.ptr id i off, True) := rfl
@[simp] theorem strip_vptr : strip (.vptr s f off) = (.vptr s f off, True) := rfl
@[simp] theorem strip_sl : strip (.sl id lo x) = (.sl id lo x, True) := rfl
@[simp] theorem strip_vsl : strip (.vsl x s g) = (.vsl x s g, True) := rfl
@[simp] theorem strip_agg : strip (.agg x f) = (.agg x f, True) := rfl
@[simp] theorem strip_tup : strip (.tup x f) = (.tup x f, True) := rfl
@[simp] theorem strip_yld {l : Nat} {vs : Array Value} {n : Nat} {f : Nat → AVal} : strip (.yld l vs n f) = (.yld l vs n f, True) := rfl
@[simp] theorem strip_bnd {v : AVal} : strip (.bnd i v) = (.bnd i v, True) := rfl
@[simp] theorem strip_fn : strip (.fn i x f) = (.fn i x f, True) := rfl
@[simp] theorem strip_map : strip (.map id) = (.map id, True) := rfl
@[simp] theorem strip_opt : strip (.opt p v) = (v, p = true) := rfl
@[simp] theorem strip_any : strip .any = (.any, True) := rfl
@[simp] theorem mkOpt_opt {g g2 : Bool} {v : AVal} : mkOpt g (.opt g2 v) = .opt (g && g2) v := rfl
@[simp] theorem mkOpt_int {g : Bool} {k : IntKind} {n : Int} : mkOpt g (.int k n) = .opt g (.int k n) := rfl
@[simp] theorem mkOpt_bool {g : Bool} {b : Bool} : mkOpt g (.bool b) = .opt g (.bool b) := rfl
@[simp] theorem mkOpt_str {g : Bool} {l : List UInt8} : mkOpt g (.str l) = .opt g (.str l) := rfl
@[simp] theorem mkOpt_nilp {g : Bool}  : mkOpt g .nilp = .opt g .nilp := rfl
@[simp] theorem mkOpt_nils {g : Bool}  : mkOpt g .nils = .opt g .nils := rfl
@[simp] theorem mkOpt_nilmap {g : Bool}  : mkOpt g .nilmap = .opt g .nilmap := rfl
@[simp] theorem mkOpt_nilfn {g : Bool}  : mkOpt g .nilfn = .opt g .nilfn := rfl
@[simp] theorem mkOpt_ptr {g : Bool} {id : Id} {i o : Nat} : mkOpt g (.ptr id i o) = .opt g (.ptr id i o) := rfl
@[simp] theorem mkOpt_vptr {g : Bool} {s : Nat} {f : Nat → AVal} {o : Nat} : mkOpt g (.vptr s f o) = .opt g (.vptr s f o) := rfl
@[simp] theorem mkOpt_sl {g : Bool} {id : Id} {l n : Nat} : mkOpt g (.sl id l n) = .opt g (.sl id l n) := rfl
@[simp] theorem mkOpt_vsl {g : Bool} {n s : Nat} {f : Nat → Nat → AVal} : mkOpt g (.vsl n s f) = .opt g (.vsl n s f) := rfl
@[simp] theorem mkOpt_agg {g : Bool} {n : Nat} {f : Nat → AVal} : mkOpt g (.agg n f) = .opt g (.agg n f) := rfl
@[simp] theorem mkOpt_tup {g : Bool} {n : Nat} {f : Nat → AVal} : mkOpt g (.tup n f) = .opt g (.tup n f) := rfl
@[simp] theorem mkOpt_yld {g : Bool} {l : Nat} {vs : Array Value} {n : Nat} {f : Nat → AVal} : mkOpt g (.yld l vs n f) = .opt g (.yld l vs n f) := rfl
@[simp] theorem mkOpt_bnd {g : Bool} {i : Nat} {v : AVal} : mkOpt g (.bnd i v) = .opt g (.bnd i v) := rfl
@[simp] theorem mkOpt_fn {g : Bool} {i n : Nat} {f : Nat → AVal} : mkOpt g (.fn i n f) = .opt g (.fn i n f) := rfl
@[simp] theorem mkOpt_map {g : Bool} {id : Id} : mkOpt g (.map id) = .opt g (.map id) := rfl
@[simp] theorem mkOpt_any {g : Bool}  : mkOpt g .any = .opt g .any := rfl
@[simp] theorem mkOpt_ub {g : Bool} {p : Prop} : mkOpt g (.ub p) = .opt g (.ub p) := rfl
@[simp] theorem gB_bool : gB q (.bool p) = some (p == q) := rfl
@[simp] theorem gB_opt {y' : Bool} : gB q (.opt y' (.bool p)) = some (y' && (p == q)) := rfl
@[simp] theorem pickB_bool : pickB (.bool p) = some (p, True) := rfl
@[simp] theorem pickB_opt : pickB (.opt q (.bool p)) = some (p, q = true) := rfl
@[simp] theorem evMM_nil {mx : Bool} : evMM mx (.int k n) [] = some (.int k n) := rfl
@[simp] theorem evMM_max {r : List AVal} : evMM true (.int k n) (.int k' m :: r) = evMM true (.int k (max n m)) r := rfl
@[simp] theorem evMM_min {r : List AVal} : evMM false (.int k n) (.int k' m :: r) = evMM false (.int k (min n m)) r := rfl
@[simp] theorem evLen_nils : evLen h .nils = some (.int .i64 0) := rfl
@[simp] theorem evLen_vsl : evLen h (.vsl x s g) = some (.int .i64 x) := rfl
@[simp] theorem evLen_sl : evLen h (.sl id lo x) = some (.int .i64 x) := rfl
@[simp] theorem evLen_str : evLen h (.str cs) = some (.int .i64 cs.length) := rfl
@[simp] theorem lenT_nils : lenT T t .nils = sliceT T t := by
  unfold lenT sliceT
  cases T t with
  | none => rfl
  | some i => obtain ⟨k, a, b, c, dq⟩ := i; cases k <;> rfl
@[simp] theorem lenT_vsl : lenT T t (.vsl x s g) = sliceT T t := by
  unfold lenT sliceT
  cases T t with
  | none => rfl
  | some i => obtain ⟨k, a, b, c, dq⟩ := i; cases k <;> rfl
@[simp] theorem lenT_sl : lenT T t (.sl id lo x) = sliceT T t := by
  unfold lenT sliceT
  cases T t with
  | none => rfl
  | some i => obtain ⟨k, a, b, c, dq⟩ := i; cases k <;> rfl
@[simp] theorem lenT_str : lenT T t (.str cs) = isStrT T t := by
  unfold lenT isStrT
  cases T t with
  | none => rfl
  | some i => obtain ⟨k, a, b, c, dq⟩ := i; cases k <;> rfl
attribute [simp] isBoolT eqC eqL evEqA evLoad evStore evFieldAddr evField placeS isStrT sliceT elemT evBox evAlloc evMake evBuild evBuildSlice evAppend evParts allLt
@[simp] theorem mkL_int : mkL ⟨.int k, sz, by_, z, q⟩ f = f 0 := rfl
@[simp] theorem mkL_bool : mkL ⟨.bool, sz, by_, z, q⟩ f = f 0 := rfl
@[simp] theorem mkL_str : mkL ⟨.str, sz, by_, z, q⟩ f = f 0 := rfl
@[simp] theorem mkL_slice : mkL ⟨.slice e, sz, by_, z, q⟩ f = f 0 := rfl
@[simp] theorem mkL_map {e' : TypeId} : mkL ⟨.map e e', sz, by_, z, q⟩ f = f 0 := rfl
@[simp] theorem mkL_ptr : mkL ⟨.ptr e, sz, by_, z, q⟩ f = f 0 := rfl
@[simp] theorem mkL_func : mkL ⟨.func, sz, by_, z, q⟩ f = f 0 := rfl
@[simp] theorem mkL_arr {n : Nat} {e : TypeId} : mkL ⟨.arr n e, sz, by_, z, q⟩ f = .agg sz f := rfl
@[simp] theorem mkL_struct {l : List (Nat × TypeId)} : mkL ⟨.struct l, sz, by_, z, q⟩ f = .agg sz f := rfl
@[simp] theorem acell_agg : acell (.agg x f) y = f y := rfl
@[simp] theorem acell_int : acell (.int k n) y = .int k n := rfl
@[simp] theorem acell_bool : acell (.bool p) y = .bool p := rfl
@[simp] theorem acell_str : acell (.str cs) y = .str cs := rfl
@[simp] theorem acell_nils : acell .nils y = .nils := rfl
@[simp] theorem acell_nilp : acell .nilp y = .nilp := rfl
@[simp] theorem acell_nilmap : acell .nilmap y = .nilmap := rfl
@[simp] theorem acell_sl : acell (.sl id lo x) y = .sl id lo x := rfl
@[simp] theorem acell_vsl : acell (.vsl x s g) y = .vsl x s g := rfl
@[simp] theorem acell_ptr : acell (.ptr id i off) y = .ptr id i off := rfl
@[simp] theorem acell_map : acell (.map id) y = .map id := rfl
@[simp] theorem acell_yld {y : Nat} {l : Nat} {vs : Array Value} {n : Nat} {f : Nat → AVal} : acell (.yld l vs n f) y = .yld l vs n f := rfl
@[simp] theorem acell_bnd {v : AVal} : acell (.bnd i v) y = .bnd i v := rfl
@[simp] theorem acell_fn : acell (.fn i x f) y = .fn i x f := rfl
@[simp] theorem one_int : (AVal.int k n).one = true := rfl
@[simp] theorem one_bool : (AVal.bool p).one = true := rfl
@[simp] theorem one_str : (AVal.str cs).one = true := rfl
@[simp] theorem one_nils : AVal.nils.one = true := rfl
@[simp] theorem one_nilp : AVal.nilp.one = true := rfl
@[simp] theorem one_nilmap : AVal.nilmap.one = true := rfl
@[simp] theorem one_nilfn : AVal.nilfn.one = true := rfl
@[simp] theorem one_sl : (AVal.sl id lo x).one = true := rfl
@[simp] theorem one_vsl : (AVal.vsl x s g).one = true := rfl
@[simp] theorem one_ptr : (AVal.ptr id i off).one = true := rfl
@[simp] theorem one_vptr : (AVal.vptr s f off).one = true := rfl
@[simp] theorem one_map : (AVal.map id).one = true := rfl
@[simp] theorem one_yld {l : Nat} {vs : Array Value} {n : Nat} {f : Nat → AVal} : (AVal.yld l vs n f).one = true := rfl
@[simp] theorem one_bnd {v : AVal} : (AVal.bnd i v).one = true := rfl
@[simp] theorem one_fn : (AVal.fn i x f).one = true := rfl
@[simp] theorem fits_one (h1 : v.one = true) (h2 : ti.k.agg = false) : fits ti v = true := by
  cases v <;> simp [AVal.one] at h1 <;> simp [fits, h2, AVal.one]
@[simp] theorem fits_agg (h1 : ti.k.agg = true) (h2 : x = ti.size) : fits ti (.agg x f) = allLt ti.size (fun j => (f j).one) := by
  simp [fits, h1, h2]
@[simp] theorem evIndexAddr_sl : evIndexAddr T h t (.sl id lo x) (.int k m) = match elemT T t with
    | some ei => (match lkH h id with
      | some (.arr _ s _) => if s = ei.size then some (.ptr id (lo + m.toNat) 0, 0 ≤ m ∧ m < (x : Int)) else none
      | _ => none)
    | none => none := by
  unfold evIndexAddr elemT
  cases T t with
  | none => rfl
  | some i =>
    obtain ⟨k, a, b, c, dq⟩ := i
    cases k <;> try rfl
    · rename_i e; simp only; cases T e <;> rfl
    · rename_i n e; simp only; cases T e <;> rfl
@[simp] theorem evIndexAddr_vsl : evIndexAddr T h t (.vsl x s g) (.int k m) = match elemT T t with
    | some ei => if s = ei.size then some (.vptr s (g m.toNat) 0, 0 ≤ m ∧ m < (x : Int)) else none
    | none => none := by
  unfold evIndexAddr elemT
  cases T t with
  | none => rfl
  | some i =>
    obtain ⟨k, a, b, c, dq⟩ := i
    cases k <;> try rfl
    · rename_i e; simp only; cases T e <;> rfl
    · rename_i n e; simp only; cases T e <;> rfl
def arrT (T : Tab) (t : TypeId) : Option (Nat × TI) := match T t with
  | some ⟨.arr n e, _, _, _, _⟩ => (T e).map fun ei => (n, ei)
  | _ => none
attribute [simp] arrT
@[simp] theorem evIndexAddr_ptr {off : Nat} : evIndexAddr T h t (.ptr id i off) (.int k m) = match arrT T t with
    | some (n, ei) => some (.ptr id i (off + m.toNat * ei.size), 0 ≤ m ∧ m < (n : Int))
    | none => none := by
  unfold evIndexAddr arrT
  cases T t with
  | none => rfl
  | some i =>
    obtain ⟨k, a, b, c, dq⟩ := i
    cases k <;> try rfl
    · rename_i e; simp only; cases T e <;> rfl
    · rename_i n e; simp only; cases T e <;> rfl
@[simp] theorem evIndexAddr_vptr {off : Nat} {f : Nat → AVal} : evIndexAddr T h t (.vptr s f off) (.int k m) = match arrT T t with
    | some (n, ei) => some (.vptr s f (off + m.toNat * ei.size), 0 ≤ m ∧ m < (n : Int))
    | none => none := by
  unfold evIndexAddr arrT
  cases T t with
  | none => rfl
  | some i =>
    obtain ⟨k, a, b, c, dq⟩ := i
    cases k <;> try rfl
    · rename_i e; simp only; cases T e <;> rfl
    · rename_i n e; simp only; cases T e <;> rfl
@[simp] theorem evIndex_str : evIndex (.str cs) (.int k m) = some (.int .u8 (cs.getD m.toNat 0).toNat, 0 ≤ m ∧ m < (cs.length : Int)) := rfl
@[simp] theorem evBin_add : evBin .add (.int k a) (.int k b) = some (.int k (a + b), inR k (a + b)) := by simp [evBin]
@[simp] theorem evBin_sub : evBin .sub (.int k a) (.int k b) = some (.int k (a - b), inR k (a - b)) := by simp [evBin]
@[simp] theorem evBin_mul : evBin .mul (.int k a) (.int k b) = some (.int k (a * b), inR k (a * b)) := by simp [evBin]
@[simp] theorem evBin_quo : evBin .quo (.int k a) (.int k b) = some (.int k (a / b), 0 ≤ a ∧ 0 < b ∧ inR k a) := by simp [evBin]
@[simp] theorem evBin_rem : evBin .rem (.int k a) (.int k b) = some (.int k (a % b), 0 ≤ a ∧ 0 < b) := by simp [evBin]
@[simp] theorem evBin_shr {k' : IntKind} : evBin .shr (.int k a) (.int k' b) = some (.int k (a / 2 ^ b.toNat), 0 ≤ a ∧ 0 ≤ b ∧ b ≤ shB k) := by simp [evBin]
@[simp] theorem evBin_shl {k' : IntKind} : evBin .shl (.int k a) (.int k' b) = some (.int k (a * 2 ^ b.toNat), 0 ≤ b ∧ b ≤ shB k ∧ inR k (a * 2 ^ b.toNat)) := by simp [evBin]
@[simp] theorem evBin_and : evBin .and (.int k a) (.int k b) = some (.int k (bandI a b), 0 ≤ a ∧ 0 ≤ b ∧ inR k a ∧ inR k b) := by simp [evBin]
@[simp] theorem evBin_or : evBin .or (.int k a) (.int k b) = some (.int k (borI a b), 0 ≤ a ∧ 0 ≤ b ∧ inR k a ∧ inR k b) := by simp [evBin]
@[simp] theorem shB_u64 : shB .u64 = 63 := rfl
@[simp] theorem shB_i64 : shB .i64 = 63 := rfl
@[simp] theorem evBin_eql : evBin .eql (.int k a) (.int k b) = some (.bool (decide (a = b)), True) := by simp [evBin]
@[simp] theorem evBin_neq : evBin .neq (.int k a) (.int k b) = some (.bool (!decide (a = b)), True) := by simp [evBin]
@[simp] theorem evBin_lss : evBin .lss (.int k a) (.int k b) = some (.bool (decide (a < b)), True) := by simp [evBin]
@[simp] theorem evBin_leq : evBin .leq (.int k a) (.int k b) = some (.bool (decide (a ≤ b)), True) := by simp [evBin]
@[simp] theorem evBin_gtr : evBin .gtr (.int k a) (.int k b) = some (.bool (decide (b < a)), True) := by simp [evBin]
@[simp] theorem evBin_geq : evBin .geq (.int k a) (.int k b) = some (.bool (decide (b ≤ a)), True) := by simp [evBin]
@[simp] theorem evBin_nvsl {o : BinOp} {v : AVal} : evBin o (.vsl x s g) v = none := rfl
@[simp] theorem evBin_nsl {o : BinOp} {v : AVal} : evBin o (.sl id lo x) v = none := rfl
@[simp] theorem evBin_nnils {o : BinOp} {v : AVal} : evBin o .nils v = none := rfl
@[simp] theorem evBin_nbool {o : BinOp} {v : AVal} : evBin o (.bool p) v = none := rfl
@[simp] theorem evBin_nagg {o : BinOp} {v : AVal} : evBin o (.agg x f) v = none := rfl
@[simp] theorem evEq_bool : evEq T .eql t (.bool p) (.bool q) = if isBoolT T t then some (.bool (p == q)) else none := rfl
@[simp] theorem evEq_nbool : evEq T .neq t (.bool p) (.bool q) = if isBoolT T t then some (.bool (!(p == q))) else none := rfl
@[simp] theorem evEq_vsl : evEq T .eql t (.vsl x s g) .nils = if sliceT T t then some (.ub (x = 0)) else none := rfl
@[simp] theorem evEq_sl : evEq T .eql t (.sl id lo x) .nils = if sliceT T t then some (.ub (x = 0)) else none := rfl
@[simp] theorem evEq_nils : evEq T .eql t .nils .nils = if sliceT T t then some (.bool true) else none := rfl
@[simp] theorem evEq_agg {f' : Nat → AVal} : evEq T .eql t (.agg x f) (.agg y f') = (if x = y then evEqA T t x f f' else none).map fun r => .bool r := rfl
@[simp] theorem evEq_nagg {f' : Nat → AVal} : evEq T .neq t (.agg x f) (.agg y f') = (if x = y then evEqA T t x f f' else none).map fun r => .bool (!r) := rfl
@[simp] theorem evBin_sadd : evBin .add (.str cs) (.str ds) = some (.str (cs ++ ds), cs.length + ds.length ≤ 9223372036854775807) := rfl
@[simp] theorem evBin_seql : evBin .eql (.str cs) (.str ds) = some (.bool (decide (cs = ds)), True) := rfl
@[simp] theorem evBin_sneq : evBin .neq (.str cs) (.str ds) = some (.bool (!decide (cs = ds)), True) := rfl
@[simp] theorem evBin_slss : evBin .lss (.str cs) (.str ds) = some (.bool (Op.bytesLess cs ds), True) := rfl
@[simp] theorem evBin_sleq : evBin .leq (.str cs) (.str ds) = some (.bool (Op.bytesLess cs ds || decide (cs = ds)), True) := rfl
@[simp] theorem evBin_sgtr : evBin .gtr (.str cs) (.str ds) = some (.bool (!(Op.bytesLess cs ds || decide (cs = ds))), True) := rfl
@[simp] theorem evBin_sgeq : evBin .geq (.str cs) (.str ds) = some (.bool (!Op.bytesLess cs ds), True) := rfl
@[simp] theorem evUn_not : evUn .not (.bool p) = some (.bool (!p), True) := rfl
@[simp] theorem evUn_neg : evUn .neg (.int k n) = some (.int k (0 - n), inR k (0 - n)) := rfl
@[simp] theorem inR_i64 : inR .i64 n = (-9223372036854775808 ≤ n ∧ n ≤ 9223372036854775807) := rfl
@[simp] theorem inR_u8 : inR .u8 n = (0 ≤ n ∧ n ≤ 255) := rfl
@[simp] theorem inR_u64 : inR .u64 n = (0 ≤ n ∧ n ≤ 18446744073709551615) := rfl
@[simp] theorem evSrc_nils : evSrc h s .nils = some (0, (fun _ _ => .any), True) := rfl
@[simp] theorem evSrc_vsl : evSrc h s (.vsl x y g) = if y = s then some (x, g, True) else none := rfl
@[simp] theorem evSrc_sl : evSrc h s (.sl id lo x) = match lkH h id with
    | some (.arr n s' f) => if s' = s then some (x, (fun i j => f (lo + i) j), lo + x ≤ n) else none
    | _ => none := rfl
@[simp] theorem evSrc_str1 : evSrc h 1 (.str cs) = some (cs.length, (fun i _ => .int .u8 (cs.getD i 0).toNat), True) := rfl
@[simp] theorem loA_none : loA none = some 0 := rfl
@[simp] theorem loA_some : loA (some (.int k n)) = some n := rfl
@[simp] theorem hiA_none : hiA x none = some (x : Int) := rfl
@[simp] theorem hiA_some : hiA x (some (.int k n)) = some n := rfl
@[simp] theorem VLe_any {σ : Id → Id} {fz : Nat → Bool} {vz : Id → Bool} : VLe h σ fz vz x .any v := trivial
@[simp] theorem VLe_int {σ : Id → Id} {fz : Nat → Bool} {vz : Id → Bool} : VLe h σ fz vz x (.int k n) v = (v = .int k n) := rfl
@[simp] theorem VLe_bool {σ : Id → Id} {fz : Nat → Bool} {vz : Id → Bool} : VLe h σ fz vz x (.bool p) v = (v = .bool p) := rfl
@[simp] theorem VLe_str {σ : Id → Id} {fz : Nat → Bool} {vz : Id → Bool} : VLe h σ fz vz x (.str cs) v = (v = .str cs) := rfl
@[simp] theorem VLe_nils {σ : Id → Id} {fz : Nat → Bool} {vz : Id → Bool} : VLe h σ fz vz x .nils v = (v = .nils) := rfl
@[simp] theorem VLe_nilp {σ : Id → Id} {fz : Nat → Bool} {vz : Id → Bool} : VLe h σ fz vz x .nilp v = (v = .nilp) := rfl
@[simp] theorem VLe_nilmap {σ : Id → Id} {fz : Nat → Bool} {vz : Id → Bool} : VLe h σ fz vz x .nilmap v = (v = .nilmap) := rfl
@[simp] theorem VLe_ptr {σ : Id → Id} {fz : Nat → Bool} {vz : Id → Bool} : VLe h σ fz vz x (.ptr id i off) v = (id.1 < x ∧ vz id = false ∧ v = .ptr (σ id) i off) := rfl
@[simp] theorem VLe_sl {σ : Id → Id} {fz : Nat → Bool} {vz : Id → Bool} : VLe h σ fz vz x (.sl id lo y) v = (id.1 < x ∧ ((vz id = false ∧ v = .sl (σ id) lo y) ∨ (v = .nils ∧ y = 0))) := rfl
@[simp] theorem VLe_map {σ : Id → Id} {fz : Nat → Bool} {vz : Id → Bool} : VLe h σ fz vz x (.map id) v = (id.1 < x ∧ vz id = false ∧ v = .map (σ id)) := rfl
@[simp] theorem VLe_vsl_vsl {σ : Id → Id} {fz : Nat → Bool} {vz : Id → Bool} {x' s' : Nat} {g' : Nat → Nat → AVal} : VLe h σ fz vz y (.vsl x s g) (.vsl x' s' g') = (x' = x ∧ s' = s ∧ ∀ i, i < x → ∀ j, j < s → (g i j).one = true ∧ VLe h σ fz vz y (g i j) (g' i j)) := rfl
@[simp] theorem VLe_vsl_nils {σ : Id → Id} {fz : Nat → Bool} {vz : Id → Bool} : VLe h σ fz vz y (.vsl x s g) .nils = (x = 0) := rfl
@[simp] theorem VLe_vsl_sl {σ : Id → Id} {fz : Nat → Bool} {vz : Id → Bool} {x' : Nat} : VLe h σ fz vz y (.vsl x s g) (.sl id lo x') = (x' = x ∧ fz id.1 = true ∧ match lkH h id with
    | some (.arr N s' g') => s' = s ∧ lo + x ≤ N ∧ ∀ i, i < x → ∀ j, j < s → (g i j).one = true ∧ VLe h σ fz vz y (g i j) (g' (lo + i) j)
    | _ => False) := by
  simp only [VLe]
  cases lkH h id with
  | none => rfl
  | some o => cases o <;> rfl
@[simp] theorem VLe_vptr_vptr {σ : Id → Id} {fz : Nat → Bool} {vz : Id → Bool} {s' off' : Nat} {f' : Nat → AVal} : VLe h σ fz vz y (.vptr s f off) (.vptr s' f' off') = (s' = s ∧ off' = off ∧ ∀ j, j < s → (f j).one = true ∧ VLe h σ fz vz y (f j) (f' j)) := rfl
@[simp] theorem VLe_agg_agg {σ : Id → Id} {fz : Nat → Bool} {vz : Id → Bool} {x' : Nat} {f' : Nat → AVal} : VLe h σ fz vz y (.agg x f) (.agg x' f') = (x' = x ∧ ∀ j, j < x → VLe h σ fz vz y (f j) (f' j)) := rfl
@[simp] theorem VLe_tup_tup {σ : Id → Id} {fz : Nat → Bool} {vz : Id → Bool} {x' : Nat} {f' : Nat → AVal} : VLe h σ fz vz y (.tup x f) (.tup x' f') = (x' = x ∧ ∀ j, j < x → VLe h σ fz vz y (f j) (f' j)) := rfl
attribute [simp] TK.agg
def Clo : AVal → Prop
  | .ptr .. => False
  | .sl .. => False
  | .map _ => False
  | .vsl n s f => ∀ i, i < n → ∀ j, j < s → (f i j).one = true ∧ Clo (f i j)
  | .vptr s f _ => ∀ j, j < s → (f j).one = true ∧ Clo (f j)
  | .agg n f => ∀ j, j < n → Clo (f j)
  | .tup n f => ∀ j, j < n → Clo (f j)
  | .fn _ n f => ∀ j, j < n → Clo (f j)
  | .bnd _ v => Clo v
  | .yld _ _ n f => ∀ j, j < n → Clo (f j)
  | .opt _ v => Clo v
  | _ => True
theorem Clo.le {h : Heap} {σ : Id → Id} {fz : Nat → Bool} {vz : Id → Bool} {nx : Nat} : ∀ (v : AVal), Clo v → VLe h σ fz vz nx v v := by
  intro v
  induction v with
  | ptr => intro h; exact h.elim
  | sl => intro h; exact h.elim
  | map => intro h; exact h.elim
  | vsl n s f ih => intro h; exact ⟨rfl, rfl, fun i hi j hj => ⟨(h i hi j hj).1, ih i j (h i hi j hj).2⟩⟩
  | vptr s f off ih => intro h; exact ⟨rfl, rfl, fun j hj => ⟨(h j hj).1, ih j (h j hj).2⟩⟩
  | agg n f ih => intro h; exact ⟨rfl, fun j hj => ih j (h j hj)⟩
  | tup n f ih => intro h; exact ⟨rfl, fun j hj => ih j (h j hj)⟩
  | fn g n f ih => intro h; exact ⟨rfl, rfl, fun j hj => ih j (h j hj)⟩
  | bnd g v ih => intro h; exact ⟨rfl, ih h⟩
  | yld l vs n f ih => intro h; exact ⟨rfl, rfl, rfl, fun j hj => ih j (h j hj)⟩
  | opt g v ih => intro h; exact ⟨rfl, ih h⟩
  | any => intro _; trivial
  | _ => intro _; rfl
end
@[simp] theorem VLe_self {h : Heap} {σ : Id → Id} {fz : Nat → Bool} {vz : Id → Bool} {nx : Nat} {v : AVal} (hv : Clo v) : VLe h σ fz vz nx v v := Clo.le v hv
@[simp] theorem Clo_int {k : IntKind} {n : Int} : Clo (.int k n) := trivial
@[simp] theorem Clo_bool {p : Bool} : Clo (.bool p) := trivial
@[simp] theorem Clo_str {cs : List UInt8} : Clo (.str cs) := trivial
@[simp] theorem Clo_nils : Clo .nils := trivial
@[simp] theorem Clo_any : Clo .any := trivial
@[simp] theorem Clo_nilp : Clo .nilp := trivial
@[simp] theorem Clo_agg {n : Nat} {f : Nat → AVal} : Clo (.agg n f) = ∀ j, j < n → Clo (f j) := rfl
@[simp] theorem Clo_tup {n : Nat} {f : Nat → AVal} : Clo (.tup n f) = ∀ j, j < n → Clo (f j) := rfl
@[simp] theorem Clo_vsl {n s : Nat} {f : Nat → Nat → AVal} : Clo (.vsl n s f) = ∀ i, i < n → ∀ j, j < s → (f i j).one = true ∧ Clo (f i j) := rfl
@[simp] theorem Clo_vptr {off s : Nat} {f : Nat → AVal} : Clo (.vptr s f off) = ∀ j, j < s → (f j).one = true ∧ Clo (f j) := rfl
@[simp] theorem one_vec {α : Type} {s : Nat} {f : α → Nat → AVal} {d : α} {l : List α} : (vec s f d l).one = true := rfl
@[simp] theorem acell_vec {α : Type} {s : Nat} {f : α → Nat → AVal} {d : α} {l : List α} {j : Nat} : acell (vec s f d l) j = vec s f d l := rfl
theorem Clo_vec {α : Type} {s : Nat} {f : α → Nat → AVal} {d : α} {l : List α} (h : ∀ x ∈ l, ∀ j, j < s → (f x j).one = true ∧ Clo (f x j)) : Clo (vec s f d l) := by
  intro i hi j hj
  have : l.getD i d ∈ l := by
    rw [List.getD_eq_getElem?_getD, List.getElem?_eq_getElem hi]
    exact List.getElem_mem hi
  exact h _ this j hj
@[simp] theorem evSrc_vec {h : Heap} {α : Type} {s y : Nat} {f : α → Nat → AVal} {d : α} {l : List α} (h1 : s = y) : evSrc h y (vec s f d l) = some (l.length, vecF f d l, True) := by
  subst h1
  simp [evSrc, vec]
def ints (l : List Int) : AVal := vec 1 (fun x _ => .int .i64 x) 0 l
@[simp] theorem mkOpt_ints {g : Bool} {l : List Int} : mkOpt g (ints l) = .opt g (ints l) := rfl
@[simp] theorem evLen_ints {h : Heap} {l : List Int} : evLen h (ints l) = some (.int .i64 l.length) := rfl
@[simp] theorem strip_ints {l : List Int} : strip (ints l) = (ints l, True) := rfl
@[simp] theorem one_ints {l : List Int} : (ints l).one = true := rfl
@[simp] theorem acell_ints {l : List Int} {j : Nat} : acell (ints l) j = ints l := rfl
@[simp] theorem Clo_ints {l : List Int} : Clo (ints l) := Clo_vec fun _ _ _ _ => ⟨rfl, trivial⟩
section
variable {T : Tab} {h : Heap} {t : TypeId} {k : IntKind} {m : Int} {l : List Int}
@[simp] theorem lenT_ints : lenT T t (ints l) = sliceT T t := lenT_vec
@[simp] theorem evIndexAddr_ints : evIndexAddr T h t (ints l) (.int k m) = match elemT T t with
    | some ei => if 1 = ei.size then some (.vptr 1 (fun _ => .int .i64 (l.getD m.toNat 0)) 0, 0 ≤ m ∧ m < (l.length : Int)) else none
    | none => none := evIndexAddr_vec
@[simp] theorem evSrc_ints : evSrc h 1 (ints l) = some (l.length, (fun i _ => .int .i64 (l.getD i 0)), True) := rfl
end
attribute [simp] evOps evG evOp evCallB putSt evX sv sc lk ofValue lkH HEnt.get setH HEnt.set tyH HEnt.ty apE partsV partsC argsC envLe argsLe callArgs guardOf optV gHolds wr evRes evResL evRes1
@[simp] theorem delH_root (h : Heap) (k : Nat) : delH h (k, 0) = h.filter (fun e => !(e.1 == k)) := rfl
def goPut : Option St → (St → Prop) → Prop
  | some s, K => K s
  | none, _ => False
@[simp] theorem goPut_some (s : St) (K : St → Prop) : goPut (some s) K = K s := rfl
theorem goPut_spec {r : Option St} {K : St → Prop} (h : goPut r K) : ∃ s, r = some s ∧ K s := by
  cases r with
  | none => exact h.elim
  | some p => exact ⟨p, rfl, h⟩
section
variable {P : Program} {G : Gh} {n0 : Nat}
theorem awpL_call {f : FuncId} (hf : Callable P f) {as : List AVal} {r : AVal} {ops l : List Oper} {o : Oper} {Q : St → Prop} {st : St} {x : Operand} {args : Array Operand} {ts : Array TypeId}
    (ho : o.op = .call { callee := .value x, args := args, argTypes := ts }) {g : Option Bool} (hg : guardOf ops.toArray o st.env = some g) {n : Nat} {fc : Nat → AVal} (hx : gHolds g → sv st.env x = .fn f n fc)
    (hc : gHolds g → PC P f as r) (hsc : gHolds g → sc st.env x ∧ argsC st.env args.toList) (hle : gHolds g → argsLe st.heap (fun _ => false) as (callArgs st.env args.toList n fc))
    (h : ∀ K : St → Prop, (∀ s, AwpL P G n0 ops l Q s → K s) → goPut (putSt G.nt st.env st.heap st.nx o.dst (optV g r)) K) : AwpL P G n0 ops (o :: l) Q st := by
  obtain ⟨s, hput, hs⟩ := goPut_spec (h _ fun _ hs => hs)
  exact awpL_pc ho hg (fun hh => ⟨hx hh, hsc hh⟩) hf hc (fun _ => false) (.inl fun _ => rfl) hle hput hs
theorem awpL_callB (fz : Nat → Bool) {f : FuncId} (hf : Callable P f) {as : List AVal} {r : AVal} (hflat : flat r) {ops l : List Oper} {o : Oper} {Q : St → Prop} {st : St} {x : Operand} {args : Array Operand} {ts : Array TypeId}
    (ho : o.op = .call { callee := .value x, args := args, argTypes := ts }) {g : Option Bool} (hg : guardOf ops.toArray o st.env = some g) {n : Nat} {fc : Nat → AVal} (hx : gHolds g → sv st.env x = .fn f n fc)
    (hc : gHolds g → PC P f as r) (hsc : gHolds g → sc st.env x ∧ argsC st.env args.toList) (hle : gHolds g → argsLe st.heap fz as (callArgs st.env args.toList n fc))
    (h : ∀ K : St → Prop, (∀ s, AwpL P G n0 ops l Q s → K s) → goPut (putSt G.nt st.env st.heap st.nx o.dst (optV g r)) K) : AwpL P G n0 ops (o :: l) Q st := by
  obtain ⟨s, hput, hs⟩ := goPut_spec (h _ fun _ hs => hs)
  exact awpL_pc ho hg (fun hh => ⟨hx hh, hsc hh⟩) hf hc fz (.inr hflat) hle hput hs
theorem blockQ_exit {id : Nat} {Q : Exit → St → Prop} {st : St} (h : Q .normal st) : blockQ id Q (.exit id) st := by simp only [blockQ, if_true]; exact h
theorem blockQ_exit_ne {id id' : Nat} {Q : Exit → St → Prop} {st : St} (hne : id' ≠ id) (h : Q (.exit id') st) : blockQ id Q (.exit id') st := by simp only [blockQ]; rw [if_neg hne]; exact h
theorem blockQ_norm {id : Nat} {Q : Exit → St → Prop} {st : St} (h : Q .normal st) : blockQ id Q .normal st := h
theorem blockQ_ret {id : Nat} {Q : Exit → St → Prop} {st : St} (h : Q .ret st) : blockQ id Q .ret st := h
theorem thenQ_norm {N : St → Prop} {Q : Exit → St → Prop} {st : St} (h : N st) : thenQ N Q .normal st := h
theorem thenQ_exit {N : St → Prop} {id : Nat} {Q : Exit → St → Prop} {st : St} (h : Q (.exit id) st) : thenQ N Q (.exit id) st := h
theorem thenQ_ret {N : St → Prop} {Q : Exit → St → Prop} {st : St} (h : Q .ret st) : thenQ N Q .ret st := h
theorem cut_end {α : Type} {I : α → Prop} {S : α → St} {Q : Exit → St → Prop} {st' : St} (y : α) (h1 : I y) (h3 : Wk G n0 st' (S y)) : thenQ (fun st' => ∃ y, I y ∧ Wk G n0 st' (S y)) Q .normal st' := ⟨y, h1, h3⟩
end
def goRet : Option (AVal × Prop) → (AVal → Prop) → Prop
  | some (v, c), K => Cond c ∧ K v
  | none, _ => False
@[simp] theorem goRet_some (v : AVal) (c : Prop) (K : AVal → Prop) : goRet (some (v, c)) K = (Cond c ∧ K v) := rfl
theorem RetOK_of {T : Tab} {res : List ResultVar} {r : AVal} {st : St} (h : goRet (evRes T st res) (fun v => VLe st.heap id (fun _ => true) (fun _ => false) 0 r v)) : RetOK T res r st := by
  unfold RetOK
  cases he : evRes T st res with
  | none => rw [he] at h; exact h.elim
  | some p => rw [he] at h; exact ⟨p.1, p.2, rfl, h.1, h.2⟩
def sg (l : List (Nat × Nat)) (k : Nat) : Nat := match l with
  | [] => k
  | (a, b) :: r => if k = a then b else sg r k
def mem (l : List Nat) (k : Nat) : Bool := l.contains k
attribute [simp] sg mem heapLe
@[simp] theorem HLe_arr {h : Heap} {σ : Id → Id} {fz : Nat → Bool} {vz : Id → Bool} {nx n2 s2 n s : Nat} {f2 f : Nat → Nat → AVal} : HLe h σ fz vz nx (.arr n2 s2 f2) (some (.arr n s f)) = (n2 ≤ n ∧ s2 = s ∧ ∀ i, i < n2 → ∀ j, j < s2 → (f2 i j).one = true ∧ VLe h σ fz vz nx (f2 i j) (f i j)) := rfl
end Go.Lift
namespace Go.Lift
set_option linter.unusedSimpArgs false
set_option linter.unusedVariables false
open Go.RowKit
structure LeKB (KB : Nat → Prop) (c c' : Cx) : Prop where
  le : c.Le c'
  kb : ∀ b, KB b → b < c.w.heap.size → c'.w.heap[b]? = c.w.heap[b]?
theorem LeKB.refl {KB : Nat → Prop} (c : Cx) : LeKB KB c c := ⟨Cx.Le.refl c, fun _ _ _ => rfl⟩
theorem LeKB.trans {KB : Nat → Prop} {a b c : Cx} (h : LeKB KB a b) (k : LeKB KB b c) : LeKB KB a c := ⟨h.le.trans k.le, fun x hx hb => (k.kb x hx (Nat.lt_of_lt_of_le hb h.le.size)).trans (h.kb x hx hb)⟩
theorem LeKB.mono {K1 K2 : Nat → Prop} {a b : Cx} (h : LeKB K2 a b) (hk : ∀ x, K1 x → K2 x) : LeKB K1 a b := ⟨h.le, fun x hx hb => h.kb x (hk x hx) hb⟩
def wpAnyC (P : Program) (ops : Array Oper) (Q : Exit → Act → World → Prop) (keep : Nat → Nat → Prop) : Nat → Array Bool → Cx → Act → World → Prop
  | 0, listed, _, a, w => Region.ready .any ops listed = [] ∧ Q .normal a w
  | fuel + 1, listed, c, a, w =>
    (Region.ready .any ops listed = [] → Q .normal a w) ∧
    ∀ i ∈ Region.ready .any ops listed, wpOp P ops Q i (fun a' w' => ∃ c' : Cx, c'.w = w' ∧ LeKB (keep i) c c' ∧ wpAnyC P ops Q keep fuel (listed.setIfInBounds i true) c' a' w') a w
section
variable {P : Program} {ops : Array Oper} {Q : Exit → Act → World → Prop} {keep : Nat → Nat → Prop}
theorem wpAny_of_C : ∀ (fuel : Nat) (listed : Array Bool) (c : Cx) (a : Act) (w : World), wpAnyC P ops Q keep fuel listed c a w → wpAny P .any ops Q fuel listed a w
  | 0, _, _, _, _, h => h
  | fuel + 1, listed, c, _, _, h => ⟨h.1, fun i hi => wpOp_mono (fun a' w' hh => by
      obtain ⟨c', _, _, h3⟩ := hh
      exact wpAny_of_C fuel _ c' a' w' h3) (h.2 i hi)⟩
def seesKB (KB : Nat → Prop) (c : Cx) (w : World) : Prop := ∃ c' : Cx, c'.w = w ∧ LeKB KB c c'
theorem wpAnyC_first {i : Nat} {oi : Oper} {v : Value} {KB : Nat → Prop} (hi : ops[i]? = some oi) (hs : Region.noSelect ops = true) (hQ : ∀ ch a w, Q (.panic ch) (a.put oi.dst v) w → Q (.panic ch) a w) :
    ∀ (fuel : Nat) (listed : Array Bool) (c : Cx) (a : Act) (w : World), c.w = w →
      (∀ j oj, ops[j]? = some oj → j ≠ i → listed.getD j true = false → (∀ e ∈ oj.after, Region.binds .any e = true → e.on ≠ i) → oi.apart ops oj = true ∧ ∀ b, KB b → keep j b) →
      i ∈ Region.ready .any ops listed → YieldsIf P ops (seesKB KB c) oi v a →
      wpAnyC P ops Q keep fuel (listed.setIfInBounds i true) c (a.put oi.dst v) w → wpAnyC P ops Q keep (fuel + 1) listed c a w := by
  have hsel := Region.noSelect_spec hs
  intro fuel
  induction fuel with
  | zero =>
    intro listed c a w hcw _ hr hy H
    constructor
    · intro h0
      rw [h0] at hr
      cases hr
    · intro j hj
      by_cases hji : j = i
      · subst hji
        exact hy.wpOp hi (K := fun a' w' => ∃ c' : Cx, c'.w = w' ∧ LeKB (keep j) c c' ∧ wpAnyC P ops Q keep 0 (listed.setIfInBounds j true) c' a' w') ⟨c, hcw, LeKB.refl c⟩ ⟨c, hcw, LeKB.refl c, H⟩
      · have := ready_mono hj hji
        rw [H.1] at this
        cases this
  | succ fuel ih =>
    intro listed c a w hcw hfree hr hy H
    constructor
    · intro h0
      rw [h0] at hr
      cases hr
    · intro j hj
      by_cases hji : j = i
      · subst hji
        exact hy.wpOp hi (K := fun a' w' => ∃ c' : Cx, c'.w = w' ∧ LeKB (keep j) c c' ∧ wpAnyC P ops Q keep (fuel + 1) (listed.setIfInBounds j true) c' a' w') ⟨c, hcw, LeKB.refl c⟩ ⟨c, hcw, LeKB.refl c, H⟩
      · have hstep := H.2 j (ready_mono hj hji)
        obtain ⟨hjun, oj, hoj, hall⟩ := mem_ready.1 hj
        have hnot : ∀ e ∈ oj.after, Region.binds .any e = true → e.on ≠ i := by
          intro e he hb heq
          have hlist := hall e he hb
          have hun := (mem_ready.1 hr).1
          rw [heq] at hlist
          rcases Nat.lt_or_ge i listed.size with hlt | hge
          · simp only [Array.getD_eq_getD_getElem?, Array.getElem?_eq_getElem hlt, Option.getD_some] at hlist hun
            rw [hlist] at hun
            cases hun
          · simp [Array.getD_eq_getD_getElem?, Array.getElem?_eq_none hge] at hlist
        obtain ⟨hap, hkb⟩ := hfree j oj hoj hji hjun hnot
        have hmoved := wpOp_putIf hoj hap (fun cs b => hsel i oi cs b hi) (fun cs b => hsel j oj cs b hoj) hQ hy hstep
        refine wpOp_mono (fun a' w' hh => ?_) hmoved
        obtain ⟨hy', c', hcw', hle, hrest⟩ := hh
        refine ⟨c', hcw', hle, ih _ c' a' w' hcw' ?_ (ready_mono hr (Ne.symm hji)) ?_ ?_⟩
        · intro k ok hk hki hun hno
          refine hfree k ok hk hki ?_ hno
          by_cases hjk : j = k
          · rw [← hjk]; exact hjun
          · rwa [getD_set_ne true hjk] at hun
        · rcases hy' with ⟨hw1, hw2⟩ | hw
          · exact .inl ⟨hw1, fun w2 ⟨c2, hc2, hle2⟩ => hw2 w2 ⟨c2, hc2, (hle.mono hkb).trans hle2⟩⟩
          · exact .inr hw
        · rw [Array.setIfInBounds_comm _ _ hji]
          exact hrest
end
def lst (n : Nat) (done : List Nat) : Array Bool := ((List.range n).map fun k => done.contains k).toArray
theorem lst_set {n i : Nat} {done : List Nat} : (lst n done).setIfInBounds i true = lst n (i :: done) := by
  apply Array.ext
  · simp [lst]
  · intro k h1 h2
    simp only [lst, Array.size_setIfInBounds, List.size_toArray, List.length_map, List.length_range] at h1
    by_cases hk : i = k
    · subst hk
      simp [lst]
    · rw [Array.getElem_setIfInBounds_ne (by simpa [lst] using h1) hk]
      simp [lst, Ne.symm hk]
theorem lst_nil {n : Nat} : lst n [] = Array.replicate n false := by
  apply Array.ext <;> simp [lst]
structure AL where
  al : List Nat
  fr : List Nat
  pr : List Id
def keepOf (W : List (Nat × Id)) (al : AL) (mu0 : Id → Option Base) (nx0 : Nat) (j b : Nat) : Prop := al.al.contains j = false ∧ (al.fr.contains j = true → ∃ id ∈ al.pr, id.1 < nx0 ∧ ∃ B, mu0 id = some B ∧ b = B.b) ∧ ∀ p ∈ W, p.1 = j → ∀ B, mu0 p.2 = some B → b ≠ B.b
def tkOK (al : AL) (ws : List Id) (nx0 : Nat) (h : Heap) (e : Env) : Op → Prop
  | .load _ a => match sv e a with
    | .ptr id _ _ => (∀ x ∈ ws, x ≠ id ∧ (lkH h x).isSome = true ∧ (lkH h id).isSome = true ∧ x.1 < nx0) ∧ (al.fr = [] ∨ (id ∈ al.pr ∧ id.1 < nx0))
    | _ => True
  | .call c => match c.args.toList with
    | x :: _ => match sv e x with
      | .map _ => False
      | _ => True
    | [] => True
  | _ => True
def takeOp : Op → Bool
  | .move _ | .assign _ | .pick .. | .load .. | .fieldAddr .. | .field .. | .indexAddr .. | .index .. | .binOp .. | .unOp .. | .convert .. | .nilCheck _ | .extract .. | .build .. | .slice .. | .makeFunc .. => true
  | .call c => match c.callee with
    | .builtin .len => true
    | .builtin .max => true
    | .builtin .min => true
    | _ => false
  | _ => false
theorem evOp_take {P : Program} {w : World} {G : Gh} {h : Heap} {mu : Id → Option Base} {nx : Nat} {T : Tab} (hT : TabOK P T) (hk : HOk G h mu nx w) {e : Env} {ρ : Operand → Value} (hρ : ∀ x, Rel (cx G h mu nx w) (evX e x) (ρ x)) {o : Oper} {r : Ev}
    (hp : takeOp o.op = true) (hnm : ∀ c, o.op = .call c → ∀ x, c.args.toList[0]? = some x → ∀ id, sv e x ≠ .map id) (he : evOp T e h nx o.op = some r) (hc : r.c) :
    ∃ x, Rel (cx G h mu nx w) r.v x ∧ ∀ w' : World, (∀ b off, b < w.heap.size → ¬ Fb G.O h mu b → w'.cell? ⟨b, off, none⟩ = w.cell? ⟨b, off, none⟩) →
      (∀ t a id k off B, o.op = .load t a → sv e a = .ptr id k off → mu id = some B → w'.heap[B.b]? = w.heap[B.b]?) → (execOp ρ o).run P w' = .ok (.value x) w' := by
  have hs : ∀ x, sc e x → Rel (cx G h mu nx w) (sv e x) (ρ x) := fun x hx => strip_rel (hρ x) hx
  have ofU : ∀ {sem : Sem Value} {v : AVal}, GoodU P (cx G h mu nx w) sem v → ∃ x, Rel (cx G h mu nx w) v x ∧ ∀ w' : World, (Sem.run P (do pure (.value (← sem))) w' : Result Next) = .ok (.value x) w' := fun hg => by
    obtain ⟨x, hx, hr⟩ := hg
    exact ⟨x, hr, fun w' => by simp [hx w']⟩
  have fin : ∀ {sem : Sem Next} {v : AVal} {R : World → Prop} {R2 : World → Prop}, (∃ x, Rel (cx G h mu nx w) v x ∧ ∀ w' : World, sem.run P w' = .ok (.value x) w') → ∃ x, Rel (cx G h mu nx w) v x ∧ ∀ w' : World, R w' → R2 w' → sem.run P w' = .ok (.value x) w' := fun hg => by
    obtain ⟨x, h1, h2⟩ := hg
    exact ⟨x, h1, fun w' _ _ => h2 w'⟩
  unfold evOp at he
  unfold execOp
  cases hop : o.op <;> simp only [hop, reduceCtorEq, takeOp, Bool.false_eq_true] at he hp ⊢
  case move x =>
    injection he with he
    subst he
    exact ⟨ρ x, hρ x, fun w' _ _ => by simp⟩
  case assign x =>
    injection he with he
    subst he
    exact ⟨ρ x, hρ x, fun w' _ _ => by simp⟩
  case pick c a b =>
    split at he
    · rename_i x ya ga yb gb hcx hpa hpb
      injection he with he
      subst he
      obtain ⟨h1, h2, h3⟩ := hc
      have hcr := hs c h1
      rw [hcx] at hcr
      simp only [Rel] at hcr
      have hpk : ∀ (z : Operand) (y : Bool) (g : Prop), pickB (evX e z) = some (y, g) → g → ρ z = .bool y := fun z y g hz hg => by
        have hr := hρ z
        cases hev : evX e z <;> simp only [hev, pickB, Option.some.injEq, Prod.mk.injEq, reduceCtorEq] at hz
        · obtain ⟨rfl, rfl⟩ := hz
          rw [hev] at hr
          exact hr
        · rename_i g' v'
          cases v' <;> simp only [pickB, Option.some.injEq, Prod.mk.injEq, reduceCtorEq] at hz
          obtain ⟨rfl, rfl⟩ := hz
          rw [hev] at hr
          exact hr.1 hg
      cases x with
      | true =>
        have := hpk a ya ga hpa (h2 rfl)
        exact ⟨ρ a, this, fun w' _ _ => by simp [hcr, asBool]⟩
      | false =>
        have := hpk b yb gb hpb (h3 rfl)
        exact ⟨ρ b, this, fun w' _ _ => by simp [hcr, asBool]⟩
    · cases he
  case load t a =>
    split at he
    · rename_i v c hev
      injection he with he
      subst he
      obtain ⟨y, hy, hr⟩ := evLoad_at hT hk hev hc.2 (hs a hc.1)
      exact ⟨y, hr, fun w' h1 h2 => by simp [hy w' h1 (fun id k off B hid hB => h2 t a id k off B rfl hid hB)]⟩
    · cases he
  case fieldAddr t x k =>
    split at he
    · rename_i v hev
      injection he with he
      subst he
      exact fin (ofU (evFieldAddr_ok hT hev (hs x hc)))
    · cases he
  case field t x k =>
    split at he
    · rename_i v c hev
      injection he with he
      subst he
      exact fin (ofU (evField_ok hT hev hc.2 (hs x hc.1)))
    · cases he
  case indexAddr t x ix =>
    split at he
    · rename_i v c hev
      injection he with he
      subst he
      exact fin (ofU (evIndexAddr_ok hT hk hev hc.2.2 (hs x hc.1) (hs ix hc.2.1)))
    · cases he
  case index t x ix =>
    by_cases hst : isStrT T t = true
    · rw [if_pos hst] at he
      split at he
      · rename_i v c hev
        injection he with he
        subst he
        unfold isStrT at hst
        split at hst
        · rename_i hi
          obtain ⟨z, hz, hv⟩ := evIndex_ok hT hi rfl hev hc.2.2 (hs x hc.1) (hs ix hc.2.1)
          exact ⟨z, hv _, fun w' _ _ => by simp [hz w']⟩
        · cases hst
      · cases he
    · rw [if_neg hst] at he; cases he
  case binOp bo t x y t' =>
    split at he
    · rename_i v c hev
      injection he with he
      subst he
      obtain ⟨z, hz, hv⟩ := evBin_ok (P := P) hev hc.2.2 (hs x hc.1) (hs y hc.2.1) t x y
      exact ⟨z, hv _, fun w' _ _ => by
        have h1 := hz w'
        simp only [Sem.run_bind] at h1
        simp only [Sem.run_bind]
        generalize (eqGuard bo t x y (ρ x) (ρ y)).run P w' = q at h1 ⊢
        cases q with
        | ok u w2 => simp only [Result.andThen_ok] at h1 ⊢; rw [h1]; simp
        | halt u w2 => simp at h1⟩
    · split at he
      · rename_i v hev
        injection he with he
        subst he
        obtain ⟨z, hz, hv⟩ := evEq_ok hT hev (hs x hc.1) (hs y hc.2) x y
        exact ⟨z, hv _, fun w' _ _ => by
          have h1 := hz w'
          simp only [Sem.run_bind] at h1
          simp only [Sem.run_bind]
          generalize (eqGuard bo t x y (ρ x) (ρ y)).run P w' = q at h1 ⊢
          cases q with
          | ok u w2 => simp only [Result.andThen_ok] at h1 ⊢; rw [h1]; simp
          | halt u w2 => simp at h1⟩
      · cases he
  case unOp uo t x =>
    split at he
    · rename_i v c hev
      injection he with he
      subst he
      obtain ⟨z, hz, hv⟩ := evUn_ok (P := P) hev hc.2 (hs x hc.1)
      exact ⟨z, hv _, fun w' _ _ => by simp [hz w']⟩
    · cases he
  case convert s d x =>
    split at he
    · rename_i v c hev
      injection he with he
      subst he
      obtain ⟨z, hz, hv⟩ := evConv_ok hT hev hc.2 (hs x hc.1)
      exact ⟨z, hv _, fun w' _ _ => by simp [hz w']⟩
    · split at he
      · rename_i v hev
        injection he with he
        subst he
        obtain ⟨z, hv, hz⟩ := evBts_at hT hev (hs x hc)
        exact ⟨z, hv _, fun w' h1 _ => by simp [hz w' h1]⟩
      · cases he
  case nilCheck x =>
    split at he
    · rename_i hx
      injection he with he
      subst he
      have hr := hs x hc
      rw [hx] at hr
      have hr' := hr
      obtain ⟨_, B, _, hxx⟩ := hr
      exact ⟨ρ x, hr', fun w' _ _ => by simp [hxx]⟩
    · rename_i hx
      injection he with he
      subst he
      have hr := hs x hc
      rw [hx] at hr
      have hr' := hr
      obtain ⟨_, _, hxx, _⟩ := hr
      exact ⟨ρ x, hr', fun w' _ _ => by simp [hxx]⟩
    · rename_i hx
      injection he with he
      subst he
      have hr := hs x hc
      rw [hx] at hr
      have hr' := hr
      obtain ⟨_, hxx, _⟩ := hr
      exact ⟨ρ x, hr', fun w' _ _ => by simp [hxx]⟩
    · cases he
  case extract t i =>
    split at he
    · rename_i n f hx
      by_cases hin : i < n
      · rw [if_pos hin] at he
        injection he with he
        subst he
        have hr := hs t hc
        rw [hx] at hr
        obtain ⟨cs, hxx, hsz, hall⟩ := hr
        have hlt : i < cs.size := by omega
        refine ⟨cs.getD i undef, hall i hin, fun w' _ _ => ?_⟩
        simp [hxx, Instr.extract, hlt, Array.getD]
      · rw [if_neg hin] at he; cases he
    · cases he
  case build t ps =>
    split at he
    · rename_i v hev
      injection he with he
      subst he
      exact fin (ofU (evBuild_ok hT hev (by simpa using parts_rel hρ ps.toList hc)))
    · cases he
  case slice t x lo hi mx =>
    cases mx with
    | some _ => simp at he
    | none =>
      simp only at he
      split at he
      · rename_i v c hev
        injection he with he
        subst he
        have hm := argsC_mem hc.2.1
        refine fin (ofU (evSlice_ok hT hk hev hc.2.2 (hs x hc.1) ?_ ?_))
        · cases lo with
          | none => trivial
          | some y => exact hs y (hm y (by simp))
        · cases hi with
          | none => trivial
          | some y => exact hs y (hm y (by simp))
      · cases he
  case makeFunc fn fs cs =>
    cases fn <;> simp only [reduceCtorEq] at he
    rename_i g
    by_cases hf : fs.size = 0
    · rw [if_pos hf] at he
      injection he with he
      subst he
      have hfe : fs = #[] := Array.eq_empty_of_size_eq_zero hf
      have hm := argsC_mem hc
      subst hfe
      refine ⟨.func (.func g) #[] (cs.map ρ), ⟨_, rfl, by simp, fun j hj => ?_⟩, fun w' _ _ => by simp [Instr.makeFunc]⟩
      have h1 : (cs.toList.map (sv e)).getD j .any = sv e cs[j] := by simp [List.getD, hj]
      have h2 : (cs.map ρ).getD j undef = ρ cs[j] := by simp [Array.getD, hj]
      rw [h2]
      show Rel _ ((cs.toList.map (sv e)).getD j .any) _
      rw [h1]
      exact hs _ (hm _ (by simp))
    · rw [if_neg hf] at he
      split at he
      · rename_i y h1 h2
        injection he with he
        subst he
        have h1' : fs = #[y] := Array.ext' h1
        have h2' : cs = #[] := Array.ext' h2
        subst h1' h2'
        exact ⟨.func (.func g) #[ρ y] #[], ⟨_, rfl, hs y hc⟩, fun w' _ _ => by simp [Instr.makeFunc]⟩
      · cases he
  case call c =>
    have hnm' := hnm c hop
    obtain ⟨callee, args, argTypes⟩ := c
    cases callee <;> simp only [reduceCtorEq] at he
    rename_i b
    obtain ⟨al, rfl⟩ : ∃ al : List Operand, args = al.toArray := ⟨args.toList, by simp⟩
    obtain ⟨tl, rfl⟩ : ∃ tl : List TypeId, argTypes = tl.toArray := ⟨argTypes.toList, by simp⟩
    unfold evCallB at he
    simp only at he
    have mm : ∀ (mx : Bool) (x : Operand) (rest : List Operand) (v : AVal), evMM mx (sv e x) (rest.map (sv e)) = some v → argsC e (x :: rest) →
        ∃ z, Rel (cx G h mu nx w) v z ∧ ∀ w' : World, ((rest.map ρ).foldlM (if mx then Builtin.max2 else Builtin.min2) (ρ x)).run P w' = .ok z w' := fun mx x rest v hev hca => by
      have hm := argsC_mem hca
      have key := fun w' : World => mm_ok (P := P) (w := w') (c := cx G h mu nx w) mx (rest.map (sv e)) (rest.map ρ) _ v (ρ x) (by simp) (fun i a y ha hy => by
          rw [List.getElem?_map] at ha hy
          cases hri : rest[i]? with
          | none => rw [hri] at ha; cases ha
          | some p =>
            rw [hri] at ha hy
            simp only [Option.map_some, Option.some.injEq] at ha hy
            subst ha hy
            exact hs p (hm p (List.mem_cons_of_mem _ (List.mem_of_getElem? hri)))) (hs x (hm x (by simp))) hev
      obtain ⟨z, _, hzr⟩ := key w
      have hint : ∃ k n, v = .int k n := by
        have : ∀ (l : List AVal) (p v : AVal), evMM mx p l = some v → ∃ k n, v = .int k n := by
          intro l
          induction l with
          | nil => intro p v hv; cases p <;> simp [evMM] at hv; exact ⟨_, _, hv.symm⟩
          | cons q l ih =>
            intro p v hv
            cases p <;> try (simp [evMM] at hv; done)
            cases q <;> simp only [evMM, reduceCtorEq] at hv
            exact ih _ _ hv
        exact this _ _ _ hev
      obtain ⟨k, n, rfl⟩ := hint
      refine ⟨z, hzr, fun w' => ?_⟩
      obtain ⟨z', hz', hzr'⟩ := key w'
      simp only [Rel] at hzr hzr'
      rw [hz', hzr, hzr']
    split at he
    · rename_i x t
      by_cases hl : lenT T t (sv e x) = true
      · rw [if_pos hl] at he
        split at he
        · rename_i v hev
          injection he with he
          subst he
          have hne : ∀ id, sv e x ≠ .map id := hnm' x (by simp)
          obtain ⟨z, hz, hzr⟩ := evLen_okU (ty := o.type) hT hne hev hl (hs x hc)
          exact ⟨z, hzr, fun w' _ _ => by simp [resolve, invoke, builtin, hz w']⟩
        · cases he
      · rw [if_neg hl] at he; cases he
    · simp only [Bool.false_eq_true] at hp
    · rename_i x rest
      split at he
      · rename_i v hev
        injection he with he
        subst he
        obtain ⟨z, hzr, hz⟩ := mm true x rest v hev hc
        exact ⟨z, hzr, fun w' _ _ => by have := hz w'; simp only [if_true] at this; simp [resolve, invoke, builtin, Builtin.max_, this]⟩
      · cases he
    · rename_i x rest
      split at he
      · rename_i v hev
        injection he with he
        subst he
        obtain ⟨z, hzr, hz⟩ := mm false x rest v hev hc
        exact ⟨z, hzr, fun w' _ _ => by have := hz w'; simp only [Bool.false_eq_true, if_false] at this; simp [resolve, invoke, builtin, Builtin.min_, this]⟩
      · cases he
    · simp only [Bool.false_eq_true] at hp
    · simp only [Bool.false_eq_true] at hp
    · simp only [Bool.false_eq_true] at hp
    · cases he
end Go.Lift
namespace Go.Lift
set_option linter.unusedSimpArgs false
set_option linter.unusedVariables false
open Go.RowKit
theorem takeOp_pure {o : Op} (h : takeOp o = true) : pureOp o = true := by
  cases o <;> first | rfl | (simp [takeOp] at h; done) | skip
  rename_i c
  obtain ⟨callee, args, ts⟩ := c
  cases callee <;> simp [takeOp] at h
  rename_i b
  cases b <;> simp at h <;> rfl
def evTks (T : Tab) (nt : Nat) (ops : Array Oper) (al : AL) (ws : List Id) (nx0 : Nat) : List Oper → St → Option (St × Prop)
  | [], st => some (st, True)
  | o :: r, st => match evG T nt ops o st with
    | some (s, c) => match evTks T nt ops al ws nx0 r s with
      | some (s', c') => some (s', (tkOK al ws nx0 st.heap st.env o.op ∧ c) ∧ c')
      | none => none
    | none => none
def notLoad : Op → Bool
  | .load .. => false
  | _ => true
def pendOK (ops : Array Oper) (W : List (Nat × Id)) (al : AL) (ws : List Id) (done : List Nat) (i : Nat) : Bool :=
  (match ops[i]? with
    | some oi => notLoad oi.op
    | none => false) || (List.range ops.size).all fun j => j == i || done.contains j || (match ops[j]? with
    | some oj => oj.after.any (fun e => Region.binds .any e && e.on == i)
    | none => true) || (!al.al.contains j && W.all fun p => p.1 != j || ws.contains p.2)
def takesOK (ops : Array Oper) (W : List (Nat × Id)) (al : AL) (ws : List Id) : List Nat → List Nat → Bool
  | [], _ => true
  | i :: r, done => (match ops[i]? with
    | some o => takeOp o.op
    | none => false) && Region.free .any ops (lst ops.size done) i && (Region.ready .any ops (lst ops.size done)).contains i && pendOK ops W al ws done i && takesOK ops W al ws r (i :: done)
def AwpA (P : Program) (G : Gh) (n0 : Nat) (ops : List Oper) (W : List (Nat × Id)) (al : AL) (mu0 : Id → Option Base) (nx0 : Nat) (Q : St → Prop) (fuel : Nat) (done : List Nat) (st : St) : Prop :=
  ∀ mu a w, Sim G mu st a w → n0 ≤ st.nx → nx0 ≤ st.nx → (∀ id : Id, id.1 < nx0 → mu id = mu0 id) → ∀ Q' : Exit → Act → World → Prop, (∀ ch a w, ¬ Q' (.panic ch) a w) →
    (∀ mu' st' a' w', Sim G mu' st' a' w' → n0 ≤ st'.nx → Stay G n0 st.heap mu w st'.heap mu' w' → Q st' → Q' .normal a' w') →
    wpAnyC P ops.toArray Q' (keepOf W al mu0 nx0) fuel (lst ops.toArray.size done) (cx G st.heap mu st.nx w) a w
def AwpO (P : Program) (G : Gh) (n0 : Nat) (ops : List Oper) (W : List (Nat × Id)) (al : AL) (mu0 : Id → Option Base) (nx0 : Nat) (Q : St → Prop) (fuel : Nat) (done : List Nat) (st : St) (i : Nat) : Prop :=
  ∀ mu a w, Sim G mu st a w → n0 ≤ st.nx → nx0 ≤ st.nx → (∀ id : Id, id.1 < nx0 → mu id = mu0 id) → ∀ Q' : Exit → Act → World → Prop, (∀ ch a w, ¬ Q' (.panic ch) a w) →
    (∀ mu' st' a' w', Sim G mu' st' a' w' → n0 ≤ st'.nx → Stay G n0 st.heap mu w st'.heap mu' w' → Q st' → Q' .normal a' w') →
    wpOp P ops.toArray Q' i (fun a' w' => ∃ c' : Cx, c'.w = w' ∧ LeKB (keepOf W al mu0 nx0 i) (cx G st.heap mu st.nx w) c' ∧ wpAnyC P ops.toArray Q' (keepOf W al mu0 nx0) fuel (lst ops.toArray.size (i :: done)) c' a' w') a w
section
variable {P : Program} {G : Gh} {n0 : Nat} {ops : List Oper} {W : List (Nat × Id)} {al : AL} {mu0 : Id → Option Base} {nx0 : Nat} {Q : St → Prop}
theorem awpA_done {fuel : Nat} {done : List Nat} {st : St} (hr : Region.ready .any ops.toArray (lst ops.toArray.size done) = []) (h : Q st) : AwpA P G n0 ops W al mu0 nx0 Q fuel done st := by
  intro mu a w hs hn _ _ Q' _ hQ
  have hq := hQ mu st a w hs hn Stay.refl h
  cases fuel with
  | zero => exact ⟨hr, hq⟩
  | succ f => exact ⟨fun _ => hq, by rw [hr]; simp⟩
theorem awpA_all {fuel : Nat} {done rs : List Nat} {st : St} (hr : Region.ready .any ops.toArray (lst ops.toArray.size done) = rs) (hne : rs ≠ []) (h : ∀ i ∈ rs, AwpO P G n0 ops W al mu0 nx0 Q fuel done st i) :
    AwpA P G n0 ops W al mu0 nx0 Q (fuel + 1) done st := by
  intro mu a w hs hn hx hm Q' hp hQ
  refine ⟨fun h0 => absurd (hr ▸ h0) hne, fun i hi => ?_⟩
  rw [hr] at hi
  rw [lst_set]
  exact h i hi mu a w hs hn hx hm Q' hp hQ
theorem awpA_only {fuel : Nat} {done : List Nat} {i : Nat} {st : St} (hr : Region.ready .any ops.toArray (lst ops.toArray.size done) = [i]) (h : AwpO P G n0 ops W al mu0 nx0 Q fuel done st i) :
    AwpA P G n0 ops W al mu0 nx0 Q (fuel + 1) done st := awpA_all hr (by simp) fun k hk => by
  have : k = i := by simpa using hk
  rw [this]
  exact h
theorem awpA_two {fuel : Nat} {done : List Nat} {i k : Nat} {st : St} (hr : Region.ready .any ops.toArray (lst ops.toArray.size done) = [i, k]) (h : AwpO P G n0 ops W al mu0 nx0 Q fuel done st i) (h2 : AwpO P G n0 ops W al mu0 nx0 Q fuel done st k) :
    AwpA P G n0 ops W al mu0 nx0 Q (fuel + 1) done st := awpA_all hr (by simp) fun j hj => by
  have : j = i ∨ j = k := by simpa using hj
  rcases this with rfl | rfl
  · exact h
  · exact h2
def wOK (W : List (Nat × Id)) (al : AL) (nx0 i : Nat) (h : Heap) : Option Id → Prop
  | none => True
  | some id => al.al.contains i = true ∨ (W.contains (i, id) = true ∧ id.1 < nx0) ∨ (al.fr.contains i = true ∧ (lkH h id).isSome = true ∧ ∀ x ∈ al.pr, x ≠ id ∧ (lkH h x).isSome = true)
theorem wpOp_of {o : Oper} {i : Nat} {Q' : Exit → Act → World → Prop} {K : Act → World → Prop} {a : Act} {w : World} (hi : ops.toArray[i]? = some o)
    (h : if Region.wanted o (yielded ops.toArray a.tmps) then o.wp P a w K Q' else K (a.put o.dst undef) w) : wpOp P ops.toArray Q' i K a w := by
  unfold wpOp
  simp only [hi]
  split
  · rename_i hw; rw [if_pos hw] at h; exact .inl h
  · rename_i hw; rw [if_neg hw] at h; exact h
theorem awpO_ev {T : Tab} (hT : TabOK P T) {fuel : Nat} {done : List Nat} {i : Nat} {o : Oper} {st s : St} {c : Prop} (hi : ops.toArray[i]? = some o) (he : evG T G.nt ops.toArray o st = some (s, c)) (hc : c) (hw : wOK W al nx0 i st.heap (wOp st.env o.op))
    (h : AwpA P G n0 ops W al mu0 nx0 Q fuel (i :: done) s) : AwpO P G n0 ops W al mu0 nx0 Q fuel done st i := by
  intro mu a w hs hn hx hm Q' hp hQ
  refine wpOp_of hi (evG_ok hT he hc hs fun mu' a' w' hs' hLe hfr => ?_)
  refine ⟨cx G s.heap mu' s.nx w', rfl, ⟨hLe, fun b hb hbs => ?_⟩, ?_⟩
  · refine hfr b hbs fun id B hid hB => ?_
    rw [hid] at hw
    rcases hw with hw | ⟨hw, hlt⟩ | ⟨hw, h1, h2⟩
    · rw [hb.1] at hw; cases hw
    · exact hb.2.2 (i, id) (by simpa using hw) rfl B ((hm id hlt).symm.trans hB)
    · obtain ⟨x, hx1, hx2, B1, hB1, rfl⟩ := hb.2.1 hw
      obtain ⟨k1, k2⟩ := h2 x hx1
      obtain ⟨o1, ho1⟩ := Option.isSome_iff_exists.1 k2
      obtain ⟨o2, ho2⟩ := Option.isSome_iff_exists.1 h1
      exact fun heq => k1 (hs.heap.sep x id o1 o2 B1 B ho1 ho2 ((hm x hx2).trans hB1) hB heq)
  · exact h mu' a' w' hs' (Nat.le_trans hn hLe.nx) (Nat.le_trans hx hLe.nx) (fun id hid => (hLe.mu id (Nat.lt_of_lt_of_le hid hx)).trans (hm id hid)) Q' hp
      fun mu2 st2 a2 w2 h1 h2 h3 h4 => hQ mu2 st2 a2 w2 h1 h2 ((Stay.of hn hLe).trans h3) h4
theorem awpO_pc {fuel : Nat} {done : List Nat} {i : Nat} {o : Oper} {st s : St} {x : Operand} {args : Array Operand} {ts : Array TypeId} (hi : ops.toArray[i]? = some o) (ho : o.op = .call { callee := .value x, args := args, argTypes := ts })
    {g : Option Bool} (hg : guardOf ops.toArray o st.env = some g) {f n : Nat} {fc : Nat → AVal} (hx : gHolds g → sv st.env x = .fn f n fc ∧ sc st.env x ∧ argsC st.env args.toList)
    (hf : Callable P f) {as : List AVal} {r : AVal} (hc : gHolds g → PC P f as r) (fz : Nat → Bool) (hflat : (∀ k, fz k = false) ∨ flat r) (hle : gHolds g → argsLe st.heap fz as (callArgs st.env args.toList n fc))
    (hput : putSt G.nt st.env st.heap st.nx o.dst (optV g r) = some s) (h : AwpA P G n0 ops W al mu0 nx0 Q fuel (i :: done) s) : AwpO P G n0 ops W al mu0 nx0 Q fuel done st i := by
  intro mu a w hs hn hnx hm Q' hp hQ
  refine wpOp_of hi (pc_ok ho hg hx hf hc fz hflat hle hput hs fun a' w' hs' hLe hkept => ?_)
  refine ⟨cx G s.heap mu s.nx w', rfl, ⟨hLe, fun b _ hbs => hkept.block b hbs (fun h => h)⟩, ?_⟩
  exact h mu a' w' hs' (Nat.le_trans hn hLe.nx) (Nat.le_trans hnx hLe.nx) hm Q' hp
      fun mu2 st2 a2 w2 h1 h2 h3 h4 => hQ mu2 st2 a2 w2 h1 h2 ((Stay.of hn hLe).trans h3) h4
theorem awpA_take {T : Tab} (hT : TabOK P T) {ws : List Id} {fuel : Nat} {done : List Nat} {i : Nat} {o : Oper} {st s : St} {c : Prop} (hns : Region.noSelect ops.toArray = true) (hi : ops.toArray[i]? = some o) (ht : takeOp o.op = true)
    (hfree : Region.free .any ops.toArray (lst ops.toArray.size done) i = true) (hr : (Region.ready .any ops.toArray (lst ops.toArray.size done)).contains i = true) (hpd : pendOK ops.toArray W al ws done i = true)
    (he : evG T G.nt ops.toArray o st = some (s, c)) (htk : tkOK al ws nx0 st.heap st.env o.op) (hc : c) (h : AwpA P G n0 ops W al mu0 nx0 Q fuel (i :: done) s) : AwpA P G n0 ops W al mu0 nx0 Q (fuel + 1) done st := by
  intro mu a w hs hn hx hm Q' hp hQ
  -- where the state after it stands
  have hnm : ∀ c, o.op = .call c → ∀ x, c.args.toList[0]? = some x → ∀ id, sv st.env x ≠ .map id := by
    intro c' hop x hx0 id hid
    rw [hop] at htk
    simp only [tkOK] at htk
    cases hl : c'.args.toList with
    | nil => rw [hl] at hx0; simp at hx0
    | cons y r =>
      rw [hl] at hx0 htk
      simp only [List.getElem?_cons_zero, Option.some.injEq] at hx0
      subst hx0
      simp only [hid] at htk
  let KB : Nat → Prop := fun b => ∃ t x id k off B, o.op = .load t x ∧ sv st.env x = .ptr id k off ∧ mu id = some B ∧ b = B.b
  have hkeep : ∀ j oj, ops.toArray[j]? = some oj → j ≠ i → (lst ops.toArray.size done).getD j true = false → (∀ e ∈ oj.after, Region.binds .any e = true → e.on ≠ i) → o.apart ops.toArray oj = true ∧ ∀ b, KB b → keepOf W al mu0 nx0 j b := by
    intro j oj hj hne hun hno
    refine ⟨Region.free_spec hi hfree j oj hj hne hun hno, ?_⟩
    rintro b ⟨t, x, id, k, off, B, hop, hsv, hB, rfl⟩
    have hjs : j < ops.toArray.size := (Array.getElem?_eq_some_iff.1 hj).1
    have hp1 := hpd
    simp only [pendOK, hi, hop, notLoad, Bool.false_or, List.all_eq_true, List.mem_range] at hp1
    have hp2 := hp1 j hjs
    simp only [hj, Bool.or_eq_true, beq_iff_eq, hne, false_or] at hp2
    have hnd : done.contains j = false := by
      have hjs' : j < ops.length := by simpa using hjs
      have : (lst ops.toArray.size done).getD j true = done.contains j := by
        simp [lst, Array.getD_eq_getD_getElem?, List.getElem?_map, List.getElem?_range hjs']
      rw [← this]; exact hun
    rcases hp2 with (hp2 | hp2) | hp2
    · rw [hnd] at hp2; cases hp2
    · exfalso
      obtain ⟨e, he', hb⟩ := Array.any_eq_true'.1 hp2
      simp only [Bool.and_eq_true, beq_iff_eq] at hb
      exact hno e he' hb.1 hb.2
    · simp only [Bool.and_eq_true, Bool.not_eq_true', List.all_eq_true, Bool.or_eq_true, bne_iff_ne, ne_eq] at hp2
      rw [hop] at htk
      simp only [tkOK, hsv] at htk
      refine ⟨hp2.1, fun hfr => ?_, fun p hpW hpj B' hB' heq => ?_⟩
      · rcases htk.2 with h0 | ⟨h0, h00⟩
        · rw [h0] at hfr; simp at hfr
        · exact ⟨id, h0, h00, B, (hm id h00).symm.trans hB, rfl⟩
      rcases hp2.2 p hpW with h1 | h1
      · exact h1 hpj
      · obtain ⟨k1, k2, k3, k4⟩ := htk.1 p.2 (by simpa using h1)
        obtain ⟨o1, ho1⟩ := Option.isSome_iff_exists.1 k2
        obtain ⟨o2, ho2⟩ := Option.isSome_iff_exists.1 k3
        exact k1 (hs.heap.sep p.2 id o1 o2 B' B ho1 ho2 ((hm p.2 k4).trans hB') hB heq.symm)
  have hready : i ∈ Region.ready .any ops.toArray (lst ops.toArray.size done) := by simpa using hr
  have hQn : ∀ (v : Value) ch a w, Q' (.panic ch) (a.put o.dst v) w → Q' (.panic ch) a w := fun v ch a w h => absurd h (hp _ _ _)
  have hsees : ∀ w', seesKB KB (cx G st.heap mu st.nx w) w' → (∀ b off, b < w.heap.size → ¬ Fb G.O st.heap mu b → w'.cell? ⟨b, off, none⟩ = w.cell? ⟨b, off, none⟩) ∧
      (∀ t x id k off B, o.op = .load t x → sv st.env x = .ptr id k off → mu id = some B → w'.heap[B.b]? = w.heap[B.b]?) := by
    rintro w' ⟨c', rfl, hle⟩
    refine ⟨fun b off hb hF => hle.le.cell b off hb hF, fun t x id k off B hop hsv hB => ?_⟩
    by_cases hbs : B.b < w.heap.size
    · exact hle.kb B.b ⟨t, x, id, k, off, B, hop, hsv, hB, rfl⟩ hbs
    · -- a piece that is not live: never read
      exfalso
      have : ∃ o', lkH st.heap id = some o' := by
        unfold evG at he
        simp only [takeOp_pure ht, if_true] at he
        have key : ∀ r, evOp T st.env st.heap st.nx o.op = some r → ∃ o', lkH st.heap id = some o' := fun r hr => by
          rw [hop] at hr
          simp only [evOp] at hr
          split at hr
          · rename_i v c' hev
            unfold evLoad at hev
            rw [hsv] at hev
            cases hT' : T t with
            | none => simp [hT'] at hev
            | some ti =>
              simp only [hT'] at hev
              cases hl : lkH st.heap id with
              | none => simp [hl] at hev
              | some o' => exact ⟨o', rfl⟩
          · cases hr
        split at he
        · split at he
          · rename_i r hr; exact key r hr
          · cases he
        · split at he
          · split at he
            · split at he
              · rename_i r hr; exact key r hr
              · cases he
            · cases he
          · cases he
      obtain ⟨o', ho'⟩ := this
      exact hbs (hs.heap.own id o' B ho' hB).1
  -- the value and the state behind it
  have hstep : ∃ v, YieldsIf P ops.toArray (seesKB KB (cx G st.heap mu st.nx w)) o v a ∧ Sim G mu s (a.put o.dst v) w ∧ s.heap = st.heap ∧ s.nx = st.nx := by
    have hpu := takeOp_pure ht
    have hval : ∀ (r : Ev), evOp T st.env st.heap st.nx o.op = some r → r.c → ∃ x, Rel (cx G st.heap mu st.nx w) r.v x ∧ ∀ w', seesKB KB (cx G st.heap mu st.nx w) w' → (execOp a.eval o).run P w' = .ok (.value x) w' := fun r hr hrc => by
      obtain ⟨x, hx1, hx2⟩ := evOp_take hT hs.heap (fun y => hs.rho y) ht hnm hr hrc
      exact ⟨x, hx1, fun w' hw' => hx2 w' (hsees w' hw').1 (hsees w' hw').2⟩
    have he2 := he
    unfold evG at he2
    cases hgd : o.guard with
    | none =>
      simp only [hgd] at he2
      split at he2
      · rename_i r hev
        split at he2
        · rename_i s' hput
          simp only [Option.some.injEq, Prod.mk.injEq] at he2
          obtain ⟨rfl, rfl⟩ := he2
          obtain ⟨p1, p2⟩ := evOp_pure hpu hev
          obtain ⟨x, hx1, hx2⟩ := hval r hev hc
          rw [p1, p2] at hput
          refine ⟨x, .inl ⟨by simp [Region.wanted, hgd], hx2⟩, hs.put (Cx.Le.refl _) hs.heap hx1 hput, (putSt_heap hput).1, (putSt_heap hput).2⟩
        · cases he2
      · cases he2
    | some jw =>
      obtain ⟨j, want⟩ := jw
      simp only [hgd] at he2
      split at he2
      · rename_i t htt
        split at he2
        · rename_i g hgb
          rw [if_pos hpu] at he2
          split at he2
          · rename_i r hev
            split at he2
            · rename_i s' hput
              simp only [Option.some.injEq, Prod.mk.injEq] at he2
              obtain ⟨rfl, rfl⟩ := he2
              have hwant := wanted_of (g := some g) hs (ops := ops.toArray) (o := o) (by simp only [guardOf, hgd, htt, hgb])
              simp only [Option.getD_some] at hwant
              cases g with
              | true =>
                obtain ⟨x, hx1, hx2⟩ := hval r hev (hc rfl)
                exact ⟨x, .inl ⟨hwant, hx2⟩, hs.put (Cx.Le.refl _) hs.heap (v := mkOpt true r.v) (mkOpt_rel (fun _ => hx1) (fun h => by cases h)) hput, (putSt_heap hput).1, (putSt_heap hput).2⟩
              | false =>
                exact ⟨undef, .inr ⟨hwant, rfl⟩, hs.put (Cx.Le.refl _) hs.heap (v := mkOpt false r.v) (mkOpt_rel (fun h => by (cases h)) (fun _ => rfl)) hput, (putSt_heap hput).1, (putSt_heap hput).2⟩
            · cases he2
          · cases he2
        · cases he2
      · cases he2
  obtain ⟨v, hy, hs', hh1, hh2⟩ := hstep
  refine wpAnyC_first hi hns (hQn v) fuel _ _ a w rfl hkeep hready hy ?_
  rw [lst_set]
  have := h mu (a.put o.dst v) w hs' (by rw [hh2]; exact hn) (by rw [hh2]; exact hx) hm Q' hp (fun mu2 st2 a2 w2 h1 h2 h3 h4 => hQ mu2 st2 a2 w2 h1 h2 (by rw [← hh1]; exact h3) h4)
  rw [hh1, hh2] at this
  exact this
theorem awpA_takes {T : Tab} (hT : TabOK P T) {ws : List Id} (hns : Region.noSelect ops.toArray = true) : ∀ (is : List Nat) {fuel : Nat} {done : List Nat} {st s : St} {c : Prop}, takesOK ops.toArray W al ws is done = true →
    evTks T G.nt ops.toArray al ws nx0 (is.filterMap fun i => ops[i]?) st = some (s, c) → c → AwpA P G n0 ops W al mu0 nx0 Q fuel (is.reverse ++ done) s → AwpA P G n0 ops W al mu0 nx0 Q (fuel + is.length) done st
  | [], _, _, _, _, _, _, he, _, h => by
    simp only [List.filterMap_nil, evTks, Option.some.injEq, Prod.mk.injEq] at he
    obtain ⟨rfl, _⟩ := he
    exact h
  | i :: is, fuel, done, st, s, c, hok, he, hc, h => by
    simp only [takesOK, Bool.and_eq_true] at hok
    obtain ⟨⟨⟨⟨h1, h2⟩, h3⟩, h4⟩, h5⟩ := hok
    cases hi : ops[i]? with
    | none => simp [hi] at h1
    | some o =>
      have hi' : ops.toArray[i]? = some o := by simpa using hi
      rw [hi'] at h1
      simp only at h1
      simp only [List.filterMap_cons, hi] at he
      simp only [evTks] at he
      split at he
      · rename_i s1 c1 hg
        split at he
        · rename_i s2 c2 hl
          simp only [Option.some.injEq, Prod.mk.injEq] at he
          obtain ⟨rfl, rfl⟩ := he
          have ih := awpA_takes hT hns is (fuel := fuel) h5 hl hc.2 (by simpa using h)
          exact awpA_take hT hns hi' h1 h2 h3 h4 hg hc.1.1 hc.1.2 ih
        · cases he
      · cases he
theorem awp_draw {id : Nat} {Q : Exit → St → Prop} {st : St} (hR : G.rd = none) (hm : P.follows .mixedOrders = true) (W : List (Nat × Id)) (al : AL)
    (h : ∀ mu0, AwpA P G n0 ops W al mu0 st.nx (Q .normal) ops.length [] st) : Awp P G n0 (.region id ops.toArray true) Q st := by
  intro mu a w hs hn Q' hQ
  have hsim : Sim G mu st a { w with drawn := w.drawn + 1 } := ⟨hs.defers.mono fun _ h => h, hs.size, fun t => Rel.mono (c := cx G st.heap mu st.nx w) (c' := cx G st.heap mu st.nx { w with drawn := w.drawn + 1 }) ⟨Nat.le_refl _, fun _ _ h => h, fun _ _ _ _ => rfl, Nat.le_refl _, fun _ _ => rfl, fun _ h => h⟩ _ _ (hs.env t), hs.heap.drew 1⟩
  have hst : Stay G n0 st.heap mu w st.heap mu { w with drawn := w.drawn + 1 } := ⟨⟨Nat.le_refl _, fun _ _ h => h, fun _ _ _ _ => rfl, Nat.le_refl _, fun _ _ => rfl, fun _ h => h⟩⟩
  have key := h mu mu a _ hsim hn (Nat.le_refl _) (fun _ _ => rfl) (fun e a w => e = .normal ∧ Q' .normal a w) (fun ch a w hh => by cases hh.1)
    (fun mu' st' a' w' h1 h2 h3 h4 => ⟨rfl, hQ .normal mu' st' a' w' h1 h2 (hst.trans h3) h4⟩)
  have hw := wpAny_of_C _ _ _ _ _ key
  rw [lst_nil] at hw
  have := wp_region_any (id := id) hm (ops := ops.toArray) (a := a) (w := w) (Q := fun e a w => e = .normal ∧ Q' .normal a w) (by simpa using hw)
  rw [hR]
  refine (wpIn_wide (n := 0)).2 (Code.wp_mono ?_ this)
  rintro e a' w' ⟨rfl, hq⟩
  exact hq
end
end Go.Lift
namespace Go.Lift
set_option linter.unusedSimpArgs false
set_option linter.unusedVariables false
open Go.RowKit
section
variable {P : Program} {G : Gh} {n0 : Nat}
theorem awpS_draw {id : Nat} {ops : List Oper} {cs : List Code} {Q : Exit → St → Prop} {st : St} (hR : G.rd = none) (hm : P.follows .mixedOrders = true) (W : List (Nat × Id)) (al : AL)
    (h : ∀ mu0, AwpA P G n0 ops W al mu0 st.nx (AwpS P G n0 cs Q) ops.length [] st) : AwpS P G n0 (.region id ops.toArray true :: cs) Q st := awp_draw hR hm W al h
variable {ops : List Oper} {W : List (Nat × Id)} {al : AL} {mu0 : Id → Option Base} {nx0 : Nat} {Q : St → Prop}
theorem awpA_tk {T : Tab} (hT : TabOK P T) (is : List Nat) (ws : List Id) {fuel fuel' : Nat} {done : List Nat} (done2 : List Nat) {st : St} (hns : Region.noSelect ops.toArray = true) (hok : takesOK ops.toArray W al ws is done = true) (hf : fuel' = fuel + is.length) (hd : is.reverse ++ done = done2)
    (h : ∀ K : St → Prop, (∀ s, AwpA P G n0 ops W al mu0 nx0 Q fuel done2 s → K s) → goEv (evTks T G.nt ops.toArray al ws nx0 (is.filterMap fun i => ops[i]?) st) K) : AwpA P G n0 ops W al mu0 nx0 Q fuel' done st := by
  have key := h _ fun _ hs => hs
  subst hf
  subst hd
  cases he : evTks T G.nt ops.toArray al ws nx0 (is.filterMap fun i => ops[i]?) st with
  | none => rw [he] at key; exact key.elim
  | some p =>
    obtain ⟨s, c⟩ := p
    rw [he] at key
    exact awpA_takes hT hns is hok he key.1 key.2
theorem awpO_reg {T : Tab} (hT : TabOK P T) {fuel : Nat} {done : List Nat} {i : Nat} {o : Oper} {st : St} (hi : ops.toArray[i]? = some o) (hw : wOK W al nx0 i st.heap (wOp st.env o.op))
    (h : ∀ K : St → Prop, (∀ s, AwpA P G n0 ops W al mu0 nx0 Q fuel (i :: done) s → K s) → goEv (evG T G.nt ops.toArray o st) K) : AwpO P G n0 ops W al mu0 nx0 Q fuel done st i := by
  have key := h _ fun _ hs => hs
  cases he : evG T G.nt ops.toArray o st with
  | none => rw [he] at key; exact key.elim
  | some p =>
    obtain ⟨s, c⟩ := p
    rw [he] at key
    exact awpO_ev hT hi he key.1 hw key.2
theorem awpO_call {fuel : Nat} {done : List Nat} {i : Nat} {o : Oper} {st : St} {f : FuncId} (hf : Callable P f) {as : List AVal} {r : AVal} {x : Operand} {args : Array Operand} {ts : Array TypeId} (hi : ops.toArray[i]? = some o)
    (ho : o.op = .call { callee := .value x, args := args, argTypes := ts }) {g : Option Bool} (hg : guardOf ops.toArray o st.env = some g) {n : Nat} {fc : Nat → AVal} (hx : gHolds g → sv st.env x = .fn f n fc)
    (hc : gHolds g → PC P f as r) (hsc : gHolds g → sc st.env x ∧ argsC st.env args.toList) (hle : gHolds g → argsLe st.heap (fun _ => false) as (callArgs st.env args.toList n fc))
    (h : ∀ K : St → Prop, (∀ s, AwpA P G n0 ops W al mu0 nx0 Q fuel (i :: done) s → K s) → goPut (putSt G.nt st.env st.heap st.nx o.dst (optV g r)) K) : AwpO P G n0 ops W al mu0 nx0 Q fuel done st i := by
  obtain ⟨s, hput, hs⟩ := goPut_spec (h _ fun _ hs => hs)
  exact awpO_pc hi ho hg (fun hh => ⟨hx hh, hsc hh⟩) hf hc (fun _ => false) (.inl fun _ => rfl) hle hput hs
theorem awpO_callB (fz : Nat → Bool) {fuel : Nat} {done : List Nat} {i : Nat} {o : Oper} {st : St} {f : FuncId} (hf : Callable P f) {as : List AVal} {r : AVal} (hflat : flat r) {x : Operand} {args : Array Operand} {ts : Array TypeId} (hi : ops.toArray[i]? = some o)
    (ho : o.op = .call { callee := .value x, args := args, argTypes := ts }) {g : Option Bool} (hg : guardOf ops.toArray o st.env = some g) {n : Nat} {fc : Nat → AVal} (hx : gHolds g → sv st.env x = .fn f n fc)
    (hc : gHolds g → PC P f as r) (hsc : gHolds g → sc st.env x ∧ argsC st.env args.toList) (hle : gHolds g → argsLe st.heap fz as (callArgs st.env args.toList n fc))
    (h : ∀ K : St → Prop, (∀ s, AwpA P G n0 ops W al mu0 nx0 Q fuel (i :: done) s → K s) → goPut (putSt G.nt st.env st.heap st.nx o.dst (optV g r)) K) : AwpO P G n0 ops W al mu0 nx0 Q fuel done st i := by
  obtain ⟨s, hput, hs⟩ := goPut_spec (h _ fun _ hs => hs)
  exact awpO_pc hi ho hg (fun hh => ⟨hx hh, hsc hh⟩) hf hc fz (.inr hflat) hle hput hs
end
attribute [simp] evTks tkOK wOK wOp wPtr wSl
end Go.Lift
