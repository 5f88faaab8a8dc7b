/- Whatever an encoder of a proof of splitting writes is labelled on paths of the graph of the proof, block by block: the law returns true for every input. The package-level variables that the row lists are not read. No condition. -/
import Derived.Test.YtchjjiedcpfniaaGreatDoorRows
import Derived.Test.YtchjjiedcpfniaaGreatDoorTie
import Derived.Test.YtchjjiedcpfniaaGreatDoorCards
import Derived.ProofKit
import Derived.LaidMore
import Derived.OpenShut
import Derived.Test.YtchjjiedcpfniaaGreatDoorK09
import Derived.Test.YtchjjiedcpfniaaGreatDoorK10
import Derived.Test.YtchjjiedcpfniaaGreatDoorK14
import Derived.Test.YtchjjiedcpfniaaGreatDoorK29
import Derived.Test.YtchjjiedcpfniaaGreatDoorK49
namespace Go.Proofs.YtchjjiedcpfniaaGreatDoor
set_option linter.unusedSimpArgs false
set_option linter.unusedVariables false
open Go Go.Lift Go.RowKit Go.ChangeShapes Go.WideShapes Go.ChangeAt
theorem Tryz.own : ownKnob Tryz.prog.godebug = none := by kernel_rfl
theorem Tryz.laidOut : laidOutB Tryz.prog = true := by kernel_rfl
theorem wf_u8 {n : Int} (h : (Lit.int .u8 n).wf = true) : 0 ≤ n ∧ n < 256 := by
  simp only [Lit.wf, Bool.and_eq_true, decide_eq_true_eq] at h
  have h1 : IntKind.u8.min = 0 := rfl
  have h2 : IntKind.u8.max = 255 := rfl
  omega
theorem rdI : Reads Tryz.prog 3 1 (fun (n : Int) _ => .int .i64 n) (fun n => (Lit.int .i64 n).wf = true) := reads_int Tryz.underlying3 (by kernel_rfl)
theorem rdE : Reads Tryz.prog 69 3 edgeF (fun _ => True) :=
  (reads_struct (f := _) (I := _) Tryz.underlying69 (by kernel_rfl) (readsF_cons rfl rdI (readsF_cons rfl rdI (readsF_cons rfl rdI readsF_nil)))).as (fun p => (⟨p.1, p.2.1, p.2.2.1⟩ : Edge)) (fun a j hj => by
    match j, hj with
    | 0, _ => rfl
    | 1, _ => rfl
    | 2, _ => rfl) (fun _ _ => trivial)
theorem rdEs : Reads Tryz.prog 22 1 (fun (l : List Edge) _ => edgesC l) (fun l => l.length ≤ maxLen) :=
  (reads_slice de Tryz.underlying22 (by kernel_rfl) (by decide) rdE).as id (fun _ _ _ => rfl) (fun _ h => h.1)
theorem rdG : Reads Tryz.prog 24 3 grF (fun g => g.edges.length ≤ maxLen) :=
  (reads_struct (f := _) (I := _) Tryz.underlying24 (by kernel_rfl) (readsF_cons rfl rdI (readsF_cons rfl rdI (readsF_cons rfl rdEs readsF_nil)))).as (fun p => (⟨p.1, p.2.1, p.2.2.1⟩ : Gr)) (fun a j hj => by
    match j, hj with
    | 0, _ => rfl
    | 1, _ => rfl
    | 2, _ => rfl) (fun _ h => h.2.2.1)
theorem rdIs : Reads Tryz.prog 25 1 (fun (l : List Int) _ => ints l) (fun l => l.length ≤ maxLen) :=
  (reads_slice (0 : Int) Tryz.underlying25 (by kernel_rfl) (by decide) rdI).as id (fun _ _ _ => rfl) (fun _ h => h.1)
theorem rdRs : Reads Tryz.prog 96 1 (fun (l : List (List Int)) _ => rowsI l) (fun l => l.length ≤ maxLen ∧ ∀ r ∈ l, r.length ≤ maxLen) :=
  (reads_slice [] Tryz.underlying96 (by kernel_rfl) (by decide) rdIs).as id (fun _ _ _ => rfl) (fun _ h => h)
theorem rdS : Reads Tryz.prog 98 2 splF (fun x => x.parts.length ≤ maxLen) :=
  (reads_struct (f := _) (I := _) Tryz.underlying98 (by kernel_rfl) (readsF_cons rfl rdI (readsF_cons rfl rdRs readsF_nil))).as (fun p => (⟨p.1, p.2.1⟩ : Spl)) (fun a j hj => by
    match j, hj with
    | 0, _ => rfl
    | 1, _ => rfl) (fun _ h => h.2.1.1)
theorem rdSs : Reads Tryz.prog 54 1 (fun (l : List Spl) _ => spls l) (fun l => l.length ≤ maxLen ∧ ∀ x ∈ l, x.parts.length ≤ maxLen) :=
  (reads_slice ds Tryz.underlying54 (by kernel_rfl) (by decide) rdS).as id (fun _ _ _ => rfl) (fun _ h => h)
theorem rdB : Reads Tryz.prog 5 1 (fun (n : Int) _ => .int .u8 n) (fun n => (Lit.int .u8 n).wf = true) := reads_int Tryz.underlying5 (by kernel_rfl)
theorem rdRd : Reads Tryz.prog 26 1 (fun (l : List (List Spl)) _ => rds l) (fun l => l.length ≤ maxLen ∧ ∀ x ∈ l, x.length ≤ maxLen ∧ ∀ y ∈ x, y.parts.length ≤ maxLen) :=
  (reads_slice [] Tryz.underlying26 (by kernel_rfl) (by decide) rdSs).as id (fun _ _ _ => rfl) (fun _ h => h)
theorem rdP : Reads Tryz.prog 28 6 prfF (fun p => p.w.length ≤ maxLen ∧ p.rounds.length ≤ maxLen ∧ ∀ x ∈ p.rounds, x.length ≤ maxLen ∧ ∀ y ∈ x, y.parts.length ≤ maxLen) :=
  (reads_struct (f := _) (I := _) Tryz.underlying28 (by kernel_rfl) (readsF_cons rfl rdG (readsF_cons rfl rdIs (readsF_cons rfl rdI (readsF_cons rfl rdRd readsF_nil))))).as (fun p => (⟨p.1, p.2.1, p.2.2.1, p.2.2.2.1⟩ : Prf)) (fun a j hj => by
    match j, hj with
    | 0, _ => rfl
    | 1, _ => rfl
    | 2, _ => rfl
    | 3, _ => rfl
    | 4, _ => rfl
    | 5, _ => rfl) (fun _ h => ⟨h.2.1, h.2.2.2.1.1, h.2.2.2.1.2⟩)
theorem reads_byte {P : Program} {t : TypeId} (ht : P.underlying t = some (.int .u8)) (hc : P.cellsOf t = 1) : Reads P t 1 (fun (x : UInt8) _ => .int .u8 x.toNat) (fun _ => True) :=
  ⟨hc, fun H enc w sp held n cs x h => by
    obtain ⟨m, rfl, _, hw⟩ := DataW.trod_int ht h
    have hm := wf_u8 hw
    refine ⟨UInt8.ofNat m.toNat, trivial, rfl, fun j hj => ⟨rfl, .int .u8 m, by rw [show j = 0 by omega]; rfl, ?_⟩⟩
    show Value.int .u8 m = Value.int .u8 ((UInt8.ofNat m.toNat).toNat : Int)
    rw [UInt8.toNat_ofNat', Nat.mod_eq_of_lt (by omega), Int.toNat_of_nonneg hm.1]⟩
theorem rdY : Reads Tryz.prog 39 1 (fun (l : List UInt8) _ => Lift.bytes l) (fun l => l.length ≤ maxLen) :=
  (reads_slice (0 : UInt8) Tryz.underlying39 (by kernel_rfl) (by decide) (reads_byte Tryz.underlying5 (by kernel_rfl))).as id (fun _ _ _ => rfl) (fun _ h => h.1)
end Go.Proofs.YtchjjiedcpfniaaGreatDoor
namespace Go.Proofs.YtchjjiedcpfniaaGreatDoor
set_option linter.unusedSimpArgs false
set_option linter.unusedVariables false
open Go Go.Lift Go.RowKit Go.ChangeShapes Go.WideShapes Go.ChangeAt
def proofsLaw_laid {H : Type} : List (String × DataW H) := [("math/bits.deBruijn32tab", Rows.laid_math_bits_deBruijn32tab), ("math/bits.deBruijn64tab", Rows.laid_math_bits_deBruijn64tab), ("internal/strconv.uint64pow10", Rows.laid_internal_strconv_uint64pow10)]
theorem proofsLaw_door (os : Os) (args : Array Value) : laidMetH Tryz.prog proofsLaw_laid ((World.doorLaid Tryz.prog 400 os).forCall (fun _ _ => 0) ⟨#[], args, []⟩).memory :=
  laidMetH_of_parts3 (fuel := 8) (laidMet_of_run' 8 (by kernel_rfl) (by kernel_rfl)) (by kernel_rfl) (by kernel_rfl)
set_option maxRecDepth 100000 in
theorem proofsLaw_lifted (os : Os) (started : os.Started) (H : Type) (enc : TypeId × Value → H) :
    ReturnsInHanded {} Tryz.checked os 4 .any (fun w args => (Rows.encoderProofsSpec.pre enc Tryz.prog Tryz.f4 [] false w args ∧ laidMetH Tryz.prog proofsLaw_laid w) ∧ sizedMet enc Tryz.prog Tryz.f4 (OpenSpec.ofChange Rows.encoderProofsSpec) false w args)
      (Rows.encoderProofsSpec.post enc Tryz.prog Tryz.f4 false true false false) := by
  refine returnsInHanded_of_change_and (C := Tryz.checked) (X := fun w _ => laidMetH Tryz.prog proofsLaw_laid w) (fun _ _ _ hh h => h.of_heap hh) Tryz.own started (by kernel_rfl) Tryz.func4
    (ChangeSpec.witness_shaped (enc := enc) (C := Tryz.checked) (os := os) (X := fun w _ => laidMetH Tryz.prog proofsLaw_laid w) false (World.doorLaid Tryz.prog 400 os) #[.agg #[.int .i64 0, .int .i64 0, .slice none 0 0, .slice none 0 0, .int .i64 0, .slice none 0 0], .int .u8 0, .int .u8 0, .int .u8 0, .slice none 0 0] 8 rfl (World.shaped_of_RefB (by kernel_rfl) (by kernel_rfl)) (by kernel_rfl) (by kernel_rfl) (by kernel_rfl) (proofsLaw_door os _)) ?_
  intro W base args ds gs before hval0 hW _ _ _ _
  have hval : ∀ (j : Nat) t v, Tryz.f4.params[j]? = some t → args[j]? = some v → Value.okWide Tryz.prog W .any base t v := hval0
  have hW' := hW
  obtain ⟨p, q, hA0, hV, rfl, _, _⟩ := hW
  have hA : DataW.TrodAll enc Tryz.prog W 0 (fun _ => true) true Tryz.f4.params.toList args.toList ds p := hA0
  rw [Tryz.params4] at hA hval
  obtain ⟨al, rfl⟩ : ∃ al : List Value, args = al.toArray := ⟨args.toList, by simp⟩
  simp only at hA
  obtain ⟨v0, al0, d0, ds0, p0, q0, rfl, rfl, rfl, h0, hA⟩ := trodAll_cons hA
  obtain ⟨v1, al1, d1, ds1, p1, q1, rfl, rfl, rfl, h1, hA⟩ := trodAll_cons hA
  obtain ⟨v2, al2, d2, ds2, p2, q2, rfl, rfl, rfl, h2, hA⟩ := trodAll_cons hA
  obtain ⟨v3, al3, d3, ds3, p3, q3, rfl, rfl, rfl, h3, hA⟩ := trodAll_cons hA
  obtain ⟨v4, al4, d4, ds4, p4, q4, rfl, rfl, rfl, h4, hA⟩ := trodAll_cons hA
  obtain ⟨rfl, rfl, rfl⟩ := trodAll_nil hA
  obtain ⟨rfl, rfl⟩ := trodVars_none hV
  obtain ⟨x0, w0, r0⟩ := arg_struct Tryz.underlying28 rdP (hval 0 28 v0 rfl rfl) h0
  obtain ⟨x1, w1, r1⟩ := arg_int Tryz.underlying5 rdB (hval 1 5 v1 rfl rfl) h1
  obtain ⟨x2, w2, r2⟩ := arg_int Tryz.underlying5 rdB (hval 2 5 v2 rfl rfl) h2
  obtain ⟨x3, w3, r3⟩ := arg_int Tryz.underlying5 rdB (hval 3 5 v3 rfl rfl) h3
  obtain ⟨x4, w4, r4⟩ := arg_slice Tryz.underlying39 rdY (hval 4 39 v4 rfl rfl) h4
  refine (proofsLaw_c x0 x1 (wf_u8 w1) x2 (wf_u8 w2) x3 (wf_u8 w3) x4 w0 (fun _ => False) W [v0, v1, v2, v3, v4] (fun _ h => h.elim) ⟨r0, r1, r2, r3, r4, trivial⟩).mono fun r W' ⟨v, hr, hk, hv⟩ => ?_
  subst hr
  have hv' : v = .bool true := hv
  subst hv'
  exact ⟨_, rfl, law_post Tryz.laidOut (by kernel_rfl) rfl rfl rfl Tryz.underlying4 hW' hk⟩
theorem proofsLaw_said : Rows.EncoderProofsSaid :=
  OpenClaim.holds_of_wide 4 Tryz.f4 rfl rfl rfl rfl rfl rfl rfl ⟨rfl, rfl, rfl, rfl, rfl⟩ rfl rfl rfl rfl rfl (by kernel_rfl) Tryz.func4 (by kernel_rfl)
    (of_decide_eq_true (by kernel_rfl)) (by unfold Func.isWrapper; first | (rw [if_pos (by decide +kernel)]; kernel_rfl) | (rw [if_neg (by decide +kernel)]; exact ⟨rfl, rfl⟩))
    (fun os started H enc _ => proofsLaw_lifted os started H enc)
theorem proofsLaw_holds : Rows.EncoderProofsCardSaid :=
  Claim7.holds_tied_plain_at .later [] [.data, .data, .data] true (true, "b932272e7faf526be19a6f14ab8389bffcf96aef5bb8b61af1723dca8060e1ad") false
    proofsLaw_said (fun _ h => by cases h) (by kernel_rfl) (fun _ h => by cases h) encoderProofs_row_tie rfl ⟨rfl, rfl⟩ (by kernel_rfl) rfl
    (fun f fn hf hfn => by
      obtain rfl : f = 4 := Option.some.inj ((show Tryz.prog.funcNamed "groove/groovelaw25.EncoderProofs" = some 4 by kernel_rfl).symm.trans hf) |>.symm
      obtain rfl : fn = Tryz.f4 := (Option.some.inj (Tryz.func4.symm.trans hfn)).symm
      exact ⟨by kernel_rfl, fun j t ht => by
        rw [Tryz.params4] at ht
        have hm : t ∈ [28, 5, 5, 5, 39] := by simpa using Array.mem_of_getElem? ht
        have hall : ([28, 5, 5, 5, 39].all fun u => !Tryz.prog.wantsStandIn u) = true := by kernel_rfl
        exact (show Tryz.prog.wantsStandIn t = false by simpa using List.all_eq_true.1 hall t hm)⟩)
    (by kernel_rfl)
#print axioms proofsLaw_holds
end Go.Proofs.YtchjjiedcpfniaaGreatDoor
