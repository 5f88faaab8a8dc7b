/- Parts of the proof: LEL. -/
import Derived.Test.YtoafgeobhhlplaaZF08
namespace Go.Lift
set_option linter.unusedSimpArgs false
set_option linter.unusedVariables false
open Go.RowKit
def recJ (rec : Loop) : Option Code → Loop
  | none => rec
  | some c => { rec with state := .done, pending := some c }
def lpP (l : Nat) (rec : Loop) (j : Option Code) (b : Nat) (x : Obj) : Prop := b = l ∧ x = .loop (recJ rec j)
@[simp] theorem HLe_ob {h : Heap} {σ : Id → Id} {fz : Nat → Bool} {vz : Id → Bool} {nx : Nat} {p : Nat → Obj → Prop} : HLe h σ fz vz nx (.ob p) (some (.ob p)) = True := eq_true fun _ _ h => h
def jmpOf : Exit → Option (Option Code)
  | .normal => some none
  | .ret => some (some .ret)
  | .exit i => some (some (.exit i))
  | _ => none
theorem lkH_not {h : Heap} {k : Nat} (hk : k ∉ h.map (·.1)) (i : Nat) : lkH h (k, i) = none := by
  cases hl : lkH h (k, i) with
  | none => rfl
  | some o => exact absurd (lkH_mem hl) hk
section
variable {P : Program} {G : Gh} {n0 : Nat} {α : Type} {I : α → Prop} {r : α → AVal} {houtR : α → Heap} {nout : α → Nat} {j : α → Option Code}
theorem lp_at {h : Heap} {mu : Id → Option Base} {nx : Nat} {w : World} (hk : HOk G h mu nx w) {id : Id} {l : Nat} {rec : Loop} {jj : Option Code} (hl : lkH h id = some (.ob (lpP l rec jj))) : ∃ B, mu id = some B ∧ B.b = l ∧ w.heap[l]? = some (.loop (recJ rec jj)) ∧ B.o = 0 := by
  have h1 := (hk.obj _ _ hl).2
  cases hm : mu id with
  | none => rw [hm] at h1; exact h1.elim
  | some B =>
    rw [hm] at h1
    obtain ⟨y, h2, ⟨_, h5⟩, h3, h4⟩ := h1
    refine ⟨B, rfl, h3, ?_, h5⟩
    rw [← h3, ← h4]
    exact h2
theorem HOk.tail {k : Nat} {e : HEnt} {h : Heap} {mu : Id → Option Base} {nx : Nat} {w : World} (hk : HOk G ((k, e) :: h) mu nx w) (hn : k ∉ h.map (·.1)) : HOk G h mu nx w ∧ (cx G ((k, e) :: h) mu nx w).Le (cx G h mu nx w) := by
  have hs : ∀ id o, lkH h id = some o → lkH ((k, e) :: h) id = some o := fun id o hl => by
    simp only [lkH]
    rw [if_neg (fun hk' => hn (by rw [hk']; exact lkH_mem hl))]
    exact hl
  have hLe : (cx G ((k, e) :: h) mu nx w).Le (cx G h mu nx w) := by
    refine ⟨Nat.le_refl _, fun b hb hF hF' => hF ?_, fun _ _ _ _ => rfl, Nat.le_refl _, fun _ _ => rfl, fun _ h => h⟩
    rcases hF' with hO | ⟨id, o, B, h1, h2, h3⟩
    · exact .inl hO
    · exact .inr ⟨id, o, B, hs id o h1, h2, h3⟩
  refine ⟨⟨fun id o hl => ⟨(hk.obj id o (hs id o hl)).1, (hk.obj id o (hs id o hl)).2.mono hLe fun _ _ => rfl⟩, fun id id' o o' B B' h1 h2 => hk.sep id id' o o' B B' (hs _ _ h1) (hs _ _ h2), fun id o B h1 => hk.own id o B (hs _ _ h1), hk.kept, hk.out, fun id t B ht => hk.typ id t B ?_⟩, hLe⟩
  obtain ⟨o, ho⟩ := tyH_lk ht
  simp only [tyH]
  rw [if_neg (fun hk' => hn (by rw [hk']; exact lkH_mem ho))]
  exact ht
theorem awpL_yieldP {hout : α → Heap} {l : Nat} {rec : Loop} {vs : Array Value} (kk : Nat) (hR : G.rd = none) (ps : List Nat) (fz : Nat → Bool) {as : List AVal} {hin : Heap} (hc : YC P l rec vs as hin ps.length I r hout nout) {ops ls : List Oper} {o : Oper} {Q : St → Prop} {st : St} {x : Operand} {args : Array Operand} {ts : Array TypeId}
    (hrec : lkH st.heap (kk, 0) = some (.ob (lpP l rec none)))
    (ho : o.op = .call { callee := .value x, args := args, argTypes := ts }) (hsz : args.size = rec.params.size) {g : Option Bool} (hg : guardOf ops.toArray o st.env = some g) (hgt : g.getD true = true) {n : Nat} {fc : Nat → AVal} (hx : sv st.env x = .yld l vs n fc) (hps : ps.Nodup ∧ ∀ k ∈ ps, k < st.nx)
    (hflat : (∀ k, fz k = false) ∨ ∀ x, I x → flat (r x) ∧ flatH (hout x)) (hsc : sc st.env x ∧ argsC st.env args.toList)
    (hle : argsLeS st.heap (sI (inId ps)) fz ps.length as (callArgs st.env args.toList n fc)) (hheap : heapLe st.heap (sI (inId ps)) fz (fun _ => false) ps.length hin)
    (h : ∀ K : St → Prop, (∀ s, AwpL P G n0 ops ls Q s → K s) → ∀ x, I x → ps.length ≤ nout x →
      goPut (putSt G.nt st.env (renH (outId ps st.nx) (hout x) ++ st.heap.filter fun e => !ps.contains e.1) (st.nx + (nout x - ps.length)) o.dst (ren (outId ps st.nx) (r x))) K) : AwpL P G n0 ops (o :: ls) Q st := by
  intro mu a w hs hn Q' hQ
  have hw := (wanted_of hs hg).trans hgt
  have hxr := strip_rel (hs.rho x) hsc.1
  have hxr' : Rel (cx G st.heap mu st.nx w) (sv st.env x) (a.eval x) := hxr
  rw [hx] at hxr'
  obtain ⟨hxv, hvs, hvr⟩ := hxr'
  obtain ⟨_, _, _, hl, _⟩ := lp_at hs.heap hrec
  have hl : w.heap[l]? = some (.loop rec) := hl
  refine wpListIn_step fun K hK => ?_
  rw [if_pos hw, hR]
  refine ⟨fun _ _ => trivial, ?_⟩
  rw [Oper.semAt_eq _ _ o (by rw [ho]; intro c hc; cases hc), run_callYield ho hxv hl hsz]
  rw [Oper.uponIn_round]
  refine ⟨fun hd => absurd hd (by simp [fen, Fence.wide]), ?_⟩
  have hvals : ArgsRel (cx G st.heap mu st.nx w) (callArgs st.env args.toList n fc) ((args.map a.eval).toList ++ vs.toList) := by
    have := callArgs_rel (caps := vs) (fun y => hs.rho y) hsc.2 hvs hvr
    simpa using this
  have key := fc_core (C := yieldC P l rec vs) yieldC_mono ps hps.1 hps.2 hc fz hflat hle hheap hs.heap hvals (K := fun v w' => K (a.put o.dst v) w') fun z hI hno v mu3 w' hok4 hLe hrelv hfr _ => by
    obtain ⟨s, hput, hs2⟩ := goPut_spec (h _ (fun _ hs => hs) z hI hno)
    have hsim := hs.put hLe hok4 hrelv hput
    have hLe' : (cx G st.heap mu st.nx w).Le (cx G s.heap mu3 s.nx w') := by
      rw [(putSt_heap hput).1, (putSt_heap hput).2]; exact hLe
    refine hK _ _ ?_
    exact hs2 mu3 _ w' hsim (Nat.le_trans hn hLe'.nx) Q' fun mu2 st2 a2 w2 h1 h2 h3 h4 => hQ mu2 st2 a2 w2 h1 h2 ((Stay.of hn hLe').trans h3) h4
  have := key _ rfl hl
  simp only [Array.toArray_toList] at this
  refine this.mono ?_
  rintro e w' ⟨v, rfl, hv⟩
  exact hv
theorem FCY_of {hout : α → Heap} {f : FuncId} {l : Nat} {rec : Loop} {args : List AVal} {hin : Heap} {nin : Nat} (hc : FC P f args hin nin I r hout nout) : FCY P f l rec args hin nin I r hout nout :=
  fun O w mu vals hk ha _ => hc O w mu vals hk ha
def RetYJ (nin : Nat) {α : Type} (I : α → Prop) (j : α → Option Code) (hout : α → Heap) (nout : α → Nat) (e : Exit) (st : St) : Prop :=
  ∃ x, I x ∧ jmpOf e = some (j x) ∧ ∃ (σ : Id → Id) (fz : Nat → Bool) (vz : Id → Bool), heapLe st.heap σ fz vz (nout x) (hout x) ∧ (∀ id id' : Id, (lkH (hout x) id).isSome = true → (lkH (hout x) id').isSome = true → vz id = false → vz id' = false → σ id = σ id' → id = id') ∧ nin ≤ nout x ∧ ∀ id : Id, id.1 < nin → σ id = id ∧ vz id = false
theorem RetYJ_ofI {nin : Nat} {st : St} {e : Exit} (x : α) (σ : Id → Id) (fz : Nat → Bool) (vz : Id → Bool) (hI : I x) (hj : jmpOf e = some (j x)) (hh : heapLe st.heap σ fz vz (nout x) (houtR x)) (hinj : ∀ id id' : Id, (lkH (houtR x) id).isSome = true → (lkH (houtR x) id').isSome = true → vz id = false → vz id' = false → σ id = σ id' → id = id') (hno : nin ≤ nout x) (hid : ∀ id : Id, id.1 < nin → σ id = id ∧ vz id = false) : RetYJ nin I j houtR nout e st :=
  ⟨x, hI, hj, σ, fz, vz, hh, hinj, hno, hid⟩
theorem RetYJ_of {nin : Nat} {st : St} {e : Exit} (x : α) (σ : Nat → Nat) (fz vz : Nat → Bool) (hI : I x) (hj : jmpOf e = some (j x)) (hh : heapLe st.heap (sI σ) fz (vI vz) (nout x) (houtR x)) (hinj : keyInj σ vz ((houtR x).map (·.1)) = true) (hno : nin ≤ nout x) (hid : ∀ k, k < nin → σ k = k ∧ vz k = false) : RetYJ nin I j houtR nout e st :=
  RetYJ_ofI x (sI σ) fz (vI vz) hI hj hh (fun id id' h1 h2 v1 v2 he => by
    injection he with e1 e2
    exact Prod.ext (keyInj_spec hinj _ _ (lkH_keys h1) (lkH_keys h2) v1 v2 e1) e2) hno fun id hlt => ⟨by
      show (σ id.1, id.2) = id
      rw [(hid id.1 hlt).1], (hid id.1 hlt).2⟩
theorem kept_unput {w w' : World} {mt mt' : Nat → Prop} {l : Nat} {x : Obj} (hk : Kept (w.putObj l x) mt w') (h1 : ∀ b, mt b → mt' b) (h2 : mt' l) : Kept w mt' w' := by
  refine ⟨hk.os, hk.tape, hk.output, hk.drawn, by have := hk.size; rwa [World.putObj_size] at this, fun b hb hm => ?_⟩
  have hbl : b ≠ l := fun e => hm (e ▸ h2)
  have := hk.block b (by rw [World.putObj_size]; exact hb) fun h => hm (h1 b h)
  rw [this, World.putObj_heap_other hbl]
theorem HOk.push {w0 w : World} {mt mt' O : Nat → Prop} {nt nt' : Nat} {rd rd' : Option Nat} {h : Heap} {mu : Id → Option Base} {nx l : Nat} {x0 : Obj} {rec : Loop} {jj : Option Code} {B : Base}
    (hk : HOk ⟨w0.putObj l x0, mt, fun b => O b ∨ b = l, nt, rd⟩ h mu nx w) (hn : 0 ∉ h.map (·.1)) (hx : 0 < nx) (hB : mu (0, 0) = some B) (hBl : B.b = l) (hBo : B.o = 0) (hl : w.heap[l]? = some (.loop (recJ rec jj))) (hmt : ∀ b, mt b → mt' b) (hml : mt' l) (hO : ¬ O l) :
    HOk ⟨w0, mt', O, nt', rd'⟩ ((0, .one (.ob (lpP l rec jj))) :: h) mu nx w := by
  have hlk : ∀ id o, lkH ((0, .one (.ob (lpP l rec jj))) :: h) id = some o → (id = (0, 0) ∧ o = .ob (lpP l rec jj)) ∨ (id.1 ≠ 0 ∧ lkH h id = some o) := fun id o h1 => by
    rw [lkH_cons_one h 0 _ HEnt.Solo.one] at h1
    by_cases e : id = (0, 0)
    · rw [if_pos e] at h1; injection h1 with h1; exact .inl ⟨e, h1.symm⟩
    · rw [if_neg e] at h1
      by_cases e2 : id.1 = 0
      · rw [if_pos e2] at h1; cases h1
      · rw [if_neg e2] at h1; exact .inr ⟨e2, h1⟩
  have hne : ∀ id o B', lkH h id = some o → mu id = some B' → B'.b ≠ l := fun id o B' h1 h2 e => (hk.own id o B' h1 h2).2.2 (.inr e)
  have hLe : (cx ⟨w0.putObj l x0, mt, fun b => O b ∨ b = l, nt, rd⟩ h mu nx w).Le (cx ⟨w0, mt', O, nt', rd'⟩ ((0, .one (.ob (lpP l rec jj))) :: h) mu nx w) := by
    refine ⟨Nat.le_refl _, fun b hb hF hF' => hF ?_, fun _ _ _ _ => rfl, Nat.le_refl _, fun _ _ => rfl, fun _ h => h⟩
    rcases hF' with hO' | ⟨id, o, B', h1, h2, h3⟩
    · exact .inl (.inl hO')
    · rcases hlk id o h1 with ⟨rfl, _⟩ | ⟨_, h4⟩
      · rw [hB] at h2; injection h2 with h2; subst h2
        exact .inl (.inr (h3.symm.trans hBl))
      · exact .inr ⟨id, o, B', h4, h2, h3⟩
  refine ⟨fun id o h1 => ?_, fun id id' o o' B1 B2 h1 h2 hm1 hm2 hb => ?_, fun id o B1 h1 hm => ?_, kept_unput hk.kept hmt hml, fun b hb => ?_, fun id t B1 ht hm => ?_⟩
  · rcases hlk id o h1 with ⟨rfl, rfl⟩ | ⟨_, h4⟩
    · refine ⟨hx, ?_⟩
      rw [hB]
      exact ⟨.loop (recJ rec jj), by rw [hBl]; exact hl, ⟨trivial, hBo⟩, hBl, rfl⟩
    · exact ⟨(hk.obj id o h4).1, (hk.obj id o h4).2.mono hLe fun _ _ => rfl⟩
  · rcases hlk id o h1 with ⟨rfl, _⟩ | ⟨_, h4⟩ <;> rcases hlk id' o' h2 with ⟨rfl, _⟩ | ⟨_, h5⟩
    · rfl
    · rw [hB] at hm1; injection hm1 with hm1; subst hm1
      exact absurd (hb.symm.trans hBl) (hne _ _ _ h5 hm2)
    · rw [hB] at hm2; injection hm2 with hm2; subst hm2
      exact absurd (hb.trans hBl) (hne _ _ _ h4 hm1)
    · exact hk.sep id id' o o' B1 B2 h4 h5 hm1 hm2 hb
  · rcases hlk id o h1 with ⟨rfl, _⟩ | ⟨_, h4⟩
    · rw [hB] at hm; injection hm with hm; subst hm
      rw [hBl]
      exact ⟨lt_of_get hl, .inr hml, hO⟩
    · obtain ⟨k1, k2, k3⟩ := hk.own id o B1 h4 hm
      refine ⟨k1, ?_, fun h => k3 (.inl h)⟩
      rcases k2 with k2 | k2
      · left
        have : (w0.putObj l x0).heap.size ≤ B1.b := k2
        rwa [World.putObj_size] at this
      · exact .inr (hmt _ k2)
  · have : b < (w0.putObj l x0).heap.size := hk.out b (.inl hb)
    rwa [World.putObj_size] at this
  · simp only [tyH] at ht
    by_cases e : 0 = id.1
    · rw [if_pos e] at ht; cases ht
    · rw [if_neg e] at ht
      exact hk.typ id t B1 ht hm
theorem YC_introJ {l : Nat} {rec : Loop} {kp : List Nat} {vs : Array Value} {ps : Array Tmp} {A B : Option Code} {assign body : Code} {nt : Nat} (hok : RecOK rec kp vs ps A B nt) (hA : A = some assign) (hB : B = some body) {args caps : List AVal} {hinR : Heap} {nin : Nat} (hpl : ps.size = args.length) (hpn : ∀ p ∈ ps.toList, p < nt) (hcl : caps.length = kp.length)
    (h00 : 0 ∉ hinR.map (·.1)) (h01 : ∀ x, 0 ∉ (houtR x).map (·.1)) (hn0 : 0 < nin)
    (h : ∀ G : Gh, G.nt = nt → G.rd = some l → AwpS P G nin [assign] (fun e st1 => e = .normal ∧ ∀ G : Gh, G.nt = nt → G.rd = some l → AwpS P G nin [body] (RetYJ nin I j houtR nout) st1) ⟨bindE ps.toList args (kp.zip caps), hinR, nin⟩) :
    YC P l rec vs (args ++ caps) ((0, .one (.ob (lpP l rec none))) :: hinR) nin I (fun x => .bool (j x).isNone) (fun x => (0, .one (.ob (lpP l rec (j x)))) :: houtR x) nout := by
  intro O w mu all hk hargs vals hall hl
  subst hall
  obtain ⟨h1, h2, h3, h4, h5, h6, h7⟩ := hok
  subst hA hB
  injection h4 with h4
  injection h5 with h5
  subst h4 h5
  let hin : Heap := (0, .one (.ob (lpP l rec none))) :: hinR
  have hlk0 : lkH hin (0, 0) = some (.ob (lpP l rec none)) := by simp [hin, lkH, HEnt.get]
  obtain ⟨BL, hBm, hBl, _, hBo⟩ := lp_at hk hlk0
  obtain ⟨hkR, hLeR⟩ := hk.tail h00
  have hsub : ∀ id o, lkH hinR id = some o → lkH hin id = some o := fun id o hl' => by
    simp only [hin, lkH]
    rw [if_neg (fun e => h00 (by rw [e]; exact lkH_mem hl'))]
    exact hl'
  have hneR : ∀ id o B, lkH hinR id = some o → mu id = some B → B.b ≠ l := fun id o B g1 g2 e => by
    have := hk.sep id (0, 0) o _ B BL (hsub id o g1) hlk0 g2 hBm (e.trans hBl.symm)
    rw [this] at g1
    rw [lkH_not h00] at g1; cases g1
  have hnl : ¬ inB hinR mu l := by
    rintro ⟨id, o, B, g1, g2, g3⟩
    exact hneR id o B g1 g2 g3
  have hOl : ¬ O l := fun hO => (hk.own (0, 0) _ BL hlk0 hBm).2.2 (by rw [hBl]; exact hO)
  have hlen : args.length = vals.length := by
    have := hargs.length
    rw [h7] at this
    simp only [List.length_append, List.length_map] at this
    omega
  obtain ⟨ha1, ha2⟩ := hargs.split hlen
  rw [h7] at ha2
  simp only at ha2
  have hb := lk_bind ps.toList args vals (kp.zip caps) rec.tmps ha1 (by simpa using hpl) (fun p hp => Nat.lt_of_lt_of_le (hpn p hp) h6) (lk_caps kp caps ha2)
  let tm := (ps.toList.zip vals).foldl (fun tmps (t, a) => tmps.setIfInBounds t a) rec.tmps
  have hfold : (rec.params.zip vals.toArray).foldl (fun tmps (t, a) => tmps.setIfInBounds t a) rec.tmps = tm := by
    rw [h3, ← Array.foldl_toList]
    simp [tm]
  let O2 : Nat → Prop := fun b => O b ∨ b = l
  let Ga : Gh := ⟨w, inB hinR mu, O2, nt, some l⟩
  have hLe2 : (cx ⟨w, inB hin mu, O, 0, none⟩ hin mu nin w).Le (cx Ga hinR mu nin w) := by
    refine ⟨Nat.le_refl _, fun b hb hF hF' => hF ?_, fun _ _ _ _ => rfl, Nat.le_refl _, fun _ _ => rfl, fun _ h => h⟩
    rcases hF' with (hO | rfl) | ⟨id, o, B, g1, g2, g3⟩
    · exact .inl hO
    · exact .inr ⟨(0, 0), _, BL, hlk0, hBm, hBl⟩
    · exact .inr ⟨id, o, B, hsub id o g1, g2, g3⟩
  have hkA : HOk Ga hinR mu nin w := by
    refine ⟨fun id o g1 => ⟨(hk.obj id o (hsub _ _ g1)).1, (hk.obj id o (hsub _ _ g1)).2.mono hLe2 fun _ _ => rfl⟩, hkR.sep, fun id o B g1 g2 => ⟨(hkR.own id o B g1 g2).1, .inr ⟨id, o, B, g1, g2, rfl⟩, ?_⟩, Kept.refl _ _, fun b hb => ?_, hkR.typ⟩
    · rintro (hO | e)
      · exact (hkR.own id o B g1 g2).2.2 hO
      · exact hneR id o B g1 g2 e
    · rcases hb with hO | rfl
      · exact hk.out b hO
      · exact lt_of_get hl
  have hsim : Sim Ga mu ⟨bindE ps.toList args (kp.zip caps), hinR, nin⟩ { tmps := tm, defers := [] } w :=
    ⟨DefOK.nil, by show nt ≤ tm.size; rw [show tm.size = rec.tmps.size from hb.2]; exact h6, fun t => (hb.1 t).mono hLe2, hkA⟩
  show RoundIn (fen none) 0 P l rec.fn _ rec.assign rec.body w _
  rw [hfold]
  refine roundIn_of_wpIn trivial ?_
  refine h Ga rfl rfl mu _ w hsim (Nat.le_refl _) (Exit.then (fun a₁ w₁ => ∃ w₂, (Instr.beginRound l).run P w₁ = .ok () w₂ ∧ rec.body.wpIn ((fen none).inRound l) 0 P (roundPost P l fun e w' => ∃ v x mu', e = .returned v ∧ I x ∧ nin ≤ nout x ∧ (∀ id : Id, id.1 < nin → mu' id = mu id) ∧
      HOk ⟨w, inB hin mu, O, 0, none⟩ ((0, .one (.ob (lpP l rec (j x)))) :: houtR x) mu' (nout x) w' ∧ Rel (cx ⟨w, inB hin mu, O, 0, none⟩ ((0, .one (.ob (lpP l rec (j x)))) :: houtR x) mu' (nout x) w') (.bool (j x).isNone) v) a₁ w₂) (fun _ _ _ => False)) ?_
  intro e mu1 st1 a1 w1 hs1 hn1 hst1 hq
  have hq2 : e = .normal ∧ ∀ G : Gh, G.nt = nt → G.rd = some l → AwpS P G nin [rec.body] (RetYJ nin I j houtR nout) st1 := by
    cases e <;> exact hq
  obtain ⟨rfl, hbody⟩ := hq2
  obtain ⟨hl1, hs2⟩ := Sim.rebase (rd' := some l) (rc' := rec) hs1 hl hnl { rec with state := .busy }
  refine ⟨_, run_beginRound hl1 h1, ?_⟩
  refine hbody ⟨_, _, _, _, _⟩ rfl rfl mu1 a1 _ hs2 hn1 _ ?_
  intro e mu2 st2 a2 w3 hs3 hn3 hst3 hq
  have hq2 : RetYJ nin I j houtR nout e st2 := by cases e <;> exact hq
  obtain ⟨x, hI, hj, σ, fz, vz, hh, hinj, hno, hid⟩ := hq2
  have hlb : (w.putObj l (.loop { rec with state := .busy })).heap[l]? = some (.loop { rec with state := .busy }) := World.putObj_heap_same (lt_of_get hl)
  obtain ⟨hl3, hs4⟩ := Sim.rebase (rd' := none) (rc' := rec) hs3 hlb hnl (recJ rec (j x))
  have hend : (Instr.endRound l (j x)).run P w3 = .ok (.bool (j x).isNone) (w3.putObj l (.loop (recJ rec (j x)))) := by
    rw [run_endRound (j x) hl3]
    have : ({ state := if (j x).isNone then .ready else .done, pending := j x, fn := rec.fn, tmps := rec.tmps, params := rec.params, assign := rec.assign, body := rec.body, defers := rec.defers } : Loop) = recJ rec (j x) := by
      cases hjx : j x with
      | none => cases rec; simp only at h1 h2; subst h1 h2; rfl
      | some c => rfl
    exact congrArg (fun y => Result.ok (Value.bool (j x).isNone) (w3.putObj l (.loop y))) this
  have hput2 : (w.putObj l (.loop { rec with state := .busy })).putObj l (.loop (recJ rec (j x))) = w.putObj l (.loop (recJ rec (j x))) := by
    unfold World.putObj
    congr 1
    exact Array.setIfInBounds_setIfInBounds ..
  rw [hput2] at hs4
  have hwk := wk_ofI (G := ⟨w.putObj l (.loop (recJ rec (j x))), inB hinR mu, O2, nt, none⟩) (n0 := nin) (st := ⟨[], st2.heap, st2.nx⟩) (st2 := ⟨[], houtR x, nout x⟩) σ fz vz trivial hh hinj hno hid
  obtain ⟨mu3, k1, k2, k3⟩ := hwk mu2 a2 _ ⟨hs4.defers, hs4.size, fun t => trivial, hs4.heap⟩ hn3
  have hmu3 : ∀ id : Id, id.1 < nin → mu3 id = mu id := fun id hid' => (k3.le.mu id hid').trans ((hst3.le.mu id hid').trans (hst1.le.mu id hid'))
  have hl4 : (w3.putObj l (.loop (recJ rec (j x)))).heap[l]? = some (.loop (recJ rec (j x))) := World.putObj_heap_same (lt_of_get hl3)
  have hfin := HOk.push (rec := rec) (jj := j x) (B := BL) (mt' := inB hin mu) (nt' := 0) (rd' := none) k1.heap (h01 x) (Nat.lt_of_lt_of_le hn0 hno) ((hmu3 (0, 0) hn0).trans hBm) hBl hBo hl4 (fun b hb => by
    obtain ⟨id, o, B, g1, g2, g3⟩ := hb
    exact ⟨id, o, B, hsub id o g1, g2, g3⟩) ⟨(0, 0), _, BL, hlk0, hBm, hBl⟩ hOl
  have hres : ∃ v w', (Instr.endRound l (j x)).run P w3 = .ok v w' ∧ ∃ v' x' mu', Ending.returned v = .returned v' ∧ I x' ∧ nin ≤ nout x' ∧ (∀ id : Id, id.1 < nin → mu' id = mu id) ∧
      HOk ⟨w, inB hin mu, O, 0, none⟩ ((0, .one (.ob (lpP l rec (j x')))) :: houtR x') mu' (nout x') w' ∧ Rel (cx ⟨w, inB hin mu, O, 0, none⟩ ((0, .one (.ob (lpP l rec (j x')))) :: houtR x') mu' (nout x') w') (.bool (j x').isNone) v' :=
    ⟨_, _, hend, _, x, mu3, rfl, hI, hno, hmu3, hfin, rfl⟩
  cases e with
  | normal => injection hj with hj; rw [← hj] at hres; exact hres
  | ret => injection hj with hj; rw [← hj] at hres; exact hres
  | exit i => injection hj with hj; rw [← hj] at hres; exact hres
  | goto t => cases hj
  | panic c => cases hj
  | outgrown => cases hj
theorem HOk.allocOb {h : Heap} {mu : Id → Option Base} {nx : Nat} {w : World} (hk : HOk G h mu nx w) (p : Nat → Obj → Prop) (x : Obj) (hx : bare x) (hp : p w.heap.size x) :
    HOk G ((nx, .one (.ob p)) :: h) (upd mu (nx, 0) (some ⟨w.heap.size, 0, 0, 0⟩)) (nx + 1) (w.alloc x) := by
  have hLe := cx_alloc (G := G) (h := h) (mu := mu) (nx := nx) (w := w) (e := .one (.ob p)) (.ob p) HEnt.Solo.one x ⟨w.heap.size, 0, 0, 0⟩ rfl
  refine hk.step hLe (nx, 0) (.ob p) (Nat.lt_succ_self _) (fun _ => ?_) (fun B hB => ?_) (fun id o ho => ?_) (hk.kept.alloc _) (tyH_one fun _ _ h => h)
  · rw [upd_same]
    exact ⟨x, heap_new w _, ⟨hx, rfl⟩, hp⟩
  · rw [upd_same] at hB
    injection hB with hB
    subst hB
    refine ⟨by simp, .inl hk.kept.size, fun hO => ?_⟩
    have h1 := hk.out _ hO
    have h2 := hk.kept.size
    simp only at h1
    omega
  · rw [lkH_cons_one _ _ _ HEnt.Solo.one] at ho
    by_cases h1 : id = (nx, 0)
    · rw [if_pos h1] at ho
      injection ho with ho
      exact .inl ⟨h1, ho.symm⟩
    · rw [if_neg h1] at ho
      by_cases h2 : id.1 = nx
      · rw [if_pos h2] at ho; cases ho
      · rw [if_neg h2] at ho
        refine .inr ⟨h1, ho, fun B hB => ?_⟩
        have hlt := (hk.own id o B ho hB).1
        refine ⟨Below.heap_alloc w _ _ hlt, fun B0 hB0 => ?_⟩
        rw [upd_same] at hB0
        injection hB0 with hB0
        subst hB0
        exact Nat.ne_of_lt hlt
theorem renH_keys {ρ : Nat → Nat} : ∀ {h : Heap} {k : Nat}, k ∈ (renH ρ h).map (·.1) → ∃ k', k' ∈ h.map (·.1) ∧ k = ρ k'
  | [], _, hk => by simp [renH] at hk
  | (k', e) :: h, k, hk => by
    simp only [renH, List.map_cons, List.mem_cons] at hk
    rcases hk with rfl | hk
    · exact ⟨k', by simp, rfl⟩
    · obtain ⟨k2, h1, h2⟩ := renH_keys hk
      exact ⟨k2, by simp only [List.map_cons, List.mem_cons]; exact .inr h1, h2⟩
theorem awpS_rangeJ (hR : G.rd = none) {g : Operand} {pr : Array Tmp} {assign body : Code} {cs : List Code} {Q : Exit → St → Prop} {st : St} (kp ps : List Nat) (fz : Nat → Bool) {f n : Nat} {fc : Nat → AVal} (hf : Callable P f) (hx : sv st.env g = .fn f n fc) (hsc : sc st.env g)
    {as : Nat → Array Value → List AVal} {hinR : Heap} (hc : ∀ l rec vs, RecOK rec kp vs pr (some assign) (some body) G.nt → FCY P f l rec (as l vs) ((0, .one (.ob (lpP l rec none))) :: hinR) (ps.length + 1) I r (fun x => (0, .one (.ob (lpP l rec (j x)))) :: houtR x) nout) (hps : ps.Nodup ∧ ∀ k ∈ ps, k < st.nx)
    (h01 : ∀ x, 0 ∉ (houtR x).map (·.1))
    (hflat : (∀ k, fz k = false) ∨ ∀ x, I x → flat (r x) ∧ flatH (houtR x))
    (hle : ∀ l rec vs, argsLeS ((st.nx, .one (.ob (lpP l rec none))) :: st.heap) (sI (inId (st.nx :: ps))) fz (ps.length + 1) (as l vs) (.yld l vs kp.length (fun j => (kp.map (lk st.env)).getD j .any) :: (List.range' 0 n).map fc))
    (hheap : ∀ l rec, heapLe ((st.nx, .one (.ob (lpP l rec none))) :: st.heap) (sI (inId (st.nx :: ps))) fz (fun _ => false) (ps.length + 1) ((0, .one (.ob (lpP l rec none))) :: hinR))
    (h : ∀ K : Option Code → St → Prop, (∀ s, AwpS P G n0 cs Q s → K none s) → (∀ s, Q .ret s → K (some .ret) s) → (∀ i s, Q (.exit i) s → K (some (.exit i)) s) → ∀ x, I x → ps.length + 1 ≤ nout x →
      K (j x) ⟨st.env, renH (outId (st.nx :: ps) (st.nx + 1)) (houtR x) ++ st.heap.filter (fun e => !(st.nx :: ps).contains e.1), st.nx + 1 + (nout x - (ps.length + 1))⟩) :
    AwpS P G n0 (.rangeFunc g pr assign body :: cs) Q st := by
  intro mu a w hs hn Q' hQ
  have hxr := strip_rel (hs.rho g) hsc
  have hxr' : Rel (cx G st.heap mu st.nx w) (sv st.env g) (a.eval g) := hxr
  rw [hx] at hxr'
  obtain ⟨caps, hxv, hcn, hcr⟩ := hxr'
  rw [hR]
  refine wpIn_rangeFunc fun fn _ => ?_
  let rec' : Loop := { state := .ready, pending := none, fn, tmps := a.tmps, params := pr, assign, body, defers := w.heap.size }
  let vs : Array Value := (kp.map fun t => a.tmps.getD t undef).toArray
  let w0 := w.alloc (.deferred (some []))
  let l := w.heap.size + 1
  let w1 := w0.alloc (.loop rec')
  have hsz0 : w0.heap.size = l := by simp [w0, l]
  obtain ⟨hLe0, hk0⟩ := hs.heap.grow (kept_alloc (.deferred (some [])))
  let h2 : Heap := (st.nx, .one (.ob (lpP l rec' none))) :: st.heap
  let mu2 : Id → Option Base := upd mu (st.nx, 0) (some ⟨l, 0, 0, 0⟩)
  have hk1 : HOk G h2 mu2 (st.nx + 1) w1 := by
    have := hk0.allocOb (lpP l rec' none) (.loop rec') trivial ⟨hsz0, rfl⟩
    rwa [show (⟨w0.heap.size, 0, 0, 0⟩ : Base) = ⟨l, 0, 0, 0⟩ from by rw [hsz0]] at this
  have hLeA := cx_alloc (G := G) (h := st.heap) (mu := mu) (nx := st.nx) (w := w0) (e := .one (.ob (lpP l rec' none))) (.ob (lpP l rec' none)) HEnt.Solo.one (.loop rec') ⟨l, 0, 0, 0⟩ hsz0.symm
  have hLe1 : (cx G st.heap mu st.nx w).Le (cx G h2 mu2 (st.nx + 1) w1) := hLe0.trans hLeA
  have hl1 : w1.heap[l]? = some (.loop rec') := by
    have := heap_new w0 (.loop rec')
    rw [hsz0] at this
    exact this
  have hD1 : w1.heap[w.heap.size]? = some (Obj.deferred (some [])) := alloc_dfr (heap_new w _)
  obtain ⟨fd, hf1, hf2, hf3⟩ := hf
  have hf4 : ¬ fd.body = none := by intro h; rw [h] at hf3; cases hf3
  refine ⟨l, [{ target := .collected w.heap.size, args := #[] }], w1, { target := .fn (.func f) caps, args := #[.func (.yield l) #[] #[]] }, w1, f, #[.func (.yield l) #[] #[]] ++ caps, w1, run_enterLoop_outer _ _ _ _ _, ?_, fun _ _ => trivial, ?_, fun hd => absurd hd (by simp [fen, Fence.wide]), calls_fen ?_⟩
  · have hcst : ∀ v, a.eval (.const v) = v := fun _ => rfl
    simp [resolve, rangeCall, hxv, hcst, Deferred.ofValue]
  · simp [invoke, callFunc, hf1, hf2, hf4]
  · have hvals : ArgsRel (cx G h2 mu2 (st.nx + 1) w1) (.yld l vs kp.length (fun j => (kp.map (lk st.env)).getD j .any) :: (List.range' 0 n).map fc) (.func (.yield l) #[] #[] :: caps.toList) := by
      refine ⟨⟨rfl, by simp [vs], fun j hj => ?_⟩, ArgsRel.of_get fc n 0 caps.toList (by simpa using hcn) fun j hj => ?_⟩
      · have h1 : (kp.map (lk st.env)).getD j .any = lk st.env (kp.getD j 0) := by simp [List.getD, hj]
        have h2 : vs.getD j undef = a.tmps.getD (kp.getD j 0) undef := by simp [vs, Array.getD_eq_getD_getElem?, List.getD, hj]
        show Rel _ ((kp.map (lk st.env)).getD j .any) _
        rw [h1, h2]
        exact (hs.env _).mono hLe1
      · have := (hcr j hj).mono hLe1
        simpa [Array.getD_eq_getD_getElem?, List.getD_eq_getElem?_getD] using this
    have hin1 : ¬ inB h2 mu2 w.heap.size := by
      rintro ⟨id, o, B, h1, h3, h4⟩
      exact hk1.ndfr h1 h3 hD1 h4.symm
    have hnd2 : (st.nx :: ps).Nodup := List.nodup_cons.2 ⟨fun hm => Nat.lt_irrefl _ (hps.2 _ hm), hps.1⟩
    have hlt2 : ∀ k ∈ st.nx :: ps, k < st.nx + 1 := fun k hk => by
      rcases List.mem_cons.1 hk with rfl | hk
      · exact Nat.lt_succ_self _
      · exact Nat.lt_succ_of_lt (hps.2 k hk)
    have hfilter : h2.filter (fun e => !(st.nx :: ps).contains e.1) = st.heap.filter (fun e => !(st.nx :: ps).contains e.1) := by
      simp [h2]
    have key := fc_core (C := iterC P f l rec') iterC_mono (st.nx :: ps) hnd2 hlt2 (hc l rec' vs ⟨rfl, rfl, rfl, rfl, rfl, hs.size, rfl⟩) fz (hflat.imp id fun hfl x hI => ⟨(hfl x hI).1, trivial, (hfl x hI).2⟩) (hle l rec' vs) (hheap l rec') hk1 hvals (K := fun v w3 => rangePost (fen none) 0 P l Q' { a with defers := [{ target := .collected w.heap.size, args := #[] }] ++ a.defers } (.returned v) w3) fun z hI hno v mu3 w3 hok4 hLe hrelv _ hfr => by
      have hno' : ps.length + 1 ≤ nout z := hno
      have hren : renH (outId (st.nx :: ps) (st.nx + 1)) ((0, .one (.ob (lpP l rec' (j z)))) :: houtR z) ++ h2.filter (fun e => !(st.nx :: ps).contains e.1) = (st.nx, .one (.ob (lpP l rec' (j z)))) :: (renH (outId (st.nx :: ps) (st.nx + 1)) (houtR z) ++ st.heap.filter (fun e => !(st.nx :: ps).contains e.1)) := by
        rw [hfilter]; rfl
      rw [hren] at hok4 hLe
      have hk0n : st.nx ∉ (renH (outId (st.nx :: ps) (st.nx + 1)) (houtR z) ++ st.heap.filter (fun e => !(st.nx :: ps).contains e.1)).map (·.1) := by
        rw [List.map_append, List.mem_append]
        rintro (hm | hm)
        · obtain ⟨k', hk', he⟩ := renH_keys hm
          unfold outId at he
          by_cases hlt : k' < (st.nx :: ps).length
          · rw [if_pos hlt] at he
            have : (0 : Nat) = k' := getD_inj hnd2 (by simp) hlt he
            exact h01 z (this ▸ hk')
          · rw [if_neg hlt] at he
            omega
        · simp at hm
      obtain ⟨B3, hB3, hBl3, hl3, _⟩ := lp_at hok4 (id := (st.nx, 0)) (l := l) (rec := rec') (jj := j z) (by simp [lkH, HEnt.get])
      obtain ⟨hok5, hLeT⟩ := hok4.tail hk0n
      have hne3 : ∀ id o B, lkH (renH (outId (st.nx :: ps) (st.nx + 1)) (houtR z) ++ st.heap.filter (fun e => !(st.nx :: ps).contains e.1)) id = some o → mu3 id = some B → B.b ≠ l := fun id o B h1 h2 e => by
        have h1' : lkH ((st.nx, .one (.ob (lpP l rec' (j z)))) :: (renH (outId (st.nx :: ps) (st.nx + 1)) (houtR z) ++ st.heap.filter (fun e => !(st.nx :: ps).contains e.1))) id = some o := by
          simp only [lkH]
          rw [if_neg (fun e => hk0n (by have hm := lkH_mem h1; rw [← e] at hm; exact hm))]
          exact h1
        have := hok4.sep id (st.nx, 0) o _ B B3 h1' (by simp [lkH, HEnt.get]; rfl) h2 hB3 (e.trans hBl3.symm)
        rw [this] at h1
        rw [lkH_not hk0n] at h1
        cases h1
      have hbusy : (recJ rec' (j z)).state ≠ .busy := by
        cases j z <;> intro e <;> cases e
      have hpend : (recJ rec' (j z)).pending = j z := by
        cases j z <;> rfl
      have hrun : (Instr.endLoop l).run P w3 = .ok (j z) (w3.putObj l (.loop { recJ rec' (j z) with state := .exhausted })) := (run_endLoop (P := P) hl3 hbusy).trans (congrArg (fun q => Result.ok q (w3.putObj l (.loop { recJ rec' (j z) with state := .exhausted }))) hpend)
      refine ⟨j z, w3.putObj l (.loop { recJ rec' (j z) with state := .exhausted }), hrun, ?_⟩
      have hLe3 := Le_put (G := G) (h := renH (outId (st.nx :: ps) (st.nx + 1)) (houtR z) ++ st.heap.filter (fun e => !(st.nx :: ps).contains e.1)) (mu := mu3) (nx := st.nx + 1 + (nout z - (ps.length + 1))) (o := .loop { recJ rec' (j z) with state := .exhausted }) hl3 trivial trivial (fun ds e => by cases e)
      have hLe02 := ((hLe1.trans hLe).trans hLeT).trans hLe3
      have hw0 : G.w0.heap.size ≤ w.heap.size := hs.heap.kept.size
      have hsim : Sim G mu3 ⟨st.env, renH (outId (st.nx :: ps) (st.nx + 1)) (houtR z) ++ st.heap.filter (fun e => !(st.nx :: ps).contains e.1), st.nx + 1 + (nout z - (ps.length + 1))⟩ { a with defers := [{ target := .collected w.heap.size, args := #[] }] ++ a.defers } (w3.putObj l (.loop { recJ rec' (j z) with state := .exhausted })) := by
        refine ⟨?_, hs.size, fun t => ((hs.env t).mono hLe02), (hok5.put (o := .loop { recJ rec' (j z) with state := .exhausted }) hl3 trivial trivial hne3 (.inl (Nat.le_trans hw0 (Nat.le_succ _)))).1⟩
        obtain ⟨Ds, d1, d2, d3⟩ := hs.defers
        refine ⟨w.heap.size :: Ds, by simp [d1], List.nodup_cons.2 ⟨fun hm => ?_, d2⟩, fun D hD => ?_⟩
        · exact absurd (lt_of_get (d3 _ hm).2) (Nat.lt_irrefl _)
        · rcases List.mem_cons.1 hD with rfl | hD
          · refine ⟨hw0, ?_⟩
            rw [World.putObj_heap_other (Nat.ne_of_lt (Nat.lt_succ_self _))]
            exact (hfr.1 _ (lt_of_get hD1) hin1).trans hD1
          · exact ⟨(d3 D hD).1, hLe02.dfr D (d3 D hD).2⟩
      have hn2 : n0 ≤ st.nx + 1 + (nout z - (ps.length + 1)) := by omega
      exact h (fun jj s => ∀ a' w', Sim G mu3 s a' w' → n0 ≤ s.nx → Stay G n0 st.heap mu w s.heap mu3 w' → (match jj with
          | none => Q' .normal a' w'
          | some c => c.wpIn (fen none) 0 P Q' a' w'))
        (fun s hs1 a' w' hsim' hn' hst => hQ .normal mu3 s a' w' hsim' hn' hst hs1)
        (fun s hs1 a' w' hsim' hn' hst => wpIn_ret (hQ .ret mu3 s a' w' hsim' hn' hst hs1))
        (fun i s hs1 a' w' hsim' hn' hst => wpIn_exit (hQ (.exit i) mu3 s a' w' hsim' hn' hst hs1))
        z hI hno _ _ hsim hn2 (Stay.of hn hLe02)
    have key2 := key hl1
    have ha : (#[Value.func (.yield l) #[] #[]] ++ caps) = (.func (.yield l) #[] #[] :: caps.toList).toArray := by simp
    rw [ha]
    refine key2.mono ?_
    rintro e w3 ⟨v, rfl, hv⟩
    exact hv
end
end Go.Lift
