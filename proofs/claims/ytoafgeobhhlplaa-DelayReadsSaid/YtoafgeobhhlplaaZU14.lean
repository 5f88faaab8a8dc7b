/- Parts of the proof: LP VA. -/
import Derived.Sort.Walk0
import Derived.Test.YtoafgeobhhlplaaZU07
import Derived.Test.YtoafgeobhhlplaaZU10
import Derived.Test.YtoafgeobhhlplaaZU11
import Derived.Test.YtoafgeobhhlplaaZU13
namespace Go.Proofs.Ytoafgeobhhlplaa
set_option linter.unusedSimpArgs false
set_option linter.unusedVariables false
open Go Go.Lift
section
variable {P : Program} {G : Gh} {n0 : Nat} {id' : Nat} {cs : List Code} {a b : Code} {Q : Exit → St → Prop} {N : St → Prop} {st : St}
theorem zs (h : AwpS P G n0 (a :: b :: cs) Q st) : AwpS P G n0 (.seq a b :: cs) Q st := awpS_seq h
theorem zk (h : AwpS P G n0 cs Q st) : AwpS P G n0 (.skip :: cs) Q st := awpS_skip h
theorem zn (h : Q .normal st) : AwpS P G n0 [] Q st := awpS_nil h
theorem zb (h : AwpS P G n0 [a] (blockQ id' (thenQ (AwpS P G n0 cs Q) Q)) st) : AwpS P G n0 (.block id' a :: cs) Q st := awpS_block h
theorem zx (h : Q (.exit id') st) : AwpS P G n0 (.exit id' :: cs) Q st := awpS_exit h
theorem zt (h : Q .ret st) : AwpS P G n0 (.ret :: cs) Q st := awpS_ret h
theorem zbn (h : N st) : blockQ id' (thenQ N Q) .normal st := blockQ_norm (thenQ_norm h)
theorem zbx (h : N st) : blockQ id' (thenQ N Q) (.exit id') st := blockQ_exit (thenQ_norm h)
theorem zbt (h : Q .ret st) : blockQ id' (thenQ N Q) .ret st := blockQ_ret (thenQ_ret h)
theorem ztx {N' : St → Prop} (h : Q (.exit id') st) : thenQ N' (thenQ N Q) (.exit id') st := thenQ_exit (thenQ_exit h)
theorem ztt {N' : St → Prop} (h : Q .ret st) : thenQ N' (thenQ N Q) .ret st := thenQ_ret (thenQ_ret h)
theorem z1 {p : Prop} (_ : True) (h : p) : p := h
theorem zy {t : Tmp} {v : Bool} {p q : Prop} (h1 : p → AwpS P G n0 (a :: cs) Q st) (h2 : q → AwpS P G n0 (b :: cs) Q st) (hb : lk st.env t = .bool v := by rfl) (e1 : v = true → p := by intro h; (try simp [-List.getD_eq_getElem?_getD] at h); exact h) (e2 : v = false → q := by intro h; (try simp [-List.getD_eq_getElem?_getD] at h); exact h) :
    AwpS P G n0 (.cond (.tmp t) a b :: cs) Q st := awpS_cond hb (fun h => h1 (e1 h)) fun h => h2 (e2 h)
theorem zL {id' : Nat} {ops : List Oper} (h : AwpL P G n0 ops ops (AwpS P G n0 cs Q) st) : AwpS P G n0 (.region id' ops.toArray false :: cs) Q st := awpS_regL h
theorem zN {ops : List Oper} {QS : St → Prop} (h : QS st) : AwpL P G n0 ops [] QS st := awpL_nil h
end
theorem zp {f : FuncId} {fn : Func} {c : Code} {args : List AVal} {r : AVal} {nt : Nat} {rs : List ResultVar} {e : Env} (hf : Try.prog.funcs[f]? = some fn) (h : ∀ G : Gh, G.nt = nt → G.rd = none → AwpS Try.prog G 0 [c] (fun e st => match e with | .normal => RetOK T rs r st | .ret => RetOK T rs r st | _ => False) ⟨e, [], 0⟩) (hb : fn.body = some c := by rfl) (h1 : fn.ntmps = nt := by rfl) (h2 : fn.results.toList = rs := by rfl) (h3 : argEnv 0 args = e := by simp only [argEnv, Nat.zero_add, Nat.reduceAdd]; first | done | rfl) (hn : args.length ≤ nt := by simp) : PC Try.prog f args r := by
  subst h1 h2 h3
  exact PC_introS T_ok hf hb hn h
section
variable {G : Gh} {n0 : Nat} {id' : Nat} {ops l : List Oper} {cs : List Code} {Q : Exit → St → Prop} {QS : St → Prop} {st st2 : St} {C : Prop} {W : List (Nat × Lift.Id)} {al : AL} {mu0 : Lift.Id → Option Base} {nx0 : Nat} {α : Type} {I : α → Prop} {r : α → AVal} {hout : α → Heap} {nout : α → Nat}
theorem zr (k : AwpS Try.prog G n0 cs Q st2) (h : C → ∀ K : St → Prop, K st2 → goEv (evOps T G.nt ops.toArray ops st) K := by intro hc K hK; simp [hG, List.getD_cons_zero, List.getD_cons_succ, -List.getD_eq_getElem?_getD]; first | (have _ : True := hc; exact hK) | exact ⟨Cond.mk hc, hK⟩) (c : C := by first | omega | exact trivial | (simp [-List.getD_eq_getElem?_getD]; done) | (simp [-List.getD_eq_getElem?_getD]; omega) | (simp [-List.getD_eq_getElem?_getD]; (repeat (first | assumption | intro _ | exact And.intro ‹_› ‹_› | apply And.intro | omega | exact trivial | exact decide_eq_true (by assumption))); done) | ((repeat (first | assumption | intro _ | exact And.intro ‹_› ‹_› | apply And.intro | omega | exact trivial | exact decide_eq_true (by assumption))); done)) :
    AwpS Try.prog G n0 (.region id' ops.toArray false :: cs) Q st := awpS_reg T_ok fun K hK => h c K (hK _ k)
theorem zl (n : Nat) (k : AwpL Try.prog G n0 ops (l.drop n) QS st2) (h : C → ∀ K : St → Prop, K st2 → goEv (evOps T G.nt ops.toArray (l.take n) st) K := by intro hc K hK; simp [hG, List.getD_cons_zero, List.getD_cons_succ, -List.getD_eq_getElem?_getD]; first | (have _ : True := hc; exact hK) | exact ⟨Cond.mk hc, hK⟩) (c : C := by first | omega | exact trivial | (simp [-List.getD_eq_getElem?_getD]; done) | (simp [-List.getD_eq_getElem?_getD]; omega) | (simp [-List.getD_eq_getElem?_getD]; (repeat (first | assumption | intro _ | exact And.intro ‹_› ‹_› | apply And.intro | omega | exact trivial | exact decide_eq_true (by assumption))); done) | ((repeat (first | assumption | intro _ | exact And.intro ‹_› ‹_› | apply And.intro | omega | exact trivial | exact decide_eq_true (by assumption))); done)) :
    AwpL Try.prog G n0 ops l QS st := awpL_reg T_ok n fun K hK => h c K (hK _ k)
theorem zc {f : FuncId} (hf : Callable Try.prog f) {ags : List AVal} {r : AVal} {o : Oper} {x : Operand} {args : Array Operand} {ts : Array TypeId} {g : Option Bool} {n : Nat} {fc : Nat → AVal} (hc : PC Try.prog f ags r) (k : AwpL Try.prog G n0 ops l QS st2) (ho : o.op = .call { callee := .value x, args := args, argTypes := ts } := by rfl) (hg : guardOf ops.toArray o st.env = some g := by rfl) (hx : gHolds g → sv st.env x = .fn f n fc := by exact fun _ => rfl) (a : gHolds g → sc st.env x ∧ argsC st.env args.toList := by intro hg; first | (simp [hG, List.getD_cons_zero, List.getD_cons_succ, -List.getD_eq_getElem?_getD]; done) | (simp [-List.getD_eq_getElem?_getD] at hg; done) | (simp [-List.getD_eq_getElem?_getD] at hg; simp [hG, List.getD_cons_zero, List.getD_cons_succ, -List.getD_eq_getElem?_getD]; first | omega | exact hg | (simp_all [-List.getD_eq_getElem?_getD]; done) | (simp_all [-List.getD_eq_getElem?_getD]; first | exact ⟨rfl, rfl⟩ | exact rfl))) (b : gHolds g → argsLe st.heap (fun _ => false) ags (callArgs st.env args.toList n fc) := by intro hg; first | (simp [hG, List.getD_cons_zero, List.getD_cons_succ, -List.getD_eq_getElem?_getD]; done) | (simp [-List.getD_eq_getElem?_getD] at hg; done) | (simp [-List.getD_eq_getElem?_getD] at hg; simp [hG, List.getD_cons_zero, List.getD_cons_succ, -List.getD_eq_getElem?_getD]; first | omega | exact hg | (simp_all [-List.getD_eq_getElem?_getD]; done) | (simp_all [-List.getD_eq_getElem?_getD]; first | exact ⟨rfl, rfl⟩ | exact rfl))) (h : ∀ K : St → Prop, K st2 → goPut (putSt G.nt st.env st.heap st.nx o.dst (optV g r)) K := by intro K hK; simp [hG, List.getD_cons_zero, List.getD_cons_succ, -List.getD_eq_getElem?_getD]; exact hK) :
    AwpL Try.prog G n0 ops (o :: l) QS st := awpL_call hf ho hg hx (fun _ => hc) a b fun K hK => h K (hK _ k)
theorem ze {f : FuncId} (hf : Callable Try.prog f) {ags : List AVal} {r : AVal} {o : Oper} {x : Operand} {args : Array Operand} {ts : Array TypeId} {g : Option Bool} {n : Nat} {fc : Nat → AVal} (hc : PC Try.prog f ags r) {fuel : Nat} {done : List Nat} {i : Nat} (k : AwpA Try.prog G n0 ops W al mu0 nx0 QS fuel (i :: done) st2) (hi : ops.toArray[i]? = some o := by rfl) (ho : o.op = .call { callee := .value x, args := args, argTypes := ts } := by rfl) (hg : guardOf ops.toArray o st.env = some g := by rfl) (hx : gHolds g → sv st.env x = .fn f n fc := by exact fun _ => rfl) (a : gHolds g → sc st.env x ∧ argsC st.env args.toList := by intro hg; first | (simp [hG, List.getD_cons_zero, List.getD_cons_succ, -List.getD_eq_getElem?_getD]; done) | (simp [-List.getD_eq_getElem?_getD] at hg; done) | (simp [-List.getD_eq_getElem?_getD] at hg; simp [hG, List.getD_cons_zero, List.getD_cons_succ, -List.getD_eq_getElem?_getD]; first | omega | exact hg | (simp_all [-List.getD_eq_getElem?_getD]; done) | (simp_all [-List.getD_eq_getElem?_getD]; first | exact ⟨rfl, rfl⟩ | exact rfl))) (b : gHolds g → argsLe st.heap (fun _ => false) ags (callArgs st.env args.toList n fc) := by intro hg; first | (simp [hG, List.getD_cons_zero, List.getD_cons_succ, -List.getD_eq_getElem?_getD]; done) | (simp [-List.getD_eq_getElem?_getD] at hg; done) | (simp [-List.getD_eq_getElem?_getD] at hg; simp [hG, List.getD_cons_zero, List.getD_cons_succ, -List.getD_eq_getElem?_getD]; first | omega | exact hg | (simp_all [-List.getD_eq_getElem?_getD]; done) | (simp_all [-List.getD_eq_getElem?_getD]; first | exact ⟨rfl, rfl⟩ | exact rfl))) (h : ∀ K : St → Prop, K st2 → goPut (putSt G.nt st.env st.heap st.nx o.dst (optV g r)) K := by intro K hK; simp [hG, List.getD_cons_zero, List.getD_cons_succ, -List.getD_eq_getElem?_getD]; exact hK) :
    AwpO Try.prog G n0 ops W al mu0 nx0 QS fuel done st i := awpO_call hf hi ho hg hx (fun _ => hc) a b fun K hK => h K (hK _ k)
theorem zo {fuel : Nat} {done : List Nat} {i : Nat} {o : Oper} (k : AwpA Try.prog G n0 ops W al mu0 nx0 QS fuel (i :: done) st2) (hi : ops.toArray[i]? = some o := by rfl) (hw : wOK W al nx0 i st.heap (wOp st.env o.op) := by simp [hG, List.getD_cons_zero, List.getD_cons_succ, -List.getD_eq_getElem?_getD]; (try exact trivial)) (h : C → ∀ K : St → Prop, K st2 → goEv (evG T G.nt ops.toArray o st) K := by intro hc K hK; simp [hG, List.getD_cons_zero, List.getD_cons_succ, -List.getD_eq_getElem?_getD]; first | (have _ : True := hc; exact hK) | exact ⟨Cond.mk hc, hK⟩) (c : C := by first | omega | exact trivial | (simp [-List.getD_eq_getElem?_getD]; done) | (simp [-List.getD_eq_getElem?_getD]; omega) | (simp [-List.getD_eq_getElem?_getD]; (repeat (first | assumption | intro _ | exact And.intro ‹_› ‹_› | apply And.intro | omega | exact trivial | exact decide_eq_true (by assumption))); done) | ((repeat (first | assumption | intro _ | exact And.intro ‹_› ‹_› | apply And.intro | omega | exact trivial | exact decide_eq_true (by assumption))); done)) :
    AwpO Try.prog G n0 ops W al mu0 nx0 QS fuel done st i := awpO_reg T_ok hi hw fun K hK => h c K (hK _ k)
theorem za (is : List Nat) (ws : List Lift.Id) (fuel : Nat) {fuel' : Nat} {done : List Nat} (d2 : List Nat) (k : AwpA Try.prog G n0 ops W al mu0 nx0 QS fuel d2 st2) (hns : Region.noSelect ops.toArray = true := by decide +kernel) (hok : takesOK ops.toArray W al ws is done = true := by decide +kernel) (hf : fuel' = fuel + is.length := by rfl) (hd : is.reverse ++ done = d2 := by rfl)
    (h : C → ∀ K : St → Prop, K st2 → goEv (evTks T G.nt ops.toArray al ws nx0 (is.filterMap fun i => ops[i]?) st) K := by intro hc K hK; simp [hG, List.getD_cons_zero, List.getD_cons_succ, -List.getD_eq_getElem?_getD]; first | (have _ : True := hc; exact hK) | exact ⟨Cond.mk hc, hK⟩) (c : C := by first | omega | exact trivial | (simp [-List.getD_eq_getElem?_getD]; done) | (simp [-List.getD_eq_getElem?_getD]; omega) | (simp [-List.getD_eq_getElem?_getD]; (repeat (first | assumption | intro _ | exact And.intro ‹_› ‹_› | apply And.intro | omega | exact trivial | exact decide_eq_true (by assumption))); done) | ((repeat (first | assumption | intro _ | exact And.intro ‹_› ‹_› | apply And.intro | omega | exact trivial | exact decide_eq_true (by assumption))); done)) : AwpA Try.prog G n0 ops W al mu0 nx0 QS fuel' done st := awpA_tk T_ok is ws d2 hns hok hf hd fun K hK => h c K (hK _ k)
theorem zf {f : FuncId} (hf : Callable Try.prog f) (ps : List Nat) {ags : List AVal} {hin : Heap} (hc : FC Try.prog f ags hin ps.length I r hout nout) {o : Oper} {x : Operand} {args : Array Operand} {ts : Array TypeId} {n : Nat} {fc : Nat → AVal} {s2 : α → St} (k : ∀ x, I x → ps.length ≤ nout x → AwpL Try.prog G n0 ops l QS (s2 x)) (ho : o.op = .call { callee := .value x, args := args, argTypes := ts } := by rfl) (hg : o.guard = none := by rfl) (hx : sv st.env x = .fn f n fc := by rfl) (hps : ps.Nodup ∧ ∀ k ∈ ps, k < st.nx := by simp) (a : sc st.env x ∧ argsC st.env args.toList := by simp [hG, List.getD_cons_zero, List.getD_cons_succ, -List.getD_eq_getElem?_getD]) (b : argsLeS st.heap (sI (inId ps)) (fun _ => false) ps.length ags (callArgs st.env args.toList n fc) := by simp [hG, List.getD_cons_zero, List.getD_cons_succ, -List.getD_eq_getElem?_getD]) (c : heapLe st.heap (sI (inId ps)) (fun _ => false) (fun _ => false) ps.length hin := by simp [hG, List.getD_cons_zero, List.getD_cons_succ, -List.getD_eq_getElem?_getD]) (h : ∀ K : St → Prop, (∀ x, I x → ps.length ≤ nout x → K (s2 x)) → ∀ x, I x → ps.length ≤ nout x → goPut (putSt G.nt st.env (renH (outId ps st.nx) (hout x) ++ st.heap.filter fun e => !ps.contains e.1) (st.nx + (nout x - ps.length)) o.dst (ren (outId ps st.nx) (r x))) K := by intro K hK x hI hno; simp [hG, List.getD_cons_zero, List.getD_cons_succ, -List.getD_eq_getElem?_getD]; exact hK x hI hno) :
    AwpL Try.prog G n0 ops (o :: l) QS st := awpL_fc hf ps (fun _ => false) hc ho hg hx hps (.inl fun _ => rfl) a b c fun K hK => h K fun x hI hno => hK _ (k x hI hno)
theorem zw {st st2 : St} (σ : Nat → Nat) (fz vz : Nat → Bool) (e : envLe st.heap st.env (sI σ) fz (vI vz) st2.nx st2.env := by simp [hG, List.getD_cons_zero, List.getD_cons_succ, -List.getD_eq_getElem?_getD]) (h : heapLe st.heap (sI σ) fz (vI vz) st2.nx st2.heap := by simp [hG, List.getD_cons_zero, List.getD_cons_succ, -List.getD_eq_getElem?_getD]) (i : keyInj σ vz (st2.heap.map (·.1)) = true := by rfl) : Wk G 0 st st2 :=
  wk_of σ fz vz e h i (Nat.zero_le _) (fun k hk => absurd hk (Nat.not_lt_zero _))
theorem zi {st st2 : St} (e : envLe st.heap st.env (sI fun k => k) (fun _ => false) (vI fun _ => false) st2.nx st2.env := by simp [hG, List.getD_cons_zero, List.getD_cons_succ, -List.getD_eq_getElem?_getD]) (h : heapLe st.heap (sI fun k => k) (fun _ => false) (vI fun _ => false) st2.nx st2.heap := by simp [hG, List.getD_cons_zero, List.getD_cons_succ, -List.getD_eq_getElem?_getD]) (i : keyInj (fun k => k) (fun _ => false) (st2.heap.map (·.1)) = true := by rfl) : Wk G 0 st st2 :=
  wk_of (fun k => k) (fun _ => false) (fun _ => false) e h i (Nat.zero_le _) (fun k hk => absurd hk (Nat.not_lt_zero _))
theorem zR {res : List ResultVar} {r : AVal} {st : St} (h : goRet (evRes T st res) (fun v => VLe st.heap id (fun _ => true) (fun _ => false) 0 r v) := by simp [hG, List.getD_cons_zero, List.getD_cons_succ, -List.getD_eq_getElem?_getD]) : RetOK T res r st := RetOK_of h
theorem zrP (k : AwpS Try.prog G n0 cs Q st2) (h : C → ∀ K : St → Prop, K st2 → goEv (evOps T G.nt ops.toArray ops st) K := by intro hc K hK; simp [hG, List.getD_cons_zero, List.getD_cons_succ, -List.getD_eq_getElem?_getD, pureOp]; first | (have _ : True := hc; exact hK) | exact ⟨Cond.mk hc, hK⟩) (c : C := by first | omega | exact trivial | (simp [-List.getD_eq_getElem?_getD]; done) | (simp [-List.getD_eq_getElem?_getD]; omega) | (simp [-List.getD_eq_getElem?_getD]; (repeat (first | assumption | intro _ | exact And.intro ‹_› ‹_› | apply And.intro | omega | exact trivial | exact decide_eq_true (by assumption))); done) | ((repeat (first | assumption | intro _ | exact And.intro ‹_› ‹_› | apply And.intro | omega | exact trivial | exact decide_eq_true (by assumption))); done)) :
    AwpS Try.prog G n0 (.region id' ops.toArray false :: cs) Q st := awpS_reg T_ok fun K hK => h c K (hK _ k)
theorem zlP (n : Nat) (k : AwpL Try.prog G n0 ops (l.drop n) QS st2) (h : C → ∀ K : St → Prop, K st2 → goEv (evOps T G.nt ops.toArray (l.take n) st) K := by intro hc K hK; simp [hG, List.getD_cons_zero, List.getD_cons_succ, -List.getD_eq_getElem?_getD, pureOp]; first | (have _ : True := hc; exact hK) | exact ⟨Cond.mk hc, hK⟩) (c : C := by first | omega | exact trivial | (simp [-List.getD_eq_getElem?_getD]; done) | (simp [-List.getD_eq_getElem?_getD]; omega) | (simp [-List.getD_eq_getElem?_getD]; (repeat (first | assumption | intro _ | exact And.intro ‹_› ‹_› | apply And.intro | omega | exact trivial | exact decide_eq_true (by assumption))); done) | ((repeat (first | assumption | intro _ | exact And.intro ‹_› ‹_› | apply And.intro | omega | exact trivial | exact decide_eq_true (by assumption))); done)) :
    AwpL Try.prog G n0 ops l QS st := awpL_reg T_ok n fun K hK => h c K (hK _ k)
theorem zcP {f : FuncId} (hf : Callable Try.prog f) {ags : List AVal} {r : AVal} {o : Oper} {x : Operand} {args : Array Operand} {ts : Array TypeId} {g : Option Bool} {n : Nat} {fc : Nat → AVal} (hc : PC Try.prog f ags r) (k : AwpL Try.prog G n0 ops l QS st2) (ho : o.op = .call { callee := .value x, args := args, argTypes := ts } := by rfl) (hg : guardOf ops.toArray o st.env = some g := by rfl) (hx : gHolds g → sv st.env x = .fn f n fc := by exact fun _ => rfl) (a : gHolds g → sc st.env x ∧ argsC st.env args.toList := by intro hg; first | (simp [hG, List.getD_cons_zero, List.getD_cons_succ, -List.getD_eq_getElem?_getD, pureOp]; done) | (simp [-List.getD_eq_getElem?_getD] at hg; done) | (simp [-List.getD_eq_getElem?_getD] at hg; simp [hG, List.getD_cons_zero, List.getD_cons_succ, -List.getD_eq_getElem?_getD, pureOp]; first | omega | exact hg | (simp_all [-List.getD_eq_getElem?_getD]; done) | (simp_all [-List.getD_eq_getElem?_getD]; first | exact ⟨rfl, rfl⟩ | exact rfl))) (b : gHolds g → argsLe st.heap (fun _ => false) ags (callArgs st.env args.toList n fc) := by intro hg; first | (simp [hG, List.getD_cons_zero, List.getD_cons_succ, -List.getD_eq_getElem?_getD, pureOp]; done) | (simp [-List.getD_eq_getElem?_getD] at hg; done) | (simp [-List.getD_eq_getElem?_getD] at hg; simp [hG, List.getD_cons_zero, List.getD_cons_succ, -List.getD_eq_getElem?_getD, pureOp]; first | omega | exact hg | (simp_all [-List.getD_eq_getElem?_getD]; done) | (simp_all [-List.getD_eq_getElem?_getD]; first | exact ⟨rfl, rfl⟩ | exact rfl))) (h : ∀ K : St → Prop, K st2 → goPut (putSt G.nt st.env st.heap st.nx o.dst (optV g r)) K := by intro K hK; simp [hG, List.getD_cons_zero, List.getD_cons_succ, -List.getD_eq_getElem?_getD, pureOp]; exact hK) :
    AwpL Try.prog G n0 ops (o :: l) QS st := awpL_call hf ho hg hx (fun _ => hc) a b fun K hK => h K (hK _ k)
theorem zeP {f : FuncId} (hf : Callable Try.prog f) {ags : List AVal} {r : AVal} {o : Oper} {x : Operand} {args : Array Operand} {ts : Array TypeId} {g : Option Bool} {n : Nat} {fc : Nat → AVal} (hc : PC Try.prog f ags r) {fuel : Nat} {done : List Nat} {i : Nat} (k : AwpA Try.prog G n0 ops W al mu0 nx0 QS fuel (i :: done) st2) (hi : ops.toArray[i]? = some o := by rfl) (ho : o.op = .call { callee := .value x, args := args, argTypes := ts } := by rfl) (hg : guardOf ops.toArray o st.env = some g := by rfl) (hx : gHolds g → sv st.env x = .fn f n fc := by exact fun _ => rfl) (a : gHolds g → sc st.env x ∧ argsC st.env args.toList := by intro hg; first | (simp [hG, List.getD_cons_zero, List.getD_cons_succ, -List.getD_eq_getElem?_getD, pureOp]; done) | (simp [-List.getD_eq_getElem?_getD] at hg; done) | (simp [-List.getD_eq_getElem?_getD] at hg; simp [hG, List.getD_cons_zero, List.getD_cons_succ, -List.getD_eq_getElem?_getD, pureOp]; first | omega | exact hg | (simp_all [-List.getD_eq_getElem?_getD]; done) | (simp_all [-List.getD_eq_getElem?_getD]; first | exact ⟨rfl, rfl⟩ | exact rfl))) (b : gHolds g → argsLe st.heap (fun _ => false) ags (callArgs st.env args.toList n fc) := by intro hg; first | (simp [hG, List.getD_cons_zero, List.getD_cons_succ, -List.getD_eq_getElem?_getD, pureOp]; done) | (simp [-List.getD_eq_getElem?_getD] at hg; done) | (simp [-List.getD_eq_getElem?_getD] at hg; simp [hG, List.getD_cons_zero, List.getD_cons_succ, -List.getD_eq_getElem?_getD, pureOp]; first | omega | exact hg | (simp_all [-List.getD_eq_getElem?_getD]; done) | (simp_all [-List.getD_eq_getElem?_getD]; first | exact ⟨rfl, rfl⟩ | exact rfl))) (h : ∀ K : St → Prop, K st2 → goPut (putSt G.nt st.env st.heap st.nx o.dst (optV g r)) K := by intro K hK; simp [hG, List.getD_cons_zero, List.getD_cons_succ, -List.getD_eq_getElem?_getD, pureOp]; exact hK) :
    AwpO Try.prog G n0 ops W al mu0 nx0 QS fuel done st i := awpO_call hf hi ho hg hx (fun _ => hc) a b fun K hK => h K (hK _ k)
theorem zoP {fuel : Nat} {done : List Nat} {i : Nat} {o : Oper} (k : AwpA Try.prog G n0 ops W al mu0 nx0 QS fuel (i :: done) st2) (hi : ops.toArray[i]? = some o := by rfl) (hw : wOK W al nx0 i st.heap (wOp st.env o.op) := by simp [hG, List.getD_cons_zero, List.getD_cons_succ, -List.getD_eq_getElem?_getD, pureOp]; (try exact trivial)) (h : C → ∀ K : St → Prop, K st2 → goEv (evG T G.nt ops.toArray o st) K := by intro hc K hK; simp [hG, List.getD_cons_zero, List.getD_cons_succ, -List.getD_eq_getElem?_getD, pureOp]; first | (have _ : True := hc; exact hK) | exact ⟨Cond.mk hc, hK⟩) (c : C := by first | omega | exact trivial | (simp [-List.getD_eq_getElem?_getD]; done) | (simp [-List.getD_eq_getElem?_getD]; omega) | (simp [-List.getD_eq_getElem?_getD]; (repeat (first | assumption | intro _ | exact And.intro ‹_› ‹_› | apply And.intro | omega | exact trivial | exact decide_eq_true (by assumption))); done) | ((repeat (first | assumption | intro _ | exact And.intro ‹_› ‹_› | apply And.intro | omega | exact trivial | exact decide_eq_true (by assumption))); done)) :
    AwpO Try.prog G n0 ops W al mu0 nx0 QS fuel done st i := awpO_reg T_ok hi hw fun K hK => h c K (hK _ k)
theorem zaP (is : List Nat) (ws : List Lift.Id) (fuel : Nat) {fuel' : Nat} {done : List Nat} (d2 : List Nat) (k : AwpA Try.prog G n0 ops W al mu0 nx0 QS fuel d2 st2) (hns : Region.noSelect ops.toArray = true := by decide +kernel) (hok : takesOK ops.toArray W al ws is done = true := by decide +kernel) (hf : fuel' = fuel + is.length := by rfl) (hd : is.reverse ++ done = d2 := by rfl)
    (h : C → ∀ K : St → Prop, K st2 → goEv (evTks T G.nt ops.toArray al ws nx0 (is.filterMap fun i => ops[i]?) st) K := by intro hc K hK; simp [hG, List.getD_cons_zero, List.getD_cons_succ, -List.getD_eq_getElem?_getD, pureOp]; first | (have _ : True := hc; exact hK) | exact ⟨Cond.mk hc, hK⟩) (c : C := by first | omega | exact trivial | (simp [-List.getD_eq_getElem?_getD]; done) | (simp [-List.getD_eq_getElem?_getD]; omega) | (simp [-List.getD_eq_getElem?_getD]; (repeat (first | assumption | intro _ | exact And.intro ‹_› ‹_› | apply And.intro | omega | exact trivial | exact decide_eq_true (by assumption))); done) | ((repeat (first | assumption | intro _ | exact And.intro ‹_› ‹_› | apply And.intro | omega | exact trivial | exact decide_eq_true (by assumption))); done)) : AwpA Try.prog G n0 ops W al mu0 nx0 QS fuel' done st := awpA_tk T_ok is ws d2 hns hok hf hd fun K hK => h c K (hK _ k)
theorem zfP {f : FuncId} (hf : Callable Try.prog f) (ps : List Nat) {ags : List AVal} {hin : Heap} (hc : FC Try.prog f ags hin ps.length I r hout nout) {o : Oper} {x : Operand} {args : Array Operand} {ts : Array TypeId} {n : Nat} {fc : Nat → AVal} {s2 : α → St} (k : ∀ x, I x → ps.length ≤ nout x → AwpL Try.prog G n0 ops l QS (s2 x)) (ho : o.op = .call { callee := .value x, args := args, argTypes := ts } := by rfl) (hg : o.guard = none := by rfl) (hx : sv st.env x = .fn f n fc := by rfl) (hps : ps.Nodup ∧ ∀ k ∈ ps, k < st.nx := by simp) (a : sc st.env x ∧ argsC st.env args.toList := by simp [hG, List.getD_cons_zero, List.getD_cons_succ, -List.getD_eq_getElem?_getD, pureOp]) (b : argsLeS st.heap (sI (inId ps)) (fun _ => false) ps.length ags (callArgs st.env args.toList n fc) := by simp [hG, List.getD_cons_zero, List.getD_cons_succ, -List.getD_eq_getElem?_getD, pureOp]) (c : heapLe st.heap (sI (inId ps)) (fun _ => false) (fun _ => false) ps.length hin := by simp [hG, List.getD_cons_zero, List.getD_cons_succ, -List.getD_eq_getElem?_getD, pureOp]) (h : ∀ K : St → Prop, (∀ x, I x → ps.length ≤ nout x → K (s2 x)) → ∀ x, I x → ps.length ≤ nout x → goPut (putSt G.nt st.env (renH (outId ps st.nx) (hout x) ++ st.heap.filter fun e => !ps.contains e.1) (st.nx + (nout x - ps.length)) o.dst (ren (outId ps st.nx) (r x))) K := by intro K hK x hI hno; simp [hG, List.getD_cons_zero, List.getD_cons_succ, -List.getD_eq_getElem?_getD, pureOp]; exact hK x hI hno) :
    AwpL Try.prog G n0 ops (o :: l) QS st := awpL_fc hf ps (fun _ => false) hc ho hg hx hps (.inl fun _ => rfl) a b c fun K hK => h K fun x hI hno => hK _ (k x hI hno)
theorem zwP {st st2 : St} (σ : Nat → Nat) (fz vz : Nat → Bool) (e : envLe st.heap st.env (sI σ) fz (vI vz) st2.nx st2.env := by simp [hG, List.getD_cons_zero, List.getD_cons_succ, -List.getD_eq_getElem?_getD, pureOp]) (h : heapLe st.heap (sI σ) fz (vI vz) st2.nx st2.heap := by simp [hG, List.getD_cons_zero, List.getD_cons_succ, -List.getD_eq_getElem?_getD, pureOp]) (i : keyInj σ vz (st2.heap.map (·.1)) = true := by rfl) : Wk G 0 st st2 :=
  wk_of σ fz vz e h i (Nat.zero_le _) (fun k hk => absurd hk (Nat.not_lt_zero _))
theorem ziP {st st2 : St} (e : envLe st.heap st.env (sI fun k => k) (fun _ => false) (vI fun _ => false) st2.nx st2.env := by simp [hG, List.getD_cons_zero, List.getD_cons_succ, -List.getD_eq_getElem?_getD, pureOp]) (h : heapLe st.heap (sI fun k => k) (fun _ => false) (vI fun _ => false) st2.nx st2.heap := by simp [hG, List.getD_cons_zero, List.getD_cons_succ, -List.getD_eq_getElem?_getD, pureOp]) (i : keyInj (fun k => k) (fun _ => false) (st2.heap.map (·.1)) = true := by rfl) : Wk G 0 st st2 :=
  wk_of (fun k => k) (fun _ => false) (fun _ => false) e h i (Nat.zero_le _) (fun k hk => absurd hk (Nat.not_lt_zero _))
theorem zRP {res : List ResultVar} {r : AVal} {st : St} (h : goRet (evRes T st res) (fun v => VLe st.heap id (fun _ => true) (fun _ => false) 0 r v) := by simp [hG, List.getD_cons_zero, List.getD_cons_succ, -List.getD_eq_getElem?_getD, pureOp]) : RetOK T res r st := RetOK_of h
end
end Go.Proofs.Ytoafgeobhhlplaa
namespace Go.Proofs.Ytoafgeobhhlplaa
set_option linter.unusedSimpArgs false
set_option linter.unusedVariables false
open Go Go.Lift Go.Proofs
@[simp] theorem VLe_fn_fn {h : Heap} {σ : Lift.Id → Lift.Id} {fz : Nat → Bool} {vz : Lift.Id → Bool} {y g n g' n' : Nat} {f f' : Nat → AVal} : VLe h σ fz vz y (.fn g n f) (.fn g' n' f') = (g' = g ∧ n' = n ∧ ∀ j, j < n → VLe h σ fz vz y (f j) (f' j)) := rfl
@[simp] theorem VLe_vptr_ptr {h : Heap} {σ : Lift.Id → Lift.Id} {fz : Nat → Bool} {vz : Lift.Id → Bool} {y s off k off' : Nat} {id : Lift.Id} {f : Nat → AVal} : VLe h σ fz vz y (.vptr s f off) (.ptr id k off') = (off' = off ∧ fz id.1 = true ∧ match lkH h id with
    | some (.arr N s' g) => s' = s ∧ k < N ∧ ∀ j, j < s → (f j).one = true ∧ VLe h σ fz vz y (f j) (g k j)
    | _ => False) := by
  simp only [VLe]
  cases lkH h id with
  | none => rfl
  | some o => cases o <;> rfl
theorem idxp (s : List UInt8) (b : UInt8) : PX Try.prog 101 [.str s, .int .u8 b.toNat] (.int .i64 (idxB s b)) := indexByte_px (fn := Try.f101) (by kernel_rfl) (by decide +kernel) (by decide +kernel) (by kernel_rfl) (by kernel_rfl) s b
theorem less_irrefl (a : List UInt8) : Op.bytesLess a a = false := by
  rw [Go.Proofs.bytesLess_eq, decide_eq_false_iff_not]
  exact List.lt_irrefl a
theorem less_trans {a b c : List UInt8} (h1 : Op.bytesLess a b = true) (h2 : Op.bytesLess b c = true) : Op.bytesLess a c = true := by
  rw [Go.Proofs.bytesLess_eq, decide_eq_true_eq] at *
  exact List.lt_trans h1 h2
theorem less_total {a b : List UInt8} (h1 : Op.bytesLess a b = false) (h2 : Op.bytesLess b a = false) : a = b := by
  rw [Go.Proofs.bytesLess_eq, decide_eq_false_iff_not] at *
  exact List.le_antisymm (List.not_lt.1 h2) (List.not_lt.1 h1)
theorem less_asymm {a b : List UInt8} (h : Op.bytesLess a b = true) : Op.bytesLess b a = false := by
  cases h2 : Op.bytesLess b a with
  | false => rfl
  | true => have := less_trans h h2; rw [less_irrefl] at this; cases this
def cmpS (a b : List UInt8) : Int := if Op.bytesLess a b = true then -1 else if Op.bytesLess b a = true then 1 else 0
theorem cmpS_neg {a b : List UInt8} : cmpS a b < 0 ↔ Op.bytesLess a b = true := by
  unfold cmpS
  split
  · rename_i h; simp [h]
  · rename_i h; split <;> simp [h]
theorem cmpS_zero {a b : List UInt8} : cmpS a b = 0 ↔ a = b := by
  unfold cmpS
  split
  · rename_i h; constructor
    · intro e; cases e
    · intro e; rw [e, less_irrefl] at h; cases h
  · rename_i h1; split
    · rename_i h; constructor
      · intro e; cases e
      · intro e; rw [e, less_irrefl] at h; cases h
    · rename_i h2; exact ⟨fun _ => less_total (by simpa using h1) (by simpa using h2), fun _ => rfl⟩
theorem less_diff : ∀ {a b : List UInt8} {i : Nat}, i < a.length → i < b.length → (∀ j, j < i → a.getD j 0 = b.getD j 0) → a.getD i 0 < b.getD i 0 → Op.bytesLess a b = true
  | x :: a, y :: b, 0, _, _, _, h => by
    simp only [List.getD_cons_zero] at h
    simp [Op.bytesLess, h]
  | x :: a, y :: b, i + 1, h1, h2, h3, h => by
    have hx := h3 0 (Nat.succ_pos _)
    simp only [List.getD_cons_zero] at hx
    have := less_diff (a := a) (b := b) (i := i) (by simpa using h1) (by simpa using h2) (fun j hj => by simpa using h3 (j + 1) (by omega)) (by simpa using h)
    simp [Op.bytesLess, hx, this]
  | [], _, i, h1, _, _, _ => absurd h1 (Nat.not_lt_zero i)
  | _ :: _, [], i, _, h2, _, _ => absurd h2 (Nat.not_lt_zero i)
theorem less_pre : ∀ {a b : List UInt8}, a.length < b.length → (∀ j, j < a.length → a.getD j 0 = b.getD j 0) → Op.bytesLess a b = true
  | [], y :: b, _, _ => rfl
  | x :: a, y :: b, h1, h3 => by
    have hx := h3 0 (Nat.succ_pos _)
    simp only [List.getD_cons_zero] at hx
    have := less_pre (a := a) (b := b) (by simpa using h1) (fun j hj => by simpa using h3 (j + 1) (by simpa using hj))
    simp [Op.bytesLess, hx, this]
  | _, [], h1, _ => absurd h1 (Nat.not_lt_zero _)
theorem cmpS_lt {a b : List UInt8} (h : Op.bytesLess a b = true) : cmpS a b = -1 := if_pos h
theorem cmpS_gt {a b : List UInt8} (h : Op.bytesLess b a = true) : cmpS a b = 1 := by unfold cmpS; rw [if_neg (by rw [less_asymm h]; simp), if_pos h]
theorem get_bang (s : List UInt8) (i : Nat) (hi : i < s.length) : (ByteArray.mk ⟨s⟩)[i]! = s.getD i 0 := by
  have hsz : i < (ByteArray.mk ⟨s⟩).size := hi
  rw [getElem!_pos (ByteArray.mk ⟨s⟩) i hsz]
  show s[i] = _
  simp [List.getD, hi]
theorem cmp_cmpS (a b : List UInt8) : Extern.BytealgCompare.cmp ⟨⟨a⟩⟩ ⟨⟨b⟩⟩ = cmpS a b := by
  unfold Extern.BytealgCompare.cmp
  have h1 : (ByteArray.mk ⟨a⟩).size = a.length := rfl
  have h2 : (ByteArray.mk ⟨b⟩).size = b.length := rfl
  rw [h1, h2]
  cases hf : (List.range (min a.length b.length)).find? fun i => (ByteArray.mk ⟨a⟩)[i]! != (ByteArray.mk ⟨b⟩)[i]! with
  | some i =>
    rw [List.find?_range_eq_some] at hf
    obtain ⟨e1, e2, e3⟩ := hf
    have hi : i < min a.length b.length := by simpa using e2
    have hne : a.getD i 0 ≠ b.getD i 0 := by
      rw [get_bang a i (by omega), get_bang b i (by omega)] at e1
      simpa using e1
    have heq : ∀ j, j < i → a.getD j 0 = b.getD j 0 := fun j hj => by
      have := e3 j hj
      rw [get_bang a j (by omega), get_bang b j (by omega)] at this
      simpa using this
    simp only
    rw [get_bang a i (by omega), get_bang b i (by omega)]
    by_cases hl : a.getD i 0 < b.getD i 0
    · rw [if_pos hl, cmpS_lt (less_diff (by omega) (by omega) heq hl)]
    · have hg : b.getD i 0 < a.getD i 0 := by
        rcases Nat.lt_trichotomy (a.getD i 0).toNat (b.getD i 0).toNat with h | h | h
        · exact absurd (UInt8.lt_iff_toNat_lt.2 h) hl
        · exact absurd (UInt8.toNat_inj.1 h) hne
        · exact UInt8.lt_iff_toNat_lt.2 h
      rw [if_neg hl, cmpS_gt (less_diff (by omega) (by omega) (fun j hj => (heq j hj).symm) hg)]
  | none =>
    rw [List.find?_eq_none] at hf
    have heq : ∀ j, j < min a.length b.length → a.getD j 0 = b.getD j 0 := fun j hj => by
      have := hf j (List.mem_range.2 hj)
      rw [get_bang a j (by omega), get_bang b j (by omega)] at this
      simpa using this
    simp only
    by_cases hl : a.length < b.length
    · rw [if_pos hl, cmpS_lt (less_pre hl fun j hj => heq j (by omega))]
    · rw [if_neg hl]
      by_cases hg : a.length > b.length
      · rw [if_pos hg, cmpS_gt (less_pre hg fun j hj => (heq j (by omega)).symm)]
      · rw [if_neg hg]
        have : a = b := List.ext_getElem (by omega) fun j hj1 hj2 => by
          have := heq j (by omega)
          simpa [List.getD, hj1, hj2] using this
        subst this
        exact (cmpS_zero.2 rfl).symm
theorem cmp_px (a b : List UInt8) : PX Try.prog 102 [.str a, .str b] (.int .i64 (cmpS a b)) := by
  rintro c vals hargs
  match vals, hargs with
  | [x, y], ⟨h1, h2, _⟩ =>
    simp only [Rel] at h1 h2
    subst h1 h2
    refine ⟨.int .i64 (cmpS a b), fun w => ?_, fun _ => rfl⟩
    rw [run_callFunc_extern (fn := Try.f102) (by kernel_rfl) (by decide +kernel) (by decide +kernel) (by kernel_rfl) (show Extern.find _ = some Extern.BytealgCompare.compare from by kernel_rfl)]
    have : Extern.BytealgCompare.compare [Value.string ⟨⟨a⟩⟩, .string ⟨⟨b⟩⟩].toArray = (do pure (goInt (Extern.BytealgCompare.cmp (← Extern.Bytes.bytesOf (.string ⟨⟨a⟩⟩)) (← Extern.Bytes.bytesOf (.string ⟨⟨b⟩⟩))))) := rfl
    rw [this]
    simp only [Extern.Bytes.bytesOf, Sem.run_bind, Sem.run_pure, Result.andThen_ok, cmp_cmpS]
    rfl
theorem less_dec {a b : List UInt8} : Op.bytesLess a b = decide (a < b) := Go.Proofs.bytesLess_eq a b
def orL (l : List Int) : Int := (l.find? fun x => decide (x ≠ 0)).getD 0
theorem before_neg {a b : List UInt8} (ha : a.length ≤ 1000000) (hb : b.length ≤ 1000000) : orL [if a.length < b.length then -1 else if b.length < a.length then 1 else 0, cmpS a b] < 0 ↔ lessW a b := by
  unfold lessW orL
  rcases Nat.lt_trichotomy a.length b.length with h | h | h
  · rw [if_pos (by omega)]
    simp [h]
  · rw [if_neg (by omega), if_neg (by omega)]
    have : cmpS a b < 0 ↔ a < b := by rw [cmpS_neg, less_dec, decide_eq_true_eq]
    by_cases hz : cmpS a b = 0
    · have := cmpS_zero.1 hz
      subst this
      simp [hz, List.lt_irrefl]
    · simp [hz, this, h]
  · rw [if_neg (by omega), if_pos (by omega)]
    simp; omega
set_option maxRecDepth 100000 in
theorem nanI_c (n : Int) : PC Try.prog 78 [.int .i64 n] (.bool false) := by
 refine zp Try.func78 fun G hG hR => ?_
 refine zs (zr ?_)
 refine zs (zr ?_)
 refine zt ?_
 exact zR
set_option maxRecDepth 100000 in
theorem cmpI_c (a b : Int) : PC Try.prog 84 [.int .i64 a, .int .i64 b] (.int .i64 (if a < b then -1 else if b < a then 1 else 0)) := by
 refine zp Try.func84 fun G hG hR => ?_
 refine zs (zr ?_)
 refine zs (zL (zl 1 ?_))
 refine zc cal78 (nanI_c a) ?_
 refine zl 1 ?_
 refine zN (zs (zL (zl 1 ?_)))
 refine zc cal78 (nanI_c b) ?_
 refine zl 1 ?_
 refine zN (zs (zs (zr ?_)))
 refine awpS_cond rfl (fun hb11 => ?_) (fun hb11 => ?_)
 · simp at hb11
 try simp [-List.getD_eq_getElem?_getD] at hb11
 refine zk (zs (zs (zr ?_)))
 refine awpS_cond rfl (fun hb13 => ?_) (fun hb13 => ?_)
 · simp at hb13
 try simp [-List.getD_eq_getElem?_getD] at hb13
 refine zk (zs (zs (zr ?_)))
 refine zy (fun hb16 => ?_) fun hb16 => ?_
 · refine zs (zr ?_)
   refine zt ?_
   refine RetOK_of ?_
   simp [hG, List.getD_cons_zero, List.getD_cons_succ, -List.getD_eq_getElem?_getD]
   intro _; omega
 refine zk (zs (zs (zr ?_)))
 refine zy (fun hb19 => ?_) fun hb19 => ?_
 · refine zs (zr ?_)
   refine zt ?_
   refine RetOK_of ?_
   simp [hG, List.getD_cons_zero, List.getD_cons_succ, -List.getD_eq_getElem?_getD]
   rw [if_neg (by omega), if_pos hb19]
 refine zk (zs (zr ?_))
 refine zt ?_
 refine RetOK_of ?_
 simp [hG, List.getD_cons_zero, List.getD_cons_succ, -List.getD_eq_getElem?_getD]
 rw [if_neg (by omega), if_neg (by omega)]
set_option maxRecDepth 100000 in
theorem known_c (q : Int) : PC Try.prog 81 [.int .i64 q] (.bool (decide (1 ≤ q ∧ q ≤ 16))) := by
 refine zp Try.func81 fun G hG hR => ?_
 refine zs (zr ?_)
 refine zs (zr ?_)
 refine zt ?_
 exact zR
set_option maxRecDepth 100000 in
theorem idx0_c (s : List UInt8) (b : UInt8) : PC Try.prog 94 [.str s, .int .u8 b.toNat] (.int .i64 (idxB s b)) := by
 refine zp Try.func94 fun G hG hR => ?_
 refine zs (zr ?_)
 refine zs (zL (zl 2 ?_))
 refine awpL_px (idxp s b) rfl rfl rfl ?_ ?_ fun K hK => ?_
 · simp [hG, List.getD_cons_zero, List.getD_cons_succ, -List.getD_eq_getElem?_getD]
 · simp [hG, List.getD_cons_zero, List.getD_cons_succ, -List.getD_eq_getElem?_getD]
 simp [hG, List.getD_cons_zero, List.getD_cons_succ, -List.getD_eq_getElem?_getD]
 refine hK _ ?_
 clear K hK
 refine zl 1 ?_
 refine zN (zt ?_)
 exact zR
set_option maxRecDepth 100000 in
theorem idx_c (s : List UInt8) (b : UInt8) : PC Try.prog 82 [.str s, .int .u8 b.toNat] (.int .i64 (idxB s b)) := by
 refine zp Try.func82 fun G hG hR => ?_
 refine zs (zr ?_)
 refine zs (zL (zl 2 ?_))
 refine zc cal94 (idx0_c s b) ?_
 refine zl 1 ?_
 refine zN (zt ?_)
 exact zR
set_option maxRecDepth 100000 in
theorem wcheck_c (q : Int) (w : List UInt8) : PC Try.prog 64 [.int .i64 q, .str w] (.int .i64 (wordCheck q w)) := by
 refine zp Try.func64 fun G hG hR => ?_
 refine zs (zr ?_)
 refine zs (zb (zs (zL (zl 1 ?_))))
 refine zc cal81 (known_c q) ?_
 refine zl 2 ?_
 refine zN (zy (fun hb6 => ?_) fun hb6 => ?_)
 · refine zs (zr ?_)
   refine zt (zbt ?_)
   refine RetOK_of ?_
   simp [hG, List.getD_cons_zero, List.getD_cons_succ, -List.getD_eq_getElem?_getD]
   exact (wordCheck_bad (by omega)).symm
 refine zs (zr ?_)
 refine zy (fun hb10 => ?_) fun hb10 => ?_
 · refine zs (zr ?_)
   refine zt (zbt ?_)
   refine RetOK_of ?_
   simp [hG, List.getD_cons_zero, List.getD_cons_succ, -List.getD_eq_getElem?_getD]
   exact (wordCheck_long hb6 (by omega)).symm
 refine zk (zn (zbn (zs (zs (zr ?_)))))
 refine zb ?_
 refine awpS_loop (α := Nat) (fun k => ⟨[(0, .int .i64 q), (1, .str w), (15, .int .i64 w.length), (16, .int .i64 k)], [], 0⟩) (fun k => (1 ≤ q ∧ q ≤ 16) ∧ w.length ≤ 65536 ∧ k ≤ w.length ∧ ∀ j, j < k → 0 ≤ idxB (letters.take q.toNat) (w.getD j 0)) (fun k => w.length - k) (0) (⟨by simpa using hb6, by omega, Nat.zero_le _, fun j hj => absurd hj (Nat.not_lt_zero _)⟩) ?_ ?_
 · exact zi
 rintro k ⟨hq, hl, hk, hn⟩
 refine zs (zr ?_)
 refine zs (zy (fun hb17 => ?_) fun hb17 => ?_)
 · refine zk (zs (zb (zs (zr ?_))))
   refine zs ?_
   refine awpS_draw hR mixed [] ⟨[], [], []⟩ fun mu0 => ?_
   refine za [0, 1, 2, 3, 4] [] 2 [4, 3, 2, 1, 0] ?_
   refine awpA_only (fuel := 1) (i := 5) (by decide +kernel) ?_
   refine ze cal82 (idx_c (letters.take q.toNat) (w.getD k 0)) ?_ (b := fun hg => by simp [hG]; rfl)
   refine za [6] [] 0 [6, 5, 4, 3, 2, 1, 0] ?_
   refine awpA_done (by decide +kernel) ?_
   refine zy (fun hb25 => ?_) fun hb25 => ?_
   · refine zs (zr ?_)
     refine zt (zbt (ztt (zbt ?_)))
     refine RetOK_of ?_
     simp [hG, List.getD_cons_zero, List.getD_cons_succ, -List.getD_eq_getElem?_getD]
     exact (wordCheck_not hq hl hb17 hb25).symm
   refine zk (zn (zbn (zr ?_)))
   refine zn ?_
   refine round_end (k + 1) (⟨hq, hl, by omega, step_all hn (by omega)⟩) (by omega) ?_
   exact zi
 refine zx (ztx (zbx (zs (zr ?_))))
 refine zt ?_
 refine RetOK_of ?_
 simp [hG, List.getD_cons_zero, List.getD_cons_succ, -List.getD_eq_getElem?_getD]
 exact (wordCheck_ok hq hl (fun j hj => hn j (by omega))).symm
set_option maxRecDepth 100000 in
theorem digit_c (c : UInt8) : PC Try.prog 59 [.int .u8 c.toNat] (.int .i64 (idxB letters c)) := by
 refine zp Try.func59 fun G hG hR => ?_
 refine zs (zr ?_)
 refine zs (zs (zr ?_))
 refine zb ?_
 refine awpS_loop (α := Nat) (fun k => ⟨[(0, .int .u8 c.toNat), (3, .int .i64 k)], [], 0⟩) (fun k => k ≤ 16 ∧ ∀ j, j < k → letters.getD j 0 ≠ c) (fun k => 16 - k) (0) (⟨Nat.zero_le _, fun j hj => absurd hj (Nat.not_lt_zero _)⟩) ?_ ?_
 · exact zi
 rintro k ⟨hk, hn⟩
 refine zs (zs (zr ?_))
 refine zy (fun hb5 => ?_) fun hb5 => ?_
 · refine zk (zs (zb (zs (zr ?_))))
   refine zy (fun hb11 => ?_) fun hb11 => ?_
   · refine zs (zr ?_)
     refine zt (zbt (ztt (zbt ?_)))
     refine RetOK_of ?_
     simp [hG, List.getD_cons_zero, List.getD_cons_succ, -List.getD_eq_getElem?_getD]
     rw [idxB_some letters c k (by show k < 16; omega) hn (UInt8.toNat_inj.1 (Int.ofNat_inj.1 hb11))]
   refine zk (zn (zbn (zr ?_)))
   refine zn ?_
   refine round_end (k + 1) (⟨by omega, digit_step hn (fun h => hb11 (by rw [Int.ofNat_inj]; exact h))⟩) (by omega) ?_
   exact zi
 refine zx (ztx (zbx (zs (zr ?_))))
 refine zt ?_
 refine RetOK_of ?_
 simp [hG, List.getD_cons_zero, List.getD_cons_succ, -List.getD_eq_getElem?_getD]
 rw [idxB_none letters c (fun j hj => hn j (by have : j < 16 := hj; omega))]
set_option maxRecDepth 100000 in
theorem wcheckR_c (q : Int) (w : List UInt8) : PC Try.prog 31 [.int .i64 q, .str w] (.int .i64 (wordCheck q w)) := by
 refine zp Try.func31 fun G hG hR => ?_
 refine zs (zr ?_)
 refine zs (zs (zr ?_))
 refine zy (fun hb12 => ?_) fun hb12 => ?_
 · refine zs (zr ?_)
   refine zt ?_
   refine RetOK_of ?_
   simp [hG, List.getD_cons_zero, List.getD_cons_succ, -List.getD_eq_getElem?_getD]
   exact (wordCheck_bad (by omega)).symm
 refine zk (zs (zs (zr ?_)))
 refine zy (fun hb15 => ?_) fun hb15 => ?_
 · refine zs (zr ?_)
   refine zt ?_
   refine RetOK_of ?_
   simp [hG, List.getD_cons_zero, List.getD_cons_succ, -List.getD_eq_getElem?_getD]
   exact (wordCheck_long (by omega) (by omega)).symm
 refine zk (zs (zs (zr ?_)))
 refine zb ?_
 refine awpS_loop (α := Nat) (fun k => ⟨[(0, .int .i64 q), (1, .str w), (5, .int .i64 k)], [], 0⟩) (fun k => (1 ≤ q ∧ q ≤ 16) ∧ w.length ≤ 65536 ∧ k ≤ w.length ∧ ∀ j, j < k → 0 ≤ idxB (letters.take q.toNat) (w.getD j 0)) (fun k => w.length - k) (0) (⟨by omega, by omega, Nat.zero_le _, fun j hj => absurd hj (Nat.not_lt_zero _)⟩) ?_ ?_
 · exact zi
 rintro k ⟨hq, hl, hk, hn⟩
 refine zs (zs (zr ?_))
 refine zy (fun hb19 => ?_) fun hb19 => ?_
 · refine zk (zs (zb (zs (zL (zl 3 ?_)))))
   refine zc cal59 (digit_c (w.getD k 0)) ?_
   refine zl 1 ?_
   refine zN (zs (zr ?_))
   refine zy (fun hb32 => ?_) fun hb32 => ?_
   · refine zs (zr ?_)
     refine zt (zbt (ztt (zbt ?_)))
     refine RetOK_of ?_
     simp [hG, List.getD_cons_zero, List.getD_cons_succ, -List.getD_eq_getElem?_getD]
     exact (wordCheck_not hq hl (by omega) (word_bad hq (by omega))).symm
   refine zk (zn (zbn (zr ?_)))
   refine zn ?_
   refine round_end (k + 1) (⟨hq, hl, by omega, word_step hn (by omega) (by omega)⟩) (by omega) ?_
   exact zi
 refine zx (ztx (zbx (zs (zr ?_))))
 refine zt ?_
 refine RetOK_of ?_
 simp [hG, List.getD_cons_zero, List.getD_cons_succ, -List.getD_eq_getElem?_getD]
 exact (wordCheck_ok hq hl (fun j hj => hn j (by omega))).symm
set_option maxRecDepth 100000 in
theorem cmpB_c (a b : List UInt8) : PC Try.prog 95 [.str a, .str b] (.int .i64 (cmpS a b)) := by
 refine zp Try.func95 fun G hG hR => ?_
 refine zs (zr ?_)
 refine zs (zL (zl 2 ?_))
 refine awpL_px (cmp_px a b) rfl rfl rfl ?_ ?_ fun K hK => ?_
 · simp [hG, List.getD_cons_zero, List.getD_cons_succ, -List.getD_eq_getElem?_getD]
 · simp [hG, List.getD_cons_zero, List.getD_cons_succ, -List.getD_eq_getElem?_getD]
 simp [hG, List.getD_cons_zero, List.getD_cons_succ, -List.getD_eq_getElem?_getD]
 refine hK _ ?_
 clear K hK
 refine zl 1 ?_
 refine zN (zt ?_)
 exact zR
set_option maxRecDepth 100000 in
theorem cmpW_c (a b : List UInt8) : PC Try.prog 85 [.str a, .str b] (.int .i64 (cmpS a b)) := by
 refine zp Try.func85 fun G hG hR => ?_
 refine zs (zr ?_)
 refine zs (zL (zl 2 ?_))
 refine zc cal95 (cmpB_c a b) ?_
 refine zl 1 ?_
 refine zN (zt ?_)
 exact zR
end Go.Proofs.Ytoafgeobhhlplaa
