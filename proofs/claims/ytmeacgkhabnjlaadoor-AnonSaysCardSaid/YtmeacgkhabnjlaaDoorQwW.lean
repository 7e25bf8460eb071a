/-
  An abstract machine over the model's own code, part W: contracts that lean on what package-level variables hold ('G': a word on the world that stays where old blocks stay). No program is named here.
-/
import Derived.Test.YtmeacgkhabnjlaaDoorQwU
import Derived.Test.YtmeacgkhabnjlaaDoorQwR
set_option linter.unusedSimpArgs false
set_option linter.unusedVariables false
set_option linter.unusedSectionVars false
namespace Go.Qw
open Go.RowKit

/-- It stays where what lay before lies as it lay. -/
def StaysG (G : World → Prop) : Prop := ∀ w w' : World, (∀ b, b < w.heap.size → w'.heap[b]? = w.heap[b]?) → G w → G w'
/-- 'f', handed 'as', gives 'r' wherever G holds, and writes nothing of old. -/
def LiftsG (P : Program) (G : World → Prop) (f : FuncId) (as : List DV) (r : DV) : Prop :=
  (∃ fn, P.funcs[f]? = some fn ∧ (fn.name == "runtime.NumGoroutine") = false ∧ fn.body.isNone = false) ∧
  ∀ (w : World) (X : Nat → Prop) (vs : Array Value), G w → VReps (okB ⟨w, X, [], [], 0⟩ w []) w [] (DV.avs as) vs.toList →
    Calls P f vs w fun e w' => ∃ u, e = .returned u ∧ Out ⟨w, X, [], [], 0⟩ [] r.av [] [] w u w'

section
variable {P : Program} {C : Ctx} {tb : Tab} {fr : DF} {H : List OD} {G : World → Prop}

theorem LiftsD.toG {f : FuncId} {as : List DV} {r : DV} (h : LiftsD P f as r) : LiftsG P G f as r :=
  ⟨h.1, fun w X vs _ hv => h.2 w X [] [] vs (Mem.start w X 0) hv⟩
theorem LiftsG.weaken {G' : World → Prop} (hG : ∀ w, G' w → G w) {f : FuncId} {as : List DV} {r : DV} (h : LiftsG P G f as r) : LiftsG P G' f as r :=
  ⟨h.1, fun w X vs hg hv => h.2 w X vs (hG w hg) hv⟩
theorem LiftsG.fit {f : FuncId} {as ds : List DV} {r : DV} (hfn : LiftsG P G f as r) (hf : fitDs ds as) : LiftsG P G f ds r :=
  ⟨hfn.1, fun w X vs hg hvs => hfn.2 w X vs hg (fitDs_rep hf hvs)⟩
/-- G holds behind what has run of a call that was given nothing to write. -/
theorem Mem.stillG (hst : StaysG G) (hF0 : C.F0 = []) (hG : G C.w0) {Hs : List Ob} {V : List Value} {F : List (List Nat)} {w : World} (m : Mem C Hs V F w) : G w :=
  hst _ _ (fun b hb => m.kept b hb (by rw [hF0]; simp)) hG
theorem VStep.callG (hst : StaysG G) (hF0 : C.F0 = []) (hG : G C.w0) {f : FuncId} {args : Array Operand} {ats : Array TypeId} {as : List DV} {r : DV} {ρ : Operand → Option AV} {Hs : List Ob} {d : Option Nat} {t : TypeId} {p : String} {af : Array Edge} {g : Option (Nat × Bool)}
    (hf0 : ρ (.func f) = some (.v (.func (.func f) #[] #[]))) (hargs : evs ρ args.toList = some (DV.avs as)) (hfn : LiftsG P G f as r) (hfree : AV.frees (DV.avs as) = true) (hr : r.av.free = true) :
    VStep P C ⟨d, .call { callee := .value (.func f), args := args, argTypes := ats }, t, p, af, g⟩ ρ Hs r.av Hs := fun σ w V F m hρ => by
  have hσ : σ (.func f) = .func (.func f) #[] #[] := VRep.v_iff.1 (hρ (.func f) (by simp [Op.operands, Call.operands]) _ hf0)
  obtain ⟨⟨fn, hf, hname, hb⟩, hfn⟩ := hfn
  have hv : VReps (okB C w F) w V (DV.avs as) (args.toList.map σ) := evs_get hargs fun x hx b hb => hρ x (by simp [Op.operands, Call.operands]; exact .inr (by simpa using hx)) b hb
  have hv' : VReps (okB ⟨w, okB C w F, [], [], 0⟩ w []) w [] (DV.avs as) (args.map σ).toList := by
    rw [Array.toList_map]
    refine (hv.anyV (DV.avs as) _ hfree (V' := [])).ext (fun _ _ h => h) fun b hb => ⟨⟨.inl hb, hb.2.1, by simp⟩, rfl⟩
  refine .inr ⟨f, args.map σ, ?_, (hfn w (okB C w F) (args.map σ) (m.stillG hst hF0 hG) hv').mono ?_⟩
  · simp only [execOp, resolve, hσ, Deferred.ofValue, invoke, Sem.run_bind, Sem.run_pure, Result.andThen_ok]
    simpa using run_call hf hname hb (args.map σ) w
  · rintro e w' ⟨u, rfl, V', F', m', e', hu⟩
    refine ⟨u, rfl, ?_⟩
    have hV0 : V' = [] := List.eq_nil_of_length_eq_zero (by rw [m'.lenV]; rfl)
    have hF1 : F' = [] := List.eq_nil_of_length_eq_zero (by rw [m'.lenF]; rfl)
    subst hV0 hF1
    obtain ⟨m2, e2⟩ := m.more m'.os m'.tape m'.output m'.size (fun b hb => m'.kept b hb (by simp))
    refine ⟨V, F, m2, e2, (hu.anyV r.av u hr (V' := V)).ext (fun _ _ h => h) fun b hb => ⟨?_, rfl⟩⟩
    obtain ⟨h1, h2, _⟩ := hb
    rcases h1 with h1 | h1
    · exact (e2.blk b h1).1
    · have hle : w.heap.size ≤ b := h1
      exact ⟨.inr (Nat.le_trans m.size hle), h2, fun f hf hbf => by have := (m.own f hf b hbf).1; omega⟩
/-- A call of such a function. -/
theorem StepD.callG (hst : StaysG G) (hF0 : C.F0 = []) (hG : G C.w0) {f : FuncId} {args : Array Operand} {ats : Array TypeId} {as : List DV} {r : DV} {d : Option Nat} {t : TypeId} {p : String} {af : Array Edge} {g : Option (Nat × Bool)}
    (hfn : LiftsG P G f as r) (hargs : evsD (evS tb.E fr) args.toList = some as) (hfree : freeDs as = true) (hr : freeD r = true) :
    StepD P C tb fr ⟨d, .call { callee := .value (.func f), args := args, argTypes := ats }, t, p, af, g⟩ H r H := fun _ hρ =>
  VStep.callG hst hF0 hG (hρ.1 (.func f) _ rfl) (evsD_evs hρ hargs) hfn (freeDs_av _ hfree) (freeD_av _ hr)
/-- THE CONTRACT OUT OF THE BODY. -/
theorem LiftsG.of_body {f : FuncId} {fn : Func} {c : Code} {as : List DV} {r : DV} (N : Nat) (l : List ResultVar) (hf : P.funcs[f]? = some fn) (hb : fn.body = some c) (hN : fn.ntmps = N) (hname : (fn.name == "runtime.NumGoroutine") = false)
    (hn : Nat.ble (lenL as) N = true) (hl : fn.results.toList = l)
    (h : ∀ (w0 : World) (X0 : Nat → Prop), G w0 → AWPD P ⟨w0, X0, [], [], N⟩ c (fun e fr H => (e = .ret ∨ e = .normal) ∧ RetD fr H l r) (argD 0 as) []) : LiftsG P G f as r := by
  subst hN
  refine ⟨⟨fn, hf, hname, by rw [hb]; rfl⟩, fun w X vs hg hvs => ?_⟩
  have hlen : vs.size = as.length := by have := hvs.length; rw [avs_len] at this; simpa using this
  have hn' : as.length ≤ fn.ntmps := by rw [← lenL_eq]; exact Nat.le_of_ble_eq_true hn
  let C : Ctx := ⟨w, X, [], [], fn.ntmps⟩
  have m0 : Mem C [] [] [] w := Mem.start w X fn.ntmps
  refine calls_of_AWP hf hb (h w X hg) ⟨[], [], m0, DefOK.nil _ _ _, by simp [hlen]; omega, fun t av ht => ?_⟩ fun e a' w' ⟨s', ⟨fr', H', ⟨he, hr⟩, hs⟩, V', F', m', hdef, hsz, hfr⟩ => ?_
  · simp only [argD_frA] at ht
    obtain ⟨_, h2⟩ := argsF_look _ 0 t av ht
    obtain ⟨x, hx, hv⟩ := hvs.get _ _ h2
    refine ⟨x, ?_, hv⟩
    have hlt : t < vs.size := by
      have := (List.getElem?_eq_some_iff.1 hx).1
      simpa using this
    rw [Array.getElem?_append_left hlt]
    simpa using hx
  · subst hs
    obtain ⟨u, hu, hv⟩ := RetD_rep (P := P) hl m' hfr (ok' := okB ⟨w, X, [], [], 0⟩ w' []) (fun b hb => ⟨hb.1, hb.2.1, by simp⟩)
      (fun f hf b hb => ⟨.inr (by rcases (m'.own f hf b hb).2 with h | h <;> first | exact h | simp at h), (m'.own f hf b hb).1, by simp⟩) hr
    have fin : ∃ v, (results fn a'.tmps).run P w' = .ok v w' ∧ ∃ u, (Ending.returned v) = .returned u ∧ Out ⟨w, X, [], [], 0⟩ [] r.av [] [] w u w' := by
      obtain ⟨m2, e2⟩ := (Mem.start w X 0).more m'.os m'.tape m'.output m'.size (fun b hb => m'.kept b hb (by simp))
      exact ⟨u, hu, u, rfl, [], [], m2, e2, hv⟩
    exact ⟨he, fin⟩
/-- A contract told by hand: the result, and what lay before lies as it lay. -/
theorem LiftsG.of_calls {f : FuncId} {fn : Func} {as : List DV} {r : DV} (hf : P.funcs[f]? = some fn) (hname : (fn.name == "runtime.NumGoroutine") = false) (hb : fn.body.isNone = false)
    (h : ∀ (w : World) (X : Nat → Prop) (vs : Array Value), G w → VReps (okB ⟨w, X, [], [], 0⟩ w []) w [] (DV.avs as) vs.toList →
      Calls P f vs w fun e w' => ∃ u, e = .returned u ∧ w'.os = w.os ∧ w'.tape = w.tape ∧ w'.output = w.output ∧ w.heap.size ≤ w'.heap.size ∧ (∀ b, b < w.heap.size → w'.heap[b]? = w.heap[b]?) ∧ VRep (okB ⟨w, X, [], [], 0⟩ w' []) w' [] r.av u) : LiftsG P G f as r := by
  refine ⟨⟨fn, hf, hname, hb⟩, fun w X vs hg hv => (h w X vs hg hv).mono fun e w' ⟨u, he, h1, h2, h3, h4, h5, h6⟩ => ?_⟩
  obtain ⟨m2, e2⟩ := (Mem.start w X 0).more h1 h2 h3 h4 h5
  exact ⟨u, he, [], [], m2, e2, h6⟩
end
theorem LiftsG.calls_true {P : Program} {G : World → Prop} {W : World} {f : FuncId} {as : List DV} {args : Array Value} (h : LiftsG P G f as (.b true)) (hG : G W) (hv : VReps (okR W) W [] (DV.avs as) args.toList) : Calls P f args W fun e W' => e = .returned (.bool true) ∧ Below W.heap.size W W' := by
  refine (h.2 W (fun b => b < W.heap.size) args hG hv).mono fun e W' ⟨u, he, V', F', m, _, hu⟩ => ?_
  have hu := VRep.v_iff.1 hu
  subst hu
  exact ⟨he, m.os, m.tape, m.output, m.size, fun k hk => m.kept k hk (by simp)⟩
end Go.Qw
