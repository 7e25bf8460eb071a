/-
  An abstract machine over the model's own code, part Q: results of which some are kept in cells of the call's own. No program is named here.
-/
import Derived.Test.YtmeacgkhabnjlaaDoorQwZ
set_option linter.unusedSimpArgs false
set_option linter.unusedVariables false
set_option linter.unusedSectionVars false
namespace Go.Qw
open Go.RowKit
section
variable {P : Program} {C : Ctx} {fr : DF} {H : List OD}

/-- One result: in a slot, or in a struct or an array of the call's own. -/
def RetV (P : Program) (fr : DF) (H : List OD) : ResultVar → DV → Prop
  | .tmp t, r => fitO H (lookD fr t) r
  | .cell t T, r => ∃ n tB l s, lookD fr t = some (.op n 0) ∧ (getOD H n).map OD.ob = some (.box tB (DV.avs l)) ∧ AggT P T (lenL l) ∧ snapD H (.agg l) = some s ∧ fitD s r
def RetW (P : Program) (fr : DF) (H : List OD) : List ResultVar → DV → Prop
  | [a], r => RetV P fr H a r
  | [a, b], .tup [r1, r2] => RetV P fr H a r1 ∧ RetV P fr H b r2
  | _, _ => False
/-- What one result reads as. -/
def oneRes (tmps : Array Value) : ResultVar → Sem Value
  | .tmp t => pure (tmps.getD t undef)
  | .cell a t => do loadVar t (← asAddr (tmps.getD a undef))
theorem results_eq (fn : Func) (tmps : Array Value) : results fn tmps = (do
    let vs ← fn.results.mapM (oneRes tmps)
    pure (if h : vs.size = 1 then vs[0] else .tuple vs)) := by
  unfold results
  congr 1
theorem RetV_rep {rv : ResultVar} {r : DV} {V : List Value} {F : List (List Nat)} {w : World} {a : Act} (m : Mem C (H.map OD.ob) V F w) (hf : Frm C (frA fr) V F a w) {ok' : Nat → Prop} (hok : ∀ b, okB C w F b → ok' b) (hF : ∀ f ∈ F, ∀ b ∈ f, ok' b) (h : RetV P fr H rv r) :
    ∃ u, (oneRes a.tmps rv).run P w = .ok u w ∧ VRep ok' w [] r.av u := by
  cases rv with
  | tmp t => exact ⟨_, rfl, fitO_rep m hf hok hF h⟩
  | cell t T =>
    obtain ⟨n, tB, l, s, h1, h2, hT, h3, h4⟩ := h
    obtain ⟨x, hx, hr⟩ := hf t (.op n 0) (by rw [frA_look, h1]; rfl)
    have e0 : a.tmps.getD t undef = x := by simp [hx]
    have e0' : a.tmps[t]?.getD undef = x := by rw [hx]; rfl
    obtain ⟨o, ho, hob⟩ := Option.map_eq_some_iff.1 h2
    have hH := getOD_map ho
    rw [hob] at hH
    obtain ⟨y, f, hy, hff, hro⟩ := m.get hH
    have h1' := hr
    unfold VRep at h1'
    obtain ⟨ad, hb, hu⟩ := h1'
    rw [hy] at hb
    obtain ⟨us, hus, hcell⟩ := ob_cells (cs := DV.avs l) rfl hro hb
    have hlen : us.length = lenL l := by rw [hus.length, DV.avs_map, List.length_map, lenL_eq]
    have hv : VRep (okB C w F) w V (.agg (DV.avs l)) (.agg us.toArray) := by unfold VRep; exact ⟨_, rfl, by simpa using hus⟩
    refine ⟨.agg us.toArray, ?_, fitD_rep h4 (snapA_rep m hok hF (snapD_snapA h3) hv)⟩
    have hl : (loadVar T (ad.add 0)).run P w = .ok (.agg us.toArray) w := by
      rw [run_loadVar_agg (by rw [hlen]; exact hT) fun j u hj => ?_]
      rw [add_add]
      have := hcell j u hj
      simpa using this
    have ha : (asAddr x).run P w = .ok (ad.add 0) w := by rw [hu]; rfl
    simp only [oneRes, Array.getD_eq_getD_getElem?, e0', Sem.run_bind, ha, Result.andThen_ok, hl]
theorem RetW_rep {fn : Func} {l : List ResultVar} {r : DV} (hl : fn.results.toList = l) {V : List Value} {F : List (List Nat)} {w : World} {a : Act} (m : Mem C (H.map OD.ob) V F w) (hf : Frm C (frA fr) V F a w) {ok' : Nat → Prop} (hok : ∀ b, okB C w F b → ok' b) (hF : ∀ f ∈ F, ∀ b ∈ f, ok' b) (h : RetW P fr H l r) :
    ∃ u, (results fn a.tmps).run P w = .ok u w ∧ VRep ok' w [] r.av u := by
  have hl' : fn.results = l.toArray := by rw [← hl]
  unfold RetW at h
  split at h
  · rename_i rv r
    obtain ⟨u, hu, hv⟩ := RetV_rep m hf hok hF h
    refine ⟨u, ?_, hv⟩
    rw [results_eq, hl']
    simp [hu]
  · rename_i rv rw' r1 r2
    obtain ⟨u1, hu1, hv1⟩ := RetV_rep m hf hok hF h.1
    obtain ⟨u2, hu2, hv2⟩ := RetV_rep m hf hok hF h.2
    refine ⟨.tuple #[u1, u2], ?_, ?_⟩
    · rw [results_eq, hl']
      simp [hu1, hu2]
    · simp only [DV.av, DV.avs]
      unfold VRep VReps VReps VReps
      exact ⟨_, rfl, _, _, rfl, hv1, _, _, rfl, hv2, rfl⟩
  · cases h
/-- THE CONTRACT OUT OF THE BODY, of results of which some are kept in cells. -/
theorem LiftsG.of_bodyW {G : World → Prop} {f : FuncId} {fn : Func} {c : Code} {as : List DV} {r : DV} (N : Nat) (l : List ResultVar) (hf : P.funcs[f]? = some fn) (hb : fn.body = some c) (hN : fn.ntmps = N) (hname : (fn.name == "runtime.NumGoroutine") = false)
    (hn : Nat.ble (lenL as) N = true) (hl : fn.results.toList = l)
    (h : ∀ (w0 : World) (X0 : Nat → Prop), G w0 → AWPD P ⟨w0, X0, [], [], N⟩ c (fun e fr H => (e = .ret ∨ e = .normal) ∧ RetW P fr H l r) (argD 0 as) []) : LiftsG P G f as r := by
  subst hN
  refine ⟨⟨fn, hf, hname, by rw [hb]; rfl⟩, fun w X vs hg hvs => ?_⟩
  have hlen : vs.size = as.length := by have := hvs.length; rw [avs_len] at this; simpa using this
  have hn' : as.length ≤ fn.ntmps := by rw [← lenL_eq]; exact Nat.le_of_ble_eq_true hn
  let C : Ctx := ⟨w, X, [], [], fn.ntmps⟩
  have m0 : Mem C [] [] [] w := Mem.start w X fn.ntmps
  refine calls_of_AWP hf hb (h w X hg) ⟨[], [], m0, DefOK.nil _ _ _, by simp [hlen]; omega, fun t av ht => ?_⟩ fun e a' w' ⟨s', ⟨fr', H', ⟨he, hr⟩, hs⟩, V', F', m', hdef, hsz, hfr⟩ => ?_
  · simp only [argD_frA] at ht
    obtain ⟨_, h2⟩ := argsF_look _ 0 t av ht
    obtain ⟨x, hx, hv⟩ := hvs.get _ _ h2
    refine ⟨x, ?_, hv⟩
    have hlt : t < vs.size := by
      have := (List.getElem?_eq_some_iff.1 hx).1
      simpa using this
    rw [Array.getElem?_append_left hlt]
    simpa using hx
  · subst hs
    obtain ⟨u, hu, hv⟩ := RetW_rep (P := P) hl m' hfr (ok' := okB ⟨w, X, [], [], 0⟩ w' []) (fun b hb => ⟨hb.1, hb.2.1, by simp⟩)
      (fun f hf b hb => ⟨.inr (by rcases (m'.own f hf b hb).2 with h | h <;> first | exact h | simp at h), (m'.own f hf b hb).1, by simp⟩) hr
    have fin : ∃ v, (results fn a'.tmps).run P w' = .ok v w' ∧ ∃ u, (Ending.returned v) = .returned u ∧ Out ⟨w, X, [], [], 0⟩ [] r.av [] [] w u w' := by
      obtain ⟨m2, e2⟩ := (Mem.start w X 0).more m'.os m'.tape m'.output m'.size (fun b hb => m'.kept b hb (by simp))
      exact ⟨u, hu, u, rfl, [], [], m2, e2, hv⟩
    exact ⟨he, fin⟩
theorem RetW.one {rv : ResultVar} {r : DV} (h : RetV P fr H rv r) : RetW P fr H [rv] r := h
theorem RetW.two {a b : ResultVar} {r1 r2 : DV} (h1 : RetV P fr H a r1) (h2 : RetV P fr H b r2) : RetW P fr H [a, b] (.tup [r1, r2]) := ⟨h1, h2⟩
theorem RetW.twoT {a : ResultVar} {t : Nat} {r1 r2 : DV} (h1 : RetV P fr H a r1) (h2 : fitO H (lookD fr t) r2) : RetW P fr H [a, .tmp t] (.tup [r1, r2]) := ⟨h1, h2⟩
end
end Go.Qw
