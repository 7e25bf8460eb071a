/-
  Closures made, handed on and called; calls that are handed rows of the caller's own to read and hand out a new one; a slice held against nil. No program is named here.
-/
import Derived.Test.YtmeacgkhabnjlaaDoorQwFn
import Derived.Lib.LazyBuf
set_option linter.unusedSimpArgs false
set_option linter.unusedVariables false
set_option linter.unusedSectionVars false
namespace Go.Qw
open Go.RowKit

theorem avs_app : ∀ l r : List DV, DV.avs (l ++ r) = DV.avs l ++ DV.avs r
  | [], _ => rfl
  | a :: l, r => by rw [List.cons_append, DV.avs, DV.avs, avs_app l r, List.cons_append]
theorem frees_app : ∀ l r : List AV, AV.frees (l ++ r) = (AV.frees l && AV.frees r)
  | [], _ => by simp [AV.frees]
  | a :: l, r => by rw [List.cons_append, AV.frees, AV.frees, frees_app l r, Bool.and_assoc]
section
variable {P : Program} {C : Ctx} {H : List Ob} {d : Option Nat} {t : TypeId} {p : String} {af : Array Edge} {g : Option (Nat × Bool)}
/-- A row of the call's own. -/
theorem SnapTo.own {i : Nat} {e : TypeId} {size : Nat} {cs : List AV} (hH : H[i]? = some (.row e size cs)) (hf : AV.frees cs = true) : SnapTo C H (.ob i) (.rd size cs) := fun V F w x m hr => by
  obtain ⟨y, f, hy, hfp, ho⟩ := m.get hH
  unfold VRep at hr
  rw [hy] at hr
  cases hr
  exact own_read (ok := okB C w F) ho hf (fun b hb => allB_ok m hb) fun b hb => allB_own m (mem_of_get hfp) hb
theorem SnapTo.ints {i : Nat} {e : TypeId} {xs : List Int} {H : List OD} (hH : getOD H i = some (.row e .int xs)) : SnapTo C (H.map OD.ob) (.ob i) (DV.sl .int xs).av := SnapTo.own (getOD_map hH) (frees_flatMap (gT_free .int) xs)
/-- A CALL THAT IS HANDED WHAT THE CALL OWNS TO READ, and hands out an object. -/
theorem VStep.callNV {f : FuncId} {args : Array Operand} {ats : Array TypeId} {avs bs : List AV} {ρ : Operand → Option AV} {o' : OD} (hf0 : ρ (.func f) = some (.v (.func (.func f) #[] #[]))) (hargs : evs ρ args.toList = some avs) (hs : SnapAll C H avs bs) (hfn : Lifts P f bs [] (.ob 0) [o'.ob]) (hfl : FlatO o') :
    VStep P C ⟨d, .call { callee := .value (.func f), args := args, argTypes := ats }, t, p, af, g⟩ ρ H (.ob H.length) (H ++ [o'.ob]) := fun σ w V F m hρ => by
  have hσ : σ (.func f) = .func (.func f) #[] #[] := VRep.v_iff.1 (hρ (.func f) (by simp [Op.operands, Call.operands]) _ hf0)
  obtain ⟨⟨fn, hf, hname, hb⟩, hfn⟩ := hfn
  have hv : VReps (okB C w F) w V avs (args.toList.map σ) := evs_get hargs fun x hx b hb => hρ x (by simp [Op.operands, Call.operands]; exact .inr (by simpa using hx)) b hb
  have hv' : VReps (okB ⟨w, fun b => b < w.heap.size, [], [], 0⟩ w []) w [] bs (args.map σ).toList := by
    rw [Array.toList_map]
    exact hs.rep m hv
  refine .inr ⟨f, args.map σ, ?_, (hfn w (fun b => b < w.heap.size) [] [] (args.map σ) (Mem.start w _ 0) hv').mono ?_⟩
  · simp only [execOp, resolve, hσ, Deferred.ofValue, invoke, Sem.run_bind, Sem.run_pure, Result.andThen_ok]
    simpa using run_call hf hname hb (args.map σ) w
  · rintro e w' ⟨u, rfl, V', F', m', e', hu⟩
    obtain ⟨y, rfl⟩ : ∃ y, V' = [y] := by
      have h1 : V'.length = 1 := m'.lenV
      match V', h1 with
      | [z], _ => exact ⟨z, rfl⟩
    obtain ⟨fp, rfl⟩ : ∃ fp, F' = [fp] := by
      have h1 : F'.length = 1 := m'.lenF
      match F', h1 with
      | [z], _ => exact ⟨z, rfl⟩
    have ho := m'.obs 0 o'.ob y fp (by simp) (by simp) (by simp)
    have hown : ∀ b ∈ fp, b < w'.heap.size ∧ w.heap.size ≤ b := fun b hb => by
      have := m'.own fp (by simp) b hb
      exact ⟨this.1, this.2.resolve_left (by simp)⟩
    obtain ⟨m2, e2⟩ := m.push (w' := w') o'.ob fp y (m'.one 0 y (by simp)) m'.os m'.tape m'.output m'.size (fun b hbl => m'.kept b hbl (by simp)) hown (fun _ => hfl _ _ _ _ _ _ _ ho)
    refine ⟨u, rfl, V ++ [y], F ++ [fp], m2, e2, ?_⟩
    unfold VRep at hu ⊢
    simp at hu
    subst hu
    simp [← m.lenV]
/-- A slice, nil or not, held against nil. -/
theorem VStep.eqNil {T yT e : TypeId} {x y : Operand} {A : Option Addr} {n c : Nat} {ρ : Operand → Option AV} (hT : P.underlying T = some (.slice e)) (hx : ρ x = some (.v (.slice A n c))) (hy : ρ y = some (.v (.slice none 0 0))) : VStep P C ⟨d, .binOp .eql T x y yT, t, p, af, g⟩ ρ H (bv A.isNone) H :=
  .bin hx hy (fun w => by simp [eqGuard]) fun w => Go.run_eql_slice_nil w T e A n c hT
theorem VStep.eqNilRd {T yT e : TypeId} {x y : Operand} {size : Nat} {cs : List AV} {ρ : Operand → Option AV} (hT : P.underlying T = some (.slice e)) (hne : cs ≠ []) (hx : ρ x = some (.rd size cs)) (hy : ρ y = some (.v (.slice none 0 0))) : VStep P C ⟨d, .binOp .eql T x y yT, t, p, af, g⟩ ρ H (bv false) H :=
  .same fun σ w V F m h => by
    have e1 := h x (by simp [Op.operands]) _ hx
    have e2 := VRep.v_iff.1 (h y (by simp [Op.operands]) _ hy)
    unfold VRep at e1
    obtain ⟨_, A, n, c, hxe, _, _, _, hc⟩ := e1
    obtain ⟨ad, _, rfl, _⟩ := hc hne
    have hg : (eqGuard .eql T x y (.slice (some ad) n c) (.slice none 0 0)).run P w = .ok () w := by simp [eqGuard]
    exact ⟨.bool false, by simp [execOp, hxe, e2, hg, Go.run_eql_slice_nil w T e (some ad) n c hT], VRep.v_iff.2 rfl⟩
/-- '[]T{}': a row of nothing. -/
theorem VStep.buildNone {T e : TypeId} {size bytes : Nat} {ρ : Operand → Option AV} (hT : AppT P T e size bytes) : VStep P C ⟨d, .buildSlice T 0 #[], t, p, af, g⟩ ρ H (.ob H.length) (H ++ [.row e size []]) := fun σ w V F m hρ => by
  obtain ⟨hTu, i, z, hi, hz, hsize, hbytes, hzs, h0⟩ := hT
  have hrun : (execOp σ ⟨d, .buildSlice T 0 #[], t, p, af, g⟩).run P w = .ok (.value (.slice (some ⟨w.heap.size, 0, none⟩) 0 0)) (w.alloc (.cells #[] e)) := by
    simp [execOp, Instr.buildSlice, run_underlying hTu, sizeOf, typeInfo, hi, Instr.fill, newRow]
    rw [Array.eq_empty_of_size_eq_zero (xs := Array.map _ (Array.range 0)) (by simp)]
  have hown : (w.alloc (.cells #[] e)).ownsRow 0 e size (.slice (some ⟨w.heap.size, 0, none⟩) 0 0) 0 [] := World.ownsRow_made w #[] 0 (Nat.zero_le _) (by unfold maxLen; omega) (by simp)
  obtain ⟨m', e'⟩ := m.push (w' := w.alloc (.cells #[] e)) (.row e size []) [w.heap.size] (.slice (some ⟨w.heap.size, 0, none⟩) 0 0) rfl rfl rfl rfl (by simp) (fun b hb => Below.heap_alloc w _ b hb)
    (fun b hb => by
      simp at hb
      subst hb
      exact ⟨by simp, Nat.le_refl _⟩)
    (fun e' => by
      unfold ORep
      exact ⟨h0, 0, [], hown, by simp, by unfold VReps; rfl, rfl⟩)
  refine .inl ⟨.slice (some ⟨w.heap.size, 0, none⟩) 0 0, w.alloc (.cells #[] e), .inl hrun, _, _, m', e', ?_⟩
  unfold VRep
  simp [← m.lenV]
end

section
variable {P : Program} {C : Ctx} {tb : Tab} {fr : DF} {H : List OD} {d : Option Nat} {t : TypeId} {p : String} {af : Array Edge} {g : Option (Nat × Bool)}
theorem StepD.makeFn {f : FuncId} {caps : Array Operand} {ds : List DV} (hc : evsD (evS tb.E fr) caps.toList = some ds) : StepD P C tb fr ⟨d, .makeFunc (.func f) #[] caps, t, p, af, g⟩ H (.raw (.fn f (DV.avs ds))) H := fun _ hρ => VStep.makeFunc (evsD_evs hρ hc)
theorem StepD.callFn {f : FuncId} {args : Array Operand} {ats : Array TypeId} {x : Operand} {ds cs : List DV} {r : DV} (hfn : LiftsD P f (ds ++ cs) r) (hx : evS tb.E fr x = some (.raw (.fn f (DV.avs cs)))) (hargs : evsD (evS tb.E fr) args.toList = some ds) (hd : freeDs ds = true) (hc : freeDs cs = true) (hr : freeD r = true) :
    StepD P C tb fr ⟨d, .call { callee := .value x, args := args, argTypes := ats }, t, p, af, g⟩ H r H := fun _ hρ =>
  VStep.callFn (hρ.1 x _ hx) (evsD_evs hρ hargs) (by have := hfn; unfold LiftsD at this; rw [avs_app] at this; exact this) (by rw [frees_app, freeDs_av ds hd, freeDs_av cs hc]; rfl) (freeD_av _ hr)
theorem StepD.callV {f : FuncId} {args : Array Operand} {ats : Array TypeId} {ds ws : List DV} {r : DV} (hfn : LiftsD P f ws r) (hargs : evsD (evS tb.E fr) args.toList = some ds) (hs : SnapAll C (H.map OD.ob) (DV.avs ds) (DV.avs ws)) (hr : flatD r = true) :
    StepD P C tb fr ⟨d, .call { callee := .value (.func f), args := args, argTypes := ats }, t, p, af, g⟩ H r H := fun _ hρ => VStep.callV (hρ.1 (.func f) _ rfl) (evsD_evs hρ hargs) hs hfn (flatD_flat _ hr)
theorem StepD.callNV {f : FuncId} {args : Array Operand} {ats : Array TypeId} {ds ws : List DV} {o' : OD} (hfn : LiftsN P f ws o') (hargs : evsD (evS tb.E fr) args.toList = some ds) (hs : SnapAll C (H.map OD.ob) (DV.avs ds) (DV.avs ws)) (hfl : FlatO o') :
    StepD P C tb fr ⟨d, .call { callee := .value (.func f), args := args, argTypes := ats }, t, p, af, g⟩ H (.ob (lenOD H)) (H ++ [o']) := fun _ hρ => by
  have := VStep.callNV (P := P) (C := C) (H := H.map OD.ob) (d := d) (t := t) (p := p) (af := af) (g := g) (ats := ats) (hρ.1 (.func f) _ rfl) (evsD_evs hρ hargs) hs hfn hfl
  rw [← lenOD_map] at this
  rw [List.map_append]
  exact this
theorem StepD.buildNone {T e : TypeId} {τ : Ty} {bytes : Nat} (ok : TabOK P tb) (hT : findT tb.sl T = some (e, τ, bytes)) : StepD P C tb fr ⟨d, .buildSlice T 0 #[], t, p, af, g⟩ H (.ob (lenOD H)) (H ++ [.row e τ []]) := fun ρA hρ => by
  have hA := (ok.sl _ (findT_mem hT)).2
  have := VStep.buildNone (P := P) (C := C) (H := H.map OD.ob) (d := d) (t := t) (p := p) (af := af) (g := g) (ρ := ρA) hA
  rw [← lenOD_map] at this
  rw [List.map_append]
  exact this
theorem StepD.eqNil {T yT e : TypeId} {x y : Operand} {A : Option Addr} {n c : Nat} (hT : P.underlying T = some (.slice e)) (hx : evS tb.E fr x = some (.u (.slice A n c))) (hy : evS tb.E fr y = some .nil) : StepD P C tb fr ⟨d, .binOp .eql T x y yT, t, p, af, g⟩ H (.b A.isNone) H := fun _ hρ => VStep.eqNil hT (hρ.1 x _ hx) (hρ.1 y _ hy)
theorem StepD.eqNilRd {T yT e : TypeId} {x y : Operand} {τ : Ty} {xs : List τ.T} (hT : P.underlying T = some (.slice e)) (hne : xs ≠ []) (hs : 0 < τ.size) (hx : evS tb.E fr x = some (.sl τ xs)) (hy : evS tb.E fr y = some .nil) : StepD P C tb fr ⟨d, .binOp .eql T x y yT, t, p, af, g⟩ H (.b false) H := fun _ hρ =>
  VStep.eqNilRd hT (fun e0 => hne (by
    have := congrArg List.length e0
    rw [flatMap_len (size := τ.size) (gT_len τ)] at this
    refine List.eq_nil_of_length_eq_zero ?_
    rcases Nat.mul_eq_zero.1 (by simpa using this) with h | h
    · exact h
    · omega)) (hρ.1 x _ hx) (hρ.1 y _ hy)
/-- A slice of nothing: told by its header. -/
theorem LiftsN.nilSplit {f : FuncId} {τ : Ty} {o : OD} (h : ∀ A c, c ≤ maxLen → LiftsN P f [.u (.slice A 0 c)] o) : LiftsN P f [.sl τ []] o :=
  ⟨(h none 0 (Nat.zero_le _)).1, fun w X V F vs m hv => by
    have hv : VReps _ w V [.rd τ.size []] vs.toList := hv
    unfold VReps at hv
    obtain ⟨u, rest, hvs, hu, hr⟩ := hv
    unfold VRep at hu
    obtain ⟨hs, A, n, c, rfl, hn, _, hc, _⟩ := hu
    have hn0 : n = 0 := by
      rcases Nat.mul_eq_zero.1 (show n * τ.size = 0 by simpa using hn.symm) with h | h
      · exact h
      · omega
    subst hn0
    refine (h A c hc).2 w X V F vs m ?_
    show VReps _ w V [.v (.slice A 0 c)] vs.toList
    rw [hvs]
    unfold VReps
    exact ⟨_, rest, rfl, VRep.v_iff.2 rfl, by unfold VReps at hr ⊢; exact hr⟩⟩
variable {Q : Exit → DF → List OD → Prop} {c : Code}
theorem AWPD.asSl (s : Nat) (τ : Ty) {A : Option Addr} {cap : Nat} (hl : lookD fr s = some (.u (.slice A 0 cap))) (hs : 0 < τ.size) (hc : cap ≤ maxLen) (h : AWPD P C c Q ((s, .sl τ []) :: fr) H) : AWPD P C c Q fr H :=
  AWP.conv (s' := ⟨frA ((s, .sl τ []) :: fr), H.map OD.ob⟩) (fun _ _ _ ⟨V, F, m, hd, hsz, hf⟩ => ⟨V, F, m, hd, hsz, fun t' a ht => by
    have ht : look (frA ((s, .sl τ []) :: fr)) t' = some a := ht
    rw [frA_look] at ht
    simp only [lookD] at ht
    cases hb : Nat.beq s t' with
    | true =>
      rw [hb] at ht
      have e := Nat.eq_of_beq_eq_true hb
      subst e
      obtain ⟨x, hx, hr⟩ := hf s (DV.u (.slice A 0 cap)).av (by show look (frA fr) s = _; rw [frA_look, hl]; rfl)
      cases ht
      refine ⟨x, hx, ?_⟩
      have hr := VRep.v_iff.1 hr
      subst hr
      show VRep _ _ _ (.rd τ.size []) _
      unfold VRep
      exact ⟨hs, A, 0, cap, rfl, by simp, Nat.zero_le _, hc, fun hne => absurd rfl hne⟩
    | false =>
      rw [hb] at ht
      obtain ⟨x, hx, hr⟩ := hf t' a (by show look (frA fr) t' = _; rw [frA_look]; exact ht)
      exact ⟨x, hx, hr⟩⟩) h
end
end Go.Qw
