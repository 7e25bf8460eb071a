/-
  Closures that are handed on and called; calls that are handed what the call owns to read, told argument by argument. No program is named here.
-/
import Derived.Test.YtmeacgkhabnjlaaDoorQwMy
set_option linter.unusedSimpArgs false
set_option linter.unusedVariables false
set_option linter.unusedSectionVars false
namespace Go.Qw
open Go.RowKit

section
variable {P : Program} {C : Ctx} {ρ : Operand → Option AV} {H : List Ob} {d : Option Nat} {t : TypeId} {p : String} {af : Array Edge} {g : Option (Nat × Bool)}
/-- 'func .. { .. }' over what it captures. -/
theorem VStep.makeFunc {f : FuncId} {caps : Array Operand} {cs : List AV} (hc : evs ρ caps.toList = some cs) : VStep P C ⟨d, .makeFunc (.func f) #[] caps, t, p, af, g⟩ ρ H (.fn f cs) H :=
  .same fun σ w V F m h => by
    refine ⟨.func (.func f) #[] (caps.map σ), by simp [execOp, Instr.makeFunc], ?_⟩
    unfold VRep
    refine ⟨caps.map σ, rfl, ?_⟩
    rw [Array.toList_map]
    exact evs_get hc fun x hx b hb => h x (by simpa [Op.operands] using hx) b hb
/-- A closure is called. -/
theorem VStep.callFn {f : FuncId} {args : Array Operand} {ats : Array TypeId} {x : Operand} {avs cs : List AV} {r : AV} (hx : ρ x = some (.fn f cs)) (hargs : evs ρ args.toList = some avs) (hfn : Lifts P f (avs ++ cs) [] r []) (hfree : AV.frees (avs ++ cs) = true) (hr : r.free = true) :
    VStep P C ⟨d, .call { callee := .value x, args := args, argTypes := ats }, t, p, af, g⟩ ρ H r H := fun σ w V F m hρ => by
  have hσ := hρ x (by simp [Op.operands, Call.operands]) _ hx
  unfold VRep at hσ
  obtain ⟨us, hσ, hus⟩ := hσ
  obtain ⟨⟨fn, hf, hname, hb⟩, hfn⟩ := hfn
  have hv : VReps (okB C w F) w V avs (args.toList.map σ) := evs_get hargs fun x hx b hb => hρ x (by simp [Op.operands, Call.operands]; exact .inr (by simpa using hx)) b hb
  have hv' : VReps (okB ⟨w, okB C w F, [], [], 0⟩ w []) w [] (avs ++ cs) (args.map σ ++ us).toList := by
    rw [Array.toList_append, Array.toList_map]
    refine ((hv.app hus).anyV _ _ hfree (V' := [])).ext (fun _ _ h => h) fun b hb => ⟨⟨.inl hb, hb.2.1, by simp⟩, rfl⟩
  refine .inr ⟨f, args.map σ ++ us, ?_, (hfn w (okB C w F) [] [] (args.map σ ++ us) (Mem.start w _ 0) hv').mono ?_⟩
  · simp only [execOp, resolve, hσ, Deferred.ofValue, invoke, Sem.run_bind, Sem.run_pure, Result.andThen_ok]
    simpa using run_call hf hname hb (args.map σ ++ us) w
  · rintro e w' ⟨u, rfl, V', F', m', e', hu⟩
    refine ⟨u, rfl, ?_⟩
    have hV0 : V' = [] := List.eq_nil_of_length_eq_zero (by rw [m'.lenV]; rfl)
    have hF0 : F' = [] := List.eq_nil_of_length_eq_zero (by rw [m'.lenF]; rfl)
    subst hV0 hF0
    obtain ⟨m2, e2⟩ := m.more m'.os m'.tape m'.output m'.size (fun b hb => m'.kept b hb (by simp))
    refine ⟨V, F, m2, e2, (hu.anyV r u hr (V' := V)).ext (fun _ _ h => h) fun b hb => ⟨?_, rfl⟩⟩
    obtain ⟨h1, h2, _⟩ := hb
    rcases h1 with h1 | h1
    · exact (e2.blk b h1).1
    · have hle : w.heap.size ≤ b := h1
      exact ⟨.inr (Nat.le_trans m.size hle), h2, fun f hf hbf => by have := (m.own f hf b hbf).1; omega⟩

/-! ### What the call owns, handed to be read -/

/-- All blocks there are. -/
def allB (w : World) (b : Nat) : Prop := okB ⟨w, fun b => b < w.heap.size, [], [], 0⟩ w [] b
theorem allB_ok {V : List Value} {F : List (List Nat)} {w : World} (m : Mem C H V F w) {b : Nat} (h : okB C w F b) : allB w b := ⟨.inl h.2.1, h.2.1, by simp⟩
theorem allB_own {V : List Value} {F : List (List Nat)} {w : World} (m : Mem C H V F w) {f : List Nat} (hf : f ∈ F) {b : Nat} (hb : b ∈ f) : allB w b := ⟨.inl (m.own f hf b hb).1, (m.own f hf b hb).1, by simp⟩
/-- An argument as the callee reads it. -/
def SnapTo (C : Ctx) (H : List Ob) (a b : AV) : Prop := ∀ (V : List Value) (F : List (List Nat)) (w : World) (x : Value), Mem C H V F w → VRep (okB C w F) w V a x → VRep (allB w) w [] b x
def SnapAll (C : Ctx) (H : List Ob) : List AV → List AV → Prop
  | [], [] => True
  | a :: l, b :: r => SnapTo C H a b ∧ SnapAll C H l r
  | _, _ => False
theorem SnapAll.rep : ∀ {l r : List AV}, SnapAll C H l r → ∀ {V : List Value} {F : List (List Nat)} {w : World} {us : List Value}, Mem C H V F w → VReps (okB C w F) w V l us → VReps (allB w) w [] r us
  | [], [], _, V, F, w, us, _, h => by unfold VReps at h ⊢; exact h
  | a :: l, b :: r, hs, V, F, w, us, m, h => by
    unfold VReps at h ⊢
    obtain ⟨u, us', rfl, h1, h2⟩ := h
    exact ⟨u, us', rfl, hs.1 _ _ _ _ m h1, SnapAll.rep hs.2 m h2⟩
  | [], _ :: _, hs, _, _, _, _, _, _ => hs.elim
  | _ :: _, [], hs, _, _, _, _, _, _ => hs.elim
theorem SnapTo.free {a : AV} (h : a.free = true) : SnapTo C H a a := fun V F w x m hr => (hr.anyV _ _ h (V' := [])).ext (fun _ _ h => h) fun b hb => ⟨allB_ok m hb, rfl⟩
/-- A row of a matrix, by its header. -/
theorem SnapTo.row {j k : Nat} {hd : List Value} {os : List OD} {e : TypeId} {τ : Ty} {xs : List τ.T} (hH : H[j]? = some (rowsO hd os).ob) (hk : os[k]? = some (.row e τ xs)) : SnapTo C H (.v (hdV (hd.getD k undef))) (.rd τ.size (xs.flatMap (gT τ))) := fun V F w x m hr => by
  have hr := VRep.v_iff.1 hr
  subst hr
  obtain ⟨y, f, hy, hf, ho⟩ := m.get hH
  obtain ⟨fs, hR, rfl⟩ := orep_rows.1 ho
  have hko : k < os.length := (List.getElem?_eq_some_iff.1 hk).1
  have hkf : k < fs.length := by rw [hR.2.1, ← hR.1]; exact hko
  have hfk : fs[k]? = some fs[k] := List.getElem?_eq_getElem hkf
  have hop := hR.2.2.1 k _ _ hk hfk
  exact own_read hop (frees_flatMap (gT_free τ) xs) (fun b hb => hb.elim) fun b hb => allB_own m (mem_of_get hf) (flat_mem.2 ⟨k, _, hfk, hb⟩)
/-- A closure, what it captures read so. -/
theorem SnapTo.fn {f : FuncId} {l r : List AV} (h : SnapAll C H l r) : SnapTo C H (.fn f l) (.fn f r) := fun V F w x m hr => by
  unfold VRep at hr ⊢
  obtain ⟨us, hx, hus⟩ := hr
  exact ⟨us, hx, h.rep m hus⟩
/-- A cell that is only read, what it holds read so. -/
theorem SnapTo.cell {a b : AV} (h : SnapTo C H a b) : SnapTo C H (.rp [a] 0) (.rp [b] 0) := fun V F w x m hr => by
  unfold VRep at hr ⊢
  obtain ⟨ad, us, hx, hok, hcell, hus⟩ := hr
  have hsa : SnapAll C H [a] [b] := ⟨h, trivial⟩
  exact ⟨ad, us, hx, allB_ok m hok, hcell, hsa.rep m hus⟩
/-- A matrix, by the slice of its headers. -/
theorem SnapTo.mat {e e' : TypeId} {τ : Ty} {i j : Nat} {hd : List Value} {rows : List (List τ.T)} (hI : H[i]? = some (OD.row e' .val hd).ob) (hJ : H[j]? = some (rowsO hd (rows.map fun r => .row e τ r)).ob) : SnapTo C H (.ob i) (.rd 1 (rows.flatMap (gT (.sl τ)))) := fun V F w x m hr => by
  obtain ⟨y, f, hy, hf, ho⟩ := m.get hI
  unfold VRep at hr
  rw [hy] at hr
  cases hr
  have hrd : VRep (allB w) w [] (.rd 1 ((hd : List (Ty.val).T).flatMap (gT .val))) x := own_read (ok := okB C w F) ho (frees_flatMap (gT_free .val) hd) (fun b hb => allB_ok m hb) fun b hb => allB_own m (mem_of_get hf) hb
  rw [vals_map (τ := .val) hdV (fun _ => rfl) hd] at hrd
  have hrl : rows.length = hd.length := by
    obtain ⟨y2, f2, _, _, ho2⟩ := m.get hJ
    obtain ⟨fs, hR, _⟩ := orep_rows.1 ho2
    have := hR.1
    simpa using this
  unfold VRep at hrd ⊢
  obtain ⟨hs, A, n, c, hxe, hlen, hn, hcc, hcells⟩ := hrd
  have hfl : rows.flatMap (gT (.sl τ)) = rows.map fun r => AV.rd τ.size (r.flatMap (gT τ)) := by
    clear hrl hJ
    induction rows with
    | nil => rfl
    | cons a r ih => rw [List.flatMap_cons, ih]; rfl
  rw [hfl]
  refine ⟨hs, A, n, c, hxe, by rw [List.length_map, hrl]; simpa using hlen, hn, hcc, fun hne => ?_⟩
  have hne2 : (hd.map hdV).map AV.v ≠ [] := fun e0 => hne (by
    have : hd.length = 0 := by simpa using congrArg List.length e0
    rw [List.eq_nil_of_length_eq_zero (by omega : rows.length = 0)]; rfl)
  obtain ⟨ad, us, hA, hok, hcell, hus⟩ := hcells hne2
  have hus2 := VReps.vals_eq hus
  subst hus2
  refine ⟨ad, _, hA, hok, hcell, VReps.mk (by simp [hrl]) fun k a u ha hu => ?_⟩
  rw [List.getElem?_map] at ha hu
  cases hri : rows[k]? with
  | none => rw [hri] at ha; cases ha
  | some row =>
    rw [hri] at ha
    cases ha
    have hil := (List.getElem?_eq_some_iff.1 hri).1
    have hih : k < hd.length := by omega
    rw [List.getElem?_eq_getElem hih] at hu
    cases hu
    have hsr := SnapTo.row (C := C) (H := H) (k := k) (e := e) (τ := τ) (xs := row) hJ (by rw [List.getElem?_map, hri]; rfl)
    have hgd : hd.getD k undef = hd[k] := by simp [List.getD, hih]
    rw [hgd] at hsr
    exact hsr V F w _ m (VRep.v_iff.2 rfl)
/-- A CALL THAT IS HANDED WHAT THE CALL OWNS TO READ, and gives back no memory. -/
theorem VStep.callV {f : FuncId} {args : Array Operand} {ats : Array TypeId} {avs bs : List AV} {r : AV} (hf0 : ρ (.func f) = some (.v (.func (.func f) #[] #[]))) (hargs : evs ρ args.toList = some avs) (hs : SnapAll C H avs bs) (hfn : Lifts P f bs [] r []) (hr : r.flat = true) :
    VStep P C ⟨d, .call { callee := .value (.func f), args := args, argTypes := ats }, t, p, af, g⟩ ρ H r H := fun σ w V F m hρ => by
  have hσ : σ (.func f) = .func (.func f) #[] #[] := VRep.v_iff.1 (hρ (.func f) (by simp [Op.operands, Call.operands]) _ hf0)
  obtain ⟨⟨fn, hf, hname, hb⟩, hfn⟩ := hfn
  have hv : VReps (okB C w F) w V avs (args.toList.map σ) := evs_get hargs fun x hx b hb => hρ x (by simp [Op.operands, Call.operands]; exact .inr (by simpa using hx)) b hb
  have hv' : VReps (okB ⟨w, fun b => b < w.heap.size, [], [], 0⟩ w []) w [] bs (args.map σ).toList := by
    rw [Array.toList_map]
    exact hs.rep m hv
  refine .inr ⟨f, args.map σ, ?_, (hfn w (fun b => b < w.heap.size) [] [] (args.map σ) (Mem.start w _ 0) hv').mono ?_⟩
  · simp only [execOp, resolve, hσ, Deferred.ofValue, invoke, Sem.run_bind, Sem.run_pure, Result.andThen_ok]
    simpa using run_call hf hname hb (args.map σ) w
  · rintro e w' ⟨u, rfl, V', F', m', e', hu⟩
    obtain ⟨m2, e2⟩ := m.more m'.os m'.tape m'.output m'.size (fun b hb => m'.kept b hb (by simp))
    exact ⟨u, rfl, V, F, m2, e2, hu.flat r u hr⟩
end
end Go.Qw
