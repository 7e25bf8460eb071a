/-
  Slices of slices that the call owns and writes: rows laid one behind the other, and all of them read-only from here on. No program is named here.
-/
import Derived.Test.YtmeacgkhabnjlaaDoorQwMx
set_option linter.unusedSimpArgs false
set_option linter.unusedVariables false
set_option linter.unusedSectionVars false
namespace Go.Qw
open Go.RowKit

section
variable {P : Program} {C : Ctx} {H : List Ob} {V : List Value} {F : List (List Nat)} {w : World}
variable {tb : Tab} {fr : DF} {Hd : List OD} {d : Option Nat} {t : TypeId} {ps : String} {af : Array Edge} {g : Option (Nat × Bool)}
variable {Q : Exit → DF → List OD → Prop} {c : Code}
/-! ### Rows laid one behind the other -/

theorem memAs {H H' : List Ob} {V : List Value} {F : List (List Nat)} {w : World} (m : Mem C H V F w) (hl : H'.length = H.length) (h : ∀ (i : Nat) (o o' : Ob) (x : Value) (f : List Nat), H[i]? = some o → H'[i]? = some o' → V[i]? = some x → F[i]? = some f → ORep (okB C w F) w V x f o → ORep (okB C w F) w V x f o') : Mem C H' V F w :=
  ⟨m.os, m.tape, m.output, m.size, m.kept, by rw [m.lenV, hl], by rw [m.lenF, hl], fun i o' x f h1 h2 h3 => by
    have hi : i < H.length := by rw [← hl]; exact (List.getElem?_eq_some_iff.1 h1).1
    exact h i H[i] o' x f (List.getElem?_eq_getElem hi) h1 h2 h3 (m.obs i H[i] x f (List.getElem?_eq_getElem hi) h2 h3), m.one, m.apart, m.own, m.car⟩
theorem AWPD.asO {o o' : OD} (i : Nat) (hH : getOD Hd i = some o) (ho : ∀ ok w V x f, ORep ok w V x f o.ob → ORep ok w V x f o'.ob) (h : AWPD P C c Q fr (setOD Hd i o')) : AWPD P C c Q fr Hd := by
  refine AWP.conv (s' := ⟨frA fr, (setOD Hd i o').map OD.ob⟩) (fun rd a w ⟨V, F, m, hd, hsz, hf⟩ => ⟨V, F, ?_, hd, hsz, hf⟩) h
  refine memAs m (by simp [setOD_map]) fun k q q' x f h1 h2 h3 h4 h5 => ?_
  have k1 : (Hd.map OD.ob)[k]? = some q := h1
  have k2 : ((setOD Hd i o').map OD.ob)[k]? = some q' := h2
  clear h1 h2
  rw [setOD_map, List.getElem?_set] at k2
  by_cases hik : i = k
  · subst hik
    rw [if_pos rfl] at k2
    split at k2
    · cases k2
      rw [getOD_map hH] at k1
      cases k1
      exact ho _ _ _ _ _ h5
    · cases k2
  · rw [if_neg hik, k1] at k2
    cases k2
    exact h5
/-- One row more, that is not there yet. -/
theorem AWPD.holeM {hd : List Value} {os : List OD} (j : Nat) (v : Value) (hH : getOD Hd j = some (rowsO hd os)) (h : AWPD P C c Q fr (setOD Hd j (rowsO (hd ++ [v]) (os ++ [.dead])))) : AWPD P C c Q fr Hd := by
  refine AWPD.asO j hH (fun ok w V x f ho => ?_) h
  obtain ⟨fs, ⟨h1, h2, h3, h4⟩, rfl⟩ := orep_rows.1 ho
  refine orep_rows.2 ⟨fs ++ [[]], ⟨by simp [h1], by simp [h2], fun i o f hi hf => ?_, fun i k f g b hi hk hb hb' => ?_⟩, by simp⟩
  · by_cases hlt : i < os.length
    · rw [List.getElem?_append_left hlt] at hi
      rw [List.getElem?_append_left (by omega)] at hf
      have e : (hd ++ [v]).getD i undef = hd.getD i undef := by
        simp only [List.getD_eq_getElem?_getD]
        rw [List.getElem?_append_left (by omega)]
      rw [e]
      exact h3 i o f hi hf
    · have h5 := (List.getElem?_eq_some_iff.1 hi).1
      simp at h5
      have e : i = os.length := by omega
      subst e
      simp at hi
      subst hi
      rw [List.getElem?_append_right (by omega), show os.length - fs.length = 0 by omega] at hf
      simp at hf
      subst hf
      exact orep_dead.2 rfl
  · have old : ∀ (i : Nat) (f : List Nat) (b : Nat), (fs ++ [[]])[i]? = some f → b ∈ f → fs[i]? = some f := fun i f b hi hb => by
      by_cases hlt : i < fs.length
      · rwa [List.getElem?_append_left hlt] at hi
      · have h5 := (List.getElem?_eq_some_iff.1 hi).1
        simp at h5
        rw [List.getElem?_append_right (by omega), show i - fs.length = 0 by omega] at hi
        simp at hi
        subst hi
        cases hb
    exact h4 i k f g b (old i f b hi hb) (old k g b hk hb') hb hb'
/-- '[][]T{row}', the row the call's own. -/
theorem StepD.buildH {T e : TypeId} {τ : Ty} {bytes k : Nat} {parts : Array (Nat × Operand)} {x : Operand} (ok : TabOK P tb) (hT : findT tb.sl T = some (e, τ, bytes)) (hs : τ.size = 1) (hp : parts.toList = [(0, x)]) (hx : evS tb.E fr x = some (.ob k)) :
    StepD P C tb fr ⟨d, .buildSlice T 1 parts, t, ps, af, g⟩ Hd (.raw (.rd 1 [.ob k])) Hd := fun ρA hρ => by
  have hA := (ok.sl _ (findT_mem hT)).2
  simp only at hA
  rw [hs] at hA
  exact VStep.buildSlice (avs := [.ob k]) (cs := [.ob k]) (by rw [hp]; simp only [List.map_cons, List.map_nil, evs, hρ.1 _ _ hx]; rfl) (by rw [hp]; rfl) hA rfl rfl (fun a ha => by simp at ha; subst ha; rfl) (by omega)
theorem flat_one : ∀ l : List AV, l.flatMap (fun a => [a]) = l
  | [] => rfl
  | a :: l => by rw [List.flatMap_cons, flat_one l]; rfl
/-- It is laid behind the others. -/
theorem StepD.appendH {T e : TypeId} {τ : Ty} {bytes m k : Nat} {s x : Operand} {xs : List Value} (ok : TabOK P tb) (hT : findT tb.sl T = some (e, τ, bytes)) (hs : τ.size = 1) (hS : evS tb.E fr s = some (.ob m)) (hx : evS tb.E fr x = some (.raw (.rd 1 [.ob k]))) (hH : getOD Hd m = some (.row e .val xs)) (hb : (xs.length + 1) * bytes ≤ 140737488355328 ∧ xs.length + 1 ≤ 9223372036854775807) :
    StepD P C tb fr ⟨d, .call { callee := .builtin .append, args := #[s, x], argTypes := #[T, T] }, t, ps, af, g⟩ Hd (.ob (lenOD Hd)) (setOD Hd m .dead ++ [.raw (.row e 1 ((((xs ++ [.slice none 0 0] : List Value) : List (Ty.val).T).flatMap (gT .val)).set xs.length (.ob k)))]) := fun ρA hρ => by
  have hA := (ok.sl _ (findT_mem hT)).2
  simp only at hA
  rw [hs] at hA
  have e1 : ((xs : List (Ty.val).T).flatMap (gT .val)) = ((xs.map fun v => AV.v (hdV v)).flatMap fun a => [a]) := by rw [flat_one, vals_map (τ := .val) hdV (fun _ => rfl) xs, List.map_map]; rfl
  have hg := getOD_map hH
  have hg : (Hd.map OD.ob)[m]? = some (.row e 1 ((xs : List (Ty.val).T).flatMap (gT .val))) := hg
  rw [e1] at hg
  have := VStep.append (P := P) (C := C) (d := d) (t := t) (p := ps) (af := af) (g := g) (ρ := ρA) (H := Hd.map OD.ob) (gg := fun a => [a]) (xs := xs.map fun v => AV.v (hdV v)) [.ob k] (T := T) (e := e) (size := 1) (bytes := bytes) (i := m) (s := s) (x := x) (cs := [.ob k]) (hρ.1 _ _ hS) (hρ.1 _ _ hx) hg hA rfl (fun _ => rfl) rfl (by simpa using hb.1) (by simp only [List.length_map, List.length_singleton, Nat.mul_one]; exact hb.2)
  rw [flat_one] at this
  rw [List.map_append, setOD_map, lenOD_map]
  have e2 : ((((xs ++ [.slice none 0 0] : List Value) : List (Ty.val).T).flatMap (gT .val)).set xs.length (.ob k)) = (xs.map fun v => AV.v (hdV v)) ++ [.ob k] := by
    rw [vals_map (τ := .val) hdV (fun _ => rfl) (xs ++ [(.slice none 0 0 : Value)] : List Value), List.map_map, List.map_append, List.set_append_right _ _ (by simp)]
    simp
  rw [e2]
  exact this

/-- All rows are only read from here on. -/
theorem AWPD.freezeM {e : TypeId} {τ : Ty} (tt j : Nat) {hd : List Value} {os : List OD} (rows : List (List τ.T)) (hC : C.F0 = []) (hl : lookD fr tt = some (.sl .val hd)) (hH : getOD Hd j = some (rowsO hd os)) (hos : os = rows.map fun r => .row e τ r)
    (h : AWPD P C c Q ((tt, .sl (.sl τ) rows) :: fr) (setOD Hd j .dead)) : AWPD P C c Q fr Hd := by
  subst hos
  intro rd ac w ⟨V, F, m, hdf, hsz, hf⟩
  obtain ⟨y, fp, hy, hfp, ho⟩ := m.get (getOD_map hH)
  obtain ⟨fs, ⟨g1, g2, g3, g4⟩, rfl⟩ := orep_rows.1 ho
  obtain ⟨m', e'⟩ := m.set (w' := w) j .dead fs.flatten [] y hy hfp rfl rfl rfl (Nat.le_refl _) (fun _ _ _ => rfl) (fun b hb => by simp at hb) (fun _ => by unfold ORep; rfl)
  refine h rd ac w ⟨V, F.set j [], ?_, hdf.ext e', hsz, fun t2 av ht => ?_⟩
  · rw [setOD_map]; exact m'
  · simp only [frA] at ht
    rw [look_cons] at ht
    by_cases hat : tt = t2
    · subst hat
      rw [if_pos rfl] at ht
      cases ht
      obtain ⟨x, hx, hr⟩ := hf tt _ (by rw [frA_look, hl]; rfl)
      refine ⟨x, hx, ?_⟩
      have hr : VRep (okB C w F) w V (.rd 1 ((hd : List (Ty.val).T).flatMap (gT .val))) x := hr
      show VRep (okB C w (F.set j [])) w V (.rd 1 (rows.flatMap (gT (.sl τ)))) x
      rw [vals_map (τ := .val) hdV (fun _ => rfl) hd] at hr
      unfold VRep at hr ⊢
      obtain ⟨hs, A, n, cc, hxe, hlen, hn, hcc, hcells⟩ := hr
      have hrl : rows.length = hd.length := by simpa using g1
      refine ⟨hs, A, n, cc, hxe, by rw [flatMap_len (size := 1) (fun _ => rfl), hrl]; simpa using hlen, hn, hcc, fun hne => ?_⟩
      have hne2 : (hd.map hdV).map AV.v ≠ [] := fun e0 => hne (by
        have : hd.length = 0 := by simpa using congrArg List.length e0
        rw [List.eq_nil_of_length_eq_zero (by omega : rows.length = 0)]; rfl)
      obtain ⟨ad, us, hA, hok, hcell, hus⟩ := hcells hne2
      have hus2 := VReps.vals_eq hus
      subst hus2
      refine ⟨ad, _, hA, (e'.blk _ hok).1, hcell, ?_⟩
      have hfl : rows.flatMap (gT (.sl τ)) = rows.map fun r => AV.rd τ.size (r.flatMap (gT τ)) := by
        clear g1 g2 g3 g4 ho hH hrl hne h m' e' hfp
        induction rows with
        | nil => rfl
        | cons a r ih => rw [List.flatMap_cons, ih]; rfl
      rw [hfl]
      refine VReps.mk (by simp [hrl]) fun i a u ha hu => ?_
      rw [List.getElem?_map] at ha hu
      cases hri : rows[i]? with
      | none => rw [hri] at ha; cases ha
      | some row =>
        rw [hri] at ha
        cases ha
        have hil := (List.getElem?_eq_some_iff.1 hri).1
        have hih : i < hd.length := by omega
        rw [List.getElem?_eq_getElem hih] at hu
        cases hu
        have hif : i < fs.length := by omega
        have hfi : fs[i]? = some fs[i] := List.getElem?_eq_getElem hif
        have hoi := g3 i (.row e τ row) _ (by rw [List.getElem?_map, hri]; rfl) hfi
        have hgd : hd.getD i undef = hd[i] := by simp [List.getD, hih]
        rw [hgd] at hoi
        refine own_read hoi (frees_flatMap (gT_free τ) row) (fun _ hb => hb.elim) fun b hb => ?_
        have hbf : b ∈ fs.flatten := flat_mem.2 ⟨i, _, hfi, hb⟩
        have hown := m.own _ (mem_of_get hfp) b hbf
        refine ⟨?_, hown.1, fun q hq hbq => ?_⟩
        · rcases hown.2 with h1 | h1
          · rw [hC] at h1; cases h1
          · exact .inr h1
        · obtain ⟨jj, hjj⟩ := List.getElem?_of_mem hq
          rw [List.getElem?_set] at hjj
          split at hjj
          · split at hjj
            · cases hjj; cases hbq
            · cases hjj
          · rename_i hij
            exact hij (m.apart j jj _ q b hfp hjj hbf hbq)
    · rw [if_neg hat] at ht
      obtain ⟨x, hx, hr⟩ := hf t2 av ht
      exact ⟨x, hx, e'.rep hr⟩
end
end Go.Qw
