/-
  Arrays in a box that are only read from here on; slices of them; a literal of one nil row. No program is named here.
-/
import Derived.Test.YtmeacgkhabnjlaaDoorQwFo
set_option linter.unusedSimpArgs false
set_option linter.unusedVariables false
set_option linter.unusedSectionVars false
namespace Go.Qw
open Go.RowKit

section
variable {P : Program} {C : Ctx} {H : List Ob} {d : Option Nat} {t : TypeId} {p : String} {af : Array Edge} {g : Option (Nat × Bool)} {ρ : Operand → Option AV}
theorem VRep.nilRow {ok : Nat → Prop} {w : World} {V : List Value} {size : Nat} {x : Value} (h0 : 0 < size) (h : VRep ok w V (.v (.slice none 0 0)) x) : VRep ok w V (.rd size []) x := by
  have h := VRep.v_iff.1 h
  subst h
  unfold VRep
  exact ⟨h0, none, 0, 0, rfl, by simp, Nat.le_refl _, Nat.zero_le _, fun hne => absurd rfl hne⟩
theorem VRep.rdNil {ok : Nat → Prop} {w : World} {V : List Value} {size : Nat} {x : Value} (h0 : 0 < size) (h : VRep ok w V (.rd 1 [.v (.slice none 0 0)]) x) : VRep ok w V (.rd 1 [.rd size []]) x := by
  unfold VRep at h ⊢
  obtain ⟨hs, A, n, c, hx, hl, hn, hc, hcells⟩ := h
  refine ⟨hs, A, n, c, hx, hl, hn, hc, fun _ => ?_⟩
  obtain ⟨ad, us, hA, hok, hcell, hus⟩ := hcells (by simp)
  refine ⟨ad, us, hA, hok, hcell, ?_⟩
  unfold VReps at hus ⊢
  obtain ⟨u, rest, rfl, hu, hr⟩ := hus
  exact ⟨u, rest, rfl, hu.nilRow h0, by unfold VReps at hr ⊢; exact hr⟩
theorem Does.weak {o : Oper} {σ : Operand → Value} {H' : List Ob} {a b : AV} {V : List Value} {F : List (List Nat)} {w : World} (hab : ∀ (ok : Nat → Prop) (w : World) (V : List Value) (x : Value), VRep ok w V a x → VRep ok w V b x) (h : Does P C o σ H' a V F w) : Does P C o σ H' b V F w := by
  rcases h with ⟨u, w', h1, V', F', m', e', hu⟩ | ⟨f, vs, h1, h2⟩
  · exact .inl ⟨u, w', h1, V', F', m', e', hab _ _ _ _ hu⟩
  · refine .inr ⟨f, vs, h1, h2.mono ?_⟩
    rintro e w' ⟨u, rfl, V', F', m', e', hu⟩
    exact ⟨u, rfl, V', F', m', e', hab _ _ _ _ hu⟩
end

section
variable {P : Program} {C : Ctx} {tb : Tab} {fr : DF} {H : List OD} {d : Option Nat} {t : TypeId} {p : String} {af : Array Edge} {g : Option (Nat × Bool)}
theorem cells1_iv : ∀ xs : List Int, AV.cells1 (xs.map iv) = true
  | [] => rfl
  | a :: r => by
    have := cells1_iv r
    simp only [AV.cells1, List.all_eq_true] at this ⊢
    intro b hb
    rcases List.mem_cons.1 hb with h | h
    · subst h; rfl
    · exact this b h
/-- An array by value is laid into a box. -/
theorem StepD.storeA {T e : TypeId} {x y : Operand} {xs ys : List Int} {n sz : Nat} (ok : TabOK P tb) (hT : findT tb.agg T = some sz) (hx : evS tb.E fr x = some (.op n 0)) (hy : evS tb.E fr y = some (.agg (intsD ys))) (hH : getOD H n = some (.arr e .int xs)) (hl : xs.length = sz) (hl2 : ys.length = sz) :
    StepD P C tb fr ⟨d, .store T x y, t, p, af, g⟩ H (.u undef) (setOD H n (.arr e .int ys)) := fun ρA hρ => by
  have hA := (ok.agg _ (findT_mem hT)).2
  have hyA : ρA y = some (.agg (ys.map iv)) := by
    have := hρ.1 y _ hy
    simp only [DV.av, intsD_avs] at this
    exact this
  rw [setOD_map]
  have := VStep.storeAggAt (P := P) (C := C) (d := d) (t := t) (p := p) (af := af) (g := g) (hρ.1 x _ hx) hyA (getOD_map hH) (ob_cells_arr _ _ _) hA (by rw [List.length_map]; exact hl2) (cells1_iv ys) (by rw [ints_cells, List.length_map, hl]; omega)
  rw [List.take_zero, List.nil_append, List.drop_of_length_le (by rw [ints_cells, List.length_map, hl]; omega), List.append_nil] at this
  show VStep P C _ _ _ _ (List.set _ n (.box e ((ys : List (Ty.int).T).flatMap (gT .int))))
  rw [ints_cells]
  exact this
/-- '[][]T{nil}'. -/
theorem StepD.buildNil {T e : TypeId} {τ : Ty} {bytes : Nat} {parts : Array (Nat × Operand)} {x : Operand} (ok : TabOK P tb) (hT : findT tb.sl T = some (e, .sl τ, bytes)) (hs : 0 < τ.size) (hp : parts.toList = [(0, x)]) (hx : evS tb.E fr x = some .nil) :
    StepD P C tb fr ⟨d, .buildSlice T 1 parts, t, p, af, g⟩ H (.sl (.sl τ) [[]]) H := fun ρA hρ => by
  have hA := (ok.sl _ (findT_mem hT)).2
  simp only at hA
  have := VStep.buildSlice (P := P) (C := C) (H := H.map OD.ob) (d := d) (t := t) (p := p) (af := af) (g := g) (ρ := ρA) (T := T) (n := 1) (parts := parts) (avs := [.v (.slice none 0 0)]) (cs := [.v (.slice none 0 0)]) (by rw [hp]; simp only [List.map_cons, List.map_nil, evs, hρ.1 _ _ hx]; rfl) (by rw [hp]; rfl) hA rfl rfl (fun a ha => by simp at ha; subst ha; rfl) ⟨by decide, by decide, by show 1 * 1 ≤ _; decide⟩
  exact fun σ w V F m hv => Does.weak (fun ok w V x hr => hr.rdNil hs) (this σ w V F m hv)
variable {Q : Exit → DF → List OD → Prop} {c : Code}
/-- An array in a box is only read from here on. -/
theorem AWPD.freezeA (s : Nat) {i : Nat} {T : TypeId} {xs : List Int} (hC : ∀ b ∈ C.F0, C.X0 b) (hl : lookD fr s = some (.op i 0)) (hH : getOD H i = some (.arr T .int xs)) (h : AWPD P C c Q ((s, .fl .int xs 0 0) :: fr) (setOD H i .dead)) : AWPD P C c Q fr H := by
  refine AWP.conv (Conv.freezeR (a := s) hC (by rw [frA_look, hl]; rfl) (getOD_map hH)) ?_
  have h' := h
  unfold AWPD at h'
  rw [setOD_map] at h'
  exact h'
end
end Go.Qw
