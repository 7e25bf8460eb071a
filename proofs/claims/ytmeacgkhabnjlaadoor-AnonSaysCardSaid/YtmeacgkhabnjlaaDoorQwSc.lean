/-
  An abstract machine over the model's own code: bodies with labels that nothing jumps to. No program is named here.
-/
import Derived.Test.YtmeacgkhabnjlaaDoorQwM
set_option linter.unusedSimpArgs false
set_option linter.unusedVariables false
set_option linter.unusedSectionVars false
namespace Go
section
variable {F : Fence} {n : Nat} {P : Program} {Q : Exit → Act → World → Prop} {a : Act} {w : World} {b : Frame} {k : List Item} {cs : List Frame}
theorem stepR_scope {c : Code} : step P (lone (b.atR a (.code (.scope c) :: k)) cs w) = .next (lone (b.atR a (.code c :: .inScope c :: k)) cs w) :=
  step_lone_go (by simp [stepG, stepG.exec, Frame.atR])
theorem stepR_inScope {c : Code} : step P (lone (b.atR a (.inScope c :: k)) cs w) = .next (lone (b.atR a k) cs w) :=
  step_lone_go (by simp [stepG, stepG.exec, Frame.atR])
def Exit.noGotoQ (Q : Exit → Act → World → Prop) : Exit → Act → World → Prop
  | .goto _, _, _ => False
  | e, a, w => Q e a w
theorem wpIn_scope {c : Code} (h : c.wpIn F n P (Exit.noGotoQ Q) a w) : (Code.scope c).wpIn F n P Q a w := by
  intro b k cs hro hb hr
  have h0 : (lone (b.atR a (.code (.scope c) :: k)) cs w).fenced P F := fenced_calm hb hr rfl
  obtain ⟨e, a₁, w₁, hq, harr⟩ := h b (.inScope c :: k) cs hro hb hr
  cases e with
  | normal => exact ⟨.normal, a₁, w₁, hq, .head h0 stepR_scope (StepsIn.trans harr (.one (fenced_calm hb hr rfl) stepR_inScope))⟩
  | exit id =>
    have hx : exitTo id (.inScope c :: k) = exitTo id k := by simp [exitTo]
    exact ⟨.exit id, a₁, w₁, hq, fun k' hk => .head h0 stepR_scope (harr.1 k' (by rw [hx]; exact hk)),
      fun hr' hk => let ⟨k₁, h1, h2⟩ := harr.2 hr' (by rw [hx]; exact hk); ⟨k₁, h1, .head h0 stepR_scope h2⟩⟩
  | goto l => exact hq.elim
  | ret => exact ⟨_, a₁, w₁, hq, .of_steps (.one h0 stepR_scope) harr⟩
  | panic ch => exact ⟨_, a₁, w₁, hq, .of_steps (.one h0 stepR_scope) harr⟩
  | outgrown => exact ⟨_, a₁, w₁, hq, .of_steps (.one h0 stepR_scope) harr⟩
end
end Go
namespace Go.Qw
open Go.RowKit
section
variable {P : Program} {C : Ctx} {Q : Exit → DF → List OD → Prop} {fr : DF} {H : List OD}
def noGotoD (Q : Exit → DF → List OD → Prop) : Exit → DF → List OD → Prop
  | .goto _, _, _ => False
  | e, fr, H => Q e fr H
theorem AWPD.scope {c : Code} (h : AWPD P C c (noGotoD Q) fr H) : AWPD P C (.scope c) Q fr H := fun rd a w hr => by
  refine wpIn_scope (wpIn_mono (h rd a w hr) fun e a' w' ⟨s', ⟨fr', H', h1, hs⟩, h2⟩ => ?_)
  cases e with
  | goto l => exact h1.elim
  | exit id => exact ⟨s', ⟨fr', H', h1, hs⟩, h2⟩
  | normal => exact ⟨s', ⟨fr', H', h1, hs⟩, h2⟩
  | ret => exact ⟨s', ⟨fr', H', h1, hs⟩, h2⟩
  | panic ch => exact ⟨s', ⟨fr', H', h1, hs⟩, h2⟩
  | outgrown => exact ⟨s', ⟨fr', H', h1, hs⟩, h2⟩
theorem AWPD.label {l : Nat} (h : Q .normal fr H) : AWPD P C (.label l) Q fr H := fun rd _ _ hr => wpIn_label ⟨_, ⟨fr, H, h, rfl⟩, hr⟩
/-- A nil slice reads as a slice of nothing. -/
theorem AWPD.nilSl {c : Code} (t : Nat) (τ : Ty) (hl : lookD fr t = some .nil) (hs : 0 < τ.size) (h : AWPD P C c Q ((t, .sl τ []) :: fr) H) : AWPD P C c Q fr H :=
  AWP.conv (s' := ⟨frA ((t, .sl τ []) :: fr), H.map OD.ob⟩) (fun _ _ _ ⟨V, F, m, hd, hsz, hf⟩ => ⟨V, F, m, hd, hsz, fun t' a ht => by
    have ht : look (frA ((t, .sl τ []) :: fr)) t' = some a := ht
    rw [frA_look] at ht
    simp only [lookD] at ht
    cases hb : Nat.beq t t' with
    | true =>
      rw [hb] at ht
      have e := Nat.eq_of_beq_eq_true hb
      subst e
      obtain ⟨x, hx, hr⟩ := hf t (DV.nil).av (by show look (frA fr) t = _; rw [frA_look, hl]; rfl)
      cases ht
      exact ⟨x, hx, fitD_rep (d := .nil) (r := .sl τ []) ⟨rfl, hs⟩ hr⟩
    | false =>
      rw [hb] at ht
      exact hf t' a (by show look (frA fr) t' = _; rw [frA_look]; exact ht)⟩) h
end
end Go.Qw
