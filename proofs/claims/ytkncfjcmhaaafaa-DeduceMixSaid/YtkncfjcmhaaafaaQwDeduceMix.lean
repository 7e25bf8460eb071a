/-
  'DeduceMix' answers true whatever its arguments are, and leaves them as they were.
-/
import Derived.Test.YtkncfjcmhaaafaaQwRt
import Derived.Test.YtkncfjcmhaaafaaQwDg
import Derived.Test.YtkncfjcmhaaafaaRows
namespace Go.Proofs.Ytkncfjcmhaaafaa
open Go Go.Qw Go.RowKit Go.ChangeShapes Go.WideShapes Go.ChangeAt

theorem ownDeduceMix : ownKnob Try.prog.godebug = none := by kernel_rfl
theorem laidOutDeduceMix : laidOutB Try.prog = true := by kernel_rfl

set_option maxRecDepth 100000 in
theorem deduceMix_lifted (os : Os) (started : os.Started) (H : Type) (enc : TypeId × Value → H) :
    ReturnsInHanded {} Try.checked os 5 .any (Rows.deduceMixSpec.pre6 enc Try.prog Try.f5 Rows.deduceMixRow.domain false) (Rows.deduceMixSpec.post enc Try.prog Try.f5 false true false false) := by
  refine returnsInHanded_of_change (C := Try.checked) ownDeduceMix started (by kernel_rfl) Try.func5
    (ChangeSpec.witness6 (enc := enc) (C := Try.checked) false ⟨#[], #[.slice none 0 0], []⟩ 8 (by kernel_rfl) (by kernel_rfl) (by kernel_rfl) (by kernel_rfl)) ?_
  intro W base args ds gs before hval0 hW _ _
  have hval : ∀ (j : Nat) t v, Try.f5.params[j]? = some t → args[j]? = some v → Value.okWide Try.prog W .any base t v := hval0
  have hW0 := hW
  obtain ⟨p, q, hA, hV, _, _, _⟩ := hW0
  have hA' : DataW.TrodAll enc Try.prog W 0 (fun _ => true) true Try.f5.params.toList args.toList ds p := hA
  rw [Try.params5] at hA' hval
  obtain ⟨v0, vs0, d0, ds0, p0, q0, hargs0, hds0, _, h0, r0⟩ := trodAll_cons hA'
  obtain ⟨hargsE, hdsE, _⟩ := trodAll_nil r0
  subst hargsE hdsE
  have hargs : args = #[v0] := by rw [← Array.toArray_toList (xs := args), hargs0]
  subst hargs hds0
  obtain ⟨a0, rep0, sz0⟩ := rep_twos Try.underlying22 Try.underlying24 Try.underlying3 (by kernel_rfl) (by kernel_rfl) (hval 0 22 v0 rfl rfl) h0
  have hgs : gs = [] := (trodVars_none hV).1
  have hv : VReps (okR W) W [] (DV.avs [.sl .two a0]) (#[v0] : Array Value).toList := by
    simp only [DV.avs]
    unfold VReps VReps
    exact ⟨_, _, rfl, rep0, rfl⟩
  refine ((deduceMix_fn a0).calls_true hv).mono fun e W' ⟨he, hb⟩ => ⟨.bool true, he, ?_⟩
  subst hgs
  exact post_true laidOutDeduceMix (by kernel_rfl) Try.underlying4 (by decide) rfl rfl rfl rfl hW hb

theorem deduceMix_holds : Rows.DeduceMixSaid :=
  OpenClaim.holds_of_wide 5 Try.f5 rfl rfl rfl rfl rfl rfl rfl ⟨rfl, rfl, rfl, rfl, rfl⟩ rfl rfl rfl rfl rfl (by kernel_rfl) Try.func5 (by kernel_rfl)
    (of_decide_eq_true (by kernel_rfl)) (by unfold Func.isWrapper; rw [if_neg (of_decide_eq_false (by kernel_rfl))]; exact ⟨rfl, rfl⟩)
    (fun os started H enc _ => deduceMix_lifted os started H enc)
end Go.Proofs.Ytkncfjcmhaaafaa
