/-
  'PartClasses' answers true whatever its arguments are, and leaves them as they were.
-/
import Derived.Test.YtkdihpajgmiolaaQwR
import Derived.Test.YtkdihpajgmiolaaQwPc
import Derived.Test.YtkdihpajgmiolaaRows
namespace Go.Proofs.Ytkdihpajgmiolaa
open Go Go.Qw Go.RowKit Go.ChangeShapes Go.WideShapes Go.ChangeAt

theorem ownPartClasses : ownKnob Try.prog.godebug = none := by kernel_rfl
theorem laidOutPartClasses : laidOutB Try.prog = true := by kernel_rfl

set_option maxRecDepth 100000 in
theorem partClasses_lifted (os : Os) (started : os.Started) (H : Type) (enc : TypeId × Value → H) :
    ReturnsInHanded {} Try.checked os 6 .any (Rows.partClassesSpec.pre6 enc Try.prog Try.f6 Rows.partClassesRow.domain false) (Rows.partClassesSpec.post enc Try.prog Try.f6 false true false false) := by
  refine returnsInHanded_of_change (C := Try.checked) ownPartClasses started (by kernel_rfl) Try.func6
    (ChangeSpec.witness6 (enc := enc) (C := Try.checked) false ⟨#[], #[.slice none 0 0], []⟩ 8 (by kernel_rfl) (by kernel_rfl) (by kernel_rfl) (by kernel_rfl)) ?_
  intro W base args ds gs before hval0 hW _ _
  have hval : ∀ (j : Nat) t v, Try.f6.params[j]? = some t → args[j]? = some v → Value.okWide Try.prog W .any base t v := hval0
  have hW0 := hW
  obtain ⟨p, q, hA, hV, _, _, _⟩ := hW0
  have hA' : DataW.TrodAll enc Try.prog W 0 (fun _ => true) true Try.f6.params.toList args.toList ds p := hA
  rw [Try.params6] at hA' hval
  obtain ⟨v0, vs0, d0, ds0, p0, q0, hargs0, hds0, _, h0, r0⟩ := trodAll_cons hA'
  obtain ⟨hargsE, hdsE, _⟩ := trodAll_nil r0
  subst hargsE hdsE
  have hargs : args = #[v0] := by rw [← Array.toArray_toList (xs := args), hargs0]
  subst hargs hds0
  obtain ⟨a0, rep0, in0⟩ := rep_ints Try.underlying22 Try.underlying3 (by kernel_rfl) (hval 0 22 v0 rfl rfl) h0
  have hgs : gs = [] := (trodVars_none hV).1
  have hv : VReps (okR W) W [] (DV.avs [.sl .int a0]) (#[v0] : Array Value).toList := by
    simp only [DV.avs]
    unfold VReps VReps
    exact ⟨_, _, rfl, rep0, rfl⟩
  refine ((partClasses_fn a0).calls_true hv).mono fun e W' ⟨he, hb⟩ => ⟨.bool true, he, ?_⟩
  subst hgs
  exact post_true laidOutPartClasses (by kernel_rfl) Try.underlying4 (by decide) rfl rfl rfl rfl hW hb

theorem partClasses_holds : Rows.PartClassesSaid :=
  OpenClaim.holds_of_wide 6 Try.f6 rfl rfl rfl rfl rfl rfl rfl ⟨rfl, rfl, rfl, rfl, rfl⟩ rfl rfl rfl rfl rfl (by kernel_rfl) Try.func6 (by kernel_rfl)
    (of_decide_eq_true (by kernel_rfl)) (by unfold Func.isWrapper; rw [if_neg (of_decide_eq_false (by kernel_rfl))]; exact ⟨rfl, rfl⟩)
    (fun os started H enc _ => partClasses_lifted os started H enc)
end Go.Proofs.Ytkdihpajgmiolaa
