/-
  'AnonLowest' answers true whatever its arguments are, and leaves them as they were.
-/
import Derived.Test.YtmeacgkhabnjlaaQwV
import Derived.Test.YtmeacgkhabnjlaaQwAl
import Derived.Test.YtmeacgkhabnjlaaRows
set_option linter.unusedSimpArgs false
set_option linter.unusedVariables false
set_option linter.unusedSectionVars false
namespace Go.Proofs.Ytmeacgkhabnjlaa
open Go Go.Qw Go.RowKit Go.ChangeShapes Go.WideShapes Go.ChangeAt

theorem ownAnonLowest : ownKnob Try.prog.godebug = none := by kernel_rfl
theorem laidOutAnonLowest : laidOutB Try.prog = true := by kernel_rfl

set_option maxRecDepth 100000 in
theorem anonLowest_lifted (os : Os) (started : os.Started) (H : Type) (enc : TypeId × Value → H) :
    ReturnsInHanded {} Try.checked os 7 .any (Rows.anonLowestSpec.pre6 enc Try.prog Try.f7 Rows.anonLowestRow.domain false) (Rows.anonLowestSpec.post enc Try.prog Try.f7 false true false false) := by
  refine returnsInHanded_of_change (C := Try.checked) ownAnonLowest started (by kernel_rfl) Try.func7
    (ChangeSpec.witness6 (enc := enc) (C := Try.checked) false ⟨#[], #[.slice none 0 0, .int .i64 0, .slice none 0 0], []⟩ 8 (by kernel_rfl) (by kernel_rfl) (by kernel_rfl) (by kernel_rfl)) ?_
  intro W base args ds gs before hval0 hW _ _
  have hval : ∀ (j : Nat) t v, Try.f7.params[j]? = some t → args[j]? = some v → Value.okWide Try.prog W .any base t v := hval0
  have hW0 := hW
  obtain ⟨p, q, hA, hV, _, _, _⟩ := hW0
  have hA' : DataW.TrodAll enc Try.prog W 0 (fun _ => true) true Try.f7.params.toList args.toList ds p := hA
  rw [Try.params7] at hA' hval
  obtain ⟨v0, vs0, d0, ds0, p0, q0, hargs0, hds0, _, h0, r0⟩ := trodAll_cons hA'
  obtain ⟨v1, vs1, d1, ds1, p1, q1, hargs1, hds1, _, h1, r1⟩ := trodAll_cons r0
  obtain ⟨v2, vs2, d2, ds2, p2, q2, hargs2, hds2, _, h2, r2⟩ := trodAll_cons r1
  obtain ⟨hargsE, hdsE, _⟩ := trodAll_nil r2
  subst hargsE hdsE hargs2 hds2 hargs1 hds1
  have hargs : args = #[v0, v1, v2] := by rw [← Array.toArray_toList (xs := args), hargs0]
  subst hargs hds0
  obtain ⟨a0, rep0, in0⟩ := rep_rows Try.underlying44 Try.underlying22 Try.underlying3 (by kernel_rfl) (by kernel_rfl) (hval 0 44 v0 rfl rfl) h0
  obtain ⟨a1, rep1, in1⟩ := rep_int Try.underlying3 (hval 1 3 v1 rfl rfl) h1
  obtain ⟨a2, rep2, in2⟩ := rep_ints Try.underlying22 Try.underlying3 (by kernel_rfl) (hval 2 22 v2 rfl rfl) h2
  have hgs : gs = [] := (trodVars_none hV).1
  have hv : VReps (okR W) W [] (DV.avs [.sl (.sl .int) a0, .i a1, .sl .int a2]) (#[v0, v1, v2] : Array Value).toList := by
    simp only [DV.avs]
    unfold VReps VReps VReps VReps
    exact ⟨_, _, rfl, rep0, _, _, rfl, rep1, _, _, rfl, rep2, rfl⟩
  refine ((anonLowest_fn a0 a1 a2).calls_true hv).mono fun e W' ⟨he, hb⟩ => ⟨.bool true, he, ?_⟩
  subst hgs
  exact post_true laidOutAnonLowest (by kernel_rfl) Try.underlying4 (by decide) rfl rfl rfl rfl hW hb

theorem anonLowest_holds : Rows.AnonLowestSaid :=
  OpenClaim.holds_of_wide 7 Try.f7 rfl rfl rfl rfl rfl rfl rfl ⟨rfl, rfl, rfl, rfl, rfl⟩ rfl rfl rfl rfl rfl (by kernel_rfl) Try.func7 (by kernel_rfl)
    (of_decide_eq_true (by kernel_rfl)) (by unfold Func.isWrapper; rw [if_neg (of_decide_eq_false (by kernel_rfl))]; exact ⟨rfl, rfl⟩)
    (fun os started H enc _ => anonLowest_lifted os started H enc)
end Go.Proofs.Ytmeacgkhabnjlaa
