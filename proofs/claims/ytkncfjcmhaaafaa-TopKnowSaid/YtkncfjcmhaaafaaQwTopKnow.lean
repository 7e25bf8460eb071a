/-
  'TopKnow' answers true whatever its arguments are, and leaves them as they were.
-/
import Derived.Test.YtkncfjcmhaaafaaQwRt
import Derived.Test.YtkncfjcmhaaafaaQwTk
import Derived.Test.YtkncfjcmhaaafaaRows
namespace Go.Proofs.Ytkncfjcmhaaafaa
open Go Go.Qw Go.RowKit Go.ChangeShapes Go.WideShapes Go.ChangeAt

theorem ownTopKnow : ownKnob Try.prog.godebug = none := by kernel_rfl
theorem laidOutTopKnow : laidOutB Try.prog = true := by kernel_rfl

set_option maxRecDepth 100000 in
theorem topKnow_lifted (os : Os) (started : os.Started) (H : Type) (enc : TypeId × Value → H) :
    ReturnsInHanded {} Try.checked os 6 .any (Rows.topKnowSpec.pre6 enc Try.prog Try.f6 Rows.topKnowRow.domain false) (Rows.topKnowSpec.post enc Try.prog Try.f6 false true false false) := by
  refine returnsInHanded_of_change (C := Try.checked) ownTopKnow started (by kernel_rfl) Try.func6
    (ChangeSpec.witness6 (enc := enc) (C := Try.checked) false ⟨#[], #[.slice none 0 0, .int .i64 0], []⟩ 8 (by kernel_rfl) (by kernel_rfl) (by kernel_rfl) (by kernel_rfl)) ?_
  intro W base args ds gs before hval0 hW _ _
  have hval : ∀ (j : Nat) t v, Try.f6.params[j]? = some t → args[j]? = some v → Value.okWide Try.prog W .any base t v := hval0
  have hW0 := hW
  obtain ⟨p, q, hA, hV, _, _, _⟩ := hW0
  have hA' : DataW.TrodAll enc Try.prog W 0 (fun _ => true) true Try.f6.params.toList args.toList ds p := hA
  rw [Try.params6] at hA' hval
  obtain ⟨v0, vs0, d0, ds0, p0, q0, hargs0, hds0, _, h0, r0⟩ := trodAll_cons hA'
  obtain ⟨v1, vs1, d1, ds1, p1, q1, hargs1, hds1, _, h1, r1⟩ := trodAll_cons r0
  obtain ⟨hargsE, hdsE, _⟩ := trodAll_nil r1
  subst hargsE hdsE hargs1 hds1
  have hargs : args = #[v0, v1] := by rw [← Array.toArray_toList (xs := args), hargs0]
  subst hargs hds0
  obtain ⟨a0, rep0, sz0⟩ := rep_twos Try.underlying22 Try.underlying24 Try.underlying3 (by kernel_rfl) (by kernel_rfl) (hval 0 22 v0 rfl rfl) h0
  obtain ⟨a1, rep1, in1⟩ := rep_int Try.underlying3 (hval 1 3 v1 rfl rfl) h1
  have hgs : gs = [] := (trodVars_none hV).1
  have hv : VReps (okR W) W [] (DV.avs [.sl .two a0, .i a1]) (#[v0, v1] : Array Value).toList := by
    simp only [DV.avs]
    unfold VReps VReps VReps
    exact ⟨_, _, rfl, rep0, _, _, rfl, rep1, rfl⟩
  refine ((topKnow_fn a0 a1).calls_true hv).mono fun e W' ⟨he, hb⟩ => ⟨.bool true, he, ?_⟩
  subst hgs
  exact post_true laidOutTopKnow (by kernel_rfl) Try.underlying4 (by decide) rfl rfl rfl rfl hW hb

theorem topKnow_holds : Rows.TopKnowSaid :=
  OpenClaim.holds_of_wide 6 Try.f6 rfl rfl rfl rfl rfl rfl rfl ⟨rfl, rfl, rfl, rfl, rfl⟩ rfl rfl rfl rfl rfl (by kernel_rfl) Try.func6 (by kernel_rfl)
    (of_decide_eq_true (by kernel_rfl)) (by unfold Func.isWrapper; rw [if_neg (of_decide_eq_false (by kernel_rfl))]; exact ⟨rfl, rfl⟩)
    (fun os started H enc _ => topKnow_lifted os started H enc)
end Go.Proofs.Ytkncfjcmhaaafaa
