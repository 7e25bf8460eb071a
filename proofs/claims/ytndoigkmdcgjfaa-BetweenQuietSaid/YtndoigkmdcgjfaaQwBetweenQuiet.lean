/-
  'BetweenQuiet' answers true whatever its arguments are, and leaves them as they were.
-/
import Derived.Test.YtndoigkmdcgjfaaQwV
import Derived.Test.YtndoigkmdcgjfaaQwBq
import Derived.Test.YtndoigkmdcgjfaaRows
namespace Go.Proofs.Ytndoigkmdcgjfaa
open Go Go.Qw Go.RowKit Go.ChangeShapes Go.WideShapes Go.ChangeAt

theorem ownBetweenQuiet : ownKnob Try.prog.godebug = none := by kernel_rfl
theorem laidOutBetweenQuiet : laidOutB Try.prog = true := by kernel_rfl

set_option maxRecDepth 100000 in
theorem betweenQuiet_lifted (os : Os) (started : os.Started) (H : Type) (enc : TypeId × Value → H) :
    ReturnsInHanded {} Try.checked os 9 .any (Rows.betweenQuietSpec.pre6 enc Try.prog Try.f9 Rows.betweenQuietRow.domain false) (Rows.betweenQuietSpec.post enc Try.prog Try.f9 false true false false) := by
  refine returnsInHanded_of_change (C := Try.checked) ownBetweenQuiet started (by kernel_rfl) Try.func9
    (ChangeSpec.witness6 (enc := enc) (C := Try.checked) false ⟨#[], #[.agg #[.int .i64 0, .slice none 0 0, .slice none 0 0, .slice none 0 0], .slice none 0 0, .int .i64 0, .slice none 0 0], []⟩ 8 (by kernel_rfl) (by kernel_rfl) (by kernel_rfl) (by kernel_rfl)) ?_
  intro W base args ds gs before hval0 hW _ _
  have hval : ∀ (j : Nat) t v, Try.f9.params[j]? = some t → args[j]? = some v → Value.okWide Try.prog W .any base t v := hval0
  have hW0 := hW
  obtain ⟨p, q, hA, hV, _, _, _⟩ := hW0
  have hA' : DataW.TrodAll enc Try.prog W 0 (fun _ => true) true Try.f9.params.toList args.toList ds p := hA
  rw [Try.params9] at hA' hval
  obtain ⟨v0, vs0, d0, ds0, p0, q0, hargs0, hds0, _, h0, r0⟩ := trodAll_cons hA'
  obtain ⟨v1, vs1, d1, ds1, p1, q1, hargs1, hds1, _, h1, r1⟩ := trodAll_cons r0
  obtain ⟨v2, vs2, d2, ds2, p2, q2, hargs2, hds2, _, h2, r2⟩ := trodAll_cons r1
  obtain ⟨v3, vs3, d3, ds3, p3, q3, hargs3, hds3, _, h3, r3⟩ := trodAll_cons r2
  obtain ⟨hargsE, hdsE, _⟩ := trodAll_nil r3
  subst hargsE hdsE hargs3 hds3 hargs2 hds2 hargs1 hds1
  have hargs : args = #[v0, v1, v2, v3] := by rw [← Array.toArray_toList (xs := args), hargs0]
  subst hargs hds0
  obtain ⟨mp0, ma0, mn0, ms0, rep0⟩ := rep_mach Try.underlying25 (by kernel_rfl) ⟨rfl, rfl, rfl, rfl⟩ ⟨by kernel_rfl, by kernel_rfl, by kernel_rfl, by kernel_rfl⟩ Try.underlying3 Try.underlying22 Try.underlying3 (by kernel_rfl) Try.underlying23 Try.underlying22 Try.underlying3 (by kernel_rfl) (by kernel_rfl) Try.underlying23 Try.underlying22 Try.underlying3 (by kernel_rfl) (by kernel_rfl) (hval 0 25 v0 rfl rfl) h0
  obtain ⟨a1, rep1, in1⟩ := rep_ints Try.underlying22 Try.underlying3 (by kernel_rfl) (hval 1 22 v1 rfl rfl) h1
  obtain ⟨a2, rep2, in2⟩ := rep_int Try.underlying3 (hval 2 3 v2 rfl rfl) h2
  obtain ⟨a3, rep3, in3⟩ := rep_ints Try.underlying22 Try.underlying3 (by kernel_rfl) (hval 3 22 v3 rfl rfl) h3
  have hgs : gs = [] := (trodVars_none hV).1
  have hv : VReps (okR W) W [] (DV.avs [.agg [.i mp0, .sl .int ma0, .sl (.sl .int) mn0, .sl (.sl .int) ms0], .sl .int a1, .i a2, .sl .int a3]) (#[v0, v1, v2, v3] : Array Value).toList := by
    simp only [DV.avs]
    unfold VReps VReps VReps VReps VReps
    exact ⟨_, _, rfl, rep0, _, _, rfl, rep1, _, _, rfl, rep2, _, _, rfl, rep3, rfl⟩
  refine ((betweenQuiet_fn mp0 ma0 mn0 ms0 a1 a2 a3).calls_true hv).mono fun e W' ⟨he, hb⟩ => ⟨.bool true, he, ?_⟩
  subst hgs
  exact post_true laidOutBetweenQuiet (by kernel_rfl) Try.underlying4 (by decide) rfl rfl rfl rfl hW hb

theorem betweenQuiet_holds : Rows.BetweenQuietSaid :=
  OpenClaim.holds_of_wide 9 Try.f9 rfl rfl rfl rfl rfl rfl rfl ⟨rfl, rfl, rfl, rfl, rfl⟩ rfl rfl rfl rfl rfl (by kernel_rfl) Try.func9 (by kernel_rfl)
    (of_decide_eq_true (by kernel_rfl)) (by unfold Func.isWrapper; rw [if_neg (of_decide_eq_false (by kernel_rfl))]; exact ⟨rfl, rfl⟩)
    (fun os started H enc _ => betweenQuiet_lifted os started H enc)
end Go.Proofs.Ytndoigkmdcgjfaa
