/-
  'SplitAdds' answers true whatever its arguments are, and leaves them as they were.
-/
import Derived.Test.YtdikoipldcjcpaaQwR
import Derived.Test.YtdikoipldcjcpaaQwSpL
import Derived.Test.YtdikoipldcjcpaaRows
namespace Go.Proofs.Ytdikoipldcjcpaa
open Go Go.Qw Go.RowKit Go.ChangeShapes Go.WideShapes Go.ChangeAt

theorem ownSplitAdds : ownKnob Try.prog.godebug = none := by kernel_rfl
theorem laidOutSplitAdds : laidOutB Try.prog = true := by kernel_rfl

set_option maxRecDepth 100000 in
theorem splitAdds_lifted (os : Os) (started : os.Started) (H : Type) (enc : TypeId × Value → H) :
    ReturnsInHanded {} Try.checked os 7 .any (Rows.splitAddsSpec.pre6 enc Try.prog Try.f7 Rows.splitAddsRow.domain false) (Rows.splitAddsSpec.post enc Try.prog Try.f7 false true false false) := by
  refine returnsInHanded_of_change (C := Try.checked) ownSplitAdds started (by kernel_rfl) Try.func7
    (ChangeSpec.witness6 (enc := enc) (C := Try.checked) false ⟨#[], #[.int .i64 0, .int .i64 0, .int .i64 0, .slice none 0 0, .slice none 0 0, .int .i64 0], []⟩ 8 (by kernel_rfl) (by kernel_rfl) (by kernel_rfl) (by kernel_rfl)) ?_
  intro W base args ds gs before hval0 hW _ _
  have hval : ∀ (j : Nat) t v, Try.f7.params[j]? = some t → args[j]? = some v → Value.okWide Try.prog W .any base t v := hval0
  have hW0 := hW
  obtain ⟨p, q, hA, hV, _, _, _⟩ := hW0
  have hA' : DataW.TrodAll enc Try.prog W 0 (fun _ => true) true Try.f7.params.toList args.toList ds p := hA
  rw [Try.params7] at hA' hval
  obtain ⟨v0, vs0, d0, ds0, p0, q0, hargs0, hds0, _, h0, r0⟩ := trodAll_cons hA'
  obtain ⟨v1, vs1, d1, ds1, p1, q1, hargs1, hds1, _, h1, r1⟩ := trodAll_cons r0
  obtain ⟨v2, vs2, d2, ds2, p2, q2, hargs2, hds2, _, h2, r2⟩ := trodAll_cons r1
  obtain ⟨v3, vs3, d3, ds3, p3, q3, hargs3, hds3, _, h3, r3⟩ := trodAll_cons r2
  obtain ⟨v4, vs4, d4, ds4, p4, q4, hargs4, hds4, _, h4, r4⟩ := trodAll_cons r3
  obtain ⟨v5, vs5, d5, ds5, p5, q5, hargs5, hds5, _, h5, r5⟩ := trodAll_cons r4
  obtain ⟨hargsE, hdsE, _⟩ := trodAll_nil r5
  subst hargsE hdsE hargs5 hds5 hargs4 hds4 hargs3 hds3 hargs2 hds2 hargs1 hds1
  have hargs : args = #[v0, v1, v2, v3, v4, v5] := by rw [← Array.toArray_toList (xs := args), hargs0]
  subst hargs hds0
  obtain ⟨a0, rep0, in0⟩ := rep_int Try.underlying3 (hval 0 3 v0 rfl rfl) h0
  obtain ⟨a1, rep1, in1⟩ := rep_int Try.underlying3 (hval 1 3 v1 rfl rfl) h1
  obtain ⟨a2, rep2, in2⟩ := rep_int Try.underlying3 (hval 2 3 v2 rfl rfl) h2
  obtain ⟨a3, rep3, in3⟩ := rep_ints Try.underlying28 Try.underlying3 (by kernel_rfl) (hval 3 28 v3 rfl rfl) h3
  obtain ⟨a4, rep4, in4⟩ := rep_ints Try.underlying28 Try.underlying3 (by kernel_rfl) (hval 4 28 v4 rfl rfl) h4
  obtain ⟨a5, rep5, in5⟩ := rep_int Try.underlying3 (hval 5 3 v5 rfl rfl) h5
  have hgs : gs = [] := (trodVars_none hV).1
  have hv : VReps (okR W) W [] (DV.avs [.i a0, .i a1, .i a2, .sl .int a3, .sl .int a4, .i a5]) (#[v0, v1, v2, v3, v4, v5] : Array Value).toList := by
    simp only [DV.avs]
    unfold VReps VReps VReps VReps VReps VReps VReps
    exact ⟨_, _, rfl, rep0, _, _, rfl, rep1, _, _, rfl, rep2, _, _, rfl, rep3, _, _, rfl, rep4, _, _, rfl, rep5, rfl⟩
  refine ((splitAdds_fn a0 a1 a2 a3 a4 a5).calls_true hv).mono fun e W' ⟨he, hb⟩ => ⟨.bool true, he, ?_⟩
  subst hgs
  exact post_true laidOutSplitAdds (by kernel_rfl) Try.underlying4 (by decide) rfl rfl rfl rfl hW hb

theorem splitAdds_holds : Rows.SplitAddsSaid :=
  OpenClaim.holds_of_wide 7 Try.f7 rfl rfl rfl rfl rfl rfl rfl ⟨rfl, rfl, rfl, rfl, rfl⟩ rfl rfl rfl rfl rfl (by kernel_rfl) Try.func7 (by kernel_rfl)
    (of_decide_eq_true (by kernel_rfl)) (by unfold Func.isWrapper; rw [if_neg (of_decide_eq_false (by kernel_rfl))]; exact ⟨rfl, rfl⟩)
    (fun os started H enc _ => splitAdds_lifted os started H enc)
end Go.Proofs.Ytdikoipldcjcpaa
