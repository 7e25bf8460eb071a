/-
  'CipherBack' answers true whatever its arguments are, and leaves them as they were.
-/
import Derived.Test.YtdikoipldcjcpaaQwR
import Derived.Test.YtdikoipldcjcpaaQwCiW
import Derived.Test.YtdikoipldcjcpaaRows
namespace Go.Proofs.Ytdikoipldcjcpaa
open Go Go.Qw Go.RowKit Go.ChangeShapes Go.WideShapes Go.ChangeAt

theorem own : ownKnob Try.prog.godebug = none := by kernel_rfl
theorem laidOut : laidOutB Try.prog = true := by kernel_rfl

set_option maxRecDepth 100000 in
theorem cipherBack_lifted (os : Os) (started : os.Started) (H : Type) (enc : TypeId × Value → H) :
    ReturnsInHanded {} Try.checked os 5 .any (Rows.cipherBackSpec.pre6 enc Try.prog Try.f5 Rows.cipherBackRow.domain false) (Rows.cipherBackSpec.post enc Try.prog Try.f5 false true false false) := by
  refine returnsInHanded_of_change (C := Try.checked) own started (by kernel_rfl) Try.func5
    (ChangeSpec.witness6 (enc := enc) (C := Try.checked) false ⟨#[], #[.slice none 0 0, .int .i64 0, .int .i64 0], []⟩ 8 (by kernel_rfl) (by kernel_rfl) (by kernel_rfl) (by kernel_rfl)) ?_
  intro W base args ds gs before hval0 hW _ _
  have hval : ∀ (j : Nat) t v, Try.f5.params[j]? = some t → args[j]? = some v → Value.okWide Try.prog W .any base t v := hval0
  have hW0 := hW
  obtain ⟨p, q, hA, hV, _, _, _⟩ := hW0
  have hA' : DataW.TrodAll enc Try.prog W 0 (fun _ => true) true Try.f5.params.toList args.toList ds p := hA
  rw [Try.params5] at hA' hval
  obtain ⟨v0, v1, v2, d0, d1, d2, p0, p1, p2, rfl, hds, _, h0, h1, h2⟩ := trodAll_three hA'
  obtain ⟨t, rt, _⟩ := rep_rows Try.underlying22 Try.underlying28 Try.underlying3 (by kernel_rfl) (by kernel_rfl) (hval 0 22 v0 rfl rfl) h0
  obtain ⟨k, rk, _⟩ := rep_int Try.underlying3 (hval 1 3 v1 rfl rfl) h1
  obtain ⟨m, rm, _⟩ := rep_int Try.underlying3 (hval 2 3 v2 rfl rfl) h2
  have hgs : gs = [] := (trodVars_none hV).1
  have hv : VReps (okR W) W [] (DV.avs [.sl (.sl .int) t, .i k, .i m]) (#[v0, v1, v2] : Array Value).toList := by
    simp only [DV.avs]
    unfold VReps VReps VReps VReps
    exact ⟨_, _, rfl, rt, _, _, rfl, rk, _, _, rfl, rm, rfl⟩
  refine ((cipherBack_fn t k m).calls_true hv).mono fun e W' ⟨he, hb⟩ => ⟨.bool true, he, ?_⟩
  subst hds hgs
  exact post_true laidOut (by kernel_rfl) Try.underlying4 (by decide) rfl rfl rfl rfl hW hb

theorem cipherBack_holds : Rows.CipherBackSaid :=
  OpenClaim.holds_of_wide 5 Try.f5 rfl rfl rfl rfl rfl rfl rfl ⟨rfl, rfl, rfl, rfl, rfl⟩ rfl rfl rfl rfl rfl (by kernel_rfl) Try.func5 (by kernel_rfl)
    (of_decide_eq_true (by kernel_rfl)) (by unfold Func.isWrapper; rw [if_neg (of_decide_eq_false (by kernel_rfl))]; exact ⟨rfl, rfl⟩)
    (fun os started H enc _ => cipherBack_lifted os started H enc)
end Go.Proofs.Ytdikoipldcjcpaa
