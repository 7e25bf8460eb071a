/-
  'AnonSays' answers true whatever its arguments are, and leaves them as they were; and its card: the listed variables are tied to the program's text.
-/
import Derived.Test.YtmeacgkhabnjlaaDoorQwR
import Derived.Test.YtmeacgkhabnjlaaDoorQwY
import Derived.Test.YtmeacgkhabnjlaaDoorQwSy
import Derived.Test.YtmeacgkhabnjlaaDoorQwDo
set_option linter.unusedSimpArgs false
set_option linter.unusedVariables false
set_option linter.unusedSectionVars false
namespace Go.Proofs.YtmeacgkhabnjlaaDoor
open Go Go.Qw Go.RowKit Go.ChangeShapes Go.WideShapes Go.ChangeAt

set_option maxRecDepth 100000 in
theorem anonSays_lifted (os : Os) (started : os.Started) (H : Type) (enc : TypeId × Value → H) :
    ReturnsInHanded {} Tryd.checked os 5 .any (fun w args => (Rows.anonSaysSpec.pre enc Tryd.prog Tryd.f5 [] false w args ∧ laidMetH Tryd.prog Rows.anonSaysRow.laid w) ∧ sizedMet enc Tryd.prog Tryd.f5 (OpenSpec.ofChange Rows.anonSaysSpec) false w args) (Rows.anonSaysSpec.post enc Tryd.prog Tryd.f5 false true false false) := by
  refine returnsInHanded_of_change_and (C := Tryd.checked) (X := fun w _ => laidMetH Tryd.prog Rows.anonSaysRow.laid w) (fun _ _ _ hh h => h.of_heap hh) doOwn started (by kernel_rfl) Tryd.func5
    (ChangeSpec.witness_shaped (enc := enc) (C := Tryd.checked) (os := os) (X := fun w _ => laidMetH Tryd.prog Rows.anonSaysRow.laid w) false (World.doorLaid Tryd.prog 16 os) #[.slice none 0 0, .slice none 0 0, .int .i64 0] 8 rfl (doShaped os _) (by kernel_rfl) (by kernel_rfl) (by kernel_rfl) (met1 os _)) ?_
  intro W base args ds gs before hval0 hW _ hsz hL _
  have hval : ∀ (j : Nat) t v, Tryd.f5.params[j]? = some t → args[j]? = some v → Value.okWide Tryd.prog W .any base t v := hval0
  have hW0 := hW
  obtain ⟨p, q, hA, hV, _, _, _⟩ := hW0
  have hA' : DataW.TrodAll enc Tryd.prog W 0 (fun _ => true) true Tryd.f5.params.toList args.toList ds p := hA
  rw [Tryd.params5] at hA' hval
  obtain ⟨v0, vs0, d0, ds0, p0, q0, hargs0, hds0, _, h0, r0⟩ := trodAll_cons hA'
  obtain ⟨v1, vs1, d1, ds1, p1, q1, hargs1, hds1, _, h1, r1⟩ := trodAll_cons r0
  obtain ⟨v2, vs2, d2, ds2, p2, q2, hargs2, hds2, _, h2, r2⟩ := trodAll_cons r1
  obtain ⟨hargsE, hdsE, _⟩ := trodAll_nil r2
  subst hargsE hdsE hargs2 hds2 hargs1 hds1
  have hargs : args = #[v0, v1, v2] := by rw [← Array.toArray_toList (xs := args), hargs0]
  subst hargs hds0
  obtain ⟨a0, rep0, in0⟩ := rep_rows Tryd.underlying44 Tryd.underlying22 Tryd.underlying3 (by kernel_rfl) (by kernel_rfl) (hval 0 44 v0 rfl rfl) h0
  obtain ⟨a1, rep1, in1⟩ := rep_ints Tryd.underlying22 Tryd.underlying3 (by kernel_rfl) (hval 1 22 v1 rfl rfl) h1
  obtain ⟨a2, rep2, in2⟩ := rep_int Tryd.underlying3 (hval 2 3 v2 rfl rfl) h2
  have hgs : gs = [] := (trodVars_none hV).1
  have hv : VReps (okR W) W [] (DV.avs [.sl (.sl .int) a0, .sl .int a1, .i a2]) (#[v0, v1, v2] : Array Value).toList := by
    simp only [DV.avs]
    unfold VReps VReps VReps VReps
    exact ⟨_, _, rfl, rep0, _, _, rfl, rep1, _, _, rfl, rep2, rfl⟩
  refine (LiftsG.calls_true (anonSays_fn a0 a1 a2) (errG_of1 hL) hv).mono fun e W' ⟨he, hb⟩ => ⟨.bool true, he, ?_⟩
  subst hgs
  exact post_true doLaidOut (by kernel_rfl) Tryd.underlying4 (by decide) rfl rfl rfl rfl hW hb

theorem anonSays_said : Rows.AnonSaysSaid :=
  OpenClaim.holds_of_wide 5 Tryd.f5 rfl rfl rfl rfl rfl rfl rfl ⟨rfl, rfl, rfl, rfl, rfl⟩ rfl rfl rfl rfl rfl (by kernel_rfl) Tryd.func5 (by kernel_rfl)
    (of_decide_eq_true (by kernel_rfl)) (by unfold Func.isWrapper; rw [if_neg (of_decide_eq_false (by kernel_rfl))]; exact ⟨rfl, rfl⟩)
    (fun os started H enc _ => anonSays_lifted os started H enc)
theorem anonSays_holds : Rows.AnonSaysCardSaid :=
  Claim7.holds_tied_plain_at .later [] [.handle] true (true, "2e7e09a78a157985db708bcc37fc0c404564793b6f5a0ba4cd7af3fde55746fa") true
    anonSays_said (fun _ h => by cases h) (by kernel_rfl) (fun _ h => by cases h) anonSays_row_tie rfl ⟨rfl, rfl⟩ (by kernel_rfl) rfl
    (fun f fn hf hfn => by
      obtain rfl : f = 5 := Option.some.inj ((show Tryd.prog.funcNamed "quietwing/quietwinglaw5.AnonSays" = some 5 by kernel_rfl).symm.trans hf) |>.symm
      obtain rfl : fn = Tryd.f5 := (Option.some.inj (Tryd.func5.symm.trans hfn)).symm
      exact ⟨by kernel_rfl, fun j t ht => by
        rw [Tryd.params5] at ht
        have hm : t ∈ [44, 22, 3] := by simpa using Array.mem_of_getElem? ht
        have hall : ([44, 22, 3].all fun u => !Tryd.prog.wantsStandIn u) = true := by kernel_rfl
        exact (show Tryd.prog.wantsStandIn t = false by simpa using List.all_eq_true.1 hall t hm)⟩)
    (by kernel_rfl)
end Go.Proofs.YtmeacgkhabnjlaaDoor
