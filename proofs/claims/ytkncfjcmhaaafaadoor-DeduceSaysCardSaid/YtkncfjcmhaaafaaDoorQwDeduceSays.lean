/-
  'DeduceSays' answers true whatever its arguments are, and leaves them as they were; and its card: the listed variables are tied to the program's text.
-/
import Derived.Test.YtkncfjcmhaaafaaDoorQwRt
import Derived.Test.YtkncfjcmhaaafaaDoorQwY
import Derived.Test.YtkncfjcmhaaafaaDoorQwDi
import Derived.Test.YtkncfjcmhaaafaaDoorQwDo
namespace Go.Proofs.YtkncfjcmhaaafaaDoor
open Go Go.Qw Go.RowKit Go.ChangeShapes Go.WideShapes Go.ChangeAt

set_option maxRecDepth 100000 in
theorem deduceSays_lifted (os : Os) (started : os.Started) (H : Type) (enc : TypeId × Value → H) :
    ReturnsInHanded {} Tryd.checked os 3 .any (fun w args => (Rows.deduceSaysSpec.pre enc Tryd.prog Tryd.f3 [] false w args ∧ laidMetH Tryd.prog Rows.deduceSaysRow.laid w) ∧ sizedMet enc Tryd.prog Tryd.f3 (OpenSpec.ofChange Rows.deduceSaysSpec) false w args) (Rows.deduceSaysSpec.post enc Tryd.prog Tryd.f3 false true false false) := by
  refine returnsInHanded_of_change_and (C := Tryd.checked) (X := fun w _ => laidMetH Tryd.prog Rows.deduceSaysRow.laid w) (fun _ _ _ hh h => h.of_heap hh) doOwn started (by kernel_rfl) Tryd.func3
    (ChangeSpec.witness_shaped (enc := enc) (C := Tryd.checked) (os := os) (X := fun w _ => laidMetH Tryd.prog Rows.deduceSaysRow.laid w) false (World.doorLaid Tryd.prog 16 os) #[.slice none 0 0, .int .i64 0] 8 rfl (doShaped os _) (by kernel_rfl) (by kernel_rfl) (by kernel_rfl) (met1 os _)) ?_
  intro W base args ds gs before hval0 hW _ hsz hL _
  have hval : ∀ (j : Nat) t v, Tryd.f3.params[j]? = some t → args[j]? = some v → Value.okWide Tryd.prog W .any base t v := hval0
  have hW0 := hW
  obtain ⟨p, q, hA, hV, _, _, _⟩ := hW0
  have hA' : DataW.TrodAll enc Tryd.prog W 0 (fun _ => true) true Tryd.f3.params.toList args.toList ds p := hA
  rw [Tryd.params3] at hA' hval
  obtain ⟨v0, vs0, d0, ds0, p0, q0, hargs0, hds0, _, h0, r0⟩ := trodAll_cons hA'
  obtain ⟨v1, vs1, d1, ds1, p1, q1, hargs1, hds1, _, h1, r1⟩ := trodAll_cons r0
  obtain ⟨hargsE, hdsE, _⟩ := trodAll_nil r1
  subst hargsE hdsE hargs1 hds1
  have hargs : args = #[v0, v1] := by rw [← Array.toArray_toList (xs := args), hargs0]
  subst hargs hds0
  obtain ⟨a0, rep0, sz0⟩ := rep_twos Tryd.underlying22 Tryd.underlying31 Tryd.underlying3 (by kernel_rfl) (by kernel_rfl) (hval 0 22 v0 rfl rfl) h0
  obtain ⟨a1, rep1, in1⟩ := rep_int Tryd.underlying3 (hval 1 3 v1 rfl rfl) h1
  have hgs : gs = [] := (trodVars_none hV).1
  have hv : VReps (okR W) W [] (DV.avs [.sl .two a0, .i a1]) (#[v0, v1] : Array Value).toList := by
    simp only [DV.avs]
    unfold VReps VReps VReps
    exact ⟨_, _, rfl, rep0, _, _, rfl, rep1, rfl⟩
  refine (LiftsG.calls_true (deduceSays_fn a0 a1) (errG_of1 hL) hv).mono fun e W' ⟨he, hb⟩ => ⟨.bool true, he, ?_⟩
  subst hgs
  exact post_true doLaidOut (by kernel_rfl) Tryd.underlying4 (by decide) rfl rfl rfl rfl hW hb

theorem deduceSays_said : Rows.DeduceSaysSaid :=
  OpenClaim.holds_of_wide 3 Tryd.f3 rfl rfl rfl rfl rfl rfl rfl ⟨rfl, rfl, rfl, rfl, rfl⟩ rfl rfl rfl rfl rfl (by kernel_rfl) Tryd.func3 (by kernel_rfl)
    (of_decide_eq_true (by kernel_rfl)) (by unfold Func.isWrapper; rw [if_neg (of_decide_eq_false (by kernel_rfl))]; exact ⟨rfl, rfl⟩)
    (fun os started H enc _ => deduceSays_lifted os started H enc)
theorem deduceSays_holds : Rows.DeduceSaysCardSaid :=
  Claim7.holds_tied_plain_at .later [] [.handle] true (true, "c0b0d86881420a488363574860108eecad1255c6053e08274b88274040c31572") true
    deduceSays_said (fun _ h => by cases h) (by kernel_rfl) (fun _ h => by cases h) deduceSays_row_tie rfl ⟨rfl, rfl⟩ (by kernel_rfl) rfl
    (fun f fn hf hfn => by
      obtain rfl : f = 3 := Option.some.inj ((show Tryd.prog.funcNamed "quietwing/quietwinglaw4.DeduceSays" = some 3 by kernel_rfl).symm.trans hf) |>.symm
      obtain rfl : fn = Tryd.f3 := (Option.some.inj (Tryd.func3.symm.trans hfn)).symm
      exact ⟨by kernel_rfl, fun j t ht => by
        rw [Tryd.params3] at ht
        have hm : t ∈ [22, 3] := by simpa using Array.mem_of_getElem? ht
        have hall : ([22, 3].all fun u => !Tryd.prog.wantsStandIn u) = true := by kernel_rfl
        exact (show Tryd.prog.wantsStandIn t = false by simpa using List.all_eq_true.1 hall t hm)⟩)
    (by kernel_rfl)
end Go.Proofs.YtkncfjcmhaaafaaDoor
