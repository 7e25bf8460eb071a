/-
  'SplitSays' answers true whatever its arguments are, and leaves them as they were; and its card: the listed variables are tied to the program's text.
-/
import Derived.Test.YtdikoipldcjcpaaDoorQwV
import Derived.Test.YtdikoipldcjcpaaDoorQwY
import Derived.Test.YtdikoipldcjcpaaDoorQwSt
import Derived.Test.YtdikoipldcjcpaaDoorQwDo
namespace Go.Proofs.YtdikoipldcjcpaaDoor
open Go Go.Qw Go.RowKit Go.ChangeShapes Go.WideShapes Go.ChangeAt

set_option maxRecDepth 100000 in
theorem splitSays_lifted (os : Os) (started : os.Started) (H : Type) (enc : TypeId × Value → H) :
    ReturnsInHanded {} Tryd.checked os 4 .any (fun w args => (Rows.splitSaysSpec.pre enc Tryd.prog Tryd.f4 [] false w args ∧ laidMetH Tryd.prog Rows.splitSaysRow.laid w) ∧ sizedMet enc Tryd.prog Tryd.f4 (OpenSpec.ofChange Rows.splitSaysSpec) false w args) (Rows.splitSaysSpec.post enc Tryd.prog Tryd.f4 false true false false) := by
  refine returnsInHanded_of_change_and (C := Tryd.checked) (X := fun w _ => laidMetH Tryd.prog Rows.splitSaysRow.laid w) (fun _ _ _ hh h => h.of_heap hh) doOwn started (by kernel_rfl) Tryd.func4
    (ChangeSpec.witness_shaped (enc := enc) (C := Tryd.checked) (os := os) (X := fun w _ => laidMetH Tryd.prog Rows.splitSaysRow.laid w) false (World.doorLaid Tryd.prog 16 os) #[.int .i64 0, .int .i64 0, .slice none 0 0, .int .i64 0, .slice none 0 0, .int .i64 0] 8 rfl (doShaped os _) (by kernel_rfl) (by kernel_rfl) (by kernel_rfl) (met1 os _)) ?_
  intro W base args ds gs before hval0 hW _ hsz hL _
  have hval : ∀ (j : Nat) t v, Tryd.f4.params[j]? = some t → args[j]? = some v → Value.okWide Tryd.prog W .any base t v := hval0
  have hW0 := hW
  obtain ⟨p, q, hA, hV, _, _, _⟩ := hW0
  have hA' : DataW.TrodAll enc Tryd.prog W 0 (fun _ => true) true Tryd.f4.params.toList args.toList ds p := hA
  rw [Tryd.params4] at hA' hval
  obtain ⟨v0, vs0, d0, ds0, p0, q0, hargs0, hds0, _, h0, r0⟩ := trodAll_cons hA'
  obtain ⟨v1, vs1, d1, ds1, p1, q1, hargs1, hds1, _, h1, r1⟩ := trodAll_cons r0
  obtain ⟨v2, vs2, d2, ds2, p2, q2, hargs2, hds2, _, h2, r2⟩ := trodAll_cons r1
  obtain ⟨v3, vs3, d3, ds3, p3, q3, hargs3, hds3, _, h3, r3⟩ := trodAll_cons r2
  obtain ⟨v4, vs4, d4, ds4, p4, q4, hargs4, hds4, _, h4, r4⟩ := trodAll_cons r3
  obtain ⟨v5, vs5, d5, ds5, p5, q5, hargs5, hds5, _, h5, r5⟩ := trodAll_cons r4
  obtain ⟨hargsE, hdsE, _⟩ := trodAll_nil r5
  subst hargsE hdsE hargs5 hds5 hargs4 hds4 hargs3 hds3 hargs2 hds2 hargs1 hds1
  have hargs : args = #[v0, v1, v2, v3, v4, v5] := by rw [← Array.toArray_toList (xs := args), hargs0]
  subst hargs hds0
  obtain ⟨a0, rep0, in0⟩ := rep_int Tryd.underlying3 (hval 0 3 v0 rfl rfl) h0
  obtain ⟨a1, rep1, in1⟩ := rep_int Tryd.underlying3 (hval 1 3 v1 rfl rfl) h1
  obtain ⟨a2, rep2, in2⟩ := rep_ints Tryd.underlying31 Tryd.underlying3 (by kernel_rfl) (hval 2 31 v2 rfl rfl) h2
  obtain ⟨a3, rep3, in3⟩ := rep_int Tryd.underlying3 (hval 3 3 v3 rfl rfl) h3
  obtain ⟨a4, rep4⟩ := rep_pairs Tryd.underlying39 Tryd.underlying61 (by kernel_rfl) ⟨rfl, rfl⟩ ⟨by kernel_rfl, by kernel_rfl⟩ (by kernel_rfl) (by kernel_rfl) (hval 4 39 v4 rfl rfl) h4
  obtain ⟨a5, rep5, in5⟩ := rep_int Tryd.underlying3 (hval 5 3 v5 rfl rfl) h5
  have hgs : gs = [] := (trodVars_none hV).1
  have hv : VReps (okR W) W [] (DV.avs [.i a0, .i a1, .sl .int a2, .i a3, .sl .two a4, .i a5]) (#[v0, v1, v2, v3, v4, v5] : Array Value).toList := by
    simp only [DV.avs]
    unfold VReps VReps VReps VReps VReps VReps VReps
    exact ⟨_, _, rfl, rep0, _, _, rfl, rep1, _, _, rfl, rep2, _, _, rfl, rep3, _, _, rfl, rep4, _, _, rfl, rep5, rfl⟩
  refine (LiftsG.calls_true (splitSays_fn a0 a1 a2 a3 a4 a5) (errG_of1 hL) hv).mono fun e W' ⟨he, hb⟩ => ⟨.bool true, he, ?_⟩
  subst hgs
  exact post_true doLaidOut (by kernel_rfl) Tryd.underlying4 (by decide) rfl rfl rfl rfl hW hb

theorem splitSays_said : Rows.SplitSaysSaid :=
  OpenClaim.holds_of_wide 4 Tryd.f4 rfl rfl rfl rfl rfl rfl rfl ⟨rfl, rfl, rfl, rfl, rfl⟩ rfl rfl rfl rfl rfl (by kernel_rfl) Tryd.func4 (by kernel_rfl)
    (of_decide_eq_true (by kernel_rfl)) (by unfold Func.isWrapper; rw [if_neg (of_decide_eq_false (by kernel_rfl))]; exact ⟨rfl, rfl⟩)
    (fun os started H enc _ => splitSays_lifted os started H enc)
theorem splitSays_holds : Rows.SplitSaysCardSaid :=
  Claim7.holds_tied_plain_at .later [] [.handle] true (true, "c685a4299154151d66e19abb387181347695cf45dc04c3566f4961e6c358559f") true
    splitSays_said (fun _ h => by cases h) (by kernel_rfl) (fun _ h => by cases h) splitSays_row_tie rfl ⟨rfl, rfl⟩ (by kernel_rfl) rfl
    (fun f fn hf hfn => by
      obtain rfl : f = 4 := Option.some.inj ((show Tryd.prog.funcNamed "quietwing/quietwinglaw5.SplitSays" = some 4 by kernel_rfl).symm.trans hf) |>.symm
      obtain rfl : fn = Tryd.f4 := (Option.some.inj (Tryd.func4.symm.trans hfn)).symm
      exact ⟨by kernel_rfl, fun j t ht => by
        rw [Tryd.params4] at ht
        have hm : t ∈ [3, 3, 31, 3, 39, 3] := by simpa using Array.mem_of_getElem? ht
        have hall : ([3, 3, 31, 3, 39, 3].all fun u => !Tryd.prog.wantsStandIn u) = true := by kernel_rfl
        exact (show Tryd.prog.wantsStandIn t = false by simpa using List.all_eq_true.1 hall t hm)⟩)
    (by kernel_rfl)
end Go.Proofs.YtdikoipldcjcpaaDoor
