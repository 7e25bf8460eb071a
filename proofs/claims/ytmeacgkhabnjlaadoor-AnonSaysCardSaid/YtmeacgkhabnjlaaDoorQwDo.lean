/-
  What a row's condition on its laid variables gives a walk: errors.errorType holds the handle of the type error; and a world that meets the condition: the one that the variables' door leaves.
-/
import Derived.Test.YtmeacgkhabnjlaaDoorQwAs
import Derived.Test.YtmeacgkhabnjlaaDoorRows
import Derived.Test.YtmeacgkhabnjlaaDoorCards
import Derived.Test.YtmeacgkhabnjlaaDoorTie
import Derived.LaidHandle
import Derived.LaidMore
import Derived.LaidLaws
import Derived.SevenTiedAt
set_option linter.unusedSimpArgs false
set_option linter.unusedVariables false
set_option linter.unusedSectionVars false
namespace Go.Proofs.YtmeacgkhabnjlaaDoor
open Go Go.Qw Go.RowKit

theorem doOwn : ownKnob Tryd.prog.godebug = none := by kernel_rfl
theorem doLaidOut : laidOutB Tryd.prog = true := by kernel_rfl
theorem doEt : Tryd.prog.globalNamed "errors.errorType" = some 0 := by kernel_rfl
theorem doRt : (Tryd.prog.cutTypes.find? (·.1 == "internal/reflectlite.rtype")).map (·.2) = some 96 := by kernel_rfl
theorem doOne : ((List.range 138).filter fun t => Tryd.prog.rowNamed t [101, 114, 114, 111, 114]) = [25] := by kernel_rfl
theorem doSize : Tryd.prog.types.size = 138 := by kernel_rfl
theorem doHandle : typeHandle Tryd.prog 25 = .pointer (some ⟨1, 25, none⟩) := by kernel_rfl
theorem errG_of {W : World} (h' : handlesMet Tryd.prog [("errors.errorType", Rows.laid_errors_errorType)] W) : errG W := by
  obtain ⟨name, u, ty, e1, e2, e3, e4, e5⟩ := h' _ (List.mem_singleton.2 rfl)
  have en : name = [101, 114, 114, 111, 114] := (Option.some.inj e1).symm
  subst en
  obtain rfl := Option.some.inj (doRt.symm.trans e2)
  have hm : ty ∈ (List.range 138).filter fun t => Tryd.prog.rowNamed t [101, 114, 114, 111, 114] := List.mem_filter.2 ⟨List.mem_range.2 (by rw [← doSize]; exact e3), e4⟩
  rw [doOne] at hm
  obtain rfl := List.mem_singleton.1 hm
  rw [doHandle] at e5
  have := World.var?_cell doEt e5 0
  simpa [errG] using this
theorem errG_of1 {W : World} (h : laidMetH Tryd.prog [("errors.errorType", Rows.laid_errors_errorType)] W) : errG W := errG_of (show laidMet Tryd.prog [] W ∧ handlesMet Tryd.prog [("errors.errorType", Rows.laid_errors_errorType)] W from h).2
theorem met1 (os : Os) (args : Array Value) : laidMetH Tryd.prog [("errors.errorType", Rows.laid_errors_errorType)] ((World.doorLaid Tryd.prog 16 os).forCall (fun _ _ => 0) ⟨#[], args, []⟩).memory :=
  laidMetH_of_parts3 (fuel := 8) (laidMet_nil _ _) (by kernel_rfl) (by kernel_rfl)
theorem doShaped (os : Os) (args : Array Value) : ((World.doorLaid Tryd.prog 16 os).forCall (fun _ _ => 0) ⟨#[], args, []⟩).Shaped Tryd.prog := World.shaped_of_RefB (by kernel_rfl) (by kernel_rfl)
end Go.Proofs.YtmeacgkhabnjlaaDoor
