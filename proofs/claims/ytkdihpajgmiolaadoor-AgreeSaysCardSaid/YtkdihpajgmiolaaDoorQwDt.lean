/-
  What a row's condition on its laid tables gives a walk: math/bits' table lies as its own initialiser lays it; with the handle of the type error beside it; and worlds that meet the conditions: the one that the variables' door leaves.
-/
import Derived.Test.YtkdihpajgmiolaaDoorQwDo
import Derived.Test.YtkdihpajgmiolaaDoorQwBi
import Derived.Lib.LaidTab
import Derived.Stop.LaidErr
import Derived.LaidLaws
set_option linter.unusedSimpArgs false
set_option linter.unusedVariables false
set_option linter.unusedSectionVars false
namespace Go.Proofs.YtkdihpajgmiolaaDoor
open Go Go.Qw Go.RowKit

def tab64I : List Int := Lib.deBruijn64tab.map fun n : Nat => (n : Int)
theorem laid64 : (Rows.laid_math_bits_deBruijn64tab : DataW Unit) = Lib.tabData .u8 tab64I := by rfl
theorem dtName : Tryd.prog.globalNamed "math/bits.deBruijn64tab" = some 2 := by kernel_rfl
theorem dtType : (Tryd.prog.globals[2]?).map (·.type) = some 136 := by kernel_rfl
theorem tabG_of {r : List (String × DataW Unit)} {W : World} (h : laidMet Tryd.prog (("math/bits.deBruijn64tab", Rows.laid_math_bits_deBruijn64tab) :: r) W) : tabG W := by
  rw [laid64] at h
  have hT := Lib.tabIs_of_head dtName dtType Tryd.underlying136 Tryd.underlying5 (by kernel_rfl) (by kernel_rfl) h
  intro j hj
  have hl : Lib.deBruijn64tab.length = tab64I.length := by simp [tab64I]
  rw [Lib.TabIs.cell hT dtName j (by omega)]
  have : tab64I.getD j 0 = ((Lib.deBruijn64tab.getD j 0 : Nat) : Int) := by simp [tab64I, List.getD, hj]
  rw [this]
abbrev tabsL : List (String × DataW Unit) := [("math/bits.deBruijn32tab", Rows.laid_math_bits_deBruijn32tab), ("math/bits.deBruijn64tab", Rows.laid_math_bits_deBruijn64tab)]
theorem tabG_of2 {W : World} (h : laidMetH Tryd.prog tabsL W) : tabG W := tabG_of (laidMet.tail (show laidMet Tryd.prog tabsL W from h))
/-- Both words: the table, and the handle. -/
def bothG (w : World) : Prop := errG w ∧ tabG w
theorem bothG_stays : StaysG bothG := fun w w' hb h => ⟨errG_stays w w' hb h.1, tabG_stays w w' hb h.2⟩
abbrev tabs3 : List (String × DataW Unit) := [("math/bits.deBruijn32tab", Rows.laid_math_bits_deBruijn32tab), ("math/bits.deBruijn64tab", Rows.laid_math_bits_deBruijn64tab), ("errors.errorType", Rows.laid_errors_errorType)]
theorem bothG_of3 {W : World} (h : laidMetH Tryd.prog tabs3 W) : bothG W :=
  have h' := show laidMet Tryd.prog tabsL W ∧ handlesMet Tryd.prog [("errors.errorType", Rows.laid_errors_errorType)] W from h
  ⟨errG_of h'.2, tabG_of (laidMet.tail h'.1)⟩
theorem tabs_met (os : Os) (args : Array Value) : laidMet Tryd.prog tabsL ((World.doorLaid Tryd.prog 26 os).forCall (fun _ _ => 0) ⟨#[], args, []⟩).memory := laidMet_of_run' 8 (by kernel_rfl) (by kernel_rfl)
theorem met2 (os : Os) (args : Array Value) : laidMetH Tryd.prog tabsL ((World.doorLaid Tryd.prog 26 os).forCall (fun _ _ => 0) ⟨#[], args, []⟩).memory := tabs_met os args
theorem met3 (os : Os) (args : Array Value) : laidMetH Tryd.prog tabs3 ((World.doorLaid Tryd.prog 26 os).forCall (fun _ _ => 0) ⟨#[], args, []⟩).memory :=
  laidMetH_of_parts3 (fuel := 8) (tabs_met os args) (by kernel_rfl) (by kernel_rfl)
end Go.Proofs.YtkdihpajgmiolaaDoor
