/-
  The program's types, as far as its functions use them.
-/
import Derived.Test.YtmeacgkhabnjlaaQwN
import Derived.Test.YtmeacgkhabnjlaaProg
import Derived.KernelRfl
set_option linter.unusedSimpArgs false
set_option linter.unusedVariables false
set_option linter.unusedSectionVars false
namespace Go.Proofs.Ytmeacgkhabnjlaa
open Go Go.Qw
def tab : Tab where
  E := 55
  sl := [(22, 3, .int, 8), (36, 40, .two, 16), (44, 22, (.sl .int), 24)]
  scal := [2, 3, 4, 5, 6, 12, 15, 16, 17, 21, 22, 36, 44, 55, 65, 66, 71, 73, 75, 83, 84, 86, 87, 88]
  agg := [(39, 2), (40, 2), (51, 12), (52, 12), (67, 3)]
  fld := [(39, 0, 0), (39, 1, 1), (40, 0, 0), (40, 1, 1)]
  arr := [(51, 3, 12), (52, 3, 12), (67, 3, 3)]
  ifc := [20, 24, 25]
  zer := [(2, [.i 0]), (3, [.i 0]), (4, [.b false]), (22, [.nil]), (36, [.nil]), (39, [.i 0, .i 0]), (40, [.i 0, .i 0]), (44, [.nil]), (55, [.i 0])]
  zar := [(51, 12), (52, 12), (67, 3)]
  bld := [(39, 2), (40, 2), (51, 12), (52, 12), (67, 3)]
  made := [(22, 3, .int .i64 0), (44, 22, .slice none 0 0)]
  bool := 4
  cmp := [(39, 2), (40, 2), (51, 12), (52, 12), (67, 3)]
  bz := [(39, 2), (40, 2), (51, 12), (52, 12), (67, 3)]
theorem tabOK : TabOK Try.prog tab := tabC_ok (by kernel_rfl)
end Go.Proofs.Ytmeacgkhabnjlaa
