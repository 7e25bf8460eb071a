/-
  The program's types, as far as its functions use them.
-/
import Derived.Test.YtmeacgkhabnjlaaDoorQwN
import Derived.Test.YtmeacgkhabnjlaaDoorProg
import Derived.KernelRfl
set_option linter.unusedSimpArgs false
set_option linter.unusedVariables false
set_option linter.unusedSectionVars false
namespace Go.Proofs.YtmeacgkhabnjlaaDoor
open Go Go.Qw
def tab : Tab where
  E := 56
  sl := [(22, 3, .int, 8), (38, 4, .bool, 1), (44, 22, (.sl .int), 24)]
  scal := [2, 3, 4, 5, 6, 12, 15, 16, 17, 21, 22, 38, 44, 56, 72, 74, 75, 78, 80, 87, 92, 94, 97, 107, 117, 119, 120, 121, 128, 130, 133, 134, 137]
  agg := [(57, 12), (58, 12), (66, 3)]
  fld := []
  arr := [(57, 3, 12), (58, 3, 12), (66, 3, 3)]
  ifc := [20, 24, 25, 84, 85, 101, 104, 106]
  zer := [(2, [.i 0]), (3, [.i 0]), (4, [.b false]), (22, [.nil]), (38, [.nil]), (44, [.nil]), (56, [.i 0]), (107, [.nil]), (133, [.nil])]
  zar := [(57, 12), (58, 12), (66, 3)]
  bld := [(57, 12), (58, 12), (66, 3)]
  made := [(22, 3, .int .i64 0), (38, 4, .bool false), (44, 22, .slice none 0 0)]
  bool := 4
  cmp := [(57, 12), (58, 12), (66, 3)]
  bz := [(57, 12), (58, 12), (66, 3)]
theorem tabOK : TabOK Tryd.prog tab := tabC_ok (by kernel_rfl)
end Go.Proofs.YtmeacgkhabnjlaaDoor
