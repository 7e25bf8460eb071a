/-
  The program's types, as far as its functions use them.
-/
import Derived.Test.YtndoigkmdcgjfaaDoorQwN
import Derived.Test.YtndoigkmdcgjfaaDoorProg
import Derived.KernelRfl
set_option linter.unusedSimpArgs false
set_option linter.unusedVariables false
set_option linter.unusedSectionVars false
namespace Go.Proofs.YtndoigkmdcgjfaaDoor
open Go Go.Qw
def tab : Tab where
  E := 81
  sl := [(22, 3, .int, 8), (23, 22, (.sl .int), 24), (68, 3, .int, 8), (79, 68, (.sl .int), 24), (86, 91, .two, 16)]
  scal := [2, 3, 4, 5, 6, 12, 15, 16, 17, 21, 22, 23, 68, 74, 79, 81, 85, 86, 105, 107, 110, 111, 113, 115, 117, 124, 132, 142, 151, 153, 154, 155, 162, 164, 167, 168, 171]
  agg := [(25, 4), (76, 2), (88, 2), (90, 2), (91, 2)]
  fld := [(25, 0, 0), (25, 1, 1), (25, 2, 2), (25, 3, 3), (76, 0, 0), (76, 1, 1), (88, 0, 0), (88, 1, 1), (90, 0, 0), (90, 1, 1), (91, 0, 0), (91, 1, 1)]
  arr := []
  ifc := [20, 26, 27, 121, 122, 136, 139, 141]
  zer := [(2, [.i 0]), (3, [.i 0]), (4, [.b false]), (22, [.nil]), (23, [.nil]), (25, [.i 0, .nil, .nil, .nil]), (68, [.nil]), (76, [.u (.map none), .nil]), (79, [.nil]), (81, [.i 0]), (86, [.nil]), (88, [.u (.map none), .nil]), (90, [.i 0, .i 0]), (91, [.i 0, .i 0]), (142, [.nil]), (167, [.nil])]
  zar := []
  bld := [(25, 4), (90, 2), (91, 2)]
  made := [(22, 3, .int .i64 0), (23, 22, .slice none 0 0), (68, 3, .int .i64 0), (79, 68, .slice none 0 0)]
  bool := 4
  cmp := [(90, 2), (91, 2)]
  bz := [(90, 2), (91, 2)]
theorem tabOK : TabOK Tryd.prog tab := tabC_ok (by kernel_rfl)
end Go.Proofs.YtndoigkmdcgjfaaDoor
