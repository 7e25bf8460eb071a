/-
  The program's types, as far as its functions use them.
-/
import Derived.Test.YtkdihpajgmiolaaDoorQwN
import Derived.Test.YtkdihpajgmiolaaDoorProg
import Derived.KernelRfl
set_option linter.unusedSimpArgs false
set_option linter.unusedVariables false
set_option linter.unusedSectionVars false
namespace Go.Proofs.YtkdihpajgmiolaaDoor
open Go Go.Qw
def tab : Tab where
  E := 66
  sl := [(22, 3, .int, 8), (37, 22, (.sl .int), 24), (39, 42, (.tup 4), 32), (64, 24, .two, 16), (70, 71, (.sl .bool), 24), (71, 4, .bool, 1), (83, 3, .int, 8), (89, 93, (.tup 3), 24)]
  scal := [2, 3, 4, 5, 6, 12, 15, 16, 17, 21, 22, 37, 39, 64, 66, 70, 71, 73, 79, 83, 88, 89, 95, 96, 97, 98, 100, 107, 116, 126, 129, 132, 134, 145, 147, 148, 149, 156, 158, 161, 162, 165]
  agg := [(24, 2), (42, 4), (75, 2), (81, 2), (91, 2), (93, 3)]
  fld := [(75, 0, 0), (75, 1, 1), (81, 0, 0), (81, 1, 1), (91, 0, 0), (91, 1, 1)]
  arr := [(24, 3, 2), (42, 3, 4), (93, 3, 3)]
  ifc := [20, 25, 26, 104, 105, 120, 123, 125]
  zer := [(2, [.i 0]), (3, [.i 0]), (4, [.b false]), (22, [.nil]), (37, [.nil]), (39, [.nil]), (64, [.nil]), (66, [.i 0]), (70, [.nil]), (71, [.nil]), (75, [.u (.map none), .nil]), (81, [.u (.map none), .nil]), (83, [.nil]), (89, [.nil]), (91, [.u (.map none), .nil]), (126, [.nil]), (161, [.nil])]
  zar := [(24, 2), (42, 4), (93, 3)]
  bld := [(24, 2), (42, 4), (93, 3)]
  made := [(22, 3, .int .i64 0), (37, 22, .slice none 0 0), (70, 71, .slice none 0 0), (71, 4, .bool false), (83, 3, .int .i64 0)]
  bool := 4
  cmp := [(24, 2), (42, 4), (93, 3)]
  bz := [(24, 2), (42, 4), (93, 3)]
theorem tabOK : TabOK Tryd.prog tab := tabC_ok (by kernel_rfl)
end Go.Proofs.YtkdihpajgmiolaaDoor
