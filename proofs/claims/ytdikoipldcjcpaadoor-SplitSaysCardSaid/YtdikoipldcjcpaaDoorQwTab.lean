/-
  The program's types, as far as its functions use them.
-/
import Derived.Test.YtdikoipldcjcpaaDoorQwN
import Derived.Test.YtdikoipldcjcpaaDoorProg
import Derived.KernelRfl
namespace Go.Proofs.YtdikoipldcjcpaaDoor
open Go Go.Qw
def tab : Tab where
  E := 57
  sl := [(22, 31, (.sl .int), 24), (31, 3, .int, 8), (39, 61, .two, 16)]
  scal := [2, 3, 4, 5, 6, 12, 15, 16, 17, 21, 22, 31, 39, 57, 68, 70, 77, 83, 93, 103, 104, 106, 107, 108, 115, 117, 120, 121, 124]
  agg := [(60, 2), (61, 2)]
  fld := [(60, 0, 0), (60, 1, 1), (61, 0, 0), (61, 1, 1)]
  arr := []
  ifc := [20, 25, 26, 74, 75, 87, 90, 92]
  zer := [(2, [.i 0]), (3, [.i 0]), (4, [.b false]), (22, [.nil]), (31, [.nil]), (39, [.nil]), (57, [.i 0]), (60, [.i 0, .i 0]), (61, [.i 0, .i 0]), (93, [.nil]), (120, [.nil])]
  zar := []
  bld := [(60, 2), (61, 2)]
  made := [(22, 31, .slice none 0 0), (31, 3, .int .i64 0)]
  bool := 4
  cmp := [(60, 2), (61, 2)]
  bz := [(60, 2), (61, 2)]
theorem tabOK : TabOK Tryd.prog tab := tabC_ok (by kernel_rfl)
end Go.Proofs.YtdikoipldcjcpaaDoor
