/-
  The program's types, as far as its functions use them.
-/
import Derived.Test.YtndoigkmdcgjfaaQwN
import Derived.Test.YtndoigkmdcgjfaaProg
import Derived.KernelRfl
namespace Go.Proofs.Ytndoigkmdcgjfaa
open Go Go.Qw
def tab : Tab where
  E := 51
  sl := [(22, 3, .int, 8), (23, 22, (.sl .int), 24), (61, 66, .two, 16), (76, 77, (.sl .int), 24), (77, 3, .int, 8)]
  scal := [2, 3, 4, 5, 6, 12, 15, 16, 17, 21, 22, 23, 51, 53, 60, 61, 74, 75, 76, 77, 86, 87, 88, 90, 91, 92]
  agg := [(25, 4), (55, 2), (63, 2), (65, 2), (66, 2)]
  fld := [(25, 0, 0), (25, 1, 1), (25, 2, 2), (25, 3, 3), (55, 0, 0), (55, 1, 1), (63, 0, 0), (63, 1, 1), (65, 0, 0), (65, 1, 1), (66, 0, 0), (66, 1, 1)]
  arr := []
  ifc := [20, 27, 28]
  zer := [(25, [.i 0, .nil, .nil, .nil]), (55, [.u (.map none), .nil]), (63, [.u (.map none), .nil]), (65, [.i 0, .i 0]), (66, [.i 0, .i 0])]
  zar := []
  bld := [(25, 4), (65, 2), (66, 2)]
  made := [(22, 3, .int .i64 0), (23, 22, .slice none 0 0), (76, 77, .slice none 0 0), (77, 3, .int .i64 0)]
  bool := 4
  cmp := [(65, 2), (66, 2)]
  bz := [(65, 2), (66, 2)]
theorem tabOK : TabOK Try.prog tab := tabC_ok (by kernel_rfl)
end Go.Proofs.Ytndoigkmdcgjfaa
