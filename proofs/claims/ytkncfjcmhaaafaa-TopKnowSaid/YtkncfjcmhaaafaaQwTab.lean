/-
  The program's types, as far as its functions use them.
-/
import Derived.Test.YtkncfjcmhaaafaaQwN
import Derived.Test.YtkncfjcmhaaafaaProg
import Derived.KernelRfl
namespace Go.Proofs.Ytkncfjcmhaaafaa
open Go Go.Qw
def tab : Tab where
  E := 45
  sl := [(22, 24, .two, 16), (25, 3, .int, 8)]
  scal := [2, 3, 4, 5, 6, 12, 15, 16, 17, 21, 22, 25, 45, 48, 57, 60, 62, 69, 71, 72, 76, 79, 89, 90, 92, 93, 94]
  agg := [(24, 2), (50, 2)]
  fld := [(50, 0, 0), (50, 1, 1)]
  arr := [(24, 3, 2)]
  ifc := [20, 26, 27]
  zer := [(2, [.i 0]), (3, [.i 0]), (4, [.b false]), (22, [.nil]), (25, [.nil]), (45, [.i 0]), (50, [.u (.map none), .nil]), (62, [.i 0])]
  zar := [(24, 2)]
  bld := [(24, 2)]
  made := [(25, 3, .int .i64 0)]
  bool := 4
  cmp := [(24, 2)]
  bz := [(24, 2)]
theorem tabOK : TabOK Try.prog tab := tabC_ok (by kernel_rfl)
end Go.Proofs.Ytkncfjcmhaaafaa
