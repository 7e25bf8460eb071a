/-
  The program's types, as far as its functions use them.
-/
import Derived.Test.YtkdihpajgmiolaaQwN
import Derived.Test.YtkdihpajgmiolaaProg
import Derived.KernelRfl
namespace Go.Proofs.Ytkdihpajgmiolaa
open Go Go.Qw
def tab : Tab where
  E := 44
  sl := [(22, 3, .int, 8), (40, 22, (.sl .int), 24), (48, 53, .two, 16), (54, 3, .int, 8)]
  scal := [2, 3, 4, 5, 6, 12, 15, 16, 17, 21, 22, 40, 44, 47, 48, 54, 57, 63, 64, 72, 73, 74, 76, 77, 78]
  agg := [(50, 2), (53, 2), (59, 2)]
  fld := [(50, 0, 0), (50, 1, 1), (59, 0, 0), (59, 1, 1)]
  arr := [(53, 3, 2)]
  ifc := [20, 24, 25]
  zer := [(50, [.u (.map none), .nil]), (59, [.u (.map none), .nil])]
  zar := [(53, 2)]
  bld := [(53, 2)]
  made := [(22, 3, .int .i64 0), (40, 22, .slice none 0 0), (54, 3, .int .i64 0)]
  bool := 4
  cmp := [(53, 2)]
theorem tabOK : TabOK Try.prog tab := tabC_ok (by kernel_rfl)
end Go.Proofs.Ytkdihpajgmiolaa
