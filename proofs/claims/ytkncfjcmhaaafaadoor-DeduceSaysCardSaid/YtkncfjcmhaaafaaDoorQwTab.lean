/-
  The program's types, as far as its functions use them.
-/
import Derived.Test.YtkncfjcmhaaafaaDoorQwN
import Derived.Test.YtkncfjcmhaaafaaDoorProg
import Derived.KernelRfl
namespace Go.Proofs.YtkncfjcmhaaafaaDoor
open Go Go.Qw
def tab : Tab where
  E := 42
  sl := [(22, 31, .two, 16), (28, 3, .int, 8)]
  scal := [2, 3, 4, 5, 6, 12, 15, 16, 17, 21, 22, 28, 42, 46, 51, 58, 65, 68, 78, 81, 90, 92, 93, 97, 100, 111, 113, 114, 115, 122, 124, 127, 128, 131]
  agg := [(31, 2)]
  fld := []
  arr := [(31, 3, 2)]
  ifc := [20, 25, 26, 55, 56, 72, 75, 77]
  zer := [(2, [.i 0]), (3, [.i 0]), (4, [.b false]), (22, [.nil]), (28, [.nil]), (42, [.i 0]), (78, [.nil]), (81, [.i 0]), (127, [.nil])]
  zar := [(31, 2)]
  bld := [(31, 2)]
  made := [(28, 3, .int .i64 0)]
  bool := 4
  cmp := [(31, 2)]
  bz := [(31, 2)]
theorem tabOK : TabOK Tryd.prog tab := tabC_ok (by kernel_rfl)
end Go.Proofs.YtkncfjcmhaaafaaDoor
