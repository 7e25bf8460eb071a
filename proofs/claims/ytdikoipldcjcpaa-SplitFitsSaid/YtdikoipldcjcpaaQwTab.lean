/-
  The program's types, as far as its functions use them.
-/
import Derived.Test.YtdikoipldcjcpaaQwN
import Derived.Test.YtdikoipldcjcpaaProg
import Derived.KernelRfl
namespace Go.Proofs.Ytdikoipldcjcpaa
open Go Go.Qw
def tab : Tab where
  E := 49
  sl := [(22, 28, (.sl .int), 24), (28, 3, .int, 8), (36, 41, .two, 16)]
  scal := [2, 3, 4, 5, 6, 12, 15, 16, 17, 21, 22, 28, 36, 49, 63, 64, 65, 67, 68, 69]
  agg := [(40, 2), (41, 2)]
  fld := [(40, 0, 0), (40, 1, 1), (41, 0, 0), (41, 1, 1)]
  arr := []
  ifc := [20, 24, 25]
  zer := [(40, [.i 0, .i 0]), (41, [.i 0, .i 0])]
  zar := []
  bld := [(40, 2), (41, 2)]
  made := [(22, 28, .slice none 0 0), (28, 3, .int .i64 0)]
  bool := 4
  cmp := [(40, 2), (41, 2)]
theorem tabOK : TabOK Try.prog tab := tabC_ok (by kernel_rfl)
end Go.Proofs.Ytdikoipldcjcpaa
