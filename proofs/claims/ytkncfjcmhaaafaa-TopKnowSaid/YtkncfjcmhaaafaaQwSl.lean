/-
  slices.Sort and slices.Compact at []int lie in the program as the shelf has them.
-/
import Derived.Test.YtkncfjcmhaaafaaQwSo
import Derived.Test.YtkncfjcmhaaafaaQwTab
import Derived.Shelf.Lay
import Derived.KernelRfl
namespace Go.Proofs
shelf_lay Lays.n189 Nm 189 at Try as Try.lays189
shelf_lay Lays2.n20 Nm2 20 at Try as Try.layc20
namespace Ytkncfjcmhaaafaa
open Go.RowKit Go.Qw
theorem sortsI_ok : SortsI Try.prog 24 := ⟨⟨_, Try.func24, by kernel_rfl, rfl⟩, Any.slices_Sort_int Try.lays189, Any.slices_Sort_int_none Try.lays189⟩
theorem compactsI_ok : CompactsI Try.prog 25 := ⟨⟨_, Try.func25, by kernel_rfl, rfl⟩,
  fun blk off cap zs w h1 h2 h3 => calls_of_every_depth fun D => AnyS.slices_Compact_int_in Try.layc20 D blk off cap zs w h1 h2 h3,
  fun p cap w => calls_of_every_depth fun D => AnyS.slices_Compact_int_empty_in Try.layc20 D p cap w⟩
end Ytkncfjcmhaaafaa
end Go.Proofs
