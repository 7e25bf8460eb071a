/-
  slices.Sort and slices.Compact at []int lie in the program as the shelf has them.
-/
import Derived.Test.YtkncfjcmhaaafaaDoorQwSo
import Derived.Test.YtkncfjcmhaaafaaDoorQwTab
import Derived.Shelf.Lay
import Derived.KernelRfl
namespace Go.Proofs
shelf_lay Lays.n189 Nm 189 at Tryd as Tryd.lays189
shelf_lay Lays2.n20 Nm2 20 at Tryd as Tryd.layc20
namespace YtkncfjcmhaaafaaDoor
open Go.RowKit Go.Qw
theorem sortsI_ok : SortsI Tryd.prog 21 := ⟨⟨_, Tryd.func21, by kernel_rfl, rfl⟩, Any.slices_Sort_int Tryd.lays189, Any.slices_Sort_int_none Tryd.lays189⟩
theorem compactsI_ok : CompactsI Tryd.prog 22 := ⟨⟨_, Tryd.func22, by kernel_rfl, rfl⟩,
  fun blk off cap zs w h1 h2 h3 => calls_of_every_depth fun D => AnyS.slices_Compact_int_in Tryd.layc20 D blk off cap zs w h1 h2 h3,
  fun p cap w => calls_of_every_depth fun D => AnyS.slices_Compact_int_empty_in Tryd.layc20 D p cap w⟩
end YtkncfjcmhaaafaaDoor
end Go.Proofs
