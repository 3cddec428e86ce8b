/- slices.Sort of integers at this program. -/
import Derived.Test.YtigpgieapamffaaFacts
import Derived.Test.YtigpgieapamffaaSo
import Derived.Test.YtigpgieapamffaaAiZj
import Derived.Shelf.Sort.Plain
import Derived.Shelf.Slices.In.SortNone
namespace Go.Proofs.Ytigpgieapamffaa
open Go.AI Go.Sort
theorem sortZ_in : InlOk Try.prog 26 sortZI :=
  sortZ_inl ⟨⟨_, _, Try.func26, rfl⟩, fun blk off cap zs w hH hb hs => Any.slices_Sort_int Go.Proofs.Ytigpgieapamffaa.layZ blk off cap zs w hH hb hs, fun p cap w => Any.slices_Sort_int_none Go.Proofs.Ytigpgieapamffaa.layZ p cap w⟩
end Go.Proofs.Ytigpgieapamffaa
