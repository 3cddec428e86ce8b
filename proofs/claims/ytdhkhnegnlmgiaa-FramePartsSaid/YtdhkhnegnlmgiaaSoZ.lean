/- slices.Sort of integers at this program. -/
import Derived.Test.YtdhkhnegnlmgiaaFacts
import Derived.Test.YtdhkhnegnlmgiaaSo
import Derived.Test.YtdhkhnegnlmgiaaAiZj
import Derived.Shelf.Sort.Plain
import Derived.Shelf.Slices.In.SortNone
namespace Go.Proofs.Ytdhkhnegnlmgiaa
open Go.AI Go.Sort
theorem sortZ_in : InlOk Try.prog 33 sortZI :=
  sortZ_inl ⟨⟨_, _, Try.func33, rfl⟩, fun blk off cap zs w hH hb hs => Any.slices_Sort_int Go.Proofs.Ytdhkhnegnlmgiaa.layZ blk off cap zs w hH hb hs, fun p cap w => Any.slices_Sort_int_none Go.Proofs.Ytdhkhnegnlmgiaa.layZ p cap w⟩
end Go.Proofs.Ytdhkhnegnlmgiaa
