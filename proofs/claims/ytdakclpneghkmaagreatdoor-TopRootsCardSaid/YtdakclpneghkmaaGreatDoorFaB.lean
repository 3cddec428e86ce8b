/- Closed facts of the row. -/
import Derived.Test.YtdakclpneghkmaaGreatDoorCards
import Derived.WalkKit
import Derived.ProofKit
import Derived.JoinedOf
namespace Go.Proofs.YtdakclpneghkmaaGreatDoor
open Go
theorem jf9 : (Rows.topRootsRow.inPlace ==  Tryz.pinned.checked.prog.inPlace 5) = true := by kernel_rfl
theorem jf13 : (Rows.topRootsRow.maps == (Tryz.f5.params.toList ++ Rows.topRootsSpec.plain.varTypes Tryz.pinned.checked.prog).any ( Tryz.pinned.checked.prog.mapsRec ·)) = true := by kernel_rfl
theorem jf14 : (Rows.topRootsRow.ifaces == (Tryz.f5.params.toList ++ Rows.topRootsSpec.plain.varTypes Tryz.pinned.checked.prog).any ( Tryz.pinned.checked.prog.ifacesRec ·)) = true := by kernel_rfl
theorem jf15 : (Rows.topRootsRow.mapsOut ==  Tryz.pinned.checked.prog.mapsAmong Tryz.f5.resultTypes.toList) = true := by kernel_rfl
theorem jf16 : (Rows.topRootsRow.loops == (Tryz.f5.params.toList ++ Rows.topRootsSpec.plain.varTypes Tryz.pinned.checked.prog).any ( Tryz.pinned.checked.prog.loopsFrom ·)) = true := by kernel_rfl
theorem jf17 : (Rows.topRootsRow.wideKeys == (Tryz.f5.params.toList ++ Rows.topRootsSpec.plain.varTypes Tryz.pinned.checked.prog ++ Tryz.f5.resultTypes.toList).any ( Tryz.pinned.checked.prog.wideKeysFrom ·)) = true := by kernel_rfl
theorem jf18 : (Rows.topRootsSpec.vars.all ( Tryz.pinned.checked.prog.varReadable ·)) = true := by kernel_rfl
theorem jf19 : (Tryz.f5.resultTypes.all (fun t =>  Tryz.pinned.checked.prog.readableRec t && decide (t <  Tryz.pinned.checked.prog.types.size))) = true := by kernel_rfl
theorem jf20 : (Rows.topRootsRow.ifacesOut == Tryz.f5.resultTypes.toList.any ( Tryz.pinned.checked.prog.ifacesRec ·)) = true := by kernel_rfl
theorem jf21 : (Rows.topRootsRow.loopsOut == Tryz.f5.resultTypes.toList.any ( Tryz.pinned.checked.prog.loopsFrom ·)) = true := by kernel_rfl
end Go.Proofs.YtdakclpneghkmaaGreatDoor
