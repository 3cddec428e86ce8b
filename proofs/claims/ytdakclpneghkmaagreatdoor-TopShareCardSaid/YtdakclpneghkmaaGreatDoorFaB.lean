/- Closed facts of the row. -/
import Derived.Test.YtdakclpneghkmaaGreatDoorCards
import Derived.WalkKit
import Derived.ProofKit
import Derived.JoinedOf
namespace Go.Proofs.YtdakclpneghkmaaGreatDoor
open Go
theorem jf9 : (Rows.topShareRow.inPlace ==  Tryz.pinned.checked.prog.inPlace 4) = true := by kernel_rfl
theorem jf13 : (Rows.topShareRow.maps == (Tryz.f4.params.toList ++ Rows.topShareSpec.plain.varTypes Tryz.pinned.checked.prog).any ( Tryz.pinned.checked.prog.mapsRec ·)) = true := by kernel_rfl
theorem jf14 : (Rows.topShareRow.ifaces == (Tryz.f4.params.toList ++ Rows.topShareSpec.plain.varTypes Tryz.pinned.checked.prog).any ( Tryz.pinned.checked.prog.ifacesRec ·)) = true := by kernel_rfl
theorem jf15 : (Rows.topShareRow.mapsOut ==  Tryz.pinned.checked.prog.mapsAmong Tryz.f4.resultTypes.toList) = true := by kernel_rfl
theorem jf16 : (Rows.topShareRow.loops == (Tryz.f4.params.toList ++ Rows.topShareSpec.plain.varTypes Tryz.pinned.checked.prog).any ( Tryz.pinned.checked.prog.loopsFrom ·)) = true := by kernel_rfl
theorem jf17 : (Rows.topShareRow.wideKeys == (Tryz.f4.params.toList ++ Rows.topShareSpec.plain.varTypes Tryz.pinned.checked.prog ++ Tryz.f4.resultTypes.toList).any ( Tryz.pinned.checked.prog.wideKeysFrom ·)) = true := by kernel_rfl
theorem jf18 : (Rows.topShareSpec.vars.all ( Tryz.pinned.checked.prog.varReadable ·)) = true := by kernel_rfl
theorem jf19 : (Tryz.f4.resultTypes.all (fun t =>  Tryz.pinned.checked.prog.readableRec t && decide (t <  Tryz.pinned.checked.prog.types.size))) = true := by kernel_rfl
theorem jf20 : (Rows.topShareRow.ifacesOut == Tryz.f4.resultTypes.toList.any ( Tryz.pinned.checked.prog.ifacesRec ·)) = true := by kernel_rfl
theorem jf21 : (Rows.topShareRow.loopsOut == Tryz.f4.resultTypes.toList.any ( Tryz.pinned.checked.prog.loopsFrom ·)) = true := by kernel_rfl
end Go.Proofs.YtdakclpneghkmaaGreatDoor
