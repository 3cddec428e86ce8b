/- Closed facts of the row. -/
import Derived.Test.YtdakclpneghkmaaGreatDoorCards
import Derived.WalkKit
import Derived.ProofKit
import Derived.JoinedOf
namespace Go.Proofs.YtdakclpneghkmaaGreatDoor
open Go
theorem jf9 : (Rows.topSignalsRow.inPlace ==  Tryz.pinned.checked.prog.inPlace 3) = true := by kernel_rfl
theorem jf13 : (Rows.topSignalsRow.maps == (Tryz.f3.params.toList ++ Rows.topSignalsSpec.plain.varTypes Tryz.pinned.checked.prog).any ( Tryz.pinned.checked.prog.mapsRec ·)) = true := by kernel_rfl
theorem jf14 : (Rows.topSignalsRow.ifaces == (Tryz.f3.params.toList ++ Rows.topSignalsSpec.plain.varTypes Tryz.pinned.checked.prog).any ( Tryz.pinned.checked.prog.ifacesRec ·)) = true := by kernel_rfl
theorem jf15 : (Rows.topSignalsRow.mapsOut ==  Tryz.pinned.checked.prog.mapsAmong Tryz.f3.resultTypes.toList) = true := by kernel_rfl
theorem jf16 : (Rows.topSignalsRow.loops == (Tryz.f3.params.toList ++ Rows.topSignalsSpec.plain.varTypes Tryz.pinned.checked.prog).any ( Tryz.pinned.checked.prog.loopsFrom ·)) = true := by kernel_rfl
theorem jf17 : (Rows.topSignalsRow.wideKeys == (Tryz.f3.params.toList ++ Rows.topSignalsSpec.plain.varTypes Tryz.pinned.checked.prog ++ Tryz.f3.resultTypes.toList).any ( Tryz.pinned.checked.prog.wideKeysFrom ·)) = true := by kernel_rfl
theorem jf18 : (Rows.topSignalsSpec.vars.all ( Tryz.pinned.checked.prog.varReadable ·)) = true := by kernel_rfl
theorem jf19 : (Tryz.f3.resultTypes.all (fun t =>  Tryz.pinned.checked.prog.readableRec t && decide (t <  Tryz.pinned.checked.prog.types.size))) = true := by kernel_rfl
theorem jf20 : (Rows.topSignalsRow.ifacesOut == Tryz.f3.resultTypes.toList.any ( Tryz.pinned.checked.prog.ifacesRec ·)) = true := by kernel_rfl
theorem jf21 : (Rows.topSignalsRow.loopsOut == Tryz.f3.resultTypes.toList.any ( Tryz.pinned.checked.prog.loopsFrom ·)) = true := by kernel_rfl
end Go.Proofs.YtdakclpneghkmaaGreatDoor
