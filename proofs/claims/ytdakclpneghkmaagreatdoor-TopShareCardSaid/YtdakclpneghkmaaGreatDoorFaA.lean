/- Closed facts of the row. -/
import Derived.Test.YtdakclpneghkmaaGreatDoorCards
import Derived.WalkKit
import Derived.ProofKit
import Derived.JoinedOf
namespace Go.Proofs.YtdakclpneghkmaaGreatDoor
open Go
theorem jf0 : (Rows.topShareRow.wf (OpenSpec.ofChange Rows.topShareSpec)) = true := by kernel_rfl
theorem jf1 : (laidOutB Tryz.pinned.checked.prog) = true := by kernel_rfl
theorem jf2 : (mapsRowed Tryz.pinned.checked.prog) = true := by kernel_rfl
theorem jf3 : (Tryz.f4.params.all ( Tryz.pinned.checked.prog.readableRec ·)) = true := by kernel_rfl
theorem jf4 : (namedTie Tryz.pinned.checked.prog Rows.topShareRow.named Rows.topShareSpec.vars) = true := by kernel_rfl
theorem jf5 : (Rows.topShareRow.stops == []) = true := by kernel_rfl
theorem jf6 : ( Tryz.pinned.checked.prog.stops == []) = true := by kernel_rfl
theorem jf7 : (Rows.topShareRow.knobs == []) = true := by kernel_rfl
theorem jf8 : ( Tryz.pinned.checked.prog.stopKnobs == []) = true := by kernel_rfl
theorem jn1 : Tryz.prog.funcNamed "ringhall/ringtop.TopShare" = some 4 := by kernel_rfl
theorem jn2 : Rows.topShareRow.wfByText (OpenSpec.ofChange Rows.topShareSpec) = true := by kernel_rfl
theorem jn3 : Tryz.pinned.checked.prog.mainIs = some (true, "c9e3f6ad5484aa014998366de72f665244221706cc486a24f20ff12091bc053d".toList) := by kernel_rfl
theorem jn4 : false = Tryz.prog.looks [] := by kernel_rfl
theorem jn5 : ([39, 28].all fun u => !Tryz.prog.wantsStandIn u) = true := by kernel_rfl
end Go.Proofs.YtdakclpneghkmaaGreatDoor
