/- Closed facts of the row. -/
import Derived.Test.YtdakclpneghkmaaGreatDoorCards
import Derived.WalkKit
import Derived.ProofKit
import Derived.JoinedOf
namespace Go.Proofs.YtdakclpneghkmaaGreatDoor
open Go
theorem jf10 : (Rows.topSignalsRow.unfollowed ==  Tryz.pinned.checked.prog.unfollowed 3) = true := by kernel_rfl
theorem jf22 : (Rows.topSignalsRow.plainKeys ==  Tryz.pinned.checked.prog.plainKeys) = true := by kernel_rfl
theorem jf23 : (Rows.topSignalsRow.shortTexts.isNone) = true := by kernel_rfl
theorem jf24 : ( Tryz.pinned.checked.prog.stopsHeard) = true := by kernel_rfl
theorem jf25 : ( Tryz.pinned.checked.prog.mayEnter) = true := by kernel_rfl
theorem jf26 : (Rows.topSignalsRow.lifted ==  Tryz.pinned.checked.prog.liftsFinal) = true := by kernel_rfl
theorem jf27 : ( Tryz.pinned.checked.prog.make == some Rows.topSignalsRow.make) = true := by kernel_rfl
theorem jf28 : (Rows.topSignalsRow.kinds == (if Rows.topSignalsRow.domain.isEmpty then [] else Tryz.f3.params.toList.map fun t => match  Tryz.pinned.checked.prog.underlying t with | some (.int k) => some k | _ => none)) = true := by kernel_rfl
theorem jf29 : (Rows.topSignalsRow.pinned == Rows.topSignalsRow.pinnedBy) = true := by kernel_rfl
theorem jf30 : (Rows.topSignalsRow.veiled == (Tryz.f3.params.toList ++ Rows.topSignalsSpec.plain.varTypes Tryz.pinned.checked.prog ++ Tryz.f3.resultTypes.toList).any ( Tryz.pinned.checked.prog.veiledRec ·)) = true := by kernel_rfl
theorem jf31 : (Rows.topSignalsRow.veiledFits Tryz.pinned.checked.prog Tryz.f3.params.toList (Tryz.f3.params.toList ++ Rows.topSignalsSpec.plain.varTypes Tryz.pinned.checked.prog ++ Tryz.f3.resultTypes.toList)) = true := by kernel_rfl
end Go.Proofs.YtdakclpneghkmaaGreatDoor
