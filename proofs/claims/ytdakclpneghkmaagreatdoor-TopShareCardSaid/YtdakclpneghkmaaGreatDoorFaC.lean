/- Closed facts of the row. -/
import Derived.Test.YtdakclpneghkmaaGreatDoorCards
import Derived.WalkKit
import Derived.ProofKit
import Derived.JoinedOf
namespace Go.Proofs.YtdakclpneghkmaaGreatDoor
open Go
theorem jf10 : (Rows.topShareRow.unfollowed ==  Tryz.pinned.checked.prog.unfollowed 4) = true := by kernel_rfl
theorem jf22 : (Rows.topShareRow.plainKeys ==  Tryz.pinned.checked.prog.plainKeys) = true := by kernel_rfl
theorem jf23 : (Rows.topShareRow.shortTexts.isNone) = true := by kernel_rfl
theorem jf24 : ( Tryz.pinned.checked.prog.stopsHeard) = true := by kernel_rfl
theorem jf25 : ( Tryz.pinned.checked.prog.mayEnter) = true := by kernel_rfl
theorem jf26 : (Rows.topShareRow.lifted ==  Tryz.pinned.checked.prog.liftsFinal) = true := by kernel_rfl
theorem jf27 : ( Tryz.pinned.checked.prog.make == some Rows.topShareRow.make) = true := by kernel_rfl
theorem jf28 : (Rows.topShareRow.kinds == (if Rows.topShareRow.domain.isEmpty then [] else Tryz.f4.params.toList.map fun t => match  Tryz.pinned.checked.prog.underlying t with | some (.int k) => some k | _ => none)) = true := by kernel_rfl
theorem jf29 : (Rows.topShareRow.pinned == Rows.topShareRow.pinnedBy) = true := by kernel_rfl
theorem jf30 : (Rows.topShareRow.veiled == (Tryz.f4.params.toList ++ Rows.topShareSpec.plain.varTypes Tryz.pinned.checked.prog ++ Tryz.f4.resultTypes.toList).any ( Tryz.pinned.checked.prog.veiledRec ·)) = true := by kernel_rfl
theorem jf31 : (Rows.topShareRow.veiledFits Tryz.pinned.checked.prog Tryz.f4.params.toList (Tryz.f4.params.toList ++ Rows.topShareSpec.plain.varTypes Tryz.pinned.checked.prog ++ Tryz.f4.resultTypes.toList)) = true := by kernel_rfl
end Go.Proofs.YtdakclpneghkmaaGreatDoor
