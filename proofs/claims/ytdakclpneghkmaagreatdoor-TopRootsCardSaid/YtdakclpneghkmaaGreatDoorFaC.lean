/- Closed facts of the row. -/
import Derived.Test.YtdakclpneghkmaaGreatDoorCards
import Derived.WalkKit
import Derived.ProofKit
import Derived.JoinedOf
namespace Go.Proofs.YtdakclpneghkmaaGreatDoor
open Go
theorem jf10 : (Rows.topRootsRow.unfollowed ==  Tryz.pinned.checked.prog.unfollowed 5) = true := by kernel_rfl
theorem jf22 : (Rows.topRootsRow.plainKeys ==  Tryz.pinned.checked.prog.plainKeys) = true := by kernel_rfl
theorem jf23 : (Rows.topRootsRow.shortTexts.isNone) = true := by kernel_rfl
theorem jf24 : ( Tryz.pinned.checked.prog.stopsHeard) = true := by kernel_rfl
theorem jf25 : ( Tryz.pinned.checked.prog.mayEnter) = true := by kernel_rfl
theorem jf26 : (Rows.topRootsRow.lifted ==  Tryz.pinned.checked.prog.liftsFinal) = true := by kernel_rfl
theorem jf27 : ( Tryz.pinned.checked.prog.make == some Rows.topRootsRow.make) = true := by kernel_rfl
theorem jf28 : (Rows.topRootsRow.kinds == (if Rows.topRootsRow.domain.isEmpty then [] else Tryz.f5.params.toList.map fun t => match  Tryz.pinned.checked.prog.underlying t with | some (.int k) => some k | _ => none)) = true := by kernel_rfl
theorem jf29 : (Rows.topRootsRow.pinned == Rows.topRootsRow.pinnedBy) = true := by kernel_rfl
theorem jf30 : (Rows.topRootsRow.veiled == (Tryz.f5.params.toList ++ Rows.topRootsSpec.plain.varTypes Tryz.pinned.checked.prog ++ Tryz.f5.resultTypes.toList).any ( Tryz.pinned.checked.prog.veiledRec ·)) = true := by kernel_rfl
theorem jf31 : (Rows.topRootsRow.veiledFits Tryz.pinned.checked.prog Tryz.f5.params.toList (Tryz.f5.params.toList ++ Rows.topRootsSpec.plain.varTypes Tryz.pinned.checked.prog ++ Tryz.f5.resultTypes.toList)) = true := by kernel_rfl
end Go.Proofs.YtdakclpneghkmaaGreatDoor
