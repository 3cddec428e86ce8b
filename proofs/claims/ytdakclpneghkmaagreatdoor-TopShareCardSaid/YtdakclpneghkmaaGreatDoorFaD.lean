/- Closed facts of the row. -/
import Derived.Test.YtdakclpneghkmaaGreatDoorCards
import Derived.WalkKit
import Derived.ProofKit
import Derived.JoinedOf
namespace Go.Proofs.YtdakclpneghkmaaGreatDoor
open Go
theorem jf11 : (Rows.topShareRow.recurses ==  Tryz.pinned.checked.prog.recurses 4) = true := by kernel_rfl
theorem jf12 : (Rows.topShareRow.named ==  Tryz.pinned.checked.prog.varsNamed 4) = true := by kernel_rfl
end Go.Proofs.YtdakclpneghkmaaGreatDoor
