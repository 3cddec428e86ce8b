/- Closed facts of the row. -/
import Derived.Test.YtdakclpneghkmaaGreatDoorCards
import Derived.WalkKit
import Derived.ProofKit
import Derived.JoinedOf
namespace Go.Proofs.YtdakclpneghkmaaGreatDoor
open Go
theorem jf11 : (Rows.topRootsRow.recurses ==  Tryz.pinned.checked.prog.recurses 5) = true := by kernel_rfl
theorem jf12 : (Rows.topRootsRow.named ==  Tryz.pinned.checked.prog.varsNamed 5) = true := by kernel_rfl
end Go.Proofs.YtdakclpneghkmaaGreatDoor
