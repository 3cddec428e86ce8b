import Derived.Test.YtdakclpneghkmaaGreatDoorPart
namespace Go.Proofs.GD
open Go.AI
set_option maxRecDepth 100000
theorem k6 : (okR 13 false && okR 13 true && okR 14 false && okR 14 true) = true := by kernel_rfl
end Go.Proofs.GD
namespace Go.Proofs.GD
open Go.AI
set_option maxRecDepth 100000
theorem k7 : (okR 15 false && okR 15 true) = true := by kernel_rfl
end Go.Proofs.GD
