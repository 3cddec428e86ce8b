import Derived.Test.YtdakclpneghkmaaGreatDoorPart
namespace Go.Proofs.GD
open Go.AI
set_option maxRecDepth 100000
theorem k4 : (okR 9 false && okR 9 true && okR 10 false && okR 10 true) = true := by kernel_rfl
end Go.Proofs.GD
namespace Go.Proofs.GD
open Go.AI
set_option maxRecDepth 100000
theorem k5 : (okR 11 false && okR 11 true && okR 12 false && okR 12 true) = true := by kernel_rfl
end Go.Proofs.GD
