import Derived.Test.YtdakclpneghkmaaGreatDoorPart
namespace Go.Proofs.GD
open Go.AI
set_option maxRecDepth 100000
theorem k2 : (okR 5 false && okR 5 true && okR 6 false && okR 6 true) = true := by kernel_rfl
end Go.Proofs.GD
namespace Go.Proofs.GD
open Go.AI
set_option maxRecDepth 100000
theorem k3 : (okR 7 false && okR 7 true && okR 8 false && okR 8 true) = true := by kernel_rfl
end Go.Proofs.GD
