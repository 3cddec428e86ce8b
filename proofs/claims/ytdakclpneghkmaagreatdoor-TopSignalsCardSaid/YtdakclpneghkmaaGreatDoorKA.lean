import Derived.Test.YtdakclpneghkmaaGreatDoorPart
namespace Go.Proofs.GD
open Go.AI
set_option maxRecDepth 100000
theorem k0 : (okR 1 false && okR 1 true && okR 2 false && okR 2 true) = true := by kernel_rfl
end Go.Proofs.GD
namespace Go.Proofs.GD
open Go.AI
set_option maxRecDepth 100000
theorem k1 : (okR 3 false && okR 3 true && okR 4 false && okR 4 true) = true := by kernel_rfl
end Go.Proofs.GD
