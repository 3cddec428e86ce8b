/- What the law reads at its end, run. Printed by a program. -/
import Derived.Test.YtdakclpneghkmaaGreatDoorEn
namespace Go.Proofs.GD
open Go Go.AI Go.RowKit
set_option maxRecDepth 100000
theorem e30 (c : Nat → Int) (d l n : AVal) : obsE (run4 (.seq qR24 qR25) (hdG (.osl 9017 1 0 30 30) 30 d l n) (mkT 9018 (stL (.anyi .i64) (.anyi .i64) 8836 8845 8869 8844 9017 30 c))) [12, 19, 20] 30 [9131, 9017] =
    some ([(12, .osl 9017 1 0 30 30), (19, .osl 9131 1 0 30 30), (20, .v (.int .i64 0))], [some (1, rowsI c 30), some (1, rowsI c 30)]) := by kernel_rfl
end Go.Proofs.GD
