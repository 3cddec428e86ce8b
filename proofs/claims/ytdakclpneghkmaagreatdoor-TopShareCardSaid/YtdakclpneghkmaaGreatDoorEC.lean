/- What the law reads at its end, run. Printed by a program. -/
import Derived.Test.YtdakclpneghkmaaGreatDoorEn
namespace Go.Proofs.GD
open Go Go.AI Go.RowKit
set_option maxRecDepth 100000
theorem e20 (c : Nat → Int) (d l n : AVal) : obsE (run4 (.seq qR24 qR25) (hdG (.osl 6987 1 0 20 20) 20 d l n) (mkT 6988 (stL (.anyi .i64) (.anyi .i64) 6806 6815 6839 6814 6987 20 c))) [12, 19, 20] 20 [7101, 6987] =
    some ([(12, .osl 6987 1 0 20 20), (19, .osl 7101 1 0 20 20), (20, .v (.int .i64 0))], [some (1, rowsI c 20), some (1, rowsI c 20)]) := by kernel_rfl
theorem e21 (c : Nat → Int) (d l n : AVal) : obsE (run4 (.seq qR24 qR25) (hdG (.osl 7190 1 0 21 21) 21 d l n) (mkT 7191 (stL (.anyi .i64) (.anyi .i64) 7009 7018 7042 7017 7190 21 c))) [12, 19, 20] 21 [7304, 7190] =
    some ([(12, .osl 7190 1 0 21 21), (19, .osl 7304 1 0 21 21), (20, .v (.int .i64 0))], [some (1, rowsI c 21), some (1, rowsI c 21)]) := by kernel_rfl
theorem e22 (c : Nat → Int) (d l n : AVal) : obsE (run4 (.seq qR24 qR25) (hdG (.osl 7393 1 0 22 22) 22 d l n) (mkT 7394 (stL (.anyi .i64) (.anyi .i64) 7212 7221 7245 7220 7393 22 c))) [12, 19, 20] 22 [7507, 7393] =
    some ([(12, .osl 7393 1 0 22 22), (19, .osl 7507 1 0 22 22), (20, .v (.int .i64 0))], [some (1, rowsI c 22), some (1, rowsI c 22)]) := by kernel_rfl
theorem e23 (c : Nat → Int) (d l n : AVal) : obsE (run4 (.seq qR24 qR25) (hdG (.osl 7596 1 0 23 23) 23 d l n) (mkT 7597 (stL (.anyi .i64) (.anyi .i64) 7415 7424 7448 7423 7596 23 c))) [12, 19, 20] 23 [7710, 7596] =
    some ([(12, .osl 7596 1 0 23 23), (19, .osl 7710 1 0 23 23), (20, .v (.int .i64 0))], [some (1, rowsI c 23), some (1, rowsI c 23)]) := by kernel_rfl
theorem e24 (c : Nat → Int) (d l n : AVal) : obsE (run4 (.seq qR24 qR25) (hdG (.osl 7799 1 0 24 24) 24 d l n) (mkT 7800 (stL (.anyi .i64) (.anyi .i64) 7618 7627 7651 7626 7799 24 c))) [12, 19, 20] 24 [7913, 7799] =
    some ([(12, .osl 7799 1 0 24 24), (19, .osl 7913 1 0 24 24), (20, .v (.int .i64 0))], [some (1, rowsI c 24), some (1, rowsI c 24)]) := by kernel_rfl
end Go.Proofs.GD
/- What the law reads at its end, run. Printed by a program. -/
namespace Go.Proofs.GD
open Go Go.AI Go.RowKit
set_option maxRecDepth 100000
theorem e25 (c : Nat → Int) (d l n : AVal) : obsE (run4 (.seq qR24 qR25) (hdG (.osl 8002 1 0 25 25) 25 d l n) (mkT 8003 (stL (.anyi .i64) (.anyi .i64) 7821 7830 7854 7829 8002 25 c))) [12, 19, 20] 25 [8116, 8002] =
    some ([(12, .osl 8002 1 0 25 25), (19, .osl 8116 1 0 25 25), (20, .v (.int .i64 0))], [some (1, rowsI c 25), some (1, rowsI c 25)]) := by kernel_rfl
theorem e26 (c : Nat → Int) (d l n : AVal) : obsE (run4 (.seq qR24 qR25) (hdG (.osl 8205 1 0 26 26) 26 d l n) (mkT 8206 (stL (.anyi .i64) (.anyi .i64) 8024 8033 8057 8032 8205 26 c))) [12, 19, 20] 26 [8319, 8205] =
    some ([(12, .osl 8205 1 0 26 26), (19, .osl 8319 1 0 26 26), (20, .v (.int .i64 0))], [some (1, rowsI c 26), some (1, rowsI c 26)]) := by kernel_rfl
theorem e27 (c : Nat → Int) (d l n : AVal) : obsE (run4 (.seq qR24 qR25) (hdG (.osl 8408 1 0 27 27) 27 d l n) (mkT 8409 (stL (.anyi .i64) (.anyi .i64) 8227 8236 8260 8235 8408 27 c))) [12, 19, 20] 27 [8522, 8408] =
    some ([(12, .osl 8408 1 0 27 27), (19, .osl 8522 1 0 27 27), (20, .v (.int .i64 0))], [some (1, rowsI c 27), some (1, rowsI c 27)]) := by kernel_rfl
theorem e28 (c : Nat → Int) (d l n : AVal) : obsE (run4 (.seq qR24 qR25) (hdG (.osl 8611 1 0 28 28) 28 d l n) (mkT 8612 (stL (.anyi .i64) (.anyi .i64) 8430 8439 8463 8438 8611 28 c))) [12, 19, 20] 28 [8725, 8611] =
    some ([(12, .osl 8611 1 0 28 28), (19, .osl 8725 1 0 28 28), (20, .v (.int .i64 0))], [some (1, rowsI c 28), some (1, rowsI c 28)]) := by kernel_rfl
theorem e29 (c : Nat → Int) (d l n : AVal) : obsE (run4 (.seq qR24 qR25) (hdG (.osl 8814 1 0 29 29) 29 d l n) (mkT 8815 (stL (.anyi .i64) (.anyi .i64) 8633 8642 8666 8641 8814 29 c))) [12, 19, 20] 29 [8928, 8814] =
    some ([(12, .osl 8814 1 0 29 29), (19, .osl 8928 1 0 29 29), (20, .v (.int .i64 0))], [some (1, rowsI c 29), some (1, rowsI c 29)]) := by kernel_rfl
end Go.Proofs.GD
