/- What the law reads at its end, run. Printed by a program. -/
import Derived.Test.YtdakclpneghkmaaGreatDoorEn
namespace Go.Proofs.GD
open Go Go.AI Go.RowKit
set_option maxRecDepth 100000
theorem e10 (c : Nat → Int) (d l n : AVal) : obsE (run4 (.seq qR24 qR25) (hdG (.osl 4957 1 0 10 10) 10 d l n) (mkT 4958 (stL (.anyi .i64) (.anyi .i64) 4776 4785 4809 4784 4957 10 c))) [12, 19, 20] 10 [5071, 4957] =
    some ([(12, .osl 4957 1 0 10 10), (19, .osl 5071 1 0 10 10), (20, .v (.int .i64 0))], [some (1, rowsI c 10), some (1, rowsI c 10)]) := by kernel_rfl
theorem e11 (c : Nat → Int) (d l n : AVal) : obsE (run4 (.seq qR24 qR25) (hdG (.osl 5160 1 0 11 11) 11 d l n) (mkT 5161 (stL (.anyi .i64) (.anyi .i64) 4979 4988 5012 4987 5160 11 c))) [12, 19, 20] 11 [5274, 5160] =
    some ([(12, .osl 5160 1 0 11 11), (19, .osl 5274 1 0 11 11), (20, .v (.int .i64 0))], [some (1, rowsI c 11), some (1, rowsI c 11)]) := by kernel_rfl
theorem e12 (c : Nat → Int) (d l n : AVal) : obsE (run4 (.seq qR24 qR25) (hdG (.osl 5363 1 0 12 12) 12 d l n) (mkT 5364 (stL (.anyi .i64) (.anyi .i64) 5182 5191 5215 5190 5363 12 c))) [12, 19, 20] 12 [5477, 5363] =
    some ([(12, .osl 5363 1 0 12 12), (19, .osl 5477 1 0 12 12), (20, .v (.int .i64 0))], [some (1, rowsI c 12), some (1, rowsI c 12)]) := by kernel_rfl
theorem e13 (c : Nat → Int) (d l n : AVal) : obsE (run4 (.seq qR24 qR25) (hdG (.osl 5566 1 0 13 13) 13 d l n) (mkT 5567 (stL (.anyi .i64) (.anyi .i64) 5385 5394 5418 5393 5566 13 c))) [12, 19, 20] 13 [5680, 5566] =
    some ([(12, .osl 5566 1 0 13 13), (19, .osl 5680 1 0 13 13), (20, .v (.int .i64 0))], [some (1, rowsI c 13), some (1, rowsI c 13)]) := by kernel_rfl
theorem e14 (c : Nat → Int) (d l n : AVal) : obsE (run4 (.seq qR24 qR25) (hdG (.osl 5769 1 0 14 14) 14 d l n) (mkT 5770 (stL (.anyi .i64) (.anyi .i64) 5588 5597 5621 5596 5769 14 c))) [12, 19, 20] 14 [5883, 5769] =
    some ([(12, .osl 5769 1 0 14 14), (19, .osl 5883 1 0 14 14), (20, .v (.int .i64 0))], [some (1, rowsI c 14), some (1, rowsI c 14)]) := by kernel_rfl
end Go.Proofs.GD
/- What the law reads at its end, run. Printed by a program. -/
namespace Go.Proofs.GD
open Go Go.AI Go.RowKit
set_option maxRecDepth 100000
theorem e15 (c : Nat → Int) (d l n : AVal) : obsE (run4 (.seq qR24 qR25) (hdG (.osl 5972 1 0 15 15) 15 d l n) (mkT 5973 (stL (.anyi .i64) (.anyi .i64) 5791 5800 5824 5799 5972 15 c))) [12, 19, 20] 15 [6086, 5972] =
    some ([(12, .osl 5972 1 0 15 15), (19, .osl 6086 1 0 15 15), (20, .v (.int .i64 0))], [some (1, rowsI c 15), some (1, rowsI c 15)]) := by kernel_rfl
theorem e16 (c : Nat → Int) (d l n : AVal) : obsE (run4 (.seq qR24 qR25) (hdG (.osl 6175 1 0 16 16) 16 d l n) (mkT 6176 (stL (.anyi .i64) (.anyi .i64) 5994 6003 6027 6002 6175 16 c))) [12, 19, 20] 16 [6289, 6175] =
    some ([(12, .osl 6175 1 0 16 16), (19, .osl 6289 1 0 16 16), (20, .v (.int .i64 0))], [some (1, rowsI c 16), some (1, rowsI c 16)]) := by kernel_rfl
theorem e17 (c : Nat → Int) (d l n : AVal) : obsE (run4 (.seq qR24 qR25) (hdG (.osl 6378 1 0 17 17) 17 d l n) (mkT 6379 (stL (.anyi .i64) (.anyi .i64) 6197 6206 6230 6205 6378 17 c))) [12, 19, 20] 17 [6492, 6378] =
    some ([(12, .osl 6378 1 0 17 17), (19, .osl 6492 1 0 17 17), (20, .v (.int .i64 0))], [some (1, rowsI c 17), some (1, rowsI c 17)]) := by kernel_rfl
theorem e18 (c : Nat → Int) (d l n : AVal) : obsE (run4 (.seq qR24 qR25) (hdG (.osl 6581 1 0 18 18) 18 d l n) (mkT 6582 (stL (.anyi .i64) (.anyi .i64) 6400 6409 6433 6408 6581 18 c))) [12, 19, 20] 18 [6695, 6581] =
    some ([(12, .osl 6581 1 0 18 18), (19, .osl 6695 1 0 18 18), (20, .v (.int .i64 0))], [some (1, rowsI c 18), some (1, rowsI c 18)]) := by kernel_rfl
theorem e19 (c : Nat → Int) (d l n : AVal) : obsE (run4 (.seq qR24 qR25) (hdG (.osl 6784 1 0 19 19) 19 d l n) (mkT 6785 (stL (.anyi .i64) (.anyi .i64) 6603 6612 6636 6611 6784 19 c))) [12, 19, 20] 19 [6898, 6784] =
    some ([(12, .osl 6784 1 0 19 19), (19, .osl 6898 1 0 19 19), (20, .v (.int .i64 0))], [some (1, rowsI c 19), some (1, rowsI c 19)]) := by kernel_rfl
end Go.Proofs.GD
