/- What the law reads at its end, run. Printed by a program. -/
import Derived.Test.YtdakclpneghkmaaGreatDoorEn
namespace Go.Proofs.GD
open Go Go.AI Go.RowKit
set_option maxRecDepth 100000
theorem e0 (d l n : AVal) : obsE (run4 (.seq qR24 qR25) (hdG (.v (.slice none 0 0)) 0 d l n) (mkT 2907 (st0 (.v (.int .i64 0)) (.v (.int .i64 0))))) [12, 19, 20] 0 [] =
    some ([(12, .v (.slice none 0 0)), (19, .v (.slice none 0 0)), (20, .v (.int .i64 0))], []) := by kernel_rfl
theorem e1 (c : Nat → Int) (d l n : AVal) : obsE (run4 (.seq qR24 qR25) (hdG (.osl 3130 1 0 1 1) 1 d l n) (mkT 3131 (stL (.anyi .i64) (.anyi .i64) 2928 2938 2981 2937 3130 1 c))) [12, 19, 20] 1 [3244, 3130] =
    some ([(12, .osl 3130 1 0 1 1), (19, .osl 3244 1 0 1 1), (20, .v (.int .i64 0))], [some (1, rowsI c 1), some (1, rowsI c 1)]) := by kernel_rfl
theorem e2 (c : Nat → Int) (d l n : AVal) : obsE (run4 (.seq qR24 qR25) (hdG (.osl 3333 1 0 2 2) 2 d l n) (mkT 3334 (stL (.anyi .i64) (.anyi .i64) 3152 3161 3185 3160 3333 2 c))) [12, 19, 20] 2 [3447, 3333] =
    some ([(12, .osl 3333 1 0 2 2), (19, .osl 3447 1 0 2 2), (20, .v (.int .i64 0))], [some (1, rowsI c 2), some (1, rowsI c 2)]) := by kernel_rfl
theorem e3 (c : Nat → Int) (d l n : AVal) : obsE (run4 (.seq qR24 qR25) (hdG (.osl 3536 1 0 3 3) 3 d l n) (mkT 3537 (stL (.anyi .i64) (.anyi .i64) 3355 3364 3388 3363 3536 3 c))) [12, 19, 20] 3 [3650, 3536] =
    some ([(12, .osl 3536 1 0 3 3), (19, .osl 3650 1 0 3 3), (20, .v (.int .i64 0))], [some (1, rowsI c 3), some (1, rowsI c 3)]) := by kernel_rfl
theorem e4 (c : Nat → Int) (d l n : AVal) : obsE (run4 (.seq qR24 qR25) (hdG (.osl 3739 1 0 4 4) 4 d l n) (mkT 3740 (stL (.anyi .i64) (.anyi .i64) 3558 3567 3591 3566 3739 4 c))) [12, 19, 20] 4 [3853, 3739] =
    some ([(12, .osl 3739 1 0 4 4), (19, .osl 3853 1 0 4 4), (20, .v (.int .i64 0))], [some (1, rowsI c 4), some (1, rowsI c 4)]) := by kernel_rfl
end Go.Proofs.GD
/- What the law reads at its end, run. Printed by a program. -/
namespace Go.Proofs.GD
open Go Go.AI Go.RowKit
set_option maxRecDepth 100000
theorem e5 (c : Nat → Int) (d l n : AVal) : obsE (run4 (.seq qR24 qR25) (hdG (.osl 3942 1 0 5 5) 5 d l n) (mkT 3943 (stL (.anyi .i64) (.anyi .i64) 3761 3770 3794 3769 3942 5 c))) [12, 19, 20] 5 [4056, 3942] =
    some ([(12, .osl 3942 1 0 5 5), (19, .osl 4056 1 0 5 5), (20, .v (.int .i64 0))], [some (1, rowsI c 5), some (1, rowsI c 5)]) := by kernel_rfl
theorem e6 (c : Nat → Int) (d l n : AVal) : obsE (run4 (.seq qR24 qR25) (hdG (.osl 4145 1 0 6 6) 6 d l n) (mkT 4146 (stL (.anyi .i64) (.anyi .i64) 3964 3973 3997 3972 4145 6 c))) [12, 19, 20] 6 [4259, 4145] =
    some ([(12, .osl 4145 1 0 6 6), (19, .osl 4259 1 0 6 6), (20, .v (.int .i64 0))], [some (1, rowsI c 6), some (1, rowsI c 6)]) := by kernel_rfl
theorem e7 (c : Nat → Int) (d l n : AVal) : obsE (run4 (.seq qR24 qR25) (hdG (.osl 4348 1 0 7 7) 7 d l n) (mkT 4349 (stL (.anyi .i64) (.anyi .i64) 4167 4176 4200 4175 4348 7 c))) [12, 19, 20] 7 [4462, 4348] =
    some ([(12, .osl 4348 1 0 7 7), (19, .osl 4462 1 0 7 7), (20, .v (.int .i64 0))], [some (1, rowsI c 7), some (1, rowsI c 7)]) := by kernel_rfl
theorem e8 (c : Nat → Int) (d l n : AVal) : obsE (run4 (.seq qR24 qR25) (hdG (.osl 4551 1 0 8 8) 8 d l n) (mkT 4552 (stL (.anyi .i64) (.anyi .i64) 4370 4379 4403 4378 4551 8 c))) [12, 19, 20] 8 [4665, 4551] =
    some ([(12, .osl 4551 1 0 8 8), (19, .osl 4665 1 0 8 8), (20, .v (.int .i64 0))], [some (1, rowsI c 8), some (1, rowsI c 8)]) := by kernel_rfl
theorem e9 (c : Nat → Int) (d l n : AVal) : obsE (run4 (.seq qR24 qR25) (hdG (.osl 4754 1 0 9 9) 9 d l n) (mkT 4755 (stL (.anyi .i64) (.anyi .i64) 4573 4582 4606 4581 4754 9 c))) [12, 19, 20] 9 [4868, 4754] =
    some ([(12, .osl 4754 1 0 9 9), (19, .osl 4868 1 0 9 9), (20, .v (.int .i64 0))], [some (1, rowsI c 9), some (1, rowsI c 9)]) := by kernel_rfl
end Go.Proofs.GD
