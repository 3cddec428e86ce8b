/- Rounds of the law's loop, run. Printed by a program. -/
import Derived.Test.YtdakclpneghkmaaGreatDoorSt
namespace Go.Proofs.GD
open Go Go.AI Go.RowKit
set_option maxRecDepth 100000
theorem s4t (c : Nat → Int) (d l n : AVal) : obs (run4 qS (envS true (c 4) (.osl 3739 1 0 4 4) 4 d l n) (mkT 3740 (stL (.anyi .i64) (.anyi .i64) 3558 3567 3591 3566 3739 4 c))) 3943 (laterL 3761 3770 3794 3769 5 ++ baseL) [3769, 3942, 1530] =
    some (hdG (.osl 3942 1 0 5 5) 4 d l n, [some (some (1, rowsD c 5)), some (some (1, rowsI c 5)), some (some (328, [opRow (.v (.int .i64 5)) (.anyi .i64)]))]) := by kernel_rfl
theorem s4f (c : Nat → Int) (d l n : AVal) : obs (run4 qS (envS false (c 4) (.osl 3739 1 0 4 4) 4 d l n) (mkT 3740 (stL (.anyi .i64) (.anyi .i64) 3558 3567 3591 3566 3739 4 c))) 3943 (laterL 3761 3770 3794 3769 5 ++ baseL) [3769, 3942, 1530] =
    some (hdG (.osl 3942 1 0 5 5) 4 d l n, [some (some (1, rowsD c 5)), some (some (1, rowsI c 5)), some (some (328, [opRow (.anyi .i64) (.v (.int .i64 5))]))]) := by kernel_rfl
theorem s5t (c : Nat → Int) (d l n : AVal) : obs (run4 qS (envS true (c 5) (.osl 3942 1 0 5 5) 5 d l n) (mkT 3943 (stL (.anyi .i64) (.anyi .i64) 3761 3770 3794 3769 3942 5 c))) 4146 (laterL 3964 3973 3997 3972 6 ++ baseL) [3972, 4145, 1530] =
    some (hdG (.osl 4145 1 0 6 6) 5 d l n, [some (some (1, rowsD c 6)), some (some (1, rowsI c 6)), some (some (328, [opRow (.v (.int .i64 6)) (.anyi .i64)]))]) := by kernel_rfl
theorem s5f (c : Nat → Int) (d l n : AVal) : obs (run4 qS (envS false (c 5) (.osl 3942 1 0 5 5) 5 d l n) (mkT 3943 (stL (.anyi .i64) (.anyi .i64) 3761 3770 3794 3769 3942 5 c))) 4146 (laterL 3964 3973 3997 3972 6 ++ baseL) [3972, 4145, 1530] =
    some (hdG (.osl 4145 1 0 6 6) 5 d l n, [some (some (1, rowsD c 6)), some (some (1, rowsI c 6)), some (some (328, [opRow (.anyi .i64) (.v (.int .i64 6))]))]) := by kernel_rfl
end Go.Proofs.GD
/- Rounds of the law's loop, run. Printed by a program. -/
namespace Go.Proofs.GD
open Go Go.AI Go.RowKit
set_option maxRecDepth 100000
theorem s6t (c : Nat → Int) (d l n : AVal) : obs (run4 qS (envS true (c 6) (.osl 4145 1 0 6 6) 6 d l n) (mkT 4146 (stL (.anyi .i64) (.anyi .i64) 3964 3973 3997 3972 4145 6 c))) 4349 (laterL 4167 4176 4200 4175 7 ++ baseL) [4175, 4348, 1530] =
    some (hdG (.osl 4348 1 0 7 7) 6 d l n, [some (some (1, rowsD c 7)), some (some (1, rowsI c 7)), some (some (328, [opRow (.v (.int .i64 7)) (.anyi .i64)]))]) := by kernel_rfl
theorem s6f (c : Nat → Int) (d l n : AVal) : obs (run4 qS (envS false (c 6) (.osl 4145 1 0 6 6) 6 d l n) (mkT 4146 (stL (.anyi .i64) (.anyi .i64) 3964 3973 3997 3972 4145 6 c))) 4349 (laterL 4167 4176 4200 4175 7 ++ baseL) [4175, 4348, 1530] =
    some (hdG (.osl 4348 1 0 7 7) 6 d l n, [some (some (1, rowsD c 7)), some (some (1, rowsI c 7)), some (some (328, [opRow (.anyi .i64) (.v (.int .i64 7))]))]) := by kernel_rfl
theorem s7t (c : Nat → Int) (d l n : AVal) : obs (run4 qS (envS true (c 7) (.osl 4348 1 0 7 7) 7 d l n) (mkT 4349 (stL (.anyi .i64) (.anyi .i64) 4167 4176 4200 4175 4348 7 c))) 4552 (laterL 4370 4379 4403 4378 8 ++ baseL) [4378, 4551, 1530] =
    some (hdG (.osl 4551 1 0 8 8) 7 d l n, [some (some (1, rowsD c 8)), some (some (1, rowsI c 8)), some (some (328, [opRow (.v (.int .i64 8)) (.anyi .i64)]))]) := by kernel_rfl
theorem s7f (c : Nat → Int) (d l n : AVal) : obs (run4 qS (envS false (c 7) (.osl 4348 1 0 7 7) 7 d l n) (mkT 4349 (stL (.anyi .i64) (.anyi .i64) 4167 4176 4200 4175 4348 7 c))) 4552 (laterL 4370 4379 4403 4378 8 ++ baseL) [4378, 4551, 1530] =
    some (hdG (.osl 4551 1 0 8 8) 7 d l n, [some (some (1, rowsD c 8)), some (some (1, rowsI c 8)), some (some (328, [opRow (.anyi .i64) (.v (.int .i64 8))]))]) := by kernel_rfl
end Go.Proofs.GD
