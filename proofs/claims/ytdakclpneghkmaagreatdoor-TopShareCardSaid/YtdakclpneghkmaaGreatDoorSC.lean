/- Rounds of the law's loop, run. Printed by a program. -/
import Derived.Test.YtdakclpneghkmaaGreatDoorSt
namespace Go.Proofs.GD
open Go Go.AI Go.RowKit
set_option maxRecDepth 100000
theorem s8t (c : Nat → Int) (d l n : AVal) : obs (run4 qS (envS true (c 8) (.osl 4551 1 0 8 8) 8 d l n) (mkT 4552 (stL (.anyi .i64) (.anyi .i64) 4370 4379 4403 4378 4551 8 c))) 4755 (laterL 4573 4582 4606 4581 9 ++ baseL) [4581, 4754, 1530] =
    some (hdG (.osl 4754 1 0 9 9) 8 d l n, [some (some (1, rowsD c 9)), some (some (1, rowsI c 9)), some (some (328, [opRow (.v (.int .i64 9)) (.anyi .i64)]))]) := by kernel_rfl
theorem s8f (c : Nat → Int) (d l n : AVal) : obs (run4 qS (envS false (c 8) (.osl 4551 1 0 8 8) 8 d l n) (mkT 4552 (stL (.anyi .i64) (.anyi .i64) 4370 4379 4403 4378 4551 8 c))) 4755 (laterL 4573 4582 4606 4581 9 ++ baseL) [4581, 4754, 1530] =
    some (hdG (.osl 4754 1 0 9 9) 8 d l n, [some (some (1, rowsD c 9)), some (some (1, rowsI c 9)), some (some (328, [opRow (.anyi .i64) (.v (.int .i64 9))]))]) := by kernel_rfl
theorem s9t (c : Nat → Int) (d l n : AVal) : obs (run4 qS (envS true (c 9) (.osl 4754 1 0 9 9) 9 d l n) (mkT 4755 (stL (.anyi .i64) (.anyi .i64) 4573 4582 4606 4581 4754 9 c))) 4958 (laterL 4776 4785 4809 4784 10 ++ baseL) [4784, 4957, 1530] =
    some (hdG (.osl 4957 1 0 10 10) 9 d l n, [some (some (1, rowsD c 10)), some (some (1, rowsI c 10)), some (some (328, [opRow (.v (.int .i64 10)) (.anyi .i64)]))]) := by kernel_rfl
theorem s9f (c : Nat → Int) (d l n : AVal) : obs (run4 qS (envS false (c 9) (.osl 4754 1 0 9 9) 9 d l n) (mkT 4755 (stL (.anyi .i64) (.anyi .i64) 4573 4582 4606 4581 4754 9 c))) 4958 (laterL 4776 4785 4809 4784 10 ++ baseL) [4784, 4957, 1530] =
    some (hdG (.osl 4957 1 0 10 10) 9 d l n, [some (some (1, rowsD c 10)), some (some (1, rowsI c 10)), some (some (328, [opRow (.anyi .i64) (.v (.int .i64 10))]))]) := by kernel_rfl
end Go.Proofs.GD
/- Rounds of the law's loop, run. Printed by a program. -/
namespace Go.Proofs.GD
open Go Go.AI Go.RowKit
set_option maxRecDepth 100000
theorem s10t (c : Nat → Int) (d l n : AVal) : obs (run4 qS (envS true (c 10) (.osl 4957 1 0 10 10) 10 d l n) (mkT 4958 (stL (.anyi .i64) (.anyi .i64) 4776 4785 4809 4784 4957 10 c))) 5161 (laterL 4979 4988 5012 4987 11 ++ baseL) [4987, 5160, 1530] =
    some (hdG (.osl 5160 1 0 11 11) 10 d l n, [some (some (1, rowsD c 11)), some (some (1, rowsI c 11)), some (some (328, [opRow (.v (.int .i64 11)) (.anyi .i64)]))]) := by kernel_rfl
theorem s10f (c : Nat → Int) (d l n : AVal) : obs (run4 qS (envS false (c 10) (.osl 4957 1 0 10 10) 10 d l n) (mkT 4958 (stL (.anyi .i64) (.anyi .i64) 4776 4785 4809 4784 4957 10 c))) 5161 (laterL 4979 4988 5012 4987 11 ++ baseL) [4987, 5160, 1530] =
    some (hdG (.osl 5160 1 0 11 11) 10 d l n, [some (some (1, rowsD c 11)), some (some (1, rowsI c 11)), some (some (328, [opRow (.anyi .i64) (.v (.int .i64 11))]))]) := by kernel_rfl
theorem s11t (c : Nat → Int) (d l n : AVal) : obs (run4 qS (envS true (c 11) (.osl 5160 1 0 11 11) 11 d l n) (mkT 5161 (stL (.anyi .i64) (.anyi .i64) 4979 4988 5012 4987 5160 11 c))) 5364 (laterL 5182 5191 5215 5190 12 ++ baseL) [5190, 5363, 1530] =
    some (hdG (.osl 5363 1 0 12 12) 11 d l n, [some (some (1, rowsD c 12)), some (some (1, rowsI c 12)), some (some (328, [opRow (.v (.int .i64 12)) (.anyi .i64)]))]) := by kernel_rfl
theorem s11f (c : Nat → Int) (d l n : AVal) : obs (run4 qS (envS false (c 11) (.osl 5160 1 0 11 11) 11 d l n) (mkT 5161 (stL (.anyi .i64) (.anyi .i64) 4979 4988 5012 4987 5160 11 c))) 5364 (laterL 5182 5191 5215 5190 12 ++ baseL) [5190, 5363, 1530] =
    some (hdG (.osl 5363 1 0 12 12) 11 d l n, [some (some (1, rowsD c 12)), some (some (1, rowsI c 12)), some (some (328, [opRow (.anyi .i64) (.v (.int .i64 12))]))]) := by kernel_rfl
end Go.Proofs.GD
