/- Rounds of the law's loop, run. Printed by a program. -/
import Derived.Test.YtdakclpneghkmaaGreatDoorSt
namespace Go.Proofs.GD
open Go Go.AI Go.RowKit
set_option maxRecDepth 100000
theorem s24t (c : Nat → Int) (d l n : AVal) : obs (run4 qS (envS true (c 24) (.osl 7799 1 0 24 24) 24 d l n) (mkT 7800 (stL (.anyi .i64) (.anyi .i64) 7618 7627 7651 7626 7799 24 c))) 8003 (laterL 7821 7830 7854 7829 25 ++ baseL) [7829, 8002, 1530] =
    some (hdG (.osl 8002 1 0 25 25) 24 d l n, [some (some (1, rowsD c 25)), some (some (1, rowsI c 25)), some (some (328, [opRow (.v (.int .i64 25)) (.anyi .i64)]))]) := by kernel_rfl
theorem s24f (c : Nat → Int) (d l n : AVal) : obs (run4 qS (envS false (c 24) (.osl 7799 1 0 24 24) 24 d l n) (mkT 7800 (stL (.anyi .i64) (.anyi .i64) 7618 7627 7651 7626 7799 24 c))) 8003 (laterL 7821 7830 7854 7829 25 ++ baseL) [7829, 8002, 1530] =
    some (hdG (.osl 8002 1 0 25 25) 24 d l n, [some (some (1, rowsD c 25)), some (some (1, rowsI c 25)), some (some (328, [opRow (.anyi .i64) (.v (.int .i64 25))]))]) := by kernel_rfl
theorem s25t (c : Nat → Int) (d l n : AVal) : obs (run4 qS (envS true (c 25) (.osl 8002 1 0 25 25) 25 d l n) (mkT 8003 (stL (.anyi .i64) (.anyi .i64) 7821 7830 7854 7829 8002 25 c))) 8206 (laterL 8024 8033 8057 8032 26 ++ baseL) [8032, 8205, 1530] =
    some (hdG (.osl 8205 1 0 26 26) 25 d l n, [some (some (1, rowsD c 26)), some (some (1, rowsI c 26)), some (some (328, [opRow (.v (.int .i64 26)) (.anyi .i64)]))]) := by kernel_rfl
theorem s25f (c : Nat → Int) (d l n : AVal) : obs (run4 qS (envS false (c 25) (.osl 8002 1 0 25 25) 25 d l n) (mkT 8003 (stL (.anyi .i64) (.anyi .i64) 7821 7830 7854 7829 8002 25 c))) 8206 (laterL 8024 8033 8057 8032 26 ++ baseL) [8032, 8205, 1530] =
    some (hdG (.osl 8205 1 0 26 26) 25 d l n, [some (some (1, rowsD c 26)), some (some (1, rowsI c 26)), some (some (328, [opRow (.anyi .i64) (.v (.int .i64 26))]))]) := by kernel_rfl
end Go.Proofs.GD
/- Rounds of the law's loop, run. Printed by a program. -/
namespace Go.Proofs.GD
open Go Go.AI Go.RowKit
set_option maxRecDepth 100000
theorem s26t (c : Nat → Int) (d l n : AVal) : obs (run4 qS (envS true (c 26) (.osl 8205 1 0 26 26) 26 d l n) (mkT 8206 (stL (.anyi .i64) (.anyi .i64) 8024 8033 8057 8032 8205 26 c))) 8409 (laterL 8227 8236 8260 8235 27 ++ baseL) [8235, 8408, 1530] =
    some (hdG (.osl 8408 1 0 27 27) 26 d l n, [some (some (1, rowsD c 27)), some (some (1, rowsI c 27)), some (some (328, [opRow (.v (.int .i64 27)) (.anyi .i64)]))]) := by kernel_rfl
theorem s26f (c : Nat → Int) (d l n : AVal) : obs (run4 qS (envS false (c 26) (.osl 8205 1 0 26 26) 26 d l n) (mkT 8206 (stL (.anyi .i64) (.anyi .i64) 8024 8033 8057 8032 8205 26 c))) 8409 (laterL 8227 8236 8260 8235 27 ++ baseL) [8235, 8408, 1530] =
    some (hdG (.osl 8408 1 0 27 27) 26 d l n, [some (some (1, rowsD c 27)), some (some (1, rowsI c 27)), some (some (328, [opRow (.anyi .i64) (.v (.int .i64 27))]))]) := by kernel_rfl
theorem s27t (c : Nat → Int) (d l n : AVal) : obs (run4 qS (envS true (c 27) (.osl 8408 1 0 27 27) 27 d l n) (mkT 8409 (stL (.anyi .i64) (.anyi .i64) 8227 8236 8260 8235 8408 27 c))) 8612 (laterL 8430 8439 8463 8438 28 ++ baseL) [8438, 8611, 1530] =
    some (hdG (.osl 8611 1 0 28 28) 27 d l n, [some (some (1, rowsD c 28)), some (some (1, rowsI c 28)), some (some (328, [opRow (.v (.int .i64 28)) (.anyi .i64)]))]) := by kernel_rfl
theorem s27f (c : Nat → Int) (d l n : AVal) : obs (run4 qS (envS false (c 27) (.osl 8408 1 0 27 27) 27 d l n) (mkT 8409 (stL (.anyi .i64) (.anyi .i64) 8227 8236 8260 8235 8408 27 c))) 8612 (laterL 8430 8439 8463 8438 28 ++ baseL) [8438, 8611, 1530] =
    some (hdG (.osl 8611 1 0 28 28) 27 d l n, [some (some (1, rowsD c 28)), some (some (1, rowsI c 28)), some (some (328, [opRow (.anyi .i64) (.v (.int .i64 28))]))]) := by kernel_rfl
end Go.Proofs.GD
