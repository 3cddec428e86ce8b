/- Rounds of the law's loop, run. Printed by a program. -/
import Derived.Test.YtdakclpneghkmaaGreatDoorSt
namespace Go.Proofs.GD
open Go Go.AI Go.RowKit
set_option maxRecDepth 100000
theorem s28t (c : Nat → Int) (d l n : AVal) : obs (run4 qS (envS true (c 28) (.osl 8611 1 0 28 28) 28 d l n) (mkT 8612 (stL (.anyi .i64) (.anyi .i64) 8430 8439 8463 8438 8611 28 c))) 8815 (laterL 8633 8642 8666 8641 29 ++ baseL) [8641, 8814, 1530] =
    some (hdG (.osl 8814 1 0 29 29) 28 d l n, [some (some (1, rowsD c 29)), some (some (1, rowsI c 29)), some (some (328, [opRow (.v (.int .i64 29)) (.anyi .i64)]))]) := by kernel_rfl
theorem s28f (c : Nat → Int) (d l n : AVal) : obs (run4 qS (envS false (c 28) (.osl 8611 1 0 28 28) 28 d l n) (mkT 8612 (stL (.anyi .i64) (.anyi .i64) 8430 8439 8463 8438 8611 28 c))) 8815 (laterL 8633 8642 8666 8641 29 ++ baseL) [8641, 8814, 1530] =
    some (hdG (.osl 8814 1 0 29 29) 28 d l n, [some (some (1, rowsD c 29)), some (some (1, rowsI c 29)), some (some (328, [opRow (.anyi .i64) (.v (.int .i64 29))]))]) := by kernel_rfl
theorem s29t (c : Nat → Int) (d l n : AVal) : obs (run4 qS (envS true (c 29) (.osl 8814 1 0 29 29) 29 d l n) (mkT 8815 (stL (.anyi .i64) (.anyi .i64) 8633 8642 8666 8641 8814 29 c))) 9018 (laterL 8836 8845 8869 8844 30 ++ baseL) [8844, 9017, 1530] =
    some (hdG (.osl 9017 1 0 30 30) 29 d l n, [some (some (1, rowsD c 30)), some (some (1, rowsI c 30)), some (some (328, [opRow (.v (.int .i64 30)) (.anyi .i64)]))]) := by kernel_rfl
theorem s29f (c : Nat → Int) (d l n : AVal) : obs (run4 qS (envS false (c 29) (.osl 8814 1 0 29 29) 29 d l n) (mkT 8815 (stL (.anyi .i64) (.anyi .i64) 8633 8642 8666 8641 8814 29 c))) 9018 (laterL 8836 8845 8869 8844 30 ++ baseL) [8844, 9017, 1530] =
    some (hdG (.osl 9017 1 0 30 30) 29 d l n, [some (some (1, rowsD c 30)), some (some (1, rowsI c 30)), some (some (328, [opRow (.anyi .i64) (.v (.int .i64 30))]))]) := by kernel_rfl
end Go.Proofs.GD
