/- Rounds of the law's loop, run. Printed by a program. -/
import Derived.Test.YtdakclpneghkmaaGreatDoorSt
namespace Go.Proofs.GD
open Go Go.AI Go.RowKit
set_option maxRecDepth 100000
theorem s20t (c : Nat → Int) (d l n : AVal) : obs (run4 qS (envS true (c 20) (.osl 6987 1 0 20 20) 20 d l n) (mkT 6988 (stL (.anyi .i64) (.anyi .i64) 6806 6815 6839 6814 6987 20 c))) 7191 (laterL 7009 7018 7042 7017 21 ++ baseL) [7017, 7190, 1530] =
    some (hdG (.osl 7190 1 0 21 21) 20 d l n, [some (some (1, rowsD c 21)), some (some (1, rowsI c 21)), some (some (328, [opRow (.v (.int .i64 21)) (.anyi .i64)]))]) := by kernel_rfl
theorem s20f (c : Nat → Int) (d l n : AVal) : obs (run4 qS (envS false (c 20) (.osl 6987 1 0 20 20) 20 d l n) (mkT 6988 (stL (.anyi .i64) (.anyi .i64) 6806 6815 6839 6814 6987 20 c))) 7191 (laterL 7009 7018 7042 7017 21 ++ baseL) [7017, 7190, 1530] =
    some (hdG (.osl 7190 1 0 21 21) 20 d l n, [some (some (1, rowsD c 21)), some (some (1, rowsI c 21)), some (some (328, [opRow (.anyi .i64) (.v (.int .i64 21))]))]) := by kernel_rfl
theorem s21t (c : Nat → Int) (d l n : AVal) : obs (run4 qS (envS true (c 21) (.osl 7190 1 0 21 21) 21 d l n) (mkT 7191 (stL (.anyi .i64) (.anyi .i64) 7009 7018 7042 7017 7190 21 c))) 7394 (laterL 7212 7221 7245 7220 22 ++ baseL) [7220, 7393, 1530] =
    some (hdG (.osl 7393 1 0 22 22) 21 d l n, [some (some (1, rowsD c 22)), some (some (1, rowsI c 22)), some (some (328, [opRow (.v (.int .i64 22)) (.anyi .i64)]))]) := by kernel_rfl
theorem s21f (c : Nat → Int) (d l n : AVal) : obs (run4 qS (envS false (c 21) (.osl 7190 1 0 21 21) 21 d l n) (mkT 7191 (stL (.anyi .i64) (.anyi .i64) 7009 7018 7042 7017 7190 21 c))) 7394 (laterL 7212 7221 7245 7220 22 ++ baseL) [7220, 7393, 1530] =
    some (hdG (.osl 7393 1 0 22 22) 21 d l n, [some (some (1, rowsD c 22)), some (some (1, rowsI c 22)), some (some (328, [opRow (.anyi .i64) (.v (.int .i64 22))]))]) := by kernel_rfl
end Go.Proofs.GD
/- Rounds of the law's loop, run. Printed by a program. -/
namespace Go.Proofs.GD
open Go Go.AI Go.RowKit
set_option maxRecDepth 100000
theorem s22t (c : Nat → Int) (d l n : AVal) : obs (run4 qS (envS true (c 22) (.osl 7393 1 0 22 22) 22 d l n) (mkT 7394 (stL (.anyi .i64) (.anyi .i64) 7212 7221 7245 7220 7393 22 c))) 7597 (laterL 7415 7424 7448 7423 23 ++ baseL) [7423, 7596, 1530] =
    some (hdG (.osl 7596 1 0 23 23) 22 d l n, [some (some (1, rowsD c 23)), some (some (1, rowsI c 23)), some (some (328, [opRow (.v (.int .i64 23)) (.anyi .i64)]))]) := by kernel_rfl
theorem s22f (c : Nat → Int) (d l n : AVal) : obs (run4 qS (envS false (c 22) (.osl 7393 1 0 22 22) 22 d l n) (mkT 7394 (stL (.anyi .i64) (.anyi .i64) 7212 7221 7245 7220 7393 22 c))) 7597 (laterL 7415 7424 7448 7423 23 ++ baseL) [7423, 7596, 1530] =
    some (hdG (.osl 7596 1 0 23 23) 22 d l n, [some (some (1, rowsD c 23)), some (some (1, rowsI c 23)), some (some (328, [opRow (.anyi .i64) (.v (.int .i64 23))]))]) := by kernel_rfl
theorem s23t (c : Nat → Int) (d l n : AVal) : obs (run4 qS (envS true (c 23) (.osl 7596 1 0 23 23) 23 d l n) (mkT 7597 (stL (.anyi .i64) (.anyi .i64) 7415 7424 7448 7423 7596 23 c))) 7800 (laterL 7618 7627 7651 7626 24 ++ baseL) [7626, 7799, 1530] =
    some (hdG (.osl 7799 1 0 24 24) 23 d l n, [some (some (1, rowsD c 24)), some (some (1, rowsI c 24)), some (some (328, [opRow (.v (.int .i64 24)) (.anyi .i64)]))]) := by kernel_rfl
theorem s23f (c : Nat → Int) (d l n : AVal) : obs (run4 qS (envS false (c 23) (.osl 7596 1 0 23 23) 23 d l n) (mkT 7597 (stL (.anyi .i64) (.anyi .i64) 7415 7424 7448 7423 7596 23 c))) 7800 (laterL 7618 7627 7651 7626 24 ++ baseL) [7626, 7799, 1530] =
    some (hdG (.osl 7799 1 0 24 24) 23 d l n, [some (some (1, rowsD c 24)), some (some (1, rowsI c 24)), some (some (328, [opRow (.anyi .i64) (.v (.int .i64 24))]))]) := by kernel_rfl
end Go.Proofs.GD
