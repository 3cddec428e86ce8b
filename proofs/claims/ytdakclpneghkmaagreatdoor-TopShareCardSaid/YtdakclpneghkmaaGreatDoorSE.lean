/- Rounds of the law's loop, run. Printed by a program. -/
import Derived.Test.YtdakclpneghkmaaGreatDoorSt
namespace Go.Proofs.GD
open Go Go.AI Go.RowKit
set_option maxRecDepth 100000
theorem s16t (c : Nat → Int) (d l n : AVal) : obs (run4 qS (envS true (c 16) (.osl 6175 1 0 16 16) 16 d l n) (mkT 6176 (stL (.anyi .i64) (.anyi .i64) 5994 6003 6027 6002 6175 16 c))) 6379 (laterL 6197 6206 6230 6205 17 ++ baseL) [6205, 6378, 1530] =
    some (hdG (.osl 6378 1 0 17 17) 16 d l n, [some (some (1, rowsD c 17)), some (some (1, rowsI c 17)), some (some (328, [opRow (.v (.int .i64 17)) (.anyi .i64)]))]) := by kernel_rfl
theorem s16f (c : Nat → Int) (d l n : AVal) : obs (run4 qS (envS false (c 16) (.osl 6175 1 0 16 16) 16 d l n) (mkT 6176 (stL (.anyi .i64) (.anyi .i64) 5994 6003 6027 6002 6175 16 c))) 6379 (laterL 6197 6206 6230 6205 17 ++ baseL) [6205, 6378, 1530] =
    some (hdG (.osl 6378 1 0 17 17) 16 d l n, [some (some (1, rowsD c 17)), some (some (1, rowsI c 17)), some (some (328, [opRow (.anyi .i64) (.v (.int .i64 17))]))]) := by kernel_rfl
theorem s17t (c : Nat → Int) (d l n : AVal) : obs (run4 qS (envS true (c 17) (.osl 6378 1 0 17 17) 17 d l n) (mkT 6379 (stL (.anyi .i64) (.anyi .i64) 6197 6206 6230 6205 6378 17 c))) 6582 (laterL 6400 6409 6433 6408 18 ++ baseL) [6408, 6581, 1530] =
    some (hdG (.osl 6581 1 0 18 18) 17 d l n, [some (some (1, rowsD c 18)), some (some (1, rowsI c 18)), some (some (328, [opRow (.v (.int .i64 18)) (.anyi .i64)]))]) := by kernel_rfl
theorem s17f (c : Nat → Int) (d l n : AVal) : obs (run4 qS (envS false (c 17) (.osl 6378 1 0 17 17) 17 d l n) (mkT 6379 (stL (.anyi .i64) (.anyi .i64) 6197 6206 6230 6205 6378 17 c))) 6582 (laterL 6400 6409 6433 6408 18 ++ baseL) [6408, 6581, 1530] =
    some (hdG (.osl 6581 1 0 18 18) 17 d l n, [some (some (1, rowsD c 18)), some (some (1, rowsI c 18)), some (some (328, [opRow (.anyi .i64) (.v (.int .i64 18))]))]) := by kernel_rfl
end Go.Proofs.GD
/- Rounds of the law's loop, run. Printed by a program. -/
namespace Go.Proofs.GD
open Go Go.AI Go.RowKit
set_option maxRecDepth 100000
theorem s18t (c : Nat → Int) (d l n : AVal) : obs (run4 qS (envS true (c 18) (.osl 6581 1 0 18 18) 18 d l n) (mkT 6582 (stL (.anyi .i64) (.anyi .i64) 6400 6409 6433 6408 6581 18 c))) 6785 (laterL 6603 6612 6636 6611 19 ++ baseL) [6611, 6784, 1530] =
    some (hdG (.osl 6784 1 0 19 19) 18 d l n, [some (some (1, rowsD c 19)), some (some (1, rowsI c 19)), some (some (328, [opRow (.v (.int .i64 19)) (.anyi .i64)]))]) := by kernel_rfl
theorem s18f (c : Nat → Int) (d l n : AVal) : obs (run4 qS (envS false (c 18) (.osl 6581 1 0 18 18) 18 d l n) (mkT 6582 (stL (.anyi .i64) (.anyi .i64) 6400 6409 6433 6408 6581 18 c))) 6785 (laterL 6603 6612 6636 6611 19 ++ baseL) [6611, 6784, 1530] =
    some (hdG (.osl 6784 1 0 19 19) 18 d l n, [some (some (1, rowsD c 19)), some (some (1, rowsI c 19)), some (some (328, [opRow (.anyi .i64) (.v (.int .i64 19))]))]) := by kernel_rfl
theorem s19t (c : Nat → Int) (d l n : AVal) : obs (run4 qS (envS true (c 19) (.osl 6784 1 0 19 19) 19 d l n) (mkT 6785 (stL (.anyi .i64) (.anyi .i64) 6603 6612 6636 6611 6784 19 c))) 6988 (laterL 6806 6815 6839 6814 20 ++ baseL) [6814, 6987, 1530] =
    some (hdG (.osl 6987 1 0 20 20) 19 d l n, [some (some (1, rowsD c 20)), some (some (1, rowsI c 20)), some (some (328, [opRow (.v (.int .i64 20)) (.anyi .i64)]))]) := by kernel_rfl
theorem s19f (c : Nat → Int) (d l n : AVal) : obs (run4 qS (envS false (c 19) (.osl 6784 1 0 19 19) 19 d l n) (mkT 6785 (stL (.anyi .i64) (.anyi .i64) 6603 6612 6636 6611 6784 19 c))) 6988 (laterL 6806 6815 6839 6814 20 ++ baseL) [6814, 6987, 1530] =
    some (hdG (.osl 6987 1 0 20 20) 19 d l n, [some (some (1, rowsD c 20)), some (some (1, rowsI c 20)), some (some (328, [opRow (.anyi .i64) (.v (.int .i64 20))]))]) := by kernel_rfl
end Go.Proofs.GD
