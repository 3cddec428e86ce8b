/- Rounds of the law's loop, run. Printed by a program. -/
import Derived.Test.YtdakclpneghkmaaGreatDoorSt
namespace Go.Proofs.GD
open Go Go.AI Go.RowKit
set_option maxRecDepth 100000
theorem s0t (c : Nat → Int) (d l n : AVal) : obs (run4 qS (envS true (c 0) (.v (.slice none 0 0)) 0 d l n) (mkT 2907 (st0 (.v (.int .i64 0)) (.v (.int .i64 0))))) 3131 (laterL 2928 2938 2981 2937 1 ++ baseL) [2937, 3130, 1530] =
    some (hdG (.osl 3130 1 0 1 1) 0 d l n, [some (some (1, rowsD c 1)), some (some (1, rowsI c 1)), some (some (328, [opRow (.v (.int .i64 1)) (.v (.int .i64 0))]))]) := by kernel_rfl
theorem s0f (c : Nat → Int) (d l n : AVal) : obs (run4 qS (envS false (c 0) (.v (.slice none 0 0)) 0 d l n) (mkT 2907 (st0 (.v (.int .i64 0)) (.v (.int .i64 0))))) 3131 (laterL 2928 2938 2981 2937 1 ++ baseL) [2937, 3130, 1530] =
    some (hdG (.osl 3130 1 0 1 1) 0 d l n, [some (some (1, rowsD c 1)), some (some (1, rowsI c 1)), some (some (328, [opRow (.v (.int .i64 0)) (.v (.int .i64 1))]))]) := by kernel_rfl
theorem s1t (c : Nat → Int) (d l n : AVal) : obs (run4 qS (envS true (c 1) (.osl 3130 1 0 1 1) 1 d l n) (mkT 3131 (stL (.anyi .i64) (.anyi .i64) 2928 2938 2981 2937 3130 1 c))) 3334 (laterL 3152 3161 3185 3160 2 ++ baseL) [3160, 3333, 1530] =
    some (hdG (.osl 3333 1 0 2 2) 1 d l n, [some (some (1, rowsD c 2)), some (some (1, rowsI c 2)), some (some (328, [opRow (.v (.int .i64 2)) (.anyi .i64)]))]) := by kernel_rfl
theorem s1f (c : Nat → Int) (d l n : AVal) : obs (run4 qS (envS false (c 1) (.osl 3130 1 0 1 1) 1 d l n) (mkT 3131 (stL (.anyi .i64) (.anyi .i64) 2928 2938 2981 2937 3130 1 c))) 3334 (laterL 3152 3161 3185 3160 2 ++ baseL) [3160, 3333, 1530] =
    some (hdG (.osl 3333 1 0 2 2) 1 d l n, [some (some (1, rowsD c 2)), some (some (1, rowsI c 2)), some (some (328, [opRow (.anyi .i64) (.v (.int .i64 2))]))]) := by kernel_rfl
end Go.Proofs.GD
/- Rounds of the law's loop, run. Printed by a program. -/
namespace Go.Proofs.GD
open Go Go.AI Go.RowKit
set_option maxRecDepth 100000
theorem s2t (c : Nat → Int) (d l n : AVal) : obs (run4 qS (envS true (c 2) (.osl 3333 1 0 2 2) 2 d l n) (mkT 3334 (stL (.anyi .i64) (.anyi .i64) 3152 3161 3185 3160 3333 2 c))) 3537 (laterL 3355 3364 3388 3363 3 ++ baseL) [3363, 3536, 1530] =
    some (hdG (.osl 3536 1 0 3 3) 2 d l n, [some (some (1, rowsD c 3)), some (some (1, rowsI c 3)), some (some (328, [opRow (.v (.int .i64 3)) (.anyi .i64)]))]) := by kernel_rfl
theorem s2f (c : Nat → Int) (d l n : AVal) : obs (run4 qS (envS false (c 2) (.osl 3333 1 0 2 2) 2 d l n) (mkT 3334 (stL (.anyi .i64) (.anyi .i64) 3152 3161 3185 3160 3333 2 c))) 3537 (laterL 3355 3364 3388 3363 3 ++ baseL) [3363, 3536, 1530] =
    some (hdG (.osl 3536 1 0 3 3) 2 d l n, [some (some (1, rowsD c 3)), some (some (1, rowsI c 3)), some (some (328, [opRow (.anyi .i64) (.v (.int .i64 3))]))]) := by kernel_rfl
theorem s3t (c : Nat → Int) (d l n : AVal) : obs (run4 qS (envS true (c 3) (.osl 3536 1 0 3 3) 3 d l n) (mkT 3537 (stL (.anyi .i64) (.anyi .i64) 3355 3364 3388 3363 3536 3 c))) 3740 (laterL 3558 3567 3591 3566 4 ++ baseL) [3566, 3739, 1530] =
    some (hdG (.osl 3739 1 0 4 4) 3 d l n, [some (some (1, rowsD c 4)), some (some (1, rowsI c 4)), some (some (328, [opRow (.v (.int .i64 4)) (.anyi .i64)]))]) := by kernel_rfl
theorem s3f (c : Nat → Int) (d l n : AVal) : obs (run4 qS (envS false (c 3) (.osl 3536 1 0 3 3) 3 d l n) (mkT 3537 (stL (.anyi .i64) (.anyi .i64) 3355 3364 3388 3363 3536 3 c))) 3740 (laterL 3558 3567 3591 3566 4 ++ baseL) [3566, 3739, 1530] =
    some (hdG (.osl 3739 1 0 4 4) 3 d l n, [some (some (1, rowsD c 4)), some (some (1, rowsI c 4)), some (some (328, [opRow (.anyi .i64) (.v (.int .i64 4))]))]) := by kernel_rfl
end Go.Proofs.GD
