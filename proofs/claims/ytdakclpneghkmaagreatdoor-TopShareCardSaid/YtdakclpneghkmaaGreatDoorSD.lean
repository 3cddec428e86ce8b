/- Rounds of the law's loop, run. Printed by a program. -/
import Derived.Test.YtdakclpneghkmaaGreatDoorSt
namespace Go.Proofs.GD
open Go Go.AI Go.RowKit
set_option maxRecDepth 100000
theorem s12t (c : Nat → Int) (d l n : AVal) : obs (run4 qS (envS true (c 12) (.osl 5363 1 0 12 12) 12 d l n) (mkT 5364 (stL (.anyi .i64) (.anyi .i64) 5182 5191 5215 5190 5363 12 c))) 5567 (laterL 5385 5394 5418 5393 13 ++ baseL) [5393, 5566, 1530] =
    some (hdG (.osl 5566 1 0 13 13) 12 d l n, [some (some (1, rowsD c 13)), some (some (1, rowsI c 13)), some (some (328, [opRow (.v (.int .i64 13)) (.anyi .i64)]))]) := by kernel_rfl
theorem s12f (c : Nat → Int) (d l n : AVal) : obs (run4 qS (envS false (c 12) (.osl 5363 1 0 12 12) 12 d l n) (mkT 5364 (stL (.anyi .i64) (.anyi .i64) 5182 5191 5215 5190 5363 12 c))) 5567 (laterL 5385 5394 5418 5393 13 ++ baseL) [5393, 5566, 1530] =
    some (hdG (.osl 5566 1 0 13 13) 12 d l n, [some (some (1, rowsD c 13)), some (some (1, rowsI c 13)), some (some (328, [opRow (.anyi .i64) (.v (.int .i64 13))]))]) := by kernel_rfl
theorem s13t (c : Nat → Int) (d l n : AVal) : obs (run4 qS (envS true (c 13) (.osl 5566 1 0 13 13) 13 d l n) (mkT 5567 (stL (.anyi .i64) (.anyi .i64) 5385 5394 5418 5393 5566 13 c))) 5770 (laterL 5588 5597 5621 5596 14 ++ baseL) [5596, 5769, 1530] =
    some (hdG (.osl 5769 1 0 14 14) 13 d l n, [some (some (1, rowsD c 14)), some (some (1, rowsI c 14)), some (some (328, [opRow (.v (.int .i64 14)) (.anyi .i64)]))]) := by kernel_rfl
theorem s13f (c : Nat → Int) (d l n : AVal) : obs (run4 qS (envS false (c 13) (.osl 5566 1 0 13 13) 13 d l n) (mkT 5567 (stL (.anyi .i64) (.anyi .i64) 5385 5394 5418 5393 5566 13 c))) 5770 (laterL 5588 5597 5621 5596 14 ++ baseL) [5596, 5769, 1530] =
    some (hdG (.osl 5769 1 0 14 14) 13 d l n, [some (some (1, rowsD c 14)), some (some (1, rowsI c 14)), some (some (328, [opRow (.anyi .i64) (.v (.int .i64 14))]))]) := by kernel_rfl
end Go.Proofs.GD
/- Rounds of the law's loop, run. Printed by a program. -/
namespace Go.Proofs.GD
open Go Go.AI Go.RowKit
set_option maxRecDepth 100000
theorem s14t (c : Nat → Int) (d l n : AVal) : obs (run4 qS (envS true (c 14) (.osl 5769 1 0 14 14) 14 d l n) (mkT 5770 (stL (.anyi .i64) (.anyi .i64) 5588 5597 5621 5596 5769 14 c))) 5973 (laterL 5791 5800 5824 5799 15 ++ baseL) [5799, 5972, 1530] =
    some (hdG (.osl 5972 1 0 15 15) 14 d l n, [some (some (1, rowsD c 15)), some (some (1, rowsI c 15)), some (some (328, [opRow (.v (.int .i64 15)) (.anyi .i64)]))]) := by kernel_rfl
theorem s14f (c : Nat → Int) (d l n : AVal) : obs (run4 qS (envS false (c 14) (.osl 5769 1 0 14 14) 14 d l n) (mkT 5770 (stL (.anyi .i64) (.anyi .i64) 5588 5597 5621 5596 5769 14 c))) 5973 (laterL 5791 5800 5824 5799 15 ++ baseL) [5799, 5972, 1530] =
    some (hdG (.osl 5972 1 0 15 15) 14 d l n, [some (some (1, rowsD c 15)), some (some (1, rowsI c 15)), some (some (328, [opRow (.anyi .i64) (.v (.int .i64 15))]))]) := by kernel_rfl
theorem s15t (c : Nat → Int) (d l n : AVal) : obs (run4 qS (envS true (c 15) (.osl 5972 1 0 15 15) 15 d l n) (mkT 5973 (stL (.anyi .i64) (.anyi .i64) 5791 5800 5824 5799 5972 15 c))) 6176 (laterL 5994 6003 6027 6002 16 ++ baseL) [6002, 6175, 1530] =
    some (hdG (.osl 6175 1 0 16 16) 15 d l n, [some (some (1, rowsD c 16)), some (some (1, rowsI c 16)), some (some (328, [opRow (.v (.int .i64 16)) (.anyi .i64)]))]) := by kernel_rfl
theorem s15f (c : Nat → Int) (d l n : AVal) : obs (run4 qS (envS false (c 15) (.osl 5972 1 0 15 15) 15 d l n) (mkT 5973 (stL (.anyi .i64) (.anyi .i64) 5791 5800 5824 5799 5972 15 c))) 6176 (laterL 5994 6003 6027 6002 16 ++ baseL) [6002, 6175, 1530] =
    some (hdG (.osl 6175 1 0 16 16) 15 d l n, [some (some (1, rowsD c 16)), some (some (1, rowsI c 16)), some (some (328, [opRow (.anyi .i64) (.v (.int .i64 16))]))]) := by kernel_rfl
end Go.Proofs.GD
