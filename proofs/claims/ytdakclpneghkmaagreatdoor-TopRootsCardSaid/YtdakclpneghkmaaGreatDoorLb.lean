/- The state behind Sym: the link "l" is there; its text's size and bytes are given. Printed by a program. -/
import Derived.Test.YtdakclpneghkmaaGreatDoorWe
import Derived.Test.YtdakclpneghkmaaGreatDoorSn
namespace Go.Proofs.GD
set_option linter.unusedSectionVars false
variable [Go.AI.Sym]
open Go Go.AI Go.RowKit
set_option maxRecDepth 100000
def LBc (zA zbA : AVal) : LS := [
 (0, diskO),
 (1, diskO),
 (2, .ls 4 [[.osl 0 1 0 16384 16384, .osl 1 1 0 16384 16384, aS0, .v (.int .i64 (-1))]]),
 (101, .ls 1 [[.v (.int .i64 54)]]),
 (102, .ar 1 64 [aU0] [(0, [.v (.int .u8 108)]), (14, [.v (.int .u8 4)])]),
 (103, .ls 1 [[.v (.int .i64 55)]]),
 (1528, .ls 16 [[.v (.pointer none), .v (.pointer none), .v (.pointer none), .v (.pointer none), .v (.pointer none), .v (.pointer none), .v (.pointer none), .v (.pointer none), .v (.pointer none), .v (.pointer none), .v (.pointer none), .v (.pointer none), .v (.pointer none), .v (.pointer none), .v (.pointer none), .v (.pointer none)]]),
 (1529, .ls 2 [[.v (.int .u32 0), aS0]]),
 (1530, .ls 328 [[.v (.int .i64 1), .v (.int .i64 2), .v (.int .i64 3), aF0, aI0, .v (.int .i64 1), aI0, aI0, aI0, aF0, aI0, aI0, aI0, aI0, aI0, aF0, aI0, aI0, aI0, aI0, aI0, aF0, aI0, aI0, aI0, aI0, aI0, aF0, aI0, aI0, aI0, aI0, aI0, aF0, aI0, aI0, aI0, aI0, aI0, aF0, aI0, aI0, aI0, aI0, aI0, aF0, aI0, aI0, aI0, aI0, aI0, aF0, aI0, aI0, aI0, aI0, aI0, aF0, aI0, aI0, aI0, aI0, aI0, aF0, aI0, aI0, aI0, aI0, aI0, aF0, aI0, aI0, aI0, aI0, aI0, aF0, aI0, aI0, aI0, aI0, aI0, aF0, aI0, aI0, aI0, aI0, aI0, aF0, aI0, aI0, aI0, aI0, aI0, aF0, aI0, aI0, aI0, aI0, aI0, aF0, aI0, aI0, aI0, aI0, aI0, aF0, aI0, aI0, aI0, aI0, aI0, aF0, aI0, aI0, aI0, aI0, aI0, aF0, aI0, aI0, aI0, aI0, aI0, aF0, aI0, aI0, aI0, aI0, aI0, aF0, aI0, aI0, aI0, aI0, aI0, aF0, aI0, aI0, aI0, aI0, aI0, aF0, aI0, aI0, aI0, aI0, aI0, aF0, aI0, aI0, aI0, aI0, aI0, aF0, aI0, aI0, aI0, aI0, aI0, aF0, aI0, aI0, aI0, aI0, aI0, aF0, aI0, aI0, aI0, aI0, aI0, aF0, aI0, aI0, aI0, aI0, aI0, aF0, aI0, aI0, aI0, aI0, aI0, aF0, aI0, aI0, aI0, aI0, aI0, aF0, aI0, aI0, aI0, aI0, aI0, aI0, aI0, aI0, aI0, aI0, .v (.int .i64 1), aI0, aI0, aI0, aI0, aI0, aI0, aI0, aI0, aI0, aI0, aI0, aI0, aI0, aI0, aI0, aI0, aI0, aI0, aI0, aI0, aI0, aI0, aI0, aI0, aI0, aI0, aI0, aI0, aI0, aI0, aI0, aI0, aI0, aI0, aI0, aI0, aI0, aI0, aI0, aI0, aI0, aI0, aI0, aI0, aI0, aI0, aI0, aI0, aI0, aI0, aI0, aI0, aI0, aI0, aI0, aI0, aI0, aI0, aI0, aI0, aI0, aI0, aI0, aI0, aI0, aI0, aI0, aI0, aI0, aI0, aI0, aI0, aI0, aI0, aI0, aI0, aI0, aI0, aI0, aI0, aI0, aI0, aI0, aI0, aI0, aI0, aI0, aI0, aI0, aI0, aI0, aI0, aI0, aI0, aI0, aI0, aI0, aI0, aI0, aI0, aI0, aI0, aI0, aI0, aI0, aI0, aI0, aI0, aI0, aI0, aI0, aI0, aI0, aI0, aI0, aI0, aI0, aI0, aI0, aI0, aI0, aI0, aI0, aI0, aI0, aI0, aI0]]),
 (1531, .ls 68 [[aI0, aI0, aI0, aI0, .v (.int .i64 1), aI0, .v (.int .i64 1), aI0, aI0, aI0, aI0, aI0, aI0, aI0, aI0, aI0, aI0, aI0, aI0, aI0, aI0, aI0, aI0, aI0, aI0, aI0, aI0, aI0, aI0, aI0, aI0, aI0, aI0, aI0, aI0, aI0, aI0, aI0, aI0, aI0, aI0, aI0, aI0, aI0, aI0, aI0, aI0, aI0, aI0, aI0, aI0, aI0, aI0, aI0, aI0, aI0, aI0, aI0, aI0, aI0, aI0, aI0, aI0, aI0, aI0, aI0, aI0, aI0]]),
 (1532, .ls 655 [[.v (.int .i64 1), .ptr 1535 5 0 0, .ptr 2064 198 0 0, .ptr 1528 16 0 0, .ptr 1533 4 0 0, .ptr 1529 2 0 0, .ptr 1530 328 0 0, .ptr 1531 68 0 0, aI0, .v (.int .u32 0), .v (.int .u32 0), .v (.int .u32 0), .v (.int .u32 0), .v (.int .u32 0), .v (.int .u32 0), .v (.int .u32 0), .v (.int .u32 0), .v (.int .u32 0), aI0, aI0, aI0, aS0, aI0, aI0, aI0, aS0, aS0, aI0, aI0, aI0, aI0, aI0, aI0, aI0, aI0, aI0, aI0, aI0, aI0, aI0, aI0, aI0, aI0, aI0, aI0, aF0, .v (.int .i64 1), .v (.int .u32 0), .v (.int .u32 0), .v (.int .u32 0), .v (.int .u32 0), .v (.int .u32 0), .v (.int .u32 0), .v (.int .u32 0), .v (.int .u32 0), .v (.int .u32 0), .v (.int .i64 1), aI0, aI0, aS0, .v (.int .i64 127), aI0, aI0, .osl 2804 1 0 1 1, aS0, aI0, aI0, aI0, aI0, aI0, aI0, aI0, aI0, aI0, aI0, aI0, aI0, aI0, aI0, aI0, aI0, aI0, aI0, aF0, aI0, .v (.int .u32 0), .v (.int .u32 0), .v (.int .u32 0), .v (.int .u32 0), .v (.int .u32 0), .v (.int .u32 0), .v (.int .u32 0), .v (.int .u32 0), .v (.int .u32 0), aI0, aI0, aI0, aS0, aI0, aI0, aI0, aS0, aS0, aI0, aI0, aI0, aI0, aI0, aI0, aI0, aI0, aI0, aI0, aI0, aI0, aI0, aI0, aI0, aI0, aI0, aI0, aF0, aI0, .v (.int .u32 0), .v (.int .u32 0), .v (.int .u32 0), .v (.int .u32 0), .v (.int .u32 0), .v (.int .u32 0), .v (.int .u32 0), .v (.int .u32 0), .v (.int .u32 0), aI0, aI0, aI0, aS0, aI0, aI0, aI0, aS0, aS0, aI0, aI0, aI0, aI0, aI0, aI0, aI0, aI0, aI0, aI0, aI0, aI0, aI0, aI0, aI0, aI0, aI0, aI0, aF0, aI0, .v (.int .u32 0), .v (.int .u32 0), .v (.int .u32 0), .v (.int .u32 0), .v (.int .u32 0), .v (.int .u32 0), .v (.int .u32 0), .v (.int .u32 0), .v (.int .u32 0), aI0, aI0, aI0, aS0, aI0, aI0, aI0, aS0, aS0, aI0, aI0, aI0, aI0, aI0, aI0, aI0, aI0, aI0, aI0, aI0, aI0, aI0, aI0, aI0, aI0, aI0, aI0, aF0, aI0, .v (.int .u32 0), .v (.int .u32 0), .v (.int .u32 0), .v (.int .u32 0), .v (.int .u32 0), .v (.int .u32 0), .v (.int .u32 0), .v (.int .u32 0), .v (.int .u32 0), aI0, aI0, aI0, aS0, aI0, aI0, aI0, aS0, aS0, aI0, aI0, aI0, aI0, aI0, aI0, aI0, aI0, aI0, aI0, aI0, aI0, aI0, aI0, aI0, aI0, aI0, aI0, aF0, aI0, .v (.int .u32 0), .v (.int .u32 0), .v (.int .u32 0), .v (.int .u32 0), .v (.int .u32 0), .v (.int .u32 0), .v (.int .u32 0), .v (.int .u32 0), .v (.int .u32 0), aI0, aI0, aI0, aS0, aI0, aI0, aI0, aS0, aS0, aI0, aI0, aI0, aI0, aI0, aI0, aI0, aI0, aI0, aI0, aI0, aI0, aI0, aI0, aI0, aI0, aI0, aI0, aF0, aI0, .v (.int .u32 0), .v (.int .u32 0), .v (.int .u32 0), .v (.int .u32 0), .v (.int .u32 0), .v (.int .u32 0), .v (.int .u32 0), .v (.int .u32 0), .v (.int .u32 0), aI0, aI0, aI0, aS0, aI0, aI0, aI0, aS0, aS0, aI0, aI0, aI0, aI0, aI0, aI0, aI0, aI0, aI0, aI0, aI0, aI0, aI0, aI0, aI0, aI0, aI0, aI0, aF0, aI0, .v (.int .u32 0), .v (.int .u32 0), .v (.int .u32 0), .v (.int .u32 0), .v (.int .u32 0), .v (.int .u32 0), .v (.int .u32 0), .v (.int .u32 0), .v (.int .u32 0), aI0, aI0, aI0, aS0, aI0, aI0, aI0, aS0, aS0, aI0, aI0, aI0, aI0, aI0, aI0, aI0, aI0, aI0, aI0, aI0, aI0, aI0, aI0, aI0, aI0, aI0, aI0, aF0, aI0, .v (.int .u32 0), .v (.int .u32 0), .v (.int .u32 0), .v (.int .u32 0), .v (.int .u32 0), .v (.int .u32 0), .v (.int .u32 0), .v (.int .u32 0), .v (.int .u32 0), aI0, aI0, aI0, aS0, aI0, aI0, aI0, aS0, aS0, aI0, aI0, aI0, aI0, aI0, aI0, aI0, aI0, aI0, aI0, aI0, aI0, aI0, aI0, aI0, aI0, aI0, aI0, aF0, aI0, .v (.int .u32 0), .v (.int .u32 0), .v (.int .u32 0), .v (.int .u32 0), .v (.int .u32 0), .v (.int .u32 0), .v (.int .u32 0), .v (.int .u32 0), .v (.int .u32 0), aI0, aI0, aI0, aS0, aI0, aI0, aI0, aS0, aS0, aI0, aI0, aI0, aI0, aI0, aI0, aI0, aI0, aI0, aI0, aI0, aI0, aI0, aI0, aI0, aI0, aI0, aI0, aF0, aI0, .v (.int .u32 0), .v (.int .u32 0), .v (.int .u32 0), .v (.int .u32 0), .v (.int .u32 0), .v (.int .u32 0), .v (.int .u32 0), .v (.int .u32 0), .v (.int .u32 0), aI0, aI0, aI0, aS0, aI0, aI0, aI0, aS0, aS0, aI0, aI0, aI0, aI0, aI0, aI0, aI0, aI0, aI0, aI0, aI0, aI0, aI0, aI0, aI0, aI0, aI0, aI0, aF0, aI0, .v (.int .u32 0), .v (.int .u32 0), .v (.int .u32 0), .v (.int .u32 0), .v (.int .u32 0), .v (.int .u32 0), .v (.int .u32 0), .v (.int .u32 0), .v (.int .u32 0), aI0, aI0, aI0, aS0, aI0, aI0, aI0, aS0, aS0, aI0, aI0, aI0, aI0, aI0, aI0, aI0, aI0, aI0, aI0, aI0, aI0, aI0, aI0, aI0, aI0, aI0, aI0, aF0, aI0, .v (.int .u32 0), .v (.int .u32 0), .v (.int .u32 0), .v (.int .u32 0), .v (.int .u32 0), .v (.int .u32 0), .v (.int .u32 0), .v (.int .u32 0), .v (.int .u32 0), aI0, aI0, aI0, aS0, aI0, aI0, aI0, aS0, aS0, aI0, aI0, aI0, aI0, aI0, aI0, aI0, aI0, aI0, aI0, aI0, aI0, aI0, aI0, aI0, aI0, aI0, aI0, aF0, aI0, .v (.int .u32 0), .v (.int .u32 0), .v (.int .u32 0), .v (.int .u32 0), .v (.int .u32 0), .v (.int .u32 0), .v (.int .u32 0), .v (.int .u32 0), .v (.int .u32 0), aI0, aI0, aI0, aS0, aI0, aI0, aI0, aS0, aS0, aI0, aI0, aI0, aI0, aI0, aI0, aI0, aI0, aI0, aI0, aI0, aI0, aI0, aI0, aI0, aI0, aI0, aI0, aF0, aI0, .v (.int .u32 0), .v (.int .u32 0), .v (.int .u32 0), .v (.int .u32 0), .v (.int .u32 0), .v (.int .u32 0), .v (.int .u32 0), .v (.int .u32 0), .v (.int .u32 0), aI0, aI0, aI0, aS0, aI0, aI0, aI0, aS0, aS0, aI0, aI0, aI0, aI0, aI0, aI0, aI0, aI0, aI0, aI0, aI0, aI0, aI0, aI0, aI0, aI0, aI0, aI0, aF0, aI0, .v (.int .u32 0), .v (.int .u32 0), .v (.int .u32 0), .v (.int .u32 0), .v (.int .u32 0), .v (.int .u32 0), .v (.int .u32 0), .v (.int .u32 0), .v (.int .u32 0), aI0, aI0, aI0, aS0, aI0, aI0, aI0, aS0, aS0, aI0, aI0, aI0, aI0, aI0, aI0, aI0, aI0, aI0, aI0, aI0, aI0, aI0, aI0, aI0, aI0, aI0, aI0, aF0, .v (.int .u32 0)]]),
 (1533, .ls 4 [[.v (.int .i64 1), aI0, .v (.int .i64 1), .osl 2101 15 0 1 1]]),
 (1534, .ls 0 [[.v (.int .i64 1), .ptr 2097 0 0 0]]),
 (1535, .ls 5 [[.v (.int .i64 64), .v (.int .i64 64), aI0, aS0, .ptr 1534 0 0 0]]),
 (1539, .ls 4 [[.ptr 2 4 0 0, .v (.int .i64 5), .v (.int .i64 32), .v (.int .u32 0)]]),
 (2062, .ls 0 [[.v (.int .i64 53), .osl 2546 1 0 64 64], [.v (.int .i64 37), .osl 2572 1 0 64 64], [.v (.int .i64 2), .osl 2419 1 0 64 64], [.v (.int .i64 38), .osl 2580 1 0 64 64], [.v (.int .i64 54), .osl 100 1 0 64 64], [.v (.int .i64 55), .osl 102 1 0 64 64]]),
 (2063, .ls 0 [[.v (.int .i64 2), .v (.int .i64 1)]]),
 (2064, .ls 198 [[.ptr 2 4 0 0, .ptr 1539 4 0 0, .v (.int .i64 37), .v (.int .i64 38), .v (.int .i64 39), .v (.int .i64 40), .v (.int .i64 41), .v (.int .i64 42), .v (.int .i64 43), .v (.int .i64 44), .v (.int .i64 45), .v (.int .i64 46), .v (.int .i64 47), .v (.int .i64 48), .v (.int .i64 49), .v (.int .i64 50), .v (.int .i64 51), .v (.int .i64 52), aU0, aU0, aU0, aU0, .v (.int .u8 224), .v (.int .u8 255), .v (.int .u8 255), aU0, aU0, aU0, aU0, aU0, aU0, aU0, aU0, aU0, aU0, aU0, aU0, aU0, aU0, aU0, aU0, aU0, aU0, aU0, aU0, aU0, aU0, aU0, aU0, aU0, aI0, aI0, aI0, aI0, aI0, aI0, aI0, aI0, aI0, aI0, aI0, aI0, aI0, aI0, aI0, aI0, aU0, aU0, aU0, aU0, aU0, aU0, aU0, aU0, aU0, aU0, aU0, aU0, aU0, aU0, aU0, aU0, aU0, aU0, aU0, aU0, aU0, aU0, aU0, aU0, aU0, aU0, aU0, aU0, aU0, aU0, aU0, aU0, aI0, aI0, aI0, aI0, aI0, aI0, aI0, aI0, aI0, aI0, aI0, aI0, aI0, aI0, aI0, aI0, aU0, aU0, aU0, aU0, aU0, aU0, aU0, aU0, aU0, aU0, aU0, aU0, aU0, aU0, aU0, aU0, aU0, aU0, aU0, aU0, aU0, aU0, aU0, aU0, aU0, aU0, aU0, aU0, aU0, aU0, aU0, aU0, aI0, aI0, aI0, aI0, aI0, aI0, aI0, aI0, aI0, aI0, aI0, aI0, aI0, aI0, aI0, aI0, aU0, aU0, aU0, aU0, aU0, aU0, aU0, aU0, aU0, aU0, aU0, aU0, aU0, aU0, aU0, aU0, aU0, aU0, aU0, aU0, aU0, aU0, aU0, aU0, aU0, aU0, aU0, aU0, aU0, aU0, aU0, aU0, aS0, .osl 2501 8 0 32 32, .ptr 2062 0 0 0, .ptr 2063 0 0 0]]),
 (2097, .ls 0 []),
 (2101, .ls 15 [[.v (.int .i64 1), .v (.int .i64 1), .v (.int .i64 10), aI0, aI0, aI0, aI0, aI0, aI0, aI0, .v (.int .i64 1), .v (.int .i64 1), .v (.bool true), aF0, aI0]]),
 (2419, .ar 1 64 [aU0] [(4, [.v (.int .u8 224)]), (5, [.v (.int .u8 255)]), (6, [.v (.int .u8 255)])]),
 (2501, .ls 8 [[.v (.int .i64 2), .v (.int .i64 493), aI0, aI0, .v (.int .i64 32), .v (.int .i64 1), .v (.int .i64 1), .osl 2547 1 0 1 1], [.v (.int .i64 1), .v (.int .i64 420), aI0, aI0, aI0, .v (.int .i64 1), aI0, aS0], [.v (.int .i64 2), .v (.int .i64 511), aI0, aI0, .v (.int .i64 16), .v (.int .i64 1), .v (.int .i64 1), .osl 103 1 0 1 1], [.v (.int .i64 3), .v (.int .i64 511), aI0, aI0, zA, .v (.int .i64 1), aI0, .osl 101 1 0 1 1], z8, z8, z8, z8, z8, z8, z8, z8, z8, z8, z8, z8, z8, z8, z8, z8, z8, z8, z8, z8, z8, z8, z8, z8, z8, z8, z8, z8]),
 (2546, .ar 1 64 [aU0] [(0, [.v (.int .u8 111)]), (1, [.v (.int .u8 117)]), (2, [.v (.int .u8 116)]), (14, [.v (.int .u8 2)]), (16, [.v (.int .u8 105)]), (17, [.v (.int .u8 110)]), (30, [.v (.int .u8 3)])]),
 (2547, .ls 1 [[.v (.int .i64 53)]]),
 (2572, .ar 1 64 [aU0] [(0, [.v (.int .u8 2)]), (1, [.v (.int .u8 237)]), (2, [.v (.int .u8 1)]), (5, [.v (.int .u8 32)]), (7, [.v (.int .u8 1)]), (8, [.v (.int .u8 1)]), (9, [.v (.int .u8 53)]), (10, [.v (.int .u8 1)]), (32, [.v (.int .u8 1)]), (33, [.v (.int .u8 164)]), (34, [.v (.int .u8 1)]), (39, [.v (.int .u8 1)])]),
 (2580, .ar 1 64 [aU0] [(0, [.v (.int .u8 2)]), (1, [.v (.int .u8 255)]), (2, [.v (.int .u8 1)]), (5, [.v (.int .u8 16)]), (7, [.v (.int .u8 1)]), (8, [.v (.int .u8 1)]), (9, [.v (.int .u8 55)]), (10, [.v (.int .u8 1)]), (32, [.v (.int .u8 3)]), (33, [.v (.int .u8 255)]), (34, [.v (.int .u8 1)]), (37, [zbA]), (39, [.v (.int .u8 1)]), (41, [.v (.int .u8 54)]), (42, [.v (.int .u8 1)])]),
 (2804, .ls 1 [[.v (.int .i64 3)]])]
end Go.Proofs.GD
/- A memory that is known a little less: cell for cell. -/
namespace Go.AI
set_option linter.unusedSectionVars false
variable [Go.AI.Sym]
set_option linter.unusedSectionVars false
set_option maxRecDepth 100000
open Go.RowKit
def RowL : Row → Row → Prop
 | [], [] => True
 | a :: r, a' :: r' => Lss a a' ∧ RowL r r'
 | _, _ => False
def RowsL : List Row → List Row → Prop
 | [], [] => True
 | r :: l, r' :: l' => RowL r r' ∧ RowsL l l'
 | _, _ => False
theorem RowL.refl : ∀ r : Row, RowL r r
 | [] => trivial
 | a :: r => ⟨Lss.refl a, RowL.refl r⟩
theorem RowsL.refl : ∀ l : List Row, RowsL l l
 | [] => trivial
 | r :: l => ⟨RowL.refl r, RowsL.refl l⟩
theorem RowL.at_ : ∀ {r r' : Row}, RowL r r' → r'.length = r.length ∧ ∀ (j : Nat) a a', r[j]? = some a → r'[j]? = some a' → Lss a a'
 | [], [], _ => ⟨rfl, fun j a a' h => by simp at h⟩
 | x :: r, x' :: r', h => by
  obtain ⟨h1, h2⟩ := RowL.at_ h.2
  refine ⟨by simp [h1], fun j a a' ha ha' => ?_⟩
  cases j with
  | zero => simp at ha ha'; subst ha; subst ha'; exact h.1
  | succ j => exact h2 j a a' (by simpa using ha) (by simpa using ha')
 | [], _ :: _, h => h.elim
 | _ :: _, [], h => h.elim
theorem RowsL.at_ : ∀ {l l' : List Row}, RowsL l l' → l'.length = l.length ∧ ∀ (i : Nat) r', l'[i]? = some r' → ∃ r, l[i]? = some r ∧ RowL r r'
 | [], [], _ => ⟨rfl, fun i r' h => by simp at h⟩
 | x :: l, x' :: l', h => by
  obtain ⟨h1, h2⟩ := RowsL.at_ h.2
  refine ⟨by simp [h1], fun i r' hr => ?_⟩
  cases i with
  | zero => simp at hr; subst hr; exact ⟨x, rfl, h.1⟩
  | succ i => obtain ⟨r, q1, q2⟩ := h2 i r' (by simpa using hr); exact ⟨r, by simpa using q1, q2⟩
 | [], _ :: _, h => h.elim
 | _ :: _, [], h => h.elim
theorem HSim.lss {base : Nat} {w0 : World} {β : Nat → Nat} {fz : Nat → Prop} {H H' : Heap} {w : World} (hs : HSim base w0 β fz H w) (hl : H'.length = H.length)
  (h : ∀ (id sz : Nat) (rows' : List Row), H'[id]? = some (some (sz, rows')) → ∃ rows, H[id]? = some (some (sz, rows)) ∧ (rows' = rows ∨ sz ≠ 0 ∧ RowsL rows rows')) : HSim base w0 β fz H' w := by
 have live : ∀ {k}, Live H' k → Live H k := fun ⟨⟨sz, rows⟩, hx⟩ => let ⟨r, q, _⟩ := h _ _ _ hx; ⟨_, q⟩
 refine ⟨fun id sz rows' hq => ?_, fun a b ha hb => hs.inj a b (live ha) (live hb), fun k hk => hs.own k (live hk), hs.fzlt, hs.below, hs.base⟩
 obtain ⟨rows, q, hc⟩ := h id sz rows' hq
 rw [hl]
 rcases hc with rfl | ⟨h0, hR⟩
 ·exact hs.objs' id sz _ q
 ·rw [OSim, if_neg h0]
  obtain ⟨cs, e, g1, g2, g3, g4, g5⟩ := hs.cells0 q h0
  obtain ⟨k1, k2⟩ := hR.at_
  refine ⟨cs, e, g1, fun r' hr' => ?_, by rw [k1]; exact g3, g4, fun i r' hi j c hj => ?_⟩
  ·obtain ⟨i, hi⟩ := List.getElem?_of_mem hr'
   obtain ⟨r, hr, hrl⟩ := k2 i r' hi
   rw [hrl.at_.1]; exact g2 r (List.mem_of_getElem? hr)
  ·obtain ⟨r, hr, hrl⟩ := k2 i r' hi
   obtain ⟨m1, m2⟩ := hrl.at_
   have hj' : j < r.length := by have := (List.getElem?_eq_some_iff.1 hj).1; omega
   exact m2 j _ c (List.getElem?_eq_getElem hj') hj (fun o b hb => ⟨hb.1, fun q => by cases q⟩) (g5 i r hr j _ (List.getElem?_eq_getElem hj'))
def LoL (o o' : LO) : Prop := o' = o ∨ ∃ sz rows rows', sz ≠ 0 ∧ absO (toO o) = some (sz, rows) ∧ absO (toO o') = some (sz, rows') ∧ RowsL rows rows'
def LsZ : LS → LS → Prop
 | [], [] => True
 | p :: l, p' :: l' => p'.1 = p.1 ∧ LoL p.2 p'.2 ∧ LsZ l l'
 | _, _ => False
theorem LsZ.refl : ∀ l : LS, LsZ l l
 | [] => trivial
 | _ :: l => ⟨rfl, .inl rfl, LsZ.refl l⟩
theorem LsZ.app : ∀ {l l' m m' : LS}, LsZ l l' → LsZ m m' → LsZ (l ++ m) (l' ++ m')
 | [], [], _, _, _, h => h
 | _ :: _, _ :: _, _, _, h, k => ⟨h.1, h.2.1, LsZ.app h.2.2 k⟩
 | [], _ :: _, _, _, h, _ => h.elim
 | _ :: _, [], _, _, h, _ => h.elim
theorem putLH_lss : ∀ {l l' : LS} {H H' : Heap}, LsZ l l' → H'.length = H.length → (∀ (id sz : Nat) (rows' : List Row), H'[id]? = some (some (sz, rows')) → ∃ rows, H[id]? = some (some (sz, rows)) ∧ (rows' = rows ∨ sz ≠ 0 ∧ RowsL rows rows')) →
  (putLH l' H').length = (putLH l H).length ∧ ∀ (id sz : Nat) (rows' : List Row), (putLH l' H')[id]? = some (some (sz, rows')) → ∃ rows, (putLH l H)[id]? = some (some (sz, rows)) ∧ (rows' = rows ∨ sz ≠ 0 ∧ RowsL rows rows')
 | [], [], H, H', _, hl, h => ⟨hl, h⟩
 | p :: l, p' :: l', H, H', hz, hl, h => by
  refine putLH_lss (l := l) (l' := l') (H := H.set p.1 (absO (toO p.2))) (H' := H'.set p'.1 (absO (toO p'.2))) hz.2.2 (by simpa using hl) fun id sz rows' hq => ?_
  rw [hz.1] at hq
  rw [List.getElem?_set] at hq ⊢
  by_cases e : p.1 = id
  ·rw [if_pos e] at hq ⊢
   by_cases e2 : id < H.length
   ·rw [if_pos (by rw [hl]; omega)] at hq
    rw [if_pos (by omega)]
    simp only [Option.some.injEq] at hq ⊢
    rcases hz.2.1 with h1 | ⟨sz0, rows, rows0, k1, k2, k3, k4⟩
    ·rw [h1] at hq; exact ⟨rows', hq, .inl rfl⟩
    ·rw [k3] at hq
     cases hq
     exact ⟨rows, k2, .inr ⟨k1, k4⟩⟩
   ·rw [if_neg (by rw [hl]; omega)] at hq; cases hq
  ·rw [if_neg e] at hq ⊢
   exact h id sz rows' hq
 | [], _ :: _, _, _, h, _, _ => h.elim
 | _ :: _, [], _, _, h, _, _ => h.elim
theorem mkH_lss {n : Nat} {l l' : LS} (h : LsZ l l') {base : Nat} {w0 : World} {β : Nat → Nat} {fz : Nat → Prop} {w : World} (hs : HSim base w0 β fz (mkH n l) w) : HSim base w0 β fz (mkH n l') w := by
 obtain ⟨k1, k2⟩ := putLH_lss (l := l) (l' := l') (H := List.replicate n none) (H' := List.replicate n none) h rfl (fun id sz rows' hq => by
  rw [List.getElem?_replicate] at hq
  split at hq <;> cases hq)
 exact hs.lss k1 k2
theorem InlOk.pre {P : Program} {f : FuncId} {a : Row} {n n' : Nat} {l l' lm : LS} {r : AVal} (h : InlOk P f (snapM a n l r n' l')) (hl : LsZ lm l) : InlOk P f (snapM a n lm r n' l') := by
 intro args H r0 H' hr base w0 β fz w vals hs hargs fn hfn
 unfold snapM at hr
 split at hr
 case isFalse => cases hr
 rename_i hc
 obtain ⟨rfl, hsub⟩ := hc
 simp only [Option.some.injEq, Prod.mk.injEq] at hr
 obtain ⟨rfl, rfl⟩ := hr
 have hlen : H.length = n := by rw [← hsub.len, mkH_len]
 have hn : (mkH n l).length = n := mkH_len n l
 rw [hlen, ← hn] at hargs
 have := h args (mkH n l) r (mkH n' l') (if_pos ⟨rfl, ⟨rfl, fun _ _ h => h⟩⟩) base w0 β fz w vals (mkH_lss hl (hs.sub hsub)) hargs fn hfn
 rw [hn] at this
 rw [hlen]
 exact this
theorem InlOk.post {P : Program} {f : FuncId} {a : Row} {n n' : Nat} {l l' lm : LS} {r : AVal} (h : InlOk P f (snapM a n l r n' l')) (hl : LsZ l' lm) : InlOk P f (snapM a n l r n' lm) := by
 intro args H r0 H' hr base w0 β fz w vals hs hargs fn hfn
 unfold snapM at hr
 split at hr
 case isFalse => cases hr
 rename_i hc
 simp only [Option.some.injEq, Prod.mk.injEq] at hr
 obtain ⟨rfl, rfl⟩ := hr
 obtain ⟨k1, k2⟩ := h args H r (mkH n' l') (if_pos hc) base w0 β fz w vals hs hargs fn hfn
 have key : ∀ e w', (∃ v β' fz', e = Ending.returned v ∧ HSim base w0 β' fz' (mkH n' l') w' ∧ Ext H.length β fz w (mkH n' l').length β' fz' w' ∧ R β' (okOf base fz') w' (mkH n' l').length r v) → ∃ v β' fz', e = .returned v ∧ HSim base w0 β' fz' (mkH n' lm) w' ∧ Ext H.length β fz w (mkH n' lm).length β' fz' w' ∧ R β' (okOf base fz') w' (mkH n' lm).length r v := by
  rintro e w' ⟨v, β', fz', a1, a2, a3, a4⟩
  refine ⟨v, β', fz', a1, mkH_lss hl a2, ?_, ?_⟩
  ·rw [mkH_len] at a3 ⊢; exact a3
  ·rw [mkH_len] at a4 ⊢; exact a4
 exact ⟨fun hb => (k1 hb).mono key, fun hb => let ⟨v, w', b1, b2⟩ := k2 hb; ⟨v, w', b1, key _ _ b2⟩⟩
theorem Ent.lss {n0 n : Nat} {l l' : LS} {ρ : Env} (h : LsZ l l') : Ent n0 (ρ, mkH n l') (ρ, mkH n l) := Ent.ofH (by rw [mkH_len, mkH_len]) fun hs => mkH_lss h hs
end Go.AI
/- Phase B: the link is there. Its state, and names at marks. -/
namespace Go.Proofs.GD
set_option linter.unusedSectionVars false
variable [Go.AI.Sym]
open Go Go.AI Go.RowKit
set_option maxRecDepth 100000
def blM : List Row := (List.range 64).map fun i => [.str (100 + i)]
def SAB : LS := LBc (.str 70) (.str 71) ++ [(100, .ls 1 blM)]
def SWb : LS := LBc (.str 70) (.str 71) ++ [(2826, .ls 1 [[.v (.int .i64 3)]])]
def kWB (c : Int) (bx : Nat → LO) : LS := (100, .ls 1 blM) :: (2827, .ls 10 [wkR c]) :: bxL bx
def SBB (c : Int) (bx : Nat → LO) : LS := SWb ++ kWB c bx
theorem partV {cat : FuncId → Sp} (hT : TabV Tryz.prog tab4 cat) {f nt n0 : Nat} {c : Code} {ρ ρ' : Env} {e n n' : Nat} {l l' kL : LS} {kk : List Nat} (hok : okLS n l = true)
  (hx : obsB (runG f nt cat c ρ (mkT n l)) e n' l' kk (kL.map Prod.fst) = some (ρ', kL.map fun p => some (absO (toO p.2)))) :
  AWp Tryz.prog nt n0 c (fun ex ρ2 H2 => exN ex = e ∧ Ent n0 (ρ', mkH n' (l' ++ kL)) (ρ2, H2)) ρ (mkH n l) := by
 have hm : Tryz.prog.follows .mixedOrders = true := by kernel_rfl
 obtain ⟨ex, ρ2, T, h1, h2, rfl, h4, h5, h6⟩ := obsB_some hx
 obtain ⟨H', q1, q2⟩ := runT_sound (n0 := n0) hT hm (mkT_R hok) h1
 have hn : n' = H'.length := by rw [← q1.n]; exact (Nat.eq_of_beq_eq_true h4).symm
 have hsub : SubH (mkH n' (l' ++ kL)) H' := by
  refine putLH_sub ⟨by simp [hn], fun id q hq => ?_⟩ (fun p hp => ?_)
  ·rw [List.getElem?_replicate] at hq
   split at hq <;> cases hq
  ·rcases List.mem_append.1 hp with hp | hp
   ·exact checkLS_at q1 h5 p hp
   ·rw [List.map_map] at h6
    have := map_atW h6 p hp
    simp only [Function.comp, tgetR_eq] at this
    rw [← q1.g, ← this]
 refine q2.ofX ⟨h2, ?_⟩
 refine Ent.trans (Ent.env fun p hp => ?_) (Ent.ofH (H' := mkH n' (l' ++ kL)) hsub.len fun hs => hs.sub hsub)
 obtain ⟨k, _, rfl⟩ := List.mem_map.1 hp
 rfl
def mkB : Nat → Option Value
 | 0 => some (.bool true)
 | 1 => some (.bool false)
 | 2 => some (.bool true)
 | 3 => some (.bool true)
 | _ => none
def mkC : Nat → Option Int
 | 2 => some (-1)
 | 3 => some 1
 | _ => none
noncomputable def cmpX (args : Row) : Option Value := match args with
 | [.str k, .v (.string b)] => cond (beqA (.v (.string b)) (.v (.string elB))) (match mkC k with | some x => some (.int .i64 x) | none => none) none
 | _ => none
structure MarksB : Prop where
 name : ∀ k b, mkB k = some (.bool b) → ∀ x, Sym.P k x → ∃ s, x = .string s ∧ nameB s = b
 cmp : ∀ k c, mkC k = some c → ∀ x, Sym.P k x → ∃ s, x = .string s ∧ cmpB s elB = c
attribute [local simp] cStr strDec
theorem cmp_inl (hM : MarksB) : InlOk Tryz.prog 274 (extM cmpX) := by
 intro args H r H' hr base w0 β fz w vals hs hargs
 simp only [extM, Option.map_map, Option.map_eq_some_iff, Function.comp, Prod.mk.injEq] at hr
 obtain ⟨x, hx, rfl, rfl⟩ := hr
 unfold cmpX at hx
 split at hx
 case h_2 => cases hx
 rename_i k b
 cases hb : beqA (.v (.string b)) (.v (.string elB)) with
 | false => rw [hb] at hx; cases hx
 | true =>
 rw [hb, cond_true] at hx
 have hb2 := beqA_eq hb
 cases hb2
 split at hx
 case h_2 => cases hx
 rename_i c hc
 cases hx
 obtain ⟨hsz, hv⟩ := hargs
 have h0 := hv 0 _ rfl
 have h1 := hv 1 _ rfl
 have hs1 : vals.size = 2 := hsz
 have h1' := h1.v_inv
 generalize hv0 : vals[0]?.getD undef = y at h0
 cases h0 with
 | str hP =>
  obtain ⟨s, rfl, hg⟩ := hM.cmp k c hc _ hP
  have hvals : vals = #[.string s, .string elB] := by
   apply Array.ext
   ·simpa using hs1
   ·intro i h2 h3
    match i, h3 with
    | 0, _ => simpa [h2] using hv0
    | 1, _ => simpa [h2] using h1'
    | i + 2, h3 => simp at h3; omega
  subst hvals
  refine CallsX.of Tryz.func274 rfl ((cm274 [.v (.string s), .v (.string elB)] (.v (.int .i64 (cmpB s elB))) (by simp [argM, finM, Cod.plain]) w _ (ArgsR.of (vals := [.string s, .string elB]) rfl (fun j a ha => by
   match j, ha with
   | 0, ha => simp at ha; subst ha; exact .v
   | 1, ha => simp at ha; subst ha; exact .v
   | j + 2, ha => simp at ha))).mono ?_)
  rintro e w' ⟨v, rfl, hb', hR⟩
  obtain ⟨q1, q2⟩ := hs.called hb'
  refine ⟨v, _, _, rfl, q1, q2, ?_⟩
  rw [hR.v_inv, hg]
  exact .v
noncomputable def nmM (args : Row) (H : Heap) : Option (AVal × Heap) := match args with
 | [.str k] => markM mkB [.str k] H
 | [.v (.string b)] => cond (beqA (.v (.string b)) (.v (.string elB))) (some (.v (.bool true), H)) none
 | _ => none
noncomputable def nmT (args : Row) (T : TH) : Option (AVal × TH) := match args with
 | [.str k] => markT mkB [.str k] T
 | [.v (.string b)] => cond (beqA (.v (.string b)) (.v (.string elB))) (some (.v (.bool true), T)) none
 | _ => none
theorem nm_sim (args : Row) (T : TH) (H : Heap) (h : TR T H) : SimO (nmT args T) (nmM args H) := by
 unfold nmT nmM
 split
 ·exact mark_sim mkB _ T H h
 ·rename_i b
  cases beqA (.v (.string b)) (.v (.string elB)) with
  | false => exact SimO.nil
  | true => exact SimO.one h _
 ·exact SimO.nil
theorem nm_inl (hM : MarksB) : InlOk Tryz.prog 208 nmM := by
 intro args H r H' hr
 unfold nmM at hr
 split at hr
 ·exact mark_inl Tryz.func208 rfl nm208 (mk := mkB) (fun k x hx y hy => by
   have : ∃ b, x = .bool b := by
    unfold mkB at hx
    split at hx <;> cases hx <;> exact ⟨_, rfl⟩
   obtain ⟨b, rfl⟩ := this
   obtain ⟨s, rfl, h⟩ := hM.name k b hx y hy
   exact ⟨s, rfl, by rw [h]⟩) _ H r H' hr
 ·rename_i b
  intro base w0 β fz w vals hs hargs
  cases hb : beqA (.v (.string b)) (.v (.string elB)) with
  | false => rw [hb] at hr; cases hr
  | true =>
   rw [hb] at hr
   cases hr
   have hb2 := beqA_eq hb
   cases hb2
   have hs1 : vals.size = 1 := hargs.1
   have h0 := (hargs.2 0 _ rfl).v_inv
   have hvals : vals = #[.string elB] := by
    apply Array.ext
    ·simpa using hs1
    ·intro i h2 h3
     have : i = 0 := by simp at h3; omega
     subst this
     simpa [h2] using h0
   subst hvals
   have e : nameB elB = true := by kernel_rfl
   refine CallsX.of Tryz.func208 rfl ((nm208 [.v (.string elB)] (.v (.bool true)) (by simp [argM, finM, Cod.plain, e]) w _ (ArgsR.of (vals := [.string elB]) rfl (fun j a ha => by
    match j, ha with
    | 0, ha => simp at ha; subst ha; exact .v
    | j + 1, ha => simp at ha))).mono ?_)
   rintro e w' ⟨v, rfl, hb', hR⟩
   obtain ⟨q1, q2⟩ := hs.called hb'
   refine ⟨v, _, _, rfl, q1, q2, ?_⟩
   rw [hR.v_inv]
   exact .v
 ·cases hr
noncomputable def catB : FuncId → Sp := fun g => cond (Nat.beq g 274) (.ext cmpX) (cond (Nat.beq g 208) (.gen (fun _ => nmM) (fun _ _ => nmT) (fun _ _ args T H _ h => nm_sim args T H h)) (cat4 g))
theorem hTB (hM : MarksB) : TabV Tryz.prog tab4 catB := (hT4.addG q208 fun _ _ => nm_inl hM).addX (cmp_inl hM)
section
variable (bx : Nat → LO) (c : Int) (l : AVal)
theorem b_may (p : AVal) : obsB (runG 246 125 cat4 wM4 (wkE l p) (mkT 2828 (SBB c bx))) 0 2838 SWb [0, 1, 2, 7] ((kWB c bx).map Prod.fst) = some (wkE l p, (kWB c bx).map fun p => some (absO (toO p.2))) := by kernel_rfl
theorem b_dot : obsB (runG 246 125 cat4 wD (wkE l (.v (.string dotB))) (mkT 2828 (SBB c bx))) 3 2838 SWb [0, 1, 2] ((kWB c bx).map Prod.fst) = some (wkE3 l, (kWB c bx).map fun p => some (absO (toO p.2))) := by kernel_rfl
theorem b_dots : obsB (runG 246 125 cat4 wD (wkE l (.v (.string dotsB))) (mkT 2828 (SBB c bx))) 3 2838 SWb [0, 1, 2] ((kWB c bx).map Prod.fst) = some (wkE3 l, (kWB c bx).map fun p => some (absO (toO p.2))) := by kernel_rfl
theorem b_nul : obsB (runG 246 125 catB wT (wkE l (.str 1)) (mkT 2828 (SBB c bx))) 1 2828 SWb [6] ((kWB c bx).map Prod.fst) = some ([(6, .v (.int .i64 3))], (kWB c bx).map fun p => some (absO (toO p.2))) := by kernel_rfl
theorem b_no2 : obsB (runG 246 125 catB wT (wkE l (.str 2)) (mkT 2828 (SBB c bx))) 1 2853 SWb [6] ((kWB c bx).map Prod.fst) = some ([(6, .v (.int .i64 4))], (kWB c bx).map fun p => some (absO (toO p.2))) := by kernel_rfl
theorem b_no3 : obsB (runG 246 125 catB wT (wkE l (.str 3)) (mkT 2828 (SBB c bx))) 1 2853 SWb [6] ((kWB c bx).map Prod.fst) = some ([(6, .v (.int .i64 4))], (kWB c bx).map fun p => some (absO (toO p.2))) := by kernel_rfl
noncomputable def wR12 : Code := fstC wT
noncomputable def wB13 : Code := fstC (sndC wT)
noncomputable def wR15 : Code := fstC (sndC (sndC wT))
noncomputable def wB16 : Code := fstC (sndC (sndC (sndC wT)))
noncomputable def wC18 : Code := fstC (sndC (sndC (sndC (sndC wT))))
noncomputable def wR18 : Code := fstC wC18
noncomputable def wRest : Code := sndC (sndC (sndC (sndC (sndC wT))))
def eE (n : AVal) : Env := [(0, .ptr 2827 10 0 0), (1, l), (2, .v (.bool true)), (9, n)]
theorem b_12 : obsB (runG 246 125 cat4 wR12 (wkE l (.v (.string elB))) (mkT 2828 (SBB c bx))) 0 2853 SWb [10, 0, 1, 2, 9] ((kWB c bx).map Prod.fst) = some ((10, .v (.int .i64 0)) :: eE l (.v (.int .i64 4)), (kWB c bx).map fun p => some (absO (toO p.2))) := by kernel_rfl
theorem b_13 : obsB (runG 246 125 cat4 wB13 ((10, .v (.int .i64 0)) :: eE l (.v (.int .i64 4))) (mkT 2853 (SBB c bx))) 0 2853 SWb [0, 1, 2, 9] ((kWB c bx).map Prod.fst) = some (eE l (.v (.int .i64 4)), (kWB c bx).map fun p => some (absO (toO p.2))) := by kernel_rfl
def stO : LO := .ls 6 [[.v (.int .i64 3), .v (.int .i64 511), .v (.int .i64 0), .v (.int .i64 0), .str 70, .v (.int .i64 1)]]
def SWs : LS := SWb ++ [(2853, stO)]
def fE (n : AVal) : Env := (11, .ptr 2853 6 0 0) :: eE l n
theorem b_15 : obsB (runG 246 125 cat4 wR15 (eE l (.v (.int .i64 4))) (mkT 2853 (SBB c bx))) 0 2854 SWs [10, 11, 0, 1, 2, 9] ((kWB c bx).map Prod.fst) = some ((10, .v (.int .i64 0)) :: fE l (.v (.int .i64 4)), (kWB c bx).map fun p => some (absO (toO p.2))) := by kernel_rfl
theorem b_16 : obsB (runG 246 125 cat4 wB16 ((10, .v (.int .i64 0)) :: fE l (.v (.int .i64 4))) (mkT 2854 (SWs ++ kWB c bx))) 0 2854 SWs [11, 0, 1, 2, 9] ((kWB c bx).map Prod.fst) = some (fE l (.v (.int .i64 4)), (kWB c bx).map fun p => some (absO (toO p.2))) := by kernel_rfl
theorem b_18 (rows : List Row) : obsB (runG 246 125 cat4 wR18 (fE (.fsl true 1 rows) (.v (.int .i64 4))) (mkT 2854 (SWs ++ kWB c bx))) 0 2854 SWb [90, 0, 1, 2, 9] ((kWB c bx).map Prod.fst) = some ((90, .v (.bool true)) :: eE (.fsl true 1 rows) (.v (.int .i64 4)), (kWB c bx).map fun p => some (absO (toO p.2))) := by kernel_rfl
end
end Go.Proofs.GD
/- FS.Sym makes the link: runs of the kernel, one for each size of the text. -/
namespace Go.Proofs.GD
set_option linter.unusedSectionVars false
variable [Go.AI.Sym]
open Go Go.AI Go.RowKit
set_option maxRecDepth 100000
def fsA (p : AVal) : Row := [.ptr 2064 198 0 0, .v (.int .i64 3), .v (.string ⟨#[108]⟩), p, zi, zi]
def txB (z : Nat) (x : Nat → UInt8) : ByteArray := ⟨((List.range z).map x).toArray⟩
def blkR (z : Nat) (x : Nat → UInt8) : List Row := (List.range 64).map fun i => [.v (.int .u8 (bif Nat.blt i z then (x i).toNat else 0))]
def mvS : List (Nat × Nat) := [(2501, 2869), (2419, 3116), (2580, 2974), (100, 2878), (101, 2879), (102, 2929), (103, 2930)]
def LBz (z : Nat) : LS := LBc (.v (.int .i64 z)) (.v (.int .u8 z))
def r65 : AVal := .v (.tuple #[.int .i64 4, .int .i64 0])
theorem subK {T : TH} {H : Heap} (h : TR T H) {n : Nat} {l kL : LS} (hn : Nat.beq T.n n = true) (hc : checkLS T l = true) (ho : (kL.map fun p => some (absO (toO p.2))) = (kL.map Prod.fst).map fun k => (tgetR T.t k).map absO) : SubH (mkH n (l ++ kL)) H := by
 have hn : n = H.length := by rw [← h.n]; exact (Nat.eq_of_beq_eq_true hn).symm
 refine putLH_sub ⟨by simp [hn], fun id q hq => ?_⟩ (fun p hp => ?_)
 ·rw [List.getElem?_replicate] at hq
  split at hq <;> cases hq
 ·rcases List.mem_append.1 hp with hp | hp
  ·exact checkLS_at h hc p hp
  ·rw [List.map_map] at ho
   have := map_atW ho p hp
   simp only [Function.comp, tgetR_eq] at this
   rw [← h.g, ← this]
theorem snapK {cat : FuncId → Sp} (hT : TabV Tryz.prog tab4 cat) {f : Nat} {a : Row} {n n' : Nat} {l0 l' kL : LS} {r : AVal} (h0 : okLS n l0 = true)
  (hx : obsF (execT Tryz.prog tab4 cat live 5000 60 f a (mkT n l0)) n' l' (kL.map Prod.fst) = some (r, kL.map fun p => some (absO (toO p.2)))) : InlOk Tryz.prog f (snapM a n l0 r n' (l' ++ kL)) := by
 have hm : Tryz.prog.follows .mixedOrders = true := by kernel_rfl
 obtain ⟨T, h1, h2, h3, h4⟩ := obsF_some hx
 obtain ⟨H, q1, q2⟩ := execT_sim 60 f a (mkT n l0) (mkH n l0) (mkT_R h0) r T h1
 exact snap_inl (execW_inl hT hm 60 f) q1 (subK q2 h2 h3 h4)
def Run65 (z : Nat) : Prop := ∀ (x : Nat → UInt8) (bx : Nat → LO), obsF (execT Tryz.prog tab4 cat4 live 5000 60 65 (fsA (.v (.string (txB z x)))) (mkT 2849 (addB SA bx))) 3121 ((LBz z).map (mvP (gOf mvS))) (((2878, .ls 1 (blkR z x)) :: bxL bx).map Prod.fst) = some (r65, ((2878, .ls 1 (blkR z x)) :: bxL bx).map fun p => some (absO (toO p.2)))
end Go.Proofs.GD
