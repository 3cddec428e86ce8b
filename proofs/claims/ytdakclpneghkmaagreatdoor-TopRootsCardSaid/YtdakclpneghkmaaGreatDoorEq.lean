/- The code of TopRoots in parts. -/
import Derived.Test.YtdakclpneghkmaaGreatDoorCat
import Derived.Test.YtdakclpneghkmaaGreatDoorTab
import Derived.Test.YtdakclpneghkmaaGreatDoorL11
import Derived.Test.YtdakclpneghkmaaGreatDoorL09
import Derived.Test.YtdakclpneghkmaaGreatDoorL12
import Derived.Test.YtdakclpneghkmaaGreatDoorL13
import Derived.Test.YtdakclpneghkmaaGreatDoorTQ
import Derived.Lib.Strings
namespace Go.Proofs.GD
set_option linter.unusedSectionVars false
variable [Go.AI.Sym]
open Go Go.AI Go.RowKit
set_option maxRecDepth 100000
def blkC : Code → Code
 | .block _ x => x
 | c => c
def lopC : Code → Code
 | .loop x => x
 | c => c
noncomputable def r0c : Code := bodyC Tryz.f5
noncomputable def rR0 : Code := fstC r0c
noncomputable def rR1 : Code := fstC (sndC r0c)
noncomputable def r2c : Code := sndC (sndC r0c)
noncomputable def rC2 : Code := fstC r2c
noncomputable def r4c : Code := fstC (sndC r2c)
noncomputable def rR4 : Code := fstC r4c
noncomputable def rLp : Code := lopC (blkC (sndC r4c))
noncomputable def rR5 : Code := fstC rLp
noncomputable def rB1 : Code := blkC (fstC (sndC (sndC rLp)))
noncomputable def rR16 : Code := sndC (sndC (sndC rLp))
noncomputable def rR6 : Code := fstC rB1
noncomputable def rR7 : Code := fstC (sndC rB1)
noncomputable def rR8 : Code := fstC (sndC (sndC rB1))
noncomputable def r9c : Code := sndC (sndC (sndC rB1))
noncomputable def rR9 : Code := fstC r9c
noncomputable def rLq : Code := lopC (blkC (sndC r9c))
noncomputable def rR10 : Code := fstC rLq
noncomputable def rB3 : Code := blkC (fstC (sndC (sndC rLq)))
noncomputable def rR15 : Code := sndC (sndC (sndC rLq))
noncomputable def rR11 : Code := fstC rB3
noncomputable def rR12 : Code := fstC (sndC rB3)
noncomputable def rC13 : Code := sndC (sndC rB3)
noncomputable def run5c (cat : FuncId → Sp) (c : Code) (ρ : Env) (T : TH) : RT := (compCT Tryz.prog tab4 (live 5) 5000 5 75 c 0).run (execW Tryz.prog tab4 cat live 5000 59) (execT Tryz.prog tab4 cat live 5000 59) ρ T
noncomputable def run5 (c : Code) (ρ : Env) (T : TH) : RT := (compCT Tryz.prog tab4 (live 5) 5000 5 75 c 0).run (execW Tryz.prog tab4 cat4 live 5000 59) (execT Tryz.prog tab4 cat4 live 5000 59) ρ T
end Go.Proofs.GD
/- The state at the head of TopRoots' loop. Printed by a program. -/
namespace Go.Proofs.GD
set_option linter.unusedSectionVars false
variable [Go.AI.Sym]
open Go Go.AI Go.RowKit
set_option maxRecDepth 100000
def diskO : LO := .ar 1 16384 [aU0] [(0, [.v (.int .u8 114)]), (1, [.v (.int .u8 105)]), (2, [.v (.int .u8 110)]), (3, [.v (.int .u8 103)]), (4, [.v (.int .u8 1)]), (6, [.v (.int .u8 1)]), (64, [.v (.int .u8 37)]), (65, [.v (.int .u8 38)]), (66, [.v (.int .u8 39)]), (67, [.v (.int .u8 40)]), (68, [.v (.int .u8 41)]), (69, [.v (.int .u8 42)]), (70, [.v (.int .u8 43)]), (71, [.v (.int .u8 44)]), (72, [.v (.int .u8 45)]), (73, [.v (.int .u8 46)]), (74, [.v (.int .u8 47)]), (75, [.v (.int .u8 48)]), (76, [.v (.int .u8 49)]), (77, [.v (.int .u8 50)]), (78, [.v (.int .u8 51)]), (79, [.v (.int .u8 52)]), (132, [.v (.int .u8 224)]), (133, [.v (.int .u8 255)]), (134, [.v (.int .u8 31)]), (2368, [.v (.int .u8 2)]), (2369, [.v (.int .u8 237)]), (2370, [.v (.int .u8 1)]), (2375, [.v (.int .u8 1)]), (2376, [.v (.int .u8 1)])]
def z8 : Row := [aI0, aI0, aI0, aI0, aI0, aI0, aI0, aS0]
def SA : LS := [
 (0, diskO),
 (1, diskO),
 (2, .ls 4 [[.osl 0 1 0 16384 16384, .osl 1 1 0 16384 16384, aS0, .v (.int .i64 (-1))]]),
 (1528, .ls 16 [[.v (.pointer none), .v (.pointer none), .v (.pointer none), .v (.pointer none), .v (.pointer none), .v (.pointer none), .v (.pointer none), .v (.pointer none), .v (.pointer none), .v (.pointer none), .v (.pointer none), .v (.pointer none), .v (.pointer none), .v (.pointer none), .v (.pointer none), .v (.pointer none)]]),
 (1529, .ls 2 [[.v (.int .u32 0), aS0]]),
 (1530, .ls 328 [[.v (.int .i64 1), .v (.int .i64 2), .v (.int .i64 3), aF0, aI0, .v (.int .i64 1), aI0, aI0, aI0, aF0, aI0, aI0, aI0, aI0, aI0, aF0, aI0, aI0, aI0, aI0, aI0, aF0, aI0, aI0, aI0, aI0, aI0, aF0, aI0, aI0, aI0, aI0, aI0, aF0, aI0, aI0, aI0, aI0, aI0, aF0, aI0, aI0, aI0, aI0, aI0, aF0, aI0, aI0, aI0, aI0, aI0, aF0, aI0, aI0, aI0, aI0, aI0, aF0, aI0, aI0, aI0, aI0, aI0, aF0, aI0, aI0, aI0, aI0, aI0, aF0, aI0, aI0, aI0, aI0, aI0, aF0, aI0, aI0, aI0, aI0, aI0, aF0, aI0, aI0, aI0, aI0, aI0, aF0, aI0, aI0, aI0, aI0, aI0, aF0, aI0, aI0, aI0, aI0, aI0, aF0, aI0, aI0, aI0, aI0, aI0, aF0, aI0, aI0, aI0, aI0, aI0, aF0, aI0, aI0, aI0, aI0, aI0, aF0, aI0, aI0, aI0, aI0, aI0, aF0, aI0, aI0, aI0, aI0, aI0, aF0, aI0, aI0, aI0, aI0, aI0, aF0, aI0, aI0, aI0, aI0, aI0, aF0, aI0, aI0, aI0, aI0, aI0, aF0, aI0, aI0, aI0, aI0, aI0, aF0, aI0, aI0, aI0, aI0, aI0, aF0, aI0, aI0, aI0, aI0, aI0, aF0, aI0, aI0, aI0, aI0, aI0, aF0, aI0, aI0, aI0, aI0, aI0, aF0, aI0, aI0, aI0, aI0, aI0, aF0, aI0, aI0, aI0, aI0, aI0, aF0, aI0, aI0, aI0, aI0, aI0, aI0, aI0, aI0, aI0, aI0, .v (.int .i64 1), aI0, aI0, aI0, aI0, aI0, aI0, aI0, aI0, aI0, aI0, aI0, aI0, aI0, aI0, aI0, aI0, aI0, aI0, aI0, aI0, aI0, aI0, aI0, aI0, aI0, aI0, aI0, aI0, aI0, aI0, aI0, aI0, aI0, aI0, aI0, aI0, aI0, aI0, aI0, aI0, aI0, aI0, aI0, aI0, aI0, aI0, aI0, aI0, aI0, aI0, aI0, aI0, aI0, aI0, aI0, aI0, aI0, aI0, aI0, aI0, aI0, aI0, aI0, aI0, aI0, aI0, aI0, aI0, aI0, aI0, aI0, aI0, aI0, aI0, aI0, aI0, aI0, aI0, aI0, aI0, aI0, aI0, aI0, aI0, aI0, aI0, aI0, aI0, aI0, aI0, aI0, aI0, aI0, aI0, aI0, aI0, aI0, aI0, aI0, aI0, aI0, aI0, aI0, aI0, aI0, aI0, aI0, aI0, aI0, aI0, aI0, aI0, aI0, aI0, aI0, aI0, aI0, aI0, aI0, aI0, aI0, aI0, aI0, aI0, aI0, aI0, aI0]]),
 (1531, .ls 68 [[aI0, aI0, aI0, aI0, .v (.int .i64 1), aI0, .v (.int .i64 1), aI0, aI0, aI0, aI0, aI0, aI0, aI0, aI0, aI0, aI0, aI0, aI0, aI0, aI0, aI0, aI0, aI0, aI0, aI0, aI0, aI0, aI0, aI0, aI0, aI0, aI0, aI0, aI0, aI0, aI0, aI0, aI0, aI0, aI0, aI0, aI0, aI0, aI0, aI0, aI0, aI0, aI0, aI0, aI0, aI0, aI0, aI0, aI0, aI0, aI0, aI0, aI0, aI0, aI0, aI0, aI0, aI0, aI0, aI0, aI0, aI0]]),
 (1532, .ls 655 [[.v (.int .i64 1), .ptr 1535 5 0 0, .ptr 2064 198 0 0, .ptr 1528 16 0 0, .ptr 1533 4 0 0, .ptr 1529 2 0 0, .ptr 1530 328 0 0, .ptr 1531 68 0 0, aI0, .v (.int .u32 0), .v (.int .u32 0), .v (.int .u32 0), .v (.int .u32 0), .v (.int .u32 0), .v (.int .u32 0), .v (.int .u32 0), .v (.int .u32 0), .v (.int .u32 0), aI0, aI0, aI0, aS0, aI0, aI0, aI0, aS0, aS0, aI0, aI0, aI0, aI0, aI0, aI0, aI0, aI0, aI0, aI0, aI0, aI0, aI0, aI0, aI0, aI0, aI0, aI0, aF0, .v (.int .i64 1), .v (.int .u32 0), .v (.int .u32 0), .v (.int .u32 0), .v (.int .u32 0), .v (.int .u32 0), .v (.int .u32 0), .v (.int .u32 0), .v (.int .u32 0), .v (.int .u32 0), .v (.int .i64 1), aI0, aI0, aS0, .v (.int .i64 127), aI0, aI0, .osl 2804 1 0 1 1, aS0, aI0, aI0, aI0, aI0, aI0, aI0, aI0, aI0, aI0, aI0, aI0, aI0, aI0, aI0, aI0, aI0, aI0, aI0, aF0, aI0, .v (.int .u32 0), .v (.int .u32 0), .v (.int .u32 0), .v (.int .u32 0), .v (.int .u32 0), .v (.int .u32 0), .v (.int .u32 0), .v (.int .u32 0), .v (.int .u32 0), aI0, aI0, aI0, aS0, aI0, aI0, aI0, aS0, aS0, aI0, aI0, aI0, aI0, aI0, aI0, aI0, aI0, aI0, aI0, aI0, aI0, aI0, aI0, aI0, aI0, aI0, aI0, aF0, aI0, .v (.int .u32 0), .v (.int .u32 0), .v (.int .u32 0), .v (.int .u32 0), .v (.int .u32 0), .v (.int .u32 0), .v (.int .u32 0), .v (.int .u32 0), .v (.int .u32 0), aI0, aI0, aI0, aS0, aI0, aI0, aI0, aS0, aS0, aI0, aI0, aI0, aI0, aI0, aI0, aI0, aI0, aI0, aI0, aI0, aI0, aI0, aI0, aI0, aI0, aI0, aI0, aF0, aI0, .v (.int .u32 0), .v (.int .u32 0), .v (.int .u32 0), .v (.int .u32 0), .v (.int .u32 0), .v (.int .u32 0), .v (.int .u32 0), .v (.int .u32 0), .v (.int .u32 0), aI0, aI0, aI0, aS0, aI0, aI0, aI0, aS0, aS0, aI0, aI0, aI0, aI0, aI0, aI0, aI0, aI0, aI0, aI0, aI0, aI0, aI0, aI0, aI0, aI0, aI0, aI0, aF0, aI0, .v (.int .u32 0), .v (.int .u32 0), .v (.int .u32 0), .v (.int .u32 0), .v (.int .u32 0), .v (.int .u32 0), .v (.int .u32 0), .v (.int .u32 0), .v (.int .u32 0), aI0, aI0, aI0, aS0, aI0, aI0, aI0, aS0, aS0, aI0, aI0, aI0, aI0, aI0, aI0, aI0, aI0, aI0, aI0, aI0, aI0, aI0, aI0, aI0, aI0, aI0, aI0, aF0, aI0, .v (.int .u32 0), .v (.int .u32 0), .v (.int .u32 0), .v (.int .u32 0), .v (.int .u32 0), .v (.int .u32 0), .v (.int .u32 0), .v (.int .u32 0), .v (.int .u32 0), aI0, aI0, aI0, aS0, aI0, aI0, aI0, aS0, aS0, aI0, aI0, aI0, aI0, aI0, aI0, aI0, aI0, aI0, aI0, aI0, aI0, aI0, aI0, aI0, aI0, aI0, aI0, aF0, aI0, .v (.int .u32 0), .v (.int .u32 0), .v (.int .u32 0), .v (.int .u32 0), .v (.int .u32 0), .v (.int .u32 0), .v (.int .u32 0), .v (.int .u32 0), .v (.int .u32 0), aI0, aI0, aI0, aS0, aI0, aI0, aI0, aS0, aS0, aI0, aI0, aI0, aI0, aI0, aI0, aI0, aI0, aI0, aI0, aI0, aI0, aI0, aI0, aI0, aI0, aI0, aI0, aF0, aI0, .v (.int .u32 0), .v (.int .u32 0), .v (.int .u32 0), .v (.int .u32 0), .v (.int .u32 0), .v (.int .u32 0), .v (.int .u32 0), .v (.int .u32 0), .v (.int .u32 0), aI0, aI0, aI0, aS0, aI0, aI0, aI0, aS0, aS0, aI0, aI0, aI0, aI0, aI0, aI0, aI0, aI0, aI0, aI0, aI0, aI0, aI0, aI0, aI0, aI0, aI0, aI0, aF0, aI0, .v (.int .u32 0), .v (.int .u32 0), .v (.int .u32 0), .v (.int .u32 0), .v (.int .u32 0), .v (.int .u32 0), .v (.int .u32 0), .v (.int .u32 0), .v (.int .u32 0), aI0, aI0, aI0, aS0, aI0, aI0, aI0, aS0, aS0, aI0, aI0, aI0, aI0, aI0, aI0, aI0, aI0, aI0, aI0, aI0, aI0, aI0, aI0, aI0, aI0, aI0, aI0, aF0, aI0, .v (.int .u32 0), .v (.int .u32 0), .v (.int .u32 0), .v (.int .u32 0), .v (.int .u32 0), .v (.int .u32 0), .v (.int .u32 0), .v (.int .u32 0), .v (.int .u32 0), aI0, aI0, aI0, aS0, aI0, aI0, aI0, aS0, aS0, aI0, aI0, aI0, aI0, aI0, aI0, aI0, aI0, aI0, aI0, aI0, aI0, aI0, aI0, aI0, aI0, aI0, aI0, aF0, aI0, .v (.int .u32 0), .v (.int .u32 0), .v (.int .u32 0), .v (.int .u32 0), .v (.int .u32 0), .v (.int .u32 0), .v (.int .u32 0), .v (.int .u32 0), .v (.int .u32 0), aI0, aI0, aI0, aS0, aI0, aI0, aI0, aS0, aS0, aI0, aI0, aI0, aI0, aI0, aI0, aI0, aI0, aI0, aI0, aI0, aI0, aI0, aI0, aI0, aI0, aI0, aI0, aF0, aI0, .v (.int .u32 0), .v (.int .u32 0), .v (.int .u32 0), .v (.int .u32 0), .v (.int .u32 0), .v (.int .u32 0), .v (.int .u32 0), .v (.int .u32 0), .v (.int .u32 0), aI0, aI0, aI0, aS0, aI0, aI0, aI0, aS0, aS0, aI0, aI0, aI0, aI0, aI0, aI0, aI0, aI0, aI0, aI0, aI0, aI0, aI0, aI0, aI0, aI0, aI0, aI0, aF0, aI0, .v (.int .u32 0), .v (.int .u32 0), .v (.int .u32 0), .v (.int .u32 0), .v (.int .u32 0), .v (.int .u32 0), .v (.int .u32 0), .v (.int .u32 0), .v (.int .u32 0), aI0, aI0, aI0, aS0, aI0, aI0, aI0, aS0, aS0, aI0, aI0, aI0, aI0, aI0, aI0, aI0, aI0, aI0, aI0, aI0, aI0, aI0, aI0, aI0, aI0, aI0, aI0, aF0, aI0, .v (.int .u32 0), .v (.int .u32 0), .v (.int .u32 0), .v (.int .u32 0), .v (.int .u32 0), .v (.int .u32 0), .v (.int .u32 0), .v (.int .u32 0), .v (.int .u32 0), aI0, aI0, aI0, aS0, aI0, aI0, aI0, aS0, aS0, aI0, aI0, aI0, aI0, aI0, aI0, aI0, aI0, aI0, aI0, aI0, aI0, aI0, aI0, aI0, aI0, aI0, aI0, aF0, aI0, .v (.int .u32 0), .v (.int .u32 0), .v (.int .u32 0), .v (.int .u32 0), .v (.int .u32 0), .v (.int .u32 0), .v (.int .u32 0), .v (.int .u32 0), .v (.int .u32 0), aI0, aI0, aI0, aS0, aI0, aI0, aI0, aS0, aS0, aI0, aI0, aI0, aI0, aI0, aI0, aI0, aI0, aI0, aI0, aI0, aI0, aI0, aI0, aI0, aI0, aI0, aI0, aF0, aI0, .v (.int .u32 0), .v (.int .u32 0), .v (.int .u32 0), .v (.int .u32 0), .v (.int .u32 0), .v (.int .u32 0), .v (.int .u32 0), .v (.int .u32 0), .v (.int .u32 0), aI0, aI0, aI0, aS0, aI0, aI0, aI0, aS0, aS0, aI0, aI0, aI0, aI0, aI0, aI0, aI0, aI0, aI0, aI0, aI0, aI0, aI0, aI0, aI0, aI0, aI0, aI0, aF0, .v (.int .u32 0)]]),
 (1533, .ls 4 [[.v (.int .i64 1), aI0, .v (.int .i64 1), .osl 2101 15 0 1 1]]),
 (1534, .ls 0 [[.v (.int .i64 1), .ptr 2097 0 0 0]]),
 (1535, .ls 5 [[.v (.int .i64 64), .v (.int .i64 64), aI0, aS0, .ptr 1534 0 0 0]]),
 (1539, .ls 4 [[.ptr 2 4 0 0, .v (.int .i64 5), .v (.int .i64 32), .v (.int .u32 0)]]),
 (2062, .ls 0 [[.v (.int .i64 53), .osl 2546 1 0 64 64], [.v (.int .i64 37), .osl 2572 1 0 64 64], [.v (.int .i64 2), .osl 2419 1 0 64 64], [.v (.int .i64 38), .osl 2580 1 0 64 64]]),
 (2063, .ls 0 [[.v (.int .i64 2), .v (.int .i64 1)]]),
 (2064, .ls 198 [[.ptr 2 4 0 0, .ptr 1539 4 0 0, .v (.int .i64 37), .v (.int .i64 38), .v (.int .i64 39), .v (.int .i64 40), .v (.int .i64 41), .v (.int .i64 42), .v (.int .i64 43), .v (.int .i64 44), .v (.int .i64 45), .v (.int .i64 46), .v (.int .i64 47), .v (.int .i64 48), .v (.int .i64 49), .v (.int .i64 50), .v (.int .i64 51), .v (.int .i64 52), aU0, aU0, aU0, aU0, .v (.int .u8 224), .v (.int .u8 255), .v (.int .u8 63), aU0, aU0, aU0, aU0, aU0, aU0, aU0, aU0, aU0, aU0, aU0, aU0, aU0, aU0, aU0, aU0, aU0, aU0, aU0, aU0, aU0, aU0, aU0, aU0, aU0, aI0, aI0, aI0, aI0, aI0, aI0, aI0, aI0, aI0, aI0, aI0, aI0, aI0, aI0, aI0, aI0, aU0, aU0, aU0, aU0, aU0, aU0, aU0, aU0, aU0, aU0, aU0, aU0, aU0, aU0, aU0, aU0, aU0, aU0, aU0, aU0, aU0, aU0, aU0, aU0, aU0, aU0, aU0, aU0, aU0, aU0, aU0, aU0, aI0, aI0, aI0, aI0, aI0, aI0, aI0, aI0, aI0, aI0, aI0, aI0, aI0, aI0, aI0, aI0, aU0, aU0, aU0, aU0, aU0, aU0, aU0, aU0, aU0, aU0, aU0, aU0, aU0, aU0, aU0, aU0, aU0, aU0, aU0, aU0, aU0, aU0, aU0, aU0, aU0, aU0, aU0, aU0, aU0, aU0, aU0, aU0, aI0, aI0, aI0, aI0, aI0, aI0, aI0, aI0, aI0, aI0, aI0, aI0, aI0, aI0, aI0, aI0, aU0, aU0, aU0, aU0, aU0, aU0, aU0, aU0, aU0, aU0, aU0, aU0, aU0, aU0, aU0, aU0, aU0, aU0, aU0, aU0, aU0, aU0, aU0, aU0, aU0, aU0, aU0, aU0, aU0, aU0, aU0, aU0, aS0, .osl 2501 8 0 32 32, .ptr 2062 0 0 0, .ptr 2063 0 0 0]]),
 (2097, .ls 0 []),
 (2098, .ls 1 [[.v (.int .i64 1)]]),
 (2101, .ls 15 [[.v (.int .i64 1), .v (.int .i64 1), .v (.int .i64 10), aI0, aI0, aI0, aI0, aI0, aI0, aI0, .v (.int .i64 1), .v (.int .i64 1), .v (.bool true), aF0, aI0]]),
 (2419, .ar 1 64 [aU0] [(4, [.v (.int .u8 224)]), (5, [.v (.int .u8 255)]), (6, [.v (.int .u8 63)])]),
 (2501, .ls 8 [[.v (.int .i64 2), .v (.int .i64 493), aI0, aI0, .v (.int .i64 32), .v (.int .i64 1), .v (.int .i64 1), .osl 2547 1 0 1 1], [.v (.int .i64 1), .v (.int .i64 420), aI0, aI0, aI0, .v (.int .i64 1), aI0, aS0], [.v (.int .i64 2), .v (.int .i64 511), aI0, aI0, aI0, .v (.int .i64 1), .v (.int .i64 1), aS0], z8, z8, z8, z8, z8, z8, z8, z8, z8, z8, z8, z8, z8, z8, z8, z8, z8, z8, z8, z8, z8, z8, z8, z8, z8, z8, z8, z8, z8]),
 (2546, .ar 1 64 [aU0] [(0, [.v (.int .u8 111)]), (1, [.v (.int .u8 117)]), (2, [.v (.int .u8 116)]), (14, [.v (.int .u8 2)]), (16, [.v (.int .u8 105)]), (17, [.v (.int .u8 110)]), (30, [.v (.int .u8 3)])]),
 (2547, .ls 1 [[.v (.int .i64 53)]]),
 (2572, .ar 1 64 [aU0] [(0, [.v (.int .u8 2)]), (1, [.v (.int .u8 237)]), (2, [.v (.int .u8 1)]), (5, [.v (.int .u8 32)]), (7, [.v (.int .u8 1)]), (8, [.v (.int .u8 1)]), (9, [.v (.int .u8 53)]), (10, [.v (.int .u8 1)]), (32, [.v (.int .u8 1)]), (33, [.v (.int .u8 164)]), (34, [.v (.int .u8 1)]), (39, [.v (.int .u8 1)])]),
 (2580, .ar 1 64 [aU0] [(0, [.v (.int .u8 2)]), (1, [.v (.int .u8 255)]), (2, [.v (.int .u8 1)]), (7, [.v (.int .u8 1)]), (8, [.v (.int .u8 1)])]),
 (2804, .ls 1 [[.v (.int .i64 3)]])]
end Go.Proofs.GD
/- Facts of the program's tables, each by the kernel. Printed by a program. -/
namespace Go.Proofs.GD
set_option linter.unusedSectionVars false
variable [Go.AI.Sym]
open Go Go.AI Go.RowKit
theorem fqMix : Tryz.prog.follows .mixedOrders = true := by kernel_rfl
theorem fqSz3 : szOf Tryz.prog 3 = some 1 := by kernel_rfl
theorem fqBy3 : bytesOf Tryz.prog 3 = some 8 := by kernel_rfl
theorem fqAg3 : aggOf Tryz.prog 3 = some false := by kernel_rfl
theorem fqZe3 : zeroOf Tryz.prog 3 = some (.int .i64 0) := by kernel_rfl
theorem fqSl3 : sliceElem Tryz.prog 3 = none := by kernel_rfl
theorem fqAr3 : arrayOf Tryz.prog 3 = none := by kernel_rfl
theorem fqPl3 : placesOf Tryz.prog 3 = none := by kernel_rfl
theorem fqSz4 : szOf Tryz.prog 4 = some 1 := by kernel_rfl
theorem fqBy4 : bytesOf Tryz.prog 4 = some 1 := by kernel_rfl
theorem fqAg4 : aggOf Tryz.prog 4 = some false := by kernel_rfl
theorem fqZe4 : zeroOf Tryz.prog 4 = some (.bool false) := by kernel_rfl
theorem fqSl4 : sliceElem Tryz.prog 4 = none := by kernel_rfl
theorem fqAr4 : arrayOf Tryz.prog 4 = none := by kernel_rfl
theorem fqPl4 : placesOf Tryz.prog 4 = none := by kernel_rfl
theorem fqSz5 : szOf Tryz.prog 5 = some 1 := by kernel_rfl
theorem fqBy5 : bytesOf Tryz.prog 5 = some 1 := by kernel_rfl
theorem fqAg5 : aggOf Tryz.prog 5 = some false := by kernel_rfl
theorem fqZe5 : zeroOf Tryz.prog 5 = some (.int .u8 0) := by kernel_rfl
theorem fqSl5 : sliceElem Tryz.prog 5 = none := by kernel_rfl
theorem fqAr5 : arrayOf Tryz.prog 5 = none := by kernel_rfl
theorem fqPl5 : placesOf Tryz.prog 5 = none := by kernel_rfl
theorem fqSz27 : szOf Tryz.prog 27 = some 1 := by kernel_rfl
theorem fqBy27 : bytesOf Tryz.prog 27 = some 8 := by kernel_rfl
theorem fqAg27 : aggOf Tryz.prog 27 = some false := by kernel_rfl
theorem fqZe27 : zeroOf Tryz.prog 27 = some (.int .i64 0) := by kernel_rfl
theorem fqSl27 : sliceElem Tryz.prog 27 = none := by kernel_rfl
theorem fqAr27 : arrayOf Tryz.prog 27 = none := by kernel_rfl
theorem fqPl27 : placesOf Tryz.prog 27 = none := by kernel_rfl
theorem fqSz28 : szOf Tryz.prog 28 = some 1 := by kernel_rfl
theorem fqBy28 : bytesOf Tryz.prog 28 = some 24 := by kernel_rfl
theorem fqAg28 : aggOf Tryz.prog 28 = some false := by kernel_rfl
theorem fqZe28 : zeroOf Tryz.prog 28 = some (.slice none 0 0) := by kernel_rfl
theorem fqSl28 : sliceElem Tryz.prog 28 = some 5 := by kernel_rfl
theorem fqAr28 : arrayOf Tryz.prog 28 = none := by kernel_rfl
theorem fqPl28 : placesOf Tryz.prog 28 = none := by kernel_rfl
theorem fqSz39 : szOf Tryz.prog 39 = some 1 := by kernel_rfl
theorem fqBy39 : bytesOf Tryz.prog 39 = some 24 := by kernel_rfl
theorem fqAg39 : aggOf Tryz.prog 39 = some false := by kernel_rfl
theorem fqZe39 : zeroOf Tryz.prog 39 = some (.slice none 0 0) := by kernel_rfl
theorem fqSl39 : sliceElem Tryz.prog 39 = some 4 := by kernel_rfl
theorem fqAr39 : arrayOf Tryz.prog 39 = none := by kernel_rfl
theorem fqPl39 : placesOf Tryz.prog 39 = none := by kernel_rfl
theorem fqCv3x5 {k : IntKind} {a : Int} : asV (pr Tryz.prog (convert 3 5 (.int k a))) = some (.v (.int .u8 (IntKind.u8.wrap a))) := ev_conv Tryz.underlying3 Tryz.underlying5
theorem fqCv5x3 {k : IntKind} {a : Int} : asV (pr Tryz.prog (convert 5 3 (.int k a))) = some (.v (.int .i64 (IntKind.i64.wrap a))) := ev_conv Tryz.underlying5 Tryz.underlying3
theorem fqEb4 {x y : Operand} {p q : Bool} : aBin Tryz.prog .eql 4 x y (.v (.bool p)) (.v (.bool q)) = some (.v (.bool (p == q))) := ev_eqlB Tryz.underlying4
theorem fqNb4 {x y : Operand} {p q : Bool} : aBin Tryz.prog .neq 4 x y (.v (.bool p)) (.v (.bool q)) = some (.v (.bool (!(p == q)))) := ev_neqB Tryz.underlying4
theorem fqLn28 : asV (pr Tryz.prog (Builtin.len_ #[28] 0 #[.slice none 0 0])) = some (.v (.int .i64 0)) := ev_lenN Tryz.underlying28
theorem fqNe28 {x y : Operand} {o : Bool} {sz : Nat} {rows : List Row} : aBin Tryz.prog .eql 28 x y (.fsl o sz rows) (.v (.slice none 0 0)) = some (if rows.isEmpty then .anyb else .v (.bool false)) := ev_nilE fqSl28
theorem fqNn28 {x y : Operand} {o : Bool} {sz : Nat} {rows : List Row} : aBin Tryz.prog .neq 28 x y (.fsl o sz rows) (.v (.slice none 0 0)) = some (if rows.isEmpty then .anyb else .v (.bool true)) := ev_nilN fqSl28
theorem fqOe28 {x y : Operand} {a b c d e : Nat} : aBin Tryz.prog .eql 28 x y (.osl a b c d e) (.v (.slice none 0 0)) = some (.v (.bool false)) := ev_nilOe fqSl28
theorem fqOn28 {x y : Operand} {a b c d e : Nat} : aBin Tryz.prog .neq 28 x y (.osl a b c d e) (.v (.slice none 0 0)) = some (.v (.bool true)) := ev_nilOn fqSl28
theorem fqXe28 {x y : Operand} : aBin Tryz.prog .eql 28 x y .esl (.v (.slice none 0 0)) = some .anyb := ev_nilXe fqSl28
theorem fqXn28 {x y : Operand} : aBin Tryz.prog .neq 28 x y .esl (.v (.slice none 0 0)) = some .anyb := ev_nilXn fqSl28
theorem fqLn39 : asV (pr Tryz.prog (Builtin.len_ #[39] 0 #[.slice none 0 0])) = some (.v (.int .i64 0)) := ev_lenN Tryz.underlying39
theorem fqNe39 {x y : Operand} {o : Bool} {sz : Nat} {rows : List Row} : aBin Tryz.prog .eql 39 x y (.fsl o sz rows) (.v (.slice none 0 0)) = some (if rows.isEmpty then .anyb else .v (.bool false)) := ev_nilE fqSl39
theorem fqNn39 {x y : Operand} {o : Bool} {sz : Nat} {rows : List Row} : aBin Tryz.prog .neq 39 x y (.fsl o sz rows) (.v (.slice none 0 0)) = some (if rows.isEmpty then .anyb else .v (.bool true)) := ev_nilN fqSl39
theorem fqOe39 {x y : Operand} {a b c d e : Nat} : aBin Tryz.prog .eql 39 x y (.osl a b c d e) (.v (.slice none 0 0)) = some (.v (.bool false)) := ev_nilOe fqSl39
theorem fqOn39 {x y : Operand} {a b c d e : Nat} : aBin Tryz.prog .neq 39 x y (.osl a b c d e) (.v (.slice none 0 0)) = some (.v (.bool true)) := ev_nilOn fqSl39
theorem fqXe39 {x y : Operand} : aBin Tryz.prog .eql 39 x y .esl (.v (.slice none 0 0)) = some .anyb := ev_nilXe fqSl39
theorem fqXn39 {x y : Operand} : aBin Tryz.prog .neq 39 x y .esl (.v (.slice none 0 0)) = some .anyb := ev_nilXn fqSl39
theorem fqFm13 : (Tryz.f13.name == "runtime.NumGoroutine") = false := by kernel_rfl
theorem fqFi13 : Tryz.f13.body.isNone = false := by kernel_rfl
set_option maxHeartbeats 2000000
set_option maxRecDepth 100000
set_option linter.unusedSimpArgs false
set_option linter.unusedVariables false
attribute [local simp] wpA wpX RunA RunD runF foot footP footB idsA bare apart runL step1 gsel_f gsel_t gsel_s res_same res_and1 res_and2 res_and3 res_and4 res_and5 res_and6 res_false res_true res_v res_ptr res_fptr res_osl res_xsl soft aAppendZ aCap ovlI ovlJ res_fsl res_esl res_agg res_tup res_fn res_junk res_anyb aPick hk imp_left iteV dstOk guardOk astep astepE AI.ev AI.look AI.put envOf aBox cellsOf allOne allOneA oneA Value.oneCell' Value.cells newObj' aFieldAddr aLoad obj readAt thenA blockA condA retA resA tupA view hot hotC hotR depthV cAgg cInt cBool mkAgg allV aAlloc aBuild fillA writeAt aStore isAggA aField idx aIndexAddr aIndex bnd aSlice aExtract aLen aBuiltin aCall isStatic eqAgg eqTy eqC ev_add ev_sub ev_mul ev_quo ev_rem ev_and ev_or ev_xor ev_andNot ev_shl ev_shr ev_eql ev_neq ev_lss ev_leq ev_gtr ev_geq ev_agg w64 wu32 wu8 ev_not ev_neg Cod.plain RCod.plain argM finM cold coldC coldR goInt intDec boolDec aggDec Weaker heapW lowA lowC Again slDec undef aBuildSlice setRows aAppend rowsOf aMakeSlice aClear aCopy softer_self softer_nil valsOf ev_min2 ev_max2 hotR_set hotR_append take_map_set irow_cold irow_mapM irow_mapMc irow_view irow_viewc irow_hotR irow_ren irow_renc irow_low WeakT heapT thOf ren renC AgainT NextF NextT fnDec cFn rNil selfLt natLt0 natLt1 getLastMap frame0 frame1 own0 own1 argG finG tau tauI tauO tauC bareA bareC bareH irow_tau irow_tauc irow_bare irow_flat irow_bareR ownA_nil ownT_nil ownA_c ownT_c ownA_s ownT_s takeMapLen footC plainA noId noIdC cloneF frame0F frame1F insertF replaceI replaceF cellDec rCell fpDec cFp rTwo deleteF allV_oA oneA_oA res_oA RunR RunE runFT footAt hotR_cat tmodN aEqH aSliceA frameN newA newC newH fqSz3 fqBy3 fqAg3 fqZe3 fqSl3 fqAr3 fqPl3 fqSz4 fqBy4 fqAg4 fqZe4 fqSl4 fqAr4 fqPl4 fqSz5 fqBy5 fqAg5 fqZe5 fqSl5 fqAr5 fqPl5 fqSz27 fqBy27 fqAg27 fqZe27 fqSl27 fqAr27 fqPl27 fqSz28 fqBy28 fqAg28 fqZe28 fqSl28 fqAr28 fqPl28 fqSz39 fqBy39 fqAg39 fqZe39 fqSl39 fqAr39 fqPl39 fqCv3x5 fqCv5x3 fqEb4 fqNb4 fqLn28 fqNe28 fqNn28 fqOe28 fqOn28 fqXe28 fqXn28 fqLn39 fqNe39 fqNn39 fqOe39 fqOn39 fqXe39 fqXn39 fqFm13 fqFi13
end Go.Proofs.GD
/- Strings in the symbolic engine: compared, indexed, cut, put together. -/
namespace Go.AI
set_option linter.unusedSectionVars false
variable [Go.AI.Sym]
open Go.RowKit
section
variable {P : Program} {t : TypeId} {x y : Operand} {a b : ByteArray}
theorem bytes_inj {a b : ByteArray} (h : a.data.toList = b.data.toList) : a = b := by
 cases a; cases b
 simp only at h
 rw [Array.toList_inj.1 h]
theorem toList_beq (a b : ByteArray) : (a.toList == b.toList) = decide (a = b) := by
 rw [Lib.toList_data, Lib.toList_data, Bool.eq_iff_iff]
 simp only [beq_iff_eq, decide_eq_true_eq]
 exact ⟨bytes_inj, fun h => by rw [h]⟩
theorem ev_eqlS : aBin P .eql t x y (.v (.string a)) (.v (.string b)) = some (.v (.bool (decide (a = b)))) := by
 simp [aBin, eqGuard, binOp, Op.stringOp, pr_pure, asV, toList_beq]
theorem ev_neqS : aBin P .neq t x y (.v (.string a)) (.v (.string b)) = some (.v (.bool (!decide (a = b)))) := by
 simp [aBin, eqGuard, binOp, Op.stringOp, pr_pure, asV, toList_beq]
theorem ev_addS (h : a.size + b.size ≤ 9223372036854775807) : aBin P .add t x y (.v (.string a)) (.v (.string b)) = some (.v (.string (a ++ b))) := by
 have h2 : ¬ (((a.size + b.size : Nat) : Int) > IntKind.i64.max) := by
  have : IntKind.i64.max = 9223372036854775807 := by decide
  rw [this]; omega
 simp only [aBin, eqGuard, binOp, Op.stringOp]
 rw [if_neg h2]
 simp [pr_pure, asV]
theorem ev_idxI {k : IntKind} {i : Nat} (h : P.underlying t = some .string) (hi : i < a.size) : asV (pr P (Instr.index t (.string a) (.int k i))) = some (.v (.int .u8 (a[i]'hi).toNat)) := by
 have hg : a[i]? = some (a[i]'hi) := getElem?_pos a i hi
 simp only [Instr.index]
 simp [pr_bind, pr_und h, asIntOf, asV]
 rw [hg]
 rfl
theorem ev_slcLo {k : IntKind} {i : Nat} (h : P.underlying t = some .string) (hi : i ≤ a.size) : asV (pr P (Instr.sliceAt t (.string a) (some (.int k i)) none none)) = some (.v (.string (a.extract i a.size))) := by
 simp only [Instr.sliceAt, Instr.slice, Instr.sliceBounds, Instr.sliceBound]
 simp [pr_bind, pr_und h, pr_pure, asIntOf, asV, hi]
theorem ev_slcHi {k : IntKind} {i : Nat} (h : P.underlying t = some .string) (hi : i ≤ a.size) : asV (pr P (Instr.sliceAt t (.string a) none (some (.int k i)) none)) = some (.v (.string (a.extract 0 i))) := by
 simp only [Instr.sliceAt, Instr.slice, Instr.sliceBounds, Instr.sliceBound]
 simp [pr_bind, pr_und h, pr_pure, asIntOf, asV, hi]
end
end Go.AI
/- Where a byte stands in a string, and how often: the functions of package strings that the program reaches. -/
namespace Go.Proofs.GD
set_option linter.unusedSectionVars false
variable [Go.AI.Sym]
open Go Go.AI Go.RowKit
theorem fqSz9 : szOf Tryz.prog 9 = some 1 := by kernel_rfl
theorem fqBy9 : bytesOf Tryz.prog 9 = some 16 := by kernel_rfl
theorem fqAg9 : aggOf Tryz.prog 9 = some false := by kernel_rfl
theorem fqZe9 : zeroOf Tryz.prog 9 = some (.string ByteArray.empty) := by kernel_rfl
theorem fqSl9 : sliceElem Tryz.prog 9 = none := by kernel_rfl
theorem fqAr9 : arrayOf Tryz.prog 9 = none := by kernel_rfl
theorem fqPl9 : placesOf Tryz.prog 9 = none := by kernel_rfl
theorem fqSz46 : szOf Tryz.prog 46 = some 1 := by kernel_rfl
theorem fqBy46 : bytesOf Tryz.prog 46 = some 24 := by kernel_rfl
theorem fqAg46 : aggOf Tryz.prog 46 = some false := by kernel_rfl
theorem fqZe46 : zeroOf Tryz.prog 46 = some (.slice none 0 0) := by kernel_rfl
theorem fqSl46 : sliceElem Tryz.prog 46 = some 9 := by kernel_rfl
theorem fqAr46 : arrayOf Tryz.prog 46 = none := by kernel_rfl
theorem fqPl46 : placesOf Tryz.prog 46 = none := by kernel_rfl
theorem fqLt9 {s : ByteArray} : asV (pr Tryz.prog (Builtin.len_ #[9] 0 #[.string s])) = some (.v (.int .i64 s.size)) := ev_lenT Tryz.underlying9
theorem fqLn46 : asV (pr Tryz.prog (Builtin.len_ #[46] 0 #[.slice none 0 0])) = some (.v (.int .i64 0)) := ev_lenN Tryz.underlying46
theorem fqNe46 {x y : Operand} {o : Bool} {sz : Nat} {rows : List Row} : aBin Tryz.prog .eql 46 x y (.fsl o sz rows) (.v (.slice none 0 0)) = some (if rows.isEmpty then .anyb else .v (.bool false)) := ev_nilE fqSl46
theorem fqNn46 {x y : Operand} {o : Bool} {sz : Nat} {rows : List Row} : aBin Tryz.prog .neq 46 x y (.fsl o sz rows) (.v (.slice none 0 0)) = some (if rows.isEmpty then .anyb else .v (.bool true)) := ev_nilN fqSl46
theorem fqOe46 {x y : Operand} {a b c d e : Nat} : aBin Tryz.prog .eql 46 x y (.osl a b c d e) (.v (.slice none 0 0)) = some (.v (.bool false)) := ev_nilOe fqSl46
theorem fqOn46 {x y : Operand} {a b c d e : Nat} : aBin Tryz.prog .neq 46 x y (.osl a b c d e) (.v (.slice none 0 0)) = some (.v (.bool true)) := ev_nilOn fqSl46
theorem fqXe46 {x y : Operand} : aBin Tryz.prog .eql 46 x y .esl (.v (.slice none 0 0)) = some .anyb := ev_nilXe fqSl46
theorem fqXn46 {x y : Operand} : aBin Tryz.prog .neq 46 x y .esl (.v (.slice none 0 0)) = some .anyb := ev_nilXn fqSl46
theorem fqFm63 : (Tryz.f63.name == "runtime.NumGoroutine") = false := by kernel_rfl
theorem fqFi63 : Tryz.f63.body.isNone = false := by kernel_rfl
theorem fqFm129 : (Tryz.f129.name == "runtime.NumGoroutine") = false := by kernel_rfl
theorem fqFi129 : Tryz.f129.body.isNone = false := by kernel_rfl
theorem fqFm207 : (Tryz.f207.name == "runtime.NumGoroutine") = false := by kernel_rfl
theorem fqFi207 : Tryz.f207.body.isNone = false := by kernel_rfl
theorem fqFm270 : (Tryz.f270.name == "runtime.NumGoroutine") = false := by kernel_rfl
theorem fqFi270 : Tryz.f270.body.isNone = false := by kernel_rfl
theorem fqFm271 : (Tryz.f271.name == "runtime.NumGoroutine") = false := by kernel_rfl
theorem fqFi271 : Tryz.f271.body.isNone = false := by kernel_rfl
theorem fqFm272 : (Tryz.f272.name == "runtime.NumGoroutine") = false := by kernel_rfl
theorem fqFi272 : Tryz.f272.body.isNone = false := by kernel_rfl
theorem fqFm318 : (Tryz.f318.name == "runtime.NumGoroutine") = false := by kernel_rfl
theorem fqFm319 : (Tryz.f319.name == "runtime.NumGoroutine") = false := by kernel_rfl
theorem fqFi319 : Tryz.f319.body.isNone = false := by kernel_rfl
theorem fqFm320 : (Tryz.f320.name == "runtime.NumGoroutine") = false := by kernel_rfl
theorem fqFi320 : Tryz.f320.body.isNone = false := by kernel_rfl
theorem fqFm350 : (Tryz.f350.name == "runtime.NumGoroutine") = false := by kernel_rfl
set_option maxHeartbeats 2000000
set_option maxRecDepth 100000
set_option linter.unusedSimpArgs false
set_option linter.unusedVariables false
attribute [local simp] wpA wpX RunA RunD runF foot footP footB idsA bare apart runL step1 gsel_f gsel_t gsel_s res_same res_and1 res_and2 res_and3 res_and4 res_and5 res_and6 res_false res_true res_v res_ptr res_fptr res_osl res_xsl soft aAppendZ aCap ovlI ovlJ res_fsl res_esl res_agg res_tup res_fn res_junk res_anyb aPick hk imp_left iteV dstOk guardOk astep astepE AI.ev AI.look AI.put envOf aBox cellsOf allOne allOneA oneA Value.oneCell' Value.cells newObj' aFieldAddr aLoad obj readAt thenA blockA condA retA resA tupA view hot hotC hotR depthV cAgg cInt cBool mkAgg allV aAlloc aBuild fillA writeAt aStore isAggA aField idx aIndexAddr aIndex bnd aSlice aExtract aLen aBuiltin aCall isStatic eqAgg eqTy eqC ev_add ev_sub ev_mul ev_quo ev_rem ev_and ev_or ev_xor ev_andNot ev_shl ev_shr ev_eql ev_neq ev_lss ev_leq ev_gtr ev_geq ev_agg w64 wu32 wu8 ev_not ev_neg Cod.plain RCod.plain argM finM cold coldC coldR goInt intDec boolDec aggDec Weaker heapW lowA lowC Again slDec undef aBuildSlice setRows aAppend rowsOf aMakeSlice aClear aCopy softer_self softer_nil valsOf ev_min2 ev_max2 hotR_set hotR_append take_map_set irow_cold irow_mapM irow_mapMc irow_view irow_viewc irow_hotR irow_ren irow_renc irow_low WeakT heapT thOf ren renC AgainT NextF NextT fnDec cFn rNil selfLt natLt0 natLt1 getLastMap frame0 frame1 own0 own1 argG finG tau tauI tauO tauC bareA bareC bareH irow_tau irow_tauc irow_bare irow_flat irow_bareR ownA_nil ownT_nil ownA_c ownT_c ownA_s ownT_s takeMapLen footC plainA noId noIdC cloneF frame0F frame1F insertF replaceI replaceF cellDec rCell fpDec cFp rTwo deleteF allV_oA oneA_oA res_oA RunR RunE runFT footAt hotR_cat tmodN aEqH aSliceA frameN newA newC newH fqSz3 fqBy3 fqAg3 fqZe3 fqSl3 fqAr3 fqPl3 fqSz4 fqBy4 fqAg4 fqZe4 fqSl4 fqAr4 fqPl4 fqSz5 fqBy5 fqAg5 fqZe5 fqSl5 fqAr5 fqPl5 fqSz27 fqBy27 fqAg27 fqZe27 fqSl27 fqAr27 fqPl27 fqSz28 fqBy28 fqAg28 fqZe28 fqSl28 fqAr28 fqPl28 fqSz39 fqBy39 fqAg39 fqZe39 fqSl39 fqAr39 fqPl39 fqCv3x5 fqCv5x3 fqEb4 fqNb4 fqLn28 fqNe28 fqNn28 fqOe28 fqOn28 fqXe28 fqXn28 fqLn39 fqNe39 fqNn39 fqOe39 fqOn39 fqXe39 fqXn39 fqFm13 fqFi13 fqSz9 fqBy9 fqAg9 fqZe9 fqSl9 fqAr9 fqPl9 fqSz46 fqBy46 fqAg46 fqZe46 fqSl46 fqAr46 fqPl46 fqLt9 fqLn46 fqNe46 fqNn46 fqOe46 fqOn46 fqXe46 fqXn46 fqFm63 fqFi63 fqFm129 fqFi129 fqFm207 fqFi207 fqFm270 fqFi270 fqFm271 fqFi271 fqFm272 fqFi272 fqFm318 fqFm319 fqFi319 fqFm320 fqFi320 fqFm350 ev_eqlS ev_neqS
def strDec : AVal → Option ByteArray
 | .v (.string b) => some b
 | _ => none
def cStr : Cod ByteArray := Cod.plain (fun b => .v (.string b)) strDec (fun _ => rfl) (fun x e h => by
 unfold strDec at h
 split at h
 ·simp at h; rw [h]
 ·cases h)
attribute [local simp] cStr strDec
noncomputable def ixO : Orc := (noOrc.withI 350 (extM idxG)).withI 318 (extM cntG)
theorem ixO_ok : OrcOk Tryz.prog ixO := (noOrc_ok.withI idx_inl).withI cnt_inl
def ixB (s : ByteArray) (c : Int) : Int := Lib.indexByte s.data.toList c.toNat.toUInt8
theorem ix320 : PureOk Tryz.prog 320 (argM cStr fun s => argM (cInt .u8) fun c => finM (some (.v (.int .i64 (ixB s c))))) := by
 refine pure2 Tryz.func320 rfl ?_
 rintro s c r hr
 simp only [Option.some.injEq] at hr
 subst hr
 refine body_gen ixO_ok fqMix (by kernel_rfl) (by simp [Tryz.ntmps320]) ?_
 intro C cP cI cN cD cF cA cR cL
 replace cR : C.rd = fun _ => none := cR
 replace cD : C.dyn = fun _ => [] := cD
 have hI : C.inl 350 = true := by rw [cI]; rfl
 have hX : C.inline 350 = extM idxG := by rw [cN]; rfl
 clear cP cN cF cA cI
 simp [Tryz.ntmps320, Tryz.results320, cD, cR, hI, hX, extM, idxG, ixB]
theorem ix272 : PureOk Tryz.prog 272 (argM cStr fun s => argM (cInt .u8) fun c => finM (some (.v (.int .i64 (ixB s c))))) := by
 refine pure2 Tryz.func272 rfl ?_
 rintro s c r hr
 simp only [Option.some.injEq] at hr
 subst hr
 refine body_gen (noOrc_ok.withP ix320) fqMix (by kernel_rfl) (by simp [Tryz.ntmps272]) ?_
 intro C cP cI cN cD cF cA cR cL
 replace cI : C.inl = fun _ => false := cI
 replace cR : C.rd = fun _ => none := cR
 replace cD : C.dyn = fun _ => [] := cD
 have hP := orcP ix320 (C := C) (by rw [cP]; rfl)
 clear cP cN cF cA
 simp [Tryz.ntmps272, Tryz.results272, cI, cD, cR, hP]
def slash : ByteArray := ⟨#[47]⟩
theorem slash_size : slash.size = 1 := rfl
theorem ix319 : PureOk Tryz.prog 319 (argM cStr fun s => argM cStr fun t => finM (if t = slash then some (.v (.int .i64 (ixB s 47))) else none)) := by
 refine pure2 Tryz.func319 rfl ?_
 rintro s t r hr
 by_cases ht : t = slash
 case neg => rw [if_neg ht] at hr; cases hr
 rw [if_pos ht] at hr
 simp only [Option.some.injEq] at hr
 subst hr
 subst ht
 refine body_gen (noOrc_ok.withP ix320) fqMix (by kernel_rfl) (by simp [Tryz.ntmps319]) ?_
 intro C cP cI cN cD cF cA cR cL
 replace cI : C.inl = fun _ => false := cI
 replace cR : C.rd = fun _ => none := cR
 replace cD : C.dyn = fun _ => [] := cD
 have hP := orcP ix320 (C := C) (by rw [cP]; rfl)
 clear cP cN cF cA
 have hl : asV (pr Tryz.prog (Builtin.len_ #[9] 0 #[.string slash])) = some (.v (.int .i64 1)) := ev_lenT Tryz.underlying9
 have hix : asV (pr Tryz.prog (Instr.index 9 (.string slash) (.int .i64 0))) = some (.v (.int .u8 47)) := ev_idxI (a := slash) (i := 0) Tryz.underlying9 (by decide)
 by_cases hs : slash = s
 ·subst hs
  have h0 : ixB slash 47 = 0 := by decide
  simp [Tryz.ntmps319, Tryz.results319, cI, cD, cR, hP, hl, h0]
 ·simp [Tryz.ntmps319, Tryz.results319, cI, cD, cR, hP, hl, hs, hix]
theorem ix271 : PureOk Tryz.prog 271 (argM cStr fun s => argM cStr fun t => finM (if t = slash then some (.v (.int .i64 (ixB s 47))) else none)) := by
 refine pure2 Tryz.func271 rfl ?_
 rintro s t r hr
 by_cases ht : t = slash
 case neg => rw [if_neg ht] at hr; cases hr
 rw [if_pos ht] at hr
 simp only [Option.some.injEq] at hr
 subst hr
 subst ht
 refine body_gen (noOrc_ok.withP ix319) fqMix (by kernel_rfl) (by simp [Tryz.ntmps271]) ?_
 intro C cP cI cN cD cF cA cR cL
 replace cI : C.inl = fun _ => false := cI
 replace cR : C.rd = fun _ => none := cR
 replace cD : C.dyn = fun _ => [] := cD
 have hP := orcP ix319 (C := C) (by rw [cP]; rfl)
 clear cP cN cF cA
 simp [Tryz.ntmps271, Tryz.results271, cI, cD, cR, hP]
def ctB (s : ByteArray) : Int := Lib.countByte s.data.toList 47
theorem ct270 : PureOk Tryz.prog 270 (argM cStr fun s => argM cStr fun t => finM (if t = slash then some (.v (.int .i64 (ctB s))) else none)) := by
 refine pure2 Tryz.func270 rfl ?_
 rintro s t r hr
 by_cases ht : t = slash
 case neg => rw [if_neg ht] at hr; cases hr
 rw [if_pos ht] at hr
 simp only [Option.some.injEq] at hr
 subst hr
 subst ht
 refine body_gen ixO_ok fqMix (by kernel_rfl) (by simp [Tryz.ntmps270]) ?_
 intro C cP cI cN cD cF cA cR cL
 replace cR : C.rd = fun _ => none := cR
 replace cD : C.dyn = fun _ => [] := cD
 have hI : C.inl 318 = true := by rw [cI]; rfl
 have hX : C.inline 318 = extM cntG := by rw [cN]; rfl
 clear cP cN cF cA cI
 have hl : asV (pr Tryz.prog (Builtin.len_ #[9] 0 #[.string slash])) = some (.v (.int .i64 1)) := ev_lenT Tryz.underlying9
 have hix : asV (pr Tryz.prog (Instr.index 9 (.string slash) (.int .i64 0))) = some (.v (.int .u8 47)) := ev_idxI (a := slash) (i := 0) Tryz.underlying9 (by decide)
 simp [Tryz.ntmps270, Tryz.results270, cD, cR, hI, hX, extM, cntG, ctB, hl, hix]
end Go.Proofs.GD
/- A string cut at its slashes: plain theory. -/
namespace Go.Proofs.GD
set_option linter.unusedSectionVars false
variable [Go.AI.Sym]
open Go Go.AI Go.RowKit
theorem first_byte (c : UInt8) : ∀ (l : List UInt8) (m : Nat), Lib.countByte l c = m + 1 → ∃ i : Nat, Lib.indexByte l c = i ∧ i < l.length ∧ Lib.countByte (l.drop (i + 1)) c = m
 | [], m, h => by simp [Lib.countByte] at h
 | b :: l, m, h => by
  by_cases hb : b = c
  ·subst hb
   refine ⟨0, by simp [Lib.indexByte], by simp, ?_⟩
   simp only [Lib.countByte, List.count_cons_self] at h
   simpa [Lib.countByte] using h
  ·have hc : Lib.countByte l c = m + 1 := by
    simpa [Lib.countByte, List.count_cons, hb] using h
   obtain ⟨i, h1, h2, h3⟩ := first_byte c l m hc
   refine ⟨i + 1, ?_, by simp; omega, by simpa using h3⟩
   have hn : ¬ ((i : Int) = -1) := by omega
   simp [Lib.indexByte, hb, h1, hn]
def ctN (s : ByteArray) : Nat := Lib.countByte s.data.toList 47
theorem ctB_eq (s : ByteArray) : ctB s = (ctN s : Int) := rfl
def ixN (s : ByteArray) : Nat := (ixB s 47).toNat
theorem first_ix {s : ByteArray} {m : Nat} (h : ctN s = m + 1) : ixB s 47 = (ixN s : Int) ∧ ixN s < s.size ∧ ctN (s.extract (ixN s + 1) s.size) = m := by
 obtain ⟨i, h1, h2, h3⟩ := first_byte 47 s.data.toList m h
 have e : ixB s 47 = (i : Int) := h1
 have e2 : ixN s = i := by rw [ixN, e]; rfl
 have hsz : s.size = s.data.toList.length := by rw [Array.length_toList]; rfl
 rw [e2]
 refine ⟨e, by rw [hsz]; exact h2, ?_⟩
 unfold ctN
 rw [Lib.extract_data]
 rw [show s.size - (i + 1) = (s.data.toList.drop (i + 1)).length by rw [List.length_drop, hsz], List.take_length]
 exact h3
def cutB : Nat → ByteArray → List ByteArray
 | 0, s => [s]
 | k + 1, s => s.extract 0 (ixN s) :: cutB k (s.extract (ixN s + 1) s.size)
theorem cutB_len : ∀ (k : Nat) (s : ByteArray), (cutB k s).length = k + 1
 | 0, s => rfl
 | k + 1, s => by simp [cutB, cutB_len k]
theorem ctN_le (s : ByteArray) : ctN s ≤ s.size := by
 have : s.size = s.data.toList.length := by rw [Array.length_toList]; rfl
 rw [this]
 exact List.count_le_length
theorem ext_size (s : ByteArray) (a b : Nat) (h : b ≤ s.size) : (s.extract a b).size = b - a := by
 rw [ByteArray.size_extract]; omega
def strRow (b : ByteArray) : Row := [.v (.string b)]
def piecesB (s : ByteArray) : List ByteArray := cutB (ctN s) s
end Go.Proofs.GD
