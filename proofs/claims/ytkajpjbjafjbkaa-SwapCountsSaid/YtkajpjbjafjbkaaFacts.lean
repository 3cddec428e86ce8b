/- Facts of the program's tables, each by the kernel. Printed by a program. -/
import Derived.Test.YtkajpjbjafjbkaaProg
import Derived.Test.YtkajpjbjafjbkaaAiW
import Derived.KernelRfl
namespace Go.Proofs.Ytkajpjbjafjbkaa
open Go.AI
theorem fxMix : Try.prog.follows .mixedOrders = true := by kernel_rfl
theorem fxSz2 : szOf Try.prog 2 = some 1 := by kernel_rfl
theorem fxBy2 : bytesOf Try.prog 2 = some 8 := by kernel_rfl
theorem fxAg2 : aggOf Try.prog 2 = some false := by kernel_rfl
theorem fxZe2 : zeroOf Try.prog 2 = some (.int .i64 0) := by kernel_rfl
theorem fxSl2 : sliceElem Try.prog 2 = none := by kernel_rfl
theorem fxAr2 : arrayOf Try.prog 2 = none := by kernel_rfl
theorem fxPl2 : placesOf Try.prog 2 = none := by kernel_rfl
theorem fxSz3 : szOf Try.prog 3 = some 1 := by kernel_rfl
theorem fxBy3 : bytesOf Try.prog 3 = some 8 := by kernel_rfl
theorem fxAg3 : aggOf Try.prog 3 = some false := by kernel_rfl
theorem fxZe3 : zeroOf Try.prog 3 = some (.int .i64 0) := by kernel_rfl
theorem fxSl3 : sliceElem Try.prog 3 = none := by kernel_rfl
theorem fxAr3 : arrayOf Try.prog 3 = none := by kernel_rfl
theorem fxPl3 : placesOf Try.prog 3 = none := by kernel_rfl
theorem fxSz4 : szOf Try.prog 4 = some 1 := by kernel_rfl
theorem fxBy4 : bytesOf Try.prog 4 = some 1 := by kernel_rfl
theorem fxAg4 : aggOf Try.prog 4 = some false := by kernel_rfl
theorem fxZe4 : zeroOf Try.prog 4 = some (.bool false) := by kernel_rfl
theorem fxSl4 : sliceElem Try.prog 4 = none := by kernel_rfl
theorem fxAr4 : arrayOf Try.prog 4 = none := by kernel_rfl
theorem fxPl4 : placesOf Try.prog 4 = none := by kernel_rfl
theorem fxSz5 : szOf Try.prog 5 = some 1 := by kernel_rfl
theorem fxBy5 : bytesOf Try.prog 5 = some 1 := by kernel_rfl
theorem fxAg5 : aggOf Try.prog 5 = some false := by kernel_rfl
theorem fxZe5 : zeroOf Try.prog 5 = some (.int .u8 0) := by kernel_rfl
theorem fxSl5 : sliceElem Try.prog 5 = none := by kernel_rfl
theorem fxAr5 : arrayOf Try.prog 5 = none := by kernel_rfl
theorem fxPl5 : placesOf Try.prog 5 = none := by kernel_rfl
theorem fxSz9 : szOf Try.prog 9 = some 1 := by kernel_rfl
theorem fxBy9 : bytesOf Try.prog 9 = some 16 := by kernel_rfl
theorem fxAg9 : aggOf Try.prog 9 = some false := by kernel_rfl
theorem fxZe9 : zeroOf Try.prog 9 = some (.string ByteArray.empty) := by kernel_rfl
theorem fxSl9 : sliceElem Try.prog 9 = none := by kernel_rfl
theorem fxAr9 : arrayOf Try.prog 9 = none := by kernel_rfl
theorem fxPl9 : placesOf Try.prog 9 = none := by kernel_rfl
theorem fxSz12 : szOf Try.prog 12 = some 1 := by kernel_rfl
theorem fxBy12 : bytesOf Try.prog 12 = some 8 := by kernel_rfl
theorem fxAg12 : aggOf Try.prog 12 = some false := by kernel_rfl
theorem fxZe12 : zeroOf Try.prog 12 = some (.int .u64 0) := by kernel_rfl
theorem fxSl12 : sliceElem Try.prog 12 = none := by kernel_rfl
theorem fxAr12 : arrayOf Try.prog 12 = none := by kernel_rfl
theorem fxPl12 : placesOf Try.prog 12 = none := by kernel_rfl
theorem fxSz13 : szOf Try.prog 13 = some 2 := by kernel_rfl
theorem fxBy13 : bytesOf Try.prog 13 = some 24 := by kernel_rfl
theorem fxAg13 : aggOf Try.prog 13 = some true := by kernel_rfl
theorem fxZe13 : zeroOf Try.prog 13 = some (.agg #[.string ByteArray.empty, .int .u64 0]) := by kernel_rfl
theorem fxSl13 : sliceElem Try.prog 13 = none := by kernel_rfl
theorem fxAr13 : arrayOf Try.prog 13 = none := by kernel_rfl
theorem fxFi13x0 : fieldOf Try.prog 13 0 = some (0, 1, 9) := by kernel_rfl
theorem fxFi13x1 : fieldOf Try.prog 13 1 = some (1, 1, 12) := by kernel_rfl
theorem fxPl13 : placesOf Try.prog 13 = some [(0, 1), (1, 1)] := by kernel_rfl
theorem fxSz21 : szOf Try.prog 21 = some 1 := by kernel_rfl
theorem fxBy21 : bytesOf Try.prog 21 = some 4 := by kernel_rfl
theorem fxAg21 : aggOf Try.prog 21 = some false := by kernel_rfl
theorem fxZe21 : zeroOf Try.prog 21 = some (.int .i32 0) := by kernel_rfl
theorem fxSl21 : sliceElem Try.prog 21 = none := by kernel_rfl
theorem fxAr21 : arrayOf Try.prog 21 = none := by kernel_rfl
theorem fxPl21 : placesOf Try.prog 21 = none := by kernel_rfl
theorem fxSz22 : szOf Try.prog 22 = some 1 := by kernel_rfl
theorem fxBy22 : bytesOf Try.prog 22 = some 24 := by kernel_rfl
theorem fxAg22 : aggOf Try.prog 22 = some false := by kernel_rfl
theorem fxZe22 : zeroOf Try.prog 22 = some (.slice none 0 0) := by kernel_rfl
theorem fxSl22 : sliceElem Try.prog 22 = some 39 := by kernel_rfl
theorem fxAr22 : arrayOf Try.prog 22 = none := by kernel_rfl
theorem fxPl22 : placesOf Try.prog 22 = none := by kernel_rfl
theorem fxSz23 : szOf Try.prog 23 = some 16 := by kernel_rfl
theorem fxBy23 : bytesOf Try.prog 23 = some 16 := by kernel_rfl
theorem fxAg23 : aggOf Try.prog 23 = some true := by kernel_rfl
theorem fxZe23 : zeroOf Try.prog 23 = some (.agg #[.int .u8 0, .int .u8 0, .int .u8 0, .int .u8 0, .int .u8 0, .int .u8 0, .int .u8 0, .int .u8 0, .int .u8 0, .int .u8 0, .int .u8 0, .int .u8 0, .int .u8 0, .int .u8 0, .int .u8 0, .int .u8 0]) := by kernel_rfl
theorem fxSl23 : sliceElem Try.prog 23 = none := by kernel_rfl
theorem fxAr23 : arrayOf Try.prog 23 = some (16, 5) := by kernel_rfl
theorem fxPl23 : placesOf Try.prog 23 = none := by kernel_rfl
theorem fxSz24 : szOf Try.prog 24 = some 1 := by kernel_rfl
theorem fxBy24 : bytesOf Try.prog 24 = some 8 := by kernel_rfl
theorem fxAg24 : aggOf Try.prog 24 = some false := by kernel_rfl
theorem fxZe24 : zeroOf Try.prog 24 = some (.int .i64 0) := by kernel_rfl
theorem fxSl24 : sliceElem Try.prog 24 = none := by kernel_rfl
theorem fxAr24 : arrayOf Try.prog 24 = none := by kernel_rfl
theorem fxPl24 : placesOf Try.prog 24 = none := by kernel_rfl
theorem fxSz38 : szOf Try.prog 38 = some 17 := by kernel_rfl
theorem fxBy38 : bytesOf Try.prog 38 = some 24 := by kernel_rfl
theorem fxAg38 : aggOf Try.prog 38 = some true := by kernel_rfl
theorem fxZe38 : zeroOf Try.prog 38 = some (.agg #[.int .i64 0, .int .u8 0, .int .u8 0, .int .u8 0, .int .u8 0, .int .u8 0, .int .u8 0, .int .u8 0, .int .u8 0, .int .u8 0, .int .u8 0, .int .u8 0, .int .u8 0, .int .u8 0, .int .u8 0, .int .u8 0, .int .u8 0]) := by kernel_rfl
theorem fxSl38 : sliceElem Try.prog 38 = none := by kernel_rfl
theorem fxAr38 : arrayOf Try.prog 38 = none := by kernel_rfl
theorem fxFi38x0 : fieldOf Try.prog 38 0 = some (0, 1, 3) := by kernel_rfl
theorem fxFi38x1 : fieldOf Try.prog 38 1 = some (1, 16, 23) := by kernel_rfl
theorem fxPl38 : placesOf Try.prog 38 = some [(0, 1), (1, 16)] := by kernel_rfl
theorem fxSz39 : szOf Try.prog 39 = some 17 := by kernel_rfl
theorem fxBy39 : bytesOf Try.prog 39 = some 24 := by kernel_rfl
theorem fxAg39 : aggOf Try.prog 39 = some true := by kernel_rfl
theorem fxZe39 : zeroOf Try.prog 39 = some (.agg #[.int .i64 0, .int .u8 0, .int .u8 0, .int .u8 0, .int .u8 0, .int .u8 0, .int .u8 0, .int .u8 0, .int .u8 0, .int .u8 0, .int .u8 0, .int .u8 0, .int .u8 0, .int .u8 0, .int .u8 0, .int .u8 0, .int .u8 0]) := by kernel_rfl
theorem fxSl39 : sliceElem Try.prog 39 = none := by kernel_rfl
theorem fxAr39 : arrayOf Try.prog 39 = none := by kernel_rfl
theorem fxFi39x0 : fieldOf Try.prog 39 0 = some (0, 1, 3) := by kernel_rfl
theorem fxFi39x1 : fieldOf Try.prog 39 1 = some (1, 16, 23) := by kernel_rfl
theorem fxPl39 : placesOf Try.prog 39 = some [(0, 1), (1, 16)] := by kernel_rfl
theorem fxSz41 : szOf Try.prog 41 = some 7 := by kernel_rfl
theorem fxBy41 : bytesOf Try.prog 41 = some 32 := by kernel_rfl
theorem fxAg41 : aggOf Try.prog 41 = some true := by kernel_rfl
theorem fxZe41 : zeroOf Try.prog 41 = some (.agg #[.bool false, .bool false, .int .i64 0, .int .i64 0, .bool false, .bool false, .bool false]) := by kernel_rfl
theorem fxSl41 : sliceElem Try.prog 41 = none := by kernel_rfl
theorem fxAr41 : arrayOf Try.prog 41 = none := by kernel_rfl
theorem fxFi41x0 : fieldOf Try.prog 41 0 = some (0, 1, 4) := by kernel_rfl
theorem fxFi41x1 : fieldOf Try.prog 41 1 = some (1, 1, 4) := by kernel_rfl
theorem fxFi41x2 : fieldOf Try.prog 41 2 = some (2, 1, 3) := by kernel_rfl
theorem fxFi41x3 : fieldOf Try.prog 41 3 = some (3, 1, 3) := by kernel_rfl
theorem fxFi41x4 : fieldOf Try.prog 41 4 = some (4, 1, 4) := by kernel_rfl
theorem fxFi41x5 : fieldOf Try.prog 41 5 = some (5, 1, 4) := by kernel_rfl
theorem fxFi41x6 : fieldOf Try.prog 41 6 = some (6, 1, 4) := by kernel_rfl
theorem fxPl41 : placesOf Try.prog 41 = some [(0, 1), (1, 1), (2, 1), (3, 1), (4, 1), (5, 1), (6, 1)] := by kernel_rfl
theorem fxSz42 : szOf Try.prog 42 = some 7 := by kernel_rfl
theorem fxBy42 : bytesOf Try.prog 42 = some 32 := by kernel_rfl
theorem fxAg42 : aggOf Try.prog 42 = some true := by kernel_rfl
theorem fxZe42 : zeroOf Try.prog 42 = some (.agg #[.bool false, .bool false, .int .i64 0, .int .i64 0, .bool false, .bool false, .bool false]) := by kernel_rfl
theorem fxSl42 : sliceElem Try.prog 42 = none := by kernel_rfl
theorem fxAr42 : arrayOf Try.prog 42 = none := by kernel_rfl
theorem fxFi42x0 : fieldOf Try.prog 42 0 = some (0, 1, 4) := by kernel_rfl
theorem fxFi42x1 : fieldOf Try.prog 42 1 = some (1, 1, 4) := by kernel_rfl
theorem fxFi42x2 : fieldOf Try.prog 42 2 = some (2, 1, 3) := by kernel_rfl
theorem fxFi42x3 : fieldOf Try.prog 42 3 = some (3, 1, 3) := by kernel_rfl
theorem fxFi42x4 : fieldOf Try.prog 42 4 = some (4, 1, 4) := by kernel_rfl
theorem fxFi42x5 : fieldOf Try.prog 42 5 = some (5, 1, 4) := by kernel_rfl
theorem fxFi42x6 : fieldOf Try.prog 42 6 = some (6, 1, 4) := by kernel_rfl
theorem fxPl42 : placesOf Try.prog 42 = some [(0, 1), (1, 1), (2, 1), (3, 1), (4, 1), (5, 1), (6, 1)] := by kernel_rfl
theorem fxSz43 : szOf Try.prog 43 = some 10 := by kernel_rfl
theorem fxBy43 : bytesOf Try.prog 43 = some 56 := by kernel_rfl
theorem fxAg43 : aggOf Try.prog 43 = some true := by kernel_rfl
theorem fxZe43 : zeroOf Try.prog 43 = some (.agg #[.int .i64 0, .bool false, .bool false, .int .i64 0, .int .i64 0, .bool false, .bool false, .bool false, .int .i64 0, .int .i64 0]) := by kernel_rfl
theorem fxSl43 : sliceElem Try.prog 43 = none := by kernel_rfl
theorem fxAr43 : arrayOf Try.prog 43 = none := by kernel_rfl
theorem fxFi43x0 : fieldOf Try.prog 43 0 = some (0, 1, 3) := by kernel_rfl
theorem fxFi43x1 : fieldOf Try.prog 43 1 = some (1, 7, 42) := by kernel_rfl
theorem fxFi43x2 : fieldOf Try.prog 43 2 = some (8, 1, 3) := by kernel_rfl
theorem fxFi43x3 : fieldOf Try.prog 43 3 = some (9, 1, 3) := by kernel_rfl
theorem fxPl43 : placesOf Try.prog 43 = some [(0, 1), (1, 7), (8, 1), (9, 1)] := by kernel_rfl
theorem fxSz44 : szOf Try.prog 44 = some 10 := by kernel_rfl
theorem fxBy44 : bytesOf Try.prog 44 = some 56 := by kernel_rfl
theorem fxAg44 : aggOf Try.prog 44 = some true := by kernel_rfl
theorem fxZe44 : zeroOf Try.prog 44 = some (.agg #[.int .i64 0, .bool false, .bool false, .int .i64 0, .int .i64 0, .bool false, .bool false, .bool false, .int .i64 0, .int .i64 0]) := by kernel_rfl
theorem fxSl44 : sliceElem Try.prog 44 = none := by kernel_rfl
theorem fxAr44 : arrayOf Try.prog 44 = none := by kernel_rfl
theorem fxFi44x0 : fieldOf Try.prog 44 0 = some (0, 1, 3) := by kernel_rfl
theorem fxFi44x1 : fieldOf Try.prog 44 1 = some (1, 7, 42) := by kernel_rfl
theorem fxFi44x2 : fieldOf Try.prog 44 2 = some (8, 1, 3) := by kernel_rfl
theorem fxFi44x3 : fieldOf Try.prog 44 3 = some (9, 1, 3) := by kernel_rfl
theorem fxPl44 : placesOf Try.prog 44 = some [(0, 1), (1, 7), (8, 1), (9, 1)] := by kernel_rfl
theorem fxSz45 : szOf Try.prog 45 = some 1 := by kernel_rfl
theorem fxBy45 : bytesOf Try.prog 45 = some 24 := by kernel_rfl
theorem fxAg45 : aggOf Try.prog 45 = some false := by kernel_rfl
theorem fxZe45 : zeroOf Try.prog 45 = some (.slice none 0 0) := by kernel_rfl
theorem fxSl45 : sliceElem Try.prog 45 = some 3 := by kernel_rfl
theorem fxAr45 : arrayOf Try.prog 45 = none := by kernel_rfl
theorem fxPl45 : placesOf Try.prog 45 = none := by kernel_rfl
theorem fxSz57 : szOf Try.prog 57 = some 1 := by kernel_rfl
theorem fxBy57 : bytesOf Try.prog 57 = some 24 := by kernel_rfl
theorem fxAg57 : aggOf Try.prog 57 = some false := by kernel_rfl
theorem fxZe57 : zeroOf Try.prog 57 = some (.slice none 0 0) := by kernel_rfl
theorem fxSl57 : sliceElem Try.prog 57 = some 24 := by kernel_rfl
theorem fxAr57 : arrayOf Try.prog 57 = none := by kernel_rfl
theorem fxPl57 : placesOf Try.prog 57 = none := by kernel_rfl
theorem fxSz68 : szOf Try.prog 68 = some 1 := by kernel_rfl
theorem fxBy68 : bytesOf Try.prog 68 = some 8 := by kernel_rfl
theorem fxAg68 : aggOf Try.prog 68 = some false := by kernel_rfl
theorem fxZe68 : zeroOf Try.prog 68 = some (.pointer none) := by kernel_rfl
theorem fxSl68 : sliceElem Try.prog 68 = none := by kernel_rfl
theorem fxAr68 : arrayOf Try.prog 68 = none := by kernel_rfl
theorem fxPl68 : placesOf Try.prog 68 = none := by kernel_rfl
theorem fxSz72 : szOf Try.prog 72 = some 0 := by kernel_rfl
theorem fxBy72 : bytesOf Try.prog 72 = some 0 := by kernel_rfl
theorem fxAg72 : aggOf Try.prog 72 = some true := by kernel_rfl
theorem fxZe72 : zeroOf Try.prog 72 = some (.agg #[]) := by kernel_rfl
theorem fxSl72 : sliceElem Try.prog 72 = none := by kernel_rfl
theorem fxAr72 : arrayOf Try.prog 72 = some (0, 16) := by kernel_rfl
theorem fxPl72 : placesOf Try.prog 72 = none := by kernel_rfl
theorem fxSz73 : szOf Try.prog 73 = some 0 := by kernel_rfl
theorem fxBy73 : bytesOf Try.prog 73 = some 0 := by kernel_rfl
theorem fxAg73 : aggOf Try.prog 73 = some true := by kernel_rfl
theorem fxZe73 : zeroOf Try.prog 73 = some (.agg #[]) := by kernel_rfl
theorem fxSl73 : sliceElem Try.prog 73 = none := by kernel_rfl
theorem fxAr73 : arrayOf Try.prog 73 = none := by kernel_rfl
theorem fxFi73x0 : fieldOf Try.prog 73 0 = some (0, 0, 72) := by kernel_rfl
theorem fxPl73 : placesOf Try.prog 73 = some [(0, 0)] := by kernel_rfl
theorem fxSz76 : szOf Try.prog 76 = some 1 := by kernel_rfl
theorem fxBy76 : bytesOf Try.prog 76 = some 4 := by kernel_rfl
theorem fxAg76 : aggOf Try.prog 76 = some false := by kernel_rfl
theorem fxZe76 : zeroOf Try.prog 76 = some (.int .u32 0) := by kernel_rfl
theorem fxSl76 : sliceElem Try.prog 76 = none := by kernel_rfl
theorem fxAr76 : arrayOf Try.prog 76 = none := by kernel_rfl
theorem fxPl76 : placesOf Try.prog 76 = none := by kernel_rfl
theorem fxSz80 : szOf Try.prog 80 = some 1 := by kernel_rfl
theorem fxBy80 : bytesOf Try.prog 80 = some 8 := by kernel_rfl
theorem fxAg80 : aggOf Try.prog 80 = some false := by kernel_rfl
theorem fxZe80 : zeroOf Try.prog 80 = some (.pointer none) := by kernel_rfl
theorem fxSl80 : sliceElem Try.prog 80 = none := by kernel_rfl
theorem fxAr80 : arrayOf Try.prog 80 = none := by kernel_rfl
theorem fxPl80 : placesOf Try.prog 80 = none := by kernel_rfl
theorem fxSz85 : szOf Try.prog 85 = some 1 := by kernel_rfl
theorem fxBy85 : bytesOf Try.prog 85 = some 8 := by kernel_rfl
theorem fxAg85 : aggOf Try.prog 85 = some false := by kernel_rfl
theorem fxZe85 : zeroOf Try.prog 85 = some (.pointer none) := by kernel_rfl
theorem fxSl85 : sliceElem Try.prog 85 = none := by kernel_rfl
theorem fxAr85 : arrayOf Try.prog 85 = none := by kernel_rfl
theorem fxPl85 : placesOf Try.prog 85 = none := by kernel_rfl
theorem fxEq23 : eqOkT Try.prog 23 = some [1, 1, 1, 1, 1, 1, 1, 1, 1, 1, 1, 1, 1, 1, 1, 1] := by kernel_rfl
theorem fxEq39 : eqOkT Try.prog 39 = some [1, 1, 1, 1, 1, 1, 1, 1, 1, 1, 1, 1, 1, 1, 1, 1, 1] := by kernel_rfl
theorem fxEq42 : eqOkT Try.prog 42 = some [0, 0, 1, 1, 0, 0, 0] := by kernel_rfl
theorem fxEq44 : eqOkT Try.prog 44 = some [1, 0, 0, 1, 1, 0, 0, 0, 1, 1] := by kernel_rfl
theorem fxCv2x2 {k : IntKind} {a : Int} : asV (pr Try.prog (convert 2 2 (.int k a))) = some (.v (.int .i64 (IntKind.i64.wrap a))) := ev_conv Try.underlying2 Try.underlying2
theorem fxCv2x3 {k : IntKind} {a : Int} : asV (pr Try.prog (convert 2 3 (.int k a))) = some (.v (.int .i64 (IntKind.i64.wrap a))) := ev_conv Try.underlying2 Try.underlying3
theorem fxCv2x5 {k : IntKind} {a : Int} : asV (pr Try.prog (convert 2 5 (.int k a))) = some (.v (.int .u8 (IntKind.u8.wrap a))) := ev_conv Try.underlying2 Try.underlying5
theorem fxCv2x12 {k : IntKind} {a : Int} : asV (pr Try.prog (convert 2 12 (.int k a))) = some (.v (.int .u64 (IntKind.u64.wrap a))) := ev_conv Try.underlying2 Try.underlying12
theorem fxCv2x21 {k : IntKind} {a : Int} : asV (pr Try.prog (convert 2 21 (.int k a))) = some (.v (.int .i32 (IntKind.i32.wrap a))) := ev_conv Try.underlying2 Try.underlying21
theorem fxCv2x24 {k : IntKind} {a : Int} : asV (pr Try.prog (convert 2 24 (.int k a))) = some (.v (.int .i64 (IntKind.i64.wrap a))) := ev_conv Try.underlying2 Try.underlying24
theorem fxCv2x76 {k : IntKind} {a : Int} : asV (pr Try.prog (convert 2 76 (.int k a))) = some (.v (.int .u32 (IntKind.u32.wrap a))) := ev_conv Try.underlying2 Try.underlying76
theorem fxCv3x2 {k : IntKind} {a : Int} : asV (pr Try.prog (convert 3 2 (.int k a))) = some (.v (.int .i64 (IntKind.i64.wrap a))) := ev_conv Try.underlying3 Try.underlying2
theorem fxCv3x3 {k : IntKind} {a : Int} : asV (pr Try.prog (convert 3 3 (.int k a))) = some (.v (.int .i64 (IntKind.i64.wrap a))) := ev_conv Try.underlying3 Try.underlying3
theorem fxCv3x5 {k : IntKind} {a : Int} : asV (pr Try.prog (convert 3 5 (.int k a))) = some (.v (.int .u8 (IntKind.u8.wrap a))) := ev_conv Try.underlying3 Try.underlying5
theorem fxCv3x12 {k : IntKind} {a : Int} : asV (pr Try.prog (convert 3 12 (.int k a))) = some (.v (.int .u64 (IntKind.u64.wrap a))) := ev_conv Try.underlying3 Try.underlying12
theorem fxCv3x21 {k : IntKind} {a : Int} : asV (pr Try.prog (convert 3 21 (.int k a))) = some (.v (.int .i32 (IntKind.i32.wrap a))) := ev_conv Try.underlying3 Try.underlying21
theorem fxCv3x24 {k : IntKind} {a : Int} : asV (pr Try.prog (convert 3 24 (.int k a))) = some (.v (.int .i64 (IntKind.i64.wrap a))) := ev_conv Try.underlying3 Try.underlying24
theorem fxCv3x76 {k : IntKind} {a : Int} : asV (pr Try.prog (convert 3 76 (.int k a))) = some (.v (.int .u32 (IntKind.u32.wrap a))) := ev_conv Try.underlying3 Try.underlying76
theorem fxCv5x2 {k : IntKind} {a : Int} : asV (pr Try.prog (convert 5 2 (.int k a))) = some (.v (.int .i64 (IntKind.i64.wrap a))) := ev_conv Try.underlying5 Try.underlying2
theorem fxCv5x3 {k : IntKind} {a : Int} : asV (pr Try.prog (convert 5 3 (.int k a))) = some (.v (.int .i64 (IntKind.i64.wrap a))) := ev_conv Try.underlying5 Try.underlying3
theorem fxCv5x5 {k : IntKind} {a : Int} : asV (pr Try.prog (convert 5 5 (.int k a))) = some (.v (.int .u8 (IntKind.u8.wrap a))) := ev_conv Try.underlying5 Try.underlying5
theorem fxCv5x12 {k : IntKind} {a : Int} : asV (pr Try.prog (convert 5 12 (.int k a))) = some (.v (.int .u64 (IntKind.u64.wrap a))) := ev_conv Try.underlying5 Try.underlying12
theorem fxCv5x21 {k : IntKind} {a : Int} : asV (pr Try.prog (convert 5 21 (.int k a))) = some (.v (.int .i32 (IntKind.i32.wrap a))) := ev_conv Try.underlying5 Try.underlying21
theorem fxCv5x24 {k : IntKind} {a : Int} : asV (pr Try.prog (convert 5 24 (.int k a))) = some (.v (.int .i64 (IntKind.i64.wrap a))) := ev_conv Try.underlying5 Try.underlying24
theorem fxCv5x76 {k : IntKind} {a : Int} : asV (pr Try.prog (convert 5 76 (.int k a))) = some (.v (.int .u32 (IntKind.u32.wrap a))) := ev_conv Try.underlying5 Try.underlying76
theorem fxCv12x2 {k : IntKind} {a : Int} : asV (pr Try.prog (convert 12 2 (.int k a))) = some (.v (.int .i64 (IntKind.i64.wrap a))) := ev_conv Try.underlying12 Try.underlying2
theorem fxCv12x3 {k : IntKind} {a : Int} : asV (pr Try.prog (convert 12 3 (.int k a))) = some (.v (.int .i64 (IntKind.i64.wrap a))) := ev_conv Try.underlying12 Try.underlying3
theorem fxCv12x5 {k : IntKind} {a : Int} : asV (pr Try.prog (convert 12 5 (.int k a))) = some (.v (.int .u8 (IntKind.u8.wrap a))) := ev_conv Try.underlying12 Try.underlying5
theorem fxCv12x12 {k : IntKind} {a : Int} : asV (pr Try.prog (convert 12 12 (.int k a))) = some (.v (.int .u64 (IntKind.u64.wrap a))) := ev_conv Try.underlying12 Try.underlying12
theorem fxCv12x21 {k : IntKind} {a : Int} : asV (pr Try.prog (convert 12 21 (.int k a))) = some (.v (.int .i32 (IntKind.i32.wrap a))) := ev_conv Try.underlying12 Try.underlying21
theorem fxCv12x24 {k : IntKind} {a : Int} : asV (pr Try.prog (convert 12 24 (.int k a))) = some (.v (.int .i64 (IntKind.i64.wrap a))) := ev_conv Try.underlying12 Try.underlying24
theorem fxCv12x76 {k : IntKind} {a : Int} : asV (pr Try.prog (convert 12 76 (.int k a))) = some (.v (.int .u32 (IntKind.u32.wrap a))) := ev_conv Try.underlying12 Try.underlying76
theorem fxCv21x2 {k : IntKind} {a : Int} : asV (pr Try.prog (convert 21 2 (.int k a))) = some (.v (.int .i64 (IntKind.i64.wrap a))) := ev_conv Try.underlying21 Try.underlying2
theorem fxCv21x3 {k : IntKind} {a : Int} : asV (pr Try.prog (convert 21 3 (.int k a))) = some (.v (.int .i64 (IntKind.i64.wrap a))) := ev_conv Try.underlying21 Try.underlying3
theorem fxCv21x5 {k : IntKind} {a : Int} : asV (pr Try.prog (convert 21 5 (.int k a))) = some (.v (.int .u8 (IntKind.u8.wrap a))) := ev_conv Try.underlying21 Try.underlying5
theorem fxCv21x12 {k : IntKind} {a : Int} : asV (pr Try.prog (convert 21 12 (.int k a))) = some (.v (.int .u64 (IntKind.u64.wrap a))) := ev_conv Try.underlying21 Try.underlying12
theorem fxCv21x21 {k : IntKind} {a : Int} : asV (pr Try.prog (convert 21 21 (.int k a))) = some (.v (.int .i32 (IntKind.i32.wrap a))) := ev_conv Try.underlying21 Try.underlying21
theorem fxCv21x24 {k : IntKind} {a : Int} : asV (pr Try.prog (convert 21 24 (.int k a))) = some (.v (.int .i64 (IntKind.i64.wrap a))) := ev_conv Try.underlying21 Try.underlying24
theorem fxCv21x76 {k : IntKind} {a : Int} : asV (pr Try.prog (convert 21 76 (.int k a))) = some (.v (.int .u32 (IntKind.u32.wrap a))) := ev_conv Try.underlying21 Try.underlying76
theorem fxCv24x2 {k : IntKind} {a : Int} : asV (pr Try.prog (convert 24 2 (.int k a))) = some (.v (.int .i64 (IntKind.i64.wrap a))) := ev_conv Try.underlying24 Try.underlying2
theorem fxCv24x3 {k : IntKind} {a : Int} : asV (pr Try.prog (convert 24 3 (.int k a))) = some (.v (.int .i64 (IntKind.i64.wrap a))) := ev_conv Try.underlying24 Try.underlying3
theorem fxCv24x5 {k : IntKind} {a : Int} : asV (pr Try.prog (convert 24 5 (.int k a))) = some (.v (.int .u8 (IntKind.u8.wrap a))) := ev_conv Try.underlying24 Try.underlying5
theorem fxCv24x12 {k : IntKind} {a : Int} : asV (pr Try.prog (convert 24 12 (.int k a))) = some (.v (.int .u64 (IntKind.u64.wrap a))) := ev_conv Try.underlying24 Try.underlying12
theorem fxCv24x21 {k : IntKind} {a : Int} : asV (pr Try.prog (convert 24 21 (.int k a))) = some (.v (.int .i32 (IntKind.i32.wrap a))) := ev_conv Try.underlying24 Try.underlying21
theorem fxCv24x24 {k : IntKind} {a : Int} : asV (pr Try.prog (convert 24 24 (.int k a))) = some (.v (.int .i64 (IntKind.i64.wrap a))) := ev_conv Try.underlying24 Try.underlying24
theorem fxCv24x76 {k : IntKind} {a : Int} : asV (pr Try.prog (convert 24 76 (.int k a))) = some (.v (.int .u32 (IntKind.u32.wrap a))) := ev_conv Try.underlying24 Try.underlying76
theorem fxCv76x2 {k : IntKind} {a : Int} : asV (pr Try.prog (convert 76 2 (.int k a))) = some (.v (.int .i64 (IntKind.i64.wrap a))) := ev_conv Try.underlying76 Try.underlying2
theorem fxCv76x3 {k : IntKind} {a : Int} : asV (pr Try.prog (convert 76 3 (.int k a))) = some (.v (.int .i64 (IntKind.i64.wrap a))) := ev_conv Try.underlying76 Try.underlying3
theorem fxCv76x5 {k : IntKind} {a : Int} : asV (pr Try.prog (convert 76 5 (.int k a))) = some (.v (.int .u8 (IntKind.u8.wrap a))) := ev_conv Try.underlying76 Try.underlying5
theorem fxCv76x12 {k : IntKind} {a : Int} : asV (pr Try.prog (convert 76 12 (.int k a))) = some (.v (.int .u64 (IntKind.u64.wrap a))) := ev_conv Try.underlying76 Try.underlying12
theorem fxCv76x21 {k : IntKind} {a : Int} : asV (pr Try.prog (convert 76 21 (.int k a))) = some (.v (.int .i32 (IntKind.i32.wrap a))) := ev_conv Try.underlying76 Try.underlying21
theorem fxCv76x24 {k : IntKind} {a : Int} : asV (pr Try.prog (convert 76 24 (.int k a))) = some (.v (.int .i64 (IntKind.i64.wrap a))) := ev_conv Try.underlying76 Try.underlying24
theorem fxCv76x76 {k : IntKind} {a : Int} : asV (pr Try.prog (convert 76 76 (.int k a))) = some (.v (.int .u32 (IntKind.u32.wrap a))) := ev_conv Try.underlying76 Try.underlying76
theorem fxEb4 {x y : Operand} {p q : Bool} : aBin Try.prog .eql 4 x y (.v (.bool p)) (.v (.bool q)) = some (.v (.bool (p == q))) := ev_eqlB Try.underlying4
theorem fxNb4 {x y : Operand} {p q : Bool} : aBin Try.prog .neq 4 x y (.v (.bool p)) (.v (.bool q)) = some (.v (.bool (!(p == q)))) := ev_neqB Try.underlying4
theorem fxLt9 {s : ByteArray} : asV (pr Try.prog (Builtin.len_ #[9] 0 #[.string s])) = some (.v (.int .i64 s.size)) := ev_lenT Try.underlying9
theorem fxLn22 : asV (pr Try.prog (Builtin.len_ #[22] 0 #[.slice none 0 0])) = some (.v (.int .i64 0)) := ev_lenN Try.underlying22
theorem fxNe22 {x y : Operand} {o : Bool} {sz : Nat} {rows : List Row} : aBin Try.prog .eql 22 x y (.fsl o sz rows) (.v (.slice none 0 0)) = some (if rows.isEmpty then .anyb else .v (.bool false)) := ev_nilE fxSl22
theorem fxNn22 {x y : Operand} {o : Bool} {sz : Nat} {rows : List Row} : aBin Try.prog .neq 22 x y (.fsl o sz rows) (.v (.slice none 0 0)) = some (if rows.isEmpty then .anyb else .v (.bool true)) := ev_nilN fxSl22
theorem fxLn45 : asV (pr Try.prog (Builtin.len_ #[45] 0 #[.slice none 0 0])) = some (.v (.int .i64 0)) := ev_lenN Try.underlying45
theorem fxNe45 {x y : Operand} {o : Bool} {sz : Nat} {rows : List Row} : aBin Try.prog .eql 45 x y (.fsl o sz rows) (.v (.slice none 0 0)) = some (if rows.isEmpty then .anyb else .v (.bool false)) := ev_nilE fxSl45
theorem fxNn45 {x y : Operand} {o : Bool} {sz : Nat} {rows : List Row} : aBin Try.prog .neq 45 x y (.fsl o sz rows) (.v (.slice none 0 0)) = some (if rows.isEmpty then .anyb else .v (.bool true)) := ev_nilN fxSl45
theorem fxLn57 : asV (pr Try.prog (Builtin.len_ #[57] 0 #[.slice none 0 0])) = some (.v (.int .i64 0)) := ev_lenN Try.underlying57
theorem fxNe57 {x y : Operand} {o : Bool} {sz : Nat} {rows : List Row} : aBin Try.prog .eql 57 x y (.fsl o sz rows) (.v (.slice none 0 0)) = some (if rows.isEmpty then .anyb else .v (.bool false)) := ev_nilE fxSl57
theorem fxNn57 {x y : Operand} {o : Bool} {sz : Nat} {rows : List Row} : aBin Try.prog .neq 57 x y (.fsl o sz rows) (.v (.slice none 0 0)) = some (if rows.isEmpty then .anyb else .v (.bool true)) := ev_nilN fxSl57
theorem fxFn3 : Try.prog.funcs[(3 : Nat)]? = some Try.f3 := Try.func3
theorem fxFb3 : (Try.f3.name == "runtime.NumGoroutine" || Try.f3.body.isNone) = false := by kernel_rfl
theorem fxFn4 : Try.prog.funcs[(4 : Nat)]? = some Try.f4 := Try.func4
theorem fxFb4 : (Try.f4.name == "runtime.NumGoroutine" || Try.f4.body.isNone) = false := by kernel_rfl
theorem fxFn5 : Try.prog.funcs[(5 : Nat)]? = some Try.f5 := Try.func5
theorem fxFb5 : (Try.f5.name == "runtime.NumGoroutine" || Try.f5.body.isNone) = false := by kernel_rfl
theorem fxFn6 : Try.prog.funcs[(6 : Nat)]? = some Try.f6 := Try.func6
theorem fxFb6 : (Try.f6.name == "runtime.NumGoroutine" || Try.f6.body.isNone) = false := by kernel_rfl
theorem fxFn7 : Try.prog.funcs[(7 : Nat)]? = some Try.f7 := Try.func7
theorem fxFb7 : (Try.f7.name == "runtime.NumGoroutine" || Try.f7.body.isNone) = false := by kernel_rfl
theorem fxFn8 : Try.prog.funcs[(8 : Nat)]? = some Try.f8 := Try.func8
theorem fxFb8 : (Try.f8.name == "runtime.NumGoroutine" || Try.f8.body.isNone) = false := by kernel_rfl
theorem fxFn9 : Try.prog.funcs[(9 : Nat)]? = some Try.f9 := Try.func9
theorem fxFb9 : (Try.f9.name == "runtime.NumGoroutine" || Try.f9.body.isNone) = false := by kernel_rfl
theorem fxFn10 : Try.prog.funcs[(10 : Nat)]? = some Try.f10 := Try.func10
theorem fxFb10 : (Try.f10.name == "runtime.NumGoroutine" || Try.f10.body.isNone) = false := by kernel_rfl
theorem fxFn11 : Try.prog.funcs[(11 : Nat)]? = some Try.f11 := Try.func11
theorem fxFb11 : (Try.f11.name == "runtime.NumGoroutine" || Try.f11.body.isNone) = false := by kernel_rfl
theorem fxFn12 : Try.prog.funcs[(12 : Nat)]? = some Try.f12 := Try.func12
theorem fxFb12 : (Try.f12.name == "runtime.NumGoroutine" || Try.f12.body.isNone) = false := by kernel_rfl
theorem fxFn13 : Try.prog.funcs[(13 : Nat)]? = some Try.f13 := Try.func13
theorem fxFb13 : (Try.f13.name == "runtime.NumGoroutine" || Try.f13.body.isNone) = false := by kernel_rfl
theorem fxFn14 : Try.prog.funcs[(14 : Nat)]? = some Try.f14 := Try.func14
theorem fxFb14 : (Try.f14.name == "runtime.NumGoroutine" || Try.f14.body.isNone) = false := by kernel_rfl
theorem fxFn15 : Try.prog.funcs[(15 : Nat)]? = some Try.f15 := Try.func15
theorem fxFb15 : (Try.f15.name == "runtime.NumGoroutine" || Try.f15.body.isNone) = false := by kernel_rfl
theorem fxFn16 : Try.prog.funcs[(16 : Nat)]? = some Try.f16 := Try.func16
theorem fxFb16 : (Try.f16.name == "runtime.NumGoroutine" || Try.f16.body.isNone) = false := by kernel_rfl
theorem fxFn17 : Try.prog.funcs[(17 : Nat)]? = some Try.f17 := Try.func17
theorem fxFb17 : (Try.f17.name == "runtime.NumGoroutine" || Try.f17.body.isNone) = false := by kernel_rfl
theorem fxFn18 : Try.prog.funcs[(18 : Nat)]? = some Try.f18 := Try.func18
theorem fxFb18 : (Try.f18.name == "runtime.NumGoroutine" || Try.f18.body.isNone) = false := by kernel_rfl
theorem fxFn19 : Try.prog.funcs[(19 : Nat)]? = some Try.f19 := Try.func19
theorem fxFb19 : (Try.f19.name == "runtime.NumGoroutine" || Try.f19.body.isNone) = false := by kernel_rfl
theorem fxFn20 : Try.prog.funcs[(20 : Nat)]? = some Try.f20 := Try.func20
theorem fxFb20 : (Try.f20.name == "runtime.NumGoroutine" || Try.f20.body.isNone) = false := by kernel_rfl
theorem fxFn21 : Try.prog.funcs[(21 : Nat)]? = some Try.f21 := Try.func21
theorem fxFb21 : (Try.f21.name == "runtime.NumGoroutine" || Try.f21.body.isNone) = false := by kernel_rfl
theorem fxFn22 : Try.prog.funcs[(22 : Nat)]? = some Try.f22 := Try.func22
theorem fxFb22 : (Try.f22.name == "runtime.NumGoroutine" || Try.f22.body.isNone) = false := by kernel_rfl
theorem fxFn23 : Try.prog.funcs[(23 : Nat)]? = some Try.f23 := Try.func23
theorem fxFb23 : (Try.f23.name == "runtime.NumGoroutine" || Try.f23.body.isNone) = false := by kernel_rfl
theorem fxFn24 : Try.prog.funcs[(24 : Nat)]? = some Try.f24 := Try.func24
theorem fxFb24 : (Try.f24.name == "runtime.NumGoroutine" || Try.f24.body.isNone) = false := by kernel_rfl
theorem fxFn25 : Try.prog.funcs[(25 : Nat)]? = some Try.f25 := Try.func25
theorem fxFb25 : (Try.f25.name == "runtime.NumGoroutine" || Try.f25.body.isNone) = false := by kernel_rfl
theorem fxFn26 : Try.prog.funcs[(26 : Nat)]? = some Try.f26 := Try.func26
theorem fxFb26 : (Try.f26.name == "runtime.NumGoroutine" || Try.f26.body.isNone) = false := by kernel_rfl
theorem fxFn27 : Try.prog.funcs[(27 : Nat)]? = some Try.f27 := Try.func27
theorem fxFb27 : (Try.f27.name == "runtime.NumGoroutine" || Try.f27.body.isNone) = false := by kernel_rfl
theorem fxFn28 : Try.prog.funcs[(28 : Nat)]? = some Try.f28 := Try.func28
theorem fxFb28 : (Try.f28.name == "runtime.NumGoroutine" || Try.f28.body.isNone) = false := by kernel_rfl
theorem fxFn29 : Try.prog.funcs[(29 : Nat)]? = some Try.f29 := Try.func29
theorem fxFb29 : (Try.f29.name == "runtime.NumGoroutine" || Try.f29.body.isNone) = false := by kernel_rfl
theorem fxFn30 : Try.prog.funcs[(30 : Nat)]? = some Try.f30 := Try.func30
theorem fxFb30 : (Try.f30.name == "runtime.NumGoroutine" || Try.f30.body.isNone) = false := by kernel_rfl
theorem fxFn31 : Try.prog.funcs[(31 : Nat)]? = some Try.f31 := Try.func31
theorem fxFb31 : (Try.f31.name == "runtime.NumGoroutine" || Try.f31.body.isNone) = false := by kernel_rfl
theorem fxFn32 : Try.prog.funcs[(32 : Nat)]? = some Try.f32 := Try.func32
theorem fxFb32 : (Try.f32.name == "runtime.NumGoroutine" || Try.f32.body.isNone) = false := by kernel_rfl
theorem fxFn33 : Try.prog.funcs[(33 : Nat)]? = some Try.f33 := Try.func33
theorem fxFb33 : (Try.f33.name == "runtime.NumGoroutine" || Try.f33.body.isNone) = false := by kernel_rfl
theorem fxFn34 : Try.prog.funcs[(34 : Nat)]? = some Try.f34 := Try.func34
theorem fxFb34 : (Try.f34.name == "runtime.NumGoroutine" || Try.f34.body.isNone) = false := by kernel_rfl
end Go.Proofs.Ytkajpjbjafjbkaa
