/- Facts of the program's tables, each by the kernel. Printed by a program. -/
import Derived.Test.YtphaiohhlblamaaProg
import Derived.Test.YtphaiohhlblamaaAiZb
import Derived.KernelRfl
namespace Go.Proofs.Ytphaiohhlblamaa
open Go.AI
theorem fxMix : Try.prog.follows .mixedOrders = true := by kernel_rfl
theorem fxSz2 : szOf Try.prog 2 = some 1 := by kernel_rfl
theorem fxBy2 : bytesOf Try.prog 2 = some 8 := by kernel_rfl
theorem fxAg2 : aggOf Try.prog 2 = some false := by kernel_rfl
theorem fxZe2 : zeroOf Try.prog 2 = some (.int .i64 0) := by kernel_rfl
theorem fxSl2 : sliceElem Try.prog 2 = none := by kernel_rfl
theorem fxAr2 : arrayOf Try.prog 2 = none := by kernel_rfl
theorem fxPl2 : placesOf Try.prog 2 = none := by kernel_rfl
theorem fxSz3 : szOf Try.prog 3 = some 1 := by kernel_rfl
theorem fxBy3 : bytesOf Try.prog 3 = some 8 := by kernel_rfl
theorem fxAg3 : aggOf Try.prog 3 = some false := by kernel_rfl
theorem fxZe3 : zeroOf Try.prog 3 = some (.int .i64 0) := by kernel_rfl
theorem fxSl3 : sliceElem Try.prog 3 = none := by kernel_rfl
theorem fxAr3 : arrayOf Try.prog 3 = none := by kernel_rfl
theorem fxPl3 : placesOf Try.prog 3 = none := by kernel_rfl
theorem fxSz4 : szOf Try.prog 4 = some 1 := by kernel_rfl
theorem fxBy4 : bytesOf Try.prog 4 = some 1 := by kernel_rfl
theorem fxAg4 : aggOf Try.prog 4 = some false := by kernel_rfl
theorem fxZe4 : zeroOf Try.prog 4 = some (.bool false) := by kernel_rfl
theorem fxSl4 : sliceElem Try.prog 4 = none := by kernel_rfl
theorem fxAr4 : arrayOf Try.prog 4 = none := by kernel_rfl
theorem fxPl4 : placesOf Try.prog 4 = none := by kernel_rfl
theorem fxSz5 : szOf Try.prog 5 = some 1 := by kernel_rfl
theorem fxBy5 : bytesOf Try.prog 5 = some 1 := by kernel_rfl
theorem fxAg5 : aggOf Try.prog 5 = some false := by kernel_rfl
theorem fxZe5 : zeroOf Try.prog 5 = some (.int .u8 0) := by kernel_rfl
theorem fxSl5 : sliceElem Try.prog 5 = none := by kernel_rfl
theorem fxAr5 : arrayOf Try.prog 5 = none := by kernel_rfl
theorem fxPl5 : placesOf Try.prog 5 = none := by kernel_rfl
theorem fxSz9 : szOf Try.prog 9 = some 1 := by kernel_rfl
theorem fxBy9 : bytesOf Try.prog 9 = some 16 := by kernel_rfl
theorem fxAg9 : aggOf Try.prog 9 = some false := by kernel_rfl
theorem fxZe9 : zeroOf Try.prog 9 = some (.string ByteArray.empty) := by kernel_rfl
theorem fxSl9 : sliceElem Try.prog 9 = none := by kernel_rfl
theorem fxAr9 : arrayOf Try.prog 9 = none := by kernel_rfl
theorem fxPl9 : placesOf Try.prog 9 = none := by kernel_rfl
theorem fxSz12 : szOf Try.prog 12 = some 1 := by kernel_rfl
theorem fxBy12 : bytesOf Try.prog 12 = some 8 := by kernel_rfl
theorem fxAg12 : aggOf Try.prog 12 = some false := by kernel_rfl
theorem fxZe12 : zeroOf Try.prog 12 = some (.int .u64 0) := by kernel_rfl
theorem fxSl12 : sliceElem Try.prog 12 = none := by kernel_rfl
theorem fxAr12 : arrayOf Try.prog 12 = none := by kernel_rfl
theorem fxPl12 : placesOf Try.prog 12 = none := by kernel_rfl
theorem fxSz13 : szOf Try.prog 13 = some 2 := by kernel_rfl
theorem fxBy13 : bytesOf Try.prog 13 = some 24 := by kernel_rfl
theorem fxAg13 : aggOf Try.prog 13 = some true := by kernel_rfl
theorem fxZe13 : zeroOf Try.prog 13 = some (.agg #[.string ByteArray.empty, .int .u64 0]) := by kernel_rfl
theorem fxSl13 : sliceElem Try.prog 13 = none := by kernel_rfl
theorem fxAr13 : arrayOf Try.prog 13 = none := by kernel_rfl
theorem fxFi13x0 : fieldOf Try.prog 13 0 = some (0, 1, 9) := by kernel_rfl
theorem fxFi13x1 : fieldOf Try.prog 13 1 = some (1, 1, 12) := by kernel_rfl
theorem fxPl13 : placesOf Try.prog 13 = some [(0, 1), (1, 1)] := by kernel_rfl
theorem fxSz21 : szOf Try.prog 21 = some 1 := by kernel_rfl
theorem fxBy21 : bytesOf Try.prog 21 = some 4 := by kernel_rfl
theorem fxAg21 : aggOf Try.prog 21 = some false := by kernel_rfl
theorem fxZe21 : zeroOf Try.prog 21 = some (.int .i32 0) := by kernel_rfl
theorem fxSl21 : sliceElem Try.prog 21 = none := by kernel_rfl
theorem fxAr21 : arrayOf Try.prog 21 = none := by kernel_rfl
theorem fxPl21 : placesOf Try.prog 21 = none := by kernel_rfl
theorem fxSz22 : szOf Try.prog 22 = some 7 := by kernel_rfl
theorem fxBy22 : bytesOf Try.prog 22 = some 32 := by kernel_rfl
theorem fxAg22 : aggOf Try.prog 22 = some true := by kernel_rfl
theorem fxZe22 : zeroOf Try.prog 22 = some (.agg #[.bool false, .bool false, .int .i64 0, .int .i64 0, .bool false, .bool false, .bool false]) := by kernel_rfl
theorem fxSl22 : sliceElem Try.prog 22 = none := by kernel_rfl
theorem fxAr22 : arrayOf Try.prog 22 = none := by kernel_rfl
theorem fxFi22x0 : fieldOf Try.prog 22 0 = some (0, 1, 4) := by kernel_rfl
theorem fxFi22x1 : fieldOf Try.prog 22 1 = some (1, 1, 4) := by kernel_rfl
theorem fxFi22x2 : fieldOf Try.prog 22 2 = some (2, 1, 3) := by kernel_rfl
theorem fxFi22x3 : fieldOf Try.prog 22 3 = some (3, 1, 3) := by kernel_rfl
theorem fxFi22x4 : fieldOf Try.prog 22 4 = some (4, 1, 4) := by kernel_rfl
theorem fxFi22x5 : fieldOf Try.prog 22 5 = some (5, 1, 4) := by kernel_rfl
theorem fxFi22x6 : fieldOf Try.prog 22 6 = some (6, 1, 4) := by kernel_rfl
theorem fxPl22 : placesOf Try.prog 22 = some [(0, 1), (1, 1), (2, 1), (3, 1), (4, 1), (5, 1), (6, 1)] := by kernel_rfl
theorem fxSz23 : szOf Try.prog 23 = some 7 := by kernel_rfl
theorem fxBy23 : bytesOf Try.prog 23 = some 32 := by kernel_rfl
theorem fxAg23 : aggOf Try.prog 23 = some true := by kernel_rfl
theorem fxZe23 : zeroOf Try.prog 23 = some (.agg #[.bool false, .bool false, .int .i64 0, .int .i64 0, .bool false, .bool false, .bool false]) := by kernel_rfl
theorem fxSl23 : sliceElem Try.prog 23 = none := by kernel_rfl
theorem fxAr23 : arrayOf Try.prog 23 = none := by kernel_rfl
theorem fxFi23x0 : fieldOf Try.prog 23 0 = some (0, 1, 4) := by kernel_rfl
theorem fxFi23x1 : fieldOf Try.prog 23 1 = some (1, 1, 4) := by kernel_rfl
theorem fxFi23x2 : fieldOf Try.prog 23 2 = some (2, 1, 3) := by kernel_rfl
theorem fxFi23x3 : fieldOf Try.prog 23 3 = some (3, 1, 3) := by kernel_rfl
theorem fxFi23x4 : fieldOf Try.prog 23 4 = some (4, 1, 4) := by kernel_rfl
theorem fxFi23x5 : fieldOf Try.prog 23 5 = some (5, 1, 4) := by kernel_rfl
theorem fxFi23x6 : fieldOf Try.prog 23 6 = some (6, 1, 4) := by kernel_rfl
theorem fxPl23 : placesOf Try.prog 23 = some [(0, 1), (1, 1), (2, 1), (3, 1), (4, 1), (5, 1), (6, 1)] := by kernel_rfl
theorem fxSz24 : szOf Try.prog 24 = some 1 := by kernel_rfl
theorem fxBy24 : bytesOf Try.prog 24 = some 4 := by kernel_rfl
theorem fxAg24 : aggOf Try.prog 24 = some false := by kernel_rfl
theorem fxZe24 : zeroOf Try.prog 24 = some (.int .u32 0) := by kernel_rfl
theorem fxSl24 : sliceElem Try.prog 24 = none := by kernel_rfl
theorem fxAr24 : arrayOf Try.prog 24 = none := by kernel_rfl
theorem fxPl24 : placesOf Try.prog 24 = none := by kernel_rfl
theorem fxSz25 : szOf Try.prog 25 = some 1 := by kernel_rfl
theorem fxBy25 : bytesOf Try.prog 25 = some 8 := by kernel_rfl
theorem fxAg25 : aggOf Try.prog 25 = some false := by kernel_rfl
theorem fxZe25 : zeroOf Try.prog 25 = some (.int .i64 0) := by kernel_rfl
theorem fxSl25 : sliceElem Try.prog 25 = none := by kernel_rfl
theorem fxAr25 : arrayOf Try.prog 25 = none := by kernel_rfl
theorem fxPl25 : placesOf Try.prog 25 = none := by kernel_rfl
theorem fxSz35 : szOf Try.prog 35 = some 1 := by kernel_rfl
theorem fxBy35 : bytesOf Try.prog 35 = some 24 := by kernel_rfl
theorem fxAg35 : aggOf Try.prog 35 = some false := by kernel_rfl
theorem fxZe35 : zeroOf Try.prog 35 = some (.slice none 0 0) := by kernel_rfl
theorem fxSl35 : sliceElem Try.prog 35 = some 39 := by kernel_rfl
theorem fxAr35 : arrayOf Try.prog 35 = none := by kernel_rfl
theorem fxPl35 : placesOf Try.prog 35 = none := by kernel_rfl
theorem fxSz38 : szOf Try.prog 38 = some 3 := by kernel_rfl
theorem fxBy38 : bytesOf Try.prog 38 = some 24 := by kernel_rfl
theorem fxAg38 : aggOf Try.prog 38 = some true := by kernel_rfl
theorem fxZe38 : zeroOf Try.prog 38 = some (.agg #[.int .i64 0, .int .i64 0, .int .i64 0]) := by kernel_rfl
theorem fxSl38 : sliceElem Try.prog 38 = none := by kernel_rfl
theorem fxAr38 : arrayOf Try.prog 38 = none := by kernel_rfl
theorem fxFi38x0 : fieldOf Try.prog 38 0 = some (0, 1, 3) := by kernel_rfl
theorem fxFi38x1 : fieldOf Try.prog 38 1 = some (1, 1, 3) := by kernel_rfl
theorem fxFi38x2 : fieldOf Try.prog 38 2 = some (2, 1, 3) := by kernel_rfl
theorem fxPl38 : placesOf Try.prog 38 = some [(0, 1), (1, 1), (2, 1)] := by kernel_rfl
theorem fxSz39 : szOf Try.prog 39 = some 3 := by kernel_rfl
theorem fxBy39 : bytesOf Try.prog 39 = some 24 := by kernel_rfl
theorem fxAg39 : aggOf Try.prog 39 = some true := by kernel_rfl
theorem fxZe39 : zeroOf Try.prog 39 = some (.agg #[.int .i64 0, .int .i64 0, .int .i64 0]) := by kernel_rfl
theorem fxSl39 : sliceElem Try.prog 39 = none := by kernel_rfl
theorem fxAr39 : arrayOf Try.prog 39 = none := by kernel_rfl
theorem fxFi39x0 : fieldOf Try.prog 39 0 = some (0, 1, 3) := by kernel_rfl
theorem fxFi39x1 : fieldOf Try.prog 39 1 = some (1, 1, 3) := by kernel_rfl
theorem fxFi39x2 : fieldOf Try.prog 39 2 = some (2, 1, 3) := by kernel_rfl
theorem fxPl39 : placesOf Try.prog 39 = some [(0, 1), (1, 1), (2, 1)] := by kernel_rfl
theorem fxSz45 : szOf Try.prog 45 = some 1 := by kernel_rfl
theorem fxBy45 : bytesOf Try.prog 45 = some 24 := by kernel_rfl
theorem fxAg45 : aggOf Try.prog 45 = some false := by kernel_rfl
theorem fxZe45 : zeroOf Try.prog 45 = some (.slice none 0 0) := by kernel_rfl
theorem fxSl45 : sliceElem Try.prog 45 = some 3 := by kernel_rfl
theorem fxAr45 : arrayOf Try.prog 45 = none := by kernel_rfl
theorem fxPl45 : placesOf Try.prog 45 = none := by kernel_rfl
theorem fxSz54 : szOf Try.prog 54 = some 1 := by kernel_rfl
theorem fxBy54 : bytesOf Try.prog 54 = some 8 := by kernel_rfl
theorem fxAg54 : aggOf Try.prog 54 = some false := by kernel_rfl
theorem fxZe54 : zeroOf Try.prog 54 = some (.int .u64 0) := by kernel_rfl
theorem fxSl54 : sliceElem Try.prog 54 = none := by kernel_rfl
theorem fxAr54 : arrayOf Try.prog 54 = none := by kernel_rfl
theorem fxPl54 : placesOf Try.prog 54 = none := by kernel_rfl
theorem fxSz55 : szOf Try.prog 55 = some 2 := by kernel_rfl
theorem fxBy55 : bytesOf Try.prog 55 = some 8 := by kernel_rfl
theorem fxAg55 : aggOf Try.prog 55 = some true := by kernel_rfl
theorem fxZe55 : zeroOf Try.prog 55 = some (.agg #[.bool false, .int .u32 0]) := by kernel_rfl
theorem fxSl55 : sliceElem Try.prog 55 = none := by kernel_rfl
theorem fxAr55 : arrayOf Try.prog 55 = none := by kernel_rfl
theorem fxFi55x0 : fieldOf Try.prog 55 0 = some (0, 1, 4) := by kernel_rfl
theorem fxFi55x1 : fieldOf Try.prog 55 1 = some (1, 1, 24) := by kernel_rfl
theorem fxPl55 : placesOf Try.prog 55 = some [(0, 1), (1, 1)] := by kernel_rfl
theorem fxSz56 : szOf Try.prog 56 = some 10 := by kernel_rfl
theorem fxBy56 : bytesOf Try.prog 56 = some 40 := by kernel_rfl
theorem fxAg56 : aggOf Try.prog 56 = some true := by kernel_rfl
theorem fxZe56 : zeroOf Try.prog 56 = some (.agg #[.bool false, .int .u32 0, .bool false, .int .u32 0, .bool false, .int .u32 0, .bool false, .int .u32 0, .bool false, .int .u32 0]) := by kernel_rfl
theorem fxSl56 : sliceElem Try.prog 56 = none := by kernel_rfl
theorem fxAr56 : arrayOf Try.prog 56 = some (5, 55) := by kernel_rfl
theorem fxPl56 : placesOf Try.prog 56 = none := by kernel_rfl
theorem fxSz65 : szOf Try.prog 65 = some 0 := by kernel_rfl
theorem fxBy65 : bytesOf Try.prog 65 = some 0 := by kernel_rfl
theorem fxAg65 : aggOf Try.prog 65 = some true := by kernel_rfl
theorem fxZe65 : zeroOf Try.prog 65 = some (.agg #[]) := by kernel_rfl
theorem fxSl65 : sliceElem Try.prog 65 = none := by kernel_rfl
theorem fxAr65 : arrayOf Try.prog 65 = some (0, 16) := by kernel_rfl
theorem fxPl65 : placesOf Try.prog 65 = none := by kernel_rfl
theorem fxSz66 : szOf Try.prog 66 = some 0 := by kernel_rfl
theorem fxBy66 : bytesOf Try.prog 66 = some 0 := by kernel_rfl
theorem fxAg66 : aggOf Try.prog 66 = some true := by kernel_rfl
theorem fxZe66 : zeroOf Try.prog 66 = some (.agg #[]) := by kernel_rfl
theorem fxSl66 : sliceElem Try.prog 66 = none := by kernel_rfl
theorem fxAr66 : arrayOf Try.prog 66 = none := by kernel_rfl
theorem fxFi66x0 : fieldOf Try.prog 66 0 = some (0, 0, 65) := by kernel_rfl
theorem fxPl66 : placesOf Try.prog 66 = some [(0, 0)] := by kernel_rfl
theorem fxSz72 : szOf Try.prog 72 = some 1 := by kernel_rfl
theorem fxBy72 : bytesOf Try.prog 72 = some 8 := by kernel_rfl
theorem fxAg72 : aggOf Try.prog 72 = some false := by kernel_rfl
theorem fxZe72 : zeroOf Try.prog 72 = some (.pointer none) := by kernel_rfl
theorem fxSl72 : sliceElem Try.prog 72 = none := by kernel_rfl
theorem fxAr72 : arrayOf Try.prog 72 = none := by kernel_rfl
theorem fxPl72 : placesOf Try.prog 72 = none := by kernel_rfl
theorem fxSz77 : szOf Try.prog 77 = some 1 := by kernel_rfl
theorem fxBy77 : bytesOf Try.prog 77 = some 8 := by kernel_rfl
theorem fxAg77 : aggOf Try.prog 77 = some false := by kernel_rfl
theorem fxZe77 : zeroOf Try.prog 77 = some (.pointer none) := by kernel_rfl
theorem fxSl77 : sliceElem Try.prog 77 = none := by kernel_rfl
theorem fxAr77 : arrayOf Try.prog 77 = none := by kernel_rfl
theorem fxPl77 : placesOf Try.prog 77 = none := by kernel_rfl
theorem fxEq23 : eqOkT Try.prog 23 = some [0, 0, 1, 1, 0, 0, 0] := by kernel_rfl
theorem fxEq39 : eqOkT Try.prog 39 = some [1, 1, 1] := by kernel_rfl
theorem fxEq55 : eqOkT Try.prog 55 = some [0, 1] := by kernel_rfl
theorem fxEq56 : eqOkT Try.prog 56 = some [0, 1, 0, 1, 0, 1, 0, 1, 0, 1] := by kernel_rfl
theorem fxCv2x2 {k : IntKind} {a : Int} : asV (pr Try.prog (convert 2 2 (.int k a))) = some (.v (.int .i64 (IntKind.i64.wrap a))) := ev_conv Try.underlying2 Try.underlying2
theorem fxCv2x3 {k : IntKind} {a : Int} : asV (pr Try.prog (convert 2 3 (.int k a))) = some (.v (.int .i64 (IntKind.i64.wrap a))) := ev_conv Try.underlying2 Try.underlying3
theorem fxCv2x5 {k : IntKind} {a : Int} : asV (pr Try.prog (convert 2 5 (.int k a))) = some (.v (.int .u8 (IntKind.u8.wrap a))) := ev_conv Try.underlying2 Try.underlying5
theorem fxCv2x12 {k : IntKind} {a : Int} : asV (pr Try.prog (convert 2 12 (.int k a))) = some (.v (.int .u64 (IntKind.u64.wrap a))) := ev_conv Try.underlying2 Try.underlying12
theorem fxCv2x21 {k : IntKind} {a : Int} : asV (pr Try.prog (convert 2 21 (.int k a))) = some (.v (.int .i32 (IntKind.i32.wrap a))) := ev_conv Try.underlying2 Try.underlying21
theorem fxCv2x24 {k : IntKind} {a : Int} : asV (pr Try.prog (convert 2 24 (.int k a))) = some (.v (.int .u32 (IntKind.u32.wrap a))) := ev_conv Try.underlying2 Try.underlying24
theorem fxCv2x25 {k : IntKind} {a : Int} : asV (pr Try.prog (convert 2 25 (.int k a))) = some (.v (.int .i64 (IntKind.i64.wrap a))) := ev_conv Try.underlying2 Try.underlying25
theorem fxCv2x54 {k : IntKind} {a : Int} : asV (pr Try.prog (convert 2 54 (.int k a))) = some (.v (.int .u64 (IntKind.u64.wrap a))) := ev_conv Try.underlying2 Try.underlying54
theorem fxCv3x2 {k : IntKind} {a : Int} : asV (pr Try.prog (convert 3 2 (.int k a))) = some (.v (.int .i64 (IntKind.i64.wrap a))) := ev_conv Try.underlying3 Try.underlying2
theorem fxCv3x3 {k : IntKind} {a : Int} : asV (pr Try.prog (convert 3 3 (.int k a))) = some (.v (.int .i64 (IntKind.i64.wrap a))) := ev_conv Try.underlying3 Try.underlying3
theorem fxCv3x5 {k : IntKind} {a : Int} : asV (pr Try.prog (convert 3 5 (.int k a))) = some (.v (.int .u8 (IntKind.u8.wrap a))) := ev_conv Try.underlying3 Try.underlying5
theorem fxCv3x12 {k : IntKind} {a : Int} : asV (pr Try.prog (convert 3 12 (.int k a))) = some (.v (.int .u64 (IntKind.u64.wrap a))) := ev_conv Try.underlying3 Try.underlying12
theorem fxCv3x21 {k : IntKind} {a : Int} : asV (pr Try.prog (convert 3 21 (.int k a))) = some (.v (.int .i32 (IntKind.i32.wrap a))) := ev_conv Try.underlying3 Try.underlying21
theorem fxCv3x24 {k : IntKind} {a : Int} : asV (pr Try.prog (convert 3 24 (.int k a))) = some (.v (.int .u32 (IntKind.u32.wrap a))) := ev_conv Try.underlying3 Try.underlying24
theorem fxCv3x25 {k : IntKind} {a : Int} : asV (pr Try.prog (convert 3 25 (.int k a))) = some (.v (.int .i64 (IntKind.i64.wrap a))) := ev_conv Try.underlying3 Try.underlying25
theorem fxCv3x54 {k : IntKind} {a : Int} : asV (pr Try.prog (convert 3 54 (.int k a))) = some (.v (.int .u64 (IntKind.u64.wrap a))) := ev_conv Try.underlying3 Try.underlying54
theorem fxCv5x2 {k : IntKind} {a : Int} : asV (pr Try.prog (convert 5 2 (.int k a))) = some (.v (.int .i64 (IntKind.i64.wrap a))) := ev_conv Try.underlying5 Try.underlying2
theorem fxCv5x3 {k : IntKind} {a : Int} : asV (pr Try.prog (convert 5 3 (.int k a))) = some (.v (.int .i64 (IntKind.i64.wrap a))) := ev_conv Try.underlying5 Try.underlying3
theorem fxCv5x5 {k : IntKind} {a : Int} : asV (pr Try.prog (convert 5 5 (.int k a))) = some (.v (.int .u8 (IntKind.u8.wrap a))) := ev_conv Try.underlying5 Try.underlying5
theorem fxCv5x12 {k : IntKind} {a : Int} : asV (pr Try.prog (convert 5 12 (.int k a))) = some (.v (.int .u64 (IntKind.u64.wrap a))) := ev_conv Try.underlying5 Try.underlying12
theorem fxCv5x21 {k : IntKind} {a : Int} : asV (pr Try.prog (convert 5 21 (.int k a))) = some (.v (.int .i32 (IntKind.i32.wrap a))) := ev_conv Try.underlying5 Try.underlying21
theorem fxCv5x24 {k : IntKind} {a : Int} : asV (pr Try.prog (convert 5 24 (.int k a))) = some (.v (.int .u32 (IntKind.u32.wrap a))) := ev_conv Try.underlying5 Try.underlying24
theorem fxCv5x25 {k : IntKind} {a : Int} : asV (pr Try.prog (convert 5 25 (.int k a))) = some (.v (.int .i64 (IntKind.i64.wrap a))) := ev_conv Try.underlying5 Try.underlying25
theorem fxCv5x54 {k : IntKind} {a : Int} : asV (pr Try.prog (convert 5 54 (.int k a))) = some (.v (.int .u64 (IntKind.u64.wrap a))) := ev_conv Try.underlying5 Try.underlying54
theorem fxCv12x2 {k : IntKind} {a : Int} : asV (pr Try.prog (convert 12 2 (.int k a))) = some (.v (.int .i64 (IntKind.i64.wrap a))) := ev_conv Try.underlying12 Try.underlying2
theorem fxCv12x3 {k : IntKind} {a : Int} : asV (pr Try.prog (convert 12 3 (.int k a))) = some (.v (.int .i64 (IntKind.i64.wrap a))) := ev_conv Try.underlying12 Try.underlying3
theorem fxCv12x5 {k : IntKind} {a : Int} : asV (pr Try.prog (convert 12 5 (.int k a))) = some (.v (.int .u8 (IntKind.u8.wrap a))) := ev_conv Try.underlying12 Try.underlying5
theorem fxCv12x12 {k : IntKind} {a : Int} : asV (pr Try.prog (convert 12 12 (.int k a))) = some (.v (.int .u64 (IntKind.u64.wrap a))) := ev_conv Try.underlying12 Try.underlying12
theorem fxCv12x21 {k : IntKind} {a : Int} : asV (pr Try.prog (convert 12 21 (.int k a))) = some (.v (.int .i32 (IntKind.i32.wrap a))) := ev_conv Try.underlying12 Try.underlying21
theorem fxCv12x24 {k : IntKind} {a : Int} : asV (pr Try.prog (convert 12 24 (.int k a))) = some (.v (.int .u32 (IntKind.u32.wrap a))) := ev_conv Try.underlying12 Try.underlying24
theorem fxCv12x25 {k : IntKind} {a : Int} : asV (pr Try.prog (convert 12 25 (.int k a))) = some (.v (.int .i64 (IntKind.i64.wrap a))) := ev_conv Try.underlying12 Try.underlying25
theorem fxCv12x54 {k : IntKind} {a : Int} : asV (pr Try.prog (convert 12 54 (.int k a))) = some (.v (.int .u64 (IntKind.u64.wrap a))) := ev_conv Try.underlying12 Try.underlying54
theorem fxCv21x2 {k : IntKind} {a : Int} : asV (pr Try.prog (convert 21 2 (.int k a))) = some (.v (.int .i64 (IntKind.i64.wrap a))) := ev_conv Try.underlying21 Try.underlying2
theorem fxCv21x3 {k : IntKind} {a : Int} : asV (pr Try.prog (convert 21 3 (.int k a))) = some (.v (.int .i64 (IntKind.i64.wrap a))) := ev_conv Try.underlying21 Try.underlying3
theorem fxCv21x5 {k : IntKind} {a : Int} : asV (pr Try.prog (convert 21 5 (.int k a))) = some (.v (.int .u8 (IntKind.u8.wrap a))) := ev_conv Try.underlying21 Try.underlying5
theorem fxCv21x12 {k : IntKind} {a : Int} : asV (pr Try.prog (convert 21 12 (.int k a))) = some (.v (.int .u64 (IntKind.u64.wrap a))) := ev_conv Try.underlying21 Try.underlying12
theorem fxCv21x21 {k : IntKind} {a : Int} : asV (pr Try.prog (convert 21 21 (.int k a))) = some (.v (.int .i32 (IntKind.i32.wrap a))) := ev_conv Try.underlying21 Try.underlying21
theorem fxCv21x24 {k : IntKind} {a : Int} : asV (pr Try.prog (convert 21 24 (.int k a))) = some (.v (.int .u32 (IntKind.u32.wrap a))) := ev_conv Try.underlying21 Try.underlying24
theorem fxCv21x25 {k : IntKind} {a : Int} : asV (pr Try.prog (convert 21 25 (.int k a))) = some (.v (.int .i64 (IntKind.i64.wrap a))) := ev_conv Try.underlying21 Try.underlying25
theorem fxCv21x54 {k : IntKind} {a : Int} : asV (pr Try.prog (convert 21 54 (.int k a))) = some (.v (.int .u64 (IntKind.u64.wrap a))) := ev_conv Try.underlying21 Try.underlying54
theorem fxCv24x2 {k : IntKind} {a : Int} : asV (pr Try.prog (convert 24 2 (.int k a))) = some (.v (.int .i64 (IntKind.i64.wrap a))) := ev_conv Try.underlying24 Try.underlying2
theorem fxCv24x3 {k : IntKind} {a : Int} : asV (pr Try.prog (convert 24 3 (.int k a))) = some (.v (.int .i64 (IntKind.i64.wrap a))) := ev_conv Try.underlying24 Try.underlying3
theorem fxCv24x5 {k : IntKind} {a : Int} : asV (pr Try.prog (convert 24 5 (.int k a))) = some (.v (.int .u8 (IntKind.u8.wrap a))) := ev_conv Try.underlying24 Try.underlying5
theorem fxCv24x12 {k : IntKind} {a : Int} : asV (pr Try.prog (convert 24 12 (.int k a))) = some (.v (.int .u64 (IntKind.u64.wrap a))) := ev_conv Try.underlying24 Try.underlying12
theorem fxCv24x21 {k : IntKind} {a : Int} : asV (pr Try.prog (convert 24 21 (.int k a))) = some (.v (.int .i32 (IntKind.i32.wrap a))) := ev_conv Try.underlying24 Try.underlying21
theorem fxCv24x24 {k : IntKind} {a : Int} : asV (pr Try.prog (convert 24 24 (.int k a))) = some (.v (.int .u32 (IntKind.u32.wrap a))) := ev_conv Try.underlying24 Try.underlying24
theorem fxCv24x25 {k : IntKind} {a : Int} : asV (pr Try.prog (convert 24 25 (.int k a))) = some (.v (.int .i64 (IntKind.i64.wrap a))) := ev_conv Try.underlying24 Try.underlying25
theorem fxCv24x54 {k : IntKind} {a : Int} : asV (pr Try.prog (convert 24 54 (.int k a))) = some (.v (.int .u64 (IntKind.u64.wrap a))) := ev_conv Try.underlying24 Try.underlying54
theorem fxCv25x2 {k : IntKind} {a : Int} : asV (pr Try.prog (convert 25 2 (.int k a))) = some (.v (.int .i64 (IntKind.i64.wrap a))) := ev_conv Try.underlying25 Try.underlying2
theorem fxCv25x3 {k : IntKind} {a : Int} : asV (pr Try.prog (convert 25 3 (.int k a))) = some (.v (.int .i64 (IntKind.i64.wrap a))) := ev_conv Try.underlying25 Try.underlying3
theorem fxCv25x5 {k : IntKind} {a : Int} : asV (pr Try.prog (convert 25 5 (.int k a))) = some (.v (.int .u8 (IntKind.u8.wrap a))) := ev_conv Try.underlying25 Try.underlying5
theorem fxCv25x12 {k : IntKind} {a : Int} : asV (pr Try.prog (convert 25 12 (.int k a))) = some (.v (.int .u64 (IntKind.u64.wrap a))) := ev_conv Try.underlying25 Try.underlying12
theorem fxCv25x21 {k : IntKind} {a : Int} : asV (pr Try.prog (convert 25 21 (.int k a))) = some (.v (.int .i32 (IntKind.i32.wrap a))) := ev_conv Try.underlying25 Try.underlying21
theorem fxCv25x24 {k : IntKind} {a : Int} : asV (pr Try.prog (convert 25 24 (.int k a))) = some (.v (.int .u32 (IntKind.u32.wrap a))) := ev_conv Try.underlying25 Try.underlying24
theorem fxCv25x25 {k : IntKind} {a : Int} : asV (pr Try.prog (convert 25 25 (.int k a))) = some (.v (.int .i64 (IntKind.i64.wrap a))) := ev_conv Try.underlying25 Try.underlying25
theorem fxCv25x54 {k : IntKind} {a : Int} : asV (pr Try.prog (convert 25 54 (.int k a))) = some (.v (.int .u64 (IntKind.u64.wrap a))) := ev_conv Try.underlying25 Try.underlying54
theorem fxCv54x2 {k : IntKind} {a : Int} : asV (pr Try.prog (convert 54 2 (.int k a))) = some (.v (.int .i64 (IntKind.i64.wrap a))) := ev_conv Try.underlying54 Try.underlying2
theorem fxCv54x3 {k : IntKind} {a : Int} : asV (pr Try.prog (convert 54 3 (.int k a))) = some (.v (.int .i64 (IntKind.i64.wrap a))) := ev_conv Try.underlying54 Try.underlying3
theorem fxCv54x5 {k : IntKind} {a : Int} : asV (pr Try.prog (convert 54 5 (.int k a))) = some (.v (.int .u8 (IntKind.u8.wrap a))) := ev_conv Try.underlying54 Try.underlying5
theorem fxCv54x12 {k : IntKind} {a : Int} : asV (pr Try.prog (convert 54 12 (.int k a))) = some (.v (.int .u64 (IntKind.u64.wrap a))) := ev_conv Try.underlying54 Try.underlying12
theorem fxCv54x21 {k : IntKind} {a : Int} : asV (pr Try.prog (convert 54 21 (.int k a))) = some (.v (.int .i32 (IntKind.i32.wrap a))) := ev_conv Try.underlying54 Try.underlying21
theorem fxCv54x24 {k : IntKind} {a : Int} : asV (pr Try.prog (convert 54 24 (.int k a))) = some (.v (.int .u32 (IntKind.u32.wrap a))) := ev_conv Try.underlying54 Try.underlying24
theorem fxCv54x25 {k : IntKind} {a : Int} : asV (pr Try.prog (convert 54 25 (.int k a))) = some (.v (.int .i64 (IntKind.i64.wrap a))) := ev_conv Try.underlying54 Try.underlying25
theorem fxCv54x54 {k : IntKind} {a : Int} : asV (pr Try.prog (convert 54 54 (.int k a))) = some (.v (.int .u64 (IntKind.u64.wrap a))) := ev_conv Try.underlying54 Try.underlying54
theorem fxEb4 {x y : Operand} {p q : Bool} : aBin Try.prog .eql 4 x y (.v (.bool p)) (.v (.bool q)) = some (.v (.bool (p == q))) := ev_eqlB Try.underlying4
theorem fxNb4 {x y : Operand} {p q : Bool} : aBin Try.prog .neq 4 x y (.v (.bool p)) (.v (.bool q)) = some (.v (.bool (!(p == q)))) := ev_neqB Try.underlying4
theorem fxLt9 {s : ByteArray} : asV (pr Try.prog (Builtin.len_ #[9] 0 #[.string s])) = some (.v (.int .i64 s.size)) := ev_lenT Try.underlying9
theorem fxLn35 : asV (pr Try.prog (Builtin.len_ #[35] 0 #[.slice none 0 0])) = some (.v (.int .i64 0)) := ev_lenN Try.underlying35
theorem fxNe35 {x y : Operand} {o : Bool} {sz : Nat} {rows : List Row} : aBin Try.prog .eql 35 x y (.fsl o sz rows) (.v (.slice none 0 0)) = some (if rows.isEmpty then .anyb else .v (.bool false)) := ev_nilE fxSl35
theorem fxNn35 {x y : Operand} {o : Bool} {sz : Nat} {rows : List Row} : aBin Try.prog .neq 35 x y (.fsl o sz rows) (.v (.slice none 0 0)) = some (if rows.isEmpty then .anyb else .v (.bool true)) := ev_nilN fxSl35
theorem fxOe35 {x y : Operand} {a b c d e : Nat} : aBin Try.prog .eql 35 x y (.osl a b c d e) (.v (.slice none 0 0)) = some (.v (.bool false)) := ev_nilOe fxSl35
theorem fxOn35 {x y : Operand} {a b c d e : Nat} : aBin Try.prog .neq 35 x y (.osl a b c d e) (.v (.slice none 0 0)) = some (.v (.bool true)) := ev_nilOn fxSl35
theorem fxXe35 {x y : Operand} : aBin Try.prog .eql 35 x y .esl (.v (.slice none 0 0)) = some .anyb := ev_nilXe fxSl35
theorem fxXn35 {x y : Operand} : aBin Try.prog .neq 35 x y .esl (.v (.slice none 0 0)) = some .anyb := ev_nilXn fxSl35
theorem fxLn45 : asV (pr Try.prog (Builtin.len_ #[45] 0 #[.slice none 0 0])) = some (.v (.int .i64 0)) := ev_lenN Try.underlying45
theorem fxNe45 {x y : Operand} {o : Bool} {sz : Nat} {rows : List Row} : aBin Try.prog .eql 45 x y (.fsl o sz rows) (.v (.slice none 0 0)) = some (if rows.isEmpty then .anyb else .v (.bool false)) := ev_nilE fxSl45
theorem fxNn45 {x y : Operand} {o : Bool} {sz : Nat} {rows : List Row} : aBin Try.prog .neq 45 x y (.fsl o sz rows) (.v (.slice none 0 0)) = some (if rows.isEmpty then .anyb else .v (.bool true)) := ev_nilN fxSl45
theorem fxOe45 {x y : Operand} {a b c d e : Nat} : aBin Try.prog .eql 45 x y (.osl a b c d e) (.v (.slice none 0 0)) = some (.v (.bool false)) := ev_nilOe fxSl45
theorem fxOn45 {x y : Operand} {a b c d e : Nat} : aBin Try.prog .neq 45 x y (.osl a b c d e) (.v (.slice none 0 0)) = some (.v (.bool true)) := ev_nilOn fxSl45
theorem fxXe45 {x y : Operand} : aBin Try.prog .eql 45 x y .esl (.v (.slice none 0 0)) = some .anyb := ev_nilXe fxSl45
theorem fxXn45 {x y : Operand} : aBin Try.prog .neq 45 x y .esl (.v (.slice none 0 0)) = some .anyb := ev_nilXn fxSl45
theorem fxFn3 : Try.prog.funcs[(3 : Nat)]? = some Try.f3 := Try.func3
theorem fxFm3 : (Try.f3.name == "runtime.NumGoroutine") = false := by kernel_rfl
theorem fxFb3 : (Try.f3.name == "runtime.NumGoroutine" || Try.f3.body.isNone) = false := by kernel_rfl
theorem fxFi3 : Try.f3.body.isNone = false := by kernel_rfl
theorem fxFj3 : (Try.f3.body = none) = False := eq_false (fun h => by have := fxFi3; rw [h] at this; cases this)
theorem fxFn4 : Try.prog.funcs[(4 : Nat)]? = some Try.f4 := Try.func4
theorem fxFm4 : (Try.f4.name == "runtime.NumGoroutine") = false := by kernel_rfl
theorem fxFb4 : (Try.f4.name == "runtime.NumGoroutine" || Try.f4.body.isNone) = false := by kernel_rfl
theorem fxFi4 : Try.f4.body.isNone = false := by kernel_rfl
theorem fxFj4 : (Try.f4.body = none) = False := eq_false (fun h => by have := fxFi4; rw [h] at this; cases this)
theorem fxFn5 : Try.prog.funcs[(5 : Nat)]? = some Try.f5 := Try.func5
theorem fxFm5 : (Try.f5.name == "runtime.NumGoroutine") = false := by kernel_rfl
theorem fxFb5 : (Try.f5.name == "runtime.NumGoroutine" || Try.f5.body.isNone) = false := by kernel_rfl
theorem fxFi5 : Try.f5.body.isNone = false := by kernel_rfl
theorem fxFj5 : (Try.f5.body = none) = False := eq_false (fun h => by have := fxFi5; rw [h] at this; cases this)
theorem fxFn6 : Try.prog.funcs[(6 : Nat)]? = some Try.f6 := Try.func6
theorem fxFm6 : (Try.f6.name == "runtime.NumGoroutine") = false := by kernel_rfl
theorem fxFb6 : (Try.f6.name == "runtime.NumGoroutine" || Try.f6.body.isNone) = false := by kernel_rfl
theorem fxFi6 : Try.f6.body.isNone = false := by kernel_rfl
theorem fxFj6 : (Try.f6.body = none) = False := eq_false (fun h => by have := fxFi6; rw [h] at this; cases this)
theorem fxFn7 : Try.prog.funcs[(7 : Nat)]? = some Try.f7 := Try.func7
theorem fxFm7 : (Try.f7.name == "runtime.NumGoroutine") = false := by kernel_rfl
theorem fxFb7 : (Try.f7.name == "runtime.NumGoroutine" || Try.f7.body.isNone) = false := by kernel_rfl
theorem fxFi7 : Try.f7.body.isNone = false := by kernel_rfl
theorem fxFj7 : (Try.f7.body = none) = False := eq_false (fun h => by have := fxFi7; rw [h] at this; cases this)
theorem fxFn8 : Try.prog.funcs[(8 : Nat)]? = some Try.f8 := Try.func8
theorem fxFm8 : (Try.f8.name == "runtime.NumGoroutine") = false := by kernel_rfl
theorem fxFb8 : (Try.f8.name == "runtime.NumGoroutine" || Try.f8.body.isNone) = false := by kernel_rfl
theorem fxFi8 : Try.f8.body.isNone = false := by kernel_rfl
theorem fxFj8 : (Try.f8.body = none) = False := eq_false (fun h => by have := fxFi8; rw [h] at this; cases this)
theorem fxFn9 : Try.prog.funcs[(9 : Nat)]? = some Try.f9 := Try.func9
theorem fxFm9 : (Try.f9.name == "runtime.NumGoroutine") = false := by kernel_rfl
theorem fxFb9 : (Try.f9.name == "runtime.NumGoroutine" || Try.f9.body.isNone) = false := by kernel_rfl
theorem fxFi9 : Try.f9.body.isNone = false := by kernel_rfl
theorem fxFj9 : (Try.f9.body = none) = False := eq_false (fun h => by have := fxFi9; rw [h] at this; cases this)
theorem fxFn10 : Try.prog.funcs[(10 : Nat)]? = some Try.f10 := Try.func10
theorem fxFm10 : (Try.f10.name == "runtime.NumGoroutine") = false := by kernel_rfl
theorem fxFb10 : (Try.f10.name == "runtime.NumGoroutine" || Try.f10.body.isNone) = false := by kernel_rfl
theorem fxFi10 : Try.f10.body.isNone = false := by kernel_rfl
theorem fxFj10 : (Try.f10.body = none) = False := eq_false (fun h => by have := fxFi10; rw [h] at this; cases this)
theorem fxFn11 : Try.prog.funcs[(11 : Nat)]? = some Try.f11 := Try.func11
theorem fxFm11 : (Try.f11.name == "runtime.NumGoroutine") = false := by kernel_rfl
theorem fxFb11 : (Try.f11.name == "runtime.NumGoroutine" || Try.f11.body.isNone) = false := by kernel_rfl
theorem fxFi11 : Try.f11.body.isNone = false := by kernel_rfl
theorem fxFj11 : (Try.f11.body = none) = False := eq_false (fun h => by have := fxFi11; rw [h] at this; cases this)
theorem fxFn12 : Try.prog.funcs[(12 : Nat)]? = some Try.f12 := Try.func12
theorem fxFm12 : (Try.f12.name == "runtime.NumGoroutine") = false := by kernel_rfl
theorem fxFb12 : (Try.f12.name == "runtime.NumGoroutine" || Try.f12.body.isNone) = false := by kernel_rfl
theorem fxFi12 : Try.f12.body.isNone = false := by kernel_rfl
theorem fxFj12 : (Try.f12.body = none) = False := eq_false (fun h => by have := fxFi12; rw [h] at this; cases this)
theorem fxFn13 : Try.prog.funcs[(13 : Nat)]? = some Try.f13 := Try.func13
theorem fxFm13 : (Try.f13.name == "runtime.NumGoroutine") = false := by kernel_rfl
theorem fxFb13 : (Try.f13.name == "runtime.NumGoroutine" || Try.f13.body.isNone) = false := by kernel_rfl
theorem fxFi13 : Try.f13.body.isNone = false := by kernel_rfl
theorem fxFj13 : (Try.f13.body = none) = False := eq_false (fun h => by have := fxFi13; rw [h] at this; cases this)
theorem fxFn14 : Try.prog.funcs[(14 : Nat)]? = some Try.f14 := Try.func14
theorem fxFm14 : (Try.f14.name == "runtime.NumGoroutine") = false := by kernel_rfl
theorem fxFb14 : (Try.f14.name == "runtime.NumGoroutine" || Try.f14.body.isNone) = false := by kernel_rfl
theorem fxFi14 : Try.f14.body.isNone = false := by kernel_rfl
theorem fxFj14 : (Try.f14.body = none) = False := eq_false (fun h => by have := fxFi14; rw [h] at this; cases this)
theorem fxFn15 : Try.prog.funcs[(15 : Nat)]? = some Try.f15 := Try.func15
theorem fxFm15 : (Try.f15.name == "runtime.NumGoroutine") = false := by kernel_rfl
theorem fxFb15 : (Try.f15.name == "runtime.NumGoroutine" || Try.f15.body.isNone) = false := by kernel_rfl
theorem fxFi15 : Try.f15.body.isNone = false := by kernel_rfl
theorem fxFj15 : (Try.f15.body = none) = False := eq_false (fun h => by have := fxFi15; rw [h] at this; cases this)
theorem fxFn16 : Try.prog.funcs[(16 : Nat)]? = some Try.f16 := Try.func16
theorem fxFm16 : (Try.f16.name == "runtime.NumGoroutine") = false := by kernel_rfl
theorem fxFb16 : (Try.f16.name == "runtime.NumGoroutine" || Try.f16.body.isNone) = false := by kernel_rfl
theorem fxFi16 : Try.f16.body.isNone = false := by kernel_rfl
theorem fxFj16 : (Try.f16.body = none) = False := eq_false (fun h => by have := fxFi16; rw [h] at this; cases this)
theorem fxFn17 : Try.prog.funcs[(17 : Nat)]? = some Try.f17 := Try.func17
theorem fxFm17 : (Try.f17.name == "runtime.NumGoroutine") = false := by kernel_rfl
theorem fxFb17 : (Try.f17.name == "runtime.NumGoroutine" || Try.f17.body.isNone) = false := by kernel_rfl
theorem fxFi17 : Try.f17.body.isNone = false := by kernel_rfl
theorem fxFj17 : (Try.f17.body = none) = False := eq_false (fun h => by have := fxFi17; rw [h] at this; cases this)
theorem fxFn18 : Try.prog.funcs[(18 : Nat)]? = some Try.f18 := Try.func18
theorem fxFm18 : (Try.f18.name == "runtime.NumGoroutine") = false := by kernel_rfl
theorem fxFb18 : (Try.f18.name == "runtime.NumGoroutine" || Try.f18.body.isNone) = false := by kernel_rfl
theorem fxFi18 : Try.f18.body.isNone = false := by kernel_rfl
theorem fxFj18 : (Try.f18.body = none) = False := eq_false (fun h => by have := fxFi18; rw [h] at this; cases this)
theorem fxFn19 : Try.prog.funcs[(19 : Nat)]? = some Try.f19 := Try.func19
theorem fxFm19 : (Try.f19.name == "runtime.NumGoroutine") = false := by kernel_rfl
theorem fxFb19 : (Try.f19.name == "runtime.NumGoroutine" || Try.f19.body.isNone) = false := by kernel_rfl
theorem fxFi19 : Try.f19.body.isNone = false := by kernel_rfl
theorem fxFj19 : (Try.f19.body = none) = False := eq_false (fun h => by have := fxFi19; rw [h] at this; cases this)
theorem fxFn20 : Try.prog.funcs[(20 : Nat)]? = some Try.f20 := Try.func20
theorem fxFm20 : (Try.f20.name == "runtime.NumGoroutine") = false := by kernel_rfl
theorem fxFb20 : (Try.f20.name == "runtime.NumGoroutine" || Try.f20.body.isNone) = false := by kernel_rfl
theorem fxFi20 : Try.f20.body.isNone = false := by kernel_rfl
theorem fxFj20 : (Try.f20.body = none) = False := eq_false (fun h => by have := fxFi20; rw [h] at this; cases this)
theorem fxFn21 : Try.prog.funcs[(21 : Nat)]? = some Try.f21 := Try.func21
theorem fxFm21 : (Try.f21.name == "runtime.NumGoroutine") = false := by kernel_rfl
theorem fxFb21 : (Try.f21.name == "runtime.NumGoroutine" || Try.f21.body.isNone) = false := by kernel_rfl
theorem fxFi21 : Try.f21.body.isNone = false := by kernel_rfl
theorem fxFj21 : (Try.f21.body = none) = False := eq_false (fun h => by have := fxFi21; rw [h] at this; cases this)
theorem fxFn22 : Try.prog.funcs[(22 : Nat)]? = some Try.f22 := Try.func22
theorem fxFm22 : (Try.f22.name == "runtime.NumGoroutine") = false := by kernel_rfl
theorem fxFb22 : (Try.f22.name == "runtime.NumGoroutine" || Try.f22.body.isNone) = false := by kernel_rfl
theorem fxFi22 : Try.f22.body.isNone = false := by kernel_rfl
theorem fxFj22 : (Try.f22.body = none) = False := eq_false (fun h => by have := fxFi22; rw [h] at this; cases this)
theorem fxFn23 : Try.prog.funcs[(23 : Nat)]? = some Try.f23 := Try.func23
theorem fxFm23 : (Try.f23.name == "runtime.NumGoroutine") = false := by kernel_rfl
theorem fxFb23 : (Try.f23.name == "runtime.NumGoroutine" || Try.f23.body.isNone) = false := by kernel_rfl
theorem fxFi23 : Try.f23.body.isNone = false := by kernel_rfl
theorem fxFj23 : (Try.f23.body = none) = False := eq_false (fun h => by have := fxFi23; rw [h] at this; cases this)
theorem fxFn24 : Try.prog.funcs[(24 : Nat)]? = some Try.f24 := Try.func24
theorem fxFm24 : (Try.f24.name == "runtime.NumGoroutine") = false := by kernel_rfl
theorem fxFb24 : (Try.f24.name == "runtime.NumGoroutine" || Try.f24.body.isNone) = false := by kernel_rfl
theorem fxFi24 : Try.f24.body.isNone = false := by kernel_rfl
theorem fxFj24 : (Try.f24.body = none) = False := eq_false (fun h => by have := fxFi24; rw [h] at this; cases this)
theorem fxFn25 : Try.prog.funcs[(25 : Nat)]? = some Try.f25 := Try.func25
theorem fxFm25 : (Try.f25.name == "runtime.NumGoroutine") = false := by kernel_rfl
theorem fxFb25 : (Try.f25.name == "runtime.NumGoroutine" || Try.f25.body.isNone) = false := by kernel_rfl
theorem fxFi25 : Try.f25.body.isNone = false := by kernel_rfl
theorem fxFj25 : (Try.f25.body = none) = False := eq_false (fun h => by have := fxFi25; rw [h] at this; cases this)
theorem fxFn26 : Try.prog.funcs[(26 : Nat)]? = some Try.f26 := Try.func26
theorem fxFm26 : (Try.f26.name == "runtime.NumGoroutine") = false := by kernel_rfl
theorem fxFb26 : (Try.f26.name == "runtime.NumGoroutine" || Try.f26.body.isNone) = false := by kernel_rfl
theorem fxFi26 : Try.f26.body.isNone = false := by kernel_rfl
theorem fxFj26 : (Try.f26.body = none) = False := eq_false (fun h => by have := fxFi26; rw [h] at this; cases this)
theorem fxFn27 : Try.prog.funcs[(27 : Nat)]? = some Try.f27 := Try.func27
theorem fxFm27 : (Try.f27.name == "runtime.NumGoroutine") = false := by kernel_rfl
theorem fxFb27 : (Try.f27.name == "runtime.NumGoroutine" || Try.f27.body.isNone) = false := by kernel_rfl
theorem fxFi27 : Try.f27.body.isNone = false := by kernel_rfl
theorem fxFj27 : (Try.f27.body = none) = False := eq_false (fun h => by have := fxFi27; rw [h] at this; cases this)
end Go.Proofs.Ytphaiohhlblamaa
