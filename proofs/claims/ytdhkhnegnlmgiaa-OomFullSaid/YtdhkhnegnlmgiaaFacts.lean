/- Facts of the program's tables, each by the kernel. Printed by a program. -/
import Derived.Test.YtdhkhnegnlmgiaaProg
import Derived.Test.YtdhkhnegnlmgiaaAiZc
import Derived.KernelRfl
namespace Go.Proofs.Ytdhkhnegnlmgiaa
open Go.AI
theorem fxMix : Try.prog.follows .mixedOrders = true := by kernel_rfl
theorem fxSz2 : szOf Try.prog 2 = some 1 := by kernel_rfl
theorem fxBy2 : bytesOf Try.prog 2 = some 8 := by kernel_rfl
theorem fxAg2 : aggOf Try.prog 2 = some false := by kernel_rfl
theorem fxZe2 : zeroOf Try.prog 2 = some (.int .i64 0) := by kernel_rfl
theorem fxSl2 : sliceElem Try.prog 2 = none := by kernel_rfl
theorem fxAr2 : arrayOf Try.prog 2 = none := by kernel_rfl
theorem fxPl2 : placesOf Try.prog 2 = none := by kernel_rfl
theorem fxSz3 : szOf Try.prog 3 = some 1 := by kernel_rfl
theorem fxBy3 : bytesOf Try.prog 3 = some 8 := by kernel_rfl
theorem fxAg3 : aggOf Try.prog 3 = some false := by kernel_rfl
theorem fxZe3 : zeroOf Try.prog 3 = some (.int .i64 0) := by kernel_rfl
theorem fxSl3 : sliceElem Try.prog 3 = none := by kernel_rfl
theorem fxAr3 : arrayOf Try.prog 3 = none := by kernel_rfl
theorem fxPl3 : placesOf Try.prog 3 = none := by kernel_rfl
theorem fxSz4 : szOf Try.prog 4 = some 1 := by kernel_rfl
theorem fxBy4 : bytesOf Try.prog 4 = some 1 := by kernel_rfl
theorem fxAg4 : aggOf Try.prog 4 = some false := by kernel_rfl
theorem fxZe4 : zeroOf Try.prog 4 = some (.bool false) := by kernel_rfl
theorem fxSl4 : sliceElem Try.prog 4 = none := by kernel_rfl
theorem fxAr4 : arrayOf Try.prog 4 = none := by kernel_rfl
theorem fxPl4 : placesOf Try.prog 4 = none := by kernel_rfl
theorem fxSz5 : szOf Try.prog 5 = some 1 := by kernel_rfl
theorem fxBy5 : bytesOf Try.prog 5 = some 1 := by kernel_rfl
theorem fxAg5 : aggOf Try.prog 5 = some false := by kernel_rfl
theorem fxZe5 : zeroOf Try.prog 5 = some (.int .u8 0) := by kernel_rfl
theorem fxSl5 : sliceElem Try.prog 5 = none := by kernel_rfl
theorem fxAr5 : arrayOf Try.prog 5 = none := by kernel_rfl
theorem fxPl5 : placesOf Try.prog 5 = none := by kernel_rfl
theorem fxSz9 : szOf Try.prog 9 = some 1 := by kernel_rfl
theorem fxBy9 : bytesOf Try.prog 9 = some 16 := by kernel_rfl
theorem fxAg9 : aggOf Try.prog 9 = some false := by kernel_rfl
theorem fxZe9 : zeroOf Try.prog 9 = some (.string ByteArray.empty) := by kernel_rfl
theorem fxSl9 : sliceElem Try.prog 9 = none := by kernel_rfl
theorem fxAr9 : arrayOf Try.prog 9 = none := by kernel_rfl
theorem fxPl9 : placesOf Try.prog 9 = none := by kernel_rfl
theorem fxSz12 : szOf Try.prog 12 = some 1 := by kernel_rfl
theorem fxBy12 : bytesOf Try.prog 12 = some 8 := by kernel_rfl
theorem fxAg12 : aggOf Try.prog 12 = some false := by kernel_rfl
theorem fxZe12 : zeroOf Try.prog 12 = some (.int .u64 0) := by kernel_rfl
theorem fxSl12 : sliceElem Try.prog 12 = none := by kernel_rfl
theorem fxAr12 : arrayOf Try.prog 12 = none := by kernel_rfl
theorem fxPl12 : placesOf Try.prog 12 = none := by kernel_rfl
theorem fxSz13 : szOf Try.prog 13 = some 2 := by kernel_rfl
theorem fxBy13 : bytesOf Try.prog 13 = some 24 := by kernel_rfl
theorem fxAg13 : aggOf Try.prog 13 = some true := by kernel_rfl
theorem fxZe13 : zeroOf Try.prog 13 = some (.agg #[.string ByteArray.empty, .int .u64 0]) := by kernel_rfl
theorem fxSl13 : sliceElem Try.prog 13 = none := by kernel_rfl
theorem fxAr13 : arrayOf Try.prog 13 = none := by kernel_rfl
theorem fxFi13x0 : fieldOf Try.prog 13 0 = some (0, 1, 9) := by kernel_rfl
theorem fxFi13x1 : fieldOf Try.prog 13 1 = some (1, 1, 12) := by kernel_rfl
theorem fxPl13 : placesOf Try.prog 13 = some [(0, 1), (1, 1)] := by kernel_rfl
theorem fxSz21 : szOf Try.prog 21 = some 1 := by kernel_rfl
theorem fxBy21 : bytesOf Try.prog 21 = some 4 := by kernel_rfl
theorem fxAg21 : aggOf Try.prog 21 = some false := by kernel_rfl
theorem fxZe21 : zeroOf Try.prog 21 = some (.int .i32 0) := by kernel_rfl
theorem fxSl21 : sliceElem Try.prog 21 = none := by kernel_rfl
theorem fxAr21 : arrayOf Try.prog 21 = none := by kernel_rfl
theorem fxPl21 : placesOf Try.prog 21 = none := by kernel_rfl
theorem fxSz22 : szOf Try.prog 22 = some 1 := by kernel_rfl
theorem fxBy22 : bytesOf Try.prog 22 = some 24 := by kernel_rfl
theorem fxAg22 : aggOf Try.prog 22 = some false := by kernel_rfl
theorem fxZe22 : zeroOf Try.prog 22 = some (.slice none 0 0) := by kernel_rfl
theorem fxSl22 : sliceElem Try.prog 22 = some 30 := by kernel_rfl
theorem fxAr22 : arrayOf Try.prog 22 = none := by kernel_rfl
theorem fxPl22 : placesOf Try.prog 22 = none := by kernel_rfl
theorem fxSz23 : szOf Try.prog 23 = some 2 := by kernel_rfl
theorem fxBy23 : bytesOf Try.prog 23 = some 32 := by kernel_rfl
theorem fxAg23 : aggOf Try.prog 23 = some true := by kernel_rfl
theorem fxZe23 : zeroOf Try.prog 23 = some (.agg #[.slice none 0 0, .int .i64 0]) := by kernel_rfl
theorem fxSl23 : sliceElem Try.prog 23 = none := by kernel_rfl
theorem fxAr23 : arrayOf Try.prog 23 = none := by kernel_rfl
theorem fxFi23x0 : fieldOf Try.prog 23 0 = some (0, 1, 22) := by kernel_rfl
theorem fxFi23x1 : fieldOf Try.prog 23 1 = some (1, 1, 3) := by kernel_rfl
theorem fxPl23 : placesOf Try.prog 23 = some [(0, 1), (1, 1)] := by kernel_rfl
theorem fxSz24 : szOf Try.prog 24 = some 2 := by kernel_rfl
theorem fxBy24 : bytesOf Try.prog 24 = some 32 := by kernel_rfl
theorem fxAg24 : aggOf Try.prog 24 = some true := by kernel_rfl
theorem fxZe24 : zeroOf Try.prog 24 = some (.agg #[.slice none 0 0, .int .i64 0]) := by kernel_rfl
theorem fxSl24 : sliceElem Try.prog 24 = none := by kernel_rfl
theorem fxAr24 : arrayOf Try.prog 24 = none := by kernel_rfl
theorem fxFi24x0 : fieldOf Try.prog 24 0 = some (0, 1, 22) := by kernel_rfl
theorem fxFi24x1 : fieldOf Try.prog 24 1 = some (1, 1, 3) := by kernel_rfl
theorem fxPl24 : placesOf Try.prog 24 = some [(0, 1), (1, 1)] := by kernel_rfl
theorem fxSz26 : szOf Try.prog 26 = some 1 := by kernel_rfl
theorem fxBy26 : bytesOf Try.prog 26 = some 8 := by kernel_rfl
theorem fxAg26 : aggOf Try.prog 26 = some false := by kernel_rfl
theorem fxZe26 : zeroOf Try.prog 26 = some (.int .i64 0) := by kernel_rfl
theorem fxSl26 : sliceElem Try.prog 26 = none := by kernel_rfl
theorem fxAr26 : arrayOf Try.prog 26 = none := by kernel_rfl
theorem fxPl26 : placesOf Try.prog 26 = none := by kernel_rfl
theorem fxSz28 : szOf Try.prog 28 = some 16 := by kernel_rfl
theorem fxBy28 : bytesOf Try.prog 28 = some 16 := by kernel_rfl
theorem fxAg28 : aggOf Try.prog 28 = some true := by kernel_rfl
theorem fxZe28 : zeroOf Try.prog 28 = some (.agg #[.int .u8 0, .int .u8 0, .int .u8 0, .int .u8 0, .int .u8 0, .int .u8 0, .int .u8 0, .int .u8 0, .int .u8 0, .int .u8 0, .int .u8 0, .int .u8 0, .int .u8 0, .int .u8 0, .int .u8 0, .int .u8 0]) := by kernel_rfl
theorem fxSl28 : sliceElem Try.prog 28 = none := by kernel_rfl
theorem fxAr28 : arrayOf Try.prog 28 = some (16, 5) := by kernel_rfl
theorem fxPl28 : placesOf Try.prog 28 = none := by kernel_rfl
theorem fxSz29 : szOf Try.prog 29 = some 20 := by kernel_rfl
theorem fxBy29 : bytesOf Try.prog 29 = some 48 := by kernel_rfl
theorem fxAg29 : aggOf Try.prog 29 = some true := by kernel_rfl
theorem fxZe29 : zeroOf Try.prog 29 = some (.agg #[.int .i64 0, .int .i64 0, .int .i64 0, .int .i64 0, .int .u8 0, .int .u8 0, .int .u8 0, .int .u8 0, .int .u8 0, .int .u8 0, .int .u8 0, .int .u8 0, .int .u8 0, .int .u8 0, .int .u8 0, .int .u8 0, .int .u8 0, .int .u8 0, .int .u8 0, .int .u8 0]) := by kernel_rfl
theorem fxSl29 : sliceElem Try.prog 29 = none := by kernel_rfl
theorem fxAr29 : arrayOf Try.prog 29 = none := by kernel_rfl
theorem fxFi29x0 : fieldOf Try.prog 29 0 = some (0, 1, 3) := by kernel_rfl
theorem fxFi29x1 : fieldOf Try.prog 29 1 = some (1, 1, 3) := by kernel_rfl
theorem fxFi29x2 : fieldOf Try.prog 29 2 = some (2, 1, 3) := by kernel_rfl
theorem fxFi29x3 : fieldOf Try.prog 29 3 = some (3, 1, 3) := by kernel_rfl
theorem fxFi29x4 : fieldOf Try.prog 29 4 = some (4, 16, 28) := by kernel_rfl
theorem fxPl29 : placesOf Try.prog 29 = some [(0, 1), (1, 1), (2, 1), (3, 1), (4, 16)] := by kernel_rfl
theorem fxSz30 : szOf Try.prog 30 = some 20 := by kernel_rfl
theorem fxBy30 : bytesOf Try.prog 30 = some 48 := by kernel_rfl
theorem fxAg30 : aggOf Try.prog 30 = some true := by kernel_rfl
theorem fxZe30 : zeroOf Try.prog 30 = some (.agg #[.int .i64 0, .int .i64 0, .int .i64 0, .int .i64 0, .int .u8 0, .int .u8 0, .int .u8 0, .int .u8 0, .int .u8 0, .int .u8 0, .int .u8 0, .int .u8 0, .int .u8 0, .int .u8 0, .int .u8 0, .int .u8 0, .int .u8 0, .int .u8 0, .int .u8 0, .int .u8 0]) := by kernel_rfl
theorem fxSl30 : sliceElem Try.prog 30 = none := by kernel_rfl
theorem fxAr30 : arrayOf Try.prog 30 = none := by kernel_rfl
theorem fxFi30x0 : fieldOf Try.prog 30 0 = some (0, 1, 3) := by kernel_rfl
theorem fxFi30x1 : fieldOf Try.prog 30 1 = some (1, 1, 3) := by kernel_rfl
theorem fxFi30x2 : fieldOf Try.prog 30 2 = some (2, 1, 3) := by kernel_rfl
theorem fxFi30x3 : fieldOf Try.prog 30 3 = some (3, 1, 3) := by kernel_rfl
theorem fxFi30x4 : fieldOf Try.prog 30 4 = some (4, 16, 28) := by kernel_rfl
theorem fxPl30 : placesOf Try.prog 30 = some [(0, 1), (1, 1), (2, 1), (3, 1), (4, 16)] := by kernel_rfl
theorem fxSz48 : szOf Try.prog 48 = some 1 := by kernel_rfl
theorem fxBy48 : bytesOf Try.prog 48 = some 24 := by kernel_rfl
theorem fxAg48 : aggOf Try.prog 48 = some false := by kernel_rfl
theorem fxZe48 : zeroOf Try.prog 48 = some (.slice none 0 0) := by kernel_rfl
theorem fxSl48 : sliceElem Try.prog 48 = some 54 := by kernel_rfl
theorem fxAr48 : arrayOf Try.prog 48 = none := by kernel_rfl
theorem fxPl48 : placesOf Try.prog 48 = none := by kernel_rfl
theorem fxSz49 : szOf Try.prog 49 = some 1 := by kernel_rfl
theorem fxBy49 : bytesOf Try.prog 49 = some 24 := by kernel_rfl
theorem fxAg49 : aggOf Try.prog 49 = some false := by kernel_rfl
theorem fxZe49 : zeroOf Try.prog 49 = some (.slice none 0 0) := by kernel_rfl
theorem fxSl49 : sliceElem Try.prog 49 = some 3 := by kernel_rfl
theorem fxAr49 : arrayOf Try.prog 49 = none := by kernel_rfl
theorem fxPl49 : placesOf Try.prog 49 = none := by kernel_rfl
theorem fxSz53 : szOf Try.prog 53 = some 4 := by kernel_rfl
theorem fxBy53 : bytesOf Try.prog 53 = some 32 := by kernel_rfl
theorem fxAg53 : aggOf Try.prog 53 = some true := by kernel_rfl
theorem fxZe53 : zeroOf Try.prog 53 = some (.agg #[.int .i64 0, .int .i64 0, .int .i64 0, .bool false]) := by kernel_rfl
theorem fxSl53 : sliceElem Try.prog 53 = none := by kernel_rfl
theorem fxAr53 : arrayOf Try.prog 53 = none := by kernel_rfl
theorem fxFi53x0 : fieldOf Try.prog 53 0 = some (0, 1, 3) := by kernel_rfl
theorem fxFi53x1 : fieldOf Try.prog 53 1 = some (1, 1, 3) := by kernel_rfl
theorem fxFi53x2 : fieldOf Try.prog 53 2 = some (2, 1, 3) := by kernel_rfl
theorem fxFi53x3 : fieldOf Try.prog 53 3 = some (3, 1, 4) := by kernel_rfl
theorem fxPl53 : placesOf Try.prog 53 = some [(0, 1), (1, 1), (2, 1), (3, 1)] := by kernel_rfl
theorem fxSz54 : szOf Try.prog 54 = some 4 := by kernel_rfl
theorem fxBy54 : bytesOf Try.prog 54 = some 32 := by kernel_rfl
theorem fxAg54 : aggOf Try.prog 54 = some true := by kernel_rfl
theorem fxZe54 : zeroOf Try.prog 54 = some (.agg #[.int .i64 0, .int .i64 0, .int .i64 0, .bool false]) := by kernel_rfl
theorem fxSl54 : sliceElem Try.prog 54 = none := by kernel_rfl
theorem fxAr54 : arrayOf Try.prog 54 = none := by kernel_rfl
theorem fxFi54x0 : fieldOf Try.prog 54 0 = some (0, 1, 3) := by kernel_rfl
theorem fxFi54x1 : fieldOf Try.prog 54 1 = some (1, 1, 3) := by kernel_rfl
theorem fxFi54x2 : fieldOf Try.prog 54 2 = some (2, 1, 3) := by kernel_rfl
theorem fxFi54x3 : fieldOf Try.prog 54 3 = some (3, 1, 4) := by kernel_rfl
theorem fxPl54 : placesOf Try.prog 54 = some [(0, 1), (1, 1), (2, 1), (3, 1)] := by kernel_rfl
theorem fxSz59 : szOf Try.prog 59 = some 1 := by kernel_rfl
theorem fxBy59 : bytesOf Try.prog 59 = some 24 := by kernel_rfl
theorem fxAg59 : aggOf Try.prog 59 = some false := by kernel_rfl
theorem fxZe59 : zeroOf Try.prog 59 = some (.slice none 0 0) := by kernel_rfl
theorem fxSl59 : sliceElem Try.prog 59 = some 4 := by kernel_rfl
theorem fxAr59 : arrayOf Try.prog 59 = none := by kernel_rfl
theorem fxPl59 : placesOf Try.prog 59 = none := by kernel_rfl
theorem fxSz63 : szOf Try.prog 63 = some 1 := by kernel_rfl
theorem fxBy63 : bytesOf Try.prog 63 = some 24 := by kernel_rfl
theorem fxAg63 : aggOf Try.prog 63 = some false := by kernel_rfl
theorem fxZe63 : zeroOf Try.prog 63 = some (.slice none 0 0) := by kernel_rfl
theorem fxSl63 : sliceElem Try.prog 63 = some 91 := by kernel_rfl
theorem fxAr63 : arrayOf Try.prog 63 = none := by kernel_rfl
theorem fxPl63 : placesOf Try.prog 63 = none := by kernel_rfl
theorem fxSz68 : szOf Try.prog 68 = some 1 := by kernel_rfl
theorem fxBy68 : bytesOf Try.prog 68 = some 8 := by kernel_rfl
theorem fxAg68 : aggOf Try.prog 68 = some false := by kernel_rfl
theorem fxZe68 : zeroOf Try.prog 68 = some (.map none) := by kernel_rfl
theorem fxSl68 : sliceElem Try.prog 68 = none := by kernel_rfl
theorem fxAr68 : arrayOf Try.prog 68 = none := by kernel_rfl
theorem fxPl68 : placesOf Try.prog 68 = none := by kernel_rfl
theorem fxSz75 : szOf Try.prog 75 = some 1 := by kernel_rfl
theorem fxBy75 : bytesOf Try.prog 75 = some 24 := by kernel_rfl
theorem fxAg75 : aggOf Try.prog 75 = some false := by kernel_rfl
theorem fxZe75 : zeroOf Try.prog 75 = some (.slice none 0 0) := by kernel_rfl
theorem fxSl75 : sliceElem Try.prog 75 = some 26 := by kernel_rfl
theorem fxAr75 : arrayOf Try.prog 75 = none := by kernel_rfl
theorem fxPl75 : placesOf Try.prog 75 = none := by kernel_rfl
theorem fxSz90 : szOf Try.prog 90 = some 3 := by kernel_rfl
theorem fxBy90 : bytesOf Try.prog 90 = some 24 := by kernel_rfl
theorem fxAg90 : aggOf Try.prog 90 = some true := by kernel_rfl
theorem fxZe90 : zeroOf Try.prog 90 = some (.agg #[.int .i64 0, .int .i64 0, .int .i64 0]) := by kernel_rfl
theorem fxSl90 : sliceElem Try.prog 90 = none := by kernel_rfl
theorem fxAr90 : arrayOf Try.prog 90 = none := by kernel_rfl
theorem fxFi90x0 : fieldOf Try.prog 90 0 = some (0, 1, 3) := by kernel_rfl
theorem fxFi90x1 : fieldOf Try.prog 90 1 = some (1, 1, 3) := by kernel_rfl
theorem fxFi90x2 : fieldOf Try.prog 90 2 = some (2, 1, 3) := by kernel_rfl
theorem fxPl90 : placesOf Try.prog 90 = some [(0, 1), (1, 1), (2, 1)] := by kernel_rfl
theorem fxSz91 : szOf Try.prog 91 = some 3 := by kernel_rfl
theorem fxBy91 : bytesOf Try.prog 91 = some 24 := by kernel_rfl
theorem fxAg91 : aggOf Try.prog 91 = some true := by kernel_rfl
theorem fxZe91 : zeroOf Try.prog 91 = some (.agg #[.int .i64 0, .int .i64 0, .int .i64 0]) := by kernel_rfl
theorem fxSl91 : sliceElem Try.prog 91 = none := by kernel_rfl
theorem fxAr91 : arrayOf Try.prog 91 = none := by kernel_rfl
theorem fxFi91x0 : fieldOf Try.prog 91 0 = some (0, 1, 3) := by kernel_rfl
theorem fxFi91x1 : fieldOf Try.prog 91 1 = some (1, 1, 3) := by kernel_rfl
theorem fxFi91x2 : fieldOf Try.prog 91 2 = some (2, 1, 3) := by kernel_rfl
theorem fxPl91 : placesOf Try.prog 91 = some [(0, 1), (1, 1), (2, 1)] := by kernel_rfl
theorem fxSz96 : szOf Try.prog 96 = some 1 := by kernel_rfl
theorem fxBy96 : bytesOf Try.prog 96 = some 8 := by kernel_rfl
theorem fxAg96 : aggOf Try.prog 96 = some false := by kernel_rfl
theorem fxZe96 : zeroOf Try.prog 96 = some (.int .u64 0) := by kernel_rfl
theorem fxSl96 : sliceElem Try.prog 96 = none := by kernel_rfl
theorem fxAr96 : arrayOf Try.prog 96 = none := by kernel_rfl
theorem fxPl96 : placesOf Try.prog 96 = none := by kernel_rfl
theorem fxSz108 : szOf Try.prog 108 = some 1 := by kernel_rfl
theorem fxBy108 : bytesOf Try.prog 108 = some 8 := by kernel_rfl
theorem fxAg108 : aggOf Try.prog 108 = some false := by kernel_rfl
theorem fxZe108 : zeroOf Try.prog 108 = some (.int .i64 0) := by kernel_rfl
theorem fxSl108 : sliceElem Try.prog 108 = none := by kernel_rfl
theorem fxAr108 : arrayOf Try.prog 108 = none := by kernel_rfl
theorem fxPl108 : placesOf Try.prog 108 = none := by kernel_rfl
theorem fxSz115 : szOf Try.prog 115 = some 1 := by kernel_rfl
theorem fxBy115 : bytesOf Try.prog 115 = some 4 := by kernel_rfl
theorem fxAg115 : aggOf Try.prog 115 = some false := by kernel_rfl
theorem fxZe115 : zeroOf Try.prog 115 = some (.int .u32 0) := by kernel_rfl
theorem fxSl115 : sliceElem Try.prog 115 = none := by kernel_rfl
theorem fxAr115 : arrayOf Try.prog 115 = none := by kernel_rfl
theorem fxPl115 : placesOf Try.prog 115 = none := by kernel_rfl
theorem fxSz117 : szOf Try.prog 117 = some 1 := by kernel_rfl
theorem fxBy117 : bytesOf Try.prog 117 = some 8 := by kernel_rfl
theorem fxAg117 : aggOf Try.prog 117 = some false := by kernel_rfl
theorem fxZe117 : zeroOf Try.prog 117 = some (.int .u64 0) := by kernel_rfl
theorem fxSl117 : sliceElem Try.prog 117 = none := by kernel_rfl
theorem fxAr117 : arrayOf Try.prog 117 = none := by kernel_rfl
theorem fxPl117 : placesOf Try.prog 117 = none := by kernel_rfl
theorem fxSz124 : szOf Try.prog 124 = some 1 := by kernel_rfl
theorem fxBy124 : bytesOf Try.prog 124 = some 8 := by kernel_rfl
theorem fxAg124 : aggOf Try.prog 124 = some false := by kernel_rfl
theorem fxZe124 : zeroOf Try.prog 124 = some (.int .u64 0) := by kernel_rfl
theorem fxSl124 : sliceElem Try.prog 124 = none := by kernel_rfl
theorem fxAr124 : arrayOf Try.prog 124 = none := by kernel_rfl
theorem fxPl124 : placesOf Try.prog 124 = none := by kernel_rfl
theorem fxSz128 : szOf Try.prog 128 = some 1 := by kernel_rfl
theorem fxBy128 : bytesOf Try.prog 128 = some 8 := by kernel_rfl
theorem fxAg128 : aggOf Try.prog 128 = some false := by kernel_rfl
theorem fxZe128 : zeroOf Try.prog 128 = some (.pointer none) := by kernel_rfl
theorem fxSl128 : sliceElem Try.prog 128 = none := by kernel_rfl
theorem fxAr128 : arrayOf Try.prog 128 = none := by kernel_rfl
theorem fxPl128 : placesOf Try.prog 128 = none := by kernel_rfl
theorem fxSz133 : szOf Try.prog 133 = some 1 := by kernel_rfl
theorem fxBy133 : bytesOf Try.prog 133 = some 8 := by kernel_rfl
theorem fxAg133 : aggOf Try.prog 133 = some false := by kernel_rfl
theorem fxZe133 : zeroOf Try.prog 133 = some (.pointer none) := by kernel_rfl
theorem fxSl133 : sliceElem Try.prog 133 = none := by kernel_rfl
theorem fxAr133 : arrayOf Try.prog 133 = none := by kernel_rfl
theorem fxPl133 : placesOf Try.prog 133 = none := by kernel_rfl
theorem fxSz140 : szOf Try.prog 140 = some 0 := by kernel_rfl
theorem fxBy140 : bytesOf Try.prog 140 = some 0 := by kernel_rfl
theorem fxAg140 : aggOf Try.prog 140 = some true := by kernel_rfl
theorem fxZe140 : zeroOf Try.prog 140 = some (.agg #[]) := by kernel_rfl
theorem fxSl140 : sliceElem Try.prog 140 = none := by kernel_rfl
theorem fxAr140 : arrayOf Try.prog 140 = some (0, 16) := by kernel_rfl
theorem fxPl140 : placesOf Try.prog 140 = none := by kernel_rfl
theorem fxSz141 : szOf Try.prog 141 = some 0 := by kernel_rfl
theorem fxBy141 : bytesOf Try.prog 141 = some 0 := by kernel_rfl
theorem fxAg141 : aggOf Try.prog 141 = some true := by kernel_rfl
theorem fxZe141 : zeroOf Try.prog 141 = some (.agg #[]) := by kernel_rfl
theorem fxSl141 : sliceElem Try.prog 141 = none := by kernel_rfl
theorem fxAr141 : arrayOf Try.prog 141 = none := by kernel_rfl
theorem fxFi141x0 : fieldOf Try.prog 141 0 = some (0, 0, 140) := by kernel_rfl
theorem fxPl141 : placesOf Try.prog 141 = some [(0, 0)] := by kernel_rfl
theorem fxSz147 : szOf Try.prog 147 = some 1 := by kernel_rfl
theorem fxBy147 : bytesOf Try.prog 147 = some 8 := by kernel_rfl
theorem fxAg147 : aggOf Try.prog 147 = some false := by kernel_rfl
theorem fxZe147 : zeroOf Try.prog 147 = some (.pointer none) := by kernel_rfl
theorem fxSl147 : sliceElem Try.prog 147 = none := by kernel_rfl
theorem fxAr147 : arrayOf Try.prog 147 = none := by kernel_rfl
theorem fxPl147 : placesOf Try.prog 147 = none := by kernel_rfl
theorem fxSz152 : szOf Try.prog 152 = some 1 := by kernel_rfl
theorem fxBy152 : bytesOf Try.prog 152 = some 8 := by kernel_rfl
theorem fxAg152 : aggOf Try.prog 152 = some false := by kernel_rfl
theorem fxZe152 : zeroOf Try.prog 152 = some (.pointer none) := by kernel_rfl
theorem fxSl152 : sliceElem Try.prog 152 = none := by kernel_rfl
theorem fxAr152 : arrayOf Try.prog 152 = none := by kernel_rfl
theorem fxPl152 : placesOf Try.prog 152 = none := by kernel_rfl
theorem fxEq28 : eqOkT Try.prog 28 = some [1, 1, 1, 1, 1, 1, 1, 1, 1, 1, 1, 1, 1, 1, 1, 1] := by kernel_rfl
theorem fxEq30 : eqOkT Try.prog 30 = some [1, 1, 1, 1, 1, 1, 1, 1, 1, 1, 1, 1, 1, 1, 1, 1, 1, 1, 1, 1] := by kernel_rfl
theorem fxEq54 : eqOkT Try.prog 54 = some [1, 1, 1, 0] := by kernel_rfl
theorem fxEq91 : eqOkT Try.prog 91 = some [1, 1, 1] := by kernel_rfl
theorem fxCv2x2 {k : IntKind} {a : Int} : asV (pr Try.prog (convert 2 2 (.int k a))) = some (.v (.int .i64 (IntKind.i64.wrap a))) := ev_conv Try.underlying2 Try.underlying2
theorem fxCv2x3 {k : IntKind} {a : Int} : asV (pr Try.prog (convert 2 3 (.int k a))) = some (.v (.int .i64 (IntKind.i64.wrap a))) := ev_conv Try.underlying2 Try.underlying3
theorem fxCv2x5 {k : IntKind} {a : Int} : asV (pr Try.prog (convert 2 5 (.int k a))) = some (.v (.int .u8 (IntKind.u8.wrap a))) := ev_conv Try.underlying2 Try.underlying5
theorem fxCv2x12 {k : IntKind} {a : Int} : asV (pr Try.prog (convert 2 12 (.int k a))) = some (.v (.int .u64 (IntKind.u64.wrap a))) := ev_conv Try.underlying2 Try.underlying12
theorem fxCv2x21 {k : IntKind} {a : Int} : asV (pr Try.prog (convert 2 21 (.int k a))) = some (.v (.int .i32 (IntKind.i32.wrap a))) := ev_conv Try.underlying2 Try.underlying21
theorem fxCv2x26 {k : IntKind} {a : Int} : asV (pr Try.prog (convert 2 26 (.int k a))) = some (.v (.int .i64 (IntKind.i64.wrap a))) := ev_conv Try.underlying2 Try.underlying26
theorem fxCv2x96 {k : IntKind} {a : Int} : asV (pr Try.prog (convert 2 96 (.int k a))) = some (.v (.int .u64 (IntKind.u64.wrap a))) := ev_conv Try.underlying2 Try.underlying96
theorem fxCv2x108 {k : IntKind} {a : Int} : asV (pr Try.prog (convert 2 108 (.int k a))) = some (.v (.int .i64 (IntKind.i64.wrap a))) := ev_conv Try.underlying2 Try.underlying108
theorem fxCv2x115 {k : IntKind} {a : Int} : asV (pr Try.prog (convert 2 115 (.int k a))) = some (.v (.int .u32 (IntKind.u32.wrap a))) := ev_conv Try.underlying2 Try.underlying115
theorem fxCv2x117 {k : IntKind} {a : Int} : asV (pr Try.prog (convert 2 117 (.int k a))) = some (.v (.int .u64 (IntKind.u64.wrap a))) := ev_conv Try.underlying2 Try.underlying117
theorem fxCv2x124 {k : IntKind} {a : Int} : asV (pr Try.prog (convert 2 124 (.int k a))) = some (.v (.int .u64 (IntKind.u64.wrap a))) := ev_conv Try.underlying2 Try.underlying124
theorem fxCv3x2 {k : IntKind} {a : Int} : asV (pr Try.prog (convert 3 2 (.int k a))) = some (.v (.int .i64 (IntKind.i64.wrap a))) := ev_conv Try.underlying3 Try.underlying2
theorem fxCv3x3 {k : IntKind} {a : Int} : asV (pr Try.prog (convert 3 3 (.int k a))) = some (.v (.int .i64 (IntKind.i64.wrap a))) := ev_conv Try.underlying3 Try.underlying3
theorem fxCv3x5 {k : IntKind} {a : Int} : asV (pr Try.prog (convert 3 5 (.int k a))) = some (.v (.int .u8 (IntKind.u8.wrap a))) := ev_conv Try.underlying3 Try.underlying5
theorem fxCv3x12 {k : IntKind} {a : Int} : asV (pr Try.prog (convert 3 12 (.int k a))) = some (.v (.int .u64 (IntKind.u64.wrap a))) := ev_conv Try.underlying3 Try.underlying12
theorem fxCv3x21 {k : IntKind} {a : Int} : asV (pr Try.prog (convert 3 21 (.int k a))) = some (.v (.int .i32 (IntKind.i32.wrap a))) := ev_conv Try.underlying3 Try.underlying21
theorem fxCv3x26 {k : IntKind} {a : Int} : asV (pr Try.prog (convert 3 26 (.int k a))) = some (.v (.int .i64 (IntKind.i64.wrap a))) := ev_conv Try.underlying3 Try.underlying26
theorem fxCv3x96 {k : IntKind} {a : Int} : asV (pr Try.prog (convert 3 96 (.int k a))) = some (.v (.int .u64 (IntKind.u64.wrap a))) := ev_conv Try.underlying3 Try.underlying96
theorem fxCv3x108 {k : IntKind} {a : Int} : asV (pr Try.prog (convert 3 108 (.int k a))) = some (.v (.int .i64 (IntKind.i64.wrap a))) := ev_conv Try.underlying3 Try.underlying108
theorem fxCv3x115 {k : IntKind} {a : Int} : asV (pr Try.prog (convert 3 115 (.int k a))) = some (.v (.int .u32 (IntKind.u32.wrap a))) := ev_conv Try.underlying3 Try.underlying115
theorem fxCv3x117 {k : IntKind} {a : Int} : asV (pr Try.prog (convert 3 117 (.int k a))) = some (.v (.int .u64 (IntKind.u64.wrap a))) := ev_conv Try.underlying3 Try.underlying117
theorem fxCv3x124 {k : IntKind} {a : Int} : asV (pr Try.prog (convert 3 124 (.int k a))) = some (.v (.int .u64 (IntKind.u64.wrap a))) := ev_conv Try.underlying3 Try.underlying124
theorem fxCv5x2 {k : IntKind} {a : Int} : asV (pr Try.prog (convert 5 2 (.int k a))) = some (.v (.int .i64 (IntKind.i64.wrap a))) := ev_conv Try.underlying5 Try.underlying2
theorem fxCv5x3 {k : IntKind} {a : Int} : asV (pr Try.prog (convert 5 3 (.int k a))) = some (.v (.int .i64 (IntKind.i64.wrap a))) := ev_conv Try.underlying5 Try.underlying3
theorem fxCv5x5 {k : IntKind} {a : Int} : asV (pr Try.prog (convert 5 5 (.int k a))) = some (.v (.int .u8 (IntKind.u8.wrap a))) := ev_conv Try.underlying5 Try.underlying5
theorem fxCv5x12 {k : IntKind} {a : Int} : asV (pr Try.prog (convert 5 12 (.int k a))) = some (.v (.int .u64 (IntKind.u64.wrap a))) := ev_conv Try.underlying5 Try.underlying12
theorem fxCv5x21 {k : IntKind} {a : Int} : asV (pr Try.prog (convert 5 21 (.int k a))) = some (.v (.int .i32 (IntKind.i32.wrap a))) := ev_conv Try.underlying5 Try.underlying21
theorem fxCv5x26 {k : IntKind} {a : Int} : asV (pr Try.prog (convert 5 26 (.int k a))) = some (.v (.int .i64 (IntKind.i64.wrap a))) := ev_conv Try.underlying5 Try.underlying26
theorem fxCv5x96 {k : IntKind} {a : Int} : asV (pr Try.prog (convert 5 96 (.int k a))) = some (.v (.int .u64 (IntKind.u64.wrap a))) := ev_conv Try.underlying5 Try.underlying96
theorem fxCv5x108 {k : IntKind} {a : Int} : asV (pr Try.prog (convert 5 108 (.int k a))) = some (.v (.int .i64 (IntKind.i64.wrap a))) := ev_conv Try.underlying5 Try.underlying108
theorem fxCv5x115 {k : IntKind} {a : Int} : asV (pr Try.prog (convert 5 115 (.int k a))) = some (.v (.int .u32 (IntKind.u32.wrap a))) := ev_conv Try.underlying5 Try.underlying115
theorem fxCv5x117 {k : IntKind} {a : Int} : asV (pr Try.prog (convert 5 117 (.int k a))) = some (.v (.int .u64 (IntKind.u64.wrap a))) := ev_conv Try.underlying5 Try.underlying117
theorem fxCv5x124 {k : IntKind} {a : Int} : asV (pr Try.prog (convert 5 124 (.int k a))) = some (.v (.int .u64 (IntKind.u64.wrap a))) := ev_conv Try.underlying5 Try.underlying124
theorem fxCv12x2 {k : IntKind} {a : Int} : asV (pr Try.prog (convert 12 2 (.int k a))) = some (.v (.int .i64 (IntKind.i64.wrap a))) := ev_conv Try.underlying12 Try.underlying2
theorem fxCv12x3 {k : IntKind} {a : Int} : asV (pr Try.prog (convert 12 3 (.int k a))) = some (.v (.int .i64 (IntKind.i64.wrap a))) := ev_conv Try.underlying12 Try.underlying3
theorem fxCv12x5 {k : IntKind} {a : Int} : asV (pr Try.prog (convert 12 5 (.int k a))) = some (.v (.int .u8 (IntKind.u8.wrap a))) := ev_conv Try.underlying12 Try.underlying5
theorem fxCv12x12 {k : IntKind} {a : Int} : asV (pr Try.prog (convert 12 12 (.int k a))) = some (.v (.int .u64 (IntKind.u64.wrap a))) := ev_conv Try.underlying12 Try.underlying12
theorem fxCv12x21 {k : IntKind} {a : Int} : asV (pr Try.prog (convert 12 21 (.int k a))) = some (.v (.int .i32 (IntKind.i32.wrap a))) := ev_conv Try.underlying12 Try.underlying21
theorem fxCv12x26 {k : IntKind} {a : Int} : asV (pr Try.prog (convert 12 26 (.int k a))) = some (.v (.int .i64 (IntKind.i64.wrap a))) := ev_conv Try.underlying12 Try.underlying26
theorem fxCv12x96 {k : IntKind} {a : Int} : asV (pr Try.prog (convert 12 96 (.int k a))) = some (.v (.int .u64 (IntKind.u64.wrap a))) := ev_conv Try.underlying12 Try.underlying96
theorem fxCv12x108 {k : IntKind} {a : Int} : asV (pr Try.prog (convert 12 108 (.int k a))) = some (.v (.int .i64 (IntKind.i64.wrap a))) := ev_conv Try.underlying12 Try.underlying108
theorem fxCv12x115 {k : IntKind} {a : Int} : asV (pr Try.prog (convert 12 115 (.int k a))) = some (.v (.int .u32 (IntKind.u32.wrap a))) := ev_conv Try.underlying12 Try.underlying115
theorem fxCv12x117 {k : IntKind} {a : Int} : asV (pr Try.prog (convert 12 117 (.int k a))) = some (.v (.int .u64 (IntKind.u64.wrap a))) := ev_conv Try.underlying12 Try.underlying117
theorem fxCv12x124 {k : IntKind} {a : Int} : asV (pr Try.prog (convert 12 124 (.int k a))) = some (.v (.int .u64 (IntKind.u64.wrap a))) := ev_conv Try.underlying12 Try.underlying124
theorem fxCv21x2 {k : IntKind} {a : Int} : asV (pr Try.prog (convert 21 2 (.int k a))) = some (.v (.int .i64 (IntKind.i64.wrap a))) := ev_conv Try.underlying21 Try.underlying2
theorem fxCv21x3 {k : IntKind} {a : Int} : asV (pr Try.prog (convert 21 3 (.int k a))) = some (.v (.int .i64 (IntKind.i64.wrap a))) := ev_conv Try.underlying21 Try.underlying3
theorem fxCv21x5 {k : IntKind} {a : Int} : asV (pr Try.prog (convert 21 5 (.int k a))) = some (.v (.int .u8 (IntKind.u8.wrap a))) := ev_conv Try.underlying21 Try.underlying5
theorem fxCv21x12 {k : IntKind} {a : Int} : asV (pr Try.prog (convert 21 12 (.int k a))) = some (.v (.int .u64 (IntKind.u64.wrap a))) := ev_conv Try.underlying21 Try.underlying12
theorem fxCv21x21 {k : IntKind} {a : Int} : asV (pr Try.prog (convert 21 21 (.int k a))) = some (.v (.int .i32 (IntKind.i32.wrap a))) := ev_conv Try.underlying21 Try.underlying21
theorem fxCv21x26 {k : IntKind} {a : Int} : asV (pr Try.prog (convert 21 26 (.int k a))) = some (.v (.int .i64 (IntKind.i64.wrap a))) := ev_conv Try.underlying21 Try.underlying26
theorem fxCv21x96 {k : IntKind} {a : Int} : asV (pr Try.prog (convert 21 96 (.int k a))) = some (.v (.int .u64 (IntKind.u64.wrap a))) := ev_conv Try.underlying21 Try.underlying96
theorem fxCv21x108 {k : IntKind} {a : Int} : asV (pr Try.prog (convert 21 108 (.int k a))) = some (.v (.int .i64 (IntKind.i64.wrap a))) := ev_conv Try.underlying21 Try.underlying108
theorem fxCv21x115 {k : IntKind} {a : Int} : asV (pr Try.prog (convert 21 115 (.int k a))) = some (.v (.int .u32 (IntKind.u32.wrap a))) := ev_conv Try.underlying21 Try.underlying115
theorem fxCv21x117 {k : IntKind} {a : Int} : asV (pr Try.prog (convert 21 117 (.int k a))) = some (.v (.int .u64 (IntKind.u64.wrap a))) := ev_conv Try.underlying21 Try.underlying117
theorem fxCv21x124 {k : IntKind} {a : Int} : asV (pr Try.prog (convert 21 124 (.int k a))) = some (.v (.int .u64 (IntKind.u64.wrap a))) := ev_conv Try.underlying21 Try.underlying124
theorem fxCv26x2 {k : IntKind} {a : Int} : asV (pr Try.prog (convert 26 2 (.int k a))) = some (.v (.int .i64 (IntKind.i64.wrap a))) := ev_conv Try.underlying26 Try.underlying2
theorem fxCv26x3 {k : IntKind} {a : Int} : asV (pr Try.prog (convert 26 3 (.int k a))) = some (.v (.int .i64 (IntKind.i64.wrap a))) := ev_conv Try.underlying26 Try.underlying3
theorem fxCv26x5 {k : IntKind} {a : Int} : asV (pr Try.prog (convert 26 5 (.int k a))) = some (.v (.int .u8 (IntKind.u8.wrap a))) := ev_conv Try.underlying26 Try.underlying5
theorem fxCv26x12 {k : IntKind} {a : Int} : asV (pr Try.prog (convert 26 12 (.int k a))) = some (.v (.int .u64 (IntKind.u64.wrap a))) := ev_conv Try.underlying26 Try.underlying12
theorem fxCv26x21 {k : IntKind} {a : Int} : asV (pr Try.prog (convert 26 21 (.int k a))) = some (.v (.int .i32 (IntKind.i32.wrap a))) := ev_conv Try.underlying26 Try.underlying21
theorem fxCv26x26 {k : IntKind} {a : Int} : asV (pr Try.prog (convert 26 26 (.int k a))) = some (.v (.int .i64 (IntKind.i64.wrap a))) := ev_conv Try.underlying26 Try.underlying26
theorem fxCv26x96 {k : IntKind} {a : Int} : asV (pr Try.prog (convert 26 96 (.int k a))) = some (.v (.int .u64 (IntKind.u64.wrap a))) := ev_conv Try.underlying26 Try.underlying96
theorem fxCv26x108 {k : IntKind} {a : Int} : asV (pr Try.prog (convert 26 108 (.int k a))) = some (.v (.int .i64 (IntKind.i64.wrap a))) := ev_conv Try.underlying26 Try.underlying108
theorem fxCv26x115 {k : IntKind} {a : Int} : asV (pr Try.prog (convert 26 115 (.int k a))) = some (.v (.int .u32 (IntKind.u32.wrap a))) := ev_conv Try.underlying26 Try.underlying115
theorem fxCv26x117 {k : IntKind} {a : Int} : asV (pr Try.prog (convert 26 117 (.int k a))) = some (.v (.int .u64 (IntKind.u64.wrap a))) := ev_conv Try.underlying26 Try.underlying117
theorem fxCv26x124 {k : IntKind} {a : Int} : asV (pr Try.prog (convert 26 124 (.int k a))) = some (.v (.int .u64 (IntKind.u64.wrap a))) := ev_conv Try.underlying26 Try.underlying124
theorem fxCv96x2 {k : IntKind} {a : Int} : asV (pr Try.prog (convert 96 2 (.int k a))) = some (.v (.int .i64 (IntKind.i64.wrap a))) := ev_conv Try.underlying96 Try.underlying2
theorem fxCv96x3 {k : IntKind} {a : Int} : asV (pr Try.prog (convert 96 3 (.int k a))) = some (.v (.int .i64 (IntKind.i64.wrap a))) := ev_conv Try.underlying96 Try.underlying3
theorem fxCv96x5 {k : IntKind} {a : Int} : asV (pr Try.prog (convert 96 5 (.int k a))) = some (.v (.int .u8 (IntKind.u8.wrap a))) := ev_conv Try.underlying96 Try.underlying5
theorem fxCv96x12 {k : IntKind} {a : Int} : asV (pr Try.prog (convert 96 12 (.int k a))) = some (.v (.int .u64 (IntKind.u64.wrap a))) := ev_conv Try.underlying96 Try.underlying12
theorem fxCv96x21 {k : IntKind} {a : Int} : asV (pr Try.prog (convert 96 21 (.int k a))) = some (.v (.int .i32 (IntKind.i32.wrap a))) := ev_conv Try.underlying96 Try.underlying21
theorem fxCv96x26 {k : IntKind} {a : Int} : asV (pr Try.prog (convert 96 26 (.int k a))) = some (.v (.int .i64 (IntKind.i64.wrap a))) := ev_conv Try.underlying96 Try.underlying26
theorem fxCv96x96 {k : IntKind} {a : Int} : asV (pr Try.prog (convert 96 96 (.int k a))) = some (.v (.int .u64 (IntKind.u64.wrap a))) := ev_conv Try.underlying96 Try.underlying96
theorem fxCv96x108 {k : IntKind} {a : Int} : asV (pr Try.prog (convert 96 108 (.int k a))) = some (.v (.int .i64 (IntKind.i64.wrap a))) := ev_conv Try.underlying96 Try.underlying108
theorem fxCv96x115 {k : IntKind} {a : Int} : asV (pr Try.prog (convert 96 115 (.int k a))) = some (.v (.int .u32 (IntKind.u32.wrap a))) := ev_conv Try.underlying96 Try.underlying115
theorem fxCv96x117 {k : IntKind} {a : Int} : asV (pr Try.prog (convert 96 117 (.int k a))) = some (.v (.int .u64 (IntKind.u64.wrap a))) := ev_conv Try.underlying96 Try.underlying117
theorem fxCv96x124 {k : IntKind} {a : Int} : asV (pr Try.prog (convert 96 124 (.int k a))) = some (.v (.int .u64 (IntKind.u64.wrap a))) := ev_conv Try.underlying96 Try.underlying124
theorem fxCv108x2 {k : IntKind} {a : Int} : asV (pr Try.prog (convert 108 2 (.int k a))) = some (.v (.int .i64 (IntKind.i64.wrap a))) := ev_conv Try.underlying108 Try.underlying2
theorem fxCv108x3 {k : IntKind} {a : Int} : asV (pr Try.prog (convert 108 3 (.int k a))) = some (.v (.int .i64 (IntKind.i64.wrap a))) := ev_conv Try.underlying108 Try.underlying3
theorem fxCv108x5 {k : IntKind} {a : Int} : asV (pr Try.prog (convert 108 5 (.int k a))) = some (.v (.int .u8 (IntKind.u8.wrap a))) := ev_conv Try.underlying108 Try.underlying5
theorem fxCv108x12 {k : IntKind} {a : Int} : asV (pr Try.prog (convert 108 12 (.int k a))) = some (.v (.int .u64 (IntKind.u64.wrap a))) := ev_conv Try.underlying108 Try.underlying12
theorem fxCv108x21 {k : IntKind} {a : Int} : asV (pr Try.prog (convert 108 21 (.int k a))) = some (.v (.int .i32 (IntKind.i32.wrap a))) := ev_conv Try.underlying108 Try.underlying21
theorem fxCv108x26 {k : IntKind} {a : Int} : asV (pr Try.prog (convert 108 26 (.int k a))) = some (.v (.int .i64 (IntKind.i64.wrap a))) := ev_conv Try.underlying108 Try.underlying26
theorem fxCv108x96 {k : IntKind} {a : Int} : asV (pr Try.prog (convert 108 96 (.int k a))) = some (.v (.int .u64 (IntKind.u64.wrap a))) := ev_conv Try.underlying108 Try.underlying96
theorem fxCv108x108 {k : IntKind} {a : Int} : asV (pr Try.prog (convert 108 108 (.int k a))) = some (.v (.int .i64 (IntKind.i64.wrap a))) := ev_conv Try.underlying108 Try.underlying108
theorem fxCv108x115 {k : IntKind} {a : Int} : asV (pr Try.prog (convert 108 115 (.int k a))) = some (.v (.int .u32 (IntKind.u32.wrap a))) := ev_conv Try.underlying108 Try.underlying115
theorem fxCv108x117 {k : IntKind} {a : Int} : asV (pr Try.prog (convert 108 117 (.int k a))) = some (.v (.int .u64 (IntKind.u64.wrap a))) := ev_conv Try.underlying108 Try.underlying117
theorem fxCv108x124 {k : IntKind} {a : Int} : asV (pr Try.prog (convert 108 124 (.int k a))) = some (.v (.int .u64 (IntKind.u64.wrap a))) := ev_conv Try.underlying108 Try.underlying124
theorem fxCv115x2 {k : IntKind} {a : Int} : asV (pr Try.prog (convert 115 2 (.int k a))) = some (.v (.int .i64 (IntKind.i64.wrap a))) := ev_conv Try.underlying115 Try.underlying2
theorem fxCv115x3 {k : IntKind} {a : Int} : asV (pr Try.prog (convert 115 3 (.int k a))) = some (.v (.int .i64 (IntKind.i64.wrap a))) := ev_conv Try.underlying115 Try.underlying3
theorem fxCv115x5 {k : IntKind} {a : Int} : asV (pr Try.prog (convert 115 5 (.int k a))) = some (.v (.int .u8 (IntKind.u8.wrap a))) := ev_conv Try.underlying115 Try.underlying5
theorem fxCv115x12 {k : IntKind} {a : Int} : asV (pr Try.prog (convert 115 12 (.int k a))) = some (.v (.int .u64 (IntKind.u64.wrap a))) := ev_conv Try.underlying115 Try.underlying12
theorem fxCv115x21 {k : IntKind} {a : Int} : asV (pr Try.prog (convert 115 21 (.int k a))) = some (.v (.int .i32 (IntKind.i32.wrap a))) := ev_conv Try.underlying115 Try.underlying21
theorem fxCv115x26 {k : IntKind} {a : Int} : asV (pr Try.prog (convert 115 26 (.int k a))) = some (.v (.int .i64 (IntKind.i64.wrap a))) := ev_conv Try.underlying115 Try.underlying26
theorem fxCv115x96 {k : IntKind} {a : Int} : asV (pr Try.prog (convert 115 96 (.int k a))) = some (.v (.int .u64 (IntKind.u64.wrap a))) := ev_conv Try.underlying115 Try.underlying96
theorem fxCv115x108 {k : IntKind} {a : Int} : asV (pr Try.prog (convert 115 108 (.int k a))) = some (.v (.int .i64 (IntKind.i64.wrap a))) := ev_conv Try.underlying115 Try.underlying108
theorem fxCv115x115 {k : IntKind} {a : Int} : asV (pr Try.prog (convert 115 115 (.int k a))) = some (.v (.int .u32 (IntKind.u32.wrap a))) := ev_conv Try.underlying115 Try.underlying115
theorem fxCv115x117 {k : IntKind} {a : Int} : asV (pr Try.prog (convert 115 117 (.int k a))) = some (.v (.int .u64 (IntKind.u64.wrap a))) := ev_conv Try.underlying115 Try.underlying117
theorem fxCv115x124 {k : IntKind} {a : Int} : asV (pr Try.prog (convert 115 124 (.int k a))) = some (.v (.int .u64 (IntKind.u64.wrap a))) := ev_conv Try.underlying115 Try.underlying124
theorem fxCv117x2 {k : IntKind} {a : Int} : asV (pr Try.prog (convert 117 2 (.int k a))) = some (.v (.int .i64 (IntKind.i64.wrap a))) := ev_conv Try.underlying117 Try.underlying2
theorem fxCv117x3 {k : IntKind} {a : Int} : asV (pr Try.prog (convert 117 3 (.int k a))) = some (.v (.int .i64 (IntKind.i64.wrap a))) := ev_conv Try.underlying117 Try.underlying3
theorem fxCv117x5 {k : IntKind} {a : Int} : asV (pr Try.prog (convert 117 5 (.int k a))) = some (.v (.int .u8 (IntKind.u8.wrap a))) := ev_conv Try.underlying117 Try.underlying5
theorem fxCv117x12 {k : IntKind} {a : Int} : asV (pr Try.prog (convert 117 12 (.int k a))) = some (.v (.int .u64 (IntKind.u64.wrap a))) := ev_conv Try.underlying117 Try.underlying12
theorem fxCv117x21 {k : IntKind} {a : Int} : asV (pr Try.prog (convert 117 21 (.int k a))) = some (.v (.int .i32 (IntKind.i32.wrap a))) := ev_conv Try.underlying117 Try.underlying21
theorem fxCv117x26 {k : IntKind} {a : Int} : asV (pr Try.prog (convert 117 26 (.int k a))) = some (.v (.int .i64 (IntKind.i64.wrap a))) := ev_conv Try.underlying117 Try.underlying26
theorem fxCv117x96 {k : IntKind} {a : Int} : asV (pr Try.prog (convert 117 96 (.int k a))) = some (.v (.int .u64 (IntKind.u64.wrap a))) := ev_conv Try.underlying117 Try.underlying96
theorem fxCv117x108 {k : IntKind} {a : Int} : asV (pr Try.prog (convert 117 108 (.int k a))) = some (.v (.int .i64 (IntKind.i64.wrap a))) := ev_conv Try.underlying117 Try.underlying108
theorem fxCv117x115 {k : IntKind} {a : Int} : asV (pr Try.prog (convert 117 115 (.int k a))) = some (.v (.int .u32 (IntKind.u32.wrap a))) := ev_conv Try.underlying117 Try.underlying115
theorem fxCv117x117 {k : IntKind} {a : Int} : asV (pr Try.prog (convert 117 117 (.int k a))) = some (.v (.int .u64 (IntKind.u64.wrap a))) := ev_conv Try.underlying117 Try.underlying117
theorem fxCv117x124 {k : IntKind} {a : Int} : asV (pr Try.prog (convert 117 124 (.int k a))) = some (.v (.int .u64 (IntKind.u64.wrap a))) := ev_conv Try.underlying117 Try.underlying124
theorem fxCv124x2 {k : IntKind} {a : Int} : asV (pr Try.prog (convert 124 2 (.int k a))) = some (.v (.int .i64 (IntKind.i64.wrap a))) := ev_conv Try.underlying124 Try.underlying2
theorem fxCv124x3 {k : IntKind} {a : Int} : asV (pr Try.prog (convert 124 3 (.int k a))) = some (.v (.int .i64 (IntKind.i64.wrap a))) := ev_conv Try.underlying124 Try.underlying3
theorem fxCv124x5 {k : IntKind} {a : Int} : asV (pr Try.prog (convert 124 5 (.int k a))) = some (.v (.int .u8 (IntKind.u8.wrap a))) := ev_conv Try.underlying124 Try.underlying5
theorem fxCv124x12 {k : IntKind} {a : Int} : asV (pr Try.prog (convert 124 12 (.int k a))) = some (.v (.int .u64 (IntKind.u64.wrap a))) := ev_conv Try.underlying124 Try.underlying12
theorem fxCv124x21 {k : IntKind} {a : Int} : asV (pr Try.prog (convert 124 21 (.int k a))) = some (.v (.int .i32 (IntKind.i32.wrap a))) := ev_conv Try.underlying124 Try.underlying21
theorem fxCv124x26 {k : IntKind} {a : Int} : asV (pr Try.prog (convert 124 26 (.int k a))) = some (.v (.int .i64 (IntKind.i64.wrap a))) := ev_conv Try.underlying124 Try.underlying26
theorem fxCv124x96 {k : IntKind} {a : Int} : asV (pr Try.prog (convert 124 96 (.int k a))) = some (.v (.int .u64 (IntKind.u64.wrap a))) := ev_conv Try.underlying124 Try.underlying96
theorem fxCv124x108 {k : IntKind} {a : Int} : asV (pr Try.prog (convert 124 108 (.int k a))) = some (.v (.int .i64 (IntKind.i64.wrap a))) := ev_conv Try.underlying124 Try.underlying108
theorem fxCv124x115 {k : IntKind} {a : Int} : asV (pr Try.prog (convert 124 115 (.int k a))) = some (.v (.int .u32 (IntKind.u32.wrap a))) := ev_conv Try.underlying124 Try.underlying115
theorem fxCv124x117 {k : IntKind} {a : Int} : asV (pr Try.prog (convert 124 117 (.int k a))) = some (.v (.int .u64 (IntKind.u64.wrap a))) := ev_conv Try.underlying124 Try.underlying117
theorem fxCv124x124 {k : IntKind} {a : Int} : asV (pr Try.prog (convert 124 124 (.int k a))) = some (.v (.int .u64 (IntKind.u64.wrap a))) := ev_conv Try.underlying124 Try.underlying124
theorem fxEb4 {x y : Operand} {p q : Bool} : aBin Try.prog .eql 4 x y (.v (.bool p)) (.v (.bool q)) = some (.v (.bool (p == q))) := ev_eqlB Try.underlying4
theorem fxNb4 {x y : Operand} {p q : Bool} : aBin Try.prog .neq 4 x y (.v (.bool p)) (.v (.bool q)) = some (.v (.bool (!(p == q)))) := ev_neqB Try.underlying4
theorem fxLt9 {s : ByteArray} : asV (pr Try.prog (Builtin.len_ #[9] 0 #[.string s])) = some (.v (.int .i64 s.size)) := ev_lenT Try.underlying9
theorem fxLn22 : asV (pr Try.prog (Builtin.len_ #[22] 0 #[.slice none 0 0])) = some (.v (.int .i64 0)) := ev_lenN Try.underlying22
theorem fxNe22 {x y : Operand} {o : Bool} {sz : Nat} {rows : List Row} : aBin Try.prog .eql 22 x y (.fsl o sz rows) (.v (.slice none 0 0)) = some (if rows.isEmpty then .anyb else .v (.bool false)) := ev_nilE fxSl22
theorem fxNn22 {x y : Operand} {o : Bool} {sz : Nat} {rows : List Row} : aBin Try.prog .neq 22 x y (.fsl o sz rows) (.v (.slice none 0 0)) = some (if rows.isEmpty then .anyb else .v (.bool true)) := ev_nilN fxSl22
theorem fxOe22 {x y : Operand} {a b c d e : Nat} : aBin Try.prog .eql 22 x y (.osl a b c d e) (.v (.slice none 0 0)) = some (.v (.bool false)) := ev_nilOe fxSl22
theorem fxOn22 {x y : Operand} {a b c d e : Nat} : aBin Try.prog .neq 22 x y (.osl a b c d e) (.v (.slice none 0 0)) = some (.v (.bool true)) := ev_nilOn fxSl22
theorem fxXe22 {x y : Operand} : aBin Try.prog .eql 22 x y .esl (.v (.slice none 0 0)) = some .anyb := ev_nilXe fxSl22
theorem fxXn22 {x y : Operand} : aBin Try.prog .neq 22 x y .esl (.v (.slice none 0 0)) = some .anyb := ev_nilXn fxSl22
theorem fxLn48 : asV (pr Try.prog (Builtin.len_ #[48] 0 #[.slice none 0 0])) = some (.v (.int .i64 0)) := ev_lenN Try.underlying48
theorem fxNe48 {x y : Operand} {o : Bool} {sz : Nat} {rows : List Row} : aBin Try.prog .eql 48 x y (.fsl o sz rows) (.v (.slice none 0 0)) = some (if rows.isEmpty then .anyb else .v (.bool false)) := ev_nilE fxSl48
theorem fxNn48 {x y : Operand} {o : Bool} {sz : Nat} {rows : List Row} : aBin Try.prog .neq 48 x y (.fsl o sz rows) (.v (.slice none 0 0)) = some (if rows.isEmpty then .anyb else .v (.bool true)) := ev_nilN fxSl48
theorem fxOe48 {x y : Operand} {a b c d e : Nat} : aBin Try.prog .eql 48 x y (.osl a b c d e) (.v (.slice none 0 0)) = some (.v (.bool false)) := ev_nilOe fxSl48
theorem fxOn48 {x y : Operand} {a b c d e : Nat} : aBin Try.prog .neq 48 x y (.osl a b c d e) (.v (.slice none 0 0)) = some (.v (.bool true)) := ev_nilOn fxSl48
theorem fxXe48 {x y : Operand} : aBin Try.prog .eql 48 x y .esl (.v (.slice none 0 0)) = some .anyb := ev_nilXe fxSl48
theorem fxXn48 {x y : Operand} : aBin Try.prog .neq 48 x y .esl (.v (.slice none 0 0)) = some .anyb := ev_nilXn fxSl48
theorem fxLn49 : asV (pr Try.prog (Builtin.len_ #[49] 0 #[.slice none 0 0])) = some (.v (.int .i64 0)) := ev_lenN Try.underlying49
theorem fxNe49 {x y : Operand} {o : Bool} {sz : Nat} {rows : List Row} : aBin Try.prog .eql 49 x y (.fsl o sz rows) (.v (.slice none 0 0)) = some (if rows.isEmpty then .anyb else .v (.bool false)) := ev_nilE fxSl49
theorem fxNn49 {x y : Operand} {o : Bool} {sz : Nat} {rows : List Row} : aBin Try.prog .neq 49 x y (.fsl o sz rows) (.v (.slice none 0 0)) = some (if rows.isEmpty then .anyb else .v (.bool true)) := ev_nilN fxSl49
theorem fxOe49 {x y : Operand} {a b c d e : Nat} : aBin Try.prog .eql 49 x y (.osl a b c d e) (.v (.slice none 0 0)) = some (.v (.bool false)) := ev_nilOe fxSl49
theorem fxOn49 {x y : Operand} {a b c d e : Nat} : aBin Try.prog .neq 49 x y (.osl a b c d e) (.v (.slice none 0 0)) = some (.v (.bool true)) := ev_nilOn fxSl49
theorem fxXe49 {x y : Operand} : aBin Try.prog .eql 49 x y .esl (.v (.slice none 0 0)) = some .anyb := ev_nilXe fxSl49
theorem fxXn49 {x y : Operand} : aBin Try.prog .neq 49 x y .esl (.v (.slice none 0 0)) = some .anyb := ev_nilXn fxSl49
theorem fxLn59 : asV (pr Try.prog (Builtin.len_ #[59] 0 #[.slice none 0 0])) = some (.v (.int .i64 0)) := ev_lenN Try.underlying59
theorem fxNe59 {x y : Operand} {o : Bool} {sz : Nat} {rows : List Row} : aBin Try.prog .eql 59 x y (.fsl o sz rows) (.v (.slice none 0 0)) = some (if rows.isEmpty then .anyb else .v (.bool false)) := ev_nilE fxSl59
theorem fxNn59 {x y : Operand} {o : Bool} {sz : Nat} {rows : List Row} : aBin Try.prog .neq 59 x y (.fsl o sz rows) (.v (.slice none 0 0)) = some (if rows.isEmpty then .anyb else .v (.bool true)) := ev_nilN fxSl59
theorem fxOe59 {x y : Operand} {a b c d e : Nat} : aBin Try.prog .eql 59 x y (.osl a b c d e) (.v (.slice none 0 0)) = some (.v (.bool false)) := ev_nilOe fxSl59
theorem fxOn59 {x y : Operand} {a b c d e : Nat} : aBin Try.prog .neq 59 x y (.osl a b c d e) (.v (.slice none 0 0)) = some (.v (.bool true)) := ev_nilOn fxSl59
theorem fxXe59 {x y : Operand} : aBin Try.prog .eql 59 x y .esl (.v (.slice none 0 0)) = some .anyb := ev_nilXe fxSl59
theorem fxXn59 {x y : Operand} : aBin Try.prog .neq 59 x y .esl (.v (.slice none 0 0)) = some .anyb := ev_nilXn fxSl59
theorem fxLn63 : asV (pr Try.prog (Builtin.len_ #[63] 0 #[.slice none 0 0])) = some (.v (.int .i64 0)) := ev_lenN Try.underlying63
theorem fxNe63 {x y : Operand} {o : Bool} {sz : Nat} {rows : List Row} : aBin Try.prog .eql 63 x y (.fsl o sz rows) (.v (.slice none 0 0)) = some (if rows.isEmpty then .anyb else .v (.bool false)) := ev_nilE fxSl63
theorem fxNn63 {x y : Operand} {o : Bool} {sz : Nat} {rows : List Row} : aBin Try.prog .neq 63 x y (.fsl o sz rows) (.v (.slice none 0 0)) = some (if rows.isEmpty then .anyb else .v (.bool true)) := ev_nilN fxSl63
theorem fxOe63 {x y : Operand} {a b c d e : Nat} : aBin Try.prog .eql 63 x y (.osl a b c d e) (.v (.slice none 0 0)) = some (.v (.bool false)) := ev_nilOe fxSl63
theorem fxOn63 {x y : Operand} {a b c d e : Nat} : aBin Try.prog .neq 63 x y (.osl a b c d e) (.v (.slice none 0 0)) = some (.v (.bool true)) := ev_nilOn fxSl63
theorem fxXe63 {x y : Operand} : aBin Try.prog .eql 63 x y .esl (.v (.slice none 0 0)) = some .anyb := ev_nilXe fxSl63
theorem fxXn63 {x y : Operand} : aBin Try.prog .neq 63 x y .esl (.v (.slice none 0 0)) = some .anyb := ev_nilXn fxSl63
theorem fxLn75 : asV (pr Try.prog (Builtin.len_ #[75] 0 #[.slice none 0 0])) = some (.v (.int .i64 0)) := ev_lenN Try.underlying75
theorem fxNe75 {x y : Operand} {o : Bool} {sz : Nat} {rows : List Row} : aBin Try.prog .eql 75 x y (.fsl o sz rows) (.v (.slice none 0 0)) = some (if rows.isEmpty then .anyb else .v (.bool false)) := ev_nilE fxSl75
theorem fxNn75 {x y : Operand} {o : Bool} {sz : Nat} {rows : List Row} : aBin Try.prog .neq 75 x y (.fsl o sz rows) (.v (.slice none 0 0)) = some (if rows.isEmpty then .anyb else .v (.bool true)) := ev_nilN fxSl75
theorem fxOe75 {x y : Operand} {a b c d e : Nat} : aBin Try.prog .eql 75 x y (.osl a b c d e) (.v (.slice none 0 0)) = some (.v (.bool false)) := ev_nilOe fxSl75
theorem fxOn75 {x y : Operand} {a b c d e : Nat} : aBin Try.prog .neq 75 x y (.osl a b c d e) (.v (.slice none 0 0)) = some (.v (.bool true)) := ev_nilOn fxSl75
theorem fxXe75 {x y : Operand} : aBin Try.prog .eql 75 x y .esl (.v (.slice none 0 0)) = some .anyb := ev_nilXe fxSl75
theorem fxXn75 {x y : Operand} : aBin Try.prog .neq 75 x y .esl (.v (.slice none 0 0)) = some .anyb := ev_nilXn fxSl75
theorem fxFn3 : Try.prog.funcs[(3 : Nat)]? = some Try.f3 := Try.func3
theorem fxFm3 : (Try.f3.name == "runtime.NumGoroutine") = false := by kernel_rfl
theorem fxFb3 : (Try.f3.name == "runtime.NumGoroutine" || Try.f3.body.isNone) = false := by kernel_rfl
theorem fxFi3 : Try.f3.body.isNone = false := by kernel_rfl
theorem fxFj3 : (Try.f3.body = none) = False := eq_false (fun h => by have := fxFi3; rw [h] at this; cases this)
theorem fxFn4 : Try.prog.funcs[(4 : Nat)]? = some Try.f4 := Try.func4
theorem fxFm4 : (Try.f4.name == "runtime.NumGoroutine") = false := by kernel_rfl
theorem fxFb4 : (Try.f4.name == "runtime.NumGoroutine" || Try.f4.body.isNone) = false := by kernel_rfl
theorem fxFi4 : Try.f4.body.isNone = false := by kernel_rfl
theorem fxFj4 : (Try.f4.body = none) = False := eq_false (fun h => by have := fxFi4; rw [h] at this; cases this)
theorem fxFn5 : Try.prog.funcs[(5 : Nat)]? = some Try.f5 := Try.func5
theorem fxFm5 : (Try.f5.name == "runtime.NumGoroutine") = false := by kernel_rfl
theorem fxFb5 : (Try.f5.name == "runtime.NumGoroutine" || Try.f5.body.isNone) = false := by kernel_rfl
theorem fxFi5 : Try.f5.body.isNone = false := by kernel_rfl
theorem fxFj5 : (Try.f5.body = none) = False := eq_false (fun h => by have := fxFi5; rw [h] at this; cases this)
theorem fxFn6 : Try.prog.funcs[(6 : Nat)]? = some Try.f6 := Try.func6
theorem fxFm6 : (Try.f6.name == "runtime.NumGoroutine") = false := by kernel_rfl
theorem fxFb6 : (Try.f6.name == "runtime.NumGoroutine" || Try.f6.body.isNone) = false := by kernel_rfl
theorem fxFi6 : Try.f6.body.isNone = false := by kernel_rfl
theorem fxFj6 : (Try.f6.body = none) = False := eq_false (fun h => by have := fxFi6; rw [h] at this; cases this)
theorem fxFn7 : Try.prog.funcs[(7 : Nat)]? = some Try.f7 := Try.func7
theorem fxFm7 : (Try.f7.name == "runtime.NumGoroutine") = false := by kernel_rfl
theorem fxFb7 : (Try.f7.name == "runtime.NumGoroutine" || Try.f7.body.isNone) = false := by kernel_rfl
theorem fxFi7 : Try.f7.body.isNone = false := by kernel_rfl
theorem fxFj7 : (Try.f7.body = none) = False := eq_false (fun h => by have := fxFi7; rw [h] at this; cases this)
theorem fxFn8 : Try.prog.funcs[(8 : Nat)]? = some Try.f8 := Try.func8
theorem fxFm8 : (Try.f8.name == "runtime.NumGoroutine") = false := by kernel_rfl
theorem fxFb8 : (Try.f8.name == "runtime.NumGoroutine" || Try.f8.body.isNone) = false := by kernel_rfl
theorem fxFi8 : Try.f8.body.isNone = false := by kernel_rfl
theorem fxFj8 : (Try.f8.body = none) = False := eq_false (fun h => by have := fxFi8; rw [h] at this; cases this)
theorem fxFn9 : Try.prog.funcs[(9 : Nat)]? = some Try.f9 := Try.func9
theorem fxFm9 : (Try.f9.name == "runtime.NumGoroutine") = false := by kernel_rfl
theorem fxFb9 : (Try.f9.name == "runtime.NumGoroutine" || Try.f9.body.isNone) = false := by kernel_rfl
theorem fxFi9 : Try.f9.body.isNone = false := by kernel_rfl
theorem fxFj9 : (Try.f9.body = none) = False := eq_false (fun h => by have := fxFi9; rw [h] at this; cases this)
theorem fxFn10 : Try.prog.funcs[(10 : Nat)]? = some Try.f10 := Try.func10
theorem fxFm10 : (Try.f10.name == "runtime.NumGoroutine") = false := by kernel_rfl
theorem fxFb10 : (Try.f10.name == "runtime.NumGoroutine" || Try.f10.body.isNone) = false := by kernel_rfl
theorem fxFi10 : Try.f10.body.isNone = false := by kernel_rfl
theorem fxFj10 : (Try.f10.body = none) = False := eq_false (fun h => by have := fxFi10; rw [h] at this; cases this)
theorem fxFn11 : Try.prog.funcs[(11 : Nat)]? = some Try.f11 := Try.func11
theorem fxFm11 : (Try.f11.name == "runtime.NumGoroutine") = false := by kernel_rfl
theorem fxFb11 : (Try.f11.name == "runtime.NumGoroutine" || Try.f11.body.isNone) = false := by kernel_rfl
theorem fxFi11 : Try.f11.body.isNone = false := by kernel_rfl
theorem fxFj11 : (Try.f11.body = none) = False := eq_false (fun h => by have := fxFi11; rw [h] at this; cases this)
theorem fxFn12 : Try.prog.funcs[(12 : Nat)]? = some Try.f12 := Try.func12
theorem fxFm12 : (Try.f12.name == "runtime.NumGoroutine") = false := by kernel_rfl
theorem fxFb12 : (Try.f12.name == "runtime.NumGoroutine" || Try.f12.body.isNone) = false := by kernel_rfl
theorem fxFi12 : Try.f12.body.isNone = false := by kernel_rfl
theorem fxFj12 : (Try.f12.body = none) = False := eq_false (fun h => by have := fxFi12; rw [h] at this; cases this)
theorem fxFn13 : Try.prog.funcs[(13 : Nat)]? = some Try.f13 := Try.func13
theorem fxFm13 : (Try.f13.name == "runtime.NumGoroutine") = false := by kernel_rfl
theorem fxFb13 : (Try.f13.name == "runtime.NumGoroutine" || Try.f13.body.isNone) = false := by kernel_rfl
theorem fxFi13 : Try.f13.body.isNone = false := by kernel_rfl
theorem fxFj13 : (Try.f13.body = none) = False := eq_false (fun h => by have := fxFi13; rw [h] at this; cases this)
theorem fxFn14 : Try.prog.funcs[(14 : Nat)]? = some Try.f14 := Try.func14
theorem fxFm14 : (Try.f14.name == "runtime.NumGoroutine") = false := by kernel_rfl
theorem fxFb14 : (Try.f14.name == "runtime.NumGoroutine" || Try.f14.body.isNone) = false := by kernel_rfl
theorem fxFi14 : Try.f14.body.isNone = false := by kernel_rfl
theorem fxFj14 : (Try.f14.body = none) = False := eq_false (fun h => by have := fxFi14; rw [h] at this; cases this)
theorem fxFn15 : Try.prog.funcs[(15 : Nat)]? = some Try.f15 := Try.func15
theorem fxFm15 : (Try.f15.name == "runtime.NumGoroutine") = false := by kernel_rfl
theorem fxFb15 : (Try.f15.name == "runtime.NumGoroutine" || Try.f15.body.isNone) = false := by kernel_rfl
theorem fxFi15 : Try.f15.body.isNone = false := by kernel_rfl
theorem fxFj15 : (Try.f15.body = none) = False := eq_false (fun h => by have := fxFi15; rw [h] at this; cases this)
theorem fxFn16 : Try.prog.funcs[(16 : Nat)]? = some Try.f16 := Try.func16
theorem fxFm16 : (Try.f16.name == "runtime.NumGoroutine") = false := by kernel_rfl
theorem fxFb16 : (Try.f16.name == "runtime.NumGoroutine" || Try.f16.body.isNone) = false := by kernel_rfl
theorem fxFi16 : Try.f16.body.isNone = false := by kernel_rfl
theorem fxFj16 : (Try.f16.body = none) = False := eq_false (fun h => by have := fxFi16; rw [h] at this; cases this)
theorem fxFn17 : Try.prog.funcs[(17 : Nat)]? = some Try.f17 := Try.func17
theorem fxFm17 : (Try.f17.name == "runtime.NumGoroutine") = false := by kernel_rfl
theorem fxFb17 : (Try.f17.name == "runtime.NumGoroutine" || Try.f17.body.isNone) = false := by kernel_rfl
theorem fxFi17 : Try.f17.body.isNone = false := by kernel_rfl
theorem fxFj17 : (Try.f17.body = none) = False := eq_false (fun h => by have := fxFi17; rw [h] at this; cases this)
theorem fxFn18 : Try.prog.funcs[(18 : Nat)]? = some Try.f18 := Try.func18
theorem fxFm18 : (Try.f18.name == "runtime.NumGoroutine") = false := by kernel_rfl
theorem fxFb18 : (Try.f18.name == "runtime.NumGoroutine" || Try.f18.body.isNone) = false := by kernel_rfl
theorem fxFi18 : Try.f18.body.isNone = false := by kernel_rfl
theorem fxFj18 : (Try.f18.body = none) = False := eq_false (fun h => by have := fxFi18; rw [h] at this; cases this)
theorem fxFn19 : Try.prog.funcs[(19 : Nat)]? = some Try.f19 := Try.func19
theorem fxFm19 : (Try.f19.name == "runtime.NumGoroutine") = false := by kernel_rfl
theorem fxFb19 : (Try.f19.name == "runtime.NumGoroutine" || Try.f19.body.isNone) = false := by kernel_rfl
theorem fxFi19 : Try.f19.body.isNone = false := by kernel_rfl
theorem fxFj19 : (Try.f19.body = none) = False := eq_false (fun h => by have := fxFi19; rw [h] at this; cases this)
theorem fxFn20 : Try.prog.funcs[(20 : Nat)]? = some Try.f20 := Try.func20
theorem fxFm20 : (Try.f20.name == "runtime.NumGoroutine") = false := by kernel_rfl
theorem fxFb20 : (Try.f20.name == "runtime.NumGoroutine" || Try.f20.body.isNone) = false := by kernel_rfl
theorem fxFi20 : Try.f20.body.isNone = false := by kernel_rfl
theorem fxFj20 : (Try.f20.body = none) = False := eq_false (fun h => by have := fxFi20; rw [h] at this; cases this)
theorem fxFn21 : Try.prog.funcs[(21 : Nat)]? = some Try.f21 := Try.func21
theorem fxFm21 : (Try.f21.name == "runtime.NumGoroutine") = false := by kernel_rfl
theorem fxFb21 : (Try.f21.name == "runtime.NumGoroutine" || Try.f21.body.isNone) = false := by kernel_rfl
theorem fxFi21 : Try.f21.body.isNone = false := by kernel_rfl
theorem fxFj21 : (Try.f21.body = none) = False := eq_false (fun h => by have := fxFi21; rw [h] at this; cases this)
theorem fxFn22 : Try.prog.funcs[(22 : Nat)]? = some Try.f22 := Try.func22
theorem fxFm22 : (Try.f22.name == "runtime.NumGoroutine") = false := by kernel_rfl
theorem fxFb22 : (Try.f22.name == "runtime.NumGoroutine" || Try.f22.body.isNone) = false := by kernel_rfl
theorem fxFi22 : Try.f22.body.isNone = false := by kernel_rfl
theorem fxFj22 : (Try.f22.body = none) = False := eq_false (fun h => by have := fxFi22; rw [h] at this; cases this)
theorem fxFn23 : Try.prog.funcs[(23 : Nat)]? = some Try.f23 := Try.func23
theorem fxFm23 : (Try.f23.name == "runtime.NumGoroutine") = false := by kernel_rfl
theorem fxFb23 : (Try.f23.name == "runtime.NumGoroutine" || Try.f23.body.isNone) = false := by kernel_rfl
theorem fxFi23 : Try.f23.body.isNone = false := by kernel_rfl
theorem fxFj23 : (Try.f23.body = none) = False := eq_false (fun h => by have := fxFi23; rw [h] at this; cases this)
theorem fxFn24 : Try.prog.funcs[(24 : Nat)]? = some Try.f24 := Try.func24
theorem fxFm24 : (Try.f24.name == "runtime.NumGoroutine") = false := by kernel_rfl
theorem fxFb24 : (Try.f24.name == "runtime.NumGoroutine" || Try.f24.body.isNone) = false := by kernel_rfl
theorem fxFi24 : Try.f24.body.isNone = false := by kernel_rfl
theorem fxFj24 : (Try.f24.body = none) = False := eq_false (fun h => by have := fxFi24; rw [h] at this; cases this)
theorem fxFn25 : Try.prog.funcs[(25 : Nat)]? = some Try.f25 := Try.func25
theorem fxFm25 : (Try.f25.name == "runtime.NumGoroutine") = false := by kernel_rfl
theorem fxFb25 : (Try.f25.name == "runtime.NumGoroutine" || Try.f25.body.isNone) = false := by kernel_rfl
theorem fxFi25 : Try.f25.body.isNone = false := by kernel_rfl
theorem fxFj25 : (Try.f25.body = none) = False := eq_false (fun h => by have := fxFi25; rw [h] at this; cases this)
theorem fxFn26 : Try.prog.funcs[(26 : Nat)]? = some Try.f26 := Try.func26
theorem fxFm26 : (Try.f26.name == "runtime.NumGoroutine") = false := by kernel_rfl
theorem fxFb26 : (Try.f26.name == "runtime.NumGoroutine" || Try.f26.body.isNone) = false := by kernel_rfl
theorem fxFi26 : Try.f26.body.isNone = false := by kernel_rfl
theorem fxFj26 : (Try.f26.body = none) = False := eq_false (fun h => by have := fxFi26; rw [h] at this; cases this)
theorem fxFn27 : Try.prog.funcs[(27 : Nat)]? = some Try.f27 := Try.func27
theorem fxFm27 : (Try.f27.name == "runtime.NumGoroutine") = false := by kernel_rfl
theorem fxFb27 : (Try.f27.name == "runtime.NumGoroutine" || Try.f27.body.isNone) = false := by kernel_rfl
theorem fxFi27 : Try.f27.body.isNone = false := by kernel_rfl
theorem fxFj27 : (Try.f27.body = none) = False := eq_false (fun h => by have := fxFi27; rw [h] at this; cases this)
theorem fxFn28 : Try.prog.funcs[(28 : Nat)]? = some Try.f28 := Try.func28
theorem fxFm28 : (Try.f28.name == "runtime.NumGoroutine") = false := by kernel_rfl
theorem fxFb28 : (Try.f28.name == "runtime.NumGoroutine" || Try.f28.body.isNone) = false := by kernel_rfl
theorem fxFi28 : Try.f28.body.isNone = false := by kernel_rfl
theorem fxFj28 : (Try.f28.body = none) = False := eq_false (fun h => by have := fxFi28; rw [h] at this; cases this)
theorem fxFn29 : Try.prog.funcs[(29 : Nat)]? = some Try.f29 := Try.func29
theorem fxFm29 : (Try.f29.name == "runtime.NumGoroutine") = false := by kernel_rfl
theorem fxFb29 : (Try.f29.name == "runtime.NumGoroutine" || Try.f29.body.isNone) = false := by kernel_rfl
theorem fxFi29 : Try.f29.body.isNone = false := by kernel_rfl
theorem fxFj29 : (Try.f29.body = none) = False := eq_false (fun h => by have := fxFi29; rw [h] at this; cases this)
theorem fxFn30 : Try.prog.funcs[(30 : Nat)]? = some Try.f30 := Try.func30
theorem fxFm30 : (Try.f30.name == "runtime.NumGoroutine") = false := by kernel_rfl
theorem fxFb30 : (Try.f30.name == "runtime.NumGoroutine" || Try.f30.body.isNone) = false := by kernel_rfl
theorem fxFi30 : Try.f30.body.isNone = false := by kernel_rfl
theorem fxFj30 : (Try.f30.body = none) = False := eq_false (fun h => by have := fxFi30; rw [h] at this; cases this)
theorem fxFn31 : Try.prog.funcs[(31 : Nat)]? = some Try.f31 := Try.func31
theorem fxFm31 : (Try.f31.name == "runtime.NumGoroutine") = false := by kernel_rfl
theorem fxFb31 : (Try.f31.name == "runtime.NumGoroutine" || Try.f31.body.isNone) = false := by kernel_rfl
theorem fxFi31 : Try.f31.body.isNone = false := by kernel_rfl
theorem fxFj31 : (Try.f31.body = none) = False := eq_false (fun h => by have := fxFi31; rw [h] at this; cases this)
theorem fxFn32 : Try.prog.funcs[(32 : Nat)]? = some Try.f32 := Try.func32
theorem fxFm32 : (Try.f32.name == "runtime.NumGoroutine") = false := by kernel_rfl
theorem fxFb32 : (Try.f32.name == "runtime.NumGoroutine" || Try.f32.body.isNone) = false := by kernel_rfl
theorem fxFi32 : Try.f32.body.isNone = false := by kernel_rfl
theorem fxFj32 : (Try.f32.body = none) = False := eq_false (fun h => by have := fxFi32; rw [h] at this; cases this)
theorem fxFn33 : Try.prog.funcs[(33 : Nat)]? = some Try.f33 := Try.func33
theorem fxFm33 : (Try.f33.name == "runtime.NumGoroutine") = false := by kernel_rfl
theorem fxFb33 : (Try.f33.name == "runtime.NumGoroutine" || Try.f33.body.isNone) = false := by kernel_rfl
theorem fxFi33 : Try.f33.body.isNone = false := by kernel_rfl
theorem fxFj33 : (Try.f33.body = none) = False := eq_false (fun h => by have := fxFi33; rw [h] at this; cases this)
theorem fxFn34 : Try.prog.funcs[(34 : Nat)]? = some Try.f34 := Try.func34
theorem fxFm34 : (Try.f34.name == "runtime.NumGoroutine") = false := by kernel_rfl
theorem fxFb34 : (Try.f34.name == "runtime.NumGoroutine" || Try.f34.body.isNone) = false := by kernel_rfl
theorem fxFi34 : Try.f34.body.isNone = false := by kernel_rfl
theorem fxFj34 : (Try.f34.body = none) = False := eq_false (fun h => by have := fxFi34; rw [h] at this; cases this)
theorem fxFn35 : Try.prog.funcs[(35 : Nat)]? = some Try.f35 := Try.func35
theorem fxFm35 : (Try.f35.name == "runtime.NumGoroutine") = false := by kernel_rfl
theorem fxFb35 : (Try.f35.name == "runtime.NumGoroutine" || Try.f35.body.isNone) = false := by kernel_rfl
theorem fxFi35 : Try.f35.body.isNone = false := by kernel_rfl
theorem fxFj35 : (Try.f35.body = none) = False := eq_false (fun h => by have := fxFi35; rw [h] at this; cases this)
theorem fxFn36 : Try.prog.funcs[(36 : Nat)]? = some Try.f36 := Try.func36
theorem fxFm36 : (Try.f36.name == "runtime.NumGoroutine") = false := by kernel_rfl
theorem fxFb36 : (Try.f36.name == "runtime.NumGoroutine" || Try.f36.body.isNone) = false := by kernel_rfl
theorem fxFi36 : Try.f36.body.isNone = false := by kernel_rfl
theorem fxFj36 : (Try.f36.body = none) = False := eq_false (fun h => by have := fxFi36; rw [h] at this; cases this)
theorem fxFn37 : Try.prog.funcs[(37 : Nat)]? = some Try.f37 := Try.func37
theorem fxFm37 : (Try.f37.name == "runtime.NumGoroutine") = false := by kernel_rfl
theorem fxFb37 : (Try.f37.name == "runtime.NumGoroutine" || Try.f37.body.isNone) = false := by kernel_rfl
theorem fxFi37 : Try.f37.body.isNone = false := by kernel_rfl
theorem fxFj37 : (Try.f37.body = none) = False := eq_false (fun h => by have := fxFi37; rw [h] at this; cases this)
theorem fxFn38 : Try.prog.funcs[(38 : Nat)]? = some Try.f38 := Try.func38
theorem fxFm38 : (Try.f38.name == "runtime.NumGoroutine") = false := by kernel_rfl
theorem fxFb38 : (Try.f38.name == "runtime.NumGoroutine" || Try.f38.body.isNone) = false := by kernel_rfl
theorem fxFi38 : Try.f38.body.isNone = false := by kernel_rfl
theorem fxFj38 : (Try.f38.body = none) = False := eq_false (fun h => by have := fxFi38; rw [h] at this; cases this)
theorem fxFn39 : Try.prog.funcs[(39 : Nat)]? = some Try.f39 := Try.func39
theorem fxFm39 : (Try.f39.name == "runtime.NumGoroutine") = false := by kernel_rfl
theorem fxFb39 : (Try.f39.name == "runtime.NumGoroutine" || Try.f39.body.isNone) = false := by kernel_rfl
theorem fxFi39 : Try.f39.body.isNone = false := by kernel_rfl
theorem fxFj39 : (Try.f39.body = none) = False := eq_false (fun h => by have := fxFi39; rw [h] at this; cases this)
theorem fxFn40 : Try.prog.funcs[(40 : Nat)]? = some Try.f40 := Try.func40
theorem fxFm40 : (Try.f40.name == "runtime.NumGoroutine") = false := by kernel_rfl
theorem fxFb40 : (Try.f40.name == "runtime.NumGoroutine" || Try.f40.body.isNone) = false := by kernel_rfl
theorem fxFi40 : Try.f40.body.isNone = false := by kernel_rfl
theorem fxFj40 : (Try.f40.body = none) = False := eq_false (fun h => by have := fxFi40; rw [h] at this; cases this)
theorem fxFn41 : Try.prog.funcs[(41 : Nat)]? = some Try.f41 := Try.func41
theorem fxFm41 : (Try.f41.name == "runtime.NumGoroutine") = false := by kernel_rfl
theorem fxFb41 : (Try.f41.name == "runtime.NumGoroutine" || Try.f41.body.isNone) = false := by kernel_rfl
theorem fxFi41 : Try.f41.body.isNone = false := by kernel_rfl
theorem fxFj41 : (Try.f41.body = none) = False := eq_false (fun h => by have := fxFi41; rw [h] at this; cases this)
theorem fxFn42 : Try.prog.funcs[(42 : Nat)]? = some Try.f42 := Try.func42
theorem fxFm42 : (Try.f42.name == "runtime.NumGoroutine") = false := by kernel_rfl
theorem fxFb42 : (Try.f42.name == "runtime.NumGoroutine" || Try.f42.body.isNone) = false := by kernel_rfl
theorem fxFi42 : Try.f42.body.isNone = false := by kernel_rfl
theorem fxFj42 : (Try.f42.body = none) = False := eq_false (fun h => by have := fxFi42; rw [h] at this; cases this)
theorem fxFn43 : Try.prog.funcs[(43 : Nat)]? = some Try.f43 := Try.func43
theorem fxFm43 : (Try.f43.name == "runtime.NumGoroutine") = false := by kernel_rfl
theorem fxFb43 : (Try.f43.name == "runtime.NumGoroutine" || Try.f43.body.isNone) = false := by kernel_rfl
theorem fxFi43 : Try.f43.body.isNone = false := by kernel_rfl
theorem fxFj43 : (Try.f43.body = none) = False := eq_false (fun h => by have := fxFi43; rw [h] at this; cases this)
theorem fxFn44 : Try.prog.funcs[(44 : Nat)]? = some Try.f44 := Try.func44
theorem fxFm44 : (Try.f44.name == "runtime.NumGoroutine") = false := by kernel_rfl
theorem fxFb44 : (Try.f44.name == "runtime.NumGoroutine" || Try.f44.body.isNone) = false := by kernel_rfl
theorem fxFi44 : Try.f44.body.isNone = false := by kernel_rfl
theorem fxFj44 : (Try.f44.body = none) = False := eq_false (fun h => by have := fxFi44; rw [h] at this; cases this)
theorem fxFn45 : Try.prog.funcs[(45 : Nat)]? = some Try.f45 := Try.func45
theorem fxFm45 : (Try.f45.name == "runtime.NumGoroutine") = false := by kernel_rfl
theorem fxFb45 : (Try.f45.name == "runtime.NumGoroutine" || Try.f45.body.isNone) = false := by kernel_rfl
theorem fxFi45 : Try.f45.body.isNone = false := by kernel_rfl
theorem fxFj45 : (Try.f45.body = none) = False := eq_false (fun h => by have := fxFi45; rw [h] at this; cases this)
theorem fxFn46 : Try.prog.funcs[(46 : Nat)]? = some Try.f46 := Try.func46
theorem fxFm46 : (Try.f46.name == "runtime.NumGoroutine") = false := by kernel_rfl
theorem fxFb46 : (Try.f46.name == "runtime.NumGoroutine" || Try.f46.body.isNone) = false := by kernel_rfl
theorem fxFi46 : Try.f46.body.isNone = false := by kernel_rfl
theorem fxFj46 : (Try.f46.body = none) = False := eq_false (fun h => by have := fxFi46; rw [h] at this; cases this)
theorem fxFn47 : Try.prog.funcs[(47 : Nat)]? = some Try.f47 := Try.func47
theorem fxFm47 : (Try.f47.name == "runtime.NumGoroutine") = false := by kernel_rfl
theorem fxFb47 : (Try.f47.name == "runtime.NumGoroutine" || Try.f47.body.isNone) = false := by kernel_rfl
theorem fxFi47 : Try.f47.body.isNone = false := by kernel_rfl
theorem fxFj47 : (Try.f47.body = none) = False := eq_false (fun h => by have := fxFi47; rw [h] at this; cases this)
theorem fxFn48 : Try.prog.funcs[(48 : Nat)]? = some Try.f48 := Try.func48
theorem fxFm48 : (Try.f48.name == "runtime.NumGoroutine") = false := by kernel_rfl
theorem fxFb48 : (Try.f48.name == "runtime.NumGoroutine" || Try.f48.body.isNone) = false := by kernel_rfl
theorem fxFi48 : Try.f48.body.isNone = false := by kernel_rfl
theorem fxFj48 : (Try.f48.body = none) = False := eq_false (fun h => by have := fxFi48; rw [h] at this; cases this)
theorem fxFn49 : Try.prog.funcs[(49 : Nat)]? = some Try.f49 := Try.func49
theorem fxFm49 : (Try.f49.name == "runtime.NumGoroutine") = false := by kernel_rfl
theorem fxFb49 : (Try.f49.name == "runtime.NumGoroutine" || Try.f49.body.isNone) = false := by kernel_rfl
theorem fxFi49 : Try.f49.body.isNone = false := by kernel_rfl
theorem fxFj49 : (Try.f49.body = none) = False := eq_false (fun h => by have := fxFi49; rw [h] at this; cases this)
theorem fxFn50 : Try.prog.funcs[(50 : Nat)]? = some Try.f50 := Try.func50
theorem fxFm50 : (Try.f50.name == "runtime.NumGoroutine") = false := by kernel_rfl
theorem fxFb50 : (Try.f50.name == "runtime.NumGoroutine" || Try.f50.body.isNone) = false := by kernel_rfl
theorem fxFi50 : Try.f50.body.isNone = false := by kernel_rfl
theorem fxFj50 : (Try.f50.body = none) = False := eq_false (fun h => by have := fxFi50; rw [h] at this; cases this)
theorem fxFn51 : Try.prog.funcs[(51 : Nat)]? = some Try.f51 := Try.func51
theorem fxFm51 : (Try.f51.name == "runtime.NumGoroutine") = false := by kernel_rfl
theorem fxFb51 : (Try.f51.name == "runtime.NumGoroutine" || Try.f51.body.isNone) = false := by kernel_rfl
theorem fxFi51 : Try.f51.body.isNone = false := by kernel_rfl
theorem fxFj51 : (Try.f51.body = none) = False := eq_false (fun h => by have := fxFi51; rw [h] at this; cases this)
theorem fxFn52 : Try.prog.funcs[(52 : Nat)]? = some Try.f52 := Try.func52
theorem fxFm52 : (Try.f52.name == "runtime.NumGoroutine") = false := by kernel_rfl
theorem fxFb52 : (Try.f52.name == "runtime.NumGoroutine" || Try.f52.body.isNone) = false := by kernel_rfl
theorem fxFi52 : Try.f52.body.isNone = false := by kernel_rfl
theorem fxFj52 : (Try.f52.body = none) = False := eq_false (fun h => by have := fxFi52; rw [h] at this; cases this)
theorem fxFn53 : Try.prog.funcs[(53 : Nat)]? = some Try.f53 := Try.func53
theorem fxFm53 : (Try.f53.name == "runtime.NumGoroutine") = false := by kernel_rfl
theorem fxFb53 : (Try.f53.name == "runtime.NumGoroutine" || Try.f53.body.isNone) = false := by kernel_rfl
theorem fxFi53 : Try.f53.body.isNone = false := by kernel_rfl
theorem fxFj53 : (Try.f53.body = none) = False := eq_false (fun h => by have := fxFi53; rw [h] at this; cases this)
theorem fxFn54 : Try.prog.funcs[(54 : Nat)]? = some Try.f54 := Try.func54
theorem fxFm54 : (Try.f54.name == "runtime.NumGoroutine") = false := by kernel_rfl
theorem fxFb54 : (Try.f54.name == "runtime.NumGoroutine" || Try.f54.body.isNone) = false := by kernel_rfl
theorem fxFi54 : Try.f54.body.isNone = false := by kernel_rfl
theorem fxFj54 : (Try.f54.body = none) = False := eq_false (fun h => by have := fxFi54; rw [h] at this; cases this)
theorem fxFn55 : Try.prog.funcs[(55 : Nat)]? = some Try.f55 := Try.func55
theorem fxFm55 : (Try.f55.name == "runtime.NumGoroutine") = false := by kernel_rfl
theorem fxFb55 : (Try.f55.name == "runtime.NumGoroutine" || Try.f55.body.isNone) = false := by kernel_rfl
theorem fxFi55 : Try.f55.body.isNone = false := by kernel_rfl
theorem fxFj55 : (Try.f55.body = none) = False := eq_false (fun h => by have := fxFi55; rw [h] at this; cases this)
theorem fxFn56 : Try.prog.funcs[(56 : Nat)]? = some Try.f56 := Try.func56
theorem fxFm56 : (Try.f56.name == "runtime.NumGoroutine") = false := by kernel_rfl
theorem fxFb56 : (Try.f56.name == "runtime.NumGoroutine" || Try.f56.body.isNone) = false := by kernel_rfl
theorem fxFi56 : Try.f56.body.isNone = false := by kernel_rfl
theorem fxFj56 : (Try.f56.body = none) = False := eq_false (fun h => by have := fxFi56; rw [h] at this; cases this)
theorem fxFn57 : Try.prog.funcs[(57 : Nat)]? = some Try.f57 := Try.func57
theorem fxFm57 : (Try.f57.name == "runtime.NumGoroutine") = false := by kernel_rfl
theorem fxFb57 : (Try.f57.name == "runtime.NumGoroutine" || Try.f57.body.isNone) = false := by kernel_rfl
theorem fxFi57 : Try.f57.body.isNone = false := by kernel_rfl
theorem fxFj57 : (Try.f57.body = none) = False := eq_false (fun h => by have := fxFi57; rw [h] at this; cases this)
theorem fxFn58 : Try.prog.funcs[(58 : Nat)]? = some Try.f58 := Try.func58
theorem fxFm58 : (Try.f58.name == "runtime.NumGoroutine") = false := by kernel_rfl
theorem fxFb58 : (Try.f58.name == "runtime.NumGoroutine" || Try.f58.body.isNone) = false := by kernel_rfl
theorem fxFi58 : Try.f58.body.isNone = false := by kernel_rfl
theorem fxFj58 : (Try.f58.body = none) = False := eq_false (fun h => by have := fxFi58; rw [h] at this; cases this)
theorem fxFn59 : Try.prog.funcs[(59 : Nat)]? = some Try.f59 := Try.func59
theorem fxFm59 : (Try.f59.name == "runtime.NumGoroutine") = false := by kernel_rfl
theorem fxFb59 : (Try.f59.name == "runtime.NumGoroutine" || Try.f59.body.isNone) = false := by kernel_rfl
theorem fxFi59 : Try.f59.body.isNone = false := by kernel_rfl
theorem fxFj59 : (Try.f59.body = none) = False := eq_false (fun h => by have := fxFi59; rw [h] at this; cases this)
theorem fxFn60 : Try.prog.funcs[(60 : Nat)]? = some Try.f60 := Try.func60
theorem fxFm60 : (Try.f60.name == "runtime.NumGoroutine") = false := by kernel_rfl
theorem fxFn61 : Try.prog.funcs[(61 : Nat)]? = some Try.f61 := Try.func61
theorem fxFm61 : (Try.f61.name == "runtime.NumGoroutine") = false := by kernel_rfl
theorem fxFb61 : (Try.f61.name == "runtime.NumGoroutine" || Try.f61.body.isNone) = false := by kernel_rfl
theorem fxFi61 : Try.f61.body.isNone = false := by kernel_rfl
theorem fxFj61 : (Try.f61.body = none) = False := eq_false (fun h => by have := fxFi61; rw [h] at this; cases this)
theorem fxFn62 : Try.prog.funcs[(62 : Nat)]? = some Try.f62 := Try.func62
theorem fxFm62 : (Try.f62.name == "runtime.NumGoroutine") = false := by kernel_rfl
theorem fxFb62 : (Try.f62.name == "runtime.NumGoroutine" || Try.f62.body.isNone) = false := by kernel_rfl
theorem fxFi62 : Try.f62.body.isNone = false := by kernel_rfl
theorem fxFj62 : (Try.f62.body = none) = False := eq_false (fun h => by have := fxFi62; rw [h] at this; cases this)
theorem fxFn63 : Try.prog.funcs[(63 : Nat)]? = some Try.f63 := Try.func63
theorem fxFm63 : (Try.f63.name == "runtime.NumGoroutine") = false := by kernel_rfl
theorem fxFb63 : (Try.f63.name == "runtime.NumGoroutine" || Try.f63.body.isNone) = false := by kernel_rfl
theorem fxFi63 : Try.f63.body.isNone = false := by kernel_rfl
theorem fxFj63 : (Try.f63.body = none) = False := eq_false (fun h => by have := fxFi63; rw [h] at this; cases this)
theorem fxFn64 : Try.prog.funcs[(64 : Nat)]? = some Try.f64 := Try.func64
theorem fxFm64 : (Try.f64.name == "runtime.NumGoroutine") = false := by kernel_rfl
theorem fxFb64 : (Try.f64.name == "runtime.NumGoroutine" || Try.f64.body.isNone) = false := by kernel_rfl
theorem fxFi64 : Try.f64.body.isNone = false := by kernel_rfl
theorem fxFj64 : (Try.f64.body = none) = False := eq_false (fun h => by have := fxFi64; rw [h] at this; cases this)
theorem fxFn65 : Try.prog.funcs[(65 : Nat)]? = some Try.f65 := Try.func65
theorem fxFm65 : (Try.f65.name == "runtime.NumGoroutine") = false := by kernel_rfl
theorem fxFb65 : (Try.f65.name == "runtime.NumGoroutine" || Try.f65.body.isNone) = false := by kernel_rfl
theorem fxFi65 : Try.f65.body.isNone = false := by kernel_rfl
theorem fxFj65 : (Try.f65.body = none) = False := eq_false (fun h => by have := fxFi65; rw [h] at this; cases this)
theorem fxFn66 : Try.prog.funcs[(66 : Nat)]? = some Try.f66 := Try.func66
theorem fxFm66 : (Try.f66.name == "runtime.NumGoroutine") = false := by kernel_rfl
theorem fxFb66 : (Try.f66.name == "runtime.NumGoroutine" || Try.f66.body.isNone) = false := by kernel_rfl
theorem fxFi66 : Try.f66.body.isNone = false := by kernel_rfl
theorem fxFj66 : (Try.f66.body = none) = False := eq_false (fun h => by have := fxFi66; rw [h] at this; cases this)
theorem fxFn67 : Try.prog.funcs[(67 : Nat)]? = some Try.f67 := Try.func67
theorem fxFm67 : (Try.f67.name == "runtime.NumGoroutine") = false := by kernel_rfl
theorem fxFb67 : (Try.f67.name == "runtime.NumGoroutine" || Try.f67.body.isNone) = false := by kernel_rfl
theorem fxFi67 : Try.f67.body.isNone = false := by kernel_rfl
theorem fxFj67 : (Try.f67.body = none) = False := eq_false (fun h => by have := fxFi67; rw [h] at this; cases this)
theorem fxFn68 : Try.prog.funcs[(68 : Nat)]? = some Try.f68 := Try.func68
theorem fxFm68 : (Try.f68.name == "runtime.NumGoroutine") = false := by kernel_rfl
theorem fxFb68 : (Try.f68.name == "runtime.NumGoroutine" || Try.f68.body.isNone) = false := by kernel_rfl
theorem fxFi68 : Try.f68.body.isNone = false := by kernel_rfl
theorem fxFj68 : (Try.f68.body = none) = False := eq_false (fun h => by have := fxFi68; rw [h] at this; cases this)
theorem fxFn69 : Try.prog.funcs[(69 : Nat)]? = some Try.f69 := Try.func69
theorem fxFm69 : (Try.f69.name == "runtime.NumGoroutine") = false := by kernel_rfl
theorem fxFb69 : (Try.f69.name == "runtime.NumGoroutine" || Try.f69.body.isNone) = false := by kernel_rfl
theorem fxFi69 : Try.f69.body.isNone = false := by kernel_rfl
theorem fxFj69 : (Try.f69.body = none) = False := eq_false (fun h => by have := fxFi69; rw [h] at this; cases this)
theorem fxFn70 : Try.prog.funcs[(70 : Nat)]? = some Try.f70 := Try.func70
theorem fxFm70 : (Try.f70.name == "runtime.NumGoroutine") = false := by kernel_rfl
theorem fxFb70 : (Try.f70.name == "runtime.NumGoroutine" || Try.f70.body.isNone) = false := by kernel_rfl
theorem fxFi70 : Try.f70.body.isNone = false := by kernel_rfl
theorem fxFj70 : (Try.f70.body = none) = False := eq_false (fun h => by have := fxFi70; rw [h] at this; cases this)
theorem fxFn71 : Try.prog.funcs[(71 : Nat)]? = some Try.f71 := Try.func71
theorem fxFm71 : (Try.f71.name == "runtime.NumGoroutine") = false := by kernel_rfl
theorem fxFb71 : (Try.f71.name == "runtime.NumGoroutine" || Try.f71.body.isNone) = false := by kernel_rfl
theorem fxFi71 : Try.f71.body.isNone = false := by kernel_rfl
theorem fxFj71 : (Try.f71.body = none) = False := eq_false (fun h => by have := fxFi71; rw [h] at this; cases this)
theorem fxFn72 : Try.prog.funcs[(72 : Nat)]? = some Try.f72 := Try.func72
theorem fxFm72 : (Try.f72.name == "runtime.NumGoroutine") = false := by kernel_rfl
theorem fxFb72 : (Try.f72.name == "runtime.NumGoroutine" || Try.f72.body.isNone) = false := by kernel_rfl
theorem fxFi72 : Try.f72.body.isNone = false := by kernel_rfl
theorem fxFj72 : (Try.f72.body = none) = False := eq_false (fun h => by have := fxFi72; rw [h] at this; cases this)
theorem fxFn73 : Try.prog.funcs[(73 : Nat)]? = some Try.f73 := Try.func73
theorem fxFm73 : (Try.f73.name == "runtime.NumGoroutine") = false := by kernel_rfl
theorem fxFb73 : (Try.f73.name == "runtime.NumGoroutine" || Try.f73.body.isNone) = false := by kernel_rfl
theorem fxFi73 : Try.f73.body.isNone = false := by kernel_rfl
theorem fxFj73 : (Try.f73.body = none) = False := eq_false (fun h => by have := fxFi73; rw [h] at this; cases this)
theorem fxFn74 : Try.prog.funcs[(74 : Nat)]? = some Try.f74 := Try.func74
theorem fxFm74 : (Try.f74.name == "runtime.NumGoroutine") = false := by kernel_rfl
theorem fxFb74 : (Try.f74.name == "runtime.NumGoroutine" || Try.f74.body.isNone) = false := by kernel_rfl
theorem fxFi74 : Try.f74.body.isNone = false := by kernel_rfl
theorem fxFj74 : (Try.f74.body = none) = False := eq_false (fun h => by have := fxFi74; rw [h] at this; cases this)
theorem fxFn75 : Try.prog.funcs[(75 : Nat)]? = some Try.f75 := Try.func75
theorem fxFm75 : (Try.f75.name == "runtime.NumGoroutine") = false := by kernel_rfl
theorem fxFb75 : (Try.f75.name == "runtime.NumGoroutine" || Try.f75.body.isNone) = false := by kernel_rfl
theorem fxFi75 : Try.f75.body.isNone = false := by kernel_rfl
theorem fxFj75 : (Try.f75.body = none) = False := eq_false (fun h => by have := fxFi75; rw [h] at this; cases this)
theorem fxFn76 : Try.prog.funcs[(76 : Nat)]? = some Try.f76 := Try.func76
theorem fxFm76 : (Try.f76.name == "runtime.NumGoroutine") = false := by kernel_rfl
theorem fxFb76 : (Try.f76.name == "runtime.NumGoroutine" || Try.f76.body.isNone) = false := by kernel_rfl
theorem fxFi76 : Try.f76.body.isNone = false := by kernel_rfl
theorem fxFj76 : (Try.f76.body = none) = False := eq_false (fun h => by have := fxFi76; rw [h] at this; cases this)
theorem fxFn77 : Try.prog.funcs[(77 : Nat)]? = some Try.f77 := Try.func77
theorem fxFm77 : (Try.f77.name == "runtime.NumGoroutine") = false := by kernel_rfl
theorem fxFb77 : (Try.f77.name == "runtime.NumGoroutine" || Try.f77.body.isNone) = false := by kernel_rfl
theorem fxFi77 : Try.f77.body.isNone = false := by kernel_rfl
theorem fxFj77 : (Try.f77.body = none) = False := eq_false (fun h => by have := fxFi77; rw [h] at this; cases this)
theorem fxFn78 : Try.prog.funcs[(78 : Nat)]? = some Try.f78 := Try.func78
theorem fxFm78 : (Try.f78.name == "runtime.NumGoroutine") = false := by kernel_rfl
theorem fxFb78 : (Try.f78.name == "runtime.NumGoroutine" || Try.f78.body.isNone) = false := by kernel_rfl
theorem fxFi78 : Try.f78.body.isNone = false := by kernel_rfl
theorem fxFj78 : (Try.f78.body = none) = False := eq_false (fun h => by have := fxFi78; rw [h] at this; cases this)
theorem fxFn79 : Try.prog.funcs[(79 : Nat)]? = some Try.f79 := Try.func79
theorem fxFm79 : (Try.f79.name == "runtime.NumGoroutine") = false := by kernel_rfl
theorem fxFb79 : (Try.f79.name == "runtime.NumGoroutine" || Try.f79.body.isNone) = false := by kernel_rfl
theorem fxFi79 : Try.f79.body.isNone = false := by kernel_rfl
theorem fxFj79 : (Try.f79.body = none) = False := eq_false (fun h => by have := fxFi79; rw [h] at this; cases this)
theorem fxFn80 : Try.prog.funcs[(80 : Nat)]? = some Try.f80 := Try.func80
theorem fxFm80 : (Try.f80.name == "runtime.NumGoroutine") = false := by kernel_rfl
theorem fxFb80 : (Try.f80.name == "runtime.NumGoroutine" || Try.f80.body.isNone) = false := by kernel_rfl
theorem fxFi80 : Try.f80.body.isNone = false := by kernel_rfl
theorem fxFj80 : (Try.f80.body = none) = False := eq_false (fun h => by have := fxFi80; rw [h] at this; cases this)
theorem fxFn81 : Try.prog.funcs[(81 : Nat)]? = some Try.f81 := Try.func81
theorem fxFm81 : (Try.f81.name == "runtime.NumGoroutine") = false := by kernel_rfl
theorem fxFb81 : (Try.f81.name == "runtime.NumGoroutine" || Try.f81.body.isNone) = false := by kernel_rfl
theorem fxFi81 : Try.f81.body.isNone = false := by kernel_rfl
theorem fxFj81 : (Try.f81.body = none) = False := eq_false (fun h => by have := fxFi81; rw [h] at this; cases this)
theorem fxFn82 : Try.prog.funcs[(82 : Nat)]? = some Try.f82 := Try.func82
theorem fxFm82 : (Try.f82.name == "runtime.NumGoroutine") = false := by kernel_rfl
theorem fxFb82 : (Try.f82.name == "runtime.NumGoroutine" || Try.f82.body.isNone) = false := by kernel_rfl
theorem fxFi82 : Try.f82.body.isNone = false := by kernel_rfl
theorem fxFj82 : (Try.f82.body = none) = False := eq_false (fun h => by have := fxFi82; rw [h] at this; cases this)
theorem fxFn83 : Try.prog.funcs[(83 : Nat)]? = some Try.f83 := Try.func83
theorem fxFm83 : (Try.f83.name == "runtime.NumGoroutine") = false := by kernel_rfl
theorem fxFb83 : (Try.f83.name == "runtime.NumGoroutine" || Try.f83.body.isNone) = false := by kernel_rfl
theorem fxFi83 : Try.f83.body.isNone = false := by kernel_rfl
theorem fxFj83 : (Try.f83.body = none) = False := eq_false (fun h => by have := fxFi83; rw [h] at this; cases this)
theorem fxFn84 : Try.prog.funcs[(84 : Nat)]? = some Try.f84 := Try.func84
theorem fxFm84 : (Try.f84.name == "runtime.NumGoroutine") = false := by kernel_rfl
theorem fxFb84 : (Try.f84.name == "runtime.NumGoroutine" || Try.f84.body.isNone) = false := by kernel_rfl
theorem fxFi84 : Try.f84.body.isNone = false := by kernel_rfl
theorem fxFj84 : (Try.f84.body = none) = False := eq_false (fun h => by have := fxFi84; rw [h] at this; cases this)
theorem fxFn85 : Try.prog.funcs[(85 : Nat)]? = some Try.f85 := Try.func85
theorem fxFm85 : (Try.f85.name == "runtime.NumGoroutine") = false := by kernel_rfl
theorem fxFb85 : (Try.f85.name == "runtime.NumGoroutine" || Try.f85.body.isNone) = false := by kernel_rfl
theorem fxFi85 : Try.f85.body.isNone = false := by kernel_rfl
theorem fxFj85 : (Try.f85.body = none) = False := eq_false (fun h => by have := fxFi85; rw [h] at this; cases this)
theorem fxFn86 : Try.prog.funcs[(86 : Nat)]? = some Try.f86 := Try.func86
theorem fxFm86 : (Try.f86.name == "runtime.NumGoroutine") = false := by kernel_rfl
theorem fxFb86 : (Try.f86.name == "runtime.NumGoroutine" || Try.f86.body.isNone) = false := by kernel_rfl
theorem fxFi86 : Try.f86.body.isNone = false := by kernel_rfl
theorem fxFj86 : (Try.f86.body = none) = False := eq_false (fun h => by have := fxFi86; rw [h] at this; cases this)
theorem fxFn87 : Try.prog.funcs[(87 : Nat)]? = some Try.f87 := Try.func87
theorem fxFm87 : (Try.f87.name == "runtime.NumGoroutine") = false := by kernel_rfl
theorem fxFb87 : (Try.f87.name == "runtime.NumGoroutine" || Try.f87.body.isNone) = false := by kernel_rfl
theorem fxFi87 : Try.f87.body.isNone = false := by kernel_rfl
theorem fxFj87 : (Try.f87.body = none) = False := eq_false (fun h => by have := fxFi87; rw [h] at this; cases this)
theorem fxFn88 : Try.prog.funcs[(88 : Nat)]? = some Try.f88 := Try.func88
theorem fxFm88 : (Try.f88.name == "runtime.NumGoroutine") = false := by kernel_rfl
theorem fxFb88 : (Try.f88.name == "runtime.NumGoroutine" || Try.f88.body.isNone) = false := by kernel_rfl
theorem fxFi88 : Try.f88.body.isNone = false := by kernel_rfl
theorem fxFj88 : (Try.f88.body = none) = False := eq_false (fun h => by have := fxFi88; rw [h] at this; cases this)
theorem fxFn89 : Try.prog.funcs[(89 : Nat)]? = some Try.f89 := Try.func89
theorem fxFm89 : (Try.f89.name == "runtime.NumGoroutine") = false := by kernel_rfl
theorem fxFb89 : (Try.f89.name == "runtime.NumGoroutine" || Try.f89.body.isNone) = false := by kernel_rfl
theorem fxFi89 : Try.f89.body.isNone = false := by kernel_rfl
theorem fxFj89 : (Try.f89.body = none) = False := eq_false (fun h => by have := fxFi89; rw [h] at this; cases this)
theorem fxFn90 : Try.prog.funcs[(90 : Nat)]? = some Try.f90 := Try.func90
theorem fxFm90 : (Try.f90.name == "runtime.NumGoroutine") = false := by kernel_rfl
theorem fxFb90 : (Try.f90.name == "runtime.NumGoroutine" || Try.f90.body.isNone) = false := by kernel_rfl
theorem fxFi90 : Try.f90.body.isNone = false := by kernel_rfl
theorem fxFj90 : (Try.f90.body = none) = False := eq_false (fun h => by have := fxFi90; rw [h] at this; cases this)
theorem fxFn91 : Try.prog.funcs[(91 : Nat)]? = some Try.f91 := Try.func91
theorem fxFm91 : (Try.f91.name == "runtime.NumGoroutine") = false := by kernel_rfl
theorem fxFb91 : (Try.f91.name == "runtime.NumGoroutine" || Try.f91.body.isNone) = false := by kernel_rfl
theorem fxFi91 : Try.f91.body.isNone = false := by kernel_rfl
theorem fxFj91 : (Try.f91.body = none) = False := eq_false (fun h => by have := fxFi91; rw [h] at this; cases this)
theorem fxFn92 : Try.prog.funcs[(92 : Nat)]? = some Try.f92 := Try.func92
theorem fxFm92 : (Try.f92.name == "runtime.NumGoroutine") = false := by kernel_rfl
theorem fxFb92 : (Try.f92.name == "runtime.NumGoroutine" || Try.f92.body.isNone) = false := by kernel_rfl
theorem fxFi92 : Try.f92.body.isNone = false := by kernel_rfl
theorem fxFj92 : (Try.f92.body = none) = False := eq_false (fun h => by have := fxFi92; rw [h] at this; cases this)
theorem fxFn93 : Try.prog.funcs[(93 : Nat)]? = some Try.f93 := Try.func93
theorem fxFm93 : (Try.f93.name == "runtime.NumGoroutine") = false := by kernel_rfl
theorem fxFb93 : (Try.f93.name == "runtime.NumGoroutine" || Try.f93.body.isNone) = false := by kernel_rfl
theorem fxFi93 : Try.f93.body.isNone = false := by kernel_rfl
theorem fxFj93 : (Try.f93.body = none) = False := eq_false (fun h => by have := fxFi93; rw [h] at this; cases this)
theorem fxFn94 : Try.prog.funcs[(94 : Nat)]? = some Try.f94 := Try.func94
theorem fxFm94 : (Try.f94.name == "runtime.NumGoroutine") = false := by kernel_rfl
theorem fxFb94 : (Try.f94.name == "runtime.NumGoroutine" || Try.f94.body.isNone) = false := by kernel_rfl
theorem fxFi94 : Try.f94.body.isNone = false := by kernel_rfl
theorem fxFj94 : (Try.f94.body = none) = False := eq_false (fun h => by have := fxFi94; rw [h] at this; cases this)
theorem fxFn95 : Try.prog.funcs[(95 : Nat)]? = some Try.f95 := Try.func95
theorem fxFm95 : (Try.f95.name == "runtime.NumGoroutine") = false := by kernel_rfl
theorem fxFb95 : (Try.f95.name == "runtime.NumGoroutine" || Try.f95.body.isNone) = false := by kernel_rfl
theorem fxFi95 : Try.f95.body.isNone = false := by kernel_rfl
theorem fxFj95 : (Try.f95.body = none) = False := eq_false (fun h => by have := fxFi95; rw [h] at this; cases this)
theorem fxFn96 : Try.prog.funcs[(96 : Nat)]? = some Try.f96 := Try.func96
theorem fxFm96 : (Try.f96.name == "runtime.NumGoroutine") = false := by kernel_rfl
theorem fxFb96 : (Try.f96.name == "runtime.NumGoroutine" || Try.f96.body.isNone) = false := by kernel_rfl
theorem fxFi96 : Try.f96.body.isNone = false := by kernel_rfl
theorem fxFj96 : (Try.f96.body = none) = False := eq_false (fun h => by have := fxFi96; rw [h] at this; cases this)
theorem fxFn97 : Try.prog.funcs[(97 : Nat)]? = some Try.f97 := Try.func97
theorem fxFm97 : (Try.f97.name == "runtime.NumGoroutine") = false := by kernel_rfl
theorem fxFb97 : (Try.f97.name == "runtime.NumGoroutine" || Try.f97.body.isNone) = false := by kernel_rfl
theorem fxFi97 : Try.f97.body.isNone = false := by kernel_rfl
theorem fxFj97 : (Try.f97.body = none) = False := eq_false (fun h => by have := fxFi97; rw [h] at this; cases this)
theorem fxFn98 : Try.prog.funcs[(98 : Nat)]? = some Try.f98 := Try.func98
theorem fxFm98 : (Try.f98.name == "runtime.NumGoroutine") = false := by kernel_rfl
theorem fxFb98 : (Try.f98.name == "runtime.NumGoroutine" || Try.f98.body.isNone) = false := by kernel_rfl
theorem fxFi98 : Try.f98.body.isNone = false := by kernel_rfl
theorem fxFj98 : (Try.f98.body = none) = False := eq_false (fun h => by have := fxFi98; rw [h] at this; cases this)
theorem fxFn99 : Try.prog.funcs[(99 : Nat)]? = some Try.f99 := Try.func99
theorem fxFm99 : (Try.f99.name == "runtime.NumGoroutine") = false := by kernel_rfl
theorem fxFb99 : (Try.f99.name == "runtime.NumGoroutine" || Try.f99.body.isNone) = false := by kernel_rfl
theorem fxFi99 : Try.f99.body.isNone = false := by kernel_rfl
theorem fxFj99 : (Try.f99.body = none) = False := eq_false (fun h => by have := fxFi99; rw [h] at this; cases this)
theorem fxFn100 : Try.prog.funcs[(100 : Nat)]? = some Try.f100 := Try.func100
theorem fxFm100 : (Try.f100.name == "runtime.NumGoroutine") = false := by kernel_rfl
theorem fxFb100 : (Try.f100.name == "runtime.NumGoroutine" || Try.f100.body.isNone) = false := by kernel_rfl
theorem fxFi100 : Try.f100.body.isNone = false := by kernel_rfl
theorem fxFj100 : (Try.f100.body = none) = False := eq_false (fun h => by have := fxFi100; rw [h] at this; cases this)
theorem fxFn101 : Try.prog.funcs[(101 : Nat)]? = some Try.f101 := Try.func101
theorem fxFm101 : (Try.f101.name == "runtime.NumGoroutine") = false := by kernel_rfl
theorem fxFb101 : (Try.f101.name == "runtime.NumGoroutine" || Try.f101.body.isNone) = false := by kernel_rfl
theorem fxFi101 : Try.f101.body.isNone = false := by kernel_rfl
theorem fxFj101 : (Try.f101.body = none) = False := eq_false (fun h => by have := fxFi101; rw [h] at this; cases this)
end Go.Proofs.Ytdhkhnegnlmgiaa
