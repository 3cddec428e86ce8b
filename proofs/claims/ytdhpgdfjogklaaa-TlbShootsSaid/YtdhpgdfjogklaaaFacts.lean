/- Facts of the program's tables, each by the kernel. Printed by a program. -/
import Derived.Test.YtdhpgdfjogklaaaProg
import Derived.Test.YtdhpgdfjogklaaaAiZc
import Derived.KernelRfl
namespace Go.Proofs.Ytdhpgdfjogklaaa
open Go.AI
theorem fxMix : Try.prog.follows .mixedOrders = true := by kernel_rfl
theorem fxSz2 : szOf Try.prog 2 = some 1 := by kernel_rfl
theorem fxBy2 : bytesOf Try.prog 2 = some 8 := by kernel_rfl
theorem fxAg2 : aggOf Try.prog 2 = some false := by kernel_rfl
theorem fxZe2 : zeroOf Try.prog 2 = some (.int .i64 0) := by kernel_rfl
theorem fxSl2 : sliceElem Try.prog 2 = none := by kernel_rfl
theorem fxAr2 : arrayOf Try.prog 2 = none := by kernel_rfl
theorem fxPl2 : placesOf Try.prog 2 = none := by kernel_rfl
theorem fxSz3 : szOf Try.prog 3 = some 1 := by kernel_rfl
theorem fxBy3 : bytesOf Try.prog 3 = some 8 := by kernel_rfl
theorem fxAg3 : aggOf Try.prog 3 = some false := by kernel_rfl
theorem fxZe3 : zeroOf Try.prog 3 = some (.int .i64 0) := by kernel_rfl
theorem fxSl3 : sliceElem Try.prog 3 = none := by kernel_rfl
theorem fxAr3 : arrayOf Try.prog 3 = none := by kernel_rfl
theorem fxPl3 : placesOf Try.prog 3 = none := by kernel_rfl
theorem fxSz4 : szOf Try.prog 4 = some 1 := by kernel_rfl
theorem fxBy4 : bytesOf Try.prog 4 = some 1 := by kernel_rfl
theorem fxAg4 : aggOf Try.prog 4 = some false := by kernel_rfl
theorem fxZe4 : zeroOf Try.prog 4 = some (.bool false) := by kernel_rfl
theorem fxSl4 : sliceElem Try.prog 4 = none := by kernel_rfl
theorem fxAr4 : arrayOf Try.prog 4 = none := by kernel_rfl
theorem fxPl4 : placesOf Try.prog 4 = none := by kernel_rfl
theorem fxSz5 : szOf Try.prog 5 = some 1 := by kernel_rfl
theorem fxBy5 : bytesOf Try.prog 5 = some 1 := by kernel_rfl
theorem fxAg5 : aggOf Try.prog 5 = some false := by kernel_rfl
theorem fxZe5 : zeroOf Try.prog 5 = some (.int .u8 0) := by kernel_rfl
theorem fxSl5 : sliceElem Try.prog 5 = none := by kernel_rfl
theorem fxAr5 : arrayOf Try.prog 5 = none := by kernel_rfl
theorem fxPl5 : placesOf Try.prog 5 = none := by kernel_rfl
theorem fxSz9 : szOf Try.prog 9 = some 1 := by kernel_rfl
theorem fxBy9 : bytesOf Try.prog 9 = some 16 := by kernel_rfl
theorem fxAg9 : aggOf Try.prog 9 = some false := by kernel_rfl
theorem fxZe9 : zeroOf Try.prog 9 = some (.string ByteArray.empty) := by kernel_rfl
theorem fxSl9 : sliceElem Try.prog 9 = none := by kernel_rfl
theorem fxAr9 : arrayOf Try.prog 9 = none := by kernel_rfl
theorem fxPl9 : placesOf Try.prog 9 = none := by kernel_rfl
theorem fxSz12 : szOf Try.prog 12 = some 1 := by kernel_rfl
theorem fxBy12 : bytesOf Try.prog 12 = some 8 := by kernel_rfl
theorem fxAg12 : aggOf Try.prog 12 = some false := by kernel_rfl
theorem fxZe12 : zeroOf Try.prog 12 = some (.int .u64 0) := by kernel_rfl
theorem fxSl12 : sliceElem Try.prog 12 = none := by kernel_rfl
theorem fxAr12 : arrayOf Try.prog 12 = none := by kernel_rfl
theorem fxPl12 : placesOf Try.prog 12 = none := by kernel_rfl
theorem fxSz13 : szOf Try.prog 13 = some 2 := by kernel_rfl
theorem fxBy13 : bytesOf Try.prog 13 = some 24 := by kernel_rfl
theorem fxAg13 : aggOf Try.prog 13 = some true := by kernel_rfl
theorem fxZe13 : zeroOf Try.prog 13 = some (.agg #[.string ByteArray.empty, .int .u64 0]) := by kernel_rfl
theorem fxSl13 : sliceElem Try.prog 13 = none := by kernel_rfl
theorem fxAr13 : arrayOf Try.prog 13 = none := by kernel_rfl
theorem fxFi13x0 : fieldOf Try.prog 13 0 = some (0, 1, 9) := by kernel_rfl
theorem fxFi13x1 : fieldOf Try.prog 13 1 = some (1, 1, 12) := by kernel_rfl
theorem fxPl13 : placesOf Try.prog 13 = some [(0, 1), (1, 1)] := by kernel_rfl
theorem fxSz21 : szOf Try.prog 21 = some 1 := by kernel_rfl
theorem fxBy21 : bytesOf Try.prog 21 = some 4 := by kernel_rfl
theorem fxAg21 : aggOf Try.prog 21 = some false := by kernel_rfl
theorem fxZe21 : zeroOf Try.prog 21 = some (.int .i32 0) := by kernel_rfl
theorem fxSl21 : sliceElem Try.prog 21 = none := by kernel_rfl
theorem fxAr21 : arrayOf Try.prog 21 = none := by kernel_rfl
theorem fxPl21 : placesOf Try.prog 21 = none := by kernel_rfl
theorem fxSz22 : szOf Try.prog 22 = some 1 := by kernel_rfl
theorem fxBy22 : bytesOf Try.prog 22 = some 24 := by kernel_rfl
theorem fxAg22 : aggOf Try.prog 22 = some false := by kernel_rfl
theorem fxZe22 : zeroOf Try.prog 22 = some (.slice none 0 0) := by kernel_rfl
theorem fxSl22 : sliceElem Try.prog 22 = some 28 := by kernel_rfl
theorem fxAr22 : arrayOf Try.prog 22 = none := by kernel_rfl
theorem fxPl22 : placesOf Try.prog 22 = none := by kernel_rfl
theorem fxSz23 : szOf Try.prog 23 = some 2 := by kernel_rfl
theorem fxBy23 : bytesOf Try.prog 23 = some 32 := by kernel_rfl
theorem fxAg23 : aggOf Try.prog 23 = some true := by kernel_rfl
theorem fxZe23 : zeroOf Try.prog 23 = some (.agg #[.bool false, .slice none 0 0]) := by kernel_rfl
theorem fxSl23 : sliceElem Try.prog 23 = none := by kernel_rfl
theorem fxAr23 : arrayOf Try.prog 23 = none := by kernel_rfl
theorem fxFi23x0 : fieldOf Try.prog 23 0 = some (0, 1, 4) := by kernel_rfl
theorem fxFi23x1 : fieldOf Try.prog 23 1 = some (1, 1, 22) := by kernel_rfl
theorem fxPl23 : placesOf Try.prog 23 = some [(0, 1), (1, 1)] := by kernel_rfl
theorem fxSz24 : szOf Try.prog 24 = some 2 := by kernel_rfl
theorem fxBy24 : bytesOf Try.prog 24 = some 32 := by kernel_rfl
theorem fxAg24 : aggOf Try.prog 24 = some true := by kernel_rfl
theorem fxZe24 : zeroOf Try.prog 24 = some (.agg #[.bool false, .slice none 0 0]) := by kernel_rfl
theorem fxSl24 : sliceElem Try.prog 24 = none := by kernel_rfl
theorem fxAr24 : arrayOf Try.prog 24 = none := by kernel_rfl
theorem fxFi24x0 : fieldOf Try.prog 24 0 = some (0, 1, 4) := by kernel_rfl
theorem fxFi24x1 : fieldOf Try.prog 24 1 = some (1, 1, 22) := by kernel_rfl
theorem fxPl24 : placesOf Try.prog 24 = some [(0, 1), (1, 1)] := by kernel_rfl
theorem fxSz25 : szOf Try.prog 25 = some 16 := by kernel_rfl
theorem fxBy25 : bytesOf Try.prog 25 = some 256 := by kernel_rfl
theorem fxAg25 : aggOf Try.prog 25 = some true := by kernel_rfl
theorem fxZe25 : zeroOf Try.prog 25 = some (.agg #[.bool false, .slice none 0 0, .bool false, .slice none 0 0, .bool false, .slice none 0 0, .bool false, .slice none 0 0, .bool false, .slice none 0 0, .bool false, .slice none 0 0, .bool false, .slice none 0 0, .bool false, .slice none 0 0]) := by kernel_rfl
theorem fxSl25 : sliceElem Try.prog 25 = none := by kernel_rfl
theorem fxAr25 : arrayOf Try.prog 25 = some (8, 24) := by kernel_rfl
theorem fxPl25 : placesOf Try.prog 25 = none := by kernel_rfl
theorem fxSz26 : szOf Try.prog 26 = some 16 := by kernel_rfl
theorem fxBy26 : bytesOf Try.prog 26 = some 256 := by kernel_rfl
theorem fxAg26 : aggOf Try.prog 26 = some true := by kernel_rfl
theorem fxZe26 : zeroOf Try.prog 26 = some (.agg #[.bool false, .slice none 0 0, .bool false, .slice none 0 0, .bool false, .slice none 0 0, .bool false, .slice none 0 0, .bool false, .slice none 0 0, .bool false, .slice none 0 0, .bool false, .slice none 0 0, .bool false, .slice none 0 0]) := by kernel_rfl
theorem fxSl26 : sliceElem Try.prog 26 = none := by kernel_rfl
theorem fxAr26 : arrayOf Try.prog 26 = some (8, 24) := by kernel_rfl
theorem fxPl26 : placesOf Try.prog 26 = none := by kernel_rfl
theorem fxSz27 : szOf Try.prog 27 = some 7 := by kernel_rfl
theorem fxBy27 : bytesOf Try.prog 27 = some 32 := by kernel_rfl
theorem fxAg27 : aggOf Try.prog 27 = some true := by kernel_rfl
theorem fxZe27 : zeroOf Try.prog 27 = some (.agg #[.bool false, .bool false, .int .i64 0, .int .i64 0, .bool false, .bool false, .bool false]) := by kernel_rfl
theorem fxSl27 : sliceElem Try.prog 27 = none := by kernel_rfl
theorem fxAr27 : arrayOf Try.prog 27 = none := by kernel_rfl
theorem fxFi27x0 : fieldOf Try.prog 27 0 = some (0, 1, 4) := by kernel_rfl
theorem fxFi27x1 : fieldOf Try.prog 27 1 = some (1, 1, 4) := by kernel_rfl
theorem fxFi27x2 : fieldOf Try.prog 27 2 = some (2, 1, 3) := by kernel_rfl
theorem fxFi27x3 : fieldOf Try.prog 27 3 = some (3, 1, 3) := by kernel_rfl
theorem fxFi27x4 : fieldOf Try.prog 27 4 = some (4, 1, 4) := by kernel_rfl
theorem fxFi27x5 : fieldOf Try.prog 27 5 = some (5, 1, 4) := by kernel_rfl
theorem fxFi27x6 : fieldOf Try.prog 27 6 = some (6, 1, 4) := by kernel_rfl
theorem fxPl27 : placesOf Try.prog 27 = some [(0, 1), (1, 1), (2, 1), (3, 1), (4, 1), (5, 1), (6, 1)] := by kernel_rfl
theorem fxSz28 : szOf Try.prog 28 = some 7 := by kernel_rfl
theorem fxBy28 : bytesOf Try.prog 28 = some 32 := by kernel_rfl
theorem fxAg28 : aggOf Try.prog 28 = some true := by kernel_rfl
theorem fxZe28 : zeroOf Try.prog 28 = some (.agg #[.bool false, .bool false, .int .i64 0, .int .i64 0, .bool false, .bool false, .bool false]) := by kernel_rfl
theorem fxSl28 : sliceElem Try.prog 28 = none := by kernel_rfl
theorem fxAr28 : arrayOf Try.prog 28 = none := by kernel_rfl
theorem fxFi28x0 : fieldOf Try.prog 28 0 = some (0, 1, 4) := by kernel_rfl
theorem fxFi28x1 : fieldOf Try.prog 28 1 = some (1, 1, 4) := by kernel_rfl
theorem fxFi28x2 : fieldOf Try.prog 28 2 = some (2, 1, 3) := by kernel_rfl
theorem fxFi28x3 : fieldOf Try.prog 28 3 = some (3, 1, 3) := by kernel_rfl
theorem fxFi28x4 : fieldOf Try.prog 28 4 = some (4, 1, 4) := by kernel_rfl
theorem fxFi28x5 : fieldOf Try.prog 28 5 = some (5, 1, 4) := by kernel_rfl
theorem fxFi28x6 : fieldOf Try.prog 28 6 = some (6, 1, 4) := by kernel_rfl
theorem fxPl28 : placesOf Try.prog 28 = some [(0, 1), (1, 1), (2, 1), (3, 1), (4, 1), (5, 1), (6, 1)] := by kernel_rfl
theorem fxSz29 : szOf Try.prog 29 = some 1 := by kernel_rfl
theorem fxBy29 : bytesOf Try.prog 29 = some 8 := by kernel_rfl
theorem fxAg29 : aggOf Try.prog 29 = some false := by kernel_rfl
theorem fxZe29 : zeroOf Try.prog 29 = some (.int .i64 0) := by kernel_rfl
theorem fxSl29 : sliceElem Try.prog 29 = none := by kernel_rfl
theorem fxAr29 : arrayOf Try.prog 29 = none := by kernel_rfl
theorem fxPl29 : placesOf Try.prog 29 = none := by kernel_rfl
theorem fxSz44 : szOf Try.prog 44 = some 1 := by kernel_rfl
theorem fxBy44 : bytesOf Try.prog 44 = some 24 := by kernel_rfl
theorem fxAg44 : aggOf Try.prog 44 = some false := by kernel_rfl
theorem fxZe44 : zeroOf Try.prog 44 = some (.slice none 0 0) := by kernel_rfl
theorem fxSl44 : sliceElem Try.prog 44 = some 63 := by kernel_rfl
theorem fxAr44 : arrayOf Try.prog 44 = none := by kernel_rfl
theorem fxPl44 : placesOf Try.prog 44 = none := by kernel_rfl
theorem fxSz45 : szOf Try.prog 45 = some 1 := by kernel_rfl
theorem fxBy45 : bytesOf Try.prog 45 = some 4 := by kernel_rfl
theorem fxAg45 : aggOf Try.prog 45 = some false := by kernel_rfl
theorem fxZe45 : zeroOf Try.prog 45 = some (.int .u32 0) := by kernel_rfl
theorem fxSl45 : sliceElem Try.prog 45 = none := by kernel_rfl
theorem fxAr45 : arrayOf Try.prog 45 = none := by kernel_rfl
theorem fxPl45 : placesOf Try.prog 45 = none := by kernel_rfl
theorem fxSz52 : szOf Try.prog 52 = some 1 := by kernel_rfl
theorem fxBy52 : bytesOf Try.prog 52 = some 24 := by kernel_rfl
theorem fxAg52 : aggOf Try.prog 52 = some false := by kernel_rfl
theorem fxZe52 : zeroOf Try.prog 52 = some (.slice none 0 0) := by kernel_rfl
theorem fxSl52 : sliceElem Try.prog 52 = some 56 := by kernel_rfl
theorem fxAr52 : arrayOf Try.prog 52 = none := by kernel_rfl
theorem fxPl52 : placesOf Try.prog 52 = none := by kernel_rfl
theorem fxSz54 : szOf Try.prog 54 = some 2 := by kernel_rfl
theorem fxBy54 : bytesOf Try.prog 54 = some 16 := by kernel_rfl
theorem fxAg54 : aggOf Try.prog 54 = some true := by kernel_rfl
theorem fxZe54 : zeroOf Try.prog 54 = some (.agg #[.int .i64 0, .int .i64 0]) := by kernel_rfl
theorem fxSl54 : sliceElem Try.prog 54 = none := by kernel_rfl
theorem fxAr54 : arrayOf Try.prog 54 = none := by kernel_rfl
theorem fxFi54x0 : fieldOf Try.prog 54 0 = some (0, 1, 3) := by kernel_rfl
theorem fxFi54x1 : fieldOf Try.prog 54 1 = some (1, 1, 3) := by kernel_rfl
theorem fxPl54 : placesOf Try.prog 54 = some [(0, 1), (1, 1)] := by kernel_rfl
theorem fxSz55 : szOf Try.prog 55 = some 2 := by kernel_rfl
theorem fxBy55 : bytesOf Try.prog 55 = some 16 := by kernel_rfl
theorem fxAg55 : aggOf Try.prog 55 = some true := by kernel_rfl
theorem fxZe55 : zeroOf Try.prog 55 = some (.agg #[.int .i64 0, .int .i64 0]) := by kernel_rfl
theorem fxSl55 : sliceElem Try.prog 55 = none := by kernel_rfl
theorem fxAr55 : arrayOf Try.prog 55 = none := by kernel_rfl
theorem fxFi55x0 : fieldOf Try.prog 55 0 = some (0, 1, 3) := by kernel_rfl
theorem fxFi55x1 : fieldOf Try.prog 55 1 = some (1, 1, 3) := by kernel_rfl
theorem fxPl55 : placesOf Try.prog 55 = some [(0, 1), (1, 1)] := by kernel_rfl
theorem fxSz56 : szOf Try.prog 56 = some 2 := by kernel_rfl
theorem fxBy56 : bytesOf Try.prog 56 = some 16 := by kernel_rfl
theorem fxAg56 : aggOf Try.prog 56 = some true := by kernel_rfl
theorem fxZe56 : zeroOf Try.prog 56 = some (.agg #[.int .i64 0, .int .i64 0]) := by kernel_rfl
theorem fxSl56 : sliceElem Try.prog 56 = none := by kernel_rfl
theorem fxAr56 : arrayOf Try.prog 56 = some (2, 3) := by kernel_rfl
theorem fxPl56 : placesOf Try.prog 56 = none := by kernel_rfl
theorem fxSz60 : szOf Try.prog 60 = some 1 := by kernel_rfl
theorem fxBy60 : bytesOf Try.prog 60 = some 24 := by kernel_rfl
theorem fxAg60 : aggOf Try.prog 60 = some false := by kernel_rfl
theorem fxZe60 : zeroOf Try.prog 60 = some (.slice none 0 0) := by kernel_rfl
theorem fxSl60 : sliceElem Try.prog 60 = some 84 := by kernel_rfl
theorem fxAr60 : arrayOf Try.prog 60 = none := by kernel_rfl
theorem fxPl60 : placesOf Try.prog 60 = none := by kernel_rfl
theorem fxSz61 : szOf Try.prog 61 = some 1 := by kernel_rfl
theorem fxBy61 : bytesOf Try.prog 61 = some 24 := by kernel_rfl
theorem fxAg61 : aggOf Try.prog 61 = some false := by kernel_rfl
theorem fxZe61 : zeroOf Try.prog 61 = some (.slice none 0 0) := by kernel_rfl
theorem fxSl61 : sliceElem Try.prog 61 = some 55 := by kernel_rfl
theorem fxAr61 : arrayOf Try.prog 61 = none := by kernel_rfl
theorem fxPl61 : placesOf Try.prog 61 = none := by kernel_rfl
theorem fxSz62 : szOf Try.prog 62 = some 2 := by kernel_rfl
theorem fxBy62 : bytesOf Try.prog 62 = some 48 := by kernel_rfl
theorem fxAg62 : aggOf Try.prog 62 = some true := by kernel_rfl
theorem fxZe62 : zeroOf Try.prog 62 = some (.agg #[.slice none 0 0, .slice none 0 0]) := by kernel_rfl
theorem fxSl62 : sliceElem Try.prog 62 = none := by kernel_rfl
theorem fxAr62 : arrayOf Try.prog 62 = none := by kernel_rfl
theorem fxFi62x0 : fieldOf Try.prog 62 0 = some (0, 1, 60) := by kernel_rfl
theorem fxFi62x1 : fieldOf Try.prog 62 1 = some (1, 1, 61) := by kernel_rfl
theorem fxPl62 : placesOf Try.prog 62 = some [(0, 1), (1, 1)] := by kernel_rfl
theorem fxSz63 : szOf Try.prog 63 = some 2 := by kernel_rfl
theorem fxBy63 : bytesOf Try.prog 63 = some 48 := by kernel_rfl
theorem fxAg63 : aggOf Try.prog 63 = some true := by kernel_rfl
theorem fxZe63 : zeroOf Try.prog 63 = some (.agg #[.slice none 0 0, .slice none 0 0]) := by kernel_rfl
theorem fxSl63 : sliceElem Try.prog 63 = none := by kernel_rfl
theorem fxAr63 : arrayOf Try.prog 63 = none := by kernel_rfl
theorem fxFi63x0 : fieldOf Try.prog 63 0 = some (0, 1, 60) := by kernel_rfl
theorem fxFi63x1 : fieldOf Try.prog 63 1 = some (1, 1, 61) := by kernel_rfl
theorem fxPl63 : placesOf Try.prog 63 = some [(0, 1), (1, 1)] := by kernel_rfl
theorem fxSz76 : szOf Try.prog 76 = some 1 := by kernel_rfl
theorem fxBy76 : bytesOf Try.prog 76 = some 24 := by kernel_rfl
theorem fxAg76 : aggOf Try.prog 76 = some false := by kernel_rfl
theorem fxZe76 : zeroOf Try.prog 76 = some (.slice none 0 0) := by kernel_rfl
theorem fxSl76 : sliceElem Try.prog 76 = some 29 := by kernel_rfl
theorem fxAr76 : arrayOf Try.prog 76 = none := by kernel_rfl
theorem fxPl76 : placesOf Try.prog 76 = none := by kernel_rfl
theorem fxSz83 : szOf Try.prog 83 = some 3 := by kernel_rfl
theorem fxBy83 : bytesOf Try.prog 83 = some 24 := by kernel_rfl
theorem fxAg83 : aggOf Try.prog 83 = some true := by kernel_rfl
theorem fxZe83 : zeroOf Try.prog 83 = some (.agg #[.int .i64 0, .int .i64 0, .int .u32 0]) := by kernel_rfl
theorem fxSl83 : sliceElem Try.prog 83 = none := by kernel_rfl
theorem fxAr83 : arrayOf Try.prog 83 = none := by kernel_rfl
theorem fxFi83x0 : fieldOf Try.prog 83 0 = some (0, 1, 3) := by kernel_rfl
theorem fxFi83x1 : fieldOf Try.prog 83 1 = some (1, 1, 3) := by kernel_rfl
theorem fxFi83x2 : fieldOf Try.prog 83 2 = some (2, 1, 45) := by kernel_rfl
theorem fxPl83 : placesOf Try.prog 83 = some [(0, 1), (1, 1), (2, 1)] := by kernel_rfl
theorem fxSz84 : szOf Try.prog 84 = some 3 := by kernel_rfl
theorem fxBy84 : bytesOf Try.prog 84 = some 24 := by kernel_rfl
theorem fxAg84 : aggOf Try.prog 84 = some true := by kernel_rfl
theorem fxZe84 : zeroOf Try.prog 84 = some (.agg #[.int .i64 0, .int .i64 0, .int .u32 0]) := by kernel_rfl
theorem fxSl84 : sliceElem Try.prog 84 = none := by kernel_rfl
theorem fxAr84 : arrayOf Try.prog 84 = none := by kernel_rfl
theorem fxFi84x0 : fieldOf Try.prog 84 0 = some (0, 1, 3) := by kernel_rfl
theorem fxFi84x1 : fieldOf Try.prog 84 1 = some (1, 1, 3) := by kernel_rfl
theorem fxFi84x2 : fieldOf Try.prog 84 2 = some (2, 1, 45) := by kernel_rfl
theorem fxPl84 : placesOf Try.prog 84 = some [(0, 1), (1, 1), (2, 1)] := by kernel_rfl
theorem fxSz99 : szOf Try.prog 99 = some 1 := by kernel_rfl
theorem fxBy99 : bytesOf Try.prog 99 = some 8 := by kernel_rfl
theorem fxAg99 : aggOf Try.prog 99 = some false := by kernel_rfl
theorem fxZe99 : zeroOf Try.prog 99 = some (.pointer none) := by kernel_rfl
theorem fxSl99 : sliceElem Try.prog 99 = none := by kernel_rfl
theorem fxAr99 : arrayOf Try.prog 99 = none := by kernel_rfl
theorem fxPl99 : placesOf Try.prog 99 = none := by kernel_rfl
theorem fxSz106 : szOf Try.prog 106 = some 0 := by kernel_rfl
theorem fxBy106 : bytesOf Try.prog 106 = some 0 := by kernel_rfl
theorem fxAg106 : aggOf Try.prog 106 = some true := by kernel_rfl
theorem fxZe106 : zeroOf Try.prog 106 = some (.agg #[]) := by kernel_rfl
theorem fxSl106 : sliceElem Try.prog 106 = none := by kernel_rfl
theorem fxAr106 : arrayOf Try.prog 106 = some (0, 16) := by kernel_rfl
theorem fxPl106 : placesOf Try.prog 106 = none := by kernel_rfl
theorem fxSz107 : szOf Try.prog 107 = some 0 := by kernel_rfl
theorem fxBy107 : bytesOf Try.prog 107 = some 0 := by kernel_rfl
theorem fxAg107 : aggOf Try.prog 107 = some true := by kernel_rfl
theorem fxZe107 : zeroOf Try.prog 107 = some (.agg #[]) := by kernel_rfl
theorem fxSl107 : sliceElem Try.prog 107 = none := by kernel_rfl
theorem fxAr107 : arrayOf Try.prog 107 = none := by kernel_rfl
theorem fxFi107x0 : fieldOf Try.prog 107 0 = some (0, 0, 106) := by kernel_rfl
theorem fxPl107 : placesOf Try.prog 107 = some [(0, 0)] := by kernel_rfl
theorem fxSz113 : szOf Try.prog 113 = some 1 := by kernel_rfl
theorem fxBy113 : bytesOf Try.prog 113 = some 8 := by kernel_rfl
theorem fxAg113 : aggOf Try.prog 113 = some false := by kernel_rfl
theorem fxZe113 : zeroOf Try.prog 113 = some (.pointer none) := by kernel_rfl
theorem fxSl113 : sliceElem Try.prog 113 = none := by kernel_rfl
theorem fxAr113 : arrayOf Try.prog 113 = none := by kernel_rfl
theorem fxPl113 : placesOf Try.prog 113 = none := by kernel_rfl
theorem fxSz118 : szOf Try.prog 118 = some 1 := by kernel_rfl
theorem fxBy118 : bytesOf Try.prog 118 = some 8 := by kernel_rfl
theorem fxAg118 : aggOf Try.prog 118 = some false := by kernel_rfl
theorem fxZe118 : zeroOf Try.prog 118 = some (.pointer none) := by kernel_rfl
theorem fxSl118 : sliceElem Try.prog 118 = none := by kernel_rfl
theorem fxAr118 : arrayOf Try.prog 118 = none := by kernel_rfl
theorem fxPl118 : placesOf Try.prog 118 = none := by kernel_rfl
theorem fxEq28 : eqOkT Try.prog 28 = some [0, 0, 1, 1, 0, 0, 0] := by kernel_rfl
theorem fxEq55 : eqOkT Try.prog 55 = some [1, 1] := by kernel_rfl
theorem fxEq56 : eqOkT Try.prog 56 = some [1, 1] := by kernel_rfl
theorem fxEq84 : eqOkT Try.prog 84 = some [1, 1, 1] := by kernel_rfl
theorem fxCv2x2 {k : IntKind} {a : Int} : asV (pr Try.prog (convert 2 2 (.int k a))) = some (.v (.int .i64 (IntKind.i64.wrap a))) := ev_conv Try.underlying2 Try.underlying2
theorem fxCv2x3 {k : IntKind} {a : Int} : asV (pr Try.prog (convert 2 3 (.int k a))) = some (.v (.int .i64 (IntKind.i64.wrap a))) := ev_conv Try.underlying2 Try.underlying3
theorem fxCv2x5 {k : IntKind} {a : Int} : asV (pr Try.prog (convert 2 5 (.int k a))) = some (.v (.int .u8 (IntKind.u8.wrap a))) := ev_conv Try.underlying2 Try.underlying5
theorem fxCv2x12 {k : IntKind} {a : Int} : asV (pr Try.prog (convert 2 12 (.int k a))) = some (.v (.int .u64 (IntKind.u64.wrap a))) := ev_conv Try.underlying2 Try.underlying12
theorem fxCv2x21 {k : IntKind} {a : Int} : asV (pr Try.prog (convert 2 21 (.int k a))) = some (.v (.int .i32 (IntKind.i32.wrap a))) := ev_conv Try.underlying2 Try.underlying21
theorem fxCv2x29 {k : IntKind} {a : Int} : asV (pr Try.prog (convert 2 29 (.int k a))) = some (.v (.int .i64 (IntKind.i64.wrap a))) := ev_conv Try.underlying2 Try.underlying29
theorem fxCv2x45 {k : IntKind} {a : Int} : asV (pr Try.prog (convert 2 45 (.int k a))) = some (.v (.int .u32 (IntKind.u32.wrap a))) := ev_conv Try.underlying2 Try.underlying45
theorem fxCv3x2 {k : IntKind} {a : Int} : asV (pr Try.prog (convert 3 2 (.int k a))) = some (.v (.int .i64 (IntKind.i64.wrap a))) := ev_conv Try.underlying3 Try.underlying2
theorem fxCv3x3 {k : IntKind} {a : Int} : asV (pr Try.prog (convert 3 3 (.int k a))) = some (.v (.int .i64 (IntKind.i64.wrap a))) := ev_conv Try.underlying3 Try.underlying3
theorem fxCv3x5 {k : IntKind} {a : Int} : asV (pr Try.prog (convert 3 5 (.int k a))) = some (.v (.int .u8 (IntKind.u8.wrap a))) := ev_conv Try.underlying3 Try.underlying5
theorem fxCv3x12 {k : IntKind} {a : Int} : asV (pr Try.prog (convert 3 12 (.int k a))) = some (.v (.int .u64 (IntKind.u64.wrap a))) := ev_conv Try.underlying3 Try.underlying12
theorem fxCv3x21 {k : IntKind} {a : Int} : asV (pr Try.prog (convert 3 21 (.int k a))) = some (.v (.int .i32 (IntKind.i32.wrap a))) := ev_conv Try.underlying3 Try.underlying21
theorem fxCv3x29 {k : IntKind} {a : Int} : asV (pr Try.prog (convert 3 29 (.int k a))) = some (.v (.int .i64 (IntKind.i64.wrap a))) := ev_conv Try.underlying3 Try.underlying29
theorem fxCv3x45 {k : IntKind} {a : Int} : asV (pr Try.prog (convert 3 45 (.int k a))) = some (.v (.int .u32 (IntKind.u32.wrap a))) := ev_conv Try.underlying3 Try.underlying45
theorem fxCv5x2 {k : IntKind} {a : Int} : asV (pr Try.prog (convert 5 2 (.int k a))) = some (.v (.int .i64 (IntKind.i64.wrap a))) := ev_conv Try.underlying5 Try.underlying2
theorem fxCv5x3 {k : IntKind} {a : Int} : asV (pr Try.prog (convert 5 3 (.int k a))) = some (.v (.int .i64 (IntKind.i64.wrap a))) := ev_conv Try.underlying5 Try.underlying3
theorem fxCv5x5 {k : IntKind} {a : Int} : asV (pr Try.prog (convert 5 5 (.int k a))) = some (.v (.int .u8 (IntKind.u8.wrap a))) := ev_conv Try.underlying5 Try.underlying5
theorem fxCv5x12 {k : IntKind} {a : Int} : asV (pr Try.prog (convert 5 12 (.int k a))) = some (.v (.int .u64 (IntKind.u64.wrap a))) := ev_conv Try.underlying5 Try.underlying12
theorem fxCv5x21 {k : IntKind} {a : Int} : asV (pr Try.prog (convert 5 21 (.int k a))) = some (.v (.int .i32 (IntKind.i32.wrap a))) := ev_conv Try.underlying5 Try.underlying21
theorem fxCv5x29 {k : IntKind} {a : Int} : asV (pr Try.prog (convert 5 29 (.int k a))) = some (.v (.int .i64 (IntKind.i64.wrap a))) := ev_conv Try.underlying5 Try.underlying29
theorem fxCv5x45 {k : IntKind} {a : Int} : asV (pr Try.prog (convert 5 45 (.int k a))) = some (.v (.int .u32 (IntKind.u32.wrap a))) := ev_conv Try.underlying5 Try.underlying45
theorem fxCv12x2 {k : IntKind} {a : Int} : asV (pr Try.prog (convert 12 2 (.int k a))) = some (.v (.int .i64 (IntKind.i64.wrap a))) := ev_conv Try.underlying12 Try.underlying2
theorem fxCv12x3 {k : IntKind} {a : Int} : asV (pr Try.prog (convert 12 3 (.int k a))) = some (.v (.int .i64 (IntKind.i64.wrap a))) := ev_conv Try.underlying12 Try.underlying3
theorem fxCv12x5 {k : IntKind} {a : Int} : asV (pr Try.prog (convert 12 5 (.int k a))) = some (.v (.int .u8 (IntKind.u8.wrap a))) := ev_conv Try.underlying12 Try.underlying5
theorem fxCv12x12 {k : IntKind} {a : Int} : asV (pr Try.prog (convert 12 12 (.int k a))) = some (.v (.int .u64 (IntKind.u64.wrap a))) := ev_conv Try.underlying12 Try.underlying12
theorem fxCv12x21 {k : IntKind} {a : Int} : asV (pr Try.prog (convert 12 21 (.int k a))) = some (.v (.int .i32 (IntKind.i32.wrap a))) := ev_conv Try.underlying12 Try.underlying21
theorem fxCv12x29 {k : IntKind} {a : Int} : asV (pr Try.prog (convert 12 29 (.int k a))) = some (.v (.int .i64 (IntKind.i64.wrap a))) := ev_conv Try.underlying12 Try.underlying29
theorem fxCv12x45 {k : IntKind} {a : Int} : asV (pr Try.prog (convert 12 45 (.int k a))) = some (.v (.int .u32 (IntKind.u32.wrap a))) := ev_conv Try.underlying12 Try.underlying45
theorem fxCv21x2 {k : IntKind} {a : Int} : asV (pr Try.prog (convert 21 2 (.int k a))) = some (.v (.int .i64 (IntKind.i64.wrap a))) := ev_conv Try.underlying21 Try.underlying2
theorem fxCv21x3 {k : IntKind} {a : Int} : asV (pr Try.prog (convert 21 3 (.int k a))) = some (.v (.int .i64 (IntKind.i64.wrap a))) := ev_conv Try.underlying21 Try.underlying3
theorem fxCv21x5 {k : IntKind} {a : Int} : asV (pr Try.prog (convert 21 5 (.int k a))) = some (.v (.int .u8 (IntKind.u8.wrap a))) := ev_conv Try.underlying21 Try.underlying5
theorem fxCv21x12 {k : IntKind} {a : Int} : asV (pr Try.prog (convert 21 12 (.int k a))) = some (.v (.int .u64 (IntKind.u64.wrap a))) := ev_conv Try.underlying21 Try.underlying12
theorem fxCv21x21 {k : IntKind} {a : Int} : asV (pr Try.prog (convert 21 21 (.int k a))) = some (.v (.int .i32 (IntKind.i32.wrap a))) := ev_conv Try.underlying21 Try.underlying21
theorem fxCv21x29 {k : IntKind} {a : Int} : asV (pr Try.prog (convert 21 29 (.int k a))) = some (.v (.int .i64 (IntKind.i64.wrap a))) := ev_conv Try.underlying21 Try.underlying29
theorem fxCv21x45 {k : IntKind} {a : Int} : asV (pr Try.prog (convert 21 45 (.int k a))) = some (.v (.int .u32 (IntKind.u32.wrap a))) := ev_conv Try.underlying21 Try.underlying45
theorem fxCv29x2 {k : IntKind} {a : Int} : asV (pr Try.prog (convert 29 2 (.int k a))) = some (.v (.int .i64 (IntKind.i64.wrap a))) := ev_conv Try.underlying29 Try.underlying2
theorem fxCv29x3 {k : IntKind} {a : Int} : asV (pr Try.prog (convert 29 3 (.int k a))) = some (.v (.int .i64 (IntKind.i64.wrap a))) := ev_conv Try.underlying29 Try.underlying3
theorem fxCv29x5 {k : IntKind} {a : Int} : asV (pr Try.prog (convert 29 5 (.int k a))) = some (.v (.int .u8 (IntKind.u8.wrap a))) := ev_conv Try.underlying29 Try.underlying5
theorem fxCv29x12 {k : IntKind} {a : Int} : asV (pr Try.prog (convert 29 12 (.int k a))) = some (.v (.int .u64 (IntKind.u64.wrap a))) := ev_conv Try.underlying29 Try.underlying12
theorem fxCv29x21 {k : IntKind} {a : Int} : asV (pr Try.prog (convert 29 21 (.int k a))) = some (.v (.int .i32 (IntKind.i32.wrap a))) := ev_conv Try.underlying29 Try.underlying21
theorem fxCv29x29 {k : IntKind} {a : Int} : asV (pr Try.prog (convert 29 29 (.int k a))) = some (.v (.int .i64 (IntKind.i64.wrap a))) := ev_conv Try.underlying29 Try.underlying29
theorem fxCv29x45 {k : IntKind} {a : Int} : asV (pr Try.prog (convert 29 45 (.int k a))) = some (.v (.int .u32 (IntKind.u32.wrap a))) := ev_conv Try.underlying29 Try.underlying45
theorem fxCv45x2 {k : IntKind} {a : Int} : asV (pr Try.prog (convert 45 2 (.int k a))) = some (.v (.int .i64 (IntKind.i64.wrap a))) := ev_conv Try.underlying45 Try.underlying2
theorem fxCv45x3 {k : IntKind} {a : Int} : asV (pr Try.prog (convert 45 3 (.int k a))) = some (.v (.int .i64 (IntKind.i64.wrap a))) := ev_conv Try.underlying45 Try.underlying3
theorem fxCv45x5 {k : IntKind} {a : Int} : asV (pr Try.prog (convert 45 5 (.int k a))) = some (.v (.int .u8 (IntKind.u8.wrap a))) := ev_conv Try.underlying45 Try.underlying5
theorem fxCv45x12 {k : IntKind} {a : Int} : asV (pr Try.prog (convert 45 12 (.int k a))) = some (.v (.int .u64 (IntKind.u64.wrap a))) := ev_conv Try.underlying45 Try.underlying12
theorem fxCv45x21 {k : IntKind} {a : Int} : asV (pr Try.prog (convert 45 21 (.int k a))) = some (.v (.int .i32 (IntKind.i32.wrap a))) := ev_conv Try.underlying45 Try.underlying21
theorem fxCv45x29 {k : IntKind} {a : Int} : asV (pr Try.prog (convert 45 29 (.int k a))) = some (.v (.int .i64 (IntKind.i64.wrap a))) := ev_conv Try.underlying45 Try.underlying29
theorem fxCv45x45 {k : IntKind} {a : Int} : asV (pr Try.prog (convert 45 45 (.int k a))) = some (.v (.int .u32 (IntKind.u32.wrap a))) := ev_conv Try.underlying45 Try.underlying45
theorem fxEb4 {x y : Operand} {p q : Bool} : aBin Try.prog .eql 4 x y (.v (.bool p)) (.v (.bool q)) = some (.v (.bool (p == q))) := ev_eqlB Try.underlying4
theorem fxNb4 {x y : Operand} {p q : Bool} : aBin Try.prog .neq 4 x y (.v (.bool p)) (.v (.bool q)) = some (.v (.bool (!(p == q)))) := ev_neqB Try.underlying4
theorem fxLt9 {s : ByteArray} : asV (pr Try.prog (Builtin.len_ #[9] 0 #[.string s])) = some (.v (.int .i64 s.size)) := ev_lenT Try.underlying9
theorem fxLn22 : asV (pr Try.prog (Builtin.len_ #[22] 0 #[.slice none 0 0])) = some (.v (.int .i64 0)) := ev_lenN Try.underlying22
theorem fxNe22 {x y : Operand} {o : Bool} {sz : Nat} {rows : List Row} : aBin Try.prog .eql 22 x y (.fsl o sz rows) (.v (.slice none 0 0)) = some (if rows.isEmpty then .anyb else .v (.bool false)) := ev_nilE fxSl22
theorem fxNn22 {x y : Operand} {o : Bool} {sz : Nat} {rows : List Row} : aBin Try.prog .neq 22 x y (.fsl o sz rows) (.v (.slice none 0 0)) = some (if rows.isEmpty then .anyb else .v (.bool true)) := ev_nilN fxSl22
theorem fxOe22 {x y : Operand} {a b c d e : Nat} : aBin Try.prog .eql 22 x y (.osl a b c d e) (.v (.slice none 0 0)) = some (.v (.bool false)) := ev_nilOe fxSl22
theorem fxOn22 {x y : Operand} {a b c d e : Nat} : aBin Try.prog .neq 22 x y (.osl a b c d e) (.v (.slice none 0 0)) = some (.v (.bool true)) := ev_nilOn fxSl22
theorem fxXe22 {x y : Operand} : aBin Try.prog .eql 22 x y .esl (.v (.slice none 0 0)) = some .anyb := ev_nilXe fxSl22
theorem fxXn22 {x y : Operand} : aBin Try.prog .neq 22 x y .esl (.v (.slice none 0 0)) = some .anyb := ev_nilXn fxSl22
theorem fxLn44 : asV (pr Try.prog (Builtin.len_ #[44] 0 #[.slice none 0 0])) = some (.v (.int .i64 0)) := ev_lenN Try.underlying44
theorem fxNe44 {x y : Operand} {o : Bool} {sz : Nat} {rows : List Row} : aBin Try.prog .eql 44 x y (.fsl o sz rows) (.v (.slice none 0 0)) = some (if rows.isEmpty then .anyb else .v (.bool false)) := ev_nilE fxSl44
theorem fxNn44 {x y : Operand} {o : Bool} {sz : Nat} {rows : List Row} : aBin Try.prog .neq 44 x y (.fsl o sz rows) (.v (.slice none 0 0)) = some (if rows.isEmpty then .anyb else .v (.bool true)) := ev_nilN fxSl44
theorem fxOe44 {x y : Operand} {a b c d e : Nat} : aBin Try.prog .eql 44 x y (.osl a b c d e) (.v (.slice none 0 0)) = some (.v (.bool false)) := ev_nilOe fxSl44
theorem fxOn44 {x y : Operand} {a b c d e : Nat} : aBin Try.prog .neq 44 x y (.osl a b c d e) (.v (.slice none 0 0)) = some (.v (.bool true)) := ev_nilOn fxSl44
theorem fxXe44 {x y : Operand} : aBin Try.prog .eql 44 x y .esl (.v (.slice none 0 0)) = some .anyb := ev_nilXe fxSl44
theorem fxXn44 {x y : Operand} : aBin Try.prog .neq 44 x y .esl (.v (.slice none 0 0)) = some .anyb := ev_nilXn fxSl44
theorem fxLn52 : asV (pr Try.prog (Builtin.len_ #[52] 0 #[.slice none 0 0])) = some (.v (.int .i64 0)) := ev_lenN Try.underlying52
theorem fxNe52 {x y : Operand} {o : Bool} {sz : Nat} {rows : List Row} : aBin Try.prog .eql 52 x y (.fsl o sz rows) (.v (.slice none 0 0)) = some (if rows.isEmpty then .anyb else .v (.bool false)) := ev_nilE fxSl52
theorem fxNn52 {x y : Operand} {o : Bool} {sz : Nat} {rows : List Row} : aBin Try.prog .neq 52 x y (.fsl o sz rows) (.v (.slice none 0 0)) = some (if rows.isEmpty then .anyb else .v (.bool true)) := ev_nilN fxSl52
theorem fxOe52 {x y : Operand} {a b c d e : Nat} : aBin Try.prog .eql 52 x y (.osl a b c d e) (.v (.slice none 0 0)) = some (.v (.bool false)) := ev_nilOe fxSl52
theorem fxOn52 {x y : Operand} {a b c d e : Nat} : aBin Try.prog .neq 52 x y (.osl a b c d e) (.v (.slice none 0 0)) = some (.v (.bool true)) := ev_nilOn fxSl52
theorem fxXe52 {x y : Operand} : aBin Try.prog .eql 52 x y .esl (.v (.slice none 0 0)) = some .anyb := ev_nilXe fxSl52
theorem fxXn52 {x y : Operand} : aBin Try.prog .neq 52 x y .esl (.v (.slice none 0 0)) = some .anyb := ev_nilXn fxSl52
theorem fxLn60 : asV (pr Try.prog (Builtin.len_ #[60] 0 #[.slice none 0 0])) = some (.v (.int .i64 0)) := ev_lenN Try.underlying60
theorem fxNe60 {x y : Operand} {o : Bool} {sz : Nat} {rows : List Row} : aBin Try.prog .eql 60 x y (.fsl o sz rows) (.v (.slice none 0 0)) = some (if rows.isEmpty then .anyb else .v (.bool false)) := ev_nilE fxSl60
theorem fxNn60 {x y : Operand} {o : Bool} {sz : Nat} {rows : List Row} : aBin Try.prog .neq 60 x y (.fsl o sz rows) (.v (.slice none 0 0)) = some (if rows.isEmpty then .anyb else .v (.bool true)) := ev_nilN fxSl60
theorem fxOe60 {x y : Operand} {a b c d e : Nat} : aBin Try.prog .eql 60 x y (.osl a b c d e) (.v (.slice none 0 0)) = some (.v (.bool false)) := ev_nilOe fxSl60
theorem fxOn60 {x y : Operand} {a b c d e : Nat} : aBin Try.prog .neq 60 x y (.osl a b c d e) (.v (.slice none 0 0)) = some (.v (.bool true)) := ev_nilOn fxSl60
theorem fxXe60 {x y : Operand} : aBin Try.prog .eql 60 x y .esl (.v (.slice none 0 0)) = some .anyb := ev_nilXe fxSl60
theorem fxXn60 {x y : Operand} : aBin Try.prog .neq 60 x y .esl (.v (.slice none 0 0)) = some .anyb := ev_nilXn fxSl60
theorem fxLn61 : asV (pr Try.prog (Builtin.len_ #[61] 0 #[.slice none 0 0])) = some (.v (.int .i64 0)) := ev_lenN Try.underlying61
theorem fxNe61 {x y : Operand} {o : Bool} {sz : Nat} {rows : List Row} : aBin Try.prog .eql 61 x y (.fsl o sz rows) (.v (.slice none 0 0)) = some (if rows.isEmpty then .anyb else .v (.bool false)) := ev_nilE fxSl61
theorem fxNn61 {x y : Operand} {o : Bool} {sz : Nat} {rows : List Row} : aBin Try.prog .neq 61 x y (.fsl o sz rows) (.v (.slice none 0 0)) = some (if rows.isEmpty then .anyb else .v (.bool true)) := ev_nilN fxSl61
theorem fxOe61 {x y : Operand} {a b c d e : Nat} : aBin Try.prog .eql 61 x y (.osl a b c d e) (.v (.slice none 0 0)) = some (.v (.bool false)) := ev_nilOe fxSl61
theorem fxOn61 {x y : Operand} {a b c d e : Nat} : aBin Try.prog .neq 61 x y (.osl a b c d e) (.v (.slice none 0 0)) = some (.v (.bool true)) := ev_nilOn fxSl61
theorem fxXe61 {x y : Operand} : aBin Try.prog .eql 61 x y .esl (.v (.slice none 0 0)) = some .anyb := ev_nilXe fxSl61
theorem fxXn61 {x y : Operand} : aBin Try.prog .neq 61 x y .esl (.v (.slice none 0 0)) = some .anyb := ev_nilXn fxSl61
theorem fxLn76 : asV (pr Try.prog (Builtin.len_ #[76] 0 #[.slice none 0 0])) = some (.v (.int .i64 0)) := ev_lenN Try.underlying76
theorem fxNe76 {x y : Operand} {o : Bool} {sz : Nat} {rows : List Row} : aBin Try.prog .eql 76 x y (.fsl o sz rows) (.v (.slice none 0 0)) = some (if rows.isEmpty then .anyb else .v (.bool false)) := ev_nilE fxSl76
theorem fxNn76 {x y : Operand} {o : Bool} {sz : Nat} {rows : List Row} : aBin Try.prog .neq 76 x y (.fsl o sz rows) (.v (.slice none 0 0)) = some (if rows.isEmpty then .anyb else .v (.bool true)) := ev_nilN fxSl76
theorem fxOe76 {x y : Operand} {a b c d e : Nat} : aBin Try.prog .eql 76 x y (.osl a b c d e) (.v (.slice none 0 0)) = some (.v (.bool false)) := ev_nilOe fxSl76
theorem fxOn76 {x y : Operand} {a b c d e : Nat} : aBin Try.prog .neq 76 x y (.osl a b c d e) (.v (.slice none 0 0)) = some (.v (.bool true)) := ev_nilOn fxSl76
theorem fxXe76 {x y : Operand} : aBin Try.prog .eql 76 x y .esl (.v (.slice none 0 0)) = some .anyb := ev_nilXe fxSl76
theorem fxXn76 {x y : Operand} : aBin Try.prog .neq 76 x y .esl (.v (.slice none 0 0)) = some .anyb := ev_nilXn fxSl76
theorem fxFn3 : Try.prog.funcs[(3 : Nat)]? = some Try.f3 := Try.func3
theorem fxFm3 : (Try.f3.name == "runtime.NumGoroutine") = false := by kernel_rfl
theorem fxFb3 : (Try.f3.name == "runtime.NumGoroutine" || Try.f3.body.isNone) = false := by kernel_rfl
theorem fxFi3 : Try.f3.body.isNone = false := by kernel_rfl
theorem fxFj3 : (Try.f3.body = none) = False := eq_false (fun h => by have := fxFi3; rw [h] at this; cases this)
theorem fxFn4 : Try.prog.funcs[(4 : Nat)]? = some Try.f4 := Try.func4
theorem fxFm4 : (Try.f4.name == "runtime.NumGoroutine") = false := by kernel_rfl
theorem fxFb4 : (Try.f4.name == "runtime.NumGoroutine" || Try.f4.body.isNone) = false := by kernel_rfl
theorem fxFi4 : Try.f4.body.isNone = false := by kernel_rfl
theorem fxFj4 : (Try.f4.body = none) = False := eq_false (fun h => by have := fxFi4; rw [h] at this; cases this)
theorem fxFn5 : Try.prog.funcs[(5 : Nat)]? = some Try.f5 := Try.func5
theorem fxFm5 : (Try.f5.name == "runtime.NumGoroutine") = false := by kernel_rfl
theorem fxFb5 : (Try.f5.name == "runtime.NumGoroutine" || Try.f5.body.isNone) = false := by kernel_rfl
theorem fxFi5 : Try.f5.body.isNone = false := by kernel_rfl
theorem fxFj5 : (Try.f5.body = none) = False := eq_false (fun h => by have := fxFi5; rw [h] at this; cases this)
theorem fxFn6 : Try.prog.funcs[(6 : Nat)]? = some Try.f6 := Try.func6
theorem fxFm6 : (Try.f6.name == "runtime.NumGoroutine") = false := by kernel_rfl
theorem fxFb6 : (Try.f6.name == "runtime.NumGoroutine" || Try.f6.body.isNone) = false := by kernel_rfl
theorem fxFi6 : Try.f6.body.isNone = false := by kernel_rfl
theorem fxFj6 : (Try.f6.body = none) = False := eq_false (fun h => by have := fxFi6; rw [h] at this; cases this)
theorem fxFn7 : Try.prog.funcs[(7 : Nat)]? = some Try.f7 := Try.func7
theorem fxFm7 : (Try.f7.name == "runtime.NumGoroutine") = false := by kernel_rfl
theorem fxFb7 : (Try.f7.name == "runtime.NumGoroutine" || Try.f7.body.isNone) = false := by kernel_rfl
theorem fxFi7 : Try.f7.body.isNone = false := by kernel_rfl
theorem fxFj7 : (Try.f7.body = none) = False := eq_false (fun h => by have := fxFi7; rw [h] at this; cases this)
theorem fxFn8 : Try.prog.funcs[(8 : Nat)]? = some Try.f8 := Try.func8
theorem fxFm8 : (Try.f8.name == "runtime.NumGoroutine") = false := by kernel_rfl
theorem fxFb8 : (Try.f8.name == "runtime.NumGoroutine" || Try.f8.body.isNone) = false := by kernel_rfl
theorem fxFi8 : Try.f8.body.isNone = false := by kernel_rfl
theorem fxFj8 : (Try.f8.body = none) = False := eq_false (fun h => by have := fxFi8; rw [h] at this; cases this)
theorem fxFn9 : Try.prog.funcs[(9 : Nat)]? = some Try.f9 := Try.func9
theorem fxFm9 : (Try.f9.name == "runtime.NumGoroutine") = false := by kernel_rfl
theorem fxFb9 : (Try.f9.name == "runtime.NumGoroutine" || Try.f9.body.isNone) = false := by kernel_rfl
theorem fxFi9 : Try.f9.body.isNone = false := by kernel_rfl
theorem fxFj9 : (Try.f9.body = none) = False := eq_false (fun h => by have := fxFi9; rw [h] at this; cases this)
theorem fxFn10 : Try.prog.funcs[(10 : Nat)]? = some Try.f10 := Try.func10
theorem fxFm10 : (Try.f10.name == "runtime.NumGoroutine") = false := by kernel_rfl
theorem fxFb10 : (Try.f10.name == "runtime.NumGoroutine" || Try.f10.body.isNone) = false := by kernel_rfl
theorem fxFi10 : Try.f10.body.isNone = false := by kernel_rfl
theorem fxFj10 : (Try.f10.body = none) = False := eq_false (fun h => by have := fxFi10; rw [h] at this; cases this)
theorem fxFn11 : Try.prog.funcs[(11 : Nat)]? = some Try.f11 := Try.func11
theorem fxFm11 : (Try.f11.name == "runtime.NumGoroutine") = false := by kernel_rfl
theorem fxFb11 : (Try.f11.name == "runtime.NumGoroutine" || Try.f11.body.isNone) = false := by kernel_rfl
theorem fxFi11 : Try.f11.body.isNone = false := by kernel_rfl
theorem fxFj11 : (Try.f11.body = none) = False := eq_false (fun h => by have := fxFi11; rw [h] at this; cases this)
theorem fxFn12 : Try.prog.funcs[(12 : Nat)]? = some Try.f12 := Try.func12
theorem fxFm12 : (Try.f12.name == "runtime.NumGoroutine") = false := by kernel_rfl
theorem fxFb12 : (Try.f12.name == "runtime.NumGoroutine" || Try.f12.body.isNone) = false := by kernel_rfl
theorem fxFi12 : Try.f12.body.isNone = false := by kernel_rfl
theorem fxFj12 : (Try.f12.body = none) = False := eq_false (fun h => by have := fxFi12; rw [h] at this; cases this)
theorem fxFn13 : Try.prog.funcs[(13 : Nat)]? = some Try.f13 := Try.func13
theorem fxFm13 : (Try.f13.name == "runtime.NumGoroutine") = false := by kernel_rfl
theorem fxFb13 : (Try.f13.name == "runtime.NumGoroutine" || Try.f13.body.isNone) = false := by kernel_rfl
theorem fxFi13 : Try.f13.body.isNone = false := by kernel_rfl
theorem fxFj13 : (Try.f13.body = none) = False := eq_false (fun h => by have := fxFi13; rw [h] at this; cases this)
theorem fxFn14 : Try.prog.funcs[(14 : Nat)]? = some Try.f14 := Try.func14
theorem fxFm14 : (Try.f14.name == "runtime.NumGoroutine") = false := by kernel_rfl
theorem fxFb14 : (Try.f14.name == "runtime.NumGoroutine" || Try.f14.body.isNone) = false := by kernel_rfl
theorem fxFi14 : Try.f14.body.isNone = false := by kernel_rfl
theorem fxFj14 : (Try.f14.body = none) = False := eq_false (fun h => by have := fxFi14; rw [h] at this; cases this)
theorem fxFn15 : Try.prog.funcs[(15 : Nat)]? = some Try.f15 := Try.func15
theorem fxFm15 : (Try.f15.name == "runtime.NumGoroutine") = false := by kernel_rfl
theorem fxFb15 : (Try.f15.name == "runtime.NumGoroutine" || Try.f15.body.isNone) = false := by kernel_rfl
theorem fxFi15 : Try.f15.body.isNone = false := by kernel_rfl
theorem fxFj15 : (Try.f15.body = none) = False := eq_false (fun h => by have := fxFi15; rw [h] at this; cases this)
theorem fxFn16 : Try.prog.funcs[(16 : Nat)]? = some Try.f16 := Try.func16
theorem fxFm16 : (Try.f16.name == "runtime.NumGoroutine") = false := by kernel_rfl
theorem fxFb16 : (Try.f16.name == "runtime.NumGoroutine" || Try.f16.body.isNone) = false := by kernel_rfl
theorem fxFi16 : Try.f16.body.isNone = false := by kernel_rfl
theorem fxFj16 : (Try.f16.body = none) = False := eq_false (fun h => by have := fxFi16; rw [h] at this; cases this)
theorem fxFn17 : Try.prog.funcs[(17 : Nat)]? = some Try.f17 := Try.func17
theorem fxFm17 : (Try.f17.name == "runtime.NumGoroutine") = false := by kernel_rfl
theorem fxFb17 : (Try.f17.name == "runtime.NumGoroutine" || Try.f17.body.isNone) = false := by kernel_rfl
theorem fxFi17 : Try.f17.body.isNone = false := by kernel_rfl
theorem fxFj17 : (Try.f17.body = none) = False := eq_false (fun h => by have := fxFi17; rw [h] at this; cases this)
theorem fxFn18 : Try.prog.funcs[(18 : Nat)]? = some Try.f18 := Try.func18
theorem fxFm18 : (Try.f18.name == "runtime.NumGoroutine") = false := by kernel_rfl
theorem fxFb18 : (Try.f18.name == "runtime.NumGoroutine" || Try.f18.body.isNone) = false := by kernel_rfl
theorem fxFi18 : Try.f18.body.isNone = false := by kernel_rfl
theorem fxFj18 : (Try.f18.body = none) = False := eq_false (fun h => by have := fxFi18; rw [h] at this; cases this)
theorem fxFn19 : Try.prog.funcs[(19 : Nat)]? = some Try.f19 := Try.func19
theorem fxFm19 : (Try.f19.name == "runtime.NumGoroutine") = false := by kernel_rfl
theorem fxFb19 : (Try.f19.name == "runtime.NumGoroutine" || Try.f19.body.isNone) = false := by kernel_rfl
theorem fxFi19 : Try.f19.body.isNone = false := by kernel_rfl
theorem fxFj19 : (Try.f19.body = none) = False := eq_false (fun h => by have := fxFi19; rw [h] at this; cases this)
theorem fxFn20 : Try.prog.funcs[(20 : Nat)]? = some Try.f20 := Try.func20
theorem fxFm20 : (Try.f20.name == "runtime.NumGoroutine") = false := by kernel_rfl
theorem fxFb20 : (Try.f20.name == "runtime.NumGoroutine" || Try.f20.body.isNone) = false := by kernel_rfl
theorem fxFi20 : Try.f20.body.isNone = false := by kernel_rfl
theorem fxFj20 : (Try.f20.body = none) = False := eq_false (fun h => by have := fxFi20; rw [h] at this; cases this)
theorem fxFn21 : Try.prog.funcs[(21 : Nat)]? = some Try.f21 := Try.func21
theorem fxFm21 : (Try.f21.name == "runtime.NumGoroutine") = false := by kernel_rfl
theorem fxFb21 : (Try.f21.name == "runtime.NumGoroutine" || Try.f21.body.isNone) = false := by kernel_rfl
theorem fxFi21 : Try.f21.body.isNone = false := by kernel_rfl
theorem fxFj21 : (Try.f21.body = none) = False := eq_false (fun h => by have := fxFi21; rw [h] at this; cases this)
theorem fxFn22 : Try.prog.funcs[(22 : Nat)]? = some Try.f22 := Try.func22
theorem fxFm22 : (Try.f22.name == "runtime.NumGoroutine") = false := by kernel_rfl
theorem fxFb22 : (Try.f22.name == "runtime.NumGoroutine" || Try.f22.body.isNone) = false := by kernel_rfl
theorem fxFi22 : Try.f22.body.isNone = false := by kernel_rfl
theorem fxFj22 : (Try.f22.body = none) = False := eq_false (fun h => by have := fxFi22; rw [h] at this; cases this)
theorem fxFn23 : Try.prog.funcs[(23 : Nat)]? = some Try.f23 := Try.func23
theorem fxFm23 : (Try.f23.name == "runtime.NumGoroutine") = false := by kernel_rfl
theorem fxFb23 : (Try.f23.name == "runtime.NumGoroutine" || Try.f23.body.isNone) = false := by kernel_rfl
theorem fxFi23 : Try.f23.body.isNone = false := by kernel_rfl
theorem fxFj23 : (Try.f23.body = none) = False := eq_false (fun h => by have := fxFi23; rw [h] at this; cases this)
theorem fxFn24 : Try.prog.funcs[(24 : Nat)]? = some Try.f24 := Try.func24
theorem fxFm24 : (Try.f24.name == "runtime.NumGoroutine") = false := by kernel_rfl
theorem fxFb24 : (Try.f24.name == "runtime.NumGoroutine" || Try.f24.body.isNone) = false := by kernel_rfl
theorem fxFi24 : Try.f24.body.isNone = false := by kernel_rfl
theorem fxFj24 : (Try.f24.body = none) = False := eq_false (fun h => by have := fxFi24; rw [h] at this; cases this)
theorem fxFn25 : Try.prog.funcs[(25 : Nat)]? = some Try.f25 := Try.func25
theorem fxFm25 : (Try.f25.name == "runtime.NumGoroutine") = false := by kernel_rfl
theorem fxFb25 : (Try.f25.name == "runtime.NumGoroutine" || Try.f25.body.isNone) = false := by kernel_rfl
theorem fxFi25 : Try.f25.body.isNone = false := by kernel_rfl
theorem fxFj25 : (Try.f25.body = none) = False := eq_false (fun h => by have := fxFi25; rw [h] at this; cases this)
theorem fxFn26 : Try.prog.funcs[(26 : Nat)]? = some Try.f26 := Try.func26
theorem fxFm26 : (Try.f26.name == "runtime.NumGoroutine") = false := by kernel_rfl
theorem fxFb26 : (Try.f26.name == "runtime.NumGoroutine" || Try.f26.body.isNone) = false := by kernel_rfl
theorem fxFi26 : Try.f26.body.isNone = false := by kernel_rfl
theorem fxFj26 : (Try.f26.body = none) = False := eq_false (fun h => by have := fxFi26; rw [h] at this; cases this)
theorem fxFn27 : Try.prog.funcs[(27 : Nat)]? = some Try.f27 := Try.func27
theorem fxFm27 : (Try.f27.name == "runtime.NumGoroutine") = false := by kernel_rfl
theorem fxFb27 : (Try.f27.name == "runtime.NumGoroutine" || Try.f27.body.isNone) = false := by kernel_rfl
theorem fxFi27 : Try.f27.body.isNone = false := by kernel_rfl
theorem fxFj27 : (Try.f27.body = none) = False := eq_false (fun h => by have := fxFi27; rw [h] at this; cases this)
theorem fxFn28 : Try.prog.funcs[(28 : Nat)]? = some Try.f28 := Try.func28
theorem fxFm28 : (Try.f28.name == "runtime.NumGoroutine") = false := by kernel_rfl
theorem fxFb28 : (Try.f28.name == "runtime.NumGoroutine" || Try.f28.body.isNone) = false := by kernel_rfl
theorem fxFi28 : Try.f28.body.isNone = false := by kernel_rfl
theorem fxFj28 : (Try.f28.body = none) = False := eq_false (fun h => by have := fxFi28; rw [h] at this; cases this)
theorem fxFn29 : Try.prog.funcs[(29 : Nat)]? = some Try.f29 := Try.func29
theorem fxFm29 : (Try.f29.name == "runtime.NumGoroutine") = false := by kernel_rfl
theorem fxFb29 : (Try.f29.name == "runtime.NumGoroutine" || Try.f29.body.isNone) = false := by kernel_rfl
theorem fxFi29 : Try.f29.body.isNone = false := by kernel_rfl
theorem fxFj29 : (Try.f29.body = none) = False := eq_false (fun h => by have := fxFi29; rw [h] at this; cases this)
theorem fxFn30 : Try.prog.funcs[(30 : Nat)]? = some Try.f30 := Try.func30
theorem fxFm30 : (Try.f30.name == "runtime.NumGoroutine") = false := by kernel_rfl
theorem fxFb30 : (Try.f30.name == "runtime.NumGoroutine" || Try.f30.body.isNone) = false := by kernel_rfl
theorem fxFi30 : Try.f30.body.isNone = false := by kernel_rfl
theorem fxFj30 : (Try.f30.body = none) = False := eq_false (fun h => by have := fxFi30; rw [h] at this; cases this)
theorem fxFn31 : Try.prog.funcs[(31 : Nat)]? = some Try.f31 := Try.func31
theorem fxFm31 : (Try.f31.name == "runtime.NumGoroutine") = false := by kernel_rfl
theorem fxFb31 : (Try.f31.name == "runtime.NumGoroutine" || Try.f31.body.isNone) = false := by kernel_rfl
theorem fxFi31 : Try.f31.body.isNone = false := by kernel_rfl
theorem fxFj31 : (Try.f31.body = none) = False := eq_false (fun h => by have := fxFi31; rw [h] at this; cases this)
theorem fxFn32 : Try.prog.funcs[(32 : Nat)]? = some Try.f32 := Try.func32
theorem fxFm32 : (Try.f32.name == "runtime.NumGoroutine") = false := by kernel_rfl
theorem fxFb32 : (Try.f32.name == "runtime.NumGoroutine" || Try.f32.body.isNone) = false := by kernel_rfl
theorem fxFi32 : Try.f32.body.isNone = false := by kernel_rfl
theorem fxFj32 : (Try.f32.body = none) = False := eq_false (fun h => by have := fxFi32; rw [h] at this; cases this)
theorem fxFn33 : Try.prog.funcs[(33 : Nat)]? = some Try.f33 := Try.func33
theorem fxFm33 : (Try.f33.name == "runtime.NumGoroutine") = false := by kernel_rfl
theorem fxFb33 : (Try.f33.name == "runtime.NumGoroutine" || Try.f33.body.isNone) = false := by kernel_rfl
theorem fxFi33 : Try.f33.body.isNone = false := by kernel_rfl
theorem fxFj33 : (Try.f33.body = none) = False := eq_false (fun h => by have := fxFi33; rw [h] at this; cases this)
theorem fxFn34 : Try.prog.funcs[(34 : Nat)]? = some Try.f34 := Try.func34
theorem fxFm34 : (Try.f34.name == "runtime.NumGoroutine") = false := by kernel_rfl
theorem fxFb34 : (Try.f34.name == "runtime.NumGoroutine" || Try.f34.body.isNone) = false := by kernel_rfl
theorem fxFi34 : Try.f34.body.isNone = false := by kernel_rfl
theorem fxFj34 : (Try.f34.body = none) = False := eq_false (fun h => by have := fxFi34; rw [h] at this; cases this)
theorem fxFn35 : Try.prog.funcs[(35 : Nat)]? = some Try.f35 := Try.func35
theorem fxFm35 : (Try.f35.name == "runtime.NumGoroutine") = false := by kernel_rfl
theorem fxFb35 : (Try.f35.name == "runtime.NumGoroutine" || Try.f35.body.isNone) = false := by kernel_rfl
theorem fxFi35 : Try.f35.body.isNone = false := by kernel_rfl
theorem fxFj35 : (Try.f35.body = none) = False := eq_false (fun h => by have := fxFi35; rw [h] at this; cases this)
theorem fxFn36 : Try.prog.funcs[(36 : Nat)]? = some Try.f36 := Try.func36
theorem fxFm36 : (Try.f36.name == "runtime.NumGoroutine") = false := by kernel_rfl
theorem fxFb36 : (Try.f36.name == "runtime.NumGoroutine" || Try.f36.body.isNone) = false := by kernel_rfl
theorem fxFi36 : Try.f36.body.isNone = false := by kernel_rfl
theorem fxFj36 : (Try.f36.body = none) = False := eq_false (fun h => by have := fxFi36; rw [h] at this; cases this)
theorem fxFn37 : Try.prog.funcs[(37 : Nat)]? = some Try.f37 := Try.func37
theorem fxFm37 : (Try.f37.name == "runtime.NumGoroutine") = false := by kernel_rfl
theorem fxFb37 : (Try.f37.name == "runtime.NumGoroutine" || Try.f37.body.isNone) = false := by kernel_rfl
theorem fxFi37 : Try.f37.body.isNone = false := by kernel_rfl
theorem fxFj37 : (Try.f37.body = none) = False := eq_false (fun h => by have := fxFi37; rw [h] at this; cases this)
theorem fxFn38 : Try.prog.funcs[(38 : Nat)]? = some Try.f38 := Try.func38
theorem fxFm38 : (Try.f38.name == "runtime.NumGoroutine") = false := by kernel_rfl
theorem fxFb38 : (Try.f38.name == "runtime.NumGoroutine" || Try.f38.body.isNone) = false := by kernel_rfl
theorem fxFi38 : Try.f38.body.isNone = false := by kernel_rfl
theorem fxFj38 : (Try.f38.body = none) = False := eq_false (fun h => by have := fxFi38; rw [h] at this; cases this)
theorem fxFn39 : Try.prog.funcs[(39 : Nat)]? = some Try.f39 := Try.func39
theorem fxFm39 : (Try.f39.name == "runtime.NumGoroutine") = false := by kernel_rfl
theorem fxFb39 : (Try.f39.name == "runtime.NumGoroutine" || Try.f39.body.isNone) = false := by kernel_rfl
theorem fxFi39 : Try.f39.body.isNone = false := by kernel_rfl
theorem fxFj39 : (Try.f39.body = none) = False := eq_false (fun h => by have := fxFi39; rw [h] at this; cases this)
theorem fxFn40 : Try.prog.funcs[(40 : Nat)]? = some Try.f40 := Try.func40
theorem fxFm40 : (Try.f40.name == "runtime.NumGoroutine") = false := by kernel_rfl
theorem fxFb40 : (Try.f40.name == "runtime.NumGoroutine" || Try.f40.body.isNone) = false := by kernel_rfl
theorem fxFi40 : Try.f40.body.isNone = false := by kernel_rfl
theorem fxFj40 : (Try.f40.body = none) = False := eq_false (fun h => by have := fxFi40; rw [h] at this; cases this)
theorem fxFn41 : Try.prog.funcs[(41 : Nat)]? = some Try.f41 := Try.func41
theorem fxFm41 : (Try.f41.name == "runtime.NumGoroutine") = false := by kernel_rfl
theorem fxFb41 : (Try.f41.name == "runtime.NumGoroutine" || Try.f41.body.isNone) = false := by kernel_rfl
theorem fxFi41 : Try.f41.body.isNone = false := by kernel_rfl
theorem fxFj41 : (Try.f41.body = none) = False := eq_false (fun h => by have := fxFi41; rw [h] at this; cases this)
theorem fxFn42 : Try.prog.funcs[(42 : Nat)]? = some Try.f42 := Try.func42
theorem fxFm42 : (Try.f42.name == "runtime.NumGoroutine") = false := by kernel_rfl
theorem fxFb42 : (Try.f42.name == "runtime.NumGoroutine" || Try.f42.body.isNone) = false := by kernel_rfl
theorem fxFi42 : Try.f42.body.isNone = false := by kernel_rfl
theorem fxFj42 : (Try.f42.body = none) = False := eq_false (fun h => by have := fxFi42; rw [h] at this; cases this)
theorem fxFn43 : Try.prog.funcs[(43 : Nat)]? = some Try.f43 := Try.func43
theorem fxFm43 : (Try.f43.name == "runtime.NumGoroutine") = false := by kernel_rfl
theorem fxFb43 : (Try.f43.name == "runtime.NumGoroutine" || Try.f43.body.isNone) = false := by kernel_rfl
theorem fxFi43 : Try.f43.body.isNone = false := by kernel_rfl
theorem fxFj43 : (Try.f43.body = none) = False := eq_false (fun h => by have := fxFi43; rw [h] at this; cases this)
theorem fxFn44 : Try.prog.funcs[(44 : Nat)]? = some Try.f44 := Try.func44
theorem fxFm44 : (Try.f44.name == "runtime.NumGoroutine") = false := by kernel_rfl
theorem fxFb44 : (Try.f44.name == "runtime.NumGoroutine" || Try.f44.body.isNone) = false := by kernel_rfl
theorem fxFi44 : Try.f44.body.isNone = false := by kernel_rfl
theorem fxFj44 : (Try.f44.body = none) = False := eq_false (fun h => by have := fxFi44; rw [h] at this; cases this)
theorem fxFn45 : Try.prog.funcs[(45 : Nat)]? = some Try.f45 := Try.func45
theorem fxFm45 : (Try.f45.name == "runtime.NumGoroutine") = false := by kernel_rfl
theorem fxFb45 : (Try.f45.name == "runtime.NumGoroutine" || Try.f45.body.isNone) = false := by kernel_rfl
theorem fxFi45 : Try.f45.body.isNone = false := by kernel_rfl
theorem fxFj45 : (Try.f45.body = none) = False := eq_false (fun h => by have := fxFi45; rw [h] at this; cases this)
theorem fxFn46 : Try.prog.funcs[(46 : Nat)]? = some Try.f46 := Try.func46
theorem fxFm46 : (Try.f46.name == "runtime.NumGoroutine") = false := by kernel_rfl
theorem fxFb46 : (Try.f46.name == "runtime.NumGoroutine" || Try.f46.body.isNone) = false := by kernel_rfl
theorem fxFi46 : Try.f46.body.isNone = false := by kernel_rfl
theorem fxFj46 : (Try.f46.body = none) = False := eq_false (fun h => by have := fxFi46; rw [h] at this; cases this)
theorem fxFn47 : Try.prog.funcs[(47 : Nat)]? = some Try.f47 := Try.func47
theorem fxFm47 : (Try.f47.name == "runtime.NumGoroutine") = false := by kernel_rfl
theorem fxFb47 : (Try.f47.name == "runtime.NumGoroutine" || Try.f47.body.isNone) = false := by kernel_rfl
theorem fxFi47 : Try.f47.body.isNone = false := by kernel_rfl
theorem fxFj47 : (Try.f47.body = none) = False := eq_false (fun h => by have := fxFi47; rw [h] at this; cases this)
theorem fxFn48 : Try.prog.funcs[(48 : Nat)]? = some Try.f48 := Try.func48
theorem fxFm48 : (Try.f48.name == "runtime.NumGoroutine") = false := by kernel_rfl
theorem fxFb48 : (Try.f48.name == "runtime.NumGoroutine" || Try.f48.body.isNone) = false := by kernel_rfl
theorem fxFi48 : Try.f48.body.isNone = false := by kernel_rfl
theorem fxFj48 : (Try.f48.body = none) = False := eq_false (fun h => by have := fxFi48; rw [h] at this; cases this)
theorem fxFn49 : Try.prog.funcs[(49 : Nat)]? = some Try.f49 := Try.func49
theorem fxFm49 : (Try.f49.name == "runtime.NumGoroutine") = false := by kernel_rfl
theorem fxFb49 : (Try.f49.name == "runtime.NumGoroutine" || Try.f49.body.isNone) = false := by kernel_rfl
theorem fxFi49 : Try.f49.body.isNone = false := by kernel_rfl
theorem fxFj49 : (Try.f49.body = none) = False := eq_false (fun h => by have := fxFi49; rw [h] at this; cases this)
theorem fxFn50 : Try.prog.funcs[(50 : Nat)]? = some Try.f50 := Try.func50
theorem fxFm50 : (Try.f50.name == "runtime.NumGoroutine") = false := by kernel_rfl
theorem fxFb50 : (Try.f50.name == "runtime.NumGoroutine" || Try.f50.body.isNone) = false := by kernel_rfl
theorem fxFi50 : Try.f50.body.isNone = false := by kernel_rfl
theorem fxFj50 : (Try.f50.body = none) = False := eq_false (fun h => by have := fxFi50; rw [h] at this; cases this)
theorem fxFn51 : Try.prog.funcs[(51 : Nat)]? = some Try.f51 := Try.func51
theorem fxFm51 : (Try.f51.name == "runtime.NumGoroutine") = false := by kernel_rfl
theorem fxFb51 : (Try.f51.name == "runtime.NumGoroutine" || Try.f51.body.isNone) = false := by kernel_rfl
theorem fxFi51 : Try.f51.body.isNone = false := by kernel_rfl
theorem fxFj51 : (Try.f51.body = none) = False := eq_false (fun h => by have := fxFi51; rw [h] at this; cases this)
theorem fxFn52 : Try.prog.funcs[(52 : Nat)]? = some Try.f52 := Try.func52
theorem fxFm52 : (Try.f52.name == "runtime.NumGoroutine") = false := by kernel_rfl
theorem fxFb52 : (Try.f52.name == "runtime.NumGoroutine" || Try.f52.body.isNone) = false := by kernel_rfl
theorem fxFi52 : Try.f52.body.isNone = false := by kernel_rfl
theorem fxFj52 : (Try.f52.body = none) = False := eq_false (fun h => by have := fxFi52; rw [h] at this; cases this)
theorem fxFn53 : Try.prog.funcs[(53 : Nat)]? = some Try.f53 := Try.func53
theorem fxFm53 : (Try.f53.name == "runtime.NumGoroutine") = false := by kernel_rfl
theorem fxFb53 : (Try.f53.name == "runtime.NumGoroutine" || Try.f53.body.isNone) = false := by kernel_rfl
theorem fxFi53 : Try.f53.body.isNone = false := by kernel_rfl
theorem fxFj53 : (Try.f53.body = none) = False := eq_false (fun h => by have := fxFi53; rw [h] at this; cases this)
theorem fxFn54 : Try.prog.funcs[(54 : Nat)]? = some Try.f54 := Try.func54
theorem fxFm54 : (Try.f54.name == "runtime.NumGoroutine") = false := by kernel_rfl
theorem fxFb54 : (Try.f54.name == "runtime.NumGoroutine" || Try.f54.body.isNone) = false := by kernel_rfl
theorem fxFi54 : Try.f54.body.isNone = false := by kernel_rfl
theorem fxFj54 : (Try.f54.body = none) = False := eq_false (fun h => by have := fxFi54; rw [h] at this; cases this)
theorem fxFn55 : Try.prog.funcs[(55 : Nat)]? = some Try.f55 := Try.func55
theorem fxFm55 : (Try.f55.name == "runtime.NumGoroutine") = false := by kernel_rfl
theorem fxFb55 : (Try.f55.name == "runtime.NumGoroutine" || Try.f55.body.isNone) = false := by kernel_rfl
theorem fxFi55 : Try.f55.body.isNone = false := by kernel_rfl
theorem fxFj55 : (Try.f55.body = none) = False := eq_false (fun h => by have := fxFi55; rw [h] at this; cases this)
theorem fxFn56 : Try.prog.funcs[(56 : Nat)]? = some Try.f56 := Try.func56
theorem fxFm56 : (Try.f56.name == "runtime.NumGoroutine") = false := by kernel_rfl
theorem fxFb56 : (Try.f56.name == "runtime.NumGoroutine" || Try.f56.body.isNone) = false := by kernel_rfl
theorem fxFi56 : Try.f56.body.isNone = false := by kernel_rfl
theorem fxFj56 : (Try.f56.body = none) = False := eq_false (fun h => by have := fxFi56; rw [h] at this; cases this)
theorem fxFn57 : Try.prog.funcs[(57 : Nat)]? = some Try.f57 := Try.func57
theorem fxFm57 : (Try.f57.name == "runtime.NumGoroutine") = false := by kernel_rfl
theorem fxFb57 : (Try.f57.name == "runtime.NumGoroutine" || Try.f57.body.isNone) = false := by kernel_rfl
theorem fxFi57 : Try.f57.body.isNone = false := by kernel_rfl
theorem fxFj57 : (Try.f57.body = none) = False := eq_false (fun h => by have := fxFi57; rw [h] at this; cases this)
theorem fxFn58 : Try.prog.funcs[(58 : Nat)]? = some Try.f58 := Try.func58
theorem fxFm58 : (Try.f58.name == "runtime.NumGoroutine") = false := by kernel_rfl
theorem fxFb58 : (Try.f58.name == "runtime.NumGoroutine" || Try.f58.body.isNone) = false := by kernel_rfl
theorem fxFi58 : Try.f58.body.isNone = false := by kernel_rfl
theorem fxFj58 : (Try.f58.body = none) = False := eq_false (fun h => by have := fxFi58; rw [h] at this; cases this)
theorem fxFn59 : Try.prog.funcs[(59 : Nat)]? = some Try.f59 := Try.func59
theorem fxFm59 : (Try.f59.name == "runtime.NumGoroutine") = false := by kernel_rfl
theorem fxFb59 : (Try.f59.name == "runtime.NumGoroutine" || Try.f59.body.isNone) = false := by kernel_rfl
theorem fxFi59 : Try.f59.body.isNone = false := by kernel_rfl
theorem fxFj59 : (Try.f59.body = none) = False := eq_false (fun h => by have := fxFi59; rw [h] at this; cases this)
theorem fxFn60 : Try.prog.funcs[(60 : Nat)]? = some Try.f60 := Try.func60
theorem fxFm60 : (Try.f60.name == "runtime.NumGoroutine") = false := by kernel_rfl
theorem fxFb60 : (Try.f60.name == "runtime.NumGoroutine" || Try.f60.body.isNone) = false := by kernel_rfl
theorem fxFi60 : Try.f60.body.isNone = false := by kernel_rfl
theorem fxFj60 : (Try.f60.body = none) = False := eq_false (fun h => by have := fxFi60; rw [h] at this; cases this)
end Go.Proofs.Ytdhpgdfjogklaaa
