/- Facts of the program's tables, each by the kernel. Printed by a program. -/
import Derived.Test.YtebpjfdbjhodiaaProg
import Derived.Test.YtebpjfdbjhodiaaAiZc
import Derived.KernelRfl
namespace Go.Proofs.Ytebpjfdbjhodiaa
open Go.AI
theorem fxMix : Try.prog.follows .mixedOrders = true := by kernel_rfl
theorem fxSz2 : szOf Try.prog 2 = some 1 := by kernel_rfl
theorem fxBy2 : bytesOf Try.prog 2 = some 8 := by kernel_rfl
theorem fxAg2 : aggOf Try.prog 2 = some false := by kernel_rfl
theorem fxZe2 : zeroOf Try.prog 2 = some (.int .i64 0) := by kernel_rfl
theorem fxSl2 : sliceElem Try.prog 2 = none := by kernel_rfl
theorem fxAr2 : arrayOf Try.prog 2 = none := by kernel_rfl
theorem fxPl2 : placesOf Try.prog 2 = none := by kernel_rfl
theorem fxSz3 : szOf Try.prog 3 = some 1 := by kernel_rfl
theorem fxBy3 : bytesOf Try.prog 3 = some 8 := by kernel_rfl
theorem fxAg3 : aggOf Try.prog 3 = some false := by kernel_rfl
theorem fxZe3 : zeroOf Try.prog 3 = some (.int .i64 0) := by kernel_rfl
theorem fxSl3 : sliceElem Try.prog 3 = none := by kernel_rfl
theorem fxAr3 : arrayOf Try.prog 3 = none := by kernel_rfl
theorem fxPl3 : placesOf Try.prog 3 = none := by kernel_rfl
theorem fxSz4 : szOf Try.prog 4 = some 1 := by kernel_rfl
theorem fxBy4 : bytesOf Try.prog 4 = some 1 := by kernel_rfl
theorem fxAg4 : aggOf Try.prog 4 = some false := by kernel_rfl
theorem fxZe4 : zeroOf Try.prog 4 = some (.bool false) := by kernel_rfl
theorem fxSl4 : sliceElem Try.prog 4 = none := by kernel_rfl
theorem fxAr4 : arrayOf Try.prog 4 = none := by kernel_rfl
theorem fxPl4 : placesOf Try.prog 4 = none := by kernel_rfl
theorem fxSz5 : szOf Try.prog 5 = some 1 := by kernel_rfl
theorem fxBy5 : bytesOf Try.prog 5 = some 1 := by kernel_rfl
theorem fxAg5 : aggOf Try.prog 5 = some false := by kernel_rfl
theorem fxZe5 : zeroOf Try.prog 5 = some (.int .u8 0) := by kernel_rfl
theorem fxSl5 : sliceElem Try.prog 5 = none := by kernel_rfl
theorem fxAr5 : arrayOf Try.prog 5 = none := by kernel_rfl
theorem fxPl5 : placesOf Try.prog 5 = none := by kernel_rfl
theorem fxSz9 : szOf Try.prog 9 = some 1 := by kernel_rfl
theorem fxBy9 : bytesOf Try.prog 9 = some 16 := by kernel_rfl
theorem fxAg9 : aggOf Try.prog 9 = some false := by kernel_rfl
theorem fxZe9 : zeroOf Try.prog 9 = some (.string ByteArray.empty) := by kernel_rfl
theorem fxSl9 : sliceElem Try.prog 9 = none := by kernel_rfl
theorem fxAr9 : arrayOf Try.prog 9 = none := by kernel_rfl
theorem fxPl9 : placesOf Try.prog 9 = none := by kernel_rfl
theorem fxSz12 : szOf Try.prog 12 = some 1 := by kernel_rfl
theorem fxBy12 : bytesOf Try.prog 12 = some 8 := by kernel_rfl
theorem fxAg12 : aggOf Try.prog 12 = some false := by kernel_rfl
theorem fxZe12 : zeroOf Try.prog 12 = some (.int .u64 0) := by kernel_rfl
theorem fxSl12 : sliceElem Try.prog 12 = none := by kernel_rfl
theorem fxAr12 : arrayOf Try.prog 12 = none := by kernel_rfl
theorem fxPl12 : placesOf Try.prog 12 = none := by kernel_rfl
theorem fxSz13 : szOf Try.prog 13 = some 2 := by kernel_rfl
theorem fxBy13 : bytesOf Try.prog 13 = some 24 := by kernel_rfl
theorem fxAg13 : aggOf Try.prog 13 = some true := by kernel_rfl
theorem fxZe13 : zeroOf Try.prog 13 = some (.agg #[.string ByteArray.empty, .int .u64 0]) := by kernel_rfl
theorem fxSl13 : sliceElem Try.prog 13 = none := by kernel_rfl
theorem fxAr13 : arrayOf Try.prog 13 = none := by kernel_rfl
theorem fxFi13x0 : fieldOf Try.prog 13 0 = some (0, 1, 9) := by kernel_rfl
theorem fxFi13x1 : fieldOf Try.prog 13 1 = some (1, 1, 12) := by kernel_rfl
theorem fxPl13 : placesOf Try.prog 13 = some [(0, 1), (1, 1)] := by kernel_rfl
theorem fxSz21 : szOf Try.prog 21 = some 1 := by kernel_rfl
theorem fxBy21 : bytesOf Try.prog 21 = some 4 := by kernel_rfl
theorem fxAg21 : aggOf Try.prog 21 = some false := by kernel_rfl
theorem fxZe21 : zeroOf Try.prog 21 = some (.int .i32 0) := by kernel_rfl
theorem fxSl21 : sliceElem Try.prog 21 = none := by kernel_rfl
theorem fxAr21 : arrayOf Try.prog 21 = none := by kernel_rfl
theorem fxPl21 : placesOf Try.prog 21 = none := by kernel_rfl
theorem fxSz22 : szOf Try.prog 22 = some 1 := by kernel_rfl
theorem fxBy22 : bytesOf Try.prog 22 = some 24 := by kernel_rfl
theorem fxAg22 : aggOf Try.prog 22 = some false := by kernel_rfl
theorem fxZe22 : zeroOf Try.prog 22 = some (.slice none 0 0) := by kernel_rfl
theorem fxSl22 : sliceElem Try.prog 22 = some 26 := by kernel_rfl
theorem fxAr22 : arrayOf Try.prog 22 = none := by kernel_rfl
theorem fxPl22 : placesOf Try.prog 22 = none := by kernel_rfl
theorem fxSz23 : szOf Try.prog 23 = some 2 := by kernel_rfl
theorem fxBy23 : bytesOf Try.prog 23 = some 32 := by kernel_rfl
theorem fxAg23 : aggOf Try.prog 23 = some true := by kernel_rfl
theorem fxZe23 : zeroOf Try.prog 23 = some (.agg #[.slice none 0 0, .int .i64 0]) := by kernel_rfl
theorem fxSl23 : sliceElem Try.prog 23 = none := by kernel_rfl
theorem fxAr23 : arrayOf Try.prog 23 = none := by kernel_rfl
theorem fxFi23x0 : fieldOf Try.prog 23 0 = some (0, 1, 22) := by kernel_rfl
theorem fxFi23x1 : fieldOf Try.prog 23 1 = some (1, 1, 3) := by kernel_rfl
theorem fxPl23 : placesOf Try.prog 23 = some [(0, 1), (1, 1)] := by kernel_rfl
theorem fxSz24 : szOf Try.prog 24 = some 2 := by kernel_rfl
theorem fxBy24 : bytesOf Try.prog 24 = some 32 := by kernel_rfl
theorem fxAg24 : aggOf Try.prog 24 = some true := by kernel_rfl
theorem fxZe24 : zeroOf Try.prog 24 = some (.agg #[.slice none 0 0, .int .i64 0]) := by kernel_rfl
theorem fxSl24 : sliceElem Try.prog 24 = none := by kernel_rfl
theorem fxAr24 : arrayOf Try.prog 24 = none := by kernel_rfl
theorem fxFi24x0 : fieldOf Try.prog 24 0 = some (0, 1, 22) := by kernel_rfl
theorem fxFi24x1 : fieldOf Try.prog 24 1 = some (1, 1, 3) := by kernel_rfl
theorem fxPl24 : placesOf Try.prog 24 = some [(0, 1), (1, 1)] := by kernel_rfl
theorem fxSz25 : szOf Try.prog 25 = some 3 := by kernel_rfl
theorem fxBy25 : bytesOf Try.prog 25 = some 16 := by kernel_rfl
theorem fxAg25 : aggOf Try.prog 25 = some true := by kernel_rfl
theorem fxZe25 : zeroOf Try.prog 25 = some (.agg #[.int .i64 0, .bool false, .bool false]) := by kernel_rfl
theorem fxSl25 : sliceElem Try.prog 25 = none := by kernel_rfl
theorem fxAr25 : arrayOf Try.prog 25 = none := by kernel_rfl
theorem fxFi25x0 : fieldOf Try.prog 25 0 = some (0, 1, 3) := by kernel_rfl
theorem fxFi25x1 : fieldOf Try.prog 25 1 = some (1, 1, 4) := by kernel_rfl
theorem fxFi25x2 : fieldOf Try.prog 25 2 = some (2, 1, 4) := by kernel_rfl
theorem fxPl25 : placesOf Try.prog 25 = some [(0, 1), (1, 1), (2, 1)] := by kernel_rfl
theorem fxSz26 : szOf Try.prog 26 = some 3 := by kernel_rfl
theorem fxBy26 : bytesOf Try.prog 26 = some 16 := by kernel_rfl
theorem fxAg26 : aggOf Try.prog 26 = some true := by kernel_rfl
theorem fxZe26 : zeroOf Try.prog 26 = some (.agg #[.int .i64 0, .bool false, .bool false]) := by kernel_rfl
theorem fxSl26 : sliceElem Try.prog 26 = none := by kernel_rfl
theorem fxAr26 : arrayOf Try.prog 26 = none := by kernel_rfl
theorem fxFi26x0 : fieldOf Try.prog 26 0 = some (0, 1, 3) := by kernel_rfl
theorem fxFi26x1 : fieldOf Try.prog 26 1 = some (1, 1, 4) := by kernel_rfl
theorem fxFi26x2 : fieldOf Try.prog 26 2 = some (2, 1, 4) := by kernel_rfl
theorem fxPl26 : placesOf Try.prog 26 = some [(0, 1), (1, 1), (2, 1)] := by kernel_rfl
theorem fxSz27 : szOf Try.prog 27 = some 1 := by kernel_rfl
theorem fxBy27 : bytesOf Try.prog 27 = some 24 := by kernel_rfl
theorem fxAg27 : aggOf Try.prog 27 = some false := by kernel_rfl
theorem fxZe27 : zeroOf Try.prog 27 = some (.slice none 0 0) := by kernel_rfl
theorem fxSl27 : sliceElem Try.prog 27 = some 35 := by kernel_rfl
theorem fxAr27 : arrayOf Try.prog 27 = none := by kernel_rfl
theorem fxPl27 : placesOf Try.prog 27 = none := by kernel_rfl
theorem fxSz28 : szOf Try.prog 28 = some 2 := by kernel_rfl
theorem fxBy28 : bytesOf Try.prog 28 = some 32 := by kernel_rfl
theorem fxAg28 : aggOf Try.prog 28 = some true := by kernel_rfl
theorem fxZe28 : zeroOf Try.prog 28 = some (.agg #[.slice none 0 0, .int .i64 0]) := by kernel_rfl
theorem fxSl28 : sliceElem Try.prog 28 = none := by kernel_rfl
theorem fxAr28 : arrayOf Try.prog 28 = none := by kernel_rfl
theorem fxFi28x0 : fieldOf Try.prog 28 0 = some (0, 1, 27) := by kernel_rfl
theorem fxFi28x1 : fieldOf Try.prog 28 1 = some (1, 1, 3) := by kernel_rfl
theorem fxPl28 : placesOf Try.prog 28 = some [(0, 1), (1, 1)] := by kernel_rfl
theorem fxSz29 : szOf Try.prog 29 = some 2 := by kernel_rfl
theorem fxBy29 : bytesOf Try.prog 29 = some 32 := by kernel_rfl
theorem fxAg29 : aggOf Try.prog 29 = some true := by kernel_rfl
theorem fxZe29 : zeroOf Try.prog 29 = some (.agg #[.slice none 0 0, .int .i64 0]) := by kernel_rfl
theorem fxSl29 : sliceElem Try.prog 29 = none := by kernel_rfl
theorem fxAr29 : arrayOf Try.prog 29 = none := by kernel_rfl
theorem fxFi29x0 : fieldOf Try.prog 29 0 = some (0, 1, 27) := by kernel_rfl
theorem fxFi29x1 : fieldOf Try.prog 29 1 = some (1, 1, 3) := by kernel_rfl
theorem fxPl29 : placesOf Try.prog 29 = some [(0, 1), (1, 1)] := by kernel_rfl
theorem fxSz33 : szOf Try.prog 33 = some 16 := by kernel_rfl
theorem fxBy33 : bytesOf Try.prog 33 = some 16 := by kernel_rfl
theorem fxAg33 : aggOf Try.prog 33 = some true := by kernel_rfl
theorem fxZe33 : zeroOf Try.prog 33 = some (.agg #[.int .u8 0, .int .u8 0, .int .u8 0, .int .u8 0, .int .u8 0, .int .u8 0, .int .u8 0, .int .u8 0, .int .u8 0, .int .u8 0, .int .u8 0, .int .u8 0, .int .u8 0, .int .u8 0, .int .u8 0, .int .u8 0]) := by kernel_rfl
theorem fxSl33 : sliceElem Try.prog 33 = none := by kernel_rfl
theorem fxAr33 : arrayOf Try.prog 33 = some (16, 5) := by kernel_rfl
theorem fxPl33 : placesOf Try.prog 33 = none := by kernel_rfl
theorem fxSz34 : szOf Try.prog 34 = some 20 := by kernel_rfl
theorem fxBy34 : bytesOf Try.prog 34 = some 48 := by kernel_rfl
theorem fxAg34 : aggOf Try.prog 34 = some true := by kernel_rfl
theorem fxZe34 : zeroOf Try.prog 34 = some (.agg #[.int .i64 0, .int .i64 0, .int .i64 0, .int .i64 0, .int .u8 0, .int .u8 0, .int .u8 0, .int .u8 0, .int .u8 0, .int .u8 0, .int .u8 0, .int .u8 0, .int .u8 0, .int .u8 0, .int .u8 0, .int .u8 0, .int .u8 0, .int .u8 0, .int .u8 0, .int .u8 0]) := by kernel_rfl
theorem fxSl34 : sliceElem Try.prog 34 = none := by kernel_rfl
theorem fxAr34 : arrayOf Try.prog 34 = none := by kernel_rfl
theorem fxFi34x0 : fieldOf Try.prog 34 0 = some (0, 1, 3) := by kernel_rfl
theorem fxFi34x1 : fieldOf Try.prog 34 1 = some (1, 1, 3) := by kernel_rfl
theorem fxFi34x2 : fieldOf Try.prog 34 2 = some (2, 1, 3) := by kernel_rfl
theorem fxFi34x3 : fieldOf Try.prog 34 3 = some (3, 1, 3) := by kernel_rfl
theorem fxFi34x4 : fieldOf Try.prog 34 4 = some (4, 16, 33) := by kernel_rfl
theorem fxPl34 : placesOf Try.prog 34 = some [(0, 1), (1, 1), (2, 1), (3, 1), (4, 16)] := by kernel_rfl
theorem fxSz35 : szOf Try.prog 35 = some 20 := by kernel_rfl
theorem fxBy35 : bytesOf Try.prog 35 = some 48 := by kernel_rfl
theorem fxAg35 : aggOf Try.prog 35 = some true := by kernel_rfl
theorem fxZe35 : zeroOf Try.prog 35 = some (.agg #[.int .i64 0, .int .i64 0, .int .i64 0, .int .i64 0, .int .u8 0, .int .u8 0, .int .u8 0, .int .u8 0, .int .u8 0, .int .u8 0, .int .u8 0, .int .u8 0, .int .u8 0, .int .u8 0, .int .u8 0, .int .u8 0, .int .u8 0, .int .u8 0, .int .u8 0, .int .u8 0]) := by kernel_rfl
theorem fxSl35 : sliceElem Try.prog 35 = none := by kernel_rfl
theorem fxAr35 : arrayOf Try.prog 35 = none := by kernel_rfl
theorem fxFi35x0 : fieldOf Try.prog 35 0 = some (0, 1, 3) := by kernel_rfl
theorem fxFi35x1 : fieldOf Try.prog 35 1 = some (1, 1, 3) := by kernel_rfl
theorem fxFi35x2 : fieldOf Try.prog 35 2 = some (2, 1, 3) := by kernel_rfl
theorem fxFi35x3 : fieldOf Try.prog 35 3 = some (3, 1, 3) := by kernel_rfl
theorem fxFi35x4 : fieldOf Try.prog 35 4 = some (4, 16, 33) := by kernel_rfl
theorem fxPl35 : placesOf Try.prog 35 = some [(0, 1), (1, 1), (2, 1), (3, 1), (4, 16)] := by kernel_rfl
theorem fxSz38 : szOf Try.prog 38 = some 1 := by kernel_rfl
theorem fxBy38 : bytesOf Try.prog 38 = some 8 := by kernel_rfl
theorem fxAg38 : aggOf Try.prog 38 = some false := by kernel_rfl
theorem fxZe38 : zeroOf Try.prog 38 = some (.int .i64 0) := by kernel_rfl
theorem fxSl38 : sliceElem Try.prog 38 = none := by kernel_rfl
theorem fxAr38 : arrayOf Try.prog 38 = none := by kernel_rfl
theorem fxPl38 : placesOf Try.prog 38 = none := by kernel_rfl
theorem fxSz50 : szOf Try.prog 50 = some 6 := by kernel_rfl
theorem fxBy50 : bytesOf Try.prog 50 = some 96 := by kernel_rfl
theorem fxAg50 : aggOf Try.prog 50 = some true := by kernel_rfl
theorem fxZe50 : zeroOf Try.prog 50 = some (.agg #[.slice none 0 0, .int .i64 0, .slice none 0 0, .int .i64 0, .slice none 0 0, .int .i64 0]) := by kernel_rfl
theorem fxSl50 : sliceElem Try.prog 50 = none := by kernel_rfl
theorem fxAr50 : arrayOf Try.prog 50 = some (3, 24) := by kernel_rfl
theorem fxPl50 : placesOf Try.prog 50 = none := by kernel_rfl
theorem fxSz51 : szOf Try.prog 51 = some 8 := by kernel_rfl
theorem fxBy51 : bytesOf Try.prog 51 = some 128 := by kernel_rfl
theorem fxAg51 : aggOf Try.prog 51 = some true := by kernel_rfl
theorem fxZe51 : zeroOf Try.prog 51 = some (.agg #[.slice none 0 0, .int .i64 0, .slice none 0 0, .int .i64 0, .slice none 0 0, .int .i64 0, .slice none 0 0, .int .i64 0]) := by kernel_rfl
theorem fxSl51 : sliceElem Try.prog 51 = none := by kernel_rfl
theorem fxAr51 : arrayOf Try.prog 51 = some (4, 29) := by kernel_rfl
theorem fxPl51 : placesOf Try.prog 51 = none := by kernel_rfl
theorem fxSz53 : szOf Try.prog 53 = some 1 := by kernel_rfl
theorem fxBy53 : bytesOf Try.prog 53 = some 24 := by kernel_rfl
theorem fxAg53 : aggOf Try.prog 53 = some false := by kernel_rfl
theorem fxZe53 : zeroOf Try.prog 53 = some (.slice none 0 0) := by kernel_rfl
theorem fxSl53 : sliceElem Try.prog 53 = some 59 := by kernel_rfl
theorem fxAr53 : arrayOf Try.prog 53 = none := by kernel_rfl
theorem fxPl53 : placesOf Try.prog 53 = none := by kernel_rfl
theorem fxSz54 : szOf Try.prog 54 = some 2 := by kernel_rfl
theorem fxBy54 : bytesOf Try.prog 54 = some 32 := by kernel_rfl
theorem fxAg54 : aggOf Try.prog 54 = some true := by kernel_rfl
theorem fxZe54 : zeroOf Try.prog 54 = some (.agg #[.bool false, .slice none 0 0]) := by kernel_rfl
theorem fxSl54 : sliceElem Try.prog 54 = none := by kernel_rfl
theorem fxAr54 : arrayOf Try.prog 54 = none := by kernel_rfl
theorem fxFi54x0 : fieldOf Try.prog 54 0 = some (0, 1, 4) := by kernel_rfl
theorem fxFi54x1 : fieldOf Try.prog 54 1 = some (1, 1, 53) := by kernel_rfl
theorem fxPl54 : placesOf Try.prog 54 = some [(0, 1), (1, 1)] := by kernel_rfl
theorem fxSz55 : szOf Try.prog 55 = some 2 := by kernel_rfl
theorem fxBy55 : bytesOf Try.prog 55 = some 32 := by kernel_rfl
theorem fxAg55 : aggOf Try.prog 55 = some true := by kernel_rfl
theorem fxZe55 : zeroOf Try.prog 55 = some (.agg #[.bool false, .slice none 0 0]) := by kernel_rfl
theorem fxSl55 : sliceElem Try.prog 55 = none := by kernel_rfl
theorem fxAr55 : arrayOf Try.prog 55 = none := by kernel_rfl
theorem fxFi55x0 : fieldOf Try.prog 55 0 = some (0, 1, 4) := by kernel_rfl
theorem fxFi55x1 : fieldOf Try.prog 55 1 = some (1, 1, 53) := by kernel_rfl
theorem fxPl55 : placesOf Try.prog 55 = some [(0, 1), (1, 1)] := by kernel_rfl
theorem fxSz56 : szOf Try.prog 56 = some 16 := by kernel_rfl
theorem fxBy56 : bytesOf Try.prog 56 = some 256 := by kernel_rfl
theorem fxAg56 : aggOf Try.prog 56 = some true := by kernel_rfl
theorem fxZe56 : zeroOf Try.prog 56 = some (.agg #[.bool false, .slice none 0 0, .bool false, .slice none 0 0, .bool false, .slice none 0 0, .bool false, .slice none 0 0, .bool false, .slice none 0 0, .bool false, .slice none 0 0, .bool false, .slice none 0 0, .bool false, .slice none 0 0]) := by kernel_rfl
theorem fxSl56 : sliceElem Try.prog 56 = none := by kernel_rfl
theorem fxAr56 : arrayOf Try.prog 56 = some (8, 55) := by kernel_rfl
theorem fxPl56 : placesOf Try.prog 56 = none := by kernel_rfl
theorem fxSz57 : szOf Try.prog 57 = some 16 := by kernel_rfl
theorem fxBy57 : bytesOf Try.prog 57 = some 256 := by kernel_rfl
theorem fxAg57 : aggOf Try.prog 57 = some true := by kernel_rfl
theorem fxZe57 : zeroOf Try.prog 57 = some (.agg #[.bool false, .slice none 0 0, .bool false, .slice none 0 0, .bool false, .slice none 0 0, .bool false, .slice none 0 0, .bool false, .slice none 0 0, .bool false, .slice none 0 0, .bool false, .slice none 0 0, .bool false, .slice none 0 0]) := by kernel_rfl
theorem fxSl57 : sliceElem Try.prog 57 = none := by kernel_rfl
theorem fxAr57 : arrayOf Try.prog 57 = some (8, 55) := by kernel_rfl
theorem fxPl57 : placesOf Try.prog 57 = none := by kernel_rfl
theorem fxSz58 : szOf Try.prog 58 = some 7 := by kernel_rfl
theorem fxBy58 : bytesOf Try.prog 58 = some 32 := by kernel_rfl
theorem fxAg58 : aggOf Try.prog 58 = some true := by kernel_rfl
theorem fxZe58 : zeroOf Try.prog 58 = some (.agg #[.bool false, .bool false, .int .i64 0, .int .i64 0, .bool false, .bool false, .bool false]) := by kernel_rfl
theorem fxSl58 : sliceElem Try.prog 58 = none := by kernel_rfl
theorem fxAr58 : arrayOf Try.prog 58 = none := by kernel_rfl
theorem fxFi58x0 : fieldOf Try.prog 58 0 = some (0, 1, 4) := by kernel_rfl
theorem fxFi58x1 : fieldOf Try.prog 58 1 = some (1, 1, 4) := by kernel_rfl
theorem fxFi58x2 : fieldOf Try.prog 58 2 = some (2, 1, 3) := by kernel_rfl
theorem fxFi58x3 : fieldOf Try.prog 58 3 = some (3, 1, 3) := by kernel_rfl
theorem fxFi58x4 : fieldOf Try.prog 58 4 = some (4, 1, 4) := by kernel_rfl
theorem fxFi58x5 : fieldOf Try.prog 58 5 = some (5, 1, 4) := by kernel_rfl
theorem fxFi58x6 : fieldOf Try.prog 58 6 = some (6, 1, 4) := by kernel_rfl
theorem fxPl58 : placesOf Try.prog 58 = some [(0, 1), (1, 1), (2, 1), (3, 1), (4, 1), (5, 1), (6, 1)] := by kernel_rfl
theorem fxSz59 : szOf Try.prog 59 = some 7 := by kernel_rfl
theorem fxBy59 : bytesOf Try.prog 59 = some 32 := by kernel_rfl
theorem fxAg59 : aggOf Try.prog 59 = some true := by kernel_rfl
theorem fxZe59 : zeroOf Try.prog 59 = some (.agg #[.bool false, .bool false, .int .i64 0, .int .i64 0, .bool false, .bool false, .bool false]) := by kernel_rfl
theorem fxSl59 : sliceElem Try.prog 59 = none := by kernel_rfl
theorem fxAr59 : arrayOf Try.prog 59 = none := by kernel_rfl
theorem fxFi59x0 : fieldOf Try.prog 59 0 = some (0, 1, 4) := by kernel_rfl
theorem fxFi59x1 : fieldOf Try.prog 59 1 = some (1, 1, 4) := by kernel_rfl
theorem fxFi59x2 : fieldOf Try.prog 59 2 = some (2, 1, 3) := by kernel_rfl
theorem fxFi59x3 : fieldOf Try.prog 59 3 = some (3, 1, 3) := by kernel_rfl
theorem fxFi59x4 : fieldOf Try.prog 59 4 = some (4, 1, 4) := by kernel_rfl
theorem fxFi59x5 : fieldOf Try.prog 59 5 = some (5, 1, 4) := by kernel_rfl
theorem fxFi59x6 : fieldOf Try.prog 59 6 = some (6, 1, 4) := by kernel_rfl
theorem fxPl59 : placesOf Try.prog 59 = some [(0, 1), (1, 1), (2, 1), (3, 1), (4, 1), (5, 1), (6, 1)] := by kernel_rfl
theorem fxSz60 : szOf Try.prog 60 = some 1 := by kernel_rfl
theorem fxBy60 : bytesOf Try.prog 60 = some 24 := by kernel_rfl
theorem fxAg60 : aggOf Try.prog 60 = some false := by kernel_rfl
theorem fxZe60 : zeroOf Try.prog 60 = some (.slice none 0 0) := by kernel_rfl
theorem fxSl60 : sliceElem Try.prog 60 = some 72 := by kernel_rfl
theorem fxAr60 : arrayOf Try.prog 60 = none := by kernel_rfl
theorem fxPl60 : placesOf Try.prog 60 = none := by kernel_rfl
theorem fxSz61 : szOf Try.prog 61 = some 2 := by kernel_rfl
theorem fxBy61 : bytesOf Try.prog 61 = some 16 := by kernel_rfl
theorem fxAg61 : aggOf Try.prog 61 = some true := by kernel_rfl
theorem fxZe61 : zeroOf Try.prog 61 = some (.agg #[.int .i64 0, .int .i64 0]) := by kernel_rfl
theorem fxSl61 : sliceElem Try.prog 61 = none := by kernel_rfl
theorem fxAr61 : arrayOf Try.prog 61 = none := by kernel_rfl
theorem fxFi61x0 : fieldOf Try.prog 61 0 = some (0, 1, 3) := by kernel_rfl
theorem fxFi61x1 : fieldOf Try.prog 61 1 = some (1, 1, 3) := by kernel_rfl
theorem fxPl61 : placesOf Try.prog 61 = some [(0, 1), (1, 1)] := by kernel_rfl
theorem fxSz62 : szOf Try.prog 62 = some 2 := by kernel_rfl
theorem fxBy62 : bytesOf Try.prog 62 = some 16 := by kernel_rfl
theorem fxAg62 : aggOf Try.prog 62 = some true := by kernel_rfl
theorem fxZe62 : zeroOf Try.prog 62 = some (.agg #[.int .i64 0, .int .i64 0]) := by kernel_rfl
theorem fxSl62 : sliceElem Try.prog 62 = none := by kernel_rfl
theorem fxAr62 : arrayOf Try.prog 62 = none := by kernel_rfl
theorem fxFi62x0 : fieldOf Try.prog 62 0 = some (0, 1, 3) := by kernel_rfl
theorem fxFi62x1 : fieldOf Try.prog 62 1 = some (1, 1, 3) := by kernel_rfl
theorem fxPl62 : placesOf Try.prog 62 = some [(0, 1), (1, 1)] := by kernel_rfl
theorem fxSz63 : szOf Try.prog 63 = some 1 := by kernel_rfl
theorem fxBy63 : bytesOf Try.prog 63 = some 24 := by kernel_rfl
theorem fxAg63 : aggOf Try.prog 63 = some false := by kernel_rfl
theorem fxZe63 : zeroOf Try.prog 63 = some (.slice none 0 0) := by kernel_rfl
theorem fxSl63 : sliceElem Try.prog 63 = some 65 := by kernel_rfl
theorem fxAr63 : arrayOf Try.prog 63 = none := by kernel_rfl
theorem fxPl63 : placesOf Try.prog 63 = none := by kernel_rfl
theorem fxSz64 : szOf Try.prog 64 = some 3 := by kernel_rfl
theorem fxBy64 : bytesOf Try.prog 64 = some 24 := by kernel_rfl
theorem fxAg64 : aggOf Try.prog 64 = some true := by kernel_rfl
theorem fxZe64 : zeroOf Try.prog 64 = some (.agg #[.int .i64 0, .int .i64 0, .int .i64 0]) := by kernel_rfl
theorem fxSl64 : sliceElem Try.prog 64 = none := by kernel_rfl
theorem fxAr64 : arrayOf Try.prog 64 = none := by kernel_rfl
theorem fxFi64x0 : fieldOf Try.prog 64 0 = some (0, 1, 3) := by kernel_rfl
theorem fxFi64x1 : fieldOf Try.prog 64 1 = some (1, 1, 3) := by kernel_rfl
theorem fxFi64x2 : fieldOf Try.prog 64 2 = some (2, 1, 3) := by kernel_rfl
theorem fxPl64 : placesOf Try.prog 64 = some [(0, 1), (1, 1), (2, 1)] := by kernel_rfl
theorem fxSz65 : szOf Try.prog 65 = some 3 := by kernel_rfl
theorem fxBy65 : bytesOf Try.prog 65 = some 24 := by kernel_rfl
theorem fxAg65 : aggOf Try.prog 65 = some true := by kernel_rfl
theorem fxZe65 : zeroOf Try.prog 65 = some (.agg #[.int .i64 0, .int .i64 0, .int .i64 0]) := by kernel_rfl
theorem fxSl65 : sliceElem Try.prog 65 = none := by kernel_rfl
theorem fxAr65 : arrayOf Try.prog 65 = none := by kernel_rfl
theorem fxFi65x0 : fieldOf Try.prog 65 0 = some (0, 1, 3) := by kernel_rfl
theorem fxFi65x1 : fieldOf Try.prog 65 1 = some (1, 1, 3) := by kernel_rfl
theorem fxFi65x2 : fieldOf Try.prog 65 2 = some (2, 1, 3) := by kernel_rfl
theorem fxPl65 : placesOf Try.prog 65 = some [(0, 1), (1, 1), (2, 1)] := by kernel_rfl
theorem fxSz66 : szOf Try.prog 66 = some 1 := by kernel_rfl
theorem fxBy66 : bytesOf Try.prog 66 = some 24 := by kernel_rfl
theorem fxAg66 : aggOf Try.prog 66 = some false := by kernel_rfl
theorem fxZe66 : zeroOf Try.prog 66 = some (.slice none 0 0) := by kernel_rfl
theorem fxSl66 : sliceElem Try.prog 66 = some 53 := by kernel_rfl
theorem fxAr66 : arrayOf Try.prog 66 = none := by kernel_rfl
theorem fxPl66 : placesOf Try.prog 66 = none := by kernel_rfl
theorem fxSz68 : szOf Try.prog 68 = some 1 := by kernel_rfl
theorem fxBy68 : bytesOf Try.prog 68 = some 24 := by kernel_rfl
theorem fxAg68 : aggOf Try.prog 68 = some false := by kernel_rfl
theorem fxZe68 : zeroOf Try.prog 68 = some (.slice none 0 0) := by kernel_rfl
theorem fxSl68 : sliceElem Try.prog 68 = some 69 := by kernel_rfl
theorem fxAr68 : arrayOf Try.prog 68 = none := by kernel_rfl
theorem fxPl68 : placesOf Try.prog 68 = none := by kernel_rfl
theorem fxSz69 : szOf Try.prog 69 = some 1 := by kernel_rfl
theorem fxBy69 : bytesOf Try.prog 69 = some 24 := by kernel_rfl
theorem fxAg69 : aggOf Try.prog 69 = some false := by kernel_rfl
theorem fxZe69 : zeroOf Try.prog 69 = some (.slice none 0 0) := by kernel_rfl
theorem fxSl69 : sliceElem Try.prog 69 = some 76 := by kernel_rfl
theorem fxAr69 : arrayOf Try.prog 69 = none := by kernel_rfl
theorem fxPl69 : placesOf Try.prog 69 = none := by kernel_rfl
theorem fxSz70 : szOf Try.prog 70 = some 1 := by kernel_rfl
theorem fxBy70 : bytesOf Try.prog 70 = some 24 := by kernel_rfl
theorem fxAg70 : aggOf Try.prog 70 = some false := by kernel_rfl
theorem fxZe70 : zeroOf Try.prog 70 = some (.slice none 0 0) := by kernel_rfl
theorem fxSl70 : sliceElem Try.prog 70 = some 62 := by kernel_rfl
theorem fxAr70 : arrayOf Try.prog 70 = none := by kernel_rfl
theorem fxPl70 : placesOf Try.prog 70 = none := by kernel_rfl
theorem fxSz71 : szOf Try.prog 71 = some 2 := by kernel_rfl
theorem fxBy71 : bytesOf Try.prog 71 = some 48 := by kernel_rfl
theorem fxAg71 : aggOf Try.prog 71 = some true := by kernel_rfl
theorem fxZe71 : zeroOf Try.prog 71 = some (.agg #[.slice none 0 0, .slice none 0 0]) := by kernel_rfl
theorem fxSl71 : sliceElem Try.prog 71 = none := by kernel_rfl
theorem fxAr71 : arrayOf Try.prog 71 = none := by kernel_rfl
theorem fxFi71x0 : fieldOf Try.prog 71 0 = some (0, 1, 69) := by kernel_rfl
theorem fxFi71x1 : fieldOf Try.prog 71 1 = some (1, 1, 70) := by kernel_rfl
theorem fxPl71 : placesOf Try.prog 71 = some [(0, 1), (1, 1)] := by kernel_rfl
theorem fxSz72 : szOf Try.prog 72 = some 2 := by kernel_rfl
theorem fxBy72 : bytesOf Try.prog 72 = some 48 := by kernel_rfl
theorem fxAg72 : aggOf Try.prog 72 = some true := by kernel_rfl
theorem fxZe72 : zeroOf Try.prog 72 = some (.agg #[.slice none 0 0, .slice none 0 0]) := by kernel_rfl
theorem fxSl72 : sliceElem Try.prog 72 = none := by kernel_rfl
theorem fxAr72 : arrayOf Try.prog 72 = none := by kernel_rfl
theorem fxFi72x0 : fieldOf Try.prog 72 0 = some (0, 1, 69) := by kernel_rfl
theorem fxFi72x1 : fieldOf Try.prog 72 1 = some (1, 1, 70) := by kernel_rfl
theorem fxPl72 : placesOf Try.prog 72 = some [(0, 1), (1, 1)] := by kernel_rfl
theorem fxSz74 : szOf Try.prog 74 = some 1 := by kernel_rfl
theorem fxBy74 : bytesOf Try.prog 74 = some 4 := by kernel_rfl
theorem fxAg74 : aggOf Try.prog 74 = some false := by kernel_rfl
theorem fxZe74 : zeroOf Try.prog 74 = some (.int .u32 0) := by kernel_rfl
theorem fxSl74 : sliceElem Try.prog 74 = none := by kernel_rfl
theorem fxAr74 : arrayOf Try.prog 74 = none := by kernel_rfl
theorem fxPl74 : placesOf Try.prog 74 = none := by kernel_rfl
theorem fxSz75 : szOf Try.prog 75 = some 3 := by kernel_rfl
theorem fxBy75 : bytesOf Try.prog 75 = some 24 := by kernel_rfl
theorem fxAg75 : aggOf Try.prog 75 = some true := by kernel_rfl
theorem fxZe75 : zeroOf Try.prog 75 = some (.agg #[.int .i64 0, .int .i64 0, .int .u32 0]) := by kernel_rfl
theorem fxSl75 : sliceElem Try.prog 75 = none := by kernel_rfl
theorem fxAr75 : arrayOf Try.prog 75 = none := by kernel_rfl
theorem fxFi75x0 : fieldOf Try.prog 75 0 = some (0, 1, 3) := by kernel_rfl
theorem fxFi75x1 : fieldOf Try.prog 75 1 = some (1, 1, 3) := by kernel_rfl
theorem fxFi75x2 : fieldOf Try.prog 75 2 = some (2, 1, 74) := by kernel_rfl
theorem fxPl75 : placesOf Try.prog 75 = some [(0, 1), (1, 1), (2, 1)] := by kernel_rfl
theorem fxSz76 : szOf Try.prog 76 = some 3 := by kernel_rfl
theorem fxBy76 : bytesOf Try.prog 76 = some 24 := by kernel_rfl
theorem fxAg76 : aggOf Try.prog 76 = some true := by kernel_rfl
theorem fxZe76 : zeroOf Try.prog 76 = some (.agg #[.int .i64 0, .int .i64 0, .int .u32 0]) := by kernel_rfl
theorem fxSl76 : sliceElem Try.prog 76 = none := by kernel_rfl
theorem fxAr76 : arrayOf Try.prog 76 = none := by kernel_rfl
theorem fxFi76x0 : fieldOf Try.prog 76 0 = some (0, 1, 3) := by kernel_rfl
theorem fxFi76x1 : fieldOf Try.prog 76 1 = some (1, 1, 3) := by kernel_rfl
theorem fxFi76x2 : fieldOf Try.prog 76 2 = some (2, 1, 74) := by kernel_rfl
theorem fxPl76 : placesOf Try.prog 76 = some [(0, 1), (1, 1), (2, 1)] := by kernel_rfl
theorem fxSz92 : szOf Try.prog 92 = some 48 := by kernel_rfl
theorem fxBy92 : bytesOf Try.prog 92 = some 768 := by kernel_rfl
theorem fxAg92 : aggOf Try.prog 92 = some true := by kernel_rfl
theorem fxZe92 : zeroOf Try.prog 92 = some (.agg #[.bool false, .slice none 0 0, .bool false, .slice none 0 0, .bool false, .slice none 0 0, .bool false, .slice none 0 0, .bool false, .slice none 0 0, .bool false, .slice none 0 0, .bool false, .slice none 0 0, .bool false, .slice none 0 0, .bool false, .slice none 0 0, .bool false, .slice none 0 0, .bool false, .slice none 0 0, .bool false, .slice none 0 0, .bool false, .slice none 0 0, .bool false, .slice none 0 0, .bool false, .slice none 0 0, .bool false, .slice none 0 0, .bool false, .slice none 0 0, .bool false, .slice none 0 0, .bool false, .slice none 0 0, .bool false, .slice none 0 0, .bool false, .slice none 0 0, .bool false, .slice none 0 0, .bool false, .slice none 0 0, .bool false, .slice none 0 0]) := by kernel_rfl
theorem fxSl92 : sliceElem Try.prog 92 = none := by kernel_rfl
theorem fxAr92 : arrayOf Try.prog 92 = some (3, 57) := by kernel_rfl
theorem fxPl92 : placesOf Try.prog 92 = none := by kernel_rfl
theorem fxSz93 : szOf Try.prog 93 = some 3 := by kernel_rfl
theorem fxBy93 : bytesOf Try.prog 93 = some 72 := by kernel_rfl
theorem fxAg93 : aggOf Try.prog 93 = some true := by kernel_rfl
theorem fxZe93 : zeroOf Try.prog 93 = some (.agg #[.slice none 0 0, .slice none 0 0, .slice none 0 0]) := by kernel_rfl
theorem fxSl93 : sliceElem Try.prog 93 = none := by kernel_rfl
theorem fxAr93 : arrayOf Try.prog 93 = some (3, 60) := by kernel_rfl
theorem fxPl93 : placesOf Try.prog 93 = none := by kernel_rfl
theorem fxSz94 : szOf Try.prog 94 = some 3 := by kernel_rfl
theorem fxBy94 : bytesOf Try.prog 94 = some 72 := by kernel_rfl
theorem fxAg94 : aggOf Try.prog 94 = some true := by kernel_rfl
theorem fxZe94 : zeroOf Try.prog 94 = some (.agg #[.slice none 0 0, .slice none 0 0, .slice none 0 0]) := by kernel_rfl
theorem fxSl94 : sliceElem Try.prog 94 = none := by kernel_rfl
theorem fxAr94 : arrayOf Try.prog 94 = some (3, 63) := by kernel_rfl
theorem fxPl94 : placesOf Try.prog 94 = none := by kernel_rfl
theorem fxSz96 : szOf Try.prog 96 = some 1 := by kernel_rfl
theorem fxBy96 : bytesOf Try.prog 96 = some 24 := by kernel_rfl
theorem fxAg96 : aggOf Try.prog 96 = some false := by kernel_rfl
theorem fxZe96 : zeroOf Try.prog 96 = some (.slice none 0 0) := by kernel_rfl
theorem fxSl96 : sliceElem Try.prog 96 = some 107 := by kernel_rfl
theorem fxAr96 : arrayOf Try.prog 96 = none := by kernel_rfl
theorem fxPl96 : placesOf Try.prog 96 = none := by kernel_rfl
theorem fxSz97 : szOf Try.prog 97 = some 1 := by kernel_rfl
theorem fxBy97 : bytesOf Try.prog 97 = some 24 := by kernel_rfl
theorem fxAg97 : aggOf Try.prog 97 = some false := by kernel_rfl
theorem fxZe97 : zeroOf Try.prog 97 = some (.slice none 0 0) := by kernel_rfl
theorem fxSl97 : sliceElem Try.prog 97 = some 110 := by kernel_rfl
theorem fxAr97 : arrayOf Try.prog 97 = none := by kernel_rfl
theorem fxPl97 : placesOf Try.prog 97 = none := by kernel_rfl
theorem fxSz98 : szOf Try.prog 98 = some 2 := by kernel_rfl
theorem fxBy98 : bytesOf Try.prog 98 = some 32 := by kernel_rfl
theorem fxAg98 : aggOf Try.prog 98 = some true := by kernel_rfl
theorem fxZe98 : zeroOf Try.prog 98 = some (.agg #[.int .i64 0, .slice none 0 0]) := by kernel_rfl
theorem fxSl98 : sliceElem Try.prog 98 = none := by kernel_rfl
theorem fxAr98 : arrayOf Try.prog 98 = none := by kernel_rfl
theorem fxFi98x0 : fieldOf Try.prog 98 0 = some (0, 1, 3) := by kernel_rfl
theorem fxFi98x1 : fieldOf Try.prog 98 1 = some (1, 1, 97) := by kernel_rfl
theorem fxPl98 : placesOf Try.prog 98 = some [(0, 1), (1, 1)] := by kernel_rfl
theorem fxSz99 : szOf Try.prog 99 = some 2 := by kernel_rfl
theorem fxBy99 : bytesOf Try.prog 99 = some 32 := by kernel_rfl
theorem fxAg99 : aggOf Try.prog 99 = some true := by kernel_rfl
theorem fxZe99 : zeroOf Try.prog 99 = some (.agg #[.int .i64 0, .slice none 0 0]) := by kernel_rfl
theorem fxSl99 : sliceElem Try.prog 99 = none := by kernel_rfl
theorem fxAr99 : arrayOf Try.prog 99 = none := by kernel_rfl
theorem fxFi99x0 : fieldOf Try.prog 99 0 = some (0, 1, 3) := by kernel_rfl
theorem fxFi99x1 : fieldOf Try.prog 99 1 = some (1, 1, 97) := by kernel_rfl
theorem fxPl99 : placesOf Try.prog 99 = some [(0, 1), (1, 1)] := by kernel_rfl
theorem fxSz100 : szOf Try.prog 100 = some 1 := by kernel_rfl
theorem fxBy100 : bytesOf Try.prog 100 = some 24 := by kernel_rfl
theorem fxAg100 : aggOf Try.prog 100 = some false := by kernel_rfl
theorem fxZe100 : zeroOf Try.prog 100 = some (.slice none 0 0) := by kernel_rfl
theorem fxSl100 : sliceElem Try.prog 100 = some 114 := by kernel_rfl
theorem fxAr100 : arrayOf Try.prog 100 = none := by kernel_rfl
theorem fxPl100 : placesOf Try.prog 100 = none := by kernel_rfl
theorem fxSz101 : szOf Try.prog 101 = some 2 := by kernel_rfl
theorem fxBy101 : bytesOf Try.prog 101 = some 32 := by kernel_rfl
theorem fxAg101 : aggOf Try.prog 101 = some true := by kernel_rfl
theorem fxZe101 : zeroOf Try.prog 101 = some (.agg #[.int .i64 0, .slice none 0 0]) := by kernel_rfl
theorem fxSl101 : sliceElem Try.prog 101 = none := by kernel_rfl
theorem fxAr101 : arrayOf Try.prog 101 = none := by kernel_rfl
theorem fxFi101x0 : fieldOf Try.prog 101 0 = some (0, 1, 3) := by kernel_rfl
theorem fxFi101x1 : fieldOf Try.prog 101 1 = some (1, 1, 100) := by kernel_rfl
theorem fxPl101 : placesOf Try.prog 101 = some [(0, 1), (1, 1)] := by kernel_rfl
theorem fxSz102 : szOf Try.prog 102 = some 2 := by kernel_rfl
theorem fxBy102 : bytesOf Try.prog 102 = some 32 := by kernel_rfl
theorem fxAg102 : aggOf Try.prog 102 = some true := by kernel_rfl
theorem fxZe102 : zeroOf Try.prog 102 = some (.agg #[.int .i64 0, .slice none 0 0]) := by kernel_rfl
theorem fxSl102 : sliceElem Try.prog 102 = none := by kernel_rfl
theorem fxAr102 : arrayOf Try.prog 102 = none := by kernel_rfl
theorem fxFi102x0 : fieldOf Try.prog 102 0 = some (0, 1, 3) := by kernel_rfl
theorem fxFi102x1 : fieldOf Try.prog 102 1 = some (1, 1, 100) := by kernel_rfl
theorem fxPl102 : placesOf Try.prog 102 = some [(0, 1), (1, 1)] := by kernel_rfl
theorem fxSz103 : szOf Try.prog 103 = some 2 := by kernel_rfl
theorem fxBy103 : bytesOf Try.prog 103 = some 16 := by kernel_rfl
theorem fxAg103 : aggOf Try.prog 103 = some true := by kernel_rfl
theorem fxZe103 : zeroOf Try.prog 103 = some (.agg #[.int .i64 0, .int .i64 0]) := by kernel_rfl
theorem fxSl103 : sliceElem Try.prog 103 = none := by kernel_rfl
theorem fxAr103 : arrayOf Try.prog 103 = none := by kernel_rfl
theorem fxFi103x0 : fieldOf Try.prog 103 0 = some (0, 1, 3) := by kernel_rfl
theorem fxFi103x1 : fieldOf Try.prog 103 1 = some (1, 1, 3) := by kernel_rfl
theorem fxPl103 : placesOf Try.prog 103 = some [(0, 1), (1, 1)] := by kernel_rfl
theorem fxSz104 : szOf Try.prog 104 = some 2 := by kernel_rfl
theorem fxBy104 : bytesOf Try.prog 104 = some 16 := by kernel_rfl
theorem fxAg104 : aggOf Try.prog 104 = some true := by kernel_rfl
theorem fxZe104 : zeroOf Try.prog 104 = some (.agg #[.int .i64 0, .int .i64 0]) := by kernel_rfl
theorem fxSl104 : sliceElem Try.prog 104 = none := by kernel_rfl
theorem fxAr104 : arrayOf Try.prog 104 = none := by kernel_rfl
theorem fxFi104x0 : fieldOf Try.prog 104 0 = some (0, 1, 3) := by kernel_rfl
theorem fxFi104x1 : fieldOf Try.prog 104 1 = some (1, 1, 3) := by kernel_rfl
theorem fxPl104 : placesOf Try.prog 104 = some [(0, 1), (1, 1)] := by kernel_rfl
theorem fxSz106 : szOf Try.prog 106 = some 3 := by kernel_rfl
theorem fxBy106 : bytesOf Try.prog 106 = some 24 := by kernel_rfl
theorem fxAg106 : aggOf Try.prog 106 = some true := by kernel_rfl
theorem fxZe106 : zeroOf Try.prog 106 = some (.agg #[.int .i64 0, .int .i64 0, .int .i64 0]) := by kernel_rfl
theorem fxSl106 : sliceElem Try.prog 106 = none := by kernel_rfl
theorem fxAr106 : arrayOf Try.prog 106 = none := by kernel_rfl
theorem fxFi106x0 : fieldOf Try.prog 106 0 = some (0, 1, 3) := by kernel_rfl
theorem fxFi106x1 : fieldOf Try.prog 106 1 = some (1, 1, 3) := by kernel_rfl
theorem fxFi106x2 : fieldOf Try.prog 106 2 = some (2, 1, 3) := by kernel_rfl
theorem fxPl106 : placesOf Try.prog 106 = some [(0, 1), (1, 1), (2, 1)] := by kernel_rfl
theorem fxSz107 : szOf Try.prog 107 = some 3 := by kernel_rfl
theorem fxBy107 : bytesOf Try.prog 107 = some 24 := by kernel_rfl
theorem fxAg107 : aggOf Try.prog 107 = some true := by kernel_rfl
theorem fxZe107 : zeroOf Try.prog 107 = some (.agg #[.int .i64 0, .int .i64 0, .int .i64 0]) := by kernel_rfl
theorem fxSl107 : sliceElem Try.prog 107 = none := by kernel_rfl
theorem fxAr107 : arrayOf Try.prog 107 = none := by kernel_rfl
theorem fxFi107x0 : fieldOf Try.prog 107 0 = some (0, 1, 3) := by kernel_rfl
theorem fxFi107x1 : fieldOf Try.prog 107 1 = some (1, 1, 3) := by kernel_rfl
theorem fxFi107x2 : fieldOf Try.prog 107 2 = some (2, 1, 3) := by kernel_rfl
theorem fxPl107 : placesOf Try.prog 107 = some [(0, 1), (1, 1), (2, 1)] := by kernel_rfl
theorem fxSz109 : szOf Try.prog 109 = some 2 := by kernel_rfl
theorem fxBy109 : bytesOf Try.prog 109 = some 16 := by kernel_rfl
theorem fxAg109 : aggOf Try.prog 109 = some true := by kernel_rfl
theorem fxZe109 : zeroOf Try.prog 109 = some (.agg #[.int .i64 0, .int .i64 0]) := by kernel_rfl
theorem fxSl109 : sliceElem Try.prog 109 = none := by kernel_rfl
theorem fxAr109 : arrayOf Try.prog 109 = none := by kernel_rfl
theorem fxFi109x0 : fieldOf Try.prog 109 0 = some (0, 1, 3) := by kernel_rfl
theorem fxFi109x1 : fieldOf Try.prog 109 1 = some (1, 1, 3) := by kernel_rfl
theorem fxPl109 : placesOf Try.prog 109 = some [(0, 1), (1, 1)] := by kernel_rfl
theorem fxSz110 : szOf Try.prog 110 = some 2 := by kernel_rfl
theorem fxBy110 : bytesOf Try.prog 110 = some 16 := by kernel_rfl
theorem fxAg110 : aggOf Try.prog 110 = some true := by kernel_rfl
theorem fxZe110 : zeroOf Try.prog 110 = some (.agg #[.int .i64 0, .int .i64 0]) := by kernel_rfl
theorem fxSl110 : sliceElem Try.prog 110 = none := by kernel_rfl
theorem fxAr110 : arrayOf Try.prog 110 = none := by kernel_rfl
theorem fxFi110x0 : fieldOf Try.prog 110 0 = some (0, 1, 3) := by kernel_rfl
theorem fxFi110x1 : fieldOf Try.prog 110 1 = some (1, 1, 3) := by kernel_rfl
theorem fxPl110 : placesOf Try.prog 110 = some [(0, 1), (1, 1)] := by kernel_rfl
theorem fxSz111 : szOf Try.prog 111 = some 1 := by kernel_rfl
theorem fxBy111 : bytesOf Try.prog 111 = some 24 := by kernel_rfl
theorem fxAg111 : aggOf Try.prog 111 = some false := by kernel_rfl
theorem fxZe111 : zeroOf Try.prog 111 = some (.slice none 0 0) := by kernel_rfl
theorem fxSl111 : sliceElem Try.prog 111 = some 112 := by kernel_rfl
theorem fxAr111 : arrayOf Try.prog 111 = none := by kernel_rfl
theorem fxPl111 : placesOf Try.prog 111 = none := by kernel_rfl
theorem fxSz112 : szOf Try.prog 112 = some 1 := by kernel_rfl
theorem fxBy112 : bytesOf Try.prog 112 = some 24 := by kernel_rfl
theorem fxAg112 : aggOf Try.prog 112 = some false := by kernel_rfl
theorem fxZe112 : zeroOf Try.prog 112 = some (.slice none 0 0) := by kernel_rfl
theorem fxSl112 : sliceElem Try.prog 112 = some 3 := by kernel_rfl
theorem fxAr112 : arrayOf Try.prog 112 = none := by kernel_rfl
theorem fxPl112 : placesOf Try.prog 112 = none := by kernel_rfl
theorem fxSz113 : szOf Try.prog 113 = some 2 := by kernel_rfl
theorem fxBy113 : bytesOf Try.prog 113 = some 32 := by kernel_rfl
theorem fxAg113 : aggOf Try.prog 113 = some true := by kernel_rfl
theorem fxZe113 : zeroOf Try.prog 113 = some (.agg #[.int .i64 0, .slice none 0 0]) := by kernel_rfl
theorem fxSl113 : sliceElem Try.prog 113 = none := by kernel_rfl
theorem fxAr113 : arrayOf Try.prog 113 = none := by kernel_rfl
theorem fxFi113x0 : fieldOf Try.prog 113 0 = some (0, 1, 3) := by kernel_rfl
theorem fxFi113x1 : fieldOf Try.prog 113 1 = some (1, 1, 112) := by kernel_rfl
theorem fxPl113 : placesOf Try.prog 113 = some [(0, 1), (1, 1)] := by kernel_rfl
theorem fxSz114 : szOf Try.prog 114 = some 2 := by kernel_rfl
theorem fxBy114 : bytesOf Try.prog 114 = some 32 := by kernel_rfl
theorem fxAg114 : aggOf Try.prog 114 = some true := by kernel_rfl
theorem fxZe114 : zeroOf Try.prog 114 = some (.agg #[.int .i64 0, .slice none 0 0]) := by kernel_rfl
theorem fxSl114 : sliceElem Try.prog 114 = none := by kernel_rfl
theorem fxAr114 : arrayOf Try.prog 114 = none := by kernel_rfl
theorem fxFi114x0 : fieldOf Try.prog 114 0 = some (0, 1, 3) := by kernel_rfl
theorem fxFi114x1 : fieldOf Try.prog 114 1 = some (1, 1, 112) := by kernel_rfl
theorem fxPl114 : placesOf Try.prog 114 = some [(0, 1), (1, 1)] := by kernel_rfl
theorem fxSz131 : szOf Try.prog 131 = some 2 := by kernel_rfl
theorem fxBy131 : bytesOf Try.prog 131 = some 48 := by kernel_rfl
theorem fxAg131 : aggOf Try.prog 131 = some true := by kernel_rfl
theorem fxZe131 : zeroOf Try.prog 131 = some (.agg #[.slice none 0 0, .slice none 0 0]) := by kernel_rfl
theorem fxSl131 : sliceElem Try.prog 131 = none := by kernel_rfl
theorem fxAr131 : arrayOf Try.prog 131 = some (2, 96) := by kernel_rfl
theorem fxPl131 : placesOf Try.prog 131 = none := by kernel_rfl
theorem fxSz132 : szOf Try.prog 132 = some 4 := by kernel_rfl
theorem fxBy132 : bytesOf Try.prog 132 = some 64 := by kernel_rfl
theorem fxAg132 : aggOf Try.prog 132 = some true := by kernel_rfl
theorem fxZe132 : zeroOf Try.prog 132 = some (.agg #[.int .i64 0, .slice none 0 0, .int .i64 0, .slice none 0 0]) := by kernel_rfl
theorem fxSl132 : sliceElem Try.prog 132 = none := by kernel_rfl
theorem fxAr132 : arrayOf Try.prog 132 = some (2, 99) := by kernel_rfl
theorem fxPl132 : placesOf Try.prog 132 = none := by kernel_rfl
theorem fxSz133 : szOf Try.prog 133 = some 4 := by kernel_rfl
theorem fxBy133 : bytesOf Try.prog 133 = some 64 := by kernel_rfl
theorem fxAg133 : aggOf Try.prog 133 = some true := by kernel_rfl
theorem fxZe133 : zeroOf Try.prog 133 = some (.agg #[.int .i64 0, .slice none 0 0, .int .i64 0, .slice none 0 0]) := by kernel_rfl
theorem fxSl133 : sliceElem Try.prog 133 = none := by kernel_rfl
theorem fxAr133 : arrayOf Try.prog 133 = some (2, 102) := by kernel_rfl
theorem fxPl133 : placesOf Try.prog 133 = none := by kernel_rfl
theorem fxSz135 : szOf Try.prog 135 = some 1 := by kernel_rfl
theorem fxBy135 : bytesOf Try.prog 135 = some 24 := by kernel_rfl
theorem fxAg135 : aggOf Try.prog 135 = some false := by kernel_rfl
theorem fxZe135 : zeroOf Try.prog 135 = some (.slice none 0 0) := by kernel_rfl
theorem fxSl135 : sliceElem Try.prog 135 = some 137 := by kernel_rfl
theorem fxAr135 : arrayOf Try.prog 135 = none := by kernel_rfl
theorem fxPl135 : placesOf Try.prog 135 = none := by kernel_rfl
theorem fxSz136 : szOf Try.prog 136 = some 3 := by kernel_rfl
theorem fxBy136 : bytesOf Try.prog 136 = some 24 := by kernel_rfl
theorem fxAg136 : aggOf Try.prog 136 = some true := by kernel_rfl
theorem fxZe136 : zeroOf Try.prog 136 = some (.agg #[.int .i64 0, .int .i64 0, .int .i64 0]) := by kernel_rfl
theorem fxSl136 : sliceElem Try.prog 136 = none := by kernel_rfl
theorem fxAr136 : arrayOf Try.prog 136 = none := by kernel_rfl
theorem fxFi136x0 : fieldOf Try.prog 136 0 = some (0, 1, 3) := by kernel_rfl
theorem fxFi136x1 : fieldOf Try.prog 136 1 = some (1, 1, 3) := by kernel_rfl
theorem fxFi136x2 : fieldOf Try.prog 136 2 = some (2, 1, 3) := by kernel_rfl
theorem fxPl136 : placesOf Try.prog 136 = some [(0, 1), (1, 1), (2, 1)] := by kernel_rfl
theorem fxSz137 : szOf Try.prog 137 = some 3 := by kernel_rfl
theorem fxBy137 : bytesOf Try.prog 137 = some 24 := by kernel_rfl
theorem fxAg137 : aggOf Try.prog 137 = some true := by kernel_rfl
theorem fxZe137 : zeroOf Try.prog 137 = some (.agg #[.int .i64 0, .int .i64 0, .int .i64 0]) := by kernel_rfl
theorem fxSl137 : sliceElem Try.prog 137 = none := by kernel_rfl
theorem fxAr137 : arrayOf Try.prog 137 = none := by kernel_rfl
theorem fxFi137x0 : fieldOf Try.prog 137 0 = some (0, 1, 3) := by kernel_rfl
theorem fxFi137x1 : fieldOf Try.prog 137 1 = some (1, 1, 3) := by kernel_rfl
theorem fxFi137x2 : fieldOf Try.prog 137 2 = some (2, 1, 3) := by kernel_rfl
theorem fxPl137 : placesOf Try.prog 137 = some [(0, 1), (1, 1), (2, 1)] := by kernel_rfl
theorem fxSz138 : szOf Try.prog 138 = some 1 := by kernel_rfl
theorem fxBy138 : bytesOf Try.prog 138 = some 24 := by kernel_rfl
theorem fxAg138 : aggOf Try.prog 138 = some false := by kernel_rfl
theorem fxZe138 : zeroOf Try.prog 138 = some (.slice none 0 0) := by kernel_rfl
theorem fxSl138 : sliceElem Try.prog 138 = some 5 := by kernel_rfl
theorem fxAr138 : arrayOf Try.prog 138 = none := by kernel_rfl
theorem fxPl138 : placesOf Try.prog 138 = none := by kernel_rfl
theorem fxSz139 : szOf Try.prog 139 = some 2 := by kernel_rfl
theorem fxBy139 : bytesOf Try.prog 139 = some 48 := by kernel_rfl
theorem fxAg139 : aggOf Try.prog 139 = some true := by kernel_rfl
theorem fxZe139 : zeroOf Try.prog 139 = some (.agg #[.slice none 0 0, .slice none 0 0]) := by kernel_rfl
theorem fxSl139 : sliceElem Try.prog 139 = none := by kernel_rfl
theorem fxAr139 : arrayOf Try.prog 139 = none := by kernel_rfl
theorem fxFi139x0 : fieldOf Try.prog 139 0 = some (0, 1, 138) := by kernel_rfl
theorem fxFi139x1 : fieldOf Try.prog 139 1 = some (1, 1, 111) := by kernel_rfl
theorem fxPl139 : placesOf Try.prog 139 = some [(0, 1), (1, 1)] := by kernel_rfl
theorem fxSz140 : szOf Try.prog 140 = some 2 := by kernel_rfl
theorem fxBy140 : bytesOf Try.prog 140 = some 48 := by kernel_rfl
theorem fxAg140 : aggOf Try.prog 140 = some true := by kernel_rfl
theorem fxZe140 : zeroOf Try.prog 140 = some (.agg #[.slice none 0 0, .slice none 0 0]) := by kernel_rfl
theorem fxSl140 : sliceElem Try.prog 140 = none := by kernel_rfl
theorem fxAr140 : arrayOf Try.prog 140 = none := by kernel_rfl
theorem fxFi140x0 : fieldOf Try.prog 140 0 = some (0, 1, 138) := by kernel_rfl
theorem fxFi140x1 : fieldOf Try.prog 140 1 = some (1, 1, 111) := by kernel_rfl
theorem fxPl140 : placesOf Try.prog 140 = some [(0, 1), (1, 1)] := by kernel_rfl
theorem fxSz141 : szOf Try.prog 141 = some 1 := by kernel_rfl
theorem fxBy141 : bytesOf Try.prog 141 = some 24 := by kernel_rfl
theorem fxAg141 : aggOf Try.prog 141 = some false := by kernel_rfl
theorem fxZe141 : zeroOf Try.prog 141 = some (.slice none 0 0) := by kernel_rfl
theorem fxSl141 : sliceElem Try.prog 141 = some 146 := by kernel_rfl
theorem fxAr141 : arrayOf Try.prog 141 = none := by kernel_rfl
theorem fxPl141 : placesOf Try.prog 141 = none := by kernel_rfl
theorem fxSz145 : szOf Try.prog 145 = some 17 := by kernel_rfl
theorem fxBy145 : bytesOf Try.prog 145 = some 24 := by kernel_rfl
theorem fxAg145 : aggOf Try.prog 145 = some true := by kernel_rfl
theorem fxZe145 : zeroOf Try.prog 145 = some (.agg #[.int .i64 0, .int .u8 0, .int .u8 0, .int .u8 0, .int .u8 0, .int .u8 0, .int .u8 0, .int .u8 0, .int .u8 0, .int .u8 0, .int .u8 0, .int .u8 0, .int .u8 0, .int .u8 0, .int .u8 0, .int .u8 0, .int .u8 0]) := by kernel_rfl
theorem fxSl145 : sliceElem Try.prog 145 = none := by kernel_rfl
theorem fxAr145 : arrayOf Try.prog 145 = none := by kernel_rfl
theorem fxFi145x0 : fieldOf Try.prog 145 0 = some (0, 1, 3) := by kernel_rfl
theorem fxFi145x1 : fieldOf Try.prog 145 1 = some (1, 16, 33) := by kernel_rfl
theorem fxPl145 : placesOf Try.prog 145 = some [(0, 1), (1, 16)] := by kernel_rfl
theorem fxSz146 : szOf Try.prog 146 = some 17 := by kernel_rfl
theorem fxBy146 : bytesOf Try.prog 146 = some 24 := by kernel_rfl
theorem fxAg146 : aggOf Try.prog 146 = some true := by kernel_rfl
theorem fxZe146 : zeroOf Try.prog 146 = some (.agg #[.int .i64 0, .int .u8 0, .int .u8 0, .int .u8 0, .int .u8 0, .int .u8 0, .int .u8 0, .int .u8 0, .int .u8 0, .int .u8 0, .int .u8 0, .int .u8 0, .int .u8 0, .int .u8 0, .int .u8 0, .int .u8 0, .int .u8 0]) := by kernel_rfl
theorem fxSl146 : sliceElem Try.prog 146 = none := by kernel_rfl
theorem fxAr146 : arrayOf Try.prog 146 = none := by kernel_rfl
theorem fxFi146x0 : fieldOf Try.prog 146 0 = some (0, 1, 3) := by kernel_rfl
theorem fxFi146x1 : fieldOf Try.prog 146 1 = some (1, 16, 33) := by kernel_rfl
theorem fxPl146 : placesOf Try.prog 146 = some [(0, 1), (1, 16)] := by kernel_rfl
theorem fxSz165 : szOf Try.prog 165 = some 3 := by kernel_rfl
theorem fxBy165 : bytesOf Try.prog 165 = some 72 := by kernel_rfl
theorem fxAg165 : aggOf Try.prog 165 = some true := by kernel_rfl
theorem fxZe165 : zeroOf Try.prog 165 = some (.agg #[.slice none 0 0, .slice none 0 0, .slice none 0 0]) := by kernel_rfl
theorem fxSl165 : sliceElem Try.prog 165 = none := by kernel_rfl
theorem fxAr165 : arrayOf Try.prog 165 = some (3, 135) := by kernel_rfl
theorem fxPl165 : placesOf Try.prog 165 = none := by kernel_rfl
theorem fxSz166 : szOf Try.prog 166 = some 6 := by kernel_rfl
theorem fxBy166 : bytesOf Try.prog 166 = some 144 := by kernel_rfl
theorem fxAg166 : aggOf Try.prog 166 = some true := by kernel_rfl
theorem fxZe166 : zeroOf Try.prog 166 = some (.agg #[.slice none 0 0, .slice none 0 0, .slice none 0 0, .slice none 0 0, .slice none 0 0, .slice none 0 0]) := by kernel_rfl
theorem fxSl166 : sliceElem Try.prog 166 = none := by kernel_rfl
theorem fxAr166 : arrayOf Try.prog 166 = some (3, 140) := by kernel_rfl
theorem fxPl166 : placesOf Try.prog 166 = none := by kernel_rfl
theorem fxSz167 : szOf Try.prog 167 = some 2 := by kernel_rfl
theorem fxBy167 : bytesOf Try.prog 167 = some 48 := by kernel_rfl
theorem fxAg167 : aggOf Try.prog 167 = some true := by kernel_rfl
theorem fxZe167 : zeroOf Try.prog 167 = some (.agg #[.slice none 0 0, .slice none 0 0]) := by kernel_rfl
theorem fxSl167 : sliceElem Try.prog 167 = none := by kernel_rfl
theorem fxAr167 : arrayOf Try.prog 167 = some (2, 141) := by kernel_rfl
theorem fxPl167 : placesOf Try.prog 167 = none := by kernel_rfl
theorem fxSz169 : szOf Try.prog 169 = some 1 := by kernel_rfl
theorem fxBy169 : bytesOf Try.prog 169 = some 24 := by kernel_rfl
theorem fxAg169 : aggOf Try.prog 169 = some false := by kernel_rfl
theorem fxZe169 : zeroOf Try.prog 169 = some (.slice none 0 0) := by kernel_rfl
theorem fxSl169 : sliceElem Try.prog 169 = some 171 := by kernel_rfl
theorem fxAr169 : arrayOf Try.prog 169 = none := by kernel_rfl
theorem fxPl169 : placesOf Try.prog 169 = none := by kernel_rfl
theorem fxSz170 : szOf Try.prog 170 = some 1 := by kernel_rfl
theorem fxBy170 : bytesOf Try.prog 170 = some 24 := by kernel_rfl
theorem fxAg170 : aggOf Try.prog 170 = some false := by kernel_rfl
theorem fxZe170 : zeroOf Try.prog 170 = some (.slice none 0 0) := by kernel_rfl
theorem fxSl170 : sliceElem Try.prog 170 = some 138 := by kernel_rfl
theorem fxAr170 : arrayOf Try.prog 170 = none := by kernel_rfl
theorem fxPl170 : placesOf Try.prog 170 = none := by kernel_rfl
theorem fxSz171 : szOf Try.prog 171 = some 4 := by kernel_rfl
theorem fxBy171 : bytesOf Try.prog 171 = some 32 := by kernel_rfl
theorem fxAg171 : aggOf Try.prog 171 = some true := by kernel_rfl
theorem fxZe171 : zeroOf Try.prog 171 = some (.agg #[.int .i64 0, .int .i64 0, .int .i64 0, .int .i64 0]) := by kernel_rfl
theorem fxSl171 : sliceElem Try.prog 171 = none := by kernel_rfl
theorem fxAr171 : arrayOf Try.prog 171 = some (4, 3) := by kernel_rfl
theorem fxPl171 : placesOf Try.prog 171 = none := by kernel_rfl
theorem fxSz183 : szOf Try.prog 183 = some 1 := by kernel_rfl
theorem fxBy183 : bytesOf Try.prog 183 = some 8 := by kernel_rfl
theorem fxAg183 : aggOf Try.prog 183 = some false := by kernel_rfl
theorem fxZe183 : zeroOf Try.prog 183 = some (.pointer none) := by kernel_rfl
theorem fxSl183 : sliceElem Try.prog 183 = none := by kernel_rfl
theorem fxAr183 : arrayOf Try.prog 183 = none := by kernel_rfl
theorem fxPl183 : placesOf Try.prog 183 = none := by kernel_rfl
theorem fxSz208 : szOf Try.prog 208 = some 1 := by kernel_rfl
theorem fxBy208 : bytesOf Try.prog 208 = some 8 := by kernel_rfl
theorem fxAg208 : aggOf Try.prog 208 = some false := by kernel_rfl
theorem fxZe208 : zeroOf Try.prog 208 = some (.pointer none) := by kernel_rfl
theorem fxSl208 : sliceElem Try.prog 208 = none := by kernel_rfl
theorem fxAr208 : arrayOf Try.prog 208 = none := by kernel_rfl
theorem fxPl208 : placesOf Try.prog 208 = none := by kernel_rfl
theorem fxSz262 : szOf Try.prog 262 = some 1 := by kernel_rfl
theorem fxBy262 : bytesOf Try.prog 262 = some 8 := by kernel_rfl
theorem fxAg262 : aggOf Try.prog 262 = some false := by kernel_rfl
theorem fxZe262 : zeroOf Try.prog 262 = some (.map none) := by kernel_rfl
theorem fxSl262 : sliceElem Try.prog 262 = none := by kernel_rfl
theorem fxAr262 : arrayOf Try.prog 262 = none := by kernel_rfl
theorem fxPl262 : placesOf Try.prog 262 = none := by kernel_rfl
theorem fxSz283 : szOf Try.prog 283 = some 1 := by kernel_rfl
theorem fxBy283 : bytesOf Try.prog 283 = some 8 := by kernel_rfl
theorem fxAg283 : aggOf Try.prog 283 = some false := by kernel_rfl
theorem fxZe283 : zeroOf Try.prog 283 = some (.int .u64 0) := by kernel_rfl
theorem fxSl283 : sliceElem Try.prog 283 = none := by kernel_rfl
theorem fxAr283 : arrayOf Try.prog 283 = none := by kernel_rfl
theorem fxPl283 : placesOf Try.prog 283 = none := by kernel_rfl
theorem fxSz294 : szOf Try.prog 294 = some 1 := by kernel_rfl
theorem fxBy294 : bytesOf Try.prog 294 = some 8 := by kernel_rfl
theorem fxAg294 : aggOf Try.prog 294 = some false := by kernel_rfl
theorem fxZe294 : zeroOf Try.prog 294 = some (.pointer none) := by kernel_rfl
theorem fxSl294 : sliceElem Try.prog 294 = none := by kernel_rfl
theorem fxAr294 : arrayOf Try.prog 294 = none := by kernel_rfl
theorem fxPl294 : placesOf Try.prog 294 = none := by kernel_rfl
theorem fxSz295 : szOf Try.prog 295 = some 1 := by kernel_rfl
theorem fxBy295 : bytesOf Try.prog 295 = some 8 := by kernel_rfl
theorem fxAg295 : aggOf Try.prog 295 = some false := by kernel_rfl
theorem fxZe295 : zeroOf Try.prog 295 = some (.map none) := by kernel_rfl
theorem fxSl295 : sliceElem Try.prog 295 = none := by kernel_rfl
theorem fxAr295 : arrayOf Try.prog 295 = none := by kernel_rfl
theorem fxPl295 : placesOf Try.prog 295 = none := by kernel_rfl
theorem fxSz296 : szOf Try.prog 296 = some 2 := by kernel_rfl
theorem fxBy296 : bytesOf Try.prog 296 = some 16 := by kernel_rfl
theorem fxAg296 : aggOf Try.prog 296 = some true := by kernel_rfl
theorem fxZe296 : zeroOf Try.prog 296 = some (.agg #[.int .i64 0, .int .i64 0]) := by kernel_rfl
theorem fxSl296 : sliceElem Try.prog 296 = none := by kernel_rfl
theorem fxAr296 : arrayOf Try.prog 296 = some (2, 3) := by kernel_rfl
theorem fxPl296 : placesOf Try.prog 296 = none := by kernel_rfl
theorem fxSz299 : szOf Try.prog 299 = some 1 := by kernel_rfl
theorem fxBy299 : bytesOf Try.prog 299 = some 8 := by kernel_rfl
theorem fxAg299 : aggOf Try.prog 299 = some false := by kernel_rfl
theorem fxZe299 : zeroOf Try.prog 299 = some (.int .i64 0) := by kernel_rfl
theorem fxSl299 : sliceElem Try.prog 299 = none := by kernel_rfl
theorem fxAr299 : arrayOf Try.prog 299 = none := by kernel_rfl
theorem fxPl299 : placesOf Try.prog 299 = none := by kernel_rfl
theorem fxSz307 : szOf Try.prog 307 = some 1 := by kernel_rfl
theorem fxBy307 : bytesOf Try.prog 307 = some 8 := by kernel_rfl
theorem fxAg307 : aggOf Try.prog 307 = some false := by kernel_rfl
theorem fxZe307 : zeroOf Try.prog 307 = some (.int .u64 0) := by kernel_rfl
theorem fxSl307 : sliceElem Try.prog 307 = none := by kernel_rfl
theorem fxAr307 : arrayOf Try.prog 307 = none := by kernel_rfl
theorem fxPl307 : placesOf Try.prog 307 = none := by kernel_rfl
theorem fxSz308 : szOf Try.prog 308 = some 1 := by kernel_rfl
theorem fxBy308 : bytesOf Try.prog 308 = some 24 := by kernel_rfl
theorem fxAg308 : aggOf Try.prog 308 = some false := by kernel_rfl
theorem fxZe308 : zeroOf Try.prog 308 = some (.slice none 0 0) := by kernel_rfl
theorem fxSl308 : sliceElem Try.prog 308 = some 4 := by kernel_rfl
theorem fxAr308 : arrayOf Try.prog 308 = none := by kernel_rfl
theorem fxPl308 : placesOf Try.prog 308 = none := by kernel_rfl
theorem fxSz316 : szOf Try.prog 316 = some 1 := by kernel_rfl
theorem fxBy316 : bytesOf Try.prog 316 = some 8 := by kernel_rfl
theorem fxAg316 : aggOf Try.prog 316 = some false := by kernel_rfl
theorem fxZe316 : zeroOf Try.prog 316 = some (.int .u64 0) := by kernel_rfl
theorem fxSl316 : sliceElem Try.prog 316 = none := by kernel_rfl
theorem fxAr316 : arrayOf Try.prog 316 = none := by kernel_rfl
theorem fxPl316 : placesOf Try.prog 316 = none := by kernel_rfl
theorem fxSz320 : szOf Try.prog 320 = some 1 := by kernel_rfl
theorem fxBy320 : bytesOf Try.prog 320 = some 8 := by kernel_rfl
theorem fxAg320 : aggOf Try.prog 320 = some false := by kernel_rfl
theorem fxZe320 : zeroOf Try.prog 320 = some (.pointer none) := by kernel_rfl
theorem fxSl320 : sliceElem Try.prog 320 = none := by kernel_rfl
theorem fxAr320 : arrayOf Try.prog 320 = none := by kernel_rfl
theorem fxPl320 : placesOf Try.prog 320 = none := by kernel_rfl
theorem fxSz324 : szOf Try.prog 324 = some 1 := by kernel_rfl
theorem fxBy324 : bytesOf Try.prog 324 = some 8 := by kernel_rfl
theorem fxAg324 : aggOf Try.prog 324 = some false := by kernel_rfl
theorem fxZe324 : zeroOf Try.prog 324 = some (.pointer none) := by kernel_rfl
theorem fxSl324 : sliceElem Try.prog 324 = none := by kernel_rfl
theorem fxAr324 : arrayOf Try.prog 324 = none := by kernel_rfl
theorem fxPl324 : placesOf Try.prog 324 = none := by kernel_rfl
theorem fxSz330 : szOf Try.prog 330 = some 0 := by kernel_rfl
theorem fxBy330 : bytesOf Try.prog 330 = some 0 := by kernel_rfl
theorem fxAg330 : aggOf Try.prog 330 = some true := by kernel_rfl
theorem fxZe330 : zeroOf Try.prog 330 = some (.agg #[]) := by kernel_rfl
theorem fxSl330 : sliceElem Try.prog 330 = none := by kernel_rfl
theorem fxAr330 : arrayOf Try.prog 330 = some (0, 16) := by kernel_rfl
theorem fxPl330 : placesOf Try.prog 330 = none := by kernel_rfl
theorem fxSz331 : szOf Try.prog 331 = some 0 := by kernel_rfl
theorem fxBy331 : bytesOf Try.prog 331 = some 0 := by kernel_rfl
theorem fxAg331 : aggOf Try.prog 331 = some true := by kernel_rfl
theorem fxZe331 : zeroOf Try.prog 331 = some (.agg #[]) := by kernel_rfl
theorem fxSl331 : sliceElem Try.prog 331 = none := by kernel_rfl
theorem fxAr331 : arrayOf Try.prog 331 = none := by kernel_rfl
theorem fxFi331x0 : fieldOf Try.prog 331 0 = some (0, 0, 330) := by kernel_rfl
theorem fxPl331 : placesOf Try.prog 331 = some [(0, 0)] := by kernel_rfl
theorem fxSz337 : szOf Try.prog 337 = some 1 := by kernel_rfl
theorem fxBy337 : bytesOf Try.prog 337 = some 8 := by kernel_rfl
theorem fxAg337 : aggOf Try.prog 337 = some false := by kernel_rfl
theorem fxZe337 : zeroOf Try.prog 337 = some (.pointer none) := by kernel_rfl
theorem fxSl337 : sliceElem Try.prog 337 = none := by kernel_rfl
theorem fxAr337 : arrayOf Try.prog 337 = none := by kernel_rfl
theorem fxPl337 : placesOf Try.prog 337 = none := by kernel_rfl
theorem fxSz342 : szOf Try.prog 342 = some 1 := by kernel_rfl
theorem fxBy342 : bytesOf Try.prog 342 = some 8 := by kernel_rfl
theorem fxAg342 : aggOf Try.prog 342 = some false := by kernel_rfl
theorem fxZe342 : zeroOf Try.prog 342 = some (.pointer none) := by kernel_rfl
theorem fxSl342 : sliceElem Try.prog 342 = none := by kernel_rfl
theorem fxAr342 : arrayOf Try.prog 342 = none := by kernel_rfl
theorem fxPl342 : placesOf Try.prog 342 = none := by kernel_rfl
theorem fxEq26 : eqOkT Try.prog 26 = some [1, 0, 0] := by kernel_rfl
theorem fxEq33 : eqOkT Try.prog 33 = some [1, 1, 1, 1, 1, 1, 1, 1, 1, 1, 1, 1, 1, 1, 1, 1] := by kernel_rfl
theorem fxEq35 : eqOkT Try.prog 35 = some [1, 1, 1, 1, 1, 1, 1, 1, 1, 1, 1, 1, 1, 1, 1, 1, 1, 1, 1, 1] := by kernel_rfl
theorem fxEq59 : eqOkT Try.prog 59 = some [0, 0, 1, 1, 0, 0, 0] := by kernel_rfl
theorem fxEq62 : eqOkT Try.prog 62 = some [1, 1] := by kernel_rfl
theorem fxEq65 : eqOkT Try.prog 65 = some [1, 1, 1] := by kernel_rfl
theorem fxEq76 : eqOkT Try.prog 76 = some [1, 1, 1] := by kernel_rfl
theorem fxEq104 : eqOkT Try.prog 104 = some [1, 1] := by kernel_rfl
theorem fxEq107 : eqOkT Try.prog 107 = some [1, 1, 1] := by kernel_rfl
theorem fxEq110 : eqOkT Try.prog 110 = some [1, 1] := by kernel_rfl
theorem fxEq137 : eqOkT Try.prog 137 = some [1, 1, 1] := by kernel_rfl
theorem fxEq146 : eqOkT Try.prog 146 = some [1, 1, 1, 1, 1, 1, 1, 1, 1, 1, 1, 1, 1, 1, 1, 1, 1] := by kernel_rfl
theorem fxEq171 : eqOkT Try.prog 171 = some [1, 1, 1, 1] := by kernel_rfl
theorem fxEq296 : eqOkT Try.prog 296 = some [1, 1] := by kernel_rfl
theorem fxCv2x2 {k : IntKind} {a : Int} : asV (pr Try.prog (convert 2 2 (.int k a))) = some (.v (.int .i64 (IntKind.i64.wrap a))) := ev_conv Try.underlying2 Try.underlying2
theorem fxCv2x3 {k : IntKind} {a : Int} : asV (pr Try.prog (convert 2 3 (.int k a))) = some (.v (.int .i64 (IntKind.i64.wrap a))) := ev_conv Try.underlying2 Try.underlying3
theorem fxCv2x5 {k : IntKind} {a : Int} : asV (pr Try.prog (convert 2 5 (.int k a))) = some (.v (.int .u8 (IntKind.u8.wrap a))) := ev_conv Try.underlying2 Try.underlying5
theorem fxCv2x12 {k : IntKind} {a : Int} : asV (pr Try.prog (convert 2 12 (.int k a))) = some (.v (.int .u64 (IntKind.u64.wrap a))) := ev_conv Try.underlying2 Try.underlying12
theorem fxCv2x21 {k : IntKind} {a : Int} : asV (pr Try.prog (convert 2 21 (.int k a))) = some (.v (.int .i32 (IntKind.i32.wrap a))) := ev_conv Try.underlying2 Try.underlying21
theorem fxCv2x38 {k : IntKind} {a : Int} : asV (pr Try.prog (convert 2 38 (.int k a))) = some (.v (.int .i64 (IntKind.i64.wrap a))) := ev_conv Try.underlying2 Try.underlying38
theorem fxCv2x74 {k : IntKind} {a : Int} : asV (pr Try.prog (convert 2 74 (.int k a))) = some (.v (.int .u32 (IntKind.u32.wrap a))) := ev_conv Try.underlying2 Try.underlying74
theorem fxCv2x283 {k : IntKind} {a : Int} : asV (pr Try.prog (convert 2 283 (.int k a))) = some (.v (.int .u64 (IntKind.u64.wrap a))) := ev_conv Try.underlying2 Try.underlying283
theorem fxCv2x299 {k : IntKind} {a : Int} : asV (pr Try.prog (convert 2 299 (.int k a))) = some (.v (.int .i64 (IntKind.i64.wrap a))) := ev_conv Try.underlying2 Try.underlying299
theorem fxCv2x307 {k : IntKind} {a : Int} : asV (pr Try.prog (convert 2 307 (.int k a))) = some (.v (.int .u64 (IntKind.u64.wrap a))) := ev_conv Try.underlying2 Try.underlying307
theorem fxCv2x316 {k : IntKind} {a : Int} : asV (pr Try.prog (convert 2 316 (.int k a))) = some (.v (.int .u64 (IntKind.u64.wrap a))) := ev_conv Try.underlying2 Try.underlying316
theorem fxCv3x2 {k : IntKind} {a : Int} : asV (pr Try.prog (convert 3 2 (.int k a))) = some (.v (.int .i64 (IntKind.i64.wrap a))) := ev_conv Try.underlying3 Try.underlying2
theorem fxCv3x3 {k : IntKind} {a : Int} : asV (pr Try.prog (convert 3 3 (.int k a))) = some (.v (.int .i64 (IntKind.i64.wrap a))) := ev_conv Try.underlying3 Try.underlying3
theorem fxCv3x5 {k : IntKind} {a : Int} : asV (pr Try.prog (convert 3 5 (.int k a))) = some (.v (.int .u8 (IntKind.u8.wrap a))) := ev_conv Try.underlying3 Try.underlying5
theorem fxCv3x12 {k : IntKind} {a : Int} : asV (pr Try.prog (convert 3 12 (.int k a))) = some (.v (.int .u64 (IntKind.u64.wrap a))) := ev_conv Try.underlying3 Try.underlying12
theorem fxCv3x21 {k : IntKind} {a : Int} : asV (pr Try.prog (convert 3 21 (.int k a))) = some (.v (.int .i32 (IntKind.i32.wrap a))) := ev_conv Try.underlying3 Try.underlying21
theorem fxCv3x38 {k : IntKind} {a : Int} : asV (pr Try.prog (convert 3 38 (.int k a))) = some (.v (.int .i64 (IntKind.i64.wrap a))) := ev_conv Try.underlying3 Try.underlying38
theorem fxCv3x74 {k : IntKind} {a : Int} : asV (pr Try.prog (convert 3 74 (.int k a))) = some (.v (.int .u32 (IntKind.u32.wrap a))) := ev_conv Try.underlying3 Try.underlying74
theorem fxCv3x283 {k : IntKind} {a : Int} : asV (pr Try.prog (convert 3 283 (.int k a))) = some (.v (.int .u64 (IntKind.u64.wrap a))) := ev_conv Try.underlying3 Try.underlying283
theorem fxCv3x299 {k : IntKind} {a : Int} : asV (pr Try.prog (convert 3 299 (.int k a))) = some (.v (.int .i64 (IntKind.i64.wrap a))) := ev_conv Try.underlying3 Try.underlying299
theorem fxCv3x307 {k : IntKind} {a : Int} : asV (pr Try.prog (convert 3 307 (.int k a))) = some (.v (.int .u64 (IntKind.u64.wrap a))) := ev_conv Try.underlying3 Try.underlying307
theorem fxCv3x316 {k : IntKind} {a : Int} : asV (pr Try.prog (convert 3 316 (.int k a))) = some (.v (.int .u64 (IntKind.u64.wrap a))) := ev_conv Try.underlying3 Try.underlying316
theorem fxCv5x2 {k : IntKind} {a : Int} : asV (pr Try.prog (convert 5 2 (.int k a))) = some (.v (.int .i64 (IntKind.i64.wrap a))) := ev_conv Try.underlying5 Try.underlying2
theorem fxCv5x3 {k : IntKind} {a : Int} : asV (pr Try.prog (convert 5 3 (.int k a))) = some (.v (.int .i64 (IntKind.i64.wrap a))) := ev_conv Try.underlying5 Try.underlying3
theorem fxCv5x5 {k : IntKind} {a : Int} : asV (pr Try.prog (convert 5 5 (.int k a))) = some (.v (.int .u8 (IntKind.u8.wrap a))) := ev_conv Try.underlying5 Try.underlying5
theorem fxCv5x12 {k : IntKind} {a : Int} : asV (pr Try.prog (convert 5 12 (.int k a))) = some (.v (.int .u64 (IntKind.u64.wrap a))) := ev_conv Try.underlying5 Try.underlying12
theorem fxCv5x21 {k : IntKind} {a : Int} : asV (pr Try.prog (convert 5 21 (.int k a))) = some (.v (.int .i32 (IntKind.i32.wrap a))) := ev_conv Try.underlying5 Try.underlying21
theorem fxCv5x38 {k : IntKind} {a : Int} : asV (pr Try.prog (convert 5 38 (.int k a))) = some (.v (.int .i64 (IntKind.i64.wrap a))) := ev_conv Try.underlying5 Try.underlying38
theorem fxCv5x74 {k : IntKind} {a : Int} : asV (pr Try.prog (convert 5 74 (.int k a))) = some (.v (.int .u32 (IntKind.u32.wrap a))) := ev_conv Try.underlying5 Try.underlying74
theorem fxCv5x283 {k : IntKind} {a : Int} : asV (pr Try.prog (convert 5 283 (.int k a))) = some (.v (.int .u64 (IntKind.u64.wrap a))) := ev_conv Try.underlying5 Try.underlying283
theorem fxCv5x299 {k : IntKind} {a : Int} : asV (pr Try.prog (convert 5 299 (.int k a))) = some (.v (.int .i64 (IntKind.i64.wrap a))) := ev_conv Try.underlying5 Try.underlying299
theorem fxCv5x307 {k : IntKind} {a : Int} : asV (pr Try.prog (convert 5 307 (.int k a))) = some (.v (.int .u64 (IntKind.u64.wrap a))) := ev_conv Try.underlying5 Try.underlying307
theorem fxCv5x316 {k : IntKind} {a : Int} : asV (pr Try.prog (convert 5 316 (.int k a))) = some (.v (.int .u64 (IntKind.u64.wrap a))) := ev_conv Try.underlying5 Try.underlying316
theorem fxCv12x2 {k : IntKind} {a : Int} : asV (pr Try.prog (convert 12 2 (.int k a))) = some (.v (.int .i64 (IntKind.i64.wrap a))) := ev_conv Try.underlying12 Try.underlying2
theorem fxCv12x3 {k : IntKind} {a : Int} : asV (pr Try.prog (convert 12 3 (.int k a))) = some (.v (.int .i64 (IntKind.i64.wrap a))) := ev_conv Try.underlying12 Try.underlying3
theorem fxCv12x5 {k : IntKind} {a : Int} : asV (pr Try.prog (convert 12 5 (.int k a))) = some (.v (.int .u8 (IntKind.u8.wrap a))) := ev_conv Try.underlying12 Try.underlying5
theorem fxCv12x12 {k : IntKind} {a : Int} : asV (pr Try.prog (convert 12 12 (.int k a))) = some (.v (.int .u64 (IntKind.u64.wrap a))) := ev_conv Try.underlying12 Try.underlying12
theorem fxCv12x21 {k : IntKind} {a : Int} : asV (pr Try.prog (convert 12 21 (.int k a))) = some (.v (.int .i32 (IntKind.i32.wrap a))) := ev_conv Try.underlying12 Try.underlying21
theorem fxCv12x38 {k : IntKind} {a : Int} : asV (pr Try.prog (convert 12 38 (.int k a))) = some (.v (.int .i64 (IntKind.i64.wrap a))) := ev_conv Try.underlying12 Try.underlying38
theorem fxCv12x74 {k : IntKind} {a : Int} : asV (pr Try.prog (convert 12 74 (.int k a))) = some (.v (.int .u32 (IntKind.u32.wrap a))) := ev_conv Try.underlying12 Try.underlying74
theorem fxCv12x283 {k : IntKind} {a : Int} : asV (pr Try.prog (convert 12 283 (.int k a))) = some (.v (.int .u64 (IntKind.u64.wrap a))) := ev_conv Try.underlying12 Try.underlying283
theorem fxCv12x299 {k : IntKind} {a : Int} : asV (pr Try.prog (convert 12 299 (.int k a))) = some (.v (.int .i64 (IntKind.i64.wrap a))) := ev_conv Try.underlying12 Try.underlying299
theorem fxCv12x307 {k : IntKind} {a : Int} : asV (pr Try.prog (convert 12 307 (.int k a))) = some (.v (.int .u64 (IntKind.u64.wrap a))) := ev_conv Try.underlying12 Try.underlying307
theorem fxCv12x316 {k : IntKind} {a : Int} : asV (pr Try.prog (convert 12 316 (.int k a))) = some (.v (.int .u64 (IntKind.u64.wrap a))) := ev_conv Try.underlying12 Try.underlying316
theorem fxCv21x2 {k : IntKind} {a : Int} : asV (pr Try.prog (convert 21 2 (.int k a))) = some (.v (.int .i64 (IntKind.i64.wrap a))) := ev_conv Try.underlying21 Try.underlying2
theorem fxCv21x3 {k : IntKind} {a : Int} : asV (pr Try.prog (convert 21 3 (.int k a))) = some (.v (.int .i64 (IntKind.i64.wrap a))) := ev_conv Try.underlying21 Try.underlying3
theorem fxCv21x5 {k : IntKind} {a : Int} : asV (pr Try.prog (convert 21 5 (.int k a))) = some (.v (.int .u8 (IntKind.u8.wrap a))) := ev_conv Try.underlying21 Try.underlying5
theorem fxCv21x12 {k : IntKind} {a : Int} : asV (pr Try.prog (convert 21 12 (.int k a))) = some (.v (.int .u64 (IntKind.u64.wrap a))) := ev_conv Try.underlying21 Try.underlying12
theorem fxCv21x21 {k : IntKind} {a : Int} : asV (pr Try.prog (convert 21 21 (.int k a))) = some (.v (.int .i32 (IntKind.i32.wrap a))) := ev_conv Try.underlying21 Try.underlying21
theorem fxCv21x38 {k : IntKind} {a : Int} : asV (pr Try.prog (convert 21 38 (.int k a))) = some (.v (.int .i64 (IntKind.i64.wrap a))) := ev_conv Try.underlying21 Try.underlying38
theorem fxCv21x74 {k : IntKind} {a : Int} : asV (pr Try.prog (convert 21 74 (.int k a))) = some (.v (.int .u32 (IntKind.u32.wrap a))) := ev_conv Try.underlying21 Try.underlying74
theorem fxCv21x283 {k : IntKind} {a : Int} : asV (pr Try.prog (convert 21 283 (.int k a))) = some (.v (.int .u64 (IntKind.u64.wrap a))) := ev_conv Try.underlying21 Try.underlying283
theorem fxCv21x299 {k : IntKind} {a : Int} : asV (pr Try.prog (convert 21 299 (.int k a))) = some (.v (.int .i64 (IntKind.i64.wrap a))) := ev_conv Try.underlying21 Try.underlying299
theorem fxCv21x307 {k : IntKind} {a : Int} : asV (pr Try.prog (convert 21 307 (.int k a))) = some (.v (.int .u64 (IntKind.u64.wrap a))) := ev_conv Try.underlying21 Try.underlying307
theorem fxCv21x316 {k : IntKind} {a : Int} : asV (pr Try.prog (convert 21 316 (.int k a))) = some (.v (.int .u64 (IntKind.u64.wrap a))) := ev_conv Try.underlying21 Try.underlying316
theorem fxCv38x2 {k : IntKind} {a : Int} : asV (pr Try.prog (convert 38 2 (.int k a))) = some (.v (.int .i64 (IntKind.i64.wrap a))) := ev_conv Try.underlying38 Try.underlying2
theorem fxCv38x3 {k : IntKind} {a : Int} : asV (pr Try.prog (convert 38 3 (.int k a))) = some (.v (.int .i64 (IntKind.i64.wrap a))) := ev_conv Try.underlying38 Try.underlying3
theorem fxCv38x5 {k : IntKind} {a : Int} : asV (pr Try.prog (convert 38 5 (.int k a))) = some (.v (.int .u8 (IntKind.u8.wrap a))) := ev_conv Try.underlying38 Try.underlying5
theorem fxCv38x12 {k : IntKind} {a : Int} : asV (pr Try.prog (convert 38 12 (.int k a))) = some (.v (.int .u64 (IntKind.u64.wrap a))) := ev_conv Try.underlying38 Try.underlying12
theorem fxCv38x21 {k : IntKind} {a : Int} : asV (pr Try.prog (convert 38 21 (.int k a))) = some (.v (.int .i32 (IntKind.i32.wrap a))) := ev_conv Try.underlying38 Try.underlying21
theorem fxCv38x38 {k : IntKind} {a : Int} : asV (pr Try.prog (convert 38 38 (.int k a))) = some (.v (.int .i64 (IntKind.i64.wrap a))) := ev_conv Try.underlying38 Try.underlying38
theorem fxCv38x74 {k : IntKind} {a : Int} : asV (pr Try.prog (convert 38 74 (.int k a))) = some (.v (.int .u32 (IntKind.u32.wrap a))) := ev_conv Try.underlying38 Try.underlying74
theorem fxCv38x283 {k : IntKind} {a : Int} : asV (pr Try.prog (convert 38 283 (.int k a))) = some (.v (.int .u64 (IntKind.u64.wrap a))) := ev_conv Try.underlying38 Try.underlying283
theorem fxCv38x299 {k : IntKind} {a : Int} : asV (pr Try.prog (convert 38 299 (.int k a))) = some (.v (.int .i64 (IntKind.i64.wrap a))) := ev_conv Try.underlying38 Try.underlying299
theorem fxCv38x307 {k : IntKind} {a : Int} : asV (pr Try.prog (convert 38 307 (.int k a))) = some (.v (.int .u64 (IntKind.u64.wrap a))) := ev_conv Try.underlying38 Try.underlying307
theorem fxCv38x316 {k : IntKind} {a : Int} : asV (pr Try.prog (convert 38 316 (.int k a))) = some (.v (.int .u64 (IntKind.u64.wrap a))) := ev_conv Try.underlying38 Try.underlying316
theorem fxCv74x2 {k : IntKind} {a : Int} : asV (pr Try.prog (convert 74 2 (.int k a))) = some (.v (.int .i64 (IntKind.i64.wrap a))) := ev_conv Try.underlying74 Try.underlying2
theorem fxCv74x3 {k : IntKind} {a : Int} : asV (pr Try.prog (convert 74 3 (.int k a))) = some (.v (.int .i64 (IntKind.i64.wrap a))) := ev_conv Try.underlying74 Try.underlying3
theorem fxCv74x5 {k : IntKind} {a : Int} : asV (pr Try.prog (convert 74 5 (.int k a))) = some (.v (.int .u8 (IntKind.u8.wrap a))) := ev_conv Try.underlying74 Try.underlying5
theorem fxCv74x12 {k : IntKind} {a : Int} : asV (pr Try.prog (convert 74 12 (.int k a))) = some (.v (.int .u64 (IntKind.u64.wrap a))) := ev_conv Try.underlying74 Try.underlying12
theorem fxCv74x21 {k : IntKind} {a : Int} : asV (pr Try.prog (convert 74 21 (.int k a))) = some (.v (.int .i32 (IntKind.i32.wrap a))) := ev_conv Try.underlying74 Try.underlying21
theorem fxCv74x38 {k : IntKind} {a : Int} : asV (pr Try.prog (convert 74 38 (.int k a))) = some (.v (.int .i64 (IntKind.i64.wrap a))) := ev_conv Try.underlying74 Try.underlying38
theorem fxCv74x74 {k : IntKind} {a : Int} : asV (pr Try.prog (convert 74 74 (.int k a))) = some (.v (.int .u32 (IntKind.u32.wrap a))) := ev_conv Try.underlying74 Try.underlying74
theorem fxCv74x283 {k : IntKind} {a : Int} : asV (pr Try.prog (convert 74 283 (.int k a))) = some (.v (.int .u64 (IntKind.u64.wrap a))) := ev_conv Try.underlying74 Try.underlying283
theorem fxCv74x299 {k : IntKind} {a : Int} : asV (pr Try.prog (convert 74 299 (.int k a))) = some (.v (.int .i64 (IntKind.i64.wrap a))) := ev_conv Try.underlying74 Try.underlying299
theorem fxCv74x307 {k : IntKind} {a : Int} : asV (pr Try.prog (convert 74 307 (.int k a))) = some (.v (.int .u64 (IntKind.u64.wrap a))) := ev_conv Try.underlying74 Try.underlying307
theorem fxCv74x316 {k : IntKind} {a : Int} : asV (pr Try.prog (convert 74 316 (.int k a))) = some (.v (.int .u64 (IntKind.u64.wrap a))) := ev_conv Try.underlying74 Try.underlying316
theorem fxCv283x2 {k : IntKind} {a : Int} : asV (pr Try.prog (convert 283 2 (.int k a))) = some (.v (.int .i64 (IntKind.i64.wrap a))) := ev_conv Try.underlying283 Try.underlying2
theorem fxCv283x3 {k : IntKind} {a : Int} : asV (pr Try.prog (convert 283 3 (.int k a))) = some (.v (.int .i64 (IntKind.i64.wrap a))) := ev_conv Try.underlying283 Try.underlying3
theorem fxCv283x5 {k : IntKind} {a : Int} : asV (pr Try.prog (convert 283 5 (.int k a))) = some (.v (.int .u8 (IntKind.u8.wrap a))) := ev_conv Try.underlying283 Try.underlying5
theorem fxCv283x12 {k : IntKind} {a : Int} : asV (pr Try.prog (convert 283 12 (.int k a))) = some (.v (.int .u64 (IntKind.u64.wrap a))) := ev_conv Try.underlying283 Try.underlying12
theorem fxCv283x21 {k : IntKind} {a : Int} : asV (pr Try.prog (convert 283 21 (.int k a))) = some (.v (.int .i32 (IntKind.i32.wrap a))) := ev_conv Try.underlying283 Try.underlying21
theorem fxCv283x38 {k : IntKind} {a : Int} : asV (pr Try.prog (convert 283 38 (.int k a))) = some (.v (.int .i64 (IntKind.i64.wrap a))) := ev_conv Try.underlying283 Try.underlying38
theorem fxCv283x74 {k : IntKind} {a : Int} : asV (pr Try.prog (convert 283 74 (.int k a))) = some (.v (.int .u32 (IntKind.u32.wrap a))) := ev_conv Try.underlying283 Try.underlying74
theorem fxCv283x283 {k : IntKind} {a : Int} : asV (pr Try.prog (convert 283 283 (.int k a))) = some (.v (.int .u64 (IntKind.u64.wrap a))) := ev_conv Try.underlying283 Try.underlying283
theorem fxCv283x299 {k : IntKind} {a : Int} : asV (pr Try.prog (convert 283 299 (.int k a))) = some (.v (.int .i64 (IntKind.i64.wrap a))) := ev_conv Try.underlying283 Try.underlying299
theorem fxCv283x307 {k : IntKind} {a : Int} : asV (pr Try.prog (convert 283 307 (.int k a))) = some (.v (.int .u64 (IntKind.u64.wrap a))) := ev_conv Try.underlying283 Try.underlying307
theorem fxCv283x316 {k : IntKind} {a : Int} : asV (pr Try.prog (convert 283 316 (.int k a))) = some (.v (.int .u64 (IntKind.u64.wrap a))) := ev_conv Try.underlying283 Try.underlying316
theorem fxCv299x2 {k : IntKind} {a : Int} : asV (pr Try.prog (convert 299 2 (.int k a))) = some (.v (.int .i64 (IntKind.i64.wrap a))) := ev_conv Try.underlying299 Try.underlying2
theorem fxCv299x3 {k : IntKind} {a : Int} : asV (pr Try.prog (convert 299 3 (.int k a))) = some (.v (.int .i64 (IntKind.i64.wrap a))) := ev_conv Try.underlying299 Try.underlying3
theorem fxCv299x5 {k : IntKind} {a : Int} : asV (pr Try.prog (convert 299 5 (.int k a))) = some (.v (.int .u8 (IntKind.u8.wrap a))) := ev_conv Try.underlying299 Try.underlying5
theorem fxCv299x12 {k : IntKind} {a : Int} : asV (pr Try.prog (convert 299 12 (.int k a))) = some (.v (.int .u64 (IntKind.u64.wrap a))) := ev_conv Try.underlying299 Try.underlying12
theorem fxCv299x21 {k : IntKind} {a : Int} : asV (pr Try.prog (convert 299 21 (.int k a))) = some (.v (.int .i32 (IntKind.i32.wrap a))) := ev_conv Try.underlying299 Try.underlying21
theorem fxCv299x38 {k : IntKind} {a : Int} : asV (pr Try.prog (convert 299 38 (.int k a))) = some (.v (.int .i64 (IntKind.i64.wrap a))) := ev_conv Try.underlying299 Try.underlying38
theorem fxCv299x74 {k : IntKind} {a : Int} : asV (pr Try.prog (convert 299 74 (.int k a))) = some (.v (.int .u32 (IntKind.u32.wrap a))) := ev_conv Try.underlying299 Try.underlying74
theorem fxCv299x283 {k : IntKind} {a : Int} : asV (pr Try.prog (convert 299 283 (.int k a))) = some (.v (.int .u64 (IntKind.u64.wrap a))) := ev_conv Try.underlying299 Try.underlying283
theorem fxCv299x299 {k : IntKind} {a : Int} : asV (pr Try.prog (convert 299 299 (.int k a))) = some (.v (.int .i64 (IntKind.i64.wrap a))) := ev_conv Try.underlying299 Try.underlying299
theorem fxCv299x307 {k : IntKind} {a : Int} : asV (pr Try.prog (convert 299 307 (.int k a))) = some (.v (.int .u64 (IntKind.u64.wrap a))) := ev_conv Try.underlying299 Try.underlying307
theorem fxCv299x316 {k : IntKind} {a : Int} : asV (pr Try.prog (convert 299 316 (.int k a))) = some (.v (.int .u64 (IntKind.u64.wrap a))) := ev_conv Try.underlying299 Try.underlying316
theorem fxCv307x2 {k : IntKind} {a : Int} : asV (pr Try.prog (convert 307 2 (.int k a))) = some (.v (.int .i64 (IntKind.i64.wrap a))) := ev_conv Try.underlying307 Try.underlying2
theorem fxCv307x3 {k : IntKind} {a : Int} : asV (pr Try.prog (convert 307 3 (.int k a))) = some (.v (.int .i64 (IntKind.i64.wrap a))) := ev_conv Try.underlying307 Try.underlying3
theorem fxCv307x5 {k : IntKind} {a : Int} : asV (pr Try.prog (convert 307 5 (.int k a))) = some (.v (.int .u8 (IntKind.u8.wrap a))) := ev_conv Try.underlying307 Try.underlying5
theorem fxCv307x12 {k : IntKind} {a : Int} : asV (pr Try.prog (convert 307 12 (.int k a))) = some (.v (.int .u64 (IntKind.u64.wrap a))) := ev_conv Try.underlying307 Try.underlying12
theorem fxCv307x21 {k : IntKind} {a : Int} : asV (pr Try.prog (convert 307 21 (.int k a))) = some (.v (.int .i32 (IntKind.i32.wrap a))) := ev_conv Try.underlying307 Try.underlying21
theorem fxCv307x38 {k : IntKind} {a : Int} : asV (pr Try.prog (convert 307 38 (.int k a))) = some (.v (.int .i64 (IntKind.i64.wrap a))) := ev_conv Try.underlying307 Try.underlying38
theorem fxCv307x74 {k : IntKind} {a : Int} : asV (pr Try.prog (convert 307 74 (.int k a))) = some (.v (.int .u32 (IntKind.u32.wrap a))) := ev_conv Try.underlying307 Try.underlying74
theorem fxCv307x283 {k : IntKind} {a : Int} : asV (pr Try.prog (convert 307 283 (.int k a))) = some (.v (.int .u64 (IntKind.u64.wrap a))) := ev_conv Try.underlying307 Try.underlying283
theorem fxCv307x299 {k : IntKind} {a : Int} : asV (pr Try.prog (convert 307 299 (.int k a))) = some (.v (.int .i64 (IntKind.i64.wrap a))) := ev_conv Try.underlying307 Try.underlying299
theorem fxCv307x307 {k : IntKind} {a : Int} : asV (pr Try.prog (convert 307 307 (.int k a))) = some (.v (.int .u64 (IntKind.u64.wrap a))) := ev_conv Try.underlying307 Try.underlying307
theorem fxCv307x316 {k : IntKind} {a : Int} : asV (pr Try.prog (convert 307 316 (.int k a))) = some (.v (.int .u64 (IntKind.u64.wrap a))) := ev_conv Try.underlying307 Try.underlying316
theorem fxCv316x2 {k : IntKind} {a : Int} : asV (pr Try.prog (convert 316 2 (.int k a))) = some (.v (.int .i64 (IntKind.i64.wrap a))) := ev_conv Try.underlying316 Try.underlying2
theorem fxCv316x3 {k : IntKind} {a : Int} : asV (pr Try.prog (convert 316 3 (.int k a))) = some (.v (.int .i64 (IntKind.i64.wrap a))) := ev_conv Try.underlying316 Try.underlying3
theorem fxCv316x5 {k : IntKind} {a : Int} : asV (pr Try.prog (convert 316 5 (.int k a))) = some (.v (.int .u8 (IntKind.u8.wrap a))) := ev_conv Try.underlying316 Try.underlying5
theorem fxCv316x12 {k : IntKind} {a : Int} : asV (pr Try.prog (convert 316 12 (.int k a))) = some (.v (.int .u64 (IntKind.u64.wrap a))) := ev_conv Try.underlying316 Try.underlying12
theorem fxCv316x21 {k : IntKind} {a : Int} : asV (pr Try.prog (convert 316 21 (.int k a))) = some (.v (.int .i32 (IntKind.i32.wrap a))) := ev_conv Try.underlying316 Try.underlying21
theorem fxCv316x38 {k : IntKind} {a : Int} : asV (pr Try.prog (convert 316 38 (.int k a))) = some (.v (.int .i64 (IntKind.i64.wrap a))) := ev_conv Try.underlying316 Try.underlying38
theorem fxCv316x74 {k : IntKind} {a : Int} : asV (pr Try.prog (convert 316 74 (.int k a))) = some (.v (.int .u32 (IntKind.u32.wrap a))) := ev_conv Try.underlying316 Try.underlying74
theorem fxCv316x283 {k : IntKind} {a : Int} : asV (pr Try.prog (convert 316 283 (.int k a))) = some (.v (.int .u64 (IntKind.u64.wrap a))) := ev_conv Try.underlying316 Try.underlying283
theorem fxCv316x299 {k : IntKind} {a : Int} : asV (pr Try.prog (convert 316 299 (.int k a))) = some (.v (.int .i64 (IntKind.i64.wrap a))) := ev_conv Try.underlying316 Try.underlying299
theorem fxCv316x307 {k : IntKind} {a : Int} : asV (pr Try.prog (convert 316 307 (.int k a))) = some (.v (.int .u64 (IntKind.u64.wrap a))) := ev_conv Try.underlying316 Try.underlying307
theorem fxCv316x316 {k : IntKind} {a : Int} : asV (pr Try.prog (convert 316 316 (.int k a))) = some (.v (.int .u64 (IntKind.u64.wrap a))) := ev_conv Try.underlying316 Try.underlying316
theorem fxEb4 {x y : Operand} {p q : Bool} : aBin Try.prog .eql 4 x y (.v (.bool p)) (.v (.bool q)) = some (.v (.bool (p == q))) := ev_eqlB Try.underlying4
theorem fxNb4 {x y : Operand} {p q : Bool} : aBin Try.prog .neq 4 x y (.v (.bool p)) (.v (.bool q)) = some (.v (.bool (!(p == q)))) := ev_neqB Try.underlying4
theorem fxLt9 {s : ByteArray} : asV (pr Try.prog (Builtin.len_ #[9] 0 #[.string s])) = some (.v (.int .i64 s.size)) := ev_lenT Try.underlying9
theorem fxLn22 : asV (pr Try.prog (Builtin.len_ #[22] 0 #[.slice none 0 0])) = some (.v (.int .i64 0)) := ev_lenN Try.underlying22
theorem fxNe22 {x y : Operand} {o : Bool} {sz : Nat} {rows : List Row} : aBin Try.prog .eql 22 x y (.fsl o sz rows) (.v (.slice none 0 0)) = some (if rows.isEmpty then .anyb else .v (.bool false)) := ev_nilE fxSl22
theorem fxNn22 {x y : Operand} {o : Bool} {sz : Nat} {rows : List Row} : aBin Try.prog .neq 22 x y (.fsl o sz rows) (.v (.slice none 0 0)) = some (if rows.isEmpty then .anyb else .v (.bool true)) := ev_nilN fxSl22
theorem fxOe22 {x y : Operand} {a b c d e : Nat} : aBin Try.prog .eql 22 x y (.osl a b c d e) (.v (.slice none 0 0)) = some (.v (.bool false)) := ev_nilOe fxSl22
theorem fxOn22 {x y : Operand} {a b c d e : Nat} : aBin Try.prog .neq 22 x y (.osl a b c d e) (.v (.slice none 0 0)) = some (.v (.bool true)) := ev_nilOn fxSl22
theorem fxXe22 {x y : Operand} : aBin Try.prog .eql 22 x y .esl (.v (.slice none 0 0)) = some .anyb := ev_nilXe fxSl22
theorem fxXn22 {x y : Operand} : aBin Try.prog .neq 22 x y .esl (.v (.slice none 0 0)) = some .anyb := ev_nilXn fxSl22
theorem fxLn27 : asV (pr Try.prog (Builtin.len_ #[27] 0 #[.slice none 0 0])) = some (.v (.int .i64 0)) := ev_lenN Try.underlying27
theorem fxNe27 {x y : Operand} {o : Bool} {sz : Nat} {rows : List Row} : aBin Try.prog .eql 27 x y (.fsl o sz rows) (.v (.slice none 0 0)) = some (if rows.isEmpty then .anyb else .v (.bool false)) := ev_nilE fxSl27
theorem fxNn27 {x y : Operand} {o : Bool} {sz : Nat} {rows : List Row} : aBin Try.prog .neq 27 x y (.fsl o sz rows) (.v (.slice none 0 0)) = some (if rows.isEmpty then .anyb else .v (.bool true)) := ev_nilN fxSl27
theorem fxOe27 {x y : Operand} {a b c d e : Nat} : aBin Try.prog .eql 27 x y (.osl a b c d e) (.v (.slice none 0 0)) = some (.v (.bool false)) := ev_nilOe fxSl27
theorem fxOn27 {x y : Operand} {a b c d e : Nat} : aBin Try.prog .neq 27 x y (.osl a b c d e) (.v (.slice none 0 0)) = some (.v (.bool true)) := ev_nilOn fxSl27
theorem fxXe27 {x y : Operand} : aBin Try.prog .eql 27 x y .esl (.v (.slice none 0 0)) = some .anyb := ev_nilXe fxSl27
theorem fxXn27 {x y : Operand} : aBin Try.prog .neq 27 x y .esl (.v (.slice none 0 0)) = some .anyb := ev_nilXn fxSl27
theorem fxLn53 : asV (pr Try.prog (Builtin.len_ #[53] 0 #[.slice none 0 0])) = some (.v (.int .i64 0)) := ev_lenN Try.underlying53
theorem fxNe53 {x y : Operand} {o : Bool} {sz : Nat} {rows : List Row} : aBin Try.prog .eql 53 x y (.fsl o sz rows) (.v (.slice none 0 0)) = some (if rows.isEmpty then .anyb else .v (.bool false)) := ev_nilE fxSl53
theorem fxNn53 {x y : Operand} {o : Bool} {sz : Nat} {rows : List Row} : aBin Try.prog .neq 53 x y (.fsl o sz rows) (.v (.slice none 0 0)) = some (if rows.isEmpty then .anyb else .v (.bool true)) := ev_nilN fxSl53
theorem fxOe53 {x y : Operand} {a b c d e : Nat} : aBin Try.prog .eql 53 x y (.osl a b c d e) (.v (.slice none 0 0)) = some (.v (.bool false)) := ev_nilOe fxSl53
theorem fxOn53 {x y : Operand} {a b c d e : Nat} : aBin Try.prog .neq 53 x y (.osl a b c d e) (.v (.slice none 0 0)) = some (.v (.bool true)) := ev_nilOn fxSl53
theorem fxXe53 {x y : Operand} : aBin Try.prog .eql 53 x y .esl (.v (.slice none 0 0)) = some .anyb := ev_nilXe fxSl53
theorem fxXn53 {x y : Operand} : aBin Try.prog .neq 53 x y .esl (.v (.slice none 0 0)) = some .anyb := ev_nilXn fxSl53
theorem fxLn60 : asV (pr Try.prog (Builtin.len_ #[60] 0 #[.slice none 0 0])) = some (.v (.int .i64 0)) := ev_lenN Try.underlying60
theorem fxNe60 {x y : Operand} {o : Bool} {sz : Nat} {rows : List Row} : aBin Try.prog .eql 60 x y (.fsl o sz rows) (.v (.slice none 0 0)) = some (if rows.isEmpty then .anyb else .v (.bool false)) := ev_nilE fxSl60
theorem fxNn60 {x y : Operand} {o : Bool} {sz : Nat} {rows : List Row} : aBin Try.prog .neq 60 x y (.fsl o sz rows) (.v (.slice none 0 0)) = some (if rows.isEmpty then .anyb else .v (.bool true)) := ev_nilN fxSl60
theorem fxOe60 {x y : Operand} {a b c d e : Nat} : aBin Try.prog .eql 60 x y (.osl a b c d e) (.v (.slice none 0 0)) = some (.v (.bool false)) := ev_nilOe fxSl60
theorem fxOn60 {x y : Operand} {a b c d e : Nat} : aBin Try.prog .neq 60 x y (.osl a b c d e) (.v (.slice none 0 0)) = some (.v (.bool true)) := ev_nilOn fxSl60
theorem fxXe60 {x y : Operand} : aBin Try.prog .eql 60 x y .esl (.v (.slice none 0 0)) = some .anyb := ev_nilXe fxSl60
theorem fxXn60 {x y : Operand} : aBin Try.prog .neq 60 x y .esl (.v (.slice none 0 0)) = some .anyb := ev_nilXn fxSl60
theorem fxLn63 : asV (pr Try.prog (Builtin.len_ #[63] 0 #[.slice none 0 0])) = some (.v (.int .i64 0)) := ev_lenN Try.underlying63
theorem fxNe63 {x y : Operand} {o : Bool} {sz : Nat} {rows : List Row} : aBin Try.prog .eql 63 x y (.fsl o sz rows) (.v (.slice none 0 0)) = some (if rows.isEmpty then .anyb else .v (.bool false)) := ev_nilE fxSl63
theorem fxNn63 {x y : Operand} {o : Bool} {sz : Nat} {rows : List Row} : aBin Try.prog .neq 63 x y (.fsl o sz rows) (.v (.slice none 0 0)) = some (if rows.isEmpty then .anyb else .v (.bool true)) := ev_nilN fxSl63
theorem fxOe63 {x y : Operand} {a b c d e : Nat} : aBin Try.prog .eql 63 x y (.osl a b c d e) (.v (.slice none 0 0)) = some (.v (.bool false)) := ev_nilOe fxSl63
theorem fxOn63 {x y : Operand} {a b c d e : Nat} : aBin Try.prog .neq 63 x y (.osl a b c d e) (.v (.slice none 0 0)) = some (.v (.bool true)) := ev_nilOn fxSl63
theorem fxXe63 {x y : Operand} : aBin Try.prog .eql 63 x y .esl (.v (.slice none 0 0)) = some .anyb := ev_nilXe fxSl63
theorem fxXn63 {x y : Operand} : aBin Try.prog .neq 63 x y .esl (.v (.slice none 0 0)) = some .anyb := ev_nilXn fxSl63
theorem fxLn66 : asV (pr Try.prog (Builtin.len_ #[66] 0 #[.slice none 0 0])) = some (.v (.int .i64 0)) := ev_lenN Try.underlying66
theorem fxNe66 {x y : Operand} {o : Bool} {sz : Nat} {rows : List Row} : aBin Try.prog .eql 66 x y (.fsl o sz rows) (.v (.slice none 0 0)) = some (if rows.isEmpty then .anyb else .v (.bool false)) := ev_nilE fxSl66
theorem fxNn66 {x y : Operand} {o : Bool} {sz : Nat} {rows : List Row} : aBin Try.prog .neq 66 x y (.fsl o sz rows) (.v (.slice none 0 0)) = some (if rows.isEmpty then .anyb else .v (.bool true)) := ev_nilN fxSl66
theorem fxOe66 {x y : Operand} {a b c d e : Nat} : aBin Try.prog .eql 66 x y (.osl a b c d e) (.v (.slice none 0 0)) = some (.v (.bool false)) := ev_nilOe fxSl66
theorem fxOn66 {x y : Operand} {a b c d e : Nat} : aBin Try.prog .neq 66 x y (.osl a b c d e) (.v (.slice none 0 0)) = some (.v (.bool true)) := ev_nilOn fxSl66
theorem fxXe66 {x y : Operand} : aBin Try.prog .eql 66 x y .esl (.v (.slice none 0 0)) = some .anyb := ev_nilXe fxSl66
theorem fxXn66 {x y : Operand} : aBin Try.prog .neq 66 x y .esl (.v (.slice none 0 0)) = some .anyb := ev_nilXn fxSl66
theorem fxLn68 : asV (pr Try.prog (Builtin.len_ #[68] 0 #[.slice none 0 0])) = some (.v (.int .i64 0)) := ev_lenN Try.underlying68
theorem fxNe68 {x y : Operand} {o : Bool} {sz : Nat} {rows : List Row} : aBin Try.prog .eql 68 x y (.fsl o sz rows) (.v (.slice none 0 0)) = some (if rows.isEmpty then .anyb else .v (.bool false)) := ev_nilE fxSl68
theorem fxNn68 {x y : Operand} {o : Bool} {sz : Nat} {rows : List Row} : aBin Try.prog .neq 68 x y (.fsl o sz rows) (.v (.slice none 0 0)) = some (if rows.isEmpty then .anyb else .v (.bool true)) := ev_nilN fxSl68
theorem fxOe68 {x y : Operand} {a b c d e : Nat} : aBin Try.prog .eql 68 x y (.osl a b c d e) (.v (.slice none 0 0)) = some (.v (.bool false)) := ev_nilOe fxSl68
theorem fxOn68 {x y : Operand} {a b c d e : Nat} : aBin Try.prog .neq 68 x y (.osl a b c d e) (.v (.slice none 0 0)) = some (.v (.bool true)) := ev_nilOn fxSl68
theorem fxXe68 {x y : Operand} : aBin Try.prog .eql 68 x y .esl (.v (.slice none 0 0)) = some .anyb := ev_nilXe fxSl68
theorem fxXn68 {x y : Operand} : aBin Try.prog .neq 68 x y .esl (.v (.slice none 0 0)) = some .anyb := ev_nilXn fxSl68
theorem fxLn69 : asV (pr Try.prog (Builtin.len_ #[69] 0 #[.slice none 0 0])) = some (.v (.int .i64 0)) := ev_lenN Try.underlying69
theorem fxNe69 {x y : Operand} {o : Bool} {sz : Nat} {rows : List Row} : aBin Try.prog .eql 69 x y (.fsl o sz rows) (.v (.slice none 0 0)) = some (if rows.isEmpty then .anyb else .v (.bool false)) := ev_nilE fxSl69
theorem fxNn69 {x y : Operand} {o : Bool} {sz : Nat} {rows : List Row} : aBin Try.prog .neq 69 x y (.fsl o sz rows) (.v (.slice none 0 0)) = some (if rows.isEmpty then .anyb else .v (.bool true)) := ev_nilN fxSl69
theorem fxOe69 {x y : Operand} {a b c d e : Nat} : aBin Try.prog .eql 69 x y (.osl a b c d e) (.v (.slice none 0 0)) = some (.v (.bool false)) := ev_nilOe fxSl69
theorem fxOn69 {x y : Operand} {a b c d e : Nat} : aBin Try.prog .neq 69 x y (.osl a b c d e) (.v (.slice none 0 0)) = some (.v (.bool true)) := ev_nilOn fxSl69
theorem fxXe69 {x y : Operand} : aBin Try.prog .eql 69 x y .esl (.v (.slice none 0 0)) = some .anyb := ev_nilXe fxSl69
theorem fxXn69 {x y : Operand} : aBin Try.prog .neq 69 x y .esl (.v (.slice none 0 0)) = some .anyb := ev_nilXn fxSl69
theorem fxLn70 : asV (pr Try.prog (Builtin.len_ #[70] 0 #[.slice none 0 0])) = some (.v (.int .i64 0)) := ev_lenN Try.underlying70
theorem fxNe70 {x y : Operand} {o : Bool} {sz : Nat} {rows : List Row} : aBin Try.prog .eql 70 x y (.fsl o sz rows) (.v (.slice none 0 0)) = some (if rows.isEmpty then .anyb else .v (.bool false)) := ev_nilE fxSl70
theorem fxNn70 {x y : Operand} {o : Bool} {sz : Nat} {rows : List Row} : aBin Try.prog .neq 70 x y (.fsl o sz rows) (.v (.slice none 0 0)) = some (if rows.isEmpty then .anyb else .v (.bool true)) := ev_nilN fxSl70
theorem fxOe70 {x y : Operand} {a b c d e : Nat} : aBin Try.prog .eql 70 x y (.osl a b c d e) (.v (.slice none 0 0)) = some (.v (.bool false)) := ev_nilOe fxSl70
theorem fxOn70 {x y : Operand} {a b c d e : Nat} : aBin Try.prog .neq 70 x y (.osl a b c d e) (.v (.slice none 0 0)) = some (.v (.bool true)) := ev_nilOn fxSl70
theorem fxXe70 {x y : Operand} : aBin Try.prog .eql 70 x y .esl (.v (.slice none 0 0)) = some .anyb := ev_nilXe fxSl70
theorem fxXn70 {x y : Operand} : aBin Try.prog .neq 70 x y .esl (.v (.slice none 0 0)) = some .anyb := ev_nilXn fxSl70
theorem fxLn96 : asV (pr Try.prog (Builtin.len_ #[96] 0 #[.slice none 0 0])) = some (.v (.int .i64 0)) := ev_lenN Try.underlying96
theorem fxNe96 {x y : Operand} {o : Bool} {sz : Nat} {rows : List Row} : aBin Try.prog .eql 96 x y (.fsl o sz rows) (.v (.slice none 0 0)) = some (if rows.isEmpty then .anyb else .v (.bool false)) := ev_nilE fxSl96
theorem fxNn96 {x y : Operand} {o : Bool} {sz : Nat} {rows : List Row} : aBin Try.prog .neq 96 x y (.fsl o sz rows) (.v (.slice none 0 0)) = some (if rows.isEmpty then .anyb else .v (.bool true)) := ev_nilN fxSl96
theorem fxOe96 {x y : Operand} {a b c d e : Nat} : aBin Try.prog .eql 96 x y (.osl a b c d e) (.v (.slice none 0 0)) = some (.v (.bool false)) := ev_nilOe fxSl96
theorem fxOn96 {x y : Operand} {a b c d e : Nat} : aBin Try.prog .neq 96 x y (.osl a b c d e) (.v (.slice none 0 0)) = some (.v (.bool true)) := ev_nilOn fxSl96
theorem fxXe96 {x y : Operand} : aBin Try.prog .eql 96 x y .esl (.v (.slice none 0 0)) = some .anyb := ev_nilXe fxSl96
theorem fxXn96 {x y : Operand} : aBin Try.prog .neq 96 x y .esl (.v (.slice none 0 0)) = some .anyb := ev_nilXn fxSl96
theorem fxLn97 : asV (pr Try.prog (Builtin.len_ #[97] 0 #[.slice none 0 0])) = some (.v (.int .i64 0)) := ev_lenN Try.underlying97
theorem fxNe97 {x y : Operand} {o : Bool} {sz : Nat} {rows : List Row} : aBin Try.prog .eql 97 x y (.fsl o sz rows) (.v (.slice none 0 0)) = some (if rows.isEmpty then .anyb else .v (.bool false)) := ev_nilE fxSl97
theorem fxNn97 {x y : Operand} {o : Bool} {sz : Nat} {rows : List Row} : aBin Try.prog .neq 97 x y (.fsl o sz rows) (.v (.slice none 0 0)) = some (if rows.isEmpty then .anyb else .v (.bool true)) := ev_nilN fxSl97
theorem fxOe97 {x y : Operand} {a b c d e : Nat} : aBin Try.prog .eql 97 x y (.osl a b c d e) (.v (.slice none 0 0)) = some (.v (.bool false)) := ev_nilOe fxSl97
theorem fxOn97 {x y : Operand} {a b c d e : Nat} : aBin Try.prog .neq 97 x y (.osl a b c d e) (.v (.slice none 0 0)) = some (.v (.bool true)) := ev_nilOn fxSl97
theorem fxXe97 {x y : Operand} : aBin Try.prog .eql 97 x y .esl (.v (.slice none 0 0)) = some .anyb := ev_nilXe fxSl97
theorem fxXn97 {x y : Operand} : aBin Try.prog .neq 97 x y .esl (.v (.slice none 0 0)) = some .anyb := ev_nilXn fxSl97
theorem fxLn100 : asV (pr Try.prog (Builtin.len_ #[100] 0 #[.slice none 0 0])) = some (.v (.int .i64 0)) := ev_lenN Try.underlying100
theorem fxNe100 {x y : Operand} {o : Bool} {sz : Nat} {rows : List Row} : aBin Try.prog .eql 100 x y (.fsl o sz rows) (.v (.slice none 0 0)) = some (if rows.isEmpty then .anyb else .v (.bool false)) := ev_nilE fxSl100
theorem fxNn100 {x y : Operand} {o : Bool} {sz : Nat} {rows : List Row} : aBin Try.prog .neq 100 x y (.fsl o sz rows) (.v (.slice none 0 0)) = some (if rows.isEmpty then .anyb else .v (.bool true)) := ev_nilN fxSl100
theorem fxOe100 {x y : Operand} {a b c d e : Nat} : aBin Try.prog .eql 100 x y (.osl a b c d e) (.v (.slice none 0 0)) = some (.v (.bool false)) := ev_nilOe fxSl100
theorem fxOn100 {x y : Operand} {a b c d e : Nat} : aBin Try.prog .neq 100 x y (.osl a b c d e) (.v (.slice none 0 0)) = some (.v (.bool true)) := ev_nilOn fxSl100
theorem fxXe100 {x y : Operand} : aBin Try.prog .eql 100 x y .esl (.v (.slice none 0 0)) = some .anyb := ev_nilXe fxSl100
theorem fxXn100 {x y : Operand} : aBin Try.prog .neq 100 x y .esl (.v (.slice none 0 0)) = some .anyb := ev_nilXn fxSl100
theorem fxLn111 : asV (pr Try.prog (Builtin.len_ #[111] 0 #[.slice none 0 0])) = some (.v (.int .i64 0)) := ev_lenN Try.underlying111
theorem fxNe111 {x y : Operand} {o : Bool} {sz : Nat} {rows : List Row} : aBin Try.prog .eql 111 x y (.fsl o sz rows) (.v (.slice none 0 0)) = some (if rows.isEmpty then .anyb else .v (.bool false)) := ev_nilE fxSl111
theorem fxNn111 {x y : Operand} {o : Bool} {sz : Nat} {rows : List Row} : aBin Try.prog .neq 111 x y (.fsl o sz rows) (.v (.slice none 0 0)) = some (if rows.isEmpty then .anyb else .v (.bool true)) := ev_nilN fxSl111
theorem fxOe111 {x y : Operand} {a b c d e : Nat} : aBin Try.prog .eql 111 x y (.osl a b c d e) (.v (.slice none 0 0)) = some (.v (.bool false)) := ev_nilOe fxSl111
theorem fxOn111 {x y : Operand} {a b c d e : Nat} : aBin Try.prog .neq 111 x y (.osl a b c d e) (.v (.slice none 0 0)) = some (.v (.bool true)) := ev_nilOn fxSl111
theorem fxXe111 {x y : Operand} : aBin Try.prog .eql 111 x y .esl (.v (.slice none 0 0)) = some .anyb := ev_nilXe fxSl111
theorem fxXn111 {x y : Operand} : aBin Try.prog .neq 111 x y .esl (.v (.slice none 0 0)) = some .anyb := ev_nilXn fxSl111
theorem fxLn112 : asV (pr Try.prog (Builtin.len_ #[112] 0 #[.slice none 0 0])) = some (.v (.int .i64 0)) := ev_lenN Try.underlying112
theorem fxNe112 {x y : Operand} {o : Bool} {sz : Nat} {rows : List Row} : aBin Try.prog .eql 112 x y (.fsl o sz rows) (.v (.slice none 0 0)) = some (if rows.isEmpty then .anyb else .v (.bool false)) := ev_nilE fxSl112
theorem fxNn112 {x y : Operand} {o : Bool} {sz : Nat} {rows : List Row} : aBin Try.prog .neq 112 x y (.fsl o sz rows) (.v (.slice none 0 0)) = some (if rows.isEmpty then .anyb else .v (.bool true)) := ev_nilN fxSl112
theorem fxOe112 {x y : Operand} {a b c d e : Nat} : aBin Try.prog .eql 112 x y (.osl a b c d e) (.v (.slice none 0 0)) = some (.v (.bool false)) := ev_nilOe fxSl112
theorem fxOn112 {x y : Operand} {a b c d e : Nat} : aBin Try.prog .neq 112 x y (.osl a b c d e) (.v (.slice none 0 0)) = some (.v (.bool true)) := ev_nilOn fxSl112
theorem fxXe112 {x y : Operand} : aBin Try.prog .eql 112 x y .esl (.v (.slice none 0 0)) = some .anyb := ev_nilXe fxSl112
theorem fxXn112 {x y : Operand} : aBin Try.prog .neq 112 x y .esl (.v (.slice none 0 0)) = some .anyb := ev_nilXn fxSl112
theorem fxLn135 : asV (pr Try.prog (Builtin.len_ #[135] 0 #[.slice none 0 0])) = some (.v (.int .i64 0)) := ev_lenN Try.underlying135
theorem fxNe135 {x y : Operand} {o : Bool} {sz : Nat} {rows : List Row} : aBin Try.prog .eql 135 x y (.fsl o sz rows) (.v (.slice none 0 0)) = some (if rows.isEmpty then .anyb else .v (.bool false)) := ev_nilE fxSl135
theorem fxNn135 {x y : Operand} {o : Bool} {sz : Nat} {rows : List Row} : aBin Try.prog .neq 135 x y (.fsl o sz rows) (.v (.slice none 0 0)) = some (if rows.isEmpty then .anyb else .v (.bool true)) := ev_nilN fxSl135
theorem fxOe135 {x y : Operand} {a b c d e : Nat} : aBin Try.prog .eql 135 x y (.osl a b c d e) (.v (.slice none 0 0)) = some (.v (.bool false)) := ev_nilOe fxSl135
theorem fxOn135 {x y : Operand} {a b c d e : Nat} : aBin Try.prog .neq 135 x y (.osl a b c d e) (.v (.slice none 0 0)) = some (.v (.bool true)) := ev_nilOn fxSl135
theorem fxXe135 {x y : Operand} : aBin Try.prog .eql 135 x y .esl (.v (.slice none 0 0)) = some .anyb := ev_nilXe fxSl135
theorem fxXn135 {x y : Operand} : aBin Try.prog .neq 135 x y .esl (.v (.slice none 0 0)) = some .anyb := ev_nilXn fxSl135
theorem fxLn138 : asV (pr Try.prog (Builtin.len_ #[138] 0 #[.slice none 0 0])) = some (.v (.int .i64 0)) := ev_lenN Try.underlying138
theorem fxNe138 {x y : Operand} {o : Bool} {sz : Nat} {rows : List Row} : aBin Try.prog .eql 138 x y (.fsl o sz rows) (.v (.slice none 0 0)) = some (if rows.isEmpty then .anyb else .v (.bool false)) := ev_nilE fxSl138
theorem fxNn138 {x y : Operand} {o : Bool} {sz : Nat} {rows : List Row} : aBin Try.prog .neq 138 x y (.fsl o sz rows) (.v (.slice none 0 0)) = some (if rows.isEmpty then .anyb else .v (.bool true)) := ev_nilN fxSl138
theorem fxOe138 {x y : Operand} {a b c d e : Nat} : aBin Try.prog .eql 138 x y (.osl a b c d e) (.v (.slice none 0 0)) = some (.v (.bool false)) := ev_nilOe fxSl138
theorem fxOn138 {x y : Operand} {a b c d e : Nat} : aBin Try.prog .neq 138 x y (.osl a b c d e) (.v (.slice none 0 0)) = some (.v (.bool true)) := ev_nilOn fxSl138
theorem fxXe138 {x y : Operand} : aBin Try.prog .eql 138 x y .esl (.v (.slice none 0 0)) = some .anyb := ev_nilXe fxSl138
theorem fxXn138 {x y : Operand} : aBin Try.prog .neq 138 x y .esl (.v (.slice none 0 0)) = some .anyb := ev_nilXn fxSl138
theorem fxLn141 : asV (pr Try.prog (Builtin.len_ #[141] 0 #[.slice none 0 0])) = some (.v (.int .i64 0)) := ev_lenN Try.underlying141
theorem fxNe141 {x y : Operand} {o : Bool} {sz : Nat} {rows : List Row} : aBin Try.prog .eql 141 x y (.fsl o sz rows) (.v (.slice none 0 0)) = some (if rows.isEmpty then .anyb else .v (.bool false)) := ev_nilE fxSl141
theorem fxNn141 {x y : Operand} {o : Bool} {sz : Nat} {rows : List Row} : aBin Try.prog .neq 141 x y (.fsl o sz rows) (.v (.slice none 0 0)) = some (if rows.isEmpty then .anyb else .v (.bool true)) := ev_nilN fxSl141
theorem fxOe141 {x y : Operand} {a b c d e : Nat} : aBin Try.prog .eql 141 x y (.osl a b c d e) (.v (.slice none 0 0)) = some (.v (.bool false)) := ev_nilOe fxSl141
theorem fxOn141 {x y : Operand} {a b c d e : Nat} : aBin Try.prog .neq 141 x y (.osl a b c d e) (.v (.slice none 0 0)) = some (.v (.bool true)) := ev_nilOn fxSl141
theorem fxXe141 {x y : Operand} : aBin Try.prog .eql 141 x y .esl (.v (.slice none 0 0)) = some .anyb := ev_nilXe fxSl141
theorem fxXn141 {x y : Operand} : aBin Try.prog .neq 141 x y .esl (.v (.slice none 0 0)) = some .anyb := ev_nilXn fxSl141
theorem fxLn169 : asV (pr Try.prog (Builtin.len_ #[169] 0 #[.slice none 0 0])) = some (.v (.int .i64 0)) := ev_lenN Try.underlying169
theorem fxNe169 {x y : Operand} {o : Bool} {sz : Nat} {rows : List Row} : aBin Try.prog .eql 169 x y (.fsl o sz rows) (.v (.slice none 0 0)) = some (if rows.isEmpty then .anyb else .v (.bool false)) := ev_nilE fxSl169
theorem fxNn169 {x y : Operand} {o : Bool} {sz : Nat} {rows : List Row} : aBin Try.prog .neq 169 x y (.fsl o sz rows) (.v (.slice none 0 0)) = some (if rows.isEmpty then .anyb else .v (.bool true)) := ev_nilN fxSl169
theorem fxOe169 {x y : Operand} {a b c d e : Nat} : aBin Try.prog .eql 169 x y (.osl a b c d e) (.v (.slice none 0 0)) = some (.v (.bool false)) := ev_nilOe fxSl169
theorem fxOn169 {x y : Operand} {a b c d e : Nat} : aBin Try.prog .neq 169 x y (.osl a b c d e) (.v (.slice none 0 0)) = some (.v (.bool true)) := ev_nilOn fxSl169
theorem fxXe169 {x y : Operand} : aBin Try.prog .eql 169 x y .esl (.v (.slice none 0 0)) = some .anyb := ev_nilXe fxSl169
theorem fxXn169 {x y : Operand} : aBin Try.prog .neq 169 x y .esl (.v (.slice none 0 0)) = some .anyb := ev_nilXn fxSl169
theorem fxLn170 : asV (pr Try.prog (Builtin.len_ #[170] 0 #[.slice none 0 0])) = some (.v (.int .i64 0)) := ev_lenN Try.underlying170
theorem fxNe170 {x y : Operand} {o : Bool} {sz : Nat} {rows : List Row} : aBin Try.prog .eql 170 x y (.fsl o sz rows) (.v (.slice none 0 0)) = some (if rows.isEmpty then .anyb else .v (.bool false)) := ev_nilE fxSl170
theorem fxNn170 {x y : Operand} {o : Bool} {sz : Nat} {rows : List Row} : aBin Try.prog .neq 170 x y (.fsl o sz rows) (.v (.slice none 0 0)) = some (if rows.isEmpty then .anyb else .v (.bool true)) := ev_nilN fxSl170
theorem fxOe170 {x y : Operand} {a b c d e : Nat} : aBin Try.prog .eql 170 x y (.osl a b c d e) (.v (.slice none 0 0)) = some (.v (.bool false)) := ev_nilOe fxSl170
theorem fxOn170 {x y : Operand} {a b c d e : Nat} : aBin Try.prog .neq 170 x y (.osl a b c d e) (.v (.slice none 0 0)) = some (.v (.bool true)) := ev_nilOn fxSl170
theorem fxXe170 {x y : Operand} : aBin Try.prog .eql 170 x y .esl (.v (.slice none 0 0)) = some .anyb := ev_nilXe fxSl170
theorem fxXn170 {x y : Operand} : aBin Try.prog .neq 170 x y .esl (.v (.slice none 0 0)) = some .anyb := ev_nilXn fxSl170
theorem fxLn308 : asV (pr Try.prog (Builtin.len_ #[308] 0 #[.slice none 0 0])) = some (.v (.int .i64 0)) := ev_lenN Try.underlying308
theorem fxNe308 {x y : Operand} {o : Bool} {sz : Nat} {rows : List Row} : aBin Try.prog .eql 308 x y (.fsl o sz rows) (.v (.slice none 0 0)) = some (if rows.isEmpty then .anyb else .v (.bool false)) := ev_nilE fxSl308
theorem fxNn308 {x y : Operand} {o : Bool} {sz : Nat} {rows : List Row} : aBin Try.prog .neq 308 x y (.fsl o sz rows) (.v (.slice none 0 0)) = some (if rows.isEmpty then .anyb else .v (.bool true)) := ev_nilN fxSl308
theorem fxOe308 {x y : Operand} {a b c d e : Nat} : aBin Try.prog .eql 308 x y (.osl a b c d e) (.v (.slice none 0 0)) = some (.v (.bool false)) := ev_nilOe fxSl308
theorem fxOn308 {x y : Operand} {a b c d e : Nat} : aBin Try.prog .neq 308 x y (.osl a b c d e) (.v (.slice none 0 0)) = some (.v (.bool true)) := ev_nilOn fxSl308
theorem fxXe308 {x y : Operand} : aBin Try.prog .eql 308 x y .esl (.v (.slice none 0 0)) = some .anyb := ev_nilXe fxSl308
theorem fxXn308 {x y : Operand} : aBin Try.prog .neq 308 x y .esl (.v (.slice none 0 0)) = some .anyb := ev_nilXn fxSl308
theorem fxFn3 : Try.prog.funcs[(3 : Nat)]? = some Try.f3 := Try.func3
theorem fxFm3 : (Try.f3.name == "runtime.NumGoroutine") = false := by kernel_rfl
theorem fxFb3 : (Try.f3.name == "runtime.NumGoroutine" || Try.f3.body.isNone) = false := by kernel_rfl
theorem fxFi3 : Try.f3.body.isNone = false := by kernel_rfl
theorem fxFj3 : (Try.f3.body = none) = False := eq_false (fun h => by have := fxFi3; rw [h] at this; cases this)
theorem fxFn4 : Try.prog.funcs[(4 : Nat)]? = some Try.f4 := Try.func4
theorem fxFm4 : (Try.f4.name == "runtime.NumGoroutine") = false := by kernel_rfl
theorem fxFb4 : (Try.f4.name == "runtime.NumGoroutine" || Try.f4.body.isNone) = false := by kernel_rfl
theorem fxFi4 : Try.f4.body.isNone = false := by kernel_rfl
theorem fxFj4 : (Try.f4.body = none) = False := eq_false (fun h => by have := fxFi4; rw [h] at this; cases this)
theorem fxFn5 : Try.prog.funcs[(5 : Nat)]? = some Try.f5 := Try.func5
theorem fxFm5 : (Try.f5.name == "runtime.NumGoroutine") = false := by kernel_rfl
theorem fxFb5 : (Try.f5.name == "runtime.NumGoroutine" || Try.f5.body.isNone) = false := by kernel_rfl
theorem fxFi5 : Try.f5.body.isNone = false := by kernel_rfl
theorem fxFj5 : (Try.f5.body = none) = False := eq_false (fun h => by have := fxFi5; rw [h] at this; cases this)
theorem fxFn6 : Try.prog.funcs[(6 : Nat)]? = some Try.f6 := Try.func6
theorem fxFm6 : (Try.f6.name == "runtime.NumGoroutine") = false := by kernel_rfl
theorem fxFb6 : (Try.f6.name == "runtime.NumGoroutine" || Try.f6.body.isNone) = false := by kernel_rfl
theorem fxFi6 : Try.f6.body.isNone = false := by kernel_rfl
theorem fxFj6 : (Try.f6.body = none) = False := eq_false (fun h => by have := fxFi6; rw [h] at this; cases this)
theorem fxFn7 : Try.prog.funcs[(7 : Nat)]? = some Try.f7 := Try.func7
theorem fxFm7 : (Try.f7.name == "runtime.NumGoroutine") = false := by kernel_rfl
theorem fxFb7 : (Try.f7.name == "runtime.NumGoroutine" || Try.f7.body.isNone) = false := by kernel_rfl
theorem fxFi7 : Try.f7.body.isNone = false := by kernel_rfl
theorem fxFj7 : (Try.f7.body = none) = False := eq_false (fun h => by have := fxFi7; rw [h] at this; cases this)
theorem fxFn8 : Try.prog.funcs[(8 : Nat)]? = some Try.f8 := Try.func8
theorem fxFm8 : (Try.f8.name == "runtime.NumGoroutine") = false := by kernel_rfl
theorem fxFb8 : (Try.f8.name == "runtime.NumGoroutine" || Try.f8.body.isNone) = false := by kernel_rfl
theorem fxFi8 : Try.f8.body.isNone = false := by kernel_rfl
theorem fxFj8 : (Try.f8.body = none) = False := eq_false (fun h => by have := fxFi8; rw [h] at this; cases this)
theorem fxFn9 : Try.prog.funcs[(9 : Nat)]? = some Try.f9 := Try.func9
theorem fxFm9 : (Try.f9.name == "runtime.NumGoroutine") = false := by kernel_rfl
theorem fxFb9 : (Try.f9.name == "runtime.NumGoroutine" || Try.f9.body.isNone) = false := by kernel_rfl
theorem fxFi9 : Try.f9.body.isNone = false := by kernel_rfl
theorem fxFj9 : (Try.f9.body = none) = False := eq_false (fun h => by have := fxFi9; rw [h] at this; cases this)
theorem fxFn10 : Try.prog.funcs[(10 : Nat)]? = some Try.f10 := Try.func10
theorem fxFm10 : (Try.f10.name == "runtime.NumGoroutine") = false := by kernel_rfl
theorem fxFb10 : (Try.f10.name == "runtime.NumGoroutine" || Try.f10.body.isNone) = false := by kernel_rfl
theorem fxFi10 : Try.f10.body.isNone = false := by kernel_rfl
theorem fxFj10 : (Try.f10.body = none) = False := eq_false (fun h => by have := fxFi10; rw [h] at this; cases this)
theorem fxFn11 : Try.prog.funcs[(11 : Nat)]? = some Try.f11 := Try.func11
theorem fxFm11 : (Try.f11.name == "runtime.NumGoroutine") = false := by kernel_rfl
theorem fxFb11 : (Try.f11.name == "runtime.NumGoroutine" || Try.f11.body.isNone) = false := by kernel_rfl
theorem fxFi11 : Try.f11.body.isNone = false := by kernel_rfl
theorem fxFj11 : (Try.f11.body = none) = False := eq_false (fun h => by have := fxFi11; rw [h] at this; cases this)
theorem fxFn12 : Try.prog.funcs[(12 : Nat)]? = some Try.f12 := Try.func12
theorem fxFm12 : (Try.f12.name == "runtime.NumGoroutine") = false := by kernel_rfl
theorem fxFb12 : (Try.f12.name == "runtime.NumGoroutine" || Try.f12.body.isNone) = false := by kernel_rfl
theorem fxFi12 : Try.f12.body.isNone = false := by kernel_rfl
theorem fxFj12 : (Try.f12.body = none) = False := eq_false (fun h => by have := fxFi12; rw [h] at this; cases this)
theorem fxFn13 : Try.prog.funcs[(13 : Nat)]? = some Try.f13 := Try.func13
theorem fxFm13 : (Try.f13.name == "runtime.NumGoroutine") = false := by kernel_rfl
theorem fxFb13 : (Try.f13.name == "runtime.NumGoroutine" || Try.f13.body.isNone) = false := by kernel_rfl
theorem fxFi13 : Try.f13.body.isNone = false := by kernel_rfl
theorem fxFj13 : (Try.f13.body = none) = False := eq_false (fun h => by have := fxFi13; rw [h] at this; cases this)
theorem fxFn14 : Try.prog.funcs[(14 : Nat)]? = some Try.f14 := Try.func14
theorem fxFm14 : (Try.f14.name == "runtime.NumGoroutine") = false := by kernel_rfl
theorem fxFb14 : (Try.f14.name == "runtime.NumGoroutine" || Try.f14.body.isNone) = false := by kernel_rfl
theorem fxFi14 : Try.f14.body.isNone = false := by kernel_rfl
theorem fxFj14 : (Try.f14.body = none) = False := eq_false (fun h => by have := fxFi14; rw [h] at this; cases this)
theorem fxFn15 : Try.prog.funcs[(15 : Nat)]? = some Try.f15 := Try.func15
theorem fxFm15 : (Try.f15.name == "runtime.NumGoroutine") = false := by kernel_rfl
theorem fxFb15 : (Try.f15.name == "runtime.NumGoroutine" || Try.f15.body.isNone) = false := by kernel_rfl
theorem fxFi15 : Try.f15.body.isNone = false := by kernel_rfl
theorem fxFj15 : (Try.f15.body = none) = False := eq_false (fun h => by have := fxFi15; rw [h] at this; cases this)
theorem fxFn16 : Try.prog.funcs[(16 : Nat)]? = some Try.f16 := Try.func16
theorem fxFm16 : (Try.f16.name == "runtime.NumGoroutine") = false := by kernel_rfl
theorem fxFb16 : (Try.f16.name == "runtime.NumGoroutine" || Try.f16.body.isNone) = false := by kernel_rfl
theorem fxFi16 : Try.f16.body.isNone = false := by kernel_rfl
theorem fxFj16 : (Try.f16.body = none) = False := eq_false (fun h => by have := fxFi16; rw [h] at this; cases this)
theorem fxFn17 : Try.prog.funcs[(17 : Nat)]? = some Try.f17 := Try.func17
theorem fxFm17 : (Try.f17.name == "runtime.NumGoroutine") = false := by kernel_rfl
theorem fxFb17 : (Try.f17.name == "runtime.NumGoroutine" || Try.f17.body.isNone) = false := by kernel_rfl
theorem fxFi17 : Try.f17.body.isNone = false := by kernel_rfl
theorem fxFj17 : (Try.f17.body = none) = False := eq_false (fun h => by have := fxFi17; rw [h] at this; cases this)
theorem fxFn18 : Try.prog.funcs[(18 : Nat)]? = some Try.f18 := Try.func18
theorem fxFm18 : (Try.f18.name == "runtime.NumGoroutine") = false := by kernel_rfl
theorem fxFb18 : (Try.f18.name == "runtime.NumGoroutine" || Try.f18.body.isNone) = false := by kernel_rfl
theorem fxFi18 : Try.f18.body.isNone = false := by kernel_rfl
theorem fxFj18 : (Try.f18.body = none) = False := eq_false (fun h => by have := fxFi18; rw [h] at this; cases this)
theorem fxFn19 : Try.prog.funcs[(19 : Nat)]? = some Try.f19 := Try.func19
theorem fxFm19 : (Try.f19.name == "runtime.NumGoroutine") = false := by kernel_rfl
theorem fxFb19 : (Try.f19.name == "runtime.NumGoroutine" || Try.f19.body.isNone) = false := by kernel_rfl
theorem fxFi19 : Try.f19.body.isNone = false := by kernel_rfl
theorem fxFj19 : (Try.f19.body = none) = False := eq_false (fun h => by have := fxFi19; rw [h] at this; cases this)
theorem fxFn20 : Try.prog.funcs[(20 : Nat)]? = some Try.f20 := Try.func20
theorem fxFm20 : (Try.f20.name == "runtime.NumGoroutine") = false := by kernel_rfl
theorem fxFb20 : (Try.f20.name == "runtime.NumGoroutine" || Try.f20.body.isNone) = false := by kernel_rfl
theorem fxFi20 : Try.f20.body.isNone = false := by kernel_rfl
theorem fxFj20 : (Try.f20.body = none) = False := eq_false (fun h => by have := fxFi20; rw [h] at this; cases this)
theorem fxFn21 : Try.prog.funcs[(21 : Nat)]? = some Try.f21 := Try.func21
theorem fxFm21 : (Try.f21.name == "runtime.NumGoroutine") = false := by kernel_rfl
theorem fxFb21 : (Try.f21.name == "runtime.NumGoroutine" || Try.f21.body.isNone) = false := by kernel_rfl
theorem fxFi21 : Try.f21.body.isNone = false := by kernel_rfl
theorem fxFj21 : (Try.f21.body = none) = False := eq_false (fun h => by have := fxFi21; rw [h] at this; cases this)
theorem fxFn22 : Try.prog.funcs[(22 : Nat)]? = some Try.f22 := Try.func22
theorem fxFm22 : (Try.f22.name == "runtime.NumGoroutine") = false := by kernel_rfl
theorem fxFb22 : (Try.f22.name == "runtime.NumGoroutine" || Try.f22.body.isNone) = false := by kernel_rfl
theorem fxFi22 : Try.f22.body.isNone = false := by kernel_rfl
theorem fxFj22 : (Try.f22.body = none) = False := eq_false (fun h => by have := fxFi22; rw [h] at this; cases this)
theorem fxFn23 : Try.prog.funcs[(23 : Nat)]? = some Try.f23 := Try.func23
theorem fxFm23 : (Try.f23.name == "runtime.NumGoroutine") = false := by kernel_rfl
theorem fxFb23 : (Try.f23.name == "runtime.NumGoroutine" || Try.f23.body.isNone) = false := by kernel_rfl
theorem fxFi23 : Try.f23.body.isNone = false := by kernel_rfl
theorem fxFj23 : (Try.f23.body = none) = False := eq_false (fun h => by have := fxFi23; rw [h] at this; cases this)
theorem fxFn24 : Try.prog.funcs[(24 : Nat)]? = some Try.f24 := Try.func24
theorem fxFm24 : (Try.f24.name == "runtime.NumGoroutine") = false := by kernel_rfl
theorem fxFb24 : (Try.f24.name == "runtime.NumGoroutine" || Try.f24.body.isNone) = false := by kernel_rfl
theorem fxFi24 : Try.f24.body.isNone = false := by kernel_rfl
theorem fxFj24 : (Try.f24.body = none) = False := eq_false (fun h => by have := fxFi24; rw [h] at this; cases this)
theorem fxFn25 : Try.prog.funcs[(25 : Nat)]? = some Try.f25 := Try.func25
theorem fxFm25 : (Try.f25.name == "runtime.NumGoroutine") = false := by kernel_rfl
theorem fxFb25 : (Try.f25.name == "runtime.NumGoroutine" || Try.f25.body.isNone) = false := by kernel_rfl
theorem fxFi25 : Try.f25.body.isNone = false := by kernel_rfl
theorem fxFj25 : (Try.f25.body = none) = False := eq_false (fun h => by have := fxFi25; rw [h] at this; cases this)
theorem fxFn26 : Try.prog.funcs[(26 : Nat)]? = some Try.f26 := Try.func26
theorem fxFm26 : (Try.f26.name == "runtime.NumGoroutine") = false := by kernel_rfl
theorem fxFb26 : (Try.f26.name == "runtime.NumGoroutine" || Try.f26.body.isNone) = false := by kernel_rfl
theorem fxFi26 : Try.f26.body.isNone = false := by kernel_rfl
theorem fxFj26 : (Try.f26.body = none) = False := eq_false (fun h => by have := fxFi26; rw [h] at this; cases this)
theorem fxFn27 : Try.prog.funcs[(27 : Nat)]? = some Try.f27 := Try.func27
theorem fxFm27 : (Try.f27.name == "runtime.NumGoroutine") = false := by kernel_rfl
theorem fxFb27 : (Try.f27.name == "runtime.NumGoroutine" || Try.f27.body.isNone) = false := by kernel_rfl
theorem fxFi27 : Try.f27.body.isNone = false := by kernel_rfl
theorem fxFj27 : (Try.f27.body = none) = False := eq_false (fun h => by have := fxFi27; rw [h] at this; cases this)
theorem fxFn28 : Try.prog.funcs[(28 : Nat)]? = some Try.f28 := Try.func28
theorem fxFm28 : (Try.f28.name == "runtime.NumGoroutine") = false := by kernel_rfl
theorem fxFb28 : (Try.f28.name == "runtime.NumGoroutine" || Try.f28.body.isNone) = false := by kernel_rfl
theorem fxFi28 : Try.f28.body.isNone = false := by kernel_rfl
theorem fxFj28 : (Try.f28.body = none) = False := eq_false (fun h => by have := fxFi28; rw [h] at this; cases this)
theorem fxFn29 : Try.prog.funcs[(29 : Nat)]? = some Try.f29 := Try.func29
theorem fxFm29 : (Try.f29.name == "runtime.NumGoroutine") = false := by kernel_rfl
theorem fxFb29 : (Try.f29.name == "runtime.NumGoroutine" || Try.f29.body.isNone) = false := by kernel_rfl
theorem fxFi29 : Try.f29.body.isNone = false := by kernel_rfl
theorem fxFj29 : (Try.f29.body = none) = False := eq_false (fun h => by have := fxFi29; rw [h] at this; cases this)
theorem fxFn30 : Try.prog.funcs[(30 : Nat)]? = some Try.f30 := Try.func30
theorem fxFm30 : (Try.f30.name == "runtime.NumGoroutine") = false := by kernel_rfl
theorem fxFb30 : (Try.f30.name == "runtime.NumGoroutine" || Try.f30.body.isNone) = false := by kernel_rfl
theorem fxFi30 : Try.f30.body.isNone = false := by kernel_rfl
theorem fxFj30 : (Try.f30.body = none) = False := eq_false (fun h => by have := fxFi30; rw [h] at this; cases this)
theorem fxFn31 : Try.prog.funcs[(31 : Nat)]? = some Try.f31 := Try.func31
theorem fxFm31 : (Try.f31.name == "runtime.NumGoroutine") = false := by kernel_rfl
theorem fxFb31 : (Try.f31.name == "runtime.NumGoroutine" || Try.f31.body.isNone) = false := by kernel_rfl
theorem fxFi31 : Try.f31.body.isNone = false := by kernel_rfl
theorem fxFj31 : (Try.f31.body = none) = False := eq_false (fun h => by have := fxFi31; rw [h] at this; cases this)
theorem fxFn32 : Try.prog.funcs[(32 : Nat)]? = some Try.f32 := Try.func32
theorem fxFm32 : (Try.f32.name == "runtime.NumGoroutine") = false := by kernel_rfl
theorem fxFb32 : (Try.f32.name == "runtime.NumGoroutine" || Try.f32.body.isNone) = false := by kernel_rfl
theorem fxFi32 : Try.f32.body.isNone = false := by kernel_rfl
theorem fxFj32 : (Try.f32.body = none) = False := eq_false (fun h => by have := fxFi32; rw [h] at this; cases this)
theorem fxFn33 : Try.prog.funcs[(33 : Nat)]? = some Try.f33 := Try.func33
theorem fxFm33 : (Try.f33.name == "runtime.NumGoroutine") = false := by kernel_rfl
theorem fxFb33 : (Try.f33.name == "runtime.NumGoroutine" || Try.f33.body.isNone) = false := by kernel_rfl
theorem fxFi33 : Try.f33.body.isNone = false := by kernel_rfl
theorem fxFj33 : (Try.f33.body = none) = False := eq_false (fun h => by have := fxFi33; rw [h] at this; cases this)
theorem fxFn34 : Try.prog.funcs[(34 : Nat)]? = some Try.f34 := Try.func34
theorem fxFm34 : (Try.f34.name == "runtime.NumGoroutine") = false := by kernel_rfl
theorem fxFb34 : (Try.f34.name == "runtime.NumGoroutine" || Try.f34.body.isNone) = false := by kernel_rfl
theorem fxFi34 : Try.f34.body.isNone = false := by kernel_rfl
theorem fxFj34 : (Try.f34.body = none) = False := eq_false (fun h => by have := fxFi34; rw [h] at this; cases this)
theorem fxFn35 : Try.prog.funcs[(35 : Nat)]? = some Try.f35 := Try.func35
theorem fxFm35 : (Try.f35.name == "runtime.NumGoroutine") = false := by kernel_rfl
theorem fxFb35 : (Try.f35.name == "runtime.NumGoroutine" || Try.f35.body.isNone) = false := by kernel_rfl
theorem fxFi35 : Try.f35.body.isNone = false := by kernel_rfl
theorem fxFj35 : (Try.f35.body = none) = False := eq_false (fun h => by have := fxFi35; rw [h] at this; cases this)
theorem fxFn36 : Try.prog.funcs[(36 : Nat)]? = some Try.f36 := Try.func36
theorem fxFm36 : (Try.f36.name == "runtime.NumGoroutine") = false := by kernel_rfl
theorem fxFb36 : (Try.f36.name == "runtime.NumGoroutine" || Try.f36.body.isNone) = false := by kernel_rfl
theorem fxFi36 : Try.f36.body.isNone = false := by kernel_rfl
theorem fxFj36 : (Try.f36.body = none) = False := eq_false (fun h => by have := fxFi36; rw [h] at this; cases this)
theorem fxFn37 : Try.prog.funcs[(37 : Nat)]? = some Try.f37 := Try.func37
theorem fxFm37 : (Try.f37.name == "runtime.NumGoroutine") = false := by kernel_rfl
theorem fxFb37 : (Try.f37.name == "runtime.NumGoroutine" || Try.f37.body.isNone) = false := by kernel_rfl
theorem fxFi37 : Try.f37.body.isNone = false := by kernel_rfl
theorem fxFj37 : (Try.f37.body = none) = False := eq_false (fun h => by have := fxFi37; rw [h] at this; cases this)
theorem fxFn38 : Try.prog.funcs[(38 : Nat)]? = some Try.f38 := Try.func38
theorem fxFm38 : (Try.f38.name == "runtime.NumGoroutine") = false := by kernel_rfl
theorem fxFb38 : (Try.f38.name == "runtime.NumGoroutine" || Try.f38.body.isNone) = false := by kernel_rfl
theorem fxFi38 : Try.f38.body.isNone = false := by kernel_rfl
theorem fxFj38 : (Try.f38.body = none) = False := eq_false (fun h => by have := fxFi38; rw [h] at this; cases this)
theorem fxFn39 : Try.prog.funcs[(39 : Nat)]? = some Try.f39 := Try.func39
theorem fxFm39 : (Try.f39.name == "runtime.NumGoroutine") = false := by kernel_rfl
theorem fxFb39 : (Try.f39.name == "runtime.NumGoroutine" || Try.f39.body.isNone) = false := by kernel_rfl
theorem fxFi39 : Try.f39.body.isNone = false := by kernel_rfl
theorem fxFj39 : (Try.f39.body = none) = False := eq_false (fun h => by have := fxFi39; rw [h] at this; cases this)
theorem fxFn40 : Try.prog.funcs[(40 : Nat)]? = some Try.f40 := Try.func40
theorem fxFm40 : (Try.f40.name == "runtime.NumGoroutine") = false := by kernel_rfl
theorem fxFb40 : (Try.f40.name == "runtime.NumGoroutine" || Try.f40.body.isNone) = false := by kernel_rfl
theorem fxFi40 : Try.f40.body.isNone = false := by kernel_rfl
theorem fxFj40 : (Try.f40.body = none) = False := eq_false (fun h => by have := fxFi40; rw [h] at this; cases this)
theorem fxFn41 : Try.prog.funcs[(41 : Nat)]? = some Try.f41 := Try.func41
theorem fxFm41 : (Try.f41.name == "runtime.NumGoroutine") = false := by kernel_rfl
theorem fxFb41 : (Try.f41.name == "runtime.NumGoroutine" || Try.f41.body.isNone) = false := by kernel_rfl
theorem fxFi41 : Try.f41.body.isNone = false := by kernel_rfl
theorem fxFj41 : (Try.f41.body = none) = False := eq_false (fun h => by have := fxFi41; rw [h] at this; cases this)
theorem fxFn42 : Try.prog.funcs[(42 : Nat)]? = some Try.f42 := Try.func42
theorem fxFm42 : (Try.f42.name == "runtime.NumGoroutine") = false := by kernel_rfl
theorem fxFb42 : (Try.f42.name == "runtime.NumGoroutine" || Try.f42.body.isNone) = false := by kernel_rfl
theorem fxFi42 : Try.f42.body.isNone = false := by kernel_rfl
theorem fxFj42 : (Try.f42.body = none) = False := eq_false (fun h => by have := fxFi42; rw [h] at this; cases this)
theorem fxFn43 : Try.prog.funcs[(43 : Nat)]? = some Try.f43 := Try.func43
theorem fxFm43 : (Try.f43.name == "runtime.NumGoroutine") = false := by kernel_rfl
theorem fxFb43 : (Try.f43.name == "runtime.NumGoroutine" || Try.f43.body.isNone) = false := by kernel_rfl
theorem fxFi43 : Try.f43.body.isNone = false := by kernel_rfl
theorem fxFj43 : (Try.f43.body = none) = False := eq_false (fun h => by have := fxFi43; rw [h] at this; cases this)
theorem fxFn44 : Try.prog.funcs[(44 : Nat)]? = some Try.f44 := Try.func44
theorem fxFm44 : (Try.f44.name == "runtime.NumGoroutine") = false := by kernel_rfl
theorem fxFb44 : (Try.f44.name == "runtime.NumGoroutine" || Try.f44.body.isNone) = false := by kernel_rfl
theorem fxFi44 : Try.f44.body.isNone = false := by kernel_rfl
theorem fxFj44 : (Try.f44.body = none) = False := eq_false (fun h => by have := fxFi44; rw [h] at this; cases this)
theorem fxFn45 : Try.prog.funcs[(45 : Nat)]? = some Try.f45 := Try.func45
theorem fxFm45 : (Try.f45.name == "runtime.NumGoroutine") = false := by kernel_rfl
theorem fxFb45 : (Try.f45.name == "runtime.NumGoroutine" || Try.f45.body.isNone) = false := by kernel_rfl
theorem fxFi45 : Try.f45.body.isNone = false := by kernel_rfl
theorem fxFj45 : (Try.f45.body = none) = False := eq_false (fun h => by have := fxFi45; rw [h] at this; cases this)
theorem fxFn46 : Try.prog.funcs[(46 : Nat)]? = some Try.f46 := Try.func46
theorem fxFm46 : (Try.f46.name == "runtime.NumGoroutine") = false := by kernel_rfl
theorem fxFb46 : (Try.f46.name == "runtime.NumGoroutine" || Try.f46.body.isNone) = false := by kernel_rfl
theorem fxFi46 : Try.f46.body.isNone = false := by kernel_rfl
theorem fxFj46 : (Try.f46.body = none) = False := eq_false (fun h => by have := fxFi46; rw [h] at this; cases this)
theorem fxFn47 : Try.prog.funcs[(47 : Nat)]? = some Try.f47 := Try.func47
theorem fxFm47 : (Try.f47.name == "runtime.NumGoroutine") = false := by kernel_rfl
theorem fxFb47 : (Try.f47.name == "runtime.NumGoroutine" || Try.f47.body.isNone) = false := by kernel_rfl
theorem fxFi47 : Try.f47.body.isNone = false := by kernel_rfl
theorem fxFj47 : (Try.f47.body = none) = False := eq_false (fun h => by have := fxFi47; rw [h] at this; cases this)
theorem fxFn48 : Try.prog.funcs[(48 : Nat)]? = some Try.f48 := Try.func48
theorem fxFm48 : (Try.f48.name == "runtime.NumGoroutine") = false := by kernel_rfl
theorem fxFb48 : (Try.f48.name == "runtime.NumGoroutine" || Try.f48.body.isNone) = false := by kernel_rfl
theorem fxFi48 : Try.f48.body.isNone = false := by kernel_rfl
theorem fxFj48 : (Try.f48.body = none) = False := eq_false (fun h => by have := fxFi48; rw [h] at this; cases this)
theorem fxFn49 : Try.prog.funcs[(49 : Nat)]? = some Try.f49 := Try.func49
theorem fxFm49 : (Try.f49.name == "runtime.NumGoroutine") = false := by kernel_rfl
theorem fxFb49 : (Try.f49.name == "runtime.NumGoroutine" || Try.f49.body.isNone) = false := by kernel_rfl
theorem fxFi49 : Try.f49.body.isNone = false := by kernel_rfl
theorem fxFj49 : (Try.f49.body = none) = False := eq_false (fun h => by have := fxFi49; rw [h] at this; cases this)
theorem fxFn50 : Try.prog.funcs[(50 : Nat)]? = some Try.f50 := Try.func50
theorem fxFm50 : (Try.f50.name == "runtime.NumGoroutine") = false := by kernel_rfl
theorem fxFb50 : (Try.f50.name == "runtime.NumGoroutine" || Try.f50.body.isNone) = false := by kernel_rfl
theorem fxFi50 : Try.f50.body.isNone = false := by kernel_rfl
theorem fxFj50 : (Try.f50.body = none) = False := eq_false (fun h => by have := fxFi50; rw [h] at this; cases this)
theorem fxFn51 : Try.prog.funcs[(51 : Nat)]? = some Try.f51 := Try.func51
theorem fxFm51 : (Try.f51.name == "runtime.NumGoroutine") = false := by kernel_rfl
theorem fxFb51 : (Try.f51.name == "runtime.NumGoroutine" || Try.f51.body.isNone) = false := by kernel_rfl
theorem fxFi51 : Try.f51.body.isNone = false := by kernel_rfl
theorem fxFj51 : (Try.f51.body = none) = False := eq_false (fun h => by have := fxFi51; rw [h] at this; cases this)
theorem fxFn52 : Try.prog.funcs[(52 : Nat)]? = some Try.f52 := Try.func52
theorem fxFm52 : (Try.f52.name == "runtime.NumGoroutine") = false := by kernel_rfl
theorem fxFb52 : (Try.f52.name == "runtime.NumGoroutine" || Try.f52.body.isNone) = false := by kernel_rfl
theorem fxFi52 : Try.f52.body.isNone = false := by kernel_rfl
theorem fxFj52 : (Try.f52.body = none) = False := eq_false (fun h => by have := fxFi52; rw [h] at this; cases this)
theorem fxFn53 : Try.prog.funcs[(53 : Nat)]? = some Try.f53 := Try.func53
theorem fxFm53 : (Try.f53.name == "runtime.NumGoroutine") = false := by kernel_rfl
theorem fxFb53 : (Try.f53.name == "runtime.NumGoroutine" || Try.f53.body.isNone) = false := by kernel_rfl
theorem fxFi53 : Try.f53.body.isNone = false := by kernel_rfl
theorem fxFj53 : (Try.f53.body = none) = False := eq_false (fun h => by have := fxFi53; rw [h] at this; cases this)
theorem fxFn54 : Try.prog.funcs[(54 : Nat)]? = some Try.f54 := Try.func54
theorem fxFm54 : (Try.f54.name == "runtime.NumGoroutine") = false := by kernel_rfl
theorem fxFb54 : (Try.f54.name == "runtime.NumGoroutine" || Try.f54.body.isNone) = false := by kernel_rfl
theorem fxFi54 : Try.f54.body.isNone = false := by kernel_rfl
theorem fxFj54 : (Try.f54.body = none) = False := eq_false (fun h => by have := fxFi54; rw [h] at this; cases this)
theorem fxFn55 : Try.prog.funcs[(55 : Nat)]? = some Try.f55 := Try.func55
theorem fxFm55 : (Try.f55.name == "runtime.NumGoroutine") = false := by kernel_rfl
theorem fxFb55 : (Try.f55.name == "runtime.NumGoroutine" || Try.f55.body.isNone) = false := by kernel_rfl
theorem fxFi55 : Try.f55.body.isNone = false := by kernel_rfl
theorem fxFj55 : (Try.f55.body = none) = False := eq_false (fun h => by have := fxFi55; rw [h] at this; cases this)
theorem fxFn56 : Try.prog.funcs[(56 : Nat)]? = some Try.f56 := Try.func56
theorem fxFm56 : (Try.f56.name == "runtime.NumGoroutine") = false := by kernel_rfl
theorem fxFb56 : (Try.f56.name == "runtime.NumGoroutine" || Try.f56.body.isNone) = false := by kernel_rfl
theorem fxFi56 : Try.f56.body.isNone = false := by kernel_rfl
theorem fxFj56 : (Try.f56.body = none) = False := eq_false (fun h => by have := fxFi56; rw [h] at this; cases this)
theorem fxFn57 : Try.prog.funcs[(57 : Nat)]? = some Try.f57 := Try.func57
theorem fxFm57 : (Try.f57.name == "runtime.NumGoroutine") = false := by kernel_rfl
theorem fxFb57 : (Try.f57.name == "runtime.NumGoroutine" || Try.f57.body.isNone) = false := by kernel_rfl
theorem fxFi57 : Try.f57.body.isNone = false := by kernel_rfl
theorem fxFj57 : (Try.f57.body = none) = False := eq_false (fun h => by have := fxFi57; rw [h] at this; cases this)
theorem fxFn58 : Try.prog.funcs[(58 : Nat)]? = some Try.f58 := Try.func58
theorem fxFm58 : (Try.f58.name == "runtime.NumGoroutine") = false := by kernel_rfl
theorem fxFb58 : (Try.f58.name == "runtime.NumGoroutine" || Try.f58.body.isNone) = false := by kernel_rfl
theorem fxFi58 : Try.f58.body.isNone = false := by kernel_rfl
theorem fxFj58 : (Try.f58.body = none) = False := eq_false (fun h => by have := fxFi58; rw [h] at this; cases this)
theorem fxFn59 : Try.prog.funcs[(59 : Nat)]? = some Try.f59 := Try.func59
theorem fxFm59 : (Try.f59.name == "runtime.NumGoroutine") = false := by kernel_rfl
theorem fxFb59 : (Try.f59.name == "runtime.NumGoroutine" || Try.f59.body.isNone) = false := by kernel_rfl
theorem fxFi59 : Try.f59.body.isNone = false := by kernel_rfl
theorem fxFj59 : (Try.f59.body = none) = False := eq_false (fun h => by have := fxFi59; rw [h] at this; cases this)
theorem fxFn60 : Try.prog.funcs[(60 : Nat)]? = some Try.f60 := Try.func60
theorem fxFm60 : (Try.f60.name == "runtime.NumGoroutine") = false := by kernel_rfl
theorem fxFb60 : (Try.f60.name == "runtime.NumGoroutine" || Try.f60.body.isNone) = false := by kernel_rfl
theorem fxFi60 : Try.f60.body.isNone = false := by kernel_rfl
theorem fxFj60 : (Try.f60.body = none) = False := eq_false (fun h => by have := fxFi60; rw [h] at this; cases this)
theorem fxFn61 : Try.prog.funcs[(61 : Nat)]? = some Try.f61 := Try.func61
theorem fxFm61 : (Try.f61.name == "runtime.NumGoroutine") = false := by kernel_rfl
theorem fxFb61 : (Try.f61.name == "runtime.NumGoroutine" || Try.f61.body.isNone) = false := by kernel_rfl
theorem fxFi61 : Try.f61.body.isNone = false := by kernel_rfl
theorem fxFj61 : (Try.f61.body = none) = False := eq_false (fun h => by have := fxFi61; rw [h] at this; cases this)
theorem fxFn62 : Try.prog.funcs[(62 : Nat)]? = some Try.f62 := Try.func62
theorem fxFm62 : (Try.f62.name == "runtime.NumGoroutine") = false := by kernel_rfl
theorem fxFb62 : (Try.f62.name == "runtime.NumGoroutine" || Try.f62.body.isNone) = false := by kernel_rfl
theorem fxFi62 : Try.f62.body.isNone = false := by kernel_rfl
theorem fxFj62 : (Try.f62.body = none) = False := eq_false (fun h => by have := fxFi62; rw [h] at this; cases this)
theorem fxFn63 : Try.prog.funcs[(63 : Nat)]? = some Try.f63 := Try.func63
theorem fxFm63 : (Try.f63.name == "runtime.NumGoroutine") = false := by kernel_rfl
theorem fxFb63 : (Try.f63.name == "runtime.NumGoroutine" || Try.f63.body.isNone) = false := by kernel_rfl
theorem fxFi63 : Try.f63.body.isNone = false := by kernel_rfl
theorem fxFj63 : (Try.f63.body = none) = False := eq_false (fun h => by have := fxFi63; rw [h] at this; cases this)
theorem fxFn64 : Try.prog.funcs[(64 : Nat)]? = some Try.f64 := Try.func64
theorem fxFm64 : (Try.f64.name == "runtime.NumGoroutine") = false := by kernel_rfl
theorem fxFb64 : (Try.f64.name == "runtime.NumGoroutine" || Try.f64.body.isNone) = false := by kernel_rfl
theorem fxFi64 : Try.f64.body.isNone = false := by kernel_rfl
theorem fxFj64 : (Try.f64.body = none) = False := eq_false (fun h => by have := fxFi64; rw [h] at this; cases this)
theorem fxFn65 : Try.prog.funcs[(65 : Nat)]? = some Try.f65 := Try.func65
theorem fxFm65 : (Try.f65.name == "runtime.NumGoroutine") = false := by kernel_rfl
theorem fxFb65 : (Try.f65.name == "runtime.NumGoroutine" || Try.f65.body.isNone) = false := by kernel_rfl
theorem fxFi65 : Try.f65.body.isNone = false := by kernel_rfl
theorem fxFj65 : (Try.f65.body = none) = False := eq_false (fun h => by have := fxFi65; rw [h] at this; cases this)
theorem fxFn66 : Try.prog.funcs[(66 : Nat)]? = some Try.f66 := Try.func66
theorem fxFm66 : (Try.f66.name == "runtime.NumGoroutine") = false := by kernel_rfl
theorem fxFb66 : (Try.f66.name == "runtime.NumGoroutine" || Try.f66.body.isNone) = false := by kernel_rfl
theorem fxFi66 : Try.f66.body.isNone = false := by kernel_rfl
theorem fxFj66 : (Try.f66.body = none) = False := eq_false (fun h => by have := fxFi66; rw [h] at this; cases this)
theorem fxFn67 : Try.prog.funcs[(67 : Nat)]? = some Try.f67 := Try.func67
theorem fxFm67 : (Try.f67.name == "runtime.NumGoroutine") = false := by kernel_rfl
theorem fxFb67 : (Try.f67.name == "runtime.NumGoroutine" || Try.f67.body.isNone) = false := by kernel_rfl
theorem fxFi67 : Try.f67.body.isNone = false := by kernel_rfl
theorem fxFj67 : (Try.f67.body = none) = False := eq_false (fun h => by have := fxFi67; rw [h] at this; cases this)
theorem fxFn68 : Try.prog.funcs[(68 : Nat)]? = some Try.f68 := Try.func68
theorem fxFm68 : (Try.f68.name == "runtime.NumGoroutine") = false := by kernel_rfl
theorem fxFb68 : (Try.f68.name == "runtime.NumGoroutine" || Try.f68.body.isNone) = false := by kernel_rfl
theorem fxFi68 : Try.f68.body.isNone = false := by kernel_rfl
theorem fxFj68 : (Try.f68.body = none) = False := eq_false (fun h => by have := fxFi68; rw [h] at this; cases this)
theorem fxFn69 : Try.prog.funcs[(69 : Nat)]? = some Try.f69 := Try.func69
theorem fxFm69 : (Try.f69.name == "runtime.NumGoroutine") = false := by kernel_rfl
theorem fxFb69 : (Try.f69.name == "runtime.NumGoroutine" || Try.f69.body.isNone) = false := by kernel_rfl
theorem fxFi69 : Try.f69.body.isNone = false := by kernel_rfl
theorem fxFj69 : (Try.f69.body = none) = False := eq_false (fun h => by have := fxFi69; rw [h] at this; cases this)
theorem fxFn70 : Try.prog.funcs[(70 : Nat)]? = some Try.f70 := Try.func70
theorem fxFm70 : (Try.f70.name == "runtime.NumGoroutine") = false := by kernel_rfl
theorem fxFb70 : (Try.f70.name == "runtime.NumGoroutine" || Try.f70.body.isNone) = false := by kernel_rfl
theorem fxFi70 : Try.f70.body.isNone = false := by kernel_rfl
theorem fxFj70 : (Try.f70.body = none) = False := eq_false (fun h => by have := fxFi70; rw [h] at this; cases this)
theorem fxFn71 : Try.prog.funcs[(71 : Nat)]? = some Try.f71 := Try.func71
theorem fxFm71 : (Try.f71.name == "runtime.NumGoroutine") = false := by kernel_rfl
theorem fxFb71 : (Try.f71.name == "runtime.NumGoroutine" || Try.f71.body.isNone) = false := by kernel_rfl
theorem fxFi71 : Try.f71.body.isNone = false := by kernel_rfl
theorem fxFj71 : (Try.f71.body = none) = False := eq_false (fun h => by have := fxFi71; rw [h] at this; cases this)
theorem fxFn72 : Try.prog.funcs[(72 : Nat)]? = some Try.f72 := Try.func72
theorem fxFm72 : (Try.f72.name == "runtime.NumGoroutine") = false := by kernel_rfl
theorem fxFb72 : (Try.f72.name == "runtime.NumGoroutine" || Try.f72.body.isNone) = false := by kernel_rfl
theorem fxFi72 : Try.f72.body.isNone = false := by kernel_rfl
theorem fxFj72 : (Try.f72.body = none) = False := eq_false (fun h => by have := fxFi72; rw [h] at this; cases this)
theorem fxFn73 : Try.prog.funcs[(73 : Nat)]? = some Try.f73 := Try.func73
theorem fxFm73 : (Try.f73.name == "runtime.NumGoroutine") = false := by kernel_rfl
theorem fxFb73 : (Try.f73.name == "runtime.NumGoroutine" || Try.f73.body.isNone) = false := by kernel_rfl
theorem fxFi73 : Try.f73.body.isNone = false := by kernel_rfl
theorem fxFj73 : (Try.f73.body = none) = False := eq_false (fun h => by have := fxFi73; rw [h] at this; cases this)
theorem fxFn74 : Try.prog.funcs[(74 : Nat)]? = some Try.f74 := Try.func74
theorem fxFm74 : (Try.f74.name == "runtime.NumGoroutine") = false := by kernel_rfl
theorem fxFb74 : (Try.f74.name == "runtime.NumGoroutine" || Try.f74.body.isNone) = false := by kernel_rfl
theorem fxFi74 : Try.f74.body.isNone = false := by kernel_rfl
theorem fxFj74 : (Try.f74.body = none) = False := eq_false (fun h => by have := fxFi74; rw [h] at this; cases this)
theorem fxFn75 : Try.prog.funcs[(75 : Nat)]? = some Try.f75 := Try.func75
theorem fxFm75 : (Try.f75.name == "runtime.NumGoroutine") = false := by kernel_rfl
theorem fxFb75 : (Try.f75.name == "runtime.NumGoroutine" || Try.f75.body.isNone) = false := by kernel_rfl
theorem fxFi75 : Try.f75.body.isNone = false := by kernel_rfl
theorem fxFj75 : (Try.f75.body = none) = False := eq_false (fun h => by have := fxFi75; rw [h] at this; cases this)
theorem fxFn76 : Try.prog.funcs[(76 : Nat)]? = some Try.f76 := Try.func76
theorem fxFm76 : (Try.f76.name == "runtime.NumGoroutine") = false := by kernel_rfl
theorem fxFb76 : (Try.f76.name == "runtime.NumGoroutine" || Try.f76.body.isNone) = false := by kernel_rfl
theorem fxFi76 : Try.f76.body.isNone = false := by kernel_rfl
theorem fxFj76 : (Try.f76.body = none) = False := eq_false (fun h => by have := fxFi76; rw [h] at this; cases this)
theorem fxFn77 : Try.prog.funcs[(77 : Nat)]? = some Try.f77 := Try.func77
theorem fxFm77 : (Try.f77.name == "runtime.NumGoroutine") = false := by kernel_rfl
theorem fxFb77 : (Try.f77.name == "runtime.NumGoroutine" || Try.f77.body.isNone) = false := by kernel_rfl
theorem fxFi77 : Try.f77.body.isNone = false := by kernel_rfl
theorem fxFj77 : (Try.f77.body = none) = False := eq_false (fun h => by have := fxFi77; rw [h] at this; cases this)
theorem fxFn78 : Try.prog.funcs[(78 : Nat)]? = some Try.f78 := Try.func78
theorem fxFm78 : (Try.f78.name == "runtime.NumGoroutine") = false := by kernel_rfl
theorem fxFb78 : (Try.f78.name == "runtime.NumGoroutine" || Try.f78.body.isNone) = false := by kernel_rfl
theorem fxFi78 : Try.f78.body.isNone = false := by kernel_rfl
theorem fxFj78 : (Try.f78.body = none) = False := eq_false (fun h => by have := fxFi78; rw [h] at this; cases this)
theorem fxFn79 : Try.prog.funcs[(79 : Nat)]? = some Try.f79 := Try.func79
theorem fxFm79 : (Try.f79.name == "runtime.NumGoroutine") = false := by kernel_rfl
theorem fxFb79 : (Try.f79.name == "runtime.NumGoroutine" || Try.f79.body.isNone) = false := by kernel_rfl
theorem fxFi79 : Try.f79.body.isNone = false := by kernel_rfl
theorem fxFj79 : (Try.f79.body = none) = False := eq_false (fun h => by have := fxFi79; rw [h] at this; cases this)
theorem fxFn80 : Try.prog.funcs[(80 : Nat)]? = some Try.f80 := Try.func80
theorem fxFm80 : (Try.f80.name == "runtime.NumGoroutine") = false := by kernel_rfl
theorem fxFb80 : (Try.f80.name == "runtime.NumGoroutine" || Try.f80.body.isNone) = false := by kernel_rfl
theorem fxFi80 : Try.f80.body.isNone = false := by kernel_rfl
theorem fxFj80 : (Try.f80.body = none) = False := eq_false (fun h => by have := fxFi80; rw [h] at this; cases this)
theorem fxFn81 : Try.prog.funcs[(81 : Nat)]? = some Try.f81 := Try.func81
theorem fxFm81 : (Try.f81.name == "runtime.NumGoroutine") = false := by kernel_rfl
theorem fxFb81 : (Try.f81.name == "runtime.NumGoroutine" || Try.f81.body.isNone) = false := by kernel_rfl
theorem fxFi81 : Try.f81.body.isNone = false := by kernel_rfl
theorem fxFj81 : (Try.f81.body = none) = False := eq_false (fun h => by have := fxFi81; rw [h] at this; cases this)
theorem fxFn82 : Try.prog.funcs[(82 : Nat)]? = some Try.f82 := Try.func82
theorem fxFm82 : (Try.f82.name == "runtime.NumGoroutine") = false := by kernel_rfl
theorem fxFb82 : (Try.f82.name == "runtime.NumGoroutine" || Try.f82.body.isNone) = false := by kernel_rfl
theorem fxFi82 : Try.f82.body.isNone = false := by kernel_rfl
theorem fxFj82 : (Try.f82.body = none) = False := eq_false (fun h => by have := fxFi82; rw [h] at this; cases this)
theorem fxFn83 : Try.prog.funcs[(83 : Nat)]? = some Try.f83 := Try.func83
theorem fxFm83 : (Try.f83.name == "runtime.NumGoroutine") = false := by kernel_rfl
theorem fxFb83 : (Try.f83.name == "runtime.NumGoroutine" || Try.f83.body.isNone) = false := by kernel_rfl
theorem fxFi83 : Try.f83.body.isNone = false := by kernel_rfl
theorem fxFj83 : (Try.f83.body = none) = False := eq_false (fun h => by have := fxFi83; rw [h] at this; cases this)
theorem fxFn84 : Try.prog.funcs[(84 : Nat)]? = some Try.f84 := Try.func84
theorem fxFm84 : (Try.f84.name == "runtime.NumGoroutine") = false := by kernel_rfl
theorem fxFb84 : (Try.f84.name == "runtime.NumGoroutine" || Try.f84.body.isNone) = false := by kernel_rfl
theorem fxFi84 : Try.f84.body.isNone = false := by kernel_rfl
theorem fxFj84 : (Try.f84.body = none) = False := eq_false (fun h => by have := fxFi84; rw [h] at this; cases this)
theorem fxFn85 : Try.prog.funcs[(85 : Nat)]? = some Try.f85 := Try.func85
theorem fxFm85 : (Try.f85.name == "runtime.NumGoroutine") = false := by kernel_rfl
theorem fxFb85 : (Try.f85.name == "runtime.NumGoroutine" || Try.f85.body.isNone) = false := by kernel_rfl
theorem fxFi85 : Try.f85.body.isNone = false := by kernel_rfl
theorem fxFj85 : (Try.f85.body = none) = False := eq_false (fun h => by have := fxFi85; rw [h] at this; cases this)
theorem fxFn86 : Try.prog.funcs[(86 : Nat)]? = some Try.f86 := Try.func86
theorem fxFm86 : (Try.f86.name == "runtime.NumGoroutine") = false := by kernel_rfl
theorem fxFb86 : (Try.f86.name == "runtime.NumGoroutine" || Try.f86.body.isNone) = false := by kernel_rfl
theorem fxFi86 : Try.f86.body.isNone = false := by kernel_rfl
theorem fxFj86 : (Try.f86.body = none) = False := eq_false (fun h => by have := fxFi86; rw [h] at this; cases this)
theorem fxFn87 : Try.prog.funcs[(87 : Nat)]? = some Try.f87 := Try.func87
theorem fxFm87 : (Try.f87.name == "runtime.NumGoroutine") = false := by kernel_rfl
theorem fxFb87 : (Try.f87.name == "runtime.NumGoroutine" || Try.f87.body.isNone) = false := by kernel_rfl
theorem fxFi87 : Try.f87.body.isNone = false := by kernel_rfl
theorem fxFj87 : (Try.f87.body = none) = False := eq_false (fun h => by have := fxFi87; rw [h] at this; cases this)
theorem fxFn88 : Try.prog.funcs[(88 : Nat)]? = some Try.f88 := Try.func88
theorem fxFm88 : (Try.f88.name == "runtime.NumGoroutine") = false := by kernel_rfl
theorem fxFb88 : (Try.f88.name == "runtime.NumGoroutine" || Try.f88.body.isNone) = false := by kernel_rfl
theorem fxFi88 : Try.f88.body.isNone = false := by kernel_rfl
theorem fxFj88 : (Try.f88.body = none) = False := eq_false (fun h => by have := fxFi88; rw [h] at this; cases this)
theorem fxFn89 : Try.prog.funcs[(89 : Nat)]? = some Try.f89 := Try.func89
theorem fxFm89 : (Try.f89.name == "runtime.NumGoroutine") = false := by kernel_rfl
theorem fxFb89 : (Try.f89.name == "runtime.NumGoroutine" || Try.f89.body.isNone) = false := by kernel_rfl
theorem fxFi89 : Try.f89.body.isNone = false := by kernel_rfl
theorem fxFj89 : (Try.f89.body = none) = False := eq_false (fun h => by have := fxFi89; rw [h] at this; cases this)
theorem fxFn90 : Try.prog.funcs[(90 : Nat)]? = some Try.f90 := Try.func90
theorem fxFm90 : (Try.f90.name == "runtime.NumGoroutine") = false := by kernel_rfl
theorem fxFb90 : (Try.f90.name == "runtime.NumGoroutine" || Try.f90.body.isNone) = false := by kernel_rfl
theorem fxFi90 : Try.f90.body.isNone = false := by kernel_rfl
theorem fxFj90 : (Try.f90.body = none) = False := eq_false (fun h => by have := fxFi90; rw [h] at this; cases this)
theorem fxFn91 : Try.prog.funcs[(91 : Nat)]? = some Try.f91 := Try.func91
theorem fxFm91 : (Try.f91.name == "runtime.NumGoroutine") = false := by kernel_rfl
theorem fxFb91 : (Try.f91.name == "runtime.NumGoroutine" || Try.f91.body.isNone) = false := by kernel_rfl
theorem fxFi91 : Try.f91.body.isNone = false := by kernel_rfl
theorem fxFj91 : (Try.f91.body = none) = False := eq_false (fun h => by have := fxFi91; rw [h] at this; cases this)
theorem fxFn92 : Try.prog.funcs[(92 : Nat)]? = some Try.f92 := Try.func92
theorem fxFm92 : (Try.f92.name == "runtime.NumGoroutine") = false := by kernel_rfl
theorem fxFb92 : (Try.f92.name == "runtime.NumGoroutine" || Try.f92.body.isNone) = false := by kernel_rfl
theorem fxFi92 : Try.f92.body.isNone = false := by kernel_rfl
theorem fxFj92 : (Try.f92.body = none) = False := eq_false (fun h => by have := fxFi92; rw [h] at this; cases this)
theorem fxFn93 : Try.prog.funcs[(93 : Nat)]? = some Try.f93 := Try.func93
theorem fxFm93 : (Try.f93.name == "runtime.NumGoroutine") = false := by kernel_rfl
theorem fxFb93 : (Try.f93.name == "runtime.NumGoroutine" || Try.f93.body.isNone) = false := by kernel_rfl
theorem fxFi93 : Try.f93.body.isNone = false := by kernel_rfl
theorem fxFj93 : (Try.f93.body = none) = False := eq_false (fun h => by have := fxFi93; rw [h] at this; cases this)
theorem fxFn94 : Try.prog.funcs[(94 : Nat)]? = some Try.f94 := Try.func94
theorem fxFm94 : (Try.f94.name == "runtime.NumGoroutine") = false := by kernel_rfl
theorem fxFb94 : (Try.f94.name == "runtime.NumGoroutine" || Try.f94.body.isNone) = false := by kernel_rfl
theorem fxFi94 : Try.f94.body.isNone = false := by kernel_rfl
theorem fxFj94 : (Try.f94.body = none) = False := eq_false (fun h => by have := fxFi94; rw [h] at this; cases this)
theorem fxFn95 : Try.prog.funcs[(95 : Nat)]? = some Try.f95 := Try.func95
theorem fxFm95 : (Try.f95.name == "runtime.NumGoroutine") = false := by kernel_rfl
theorem fxFb95 : (Try.f95.name == "runtime.NumGoroutine" || Try.f95.body.isNone) = false := by kernel_rfl
theorem fxFi95 : Try.f95.body.isNone = false := by kernel_rfl
theorem fxFj95 : (Try.f95.body = none) = False := eq_false (fun h => by have := fxFi95; rw [h] at this; cases this)
theorem fxFn96 : Try.prog.funcs[(96 : Nat)]? = some Try.f96 := Try.func96
theorem fxFm96 : (Try.f96.name == "runtime.NumGoroutine") = false := by kernel_rfl
theorem fxFb96 : (Try.f96.name == "runtime.NumGoroutine" || Try.f96.body.isNone) = false := by kernel_rfl
theorem fxFi96 : Try.f96.body.isNone = false := by kernel_rfl
theorem fxFj96 : (Try.f96.body = none) = False := eq_false (fun h => by have := fxFi96; rw [h] at this; cases this)
theorem fxFn97 : Try.prog.funcs[(97 : Nat)]? = some Try.f97 := Try.func97
theorem fxFm97 : (Try.f97.name == "runtime.NumGoroutine") = false := by kernel_rfl
theorem fxFb97 : (Try.f97.name == "runtime.NumGoroutine" || Try.f97.body.isNone) = false := by kernel_rfl
theorem fxFi97 : Try.f97.body.isNone = false := by kernel_rfl
theorem fxFj97 : (Try.f97.body = none) = False := eq_false (fun h => by have := fxFi97; rw [h] at this; cases this)
theorem fxFn98 : Try.prog.funcs[(98 : Nat)]? = some Try.f98 := Try.func98
theorem fxFm98 : (Try.f98.name == "runtime.NumGoroutine") = false := by kernel_rfl
theorem fxFb98 : (Try.f98.name == "runtime.NumGoroutine" || Try.f98.body.isNone) = false := by kernel_rfl
theorem fxFi98 : Try.f98.body.isNone = false := by kernel_rfl
theorem fxFj98 : (Try.f98.body = none) = False := eq_false (fun h => by have := fxFi98; rw [h] at this; cases this)
theorem fxFn99 : Try.prog.funcs[(99 : Nat)]? = some Try.f99 := Try.func99
theorem fxFm99 : (Try.f99.name == "runtime.NumGoroutine") = false := by kernel_rfl
theorem fxFb99 : (Try.f99.name == "runtime.NumGoroutine" || Try.f99.body.isNone) = false := by kernel_rfl
theorem fxFi99 : Try.f99.body.isNone = false := by kernel_rfl
theorem fxFj99 : (Try.f99.body = none) = False := eq_false (fun h => by have := fxFi99; rw [h] at this; cases this)
theorem fxFn100 : Try.prog.funcs[(100 : Nat)]? = some Try.f100 := Try.func100
theorem fxFm100 : (Try.f100.name == "runtime.NumGoroutine") = false := by kernel_rfl
theorem fxFb100 : (Try.f100.name == "runtime.NumGoroutine" || Try.f100.body.isNone) = false := by kernel_rfl
theorem fxFi100 : Try.f100.body.isNone = false := by kernel_rfl
theorem fxFj100 : (Try.f100.body = none) = False := eq_false (fun h => by have := fxFi100; rw [h] at this; cases this)
theorem fxFn101 : Try.prog.funcs[(101 : Nat)]? = some Try.f101 := Try.func101
theorem fxFm101 : (Try.f101.name == "runtime.NumGoroutine") = false := by kernel_rfl
theorem fxFb101 : (Try.f101.name == "runtime.NumGoroutine" || Try.f101.body.isNone) = false := by kernel_rfl
theorem fxFi101 : Try.f101.body.isNone = false := by kernel_rfl
theorem fxFj101 : (Try.f101.body = none) = False := eq_false (fun h => by have := fxFi101; rw [h] at this; cases this)
theorem fxFn102 : Try.prog.funcs[(102 : Nat)]? = some Try.f102 := Try.func102
theorem fxFm102 : (Try.f102.name == "runtime.NumGoroutine") = false := by kernel_rfl
theorem fxFb102 : (Try.f102.name == "runtime.NumGoroutine" || Try.f102.body.isNone) = false := by kernel_rfl
theorem fxFi102 : Try.f102.body.isNone = false := by kernel_rfl
theorem fxFj102 : (Try.f102.body = none) = False := eq_false (fun h => by have := fxFi102; rw [h] at this; cases this)
theorem fxFn103 : Try.prog.funcs[(103 : Nat)]? = some Try.f103 := Try.func103
theorem fxFm103 : (Try.f103.name == "runtime.NumGoroutine") = false := by kernel_rfl
theorem fxFb103 : (Try.f103.name == "runtime.NumGoroutine" || Try.f103.body.isNone) = false := by kernel_rfl
theorem fxFi103 : Try.f103.body.isNone = false := by kernel_rfl
theorem fxFj103 : (Try.f103.body = none) = False := eq_false (fun h => by have := fxFi103; rw [h] at this; cases this)
theorem fxFn104 : Try.prog.funcs[(104 : Nat)]? = some Try.f104 := Try.func104
theorem fxFm104 : (Try.f104.name == "runtime.NumGoroutine") = false := by kernel_rfl
theorem fxFb104 : (Try.f104.name == "runtime.NumGoroutine" || Try.f104.body.isNone) = false := by kernel_rfl
theorem fxFi104 : Try.f104.body.isNone = false := by kernel_rfl
theorem fxFj104 : (Try.f104.body = none) = False := eq_false (fun h => by have := fxFi104; rw [h] at this; cases this)
theorem fxFn105 : Try.prog.funcs[(105 : Nat)]? = some Try.f105 := Try.func105
theorem fxFm105 : (Try.f105.name == "runtime.NumGoroutine") = false := by kernel_rfl
theorem fxFb105 : (Try.f105.name == "runtime.NumGoroutine" || Try.f105.body.isNone) = false := by kernel_rfl
theorem fxFi105 : Try.f105.body.isNone = false := by kernel_rfl
theorem fxFj105 : (Try.f105.body = none) = False := eq_false (fun h => by have := fxFi105; rw [h] at this; cases this)
theorem fxFn106 : Try.prog.funcs[(106 : Nat)]? = some Try.f106 := Try.func106
theorem fxFm106 : (Try.f106.name == "runtime.NumGoroutine") = false := by kernel_rfl
theorem fxFb106 : (Try.f106.name == "runtime.NumGoroutine" || Try.f106.body.isNone) = false := by kernel_rfl
theorem fxFi106 : Try.f106.body.isNone = false := by kernel_rfl
theorem fxFj106 : (Try.f106.body = none) = False := eq_false (fun h => by have := fxFi106; rw [h] at this; cases this)
theorem fxFn107 : Try.prog.funcs[(107 : Nat)]? = some Try.f107 := Try.func107
theorem fxFm107 : (Try.f107.name == "runtime.NumGoroutine") = false := by kernel_rfl
theorem fxFb107 : (Try.f107.name == "runtime.NumGoroutine" || Try.f107.body.isNone) = false := by kernel_rfl
theorem fxFi107 : Try.f107.body.isNone = false := by kernel_rfl
theorem fxFj107 : (Try.f107.body = none) = False := eq_false (fun h => by have := fxFi107; rw [h] at this; cases this)
theorem fxFn108 : Try.prog.funcs[(108 : Nat)]? = some Try.f108 := Try.func108
theorem fxFm108 : (Try.f108.name == "runtime.NumGoroutine") = false := by kernel_rfl
theorem fxFb108 : (Try.f108.name == "runtime.NumGoroutine" || Try.f108.body.isNone) = false := by kernel_rfl
theorem fxFi108 : Try.f108.body.isNone = false := by kernel_rfl
theorem fxFj108 : (Try.f108.body = none) = False := eq_false (fun h => by have := fxFi108; rw [h] at this; cases this)
theorem fxFn109 : Try.prog.funcs[(109 : Nat)]? = some Try.f109 := Try.func109
theorem fxFm109 : (Try.f109.name == "runtime.NumGoroutine") = false := by kernel_rfl
theorem fxFb109 : (Try.f109.name == "runtime.NumGoroutine" || Try.f109.body.isNone) = false := by kernel_rfl
theorem fxFi109 : Try.f109.body.isNone = false := by kernel_rfl
theorem fxFj109 : (Try.f109.body = none) = False := eq_false (fun h => by have := fxFi109; rw [h] at this; cases this)
theorem fxFn110 : Try.prog.funcs[(110 : Nat)]? = some Try.f110 := Try.func110
theorem fxFm110 : (Try.f110.name == "runtime.NumGoroutine") = false := by kernel_rfl
theorem fxFb110 : (Try.f110.name == "runtime.NumGoroutine" || Try.f110.body.isNone) = false := by kernel_rfl
theorem fxFi110 : Try.f110.body.isNone = false := by kernel_rfl
theorem fxFj110 : (Try.f110.body = none) = False := eq_false (fun h => by have := fxFi110; rw [h] at this; cases this)
theorem fxFn111 : Try.prog.funcs[(111 : Nat)]? = some Try.f111 := Try.func111
theorem fxFm111 : (Try.f111.name == "runtime.NumGoroutine") = false := by kernel_rfl
theorem fxFb111 : (Try.f111.name == "runtime.NumGoroutine" || Try.f111.body.isNone) = false := by kernel_rfl
theorem fxFi111 : Try.f111.body.isNone = false := by kernel_rfl
theorem fxFj111 : (Try.f111.body = none) = False := eq_false (fun h => by have := fxFi111; rw [h] at this; cases this)
theorem fxFn112 : Try.prog.funcs[(112 : Nat)]? = some Try.f112 := Try.func112
theorem fxFm112 : (Try.f112.name == "runtime.NumGoroutine") = false := by kernel_rfl
theorem fxFb112 : (Try.f112.name == "runtime.NumGoroutine" || Try.f112.body.isNone) = false := by kernel_rfl
theorem fxFi112 : Try.f112.body.isNone = false := by kernel_rfl
theorem fxFj112 : (Try.f112.body = none) = False := eq_false (fun h => by have := fxFi112; rw [h] at this; cases this)
theorem fxFn113 : Try.prog.funcs[(113 : Nat)]? = some Try.f113 := Try.func113
theorem fxFm113 : (Try.f113.name == "runtime.NumGoroutine") = false := by kernel_rfl
theorem fxFb113 : (Try.f113.name == "runtime.NumGoroutine" || Try.f113.body.isNone) = false := by kernel_rfl
theorem fxFi113 : Try.f113.body.isNone = false := by kernel_rfl
theorem fxFj113 : (Try.f113.body = none) = False := eq_false (fun h => by have := fxFi113; rw [h] at this; cases this)
theorem fxFn114 : Try.prog.funcs[(114 : Nat)]? = some Try.f114 := Try.func114
theorem fxFm114 : (Try.f114.name == "runtime.NumGoroutine") = false := by kernel_rfl
theorem fxFb114 : (Try.f114.name == "runtime.NumGoroutine" || Try.f114.body.isNone) = false := by kernel_rfl
theorem fxFi114 : Try.f114.body.isNone = false := by kernel_rfl
theorem fxFj114 : (Try.f114.body = none) = False := eq_false (fun h => by have := fxFi114; rw [h] at this; cases this)
theorem fxFn115 : Try.prog.funcs[(115 : Nat)]? = some Try.f115 := Try.func115
theorem fxFm115 : (Try.f115.name == "runtime.NumGoroutine") = false := by kernel_rfl
theorem fxFb115 : (Try.f115.name == "runtime.NumGoroutine" || Try.f115.body.isNone) = false := by kernel_rfl
theorem fxFi115 : Try.f115.body.isNone = false := by kernel_rfl
theorem fxFj115 : (Try.f115.body = none) = False := eq_false (fun h => by have := fxFi115; rw [h] at this; cases this)
theorem fxFn116 : Try.prog.funcs[(116 : Nat)]? = some Try.f116 := Try.func116
theorem fxFm116 : (Try.f116.name == "runtime.NumGoroutine") = false := by kernel_rfl
theorem fxFb116 : (Try.f116.name == "runtime.NumGoroutine" || Try.f116.body.isNone) = false := by kernel_rfl
theorem fxFi116 : Try.f116.body.isNone = false := by kernel_rfl
theorem fxFj116 : (Try.f116.body = none) = False := eq_false (fun h => by have := fxFi116; rw [h] at this; cases this)
theorem fxFn117 : Try.prog.funcs[(117 : Nat)]? = some Try.f117 := Try.func117
theorem fxFm117 : (Try.f117.name == "runtime.NumGoroutine") = false := by kernel_rfl
theorem fxFb117 : (Try.f117.name == "runtime.NumGoroutine" || Try.f117.body.isNone) = false := by kernel_rfl
theorem fxFi117 : Try.f117.body.isNone = false := by kernel_rfl
theorem fxFj117 : (Try.f117.body = none) = False := eq_false (fun h => by have := fxFi117; rw [h] at this; cases this)
theorem fxFn118 : Try.prog.funcs[(118 : Nat)]? = some Try.f118 := Try.func118
theorem fxFm118 : (Try.f118.name == "runtime.NumGoroutine") = false := by kernel_rfl
theorem fxFb118 : (Try.f118.name == "runtime.NumGoroutine" || Try.f118.body.isNone) = false := by kernel_rfl
theorem fxFi118 : Try.f118.body.isNone = false := by kernel_rfl
theorem fxFj118 : (Try.f118.body = none) = False := eq_false (fun h => by have := fxFi118; rw [h] at this; cases this)
theorem fxFn119 : Try.prog.funcs[(119 : Nat)]? = some Try.f119 := Try.func119
theorem fxFm119 : (Try.f119.name == "runtime.NumGoroutine") = false := by kernel_rfl
theorem fxFb119 : (Try.f119.name == "runtime.NumGoroutine" || Try.f119.body.isNone) = false := by kernel_rfl
theorem fxFi119 : Try.f119.body.isNone = false := by kernel_rfl
theorem fxFj119 : (Try.f119.body = none) = False := eq_false (fun h => by have := fxFi119; rw [h] at this; cases this)
theorem fxFn120 : Try.prog.funcs[(120 : Nat)]? = some Try.f120 := Try.func120
theorem fxFm120 : (Try.f120.name == "runtime.NumGoroutine") = false := by kernel_rfl
theorem fxFb120 : (Try.f120.name == "runtime.NumGoroutine" || Try.f120.body.isNone) = false := by kernel_rfl
theorem fxFi120 : Try.f120.body.isNone = false := by kernel_rfl
theorem fxFj120 : (Try.f120.body = none) = False := eq_false (fun h => by have := fxFi120; rw [h] at this; cases this)
theorem fxFn121 : Try.prog.funcs[(121 : Nat)]? = some Try.f121 := Try.func121
theorem fxFm121 : (Try.f121.name == "runtime.NumGoroutine") = false := by kernel_rfl
theorem fxFb121 : (Try.f121.name == "runtime.NumGoroutine" || Try.f121.body.isNone) = false := by kernel_rfl
theorem fxFi121 : Try.f121.body.isNone = false := by kernel_rfl
theorem fxFj121 : (Try.f121.body = none) = False := eq_false (fun h => by have := fxFi121; rw [h] at this; cases this)
theorem fxFn122 : Try.prog.funcs[(122 : Nat)]? = some Try.f122 := Try.func122
theorem fxFm122 : (Try.f122.name == "runtime.NumGoroutine") = false := by kernel_rfl
theorem fxFb122 : (Try.f122.name == "runtime.NumGoroutine" || Try.f122.body.isNone) = false := by kernel_rfl
theorem fxFi122 : Try.f122.body.isNone = false := by kernel_rfl
theorem fxFj122 : (Try.f122.body = none) = False := eq_false (fun h => by have := fxFi122; rw [h] at this; cases this)
theorem fxFn123 : Try.prog.funcs[(123 : Nat)]? = some Try.f123 := Try.func123
theorem fxFm123 : (Try.f123.name == "runtime.NumGoroutine") = false := by kernel_rfl
theorem fxFb123 : (Try.f123.name == "runtime.NumGoroutine" || Try.f123.body.isNone) = false := by kernel_rfl
theorem fxFi123 : Try.f123.body.isNone = false := by kernel_rfl
theorem fxFj123 : (Try.f123.body = none) = False := eq_false (fun h => by have := fxFi123; rw [h] at this; cases this)
theorem fxFn124 : Try.prog.funcs[(124 : Nat)]? = some Try.f124 := Try.func124
theorem fxFm124 : (Try.f124.name == "runtime.NumGoroutine") = false := by kernel_rfl
theorem fxFb124 : (Try.f124.name == "runtime.NumGoroutine" || Try.f124.body.isNone) = false := by kernel_rfl
theorem fxFi124 : Try.f124.body.isNone = false := by kernel_rfl
theorem fxFj124 : (Try.f124.body = none) = False := eq_false (fun h => by have := fxFi124; rw [h] at this; cases this)
theorem fxFn125 : Try.prog.funcs[(125 : Nat)]? = some Try.f125 := Try.func125
theorem fxFm125 : (Try.f125.name == "runtime.NumGoroutine") = false := by kernel_rfl
theorem fxFb125 : (Try.f125.name == "runtime.NumGoroutine" || Try.f125.body.isNone) = false := by kernel_rfl
theorem fxFi125 : Try.f125.body.isNone = false := by kernel_rfl
theorem fxFj125 : (Try.f125.body = none) = False := eq_false (fun h => by have := fxFi125; rw [h] at this; cases this)
theorem fxFn126 : Try.prog.funcs[(126 : Nat)]? = some Try.f126 := Try.func126
theorem fxFm126 : (Try.f126.name == "runtime.NumGoroutine") = false := by kernel_rfl
theorem fxFb126 : (Try.f126.name == "runtime.NumGoroutine" || Try.f126.body.isNone) = false := by kernel_rfl
theorem fxFi126 : Try.f126.body.isNone = false := by kernel_rfl
theorem fxFj126 : (Try.f126.body = none) = False := eq_false (fun h => by have := fxFi126; rw [h] at this; cases this)
theorem fxFn127 : Try.prog.funcs[(127 : Nat)]? = some Try.f127 := Try.func127
theorem fxFm127 : (Try.f127.name == "runtime.NumGoroutine") = false := by kernel_rfl
theorem fxFb127 : (Try.f127.name == "runtime.NumGoroutine" || Try.f127.body.isNone) = false := by kernel_rfl
theorem fxFi127 : Try.f127.body.isNone = false := by kernel_rfl
theorem fxFj127 : (Try.f127.body = none) = False := eq_false (fun h => by have := fxFi127; rw [h] at this; cases this)
theorem fxFn128 : Try.prog.funcs[(128 : Nat)]? = some Try.f128 := Try.func128
theorem fxFm128 : (Try.f128.name == "runtime.NumGoroutine") = false := by kernel_rfl
theorem fxFb128 : (Try.f128.name == "runtime.NumGoroutine" || Try.f128.body.isNone) = false := by kernel_rfl
theorem fxFi128 : Try.f128.body.isNone = false := by kernel_rfl
theorem fxFj128 : (Try.f128.body = none) = False := eq_false (fun h => by have := fxFi128; rw [h] at this; cases this)
theorem fxFn129 : Try.prog.funcs[(129 : Nat)]? = some Try.f129 := Try.func129
theorem fxFm129 : (Try.f129.name == "runtime.NumGoroutine") = false := by kernel_rfl
theorem fxFb129 : (Try.f129.name == "runtime.NumGoroutine" || Try.f129.body.isNone) = false := by kernel_rfl
theorem fxFi129 : Try.f129.body.isNone = false := by kernel_rfl
theorem fxFj129 : (Try.f129.body = none) = False := eq_false (fun h => by have := fxFi129; rw [h] at this; cases this)
theorem fxFn130 : Try.prog.funcs[(130 : Nat)]? = some Try.f130 := Try.func130
theorem fxFm130 : (Try.f130.name == "runtime.NumGoroutine") = false := by kernel_rfl
theorem fxFb130 : (Try.f130.name == "runtime.NumGoroutine" || Try.f130.body.isNone) = false := by kernel_rfl
theorem fxFi130 : Try.f130.body.isNone = false := by kernel_rfl
theorem fxFj130 : (Try.f130.body = none) = False := eq_false (fun h => by have := fxFi130; rw [h] at this; cases this)
theorem fxFn131 : Try.prog.funcs[(131 : Nat)]? = some Try.f131 := Try.func131
theorem fxFm131 : (Try.f131.name == "runtime.NumGoroutine") = false := by kernel_rfl
theorem fxFb131 : (Try.f131.name == "runtime.NumGoroutine" || Try.f131.body.isNone) = false := by kernel_rfl
theorem fxFi131 : Try.f131.body.isNone = false := by kernel_rfl
theorem fxFj131 : (Try.f131.body = none) = False := eq_false (fun h => by have := fxFi131; rw [h] at this; cases this)
theorem fxFn132 : Try.prog.funcs[(132 : Nat)]? = some Try.f132 := Try.func132
theorem fxFm132 : (Try.f132.name == "runtime.NumGoroutine") = false := by kernel_rfl
theorem fxFb132 : (Try.f132.name == "runtime.NumGoroutine" || Try.f132.body.isNone) = false := by kernel_rfl
theorem fxFi132 : Try.f132.body.isNone = false := by kernel_rfl
theorem fxFj132 : (Try.f132.body = none) = False := eq_false (fun h => by have := fxFi132; rw [h] at this; cases this)
theorem fxFn133 : Try.prog.funcs[(133 : Nat)]? = some Try.f133 := Try.func133
theorem fxFm133 : (Try.f133.name == "runtime.NumGoroutine") = false := by kernel_rfl
theorem fxFb133 : (Try.f133.name == "runtime.NumGoroutine" || Try.f133.body.isNone) = false := by kernel_rfl
theorem fxFi133 : Try.f133.body.isNone = false := by kernel_rfl
theorem fxFj133 : (Try.f133.body = none) = False := eq_false (fun h => by have := fxFi133; rw [h] at this; cases this)
theorem fxFn134 : Try.prog.funcs[(134 : Nat)]? = some Try.f134 := Try.func134
theorem fxFm134 : (Try.f134.name == "runtime.NumGoroutine") = false := by kernel_rfl
theorem fxFb134 : (Try.f134.name == "runtime.NumGoroutine" || Try.f134.body.isNone) = false := by kernel_rfl
theorem fxFi134 : Try.f134.body.isNone = false := by kernel_rfl
theorem fxFj134 : (Try.f134.body = none) = False := eq_false (fun h => by have := fxFi134; rw [h] at this; cases this)
theorem fxFn135 : Try.prog.funcs[(135 : Nat)]? = some Try.f135 := Try.func135
theorem fxFm135 : (Try.f135.name == "runtime.NumGoroutine") = false := by kernel_rfl
theorem fxFb135 : (Try.f135.name == "runtime.NumGoroutine" || Try.f135.body.isNone) = false := by kernel_rfl
theorem fxFi135 : Try.f135.body.isNone = false := by kernel_rfl
theorem fxFj135 : (Try.f135.body = none) = False := eq_false (fun h => by have := fxFi135; rw [h] at this; cases this)
theorem fxFn136 : Try.prog.funcs[(136 : Nat)]? = some Try.f136 := Try.func136
theorem fxFm136 : (Try.f136.name == "runtime.NumGoroutine") = false := by kernel_rfl
theorem fxFb136 : (Try.f136.name == "runtime.NumGoroutine" || Try.f136.body.isNone) = false := by kernel_rfl
theorem fxFi136 : Try.f136.body.isNone = false := by kernel_rfl
theorem fxFj136 : (Try.f136.body = none) = False := eq_false (fun h => by have := fxFi136; rw [h] at this; cases this)
theorem fxFn137 : Try.prog.funcs[(137 : Nat)]? = some Try.f137 := Try.func137
theorem fxFm137 : (Try.f137.name == "runtime.NumGoroutine") = false := by kernel_rfl
theorem fxFb137 : (Try.f137.name == "runtime.NumGoroutine" || Try.f137.body.isNone) = false := by kernel_rfl
theorem fxFi137 : Try.f137.body.isNone = false := by kernel_rfl
theorem fxFj137 : (Try.f137.body = none) = False := eq_false (fun h => by have := fxFi137; rw [h] at this; cases this)
theorem fxFn138 : Try.prog.funcs[(138 : Nat)]? = some Try.f138 := Try.func138
theorem fxFm138 : (Try.f138.name == "runtime.NumGoroutine") = false := by kernel_rfl
theorem fxFb138 : (Try.f138.name == "runtime.NumGoroutine" || Try.f138.body.isNone) = false := by kernel_rfl
theorem fxFi138 : Try.f138.body.isNone = false := by kernel_rfl
theorem fxFj138 : (Try.f138.body = none) = False := eq_false (fun h => by have := fxFi138; rw [h] at this; cases this)
theorem fxFn139 : Try.prog.funcs[(139 : Nat)]? = some Try.f139 := Try.func139
theorem fxFm139 : (Try.f139.name == "runtime.NumGoroutine") = false := by kernel_rfl
theorem fxFb139 : (Try.f139.name == "runtime.NumGoroutine" || Try.f139.body.isNone) = false := by kernel_rfl
theorem fxFi139 : Try.f139.body.isNone = false := by kernel_rfl
theorem fxFj139 : (Try.f139.body = none) = False := eq_false (fun h => by have := fxFi139; rw [h] at this; cases this)
theorem fxFn140 : Try.prog.funcs[(140 : Nat)]? = some Try.f140 := Try.func140
theorem fxFm140 : (Try.f140.name == "runtime.NumGoroutine") = false := by kernel_rfl
theorem fxFb140 : (Try.f140.name == "runtime.NumGoroutine" || Try.f140.body.isNone) = false := by kernel_rfl
theorem fxFi140 : Try.f140.body.isNone = false := by kernel_rfl
theorem fxFj140 : (Try.f140.body = none) = False := eq_false (fun h => by have := fxFi140; rw [h] at this; cases this)
theorem fxFn141 : Try.prog.funcs[(141 : Nat)]? = some Try.f141 := Try.func141
theorem fxFm141 : (Try.f141.name == "runtime.NumGoroutine") = false := by kernel_rfl
theorem fxFb141 : (Try.f141.name == "runtime.NumGoroutine" || Try.f141.body.isNone) = false := by kernel_rfl
theorem fxFi141 : Try.f141.body.isNone = false := by kernel_rfl
theorem fxFj141 : (Try.f141.body = none) = False := eq_false (fun h => by have := fxFi141; rw [h] at this; cases this)
theorem fxFn142 : Try.prog.funcs[(142 : Nat)]? = some Try.f142 := Try.func142
theorem fxFm142 : (Try.f142.name == "runtime.NumGoroutine") = false := by kernel_rfl
theorem fxFb142 : (Try.f142.name == "runtime.NumGoroutine" || Try.f142.body.isNone) = false := by kernel_rfl
theorem fxFi142 : Try.f142.body.isNone = false := by kernel_rfl
theorem fxFj142 : (Try.f142.body = none) = False := eq_false (fun h => by have := fxFi142; rw [h] at this; cases this)
theorem fxFn143 : Try.prog.funcs[(143 : Nat)]? = some Try.f143 := Try.func143
theorem fxFm143 : (Try.f143.name == "runtime.NumGoroutine") = false := by kernel_rfl
theorem fxFb143 : (Try.f143.name == "runtime.NumGoroutine" || Try.f143.body.isNone) = false := by kernel_rfl
theorem fxFi143 : Try.f143.body.isNone = false := by kernel_rfl
theorem fxFj143 : (Try.f143.body = none) = False := eq_false (fun h => by have := fxFi143; rw [h] at this; cases this)
theorem fxFn144 : Try.prog.funcs[(144 : Nat)]? = some Try.f144 := Try.func144
theorem fxFm144 : (Try.f144.name == "runtime.NumGoroutine") = false := by kernel_rfl
theorem fxFb144 : (Try.f144.name == "runtime.NumGoroutine" || Try.f144.body.isNone) = false := by kernel_rfl
theorem fxFi144 : Try.f144.body.isNone = false := by kernel_rfl
theorem fxFj144 : (Try.f144.body = none) = False := eq_false (fun h => by have := fxFi144; rw [h] at this; cases this)
theorem fxFn145 : Try.prog.funcs[(145 : Nat)]? = some Try.f145 := Try.func145
theorem fxFm145 : (Try.f145.name == "runtime.NumGoroutine") = false := by kernel_rfl
theorem fxFb145 : (Try.f145.name == "runtime.NumGoroutine" || Try.f145.body.isNone) = false := by kernel_rfl
theorem fxFi145 : Try.f145.body.isNone = false := by kernel_rfl
theorem fxFj145 : (Try.f145.body = none) = False := eq_false (fun h => by have := fxFi145; rw [h] at this; cases this)
theorem fxFn146 : Try.prog.funcs[(146 : Nat)]? = some Try.f146 := Try.func146
theorem fxFm146 : (Try.f146.name == "runtime.NumGoroutine") = false := by kernel_rfl
theorem fxFb146 : (Try.f146.name == "runtime.NumGoroutine" || Try.f146.body.isNone) = false := by kernel_rfl
theorem fxFi146 : Try.f146.body.isNone = false := by kernel_rfl
theorem fxFj146 : (Try.f146.body = none) = False := eq_false (fun h => by have := fxFi146; rw [h] at this; cases this)
theorem fxFn147 : Try.prog.funcs[(147 : Nat)]? = some Try.f147 := Try.func147
theorem fxFm147 : (Try.f147.name == "runtime.NumGoroutine") = false := by kernel_rfl
theorem fxFb147 : (Try.f147.name == "runtime.NumGoroutine" || Try.f147.body.isNone) = false := by kernel_rfl
theorem fxFi147 : Try.f147.body.isNone = false := by kernel_rfl
theorem fxFj147 : (Try.f147.body = none) = False := eq_false (fun h => by have := fxFi147; rw [h] at this; cases this)
theorem fxFn148 : Try.prog.funcs[(148 : Nat)]? = some Try.f148 := Try.func148
theorem fxFm148 : (Try.f148.name == "runtime.NumGoroutine") = false := by kernel_rfl
theorem fxFb148 : (Try.f148.name == "runtime.NumGoroutine" || Try.f148.body.isNone) = false := by kernel_rfl
theorem fxFi148 : Try.f148.body.isNone = false := by kernel_rfl
theorem fxFj148 : (Try.f148.body = none) = False := eq_false (fun h => by have := fxFi148; rw [h] at this; cases this)
theorem fxFn149 : Try.prog.funcs[(149 : Nat)]? = some Try.f149 := Try.func149
theorem fxFm149 : (Try.f149.name == "runtime.NumGoroutine") = false := by kernel_rfl
theorem fxFb149 : (Try.f149.name == "runtime.NumGoroutine" || Try.f149.body.isNone) = false := by kernel_rfl
theorem fxFi149 : Try.f149.body.isNone = false := by kernel_rfl
theorem fxFj149 : (Try.f149.body = none) = False := eq_false (fun h => by have := fxFi149; rw [h] at this; cases this)
theorem fxFn150 : Try.prog.funcs[(150 : Nat)]? = some Try.f150 := Try.func150
theorem fxFm150 : (Try.f150.name == "runtime.NumGoroutine") = false := by kernel_rfl
theorem fxFb150 : (Try.f150.name == "runtime.NumGoroutine" || Try.f150.body.isNone) = false := by kernel_rfl
theorem fxFi150 : Try.f150.body.isNone = false := by kernel_rfl
theorem fxFj150 : (Try.f150.body = none) = False := eq_false (fun h => by have := fxFi150; rw [h] at this; cases this)
theorem fxFn151 : Try.prog.funcs[(151 : Nat)]? = some Try.f151 := Try.func151
theorem fxFm151 : (Try.f151.name == "runtime.NumGoroutine") = false := by kernel_rfl
theorem fxFb151 : (Try.f151.name == "runtime.NumGoroutine" || Try.f151.body.isNone) = false := by kernel_rfl
theorem fxFi151 : Try.f151.body.isNone = false := by kernel_rfl
theorem fxFj151 : (Try.f151.body = none) = False := eq_false (fun h => by have := fxFi151; rw [h] at this; cases this)
theorem fxFn152 : Try.prog.funcs[(152 : Nat)]? = some Try.f152 := Try.func152
theorem fxFm152 : (Try.f152.name == "runtime.NumGoroutine") = false := by kernel_rfl
theorem fxFb152 : (Try.f152.name == "runtime.NumGoroutine" || Try.f152.body.isNone) = false := by kernel_rfl
theorem fxFi152 : Try.f152.body.isNone = false := by kernel_rfl
theorem fxFj152 : (Try.f152.body = none) = False := eq_false (fun h => by have := fxFi152; rw [h] at this; cases this)
theorem fxFn153 : Try.prog.funcs[(153 : Nat)]? = some Try.f153 := Try.func153
theorem fxFm153 : (Try.f153.name == "runtime.NumGoroutine") = false := by kernel_rfl
theorem fxFb153 : (Try.f153.name == "runtime.NumGoroutine" || Try.f153.body.isNone) = false := by kernel_rfl
theorem fxFi153 : Try.f153.body.isNone = false := by kernel_rfl
theorem fxFj153 : (Try.f153.body = none) = False := eq_false (fun h => by have := fxFi153; rw [h] at this; cases this)
theorem fxFn154 : Try.prog.funcs[(154 : Nat)]? = some Try.f154 := Try.func154
theorem fxFm154 : (Try.f154.name == "runtime.NumGoroutine") = false := by kernel_rfl
theorem fxFb154 : (Try.f154.name == "runtime.NumGoroutine" || Try.f154.body.isNone) = false := by kernel_rfl
theorem fxFi154 : Try.f154.body.isNone = false := by kernel_rfl
theorem fxFj154 : (Try.f154.body = none) = False := eq_false (fun h => by have := fxFi154; rw [h] at this; cases this)
theorem fxFn155 : Try.prog.funcs[(155 : Nat)]? = some Try.f155 := Try.func155
theorem fxFm155 : (Try.f155.name == "runtime.NumGoroutine") = false := by kernel_rfl
theorem fxFb155 : (Try.f155.name == "runtime.NumGoroutine" || Try.f155.body.isNone) = false := by kernel_rfl
theorem fxFi155 : Try.f155.body.isNone = false := by kernel_rfl
theorem fxFj155 : (Try.f155.body = none) = False := eq_false (fun h => by have := fxFi155; rw [h] at this; cases this)
theorem fxFn156 : Try.prog.funcs[(156 : Nat)]? = some Try.f156 := Try.func156
theorem fxFm156 : (Try.f156.name == "runtime.NumGoroutine") = false := by kernel_rfl
theorem fxFn157 : Try.prog.funcs[(157 : Nat)]? = some Try.f157 := Try.func157
theorem fxFm157 : (Try.f157.name == "runtime.NumGoroutine") = false := by kernel_rfl
theorem fxFb157 : (Try.f157.name == "runtime.NumGoroutine" || Try.f157.body.isNone) = false := by kernel_rfl
theorem fxFi157 : Try.f157.body.isNone = false := by kernel_rfl
theorem fxFj157 : (Try.f157.body = none) = False := eq_false (fun h => by have := fxFi157; rw [h] at this; cases this)
theorem fxFn158 : Try.prog.funcs[(158 : Nat)]? = some Try.f158 := Try.func158
theorem fxFm158 : (Try.f158.name == "runtime.NumGoroutine") = false := by kernel_rfl
theorem fxFb158 : (Try.f158.name == "runtime.NumGoroutine" || Try.f158.body.isNone) = false := by kernel_rfl
theorem fxFi158 : Try.f158.body.isNone = false := by kernel_rfl
theorem fxFj158 : (Try.f158.body = none) = False := eq_false (fun h => by have := fxFi158; rw [h] at this; cases this)
theorem fxFn159 : Try.prog.funcs[(159 : Nat)]? = some Try.f159 := Try.func159
theorem fxFm159 : (Try.f159.name == "runtime.NumGoroutine") = false := by kernel_rfl
theorem fxFb159 : (Try.f159.name == "runtime.NumGoroutine" || Try.f159.body.isNone) = false := by kernel_rfl
theorem fxFi159 : Try.f159.body.isNone = false := by kernel_rfl
theorem fxFj159 : (Try.f159.body = none) = False := eq_false (fun h => by have := fxFi159; rw [h] at this; cases this)
theorem fxFn160 : Try.prog.funcs[(160 : Nat)]? = some Try.f160 := Try.func160
theorem fxFm160 : (Try.f160.name == "runtime.NumGoroutine") = false := by kernel_rfl
theorem fxFb160 : (Try.f160.name == "runtime.NumGoroutine" || Try.f160.body.isNone) = false := by kernel_rfl
theorem fxFi160 : Try.f160.body.isNone = false := by kernel_rfl
theorem fxFj160 : (Try.f160.body = none) = False := eq_false (fun h => by have := fxFi160; rw [h] at this; cases this)
theorem fxFn161 : Try.prog.funcs[(161 : Nat)]? = some Try.f161 := Try.func161
theorem fxFm161 : (Try.f161.name == "runtime.NumGoroutine") = false := by kernel_rfl
theorem fxFn162 : Try.prog.funcs[(162 : Nat)]? = some Try.f162 := Try.func162
theorem fxFm162 : (Try.f162.name == "runtime.NumGoroutine") = false := by kernel_rfl
theorem fxFb162 : (Try.f162.name == "runtime.NumGoroutine" || Try.f162.body.isNone) = false := by kernel_rfl
theorem fxFi162 : Try.f162.body.isNone = false := by kernel_rfl
theorem fxFj162 : (Try.f162.body = none) = False := eq_false (fun h => by have := fxFi162; rw [h] at this; cases this)
theorem fxFn163 : Try.prog.funcs[(163 : Nat)]? = some Try.f163 := Try.func163
theorem fxFm163 : (Try.f163.name == "runtime.NumGoroutine") = false := by kernel_rfl
theorem fxFb163 : (Try.f163.name == "runtime.NumGoroutine" || Try.f163.body.isNone) = false := by kernel_rfl
theorem fxFi163 : Try.f163.body.isNone = false := by kernel_rfl
theorem fxFj163 : (Try.f163.body = none) = False := eq_false (fun h => by have := fxFi163; rw [h] at this; cases this)
theorem fxFn164 : Try.prog.funcs[(164 : Nat)]? = some Try.f164 := Try.func164
theorem fxFm164 : (Try.f164.name == "runtime.NumGoroutine") = false := by kernel_rfl
theorem fxFb164 : (Try.f164.name == "runtime.NumGoroutine" || Try.f164.body.isNone) = false := by kernel_rfl
theorem fxFi164 : Try.f164.body.isNone = false := by kernel_rfl
theorem fxFj164 : (Try.f164.body = none) = False := eq_false (fun h => by have := fxFi164; rw [h] at this; cases this)
theorem fxFn165 : Try.prog.funcs[(165 : Nat)]? = some Try.f165 := Try.func165
theorem fxFm165 : (Try.f165.name == "runtime.NumGoroutine") = false := by kernel_rfl
theorem fxFb165 : (Try.f165.name == "runtime.NumGoroutine" || Try.f165.body.isNone) = false := by kernel_rfl
theorem fxFi165 : Try.f165.body.isNone = false := by kernel_rfl
theorem fxFj165 : (Try.f165.body = none) = False := eq_false (fun h => by have := fxFi165; rw [h] at this; cases this)
theorem fxFn166 : Try.prog.funcs[(166 : Nat)]? = some Try.f166 := Try.func166
theorem fxFm166 : (Try.f166.name == "runtime.NumGoroutine") = false := by kernel_rfl
theorem fxFb166 : (Try.f166.name == "runtime.NumGoroutine" || Try.f166.body.isNone) = false := by kernel_rfl
theorem fxFi166 : Try.f166.body.isNone = false := by kernel_rfl
theorem fxFj166 : (Try.f166.body = none) = False := eq_false (fun h => by have := fxFi166; rw [h] at this; cases this)
theorem fxFn167 : Try.prog.funcs[(167 : Nat)]? = some Try.f167 := Try.func167
theorem fxFm167 : (Try.f167.name == "runtime.NumGoroutine") = false := by kernel_rfl
theorem fxFb167 : (Try.f167.name == "runtime.NumGoroutine" || Try.f167.body.isNone) = false := by kernel_rfl
theorem fxFi167 : Try.f167.body.isNone = false := by kernel_rfl
theorem fxFj167 : (Try.f167.body = none) = False := eq_false (fun h => by have := fxFi167; rw [h] at this; cases this)
theorem fxFn168 : Try.prog.funcs[(168 : Nat)]? = some Try.f168 := Try.func168
theorem fxFm168 : (Try.f168.name == "runtime.NumGoroutine") = false := by kernel_rfl
theorem fxFb168 : (Try.f168.name == "runtime.NumGoroutine" || Try.f168.body.isNone) = false := by kernel_rfl
theorem fxFi168 : Try.f168.body.isNone = false := by kernel_rfl
theorem fxFj168 : (Try.f168.body = none) = False := eq_false (fun h => by have := fxFi168; rw [h] at this; cases this)
theorem fxFn169 : Try.prog.funcs[(169 : Nat)]? = some Try.f169 := Try.func169
theorem fxFm169 : (Try.f169.name == "runtime.NumGoroutine") = false := by kernel_rfl
theorem fxFb169 : (Try.f169.name == "runtime.NumGoroutine" || Try.f169.body.isNone) = false := by kernel_rfl
theorem fxFi169 : Try.f169.body.isNone = false := by kernel_rfl
theorem fxFj169 : (Try.f169.body = none) = False := eq_false (fun h => by have := fxFi169; rw [h] at this; cases this)
theorem fxFn170 : Try.prog.funcs[(170 : Nat)]? = some Try.f170 := Try.func170
theorem fxFm170 : (Try.f170.name == "runtime.NumGoroutine") = false := by kernel_rfl
theorem fxFb170 : (Try.f170.name == "runtime.NumGoroutine" || Try.f170.body.isNone) = false := by kernel_rfl
theorem fxFi170 : Try.f170.body.isNone = false := by kernel_rfl
theorem fxFj170 : (Try.f170.body = none) = False := eq_false (fun h => by have := fxFi170; rw [h] at this; cases this)
theorem fxFn171 : Try.prog.funcs[(171 : Nat)]? = some Try.f171 := Try.func171
theorem fxFm171 : (Try.f171.name == "runtime.NumGoroutine") = false := by kernel_rfl
theorem fxFb171 : (Try.f171.name == "runtime.NumGoroutine" || Try.f171.body.isNone) = false := by kernel_rfl
theorem fxFi171 : Try.f171.body.isNone = false := by kernel_rfl
theorem fxFj171 : (Try.f171.body = none) = False := eq_false (fun h => by have := fxFi171; rw [h] at this; cases this)
theorem fxFn172 : Try.prog.funcs[(172 : Nat)]? = some Try.f172 := Try.func172
theorem fxFm172 : (Try.f172.name == "runtime.NumGoroutine") = false := by kernel_rfl
theorem fxFb172 : (Try.f172.name == "runtime.NumGoroutine" || Try.f172.body.isNone) = false := by kernel_rfl
theorem fxFi172 : Try.f172.body.isNone = false := by kernel_rfl
theorem fxFj172 : (Try.f172.body = none) = False := eq_false (fun h => by have := fxFi172; rw [h] at this; cases this)
theorem fxFn173 : Try.prog.funcs[(173 : Nat)]? = some Try.f173 := Try.func173
theorem fxFm173 : (Try.f173.name == "runtime.NumGoroutine") = false := by kernel_rfl
theorem fxFn174 : Try.prog.funcs[(174 : Nat)]? = some Try.f174 := Try.func174
theorem fxFm174 : (Try.f174.name == "runtime.NumGoroutine") = false := by kernel_rfl
theorem fxFb174 : (Try.f174.name == "runtime.NumGoroutine" || Try.f174.body.isNone) = false := by kernel_rfl
theorem fxFi174 : Try.f174.body.isNone = false := by kernel_rfl
theorem fxFj174 : (Try.f174.body = none) = False := eq_false (fun h => by have := fxFi174; rw [h] at this; cases this)
theorem fxFn175 : Try.prog.funcs[(175 : Nat)]? = some Try.f175 := Try.func175
theorem fxFm175 : (Try.f175.name == "runtime.NumGoroutine") = false := by kernel_rfl
theorem fxFb175 : (Try.f175.name == "runtime.NumGoroutine" || Try.f175.body.isNone) = false := by kernel_rfl
theorem fxFi175 : Try.f175.body.isNone = false := by kernel_rfl
theorem fxFj175 : (Try.f175.body = none) = False := eq_false (fun h => by have := fxFi175; rw [h] at this; cases this)
theorem fxFn176 : Try.prog.funcs[(176 : Nat)]? = some Try.f176 := Try.func176
theorem fxFm176 : (Try.f176.name == "runtime.NumGoroutine") = false := by kernel_rfl
theorem fxFb176 : (Try.f176.name == "runtime.NumGoroutine" || Try.f176.body.isNone) = false := by kernel_rfl
theorem fxFi176 : Try.f176.body.isNone = false := by kernel_rfl
theorem fxFj176 : (Try.f176.body = none) = False := eq_false (fun h => by have := fxFi176; rw [h] at this; cases this)
theorem fxFn177 : Try.prog.funcs[(177 : Nat)]? = some Try.f177 := Try.func177
theorem fxFm177 : (Try.f177.name == "runtime.NumGoroutine") = false := by kernel_rfl
theorem fxFb177 : (Try.f177.name == "runtime.NumGoroutine" || Try.f177.body.isNone) = false := by kernel_rfl
theorem fxFi177 : Try.f177.body.isNone = false := by kernel_rfl
theorem fxFj177 : (Try.f177.body = none) = False := eq_false (fun h => by have := fxFi177; rw [h] at this; cases this)
theorem fxFn178 : Try.prog.funcs[(178 : Nat)]? = some Try.f178 := Try.func178
theorem fxFm178 : (Try.f178.name == "runtime.NumGoroutine") = false := by kernel_rfl
theorem fxFb178 : (Try.f178.name == "runtime.NumGoroutine" || Try.f178.body.isNone) = false := by kernel_rfl
theorem fxFi178 : Try.f178.body.isNone = false := by kernel_rfl
theorem fxFj178 : (Try.f178.body = none) = False := eq_false (fun h => by have := fxFi178; rw [h] at this; cases this)
theorem fxFn179 : Try.prog.funcs[(179 : Nat)]? = some Try.f179 := Try.func179
theorem fxFm179 : (Try.f179.name == "runtime.NumGoroutine") = false := by kernel_rfl
theorem fxFb179 : (Try.f179.name == "runtime.NumGoroutine" || Try.f179.body.isNone) = false := by kernel_rfl
theorem fxFi179 : Try.f179.body.isNone = false := by kernel_rfl
theorem fxFj179 : (Try.f179.body = none) = False := eq_false (fun h => by have := fxFi179; rw [h] at this; cases this)
theorem fxFn180 : Try.prog.funcs[(180 : Nat)]? = some Try.f180 := Try.func180
theorem fxFm180 : (Try.f180.name == "runtime.NumGoroutine") = false := by kernel_rfl
theorem fxFn181 : Try.prog.funcs[(181 : Nat)]? = some Try.f181 := Try.func181
theorem fxFm181 : (Try.f181.name == "runtime.NumGoroutine") = false := by kernel_rfl
theorem fxFb181 : (Try.f181.name == "runtime.NumGoroutine" || Try.f181.body.isNone) = false := by kernel_rfl
theorem fxFi181 : Try.f181.body.isNone = false := by kernel_rfl
theorem fxFj181 : (Try.f181.body = none) = False := eq_false (fun h => by have := fxFi181; rw [h] at this; cases this)
theorem fxFn182 : Try.prog.funcs[(182 : Nat)]? = some Try.f182 := Try.func182
theorem fxFm182 : (Try.f182.name == "runtime.NumGoroutine") = false := by kernel_rfl
theorem fxFb182 : (Try.f182.name == "runtime.NumGoroutine" || Try.f182.body.isNone) = false := by kernel_rfl
theorem fxFi182 : Try.f182.body.isNone = false := by kernel_rfl
theorem fxFj182 : (Try.f182.body = none) = False := eq_false (fun h => by have := fxFi182; rw [h] at this; cases this)
theorem fxFn183 : Try.prog.funcs[(183 : Nat)]? = some Try.f183 := Try.func183
theorem fxFm183 : (Try.f183.name == "runtime.NumGoroutine") = false := by kernel_rfl
theorem fxFn184 : Try.prog.funcs[(184 : Nat)]? = some Try.f184 := Try.func184
theorem fxFm184 : (Try.f184.name == "runtime.NumGoroutine") = false := by kernel_rfl
theorem fxFb184 : (Try.f184.name == "runtime.NumGoroutine" || Try.f184.body.isNone) = false := by kernel_rfl
theorem fxFi184 : Try.f184.body.isNone = false := by kernel_rfl
theorem fxFj184 : (Try.f184.body = none) = False := eq_false (fun h => by have := fxFi184; rw [h] at this; cases this)
theorem fxFn185 : Try.prog.funcs[(185 : Nat)]? = some Try.f185 := Try.func185
theorem fxFm185 : (Try.f185.name == "runtime.NumGoroutine") = false := by kernel_rfl
theorem fxFb185 : (Try.f185.name == "runtime.NumGoroutine" || Try.f185.body.isNone) = false := by kernel_rfl
theorem fxFi185 : Try.f185.body.isNone = false := by kernel_rfl
theorem fxFj185 : (Try.f185.body = none) = False := eq_false (fun h => by have := fxFi185; rw [h] at this; cases this)
theorem fxFn186 : Try.prog.funcs[(186 : Nat)]? = some Try.f186 := Try.func186
theorem fxFm186 : (Try.f186.name == "runtime.NumGoroutine") = false := by kernel_rfl
theorem fxFb186 : (Try.f186.name == "runtime.NumGoroutine" || Try.f186.body.isNone) = false := by kernel_rfl
theorem fxFi186 : Try.f186.body.isNone = false := by kernel_rfl
theorem fxFj186 : (Try.f186.body = none) = False := eq_false (fun h => by have := fxFi186; rw [h] at this; cases this)
theorem fxFn187 : Try.prog.funcs[(187 : Nat)]? = some Try.f187 := Try.func187
theorem fxFm187 : (Try.f187.name == "runtime.NumGoroutine") = false := by kernel_rfl
theorem fxFb187 : (Try.f187.name == "runtime.NumGoroutine" || Try.f187.body.isNone) = false := by kernel_rfl
theorem fxFi187 : Try.f187.body.isNone = false := by kernel_rfl
theorem fxFj187 : (Try.f187.body = none) = False := eq_false (fun h => by have := fxFi187; rw [h] at this; cases this)
theorem fxFn188 : Try.prog.funcs[(188 : Nat)]? = some Try.f188 := Try.func188
theorem fxFm188 : (Try.f188.name == "runtime.NumGoroutine") = false := by kernel_rfl
theorem fxFb188 : (Try.f188.name == "runtime.NumGoroutine" || Try.f188.body.isNone) = false := by kernel_rfl
theorem fxFi188 : Try.f188.body.isNone = false := by kernel_rfl
theorem fxFj188 : (Try.f188.body = none) = False := eq_false (fun h => by have := fxFi188; rw [h] at this; cases this)
theorem fxFn189 : Try.prog.funcs[(189 : Nat)]? = some Try.f189 := Try.func189
theorem fxFm189 : (Try.f189.name == "runtime.NumGoroutine") = false := by kernel_rfl
theorem fxFb189 : (Try.f189.name == "runtime.NumGoroutine" || Try.f189.body.isNone) = false := by kernel_rfl
theorem fxFi189 : Try.f189.body.isNone = false := by kernel_rfl
theorem fxFj189 : (Try.f189.body = none) = False := eq_false (fun h => by have := fxFi189; rw [h] at this; cases this)
theorem fxFn190 : Try.prog.funcs[(190 : Nat)]? = some Try.f190 := Try.func190
theorem fxFm190 : (Try.f190.name == "runtime.NumGoroutine") = false := by kernel_rfl
theorem fxFb190 : (Try.f190.name == "runtime.NumGoroutine" || Try.f190.body.isNone) = false := by kernel_rfl
theorem fxFi190 : Try.f190.body.isNone = false := by kernel_rfl
theorem fxFj190 : (Try.f190.body = none) = False := eq_false (fun h => by have := fxFi190; rw [h] at this; cases this)
theorem fxFn191 : Try.prog.funcs[(191 : Nat)]? = some Try.f191 := Try.func191
theorem fxFm191 : (Try.f191.name == "runtime.NumGoroutine") = false := by kernel_rfl
theorem fxFn192 : Try.prog.funcs[(192 : Nat)]? = some Try.f192 := Try.func192
theorem fxFm192 : (Try.f192.name == "runtime.NumGoroutine") = false := by kernel_rfl
theorem fxFb192 : (Try.f192.name == "runtime.NumGoroutine" || Try.f192.body.isNone) = false := by kernel_rfl
theorem fxFi192 : Try.f192.body.isNone = false := by kernel_rfl
theorem fxFj192 : (Try.f192.body = none) = False := eq_false (fun h => by have := fxFi192; rw [h] at this; cases this)
theorem fxFn193 : Try.prog.funcs[(193 : Nat)]? = some Try.f193 := Try.func193
theorem fxFm193 : (Try.f193.name == "runtime.NumGoroutine") = false := by kernel_rfl
theorem fxFb193 : (Try.f193.name == "runtime.NumGoroutine" || Try.f193.body.isNone) = false := by kernel_rfl
theorem fxFi193 : Try.f193.body.isNone = false := by kernel_rfl
theorem fxFj193 : (Try.f193.body = none) = False := eq_false (fun h => by have := fxFi193; rw [h] at this; cases this)
theorem fxFn194 : Try.prog.funcs[(194 : Nat)]? = some Try.f194 := Try.func194
theorem fxFm194 : (Try.f194.name == "runtime.NumGoroutine") = false := by kernel_rfl
theorem fxFb194 : (Try.f194.name == "runtime.NumGoroutine" || Try.f194.body.isNone) = false := by kernel_rfl
theorem fxFi194 : Try.f194.body.isNone = false := by kernel_rfl
theorem fxFj194 : (Try.f194.body = none) = False := eq_false (fun h => by have := fxFi194; rw [h] at this; cases this)
theorem fxFn195 : Try.prog.funcs[(195 : Nat)]? = some Try.f195 := Try.func195
theorem fxFm195 : (Try.f195.name == "runtime.NumGoroutine") = false := by kernel_rfl
theorem fxFb195 : (Try.f195.name == "runtime.NumGoroutine" || Try.f195.body.isNone) = false := by kernel_rfl
theorem fxFi195 : Try.f195.body.isNone = false := by kernel_rfl
theorem fxFj195 : (Try.f195.body = none) = False := eq_false (fun h => by have := fxFi195; rw [h] at this; cases this)
theorem fxFn196 : Try.prog.funcs[(196 : Nat)]? = some Try.f196 := Try.func196
theorem fxFm196 : (Try.f196.name == "runtime.NumGoroutine") = false := by kernel_rfl
theorem fxFb196 : (Try.f196.name == "runtime.NumGoroutine" || Try.f196.body.isNone) = false := by kernel_rfl
theorem fxFi196 : Try.f196.body.isNone = false := by kernel_rfl
theorem fxFj196 : (Try.f196.body = none) = False := eq_false (fun h => by have := fxFi196; rw [h] at this; cases this)
theorem fxFn197 : Try.prog.funcs[(197 : Nat)]? = some Try.f197 := Try.func197
theorem fxFm197 : (Try.f197.name == "runtime.NumGoroutine") = false := by kernel_rfl
theorem fxFb197 : (Try.f197.name == "runtime.NumGoroutine" || Try.f197.body.isNone) = false := by kernel_rfl
theorem fxFi197 : Try.f197.body.isNone = false := by kernel_rfl
theorem fxFj197 : (Try.f197.body = none) = False := eq_false (fun h => by have := fxFi197; rw [h] at this; cases this)
theorem fxFn198 : Try.prog.funcs[(198 : Nat)]? = some Try.f198 := Try.func198
theorem fxFm198 : (Try.f198.name == "runtime.NumGoroutine") = false := by kernel_rfl
theorem fxFb198 : (Try.f198.name == "runtime.NumGoroutine" || Try.f198.body.isNone) = false := by kernel_rfl
theorem fxFi198 : Try.f198.body.isNone = false := by kernel_rfl
theorem fxFj198 : (Try.f198.body = none) = False := eq_false (fun h => by have := fxFi198; rw [h] at this; cases this)
theorem fxFn199 : Try.prog.funcs[(199 : Nat)]? = some Try.f199 := Try.func199
theorem fxFm199 : (Try.f199.name == "runtime.NumGoroutine") = false := by kernel_rfl
theorem fxFb199 : (Try.f199.name == "runtime.NumGoroutine" || Try.f199.body.isNone) = false := by kernel_rfl
theorem fxFi199 : Try.f199.body.isNone = false := by kernel_rfl
theorem fxFj199 : (Try.f199.body = none) = False := eq_false (fun h => by have := fxFi199; rw [h] at this; cases this)
theorem fxFn200 : Try.prog.funcs[(200 : Nat)]? = some Try.f200 := Try.func200
theorem fxFm200 : (Try.f200.name == "runtime.NumGoroutine") = false := by kernel_rfl
theorem fxFb200 : (Try.f200.name == "runtime.NumGoroutine" || Try.f200.body.isNone) = false := by kernel_rfl
theorem fxFi200 : Try.f200.body.isNone = false := by kernel_rfl
theorem fxFj200 : (Try.f200.body = none) = False := eq_false (fun h => by have := fxFi200; rw [h] at this; cases this)
theorem fxFn201 : Try.prog.funcs[(201 : Nat)]? = some Try.f201 := Try.func201
theorem fxFm201 : (Try.f201.name == "runtime.NumGoroutine") = false := by kernel_rfl
theorem fxFn202 : Try.prog.funcs[(202 : Nat)]? = some Try.f202 := Try.func202
theorem fxFm202 : (Try.f202.name == "runtime.NumGoroutine") = false := by kernel_rfl
theorem fxFb202 : (Try.f202.name == "runtime.NumGoroutine" || Try.f202.body.isNone) = false := by kernel_rfl
theorem fxFi202 : Try.f202.body.isNone = false := by kernel_rfl
theorem fxFj202 : (Try.f202.body = none) = False := eq_false (fun h => by have := fxFi202; rw [h] at this; cases this)
theorem fxFn203 : Try.prog.funcs[(203 : Nat)]? = some Try.f203 := Try.func203
theorem fxFm203 : (Try.f203.name == "runtime.NumGoroutine") = false := by kernel_rfl
theorem fxFb203 : (Try.f203.name == "runtime.NumGoroutine" || Try.f203.body.isNone) = false := by kernel_rfl
theorem fxFi203 : Try.f203.body.isNone = false := by kernel_rfl
theorem fxFj203 : (Try.f203.body = none) = False := eq_false (fun h => by have := fxFi203; rw [h] at this; cases this)
theorem fxFn204 : Try.prog.funcs[(204 : Nat)]? = some Try.f204 := Try.func204
theorem fxFm204 : (Try.f204.name == "runtime.NumGoroutine") = false := by kernel_rfl
theorem fxFb204 : (Try.f204.name == "runtime.NumGoroutine" || Try.f204.body.isNone) = false := by kernel_rfl
theorem fxFi204 : Try.f204.body.isNone = false := by kernel_rfl
theorem fxFj204 : (Try.f204.body = none) = False := eq_false (fun h => by have := fxFi204; rw [h] at this; cases this)
theorem fxFn205 : Try.prog.funcs[(205 : Nat)]? = some Try.f205 := Try.func205
theorem fxFm205 : (Try.f205.name == "runtime.NumGoroutine") = false := by kernel_rfl
theorem fxFb205 : (Try.f205.name == "runtime.NumGoroutine" || Try.f205.body.isNone) = false := by kernel_rfl
theorem fxFi205 : Try.f205.body.isNone = false := by kernel_rfl
theorem fxFj205 : (Try.f205.body = none) = False := eq_false (fun h => by have := fxFi205; rw [h] at this; cases this)
theorem fxFn206 : Try.prog.funcs[(206 : Nat)]? = some Try.f206 := Try.func206
theorem fxFm206 : (Try.f206.name == "runtime.NumGoroutine") = false := by kernel_rfl
theorem fxFb206 : (Try.f206.name == "runtime.NumGoroutine" || Try.f206.body.isNone) = false := by kernel_rfl
theorem fxFi206 : Try.f206.body.isNone = false := by kernel_rfl
theorem fxFj206 : (Try.f206.body = none) = False := eq_false (fun h => by have := fxFi206; rw [h] at this; cases this)
theorem fxFn207 : Try.prog.funcs[(207 : Nat)]? = some Try.f207 := Try.func207
theorem fxFm207 : (Try.f207.name == "runtime.NumGoroutine") = false := by kernel_rfl
theorem fxFb207 : (Try.f207.name == "runtime.NumGoroutine" || Try.f207.body.isNone) = false := by kernel_rfl
theorem fxFi207 : Try.f207.body.isNone = false := by kernel_rfl
theorem fxFj207 : (Try.f207.body = none) = False := eq_false (fun h => by have := fxFi207; rw [h] at this; cases this)
theorem fxFn208 : Try.prog.funcs[(208 : Nat)]? = some Try.f208 := Try.func208
theorem fxFm208 : (Try.f208.name == "runtime.NumGoroutine") = false := by kernel_rfl
theorem fxFb208 : (Try.f208.name == "runtime.NumGoroutine" || Try.f208.body.isNone) = false := by kernel_rfl
theorem fxFi208 : Try.f208.body.isNone = false := by kernel_rfl
theorem fxFj208 : (Try.f208.body = none) = False := eq_false (fun h => by have := fxFi208; rw [h] at this; cases this)
theorem fxFn209 : Try.prog.funcs[(209 : Nat)]? = some Try.f209 := Try.func209
theorem fxFm209 : (Try.f209.name == "runtime.NumGoroutine") = false := by kernel_rfl
theorem fxFb209 : (Try.f209.name == "runtime.NumGoroutine" || Try.f209.body.isNone) = false := by kernel_rfl
theorem fxFi209 : Try.f209.body.isNone = false := by kernel_rfl
theorem fxFj209 : (Try.f209.body = none) = False := eq_false (fun h => by have := fxFi209; rw [h] at this; cases this)
theorem fxFn210 : Try.prog.funcs[(210 : Nat)]? = some Try.f210 := Try.func210
theorem fxFm210 : (Try.f210.name == "runtime.NumGoroutine") = false := by kernel_rfl
theorem fxFb210 : (Try.f210.name == "runtime.NumGoroutine" || Try.f210.body.isNone) = false := by kernel_rfl
theorem fxFi210 : Try.f210.body.isNone = false := by kernel_rfl
theorem fxFj210 : (Try.f210.body = none) = False := eq_false (fun h => by have := fxFi210; rw [h] at this; cases this)
theorem fxFn211 : Try.prog.funcs[(211 : Nat)]? = some Try.f211 := Try.func211
theorem fxFm211 : (Try.f211.name == "runtime.NumGoroutine") = false := by kernel_rfl
theorem fxFb211 : (Try.f211.name == "runtime.NumGoroutine" || Try.f211.body.isNone) = false := by kernel_rfl
theorem fxFi211 : Try.f211.body.isNone = false := by kernel_rfl
theorem fxFj211 : (Try.f211.body = none) = False := eq_false (fun h => by have := fxFi211; rw [h] at this; cases this)
theorem fxFn212 : Try.prog.funcs[(212 : Nat)]? = some Try.f212 := Try.func212
theorem fxFm212 : (Try.f212.name == "runtime.NumGoroutine") = false := by kernel_rfl
theorem fxFb212 : (Try.f212.name == "runtime.NumGoroutine" || Try.f212.body.isNone) = false := by kernel_rfl
theorem fxFi212 : Try.f212.body.isNone = false := by kernel_rfl
theorem fxFj212 : (Try.f212.body = none) = False := eq_false (fun h => by have := fxFi212; rw [h] at this; cases this)
theorem fxFn213 : Try.prog.funcs[(213 : Nat)]? = some Try.f213 := Try.func213
theorem fxFm213 : (Try.f213.name == "runtime.NumGoroutine") = false := by kernel_rfl
theorem fxFb213 : (Try.f213.name == "runtime.NumGoroutine" || Try.f213.body.isNone) = false := by kernel_rfl
theorem fxFi213 : Try.f213.body.isNone = false := by kernel_rfl
theorem fxFj213 : (Try.f213.body = none) = False := eq_false (fun h => by have := fxFi213; rw [h] at this; cases this)
theorem fxFn214 : Try.prog.funcs[(214 : Nat)]? = some Try.f214 := Try.func214
theorem fxFm214 : (Try.f214.name == "runtime.NumGoroutine") = false := by kernel_rfl
theorem fxFb214 : (Try.f214.name == "runtime.NumGoroutine" || Try.f214.body.isNone) = false := by kernel_rfl
theorem fxFi214 : Try.f214.body.isNone = false := by kernel_rfl
theorem fxFj214 : (Try.f214.body = none) = False := eq_false (fun h => by have := fxFi214; rw [h] at this; cases this)
theorem fxFn215 : Try.prog.funcs[(215 : Nat)]? = some Try.f215 := Try.func215
theorem fxFm215 : (Try.f215.name == "runtime.NumGoroutine") = false := by kernel_rfl
theorem fxFb215 : (Try.f215.name == "runtime.NumGoroutine" || Try.f215.body.isNone) = false := by kernel_rfl
theorem fxFi215 : Try.f215.body.isNone = false := by kernel_rfl
theorem fxFj215 : (Try.f215.body = none) = False := eq_false (fun h => by have := fxFi215; rw [h] at this; cases this)
theorem fxFn216 : Try.prog.funcs[(216 : Nat)]? = some Try.f216 := Try.func216
theorem fxFm216 : (Try.f216.name == "runtime.NumGoroutine") = false := by kernel_rfl
theorem fxFb216 : (Try.f216.name == "runtime.NumGoroutine" || Try.f216.body.isNone) = false := by kernel_rfl
theorem fxFi216 : Try.f216.body.isNone = false := by kernel_rfl
theorem fxFj216 : (Try.f216.body = none) = False := eq_false (fun h => by have := fxFi216; rw [h] at this; cases this)
theorem fxFn217 : Try.prog.funcs[(217 : Nat)]? = some Try.f217 := Try.func217
theorem fxFm217 : (Try.f217.name == "runtime.NumGoroutine") = false := by kernel_rfl
theorem fxFb217 : (Try.f217.name == "runtime.NumGoroutine" || Try.f217.body.isNone) = false := by kernel_rfl
theorem fxFi217 : Try.f217.body.isNone = false := by kernel_rfl
theorem fxFj217 : (Try.f217.body = none) = False := eq_false (fun h => by have := fxFi217; rw [h] at this; cases this)
theorem fxFn218 : Try.prog.funcs[(218 : Nat)]? = some Try.f218 := Try.func218
theorem fxFm218 : (Try.f218.name == "runtime.NumGoroutine") = false := by kernel_rfl
theorem fxFb218 : (Try.f218.name == "runtime.NumGoroutine" || Try.f218.body.isNone) = false := by kernel_rfl
theorem fxFi218 : Try.f218.body.isNone = false := by kernel_rfl
theorem fxFj218 : (Try.f218.body = none) = False := eq_false (fun h => by have := fxFi218; rw [h] at this; cases this)
theorem fxFn219 : Try.prog.funcs[(219 : Nat)]? = some Try.f219 := Try.func219
theorem fxFm219 : (Try.f219.name == "runtime.NumGoroutine") = false := by kernel_rfl
theorem fxFb219 : (Try.f219.name == "runtime.NumGoroutine" || Try.f219.body.isNone) = false := by kernel_rfl
theorem fxFi219 : Try.f219.body.isNone = false := by kernel_rfl
theorem fxFj219 : (Try.f219.body = none) = False := eq_false (fun h => by have := fxFi219; rw [h] at this; cases this)
theorem fxFn220 : Try.prog.funcs[(220 : Nat)]? = some Try.f220 := Try.func220
theorem fxFm220 : (Try.f220.name == "runtime.NumGoroutine") = false := by kernel_rfl
theorem fxFb220 : (Try.f220.name == "runtime.NumGoroutine" || Try.f220.body.isNone) = false := by kernel_rfl
theorem fxFi220 : Try.f220.body.isNone = false := by kernel_rfl
theorem fxFj220 : (Try.f220.body = none) = False := eq_false (fun h => by have := fxFi220; rw [h] at this; cases this)
theorem fxFn221 : Try.prog.funcs[(221 : Nat)]? = some Try.f221 := Try.func221
theorem fxFm221 : (Try.f221.name == "runtime.NumGoroutine") = false := by kernel_rfl
theorem fxFb221 : (Try.f221.name == "runtime.NumGoroutine" || Try.f221.body.isNone) = false := by kernel_rfl
theorem fxFi221 : Try.f221.body.isNone = false := by kernel_rfl
theorem fxFj221 : (Try.f221.body = none) = False := eq_false (fun h => by have := fxFi221; rw [h] at this; cases this)
theorem fxFn222 : Try.prog.funcs[(222 : Nat)]? = some Try.f222 := Try.func222
theorem fxFm222 : (Try.f222.name == "runtime.NumGoroutine") = false := by kernel_rfl
theorem fxFb222 : (Try.f222.name == "runtime.NumGoroutine" || Try.f222.body.isNone) = false := by kernel_rfl
theorem fxFi222 : Try.f222.body.isNone = false := by kernel_rfl
theorem fxFj222 : (Try.f222.body = none) = False := eq_false (fun h => by have := fxFi222; rw [h] at this; cases this)
theorem fxFn223 : Try.prog.funcs[(223 : Nat)]? = some Try.f223 := Try.func223
theorem fxFm223 : (Try.f223.name == "runtime.NumGoroutine") = false := by kernel_rfl
theorem fxFb223 : (Try.f223.name == "runtime.NumGoroutine" || Try.f223.body.isNone) = false := by kernel_rfl
theorem fxFi223 : Try.f223.body.isNone = false := by kernel_rfl
theorem fxFj223 : (Try.f223.body = none) = False := eq_false (fun h => by have := fxFi223; rw [h] at this; cases this)
theorem fxFn224 : Try.prog.funcs[(224 : Nat)]? = some Try.f224 := Try.func224
theorem fxFm224 : (Try.f224.name == "runtime.NumGoroutine") = false := by kernel_rfl
theorem fxFb224 : (Try.f224.name == "runtime.NumGoroutine" || Try.f224.body.isNone) = false := by kernel_rfl
theorem fxFi224 : Try.f224.body.isNone = false := by kernel_rfl
theorem fxFj224 : (Try.f224.body = none) = False := eq_false (fun h => by have := fxFi224; rw [h] at this; cases this)
theorem fxFn225 : Try.prog.funcs[(225 : Nat)]? = some Try.f225 := Try.func225
theorem fxFm225 : (Try.f225.name == "runtime.NumGoroutine") = false := by kernel_rfl
theorem fxFb225 : (Try.f225.name == "runtime.NumGoroutine" || Try.f225.body.isNone) = false := by kernel_rfl
theorem fxFi225 : Try.f225.body.isNone = false := by kernel_rfl
theorem fxFj225 : (Try.f225.body = none) = False := eq_false (fun h => by have := fxFi225; rw [h] at this; cases this)
theorem fxFn226 : Try.prog.funcs[(226 : Nat)]? = some Try.f226 := Try.func226
theorem fxFm226 : (Try.f226.name == "runtime.NumGoroutine") = false := by kernel_rfl
theorem fxFb226 : (Try.f226.name == "runtime.NumGoroutine" || Try.f226.body.isNone) = false := by kernel_rfl
theorem fxFi226 : Try.f226.body.isNone = false := by kernel_rfl
theorem fxFj226 : (Try.f226.body = none) = False := eq_false (fun h => by have := fxFi226; rw [h] at this; cases this)
theorem fxFn227 : Try.prog.funcs[(227 : Nat)]? = some Try.f227 := Try.func227
theorem fxFm227 : (Try.f227.name == "runtime.NumGoroutine") = false := by kernel_rfl
theorem fxFb227 : (Try.f227.name == "runtime.NumGoroutine" || Try.f227.body.isNone) = false := by kernel_rfl
theorem fxFi227 : Try.f227.body.isNone = false := by kernel_rfl
theorem fxFj227 : (Try.f227.body = none) = False := eq_false (fun h => by have := fxFi227; rw [h] at this; cases this)
theorem fxFn228 : Try.prog.funcs[(228 : Nat)]? = some Try.f228 := Try.func228
theorem fxFm228 : (Try.f228.name == "runtime.NumGoroutine") = false := by kernel_rfl
theorem fxFb228 : (Try.f228.name == "runtime.NumGoroutine" || Try.f228.body.isNone) = false := by kernel_rfl
theorem fxFi228 : Try.f228.body.isNone = false := by kernel_rfl
theorem fxFj228 : (Try.f228.body = none) = False := eq_false (fun h => by have := fxFi228; rw [h] at this; cases this)
theorem fxFn229 : Try.prog.funcs[(229 : Nat)]? = some Try.f229 := Try.func229
theorem fxFm229 : (Try.f229.name == "runtime.NumGoroutine") = false := by kernel_rfl
theorem fxFb229 : (Try.f229.name == "runtime.NumGoroutine" || Try.f229.body.isNone) = false := by kernel_rfl
theorem fxFi229 : Try.f229.body.isNone = false := by kernel_rfl
theorem fxFj229 : (Try.f229.body = none) = False := eq_false (fun h => by have := fxFi229; rw [h] at this; cases this)
theorem fxFn230 : Try.prog.funcs[(230 : Nat)]? = some Try.f230 := Try.func230
theorem fxFm230 : (Try.f230.name == "runtime.NumGoroutine") = false := by kernel_rfl
theorem fxFb230 : (Try.f230.name == "runtime.NumGoroutine" || Try.f230.body.isNone) = false := by kernel_rfl
theorem fxFi230 : Try.f230.body.isNone = false := by kernel_rfl
theorem fxFj230 : (Try.f230.body = none) = False := eq_false (fun h => by have := fxFi230; rw [h] at this; cases this)
theorem fxFn231 : Try.prog.funcs[(231 : Nat)]? = some Try.f231 := Try.func231
theorem fxFm231 : (Try.f231.name == "runtime.NumGoroutine") = false := by kernel_rfl
theorem fxFb231 : (Try.f231.name == "runtime.NumGoroutine" || Try.f231.body.isNone) = false := by kernel_rfl
theorem fxFi231 : Try.f231.body.isNone = false := by kernel_rfl
theorem fxFj231 : (Try.f231.body = none) = False := eq_false (fun h => by have := fxFi231; rw [h] at this; cases this)
theorem fxFn232 : Try.prog.funcs[(232 : Nat)]? = some Try.f232 := Try.func232
theorem fxFm232 : (Try.f232.name == "runtime.NumGoroutine") = false := by kernel_rfl
theorem fxFb232 : (Try.f232.name == "runtime.NumGoroutine" || Try.f232.body.isNone) = false := by kernel_rfl
theorem fxFi232 : Try.f232.body.isNone = false := by kernel_rfl
theorem fxFj232 : (Try.f232.body = none) = False := eq_false (fun h => by have := fxFi232; rw [h] at this; cases this)
theorem fxFn233 : Try.prog.funcs[(233 : Nat)]? = some Try.f233 := Try.func233
theorem fxFm233 : (Try.f233.name == "runtime.NumGoroutine") = false := by kernel_rfl
theorem fxFb233 : (Try.f233.name == "runtime.NumGoroutine" || Try.f233.body.isNone) = false := by kernel_rfl
theorem fxFi233 : Try.f233.body.isNone = false := by kernel_rfl
theorem fxFj233 : (Try.f233.body = none) = False := eq_false (fun h => by have := fxFi233; rw [h] at this; cases this)
theorem fxFn234 : Try.prog.funcs[(234 : Nat)]? = some Try.f234 := Try.func234
theorem fxFm234 : (Try.f234.name == "runtime.NumGoroutine") = false := by kernel_rfl
theorem fxFb234 : (Try.f234.name == "runtime.NumGoroutine" || Try.f234.body.isNone) = false := by kernel_rfl
theorem fxFi234 : Try.f234.body.isNone = false := by kernel_rfl
theorem fxFj234 : (Try.f234.body = none) = False := eq_false (fun h => by have := fxFi234; rw [h] at this; cases this)
end Go.Proofs.Ytebpjfdbjhodiaa
