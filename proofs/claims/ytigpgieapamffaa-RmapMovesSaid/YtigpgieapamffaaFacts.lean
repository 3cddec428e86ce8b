/- Facts of the program's tables, each by the kernel. Printed by a program. -/
import Derived.Test.YtigpgieapamffaaProg
import Derived.Test.YtigpgieapamffaaAiZc
import Derived.KernelRfl
namespace Go.Proofs.Ytigpgieapamffaa
open Go.AI
theorem fxMix : Try.prog.follows .mixedOrders = true := by kernel_rfl
theorem fxSz2 : szOf Try.prog 2 = some 1 := by kernel_rfl
theorem fxBy2 : bytesOf Try.prog 2 = some 8 := by kernel_rfl
theorem fxAg2 : aggOf Try.prog 2 = some false := by kernel_rfl
theorem fxZe2 : zeroOf Try.prog 2 = some (.int .i64 0) := by kernel_rfl
theorem fxSl2 : sliceElem Try.prog 2 = none := by kernel_rfl
theorem fxAr2 : arrayOf Try.prog 2 = none := by kernel_rfl
theorem fxPl2 : placesOf Try.prog 2 = none := by kernel_rfl
theorem fxSz3 : szOf Try.prog 3 = some 1 := by kernel_rfl
theorem fxBy3 : bytesOf Try.prog 3 = some 8 := by kernel_rfl
theorem fxAg3 : aggOf Try.prog 3 = some false := by kernel_rfl
theorem fxZe3 : zeroOf Try.prog 3 = some (.int .i64 0) := by kernel_rfl
theorem fxSl3 : sliceElem Try.prog 3 = none := by kernel_rfl
theorem fxAr3 : arrayOf Try.prog 3 = none := by kernel_rfl
theorem fxPl3 : placesOf Try.prog 3 = none := by kernel_rfl
theorem fxSz4 : szOf Try.prog 4 = some 1 := by kernel_rfl
theorem fxBy4 : bytesOf Try.prog 4 = some 1 := by kernel_rfl
theorem fxAg4 : aggOf Try.prog 4 = some false := by kernel_rfl
theorem fxZe4 : zeroOf Try.prog 4 = some (.bool false) := by kernel_rfl
theorem fxSl4 : sliceElem Try.prog 4 = none := by kernel_rfl
theorem fxAr4 : arrayOf Try.prog 4 = none := by kernel_rfl
theorem fxPl4 : placesOf Try.prog 4 = none := by kernel_rfl
theorem fxSz5 : szOf Try.prog 5 = some 1 := by kernel_rfl
theorem fxBy5 : bytesOf Try.prog 5 = some 1 := by kernel_rfl
theorem fxAg5 : aggOf Try.prog 5 = some false := by kernel_rfl
theorem fxZe5 : zeroOf Try.prog 5 = some (.int .u8 0) := by kernel_rfl
theorem fxSl5 : sliceElem Try.prog 5 = none := by kernel_rfl
theorem fxAr5 : arrayOf Try.prog 5 = none := by kernel_rfl
theorem fxPl5 : placesOf Try.prog 5 = none := by kernel_rfl
theorem fxSz9 : szOf Try.prog 9 = some 1 := by kernel_rfl
theorem fxBy9 : bytesOf Try.prog 9 = some 16 := by kernel_rfl
theorem fxAg9 : aggOf Try.prog 9 = some false := by kernel_rfl
theorem fxZe9 : zeroOf Try.prog 9 = some (.string ByteArray.empty) := by kernel_rfl
theorem fxSl9 : sliceElem Try.prog 9 = none := by kernel_rfl
theorem fxAr9 : arrayOf Try.prog 9 = none := by kernel_rfl
theorem fxPl9 : placesOf Try.prog 9 = none := by kernel_rfl
theorem fxSz12 : szOf Try.prog 12 = some 1 := by kernel_rfl
theorem fxBy12 : bytesOf Try.prog 12 = some 8 := by kernel_rfl
theorem fxAg12 : aggOf Try.prog 12 = some false := by kernel_rfl
theorem fxZe12 : zeroOf Try.prog 12 = some (.int .u64 0) := by kernel_rfl
theorem fxSl12 : sliceElem Try.prog 12 = none := by kernel_rfl
theorem fxAr12 : arrayOf Try.prog 12 = none := by kernel_rfl
theorem fxPl12 : placesOf Try.prog 12 = none := by kernel_rfl
theorem fxSz13 : szOf Try.prog 13 = some 2 := by kernel_rfl
theorem fxBy13 : bytesOf Try.prog 13 = some 24 := by kernel_rfl
theorem fxAg13 : aggOf Try.prog 13 = some true := by kernel_rfl
theorem fxZe13 : zeroOf Try.prog 13 = some (.agg #[.string ByteArray.empty, .int .u64 0]) := by kernel_rfl
theorem fxSl13 : sliceElem Try.prog 13 = none := by kernel_rfl
theorem fxAr13 : arrayOf Try.prog 13 = none := by kernel_rfl
theorem fxFi13x0 : fieldOf Try.prog 13 0 = some (0, 1, 9) := by kernel_rfl
theorem fxFi13x1 : fieldOf Try.prog 13 1 = some (1, 1, 12) := by kernel_rfl
theorem fxPl13 : placesOf Try.prog 13 = some [(0, 1), (1, 1)] := by kernel_rfl
theorem fxSz21 : szOf Try.prog 21 = some 1 := by kernel_rfl
theorem fxBy21 : bytesOf Try.prog 21 = some 4 := by kernel_rfl
theorem fxAg21 : aggOf Try.prog 21 = some false := by kernel_rfl
theorem fxZe21 : zeroOf Try.prog 21 = some (.int .i32 0) := by kernel_rfl
theorem fxSl21 : sliceElem Try.prog 21 = none := by kernel_rfl
theorem fxAr21 : arrayOf Try.prog 21 = none := by kernel_rfl
theorem fxPl21 : placesOf Try.prog 21 = none := by kernel_rfl
theorem fxSz22 : szOf Try.prog 22 = some 1 := by kernel_rfl
theorem fxBy22 : bytesOf Try.prog 22 = some 24 := by kernel_rfl
theorem fxAg22 : aggOf Try.prog 22 = some false := by kernel_rfl
theorem fxZe22 : zeroOf Try.prog 22 = some (.slice none 0 0) := by kernel_rfl
theorem fxSl22 : sliceElem Try.prog 22 = some 30 := by kernel_rfl
theorem fxAr22 : arrayOf Try.prog 22 = none := by kernel_rfl
theorem fxPl22 : placesOf Try.prog 22 = none := by kernel_rfl
theorem fxSz23 : szOf Try.prog 23 = some 2 := by kernel_rfl
theorem fxBy23 : bytesOf Try.prog 23 = some 32 := by kernel_rfl
theorem fxAg23 : aggOf Try.prog 23 = some true := by kernel_rfl
theorem fxZe23 : zeroOf Try.prog 23 = some (.agg #[.slice none 0 0, .int .i64 0]) := by kernel_rfl
theorem fxSl23 : sliceElem Try.prog 23 = none := by kernel_rfl
theorem fxAr23 : arrayOf Try.prog 23 = none := by kernel_rfl
theorem fxFi23x0 : fieldOf Try.prog 23 0 = some (0, 1, 22) := by kernel_rfl
theorem fxFi23x1 : fieldOf Try.prog 23 1 = some (1, 1, 3) := by kernel_rfl
theorem fxPl23 : placesOf Try.prog 23 = some [(0, 1), (1, 1)] := by kernel_rfl
theorem fxSz24 : szOf Try.prog 24 = some 2 := by kernel_rfl
theorem fxBy24 : bytesOf Try.prog 24 = some 32 := by kernel_rfl
theorem fxAg24 : aggOf Try.prog 24 = some true := by kernel_rfl
theorem fxZe24 : zeroOf Try.prog 24 = some (.agg #[.slice none 0 0, .int .i64 0]) := by kernel_rfl
theorem fxSl24 : sliceElem Try.prog 24 = none := by kernel_rfl
theorem fxAr24 : arrayOf Try.prog 24 = none := by kernel_rfl
theorem fxFi24x0 : fieldOf Try.prog 24 0 = some (0, 1, 22) := by kernel_rfl
theorem fxFi24x1 : fieldOf Try.prog 24 1 = some (1, 1, 3) := by kernel_rfl
theorem fxPl24 : placesOf Try.prog 24 = some [(0, 1), (1, 1)] := by kernel_rfl
theorem fxSz25 : szOf Try.prog 25 = some 1 := by kernel_rfl
theorem fxBy25 : bytesOf Try.prog 25 = some 8 := by kernel_rfl
theorem fxAg25 : aggOf Try.prog 25 = some false := by kernel_rfl
theorem fxZe25 : zeroOf Try.prog 25 = some (.int .i64 0) := by kernel_rfl
theorem fxSl25 : sliceElem Try.prog 25 = none := by kernel_rfl
theorem fxAr25 : arrayOf Try.prog 25 = none := by kernel_rfl
theorem fxPl25 : placesOf Try.prog 25 = none := by kernel_rfl
theorem fxSz29 : szOf Try.prog 29 = some 3 := by kernel_rfl
theorem fxBy29 : bytesOf Try.prog 29 = some 16 := by kernel_rfl
theorem fxAg29 : aggOf Try.prog 29 = some true := by kernel_rfl
theorem fxZe29 : zeroOf Try.prog 29 = some (.agg #[.int .i64 0, .bool false, .bool false]) := by kernel_rfl
theorem fxSl29 : sliceElem Try.prog 29 = none := by kernel_rfl
theorem fxAr29 : arrayOf Try.prog 29 = none := by kernel_rfl
theorem fxFi29x0 : fieldOf Try.prog 29 0 = some (0, 1, 3) := by kernel_rfl
theorem fxFi29x1 : fieldOf Try.prog 29 1 = some (1, 1, 4) := by kernel_rfl
theorem fxFi29x2 : fieldOf Try.prog 29 2 = some (2, 1, 4) := by kernel_rfl
theorem fxPl29 : placesOf Try.prog 29 = some [(0, 1), (1, 1), (2, 1)] := by kernel_rfl
theorem fxSz30 : szOf Try.prog 30 = some 3 := by kernel_rfl
theorem fxBy30 : bytesOf Try.prog 30 = some 16 := by kernel_rfl
theorem fxAg30 : aggOf Try.prog 30 = some true := by kernel_rfl
theorem fxZe30 : zeroOf Try.prog 30 = some (.agg #[.int .i64 0, .bool false, .bool false]) := by kernel_rfl
theorem fxSl30 : sliceElem Try.prog 30 = none := by kernel_rfl
theorem fxAr30 : arrayOf Try.prog 30 = none := by kernel_rfl
theorem fxFi30x0 : fieldOf Try.prog 30 0 = some (0, 1, 3) := by kernel_rfl
theorem fxFi30x1 : fieldOf Try.prog 30 1 = some (1, 1, 4) := by kernel_rfl
theorem fxFi30x2 : fieldOf Try.prog 30 2 = some (2, 1, 4) := by kernel_rfl
theorem fxPl30 : placesOf Try.prog 30 = some [(0, 1), (1, 1), (2, 1)] := by kernel_rfl
theorem fxSz38 : szOf Try.prog 38 = some 1 := by kernel_rfl
theorem fxBy38 : bytesOf Try.prog 38 = some 24 := by kernel_rfl
theorem fxAg38 : aggOf Try.prog 38 = some false := by kernel_rfl
theorem fxZe38 : zeroOf Try.prog 38 = some (.slice none 0 0) := by kernel_rfl
theorem fxSl38 : sliceElem Try.prog 38 = some 3 := by kernel_rfl
theorem fxAr38 : arrayOf Try.prog 38 = none := by kernel_rfl
theorem fxPl38 : placesOf Try.prog 38 = none := by kernel_rfl
theorem fxSz46 : szOf Try.prog 46 = some 1 := by kernel_rfl
theorem fxBy46 : bytesOf Try.prog 46 = some 24 := by kernel_rfl
theorem fxAg46 : aggOf Try.prog 46 = some false := by kernel_rfl
theorem fxZe46 : zeroOf Try.prog 46 = some (.slice none 0 0) := by kernel_rfl
theorem fxSl46 : sliceElem Try.prog 46 = some 48 := by kernel_rfl
theorem fxAr46 : arrayOf Try.prog 46 = none := by kernel_rfl
theorem fxPl46 : placesOf Try.prog 46 = none := by kernel_rfl
theorem fxSz47 : szOf Try.prog 47 = some 3 := by kernel_rfl
theorem fxBy47 : bytesOf Try.prog 47 = some 24 := by kernel_rfl
theorem fxAg47 : aggOf Try.prog 47 = some true := by kernel_rfl
theorem fxZe47 : zeroOf Try.prog 47 = some (.agg #[.int .i64 0, .int .i64 0, .int .i64 0]) := by kernel_rfl
theorem fxSl47 : sliceElem Try.prog 47 = none := by kernel_rfl
theorem fxAr47 : arrayOf Try.prog 47 = none := by kernel_rfl
theorem fxFi47x0 : fieldOf Try.prog 47 0 = some (0, 1, 3) := by kernel_rfl
theorem fxFi47x1 : fieldOf Try.prog 47 1 = some (1, 1, 3) := by kernel_rfl
theorem fxFi47x2 : fieldOf Try.prog 47 2 = some (2, 1, 3) := by kernel_rfl
theorem fxPl47 : placesOf Try.prog 47 = some [(0, 1), (1, 1), (2, 1)] := by kernel_rfl
theorem fxSz48 : szOf Try.prog 48 = some 3 := by kernel_rfl
theorem fxBy48 : bytesOf Try.prog 48 = some 24 := by kernel_rfl
theorem fxAg48 : aggOf Try.prog 48 = some true := by kernel_rfl
theorem fxZe48 : zeroOf Try.prog 48 = some (.agg #[.int .i64 0, .int .i64 0, .int .i64 0]) := by kernel_rfl
theorem fxSl48 : sliceElem Try.prog 48 = none := by kernel_rfl
theorem fxAr48 : arrayOf Try.prog 48 = none := by kernel_rfl
theorem fxFi48x0 : fieldOf Try.prog 48 0 = some (0, 1, 3) := by kernel_rfl
theorem fxFi48x1 : fieldOf Try.prog 48 1 = some (1, 1, 3) := by kernel_rfl
theorem fxFi48x2 : fieldOf Try.prog 48 2 = some (2, 1, 3) := by kernel_rfl
theorem fxPl48 : placesOf Try.prog 48 = some [(0, 1), (1, 1), (2, 1)] := by kernel_rfl
theorem fxSz66 : szOf Try.prog 66 = some 1 := by kernel_rfl
theorem fxBy66 : bytesOf Try.prog 66 = some 8 := by kernel_rfl
theorem fxAg66 : aggOf Try.prog 66 = some false := by kernel_rfl
theorem fxZe66 : zeroOf Try.prog 66 = some (.pointer none) := by kernel_rfl
theorem fxSl66 : sliceElem Try.prog 66 = none := by kernel_rfl
theorem fxAr66 : arrayOf Try.prog 66 = none := by kernel_rfl
theorem fxPl66 : placesOf Try.prog 66 = none := by kernel_rfl
theorem fxSz74 : szOf Try.prog 74 = some 1 := by kernel_rfl
theorem fxBy74 : bytesOf Try.prog 74 = some 24 := by kernel_rfl
theorem fxAg74 : aggOf Try.prog 74 = some false := by kernel_rfl
theorem fxZe74 : zeroOf Try.prog 74 = some (.slice none 0 0) := by kernel_rfl
theorem fxSl74 : sliceElem Try.prog 74 = some 25 := by kernel_rfl
theorem fxAr74 : arrayOf Try.prog 74 = none := by kernel_rfl
theorem fxPl74 : placesOf Try.prog 74 = none := by kernel_rfl
theorem fxSz79 : szOf Try.prog 79 = some 1 := by kernel_rfl
theorem fxBy79 : bytesOf Try.prog 79 = some 8 := by kernel_rfl
theorem fxAg79 : aggOf Try.prog 79 = some false := by kernel_rfl
theorem fxZe79 : zeroOf Try.prog 79 = some (.int .u64 0) := by kernel_rfl
theorem fxSl79 : sliceElem Try.prog 79 = none := by kernel_rfl
theorem fxAr79 : arrayOf Try.prog 79 = none := by kernel_rfl
theorem fxPl79 : placesOf Try.prog 79 = none := by kernel_rfl
theorem fxSz91 : szOf Try.prog 91 = some 1 := by kernel_rfl
theorem fxBy91 : bytesOf Try.prog 91 = some 8 := by kernel_rfl
theorem fxAg91 : aggOf Try.prog 91 = some false := by kernel_rfl
theorem fxZe91 : zeroOf Try.prog 91 = some (.map none) := by kernel_rfl
theorem fxSl91 : sliceElem Try.prog 91 = none := by kernel_rfl
theorem fxAr91 : arrayOf Try.prog 91 = none := by kernel_rfl
theorem fxPl91 : placesOf Try.prog 91 = none := by kernel_rfl
theorem fxSz92 : szOf Try.prog 92 = some 2 := by kernel_rfl
theorem fxBy92 : bytesOf Try.prog 92 = some 16 := by kernel_rfl
theorem fxAg92 : aggOf Try.prog 92 = some true := by kernel_rfl
theorem fxZe92 : zeroOf Try.prog 92 = some (.agg #[.int .i64 0, .int .i64 0]) := by kernel_rfl
theorem fxSl92 : sliceElem Try.prog 92 = none := by kernel_rfl
theorem fxAr92 : arrayOf Try.prog 92 = some (2, 3) := by kernel_rfl
theorem fxPl92 : placesOf Try.prog 92 = none := by kernel_rfl
theorem fxSz99 : szOf Try.prog 99 = some 1 := by kernel_rfl
theorem fxBy99 : bytesOf Try.prog 99 = some 8 := by kernel_rfl
theorem fxAg99 : aggOf Try.prog 99 = some false := by kernel_rfl
theorem fxZe99 : zeroOf Try.prog 99 = some (.int .i64 0) := by kernel_rfl
theorem fxSl99 : sliceElem Try.prog 99 = none := by kernel_rfl
theorem fxAr99 : arrayOf Try.prog 99 = none := by kernel_rfl
theorem fxPl99 : placesOf Try.prog 99 = none := by kernel_rfl
theorem fxSz105 : szOf Try.prog 105 = some 1 := by kernel_rfl
theorem fxBy105 : bytesOf Try.prog 105 = some 4 := by kernel_rfl
theorem fxAg105 : aggOf Try.prog 105 = some false := by kernel_rfl
theorem fxZe105 : zeroOf Try.prog 105 = some (.int .u32 0) := by kernel_rfl
theorem fxSl105 : sliceElem Try.prog 105 = none := by kernel_rfl
theorem fxAr105 : arrayOf Try.prog 105 = none := by kernel_rfl
theorem fxPl105 : placesOf Try.prog 105 = none := by kernel_rfl
theorem fxSz107 : szOf Try.prog 107 = some 1 := by kernel_rfl
theorem fxBy107 : bytesOf Try.prog 107 = some 8 := by kernel_rfl
theorem fxAg107 : aggOf Try.prog 107 = some false := by kernel_rfl
theorem fxZe107 : zeroOf Try.prog 107 = some (.int .u64 0) := by kernel_rfl
theorem fxSl107 : sliceElem Try.prog 107 = none := by kernel_rfl
theorem fxAr107 : arrayOf Try.prog 107 = none := by kernel_rfl
theorem fxPl107 : placesOf Try.prog 107 = none := by kernel_rfl
theorem fxSz113 : szOf Try.prog 113 = some 1 := by kernel_rfl
theorem fxBy113 : bytesOf Try.prog 113 = some 8 := by kernel_rfl
theorem fxAg113 : aggOf Try.prog 113 = some false := by kernel_rfl
theorem fxZe113 : zeroOf Try.prog 113 = some (.int .u64 0) := by kernel_rfl
theorem fxSl113 : sliceElem Try.prog 113 = none := by kernel_rfl
theorem fxAr113 : arrayOf Try.prog 113 = none := by kernel_rfl
theorem fxPl113 : placesOf Try.prog 113 = none := by kernel_rfl
theorem fxSz117 : szOf Try.prog 117 = some 1 := by kernel_rfl
theorem fxBy117 : bytesOf Try.prog 117 = some 8 := by kernel_rfl
theorem fxAg117 : aggOf Try.prog 117 = some false := by kernel_rfl
theorem fxZe117 : zeroOf Try.prog 117 = some (.pointer none) := by kernel_rfl
theorem fxSl117 : sliceElem Try.prog 117 = none := by kernel_rfl
theorem fxAr117 : arrayOf Try.prog 117 = none := by kernel_rfl
theorem fxPl117 : placesOf Try.prog 117 = none := by kernel_rfl
theorem fxSz126 : szOf Try.prog 126 = some 1 := by kernel_rfl
theorem fxBy126 : bytesOf Try.prog 126 = some 8 := by kernel_rfl
theorem fxAg126 : aggOf Try.prog 126 = some false := by kernel_rfl
theorem fxZe126 : zeroOf Try.prog 126 = some (.pointer none) := by kernel_rfl
theorem fxSl126 : sliceElem Try.prog 126 = none := by kernel_rfl
theorem fxAr126 : arrayOf Try.prog 126 = none := by kernel_rfl
theorem fxPl126 : placesOf Try.prog 126 = none := by kernel_rfl
theorem fxSz136 : szOf Try.prog 136 = some 0 := by kernel_rfl
theorem fxBy136 : bytesOf Try.prog 136 = some 0 := by kernel_rfl
theorem fxAg136 : aggOf Try.prog 136 = some true := by kernel_rfl
theorem fxZe136 : zeroOf Try.prog 136 = some (.agg #[]) := by kernel_rfl
theorem fxSl136 : sliceElem Try.prog 136 = none := by kernel_rfl
theorem fxAr136 : arrayOf Try.prog 136 = some (0, 16) := by kernel_rfl
theorem fxPl136 : placesOf Try.prog 136 = none := by kernel_rfl
theorem fxSz137 : szOf Try.prog 137 = some 0 := by kernel_rfl
theorem fxBy137 : bytesOf Try.prog 137 = some 0 := by kernel_rfl
theorem fxAg137 : aggOf Try.prog 137 = some true := by kernel_rfl
theorem fxZe137 : zeroOf Try.prog 137 = some (.agg #[]) := by kernel_rfl
theorem fxSl137 : sliceElem Try.prog 137 = none := by kernel_rfl
theorem fxAr137 : arrayOf Try.prog 137 = none := by kernel_rfl
theorem fxFi137x0 : fieldOf Try.prog 137 0 = some (0, 0, 136) := by kernel_rfl
theorem fxPl137 : placesOf Try.prog 137 = some [(0, 0)] := by kernel_rfl
theorem fxSz143 : szOf Try.prog 143 = some 1 := by kernel_rfl
theorem fxBy143 : bytesOf Try.prog 143 = some 8 := by kernel_rfl
theorem fxAg143 : aggOf Try.prog 143 = some false := by kernel_rfl
theorem fxZe143 : zeroOf Try.prog 143 = some (.pointer none) := by kernel_rfl
theorem fxSl143 : sliceElem Try.prog 143 = none := by kernel_rfl
theorem fxAr143 : arrayOf Try.prog 143 = none := by kernel_rfl
theorem fxPl143 : placesOf Try.prog 143 = none := by kernel_rfl
theorem fxSz148 : szOf Try.prog 148 = some 1 := by kernel_rfl
theorem fxBy148 : bytesOf Try.prog 148 = some 8 := by kernel_rfl
theorem fxAg148 : aggOf Try.prog 148 = some false := by kernel_rfl
theorem fxZe148 : zeroOf Try.prog 148 = some (.pointer none) := by kernel_rfl
theorem fxSl148 : sliceElem Try.prog 148 = none := by kernel_rfl
theorem fxAr148 : arrayOf Try.prog 148 = none := by kernel_rfl
theorem fxPl148 : placesOf Try.prog 148 = none := by kernel_rfl
theorem fxEq30 : eqOkT Try.prog 30 = some [1, 0, 0] := by kernel_rfl
theorem fxEq48 : eqOkT Try.prog 48 = some [1, 1, 1] := by kernel_rfl
theorem fxEq92 : eqOkT Try.prog 92 = some [1, 1] := by kernel_rfl
theorem fxCv2x2 {k : IntKind} {a : Int} : asV (pr Try.prog (convert 2 2 (.int k a))) = some (.v (.int .i64 (IntKind.i64.wrap a))) := ev_conv Try.underlying2 Try.underlying2
theorem fxCv2x3 {k : IntKind} {a : Int} : asV (pr Try.prog (convert 2 3 (.int k a))) = some (.v (.int .i64 (IntKind.i64.wrap a))) := ev_conv Try.underlying2 Try.underlying3
theorem fxCv2x5 {k : IntKind} {a : Int} : asV (pr Try.prog (convert 2 5 (.int k a))) = some (.v (.int .u8 (IntKind.u8.wrap a))) := ev_conv Try.underlying2 Try.underlying5
theorem fxCv2x12 {k : IntKind} {a : Int} : asV (pr Try.prog (convert 2 12 (.int k a))) = some (.v (.int .u64 (IntKind.u64.wrap a))) := ev_conv Try.underlying2 Try.underlying12
theorem fxCv2x21 {k : IntKind} {a : Int} : asV (pr Try.prog (convert 2 21 (.int k a))) = some (.v (.int .i32 (IntKind.i32.wrap a))) := ev_conv Try.underlying2 Try.underlying21
theorem fxCv2x25 {k : IntKind} {a : Int} : asV (pr Try.prog (convert 2 25 (.int k a))) = some (.v (.int .i64 (IntKind.i64.wrap a))) := ev_conv Try.underlying2 Try.underlying25
theorem fxCv2x79 {k : IntKind} {a : Int} : asV (pr Try.prog (convert 2 79 (.int k a))) = some (.v (.int .u64 (IntKind.u64.wrap a))) := ev_conv Try.underlying2 Try.underlying79
theorem fxCv2x99 {k : IntKind} {a : Int} : asV (pr Try.prog (convert 2 99 (.int k a))) = some (.v (.int .i64 (IntKind.i64.wrap a))) := ev_conv Try.underlying2 Try.underlying99
theorem fxCv2x105 {k : IntKind} {a : Int} : asV (pr Try.prog (convert 2 105 (.int k a))) = some (.v (.int .u32 (IntKind.u32.wrap a))) := ev_conv Try.underlying2 Try.underlying105
theorem fxCv2x107 {k : IntKind} {a : Int} : asV (pr Try.prog (convert 2 107 (.int k a))) = some (.v (.int .u64 (IntKind.u64.wrap a))) := ev_conv Try.underlying2 Try.underlying107
theorem fxCv2x113 {k : IntKind} {a : Int} : asV (pr Try.prog (convert 2 113 (.int k a))) = some (.v (.int .u64 (IntKind.u64.wrap a))) := ev_conv Try.underlying2 Try.underlying113
theorem fxCv3x2 {k : IntKind} {a : Int} : asV (pr Try.prog (convert 3 2 (.int k a))) = some (.v (.int .i64 (IntKind.i64.wrap a))) := ev_conv Try.underlying3 Try.underlying2
theorem fxCv3x3 {k : IntKind} {a : Int} : asV (pr Try.prog (convert 3 3 (.int k a))) = some (.v (.int .i64 (IntKind.i64.wrap a))) := ev_conv Try.underlying3 Try.underlying3
theorem fxCv3x5 {k : IntKind} {a : Int} : asV (pr Try.prog (convert 3 5 (.int k a))) = some (.v (.int .u8 (IntKind.u8.wrap a))) := ev_conv Try.underlying3 Try.underlying5
theorem fxCv3x12 {k : IntKind} {a : Int} : asV (pr Try.prog (convert 3 12 (.int k a))) = some (.v (.int .u64 (IntKind.u64.wrap a))) := ev_conv Try.underlying3 Try.underlying12
theorem fxCv3x21 {k : IntKind} {a : Int} : asV (pr Try.prog (convert 3 21 (.int k a))) = some (.v (.int .i32 (IntKind.i32.wrap a))) := ev_conv Try.underlying3 Try.underlying21
theorem fxCv3x25 {k : IntKind} {a : Int} : asV (pr Try.prog (convert 3 25 (.int k a))) = some (.v (.int .i64 (IntKind.i64.wrap a))) := ev_conv Try.underlying3 Try.underlying25
theorem fxCv3x79 {k : IntKind} {a : Int} : asV (pr Try.prog (convert 3 79 (.int k a))) = some (.v (.int .u64 (IntKind.u64.wrap a))) := ev_conv Try.underlying3 Try.underlying79
theorem fxCv3x99 {k : IntKind} {a : Int} : asV (pr Try.prog (convert 3 99 (.int k a))) = some (.v (.int .i64 (IntKind.i64.wrap a))) := ev_conv Try.underlying3 Try.underlying99
theorem fxCv3x105 {k : IntKind} {a : Int} : asV (pr Try.prog (convert 3 105 (.int k a))) = some (.v (.int .u32 (IntKind.u32.wrap a))) := ev_conv Try.underlying3 Try.underlying105
theorem fxCv3x107 {k : IntKind} {a : Int} : asV (pr Try.prog (convert 3 107 (.int k a))) = some (.v (.int .u64 (IntKind.u64.wrap a))) := ev_conv Try.underlying3 Try.underlying107
theorem fxCv3x113 {k : IntKind} {a : Int} : asV (pr Try.prog (convert 3 113 (.int k a))) = some (.v (.int .u64 (IntKind.u64.wrap a))) := ev_conv Try.underlying3 Try.underlying113
theorem fxCv5x2 {k : IntKind} {a : Int} : asV (pr Try.prog (convert 5 2 (.int k a))) = some (.v (.int .i64 (IntKind.i64.wrap a))) := ev_conv Try.underlying5 Try.underlying2
theorem fxCv5x3 {k : IntKind} {a : Int} : asV (pr Try.prog (convert 5 3 (.int k a))) = some (.v (.int .i64 (IntKind.i64.wrap a))) := ev_conv Try.underlying5 Try.underlying3
theorem fxCv5x5 {k : IntKind} {a : Int} : asV (pr Try.prog (convert 5 5 (.int k a))) = some (.v (.int .u8 (IntKind.u8.wrap a))) := ev_conv Try.underlying5 Try.underlying5
theorem fxCv5x12 {k : IntKind} {a : Int} : asV (pr Try.prog (convert 5 12 (.int k a))) = some (.v (.int .u64 (IntKind.u64.wrap a))) := ev_conv Try.underlying5 Try.underlying12
theorem fxCv5x21 {k : IntKind} {a : Int} : asV (pr Try.prog (convert 5 21 (.int k a))) = some (.v (.int .i32 (IntKind.i32.wrap a))) := ev_conv Try.underlying5 Try.underlying21
theorem fxCv5x25 {k : IntKind} {a : Int} : asV (pr Try.prog (convert 5 25 (.int k a))) = some (.v (.int .i64 (IntKind.i64.wrap a))) := ev_conv Try.underlying5 Try.underlying25
theorem fxCv5x79 {k : IntKind} {a : Int} : asV (pr Try.prog (convert 5 79 (.int k a))) = some (.v (.int .u64 (IntKind.u64.wrap a))) := ev_conv Try.underlying5 Try.underlying79
theorem fxCv5x99 {k : IntKind} {a : Int} : asV (pr Try.prog (convert 5 99 (.int k a))) = some (.v (.int .i64 (IntKind.i64.wrap a))) := ev_conv Try.underlying5 Try.underlying99
theorem fxCv5x105 {k : IntKind} {a : Int} : asV (pr Try.prog (convert 5 105 (.int k a))) = some (.v (.int .u32 (IntKind.u32.wrap a))) := ev_conv Try.underlying5 Try.underlying105
theorem fxCv5x107 {k : IntKind} {a : Int} : asV (pr Try.prog (convert 5 107 (.int k a))) = some (.v (.int .u64 (IntKind.u64.wrap a))) := ev_conv Try.underlying5 Try.underlying107
theorem fxCv5x113 {k : IntKind} {a : Int} : asV (pr Try.prog (convert 5 113 (.int k a))) = some (.v (.int .u64 (IntKind.u64.wrap a))) := ev_conv Try.underlying5 Try.underlying113
theorem fxCv12x2 {k : IntKind} {a : Int} : asV (pr Try.prog (convert 12 2 (.int k a))) = some (.v (.int .i64 (IntKind.i64.wrap a))) := ev_conv Try.underlying12 Try.underlying2
theorem fxCv12x3 {k : IntKind} {a : Int} : asV (pr Try.prog (convert 12 3 (.int k a))) = some (.v (.int .i64 (IntKind.i64.wrap a))) := ev_conv Try.underlying12 Try.underlying3
theorem fxCv12x5 {k : IntKind} {a : Int} : asV (pr Try.prog (convert 12 5 (.int k a))) = some (.v (.int .u8 (IntKind.u8.wrap a))) := ev_conv Try.underlying12 Try.underlying5
theorem fxCv12x12 {k : IntKind} {a : Int} : asV (pr Try.prog (convert 12 12 (.int k a))) = some (.v (.int .u64 (IntKind.u64.wrap a))) := ev_conv Try.underlying12 Try.underlying12
theorem fxCv12x21 {k : IntKind} {a : Int} : asV (pr Try.prog (convert 12 21 (.int k a))) = some (.v (.int .i32 (IntKind.i32.wrap a))) := ev_conv Try.underlying12 Try.underlying21
theorem fxCv12x25 {k : IntKind} {a : Int} : asV (pr Try.prog (convert 12 25 (.int k a))) = some (.v (.int .i64 (IntKind.i64.wrap a))) := ev_conv Try.underlying12 Try.underlying25
theorem fxCv12x79 {k : IntKind} {a : Int} : asV (pr Try.prog (convert 12 79 (.int k a))) = some (.v (.int .u64 (IntKind.u64.wrap a))) := ev_conv Try.underlying12 Try.underlying79
theorem fxCv12x99 {k : IntKind} {a : Int} : asV (pr Try.prog (convert 12 99 (.int k a))) = some (.v (.int .i64 (IntKind.i64.wrap a))) := ev_conv Try.underlying12 Try.underlying99
theorem fxCv12x105 {k : IntKind} {a : Int} : asV (pr Try.prog (convert 12 105 (.int k a))) = some (.v (.int .u32 (IntKind.u32.wrap a))) := ev_conv Try.underlying12 Try.underlying105
theorem fxCv12x107 {k : IntKind} {a : Int} : asV (pr Try.prog (convert 12 107 (.int k a))) = some (.v (.int .u64 (IntKind.u64.wrap a))) := ev_conv Try.underlying12 Try.underlying107
theorem fxCv12x113 {k : IntKind} {a : Int} : asV (pr Try.prog (convert 12 113 (.int k a))) = some (.v (.int .u64 (IntKind.u64.wrap a))) := ev_conv Try.underlying12 Try.underlying113
theorem fxCv21x2 {k : IntKind} {a : Int} : asV (pr Try.prog (convert 21 2 (.int k a))) = some (.v (.int .i64 (IntKind.i64.wrap a))) := ev_conv Try.underlying21 Try.underlying2
theorem fxCv21x3 {k : IntKind} {a : Int} : asV (pr Try.prog (convert 21 3 (.int k a))) = some (.v (.int .i64 (IntKind.i64.wrap a))) := ev_conv Try.underlying21 Try.underlying3
theorem fxCv21x5 {k : IntKind} {a : Int} : asV (pr Try.prog (convert 21 5 (.int k a))) = some (.v (.int .u8 (IntKind.u8.wrap a))) := ev_conv Try.underlying21 Try.underlying5
theorem fxCv21x12 {k : IntKind} {a : Int} : asV (pr Try.prog (convert 21 12 (.int k a))) = some (.v (.int .u64 (IntKind.u64.wrap a))) := ev_conv Try.underlying21 Try.underlying12
theorem fxCv21x21 {k : IntKind} {a : Int} : asV (pr Try.prog (convert 21 21 (.int k a))) = some (.v (.int .i32 (IntKind.i32.wrap a))) := ev_conv Try.underlying21 Try.underlying21
theorem fxCv21x25 {k : IntKind} {a : Int} : asV (pr Try.prog (convert 21 25 (.int k a))) = some (.v (.int .i64 (IntKind.i64.wrap a))) := ev_conv Try.underlying21 Try.underlying25
theorem fxCv21x79 {k : IntKind} {a : Int} : asV (pr Try.prog (convert 21 79 (.int k a))) = some (.v (.int .u64 (IntKind.u64.wrap a))) := ev_conv Try.underlying21 Try.underlying79
theorem fxCv21x99 {k : IntKind} {a : Int} : asV (pr Try.prog (convert 21 99 (.int k a))) = some (.v (.int .i64 (IntKind.i64.wrap a))) := ev_conv Try.underlying21 Try.underlying99
theorem fxCv21x105 {k : IntKind} {a : Int} : asV (pr Try.prog (convert 21 105 (.int k a))) = some (.v (.int .u32 (IntKind.u32.wrap a))) := ev_conv Try.underlying21 Try.underlying105
theorem fxCv21x107 {k : IntKind} {a : Int} : asV (pr Try.prog (convert 21 107 (.int k a))) = some (.v (.int .u64 (IntKind.u64.wrap a))) := ev_conv Try.underlying21 Try.underlying107
theorem fxCv21x113 {k : IntKind} {a : Int} : asV (pr Try.prog (convert 21 113 (.int k a))) = some (.v (.int .u64 (IntKind.u64.wrap a))) := ev_conv Try.underlying21 Try.underlying113
theorem fxCv25x2 {k : IntKind} {a : Int} : asV (pr Try.prog (convert 25 2 (.int k a))) = some (.v (.int .i64 (IntKind.i64.wrap a))) := ev_conv Try.underlying25 Try.underlying2
theorem fxCv25x3 {k : IntKind} {a : Int} : asV (pr Try.prog (convert 25 3 (.int k a))) = some (.v (.int .i64 (IntKind.i64.wrap a))) := ev_conv Try.underlying25 Try.underlying3
theorem fxCv25x5 {k : IntKind} {a : Int} : asV (pr Try.prog (convert 25 5 (.int k a))) = some (.v (.int .u8 (IntKind.u8.wrap a))) := ev_conv Try.underlying25 Try.underlying5
theorem fxCv25x12 {k : IntKind} {a : Int} : asV (pr Try.prog (convert 25 12 (.int k a))) = some (.v (.int .u64 (IntKind.u64.wrap a))) := ev_conv Try.underlying25 Try.underlying12
theorem fxCv25x21 {k : IntKind} {a : Int} : asV (pr Try.prog (convert 25 21 (.int k a))) = some (.v (.int .i32 (IntKind.i32.wrap a))) := ev_conv Try.underlying25 Try.underlying21
theorem fxCv25x25 {k : IntKind} {a : Int} : asV (pr Try.prog (convert 25 25 (.int k a))) = some (.v (.int .i64 (IntKind.i64.wrap a))) := ev_conv Try.underlying25 Try.underlying25
theorem fxCv25x79 {k : IntKind} {a : Int} : asV (pr Try.prog (convert 25 79 (.int k a))) = some (.v (.int .u64 (IntKind.u64.wrap a))) := ev_conv Try.underlying25 Try.underlying79
theorem fxCv25x99 {k : IntKind} {a : Int} : asV (pr Try.prog (convert 25 99 (.int k a))) = some (.v (.int .i64 (IntKind.i64.wrap a))) := ev_conv Try.underlying25 Try.underlying99
theorem fxCv25x105 {k : IntKind} {a : Int} : asV (pr Try.prog (convert 25 105 (.int k a))) = some (.v (.int .u32 (IntKind.u32.wrap a))) := ev_conv Try.underlying25 Try.underlying105
theorem fxCv25x107 {k : IntKind} {a : Int} : asV (pr Try.prog (convert 25 107 (.int k a))) = some (.v (.int .u64 (IntKind.u64.wrap a))) := ev_conv Try.underlying25 Try.underlying107
theorem fxCv25x113 {k : IntKind} {a : Int} : asV (pr Try.prog (convert 25 113 (.int k a))) = some (.v (.int .u64 (IntKind.u64.wrap a))) := ev_conv Try.underlying25 Try.underlying113
theorem fxCv79x2 {k : IntKind} {a : Int} : asV (pr Try.prog (convert 79 2 (.int k a))) = some (.v (.int .i64 (IntKind.i64.wrap a))) := ev_conv Try.underlying79 Try.underlying2
theorem fxCv79x3 {k : IntKind} {a : Int} : asV (pr Try.prog (convert 79 3 (.int k a))) = some (.v (.int .i64 (IntKind.i64.wrap a))) := ev_conv Try.underlying79 Try.underlying3
theorem fxCv79x5 {k : IntKind} {a : Int} : asV (pr Try.prog (convert 79 5 (.int k a))) = some (.v (.int .u8 (IntKind.u8.wrap a))) := ev_conv Try.underlying79 Try.underlying5
theorem fxCv79x12 {k : IntKind} {a : Int} : asV (pr Try.prog (convert 79 12 (.int k a))) = some (.v (.int .u64 (IntKind.u64.wrap a))) := ev_conv Try.underlying79 Try.underlying12
theorem fxCv79x21 {k : IntKind} {a : Int} : asV (pr Try.prog (convert 79 21 (.int k a))) = some (.v (.int .i32 (IntKind.i32.wrap a))) := ev_conv Try.underlying79 Try.underlying21
theorem fxCv79x25 {k : IntKind} {a : Int} : asV (pr Try.prog (convert 79 25 (.int k a))) = some (.v (.int .i64 (IntKind.i64.wrap a))) := ev_conv Try.underlying79 Try.underlying25
theorem fxCv79x79 {k : IntKind} {a : Int} : asV (pr Try.prog (convert 79 79 (.int k a))) = some (.v (.int .u64 (IntKind.u64.wrap a))) := ev_conv Try.underlying79 Try.underlying79
theorem fxCv79x99 {k : IntKind} {a : Int} : asV (pr Try.prog (convert 79 99 (.int k a))) = some (.v (.int .i64 (IntKind.i64.wrap a))) := ev_conv Try.underlying79 Try.underlying99
theorem fxCv79x105 {k : IntKind} {a : Int} : asV (pr Try.prog (convert 79 105 (.int k a))) = some (.v (.int .u32 (IntKind.u32.wrap a))) := ev_conv Try.underlying79 Try.underlying105
theorem fxCv79x107 {k : IntKind} {a : Int} : asV (pr Try.prog (convert 79 107 (.int k a))) = some (.v (.int .u64 (IntKind.u64.wrap a))) := ev_conv Try.underlying79 Try.underlying107
theorem fxCv79x113 {k : IntKind} {a : Int} : asV (pr Try.prog (convert 79 113 (.int k a))) = some (.v (.int .u64 (IntKind.u64.wrap a))) := ev_conv Try.underlying79 Try.underlying113
theorem fxCv99x2 {k : IntKind} {a : Int} : asV (pr Try.prog (convert 99 2 (.int k a))) = some (.v (.int .i64 (IntKind.i64.wrap a))) := ev_conv Try.underlying99 Try.underlying2
theorem fxCv99x3 {k : IntKind} {a : Int} : asV (pr Try.prog (convert 99 3 (.int k a))) = some (.v (.int .i64 (IntKind.i64.wrap a))) := ev_conv Try.underlying99 Try.underlying3
theorem fxCv99x5 {k : IntKind} {a : Int} : asV (pr Try.prog (convert 99 5 (.int k a))) = some (.v (.int .u8 (IntKind.u8.wrap a))) := ev_conv Try.underlying99 Try.underlying5
theorem fxCv99x12 {k : IntKind} {a : Int} : asV (pr Try.prog (convert 99 12 (.int k a))) = some (.v (.int .u64 (IntKind.u64.wrap a))) := ev_conv Try.underlying99 Try.underlying12
theorem fxCv99x21 {k : IntKind} {a : Int} : asV (pr Try.prog (convert 99 21 (.int k a))) = some (.v (.int .i32 (IntKind.i32.wrap a))) := ev_conv Try.underlying99 Try.underlying21
theorem fxCv99x25 {k : IntKind} {a : Int} : asV (pr Try.prog (convert 99 25 (.int k a))) = some (.v (.int .i64 (IntKind.i64.wrap a))) := ev_conv Try.underlying99 Try.underlying25
theorem fxCv99x79 {k : IntKind} {a : Int} : asV (pr Try.prog (convert 99 79 (.int k a))) = some (.v (.int .u64 (IntKind.u64.wrap a))) := ev_conv Try.underlying99 Try.underlying79
theorem fxCv99x99 {k : IntKind} {a : Int} : asV (pr Try.prog (convert 99 99 (.int k a))) = some (.v (.int .i64 (IntKind.i64.wrap a))) := ev_conv Try.underlying99 Try.underlying99
theorem fxCv99x105 {k : IntKind} {a : Int} : asV (pr Try.prog (convert 99 105 (.int k a))) = some (.v (.int .u32 (IntKind.u32.wrap a))) := ev_conv Try.underlying99 Try.underlying105
theorem fxCv99x107 {k : IntKind} {a : Int} : asV (pr Try.prog (convert 99 107 (.int k a))) = some (.v (.int .u64 (IntKind.u64.wrap a))) := ev_conv Try.underlying99 Try.underlying107
theorem fxCv99x113 {k : IntKind} {a : Int} : asV (pr Try.prog (convert 99 113 (.int k a))) = some (.v (.int .u64 (IntKind.u64.wrap a))) := ev_conv Try.underlying99 Try.underlying113
theorem fxCv105x2 {k : IntKind} {a : Int} : asV (pr Try.prog (convert 105 2 (.int k a))) = some (.v (.int .i64 (IntKind.i64.wrap a))) := ev_conv Try.underlying105 Try.underlying2
theorem fxCv105x3 {k : IntKind} {a : Int} : asV (pr Try.prog (convert 105 3 (.int k a))) = some (.v (.int .i64 (IntKind.i64.wrap a))) := ev_conv Try.underlying105 Try.underlying3
theorem fxCv105x5 {k : IntKind} {a : Int} : asV (pr Try.prog (convert 105 5 (.int k a))) = some (.v (.int .u8 (IntKind.u8.wrap a))) := ev_conv Try.underlying105 Try.underlying5
theorem fxCv105x12 {k : IntKind} {a : Int} : asV (pr Try.prog (convert 105 12 (.int k a))) = some (.v (.int .u64 (IntKind.u64.wrap a))) := ev_conv Try.underlying105 Try.underlying12
theorem fxCv105x21 {k : IntKind} {a : Int} : asV (pr Try.prog (convert 105 21 (.int k a))) = some (.v (.int .i32 (IntKind.i32.wrap a))) := ev_conv Try.underlying105 Try.underlying21
theorem fxCv105x25 {k : IntKind} {a : Int} : asV (pr Try.prog (convert 105 25 (.int k a))) = some (.v (.int .i64 (IntKind.i64.wrap a))) := ev_conv Try.underlying105 Try.underlying25
theorem fxCv105x79 {k : IntKind} {a : Int} : asV (pr Try.prog (convert 105 79 (.int k a))) = some (.v (.int .u64 (IntKind.u64.wrap a))) := ev_conv Try.underlying105 Try.underlying79
theorem fxCv105x99 {k : IntKind} {a : Int} : asV (pr Try.prog (convert 105 99 (.int k a))) = some (.v (.int .i64 (IntKind.i64.wrap a))) := ev_conv Try.underlying105 Try.underlying99
theorem fxCv105x105 {k : IntKind} {a : Int} : asV (pr Try.prog (convert 105 105 (.int k a))) = some (.v (.int .u32 (IntKind.u32.wrap a))) := ev_conv Try.underlying105 Try.underlying105
theorem fxCv105x107 {k : IntKind} {a : Int} : asV (pr Try.prog (convert 105 107 (.int k a))) = some (.v (.int .u64 (IntKind.u64.wrap a))) := ev_conv Try.underlying105 Try.underlying107
theorem fxCv105x113 {k : IntKind} {a : Int} : asV (pr Try.prog (convert 105 113 (.int k a))) = some (.v (.int .u64 (IntKind.u64.wrap a))) := ev_conv Try.underlying105 Try.underlying113
theorem fxCv107x2 {k : IntKind} {a : Int} : asV (pr Try.prog (convert 107 2 (.int k a))) = some (.v (.int .i64 (IntKind.i64.wrap a))) := ev_conv Try.underlying107 Try.underlying2
theorem fxCv107x3 {k : IntKind} {a : Int} : asV (pr Try.prog (convert 107 3 (.int k a))) = some (.v (.int .i64 (IntKind.i64.wrap a))) := ev_conv Try.underlying107 Try.underlying3
theorem fxCv107x5 {k : IntKind} {a : Int} : asV (pr Try.prog (convert 107 5 (.int k a))) = some (.v (.int .u8 (IntKind.u8.wrap a))) := ev_conv Try.underlying107 Try.underlying5
theorem fxCv107x12 {k : IntKind} {a : Int} : asV (pr Try.prog (convert 107 12 (.int k a))) = some (.v (.int .u64 (IntKind.u64.wrap a))) := ev_conv Try.underlying107 Try.underlying12
theorem fxCv107x21 {k : IntKind} {a : Int} : asV (pr Try.prog (convert 107 21 (.int k a))) = some (.v (.int .i32 (IntKind.i32.wrap a))) := ev_conv Try.underlying107 Try.underlying21
theorem fxCv107x25 {k : IntKind} {a : Int} : asV (pr Try.prog (convert 107 25 (.int k a))) = some (.v (.int .i64 (IntKind.i64.wrap a))) := ev_conv Try.underlying107 Try.underlying25
theorem fxCv107x79 {k : IntKind} {a : Int} : asV (pr Try.prog (convert 107 79 (.int k a))) = some (.v (.int .u64 (IntKind.u64.wrap a))) := ev_conv Try.underlying107 Try.underlying79
theorem fxCv107x99 {k : IntKind} {a : Int} : asV (pr Try.prog (convert 107 99 (.int k a))) = some (.v (.int .i64 (IntKind.i64.wrap a))) := ev_conv Try.underlying107 Try.underlying99
theorem fxCv107x105 {k : IntKind} {a : Int} : asV (pr Try.prog (convert 107 105 (.int k a))) = some (.v (.int .u32 (IntKind.u32.wrap a))) := ev_conv Try.underlying107 Try.underlying105
theorem fxCv107x107 {k : IntKind} {a : Int} : asV (pr Try.prog (convert 107 107 (.int k a))) = some (.v (.int .u64 (IntKind.u64.wrap a))) := ev_conv Try.underlying107 Try.underlying107
theorem fxCv107x113 {k : IntKind} {a : Int} : asV (pr Try.prog (convert 107 113 (.int k a))) = some (.v (.int .u64 (IntKind.u64.wrap a))) := ev_conv Try.underlying107 Try.underlying113
theorem fxCv113x2 {k : IntKind} {a : Int} : asV (pr Try.prog (convert 113 2 (.int k a))) = some (.v (.int .i64 (IntKind.i64.wrap a))) := ev_conv Try.underlying113 Try.underlying2
theorem fxCv113x3 {k : IntKind} {a : Int} : asV (pr Try.prog (convert 113 3 (.int k a))) = some (.v (.int .i64 (IntKind.i64.wrap a))) := ev_conv Try.underlying113 Try.underlying3
theorem fxCv113x5 {k : IntKind} {a : Int} : asV (pr Try.prog (convert 113 5 (.int k a))) = some (.v (.int .u8 (IntKind.u8.wrap a))) := ev_conv Try.underlying113 Try.underlying5
theorem fxCv113x12 {k : IntKind} {a : Int} : asV (pr Try.prog (convert 113 12 (.int k a))) = some (.v (.int .u64 (IntKind.u64.wrap a))) := ev_conv Try.underlying113 Try.underlying12
theorem fxCv113x21 {k : IntKind} {a : Int} : asV (pr Try.prog (convert 113 21 (.int k a))) = some (.v (.int .i32 (IntKind.i32.wrap a))) := ev_conv Try.underlying113 Try.underlying21
theorem fxCv113x25 {k : IntKind} {a : Int} : asV (pr Try.prog (convert 113 25 (.int k a))) = some (.v (.int .i64 (IntKind.i64.wrap a))) := ev_conv Try.underlying113 Try.underlying25
theorem fxCv113x79 {k : IntKind} {a : Int} : asV (pr Try.prog (convert 113 79 (.int k a))) = some (.v (.int .u64 (IntKind.u64.wrap a))) := ev_conv Try.underlying113 Try.underlying79
theorem fxCv113x99 {k : IntKind} {a : Int} : asV (pr Try.prog (convert 113 99 (.int k a))) = some (.v (.int .i64 (IntKind.i64.wrap a))) := ev_conv Try.underlying113 Try.underlying99
theorem fxCv113x105 {k : IntKind} {a : Int} : asV (pr Try.prog (convert 113 105 (.int k a))) = some (.v (.int .u32 (IntKind.u32.wrap a))) := ev_conv Try.underlying113 Try.underlying105
theorem fxCv113x107 {k : IntKind} {a : Int} : asV (pr Try.prog (convert 113 107 (.int k a))) = some (.v (.int .u64 (IntKind.u64.wrap a))) := ev_conv Try.underlying113 Try.underlying107
theorem fxCv113x113 {k : IntKind} {a : Int} : asV (pr Try.prog (convert 113 113 (.int k a))) = some (.v (.int .u64 (IntKind.u64.wrap a))) := ev_conv Try.underlying113 Try.underlying113
theorem fxEb4 {x y : Operand} {p q : Bool} : aBin Try.prog .eql 4 x y (.v (.bool p)) (.v (.bool q)) = some (.v (.bool (p == q))) := ev_eqlB Try.underlying4
theorem fxNb4 {x y : Operand} {p q : Bool} : aBin Try.prog .neq 4 x y (.v (.bool p)) (.v (.bool q)) = some (.v (.bool (!(p == q)))) := ev_neqB Try.underlying4
theorem fxLt9 {s : ByteArray} : asV (pr Try.prog (Builtin.len_ #[9] 0 #[.string s])) = some (.v (.int .i64 s.size)) := ev_lenT Try.underlying9
theorem fxLn22 : asV (pr Try.prog (Builtin.len_ #[22] 0 #[.slice none 0 0])) = some (.v (.int .i64 0)) := ev_lenN Try.underlying22
theorem fxNe22 {x y : Operand} {o : Bool} {sz : Nat} {rows : List Row} : aBin Try.prog .eql 22 x y (.fsl o sz rows) (.v (.slice none 0 0)) = some (if rows.isEmpty then .anyb else .v (.bool false)) := ev_nilE fxSl22
theorem fxNn22 {x y : Operand} {o : Bool} {sz : Nat} {rows : List Row} : aBin Try.prog .neq 22 x y (.fsl o sz rows) (.v (.slice none 0 0)) = some (if rows.isEmpty then .anyb else .v (.bool true)) := ev_nilN fxSl22
theorem fxOe22 {x y : Operand} {a b c d e : Nat} : aBin Try.prog .eql 22 x y (.osl a b c d e) (.v (.slice none 0 0)) = some (.v (.bool false)) := ev_nilOe fxSl22
theorem fxOn22 {x y : Operand} {a b c d e : Nat} : aBin Try.prog .neq 22 x y (.osl a b c d e) (.v (.slice none 0 0)) = some (.v (.bool true)) := ev_nilOn fxSl22
theorem fxXe22 {x y : Operand} : aBin Try.prog .eql 22 x y .esl (.v (.slice none 0 0)) = some .anyb := ev_nilXe fxSl22
theorem fxXn22 {x y : Operand} : aBin Try.prog .neq 22 x y .esl (.v (.slice none 0 0)) = some .anyb := ev_nilXn fxSl22
theorem fxLn38 : asV (pr Try.prog (Builtin.len_ #[38] 0 #[.slice none 0 0])) = some (.v (.int .i64 0)) := ev_lenN Try.underlying38
theorem fxNe38 {x y : Operand} {o : Bool} {sz : Nat} {rows : List Row} : aBin Try.prog .eql 38 x y (.fsl o sz rows) (.v (.slice none 0 0)) = some (if rows.isEmpty then .anyb else .v (.bool false)) := ev_nilE fxSl38
theorem fxNn38 {x y : Operand} {o : Bool} {sz : Nat} {rows : List Row} : aBin Try.prog .neq 38 x y (.fsl o sz rows) (.v (.slice none 0 0)) = some (if rows.isEmpty then .anyb else .v (.bool true)) := ev_nilN fxSl38
theorem fxOe38 {x y : Operand} {a b c d e : Nat} : aBin Try.prog .eql 38 x y (.osl a b c d e) (.v (.slice none 0 0)) = some (.v (.bool false)) := ev_nilOe fxSl38
theorem fxOn38 {x y : Operand} {a b c d e : Nat} : aBin Try.prog .neq 38 x y (.osl a b c d e) (.v (.slice none 0 0)) = some (.v (.bool true)) := ev_nilOn fxSl38
theorem fxXe38 {x y : Operand} : aBin Try.prog .eql 38 x y .esl (.v (.slice none 0 0)) = some .anyb := ev_nilXe fxSl38
theorem fxXn38 {x y : Operand} : aBin Try.prog .neq 38 x y .esl (.v (.slice none 0 0)) = some .anyb := ev_nilXn fxSl38
theorem fxLn46 : asV (pr Try.prog (Builtin.len_ #[46] 0 #[.slice none 0 0])) = some (.v (.int .i64 0)) := ev_lenN Try.underlying46
theorem fxNe46 {x y : Operand} {o : Bool} {sz : Nat} {rows : List Row} : aBin Try.prog .eql 46 x y (.fsl o sz rows) (.v (.slice none 0 0)) = some (if rows.isEmpty then .anyb else .v (.bool false)) := ev_nilE fxSl46
theorem fxNn46 {x y : Operand} {o : Bool} {sz : Nat} {rows : List Row} : aBin Try.prog .neq 46 x y (.fsl o sz rows) (.v (.slice none 0 0)) = some (if rows.isEmpty then .anyb else .v (.bool true)) := ev_nilN fxSl46
theorem fxOe46 {x y : Operand} {a b c d e : Nat} : aBin Try.prog .eql 46 x y (.osl a b c d e) (.v (.slice none 0 0)) = some (.v (.bool false)) := ev_nilOe fxSl46
theorem fxOn46 {x y : Operand} {a b c d e : Nat} : aBin Try.prog .neq 46 x y (.osl a b c d e) (.v (.slice none 0 0)) = some (.v (.bool true)) := ev_nilOn fxSl46
theorem fxXe46 {x y : Operand} : aBin Try.prog .eql 46 x y .esl (.v (.slice none 0 0)) = some .anyb := ev_nilXe fxSl46
theorem fxXn46 {x y : Operand} : aBin Try.prog .neq 46 x y .esl (.v (.slice none 0 0)) = some .anyb := ev_nilXn fxSl46
theorem fxLn74 : asV (pr Try.prog (Builtin.len_ #[74] 0 #[.slice none 0 0])) = some (.v (.int .i64 0)) := ev_lenN Try.underlying74
theorem fxNe74 {x y : Operand} {o : Bool} {sz : Nat} {rows : List Row} : aBin Try.prog .eql 74 x y (.fsl o sz rows) (.v (.slice none 0 0)) = some (if rows.isEmpty then .anyb else .v (.bool false)) := ev_nilE fxSl74
theorem fxNn74 {x y : Operand} {o : Bool} {sz : Nat} {rows : List Row} : aBin Try.prog .neq 74 x y (.fsl o sz rows) (.v (.slice none 0 0)) = some (if rows.isEmpty then .anyb else .v (.bool true)) := ev_nilN fxSl74
theorem fxOe74 {x y : Operand} {a b c d e : Nat} : aBin Try.prog .eql 74 x y (.osl a b c d e) (.v (.slice none 0 0)) = some (.v (.bool false)) := ev_nilOe fxSl74
theorem fxOn74 {x y : Operand} {a b c d e : Nat} : aBin Try.prog .neq 74 x y (.osl a b c d e) (.v (.slice none 0 0)) = some (.v (.bool true)) := ev_nilOn fxSl74
theorem fxXe74 {x y : Operand} : aBin Try.prog .eql 74 x y .esl (.v (.slice none 0 0)) = some .anyb := ev_nilXe fxSl74
theorem fxXn74 {x y : Operand} : aBin Try.prog .neq 74 x y .esl (.v (.slice none 0 0)) = some .anyb := ev_nilXn fxSl74
theorem fxFn3 : Try.prog.funcs[(3 : Nat)]? = some Try.f3 := Try.func3
theorem fxFm3 : (Try.f3.name == "runtime.NumGoroutine") = false := by kernel_rfl
theorem fxFb3 : (Try.f3.name == "runtime.NumGoroutine" || Try.f3.body.isNone) = false := by kernel_rfl
theorem fxFi3 : Try.f3.body.isNone = false := by kernel_rfl
theorem fxFj3 : (Try.f3.body = none) = False := eq_false (fun h => by have := fxFi3; rw [h] at this; cases this)
theorem fxFn4 : Try.prog.funcs[(4 : Nat)]? = some Try.f4 := Try.func4
theorem fxFm4 : (Try.f4.name == "runtime.NumGoroutine") = false := by kernel_rfl
theorem fxFb4 : (Try.f4.name == "runtime.NumGoroutine" || Try.f4.body.isNone) = false := by kernel_rfl
theorem fxFi4 : Try.f4.body.isNone = false := by kernel_rfl
theorem fxFj4 : (Try.f4.body = none) = False := eq_false (fun h => by have := fxFi4; rw [h] at this; cases this)
theorem fxFn5 : Try.prog.funcs[(5 : Nat)]? = some Try.f5 := Try.func5
theorem fxFm5 : (Try.f5.name == "runtime.NumGoroutine") = false := by kernel_rfl
theorem fxFb5 : (Try.f5.name == "runtime.NumGoroutine" || Try.f5.body.isNone) = false := by kernel_rfl
theorem fxFi5 : Try.f5.body.isNone = false := by kernel_rfl
theorem fxFj5 : (Try.f5.body = none) = False := eq_false (fun h => by have := fxFi5; rw [h] at this; cases this)
theorem fxFn6 : Try.prog.funcs[(6 : Nat)]? = some Try.f6 := Try.func6
theorem fxFm6 : (Try.f6.name == "runtime.NumGoroutine") = false := by kernel_rfl
theorem fxFb6 : (Try.f6.name == "runtime.NumGoroutine" || Try.f6.body.isNone) = false := by kernel_rfl
theorem fxFi6 : Try.f6.body.isNone = false := by kernel_rfl
theorem fxFj6 : (Try.f6.body = none) = False := eq_false (fun h => by have := fxFi6; rw [h] at this; cases this)
theorem fxFn7 : Try.prog.funcs[(7 : Nat)]? = some Try.f7 := Try.func7
theorem fxFm7 : (Try.f7.name == "runtime.NumGoroutine") = false := by kernel_rfl
theorem fxFb7 : (Try.f7.name == "runtime.NumGoroutine" || Try.f7.body.isNone) = false := by kernel_rfl
theorem fxFi7 : Try.f7.body.isNone = false := by kernel_rfl
theorem fxFj7 : (Try.f7.body = none) = False := eq_false (fun h => by have := fxFi7; rw [h] at this; cases this)
theorem fxFn8 : Try.prog.funcs[(8 : Nat)]? = some Try.f8 := Try.func8
theorem fxFm8 : (Try.f8.name == "runtime.NumGoroutine") = false := by kernel_rfl
theorem fxFb8 : (Try.f8.name == "runtime.NumGoroutine" || Try.f8.body.isNone) = false := by kernel_rfl
theorem fxFi8 : Try.f8.body.isNone = false := by kernel_rfl
theorem fxFj8 : (Try.f8.body = none) = False := eq_false (fun h => by have := fxFi8; rw [h] at this; cases this)
theorem fxFn9 : Try.prog.funcs[(9 : Nat)]? = some Try.f9 := Try.func9
theorem fxFm9 : (Try.f9.name == "runtime.NumGoroutine") = false := by kernel_rfl
theorem fxFb9 : (Try.f9.name == "runtime.NumGoroutine" || Try.f9.body.isNone) = false := by kernel_rfl
theorem fxFi9 : Try.f9.body.isNone = false := by kernel_rfl
theorem fxFj9 : (Try.f9.body = none) = False := eq_false (fun h => by have := fxFi9; rw [h] at this; cases this)
theorem fxFn10 : Try.prog.funcs[(10 : Nat)]? = some Try.f10 := Try.func10
theorem fxFm10 : (Try.f10.name == "runtime.NumGoroutine") = false := by kernel_rfl
theorem fxFb10 : (Try.f10.name == "runtime.NumGoroutine" || Try.f10.body.isNone) = false := by kernel_rfl
theorem fxFi10 : Try.f10.body.isNone = false := by kernel_rfl
theorem fxFj10 : (Try.f10.body = none) = False := eq_false (fun h => by have := fxFi10; rw [h] at this; cases this)
theorem fxFn11 : Try.prog.funcs[(11 : Nat)]? = some Try.f11 := Try.func11
theorem fxFm11 : (Try.f11.name == "runtime.NumGoroutine") = false := by kernel_rfl
theorem fxFb11 : (Try.f11.name == "runtime.NumGoroutine" || Try.f11.body.isNone) = false := by kernel_rfl
theorem fxFi11 : Try.f11.body.isNone = false := by kernel_rfl
theorem fxFj11 : (Try.f11.body = none) = False := eq_false (fun h => by have := fxFi11; rw [h] at this; cases this)
theorem fxFn12 : Try.prog.funcs[(12 : Nat)]? = some Try.f12 := Try.func12
theorem fxFm12 : (Try.f12.name == "runtime.NumGoroutine") = false := by kernel_rfl
theorem fxFb12 : (Try.f12.name == "runtime.NumGoroutine" || Try.f12.body.isNone) = false := by kernel_rfl
theorem fxFi12 : Try.f12.body.isNone = false := by kernel_rfl
theorem fxFj12 : (Try.f12.body = none) = False := eq_false (fun h => by have := fxFi12; rw [h] at this; cases this)
theorem fxFn13 : Try.prog.funcs[(13 : Nat)]? = some Try.f13 := Try.func13
theorem fxFm13 : (Try.f13.name == "runtime.NumGoroutine") = false := by kernel_rfl
theorem fxFb13 : (Try.f13.name == "runtime.NumGoroutine" || Try.f13.body.isNone) = false := by kernel_rfl
theorem fxFi13 : Try.f13.body.isNone = false := by kernel_rfl
theorem fxFj13 : (Try.f13.body = none) = False := eq_false (fun h => by have := fxFi13; rw [h] at this; cases this)
theorem fxFn14 : Try.prog.funcs[(14 : Nat)]? = some Try.f14 := Try.func14
theorem fxFm14 : (Try.f14.name == "runtime.NumGoroutine") = false := by kernel_rfl
theorem fxFb14 : (Try.f14.name == "runtime.NumGoroutine" || Try.f14.body.isNone) = false := by kernel_rfl
theorem fxFi14 : Try.f14.body.isNone = false := by kernel_rfl
theorem fxFj14 : (Try.f14.body = none) = False := eq_false (fun h => by have := fxFi14; rw [h] at this; cases this)
theorem fxFn15 : Try.prog.funcs[(15 : Nat)]? = some Try.f15 := Try.func15
theorem fxFm15 : (Try.f15.name == "runtime.NumGoroutine") = false := by kernel_rfl
theorem fxFb15 : (Try.f15.name == "runtime.NumGoroutine" || Try.f15.body.isNone) = false := by kernel_rfl
theorem fxFi15 : Try.f15.body.isNone = false := by kernel_rfl
theorem fxFj15 : (Try.f15.body = none) = False := eq_false (fun h => by have := fxFi15; rw [h] at this; cases this)
theorem fxFn16 : Try.prog.funcs[(16 : Nat)]? = some Try.f16 := Try.func16
theorem fxFm16 : (Try.f16.name == "runtime.NumGoroutine") = false := by kernel_rfl
theorem fxFb16 : (Try.f16.name == "runtime.NumGoroutine" || Try.f16.body.isNone) = false := by kernel_rfl
theorem fxFi16 : Try.f16.body.isNone = false := by kernel_rfl
theorem fxFj16 : (Try.f16.body = none) = False := eq_false (fun h => by have := fxFi16; rw [h] at this; cases this)
theorem fxFn17 : Try.prog.funcs[(17 : Nat)]? = some Try.f17 := Try.func17
theorem fxFm17 : (Try.f17.name == "runtime.NumGoroutine") = false := by kernel_rfl
theorem fxFb17 : (Try.f17.name == "runtime.NumGoroutine" || Try.f17.body.isNone) = false := by kernel_rfl
theorem fxFi17 : Try.f17.body.isNone = false := by kernel_rfl
theorem fxFj17 : (Try.f17.body = none) = False := eq_false (fun h => by have := fxFi17; rw [h] at this; cases this)
theorem fxFn18 : Try.prog.funcs[(18 : Nat)]? = some Try.f18 := Try.func18
theorem fxFm18 : (Try.f18.name == "runtime.NumGoroutine") = false := by kernel_rfl
theorem fxFb18 : (Try.f18.name == "runtime.NumGoroutine" || Try.f18.body.isNone) = false := by kernel_rfl
theorem fxFi18 : Try.f18.body.isNone = false := by kernel_rfl
theorem fxFj18 : (Try.f18.body = none) = False := eq_false (fun h => by have := fxFi18; rw [h] at this; cases this)
theorem fxFn19 : Try.prog.funcs[(19 : Nat)]? = some Try.f19 := Try.func19
theorem fxFm19 : (Try.f19.name == "runtime.NumGoroutine") = false := by kernel_rfl
theorem fxFb19 : (Try.f19.name == "runtime.NumGoroutine" || Try.f19.body.isNone) = false := by kernel_rfl
theorem fxFi19 : Try.f19.body.isNone = false := by kernel_rfl
theorem fxFj19 : (Try.f19.body = none) = False := eq_false (fun h => by have := fxFi19; rw [h] at this; cases this)
theorem fxFn20 : Try.prog.funcs[(20 : Nat)]? = some Try.f20 := Try.func20
theorem fxFm20 : (Try.f20.name == "runtime.NumGoroutine") = false := by kernel_rfl
theorem fxFb20 : (Try.f20.name == "runtime.NumGoroutine" || Try.f20.body.isNone) = false := by kernel_rfl
theorem fxFi20 : Try.f20.body.isNone = false := by kernel_rfl
theorem fxFj20 : (Try.f20.body = none) = False := eq_false (fun h => by have := fxFi20; rw [h] at this; cases this)
theorem fxFn21 : Try.prog.funcs[(21 : Nat)]? = some Try.f21 := Try.func21
theorem fxFm21 : (Try.f21.name == "runtime.NumGoroutine") = false := by kernel_rfl
theorem fxFb21 : (Try.f21.name == "runtime.NumGoroutine" || Try.f21.body.isNone) = false := by kernel_rfl
theorem fxFi21 : Try.f21.body.isNone = false := by kernel_rfl
theorem fxFj21 : (Try.f21.body = none) = False := eq_false (fun h => by have := fxFi21; rw [h] at this; cases this)
theorem fxFn22 : Try.prog.funcs[(22 : Nat)]? = some Try.f22 := Try.func22
theorem fxFm22 : (Try.f22.name == "runtime.NumGoroutine") = false := by kernel_rfl
theorem fxFb22 : (Try.f22.name == "runtime.NumGoroutine" || Try.f22.body.isNone) = false := by kernel_rfl
theorem fxFi22 : Try.f22.body.isNone = false := by kernel_rfl
theorem fxFj22 : (Try.f22.body = none) = False := eq_false (fun h => by have := fxFi22; rw [h] at this; cases this)
theorem fxFn23 : Try.prog.funcs[(23 : Nat)]? = some Try.f23 := Try.func23
theorem fxFm23 : (Try.f23.name == "runtime.NumGoroutine") = false := by kernel_rfl
theorem fxFb23 : (Try.f23.name == "runtime.NumGoroutine" || Try.f23.body.isNone) = false := by kernel_rfl
theorem fxFi23 : Try.f23.body.isNone = false := by kernel_rfl
theorem fxFj23 : (Try.f23.body = none) = False := eq_false (fun h => by have := fxFi23; rw [h] at this; cases this)
theorem fxFn24 : Try.prog.funcs[(24 : Nat)]? = some Try.f24 := Try.func24
theorem fxFm24 : (Try.f24.name == "runtime.NumGoroutine") = false := by kernel_rfl
theorem fxFb24 : (Try.f24.name == "runtime.NumGoroutine" || Try.f24.body.isNone) = false := by kernel_rfl
theorem fxFi24 : Try.f24.body.isNone = false := by kernel_rfl
theorem fxFj24 : (Try.f24.body = none) = False := eq_false (fun h => by have := fxFi24; rw [h] at this; cases this)
theorem fxFn25 : Try.prog.funcs[(25 : Nat)]? = some Try.f25 := Try.func25
theorem fxFm25 : (Try.f25.name == "runtime.NumGoroutine") = false := by kernel_rfl
theorem fxFb25 : (Try.f25.name == "runtime.NumGoroutine" || Try.f25.body.isNone) = false := by kernel_rfl
theorem fxFi25 : Try.f25.body.isNone = false := by kernel_rfl
theorem fxFj25 : (Try.f25.body = none) = False := eq_false (fun h => by have := fxFi25; rw [h] at this; cases this)
theorem fxFn26 : Try.prog.funcs[(26 : Nat)]? = some Try.f26 := Try.func26
theorem fxFm26 : (Try.f26.name == "runtime.NumGoroutine") = false := by kernel_rfl
theorem fxFb26 : (Try.f26.name == "runtime.NumGoroutine" || Try.f26.body.isNone) = false := by kernel_rfl
theorem fxFi26 : Try.f26.body.isNone = false := by kernel_rfl
theorem fxFj26 : (Try.f26.body = none) = False := eq_false (fun h => by have := fxFi26; rw [h] at this; cases this)
theorem fxFn27 : Try.prog.funcs[(27 : Nat)]? = some Try.f27 := Try.func27
theorem fxFm27 : (Try.f27.name == "runtime.NumGoroutine") = false := by kernel_rfl
theorem fxFb27 : (Try.f27.name == "runtime.NumGoroutine" || Try.f27.body.isNone) = false := by kernel_rfl
theorem fxFi27 : Try.f27.body.isNone = false := by kernel_rfl
theorem fxFj27 : (Try.f27.body = none) = False := eq_false (fun h => by have := fxFi27; rw [h] at this; cases this)
theorem fxFn28 : Try.prog.funcs[(28 : Nat)]? = some Try.f28 := Try.func28
theorem fxFm28 : (Try.f28.name == "runtime.NumGoroutine") = false := by kernel_rfl
theorem fxFb28 : (Try.f28.name == "runtime.NumGoroutine" || Try.f28.body.isNone) = false := by kernel_rfl
theorem fxFi28 : Try.f28.body.isNone = false := by kernel_rfl
theorem fxFj28 : (Try.f28.body = none) = False := eq_false (fun h => by have := fxFi28; rw [h] at this; cases this)
theorem fxFn29 : Try.prog.funcs[(29 : Nat)]? = some Try.f29 := Try.func29
theorem fxFm29 : (Try.f29.name == "runtime.NumGoroutine") = false := by kernel_rfl
theorem fxFb29 : (Try.f29.name == "runtime.NumGoroutine" || Try.f29.body.isNone) = false := by kernel_rfl
theorem fxFi29 : Try.f29.body.isNone = false := by kernel_rfl
theorem fxFj29 : (Try.f29.body = none) = False := eq_false (fun h => by have := fxFi29; rw [h] at this; cases this)
theorem fxFn30 : Try.prog.funcs[(30 : Nat)]? = some Try.f30 := Try.func30
theorem fxFm30 : (Try.f30.name == "runtime.NumGoroutine") = false := by kernel_rfl
theorem fxFb30 : (Try.f30.name == "runtime.NumGoroutine" || Try.f30.body.isNone) = false := by kernel_rfl
theorem fxFi30 : Try.f30.body.isNone = false := by kernel_rfl
theorem fxFj30 : (Try.f30.body = none) = False := eq_false (fun h => by have := fxFi30; rw [h] at this; cases this)
theorem fxFn31 : Try.prog.funcs[(31 : Nat)]? = some Try.f31 := Try.func31
theorem fxFm31 : (Try.f31.name == "runtime.NumGoroutine") = false := by kernel_rfl
theorem fxFb31 : (Try.f31.name == "runtime.NumGoroutine" || Try.f31.body.isNone) = false := by kernel_rfl
theorem fxFi31 : Try.f31.body.isNone = false := by kernel_rfl
theorem fxFj31 : (Try.f31.body = none) = False := eq_false (fun h => by have := fxFi31; rw [h] at this; cases this)
theorem fxFn32 : Try.prog.funcs[(32 : Nat)]? = some Try.f32 := Try.func32
theorem fxFm32 : (Try.f32.name == "runtime.NumGoroutine") = false := by kernel_rfl
theorem fxFb32 : (Try.f32.name == "runtime.NumGoroutine" || Try.f32.body.isNone) = false := by kernel_rfl
theorem fxFi32 : Try.f32.body.isNone = false := by kernel_rfl
theorem fxFj32 : (Try.f32.body = none) = False := eq_false (fun h => by have := fxFi32; rw [h] at this; cases this)
theorem fxFn33 : Try.prog.funcs[(33 : Nat)]? = some Try.f33 := Try.func33
theorem fxFm33 : (Try.f33.name == "runtime.NumGoroutine") = false := by kernel_rfl
theorem fxFb33 : (Try.f33.name == "runtime.NumGoroutine" || Try.f33.body.isNone) = false := by kernel_rfl
theorem fxFi33 : Try.f33.body.isNone = false := by kernel_rfl
theorem fxFj33 : (Try.f33.body = none) = False := eq_false (fun h => by have := fxFi33; rw [h] at this; cases this)
theorem fxFn34 : Try.prog.funcs[(34 : Nat)]? = some Try.f34 := Try.func34
theorem fxFm34 : (Try.f34.name == "runtime.NumGoroutine") = false := by kernel_rfl
theorem fxFb34 : (Try.f34.name == "runtime.NumGoroutine" || Try.f34.body.isNone) = false := by kernel_rfl
theorem fxFi34 : Try.f34.body.isNone = false := by kernel_rfl
theorem fxFj34 : (Try.f34.body = none) = False := eq_false (fun h => by have := fxFi34; rw [h] at this; cases this)
theorem fxFn35 : Try.prog.funcs[(35 : Nat)]? = some Try.f35 := Try.func35
theorem fxFm35 : (Try.f35.name == "runtime.NumGoroutine") = false := by kernel_rfl
theorem fxFb35 : (Try.f35.name == "runtime.NumGoroutine" || Try.f35.body.isNone) = false := by kernel_rfl
theorem fxFi35 : Try.f35.body.isNone = false := by kernel_rfl
theorem fxFj35 : (Try.f35.body = none) = False := eq_false (fun h => by have := fxFi35; rw [h] at this; cases this)
theorem fxFn36 : Try.prog.funcs[(36 : Nat)]? = some Try.f36 := Try.func36
theorem fxFm36 : (Try.f36.name == "runtime.NumGoroutine") = false := by kernel_rfl
theorem fxFb36 : (Try.f36.name == "runtime.NumGoroutine" || Try.f36.body.isNone) = false := by kernel_rfl
theorem fxFi36 : Try.f36.body.isNone = false := by kernel_rfl
theorem fxFj36 : (Try.f36.body = none) = False := eq_false (fun h => by have := fxFi36; rw [h] at this; cases this)
theorem fxFn37 : Try.prog.funcs[(37 : Nat)]? = some Try.f37 := Try.func37
theorem fxFm37 : (Try.f37.name == "runtime.NumGoroutine") = false := by kernel_rfl
theorem fxFb37 : (Try.f37.name == "runtime.NumGoroutine" || Try.f37.body.isNone) = false := by kernel_rfl
theorem fxFi37 : Try.f37.body.isNone = false := by kernel_rfl
theorem fxFj37 : (Try.f37.body = none) = False := eq_false (fun h => by have := fxFi37; rw [h] at this; cases this)
theorem fxFn38 : Try.prog.funcs[(38 : Nat)]? = some Try.f38 := Try.func38
theorem fxFm38 : (Try.f38.name == "runtime.NumGoroutine") = false := by kernel_rfl
theorem fxFb38 : (Try.f38.name == "runtime.NumGoroutine" || Try.f38.body.isNone) = false := by kernel_rfl
theorem fxFi38 : Try.f38.body.isNone = false := by kernel_rfl
theorem fxFj38 : (Try.f38.body = none) = False := eq_false (fun h => by have := fxFi38; rw [h] at this; cases this)
theorem fxFn39 : Try.prog.funcs[(39 : Nat)]? = some Try.f39 := Try.func39
theorem fxFm39 : (Try.f39.name == "runtime.NumGoroutine") = false := by kernel_rfl
theorem fxFb39 : (Try.f39.name == "runtime.NumGoroutine" || Try.f39.body.isNone) = false := by kernel_rfl
theorem fxFi39 : Try.f39.body.isNone = false := by kernel_rfl
theorem fxFj39 : (Try.f39.body = none) = False := eq_false (fun h => by have := fxFi39; rw [h] at this; cases this)
theorem fxFn40 : Try.prog.funcs[(40 : Nat)]? = some Try.f40 := Try.func40
theorem fxFm40 : (Try.f40.name == "runtime.NumGoroutine") = false := by kernel_rfl
theorem fxFb40 : (Try.f40.name == "runtime.NumGoroutine" || Try.f40.body.isNone) = false := by kernel_rfl
theorem fxFi40 : Try.f40.body.isNone = false := by kernel_rfl
theorem fxFj40 : (Try.f40.body = none) = False := eq_false (fun h => by have := fxFi40; rw [h] at this; cases this)
theorem fxFn41 : Try.prog.funcs[(41 : Nat)]? = some Try.f41 := Try.func41
theorem fxFm41 : (Try.f41.name == "runtime.NumGoroutine") = false := by kernel_rfl
theorem fxFb41 : (Try.f41.name == "runtime.NumGoroutine" || Try.f41.body.isNone) = false := by kernel_rfl
theorem fxFi41 : Try.f41.body.isNone = false := by kernel_rfl
theorem fxFj41 : (Try.f41.body = none) = False := eq_false (fun h => by have := fxFi41; rw [h] at this; cases this)
theorem fxFn42 : Try.prog.funcs[(42 : Nat)]? = some Try.f42 := Try.func42
theorem fxFm42 : (Try.f42.name == "runtime.NumGoroutine") = false := by kernel_rfl
theorem fxFb42 : (Try.f42.name == "runtime.NumGoroutine" || Try.f42.body.isNone) = false := by kernel_rfl
theorem fxFi42 : Try.f42.body.isNone = false := by kernel_rfl
theorem fxFj42 : (Try.f42.body = none) = False := eq_false (fun h => by have := fxFi42; rw [h] at this; cases this)
theorem fxFn43 : Try.prog.funcs[(43 : Nat)]? = some Try.f43 := Try.func43
theorem fxFm43 : (Try.f43.name == "runtime.NumGoroutine") = false := by kernel_rfl
theorem fxFb43 : (Try.f43.name == "runtime.NumGoroutine" || Try.f43.body.isNone) = false := by kernel_rfl
theorem fxFi43 : Try.f43.body.isNone = false := by kernel_rfl
theorem fxFj43 : (Try.f43.body = none) = False := eq_false (fun h => by have := fxFi43; rw [h] at this; cases this)
theorem fxFn44 : Try.prog.funcs[(44 : Nat)]? = some Try.f44 := Try.func44
theorem fxFm44 : (Try.f44.name == "runtime.NumGoroutine") = false := by kernel_rfl
theorem fxFb44 : (Try.f44.name == "runtime.NumGoroutine" || Try.f44.body.isNone) = false := by kernel_rfl
theorem fxFi44 : Try.f44.body.isNone = false := by kernel_rfl
theorem fxFj44 : (Try.f44.body = none) = False := eq_false (fun h => by have := fxFi44; rw [h] at this; cases this)
theorem fxFn45 : Try.prog.funcs[(45 : Nat)]? = some Try.f45 := Try.func45
theorem fxFm45 : (Try.f45.name == "runtime.NumGoroutine") = false := by kernel_rfl
theorem fxFb45 : (Try.f45.name == "runtime.NumGoroutine" || Try.f45.body.isNone) = false := by kernel_rfl
theorem fxFi45 : Try.f45.body.isNone = false := by kernel_rfl
theorem fxFj45 : (Try.f45.body = none) = False := eq_false (fun h => by have := fxFi45; rw [h] at this; cases this)
theorem fxFn46 : Try.prog.funcs[(46 : Nat)]? = some Try.f46 := Try.func46
theorem fxFm46 : (Try.f46.name == "runtime.NumGoroutine") = false := by kernel_rfl
theorem fxFb46 : (Try.f46.name == "runtime.NumGoroutine" || Try.f46.body.isNone) = false := by kernel_rfl
theorem fxFi46 : Try.f46.body.isNone = false := by kernel_rfl
theorem fxFj46 : (Try.f46.body = none) = False := eq_false (fun h => by have := fxFi46; rw [h] at this; cases this)
theorem fxFn47 : Try.prog.funcs[(47 : Nat)]? = some Try.f47 := Try.func47
theorem fxFm47 : (Try.f47.name == "runtime.NumGoroutine") = false := by kernel_rfl
theorem fxFb47 : (Try.f47.name == "runtime.NumGoroutine" || Try.f47.body.isNone) = false := by kernel_rfl
theorem fxFi47 : Try.f47.body.isNone = false := by kernel_rfl
theorem fxFj47 : (Try.f47.body = none) = False := eq_false (fun h => by have := fxFi47; rw [h] at this; cases this)
theorem fxFn48 : Try.prog.funcs[(48 : Nat)]? = some Try.f48 := Try.func48
theorem fxFm48 : (Try.f48.name == "runtime.NumGoroutine") = false := by kernel_rfl
theorem fxFb48 : (Try.f48.name == "runtime.NumGoroutine" || Try.f48.body.isNone) = false := by kernel_rfl
theorem fxFi48 : Try.f48.body.isNone = false := by kernel_rfl
theorem fxFj48 : (Try.f48.body = none) = False := eq_false (fun h => by have := fxFi48; rw [h] at this; cases this)
theorem fxFn49 : Try.prog.funcs[(49 : Nat)]? = some Try.f49 := Try.func49
theorem fxFm49 : (Try.f49.name == "runtime.NumGoroutine") = false := by kernel_rfl
theorem fxFb49 : (Try.f49.name == "runtime.NumGoroutine" || Try.f49.body.isNone) = false := by kernel_rfl
theorem fxFi49 : Try.f49.body.isNone = false := by kernel_rfl
theorem fxFj49 : (Try.f49.body = none) = False := eq_false (fun h => by have := fxFi49; rw [h] at this; cases this)
theorem fxFn50 : Try.prog.funcs[(50 : Nat)]? = some Try.f50 := Try.func50
theorem fxFm50 : (Try.f50.name == "runtime.NumGoroutine") = false := by kernel_rfl
theorem fxFb50 : (Try.f50.name == "runtime.NumGoroutine" || Try.f50.body.isNone) = false := by kernel_rfl
theorem fxFi50 : Try.f50.body.isNone = false := by kernel_rfl
theorem fxFj50 : (Try.f50.body = none) = False := eq_false (fun h => by have := fxFi50; rw [h] at this; cases this)
theorem fxFn51 : Try.prog.funcs[(51 : Nat)]? = some Try.f51 := Try.func51
theorem fxFm51 : (Try.f51.name == "runtime.NumGoroutine") = false := by kernel_rfl
theorem fxFb51 : (Try.f51.name == "runtime.NumGoroutine" || Try.f51.body.isNone) = false := by kernel_rfl
theorem fxFi51 : Try.f51.body.isNone = false := by kernel_rfl
theorem fxFj51 : (Try.f51.body = none) = False := eq_false (fun h => by have := fxFi51; rw [h] at this; cases this)
theorem fxFn52 : Try.prog.funcs[(52 : Nat)]? = some Try.f52 := Try.func52
theorem fxFm52 : (Try.f52.name == "runtime.NumGoroutine") = false := by kernel_rfl
theorem fxFb52 : (Try.f52.name == "runtime.NumGoroutine" || Try.f52.body.isNone) = false := by kernel_rfl
theorem fxFi52 : Try.f52.body.isNone = false := by kernel_rfl
theorem fxFj52 : (Try.f52.body = none) = False := eq_false (fun h => by have := fxFi52; rw [h] at this; cases this)
theorem fxFn53 : Try.prog.funcs[(53 : Nat)]? = some Try.f53 := Try.func53
theorem fxFm53 : (Try.f53.name == "runtime.NumGoroutine") = false := by kernel_rfl
theorem fxFb53 : (Try.f53.name == "runtime.NumGoroutine" || Try.f53.body.isNone) = false := by kernel_rfl
theorem fxFi53 : Try.f53.body.isNone = false := by kernel_rfl
theorem fxFj53 : (Try.f53.body = none) = False := eq_false (fun h => by have := fxFi53; rw [h] at this; cases this)
theorem fxFn54 : Try.prog.funcs[(54 : Nat)]? = some Try.f54 := Try.func54
theorem fxFm54 : (Try.f54.name == "runtime.NumGoroutine") = false := by kernel_rfl
theorem fxFb54 : (Try.f54.name == "runtime.NumGoroutine" || Try.f54.body.isNone) = false := by kernel_rfl
theorem fxFi54 : Try.f54.body.isNone = false := by kernel_rfl
theorem fxFj54 : (Try.f54.body = none) = False := eq_false (fun h => by have := fxFi54; rw [h] at this; cases this)
theorem fxFn55 : Try.prog.funcs[(55 : Nat)]? = some Try.f55 := Try.func55
theorem fxFm55 : (Try.f55.name == "runtime.NumGoroutine") = false := by kernel_rfl
theorem fxFb55 : (Try.f55.name == "runtime.NumGoroutine" || Try.f55.body.isNone) = false := by kernel_rfl
theorem fxFi55 : Try.f55.body.isNone = false := by kernel_rfl
theorem fxFj55 : (Try.f55.body = none) = False := eq_false (fun h => by have := fxFi55; rw [h] at this; cases this)
theorem fxFn56 : Try.prog.funcs[(56 : Nat)]? = some Try.f56 := Try.func56
theorem fxFm56 : (Try.f56.name == "runtime.NumGoroutine") = false := by kernel_rfl
theorem fxFb56 : (Try.f56.name == "runtime.NumGoroutine" || Try.f56.body.isNone) = false := by kernel_rfl
theorem fxFi56 : Try.f56.body.isNone = false := by kernel_rfl
theorem fxFj56 : (Try.f56.body = none) = False := eq_false (fun h => by have := fxFi56; rw [h] at this; cases this)
theorem fxFn57 : Try.prog.funcs[(57 : Nat)]? = some Try.f57 := Try.func57
theorem fxFm57 : (Try.f57.name == "runtime.NumGoroutine") = false := by kernel_rfl
theorem fxFb57 : (Try.f57.name == "runtime.NumGoroutine" || Try.f57.body.isNone) = false := by kernel_rfl
theorem fxFi57 : Try.f57.body.isNone = false := by kernel_rfl
theorem fxFj57 : (Try.f57.body = none) = False := eq_false (fun h => by have := fxFi57; rw [h] at this; cases this)
theorem fxFn58 : Try.prog.funcs[(58 : Nat)]? = some Try.f58 := Try.func58
theorem fxFm58 : (Try.f58.name == "runtime.NumGoroutine") = false := by kernel_rfl
theorem fxFb58 : (Try.f58.name == "runtime.NumGoroutine" || Try.f58.body.isNone) = false := by kernel_rfl
theorem fxFi58 : Try.f58.body.isNone = false := by kernel_rfl
theorem fxFj58 : (Try.f58.body = none) = False := eq_false (fun h => by have := fxFi58; rw [h] at this; cases this)
theorem fxFn59 : Try.prog.funcs[(59 : Nat)]? = some Try.f59 := Try.func59
theorem fxFm59 : (Try.f59.name == "runtime.NumGoroutine") = false := by kernel_rfl
theorem fxFb59 : (Try.f59.name == "runtime.NumGoroutine" || Try.f59.body.isNone) = false := by kernel_rfl
theorem fxFi59 : Try.f59.body.isNone = false := by kernel_rfl
theorem fxFj59 : (Try.f59.body = none) = False := eq_false (fun h => by have := fxFi59; rw [h] at this; cases this)
theorem fxFn60 : Try.prog.funcs[(60 : Nat)]? = some Try.f60 := Try.func60
theorem fxFm60 : (Try.f60.name == "runtime.NumGoroutine") = false := by kernel_rfl
theorem fxFb60 : (Try.f60.name == "runtime.NumGoroutine" || Try.f60.body.isNone) = false := by kernel_rfl
theorem fxFi60 : Try.f60.body.isNone = false := by kernel_rfl
theorem fxFj60 : (Try.f60.body = none) = False := eq_false (fun h => by have := fxFi60; rw [h] at this; cases this)
theorem fxFn61 : Try.prog.funcs[(61 : Nat)]? = some Try.f61 := Try.func61
theorem fxFm61 : (Try.f61.name == "runtime.NumGoroutine") = false := by kernel_rfl
theorem fxFb61 : (Try.f61.name == "runtime.NumGoroutine" || Try.f61.body.isNone) = false := by kernel_rfl
theorem fxFi61 : Try.f61.body.isNone = false := by kernel_rfl
theorem fxFj61 : (Try.f61.body = none) = False := eq_false (fun h => by have := fxFi61; rw [h] at this; cases this)
theorem fxFn62 : Try.prog.funcs[(62 : Nat)]? = some Try.f62 := Try.func62
theorem fxFm62 : (Try.f62.name == "runtime.NumGoroutine") = false := by kernel_rfl
theorem fxFb62 : (Try.f62.name == "runtime.NumGoroutine" || Try.f62.body.isNone) = false := by kernel_rfl
theorem fxFi62 : Try.f62.body.isNone = false := by kernel_rfl
theorem fxFj62 : (Try.f62.body = none) = False := eq_false (fun h => by have := fxFi62; rw [h] at this; cases this)
theorem fxFn63 : Try.prog.funcs[(63 : Nat)]? = some Try.f63 := Try.func63
theorem fxFm63 : (Try.f63.name == "runtime.NumGoroutine") = false := by kernel_rfl
theorem fxFb63 : (Try.f63.name == "runtime.NumGoroutine" || Try.f63.body.isNone) = false := by kernel_rfl
theorem fxFi63 : Try.f63.body.isNone = false := by kernel_rfl
theorem fxFj63 : (Try.f63.body = none) = False := eq_false (fun h => by have := fxFi63; rw [h] at this; cases this)
theorem fxFn64 : Try.prog.funcs[(64 : Nat)]? = some Try.f64 := Try.func64
theorem fxFm64 : (Try.f64.name == "runtime.NumGoroutine") = false := by kernel_rfl
theorem fxFb64 : (Try.f64.name == "runtime.NumGoroutine" || Try.f64.body.isNone) = false := by kernel_rfl
theorem fxFi64 : Try.f64.body.isNone = false := by kernel_rfl
theorem fxFj64 : (Try.f64.body = none) = False := eq_false (fun h => by have := fxFi64; rw [h] at this; cases this)
theorem fxFn65 : Try.prog.funcs[(65 : Nat)]? = some Try.f65 := Try.func65
theorem fxFm65 : (Try.f65.name == "runtime.NumGoroutine") = false := by kernel_rfl
theorem fxFb65 : (Try.f65.name == "runtime.NumGoroutine" || Try.f65.body.isNone) = false := by kernel_rfl
theorem fxFi65 : Try.f65.body.isNone = false := by kernel_rfl
theorem fxFj65 : (Try.f65.body = none) = False := eq_false (fun h => by have := fxFi65; rw [h] at this; cases this)
theorem fxFn66 : Try.prog.funcs[(66 : Nat)]? = some Try.f66 := Try.func66
theorem fxFm66 : (Try.f66.name == "runtime.NumGoroutine") = false := by kernel_rfl
theorem fxFb66 : (Try.f66.name == "runtime.NumGoroutine" || Try.f66.body.isNone) = false := by kernel_rfl
theorem fxFi66 : Try.f66.body.isNone = false := by kernel_rfl
theorem fxFj66 : (Try.f66.body = none) = False := eq_false (fun h => by have := fxFi66; rw [h] at this; cases this)
theorem fxFn67 : Try.prog.funcs[(67 : Nat)]? = some Try.f67 := Try.func67
theorem fxFm67 : (Try.f67.name == "runtime.NumGoroutine") = false := by kernel_rfl
theorem fxFb67 : (Try.f67.name == "runtime.NumGoroutine" || Try.f67.body.isNone) = false := by kernel_rfl
theorem fxFi67 : Try.f67.body.isNone = false := by kernel_rfl
theorem fxFj67 : (Try.f67.body = none) = False := eq_false (fun h => by have := fxFi67; rw [h] at this; cases this)
theorem fxFn68 : Try.prog.funcs[(68 : Nat)]? = some Try.f68 := Try.func68
theorem fxFm68 : (Try.f68.name == "runtime.NumGoroutine") = false := by kernel_rfl
theorem fxFb68 : (Try.f68.name == "runtime.NumGoroutine" || Try.f68.body.isNone) = false := by kernel_rfl
theorem fxFi68 : Try.f68.body.isNone = false := by kernel_rfl
theorem fxFj68 : (Try.f68.body = none) = False := eq_false (fun h => by have := fxFi68; rw [h] at this; cases this)
theorem fxFn69 : Try.prog.funcs[(69 : Nat)]? = some Try.f69 := Try.func69
theorem fxFm69 : (Try.f69.name == "runtime.NumGoroutine") = false := by kernel_rfl
theorem fxFb69 : (Try.f69.name == "runtime.NumGoroutine" || Try.f69.body.isNone) = false := by kernel_rfl
theorem fxFi69 : Try.f69.body.isNone = false := by kernel_rfl
theorem fxFj69 : (Try.f69.body = none) = False := eq_false (fun h => by have := fxFi69; rw [h] at this; cases this)
theorem fxFn70 : Try.prog.funcs[(70 : Nat)]? = some Try.f70 := Try.func70
theorem fxFm70 : (Try.f70.name == "runtime.NumGoroutine") = false := by kernel_rfl
theorem fxFn71 : Try.prog.funcs[(71 : Nat)]? = some Try.f71 := Try.func71
theorem fxFm71 : (Try.f71.name == "runtime.NumGoroutine") = false := by kernel_rfl
theorem fxFb71 : (Try.f71.name == "runtime.NumGoroutine" || Try.f71.body.isNone) = false := by kernel_rfl
theorem fxFi71 : Try.f71.body.isNone = false := by kernel_rfl
theorem fxFj71 : (Try.f71.body = none) = False := eq_false (fun h => by have := fxFi71; rw [h] at this; cases this)
theorem fxFn72 : Try.prog.funcs[(72 : Nat)]? = some Try.f72 := Try.func72
theorem fxFm72 : (Try.f72.name == "runtime.NumGoroutine") = false := by kernel_rfl
theorem fxFb72 : (Try.f72.name == "runtime.NumGoroutine" || Try.f72.body.isNone) = false := by kernel_rfl
theorem fxFi72 : Try.f72.body.isNone = false := by kernel_rfl
theorem fxFj72 : (Try.f72.body = none) = False := eq_false (fun h => by have := fxFi72; rw [h] at this; cases this)
theorem fxFn73 : Try.prog.funcs[(73 : Nat)]? = some Try.f73 := Try.func73
theorem fxFm73 : (Try.f73.name == "runtime.NumGoroutine") = false := by kernel_rfl
theorem fxFb73 : (Try.f73.name == "runtime.NumGoroutine" || Try.f73.body.isNone) = false := by kernel_rfl
theorem fxFi73 : Try.f73.body.isNone = false := by kernel_rfl
theorem fxFj73 : (Try.f73.body = none) = False := eq_false (fun h => by have := fxFi73; rw [h] at this; cases this)
theorem fxFn74 : Try.prog.funcs[(74 : Nat)]? = some Try.f74 := Try.func74
theorem fxFm74 : (Try.f74.name == "runtime.NumGoroutine") = false := by kernel_rfl
theorem fxFb74 : (Try.f74.name == "runtime.NumGoroutine" || Try.f74.body.isNone) = false := by kernel_rfl
theorem fxFi74 : Try.f74.body.isNone = false := by kernel_rfl
theorem fxFj74 : (Try.f74.body = none) = False := eq_false (fun h => by have := fxFi74; rw [h] at this; cases this)
theorem fxFn75 : Try.prog.funcs[(75 : Nat)]? = some Try.f75 := Try.func75
theorem fxFm75 : (Try.f75.name == "runtime.NumGoroutine") = false := by kernel_rfl
theorem fxFb75 : (Try.f75.name == "runtime.NumGoroutine" || Try.f75.body.isNone) = false := by kernel_rfl
theorem fxFi75 : Try.f75.body.isNone = false := by kernel_rfl
theorem fxFj75 : (Try.f75.body = none) = False := eq_false (fun h => by have := fxFi75; rw [h] at this; cases this)
theorem fxFn76 : Try.prog.funcs[(76 : Nat)]? = some Try.f76 := Try.func76
theorem fxFm76 : (Try.f76.name == "runtime.NumGoroutine") = false := by kernel_rfl
theorem fxFb76 : (Try.f76.name == "runtime.NumGoroutine" || Try.f76.body.isNone) = false := by kernel_rfl
theorem fxFi76 : Try.f76.body.isNone = false := by kernel_rfl
theorem fxFj76 : (Try.f76.body = none) = False := eq_false (fun h => by have := fxFi76; rw [h] at this; cases this)
theorem fxFn77 : Try.prog.funcs[(77 : Nat)]? = some Try.f77 := Try.func77
theorem fxFm77 : (Try.f77.name == "runtime.NumGoroutine") = false := by kernel_rfl
theorem fxFb77 : (Try.f77.name == "runtime.NumGoroutine" || Try.f77.body.isNone) = false := by kernel_rfl
theorem fxFi77 : Try.f77.body.isNone = false := by kernel_rfl
theorem fxFj77 : (Try.f77.body = none) = False := eq_false (fun h => by have := fxFi77; rw [h] at this; cases this)
theorem fxFn78 : Try.prog.funcs[(78 : Nat)]? = some Try.f78 := Try.func78
theorem fxFm78 : (Try.f78.name == "runtime.NumGoroutine") = false := by kernel_rfl
theorem fxFb78 : (Try.f78.name == "runtime.NumGoroutine" || Try.f78.body.isNone) = false := by kernel_rfl
theorem fxFi78 : Try.f78.body.isNone = false := by kernel_rfl
theorem fxFj78 : (Try.f78.body = none) = False := eq_false (fun h => by have := fxFi78; rw [h] at this; cases this)
theorem fxFn79 : Try.prog.funcs[(79 : Nat)]? = some Try.f79 := Try.func79
theorem fxFm79 : (Try.f79.name == "runtime.NumGoroutine") = false := by kernel_rfl
theorem fxFb79 : (Try.f79.name == "runtime.NumGoroutine" || Try.f79.body.isNone) = false := by kernel_rfl
theorem fxFi79 : Try.f79.body.isNone = false := by kernel_rfl
theorem fxFj79 : (Try.f79.body = none) = False := eq_false (fun h => by have := fxFi79; rw [h] at this; cases this)
theorem fxFn80 : Try.prog.funcs[(80 : Nat)]? = some Try.f80 := Try.func80
theorem fxFm80 : (Try.f80.name == "runtime.NumGoroutine") = false := by kernel_rfl
theorem fxFb80 : (Try.f80.name == "runtime.NumGoroutine" || Try.f80.body.isNone) = false := by kernel_rfl
theorem fxFi80 : Try.f80.body.isNone = false := by kernel_rfl
theorem fxFj80 : (Try.f80.body = none) = False := eq_false (fun h => by have := fxFi80; rw [h] at this; cases this)
theorem fxFn81 : Try.prog.funcs[(81 : Nat)]? = some Try.f81 := Try.func81
theorem fxFm81 : (Try.f81.name == "runtime.NumGoroutine") = false := by kernel_rfl
theorem fxFb81 : (Try.f81.name == "runtime.NumGoroutine" || Try.f81.body.isNone) = false := by kernel_rfl
theorem fxFi81 : Try.f81.body.isNone = false := by kernel_rfl
theorem fxFj81 : (Try.f81.body = none) = False := eq_false (fun h => by have := fxFi81; rw [h] at this; cases this)
theorem fxFn82 : Try.prog.funcs[(82 : Nat)]? = some Try.f82 := Try.func82
theorem fxFm82 : (Try.f82.name == "runtime.NumGoroutine") = false := by kernel_rfl
theorem fxFb82 : (Try.f82.name == "runtime.NumGoroutine" || Try.f82.body.isNone) = false := by kernel_rfl
theorem fxFi82 : Try.f82.body.isNone = false := by kernel_rfl
theorem fxFj82 : (Try.f82.body = none) = False := eq_false (fun h => by have := fxFi82; rw [h] at this; cases this)
theorem fxFn83 : Try.prog.funcs[(83 : Nat)]? = some Try.f83 := Try.func83
theorem fxFm83 : (Try.f83.name == "runtime.NumGoroutine") = false := by kernel_rfl
theorem fxFb83 : (Try.f83.name == "runtime.NumGoroutine" || Try.f83.body.isNone) = false := by kernel_rfl
theorem fxFi83 : Try.f83.body.isNone = false := by kernel_rfl
theorem fxFj83 : (Try.f83.body = none) = False := eq_false (fun h => by have := fxFi83; rw [h] at this; cases this)
theorem fxFn84 : Try.prog.funcs[(84 : Nat)]? = some Try.f84 := Try.func84
theorem fxFm84 : (Try.f84.name == "runtime.NumGoroutine") = false := by kernel_rfl
theorem fxFb84 : (Try.f84.name == "runtime.NumGoroutine" || Try.f84.body.isNone) = false := by kernel_rfl
theorem fxFi84 : Try.f84.body.isNone = false := by kernel_rfl
theorem fxFj84 : (Try.f84.body = none) = False := eq_false (fun h => by have := fxFi84; rw [h] at this; cases this)
theorem fxFn85 : Try.prog.funcs[(85 : Nat)]? = some Try.f85 := Try.func85
theorem fxFm85 : (Try.f85.name == "runtime.NumGoroutine") = false := by kernel_rfl
theorem fxFb85 : (Try.f85.name == "runtime.NumGoroutine" || Try.f85.body.isNone) = false := by kernel_rfl
theorem fxFi85 : Try.f85.body.isNone = false := by kernel_rfl
theorem fxFj85 : (Try.f85.body = none) = False := eq_false (fun h => by have := fxFi85; rw [h] at this; cases this)
theorem fxFn86 : Try.prog.funcs[(86 : Nat)]? = some Try.f86 := Try.func86
theorem fxFm86 : (Try.f86.name == "runtime.NumGoroutine") = false := by kernel_rfl
theorem fxFb86 : (Try.f86.name == "runtime.NumGoroutine" || Try.f86.body.isNone) = false := by kernel_rfl
theorem fxFi86 : Try.f86.body.isNone = false := by kernel_rfl
theorem fxFj86 : (Try.f86.body = none) = False := eq_false (fun h => by have := fxFi86; rw [h] at this; cases this)
theorem fxFn87 : Try.prog.funcs[(87 : Nat)]? = some Try.f87 := Try.func87
theorem fxFm87 : (Try.f87.name == "runtime.NumGoroutine") = false := by kernel_rfl
theorem fxFb87 : (Try.f87.name == "runtime.NumGoroutine" || Try.f87.body.isNone) = false := by kernel_rfl
theorem fxFi87 : Try.f87.body.isNone = false := by kernel_rfl
theorem fxFj87 : (Try.f87.body = none) = False := eq_false (fun h => by have := fxFi87; rw [h] at this; cases this)
theorem fxFn88 : Try.prog.funcs[(88 : Nat)]? = some Try.f88 := Try.func88
theorem fxFm88 : (Try.f88.name == "runtime.NumGoroutine") = false := by kernel_rfl
theorem fxFb88 : (Try.f88.name == "runtime.NumGoroutine" || Try.f88.body.isNone) = false := by kernel_rfl
theorem fxFi88 : Try.f88.body.isNone = false := by kernel_rfl
theorem fxFj88 : (Try.f88.body = none) = False := eq_false (fun h => by have := fxFi88; rw [h] at this; cases this)
theorem fxFn89 : Try.prog.funcs[(89 : Nat)]? = some Try.f89 := Try.func89
theorem fxFm89 : (Try.f89.name == "runtime.NumGoroutine") = false := by kernel_rfl
theorem fxFn90 : Try.prog.funcs[(90 : Nat)]? = some Try.f90 := Try.func90
theorem fxFm90 : (Try.f90.name == "runtime.NumGoroutine") = false := by kernel_rfl
theorem fxFb90 : (Try.f90.name == "runtime.NumGoroutine" || Try.f90.body.isNone) = false := by kernel_rfl
theorem fxFi90 : Try.f90.body.isNone = false := by kernel_rfl
theorem fxFj90 : (Try.f90.body = none) = False := eq_false (fun h => by have := fxFi90; rw [h] at this; cases this)
theorem fxFn91 : Try.prog.funcs[(91 : Nat)]? = some Try.f91 := Try.func91
theorem fxFm91 : (Try.f91.name == "runtime.NumGoroutine") = false := by kernel_rfl
theorem fxFb91 : (Try.f91.name == "runtime.NumGoroutine" || Try.f91.body.isNone) = false := by kernel_rfl
theorem fxFi91 : Try.f91.body.isNone = false := by kernel_rfl
theorem fxFj91 : (Try.f91.body = none) = False := eq_false (fun h => by have := fxFi91; rw [h] at this; cases this)
theorem fxFn92 : Try.prog.funcs[(92 : Nat)]? = some Try.f92 := Try.func92
theorem fxFm92 : (Try.f92.name == "runtime.NumGoroutine") = false := by kernel_rfl
theorem fxFb92 : (Try.f92.name == "runtime.NumGoroutine" || Try.f92.body.isNone) = false := by kernel_rfl
theorem fxFi92 : Try.f92.body.isNone = false := by kernel_rfl
theorem fxFj92 : (Try.f92.body = none) = False := eq_false (fun h => by have := fxFi92; rw [h] at this; cases this)
theorem fxFn93 : Try.prog.funcs[(93 : Nat)]? = some Try.f93 := Try.func93
theorem fxFm93 : (Try.f93.name == "runtime.NumGoroutine") = false := by kernel_rfl
theorem fxFb93 : (Try.f93.name == "runtime.NumGoroutine" || Try.f93.body.isNone) = false := by kernel_rfl
theorem fxFi93 : Try.f93.body.isNone = false := by kernel_rfl
theorem fxFj93 : (Try.f93.body = none) = False := eq_false (fun h => by have := fxFi93; rw [h] at this; cases this)
theorem fxFn94 : Try.prog.funcs[(94 : Nat)]? = some Try.f94 := Try.func94
theorem fxFm94 : (Try.f94.name == "runtime.NumGoroutine") = false := by kernel_rfl
theorem fxFb94 : (Try.f94.name == "runtime.NumGoroutine" || Try.f94.body.isNone) = false := by kernel_rfl
theorem fxFi94 : Try.f94.body.isNone = false := by kernel_rfl
theorem fxFj94 : (Try.f94.body = none) = False := eq_false (fun h => by have := fxFi94; rw [h] at this; cases this)
theorem fxFn95 : Try.prog.funcs[(95 : Nat)]? = some Try.f95 := Try.func95
theorem fxFm95 : (Try.f95.name == "runtime.NumGoroutine") = false := by kernel_rfl
theorem fxFb95 : (Try.f95.name == "runtime.NumGoroutine" || Try.f95.body.isNone) = false := by kernel_rfl
theorem fxFi95 : Try.f95.body.isNone = false := by kernel_rfl
theorem fxFj95 : (Try.f95.body = none) = False := eq_false (fun h => by have := fxFi95; rw [h] at this; cases this)
theorem fxFn96 : Try.prog.funcs[(96 : Nat)]? = some Try.f96 := Try.func96
theorem fxFm96 : (Try.f96.name == "runtime.NumGoroutine") = false := by kernel_rfl
theorem fxFb96 : (Try.f96.name == "runtime.NumGoroutine" || Try.f96.body.isNone) = false := by kernel_rfl
theorem fxFi96 : Try.f96.body.isNone = false := by kernel_rfl
theorem fxFj96 : (Try.f96.body = none) = False := eq_false (fun h => by have := fxFi96; rw [h] at this; cases this)
theorem fxFn97 : Try.prog.funcs[(97 : Nat)]? = some Try.f97 := Try.func97
theorem fxFm97 : (Try.f97.name == "runtime.NumGoroutine") = false := by kernel_rfl
theorem fxFb97 : (Try.f97.name == "runtime.NumGoroutine" || Try.f97.body.isNone) = false := by kernel_rfl
theorem fxFi97 : Try.f97.body.isNone = false := by kernel_rfl
theorem fxFj97 : (Try.f97.body = none) = False := eq_false (fun h => by have := fxFi97; rw [h] at this; cases this)
theorem fxFn98 : Try.prog.funcs[(98 : Nat)]? = some Try.f98 := Try.func98
theorem fxFm98 : (Try.f98.name == "runtime.NumGoroutine") = false := by kernel_rfl
theorem fxFb98 : (Try.f98.name == "runtime.NumGoroutine" || Try.f98.body.isNone) = false := by kernel_rfl
theorem fxFi98 : Try.f98.body.isNone = false := by kernel_rfl
theorem fxFj98 : (Try.f98.body = none) = False := eq_false (fun h => by have := fxFi98; rw [h] at this; cases this)
theorem fxFn99 : Try.prog.funcs[(99 : Nat)]? = some Try.f99 := Try.func99
theorem fxFm99 : (Try.f99.name == "runtime.NumGoroutine") = false := by kernel_rfl
theorem fxFb99 : (Try.f99.name == "runtime.NumGoroutine" || Try.f99.body.isNone) = false := by kernel_rfl
theorem fxFi99 : Try.f99.body.isNone = false := by kernel_rfl
theorem fxFj99 : (Try.f99.body = none) = False := eq_false (fun h => by have := fxFi99; rw [h] at this; cases this)
theorem fxFn100 : Try.prog.funcs[(100 : Nat)]? = some Try.f100 := Try.func100
theorem fxFm100 : (Try.f100.name == "runtime.NumGoroutine") = false := by kernel_rfl
theorem fxFb100 : (Try.f100.name == "runtime.NumGoroutine" || Try.f100.body.isNone) = false := by kernel_rfl
theorem fxFi100 : Try.f100.body.isNone = false := by kernel_rfl
theorem fxFj100 : (Try.f100.body = none) = False := eq_false (fun h => by have := fxFi100; rw [h] at this; cases this)
theorem fxFn101 : Try.prog.funcs[(101 : Nat)]? = some Try.f101 := Try.func101
theorem fxFm101 : (Try.f101.name == "runtime.NumGoroutine") = false := by kernel_rfl
theorem fxFb101 : (Try.f101.name == "runtime.NumGoroutine" || Try.f101.body.isNone) = false := by kernel_rfl
theorem fxFi101 : Try.f101.body.isNone = false := by kernel_rfl
theorem fxFj101 : (Try.f101.body = none) = False := eq_false (fun h => by have := fxFi101; rw [h] at this; cases this)
theorem fxFn102 : Try.prog.funcs[(102 : Nat)]? = some Try.f102 := Try.func102
theorem fxFm102 : (Try.f102.name == "runtime.NumGoroutine") = false := by kernel_rfl
theorem fxFb102 : (Try.f102.name == "runtime.NumGoroutine" || Try.f102.body.isNone) = false := by kernel_rfl
theorem fxFi102 : Try.f102.body.isNone = false := by kernel_rfl
theorem fxFj102 : (Try.f102.body = none) = False := eq_false (fun h => by have := fxFi102; rw [h] at this; cases this)
theorem fxFn103 : Try.prog.funcs[(103 : Nat)]? = some Try.f103 := Try.func103
theorem fxFm103 : (Try.f103.name == "runtime.NumGoroutine") = false := by kernel_rfl
theorem fxFb103 : (Try.f103.name == "runtime.NumGoroutine" || Try.f103.body.isNone) = false := by kernel_rfl
theorem fxFi103 : Try.f103.body.isNone = false := by kernel_rfl
theorem fxFj103 : (Try.f103.body = none) = False := eq_false (fun h => by have := fxFi103; rw [h] at this; cases this)
theorem fxFn104 : Try.prog.funcs[(104 : Nat)]? = some Try.f104 := Try.func104
theorem fxFm104 : (Try.f104.name == "runtime.NumGoroutine") = false := by kernel_rfl
theorem fxFb104 : (Try.f104.name == "runtime.NumGoroutine" || Try.f104.body.isNone) = false := by kernel_rfl
theorem fxFi104 : Try.f104.body.isNone = false := by kernel_rfl
theorem fxFj104 : (Try.f104.body = none) = False := eq_false (fun h => by have := fxFi104; rw [h] at this; cases this)
theorem fxFn105 : Try.prog.funcs[(105 : Nat)]? = some Try.f105 := Try.func105
theorem fxFm105 : (Try.f105.name == "runtime.NumGoroutine") = false := by kernel_rfl
theorem fxFb105 : (Try.f105.name == "runtime.NumGoroutine" || Try.f105.body.isNone) = false := by kernel_rfl
theorem fxFi105 : Try.f105.body.isNone = false := by kernel_rfl
theorem fxFj105 : (Try.f105.body = none) = False := eq_false (fun h => by have := fxFi105; rw [h] at this; cases this)
theorem fxFn106 : Try.prog.funcs[(106 : Nat)]? = some Try.f106 := Try.func106
theorem fxFm106 : (Try.f106.name == "runtime.NumGoroutine") = false := by kernel_rfl
theorem fxFb106 : (Try.f106.name == "runtime.NumGoroutine" || Try.f106.body.isNone) = false := by kernel_rfl
theorem fxFi106 : Try.f106.body.isNone = false := by kernel_rfl
theorem fxFj106 : (Try.f106.body = none) = False := eq_false (fun h => by have := fxFi106; rw [h] at this; cases this)
theorem fxFn107 : Try.prog.funcs[(107 : Nat)]? = some Try.f107 := Try.func107
theorem fxFm107 : (Try.f107.name == "runtime.NumGoroutine") = false := by kernel_rfl
theorem fxFb107 : (Try.f107.name == "runtime.NumGoroutine" || Try.f107.body.isNone) = false := by kernel_rfl
theorem fxFi107 : Try.f107.body.isNone = false := by kernel_rfl
theorem fxFj107 : (Try.f107.body = none) = False := eq_false (fun h => by have := fxFi107; rw [h] at this; cases this)
theorem fxFn108 : Try.prog.funcs[(108 : Nat)]? = some Try.f108 := Try.func108
theorem fxFm108 : (Try.f108.name == "runtime.NumGoroutine") = false := by kernel_rfl
theorem fxFb108 : (Try.f108.name == "runtime.NumGoroutine" || Try.f108.body.isNone) = false := by kernel_rfl
theorem fxFi108 : Try.f108.body.isNone = false := by kernel_rfl
theorem fxFj108 : (Try.f108.body = none) = False := eq_false (fun h => by have := fxFi108; rw [h] at this; cases this)
theorem fxFn109 : Try.prog.funcs[(109 : Nat)]? = some Try.f109 := Try.func109
theorem fxFm109 : (Try.f109.name == "runtime.NumGoroutine") = false := by kernel_rfl
theorem fxFb109 : (Try.f109.name == "runtime.NumGoroutine" || Try.f109.body.isNone) = false := by kernel_rfl
theorem fxFi109 : Try.f109.body.isNone = false := by kernel_rfl
theorem fxFj109 : (Try.f109.body = none) = False := eq_false (fun h => by have := fxFi109; rw [h] at this; cases this)
theorem fxFn110 : Try.prog.funcs[(110 : Nat)]? = some Try.f110 := Try.func110
theorem fxFm110 : (Try.f110.name == "runtime.NumGoroutine") = false := by kernel_rfl
theorem fxFb110 : (Try.f110.name == "runtime.NumGoroutine" || Try.f110.body.isNone) = false := by kernel_rfl
theorem fxFi110 : Try.f110.body.isNone = false := by kernel_rfl
theorem fxFj110 : (Try.f110.body = none) = False := eq_false (fun h => by have := fxFi110; rw [h] at this; cases this)
theorem fxFn111 : Try.prog.funcs[(111 : Nat)]? = some Try.f111 := Try.func111
theorem fxFm111 : (Try.f111.name == "runtime.NumGoroutine") = false := by kernel_rfl
theorem fxFb111 : (Try.f111.name == "runtime.NumGoroutine" || Try.f111.body.isNone) = false := by kernel_rfl
theorem fxFi111 : Try.f111.body.isNone = false := by kernel_rfl
theorem fxFj111 : (Try.f111.body = none) = False := eq_false (fun h => by have := fxFi111; rw [h] at this; cases this)
theorem fxFn112 : Try.prog.funcs[(112 : Nat)]? = some Try.f112 := Try.func112
theorem fxFm112 : (Try.f112.name == "runtime.NumGoroutine") = false := by kernel_rfl
theorem fxFb112 : (Try.f112.name == "runtime.NumGoroutine" || Try.f112.body.isNone) = false := by kernel_rfl
theorem fxFi112 : Try.f112.body.isNone = false := by kernel_rfl
theorem fxFj112 : (Try.f112.body = none) = False := eq_false (fun h => by have := fxFi112; rw [h] at this; cases this)
theorem fxFn113 : Try.prog.funcs[(113 : Nat)]? = some Try.f113 := Try.func113
theorem fxFm113 : (Try.f113.name == "runtime.NumGoroutine") = false := by kernel_rfl
theorem fxFb113 : (Try.f113.name == "runtime.NumGoroutine" || Try.f113.body.isNone) = false := by kernel_rfl
theorem fxFi113 : Try.f113.body.isNone = false := by kernel_rfl
theorem fxFj113 : (Try.f113.body = none) = False := eq_false (fun h => by have := fxFi113; rw [h] at this; cases this)
theorem fxFn114 : Try.prog.funcs[(114 : Nat)]? = some Try.f114 := Try.func114
theorem fxFm114 : (Try.f114.name == "runtime.NumGoroutine") = false := by kernel_rfl
theorem fxFb114 : (Try.f114.name == "runtime.NumGoroutine" || Try.f114.body.isNone) = false := by kernel_rfl
theorem fxFi114 : Try.f114.body.isNone = false := by kernel_rfl
theorem fxFj114 : (Try.f114.body = none) = False := eq_false (fun h => by have := fxFi114; rw [h] at this; cases this)
end Go.Proofs.Ytigpgieapamffaa
