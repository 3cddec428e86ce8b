/- Facts of the program's tables, each by the kernel. Printed by a program. -/
import Derived.Test.YtfiindblaopaiaaProg
import Derived.Test.YtfiindblaopaiaaAiZc
import Derived.KernelRfl
namespace Go.Proofs.Ytfiindblaopaiaa
open Go.AI
theorem fxMix : Try.prog.follows .mixedOrders = true := by kernel_rfl
theorem fxSz2 : szOf Try.prog 2 = some 1 := by kernel_rfl
theorem fxBy2 : bytesOf Try.prog 2 = some 8 := by kernel_rfl
theorem fxAg2 : aggOf Try.prog 2 = some false := by kernel_rfl
theorem fxZe2 : zeroOf Try.prog 2 = some (.int .i64 0) := by kernel_rfl
theorem fxSl2 : sliceElem Try.prog 2 = none := by kernel_rfl
theorem fxAr2 : arrayOf Try.prog 2 = none := by kernel_rfl
theorem fxPl2 : placesOf Try.prog 2 = none := by kernel_rfl
theorem fxSz3 : szOf Try.prog 3 = some 1 := by kernel_rfl
theorem fxBy3 : bytesOf Try.prog 3 = some 8 := by kernel_rfl
theorem fxAg3 : aggOf Try.prog 3 = some false := by kernel_rfl
theorem fxZe3 : zeroOf Try.prog 3 = some (.int .i64 0) := by kernel_rfl
theorem fxSl3 : sliceElem Try.prog 3 = none := by kernel_rfl
theorem fxAr3 : arrayOf Try.prog 3 = none := by kernel_rfl
theorem fxPl3 : placesOf Try.prog 3 = none := by kernel_rfl
theorem fxSz4 : szOf Try.prog 4 = some 1 := by kernel_rfl
theorem fxBy4 : bytesOf Try.prog 4 = some 1 := by kernel_rfl
theorem fxAg4 : aggOf Try.prog 4 = some false := by kernel_rfl
theorem fxZe4 : zeroOf Try.prog 4 = some (.bool false) := by kernel_rfl
theorem fxSl4 : sliceElem Try.prog 4 = none := by kernel_rfl
theorem fxAr4 : arrayOf Try.prog 4 = none := by kernel_rfl
theorem fxPl4 : placesOf Try.prog 4 = none := by kernel_rfl
theorem fxSz5 : szOf Try.prog 5 = some 1 := by kernel_rfl
theorem fxBy5 : bytesOf Try.prog 5 = some 1 := by kernel_rfl
theorem fxAg5 : aggOf Try.prog 5 = some false := by kernel_rfl
theorem fxZe5 : zeroOf Try.prog 5 = some (.int .u8 0) := by kernel_rfl
theorem fxSl5 : sliceElem Try.prog 5 = none := by kernel_rfl
theorem fxAr5 : arrayOf Try.prog 5 = none := by kernel_rfl
theorem fxPl5 : placesOf Try.prog 5 = none := by kernel_rfl
theorem fxSz9 : szOf Try.prog 9 = some 1 := by kernel_rfl
theorem fxBy9 : bytesOf Try.prog 9 = some 16 := by kernel_rfl
theorem fxAg9 : aggOf Try.prog 9 = some false := by kernel_rfl
theorem fxZe9 : zeroOf Try.prog 9 = some (.string ByteArray.empty) := by kernel_rfl
theorem fxSl9 : sliceElem Try.prog 9 = none := by kernel_rfl
theorem fxAr9 : arrayOf Try.prog 9 = none := by kernel_rfl
theorem fxPl9 : placesOf Try.prog 9 = none := by kernel_rfl
theorem fxSz12 : szOf Try.prog 12 = some 1 := by kernel_rfl
theorem fxBy12 : bytesOf Try.prog 12 = some 8 := by kernel_rfl
theorem fxAg12 : aggOf Try.prog 12 = some false := by kernel_rfl
theorem fxZe12 : zeroOf Try.prog 12 = some (.int .u64 0) := by kernel_rfl
theorem fxSl12 : sliceElem Try.prog 12 = none := by kernel_rfl
theorem fxAr12 : arrayOf Try.prog 12 = none := by kernel_rfl
theorem fxPl12 : placesOf Try.prog 12 = none := by kernel_rfl
theorem fxSz13 : szOf Try.prog 13 = some 2 := by kernel_rfl
theorem fxBy13 : bytesOf Try.prog 13 = some 24 := by kernel_rfl
theorem fxAg13 : aggOf Try.prog 13 = some true := by kernel_rfl
theorem fxZe13 : zeroOf Try.prog 13 = some (.agg #[.string ByteArray.empty, .int .u64 0]) := by kernel_rfl
theorem fxSl13 : sliceElem Try.prog 13 = none := by kernel_rfl
theorem fxAr13 : arrayOf Try.prog 13 = none := by kernel_rfl
theorem fxFi13x0 : fieldOf Try.prog 13 0 = some (0, 1, 9) := by kernel_rfl
theorem fxFi13x1 : fieldOf Try.prog 13 1 = some (1, 1, 12) := by kernel_rfl
theorem fxPl13 : placesOf Try.prog 13 = some [(0, 1), (1, 1)] := by kernel_rfl
theorem fxSz21 : szOf Try.prog 21 = some 1 := by kernel_rfl
theorem fxBy21 : bytesOf Try.prog 21 = some 4 := by kernel_rfl
theorem fxAg21 : aggOf Try.prog 21 = some false := by kernel_rfl
theorem fxZe21 : zeroOf Try.prog 21 = some (.int .i32 0) := by kernel_rfl
theorem fxSl21 : sliceElem Try.prog 21 = none := by kernel_rfl
theorem fxAr21 : arrayOf Try.prog 21 = none := by kernel_rfl
theorem fxPl21 : placesOf Try.prog 21 = none := by kernel_rfl
theorem fxSz22 : szOf Try.prog 22 = some 1 := by kernel_rfl
theorem fxBy22 : bytesOf Try.prog 22 = some 24 := by kernel_rfl
theorem fxAg22 : aggOf Try.prog 22 = some false := by kernel_rfl
theorem fxZe22 : zeroOf Try.prog 22 = some (.slice none 0 0) := by kernel_rfl
theorem fxSl22 : sliceElem Try.prog 22 = some 46 := by kernel_rfl
theorem fxAr22 : arrayOf Try.prog 22 = none := by kernel_rfl
theorem fxPl22 : placesOf Try.prog 22 = none := by kernel_rfl
theorem fxSz23 : szOf Try.prog 23 = some 2 := by kernel_rfl
theorem fxBy23 : bytesOf Try.prog 23 = some 32 := by kernel_rfl
theorem fxAg23 : aggOf Try.prog 23 = some true := by kernel_rfl
theorem fxZe23 : zeroOf Try.prog 23 = some (.agg #[.int .i64 0, .slice none 0 0]) := by kernel_rfl
theorem fxSl23 : sliceElem Try.prog 23 = none := by kernel_rfl
theorem fxAr23 : arrayOf Try.prog 23 = none := by kernel_rfl
theorem fxFi23x0 : fieldOf Try.prog 23 0 = some (0, 1, 3) := by kernel_rfl
theorem fxFi23x1 : fieldOf Try.prog 23 1 = some (1, 1, 22) := by kernel_rfl
theorem fxPl23 : placesOf Try.prog 23 = some [(0, 1), (1, 1)] := by kernel_rfl
theorem fxSz24 : szOf Try.prog 24 = some 2 := by kernel_rfl
theorem fxBy24 : bytesOf Try.prog 24 = some 32 := by kernel_rfl
theorem fxAg24 : aggOf Try.prog 24 = some true := by kernel_rfl
theorem fxZe24 : zeroOf Try.prog 24 = some (.agg #[.int .i64 0, .slice none 0 0]) := by kernel_rfl
theorem fxSl24 : sliceElem Try.prog 24 = none := by kernel_rfl
theorem fxAr24 : arrayOf Try.prog 24 = none := by kernel_rfl
theorem fxFi24x0 : fieldOf Try.prog 24 0 = some (0, 1, 3) := by kernel_rfl
theorem fxFi24x1 : fieldOf Try.prog 24 1 = some (1, 1, 22) := by kernel_rfl
theorem fxPl24 : placesOf Try.prog 24 = some [(0, 1), (1, 1)] := by kernel_rfl
theorem fxSz25 : szOf Try.prog 25 = some 2 := by kernel_rfl
theorem fxBy25 : bytesOf Try.prog 25 = some 16 := by kernel_rfl
theorem fxAg25 : aggOf Try.prog 25 = some true := by kernel_rfl
theorem fxZe25 : zeroOf Try.prog 25 = some (.agg #[.int .i64 0, .int .i64 0]) := by kernel_rfl
theorem fxSl25 : sliceElem Try.prog 25 = none := by kernel_rfl
theorem fxAr25 : arrayOf Try.prog 25 = none := by kernel_rfl
theorem fxFi25x0 : fieldOf Try.prog 25 0 = some (0, 1, 3) := by kernel_rfl
theorem fxFi25x1 : fieldOf Try.prog 25 1 = some (1, 1, 3) := by kernel_rfl
theorem fxPl25 : placesOf Try.prog 25 = some [(0, 1), (1, 1)] := by kernel_rfl
theorem fxSz26 : szOf Try.prog 26 = some 2 := by kernel_rfl
theorem fxBy26 : bytesOf Try.prog 26 = some 16 := by kernel_rfl
theorem fxAg26 : aggOf Try.prog 26 = some true := by kernel_rfl
theorem fxZe26 : zeroOf Try.prog 26 = some (.agg #[.int .i64 0, .int .i64 0]) := by kernel_rfl
theorem fxSl26 : sliceElem Try.prog 26 = none := by kernel_rfl
theorem fxAr26 : arrayOf Try.prog 26 = none := by kernel_rfl
theorem fxFi26x0 : fieldOf Try.prog 26 0 = some (0, 1, 3) := by kernel_rfl
theorem fxFi26x1 : fieldOf Try.prog 26 1 = some (1, 1, 3) := by kernel_rfl
theorem fxPl26 : placesOf Try.prog 26 = some [(0, 1), (1, 1)] := by kernel_rfl
theorem fxSz27 : szOf Try.prog 27 = some 1 := by kernel_rfl
theorem fxBy27 : bytesOf Try.prog 27 = some 8 := by kernel_rfl
theorem fxAg27 : aggOf Try.prog 27 = some false := by kernel_rfl
theorem fxZe27 : zeroOf Try.prog 27 = some (.int .i64 0) := by kernel_rfl
theorem fxSl27 : sliceElem Try.prog 27 = none := by kernel_rfl
theorem fxAr27 : arrayOf Try.prog 27 = none := by kernel_rfl
theorem fxPl27 : placesOf Try.prog 27 = none := by kernel_rfl
theorem fxSz34 : szOf Try.prog 34 = some 1 := by kernel_rfl
theorem fxBy34 : bytesOf Try.prog 34 = some 24 := by kernel_rfl
theorem fxAg34 : aggOf Try.prog 34 = some false := by kernel_rfl
theorem fxZe34 : zeroOf Try.prog 34 = some (.slice none 0 0) := by kernel_rfl
theorem fxSl34 : sliceElem Try.prog 34 = some 3 := by kernel_rfl
theorem fxAr34 : arrayOf Try.prog 34 = none := by kernel_rfl
theorem fxPl34 : placesOf Try.prog 34 = none := by kernel_rfl
theorem fxSz37 : szOf Try.prog 37 = some 1 := by kernel_rfl
theorem fxBy37 : bytesOf Try.prog 37 = some 24 := by kernel_rfl
theorem fxAg37 : aggOf Try.prog 37 = some false := by kernel_rfl
theorem fxZe37 : zeroOf Try.prog 37 = some (.slice none 0 0) := by kernel_rfl
theorem fxSl37 : sliceElem Try.prog 37 = some 26 := by kernel_rfl
theorem fxAr37 : arrayOf Try.prog 37 = none := by kernel_rfl
theorem fxPl37 : placesOf Try.prog 37 = none := by kernel_rfl
theorem fxSz45 : szOf Try.prog 45 = some 2 := by kernel_rfl
theorem fxBy45 : bytesOf Try.prog 45 = some 32 := by kernel_rfl
theorem fxAg45 : aggOf Try.prog 45 = some true := by kernel_rfl
theorem fxZe45 : zeroOf Try.prog 45 = some (.agg #[.int .i64 0, .slice none 0 0]) := by kernel_rfl
theorem fxSl45 : sliceElem Try.prog 45 = none := by kernel_rfl
theorem fxAr45 : arrayOf Try.prog 45 = none := by kernel_rfl
theorem fxFi45x0 : fieldOf Try.prog 45 0 = some (0, 1, 3) := by kernel_rfl
theorem fxFi45x1 : fieldOf Try.prog 45 1 = some (1, 1, 34) := by kernel_rfl
theorem fxPl45 : placesOf Try.prog 45 = some [(0, 1), (1, 1)] := by kernel_rfl
theorem fxSz46 : szOf Try.prog 46 = some 2 := by kernel_rfl
theorem fxBy46 : bytesOf Try.prog 46 = some 32 := by kernel_rfl
theorem fxAg46 : aggOf Try.prog 46 = some true := by kernel_rfl
theorem fxZe46 : zeroOf Try.prog 46 = some (.agg #[.int .i64 0, .slice none 0 0]) := by kernel_rfl
theorem fxSl46 : sliceElem Try.prog 46 = none := by kernel_rfl
theorem fxAr46 : arrayOf Try.prog 46 = none := by kernel_rfl
theorem fxFi46x0 : fieldOf Try.prog 46 0 = some (0, 1, 3) := by kernel_rfl
theorem fxFi46x1 : fieldOf Try.prog 46 1 = some (1, 1, 34) := by kernel_rfl
theorem fxPl46 : placesOf Try.prog 46 = some [(0, 1), (1, 1)] := by kernel_rfl
theorem fxSz48 : szOf Try.prog 48 = some 1 := by kernel_rfl
theorem fxBy48 : bytesOf Try.prog 48 = some 24 := by kernel_rfl
theorem fxAg48 : aggOf Try.prog 48 = some false := by kernel_rfl
theorem fxZe48 : zeroOf Try.prog 48 = some (.slice none 0 0) := by kernel_rfl
theorem fxSl48 : sliceElem Try.prog 48 = some 5 := by kernel_rfl
theorem fxAr48 : arrayOf Try.prog 48 = none := by kernel_rfl
theorem fxPl48 : placesOf Try.prog 48 = none := by kernel_rfl
theorem fxSz49 : szOf Try.prog 49 = some 1 := by kernel_rfl
theorem fxBy49 : bytesOf Try.prog 49 = some 24 := by kernel_rfl
theorem fxAg49 : aggOf Try.prog 49 = some false := by kernel_rfl
theorem fxZe49 : zeroOf Try.prog 49 = some (.slice none 0 0) := by kernel_rfl
theorem fxSl49 : sliceElem Try.prog 49 = some 34 := by kernel_rfl
theorem fxAr49 : arrayOf Try.prog 49 = none := by kernel_rfl
theorem fxPl49 : placesOf Try.prog 49 = none := by kernel_rfl
theorem fxSz50 : szOf Try.prog 50 = some 2 := by kernel_rfl
theorem fxBy50 : bytesOf Try.prog 50 = some 48 := by kernel_rfl
theorem fxAg50 : aggOf Try.prog 50 = some true := by kernel_rfl
theorem fxZe50 : zeroOf Try.prog 50 = some (.agg #[.slice none 0 0, .slice none 0 0]) := by kernel_rfl
theorem fxSl50 : sliceElem Try.prog 50 = none := by kernel_rfl
theorem fxAr50 : arrayOf Try.prog 50 = none := by kernel_rfl
theorem fxFi50x0 : fieldOf Try.prog 50 0 = some (0, 1, 48) := by kernel_rfl
theorem fxFi50x1 : fieldOf Try.prog 50 1 = some (1, 1, 49) := by kernel_rfl
theorem fxPl50 : placesOf Try.prog 50 = some [(0, 1), (1, 1)] := by kernel_rfl
theorem fxSz51 : szOf Try.prog 51 = some 2 := by kernel_rfl
theorem fxBy51 : bytesOf Try.prog 51 = some 48 := by kernel_rfl
theorem fxAg51 : aggOf Try.prog 51 = some true := by kernel_rfl
theorem fxZe51 : zeroOf Try.prog 51 = some (.agg #[.slice none 0 0, .slice none 0 0]) := by kernel_rfl
theorem fxSl51 : sliceElem Try.prog 51 = none := by kernel_rfl
theorem fxAr51 : arrayOf Try.prog 51 = none := by kernel_rfl
theorem fxFi51x0 : fieldOf Try.prog 51 0 = some (0, 1, 48) := by kernel_rfl
theorem fxFi51x1 : fieldOf Try.prog 51 1 = some (1, 1, 49) := by kernel_rfl
theorem fxPl51 : placesOf Try.prog 51 = some [(0, 1), (1, 1)] := by kernel_rfl
theorem fxSz57 : szOf Try.prog 57 = some 1 := by kernel_rfl
theorem fxBy57 : bytesOf Try.prog 57 = some 24 := by kernel_rfl
theorem fxAg57 : aggOf Try.prog 57 = some false := by kernel_rfl
theorem fxZe57 : zeroOf Try.prog 57 = some (.slice none 0 0) := by kernel_rfl
theorem fxSl57 : sliceElem Try.prog 57 = some 48 := by kernel_rfl
theorem fxAr57 : arrayOf Try.prog 57 = none := by kernel_rfl
theorem fxPl57 : placesOf Try.prog 57 = none := by kernel_rfl
theorem fxSz69 : szOf Try.prog 69 = some 1 := by kernel_rfl
theorem fxBy69 : bytesOf Try.prog 69 = some 24 := by kernel_rfl
theorem fxAg69 : aggOf Try.prog 69 = some false := by kernel_rfl
theorem fxZe69 : zeroOf Try.prog 69 = some (.slice none 0 0) := by kernel_rfl
theorem fxSl69 : sliceElem Try.prog 69 = some 70 := by kernel_rfl
theorem fxAr69 : arrayOf Try.prog 69 = none := by kernel_rfl
theorem fxPl69 : placesOf Try.prog 69 = none := by kernel_rfl
theorem fxSz70 : szOf Try.prog 70 = some 4 := by kernel_rfl
theorem fxBy70 : bytesOf Try.prog 70 = some 32 := by kernel_rfl
theorem fxAg70 : aggOf Try.prog 70 = some true := by kernel_rfl
theorem fxZe70 : zeroOf Try.prog 70 = some (.agg #[.int .i64 0, .int .i64 0, .int .i64 0, .int .i64 0]) := by kernel_rfl
theorem fxSl70 : sliceElem Try.prog 70 = none := by kernel_rfl
theorem fxAr70 : arrayOf Try.prog 70 = some (4, 3) := by kernel_rfl
theorem fxPl70 : placesOf Try.prog 70 = none := by kernel_rfl
theorem fxSz92 : szOf Try.prog 92 = some 1 := by kernel_rfl
theorem fxBy92 : bytesOf Try.prog 92 = some 24 := by kernel_rfl
theorem fxAg92 : aggOf Try.prog 92 = some false := by kernel_rfl
theorem fxZe92 : zeroOf Try.prog 92 = some (.slice none 0 0) := by kernel_rfl
theorem fxSl92 : sliceElem Try.prog 92 = some 4 := by kernel_rfl
theorem fxAr92 : arrayOf Try.prog 92 = none := by kernel_rfl
theorem fxPl92 : placesOf Try.prog 92 = none := by kernel_rfl
theorem fxSz107 : szOf Try.prog 107 = some 0 := by kernel_rfl
theorem fxBy107 : bytesOf Try.prog 107 = some 0 := by kernel_rfl
theorem fxAg107 : aggOf Try.prog 107 = some true := by kernel_rfl
theorem fxZe107 : zeroOf Try.prog 107 = some (.agg #[]) := by kernel_rfl
theorem fxSl107 : sliceElem Try.prog 107 = none := by kernel_rfl
theorem fxAr107 : arrayOf Try.prog 107 = some (0, 16) := by kernel_rfl
theorem fxPl107 : placesOf Try.prog 107 = none := by kernel_rfl
theorem fxSz108 : szOf Try.prog 108 = some 0 := by kernel_rfl
theorem fxBy108 : bytesOf Try.prog 108 = some 0 := by kernel_rfl
theorem fxAg108 : aggOf Try.prog 108 = some true := by kernel_rfl
theorem fxZe108 : zeroOf Try.prog 108 = some (.agg #[]) := by kernel_rfl
theorem fxSl108 : sliceElem Try.prog 108 = none := by kernel_rfl
theorem fxAr108 : arrayOf Try.prog 108 = none := by kernel_rfl
theorem fxFi108x0 : fieldOf Try.prog 108 0 = some (0, 0, 107) := by kernel_rfl
theorem fxPl108 : placesOf Try.prog 108 = some [(0, 0)] := by kernel_rfl
theorem fxSz111 : szOf Try.prog 111 = some 1 := by kernel_rfl
theorem fxBy111 : bytesOf Try.prog 111 = some 4 := by kernel_rfl
theorem fxAg111 : aggOf Try.prog 111 = some false := by kernel_rfl
theorem fxZe111 : zeroOf Try.prog 111 = some (.int .u32 0) := by kernel_rfl
theorem fxSl111 : sliceElem Try.prog 111 = none := by kernel_rfl
theorem fxAr111 : arrayOf Try.prog 111 = none := by kernel_rfl
theorem fxPl111 : placesOf Try.prog 111 = none := by kernel_rfl
theorem fxSz115 : szOf Try.prog 115 = some 1 := by kernel_rfl
theorem fxBy115 : bytesOf Try.prog 115 = some 8 := by kernel_rfl
theorem fxAg115 : aggOf Try.prog 115 = some false := by kernel_rfl
theorem fxZe115 : zeroOf Try.prog 115 = some (.pointer none) := by kernel_rfl
theorem fxSl115 : sliceElem Try.prog 115 = none := by kernel_rfl
theorem fxAr115 : arrayOf Try.prog 115 = none := by kernel_rfl
theorem fxPl115 : placesOf Try.prog 115 = none := by kernel_rfl
theorem fxSz120 : szOf Try.prog 120 = some 1 := by kernel_rfl
theorem fxBy120 : bytesOf Try.prog 120 = some 8 := by kernel_rfl
theorem fxAg120 : aggOf Try.prog 120 = some false := by kernel_rfl
theorem fxZe120 : zeroOf Try.prog 120 = some (.pointer none) := by kernel_rfl
theorem fxSl120 : sliceElem Try.prog 120 = none := by kernel_rfl
theorem fxAr120 : arrayOf Try.prog 120 = none := by kernel_rfl
theorem fxPl120 : placesOf Try.prog 120 = none := by kernel_rfl
theorem fxEq26 : eqOkT Try.prog 26 = some [1, 1] := by kernel_rfl
theorem fxEq70 : eqOkT Try.prog 70 = some [1, 1, 1, 1] := by kernel_rfl
theorem fxCv2x2 {k : IntKind} {a : Int} : asV (pr Try.prog (convert 2 2 (.int k a))) = some (.v (.int .i64 (IntKind.i64.wrap a))) := ev_conv Try.underlying2 Try.underlying2
theorem fxCv2x3 {k : IntKind} {a : Int} : asV (pr Try.prog (convert 2 3 (.int k a))) = some (.v (.int .i64 (IntKind.i64.wrap a))) := ev_conv Try.underlying2 Try.underlying3
theorem fxCv2x5 {k : IntKind} {a : Int} : asV (pr Try.prog (convert 2 5 (.int k a))) = some (.v (.int .u8 (IntKind.u8.wrap a))) := ev_conv Try.underlying2 Try.underlying5
theorem fxCv2x12 {k : IntKind} {a : Int} : asV (pr Try.prog (convert 2 12 (.int k a))) = some (.v (.int .u64 (IntKind.u64.wrap a))) := ev_conv Try.underlying2 Try.underlying12
theorem fxCv2x21 {k : IntKind} {a : Int} : asV (pr Try.prog (convert 2 21 (.int k a))) = some (.v (.int .i32 (IntKind.i32.wrap a))) := ev_conv Try.underlying2 Try.underlying21
theorem fxCv2x27 {k : IntKind} {a : Int} : asV (pr Try.prog (convert 2 27 (.int k a))) = some (.v (.int .i64 (IntKind.i64.wrap a))) := ev_conv Try.underlying2 Try.underlying27
theorem fxCv2x111 {k : IntKind} {a : Int} : asV (pr Try.prog (convert 2 111 (.int k a))) = some (.v (.int .u32 (IntKind.u32.wrap a))) := ev_conv Try.underlying2 Try.underlying111
theorem fxCv3x2 {k : IntKind} {a : Int} : asV (pr Try.prog (convert 3 2 (.int k a))) = some (.v (.int .i64 (IntKind.i64.wrap a))) := ev_conv Try.underlying3 Try.underlying2
theorem fxCv3x3 {k : IntKind} {a : Int} : asV (pr Try.prog (convert 3 3 (.int k a))) = some (.v (.int .i64 (IntKind.i64.wrap a))) := ev_conv Try.underlying3 Try.underlying3
theorem fxCv3x5 {k : IntKind} {a : Int} : asV (pr Try.prog (convert 3 5 (.int k a))) = some (.v (.int .u8 (IntKind.u8.wrap a))) := ev_conv Try.underlying3 Try.underlying5
theorem fxCv3x12 {k : IntKind} {a : Int} : asV (pr Try.prog (convert 3 12 (.int k a))) = some (.v (.int .u64 (IntKind.u64.wrap a))) := ev_conv Try.underlying3 Try.underlying12
theorem fxCv3x21 {k : IntKind} {a : Int} : asV (pr Try.prog (convert 3 21 (.int k a))) = some (.v (.int .i32 (IntKind.i32.wrap a))) := ev_conv Try.underlying3 Try.underlying21
theorem fxCv3x27 {k : IntKind} {a : Int} : asV (pr Try.prog (convert 3 27 (.int k a))) = some (.v (.int .i64 (IntKind.i64.wrap a))) := ev_conv Try.underlying3 Try.underlying27
theorem fxCv3x111 {k : IntKind} {a : Int} : asV (pr Try.prog (convert 3 111 (.int k a))) = some (.v (.int .u32 (IntKind.u32.wrap a))) := ev_conv Try.underlying3 Try.underlying111
theorem fxCv5x2 {k : IntKind} {a : Int} : asV (pr Try.prog (convert 5 2 (.int k a))) = some (.v (.int .i64 (IntKind.i64.wrap a))) := ev_conv Try.underlying5 Try.underlying2
theorem fxCv5x3 {k : IntKind} {a : Int} : asV (pr Try.prog (convert 5 3 (.int k a))) = some (.v (.int .i64 (IntKind.i64.wrap a))) := ev_conv Try.underlying5 Try.underlying3
theorem fxCv5x5 {k : IntKind} {a : Int} : asV (pr Try.prog (convert 5 5 (.int k a))) = some (.v (.int .u8 (IntKind.u8.wrap a))) := ev_conv Try.underlying5 Try.underlying5
theorem fxCv5x12 {k : IntKind} {a : Int} : asV (pr Try.prog (convert 5 12 (.int k a))) = some (.v (.int .u64 (IntKind.u64.wrap a))) := ev_conv Try.underlying5 Try.underlying12
theorem fxCv5x21 {k : IntKind} {a : Int} : asV (pr Try.prog (convert 5 21 (.int k a))) = some (.v (.int .i32 (IntKind.i32.wrap a))) := ev_conv Try.underlying5 Try.underlying21
theorem fxCv5x27 {k : IntKind} {a : Int} : asV (pr Try.prog (convert 5 27 (.int k a))) = some (.v (.int .i64 (IntKind.i64.wrap a))) := ev_conv Try.underlying5 Try.underlying27
theorem fxCv5x111 {k : IntKind} {a : Int} : asV (pr Try.prog (convert 5 111 (.int k a))) = some (.v (.int .u32 (IntKind.u32.wrap a))) := ev_conv Try.underlying5 Try.underlying111
theorem fxCv12x2 {k : IntKind} {a : Int} : asV (pr Try.prog (convert 12 2 (.int k a))) = some (.v (.int .i64 (IntKind.i64.wrap a))) := ev_conv Try.underlying12 Try.underlying2
theorem fxCv12x3 {k : IntKind} {a : Int} : asV (pr Try.prog (convert 12 3 (.int k a))) = some (.v (.int .i64 (IntKind.i64.wrap a))) := ev_conv Try.underlying12 Try.underlying3
theorem fxCv12x5 {k : IntKind} {a : Int} : asV (pr Try.prog (convert 12 5 (.int k a))) = some (.v (.int .u8 (IntKind.u8.wrap a))) := ev_conv Try.underlying12 Try.underlying5
theorem fxCv12x12 {k : IntKind} {a : Int} : asV (pr Try.prog (convert 12 12 (.int k a))) = some (.v (.int .u64 (IntKind.u64.wrap a))) := ev_conv Try.underlying12 Try.underlying12
theorem fxCv12x21 {k : IntKind} {a : Int} : asV (pr Try.prog (convert 12 21 (.int k a))) = some (.v (.int .i32 (IntKind.i32.wrap a))) := ev_conv Try.underlying12 Try.underlying21
theorem fxCv12x27 {k : IntKind} {a : Int} : asV (pr Try.prog (convert 12 27 (.int k a))) = some (.v (.int .i64 (IntKind.i64.wrap a))) := ev_conv Try.underlying12 Try.underlying27
theorem fxCv12x111 {k : IntKind} {a : Int} : asV (pr Try.prog (convert 12 111 (.int k a))) = some (.v (.int .u32 (IntKind.u32.wrap a))) := ev_conv Try.underlying12 Try.underlying111
theorem fxCv21x2 {k : IntKind} {a : Int} : asV (pr Try.prog (convert 21 2 (.int k a))) = some (.v (.int .i64 (IntKind.i64.wrap a))) := ev_conv Try.underlying21 Try.underlying2
theorem fxCv21x3 {k : IntKind} {a : Int} : asV (pr Try.prog (convert 21 3 (.int k a))) = some (.v (.int .i64 (IntKind.i64.wrap a))) := ev_conv Try.underlying21 Try.underlying3
theorem fxCv21x5 {k : IntKind} {a : Int} : asV (pr Try.prog (convert 21 5 (.int k a))) = some (.v (.int .u8 (IntKind.u8.wrap a))) := ev_conv Try.underlying21 Try.underlying5
theorem fxCv21x12 {k : IntKind} {a : Int} : asV (pr Try.prog (convert 21 12 (.int k a))) = some (.v (.int .u64 (IntKind.u64.wrap a))) := ev_conv Try.underlying21 Try.underlying12
theorem fxCv21x21 {k : IntKind} {a : Int} : asV (pr Try.prog (convert 21 21 (.int k a))) = some (.v (.int .i32 (IntKind.i32.wrap a))) := ev_conv Try.underlying21 Try.underlying21
theorem fxCv21x27 {k : IntKind} {a : Int} : asV (pr Try.prog (convert 21 27 (.int k a))) = some (.v (.int .i64 (IntKind.i64.wrap a))) := ev_conv Try.underlying21 Try.underlying27
theorem fxCv21x111 {k : IntKind} {a : Int} : asV (pr Try.prog (convert 21 111 (.int k a))) = some (.v (.int .u32 (IntKind.u32.wrap a))) := ev_conv Try.underlying21 Try.underlying111
theorem fxCv27x2 {k : IntKind} {a : Int} : asV (pr Try.prog (convert 27 2 (.int k a))) = some (.v (.int .i64 (IntKind.i64.wrap a))) := ev_conv Try.underlying27 Try.underlying2
theorem fxCv27x3 {k : IntKind} {a : Int} : asV (pr Try.prog (convert 27 3 (.int k a))) = some (.v (.int .i64 (IntKind.i64.wrap a))) := ev_conv Try.underlying27 Try.underlying3
theorem fxCv27x5 {k : IntKind} {a : Int} : asV (pr Try.prog (convert 27 5 (.int k a))) = some (.v (.int .u8 (IntKind.u8.wrap a))) := ev_conv Try.underlying27 Try.underlying5
theorem fxCv27x12 {k : IntKind} {a : Int} : asV (pr Try.prog (convert 27 12 (.int k a))) = some (.v (.int .u64 (IntKind.u64.wrap a))) := ev_conv Try.underlying27 Try.underlying12
theorem fxCv27x21 {k : IntKind} {a : Int} : asV (pr Try.prog (convert 27 21 (.int k a))) = some (.v (.int .i32 (IntKind.i32.wrap a))) := ev_conv Try.underlying27 Try.underlying21
theorem fxCv27x27 {k : IntKind} {a : Int} : asV (pr Try.prog (convert 27 27 (.int k a))) = some (.v (.int .i64 (IntKind.i64.wrap a))) := ev_conv Try.underlying27 Try.underlying27
theorem fxCv27x111 {k : IntKind} {a : Int} : asV (pr Try.prog (convert 27 111 (.int k a))) = some (.v (.int .u32 (IntKind.u32.wrap a))) := ev_conv Try.underlying27 Try.underlying111
theorem fxCv111x2 {k : IntKind} {a : Int} : asV (pr Try.prog (convert 111 2 (.int k a))) = some (.v (.int .i64 (IntKind.i64.wrap a))) := ev_conv Try.underlying111 Try.underlying2
theorem fxCv111x3 {k : IntKind} {a : Int} : asV (pr Try.prog (convert 111 3 (.int k a))) = some (.v (.int .i64 (IntKind.i64.wrap a))) := ev_conv Try.underlying111 Try.underlying3
theorem fxCv111x5 {k : IntKind} {a : Int} : asV (pr Try.prog (convert 111 5 (.int k a))) = some (.v (.int .u8 (IntKind.u8.wrap a))) := ev_conv Try.underlying111 Try.underlying5
theorem fxCv111x12 {k : IntKind} {a : Int} : asV (pr Try.prog (convert 111 12 (.int k a))) = some (.v (.int .u64 (IntKind.u64.wrap a))) := ev_conv Try.underlying111 Try.underlying12
theorem fxCv111x21 {k : IntKind} {a : Int} : asV (pr Try.prog (convert 111 21 (.int k a))) = some (.v (.int .i32 (IntKind.i32.wrap a))) := ev_conv Try.underlying111 Try.underlying21
theorem fxCv111x27 {k : IntKind} {a : Int} : asV (pr Try.prog (convert 111 27 (.int k a))) = some (.v (.int .i64 (IntKind.i64.wrap a))) := ev_conv Try.underlying111 Try.underlying27
theorem fxCv111x111 {k : IntKind} {a : Int} : asV (pr Try.prog (convert 111 111 (.int k a))) = some (.v (.int .u32 (IntKind.u32.wrap a))) := ev_conv Try.underlying111 Try.underlying111
theorem fxEb4 {x y : Operand} {p q : Bool} : aBin Try.prog .eql 4 x y (.v (.bool p)) (.v (.bool q)) = some (.v (.bool (p == q))) := ev_eqlB Try.underlying4
theorem fxNb4 {x y : Operand} {p q : Bool} : aBin Try.prog .neq 4 x y (.v (.bool p)) (.v (.bool q)) = some (.v (.bool (!(p == q)))) := ev_neqB Try.underlying4
theorem fxLt9 {s : ByteArray} : asV (pr Try.prog (Builtin.len_ #[9] 0 #[.string s])) = some (.v (.int .i64 s.size)) := ev_lenT Try.underlying9
theorem fxLn22 : asV (pr Try.prog (Builtin.len_ #[22] 0 #[.slice none 0 0])) = some (.v (.int .i64 0)) := ev_lenN Try.underlying22
theorem fxNe22 {x y : Operand} {o : Bool} {sz : Nat} {rows : List Row} : aBin Try.prog .eql 22 x y (.fsl o sz rows) (.v (.slice none 0 0)) = some (if rows.isEmpty then .anyb else .v (.bool false)) := ev_nilE fxSl22
theorem fxNn22 {x y : Operand} {o : Bool} {sz : Nat} {rows : List Row} : aBin Try.prog .neq 22 x y (.fsl o sz rows) (.v (.slice none 0 0)) = some (if rows.isEmpty then .anyb else .v (.bool true)) := ev_nilN fxSl22
theorem fxOe22 {x y : Operand} {a b c d e : Nat} : aBin Try.prog .eql 22 x y (.osl a b c d e) (.v (.slice none 0 0)) = some (.v (.bool false)) := ev_nilOe fxSl22
theorem fxOn22 {x y : Operand} {a b c d e : Nat} : aBin Try.prog .neq 22 x y (.osl a b c d e) (.v (.slice none 0 0)) = some (.v (.bool true)) := ev_nilOn fxSl22
theorem fxXe22 {x y : Operand} : aBin Try.prog .eql 22 x y .esl (.v (.slice none 0 0)) = some .anyb := ev_nilXe fxSl22
theorem fxXn22 {x y : Operand} : aBin Try.prog .neq 22 x y .esl (.v (.slice none 0 0)) = some .anyb := ev_nilXn fxSl22
theorem fxLn34 : asV (pr Try.prog (Builtin.len_ #[34] 0 #[.slice none 0 0])) = some (.v (.int .i64 0)) := ev_lenN Try.underlying34
theorem fxNe34 {x y : Operand} {o : Bool} {sz : Nat} {rows : List Row} : aBin Try.prog .eql 34 x y (.fsl o sz rows) (.v (.slice none 0 0)) = some (if rows.isEmpty then .anyb else .v (.bool false)) := ev_nilE fxSl34
theorem fxNn34 {x y : Operand} {o : Bool} {sz : Nat} {rows : List Row} : aBin Try.prog .neq 34 x y (.fsl o sz rows) (.v (.slice none 0 0)) = some (if rows.isEmpty then .anyb else .v (.bool true)) := ev_nilN fxSl34
theorem fxOe34 {x y : Operand} {a b c d e : Nat} : aBin Try.prog .eql 34 x y (.osl a b c d e) (.v (.slice none 0 0)) = some (.v (.bool false)) := ev_nilOe fxSl34
theorem fxOn34 {x y : Operand} {a b c d e : Nat} : aBin Try.prog .neq 34 x y (.osl a b c d e) (.v (.slice none 0 0)) = some (.v (.bool true)) := ev_nilOn fxSl34
theorem fxXe34 {x y : Operand} : aBin Try.prog .eql 34 x y .esl (.v (.slice none 0 0)) = some .anyb := ev_nilXe fxSl34
theorem fxXn34 {x y : Operand} : aBin Try.prog .neq 34 x y .esl (.v (.slice none 0 0)) = some .anyb := ev_nilXn fxSl34
theorem fxLn37 : asV (pr Try.prog (Builtin.len_ #[37] 0 #[.slice none 0 0])) = some (.v (.int .i64 0)) := ev_lenN Try.underlying37
theorem fxNe37 {x y : Operand} {o : Bool} {sz : Nat} {rows : List Row} : aBin Try.prog .eql 37 x y (.fsl o sz rows) (.v (.slice none 0 0)) = some (if rows.isEmpty then .anyb else .v (.bool false)) := ev_nilE fxSl37
theorem fxNn37 {x y : Operand} {o : Bool} {sz : Nat} {rows : List Row} : aBin Try.prog .neq 37 x y (.fsl o sz rows) (.v (.slice none 0 0)) = some (if rows.isEmpty then .anyb else .v (.bool true)) := ev_nilN fxSl37
theorem fxOe37 {x y : Operand} {a b c d e : Nat} : aBin Try.prog .eql 37 x y (.osl a b c d e) (.v (.slice none 0 0)) = some (.v (.bool false)) := ev_nilOe fxSl37
theorem fxOn37 {x y : Operand} {a b c d e : Nat} : aBin Try.prog .neq 37 x y (.osl a b c d e) (.v (.slice none 0 0)) = some (.v (.bool true)) := ev_nilOn fxSl37
theorem fxXe37 {x y : Operand} : aBin Try.prog .eql 37 x y .esl (.v (.slice none 0 0)) = some .anyb := ev_nilXe fxSl37
theorem fxXn37 {x y : Operand} : aBin Try.prog .neq 37 x y .esl (.v (.slice none 0 0)) = some .anyb := ev_nilXn fxSl37
theorem fxLn48 : asV (pr Try.prog (Builtin.len_ #[48] 0 #[.slice none 0 0])) = some (.v (.int .i64 0)) := ev_lenN Try.underlying48
theorem fxNe48 {x y : Operand} {o : Bool} {sz : Nat} {rows : List Row} : aBin Try.prog .eql 48 x y (.fsl o sz rows) (.v (.slice none 0 0)) = some (if rows.isEmpty then .anyb else .v (.bool false)) := ev_nilE fxSl48
theorem fxNn48 {x y : Operand} {o : Bool} {sz : Nat} {rows : List Row} : aBin Try.prog .neq 48 x y (.fsl o sz rows) (.v (.slice none 0 0)) = some (if rows.isEmpty then .anyb else .v (.bool true)) := ev_nilN fxSl48
theorem fxOe48 {x y : Operand} {a b c d e : Nat} : aBin Try.prog .eql 48 x y (.osl a b c d e) (.v (.slice none 0 0)) = some (.v (.bool false)) := ev_nilOe fxSl48
theorem fxOn48 {x y : Operand} {a b c d e : Nat} : aBin Try.prog .neq 48 x y (.osl a b c d e) (.v (.slice none 0 0)) = some (.v (.bool true)) := ev_nilOn fxSl48
theorem fxXe48 {x y : Operand} : aBin Try.prog .eql 48 x y .esl (.v (.slice none 0 0)) = some .anyb := ev_nilXe fxSl48
theorem fxXn48 {x y : Operand} : aBin Try.prog .neq 48 x y .esl (.v (.slice none 0 0)) = some .anyb := ev_nilXn fxSl48
theorem fxLn49 : asV (pr Try.prog (Builtin.len_ #[49] 0 #[.slice none 0 0])) = some (.v (.int .i64 0)) := ev_lenN Try.underlying49
theorem fxNe49 {x y : Operand} {o : Bool} {sz : Nat} {rows : List Row} : aBin Try.prog .eql 49 x y (.fsl o sz rows) (.v (.slice none 0 0)) = some (if rows.isEmpty then .anyb else .v (.bool false)) := ev_nilE fxSl49
theorem fxNn49 {x y : Operand} {o : Bool} {sz : Nat} {rows : List Row} : aBin Try.prog .neq 49 x y (.fsl o sz rows) (.v (.slice none 0 0)) = some (if rows.isEmpty then .anyb else .v (.bool true)) := ev_nilN fxSl49
theorem fxOe49 {x y : Operand} {a b c d e : Nat} : aBin Try.prog .eql 49 x y (.osl a b c d e) (.v (.slice none 0 0)) = some (.v (.bool false)) := ev_nilOe fxSl49
theorem fxOn49 {x y : Operand} {a b c d e : Nat} : aBin Try.prog .neq 49 x y (.osl a b c d e) (.v (.slice none 0 0)) = some (.v (.bool true)) := ev_nilOn fxSl49
theorem fxXe49 {x y : Operand} : aBin Try.prog .eql 49 x y .esl (.v (.slice none 0 0)) = some .anyb := ev_nilXe fxSl49
theorem fxXn49 {x y : Operand} : aBin Try.prog .neq 49 x y .esl (.v (.slice none 0 0)) = some .anyb := ev_nilXn fxSl49
theorem fxLn57 : asV (pr Try.prog (Builtin.len_ #[57] 0 #[.slice none 0 0])) = some (.v (.int .i64 0)) := ev_lenN Try.underlying57
theorem fxNe57 {x y : Operand} {o : Bool} {sz : Nat} {rows : List Row} : aBin Try.prog .eql 57 x y (.fsl o sz rows) (.v (.slice none 0 0)) = some (if rows.isEmpty then .anyb else .v (.bool false)) := ev_nilE fxSl57
theorem fxNn57 {x y : Operand} {o : Bool} {sz : Nat} {rows : List Row} : aBin Try.prog .neq 57 x y (.fsl o sz rows) (.v (.slice none 0 0)) = some (if rows.isEmpty then .anyb else .v (.bool true)) := ev_nilN fxSl57
theorem fxOe57 {x y : Operand} {a b c d e : Nat} : aBin Try.prog .eql 57 x y (.osl a b c d e) (.v (.slice none 0 0)) = some (.v (.bool false)) := ev_nilOe fxSl57
theorem fxOn57 {x y : Operand} {a b c d e : Nat} : aBin Try.prog .neq 57 x y (.osl a b c d e) (.v (.slice none 0 0)) = some (.v (.bool true)) := ev_nilOn fxSl57
theorem fxXe57 {x y : Operand} : aBin Try.prog .eql 57 x y .esl (.v (.slice none 0 0)) = some .anyb := ev_nilXe fxSl57
theorem fxXn57 {x y : Operand} : aBin Try.prog .neq 57 x y .esl (.v (.slice none 0 0)) = some .anyb := ev_nilXn fxSl57
theorem fxLn69 : asV (pr Try.prog (Builtin.len_ #[69] 0 #[.slice none 0 0])) = some (.v (.int .i64 0)) := ev_lenN Try.underlying69
theorem fxNe69 {x y : Operand} {o : Bool} {sz : Nat} {rows : List Row} : aBin Try.prog .eql 69 x y (.fsl o sz rows) (.v (.slice none 0 0)) = some (if rows.isEmpty then .anyb else .v (.bool false)) := ev_nilE fxSl69
theorem fxNn69 {x y : Operand} {o : Bool} {sz : Nat} {rows : List Row} : aBin Try.prog .neq 69 x y (.fsl o sz rows) (.v (.slice none 0 0)) = some (if rows.isEmpty then .anyb else .v (.bool true)) := ev_nilN fxSl69
theorem fxOe69 {x y : Operand} {a b c d e : Nat} : aBin Try.prog .eql 69 x y (.osl a b c d e) (.v (.slice none 0 0)) = some (.v (.bool false)) := ev_nilOe fxSl69
theorem fxOn69 {x y : Operand} {a b c d e : Nat} : aBin Try.prog .neq 69 x y (.osl a b c d e) (.v (.slice none 0 0)) = some (.v (.bool true)) := ev_nilOn fxSl69
theorem fxXe69 {x y : Operand} : aBin Try.prog .eql 69 x y .esl (.v (.slice none 0 0)) = some .anyb := ev_nilXe fxSl69
theorem fxXn69 {x y : Operand} : aBin Try.prog .neq 69 x y .esl (.v (.slice none 0 0)) = some .anyb := ev_nilXn fxSl69
theorem fxLn92 : asV (pr Try.prog (Builtin.len_ #[92] 0 #[.slice none 0 0])) = some (.v (.int .i64 0)) := ev_lenN Try.underlying92
theorem fxNe92 {x y : Operand} {o : Bool} {sz : Nat} {rows : List Row} : aBin Try.prog .eql 92 x y (.fsl o sz rows) (.v (.slice none 0 0)) = some (if rows.isEmpty then .anyb else .v (.bool false)) := ev_nilE fxSl92
theorem fxNn92 {x y : Operand} {o : Bool} {sz : Nat} {rows : List Row} : aBin Try.prog .neq 92 x y (.fsl o sz rows) (.v (.slice none 0 0)) = some (if rows.isEmpty then .anyb else .v (.bool true)) := ev_nilN fxSl92
theorem fxOe92 {x y : Operand} {a b c d e : Nat} : aBin Try.prog .eql 92 x y (.osl a b c d e) (.v (.slice none 0 0)) = some (.v (.bool false)) := ev_nilOe fxSl92
theorem fxOn92 {x y : Operand} {a b c d e : Nat} : aBin Try.prog .neq 92 x y (.osl a b c d e) (.v (.slice none 0 0)) = some (.v (.bool true)) := ev_nilOn fxSl92
theorem fxXe92 {x y : Operand} : aBin Try.prog .eql 92 x y .esl (.v (.slice none 0 0)) = some .anyb := ev_nilXe fxSl92
theorem fxXn92 {x y : Operand} : aBin Try.prog .neq 92 x y .esl (.v (.slice none 0 0)) = some .anyb := ev_nilXn fxSl92
theorem fxFn3 : Try.prog.funcs[(3 : Nat)]? = some Try.f3 := Try.func3
theorem fxFm3 : (Try.f3.name == "runtime.NumGoroutine") = false := by kernel_rfl
theorem fxFb3 : (Try.f3.name == "runtime.NumGoroutine" || Try.f3.body.isNone) = false := by kernel_rfl
theorem fxFi3 : Try.f3.body.isNone = false := by kernel_rfl
theorem fxFj3 : (Try.f3.body = none) = False := eq_false (fun h => by have := fxFi3; rw [h] at this; cases this)
theorem fxFn4 : Try.prog.funcs[(4 : Nat)]? = some Try.f4 := Try.func4
theorem fxFm4 : (Try.f4.name == "runtime.NumGoroutine") = false := by kernel_rfl
theorem fxFb4 : (Try.f4.name == "runtime.NumGoroutine" || Try.f4.body.isNone) = false := by kernel_rfl
theorem fxFi4 : Try.f4.body.isNone = false := by kernel_rfl
theorem fxFj4 : (Try.f4.body = none) = False := eq_false (fun h => by have := fxFi4; rw [h] at this; cases this)
theorem fxFn5 : Try.prog.funcs[(5 : Nat)]? = some Try.f5 := Try.func5
theorem fxFm5 : (Try.f5.name == "runtime.NumGoroutine") = false := by kernel_rfl
theorem fxFb5 : (Try.f5.name == "runtime.NumGoroutine" || Try.f5.body.isNone) = false := by kernel_rfl
theorem fxFi5 : Try.f5.body.isNone = false := by kernel_rfl
theorem fxFj5 : (Try.f5.body = none) = False := eq_false (fun h => by have := fxFi5; rw [h] at this; cases this)
theorem fxFn6 : Try.prog.funcs[(6 : Nat)]? = some Try.f6 := Try.func6
theorem fxFm6 : (Try.f6.name == "runtime.NumGoroutine") = false := by kernel_rfl
theorem fxFb6 : (Try.f6.name == "runtime.NumGoroutine" || Try.f6.body.isNone) = false := by kernel_rfl
theorem fxFi6 : Try.f6.body.isNone = false := by kernel_rfl
theorem fxFj6 : (Try.f6.body = none) = False := eq_false (fun h => by have := fxFi6; rw [h] at this; cases this)
theorem fxFn7 : Try.prog.funcs[(7 : Nat)]? = some Try.f7 := Try.func7
theorem fxFm7 : (Try.f7.name == "runtime.NumGoroutine") = false := by kernel_rfl
theorem fxFb7 : (Try.f7.name == "runtime.NumGoroutine" || Try.f7.body.isNone) = false := by kernel_rfl
theorem fxFi7 : Try.f7.body.isNone = false := by kernel_rfl
theorem fxFj7 : (Try.f7.body = none) = False := eq_false (fun h => by have := fxFi7; rw [h] at this; cases this)
theorem fxFn8 : Try.prog.funcs[(8 : Nat)]? = some Try.f8 := Try.func8
theorem fxFm8 : (Try.f8.name == "runtime.NumGoroutine") = false := by kernel_rfl
theorem fxFb8 : (Try.f8.name == "runtime.NumGoroutine" || Try.f8.body.isNone) = false := by kernel_rfl
theorem fxFi8 : Try.f8.body.isNone = false := by kernel_rfl
theorem fxFj8 : (Try.f8.body = none) = False := eq_false (fun h => by have := fxFi8; rw [h] at this; cases this)
theorem fxFn9 : Try.prog.funcs[(9 : Nat)]? = some Try.f9 := Try.func9
theorem fxFm9 : (Try.f9.name == "runtime.NumGoroutine") = false := by kernel_rfl
theorem fxFb9 : (Try.f9.name == "runtime.NumGoroutine" || Try.f9.body.isNone) = false := by kernel_rfl
theorem fxFi9 : Try.f9.body.isNone = false := by kernel_rfl
theorem fxFj9 : (Try.f9.body = none) = False := eq_false (fun h => by have := fxFi9; rw [h] at this; cases this)
theorem fxFn10 : Try.prog.funcs[(10 : Nat)]? = some Try.f10 := Try.func10
theorem fxFm10 : (Try.f10.name == "runtime.NumGoroutine") = false := by kernel_rfl
theorem fxFb10 : (Try.f10.name == "runtime.NumGoroutine" || Try.f10.body.isNone) = false := by kernel_rfl
theorem fxFi10 : Try.f10.body.isNone = false := by kernel_rfl
theorem fxFj10 : (Try.f10.body = none) = False := eq_false (fun h => by have := fxFi10; rw [h] at this; cases this)
theorem fxFn11 : Try.prog.funcs[(11 : Nat)]? = some Try.f11 := Try.func11
theorem fxFm11 : (Try.f11.name == "runtime.NumGoroutine") = false := by kernel_rfl
theorem fxFb11 : (Try.f11.name == "runtime.NumGoroutine" || Try.f11.body.isNone) = false := by kernel_rfl
theorem fxFi11 : Try.f11.body.isNone = false := by kernel_rfl
theorem fxFj11 : (Try.f11.body = none) = False := eq_false (fun h => by have := fxFi11; rw [h] at this; cases this)
theorem fxFn12 : Try.prog.funcs[(12 : Nat)]? = some Try.f12 := Try.func12
theorem fxFm12 : (Try.f12.name == "runtime.NumGoroutine") = false := by kernel_rfl
theorem fxFb12 : (Try.f12.name == "runtime.NumGoroutine" || Try.f12.body.isNone) = false := by kernel_rfl
theorem fxFi12 : Try.f12.body.isNone = false := by kernel_rfl
theorem fxFj12 : (Try.f12.body = none) = False := eq_false (fun h => by have := fxFi12; rw [h] at this; cases this)
theorem fxFn13 : Try.prog.funcs[(13 : Nat)]? = some Try.f13 := Try.func13
theorem fxFm13 : (Try.f13.name == "runtime.NumGoroutine") = false := by kernel_rfl
theorem fxFb13 : (Try.f13.name == "runtime.NumGoroutine" || Try.f13.body.isNone) = false := by kernel_rfl
theorem fxFi13 : Try.f13.body.isNone = false := by kernel_rfl
theorem fxFj13 : (Try.f13.body = none) = False := eq_false (fun h => by have := fxFi13; rw [h] at this; cases this)
theorem fxFn14 : Try.prog.funcs[(14 : Nat)]? = some Try.f14 := Try.func14
theorem fxFm14 : (Try.f14.name == "runtime.NumGoroutine") = false := by kernel_rfl
theorem fxFb14 : (Try.f14.name == "runtime.NumGoroutine" || Try.f14.body.isNone) = false := by kernel_rfl
theorem fxFi14 : Try.f14.body.isNone = false := by kernel_rfl
theorem fxFj14 : (Try.f14.body = none) = False := eq_false (fun h => by have := fxFi14; rw [h] at this; cases this)
theorem fxFn15 : Try.prog.funcs[(15 : Nat)]? = some Try.f15 := Try.func15
theorem fxFm15 : (Try.f15.name == "runtime.NumGoroutine") = false := by kernel_rfl
theorem fxFb15 : (Try.f15.name == "runtime.NumGoroutine" || Try.f15.body.isNone) = false := by kernel_rfl
theorem fxFi15 : Try.f15.body.isNone = false := by kernel_rfl
theorem fxFj15 : (Try.f15.body = none) = False := eq_false (fun h => by have := fxFi15; rw [h] at this; cases this)
theorem fxFn16 : Try.prog.funcs[(16 : Nat)]? = some Try.f16 := Try.func16
theorem fxFm16 : (Try.f16.name == "runtime.NumGoroutine") = false := by kernel_rfl
theorem fxFb16 : (Try.f16.name == "runtime.NumGoroutine" || Try.f16.body.isNone) = false := by kernel_rfl
theorem fxFi16 : Try.f16.body.isNone = false := by kernel_rfl
theorem fxFj16 : (Try.f16.body = none) = False := eq_false (fun h => by have := fxFi16; rw [h] at this; cases this)
theorem fxFn17 : Try.prog.funcs[(17 : Nat)]? = some Try.f17 := Try.func17
theorem fxFm17 : (Try.f17.name == "runtime.NumGoroutine") = false := by kernel_rfl
theorem fxFb17 : (Try.f17.name == "runtime.NumGoroutine" || Try.f17.body.isNone) = false := by kernel_rfl
theorem fxFi17 : Try.f17.body.isNone = false := by kernel_rfl
theorem fxFj17 : (Try.f17.body = none) = False := eq_false (fun h => by have := fxFi17; rw [h] at this; cases this)
theorem fxFn18 : Try.prog.funcs[(18 : Nat)]? = some Try.f18 := Try.func18
theorem fxFm18 : (Try.f18.name == "runtime.NumGoroutine") = false := by kernel_rfl
theorem fxFb18 : (Try.f18.name == "runtime.NumGoroutine" || Try.f18.body.isNone) = false := by kernel_rfl
theorem fxFi18 : Try.f18.body.isNone = false := by kernel_rfl
theorem fxFj18 : (Try.f18.body = none) = False := eq_false (fun h => by have := fxFi18; rw [h] at this; cases this)
theorem fxFn19 : Try.prog.funcs[(19 : Nat)]? = some Try.f19 := Try.func19
theorem fxFm19 : (Try.f19.name == "runtime.NumGoroutine") = false := by kernel_rfl
theorem fxFb19 : (Try.f19.name == "runtime.NumGoroutine" || Try.f19.body.isNone) = false := by kernel_rfl
theorem fxFi19 : Try.f19.body.isNone = false := by kernel_rfl
theorem fxFj19 : (Try.f19.body = none) = False := eq_false (fun h => by have := fxFi19; rw [h] at this; cases this)
theorem fxFn20 : Try.prog.funcs[(20 : Nat)]? = some Try.f20 := Try.func20
theorem fxFm20 : (Try.f20.name == "runtime.NumGoroutine") = false := by kernel_rfl
theorem fxFb20 : (Try.f20.name == "runtime.NumGoroutine" || Try.f20.body.isNone) = false := by kernel_rfl
theorem fxFi20 : Try.f20.body.isNone = false := by kernel_rfl
theorem fxFj20 : (Try.f20.body = none) = False := eq_false (fun h => by have := fxFi20; rw [h] at this; cases this)
theorem fxFn21 : Try.prog.funcs[(21 : Nat)]? = some Try.f21 := Try.func21
theorem fxFm21 : (Try.f21.name == "runtime.NumGoroutine") = false := by kernel_rfl
theorem fxFb21 : (Try.f21.name == "runtime.NumGoroutine" || Try.f21.body.isNone) = false := by kernel_rfl
theorem fxFi21 : Try.f21.body.isNone = false := by kernel_rfl
theorem fxFj21 : (Try.f21.body = none) = False := eq_false (fun h => by have := fxFi21; rw [h] at this; cases this)
theorem fxFn22 : Try.prog.funcs[(22 : Nat)]? = some Try.f22 := Try.func22
theorem fxFm22 : (Try.f22.name == "runtime.NumGoroutine") = false := by kernel_rfl
theorem fxFb22 : (Try.f22.name == "runtime.NumGoroutine" || Try.f22.body.isNone) = false := by kernel_rfl
theorem fxFi22 : Try.f22.body.isNone = false := by kernel_rfl
theorem fxFj22 : (Try.f22.body = none) = False := eq_false (fun h => by have := fxFi22; rw [h] at this; cases this)
theorem fxFn23 : Try.prog.funcs[(23 : Nat)]? = some Try.f23 := Try.func23
theorem fxFm23 : (Try.f23.name == "runtime.NumGoroutine") = false := by kernel_rfl
theorem fxFb23 : (Try.f23.name == "runtime.NumGoroutine" || Try.f23.body.isNone) = false := by kernel_rfl
theorem fxFi23 : Try.f23.body.isNone = false := by kernel_rfl
theorem fxFj23 : (Try.f23.body = none) = False := eq_false (fun h => by have := fxFi23; rw [h] at this; cases this)
theorem fxFn24 : Try.prog.funcs[(24 : Nat)]? = some Try.f24 := Try.func24
theorem fxFm24 : (Try.f24.name == "runtime.NumGoroutine") = false := by kernel_rfl
theorem fxFb24 : (Try.f24.name == "runtime.NumGoroutine" || Try.f24.body.isNone) = false := by kernel_rfl
theorem fxFi24 : Try.f24.body.isNone = false := by kernel_rfl
theorem fxFj24 : (Try.f24.body = none) = False := eq_false (fun h => by have := fxFi24; rw [h] at this; cases this)
theorem fxFn25 : Try.prog.funcs[(25 : Nat)]? = some Try.f25 := Try.func25
theorem fxFm25 : (Try.f25.name == "runtime.NumGoroutine") = false := by kernel_rfl
theorem fxFb25 : (Try.f25.name == "runtime.NumGoroutine" || Try.f25.body.isNone) = false := by kernel_rfl
theorem fxFi25 : Try.f25.body.isNone = false := by kernel_rfl
theorem fxFj25 : (Try.f25.body = none) = False := eq_false (fun h => by have := fxFi25; rw [h] at this; cases this)
theorem fxFn26 : Try.prog.funcs[(26 : Nat)]? = some Try.f26 := Try.func26
theorem fxFm26 : (Try.f26.name == "runtime.NumGoroutine") = false := by kernel_rfl
theorem fxFb26 : (Try.f26.name == "runtime.NumGoroutine" || Try.f26.body.isNone) = false := by kernel_rfl
theorem fxFi26 : Try.f26.body.isNone = false := by kernel_rfl
theorem fxFj26 : (Try.f26.body = none) = False := eq_false (fun h => by have := fxFi26; rw [h] at this; cases this)
theorem fxFn27 : Try.prog.funcs[(27 : Nat)]? = some Try.f27 := Try.func27
theorem fxFm27 : (Try.f27.name == "runtime.NumGoroutine") = false := by kernel_rfl
theorem fxFb27 : (Try.f27.name == "runtime.NumGoroutine" || Try.f27.body.isNone) = false := by kernel_rfl
theorem fxFi27 : Try.f27.body.isNone = false := by kernel_rfl
theorem fxFj27 : (Try.f27.body = none) = False := eq_false (fun h => by have := fxFi27; rw [h] at this; cases this)
theorem fxFn28 : Try.prog.funcs[(28 : Nat)]? = some Try.f28 := Try.func28
theorem fxFm28 : (Try.f28.name == "runtime.NumGoroutine") = false := by kernel_rfl
theorem fxFb28 : (Try.f28.name == "runtime.NumGoroutine" || Try.f28.body.isNone) = false := by kernel_rfl
theorem fxFi28 : Try.f28.body.isNone = false := by kernel_rfl
theorem fxFj28 : (Try.f28.body = none) = False := eq_false (fun h => by have := fxFi28; rw [h] at this; cases this)
theorem fxFn29 : Try.prog.funcs[(29 : Nat)]? = some Try.f29 := Try.func29
theorem fxFm29 : (Try.f29.name == "runtime.NumGoroutine") = false := by kernel_rfl
theorem fxFb29 : (Try.f29.name == "runtime.NumGoroutine" || Try.f29.body.isNone) = false := by kernel_rfl
theorem fxFi29 : Try.f29.body.isNone = false := by kernel_rfl
theorem fxFj29 : (Try.f29.body = none) = False := eq_false (fun h => by have := fxFi29; rw [h] at this; cases this)
theorem fxFn30 : Try.prog.funcs[(30 : Nat)]? = some Try.f30 := Try.func30
theorem fxFm30 : (Try.f30.name == "runtime.NumGoroutine") = false := by kernel_rfl
theorem fxFb30 : (Try.f30.name == "runtime.NumGoroutine" || Try.f30.body.isNone) = false := by kernel_rfl
theorem fxFi30 : Try.f30.body.isNone = false := by kernel_rfl
theorem fxFj30 : (Try.f30.body = none) = False := eq_false (fun h => by have := fxFi30; rw [h] at this; cases this)
theorem fxFn31 : Try.prog.funcs[(31 : Nat)]? = some Try.f31 := Try.func31
theorem fxFm31 : (Try.f31.name == "runtime.NumGoroutine") = false := by kernel_rfl
theorem fxFb31 : (Try.f31.name == "runtime.NumGoroutine" || Try.f31.body.isNone) = false := by kernel_rfl
theorem fxFi31 : Try.f31.body.isNone = false := by kernel_rfl
theorem fxFj31 : (Try.f31.body = none) = False := eq_false (fun h => by have := fxFi31; rw [h] at this; cases this)
theorem fxFn32 : Try.prog.funcs[(32 : Nat)]? = some Try.f32 := Try.func32
theorem fxFm32 : (Try.f32.name == "runtime.NumGoroutine") = false := by kernel_rfl
theorem fxFb32 : (Try.f32.name == "runtime.NumGoroutine" || Try.f32.body.isNone) = false := by kernel_rfl
theorem fxFi32 : Try.f32.body.isNone = false := by kernel_rfl
theorem fxFj32 : (Try.f32.body = none) = False := eq_false (fun h => by have := fxFi32; rw [h] at this; cases this)
theorem fxFn33 : Try.prog.funcs[(33 : Nat)]? = some Try.f33 := Try.func33
theorem fxFm33 : (Try.f33.name == "runtime.NumGoroutine") = false := by kernel_rfl
theorem fxFb33 : (Try.f33.name == "runtime.NumGoroutine" || Try.f33.body.isNone) = false := by kernel_rfl
theorem fxFi33 : Try.f33.body.isNone = false := by kernel_rfl
theorem fxFj33 : (Try.f33.body = none) = False := eq_false (fun h => by have := fxFi33; rw [h] at this; cases this)
theorem fxFn34 : Try.prog.funcs[(34 : Nat)]? = some Try.f34 := Try.func34
theorem fxFm34 : (Try.f34.name == "runtime.NumGoroutine") = false := by kernel_rfl
theorem fxFb34 : (Try.f34.name == "runtime.NumGoroutine" || Try.f34.body.isNone) = false := by kernel_rfl
theorem fxFi34 : Try.f34.body.isNone = false := by kernel_rfl
theorem fxFj34 : (Try.f34.body = none) = False := eq_false (fun h => by have := fxFi34; rw [h] at this; cases this)
theorem fxFn35 : Try.prog.funcs[(35 : Nat)]? = some Try.f35 := Try.func35
theorem fxFm35 : (Try.f35.name == "runtime.NumGoroutine") = false := by kernel_rfl
theorem fxFb35 : (Try.f35.name == "runtime.NumGoroutine" || Try.f35.body.isNone) = false := by kernel_rfl
theorem fxFi35 : Try.f35.body.isNone = false := by kernel_rfl
theorem fxFj35 : (Try.f35.body = none) = False := eq_false (fun h => by have := fxFi35; rw [h] at this; cases this)
theorem fxFn36 : Try.prog.funcs[(36 : Nat)]? = some Try.f36 := Try.func36
theorem fxFm36 : (Try.f36.name == "runtime.NumGoroutine") = false := by kernel_rfl
theorem fxFb36 : (Try.f36.name == "runtime.NumGoroutine" || Try.f36.body.isNone) = false := by kernel_rfl
theorem fxFi36 : Try.f36.body.isNone = false := by kernel_rfl
theorem fxFj36 : (Try.f36.body = none) = False := eq_false (fun h => by have := fxFi36; rw [h] at this; cases this)
theorem fxFn37 : Try.prog.funcs[(37 : Nat)]? = some Try.f37 := Try.func37
theorem fxFm37 : (Try.f37.name == "runtime.NumGoroutine") = false := by kernel_rfl
theorem fxFb37 : (Try.f37.name == "runtime.NumGoroutine" || Try.f37.body.isNone) = false := by kernel_rfl
theorem fxFi37 : Try.f37.body.isNone = false := by kernel_rfl
theorem fxFj37 : (Try.f37.body = none) = False := eq_false (fun h => by have := fxFi37; rw [h] at this; cases this)
theorem fxFn38 : Try.prog.funcs[(38 : Nat)]? = some Try.f38 := Try.func38
theorem fxFm38 : (Try.f38.name == "runtime.NumGoroutine") = false := by kernel_rfl
theorem fxFb38 : (Try.f38.name == "runtime.NumGoroutine" || Try.f38.body.isNone) = false := by kernel_rfl
theorem fxFi38 : Try.f38.body.isNone = false := by kernel_rfl
theorem fxFj38 : (Try.f38.body = none) = False := eq_false (fun h => by have := fxFi38; rw [h] at this; cases this)
theorem fxFn39 : Try.prog.funcs[(39 : Nat)]? = some Try.f39 := Try.func39
theorem fxFm39 : (Try.f39.name == "runtime.NumGoroutine") = false := by kernel_rfl
theorem fxFb39 : (Try.f39.name == "runtime.NumGoroutine" || Try.f39.body.isNone) = false := by kernel_rfl
theorem fxFi39 : Try.f39.body.isNone = false := by kernel_rfl
theorem fxFj39 : (Try.f39.body = none) = False := eq_false (fun h => by have := fxFi39; rw [h] at this; cases this)
theorem fxFn40 : Try.prog.funcs[(40 : Nat)]? = some Try.f40 := Try.func40
theorem fxFm40 : (Try.f40.name == "runtime.NumGoroutine") = false := by kernel_rfl
theorem fxFb40 : (Try.f40.name == "runtime.NumGoroutine" || Try.f40.body.isNone) = false := by kernel_rfl
theorem fxFi40 : Try.f40.body.isNone = false := by kernel_rfl
theorem fxFj40 : (Try.f40.body = none) = False := eq_false (fun h => by have := fxFi40; rw [h] at this; cases this)
theorem fxFn41 : Try.prog.funcs[(41 : Nat)]? = some Try.f41 := Try.func41
theorem fxFm41 : (Try.f41.name == "runtime.NumGoroutine") = false := by kernel_rfl
theorem fxFb41 : (Try.f41.name == "runtime.NumGoroutine" || Try.f41.body.isNone) = false := by kernel_rfl
theorem fxFi41 : Try.f41.body.isNone = false := by kernel_rfl
theorem fxFj41 : (Try.f41.body = none) = False := eq_false (fun h => by have := fxFi41; rw [h] at this; cases this)
theorem fxFn42 : Try.prog.funcs[(42 : Nat)]? = some Try.f42 := Try.func42
theorem fxFm42 : (Try.f42.name == "runtime.NumGoroutine") = false := by kernel_rfl
theorem fxFb42 : (Try.f42.name == "runtime.NumGoroutine" || Try.f42.body.isNone) = false := by kernel_rfl
theorem fxFi42 : Try.f42.body.isNone = false := by kernel_rfl
theorem fxFj42 : (Try.f42.body = none) = False := eq_false (fun h => by have := fxFi42; rw [h] at this; cases this)
theorem fxFn43 : Try.prog.funcs[(43 : Nat)]? = some Try.f43 := Try.func43
theorem fxFm43 : (Try.f43.name == "runtime.NumGoroutine") = false := by kernel_rfl
theorem fxFb43 : (Try.f43.name == "runtime.NumGoroutine" || Try.f43.body.isNone) = false := by kernel_rfl
theorem fxFi43 : Try.f43.body.isNone = false := by kernel_rfl
theorem fxFj43 : (Try.f43.body = none) = False := eq_false (fun h => by have := fxFi43; rw [h] at this; cases this)
theorem fxFn44 : Try.prog.funcs[(44 : Nat)]? = some Try.f44 := Try.func44
theorem fxFm44 : (Try.f44.name == "runtime.NumGoroutine") = false := by kernel_rfl
theorem fxFb44 : (Try.f44.name == "runtime.NumGoroutine" || Try.f44.body.isNone) = false := by kernel_rfl
theorem fxFi44 : Try.f44.body.isNone = false := by kernel_rfl
theorem fxFj44 : (Try.f44.body = none) = False := eq_false (fun h => by have := fxFi44; rw [h] at this; cases this)
theorem fxFn45 : Try.prog.funcs[(45 : Nat)]? = some Try.f45 := Try.func45
theorem fxFm45 : (Try.f45.name == "runtime.NumGoroutine") = false := by kernel_rfl
theorem fxFb45 : (Try.f45.name == "runtime.NumGoroutine" || Try.f45.body.isNone) = false := by kernel_rfl
theorem fxFi45 : Try.f45.body.isNone = false := by kernel_rfl
theorem fxFj45 : (Try.f45.body = none) = False := eq_false (fun h => by have := fxFi45; rw [h] at this; cases this)
theorem fxFn46 : Try.prog.funcs[(46 : Nat)]? = some Try.f46 := Try.func46
theorem fxFm46 : (Try.f46.name == "runtime.NumGoroutine") = false := by kernel_rfl
theorem fxFb46 : (Try.f46.name == "runtime.NumGoroutine" || Try.f46.body.isNone) = false := by kernel_rfl
theorem fxFi46 : Try.f46.body.isNone = false := by kernel_rfl
theorem fxFj46 : (Try.f46.body = none) = False := eq_false (fun h => by have := fxFi46; rw [h] at this; cases this)
theorem fxFn47 : Try.prog.funcs[(47 : Nat)]? = some Try.f47 := Try.func47
theorem fxFm47 : (Try.f47.name == "runtime.NumGoroutine") = false := by kernel_rfl
theorem fxFb47 : (Try.f47.name == "runtime.NumGoroutine" || Try.f47.body.isNone) = false := by kernel_rfl
theorem fxFi47 : Try.f47.body.isNone = false := by kernel_rfl
theorem fxFj47 : (Try.f47.body = none) = False := eq_false (fun h => by have := fxFi47; rw [h] at this; cases this)
theorem fxFn48 : Try.prog.funcs[(48 : Nat)]? = some Try.f48 := Try.func48
theorem fxFm48 : (Try.f48.name == "runtime.NumGoroutine") = false := by kernel_rfl
theorem fxFb48 : (Try.f48.name == "runtime.NumGoroutine" || Try.f48.body.isNone) = false := by kernel_rfl
theorem fxFi48 : Try.f48.body.isNone = false := by kernel_rfl
theorem fxFj48 : (Try.f48.body = none) = False := eq_false (fun h => by have := fxFi48; rw [h] at this; cases this)
theorem fxFn49 : Try.prog.funcs[(49 : Nat)]? = some Try.f49 := Try.func49
theorem fxFm49 : (Try.f49.name == "runtime.NumGoroutine") = false := by kernel_rfl
theorem fxFb49 : (Try.f49.name == "runtime.NumGoroutine" || Try.f49.body.isNone) = false := by kernel_rfl
theorem fxFi49 : Try.f49.body.isNone = false := by kernel_rfl
theorem fxFj49 : (Try.f49.body = none) = False := eq_false (fun h => by have := fxFi49; rw [h] at this; cases this)
theorem fxFn50 : Try.prog.funcs[(50 : Nat)]? = some Try.f50 := Try.func50
theorem fxFm50 : (Try.f50.name == "runtime.NumGoroutine") = false := by kernel_rfl
theorem fxFb50 : (Try.f50.name == "runtime.NumGoroutine" || Try.f50.body.isNone) = false := by kernel_rfl
theorem fxFi50 : Try.f50.body.isNone = false := by kernel_rfl
theorem fxFj50 : (Try.f50.body = none) = False := eq_false (fun h => by have := fxFi50; rw [h] at this; cases this)
theorem fxFn51 : Try.prog.funcs[(51 : Nat)]? = some Try.f51 := Try.func51
theorem fxFm51 : (Try.f51.name == "runtime.NumGoroutine") = false := by kernel_rfl
theorem fxFb51 : (Try.f51.name == "runtime.NumGoroutine" || Try.f51.body.isNone) = false := by kernel_rfl
theorem fxFi51 : Try.f51.body.isNone = false := by kernel_rfl
theorem fxFj51 : (Try.f51.body = none) = False := eq_false (fun h => by have := fxFi51; rw [h] at this; cases this)
theorem fxFn52 : Try.prog.funcs[(52 : Nat)]? = some Try.f52 := Try.func52
theorem fxFm52 : (Try.f52.name == "runtime.NumGoroutine") = false := by kernel_rfl
theorem fxFb52 : (Try.f52.name == "runtime.NumGoroutine" || Try.f52.body.isNone) = false := by kernel_rfl
theorem fxFi52 : Try.f52.body.isNone = false := by kernel_rfl
theorem fxFj52 : (Try.f52.body = none) = False := eq_false (fun h => by have := fxFi52; rw [h] at this; cases this)
theorem fxFn53 : Try.prog.funcs[(53 : Nat)]? = some Try.f53 := Try.func53
theorem fxFm53 : (Try.f53.name == "runtime.NumGoroutine") = false := by kernel_rfl
theorem fxFb53 : (Try.f53.name == "runtime.NumGoroutine" || Try.f53.body.isNone) = false := by kernel_rfl
theorem fxFi53 : Try.f53.body.isNone = false := by kernel_rfl
theorem fxFj53 : (Try.f53.body = none) = False := eq_false (fun h => by have := fxFi53; rw [h] at this; cases this)
theorem fxFn54 : Try.prog.funcs[(54 : Nat)]? = some Try.f54 := Try.func54
theorem fxFm54 : (Try.f54.name == "runtime.NumGoroutine") = false := by kernel_rfl
theorem fxFb54 : (Try.f54.name == "runtime.NumGoroutine" || Try.f54.body.isNone) = false := by kernel_rfl
theorem fxFi54 : Try.f54.body.isNone = false := by kernel_rfl
theorem fxFj54 : (Try.f54.body = none) = False := eq_false (fun h => by have := fxFi54; rw [h] at this; cases this)
theorem fxFn55 : Try.prog.funcs[(55 : Nat)]? = some Try.f55 := Try.func55
theorem fxFm55 : (Try.f55.name == "runtime.NumGoroutine") = false := by kernel_rfl
theorem fxFb55 : (Try.f55.name == "runtime.NumGoroutine" || Try.f55.body.isNone) = false := by kernel_rfl
theorem fxFi55 : Try.f55.body.isNone = false := by kernel_rfl
theorem fxFj55 : (Try.f55.body = none) = False := eq_false (fun h => by have := fxFi55; rw [h] at this; cases this)
theorem fxFn56 : Try.prog.funcs[(56 : Nat)]? = some Try.f56 := Try.func56
theorem fxFm56 : (Try.f56.name == "runtime.NumGoroutine") = false := by kernel_rfl
theorem fxFn57 : Try.prog.funcs[(57 : Nat)]? = some Try.f57 := Try.func57
theorem fxFm57 : (Try.f57.name == "runtime.NumGoroutine") = false := by kernel_rfl
theorem fxFb57 : (Try.f57.name == "runtime.NumGoroutine" || Try.f57.body.isNone) = false := by kernel_rfl
theorem fxFi57 : Try.f57.body.isNone = false := by kernel_rfl
theorem fxFj57 : (Try.f57.body = none) = False := eq_false (fun h => by have := fxFi57; rw [h] at this; cases this)
theorem fxFn58 : Try.prog.funcs[(58 : Nat)]? = some Try.f58 := Try.func58
theorem fxFm58 : (Try.f58.name == "runtime.NumGoroutine") = false := by kernel_rfl
theorem fxFb58 : (Try.f58.name == "runtime.NumGoroutine" || Try.f58.body.isNone) = false := by kernel_rfl
theorem fxFi58 : Try.f58.body.isNone = false := by kernel_rfl
theorem fxFj58 : (Try.f58.body = none) = False := eq_false (fun h => by have := fxFi58; rw [h] at this; cases this)
theorem fxFn59 : Try.prog.funcs[(59 : Nat)]? = some Try.f59 := Try.func59
theorem fxFm59 : (Try.f59.name == "runtime.NumGoroutine") = false := by kernel_rfl
theorem fxFn60 : Try.prog.funcs[(60 : Nat)]? = some Try.f60 := Try.func60
theorem fxFm60 : (Try.f60.name == "runtime.NumGoroutine") = false := by kernel_rfl
theorem fxFb60 : (Try.f60.name == "runtime.NumGoroutine" || Try.f60.body.isNone) = false := by kernel_rfl
theorem fxFi60 : Try.f60.body.isNone = false := by kernel_rfl
theorem fxFj60 : (Try.f60.body = none) = False := eq_false (fun h => by have := fxFi60; rw [h] at this; cases this)
theorem fxFn61 : Try.prog.funcs[(61 : Nat)]? = some Try.f61 := Try.func61
theorem fxFm61 : (Try.f61.name == "runtime.NumGoroutine") = false := by kernel_rfl
theorem fxFb61 : (Try.f61.name == "runtime.NumGoroutine" || Try.f61.body.isNone) = false := by kernel_rfl
theorem fxFi61 : Try.f61.body.isNone = false := by kernel_rfl
theorem fxFj61 : (Try.f61.body = none) = False := eq_false (fun h => by have := fxFi61; rw [h] at this; cases this)
theorem fxFn62 : Try.prog.funcs[(62 : Nat)]? = some Try.f62 := Try.func62
theorem fxFm62 : (Try.f62.name == "runtime.NumGoroutine") = false := by kernel_rfl
theorem fxFb62 : (Try.f62.name == "runtime.NumGoroutine" || Try.f62.body.isNone) = false := by kernel_rfl
theorem fxFi62 : Try.f62.body.isNone = false := by kernel_rfl
theorem fxFj62 : (Try.f62.body = none) = False := eq_false (fun h => by have := fxFi62; rw [h] at this; cases this)
theorem fxFn63 : Try.prog.funcs[(63 : Nat)]? = some Try.f63 := Try.func63
theorem fxFm63 : (Try.f63.name == "runtime.NumGoroutine") = false := by kernel_rfl
theorem fxFb63 : (Try.f63.name == "runtime.NumGoroutine" || Try.f63.body.isNone) = false := by kernel_rfl
theorem fxFi63 : Try.f63.body.isNone = false := by kernel_rfl
theorem fxFj63 : (Try.f63.body = none) = False := eq_false (fun h => by have := fxFi63; rw [h] at this; cases this)
theorem fxFn64 : Try.prog.funcs[(64 : Nat)]? = some Try.f64 := Try.func64
theorem fxFm64 : (Try.f64.name == "runtime.NumGoroutine") = false := by kernel_rfl
theorem fxFb64 : (Try.f64.name == "runtime.NumGoroutine" || Try.f64.body.isNone) = false := by kernel_rfl
theorem fxFi64 : Try.f64.body.isNone = false := by kernel_rfl
theorem fxFj64 : (Try.f64.body = none) = False := eq_false (fun h => by have := fxFi64; rw [h] at this; cases this)
theorem fxFn65 : Try.prog.funcs[(65 : Nat)]? = some Try.f65 := Try.func65
theorem fxFm65 : (Try.f65.name == "runtime.NumGoroutine") = false := by kernel_rfl
theorem fxFb65 : (Try.f65.name == "runtime.NumGoroutine" || Try.f65.body.isNone) = false := by kernel_rfl
theorem fxFi65 : Try.f65.body.isNone = false := by kernel_rfl
theorem fxFj65 : (Try.f65.body = none) = False := eq_false (fun h => by have := fxFi65; rw [h] at this; cases this)
theorem fxFn66 : Try.prog.funcs[(66 : Nat)]? = some Try.f66 := Try.func66
theorem fxFm66 : (Try.f66.name == "runtime.NumGoroutine") = false := by kernel_rfl
theorem fxFb66 : (Try.f66.name == "runtime.NumGoroutine" || Try.f66.body.isNone) = false := by kernel_rfl
theorem fxFi66 : Try.f66.body.isNone = false := by kernel_rfl
theorem fxFj66 : (Try.f66.body = none) = False := eq_false (fun h => by have := fxFi66; rw [h] at this; cases this)
end Go.Proofs.Ytfiindblaopaiaa
