/- Facts of the program's tables, each by the kernel. Printed by a program. -/
import Derived.Test.YtibpipgabcpaoaaProg
import Derived.Test.YtibpipgabcpaoaaAiZc
import Derived.KernelRfl
namespace Go.Proofs.Ytibpipgabcpaoaa
open Go.AI
theorem fxMix : Try.prog.follows .mixedOrders = true := by kernel_rfl
theorem fxSz3 : szOf Try.prog 3 = some 1 := by kernel_rfl
theorem fxBy3 : bytesOf Try.prog 3 = some 8 := by kernel_rfl
theorem fxAg3 : aggOf Try.prog 3 = some false := by kernel_rfl
theorem fxZe3 : zeroOf Try.prog 3 = some (.int .i64 0) := by kernel_rfl
theorem fxSl3 : sliceElem Try.prog 3 = none := by kernel_rfl
theorem fxSz4 : szOf Try.prog 4 = some 1 := by kernel_rfl
theorem fxAg4 : aggOf Try.prog 4 = some false := by kernel_rfl
theorem fxSz5 : szOf Try.prog 5 = some 1 := by kernel_rfl
theorem fxBy5 : bytesOf Try.prog 5 = some 1 := by kernel_rfl
theorem fxAg5 : aggOf Try.prog 5 = some false := by kernel_rfl
theorem fxZe5 : zeroOf Try.prog 5 = some (.int .u8 0) := by kernel_rfl
theorem fxSl22 : sliceElem Try.prog 22 = some 3 := by kernel_rfl
theorem fxAr22 : arrayOf Try.prog 22 = none := by kernel_rfl
theorem fxSl23 : sliceElem Try.prog 23 = some 38 := by kernel_rfl
theorem fxAr23 : arrayOf Try.prog 23 = none := by kernel_rfl
theorem fxAg24 : aggOf Try.prog 24 = some false := by kernel_rfl
theorem fxSz31 : szOf Try.prog 31 = some 1 := by kernel_rfl
theorem fxAg31 : aggOf Try.prog 31 = some false := by kernel_rfl
theorem fxZe31 : zeroOf Try.prog 31 = some (.slice none 0 0) := by kernel_rfl
theorem fxSl31 : sliceElem Try.prog 31 = some 5 := by kernel_rfl
theorem fxAr31 : arrayOf Try.prog 31 = none := by kernel_rfl
theorem fxSz34 : szOf Try.prog 34 = some 1 := by kernel_rfl
theorem fxAg34 : aggOf Try.prog 34 = some false := by kernel_rfl
theorem fxAr35 : arrayOf Try.prog 35 = some (8, 34) := by kernel_rfl
theorem fxSz37 : szOf Try.prog 37 = some 10 := by kernel_rfl
theorem fxAg37 : aggOf Try.prog 37 = some true := by kernel_rfl
theorem fxZe37 : zeroOf Try.prog 37 = some (.agg #[.int .u32 0, .int .u32 0, .int .u32 0, .int .u32 0, .int .u32 0, .int .u32 0, .int .u32 0, .int .u32 0, .int .u32 0, .int .i64 0]) := by kernel_rfl
theorem fxFi37x0 : fieldOf Try.prog 37 0 = some (0, 8, 35) := by kernel_rfl
theorem fxFi37x1 : fieldOf Try.prog 37 1 = some (8, 1, 34) := by kernel_rfl
theorem fxFi37x2 : fieldOf Try.prog 37 2 = some (9, 1, 3) := by kernel_rfl
theorem fxPl37 : placesOf Try.prog 37 = some [(0, 8), (8, 1), (9, 1)] := by kernel_rfl
theorem fxSz38 : szOf Try.prog 38 = some 3 := by kernel_rfl
theorem fxAg38 : aggOf Try.prog 38 = some true := by kernel_rfl
theorem fxZe38 : zeroOf Try.prog 38 = some (.agg #[.int .i64 0, .int .i64 0, .int .i64 0]) := by kernel_rfl
theorem fxAr38 : arrayOf Try.prog 38 = some (3, 3) := by kernel_rfl
theorem fxSz47 : szOf Try.prog 47 = some 2 := by kernel_rfl
theorem fxAg47 : aggOf Try.prog 47 = some true := by kernel_rfl
theorem fxZe47 : zeroOf Try.prog 47 = some (.agg #[.int .i64 0, .int .u32 0]) := by kernel_rfl
theorem fxFi47x0 : fieldOf Try.prog 47 0 = some (0, 1, 3) := by kernel_rfl
theorem fxPl47 : placesOf Try.prog 47 = some [(0, 1), (1, 1)] := by kernel_rfl
theorem fxZe51 : zeroOf Try.prog 51 = some (.agg #[.pointer none, .int .i64 0]) := by kernel_rfl
theorem fxFi51x0 : fieldOf Try.prog 51 0 = some (0, 1, 24) := by kernel_rfl
theorem fxFi51x1 : fieldOf Try.prog 51 1 = some (1, 1, 3) := by kernel_rfl
theorem fxPl51 : placesOf Try.prog 51 = some [(0, 1), (1, 1)] := by kernel_rfl
theorem fxAg55 : aggOf Try.prog 55 = some false := by kernel_rfl
theorem fxSz56 : szOf Try.prog 56 = some 1 := by kernel_rfl
theorem fxAg56 : aggOf Try.prog 56 = some false := by kernel_rfl
theorem fxSl56 : sliceElem Try.prog 56 = some 75 := by kernel_rfl
theorem fxAr56 : arrayOf Try.prog 56 = none := by kernel_rfl
theorem fxZe58 : zeroOf Try.prog 58 = some (.agg #[.int .i64 0, .int .i64 0, .int .i64 0, .slice none 0 0, .map none]) := by kernel_rfl
theorem fxFi58x0 : fieldOf Try.prog 58 0 = some (0, 1, 3) := by kernel_rfl
theorem fxFi58x1 : fieldOf Try.prog 58 1 = some (1, 1, 3) := by kernel_rfl
theorem fxFi58x2 : fieldOf Try.prog 58 2 = some (2, 1, 3) := by kernel_rfl
theorem fxFi58x3 : fieldOf Try.prog 58 3 = some (3, 1, 56) := by kernel_rfl
theorem fxFi58x4 : fieldOf Try.prog 58 4 = some (4, 1, 55) := by kernel_rfl
theorem fxPl58 : placesOf Try.prog 58 = some [(0, 1), (1, 1), (2, 1), (3, 1), (4, 1)] := by kernel_rfl
theorem fxSz62 : szOf Try.prog 62 = some 4 := by kernel_rfl
theorem fxAg62 : aggOf Try.prog 62 = some true := by kernel_rfl
theorem fxZe62 : zeroOf Try.prog 62 = some (.agg #[.int .i64 0, .int .i64 0, .int .i64 0, .int .i64 0]) := by kernel_rfl
theorem fxFi62x0 : fieldOf Try.prog 62 0 = some (0, 1, 3) := by kernel_rfl
theorem fxFi62x1 : fieldOf Try.prog 62 1 = some (1, 1, 3) := by kernel_rfl
theorem fxFi62x2 : fieldOf Try.prog 62 2 = some (2, 1, 3) := by kernel_rfl
theorem fxFi62x3 : fieldOf Try.prog 62 3 = some (3, 1, 3) := by kernel_rfl
theorem fxPl62 : placesOf Try.prog 62 = some [(0, 1), (1, 1), (2, 1), (3, 1)] := by kernel_rfl
theorem fxZe65 : zeroOf Try.prog 65 = some (.map none) := by kernel_rfl
theorem fxSl67 : sliceElem Try.prog 67 = some 62 := by kernel_rfl
theorem fxAr67 : arrayOf Try.prog 67 = none := by kernel_rfl
theorem fxSz72 : szOf Try.prog 72 = some 16 := by kernel_rfl
theorem fxAg72 : aggOf Try.prog 72 = some true := by kernel_rfl
theorem fxZe72 : zeroOf Try.prog 72 = some (.agg #[.int .u8 0, .int .u8 0, .int .u8 0, .int .u8 0, .int .u8 0, .int .u8 0, .int .u8 0, .int .u8 0, .int .u8 0, .int .u8 0, .int .u8 0, .int .u8 0, .int .u8 0, .int .u8 0, .int .u8 0, .int .u8 0]) := by kernel_rfl
theorem fxSl72 : sliceElem Try.prog 72 = none := by kernel_rfl
theorem fxAr72 : arrayOf Try.prog 72 = some (16, 5) := by kernel_rfl
theorem fxPl72 : placesOf Try.prog 72 = none := by kernel_rfl
theorem fxSz74 : szOf Try.prog 74 = some 19 := by kernel_rfl
theorem fxZe74 : zeroOf Try.prog 74 = some (.agg #[.int .u8 0, .int .u8 0, .int .u8 0, .int .u8 0, .int .u8 0, .int .u8 0, .int .u8 0, .int .u8 0, .int .u8 0, .int .u8 0, .int .u8 0, .int .u8 0, .int .u8 0, .int .u8 0, .int .u8 0, .int .u8 0, .int .i64 0, .bool false, .int .i64 0]) := by kernel_rfl
theorem fxFi74x0 : fieldOf Try.prog 74 0 = some (0, 16, 72) := by kernel_rfl
theorem fxFi74x1 : fieldOf Try.prog 74 1 = some (16, 1, 3) := by kernel_rfl
theorem fxFi74x2 : fieldOf Try.prog 74 2 = some (17, 1, 4) := by kernel_rfl
theorem fxFi74x3 : fieldOf Try.prog 74 3 = some (18, 1, 3) := by kernel_rfl
theorem fxPl74 : placesOf Try.prog 74 = some [(0, 16), (16, 1), (17, 1), (18, 1)] := by kernel_rfl
theorem fxSz75 : szOf Try.prog 75 = some 1 := by kernel_rfl
theorem fxBy75 : bytesOf Try.prog 75 = some 8 := by kernel_rfl
theorem fxAg75 : aggOf Try.prog 75 = some false := by kernel_rfl
theorem fxZe75 : zeroOf Try.prog 75 = some (.pointer none) := by kernel_rfl
theorem fxSz79 : szOf Try.prog 79 = some 2 := by kernel_rfl
theorem fxAg79 : aggOf Try.prog 79 = some true := by kernel_rfl
theorem fxZe79 : zeroOf Try.prog 79 = some (.agg #[.pointer none, .int .i64 0]) := by kernel_rfl
theorem fxFi79x0 : fieldOf Try.prog 79 0 = some (0, 1, 75) := by kernel_rfl
theorem fxFi79x1 : fieldOf Try.prog 79 1 = some (1, 1, 3) := by kernel_rfl
theorem fxPl79 : placesOf Try.prog 79 = some [(0, 1), (1, 1)] := by kernel_rfl
theorem fxEq47 : eqOkT Try.prog 47 = some [1, 1] := by kernel_rfl
theorem fxCv3x5 {k : IntKind} {a : Int} : asV (pr Try.prog (convert 3 5 (.int k a))) = some (.v (.int .u8 (IntKind.u8.wrap a))) := ev_conv Try.underlying3 Try.underlying5
theorem fxCv3x34 {k : IntKind} {a : Int} : asV (pr Try.prog (convert 3 34 (.int k a))) = some (.v (.int .u32 (IntKind.u32.wrap a))) := ev_conv Try.underlying3 Try.underlying34
theorem fxCv3x70 {k : IntKind} {a : Int} : asV (pr Try.prog (convert 3 70 (.int k a))) = some (.v (.int .u64 (IntKind.u64.wrap a))) := ev_conv Try.underlying3 Try.underlying70
theorem fxCv3x100 {k : IntKind} {a : Int} : asV (pr Try.prog (convert 3 100 (.int k a))) = some (.v (.int .u16 (IntKind.u16.wrap a))) := ev_conv Try.underlying3 Try.underlying100
theorem fxCv5x34 {k : IntKind} {a : Int} : asV (pr Try.prog (convert 5 34 (.int k a))) = some (.v (.int .u32 (IntKind.u32.wrap a))) := ev_conv Try.underlying5 Try.underlying34
theorem fxCv34x3 {k : IntKind} {a : Int} : asV (pr Try.prog (convert 34 3 (.int k a))) = some (.v (.int .i64 (IntKind.i64.wrap a))) := ev_conv Try.underlying34 Try.underlying3
theorem fxCv34x5 {k : IntKind} {a : Int} : asV (pr Try.prog (convert 34 5 (.int k a))) = some (.v (.int .u8 (IntKind.u8.wrap a))) := ev_conv Try.underlying34 Try.underlying5
theorem fxCv34x112 {k : IntKind} {a : Int} : asV (pr Try.prog (convert 34 112 (.int k a))) = some (.v (.int .i16 (IntKind.i16.wrap a))) := ev_conv Try.underlying34 Try.underlying112
theorem fxCv70x3 {k : IntKind} {a : Int} : asV (pr Try.prog (convert 70 3 (.int k a))) = some (.v (.int .i64 (IntKind.i64.wrap a))) := ev_conv Try.underlying70 Try.underlying3
theorem fxCv100x34 {k : IntKind} {a : Int} : asV (pr Try.prog (convert 100 34 (.int k a))) = some (.v (.int .u32 (IntKind.u32.wrap a))) := ev_conv Try.underlying100 Try.underlying34
theorem fxCv112x3 {k : IntKind} {a : Int} : asV (pr Try.prog (convert 112 3 (.int k a))) = some (.v (.int .i64 (IntKind.i64.wrap a))) := ev_conv Try.underlying112 Try.underlying3
theorem fxLn31 : asV (pr Try.prog (Builtin.len_ #[31] 0 #[.slice none 0 0])) = some (.v (.int .i64 0)) := ev_lenN Try.underlying31
theorem fxLn56 : asV (pr Try.prog (Builtin.len_ #[56] 0 #[.slice none 0 0])) = some (.v (.int .i64 0)) := ev_lenN Try.underlying56
theorem fxFm4 : (Try.f4.name == "runtime.NumGoroutine") = false := by kernel_rfl
theorem fxFm5 : (Try.f5.name == "runtime.NumGoroutine") = false := by kernel_rfl
theorem fxFi5 : Try.f5.body.isNone = false := by kernel_rfl
theorem fxFm6 : (Try.f6.name == "runtime.NumGoroutine") = false := by kernel_rfl
theorem fxFm7 : (Try.f7.name == "runtime.NumGoroutine") = false := by kernel_rfl
theorem fxFm8 : (Try.f8.name == "runtime.NumGoroutine") = false := by kernel_rfl
theorem fxFm9 : (Try.f9.name == "runtime.NumGoroutine") = false := by kernel_rfl
theorem fxFi9 : Try.f9.body.isNone = false := by kernel_rfl
theorem fxFm10 : (Try.f10.name == "runtime.NumGoroutine") = false := by kernel_rfl
theorem fxFm11 : (Try.f11.name == "runtime.NumGoroutine") = false := by kernel_rfl
theorem fxFm12 : (Try.f12.name == "runtime.NumGoroutine") = false := by kernel_rfl
theorem fxFm13 : (Try.f13.name == "runtime.NumGoroutine") = false := by kernel_rfl
theorem fxFm14 : (Try.f14.name == "runtime.NumGoroutine") = false := by kernel_rfl
theorem fxFm15 : (Try.f15.name == "runtime.NumGoroutine") = false := by kernel_rfl
theorem fxFm16 : (Try.f16.name == "runtime.NumGoroutine") = false := by kernel_rfl
theorem fxFm17 : (Try.f17.name == "runtime.NumGoroutine") = false := by kernel_rfl
theorem fxFi17 : Try.f17.body.isNone = false := by kernel_rfl
theorem fxFm18 : (Try.f18.name == "runtime.NumGoroutine") = false := by kernel_rfl
theorem fxFm19 : (Try.f19.name == "runtime.NumGoroutine") = false := by kernel_rfl
theorem fxFi19 : Try.f19.body.isNone = false := by kernel_rfl
theorem fxFm20 : (Try.f20.name == "runtime.NumGoroutine") = false := by kernel_rfl
theorem fxFm21 : (Try.f21.name == "runtime.NumGoroutine") = false := by kernel_rfl
theorem fxFm22 : (Try.f22.name == "runtime.NumGoroutine") = false := by kernel_rfl
theorem fxFm23 : (Try.f23.name == "runtime.NumGoroutine") = false := by kernel_rfl
theorem fxFm24 : (Try.f24.name == "runtime.NumGoroutine") = false := by kernel_rfl
theorem fxFi24 : Try.f24.body.isNone = false := by kernel_rfl
theorem fxFm25 : (Try.f25.name == "runtime.NumGoroutine") = false := by kernel_rfl
theorem fxFi25 : Try.f25.body.isNone = false := by kernel_rfl
theorem fxFm26 : (Try.f26.name == "runtime.NumGoroutine") = false := by kernel_rfl
theorem fxFm27 : (Try.f27.name == "runtime.NumGoroutine") = false := by kernel_rfl
theorem fxFm28 : (Try.f28.name == "runtime.NumGoroutine") = false := by kernel_rfl
theorem fxFi28 : Try.f28.body.isNone = false := by kernel_rfl
theorem fxFm29 : (Try.f29.name == "runtime.NumGoroutine") = false := by kernel_rfl
theorem fxFm30 : (Try.f30.name == "runtime.NumGoroutine") = false := by kernel_rfl
theorem fxFm31 : (Try.f31.name == "runtime.NumGoroutine") = false := by kernel_rfl
theorem fxFm32 : (Try.f32.name == "runtime.NumGoroutine") = false := by kernel_rfl
theorem fxFm33 : (Try.f33.name == "runtime.NumGoroutine") = false := by kernel_rfl
theorem fxFi33 : Try.f33.body.isNone = false := by kernel_rfl
theorem fxFm34 : (Try.f34.name == "runtime.NumGoroutine") = false := by kernel_rfl
theorem fxFi34 : Try.f34.body.isNone = false := by kernel_rfl
theorem fxFm35 : (Try.f35.name == "runtime.NumGoroutine") = false := by kernel_rfl
theorem fxFm36 : (Try.f36.name == "runtime.NumGoroutine") = false := by kernel_rfl
theorem fxFm37 : (Try.f37.name == "runtime.NumGoroutine") = false := by kernel_rfl
theorem fxFm38 : (Try.f38.name == "runtime.NumGoroutine") = false := by kernel_rfl
theorem fxFm39 : (Try.f39.name == "runtime.NumGoroutine") = false := by kernel_rfl
theorem fxFi39 : Try.f39.body.isNone = false := by kernel_rfl
theorem fxFm40 : (Try.f40.name == "runtime.NumGoroutine") = false := by kernel_rfl
theorem fxFi40 : Try.f40.body.isNone = false := by kernel_rfl
theorem fxFm41 : (Try.f41.name == "runtime.NumGoroutine") = false := by kernel_rfl
theorem fxFi41 : Try.f41.body.isNone = false := by kernel_rfl
theorem fxFm42 : (Try.f42.name == "runtime.NumGoroutine") = false := by kernel_rfl
theorem fxFm45 : (Try.f45.name == "runtime.NumGoroutine") = false := by kernel_rfl
theorem fxFi45 : Try.f45.body.isNone = false := by kernel_rfl
theorem fxFm46 : (Try.f46.name == "runtime.NumGoroutine") = false := by kernel_rfl
theorem fxFi46 : Try.f46.body.isNone = false := by kernel_rfl
theorem fxFm47 : (Try.f47.name == "runtime.NumGoroutine") = false := by kernel_rfl
theorem fxFm48 : (Try.f48.name == "runtime.NumGoroutine") = false := by kernel_rfl
theorem fxFm49 : (Try.f49.name == "runtime.NumGoroutine") = false := by kernel_rfl
theorem fxFi49 : Try.f49.body.isNone = false := by kernel_rfl
theorem fxFm50 : (Try.f50.name == "runtime.NumGoroutine") = false := by kernel_rfl
theorem fxFm51 : (Try.f51.name == "runtime.NumGoroutine") = false := by kernel_rfl
theorem fxFm52 : (Try.f52.name == "runtime.NumGoroutine") = false := by kernel_rfl
theorem fxFi52 : Try.f52.body.isNone = false := by kernel_rfl
theorem fxFm64 : (Try.f64.name == "runtime.NumGoroutine") = false := by kernel_rfl
theorem fxFi64 : Try.f64.body.isNone = false := by kernel_rfl
theorem fxFm87 : (Try.f87.name == "runtime.NumGoroutine") = false := by kernel_rfl
theorem fxFm88 : (Try.f88.name == "runtime.NumGoroutine") = false := by kernel_rfl
theorem fxFm89 : (Try.f89.name == "runtime.NumGoroutine") = false := by kernel_rfl
end Go.Proofs.Ytibpipgabcpaoaa
