/- Facts of the program's tables, each by the kernel. Printed by a program. -/
import Derived.Test.YtegjbfcgbfnldabProg
import Derived.Test.YtegjbfcgbfnldabAiZc
import Derived.KernelRfl
namespace Go.Proofs.Ytegjbfcgbfnldab
open Go.AI
theorem fxMix : Try.prog.follows .mixedOrders = true := by kernel_rfl
theorem fxSz3 : szOf Try.prog 3 = some 1 := by kernel_rfl
theorem fxBy3 : bytesOf Try.prog 3 = some 8 := by kernel_rfl
theorem fxAg3 : aggOf Try.prog 3 = some false := by kernel_rfl
theorem fxZe3 : zeroOf Try.prog 3 = some (.int .i64 0) := by kernel_rfl
theorem fxSz4 : szOf Try.prog 4 = some 1 := by kernel_rfl
theorem fxAg4 : aggOf Try.prog 4 = some false := by kernel_rfl
theorem fxSz5 : szOf Try.prog 5 = some 1 := by kernel_rfl
theorem fxBy5 : bytesOf Try.prog 5 = some 1 := by kernel_rfl
theorem fxAg5 : aggOf Try.prog 5 = some false := by kernel_rfl
theorem fxZe5 : zeroOf Try.prog 5 = some (.int .u8 0) := by kernel_rfl
theorem fxSl22 : sliceElem Try.prog 22 = some 25 := by kernel_rfl
theorem fxAr22 : arrayOf Try.prog 22 = none := by kernel_rfl
theorem fxSz23 : szOf Try.prog 23 = some 1 := by kernel_rfl
theorem fxBy23 : bytesOf Try.prog 23 = some 24 := by kernel_rfl
theorem fxAg23 : aggOf Try.prog 23 = some false := by kernel_rfl
theorem fxZe23 : zeroOf Try.prog 23 = some (.slice none 0 0) := by kernel_rfl
theorem fxSl23 : sliceElem Try.prog 23 = some 5 := by kernel_rfl
theorem fxAr23 : arrayOf Try.prog 23 = none := by kernel_rfl
theorem fxSz25 : szOf Try.prog 25 = some 6 := by kernel_rfl
theorem fxAg25 : aggOf Try.prog 25 = some true := by kernel_rfl
theorem fxZe25 : zeroOf Try.prog 25 = some (.agg #[.int .i64 0, .int .i64 0, .int .i64 0, .int .i64 0, .int .i64 0, .slice none 0 0]) := by kernel_rfl
theorem fxFi25x0 : fieldOf Try.prog 25 0 = some (0, 1, 3) := by kernel_rfl
theorem fxFi25x1 : fieldOf Try.prog 25 1 = some (1, 1, 3) := by kernel_rfl
theorem fxFi25x2 : fieldOf Try.prog 25 2 = some (2, 1, 3) := by kernel_rfl
theorem fxFi25x3 : fieldOf Try.prog 25 3 = some (3, 1, 3) := by kernel_rfl
theorem fxFi25x4 : fieldOf Try.prog 25 4 = some (4, 1, 3) := by kernel_rfl
theorem fxFi25x5 : fieldOf Try.prog 25 5 = some (5, 1, 23) := by kernel_rfl
theorem fxSl30 : sliceElem Try.prog 30 = some 3 := by kernel_rfl
theorem fxAr30 : arrayOf Try.prog 30 = none := by kernel_rfl
theorem fxSl32 : sliceElem Try.prog 32 = some 23 := by kernel_rfl
theorem fxAr32 : arrayOf Try.prog 32 = none := by kernel_rfl
theorem fxSz37 : szOf Try.prog 37 = some 1 := by kernel_rfl
theorem fxAg37 : aggOf Try.prog 37 = some false := by kernel_rfl
theorem fxZe37 : zeroOf Try.prog 37 = some (.int .i64 0) := by kernel_rfl
theorem fxSz48 : szOf Try.prog 48 = some 1 := by kernel_rfl
theorem fxAg48 : aggOf Try.prog 48 = some false := by kernel_rfl
theorem fxSl48 : sliceElem Try.prog 48 = some 64 := by kernel_rfl
theorem fxAr48 : arrayOf Try.prog 48 = none := by kernel_rfl
theorem fxAg49 : aggOf Try.prog 49 = some false := by kernel_rfl
theorem fxZe51 : zeroOf Try.prog 51 = some (.agg #[.int .i64 0, .int .i64 0, .int .i64 0, .slice none 0 0, .map none]) := by kernel_rfl
theorem fxFi51x0 : fieldOf Try.prog 51 0 = some (0, 1, 3) := by kernel_rfl
theorem fxFi51x1 : fieldOf Try.prog 51 1 = some (1, 1, 3) := by kernel_rfl
theorem fxFi51x2 : fieldOf Try.prog 51 2 = some (2, 1, 3) := by kernel_rfl
theorem fxFi51x3 : fieldOf Try.prog 51 3 = some (3, 1, 48) := by kernel_rfl
theorem fxFi51x4 : fieldOf Try.prog 51 4 = some (4, 1, 49) := by kernel_rfl
theorem fxPl51 : placesOf Try.prog 51 = some [(0, 1), (1, 1), (2, 1), (3, 1), (4, 1)] := by kernel_rfl
theorem fxZe63 : zeroOf Try.prog 63 = some (.map none) := by kernel_rfl
theorem fxSz64 : szOf Try.prog 64 = some 1 := by kernel_rfl
theorem fxBy64 : bytesOf Try.prog 64 = some 8 := by kernel_rfl
theorem fxAg64 : aggOf Try.prog 64 = some false := by kernel_rfl
theorem fxZe64 : zeroOf Try.prog 64 = some (.pointer none) := by kernel_rfl
theorem fxSz66 : szOf Try.prog 66 = some 2 := by kernel_rfl
theorem fxAg66 : aggOf Try.prog 66 = some true := by kernel_rfl
theorem fxZe66 : zeroOf Try.prog 66 = some (.agg #[.pointer none, .int .i64 0]) := by kernel_rfl
theorem fxFi66x0 : fieldOf Try.prog 66 0 = some (0, 1, 64) := by kernel_rfl
theorem fxFi66x1 : fieldOf Try.prog 66 1 = some (1, 1, 3) := by kernel_rfl
theorem fxPl66 : placesOf Try.prog 66 = some [(0, 1), (1, 1)] := by kernel_rfl
theorem fxSz69 : szOf Try.prog 69 = some 16 := by kernel_rfl
theorem fxAg69 : aggOf Try.prog 69 = some true := by kernel_rfl
theorem fxZe69 : zeroOf Try.prog 69 = some (.agg #[.int .u8 0, .int .u8 0, .int .u8 0, .int .u8 0, .int .u8 0, .int .u8 0, .int .u8 0, .int .u8 0, .int .u8 0, .int .u8 0, .int .u8 0, .int .u8 0, .int .u8 0, .int .u8 0, .int .u8 0, .int .u8 0]) := by kernel_rfl
theorem fxSl69 : sliceElem Try.prog 69 = none := by kernel_rfl
theorem fxAr69 : arrayOf Try.prog 69 = some (16, 5) := by kernel_rfl
theorem fxPl69 : placesOf Try.prog 69 = none := by kernel_rfl
theorem fxSl73 : sliceElem Try.prog 73 = some 37 := by kernel_rfl
theorem fxAr73 : arrayOf Try.prog 73 = none := by kernel_rfl
theorem fxSz80 : szOf Try.prog 80 = some 19 := by kernel_rfl
theorem fxZe80 : zeroOf Try.prog 80 = some (.agg #[.int .u8 0, .int .u8 0, .int .u8 0, .int .u8 0, .int .u8 0, .int .u8 0, .int .u8 0, .int .u8 0, .int .u8 0, .int .u8 0, .int .u8 0, .int .u8 0, .int .u8 0, .int .u8 0, .int .u8 0, .int .u8 0, .int .i64 0, .bool false, .int .i64 0]) := by kernel_rfl
theorem fxFi80x0 : fieldOf Try.prog 80 0 = some (0, 16, 69) := by kernel_rfl
theorem fxFi80x1 : fieldOf Try.prog 80 1 = some (16, 1, 3) := by kernel_rfl
theorem fxFi80x2 : fieldOf Try.prog 80 2 = some (17, 1, 4) := by kernel_rfl
theorem fxFi80x3 : fieldOf Try.prog 80 3 = some (18, 1, 3) := by kernel_rfl
theorem fxPl80 : placesOf Try.prog 80 = some [(0, 16), (16, 1), (17, 1), (18, 1)] := by kernel_rfl
theorem fxCv45x3 {k : IntKind} {a : Int} : asV (pr Try.prog (convert 45 3 (.int k a))) = some (.v (.int .i64 (IntKind.i64.wrap a))) := ev_conv Try.underlying45 Try.underlying3
theorem fxLn23 : asV (pr Try.prog (Builtin.len_ #[23] 0 #[.slice none 0 0])) = some (.v (.int .i64 0)) := ev_lenN Try.underlying23
theorem fxLn48 : asV (pr Try.prog (Builtin.len_ #[48] 0 #[.slice none 0 0])) = some (.v (.int .i64 0)) := ev_lenN Try.underlying48
theorem fxFm4 : (Try.f4.name == "runtime.NumGoroutine") = false := by kernel_rfl
theorem fxFm5 : (Try.f5.name == "runtime.NumGoroutine") = false := by kernel_rfl
theorem fxFi5 : Try.f5.body.isNone = false := by kernel_rfl
theorem fxFm6 : (Try.f6.name == "runtime.NumGoroutine") = false := by kernel_rfl
theorem fxFi6 : Try.f6.body.isNone = false := by kernel_rfl
theorem fxFm7 : (Try.f7.name == "runtime.NumGoroutine") = false := by kernel_rfl
theorem fxFm8 : (Try.f8.name == "runtime.NumGoroutine") = false := by kernel_rfl
theorem fxFm9 : (Try.f9.name == "runtime.NumGoroutine") = false := by kernel_rfl
theorem fxFm10 : (Try.f10.name == "runtime.NumGoroutine") = false := by kernel_rfl
theorem fxFi10 : Try.f10.body.isNone = false := by kernel_rfl
theorem fxFm11 : (Try.f11.name == "runtime.NumGoroutine") = false := by kernel_rfl
theorem fxFm12 : (Try.f12.name == "runtime.NumGoroutine") = false := by kernel_rfl
theorem fxFm13 : (Try.f13.name == "runtime.NumGoroutine") = false := by kernel_rfl
theorem fxFm14 : (Try.f14.name == "runtime.NumGoroutine") = false := by kernel_rfl
theorem fxFm15 : (Try.f15.name == "runtime.NumGoroutine") = false := by kernel_rfl
theorem fxFi15 : Try.f15.body.isNone = false := by kernel_rfl
theorem fxFm16 : (Try.f16.name == "runtime.NumGoroutine") = false := by kernel_rfl
theorem fxFi16 : Try.f16.body.isNone = false := by kernel_rfl
theorem fxFm17 : (Try.f17.name == "runtime.NumGoroutine") = false := by kernel_rfl
theorem fxFm18 : (Try.f18.name == "runtime.NumGoroutine") = false := by kernel_rfl
theorem fxFm19 : (Try.f19.name == "runtime.NumGoroutine") = false := by kernel_rfl
theorem fxFm20 : (Try.f20.name == "runtime.NumGoroutine") = false := by kernel_rfl
theorem fxFm21 : (Try.f21.name == "runtime.NumGoroutine") = false := by kernel_rfl
theorem fxFm22 : (Try.f22.name == "runtime.NumGoroutine") = false := by kernel_rfl
theorem fxFm23 : (Try.f23.name == "runtime.NumGoroutine") = false := by kernel_rfl
theorem fxFm24 : (Try.f24.name == "runtime.NumGoroutine") = false := by kernel_rfl
theorem fxFm25 : (Try.f25.name == "runtime.NumGoroutine") = false := by kernel_rfl
theorem fxFm26 : (Try.f26.name == "runtime.NumGoroutine") = false := by kernel_rfl
theorem fxFi26 : Try.f26.body.isNone = false := by kernel_rfl
theorem fxFm27 : (Try.f27.name == "runtime.NumGoroutine") = false := by kernel_rfl
theorem fxFi27 : Try.f27.body.isNone = false := by kernel_rfl
theorem fxFm28 : (Try.f28.name == "runtime.NumGoroutine") = false := by kernel_rfl
theorem fxFi28 : Try.f28.body.isNone = false := by kernel_rfl
theorem fxFm29 : (Try.f29.name == "runtime.NumGoroutine") = false := by kernel_rfl
theorem fxFi29 : Try.f29.body.isNone = false := by kernel_rfl
theorem fxFm30 : (Try.f30.name == "runtime.NumGoroutine") = false := by kernel_rfl
theorem fxFi30 : Try.f30.body.isNone = false := by kernel_rfl
theorem fxFm31 : (Try.f31.name == "runtime.NumGoroutine") = false := by kernel_rfl
theorem fxFm32 : (Try.f32.name == "runtime.NumGoroutine") = false := by kernel_rfl
theorem fxFm33 : (Try.f33.name == "runtime.NumGoroutine") = false := by kernel_rfl
theorem fxFm34 : (Try.f34.name == "runtime.NumGoroutine") = false := by kernel_rfl
theorem fxFi34 : Try.f34.body.isNone = false := by kernel_rfl
theorem fxFm35 : (Try.f35.name == "runtime.NumGoroutine") = false := by kernel_rfl
theorem fxFi35 : Try.f35.body.isNone = false := by kernel_rfl
theorem fxFm38 : (Try.f38.name == "runtime.NumGoroutine") = false := by kernel_rfl
theorem fxFm39 : (Try.f39.name == "runtime.NumGoroutine") = false := by kernel_rfl
theorem fxFm40 : (Try.f40.name == "runtime.NumGoroutine") = false := by kernel_rfl
theorem fxFi40 : Try.f40.body.isNone = false := by kernel_rfl
theorem fxFm41 : (Try.f41.name == "runtime.NumGoroutine") = false := by kernel_rfl
theorem fxFi41 : Try.f41.body.isNone = false := by kernel_rfl
theorem fxFm42 : (Try.f42.name == "runtime.NumGoroutine") = false := by kernel_rfl
theorem fxFm43 : (Try.f43.name == "runtime.NumGoroutine") = false := by kernel_rfl
theorem fxFi43 : Try.f43.body.isNone = false := by kernel_rfl
theorem fxFm55 : (Try.f55.name == "runtime.NumGoroutine") = false := by kernel_rfl
theorem fxFm56 : (Try.f56.name == "runtime.NumGoroutine") = false := by kernel_rfl
theorem fxFi56 : Try.f56.body.isNone = false := by kernel_rfl
theorem fxFm57 : (Try.f57.name == "runtime.NumGoroutine") = false := by kernel_rfl
theorem fxFi57 : Try.f57.body.isNone = false := by kernel_rfl
theorem fxFm64 : (Try.f64.name == "runtime.NumGoroutine") = false := by kernel_rfl
theorem fxFi64 : Try.f64.body.isNone = false := by kernel_rfl
end Go.Proofs.Ytegjbfcgbfnldab
