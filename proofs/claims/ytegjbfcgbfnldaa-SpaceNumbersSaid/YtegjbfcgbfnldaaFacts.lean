/- Facts of the program's tables, each by the kernel. Printed by a program. -/
import Derived.Test.YtegjbfcgbfnldaaProg
import Derived.Test.YtegjbfcgbfnldaaAiZc
import Derived.KernelRfl
namespace Go.Proofs.Ytegjbfcgbfnldaa
open Go.AI
theorem fxMix : Try.prog.follows .mixedOrders = true := by kernel_rfl
theorem fxSz3 : szOf Try.prog 3 = some 1 := by kernel_rfl
theorem fxBy3 : bytesOf Try.prog 3 = some 8 := by kernel_rfl
theorem fxAg3 : aggOf Try.prog 3 = some false := by kernel_rfl
theorem fxZe3 : zeroOf Try.prog 3 = some (.int .i64 0) := by kernel_rfl
theorem fxSz4 : szOf Try.prog 4 = some 1 := by kernel_rfl
theorem fxAg4 : aggOf Try.prog 4 = some false := by kernel_rfl
theorem fxSz5 : szOf Try.prog 5 = some 1 := by kernel_rfl
theorem fxBy5 : bytesOf Try.prog 5 = some 1 := by kernel_rfl
theorem fxAg5 : aggOf Try.prog 5 = some false := by kernel_rfl
theorem fxZe5 : zeroOf Try.prog 5 = some (.int .u8 0) := by kernel_rfl
theorem fxSl22 : sliceElem Try.prog 22 = some 69 := by kernel_rfl
theorem fxAr22 : arrayOf Try.prog 22 = none := by kernel_rfl
theorem fxSz26 : szOf Try.prog 26 = some 1 := by kernel_rfl
theorem fxAg26 : aggOf Try.prog 26 = some false := by kernel_rfl
theorem fxZe26 : zeroOf Try.prog 26 = some (.int .i64 0) := by kernel_rfl
theorem fxSz28 : szOf Try.prog 28 = some 1 := by kernel_rfl
theorem fxBy28 : bytesOf Try.prog 28 = some 24 := by kernel_rfl
theorem fxAg28 : aggOf Try.prog 28 = some false := by kernel_rfl
theorem fxZe28 : zeroOf Try.prog 28 = some (.slice none 0 0) := by kernel_rfl
theorem fxSl28 : sliceElem Try.prog 28 = some 5 := by kernel_rfl
theorem fxAr28 : arrayOf Try.prog 28 = none := by kernel_rfl
theorem fxSl51 : sliceElem Try.prog 51 = some 28 := by kernel_rfl
theorem fxAr51 : arrayOf Try.prog 51 = none := by kernel_rfl
theorem fxSl58 : sliceElem Try.prog 58 = some 3 := by kernel_rfl
theorem fxAr58 : arrayOf Try.prog 58 = none := by kernel_rfl
theorem fxSz69 : szOf Try.prog 69 = some 6 := by kernel_rfl
theorem fxAg69 : aggOf Try.prog 69 = some true := by kernel_rfl
theorem fxZe69 : zeroOf Try.prog 69 = some (.agg #[.int .i64 0, .int .i64 0, .int .i64 0, .int .i64 0, .int .i64 0, .slice none 0 0]) := by kernel_rfl
theorem fxFi69x0 : fieldOf Try.prog 69 0 = some (0, 1, 3) := by kernel_rfl
theorem fxFi69x1 : fieldOf Try.prog 69 1 = some (1, 1, 3) := by kernel_rfl
theorem fxFi69x2 : fieldOf Try.prog 69 2 = some (2, 1, 3) := by kernel_rfl
theorem fxFi69x3 : fieldOf Try.prog 69 3 = some (3, 1, 3) := by kernel_rfl
theorem fxFi69x4 : fieldOf Try.prog 69 4 = some (4, 1, 3) := by kernel_rfl
theorem fxFi69x5 : fieldOf Try.prog 69 5 = some (5, 1, 28) := by kernel_rfl
theorem fxSz71 : szOf Try.prog 71 = some 1 := by kernel_rfl
theorem fxBy71 : bytesOf Try.prog 71 = some 8 := by kernel_rfl
theorem fxAg71 : aggOf Try.prog 71 = some false := by kernel_rfl
theorem fxZe71 : zeroOf Try.prog 71 = some (.pointer none) := by kernel_rfl
theorem fxSz73 : szOf Try.prog 73 = some 2 := by kernel_rfl
theorem fxAg73 : aggOf Try.prog 73 = some true := by kernel_rfl
theorem fxZe73 : zeroOf Try.prog 73 = some (.agg #[.pointer none, .int .i64 0]) := by kernel_rfl
theorem fxFi73x0 : fieldOf Try.prog 73 0 = some (0, 1, 71) := by kernel_rfl
theorem fxFi73x1 : fieldOf Try.prog 73 1 = some (1, 1, 3) := by kernel_rfl
theorem fxPl73 : placesOf Try.prog 73 = some [(0, 1), (1, 1)] := by kernel_rfl
theorem fxZe75 : zeroOf Try.prog 75 = some (.map none) := by kernel_rfl
theorem fxSz76 : szOf Try.prog 76 = some 1 := by kernel_rfl
theorem fxAg76 : aggOf Try.prog 76 = some false := by kernel_rfl
theorem fxSl76 : sliceElem Try.prog 76 = some 71 := by kernel_rfl
theorem fxAr76 : arrayOf Try.prog 76 = none := by kernel_rfl
theorem fxAg77 : aggOf Try.prog 77 = some false := by kernel_rfl
theorem fxZe79 : zeroOf Try.prog 79 = some (.agg #[.int .i64 0, .int .i64 0, .int .i64 0, .slice none 0 0, .map none]) := by kernel_rfl
theorem fxFi79x0 : fieldOf Try.prog 79 0 = some (0, 1, 3) := by kernel_rfl
theorem fxFi79x1 : fieldOf Try.prog 79 1 = some (1, 1, 3) := by kernel_rfl
theorem fxFi79x2 : fieldOf Try.prog 79 2 = some (2, 1, 3) := by kernel_rfl
theorem fxFi79x3 : fieldOf Try.prog 79 3 = some (3, 1, 76) := by kernel_rfl
theorem fxFi79x4 : fieldOf Try.prog 79 4 = some (4, 1, 77) := by kernel_rfl
theorem fxPl79 : placesOf Try.prog 79 = some [(0, 1), (1, 1), (2, 1), (3, 1), (4, 1)] := by kernel_rfl
theorem fxSz82 : szOf Try.prog 82 = some 16 := by kernel_rfl
theorem fxAg82 : aggOf Try.prog 82 = some true := by kernel_rfl
theorem fxZe82 : zeroOf Try.prog 82 = some (.agg #[.int .u8 0, .int .u8 0, .int .u8 0, .int .u8 0, .int .u8 0, .int .u8 0, .int .u8 0, .int .u8 0, .int .u8 0, .int .u8 0, .int .u8 0, .int .u8 0, .int .u8 0, .int .u8 0, .int .u8 0, .int .u8 0]) := by kernel_rfl
theorem fxSl82 : sliceElem Try.prog 82 = none := by kernel_rfl
theorem fxAr82 : arrayOf Try.prog 82 = some (16, 5) := by kernel_rfl
theorem fxPl82 : placesOf Try.prog 82 = none := by kernel_rfl
theorem fxSl87 : sliceElem Try.prog 87 = some 26 := by kernel_rfl
theorem fxAr87 : arrayOf Try.prog 87 = none := by kernel_rfl
theorem fxSz91 : szOf Try.prog 91 = some 19 := by kernel_rfl
theorem fxZe91 : zeroOf Try.prog 91 = some (.agg #[.int .u8 0, .int .u8 0, .int .u8 0, .int .u8 0, .int .u8 0, .int .u8 0, .int .u8 0, .int .u8 0, .int .u8 0, .int .u8 0, .int .u8 0, .int .u8 0, .int .u8 0, .int .u8 0, .int .u8 0, .int .u8 0, .int .i64 0, .bool false, .int .i64 0]) := by kernel_rfl
theorem fxFi91x0 : fieldOf Try.prog 91 0 = some (0, 16, 82) := by kernel_rfl
theorem fxFi91x1 : fieldOf Try.prog 91 1 = some (16, 1, 3) := by kernel_rfl
theorem fxFi91x2 : fieldOf Try.prog 91 2 = some (17, 1, 4) := by kernel_rfl
theorem fxFi91x3 : fieldOf Try.prog 91 3 = some (18, 1, 3) := by kernel_rfl
theorem fxPl91 : placesOf Try.prog 91 = some [(0, 16), (16, 1), (17, 1), (18, 1)] := by kernel_rfl
theorem fxCv3x36 {k : IntKind} {a : Int} : asV (pr Try.prog (convert 3 36 (.int k a))) = some (.v (.int .u32 (IntKind.u32.wrap a))) := ev_conv Try.underlying3 Try.underlying36
theorem fxCv36x3 {k : IntKind} {a : Int} : asV (pr Try.prog (convert 36 3 (.int k a))) = some (.v (.int .i64 (IntKind.i64.wrap a))) := ev_conv Try.underlying36 Try.underlying3
theorem fxEb4 {x y : Operand} {p q : Bool} : aBin Try.prog .eql 4 x y (.v (.bool p)) (.v (.bool q)) = some (.v (.bool (p == q))) := ev_eqlB Try.underlying4
theorem fxNb4 {x y : Operand} {p q : Bool} : aBin Try.prog .neq 4 x y (.v (.bool p)) (.v (.bool q)) = some (.v (.bool (!(p == q)))) := ev_neqB Try.underlying4
theorem fxLn28 : asV (pr Try.prog (Builtin.len_ #[28] 0 #[.slice none 0 0])) = some (.v (.int .i64 0)) := ev_lenN Try.underlying28
theorem fxNe28 {x y : Operand} {o : Bool} {sz : Nat} {rows : List Row} : aBin Try.prog .eql 28 x y (.fsl o sz rows) (.v (.slice none 0 0)) = some (if rows.isEmpty then .anyb else .v (.bool false)) := ev_nilE fxSl28
theorem fxOe28 {x y : Operand} {a b c d e : Nat} : aBin Try.prog .eql 28 x y (.osl a b c d e) (.v (.slice none 0 0)) = some (.v (.bool false)) := ev_nilOe fxSl28
theorem fxXe28 {x y : Operand} : aBin Try.prog .eql 28 x y .esl (.v (.slice none 0 0)) = some .anyb := ev_nilXe fxSl28
theorem fxLn58 : asV (pr Try.prog (Builtin.len_ #[58] 0 #[.slice none 0 0])) = some (.v (.int .i64 0)) := ev_lenN Try.underlying58
theorem fxNe58 {x y : Operand} {o : Bool} {sz : Nat} {rows : List Row} : aBin Try.prog .eql 58 x y (.fsl o sz rows) (.v (.slice none 0 0)) = some (if rows.isEmpty then .anyb else .v (.bool false)) := ev_nilE fxSl58
theorem fxOe58 {x y : Operand} {a b c d e : Nat} : aBin Try.prog .eql 58 x y (.osl a b c d e) (.v (.slice none 0 0)) = some (.v (.bool false)) := ev_nilOe fxSl58
theorem fxXe58 {x y : Operand} : aBin Try.prog .eql 58 x y .esl (.v (.slice none 0 0)) = some .anyb := ev_nilXe fxSl58
theorem fxLn76 : asV (pr Try.prog (Builtin.len_ #[76] 0 #[.slice none 0 0])) = some (.v (.int .i64 0)) := ev_lenN Try.underlying76
theorem fxFm15 : (Try.f15.name == "runtime.NumGoroutine") = false := by kernel_rfl
theorem fxFm16 : (Try.f16.name == "runtime.NumGoroutine") = false := by kernel_rfl
theorem fxFi16 : Try.f16.body.isNone = false := by kernel_rfl
theorem fxFm17 : (Try.f17.name == "runtime.NumGoroutine") = false := by kernel_rfl
theorem fxFm18 : (Try.f18.name == "runtime.NumGoroutine") = false := by kernel_rfl
theorem fxFm19 : (Try.f19.name == "runtime.NumGoroutine") = false := by kernel_rfl
theorem fxFi19 : Try.f19.body.isNone = false := by kernel_rfl
theorem fxFm20 : (Try.f20.name == "runtime.NumGoroutine") = false := by kernel_rfl
theorem fxFi20 : Try.f20.body.isNone = false := by kernel_rfl
theorem fxFm21 : (Try.f21.name == "runtime.NumGoroutine") = false := by kernel_rfl
theorem fxFm22 : (Try.f22.name == "runtime.NumGoroutine") = false := by kernel_rfl
theorem fxFm23 : (Try.f23.name == "runtime.NumGoroutine") = false := by kernel_rfl
theorem fxFm24 : (Try.f24.name == "runtime.NumGoroutine") = false := by kernel_rfl
theorem fxFm25 : (Try.f25.name == "runtime.NumGoroutine") = false := by kernel_rfl
theorem fxFi25 : Try.f25.body.isNone = false := by kernel_rfl
theorem fxFm26 : (Try.f26.name == "runtime.NumGoroutine") = false := by kernel_rfl
theorem fxFm27 : (Try.f27.name == "runtime.NumGoroutine") = false := by kernel_rfl
theorem fxFm28 : (Try.f28.name == "runtime.NumGoroutine") = false := by kernel_rfl
theorem fxFi28 : Try.f28.body.isNone = false := by kernel_rfl
theorem fxFm29 : (Try.f29.name == "runtime.NumGoroutine") = false := by kernel_rfl
theorem fxFi29 : Try.f29.body.isNone = false := by kernel_rfl
theorem fxFm30 : (Try.f30.name == "runtime.NumGoroutine") = false := by kernel_rfl
theorem fxFm31 : (Try.f31.name == "runtime.NumGoroutine") = false := by kernel_rfl
theorem fxFm32 : (Try.f32.name == "runtime.NumGoroutine") = false := by kernel_rfl
theorem fxFm33 : (Try.f33.name == "runtime.NumGoroutine") = false := by kernel_rfl
theorem fxFi33 : Try.f33.body.isNone = false := by kernel_rfl
theorem fxFm34 : (Try.f34.name == "runtime.NumGoroutine") = false := by kernel_rfl
theorem fxFm35 : (Try.f35.name == "runtime.NumGoroutine") = false := by kernel_rfl
theorem fxFm36 : (Try.f36.name == "runtime.NumGoroutine") = false := by kernel_rfl
theorem fxFm37 : (Try.f37.name == "runtime.NumGoroutine") = false := by kernel_rfl
theorem fxFm38 : (Try.f38.name == "runtime.NumGoroutine") = false := by kernel_rfl
theorem fxFi38 : Try.f38.body.isNone = false := by kernel_rfl
theorem fxFm39 : (Try.f39.name == "runtime.NumGoroutine") = false := by kernel_rfl
theorem fxFm40 : (Try.f40.name == "runtime.NumGoroutine") = false := by kernel_rfl
theorem fxFm41 : (Try.f41.name == "runtime.NumGoroutine") = false := by kernel_rfl
theorem fxFi41 : Try.f41.body.isNone = false := by kernel_rfl
theorem fxFm42 : (Try.f42.name == "runtime.NumGoroutine") = false := by kernel_rfl
theorem fxFm43 : (Try.f43.name == "runtime.NumGoroutine") = false := by kernel_rfl
theorem fxFm44 : (Try.f44.name == "runtime.NumGoroutine") = false := by kernel_rfl
theorem fxFi44 : Try.f44.body.isNone = false := by kernel_rfl
theorem fxFm45 : (Try.f45.name == "runtime.NumGoroutine") = false := by kernel_rfl
theorem fxFi45 : Try.f45.body.isNone = false := by kernel_rfl
theorem fxFm46 : (Try.f46.name == "runtime.NumGoroutine") = false := by kernel_rfl
theorem fxFm47 : (Try.f47.name == "runtime.NumGoroutine") = false := by kernel_rfl
theorem fxFm48 : (Try.f48.name == "runtime.NumGoroutine") = false := by kernel_rfl
theorem fxFm49 : (Try.f49.name == "runtime.NumGoroutine") = false := by kernel_rfl
theorem fxFi49 : Try.f49.body.isNone = false := by kernel_rfl
theorem fxFm50 : (Try.f50.name == "runtime.NumGoroutine") = false := by kernel_rfl
theorem fxFi50 : Try.f50.body.isNone = false := by kernel_rfl
theorem fxFm51 : (Try.f51.name == "runtime.NumGoroutine") = false := by kernel_rfl
theorem fxFi51 : Try.f51.body.isNone = false := by kernel_rfl
theorem fxFm52 : (Try.f52.name == "runtime.NumGoroutine") = false := by kernel_rfl
theorem fxFi52 : Try.f52.body.isNone = false := by kernel_rfl
theorem fxFm53 : (Try.f53.name == "runtime.NumGoroutine") = false := by kernel_rfl
theorem fxFm54 : (Try.f54.name == "runtime.NumGoroutine") = false := by kernel_rfl
theorem fxFi54 : Try.f54.body.isNone = false := by kernel_rfl
theorem fxFm55 : (Try.f55.name == "runtime.NumGoroutine") = false := by kernel_rfl
theorem fxFi55 : Try.f55.body.isNone = false := by kernel_rfl
theorem fxFm56 : (Try.f56.name == "runtime.NumGoroutine") = false := by kernel_rfl
theorem fxFm57 : (Try.f57.name == "runtime.NumGoroutine") = false := by kernel_rfl
theorem fxFi57 : Try.f57.body.isNone = false := by kernel_rfl
theorem fxFm58 : (Try.f58.name == "runtime.NumGoroutine") = false := by kernel_rfl
theorem fxFi58 : Try.f58.body.isNone = false := by kernel_rfl
theorem fxFm61 : (Try.f61.name == "runtime.NumGoroutine") = false := by kernel_rfl
theorem fxFm62 : (Try.f62.name == "runtime.NumGoroutine") = false := by kernel_rfl
theorem fxFi62 : Try.f62.body.isNone = false := by kernel_rfl
theorem fxFm63 : (Try.f63.name == "runtime.NumGoroutine") = false := by kernel_rfl
theorem fxFi63 : Try.f63.body.isNone = false := by kernel_rfl
theorem fxFm64 : (Try.f64.name == "runtime.NumGoroutine") = false := by kernel_rfl
theorem fxFm65 : (Try.f65.name == "runtime.NumGoroutine") = false := by kernel_rfl
theorem fxFi65 : Try.f65.body.isNone = false := by kernel_rfl
theorem fxFm77 : (Try.f77.name == "runtime.NumGoroutine") = false := by kernel_rfl
theorem fxFi77 : Try.f77.body.isNone = false := by kernel_rfl
end Go.Proofs.Ytegjbfcgbfnldaa
