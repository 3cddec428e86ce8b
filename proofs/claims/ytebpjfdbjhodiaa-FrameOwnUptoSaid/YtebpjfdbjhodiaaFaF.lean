/- Facts of the program's tables, each by the kernel. Printed by a program. -/
import Derived.Test.YtebpjfdbjhodiaaProg
import Derived.Test.YtebpjfdbjhodiaaAiZc
import Derived.KernelRfl
namespace Go.Proofs.Ytebpjfdbjhodiaa
open Go.AI
theorem fxMix : Try.prog.follows .mixedOrders = true := by kernel_rfl
theorem fxSz3 : szOf Try.prog 3 = some 1 := by kernel_rfl
theorem fxBy3 : bytesOf Try.prog 3 = some 8 := by kernel_rfl
theorem fxAg3 : aggOf Try.prog 3 = some false := by kernel_rfl
theorem fxZe3 : zeroOf Try.prog 3 = some (.int .i64 0) := by kernel_rfl
theorem fxSl3 : sliceElem Try.prog 3 = none := by kernel_rfl
theorem fxSz96 : szOf Try.prog 96 = some 1 := by kernel_rfl
theorem fxAg96 : aggOf Try.prog 96 = some false := by kernel_rfl
theorem fxZe96 : zeroOf Try.prog 96 = some (.slice none 0 0) := by kernel_rfl
theorem fxSl96 : sliceElem Try.prog 96 = some 107 := by kernel_rfl
theorem fxAr96 : arrayOf Try.prog 96 = none := by kernel_rfl
theorem fxSz97 : szOf Try.prog 97 = some 1 := by kernel_rfl
theorem fxAg97 : aggOf Try.prog 97 = some false := by kernel_rfl
theorem fxZe97 : zeroOf Try.prog 97 = some (.slice none 0 0) := by kernel_rfl
theorem fxSl97 : sliceElem Try.prog 97 = some 110 := by kernel_rfl
theorem fxAr97 : arrayOf Try.prog 97 = none := by kernel_rfl
theorem fxSz99 : szOf Try.prog 99 = some 2 := by kernel_rfl
theorem fxAg99 : aggOf Try.prog 99 = some true := by kernel_rfl
theorem fxZe99 : zeroOf Try.prog 99 = some (.agg #[.int .i64 0, .slice none 0 0]) := by kernel_rfl
theorem fxFi99x0 : fieldOf Try.prog 99 0 = some (0, 1, 3) := by kernel_rfl
theorem fxFi99x1 : fieldOf Try.prog 99 1 = some (1, 1, 97) := by kernel_rfl
theorem fxPl99 : placesOf Try.prog 99 = some [(0, 1), (1, 1)] := by kernel_rfl
theorem fxSz100 : szOf Try.prog 100 = some 1 := by kernel_rfl
theorem fxAg100 : aggOf Try.prog 100 = some false := by kernel_rfl
theorem fxSl100 : sliceElem Try.prog 100 = some 114 := by kernel_rfl
theorem fxAr100 : arrayOf Try.prog 100 = none := by kernel_rfl
theorem fxSz102 : szOf Try.prog 102 = some 2 := by kernel_rfl
theorem fxAg102 : aggOf Try.prog 102 = some true := by kernel_rfl
theorem fxZe102 : zeroOf Try.prog 102 = some (.agg #[.int .i64 0, .slice none 0 0]) := by kernel_rfl
theorem fxFi102x0 : fieldOf Try.prog 102 0 = some (0, 1, 3) := by kernel_rfl
theorem fxFi102x1 : fieldOf Try.prog 102 1 = some (1, 1, 100) := by kernel_rfl
theorem fxPl102 : placesOf Try.prog 102 = some [(0, 1), (1, 1)] := by kernel_rfl
theorem fxSz104 : szOf Try.prog 104 = some 2 := by kernel_rfl
theorem fxAg104 : aggOf Try.prog 104 = some true := by kernel_rfl
theorem fxZe104 : zeroOf Try.prog 104 = some (.agg #[.int .i64 0, .int .i64 0]) := by kernel_rfl
theorem fxFi104x0 : fieldOf Try.prog 104 0 = some (0, 1, 3) := by kernel_rfl
theorem fxFi104x1 : fieldOf Try.prog 104 1 = some (1, 1, 3) := by kernel_rfl
theorem fxPl104 : placesOf Try.prog 104 = some [(0, 1), (1, 1)] := by kernel_rfl
theorem fxSz107 : szOf Try.prog 107 = some 3 := by kernel_rfl
theorem fxBy107 : bytesOf Try.prog 107 = some 24 := by kernel_rfl
theorem fxAg107 : aggOf Try.prog 107 = some true := by kernel_rfl
theorem fxZe107 : zeroOf Try.prog 107 = some (.agg #[.int .i64 0, .int .i64 0, .int .i64 0]) := by kernel_rfl
theorem fxFi107x0 : fieldOf Try.prog 107 0 = some (0, 1, 3) := by kernel_rfl
theorem fxFi107x1 : fieldOf Try.prog 107 1 = some (1, 1, 3) := by kernel_rfl
theorem fxFi107x2 : fieldOf Try.prog 107 2 = some (2, 1, 3) := by kernel_rfl
theorem fxPl107 : placesOf Try.prog 107 = some [(0, 1), (1, 1), (2, 1)] := by kernel_rfl
theorem fxSz110 : szOf Try.prog 110 = some 2 := by kernel_rfl
theorem fxBy110 : bytesOf Try.prog 110 = some 16 := by kernel_rfl
theorem fxAg110 : aggOf Try.prog 110 = some true := by kernel_rfl
theorem fxZe110 : zeroOf Try.prog 110 = some (.agg #[.int .i64 0, .int .i64 0]) := by kernel_rfl
theorem fxFi110x0 : fieldOf Try.prog 110 0 = some (0, 1, 3) := by kernel_rfl
theorem fxFi110x1 : fieldOf Try.prog 110 1 = some (1, 1, 3) := by kernel_rfl
theorem fxPl110 : placesOf Try.prog 110 = some [(0, 1), (1, 1)] := by kernel_rfl
theorem fxSz111 : szOf Try.prog 111 = some 1 := by kernel_rfl
theorem fxAg111 : aggOf Try.prog 111 = some false := by kernel_rfl
theorem fxZe111 : zeroOf Try.prog 111 = some (.slice none 0 0) := by kernel_rfl
theorem fxSl111 : sliceElem Try.prog 111 = some 112 := by kernel_rfl
theorem fxAr111 : arrayOf Try.prog 111 = none := by kernel_rfl
theorem fxSz112 : szOf Try.prog 112 = some 1 := by kernel_rfl
theorem fxBy112 : bytesOf Try.prog 112 = some 24 := by kernel_rfl
theorem fxAg112 : aggOf Try.prog 112 = some false := by kernel_rfl
theorem fxZe112 : zeroOf Try.prog 112 = some (.slice none 0 0) := by kernel_rfl
theorem fxSl112 : sliceElem Try.prog 112 = some 3 := by kernel_rfl
theorem fxAr112 : arrayOf Try.prog 112 = none := by kernel_rfl
theorem fxSz114 : szOf Try.prog 114 = some 2 := by kernel_rfl
theorem fxBy114 : bytesOf Try.prog 114 = some 32 := by kernel_rfl
theorem fxAg114 : aggOf Try.prog 114 = some true := by kernel_rfl
theorem fxZe114 : zeroOf Try.prog 114 = some (.agg #[.int .i64 0, .slice none 0 0]) := by kernel_rfl
theorem fxFi114x0 : fieldOf Try.prog 114 0 = some (0, 1, 3) := by kernel_rfl
theorem fxFi114x1 : fieldOf Try.prog 114 1 = some (1, 1, 112) := by kernel_rfl
theorem fxPl114 : placesOf Try.prog 114 = some [(0, 1), (1, 1)] := by kernel_rfl
theorem fxZe131 : zeroOf Try.prog 131 = some (.agg #[.slice none 0 0, .slice none 0 0]) := by kernel_rfl
theorem fxAr131 : arrayOf Try.prog 131 = some (2, 96) := by kernel_rfl
theorem fxPl131 : placesOf Try.prog 131 = none := by kernel_rfl
theorem fxZe132 : zeroOf Try.prog 132 = some (.agg #[.int .i64 0, .slice none 0 0, .int .i64 0, .slice none 0 0]) := by kernel_rfl
theorem fxAr132 : arrayOf Try.prog 132 = some (2, 99) := by kernel_rfl
theorem fxPl132 : placesOf Try.prog 132 = none := by kernel_rfl
theorem fxZe133 : zeroOf Try.prog 133 = some (.agg #[.int .i64 0, .slice none 0 0, .int .i64 0, .slice none 0 0]) := by kernel_rfl
theorem fxAr133 : arrayOf Try.prog 133 = some (2, 102) := by kernel_rfl
theorem fxPl133 : placesOf Try.prog 133 = none := by kernel_rfl
theorem fxEq107 : eqOkT Try.prog 107 = some [1, 1, 1] := by kernel_rfl
theorem fxEq110 : eqOkT Try.prog 110 = some [1, 1] := by kernel_rfl
theorem fxNe96 {x y : Operand} {o : Bool} {sz : Nat} {rows : List Row} : aBin Try.prog .eql 96 x y (.fsl o sz rows) (.v (.slice none 0 0)) = some (if rows.isEmpty then .anyb else .v (.bool false)) := ev_nilE fxSl96
theorem fxOe96 {x y : Operand} {a b c d e : Nat} : aBin Try.prog .eql 96 x y (.osl a b c d e) (.v (.slice none 0 0)) = some (.v (.bool false)) := ev_nilOe fxSl96
theorem fxXe96 {x y : Operand} : aBin Try.prog .eql 96 x y .esl (.v (.slice none 0 0)) = some .anyb := ev_nilXe fxSl96
theorem fxLn97 : asV (pr Try.prog (Builtin.len_ #[97] 0 #[.slice none 0 0])) = some (.v (.int .i64 0)) := ev_lenN Try.underlying97
theorem fxNe97 {x y : Operand} {o : Bool} {sz : Nat} {rows : List Row} : aBin Try.prog .eql 97 x y (.fsl o sz rows) (.v (.slice none 0 0)) = some (if rows.isEmpty then .anyb else .v (.bool false)) := ev_nilE fxSl97
theorem fxOe97 {x y : Operand} {a b c d e : Nat} : aBin Try.prog .eql 97 x y (.osl a b c d e) (.v (.slice none 0 0)) = some (.v (.bool false)) := ev_nilOe fxSl97
theorem fxXe97 {x y : Operand} : aBin Try.prog .eql 97 x y .esl (.v (.slice none 0 0)) = some .anyb := ev_nilXe fxSl97
theorem fxNe100 {x y : Operand} {o : Bool} {sz : Nat} {rows : List Row} : aBin Try.prog .eql 100 x y (.fsl o sz rows) (.v (.slice none 0 0)) = some (if rows.isEmpty then .anyb else .v (.bool false)) := ev_nilE fxSl100
theorem fxOe100 {x y : Operand} {a b c d e : Nat} : aBin Try.prog .eql 100 x y (.osl a b c d e) (.v (.slice none 0 0)) = some (.v (.bool false)) := ev_nilOe fxSl100
theorem fxXe100 {x y : Operand} : aBin Try.prog .eql 100 x y .esl (.v (.slice none 0 0)) = some .anyb := ev_nilXe fxSl100
theorem fxNe112 {x y : Operand} {o : Bool} {sz : Nat} {rows : List Row} : aBin Try.prog .eql 112 x y (.fsl o sz rows) (.v (.slice none 0 0)) = some (if rows.isEmpty then .anyb else .v (.bool false)) := ev_nilE fxSl112
theorem fxOe112 {x y : Operand} {a b c d e : Nat} : aBin Try.prog .eql 112 x y (.osl a b c d e) (.v (.slice none 0 0)) = some (.v (.bool false)) := ev_nilOe fxSl112
theorem fxXe112 {x y : Operand} : aBin Try.prog .eql 112 x y .esl (.v (.slice none 0 0)) = some .anyb := ev_nilXe fxSl112
theorem fxFm41 : (Try.f41.name == "runtime.NumGoroutine") = false := by kernel_rfl
theorem fxFi41 : Try.f41.body.isNone = false := by kernel_rfl
theorem fxFm42 : (Try.f42.name == "runtime.NumGoroutine") = false := by kernel_rfl
theorem fxFi42 : Try.f42.body.isNone = false := by kernel_rfl
theorem fxFm43 : (Try.f43.name == "runtime.NumGoroutine") = false := by kernel_rfl
theorem fxFi43 : Try.f43.body.isNone = false := by kernel_rfl
theorem fxFm44 : (Try.f44.name == "runtime.NumGoroutine") = false := by kernel_rfl
theorem fxFm45 : (Try.f45.name == "runtime.NumGoroutine") = false := by kernel_rfl
theorem fxFm46 : (Try.f46.name == "runtime.NumGoroutine") = false := by kernel_rfl
theorem fxFi46 : Try.f46.body.isNone = false := by kernel_rfl
theorem fxFi47 : Try.f47.body.isNone = false := by kernel_rfl
theorem fxFj47 : (Try.f47.body = none) = False := eq_false (fun h => by have := fxFi47; rw [h] at this; cases this)
theorem fxFm48 : (Try.f48.name == "runtime.NumGoroutine") = false := by kernel_rfl
theorem fxFi48 : Try.f48.body.isNone = false := by kernel_rfl
theorem fxFm49 : (Try.f49.name == "runtime.NumGoroutine") = false := by kernel_rfl
theorem fxFi49 : Try.f49.body.isNone = false := by kernel_rfl
theorem fxFm50 : (Try.f50.name == "runtime.NumGoroutine") = false := by kernel_rfl
theorem fxFi50 : Try.f50.body.isNone = false := by kernel_rfl
theorem fxFm51 : (Try.f51.name == "runtime.NumGoroutine") = false := by kernel_rfl
theorem fxFm52 : (Try.f52.name == "runtime.NumGoroutine") = false := by kernel_rfl
theorem fxFm53 : (Try.f53.name == "runtime.NumGoroutine") = false := by kernel_rfl
theorem fxFm54 : (Try.f54.name == "runtime.NumGoroutine") = false := by kernel_rfl
theorem fxFm55 : (Try.f55.name == "runtime.NumGoroutine") = false := by kernel_rfl
theorem fxFm56 : (Try.f56.name == "runtime.NumGoroutine") = false := by kernel_rfl
theorem fxFm113 : (Try.f113.name == "runtime.NumGoroutine") = false := by kernel_rfl
theorem fxFi113 : Try.f113.body.isNone = false := by kernel_rfl
theorem fxFm114 : (Try.f114.name == "runtime.NumGoroutine") = false := by kernel_rfl
theorem fxFi114 : Try.f114.body.isNone = false := by kernel_rfl
theorem fxFm115 : (Try.f115.name == "runtime.NumGoroutine") = false := by kernel_rfl
theorem fxFi115 : Try.f115.body.isNone = false := by kernel_rfl
theorem fxFm116 : (Try.f116.name == "runtime.NumGoroutine") = false := by kernel_rfl
theorem fxFi116 : Try.f116.body.isNone = false := by kernel_rfl
theorem fxFm117 : (Try.f117.name == "runtime.NumGoroutine") = false := by kernel_rfl
theorem fxFi117 : Try.f117.body.isNone = false := by kernel_rfl
theorem fxFm118 : (Try.f118.name == "runtime.NumGoroutine") = false := by kernel_rfl
theorem fxFm119 : (Try.f119.name == "runtime.NumGoroutine") = false := by kernel_rfl
theorem fxFi119 : Try.f119.body.isNone = false := by kernel_rfl
theorem fxFm120 : (Try.f120.name == "runtime.NumGoroutine") = false := by kernel_rfl
theorem fxFi120 : Try.f120.body.isNone = false := by kernel_rfl
theorem fxFm121 : (Try.f121.name == "runtime.NumGoroutine") = false := by kernel_rfl
theorem fxFi121 : Try.f121.body.isNone = false := by kernel_rfl
theorem fxFm122 : (Try.f122.name == "runtime.NumGoroutine") = false := by kernel_rfl
theorem fxFi122 : Try.f122.body.isNone = false := by kernel_rfl
theorem fxFm123 : (Try.f123.name == "runtime.NumGoroutine") = false := by kernel_rfl
theorem fxFm124 : (Try.f124.name == "runtime.NumGoroutine") = false := by kernel_rfl
theorem fxFm125 : (Try.f125.name == "runtime.NumGoroutine") = false := by kernel_rfl
theorem fxFi125 : Try.f125.body.isNone = false := by kernel_rfl
theorem fxFm126 : (Try.f126.name == "runtime.NumGoroutine") = false := by kernel_rfl
theorem fxFm127 : (Try.f127.name == "runtime.NumGoroutine") = false := by kernel_rfl
theorem fxFi127 : Try.f127.body.isNone = false := by kernel_rfl
theorem fxFm128 : (Try.f128.name == "runtime.NumGoroutine") = false := by kernel_rfl
theorem fxFi128 : Try.f128.body.isNone = false := by kernel_rfl
theorem fxFm129 : (Try.f129.name == "runtime.NumGoroutine") = false := by kernel_rfl
theorem fxFm130 : (Try.f130.name == "runtime.NumGoroutine") = false := by kernel_rfl
theorem fxFi130 : Try.f130.body.isNone = false := by kernel_rfl
theorem fxFm131 : (Try.f131.name == "runtime.NumGoroutine") = false := by kernel_rfl
theorem fxFi131 : Try.f131.body.isNone = false := by kernel_rfl
theorem fxFm132 : (Try.f132.name == "runtime.NumGoroutine") = false := by kernel_rfl
theorem fxFm133 : (Try.f133.name == "runtime.NumGoroutine") = false := by kernel_rfl
theorem fxFi133 : Try.f133.body.isNone = false := by kernel_rfl
theorem fxFm134 : (Try.f134.name == "runtime.NumGoroutine") = false := by kernel_rfl
theorem fxFm135 : (Try.f135.name == "runtime.NumGoroutine") = false := by kernel_rfl
theorem fxFm172 : (Try.f172.name == "runtime.NumGoroutine") = false := by kernel_rfl
theorem fxFi172 : Try.f172.body.isNone = false := by kernel_rfl
theorem fxFm173 : (Try.f173.name == "runtime.NumGoroutine") = false := by kernel_rfl
theorem fxFm176 : (Try.f176.name == "runtime.NumGoroutine") = false := by kernel_rfl
theorem fxFi176 : Try.f176.body.isNone = false := by kernel_rfl
theorem fxFm177 : (Try.f177.name == "runtime.NumGoroutine") = false := by kernel_rfl
theorem fxFi177 : Try.f177.body.isNone = false := by kernel_rfl
theorem fxFm178 : (Try.f178.name == "runtime.NumGoroutine") = false := by kernel_rfl
theorem fxFi178 : Try.f178.body.isNone = false := by kernel_rfl
theorem fxFm179 : (Try.f179.name == "runtime.NumGoroutine") = false := by kernel_rfl
theorem fxFm180 : (Try.f180.name == "runtime.NumGoroutine") = false := by kernel_rfl
theorem fxFm182 : (Try.f182.name == "runtime.NumGoroutine") = false := by kernel_rfl
theorem fxFi182 : Try.f182.body.isNone = false := by kernel_rfl
theorem fxFm183 : (Try.f183.name == "runtime.NumGoroutine") = false := by kernel_rfl
end Go.Proofs.Ytebpjfdbjhodiaa
