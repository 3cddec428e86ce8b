/- Facts of the program's tables, each by the kernel. Printed by a program. -/
import Derived.Test.YtebpjfdbjhodiaaProg
import Derived.Test.YtebpjfdbjhodiaaAiZc
import Derived.KernelRfl
namespace Go.Proofs.Ytebpjfdbjhodiaa
open Go.AI
theorem fxMix : Try.prog.follows .mixedOrders = true := by kernel_rfl
theorem fxSz3 : szOf Try.prog 3 = some 1 := by kernel_rfl
theorem fxBy3 : bytesOf Try.prog 3 = some 8 := by kernel_rfl
theorem fxAg3 : aggOf Try.prog 3 = some false := by kernel_rfl
theorem fxZe3 : zeroOf Try.prog 3 = some (.int .i64 0) := by kernel_rfl
theorem fxSl3 : sliceElem Try.prog 3 = none := by kernel_rfl
theorem fxSz4 : szOf Try.prog 4 = some 1 := by kernel_rfl
theorem fxBy4 : bytesOf Try.prog 4 = some 1 := by kernel_rfl
theorem fxAg4 : aggOf Try.prog 4 = some false := by kernel_rfl
theorem fxZe4 : zeroOf Try.prog 4 = some (.bool false) := by kernel_rfl
theorem fxSz5 : szOf Try.prog 5 = some 1 := by kernel_rfl
theorem fxBy5 : bytesOf Try.prog 5 = some 1 := by kernel_rfl
theorem fxAg5 : aggOf Try.prog 5 = some false := by kernel_rfl
theorem fxZe5 : zeroOf Try.prog 5 = some (.int .u8 0) := by kernel_rfl
theorem fxSz33 : szOf Try.prog 33 = some 16 := by kernel_rfl
theorem fxAg33 : aggOf Try.prog 33 = some true := by kernel_rfl
theorem fxZe33 : zeroOf Try.prog 33 = some (.agg #[.int .u8 0, .int .u8 0, .int .u8 0, .int .u8 0, .int .u8 0, .int .u8 0, .int .u8 0, .int .u8 0, .int .u8 0, .int .u8 0, .int .u8 0, .int .u8 0, .int .u8 0, .int .u8 0, .int .u8 0, .int .u8 0]) := by kernel_rfl
theorem fxAr33 : arrayOf Try.prog 33 = some (16, 5) := by kernel_rfl
theorem fxPl33 : placesOf Try.prog 33 = none := by kernel_rfl
theorem fxSz111 : szOf Try.prog 111 = some 1 := by kernel_rfl
theorem fxAg111 : aggOf Try.prog 111 = some false := by kernel_rfl
theorem fxZe111 : zeroOf Try.prog 111 = some (.slice none 0 0) := by kernel_rfl
theorem fxSl111 : sliceElem Try.prog 111 = some 112 := by kernel_rfl
theorem fxAr111 : arrayOf Try.prog 111 = none := by kernel_rfl
theorem fxSz112 : szOf Try.prog 112 = some 1 := by kernel_rfl
theorem fxBy112 : bytesOf Try.prog 112 = some 24 := by kernel_rfl
theorem fxAg112 : aggOf Try.prog 112 = some false := by kernel_rfl
theorem fxZe112 : zeroOf Try.prog 112 = some (.slice none 0 0) := by kernel_rfl
theorem fxSl112 : sliceElem Try.prog 112 = some 3 := by kernel_rfl
theorem fxAr112 : arrayOf Try.prog 112 = none := by kernel_rfl
theorem fxSz135 : szOf Try.prog 135 = some 1 := by kernel_rfl
theorem fxAg135 : aggOf Try.prog 135 = some false := by kernel_rfl
theorem fxZe135 : zeroOf Try.prog 135 = some (.slice none 0 0) := by kernel_rfl
theorem fxSl135 : sliceElem Try.prog 135 = some 137 := by kernel_rfl
theorem fxAr135 : arrayOf Try.prog 135 = none := by kernel_rfl
theorem fxSz137 : szOf Try.prog 137 = some 3 := by kernel_rfl
theorem fxBy137 : bytesOf Try.prog 137 = some 24 := by kernel_rfl
theorem fxAg137 : aggOf Try.prog 137 = some true := by kernel_rfl
theorem fxZe137 : zeroOf Try.prog 137 = some (.agg #[.int .i64 0, .int .i64 0, .int .i64 0]) := by kernel_rfl
theorem fxFi137x0 : fieldOf Try.prog 137 0 = some (0, 1, 3) := by kernel_rfl
theorem fxFi137x1 : fieldOf Try.prog 137 1 = some (1, 1, 3) := by kernel_rfl
theorem fxFi137x2 : fieldOf Try.prog 137 2 = some (2, 1, 3) := by kernel_rfl
theorem fxPl137 : placesOf Try.prog 137 = some [(0, 1), (1, 1), (2, 1)] := by kernel_rfl
theorem fxSz138 : szOf Try.prog 138 = some 1 := by kernel_rfl
theorem fxAg138 : aggOf Try.prog 138 = some false := by kernel_rfl
theorem fxZe138 : zeroOf Try.prog 138 = some (.slice none 0 0) := by kernel_rfl
theorem fxSl138 : sliceElem Try.prog 138 = some 5 := by kernel_rfl
theorem fxAr138 : arrayOf Try.prog 138 = none := by kernel_rfl
theorem fxSz140 : szOf Try.prog 140 = some 2 := by kernel_rfl
theorem fxAg140 : aggOf Try.prog 140 = some true := by kernel_rfl
theorem fxZe140 : zeroOf Try.prog 140 = some (.agg #[.slice none 0 0, .slice none 0 0]) := by kernel_rfl
theorem fxFi140x0 : fieldOf Try.prog 140 0 = some (0, 1, 138) := by kernel_rfl
theorem fxFi140x1 : fieldOf Try.prog 140 1 = some (1, 1, 111) := by kernel_rfl
theorem fxPl140 : placesOf Try.prog 140 = some [(0, 1), (1, 1)] := by kernel_rfl
theorem fxSz141 : szOf Try.prog 141 = some 1 := by kernel_rfl
theorem fxAg141 : aggOf Try.prog 141 = some false := by kernel_rfl
theorem fxZe141 : zeroOf Try.prog 141 = some (.slice none 0 0) := by kernel_rfl
theorem fxSl141 : sliceElem Try.prog 141 = some 146 := by kernel_rfl
theorem fxAr141 : arrayOf Try.prog 141 = none := by kernel_rfl
theorem fxSz146 : szOf Try.prog 146 = some 17 := by kernel_rfl
theorem fxBy146 : bytesOf Try.prog 146 = some 24 := by kernel_rfl
theorem fxAg146 : aggOf Try.prog 146 = some true := by kernel_rfl
theorem fxZe146 : zeroOf Try.prog 146 = some (.agg #[.int .i64 0, .int .u8 0, .int .u8 0, .int .u8 0, .int .u8 0, .int .u8 0, .int .u8 0, .int .u8 0, .int .u8 0, .int .u8 0, .int .u8 0, .int .u8 0, .int .u8 0, .int .u8 0, .int .u8 0, .int .u8 0, .int .u8 0]) := by kernel_rfl
theorem fxFi146x0 : fieldOf Try.prog 146 0 = some (0, 1, 3) := by kernel_rfl
theorem fxPl146 : placesOf Try.prog 146 = some [(0, 1), (1, 16)] := by kernel_rfl
theorem fxZe165 : zeroOf Try.prog 165 = some (.agg #[.slice none 0 0, .slice none 0 0, .slice none 0 0]) := by kernel_rfl
theorem fxAr165 : arrayOf Try.prog 165 = some (3, 135) := by kernel_rfl
theorem fxPl165 : placesOf Try.prog 165 = none := by kernel_rfl
theorem fxZe166 : zeroOf Try.prog 166 = some (.agg #[.slice none 0 0, .slice none 0 0, .slice none 0 0, .slice none 0 0, .slice none 0 0, .slice none 0 0]) := by kernel_rfl
theorem fxAr166 : arrayOf Try.prog 166 = some (3, 140) := by kernel_rfl
theorem fxPl166 : placesOf Try.prog 166 = none := by kernel_rfl
theorem fxZe167 : zeroOf Try.prog 167 = some (.agg #[.slice none 0 0, .slice none 0 0]) := by kernel_rfl
theorem fxAr167 : arrayOf Try.prog 167 = some (2, 141) := by kernel_rfl
theorem fxPl167 : placesOf Try.prog 167 = none := by kernel_rfl
theorem fxSz296 : szOf Try.prog 296 = some 2 := by kernel_rfl
theorem fxAg296 : aggOf Try.prog 296 = some true := by kernel_rfl
theorem fxZe296 : zeroOf Try.prog 296 = some (.agg #[.int .i64 0, .int .i64 0]) := by kernel_rfl
theorem fxAr296 : arrayOf Try.prog 296 = some (2, 3) := by kernel_rfl
theorem fxPl296 : placesOf Try.prog 296 = none := by kernel_rfl
theorem fxSl308 : sliceElem Try.prog 308 = some 4 := by kernel_rfl
theorem fxAr308 : arrayOf Try.prog 308 = none := by kernel_rfl
theorem fxEq137 : eqOkT Try.prog 137 = some [1, 1, 1] := by kernel_rfl
theorem fxEq146 : eqOkT Try.prog 146 = some [1, 1, 1, 1, 1, 1, 1, 1, 1, 1, 1, 1, 1, 1, 1, 1, 1] := by kernel_rfl
theorem fxEq296 : eqOkT Try.prog 296 = some [1, 1] := by kernel_rfl
theorem fxCv3x283 {k : IntKind} {a : Int} : asV (pr Try.prog (convert 3 283 (.int k a))) = some (.v (.int .u64 (IntKind.u64.wrap a))) := ev_conv Try.underlying3 Try.underlying283
theorem fxCv283x3 {k : IntKind} {a : Int} : asV (pr Try.prog (convert 283 3 (.int k a))) = some (.v (.int .i64 (IntKind.i64.wrap a))) := ev_conv Try.underlying283 Try.underlying3
theorem fxEb4 {x y : Operand} {p q : Bool} : aBin Try.prog .eql 4 x y (.v (.bool p)) (.v (.bool q)) = some (.v (.bool (p == q))) := ev_eqlB Try.underlying4
theorem fxNe111 {x y : Operand} {o : Bool} {sz : Nat} {rows : List Row} : aBin Try.prog .eql 111 x y (.fsl o sz rows) (.v (.slice none 0 0)) = some (if rows.isEmpty then .anyb else .v (.bool false)) := ev_nilE fxSl111
theorem fxOe111 {x y : Operand} {a b c d e : Nat} : aBin Try.prog .eql 111 x y (.osl a b c d e) (.v (.slice none 0 0)) = some (.v (.bool false)) := ev_nilOe fxSl111
theorem fxXe111 {x y : Operand} : aBin Try.prog .eql 111 x y .esl (.v (.slice none 0 0)) = some .anyb := ev_nilXe fxSl111
theorem fxNe112 {x y : Operand} {o : Bool} {sz : Nat} {rows : List Row} : aBin Try.prog .eql 112 x y (.fsl o sz rows) (.v (.slice none 0 0)) = some (if rows.isEmpty then .anyb else .v (.bool false)) := ev_nilE fxSl112
theorem fxOe112 {x y : Operand} {a b c d e : Nat} : aBin Try.prog .eql 112 x y (.osl a b c d e) (.v (.slice none 0 0)) = some (.v (.bool false)) := ev_nilOe fxSl112
theorem fxXe112 {x y : Operand} : aBin Try.prog .eql 112 x y .esl (.v (.slice none 0 0)) = some .anyb := ev_nilXe fxSl112
theorem fxNe135 {x y : Operand} {o : Bool} {sz : Nat} {rows : List Row} : aBin Try.prog .eql 135 x y (.fsl o sz rows) (.v (.slice none 0 0)) = some (if rows.isEmpty then .anyb else .v (.bool false)) := ev_nilE fxSl135
theorem fxOe135 {x y : Operand} {a b c d e : Nat} : aBin Try.prog .eql 135 x y (.osl a b c d e) (.v (.slice none 0 0)) = some (.v (.bool false)) := ev_nilOe fxSl135
theorem fxXe135 {x y : Operand} : aBin Try.prog .eql 135 x y .esl (.v (.slice none 0 0)) = some .anyb := ev_nilXe fxSl135
theorem fxLn138 : asV (pr Try.prog (Builtin.len_ #[138] 0 #[.slice none 0 0])) = some (.v (.int .i64 0)) := ev_lenN Try.underlying138
theorem fxNe138 {x y : Operand} {o : Bool} {sz : Nat} {rows : List Row} : aBin Try.prog .eql 138 x y (.fsl o sz rows) (.v (.slice none 0 0)) = some (if rows.isEmpty then .anyb else .v (.bool false)) := ev_nilE fxSl138
theorem fxOe138 {x y : Operand} {a b c d e : Nat} : aBin Try.prog .eql 138 x y (.osl a b c d e) (.v (.slice none 0 0)) = some (.v (.bool false)) := ev_nilOe fxSl138
theorem fxXe138 {x y : Operand} : aBin Try.prog .eql 138 x y .esl (.v (.slice none 0 0)) = some .anyb := ev_nilXe fxSl138
theorem fxNe141 {x y : Operand} {o : Bool} {sz : Nat} {rows : List Row} : aBin Try.prog .eql 141 x y (.fsl o sz rows) (.v (.slice none 0 0)) = some (if rows.isEmpty then .anyb else .v (.bool false)) := ev_nilE fxSl141
theorem fxOe141 {x y : Operand} {a b c d e : Nat} : aBin Try.prog .eql 141 x y (.osl a b c d e) (.v (.slice none 0 0)) = some (.v (.bool false)) := ev_nilOe fxSl141
theorem fxXe141 {x y : Operand} : aBin Try.prog .eql 141 x y .esl (.v (.slice none 0 0)) = some .anyb := ev_nilXe fxSl141
theorem fxFm46 : (Try.f46.name == "runtime.NumGoroutine") = false := by kernel_rfl
theorem fxFi46 : Try.f46.body.isNone = false := by kernel_rfl
theorem fxFm48 : (Try.f48.name == "runtime.NumGoroutine") = false := by kernel_rfl
theorem fxFi48 : Try.f48.body.isNone = false := by kernel_rfl
theorem fxFm57 : (Try.f57.name == "runtime.NumGoroutine") = false := by kernel_rfl
theorem fxFi57 : Try.f57.body.isNone = false := by kernel_rfl
theorem fxFm58 : (Try.f58.name == "runtime.NumGoroutine") = false := by kernel_rfl
theorem fxFi58 : Try.f58.body.isNone = false := by kernel_rfl
theorem fxFm59 : (Try.f59.name == "runtime.NumGoroutine") = false := by kernel_rfl
theorem fxFi59 : Try.f59.body.isNone = false := by kernel_rfl
theorem fxFm60 : (Try.f60.name == "runtime.NumGoroutine") = false := by kernel_rfl
theorem fxFm61 : (Try.f61.name == "runtime.NumGoroutine") = false := by kernel_rfl
theorem fxFm62 : (Try.f62.name == "runtime.NumGoroutine") = false := by kernel_rfl
theorem fxFi63 : Try.f63.body.isNone = false := by kernel_rfl
theorem fxFj63 : (Try.f63.body = none) = False := eq_false (fun h => by have := fxFi63; rw [h] at this; cases this)
theorem fxFm64 : (Try.f64.name == "runtime.NumGoroutine") = false := by kernel_rfl
theorem fxFi64 : Try.f64.body.isNone = false := by kernel_rfl
theorem fxFm65 : (Try.f65.name == "runtime.NumGoroutine") = false := by kernel_rfl
theorem fxFi65 : Try.f65.body.isNone = false := by kernel_rfl
theorem fxFm66 : (Try.f66.name == "runtime.NumGoroutine") = false := by kernel_rfl
theorem fxFi66 : Try.f66.body.isNone = false := by kernel_rfl
theorem fxFm67 : (Try.f67.name == "runtime.NumGoroutine") = false := by kernel_rfl
theorem fxFi67 : Try.f67.body.isNone = false := by kernel_rfl
theorem fxFm68 : (Try.f68.name == "runtime.NumGoroutine") = false := by kernel_rfl
theorem fxFi68 : Try.f68.body.isNone = false := by kernel_rfl
theorem fxFm69 : (Try.f69.name == "runtime.NumGoroutine") = false := by kernel_rfl
theorem fxFi69 : Try.f69.body.isNone = false := by kernel_rfl
theorem fxFm70 : (Try.f70.name == "runtime.NumGoroutine") = false := by kernel_rfl
theorem fxFm71 : (Try.f71.name == "runtime.NumGoroutine") = false := by kernel_rfl
theorem fxFm72 : (Try.f72.name == "runtime.NumGoroutine") = false := by kernel_rfl
theorem fxFm73 : (Try.f73.name == "runtime.NumGoroutine") = false := by kernel_rfl
theorem fxFm74 : (Try.f74.name == "runtime.NumGoroutine") = false := by kernel_rfl
theorem fxFm75 : (Try.f75.name == "runtime.NumGoroutine") = false := by kernel_rfl
theorem fxFi75 : Try.f75.body.isNone = false := by kernel_rfl
theorem fxFm76 : (Try.f76.name == "runtime.NumGoroutine") = false := by kernel_rfl
theorem fxFm77 : (Try.f77.name == "runtime.NumGoroutine") = false := by kernel_rfl
theorem fxFi77 : Try.f77.body.isNone = false := by kernel_rfl
theorem fxFm133 : (Try.f133.name == "runtime.NumGoroutine") = false := by kernel_rfl
theorem fxFi133 : Try.f133.body.isNone = false := by kernel_rfl
theorem fxFm136 : (Try.f136.name == "runtime.NumGoroutine") = false := by kernel_rfl
theorem fxFi136 : Try.f136.body.isNone = false := by kernel_rfl
theorem fxFm137 : (Try.f137.name == "runtime.NumGoroutine") = false := by kernel_rfl
theorem fxFi137 : Try.f137.body.isNone = false := by kernel_rfl
theorem fxFm138 : (Try.f138.name == "runtime.NumGoroutine") = false := by kernel_rfl
theorem fxFi138 : Try.f138.body.isNone = false := by kernel_rfl
theorem fxFm139 : (Try.f139.name == "runtime.NumGoroutine") = false := by kernel_rfl
theorem fxFi139 : Try.f139.body.isNone = false := by kernel_rfl
theorem fxFj139 : (Try.f139.body = none) = False := eq_false (fun h => by have := fxFi139; rw [h] at this; cases this)
theorem fxFm140 : (Try.f140.name == "runtime.NumGoroutine") = false := by kernel_rfl
theorem fxFm141 : (Try.f141.name == "runtime.NumGoroutine") = false := by kernel_rfl
theorem fxFm142 : (Try.f142.name == "runtime.NumGoroutine") = false := by kernel_rfl
theorem fxFm143 : (Try.f143.name == "runtime.NumGoroutine") = false := by kernel_rfl
theorem fxFi143 : Try.f143.body.isNone = false := by kernel_rfl
theorem fxFm144 : (Try.f144.name == "runtime.NumGoroutine") = false := by kernel_rfl
theorem fxFm145 : (Try.f145.name == "runtime.NumGoroutine") = false := by kernel_rfl
theorem fxFi145 : Try.f145.body.isNone = false := by kernel_rfl
theorem fxFm146 : (Try.f146.name == "runtime.NumGoroutine") = false := by kernel_rfl
theorem fxFm147 : (Try.f147.name == "runtime.NumGoroutine") = false := by kernel_rfl
theorem fxFi147 : Try.f147.body.isNone = false := by kernel_rfl
theorem fxFm148 : (Try.f148.name == "runtime.NumGoroutine") = false := by kernel_rfl
theorem fxFi148 : Try.f148.body.isNone = false := by kernel_rfl
theorem fxFm149 : (Try.f149.name == "runtime.NumGoroutine") = false := by kernel_rfl
theorem fxFi149 : Try.f149.body.isNone = false := by kernel_rfl
theorem fxFm150 : (Try.f150.name == "runtime.NumGoroutine") = false := by kernel_rfl
theorem fxFi150 : Try.f150.body.isNone = false := by kernel_rfl
theorem fxFm185 : (Try.f185.name == "runtime.NumGoroutine") = false := by kernel_rfl
theorem fxFi185 : Try.f185.body.isNone = false := by kernel_rfl
theorem fxFm186 : (Try.f186.name == "runtime.NumGoroutine") = false := by kernel_rfl
theorem fxFi186 : Try.f186.body.isNone = false := by kernel_rfl
theorem fxFm187 : (Try.f187.name == "runtime.NumGoroutine") = false := by kernel_rfl
theorem fxFi187 : Try.f187.body.isNone = false := by kernel_rfl
theorem fxFm188 : (Try.f188.name == "runtime.NumGoroutine") = false := by kernel_rfl
theorem fxFi188 : Try.f188.body.isNone = false := by kernel_rfl
theorem fxFm189 : (Try.f189.name == "runtime.NumGoroutine") = false := by kernel_rfl
theorem fxFi189 : Try.f189.body.isNone = false := by kernel_rfl
theorem fxFm190 : (Try.f190.name == "runtime.NumGoroutine") = false := by kernel_rfl
theorem fxFi190 : Try.f190.body.isNone = false := by kernel_rfl
theorem fxFm191 : (Try.f191.name == "runtime.NumGoroutine") = false := by kernel_rfl
theorem fxFm195 : (Try.f195.name == "runtime.NumGoroutine") = false := by kernel_rfl
theorem fxFi195 : Try.f195.body.isNone = false := by kernel_rfl
theorem fxFm196 : (Try.f196.name == "runtime.NumGoroutine") = false := by kernel_rfl
theorem fxFm206 : (Try.f206.name == "runtime.NumGoroutine") = false := by kernel_rfl
theorem fxFi206 : Try.f206.body.isNone = false := by kernel_rfl
theorem fxFm218 : (Try.f218.name == "runtime.NumGoroutine") = false := by kernel_rfl
theorem fxFi218 : Try.f218.body.isNone = false := by kernel_rfl
theorem fxFm232 : (Try.f232.name == "runtime.NumGoroutine") = false := by kernel_rfl
theorem fxFi232 : Try.f232.body.isNone = false := by kernel_rfl
end Go.Proofs.Ytebpjfdbjhodiaa
