/- Facts of the program's tables, each by the kernel. Printed by a program. -/
import Derived.Test.YtebpjfdbjhodiaaProg
import Derived.Test.YtebpjfdbjhodiaaAiZc
import Derived.KernelRfl
namespace Go.Proofs.Ytebpjfdbjhodiaa
open Go.AI
theorem fxMix : Try.prog.follows .mixedOrders = true := by kernel_rfl
theorem fxSz3 : szOf Try.prog 3 = some 1 := by kernel_rfl
theorem fxAg3 : aggOf Try.prog 3 = some false := by kernel_rfl
theorem fxSl3 : sliceElem Try.prog 3 = none := by kernel_rfl
theorem fxAg4 : aggOf Try.prog 4 = some false := by kernel_rfl
theorem fxSz53 : szOf Try.prog 53 = some 1 := by kernel_rfl
theorem fxBy53 : bytesOf Try.prog 53 = some 24 := by kernel_rfl
theorem fxAg53 : aggOf Try.prog 53 = some false := by kernel_rfl
theorem fxZe53 : zeroOf Try.prog 53 = some (.slice none 0 0) := by kernel_rfl
theorem fxSl53 : sliceElem Try.prog 53 = some 59 := by kernel_rfl
theorem fxAr53 : arrayOf Try.prog 53 = none := by kernel_rfl
theorem fxSz55 : szOf Try.prog 55 = some 2 := by kernel_rfl
theorem fxAg55 : aggOf Try.prog 55 = some true := by kernel_rfl
theorem fxZe55 : zeroOf Try.prog 55 = some (.agg #[.bool false, .slice none 0 0]) := by kernel_rfl
theorem fxFi55x0 : fieldOf Try.prog 55 0 = some (0, 1, 4) := by kernel_rfl
theorem fxFi55x1 : fieldOf Try.prog 55 1 = some (1, 1, 53) := by kernel_rfl
theorem fxPl55 : placesOf Try.prog 55 = some [(0, 1), (1, 1)] := by kernel_rfl
theorem fxSz57 : szOf Try.prog 57 = some 16 := by kernel_rfl
theorem fxAg57 : aggOf Try.prog 57 = some true := by kernel_rfl
theorem fxZe57 : zeroOf Try.prog 57 = some (.agg #[.bool false, .slice none 0 0, .bool false, .slice none 0 0, .bool false, .slice none 0 0, .bool false, .slice none 0 0, .bool false, .slice none 0 0, .bool false, .slice none 0 0, .bool false, .slice none 0 0, .bool false, .slice none 0 0]) := by kernel_rfl
theorem fxAr57 : arrayOf Try.prog 57 = some (8, 55) := by kernel_rfl
theorem fxPl57 : placesOf Try.prog 57 = none := by kernel_rfl
theorem fxSz59 : szOf Try.prog 59 = some 7 := by kernel_rfl
theorem fxBy59 : bytesOf Try.prog 59 = some 32 := by kernel_rfl
theorem fxAg59 : aggOf Try.prog 59 = some true := by kernel_rfl
theorem fxZe59 : zeroOf Try.prog 59 = some (.agg #[.bool false, .bool false, .int .i64 0, .int .i64 0, .bool false, .bool false, .bool false]) := by kernel_rfl
theorem fxFi59x0 : fieldOf Try.prog 59 0 = some (0, 1, 4) := by kernel_rfl
theorem fxFi59x1 : fieldOf Try.prog 59 1 = some (1, 1, 4) := by kernel_rfl
theorem fxFi59x2 : fieldOf Try.prog 59 2 = some (2, 1, 3) := by kernel_rfl
theorem fxFi59x3 : fieldOf Try.prog 59 3 = some (3, 1, 3) := by kernel_rfl
theorem fxFi59x4 : fieldOf Try.prog 59 4 = some (4, 1, 4) := by kernel_rfl
theorem fxFi59x5 : fieldOf Try.prog 59 5 = some (5, 1, 4) := by kernel_rfl
theorem fxPl59 : placesOf Try.prog 59 = some [(0, 1), (1, 1), (2, 1), (3, 1), (4, 1), (5, 1), (6, 1)] := by kernel_rfl
theorem fxSz60 : szOf Try.prog 60 = some 1 := by kernel_rfl
theorem fxAg60 : aggOf Try.prog 60 = some false := by kernel_rfl
theorem fxSl60 : sliceElem Try.prog 60 = some 72 := by kernel_rfl
theorem fxAr60 : arrayOf Try.prog 60 = none := by kernel_rfl
theorem fxSz62 : szOf Try.prog 62 = some 2 := by kernel_rfl
theorem fxBy62 : bytesOf Try.prog 62 = some 16 := by kernel_rfl
theorem fxAg62 : aggOf Try.prog 62 = some true := by kernel_rfl
theorem fxZe62 : zeroOf Try.prog 62 = some (.agg #[.int .i64 0, .int .i64 0]) := by kernel_rfl
theorem fxFi62x0 : fieldOf Try.prog 62 0 = some (0, 1, 3) := by kernel_rfl
theorem fxFi62x1 : fieldOf Try.prog 62 1 = some (1, 1, 3) := by kernel_rfl
theorem fxSz63 : szOf Try.prog 63 = some 1 := by kernel_rfl
theorem fxAg63 : aggOf Try.prog 63 = some false := by kernel_rfl
theorem fxZe63 : zeroOf Try.prog 63 = some (.slice none 0 0) := by kernel_rfl
theorem fxSl63 : sliceElem Try.prog 63 = some 65 := by kernel_rfl
theorem fxAr63 : arrayOf Try.prog 63 = none := by kernel_rfl
theorem fxSz65 : szOf Try.prog 65 = some 3 := by kernel_rfl
theorem fxBy65 : bytesOf Try.prog 65 = some 24 := by kernel_rfl
theorem fxAg65 : aggOf Try.prog 65 = some true := by kernel_rfl
theorem fxZe65 : zeroOf Try.prog 65 = some (.agg #[.int .i64 0, .int .i64 0, .int .i64 0]) := by kernel_rfl
theorem fxFi65x0 : fieldOf Try.prog 65 0 = some (0, 1, 3) := by kernel_rfl
theorem fxFi65x1 : fieldOf Try.prog 65 1 = some (1, 1, 3) := by kernel_rfl
theorem fxFi65x2 : fieldOf Try.prog 65 2 = some (2, 1, 3) := by kernel_rfl
theorem fxPl65 : placesOf Try.prog 65 = some [(0, 1), (1, 1), (2, 1)] := by kernel_rfl
theorem fxSz66 : szOf Try.prog 66 = some 1 := by kernel_rfl
theorem fxAg66 : aggOf Try.prog 66 = some false := by kernel_rfl
theorem fxZe66 : zeroOf Try.prog 66 = some (.slice none 0 0) := by kernel_rfl
theorem fxSl66 : sliceElem Try.prog 66 = some 53 := by kernel_rfl
theorem fxAr66 : arrayOf Try.prog 66 = none := by kernel_rfl
theorem fxSz68 : szOf Try.prog 68 = some 1 := by kernel_rfl
theorem fxAg68 : aggOf Try.prog 68 = some false := by kernel_rfl
theorem fxZe68 : zeroOf Try.prog 68 = some (.slice none 0 0) := by kernel_rfl
theorem fxSl68 : sliceElem Try.prog 68 = some 69 := by kernel_rfl
theorem fxAr68 : arrayOf Try.prog 68 = none := by kernel_rfl
theorem fxSz69 : szOf Try.prog 69 = some 1 := by kernel_rfl
theorem fxBy69 : bytesOf Try.prog 69 = some 24 := by kernel_rfl
theorem fxAg69 : aggOf Try.prog 69 = some false := by kernel_rfl
theorem fxZe69 : zeroOf Try.prog 69 = some (.slice none 0 0) := by kernel_rfl
theorem fxSl69 : sliceElem Try.prog 69 = some 76 := by kernel_rfl
theorem fxAr69 : arrayOf Try.prog 69 = none := by kernel_rfl
theorem fxSz70 : szOf Try.prog 70 = some 1 := by kernel_rfl
theorem fxAg70 : aggOf Try.prog 70 = some false := by kernel_rfl
theorem fxSl70 : sliceElem Try.prog 70 = some 62 := by kernel_rfl
theorem fxAr70 : arrayOf Try.prog 70 = none := by kernel_rfl
theorem fxSz72 : szOf Try.prog 72 = some 2 := by kernel_rfl
theorem fxBy72 : bytesOf Try.prog 72 = some 48 := by kernel_rfl
theorem fxAg72 : aggOf Try.prog 72 = some true := by kernel_rfl
theorem fxZe72 : zeroOf Try.prog 72 = some (.agg #[.slice none 0 0, .slice none 0 0]) := by kernel_rfl
theorem fxFi72x0 : fieldOf Try.prog 72 0 = some (0, 1, 69) := by kernel_rfl
theorem fxFi72x1 : fieldOf Try.prog 72 1 = some (1, 1, 70) := by kernel_rfl
theorem fxSz74 : szOf Try.prog 74 = some 1 := by kernel_rfl
theorem fxAg74 : aggOf Try.prog 74 = some false := by kernel_rfl
theorem fxSz76 : szOf Try.prog 76 = some 3 := by kernel_rfl
theorem fxBy76 : bytesOf Try.prog 76 = some 24 := by kernel_rfl
theorem fxAg76 : aggOf Try.prog 76 = some true := by kernel_rfl
theorem fxZe76 : zeroOf Try.prog 76 = some (.agg #[.int .i64 0, .int .i64 0, .int .u32 0]) := by kernel_rfl
theorem fxFi76x0 : fieldOf Try.prog 76 0 = some (0, 1, 3) := by kernel_rfl
theorem fxFi76x1 : fieldOf Try.prog 76 1 = some (1, 1, 3) := by kernel_rfl
theorem fxFi76x2 : fieldOf Try.prog 76 2 = some (2, 1, 74) := by kernel_rfl
theorem fxPl76 : placesOf Try.prog 76 = some [(0, 1), (1, 1), (2, 1)] := by kernel_rfl
theorem fxZe92 : zeroOf Try.prog 92 = some (.agg #[.bool false, .slice none 0 0, .bool false, .slice none 0 0, .bool false, .slice none 0 0, .bool false, .slice none 0 0, .bool false, .slice none 0 0, .bool false, .slice none 0 0, .bool false, .slice none 0 0, .bool false, .slice none 0 0, .bool false, .slice none 0 0, .bool false, .slice none 0 0, .bool false, .slice none 0 0, .bool false, .slice none 0 0, .bool false, .slice none 0 0, .bool false, .slice none 0 0, .bool false, .slice none 0 0, .bool false, .slice none 0 0, .bool false, .slice none 0 0, .bool false, .slice none 0 0, .bool false, .slice none 0 0, .bool false, .slice none 0 0, .bool false, .slice none 0 0, .bool false, .slice none 0 0, .bool false, .slice none 0 0, .bool false, .slice none 0 0]) := by kernel_rfl
theorem fxAr92 : arrayOf Try.prog 92 = some (3, 57) := by kernel_rfl
theorem fxPl92 : placesOf Try.prog 92 = none := by kernel_rfl
theorem fxZe93 : zeroOf Try.prog 93 = some (.agg #[.slice none 0 0, .slice none 0 0, .slice none 0 0]) := by kernel_rfl
theorem fxAr93 : arrayOf Try.prog 93 = some (3, 60) := by kernel_rfl
theorem fxPl93 : placesOf Try.prog 93 = none := by kernel_rfl
theorem fxZe94 : zeroOf Try.prog 94 = some (.agg #[.slice none 0 0, .slice none 0 0, .slice none 0 0]) := by kernel_rfl
theorem fxAr94 : arrayOf Try.prog 94 = some (3, 63) := by kernel_rfl
theorem fxPl94 : placesOf Try.prog 94 = none := by kernel_rfl
theorem fxEq59 : eqOkT Try.prog 59 = some [0, 0, 1, 1, 0, 0, 0] := by kernel_rfl
theorem fxEq65 : eqOkT Try.prog 65 = some [1, 1, 1] := by kernel_rfl
theorem fxEq76 : eqOkT Try.prog 76 = some [1, 1, 1] := by kernel_rfl
theorem fxNe53 {x y : Operand} {o : Bool} {sz : Nat} {rows : List Row} : aBin Try.prog .eql 53 x y (.fsl o sz rows) (.v (.slice none 0 0)) = some (if rows.isEmpty then .anyb else .v (.bool false)) := ev_nilE fxSl53
theorem fxOe53 {x y : Operand} {a b c d e : Nat} : aBin Try.prog .eql 53 x y (.osl a b c d e) (.v (.slice none 0 0)) = some (.v (.bool false)) := ev_nilOe fxSl53
theorem fxXe53 {x y : Operand} : aBin Try.prog .eql 53 x y .esl (.v (.slice none 0 0)) = some .anyb := ev_nilXe fxSl53
theorem fxNe60 {x y : Operand} {o : Bool} {sz : Nat} {rows : List Row} : aBin Try.prog .eql 60 x y (.fsl o sz rows) (.v (.slice none 0 0)) = some (if rows.isEmpty then .anyb else .v (.bool false)) := ev_nilE fxSl60
theorem fxOe60 {x y : Operand} {a b c d e : Nat} : aBin Try.prog .eql 60 x y (.osl a b c d e) (.v (.slice none 0 0)) = some (.v (.bool false)) := ev_nilOe fxSl60
theorem fxXe60 {x y : Operand} : aBin Try.prog .eql 60 x y .esl (.v (.slice none 0 0)) = some .anyb := ev_nilXe fxSl60
theorem fxLn63 : asV (pr Try.prog (Builtin.len_ #[63] 0 #[.slice none 0 0])) = some (.v (.int .i64 0)) := ev_lenN Try.underlying63
theorem fxNe63 {x y : Operand} {o : Bool} {sz : Nat} {rows : List Row} : aBin Try.prog .eql 63 x y (.fsl o sz rows) (.v (.slice none 0 0)) = some (if rows.isEmpty then .anyb else .v (.bool false)) := ev_nilE fxSl63
theorem fxOe63 {x y : Operand} {a b c d e : Nat} : aBin Try.prog .eql 63 x y (.osl a b c d e) (.v (.slice none 0 0)) = some (.v (.bool false)) := ev_nilOe fxSl63
theorem fxXe63 {x y : Operand} : aBin Try.prog .eql 63 x y .esl (.v (.slice none 0 0)) = some .anyb := ev_nilXe fxSl63
theorem fxNe69 {x y : Operand} {o : Bool} {sz : Nat} {rows : List Row} : aBin Try.prog .eql 69 x y (.fsl o sz rows) (.v (.slice none 0 0)) = some (if rows.isEmpty then .anyb else .v (.bool false)) := ev_nilE fxSl69
theorem fxOe69 {x y : Operand} {a b c d e : Nat} : aBin Try.prog .eql 69 x y (.osl a b c d e) (.v (.slice none 0 0)) = some (.v (.bool false)) := ev_nilOe fxSl69
theorem fxXe69 {x y : Operand} : aBin Try.prog .eql 69 x y .esl (.v (.slice none 0 0)) = some .anyb := ev_nilXe fxSl69
theorem fxNe70 {x y : Operand} {o : Bool} {sz : Nat} {rows : List Row} : aBin Try.prog .eql 70 x y (.fsl o sz rows) (.v (.slice none 0 0)) = some (if rows.isEmpty then .anyb else .v (.bool false)) := ev_nilE fxSl70
theorem fxOe70 {x y : Operand} {a b c d e : Nat} : aBin Try.prog .eql 70 x y (.osl a b c d e) (.v (.slice none 0 0)) = some (.v (.bool false)) := ev_nilOe fxSl70
theorem fxXe70 {x y : Operand} : aBin Try.prog .eql 70 x y .esl (.v (.slice none 0 0)) = some .anyb := ev_nilXe fxSl70
theorem fxFm22 : (Try.f22.name == "runtime.NumGoroutine") = false := by kernel_rfl
theorem fxFi22 : Try.f22.body.isNone = false := by kernel_rfl
theorem fxFm23 : (Try.f23.name == "runtime.NumGoroutine") = false := by kernel_rfl
theorem fxFi23 : Try.f23.body.isNone = false := by kernel_rfl
theorem fxFm24 : (Try.f24.name == "runtime.NumGoroutine") = false := by kernel_rfl
theorem fxFi24 : Try.f24.body.isNone = false := by kernel_rfl
theorem fxFm25 : (Try.f25.name == "runtime.NumGoroutine") = false := by kernel_rfl
theorem fxFi25 : Try.f25.body.isNone = false := by kernel_rfl
theorem fxFm26 : (Try.f26.name == "runtime.NumGoroutine") = false := by kernel_rfl
theorem fxFi26 : Try.f26.body.isNone = false := by kernel_rfl
theorem fxFm27 : (Try.f27.name == "runtime.NumGoroutine") = false := by kernel_rfl
theorem fxFm28 : (Try.f28.name == "runtime.NumGoroutine") = false := by kernel_rfl
theorem fxFi28 : Try.f28.body.isNone = false := by kernel_rfl
theorem fxFj28 : (Try.f28.body = none) = False := eq_false (fun h => by have := fxFi28; rw [h] at this; cases this)
theorem fxFm29 : (Try.f29.name == "runtime.NumGoroutine") = false := by kernel_rfl
theorem fxFi29 : Try.f29.body.isNone = false := by kernel_rfl
theorem fxFm30 : (Try.f30.name == "runtime.NumGoroutine") = false := by kernel_rfl
theorem fxFi30 : Try.f30.body.isNone = false := by kernel_rfl
theorem fxFm31 : (Try.f31.name == "runtime.NumGoroutine") = false := by kernel_rfl
theorem fxFi31 : Try.f31.body.isNone = false := by kernel_rfl
theorem fxFm32 : (Try.f32.name == "runtime.NumGoroutine") = false := by kernel_rfl
theorem fxFm33 : (Try.f33.name == "runtime.NumGoroutine") = false := by kernel_rfl
theorem fxFm34 : (Try.f34.name == "runtime.NumGoroutine") = false := by kernel_rfl
theorem fxFm36 : (Try.f36.name == "runtime.NumGoroutine") = false := by kernel_rfl
theorem fxFi36 : Try.f36.body.isNone = false := by kernel_rfl
theorem fxFm38 : (Try.f38.name == "runtime.NumGoroutine") = false := by kernel_rfl
theorem fxFi38 : Try.f38.body.isNone = false := by kernel_rfl
theorem fxFm39 : (Try.f39.name == "runtime.NumGoroutine") = false := by kernel_rfl
theorem fxFm40 : (Try.f40.name == "runtime.NumGoroutine") = false := by kernel_rfl
theorem fxFm93 : (Try.f93.name == "runtime.NumGoroutine") = false := by kernel_rfl
theorem fxFi93 : Try.f93.body.isNone = false := by kernel_rfl
theorem fxFm94 : (Try.f94.name == "runtime.NumGoroutine") = false := by kernel_rfl
theorem fxFi94 : Try.f94.body.isNone = false := by kernel_rfl
theorem fxFm95 : (Try.f95.name == "runtime.NumGoroutine") = false := by kernel_rfl
theorem fxFi95 : Try.f95.body.isNone = false := by kernel_rfl
theorem fxFm96 : (Try.f96.name == "runtime.NumGoroutine") = false := by kernel_rfl
theorem fxFm97 : (Try.f97.name == "runtime.NumGoroutine") = false := by kernel_rfl
theorem fxFm98 : (Try.f98.name == "runtime.NumGoroutine") = false := by kernel_rfl
theorem fxFm99 : (Try.f99.name == "runtime.NumGoroutine") = false := by kernel_rfl
theorem fxFi99 : Try.f99.body.isNone = false := by kernel_rfl
theorem fxFm100 : (Try.f100.name == "runtime.NumGoroutine") = false := by kernel_rfl
theorem fxFi100 : Try.f100.body.isNone = false := by kernel_rfl
theorem fxFm101 : (Try.f101.name == "runtime.NumGoroutine") = false := by kernel_rfl
theorem fxFi101 : Try.f101.body.isNone = false := by kernel_rfl
theorem fxFm102 : (Try.f102.name == "runtime.NumGoroutine") = false := by kernel_rfl
theorem fxFi102 : Try.f102.body.isNone = false := by kernel_rfl
theorem fxFm103 : (Try.f103.name == "runtime.NumGoroutine") = false := by kernel_rfl
theorem fxFi103 : Try.f103.body.isNone = false := by kernel_rfl
theorem fxFm104 : (Try.f104.name == "runtime.NumGoroutine") = false := by kernel_rfl
theorem fxFm105 : (Try.f105.name == "runtime.NumGoroutine") = false := by kernel_rfl
theorem fxFm106 : (Try.f106.name == "runtime.NumGoroutine") = false := by kernel_rfl
theorem fxFm107 : (Try.f107.name == "runtime.NumGoroutine") = false := by kernel_rfl
theorem fxFi107 : Try.f107.body.isNone = false := by kernel_rfl
theorem fxFm108 : (Try.f108.name == "runtime.NumGoroutine") = false := by kernel_rfl
theorem fxFm109 : (Try.f109.name == "runtime.NumGoroutine") = false := by kernel_rfl
theorem fxFi109 : Try.f109.body.isNone = false := by kernel_rfl
theorem fxFm110 : (Try.f110.name == "runtime.NumGoroutine") = false := by kernel_rfl
theorem fxFi110 : Try.f110.body.isNone = false := by kernel_rfl
theorem fxFm111 : (Try.f111.name == "runtime.NumGoroutine") = false := by kernel_rfl
theorem fxFm112 : (Try.f112.name == "runtime.NumGoroutine") = false := by kernel_rfl
theorem fxFm163 : (Try.f163.name == "runtime.NumGoroutine") = false := by kernel_rfl
theorem fxFi163 : Try.f163.body.isNone = false := by kernel_rfl
theorem fxFm164 : (Try.f164.name == "runtime.NumGoroutine") = false := by kernel_rfl
theorem fxFi164 : Try.f164.body.isNone = false := by kernel_rfl
theorem fxFm165 : (Try.f165.name == "runtime.NumGoroutine") = false := by kernel_rfl
theorem fxFm166 : (Try.f166.name == "runtime.NumGoroutine") = false := by kernel_rfl
theorem fxFm167 : (Try.f167.name == "runtime.NumGoroutine") = false := by kernel_rfl
theorem fxFi167 : Try.f167.body.isNone = false := by kernel_rfl
theorem fxFm168 : (Try.f168.name == "runtime.NumGoroutine") = false := by kernel_rfl
theorem fxFi168 : Try.f168.body.isNone = false := by kernel_rfl
theorem fxFm169 : (Try.f169.name == "runtime.NumGoroutine") = false := by kernel_rfl
theorem fxFi169 : Try.f169.body.isNone = false := by kernel_rfl
theorem fxFm170 : (Try.f170.name == "runtime.NumGoroutine") = false := by kernel_rfl
theorem fxFi170 : Try.f170.body.isNone = false := by kernel_rfl
theorem fxFm171 : (Try.f171.name == "runtime.NumGoroutine") = false := by kernel_rfl
theorem fxFm199 : (Try.f199.name == "runtime.NumGoroutine") = false := by kernel_rfl
theorem fxFi199 : Try.f199.body.isNone = false := by kernel_rfl
theorem fxFm200 : (Try.f200.name == "runtime.NumGoroutine") = false := by kernel_rfl
theorem fxFi200 : Try.f200.body.isNone = false := by kernel_rfl
theorem fxFm201 : (Try.f201.name == "runtime.NumGoroutine") = false := by kernel_rfl
theorem fxFm221 : (Try.f221.name == "runtime.NumGoroutine") = false := by kernel_rfl
theorem fxFi221 : Try.f221.body.isNone = false := by kernel_rfl
end Go.Proofs.Ytebpjfdbjhodiaa
