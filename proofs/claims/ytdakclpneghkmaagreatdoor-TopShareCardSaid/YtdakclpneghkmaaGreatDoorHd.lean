/- Facts of the program's tables, each by the kernel. Printed by a program. -/
import Derived.Test.YtdakclpneghkmaaGreatDoorTab
import Derived.Test.YtdakclpneghkmaaGreatDoorL11
import Derived.Test.YtdakclpneghkmaaGreatDoorL09
import Derived.Test.YtdakclpneghkmaaGreatDoorL12
import Derived.Test.YtdakclpneghkmaaGreatDoorL13
namespace Go.Proofs.GD
open Go Go.AI Go.RowKit
theorem fqMix : Tryz.prog.follows .mixedOrders = true := by kernel_rfl
theorem fqSz3 : szOf Tryz.prog 3 = some 1 := by kernel_rfl
theorem fqBy3 : bytesOf Tryz.prog 3 = some 8 := by kernel_rfl
theorem fqAg3 : aggOf Tryz.prog 3 = some false := by kernel_rfl
theorem fqZe3 : zeroOf Tryz.prog 3 = some (.int .i64 0) := by kernel_rfl
theorem fqSl3 : sliceElem Tryz.prog 3 = none := by kernel_rfl
theorem fqAr3 : arrayOf Tryz.prog 3 = none := by kernel_rfl
theorem fqPl3 : placesOf Tryz.prog 3 = none := by kernel_rfl
theorem fqSz4 : szOf Tryz.prog 4 = some 1 := by kernel_rfl
theorem fqBy4 : bytesOf Tryz.prog 4 = some 1 := by kernel_rfl
theorem fqAg4 : aggOf Tryz.prog 4 = some false := by kernel_rfl
theorem fqZe4 : zeroOf Tryz.prog 4 = some (.bool false) := by kernel_rfl
theorem fqSl4 : sliceElem Tryz.prog 4 = none := by kernel_rfl
theorem fqAr4 : arrayOf Tryz.prog 4 = none := by kernel_rfl
theorem fqPl4 : placesOf Tryz.prog 4 = none := by kernel_rfl
theorem fqSz5 : szOf Tryz.prog 5 = some 1 := by kernel_rfl
theorem fqBy5 : bytesOf Tryz.prog 5 = some 1 := by kernel_rfl
theorem fqAg5 : aggOf Tryz.prog 5 = some false := by kernel_rfl
theorem fqZe5 : zeroOf Tryz.prog 5 = some (.int .u8 0) := by kernel_rfl
theorem fqSl5 : sliceElem Tryz.prog 5 = none := by kernel_rfl
theorem fqAr5 : arrayOf Tryz.prog 5 = none := by kernel_rfl
theorem fqPl5 : placesOf Tryz.prog 5 = none := by kernel_rfl
theorem fqSz27 : szOf Tryz.prog 27 = some 1 := by kernel_rfl
theorem fqBy27 : bytesOf Tryz.prog 27 = some 8 := by kernel_rfl
theorem fqAg27 : aggOf Tryz.prog 27 = some false := by kernel_rfl
theorem fqZe27 : zeroOf Tryz.prog 27 = some (.int .i64 0) := by kernel_rfl
theorem fqSl27 : sliceElem Tryz.prog 27 = none := by kernel_rfl
theorem fqAr27 : arrayOf Tryz.prog 27 = none := by kernel_rfl
theorem fqPl27 : placesOf Tryz.prog 27 = none := by kernel_rfl
theorem fqSz28 : szOf Tryz.prog 28 = some 1 := by kernel_rfl
theorem fqBy28 : bytesOf Tryz.prog 28 = some 24 := by kernel_rfl
theorem fqAg28 : aggOf Tryz.prog 28 = some false := by kernel_rfl
theorem fqZe28 : zeroOf Tryz.prog 28 = some (.slice none 0 0) := by kernel_rfl
theorem fqSl28 : sliceElem Tryz.prog 28 = some 5 := by kernel_rfl
theorem fqAr28 : arrayOf Tryz.prog 28 = none := by kernel_rfl
theorem fqPl28 : placesOf Tryz.prog 28 = none := by kernel_rfl
theorem fqSz39 : szOf Tryz.prog 39 = some 1 := by kernel_rfl
theorem fqBy39 : bytesOf Tryz.prog 39 = some 24 := by kernel_rfl
theorem fqAg39 : aggOf Tryz.prog 39 = some false := by kernel_rfl
theorem fqZe39 : zeroOf Tryz.prog 39 = some (.slice none 0 0) := by kernel_rfl
theorem fqSl39 : sliceElem Tryz.prog 39 = some 4 := by kernel_rfl
theorem fqAr39 : arrayOf Tryz.prog 39 = none := by kernel_rfl
theorem fqPl39 : placesOf Tryz.prog 39 = none := by kernel_rfl
theorem fqCv3x5 {k : IntKind} {a : Int} : asV (pr Tryz.prog (convert 3 5 (.int k a))) = some (.v (.int .u8 (IntKind.u8.wrap a))) := ev_conv Tryz.underlying3 Tryz.underlying5
theorem fqCv5x3 {k : IntKind} {a : Int} : asV (pr Tryz.prog (convert 5 3 (.int k a))) = some (.v (.int .i64 (IntKind.i64.wrap a))) := ev_conv Tryz.underlying5 Tryz.underlying3
theorem fqEb4 {x y : Operand} {p q : Bool} : aBin Tryz.prog .eql 4 x y (.v (.bool p)) (.v (.bool q)) = some (.v (.bool (p == q))) := ev_eqlB Tryz.underlying4
theorem fqNb4 {x y : Operand} {p q : Bool} : aBin Tryz.prog .neq 4 x y (.v (.bool p)) (.v (.bool q)) = some (.v (.bool (!(p == q)))) := ev_neqB Tryz.underlying4
theorem fqLn28 : asV (pr Tryz.prog (Builtin.len_ #[28] 0 #[.slice none 0 0])) = some (.v (.int .i64 0)) := ev_lenN Tryz.underlying28
theorem fqNe28 {x y : Operand} {o : Bool} {sz : Nat} {rows : List Row} : aBin Tryz.prog .eql 28 x y (.fsl o sz rows) (.v (.slice none 0 0)) = some (if rows.isEmpty then .anyb else .v (.bool false)) := ev_nilE fqSl28
theorem fqNn28 {x y : Operand} {o : Bool} {sz : Nat} {rows : List Row} : aBin Tryz.prog .neq 28 x y (.fsl o sz rows) (.v (.slice none 0 0)) = some (if rows.isEmpty then .anyb else .v (.bool true)) := ev_nilN fqSl28
theorem fqOe28 {x y : Operand} {a b c d e : Nat} : aBin Tryz.prog .eql 28 x y (.osl a b c d e) (.v (.slice none 0 0)) = some (.v (.bool false)) := ev_nilOe fqSl28
theorem fqOn28 {x y : Operand} {a b c d e : Nat} : aBin Tryz.prog .neq 28 x y (.osl a b c d e) (.v (.slice none 0 0)) = some (.v (.bool true)) := ev_nilOn fqSl28
theorem fqXe28 {x y : Operand} : aBin Tryz.prog .eql 28 x y .esl (.v (.slice none 0 0)) = some .anyb := ev_nilXe fqSl28
theorem fqXn28 {x y : Operand} : aBin Tryz.prog .neq 28 x y .esl (.v (.slice none 0 0)) = some .anyb := ev_nilXn fqSl28
theorem fqLn39 : asV (pr Tryz.prog (Builtin.len_ #[39] 0 #[.slice none 0 0])) = some (.v (.int .i64 0)) := ev_lenN Tryz.underlying39
theorem fqNe39 {x y : Operand} {o : Bool} {sz : Nat} {rows : List Row} : aBin Tryz.prog .eql 39 x y (.fsl o sz rows) (.v (.slice none 0 0)) = some (if rows.isEmpty then .anyb else .v (.bool false)) := ev_nilE fqSl39
theorem fqNn39 {x y : Operand} {o : Bool} {sz : Nat} {rows : List Row} : aBin Tryz.prog .neq 39 x y (.fsl o sz rows) (.v (.slice none 0 0)) = some (if rows.isEmpty then .anyb else .v (.bool true)) := ev_nilN fqSl39
theorem fqOe39 {x y : Operand} {a b c d e : Nat} : aBin Tryz.prog .eql 39 x y (.osl a b c d e) (.v (.slice none 0 0)) = some (.v (.bool false)) := ev_nilOe fqSl39
theorem fqOn39 {x y : Operand} {a b c d e : Nat} : aBin Tryz.prog .neq 39 x y (.osl a b c d e) (.v (.slice none 0 0)) = some (.v (.bool true)) := ev_nilOn fqSl39
theorem fqXe39 {x y : Operand} : aBin Tryz.prog .eql 39 x y .esl (.v (.slice none 0 0)) = some .anyb := ev_nilXe fqSl39
theorem fqXn39 {x y : Operand} : aBin Tryz.prog .neq 39 x y .esl (.v (.slice none 0 0)) = some .anyb := ev_nilXn fqSl39
theorem fqFm13 : (Tryz.f13.name == "runtime.NumGoroutine") = false := by kernel_rfl
theorem fqFi13 : Tryz.f13.body.isNone = false := by kernel_rfl
set_option maxHeartbeats 2000000
set_option maxRecDepth 100000
set_option linter.unusedSimpArgs false
set_option linter.unusedVariables false
attribute [local simp] wpA wpX RunA RunD runF foot footP footB idsA bare apart runL step1 gsel_f gsel_t gsel_s res_same res_and1 res_and2 res_and3 res_and4 res_and5 res_and6 res_false res_true res_v res_ptr res_fptr res_osl res_xsl soft aAppendZ aCap ovlI ovlJ res_fsl res_esl res_agg res_tup res_fn res_junk res_anyb aPick hk imp_left iteV dstOk guardOk astep astepE AI.ev AI.look AI.put envOf aBox cellsOf allOne allOneA oneA Value.oneCell' Value.cells newObj' aFieldAddr aLoad obj readAt thenA blockA condA retA resA tupA view hot hotC hotR depthV cAgg cInt cBool mkAgg allV aAlloc aBuild fillA writeAt aStore isAggA aField idx aIndexAddr aIndex bnd aSlice aExtract aLen aBuiltin aCall isStatic eqAgg eqTy eqC ev_add ev_sub ev_mul ev_quo ev_rem ev_and ev_or ev_xor ev_andNot ev_shl ev_shr ev_eql ev_neq ev_lss ev_leq ev_gtr ev_geq ev_agg w64 wu32 wu8 ev_not ev_neg Cod.plain RCod.plain argM finM cold coldC coldR goInt intDec boolDec aggDec Weaker heapW lowA lowC Again slDec undef aBuildSlice setRows aAppend rowsOf aMakeSlice aClear aCopy softer_self softer_nil valsOf ev_min2 ev_max2 hotR_set hotR_append take_map_set irow_cold irow_mapM irow_mapMc irow_view irow_viewc irow_hotR irow_ren irow_renc irow_low WeakT heapT thOf ren renC AgainT NextF NextT fnDec cFn rNil selfLt natLt0 natLt1 getLastMap frame0 frame1 own0 own1 argG finG tau tauI tauO tauC bareA bareC bareH irow_tau irow_tauc irow_bare irow_flat irow_bareR ownA_nil ownT_nil ownA_c ownT_c ownA_s ownT_s takeMapLen footC plainA noId noIdC cloneF frame0F frame1F insertF replaceI replaceF cellDec rCell fpDec cFp rTwo deleteF allV_oA oneA_oA res_oA RunR RunE runFT footAt hotR_cat tmodN aEqH aSliceA frameN newA newC newH fqSz3 fqBy3 fqAg3 fqZe3 fqSl3 fqAr3 fqPl3 fqSz4 fqBy4 fqAg4 fqZe4 fqSl4 fqAr4 fqPl4 fqSz5 fqBy5 fqAg5 fqZe5 fqSl5 fqAr5 fqPl5 fqSz27 fqBy27 fqAg27 fqZe27 fqSl27 fqAr27 fqPl27 fqSz28 fqBy28 fqAg28 fqZe28 fqSl28 fqAr28 fqPl28 fqSz39 fqBy39 fqAg39 fqZe39 fqSl39 fqAr39 fqPl39 fqCv3x5 fqCv5x3 fqEb4 fqNb4 fqLn28 fqNe28 fqNn28 fqOe28 fqOn28 fqXe28 fqXn28 fqLn39 fqNe39 fqNn39 fqOe39 fqOn39 fqXe39 fqXn39 fqFm13 fqFi13
theorem byEq_pure : PureOk Tryz.prog 13 (argM (cSl (rI .u8)) fun l => argM (cSl (rI .u8)) fun m => finM (if l.length ≤ 4294967296 then some (.v (.bool (decide (l = m)))) else none)) := by
  refine pure2 Tryz.func13 rfl ?_
  rintro l m r hr
  by_cases hc : l.length ≤ 4294967296
  case neg => rw [if_neg hc] at hr; cases hr
  rw [if_pos hc] at hr
  simp only [Option.some.injEq] at hr
  subst hr
  refine body_gen noOrc_ok fqMix (by kernel_rfl) (by simp [Tryz.ntmps13]) ?_
  intro C cP cI cN cD cF cA cR cL
  replace cI : C.inl = fun _ => false := cI
  replace cR : C.rd = fun _ => none := cR
  replace cD : C.dyn = fun _ => [] := cD
  clear cP cN cF cA
  simp [Tryz.ntmps13, Tryz.results13, cSl, cI, cD, cR, rI]
  split
  · rename_i hn
    have hn : l.length = m.length := by omega
    refine loop_for l.length (fun k (_ : Unit) => ([(0, .fsl false 1 (l.map (irow .u8))), (1, .fsl false 1 (m.map (irow .u8))), (12, .v (.int .i64 l.length)), (13, .v (.int .i64 k))], [])) (fun k _ => l.drop k = m.drop k ↔ l = m) () hc (by simp) (by simp) ?_ ?_
    · intro k _ hk hall hw
      have hk3 : k < m.length := by omega
      rw [List.drop_eq_getElem_cons hk, List.drop_eq_getElem_cons hk3, List.cons.injEq] at hall
      by_cases q2 : l[k] = m[k]
      · simp only [q2, true_and] at hall
        simp [Tryz.ntmps13, Tryz.results13, cSl, cI, cD, cR, hk, hk3, hw, rI, irow, q2]
        exact hall
      · have hne : ¬ l = m := fun h => q2 (hall.2 h).1
        simp [Tryz.ntmps13, Tryz.results13, cSl, cI, cD, cR, hk, hk3, hw, rI, irow, q2]
        exact hne
    · intro _ hall
      simp [hn] at hall
      simp [Tryz.ntmps13, Tryz.results13, cSl, cI, cD, cR, hall]
  · rename_i hn
    rintro rfl
    exact hn rfl
end Go.Proofs.GD
/- The head of a round of the law's loop, and its foot: the operations around the calls, by the symbolic engine. -/
namespace Go.Proofs.GD
open Go Go.AI Go.RowKit
set_option maxRecDepth 100000
def lops11 : Array Oper := #[{ dst := some 55, op := Op.move (Operand.tmp 0), type := 39, pos := "top_h06.go:524", after := #[], guard := none }, { dst := some 56, op := Op.move (Operand.tmp 0), type := 39, pos := "top_h06.go:524", after := #[], guard := none }, { dst := some 57, op := Op.call { callee := Callee.builtin Builtin.len, args := #[Operand.tmp 56], argTypes := #[39] }, type := 3, pos := "top_h06.go:524", after := #[{ on := 1, ground := Ground.data }], guard := none }, { dst := some 58, op := Op.call { callee := Callee.builtin Builtin.min, args := #[Operand.tmp 57, Operand.const (Value.int IntKind.i64 30)], argTypes := #[3, 3] }, type := 3, pos := "top_h06.go:524", after := #[{ on := 2, ground := Ground.data }], guard := none }, { dst := some 59, op := Op.slice 39 (Operand.tmp 55) none (some (Operand.tmp 58)) none, type := 39, pos := "top_h06.go:524", after := #[{ on := 0, ground := Ground.data }, { on := 3, ground := Ground.data }], guard := none }, { dst := some 60, op := Op.call { callee := Callee.builtin Builtin.len, args := #[Operand.tmp 59], argTypes := #[39] }, type := 3, pos := "top_h06.go:524", after := #[{ on := 4, ground := Ground.data }], guard := none }, { dst := some 61, op := Op.move (Operand.const (Value.int IntKind.i64 0)), type := 3, pos := "top_h06.go:524", after := #[], guard := none }]
def lops12 : Array Oper := #[{ dst := some 62, op := Op.binOp BinOp.lss 3 (Operand.tmp 61) (Operand.tmp 60) 3, type := 0, pos := "top_h06.go:524", after := #[], guard := none }]
def lops13 : Array Oper := #[{ dst := some 63, op := Op.move (Operand.tmp 61), type := 3, pos := "top_h06.go:524", after := #[], guard := none }, { dst := some 64, op := Op.indexAddr 39 (Operand.tmp 59) (Operand.tmp 61), type := 0, pos := "top_h06.go:524", after := #[], guard := none }, { dst := some 65, op := Op.load 4 (Operand.tmp 64), type := 4, pos := "top_h06.go:524", after := #[{ on := 1, ground := Ground.data }], guard := none }, { dst := some 13, op := Op.assign (Operand.tmp 63), type := 3, pos := "top_h06.go:524", after := #[{ on := 0, ground := Ground.data }, { on := 0, ground := Ground.phase }, { on := 1, ground := Ground.phase }, { on := 2, ground := Ground.phase }], guard := none }, { dst := some 14, op := Op.assign (Operand.tmp 65), type := 4, pos := "top_h06.go:524", after := #[{ on := 2, ground := Ground.data }, { on := 3, ground := Ground.chain }, { on := 0, ground := Ground.phase }, { on := 1, ground := Ground.phase }, { on := 2, ground := Ground.phase }, { on := 3, ground := Ground.phase }], guard := none }]
def lops14 : Array Oper := #[{ dst := some 66, op := Op.move (Operand.tmp 13), type := 3, pos := "top_h06.go:525", after := #[], guard := none }, { dst := some 67, op := Op.convert 3 5 (Operand.tmp 66), type := 5, pos := "top_h06.go:525", after := #[{ on := 0, ground := Ground.data }], guard := none }, { dst := some 15, op := Op.assign (Operand.tmp 67), type := 5, pos := "top_h06.go:525", after := #[{ on := 1, ground := Ground.data }, { on := 0, ground := Ground.phase }, { on := 1, ground := Ground.phase }], guard := none }]
def lops15 : Array Oper := #[{ dst := some 68, op := Op.move (Operand.tmp 13), type := 3, pos := "top_h06.go:526", after := #[], guard := none }, { dst := some 69, op := Op.move (Operand.tmp 1), type := 28, pos := "top_h06.go:526", after := #[], guard := none }, { dst := some 70, op := Op.call { callee := Callee.builtin Builtin.len, args := #[Operand.tmp 69], argTypes := #[28] }, type := 3, pos := "top_h06.go:526", after := #[{ on := 1, ground := Ground.data }], guard := none }, { dst := some 71, op := Op.binOp BinOp.lss 3 (Operand.tmp 68) (Operand.tmp 70) 3, type := 4, pos := "top_h06.go:526", after := #[{ on := 0, ground := Ground.data }, { on := 2, ground := Ground.data }], guard := none }]
def lops16 : Array Oper := #[{ dst := some 72, op := Op.move (Operand.tmp 1), type := 28, pos := "top_h06.go:527", after := #[], guard := none }, { dst := some 73, op := Op.move (Operand.tmp 13), type := 3, pos := "top_h06.go:527", after := #[], guard := none }, { dst := some 74, op := Op.indexAddr 28 (Operand.tmp 72) (Operand.tmp 73), type := 0, pos := "top_h06.go:527", after := #[{ on := 0, ground := Ground.data }, { on := 1, ground := Ground.data }], guard := none }, { dst := some 75, op := Op.load 5 (Operand.tmp 74), type := 5, pos := "top_h06.go:527", after := #[{ on := 2, ground := Ground.data }], guard := none }, { dst := some 15, op := Op.assign (Operand.tmp 75), type := 5, pos := "top_h06.go:527", after := #[{ on := 3, ground := Ground.data }, { on := 0, ground := Ground.phase }, { on := 1, ground := Ground.phase }, { on := 2, ground := Ground.phase }, { on := 3, ground := Ground.phase }], guard := none }]
def lops23 : Array Oper := #[{ dst := some 93, op := Op.binOp BinOp.add 3 (Operand.tmp 61) (Operand.const (Value.int IntKind.i64 1)) 3, type := 3, pos := "top_h06.go:524", after := #[], guard := none }, { dst := some 61, op := Op.move (Operand.tmp 93), type := 3, pos := "top_h06.go:524", after := #[{ on := 0, ground := Ground.data }], guard := none }]
def lops26 : Array Oper := #[{ dst := some 102, op := Op.move (Operand.tmp 20), type := 27, pos := "top_h06.go:540", after := #[], guard := none }, { dst := some 103, op := Op.binOp BinOp.eql 27 (Operand.tmp 102) (Operand.const (Value.int IntKind.i64 0)) 27, type := 4, pos := "top_h06.go:540", after := #[{ on := 0, ground := Ground.data }], guard := none }, { dst := some 104, op := Op.move (Operand.tmp 103), type := 4, pos := "top_h06.go:540", after := #[{ on := 1, ground := Ground.data }], guard := none }, { dst := some 105, op := Op.move (Operand.tmp 19), type := 28, pos := "top_h06.go:540", after := #[{ on := 2, ground := Ground.guard }], guard := some (2, true) }, { dst := some 106, op := Op.move (Operand.tmp 12), type := 28, pos := "top_h06.go:540", after := #[{ on := 2, ground := Ground.guard }], guard := some (2, true) }, { dst := some 107, op := Op.call { callee := Callee.value (Operand.func 13), args := #[Operand.tmp 105, Operand.tmp 106], argTypes := #[28, 28] }, type := 4, pos := "top_h06.go:540", after := #[{ on := 3, ground := Ground.data }, { on := 4, ground := Ground.data }, { on := 2, ground := Ground.chain }, { on := 2, ground := Ground.guard }], guard := some (2, true) }, { dst := some 108, op := Op.pick (Operand.tmp 104) (Operand.tmp 107) (Operand.const (Value.bool false)), type := 4, pos := "top_h06.go:540", after := #[{ on := 2, ground := Ground.data }, { on := 5, ground := Ground.data }], guard := none }, { dst := some 4, op := Op.assign (Operand.tmp 108), type := 4, pos := "top_h06.go:540", after := #[{ on := 6, ground := Ground.data }, { on := 5, ground := Ground.chain }, { on := 0, ground := Ground.phase }, { on := 1, ground := Ground.phase }, { on := 2, ground := Ground.phase }, { on := 3, ground := Ground.phase }, { on := 4, ground := Ground.phase }, { on := 5, ground := Ground.phase }, { on := 6, ground := Ground.phase }], guard := none }]
def rowsB (L : List Bool) : List Row := L.map fun b => [.v (.bool b)]
def bytesR (D : List Int) : List Row := D.map (irow .u8)
/-- what lives at the loop -/
def hdE (al vd : AVal) (i N : Nat) (L : List Bool) : Env := [(1, vd), (5, .ptr 1532 655 0 0), (8, .v (.int .i64 0)), (10, .ptr 2816 11 0 0), (11, .v (.int .i64 1)), (12, al), (59, .fsl false 1 (rowsB L)), (60, .v (.int .i64 N)), (61, .v (.int .i64 i))]
def envW (b : Bool) (x : Int) (al vd : AVal) (i N : Nat) (L : List Bool) : Env := (14, .v (.bool b)) :: (15, .v (.int .u8 x)) :: hdE al vd i N L
set_option maxHeartbeats 2000000
set_option maxRecDepth 100000
set_option linter.unusedSimpArgs false
set_option linter.unusedVariables false
attribute [local simp] wpA wpX RunA RunD runF foot footP footB idsA bare apart runL step1 gsel_f gsel_t gsel_s res_same res_and1 res_and2 res_and3 res_and4 res_and5 res_and6 res_false res_true res_v res_ptr res_fptr res_osl res_xsl soft aAppendZ aCap ovlI ovlJ res_fsl res_esl res_agg res_tup res_fn res_junk res_anyb aPick hk imp_left iteV dstOk guardOk astep astepE AI.ev AI.look AI.put envOf aBox cellsOf allOne allOneA oneA Value.oneCell' Value.cells newObj' aFieldAddr aLoad obj readAt thenA blockA condA retA resA tupA view hot hotC hotR depthV cAgg cInt cBool mkAgg allV aAlloc aBuild fillA writeAt aStore isAggA aField idx aIndexAddr aIndex bnd aSlice aExtract aLen aBuiltin aCall isStatic eqAgg eqTy eqC ev_add ev_sub ev_mul ev_quo ev_rem ev_and ev_or ev_xor ev_andNot ev_shl ev_shr ev_eql ev_neq ev_lss ev_leq ev_gtr ev_geq ev_agg w64 wu32 wu8 ev_not ev_neg Cod.plain RCod.plain argM finM cold coldC coldR goInt intDec boolDec aggDec Weaker heapW lowA lowC Again slDec undef aBuildSlice setRows aAppend rowsOf aMakeSlice aClear aCopy softer_self softer_nil valsOf ev_min2 ev_max2 hotR_set hotR_append take_map_set irow_cold irow_mapM irow_mapMc irow_view irow_viewc irow_hotR irow_ren irow_renc irow_low WeakT heapT thOf ren renC AgainT NextF NextT fnDec cFn rNil selfLt natLt0 natLt1 getLastMap frame0 frame1 own0 own1 argG finG tau tauI tauO tauC bareA bareC bareH irow_tau irow_tauc irow_bare irow_flat irow_bareR ownA_nil ownT_nil ownA_c ownT_c ownA_s ownT_s takeMapLen footC plainA noId noIdC cloneF frame0F frame1F insertF replaceI replaceF cellDec rCell fpDec cFp rTwo deleteF allV_oA oneA_oA res_oA RunR RunE runFT footAt hotR_cat tmodN aEqH aSliceA frameN newA newC newH fqSz3 fqBy3 fqAg3 fqZe3 fqSl3 fqAr3 fqPl3 fqSz4 fqBy4 fqAg4 fqZe4 fqSl4 fqAr4 fqPl4 fqSz5 fqBy5 fqAg5 fqZe5 fqSl5 fqAr5 fqPl5 fqSz27 fqBy27 fqAg27 fqZe27 fqSl27 fqAr27 fqPl27 fqSz28 fqBy28 fqAg28 fqZe28 fqSl28 fqAr28 fqPl28 fqSz39 fqBy39 fqAg39 fqZe39 fqSl39 fqAr39 fqPl39 fqCv3x5 fqCv5x3 fqEb4 fqNb4 fqLn28 fqNe28 fqNn28 fqOe28 fqOn28 fqXe28 fqXn28 fqLn39 fqNe39 fqNn39 fqOe39 fqOn39 fqXe39 fqXn39 fqFm13 fqFi13
theorem h11 {H : Heap} {ρ : Env} {L : List Bool} (h0 : AI.look ρ 0 = .fsl false 1 (rowsB L)) : AWp Tryz.prog 109 0 (.region 11 lops11 false) (fun e ρ' H' => e = .normal ∧ H' = H ∧ AI.look ρ' 59 = .fsl false 1 (rowsB (L.take 30)) ∧ AI.look ρ' 60 = .v (.int .i64 (min L.length 30 : Nat)) ∧ AI.look ρ' 61 = .v (.int .i64 (0 : Nat)) ∧ ∀ k ∈ [1, 5, 8, 10, 11, 12], AI.look ρ' k = AI.look ρ k) ρ H := by
  refine wpA_sound noOrc_ok fqMix _ _ _ _ (by kernel_rfl) ?_
  rcases Nat.lt_or_ge 30 L.length with hl | hl
  · have e1 : (30 : Int) < (L.length : Int) := by omega
    have e2 : (30 : Int) ≤ (L.length : Int) := by omega
    have e3 : min L.length 30 = 30 := by omega
    have e5 : min 30 L.length = 30 := by omega
    simp [lops11, noOrc, h0, rowsB, e1, e2, e3, e5]
  · have e1 : ¬ (30 : Int) < (L.length : Int) := by omega
    have e3 : min L.length 30 = L.length := by omega
    have e4 : L.take 30 = L := List.take_of_length_le hl
    have e5 : min 30 L.length = L.length := by omega
    simp [lops11, noOrc, h0, rowsB, e1, e3, e4, e5]
theorem h12 {H : Heap} {al vd : AVal} {i N : Nat} {L : List Bool} : AWp Tryz.prog 109 0 (.region 12 lops12 false) (fun e ρ' H' => e = .normal ∧ H' = H ∧ ∀ p ∈ (62, .v (.bool (decide (i < N)))) :: hdE al vd i N L, AI.look ρ' p.1 = p.2) (hdE al vd i N L) H := by
  refine wpA_sound noOrc_ok fqMix _ _ _ _ (by kernel_rfl) ?_
  simp [lops12, noOrc, hdE]
def env13 (b : Bool) (al vd : AVal) (i N : Nat) (L : List Bool) : Env := (13, .v (.int .i64 i)) :: (14, .v (.bool b)) :: hdE al vd i N L
def env14 (b : Bool) (al vd : AVal) (i N : Nat) (L : List Bool) : Env := (15, .v (.int .u8 i)) :: env13 b al vd i N L
theorem h13 {H : Heap} {al vd : AVal} {i N : Nat} {L : List Bool} {b : Bool} (hb : L[i]? = some b) : AWp Tryz.prog 109 0 (.region 13 lops13 false) (fun e ρ' H' => e = .normal ∧ H' = H ∧ ∀ p ∈ env13 b al vd i N L, AI.look ρ' p.1 = p.2) (hdE al vd i N L) H := by
  refine wpA_sound noOrc_ok fqMix _ _ _ _ (by kernel_rfl) ?_
  have hil : i < L.length := (List.getElem?_eq_some_iff.1 hb).1
  have hbb : L[i] = b := (List.getElem?_eq_some_iff.1 hb).2
  simp [lops13, noOrc, hdE, env13, rowsB, hb, hbb, hil]
theorem h14 {H : Heap} {al vd : AVal} {i N : Nat} {L : List Bool} {b : Bool} (hi : i < 30) : AWp Tryz.prog 109 0 (.region 14 lops14 false) (fun e ρ' H' => e = .normal ∧ H' = H ∧ ∀ p ∈ env14 b al vd i N L, AI.look ρ' p.1 = p.2) (env13 b al vd i N L) H := by
  refine wpA_sound noOrc_ok fqMix _ _ _ _ (by kernel_rfl) ?_
  have hw : IntKind.u8.wrap (i : Int) = i := (by decide : ∀ j : Nat, j < 30 → IntKind.u8.wrap (j : Int) = j) i hi
  simp [lops14, noOrc, hdE, env13, env14, hw]
theorem h15 {H : Heap} {al : AVal} {i N : Nat} {L : List Bool} {D : List Int} {b : Bool} : AWp Tryz.prog 109 0 (.seq (.region 15 lops15 false) (.cond (.tmp 71) (.region 16 lops16 false) .skip)) (fun e ρ' H' => e = .normal ∧ H' = H ∧ ∀ p ∈ envW b (D[i]?.getD i) al (.fsl false 1 (bytesR D)) i N L, AI.look ρ' p.1 = p.2) (env14 b al (.fsl false 1 (bytesR D)) i N L) H := by
  refine wpA_sound noOrc_ok fqMix _ _ _ _ (by kernel_rfl) ?_
  rcases Nat.lt_or_ge i D.length with hd | hd
  · simp [lops15, lops16, noOrc, hdE, env13, env14, envW, bytesR, hd, irow]
  · have hd' : ¬ i < D.length := by omega
    have hn : D[i]? = none := List.getElem?_eq_none hd
    simp [lops15, lops16, noOrc, hdE, env13, env14, envW, bytesR, hd', hn, irow]
theorem h23 {H : Heap} {al vd : AVal} {i N : Nat} {L : List Bool} (hi : i < 30) : AWp Tryz.prog 109 0 (.region 23 lops23 false) (fun e ρ' H' => e = .normal ∧ H' = H ∧ ∀ p ∈ hdE al vd (i + 1) N L, AI.look ρ' p.1 = p.2) (hdE al vd i N L) H := by
  refine wpA_sound noOrc_ok fqMix _ _ _ _ (by kernel_rfl) ?_
  have hw : IntKind.i64.wrap ((i : Int) + 1) = (i : Int) + 1 := (by decide : ∀ j : Nat, j < 30 → IntKind.i64.wrap ((j : Int) + 1) = (j : Int) + 1) i hi
  simp [lops23, noOrc, hdE, hw]
theorem h26 {H : Heap} {ρ : Env} {i g al : Nat} {kg ka : Nat} {rg ra : List Row} {B : List Int} (hl : B.length = i) (hi : i ≤ 30) (h20 : AI.look ρ 20 = .v (.int .i64 0)) (h19 : AI.look ρ 19 = .osl g 1 0 i kg) (h12 : AI.look ρ 12 = .osl al 1 0 i ka)
    (hg : obj H g = some (1, rg)) (ha : obj H al = some (1, ra)) (eg : rg.take i = B.map (irow .u8)) (ea : ra.take i = B.map (irow .u8)) : AWp Tryz.prog 109 0 (.seq (.region 26 lops26 false) .ret) (retA Tryz.prog Tryz.f4 fun x _ => x = .v (.bool true)) ρ H := by
  refine wpA_sound (noOrc_ok.withP byEq_pure) fqMix _ _ _ _ (by kernel_rfl) ?_
  have hg' := obj_get hg
  have ha' := obj_get ha
  have lg : i ≤ rg.length := by have := congrArg List.length eg; simp at this; omega
  have la : i ≤ ra.length := by have := congrArg List.length ea; simp at this; omega
  have tg : ∀ d, List.take i (rg.map fun r => r.map (AI.view H d)) = B.map (irow .u8) := fun d => by
    rw [← List.map_take, eg, List.map_map, irow_viewc]
  have ta : ∀ d, List.take i (ra.map fun r => r.map (AI.view H d)) = B.map (irow .u8) := fun d => by
    rw [← List.map_take, ea, List.map_map, irow_viewc]
  have hl' : B.length ≤ 4294967296 := by omega
  simp [lops26, noOrc, Orc.withP, h20, h19, h12, hg', ha', lg, la, tg, ta, hl', Tryz.results4, cSl, rI]
theorem h26n {H : Heap} {ρ : Env} (h20 : AI.look ρ 20 = .v (.int .i64 0)) (h19 : AI.look ρ 19 = .v (.slice none 0 0)) (h12 : AI.look ρ 12 = .v (.slice none 0 0)) : AWp Tryz.prog 109 0 (.seq (.region 26 lops26 false) .ret) (retA Tryz.prog Tryz.f4 fun x _ => x = .v (.bool true)) ρ H := by
  refine wpA_sound (noOrc_ok.withP byEq_pure) fqMix _ _ _ _ (by kernel_rfl) ?_
  simp [lops26, noOrc, Orc.withP, h20, h19, h12, Tryz.results4, cSl, rI]
end Go.Proofs.GD
