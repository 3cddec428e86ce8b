/- Ask of Sym, for any string: contracts. -/
import Derived.Test.YtdakclpneghkmaaGreatDoorAsk
import Derived.Test.YtdakclpneghkmaaGreatDoorYA
import Derived.Test.YtdakclpneghkmaaGreatDoorYB
import Derived.Test.YtdakclpneghkmaaGreatDoorYC
import Derived.Test.YtdakclpneghkmaaGreatDoorYD
import Derived.Test.YtdakclpneghkmaaGreatDoorTA
import Derived.Test.YtdakclpneghkmaaGreatDoorZA
import Derived.Test.YtdakclpneghkmaaGreatDoorZB
namespace Go.Proofs.GD
set_option linter.unusedSectionVars false
variable [Go.AI.Sym]
open Go Go.AI Go.RowKit
set_option maxRecDepth 100000
set_option maxHeartbeats 1000000
theorem all65 : ∀ z, 1 ≤ z → z ≤ 64 → Run65 z
 | 0, h, _ => absurd h (by decide)
 | 1, _, _ => run65_1
 | 2, _, _ => run65_2
 | 3, _, _ => run65_3
 | 4, _, _ => run65_4
 | 5, _, _ => run65_5
 | 6, _, _ => run65_6
 | 7, _, _ => run65_7
 | 8, _, _ => run65_8
 | 9, _, _ => run65_9
 | 10, _, _ => run65_10
 | 11, _, _ => run65_11
 | 12, _, _ => run65_12
 | 13, _, _ => run65_13
 | 14, _, _ => run65_14
 | 15, _, _ => run65_15
 | 16, _, _ => run65_16
 | 17, _, _ => run65_17
 | 18, _, _ => run65_18
 | 19, _, _ => run65_19
 | 20, _, _ => run65_20
 | 21, _, _ => run65_21
 | 22, _, _ => run65_22
 | 23, _, _ => run65_23
 | 24, _, _ => run65_24
 | 25, _, _ => run65_25
 | 26, _, _ => run65_26
 | 27, _, _ => run65_27
 | 28, _, _ => run65_28
 | 29, _, _ => run65_29
 | 30, _, _ => run65_30
 | 31, _, _ => run65_31
 | 32, _, _ => run65_32
 | 33, _, _ => run65_33
 | 34, _, _ => run65_34
 | 35, _, _ => run65_35
 | 36, _, _ => run65_36
 | 37, _, _ => run65_37
 | 38, _, _ => run65_38
 | 39, _, _ => run65_39
 | 40, _, _ => run65_40
 | 41, _, _ => run65_41
 | 42, _, _ => run65_42
 | 43, _, _ => run65_43
 | 44, _, _ => run65_44
 | 45, _, _ => run65_45
 | 46, _, _ => run65_46
 | 47, _, _ => run65_47
 | 48, _, _ => run65_48
 | 49, _, _ => run65_49
 | 50, _, _ => run65_50
 | 51, _, _ => run65_51
 | 52, _, _ => run65_52
 | 53, _, _ => run65_53
 | 54, _, _ => run65_54
 | 55, _, _ => run65_55
 | 56, _, _ => run65_56
 | 57, _, _ => run65_57
 | 58, _, _ => run65_58
 | 59, _, _ => run65_59
 | 60, _, _ => run65_60
 | 61, _, _ => run65_61
 | 62, _, _ => run65_62
 | 63, _, _ => run65_63
 | 64, _, _ => run65_64
 | z + 65, _, h => absurd h (by omega)
theorem allT : ∀ z, 1 ≤ z → z ≤ 64 → RunT z
 | 0, h, _ => absurd h (by decide)
 | 1, _, _ => runT_1
 | 2, _, _ => runT_2
 | 3, _, _ => runT_3
 | 4, _, _ => runT_4
 | 5, _, _ => runT_5
 | 6, _, _ => runT_6
 | 7, _, _ => runT_7
 | 8, _, _ => runT_8
 | 9, _, _ => runT_9
 | 10, _, _ => runT_10
 | 11, _, _ => runT_11
 | 12, _, _ => runT_12
 | 13, _, _ => runT_13
 | 14, _, _ => runT_14
 | 15, _, _ => runT_15
 | 16, _, _ => runT_16
 | 17, _, _ => runT_17
 | 18, _, _ => runT_18
 | 19, _, _ => runT_19
 | 20, _, _ => runT_20
 | 21, _, _ => runT_21
 | 22, _, _ => runT_22
 | 23, _, _ => runT_23
 | 24, _, _ => runT_24
 | 25, _, _ => runT_25
 | 26, _, _ => runT_26
 | 27, _, _ => runT_27
 | 28, _, _ => runT_28
 | 29, _, _ => runT_29
 | 30, _, _ => runT_30
 | 31, _, _ => runT_31
 | 32, _, _ => runT_32
 | 33, _, _ => runT_33
 | 34, _, _ => runT_34
 | 35, _, _ => runT_35
 | 36, _, _ => runT_36
 | 37, _, _ => runT_37
 | 38, _, _ => runT_38
 | 39, _, _ => runT_39
 | 40, _, _ => runT_40
 | 41, _, _ => runT_41
 | 42, _, _ => runT_42
 | 43, _, _ => runT_43
 | 44, _, _ => runT_44
 | 45, _, _ => runT_45
 | 46, _, _ => runT_46
 | 47, _, _ => runT_47
 | 48, _, _ => runT_48
 | 49, _, _ => runT_49
 | 50, _, _ => runT_50
 | 51, _, _ => runT_51
 | 52, _, _ => runT_52
 | 53, _, _ => runT_53
 | 54, _, _ => runT_54
 | 55, _, _ => runT_55
 | 56, _, _ => runT_56
 | 57, _, _ => runT_57
 | 58, _, _ => runT_58
 | 59, _, _ => runT_59
 | 60, _, _ => runT_60
 | 61, _, _ => runT_61
 | 62, _, _ => runT_62
 | 63, _, _ => runT_63
 | 64, _, _ => runT_64
 | z + 65, _, h => absurd h (by omega)
theorem allS : ∀ z, 1 ≤ z → z ≤ 64 → RunS z
 | 0, h, _ => absurd h (by decide)
 | 1, _, _ => runS_1
 | 2, _, _ => runS_2
 | 3, _, _ => runS_3
 | 4, _, _ => runS_4
 | 5, _, _ => runS_5
 | 6, _, _ => runS_6
 | 7, _, _ => runS_7
 | 8, _, _ => runS_8
 | 9, _, _ => runS_9
 | 10, _, _ => runS_10
 | 11, _, _ => runS_11
 | 12, _, _ => runS_12
 | 13, _, _ => runS_13
 | 14, _, _ => runS_14
 | 15, _, _ => runS_15
 | 16, _, _ => runS_16
 | 17, _, _ => runS_17
 | 18, _, _ => runS_18
 | 19, _, _ => runS_19
 | 20, _, _ => runS_20
 | 21, _, _ => runS_21
 | 22, _, _ => runS_22
 | 23, _, _ => runS_23
 | 24, _, _ => runS_24
 | 25, _, _ => runS_25
 | 26, _, _ => runS_26
 | 27, _, _ => runS_27
 | 28, _, _ => runS_28
 | 29, _, _ => runS_29
 | 30, _, _ => runS_30
 | 31, _, _ => runS_31
 | 32, _, _ => runS_32
 | 33, _, _ => runS_33
 | 34, _, _ => runS_34
 | 35, _, _ => runS_35
 | 36, _, _ => runS_36
 | 37, _, _ => runS_37
 | 38, _, _ => runS_38
 | 39, _, _ => runS_39
 | 40, _, _ => runS_40
 | 41, _, _ => runS_41
 | 42, _, _ => runS_42
 | 43, _, _ => runS_43
 | 44, _, _ => runS_44
 | 45, _, _ => runS_45
 | 46, _, _ => runS_46
 | 47, _, _ => runS_47
 | 48, _, _ => runS_48
 | 49, _, _ => runS_49
 | 50, _, _ => runS_50
 | 51, _, _ => runS_51
 | 52, _, _ => runS_52
 | 53, _, _ => runS_53
 | 54, _, _ => runS_54
 | 55, _, _ => runS_55
 | 56, _, _ => runS_56
 | 57, _, _ => runS_57
 | 58, _, _ => runS_58
 | 59, _, _ => runS_59
 | 60, _, _ => runS_60
 | 61, _, _ => runS_61
 | 62, _, _ => runS_62
 | 63, _, _ => runS_63
 | 64, _, _ => runS_64
 | z + 65, _, h => absurd h (by omega)
theorem foldB : ∀ (l : List UInt8) (b : ByteArray), (l.map fun x => (x.toNat : Int)).foldl (fun b a => b.push (UInt8.ofNat a.toNat)) b = ⟨b.data ++ l.toArray⟩
 | [], b => by simp
 | x :: l, b => by
  rw [List.map_cons, List.foldl_cons, foldB l]
  have e : UInt8.ofNat ((x.toNat : Int)).toNat = x := by simp
  rw [e]
  simp [ByteArray.push]
theorem strB_map (l : List UInt8) : strB (l.map fun x => (x.toNat : Int)) = ⟨l.toArray⟩ := by
 unfold strB
 rw [foldB]
 simp [ByteArray.empty, ByteArray.emptyWithCapacity]
 rfl
theorem range_data (s : ByteArray) : (List.range s.size).map (byT s) = s.data.toList := by
 apply List.ext_getElem
 ·simp
 ·intro i h1 h2
  simp only [List.length_map, List.length_range] at h1
  simp [byT, Array.getD]
  exact dif_pos h1
theorem txB_is (s : ByteArray) : txB s.size (byT s) = s := by
 unfold txB
 rw [range_data]
theorem strZ_is (s : ByteArray) : strZ s.size (byT s) = s := by
 unfold strZ
 rw [show ((List.range s.size).map fun i => ((byT s i).toNat : Int)) = ((List.range s.size).map (byT s)).map fun x => (x.toNat : Int) by rw [List.map_map]; rfl, range_data, strB_map]
variable {tgt : ByteArray}
theorem spE_pos {s : ByteArray} (h : spE s = 0) : 1 ≤ s.size := by
 rcases Nat.eq_zero_or_pos s.size with h0 | h0
 ·exfalso
  have e : s = ⟨#[]⟩ := by
   apply bytes_inj
   have : s.data.toList.length = 0 := by rw [Array.length_toList]; exact h0
   rw [List.length_eq_zero_iff.1 this]
  subst e
  have : spE ⟨#[]⟩ = 3 := by kernel_rfl
  rw [h] at this; cases this
 ·exact h0
theorem Mk.link (hM : Mk tgt) : LkOk tgt.size (byT tgt) tgt := hM.lk allT (strZ_is tgt) (spE_pos hM.ok)
theorem lbc_lssM {zA zA' zbA zbA' : AVal} (h1 : Lss (mvA (gOf mvS) zA) (mvA (gOf mvS) zA')) (h2 : Lss zbA zbA') : LsZ ((LBc zA zbA).map (mvP (gOf mvS))) ((LBc zA' zbA').map (mvP (gOf mvS))) := by
 unfold LBc
 simp only [List.map_cons, List.map_nil]
 repeat' (first | exact trivial | refine ⟨rfl, .inl rfl, ?_⟩ | refine ⟨rfl, .inr ⟨1, _, _, by decide, sec_is zbA, sec_is zbA', sec_lss h2⟩, ?_⟩ | refine ⟨rfl, .inr ⟨8, _, _, by decide, rfl, rfl, ?_⟩, ?_⟩ | refine ⟨RowL.refl _, ?_⟩ | refine ⟨⟨Lss.refl _, Lss.refl _, Lss.refl _, Lss.refl _, h1, RowL.refl _⟩, ?_⟩)
theorem lbz_mv {z : Nat} {x : Nat → UInt8} (hL : MarksL z x) : LsZ ((LBz z).map (mvP (gOf mvS))) SYm := lbc_lssM (lss_of ((hL.size _).2 rfl)) (lss_of ((hL.sizeB _).2 rfl))
theorem w65A (hM : Mk tgt) {bx : Nat → LO} (hB : Bl 2822 bx) : InlOk Tryz.prog 65 (snapM (fsA (.str 64)) 2849 (addB SA bx) r65 3121 (SYm ++ SYk bx)) := by
 refine snap_mark (pre := [.ptr 2064 198 0 0, .v (.int .i64 3), .v (.string ⟨#[108]⟩)]) (post := [zi, zi]) fun v hv => ?_
 rw [hM.isT hv]
 show InlOk Tryz.prog 65 (snapM (fsA (.v (.string tgt))) 2849 (addB SA bx) r65 3121 (SYm ++ SYk bx))
 have hr := all65 tgt.size (spE_pos hM.ok) (spE_size hM.ok) (byT tgt) bx
 rw [txB_is] at hr
 exact (snapK hT4 (addB_ok (by decide) (by kernel_rfl) hB.ok) hr).post (LsZ.app (lbz_mv hM.marksL) ⟨rfl, blk_of hM.marksL, LsZ.refl _⟩)
theorem w65B (hM : Mk tgt) {bx : Nat → LO} (hB : Bl 2822 bx) : InlOk Tryz.prog 65 (snapM (fsA (.str 48)) 2849 (addB SAB bx) r65B 2875 (addB SAB bx)) := by
 refine snap_mark (pre := [.ptr 2064 198 0 0, .v (.int .i64 3), .v (.string ⟨#[108]⟩)]) (post := [zi, zi]) fun v hv => ?_
 obtain ⟨s, rfl, hs⟩ := hM.isS hv
 show InlOk Tryz.prog 65 (snapM (fsA (.v (.string s))) 2849 (addB SAB bx) r65B 2875 (addB SAB bx))
 have hr := allS s.size (spE_pos hs) (spE_size hs) (byT s) bx
 rw [txB_is] at hr
 exact snapF hT4 (addB_ok (by decide) (by kernel_rfl) hB.ok) hr
theorem tY (hM : Mk tgt) : TabV Tryz.prog tab4 catY := (hTS hM.marksS).add q65 (w65A hM bS_ok)
theorem tZ (hM : Mk tgt) : TabV Tryz.prog tab4 catZ := (hTS hM.marksS).add q65 (w65B hM bS_ok)
theorem spE_vals (s : ByteArray) : spE s = 0 ∨ spE s = 2 ∨ spE s = 3 := by
 rcases split_is s with ⟨e, he, hs⟩ | ⟨b, hs, _⟩ | ⟨b, hs, _⟩
 ·have e1 : spE s = e := by unfold spE; rw [hs]; rfl
  rw [e1]; rcases he with rfl | rfl <;> simp
 ·exact .inl (by unfold spE; rw [hs]; rfl)
 ·exact .inl (by unfold spE; rw [hs])
theorem ask_sy (hM : Mk tgt) {s : ByteArray} (hs : spE s ≠ 0) : Asks (syV s) SA SA := by
 rcases spE_vals s with h | h | h
 ·exact absurd h hs
 ·exact asks0 ((snapJ (hTS hM.marksS) ok_SA sy_2).more rfl (lss_sy (hM.ofS (e := 2) (by decide) h))) (by kernel_rfl)
 ·exact asks0 ((snapJ (hTS hM.marksS) ok_SA sy_3).more rfl (lss_sy (hM.ofS (e := 3) (by decide) h))) (by kernel_rfl)
theorem ask_syT (hM : Mk tgt) : Asks (syV tgt) SA SAB := ⟨3122, mvS, (snapJ (tY hM) ok_SA sy_64).more rfl (lss_sy hM.ofT), by decide, by kernel_rfl, nodupB (by kernel_rfl), rfl⟩
theorem ask_syB (hM : Mk tgt) (s : ByteArray) : Asks (syV s) SAB SAB := by
 rcases spE_vals s with h | h | h
 ·exact asks0B ((snapJ (tZ hM) ok_SAB syB_0).more rfl (lss_sy (hM.ofS (e := 0) (by decide) h))) (by kernel_rfl)
 ·exact asks0B ((snapJ (hTS hM.marksS) ok_SAB syB_2).more rfl (lss_sy (hM.ofS (e := 2) (by decide) h))) (by kernel_rfl)
 ·exact asks0B ((snapJ (hTS hM.marksS) ok_SAB syB_3).more rfl (lss_sy (hM.ofS (e := 3) (by decide) h))) (by kernel_rfl)
end Go.Proofs.GD
/- The law's regions. -/
namespace Go.Proofs.GD
set_option linter.unusedSectionVars false
variable [Go.AI.Sym]
open Go Go.AI Go.RowKit
set_option maxRecDepth 100000
set_option maxHeartbeats 2000000
set_option linter.unusedSimpArgs false
set_option linter.unusedVariables false
attribute [local simp] wpA wpX RunA RunD runF foot footP footB idsA bare apart runL step1 gsel_f gsel_t gsel_s res_same res_and1 res_and2 res_and3 res_and4 res_and5 res_and6 res_false res_true res_v res_ptr res_fptr res_osl res_xsl soft aAppendZ aCap ovlI ovlJ res_fsl res_esl res_agg res_tup res_fn res_junk res_anyb aPick hk imp_left iteV dstOk guardOk astep astepE AI.ev AI.look AI.put envOf aBox cellsOf allOne allOneA oneA Value.oneCell' Value.cells newObj' aFieldAddr aLoad obj readAt thenA blockA condA retA resA tupA view hot hotC hotR depthV cAgg cInt cBool mkAgg allV aAlloc aBuild fillA writeAt aStore isAggA aField idx aIndexAddr aIndex bnd aSlice aExtract aLen aBuiltin aCall isStatic eqAgg eqTy eqC ev_add ev_sub ev_mul ev_quo ev_rem ev_and ev_or ev_xor ev_andNot ev_shl ev_shr ev_eql ev_neq ev_lss ev_leq ev_gtr ev_geq ev_agg w64 wu32 wu8 ev_not ev_neg Cod.plain RCod.plain argM finM cold coldC coldR goInt intDec boolDec aggDec Weaker heapW lowA lowC Again slDec undef aBuildSlice setRows aAppend rowsOf aMakeSlice aClear aCopy softer_self softer_nil valsOf ev_min2 ev_max2 hotR_set hotR_append take_map_set irow_cold irow_mapM irow_mapMc irow_view irow_viewc irow_hotR irow_ren irow_renc irow_low WeakT heapT thOf ren renC AgainT NextF NextT fnDec cFn rNil selfLt natLt0 natLt1 getLastMap frame0 frame1 own0 own1 argG finG tau tauI tauO tauC bareA bareC bareH irow_tau irow_tauc irow_bare irow_flat irow_bareR ownA_nil ownT_nil ownA_c ownT_c ownA_s ownT_s takeMapLen footC plainA noId noIdC cloneF frame0F frame1F insertF replaceI replaceF cellDec rCell fpDec cFp rTwo deleteF allV_oA oneA_oA res_oA RunR RunE runFT footAt hotR_cat tmodN aEqH aSliceA frameN newA newC newH fqSz3 fqBy3 fqAg3 fqZe3 fqSl3 fqAr3 fqPl3 fqSz4 fqBy4 fqAg4 fqZe4 fqSl4 fqAr4 fqPl4 fqSz5 fqBy5 fqAg5 fqZe5 fqSl5 fqAr5 fqPl5 fqSz27 fqBy27 fqAg27 fqZe27 fqSl27 fqAr27 fqPl27 fqSz28 fqBy28 fqAg28 fqZe28 fqSl28 fqAr28 fqPl28 fqSz39 fqBy39 fqAg39 fqZe39 fqSl39 fqAr39 fqPl39 fqCv3x5 fqCv5x3 fqEb4 fqNb4 fqLn28 fqNe28 fqNn28 fqOe28 fqOn28 fqXe28 fqXn28 fqLn39 fqNe39 fqNn39 fqOe39 fqOn39 fqXe39 fqXn39 fqFm13 fqFi13 fqSz9 fqBy9 fqAg9 fqZe9 fqSl9 fqAr9 fqPl9 fqSz46 fqBy46 fqAg46 fqZe46 fqSl46 fqAr46 fqPl46 fqLt9 fqLn46 fqNe46 fqNn46 fqOe46 fqOn46 fqXe46 fqXn46 fqFm63 fqFi63 fqFm129 fqFi129 fqFm207 fqFi207 fqFm270 fqFi270 fqFm271 fqFi271 fqFm272 fqFi272 fqFm318 fqFm319 fqFi319 fqFm320 fqFi320 fqFm350 ev_eqlS ev_neqS
def f5o4 : Array Oper := #[{ dst := some 37, op := Op.move (Operand.tmp 0), type := 46, pos := "top_h06.go:247", after := #[], guard := none }, { dst := some 38, op := Op.call { callee := Callee.builtin Builtin.len, args := #[Operand.tmp 37], argTypes := #[46] }, type := 3, pos := "top_h06.go:247", after := #[{ on := 0, ground := Ground.data }], guard := none }, { dst := some 39, op := Op.move (Operand.const (Value.int IntKind.i64 0)), type := 3, pos := "top_h06.go:247", after := #[], guard := none }]
def f5o5 : Array Oper := #[{ dst := some 40, op := Op.binOp BinOp.lss 3 (Operand.tmp 39) (Operand.tmp 38) 3, type := 0, pos := "top_h06.go:247", after := #[], guard := none }]
def f5o6 : Array Oper := #[{ dst := some 41, op := Op.indexAddr 46 (Operand.tmp 37) (Operand.tmp 39), type := 0, pos := "top_h06.go:247", after := #[], guard := none }, { dst := some 42, op := Op.load 9 (Operand.tmp 41), type := 9, pos := "top_h06.go:247", after := #[{ on := 0, ground := Ground.data }], guard := none }, { dst := some 7, op := Op.assign (Operand.tmp 42), type := 9, pos := "top_h06.go:247", after := #[{ on := 1, ground := Ground.data }, { on := 0, ground := Ground.phase }, { on := 1, ground := Ground.phase }], guard := none }]
def f5o7 : Array Oper := #[{ dst := some 43, op := Op.move (Operand.tmp 3), type := 22, pos := "top_h06.go:248", after := #[], guard := none }, { dst := some 44, op := Op.move (Operand.tmp 7), type := 9, pos := "top_h06.go:248", after := #[], guard := none }, { dst := some 45, op := Op.build 36 #[(0, Operand.const (Value.int IntKind.i64 33)), (4, Operand.tmp 44)], type := 36, pos := "top_h06.go:248", after := #[{ on := 1, ground := Ground.data }], guard := none }, { dst := some 46, op := Op.call { callee := Callee.value (Operand.func 8), args := #[Operand.tmp 43, Operand.const (Value.int IntKind.i64 1), Operand.tmp 45], argTypes := #[22, 3, 36] }, type := 33, pos := "top_h06.go:248", after := #[{ on := 0, ground := Ground.data }, { on := 2, ground := Ground.data }], guard := none }]
def f5o8 : Array Oper := #[{ dst := some 47, op := Op.move (Operand.tmp 3), type := 22, pos := "top_h06.go:249", after := #[], guard := none }, { dst := some 48, op := Op.move (Operand.tmp 7), type := 9, pos := "top_h06.go:249", after := #[], guard := none }, { dst := some 49, op := Op.build 36 #[(0, Operand.const (Value.int IntKind.i64 16)), (4, Operand.const (Value.string { data := #[108] })), (5, Operand.tmp 48)], type := 36, pos := "top_h06.go:249", after := #[{ on := 1, ground := Ground.data }], guard := none }, { dst := some 50, op := Op.call { callee := Callee.value (Operand.func 8), args := #[Operand.tmp 47, Operand.const (Value.int IntKind.i64 1), Operand.tmp 49], argTypes := #[22, 3, 36] }, type := 33, pos := "top_h06.go:249", after := #[{ on := 0, ground := Ground.data }, { on := 2, ground := Ground.data }], guard := none }]
def f5o9 : Array Oper := #[{ dst := some 51, op := Op.move (Operand.tmp 7), type := 9, pos := "top_h06.go:250", after := #[], guard := none }, { dst := some 52, op := Op.move (Operand.tmp 7), type := 9, pos := "top_h06.go:250", after := #[], guard := none }, { dst := some 53, op := Op.binOp BinOp.add 9 (Operand.tmp 52) (Operand.const (Value.string { data := #[47, 111, 117, 116] })) 9, type := 9, pos := "top_h06.go:250", after := #[{ on := 1, ground := Ground.data }], guard := none }, { dst := some 54, op := Op.buildSlice 46 6 #[(0, Operand.tmp 51), (1, Operand.tmp 53), (2, Operand.const (Value.string { data := #[47, 111, 117, 116] })), (3, Operand.const (Value.string { data := #[46, 46, 47, 111, 117, 116] })), (4, Operand.const (Value.string { data := #[108, 47, 111, 117, 116] })), (5, Operand.const (Value.string { data := #[108] }))], type := 46, pos := "top_h06.go:250", after := #[{ on := 0, ground := Ground.data }, { on := 2, ground := Ground.data }], guard := none }, { dst := some 55, op := Op.call { callee := Callee.builtin Builtin.len, args := #[Operand.tmp 54], argTypes := #[46] }, type := 3, pos := "top_h06.go:250", after := #[{ on := 3, ground := Ground.data }], guard := none }, { dst := some 56, op := Op.move (Operand.const (Value.int IntKind.i64 0)), type := 3, pos := "top_h06.go:250", after := #[], guard := none }]
def f5o10 : Array Oper := #[{ dst := some 57, op := Op.binOp BinOp.lss 3 (Operand.tmp 56) (Operand.tmp 55) 3, type := 0, pos := "top_h06.go:250", after := #[], guard := none }]
def f5o11 : Array Oper := #[{ dst := some 58, op := Op.indexAddr 46 (Operand.tmp 54) (Operand.tmp 56), type := 0, pos := "top_h06.go:250", after := #[], guard := none }, { dst := some 59, op := Op.load 9 (Operand.tmp 58), type := 9, pos := "top_h06.go:250", after := #[{ on := 0, ground := Ground.data }], guard := none }, { dst := some 9, op := Op.assign (Operand.tmp 59), type := 9, pos := "top_h06.go:250", after := #[{ on := 1, ground := Ground.data }, { on := 0, ground := Ground.phase }, { on := 1, ground := Ground.phase }], guard := none }]
def f5o15 : Array Oper := #[{ dst := some 73, op := Op.binOp BinOp.add 3 (Operand.tmp 56) (Operand.const (Value.int IntKind.i64 1)) 3, type := 3, pos := "top_h06.go:250", after := #[], guard := none }, { dst := some 56, op := Op.move (Operand.tmp 73), type := 3, pos := "top_h06.go:250", after := #[{ on := 0, ground := Ground.data }], guard := none }]
def f5o16 : Array Oper := #[{ dst := some 74, op := Op.binOp BinOp.add 3 (Operand.tmp 39) (Operand.const (Value.int IntKind.i64 1)) 3, type := 3, pos := "top_h06.go:247", after := #[], guard := none }, { dst := some 39, op := Op.move (Operand.tmp 74), type := 3, pos := "top_h06.go:247", after := #[{ on := 0, ground := Ground.data }], guard := none }]
def f5o17 : Array Oper := #[{ dst := some 2, op := Op.assign (Operand.const (Value.bool true)), type := 4, pos := "top_h06.go:256", after := #[], guard := none }]
theorem fqNm8 : (Tryz.f8.name = "runtime.NumGoroutine") = False := eq_false (by decide)
theorem fqZe36 : zeroOf Tryz.prog 36 = some (.agg #[.int .i64 0, .int .i64 0, .int .i64 0, .int .i64 0, .string ⟨#[]⟩, .string ⟨#[]⟩, .slice none 0 0]) := by kernel_rfl
theorem fqAg36 : aggOf Tryz.prog 36 = some true := by kernel_rfl
theorem fqSz36 : szOf Tryz.prog 36 = some 7 := by kernel_rfl
theorem fqFi36x0 : fieldOf Tryz.prog 36 0 = some (0, 1, 3) := by kernel_rfl
theorem fqFi36x4 : fieldOf Tryz.prog 36 4 = some (4, 1, 9) := by kernel_rfl
theorem fqFi36x5 : fieldOf Tryz.prog 36 5 = some (5, 1, 9) := by kernel_rfl
theorem fqPl36 : placesOf Tryz.prog 36 = some [(0, 1), (1, 1), (2, 1), (3, 1), (4, 1), (5, 1), (6, 1)] := by kernel_rfl
def hE (names : List ByteArray) (i : Nat) : Env := [(3, kP), (37, .fsl false 1 (names.map strRow)), (38, .v (.int .i64 names.length)), (39, .v (.int .i64 i))]
theorem r4 {H : Heap} {names : List ByteArray} : AWp Tryz.prog 75 0 (.region 4 f5o4 false) (fun e ρ' H' => e = .normal ∧ H' = H ∧ ∀ q ∈ hE names 0, AI.look ρ' q.1 = q.2) [(0, .fsl false 1 (names.map strRow)), (3, kP)] H := by
 refine wpA_sound noOrc_ok fqMix _ _ _ _ (by kernel_rfl) ?_
 simp [f5o4, noOrc, hE, kP, fqSl46]
theorem r5 {H : Heap} {names : List ByteArray} {i : Nat} : AWp Tryz.prog 75 0 (.region 5 f5o5 false) (fun e ρ' H' => e = .normal ∧ H' = H ∧ ∀ q ∈ (40, .v (.bool (decide (i < names.length)))) :: hE names i, AI.look ρ' q.1 = q.2) (hE names i) H := by
 refine wpA_sound noOrc_ok fqMix _ _ _ _ (by kernel_rfl) ?_
 simp [f5o5, noOrc, hE, kP]
theorem r6 {H : Heap} {names : List ByteArray} {i : Nat} {s : ByteArray} (hs : names[i]? = some s) : AWp Tryz.prog 75 0 (.region 6 f5o6 false) (fun e ρ' H' => e = .normal ∧ H' = H ∧ ∀ q ∈ (7, .v (.string s)) :: hE names i, AI.look ρ' q.1 = q.2) (hE names i) H := by
 have hi : i < names.length := (List.getElem?_eq_some_iff.1 hs).1
 have hg : names[i] = s := (List.getElem?_eq_some_iff.1 hs).2
 refine wpA_sound noOrc_ok fqMix _ _ _ _ (by kernel_rfl) ?_
 simp [f5o6, noOrc, hE, kP, fqSl46, fqSz9, hs, hi, hg, strRow]
theorem r7 {H : Heap} {names : List ByteArray} {i : Nat} {s : ByteArray} {S : LS} {n' : Nat} {l' : LS} (hI : InlOk Tryz.prog 8 (snapM (chV s) 2806 S .junk n' l')) (hsub : SubH (mkH 2806 S) H) : AWp Tryz.prog 75 0 (.region 7 f5o7 false) (fun e ρ' H' => e = .normal ∧ H' = mkH n' l' ∧ ∀ q ∈ (7, .v (.string s)) :: hE names i, AI.look ρ' q.1 = q.2) ((7, .v (.string s)) :: hE names i) H := by
 have hs : snapM (chV s) 2806 S .junk n' l' (chV s) H = some (.junk, mkH n' l') := if_pos ⟨rfl, hsub⟩
 simp only [chV, kP] at hs
 refine wpA_sound (noOrc_ok.withI hI) fqMix _ _ _ _ (by kernel_rfl) ?_
 simp [f5o7, noOrc, Orc.withI, hE, kP, chV, hs, fqNm8, fqZe36, fqAg36, fqSz36, fqFi36x0, fqFi36x4, fqFi36x5, fqPl36]
theorem r8 {H : Heap} {names : List ByteArray} {i : Nat} {s : ByteArray} {S : LS} {n' : Nat} {l' : LS} (hI : InlOk Tryz.prog 8 (snapM (syV s) 2806 S .junk n' l')) (hsub : SubH (mkH 2806 S) H) : AWp Tryz.prog 75 0 (.region 8 f5o8 false) (fun e ρ' H' => e = .normal ∧ H' = mkH n' l' ∧ ∀ q ∈ (7, .v (.string s)) :: hE names i, AI.look ρ' q.1 = q.2) ((7, .v (.string s)) :: hE names i) H := by
 have hs : snapM (syV s) 2806 S .junk n' l' (syV s) H = some (.junk, mkH n' l') := if_pos ⟨rfl, hsub⟩
 simp only [syV, kP] at hs
 refine wpA_sound (noOrc_ok.withI hI) fqMix _ _ _ _ (by kernel_rfl) ?_
 simp [f5o8, noOrc, Orc.withI, hE, kP, syV, hs, fqNm8, fqZe36, fqAg36, fqSz36, fqFi36x0, fqFi36x4, fqFi36x5, fqPl36]
def six (s : ByteArray) : List ByteArray := [s, s ++ ⟨#[47, 111, 117, 116]⟩, ⟨#[47, 111, 117, 116]⟩, ⟨#[46, 46, 47, 111, 117, 116]⟩, ⟨#[108, 47, 111, 117, 116]⟩, ⟨#[108]⟩]
theorem r9 {H : Heap} {names : List ByteArray} {i : Nat} {s : ByteArray} (hs : s.size ≤ 140737488351232) : AWp Tryz.prog 75 0 (.region 9 f5o9 false) (fun e ρ' H' => e = .normal ∧ H' = H ++ [some (1, (six s).map strRow)] ∧ ∀ q ∈ (54, .osl H.length 1 0 6 6) :: (55, .v (.int .i64 6)) :: (56, .v (.int .i64 0)) :: hE names i, AI.look ρ' q.1 = q.2) ((7, .v (.string s)) :: hE names i) H := by
 have hadd := fun {x y : Operand} => ev_addS (P := Tryz.prog) (t := 9) (x := x) (y := y) (a := s) (b := ⟨#[47, 111, 117, 116]⟩) (by show s.size + 4 ≤ _; omega)
 refine wpA_sound noOrc_ok fqMix _ _ _ _ (by kernel_rfl) ?_
 simp [f5o9, noOrc, hE, kP, six, strRow, hadd, fqSl46, fqSz9, fqZe9, fqBy9, aBuildSlice, List.replicate]
def iE (names : List ByteArray) (i : Nat) (s : ByteArray) (j : Nat) : Env := (54, .fsl true 1 ((six s).map strRow)) :: (55, .v (.int .i64 6)) :: (56, .v (.int .i64 j)) :: hE names i
theorem r10 {H : Heap} {names : List ByteArray} {i j : Nat} {s : ByteArray} : AWp Tryz.prog 75 0 (.region 10 f5o10 false) (fun e ρ' H' => e = .normal ∧ H' = H ∧ ∀ q ∈ (57, .v (.bool (decide (j < 6)))) :: iE names i s j, AI.look ρ' q.1 = q.2) (iE names i s j) H := by
 refine wpA_sound noOrc_ok fqMix _ _ _ _ (by kernel_rfl) ?_
 have e : ((j : Int) < 6) = (j < 6) := propext (by omega)
 simp [f5o10, noOrc, iE, hE, kP, e]
theorem r11 {H : Heap} {names : List ByteArray} {i j : Nat} {s t : ByteArray} (ht : (six s)[j]? = some t) : AWp Tryz.prog 75 0 (.region 11 f5o11 false) (fun e ρ' H' => e = .normal ∧ H' = H ∧ ∀ q ∈ (9, .v (.string t)) :: iE names i s j, AI.look ρ' q.1 = q.2) (iE names i s j) H := by
 have hi : j < (six s).length := (List.getElem?_eq_some_iff.1 ht).1
 have hg : (six s)[j] = t := (List.getElem?_eq_some_iff.1 ht).2
 refine wpA_sound noOrc_ok fqMix _ _ _ _ (by kernel_rfl) ?_
 simp [f5o11, noOrc, iE, hE, kP, fqSl46, fqSz9, hi, hg, strRow]
theorem r15 {H : Heap} {names : List ByteArray} {i j : Nat} {s : ByteArray} (hj : j < 6) : AWp Tryz.prog 75 0 (.region 15 f5o15 false) (fun e ρ' H' => e = .normal ∧ H' = H ∧ ∀ q ∈ iE names i s (j + 1), AI.look ρ' q.1 = q.2) (iE names i s j) H := by
 have hw : IntKind.i64.wrap ((j : Int) + 1) = (j : Int) + 1 := by
  match j, hj with
  | 0, _ => rfl
  | 1, _ => rfl
  | 2, _ => rfl
  | 3, _ => rfl
  | 4, _ => rfl
  | 5, _ => rfl
 refine wpA_sound noOrc_ok fqMix _ _ _ _ (by kernel_rfl) ?_
 simp [f5o15, noOrc, iE, hE, kP, hw]
theorem r17 {H : Heap} : AWp Tryz.prog 75 0 (.region 17 f5o17 false) (fun e ρ' H' => e = .normal ∧ H' = H ∧ ∀ q ∈ [(2, AVal.v (.bool true))], AI.look ρ' q.1 = q.2) [] H := by
 refine wpA_sound noOrc_ok fqMix _ _ _ _ (by kernel_rfl) ?_
 simp [f5o17, noOrc]
theorem r16 {H : Heap} {names : List ByteArray} {i : Nat} (hi : i < 140737488351232) : AWp Tryz.prog 75 0 (.region 16 f5o16 false) (fun e ρ' H' => e = .normal ∧ H' = H ∧ ∀ q ∈ hE names (i + 1), AI.look ρ' q.1 = q.2) (hE names i) H := by
 have hw : IntKind.i64.wrap ((i : Int) + 1) = (i : Int) + 1 := w64 (by omega) (by omega)
 refine wpA_sound noOrc_ok fqMix _ _ _ _ (by kernel_rfl) ?_
 simp [f5o16, noOrc, hE, kP, hw]
end Go.Proofs.GD
