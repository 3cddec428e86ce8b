/- CowOwn: what is asked before and behind. CowOwn: how long the results are. The same under other names, wherever the call began. ringkeep2.CowOwn. -/
import Derived.Test.YtebpjfdbjhodiaaCwA
import Derived.Test.YtebpjfdbjhodiaaCwB
import Derived.Test.YtebpjfdbjhodiaaAiZe
import Derived.Test.YtebpjfdbjhodiaaAiZi
namespace Go.Proofs.Ytebpjfdbjhodiaa
open Go.AI
set_option linter.unusedSimpArgs false
set_option linter.unusedVariables false
section
set_option maxHeartbeats 2000000
set_option maxRecDepth 100000
set_option linter.unusedSimpArgs false
set_option linter.unusedVariables false
attribute [local simp] wpA wpX RunA RunD runF foot footP footB idsA bare apart runL step1 gsel_f gsel_t gsel_s res_same res_and1 res_and2 res_and3 res_and4 res_and5 res_and6 res_false res_true res_v res_ptr res_fptr res_osl res_xsl soft aAppendZ aCap ovlI ovlJ res_fsl res_esl res_agg res_tup res_fn res_junk res_anyb aPick hk imp_left iteV dstOk guardOk astep astepE AI.ev AI.look AI.put envOf aBox cellsOf allOne allOneA oneA Value.oneCell' Value.cells newObj' aFieldAddr aLoad obj readAt thenA blockA condA retA resA tupA view hot hotC hotR depthV cAgg cInt cBool mkAgg allV aAlloc aBuild fillA writeAt aStore isAggA aField idx aIndexAddr aIndex bnd aSlice aExtract aLen aBuiltin aCall isStatic eqAgg eqTy eqC ev_add ev_sub ev_mul ev_quo ev_rem ev_and ev_or ev_xor ev_andNot ev_shl ev_shr ev_eql ev_neq ev_lss ev_leq ev_gtr ev_geq ev_agg w64 wu32 wu8 ev_not ev_neg Cod.plain RCod.plain argM finM cold coldC coldR goInt intDec boolDec aggDec Weaker heapW lowA lowC Again slDec undef aBuildSlice setRows aAppend rowsOf aMakeSlice aClear aCopy softer_self softer_nil valsOf ev_min2 ev_max2 hotR_set hotR_append take_map_set irow_cold irow_mapM irow_mapMc irow_view irow_viewc irow_hotR irow_ren irow_renc irow_low WeakT heapT thOf ren renC AgainT NextF NextT fnDec cFn rNil selfLt natLt0 natLt1 getLastMap frame0 frame1 own0 own1 argG finG tau tauI tauO tauC bareA bareC bareH irow_tau irow_tauc irow_bare irow_flat irow_bareR ownA_nil ownT_nil ownA_c ownT_c ownA_s ownT_s takeMapLen footC plainA noId noIdC cloneF frame0F frame1F insertF replaceI replaceF cellDec rCell fpDec cFp rTwo deleteF allV_oA oneA_oA res_oA RunR RunE runFT footAt hotR_cat tmodN aEqH aSliceA frameN newA newC newH fxSz3 fxBy3 fxAg3 fxZe3 fxSl3 fxSz4 fxBy4 fxAg4 fxZe4 fxSz5 fxBy5 fxAg5 fxZe5 fxSz33 fxAg33 fxZe33 fxAr33 fxPl33 fxSz111 fxAg111 fxZe111 fxSl111 fxAr111 fxSz112 fxBy112 fxAg112 fxZe112 fxSl112 fxAr112 fxSz135 fxAg135 fxZe135 fxSl135 fxAr135 fxSz137 fxBy137 fxAg137 fxZe137 fxFi137x0 fxFi137x1 fxFi137x2 fxPl137 fxSz138 fxAg138 fxZe138 fxSl138 fxAr138 fxSz140 fxAg140 fxZe140 fxFi140x0 fxFi140x1 fxPl140 fxSz141 fxAg141 fxZe141 fxSl141 fxAr141 fxSz146 fxBy146 fxAg146 fxZe146 fxFi146x0 fxPl146 fxZe165 fxAr165 fxPl165 fxZe166 fxAr166 fxPl166 fxZe167 fxAr167 fxPl167 fxSz296 fxAg296 fxZe296 fxAr296 fxPl296 fxSl308 fxAr308 fxEq137 fxEq146 fxEq296 fxCv3x283 fxCv283x3 fxEb4 fxNe111 fxOe111 fxXe111 fxNe112 fxOe112 fxXe112 fxNe135 fxOe135 fxXe135 fxLn138 fxNe138 fxOe138 fxXe138 fxNe141 fxOe141 fxXe141 fxFm46 fxFi46 fxFm48 fxFi48 fxFm57 fxFi57 fxFm58 fxFi58 fxFm59 fxFi59 fxFm60 fxFm61 fxFm62 fxFi63 fxFj63 fxFm64 fxFi64 fxFm65 fxFi65 fxFm66 fxFi66 fxFm67 fxFi67 fxFm68 fxFi68 fxFm69 fxFi69 fxFm70 fxFm71 fxFm72 fxFm73 fxFm74 fxFm75 fxFi75 fxFm76 fxFm77 fxFi77 fxFm133 fxFi133 fxFm136 fxFi136 fxFm137 fxFi137 fxFm138 fxFi138 fxFm139 fxFi139 fxFj139 fxFm140 fxFm141 fxFm142 fxFm143 fxFi143 fxFm144 fxFm145 fxFi145 fxFm146 fxFm147 fxFi147 fxFm148 fxFi148 fxFm149 fxFi149 fxFm150 fxFi150 fxFm185 fxFi185 fxFm186 fxFi186 fxFm187 fxFi187 fxFm188 fxFi188 fxFm189 fxFi189 fxFm190 fxFi190 fxFm191 fxFm195 fxFi195 fxFm196 fxFm206 fxFi206 fxFm218 fxFi218 fxFm232 fxFi232
section
attribute [local simp] Pr.eta Pr.cold Pr.mapM Pr.mapMc Pr.view Pr.viewc Pr.hotR Pr.ren Pr.renc Pr.low Pr.tau Pr.tauc Pr.bare Pr.flat Pr.flat1 Pr.mapMt Pr.mapMd Pr.coldt Pr.coldd Pr.hotRt Pr.hotRd
attribute [local simp] Pg.eta Pg.cold Pg.mapM Pg.mapMc Pg.view Pg.viewc Pg.hotR Pg.ren Pg.renc Pg.low Pg.tau Pg.tauc Pg.bare Pg.flat Pg.flat1 Pg.mapMt Pg.mapMd Pg.coldt Pg.coldd Pg.hotRt Pg.hotRd
attribute [local simp] Slot.eta Slot.cold Slot.mapM Slot.mapMc Slot.view Slot.viewc Slot.hotR Slot.ren Slot.renc Slot.low Slot.tau Slot.tauc Slot.bare Slot.flat Slot.flat1 Slot.mapMt Slot.mapMd Slot.coldt Slot.coldd Slot.hotRt Slot.hotRd
attribute [local simp] rSp_sz spR_cold spR_dec spR_mapM spR_mapMc spR_view spR_viewc spR_hotR spR_ren spR_renc spR_low spR_get spR_len Room.eta Room.dec_row Room.dec_hrow
theorem byEq_pure : PureOk Try.prog 65 (argM (cSl (rI .u8)) fun l => argM (cSl (rI .u8)) fun m => finM (if l.length ≤ 4294967296 then some (.v (.bool (decide (l = m)))) else none)) := by
  refine pure2 Try.func65 rfl ?_
  rintro l m r hr
  by_cases hc : l.length ≤ 4294967296
  case neg => rw [if_neg hc] at hr; cases hr
  rw [if_pos hc] at hr
  simp only [Option.some.injEq] at hr
  subst hr
  refine body_gen noOrc_ok fxMix (by kernel_rfl) (by simp [Try.ntmps65]) ?_
  intro C cP cI cN cD cF cA cR cL
  replace cI : C.inl = fun _ => false := cI
  replace cR : C.rd = fun _ => none := cR
  replace cD : C.dyn = fun _ => [] := cD
  clear cP cN cF cA
  simp [Try.ntmps65, Try.results65, cSl, cI, cD, cR, rI]
  split
  · rename_i hn
    have hn : l.length = m.length := by omega
    refine loop_for l.length (fun k (_ : Unit) => ([(0, .fsl false 1 (l.map (irow .u8))), (1, .fsl false 1 (m.map (irow .u8))), (12, .v (.int .i64 l.length)), (13, .v (.int .i64 k))], [])) (fun k _ => l.drop k = m.drop k ↔ l = m) () hc (by simp) (by simp) ?_ ?_
    · intro k _ hk hall hw
      have hk3 : k < m.length := by omega
      rw [List.drop_eq_getElem_cons hk, List.drop_eq_getElem_cons hk3, List.cons.injEq] at hall
      by_cases q2 : l[k] = m[k]
      · simp only [q2, true_and] at hall
        simp [Try.ntmps65, Try.results65, cSl, cI, cD, cR, hk, hk3, hw, rI, irow, q2]
        exact hall
      · have hne : ¬ l = m := fun h => q2 (hall.2 h).1
        simp [Try.ntmps65, Try.results65, cSl, cI, cD, cR, hk, hk3, hw, rI, irow, q2]
        exact hne
    · intro _ hall
      simp [hn] at hall
      simp [Try.ntmps65, Try.results65, cSl, cI, cD, cR, hall]
  · rename_i hn
    rintro rfl
    exact hn rfl
theorem inEq_pure : PureOk Try.prog 48 (argM (cSl (rI .i64)) fun l => argM (cSl (rI .i64)) fun m => finM (if l.length ≤ 4294967296 then some (.v (.bool (decide (l = m)))) else none)) := by
  refine pure2 Try.func48 rfl ?_
  rintro l m r hr
  by_cases hc : l.length ≤ 4294967296
  case neg => rw [if_neg hc] at hr; cases hr
  rw [if_pos hc] at hr
  simp only [Option.some.injEq] at hr
  subst hr
  refine body_gen noOrc_ok fxMix (by kernel_rfl) (by simp [Try.ntmps48]) ?_
  intro C cP cI cN cD cF cA cR cL
  replace cI : C.inl = fun _ => false := cI
  replace cR : C.rd = fun _ => none := cR
  replace cD : C.dyn = fun _ => [] := cD
  clear cP cN cF cA
  simp [Try.ntmps48, Try.results48, cSl, cI, cD, cR, rI]
  split
  · rename_i hn
    have hn : l.length = m.length := by omega
    refine loop_for l.length (fun k (_ : Unit) => ([(0, .fsl false 1 (l.map (irow .i64))), (1, .fsl false 1 (m.map (irow .i64))), (12, .v (.int .i64 l.length)), (13, .v (.int .i64 k))], [])) (fun k _ => l.drop k = m.drop k ↔ l = m) () hc (by simp) (by simp) ?_ ?_
    · intro k _ hk hall hw
      have hk3 : k < m.length := by omega
      rw [List.drop_eq_getElem_cons hk, List.drop_eq_getElem_cons hk3, List.cons.injEq] at hall
      by_cases q2 : l[k] = m[k]
      · simp only [q2, true_and] at hall
        simp [Try.ntmps48, Try.results48, cSl, cI, cD, cR, hk, hk3, hw, rI, irow, q2]
        exact hall
      · have hne : ¬ l = m := fun h => q2 (hall.2 h).1
        simp [Try.ntmps48, Try.results48, cSl, cI, cD, cR, hk, hk3, hw, rI, irow, q2]
        exact hne
    · intro _ hall
      simp [hn] at hall
      simp [Try.ntmps48, Try.results48, cSl, cI, cD, cR, hall]
  · rename_i hn
    rintro rfl
    exact hn rfl
theorem cow1_pure : PureOk Try.prog 68 (argM (cSl (rI .i64)) fun x => argM (cSl (rI .i64)) fun y => finM (if x.length ≤ 4294967296 then some (.v (.bool (decide (x = y)))) else none)) := by
  refine pure2 Try.func68 rfl ?_
  rintro x y r hr
  by_cases hc : x.length ≤ 4294967296
  case neg => rw [if_neg hc] at hr; cases hr
  rw [if_pos hc] at hr
  simp only [Option.some.injEq] at hr
  subst hr
  refine body_gen (noOrc_ok.withP inEq_pure) fxMix (by kernel_rfl) (by simp [Try.ntmps68]) ?_
  intro C cP cI cN cD cF cA cR cL
  have cp0 := orcP inEq_pure (C := C) (by rw [cP]; rfl)
  replace cI : C.inl = fun _ => false := cI
  replace cR : C.rd = fun _ => none := cR
  replace cD : C.dyn = fun _ => [] := cD
  clear cP cN cF cA
  simp [Try.ntmps68, Try.results68, cSl, cp0, cI, cD, cR, rI, hc]
theorem eqI_pure : PureOk Try.prog 67 (argM (cSl rSp) fun l => argM (cSl rSp) fun m => argM (cFn 68 rNil) fun e => finM (if l.length ≤ 4294967296 ∧ ∀ x ∈ l, x.length ≤ 4294967296 then some (.v (.bool (decide (l = m)))) else none)) := by
  refine pure3 Try.func67 rfl ?_
  rintro l m e r hr
  by_cases hc : l.length ≤ 4294967296 ∧ ∀ x ∈ l, x.length ≤ 4294967296
  case neg => rw [if_neg hc] at hr; cases hr
  rw [if_pos hc] at hr
  simp only [Option.some.injEq] at hr
  subst hr
  refine body_gen (noOrc_ok.withP cow1_pure) fxMix (by kernel_rfl) (by simp [Try.ntmps67]) ?_
  intro C cP cI cN cD cF cA cR cL
  have cp0 := orcP cow1_pure (C := C) (by rw [cP]; rfl)
  replace cI : C.inl = fun _ => false := cI
  replace cR : C.rd = fun _ => none := cR
  replace cD : C.dyn = fun _ => [] := cD
  clear cP cN cF cA
  have he : ∀ l : List (List Int), (cSl rSp).enc l = .fsl false 1 (l.map (slR 1 (irow .i64) false)) := fun _ => rfl
  have hd : ∀ l : List Int, slDec (rI .i64) (.fsl false 1 (l.map (irow .i64))) = some l := fun l => mapM_dec (rI .i64) l
  simp only [he]
  simp [Try.ntmps67, Try.results67, cSl, cp0, cI, cD, cR, rSp, rS, rI, cFn, rNil, RCod.plain]
  split
  · rename_i hn
    have hn : l.length = m.length := by omega
    refine loop_for l.length (fun k (_ : Unit) => ([(1, .fsl false 1 (m.map (slR 1 (irow .i64) false))), (2, .fn 68 []), (15, .fsl false 1 (l.map (slR 1 (irow .i64) false))), (16, .v (.int .i64 l.length)), (17, .v (.int .i64 k))], [])) (fun k _ => l.drop k = m.drop k ↔ l = m) () hc.1 (by simp) (by simp) ?_ ?_
    · intro k _ hk hall hw
      have hk3 : k < m.length := by omega
      have hl8 := hc.2 _ (List.getElem_mem hk)
      rw [List.drop_eq_getElem_cons hk, List.drop_eq_getElem_cons hk3, List.cons.injEq] at hall
      by_cases q2 : l[k] = m[k]
      · simp only [q2, true_and] at hall
        rw [q2] at hl8
        simp [Try.ntmps67, Try.results67, cSl, cp0, cI, cD, cR, hk, hk3, hw, rSp, rS, rI, slR, q2, hl8]
        exact hall
      · have hne : ¬ l = m := fun h => q2 (hall.2 h).1
        simp [Try.ntmps67, Try.results67, cSl, cp0, cI, cD, cR, hk, hk3, hw, rSp, rS, rI, slR, q2, hl8]
        exact hne
    · intro _ hall
      simp [hn] at hall
      simp [Try.ntmps67, Try.results67, cSl, cp0, cI, cD, cR, hall]
  · rename_i hn
    rintro rfl
    exact hn rfl
theorem cows_pure : PureOk Try.prog 58 ( finM (some (.v (.bool true)))) := by
  refine pure0 Try.func58 rfl ?_
  rintro  r hr
  simp only [Option.some.injEq] at hr
  subst hr
  refine body_gen (noOrc_ok.withP cowMore_pure) fxMix (by kernel_rfl) (by simp [Try.ntmps58]) ?_
  intro C cP cI cN cD cF cA cR cL
  have cp0 := orcP cowMore_pure (C := C) (by rw [cP]; rfl)
  replace cI : C.inl = fun _ => false := cI
  replace cR : C.rd = fun _ => none := cR
  replace cD : C.dyn = fun _ => [] := cD
  clear cP cN cF cA
  have hM : cowMore ⟨[], [[]]⟩ 0 7 = .ok ⟨[7], [[0]]⟩ := by rfl
  simp [Try.ntmps58, Try.results58, cSl, cp0, cI, cD, cR, hM, roomE, rRoom, roomDec, Room.hrow, slDec, rSp, rS, rI, slR, irow, spR]
theorem swEqual_pure : PureOk Try.prog 66 (argM (cSl rSlot) fun l => argM (cSl rSlot) fun m => finM (if l.length ≤ 4294967296 then some (.v (.bool (decide (l = m)))) else none)) := by
  refine pure2 Try.func66 rfl ?_
  rintro l m r hr
  by_cases hc : l.length ≤ 4294967296
  case neg => rw [if_neg hc] at hr; cases hr
  rw [if_pos hc] at hr
  simp only [Option.some.injEq] at hr
  subst hr
  refine body_gen noOrc_ok fxMix (by kernel_rfl) (by simp [Try.ntmps66]) ?_
  intro C cP cI cN cD cF cA cR cL
  replace cI : C.inl = fun _ => false := cI
  replace cR : C.rd = fun _ => none := cR
  replace cD : C.dyn = fun _ => [] := cD
  clear cP cN cF cA
  simp [Try.ntmps66, Try.results66, cSl, cI, cD, cR, rSlot, Slot.row]
  split
  · rename_i hn
    have hn : l.length = m.length := by omega
    refine loop_for l.length (fun k (_ : Unit) => ([(0, .fsl false 17 (l.map Slot.row)), (1, .fsl false 17 (m.map Slot.row)), (12, .v (.int .i64 l.length)), (13, .v (.int .i64 k))], [])) (fun k _ => l.drop k = m.drop k ↔ l = m) () hc (by simp) (by simp) ?_ ?_
    · intro k _ hk hall hw
      have hk3 : k < m.length := by omega
      rw [List.drop_eq_getElem_cons hk, List.drop_eq_getElem_cons hk3, List.cons.injEq] at hall
      have he := slot_eq l[k] m[k]
      by_cases q2 : l[k] = m[k]
      · have q3 := he.1 q2
        clear he
        simp only [q2, true_and] at hall
        simp [Try.ntmps66, Try.results66, cSl, cI, cD, cR, hk, hk3, hw, rSlot, Slot.row, q3]
        exact hall
      · have hne : ¬ l = m := fun h => q2 (hall.2 h).1
        simp [Try.ntmps66, Try.results66, cSl, cI, cD, cR, hk, hk3, hw, rSlot, Slot.row]
        split
        · exact hne
        · rename_i q
          exact absurd (he.2 (by simp_all)) q2
    · intro _ hall
      simp [hn] at hall
      simp [Try.ntmps66, Try.results66, cSl, cI, cD, cR, hall]
  · rename_i hn
    rintro rfl
    exact hn rfl

theorem swaps_pure : PureOk Try.prog 59 ( finM (some (.v (.bool true)))) := by
  refine pure0 Try.func59 rfl ?_
  rintro  r hr
  simp only [Option.some.injEq] at hr
  subst hr
  refine body_gen (noOrc_ok.withP swPut_pure) fxMix (by kernel_rfl) (by simp [Try.ntmps59]) ?_
  intro C cP cI cN cD cF cA cR cL
  have cp0 := orcP swPut_pure (C := C) (by rw [cP]; rfl)
  replace cI : C.inl = fun _ => false := cI
  replace cR : C.rd = fun _ => none := cR
  replace cD : C.dyn = fun _ => [] := cD
  clear cP cN cF cA
  have h1 : swPut [noSlot] { noPg with b0 := 5 } 2 = .ok ([⟨2, { noPg with b0 := 5 }⟩], 0) := rfl
  simp only [noSlot, noPg] at h1
  simp [Try.ntmps59, Try.results59, cSl, cp0, cI, cD, cR, rSlot, rPg, Slot.row, slotDec, pgDec, h1, putE]

theorem rmaps_pure : PureOk Try.prog 57 ( finM (some (.v (.bool true)))) := by
  refine pure0 Try.func57 rfl ?_
  rintro  r hr
  simp only [Option.some.injEq] at hr
  subst hr
  refine body_gen (noOrc_ok.withP rmPut_pure) fxMix (by kernel_rfl) (by simp [Try.ntmps57]) ?_
  intro C cP cI cN cD cF cA cR cL
  have cp0 := orcP rmPut_pure (C := C) (by rw [cP]; rfl)
  replace cI : C.inl = fun _ => false := cI
  replace cR : C.rd = fun _ => none := cR
  replace cD : C.dyn = fun _ => [] := cD
  clear cP cN cF cA
  have e : rmPut [] ⟨3, 1, 2⟩ = .ok [⟨3, 1, 2⟩] := rfl
  simp [Try.ntmps57, Try.results57, cSl, cp0, cI, cD, cR, rPr, Pr.row, prDec, e, slE]
def rSpS : RCod (List (List Int)) := rS rSp
def rByS : RCod (List Int) := rS (rI .u8)
theorem sameC_pure : PureOk Try.prog 63 (argM (cFp (rS rPr)) fun l => argM (cFp (rS rPr)) fun b => argM (cFp rRoom) fun q => argM (cFp rByS) fun c => argM (cFp (rS rSlot)) fun m => argM (cFp (rS rSlot)) fun d => argM (cFp rSpS) fun u => finM (if (l = b ∧ q.cells = c ∧ m = d ∧ q.spaces = u) ∧ (l.length ≤ 4294967296 ∧ q.cells.length ≤ 4294967296 ∧ m.length ≤ 4294967296 ∧ q.spaces.length ≤ 4294967296 ∧ ∀ x ∈ q.spaces, x.length ≤ 4294967296) then some (.v (.bool true)) else none)) := by
  refine pure7 Try.func63 rfl ?_
  rintro l b q c m d u r hr
  by_cases hc : (l = b ∧ q.cells = c ∧ m = d ∧ q.spaces = u) ∧ (l.length ≤ 4294967296 ∧ q.cells.length ≤ 4294967296 ∧ m.length ≤ 4294967296 ∧ q.spaces.length ≤ 4294967296 ∧ ∀ x ∈ q.spaces, x.length ≤ 4294967296)
  case neg => rw [if_neg hc] at hr; cases hr
  rw [if_pos hc] at hr
  simp only [Option.some.injEq] at hr
  subst hr
  refine body_gen ((((noOrc_ok.withP prEqual_pure).withP byEq_pure).withP swEqual_pure).withP eqI_pure) fxMix (by kernel_rfl) (by simp [Try.ntmps63]) ?_
  intro C cP cI cN cD cF cA cR cL
  have cp0 := orcP prEqual_pure (C := C) (by rw [cP]; rfl)
  have cp1 := orcP byEq_pure (C := C) (by rw [cP]; rfl)
  have cp2 := orcP swEqual_pure (C := C) (by rw [cP]; rfl)
  have cp3 := orcP eqI_pure (C := C) (by rw [cP]; rfl)
  replace cI : C.inl = fun _ => false := cI
  replace cR : C.rd = fun _ => none := cR
  replace cD : C.dyn = fun _ => [] := cD
  clear cP cN cF cA
  obtain ⟨cs, sp⟩ := q
  obtain ⟨⟨rfl, rfl, rfl, rfl⟩, g1, g2, g3, g4, g5⟩ := hc
  simp only at g2 g4 g5
  have g5' := eq_true g5
  have e1 : ∀ l : List Pr, (cFp (rS rPr)).enc l = .fptr [.fsl false 3 (l.map Pr.row)] 0 := fun _ => rfl
  have e2 : ∀ l : List Int, (cFp rByS).enc l = .fptr [.fsl false 1 (l.map (irow .u8))] 0 := fun _ => rfl
  have e3 : ∀ l : List Slot, (cFp (rS rSlot)).enc l = .fptr [.fsl false 17 (l.map Slot.row)] 0 := fun _ => rfl
  have e4 : ∀ l : List (List Int), (cFp rSpS).enc l = .fptr [.fsl false 1 (l.map (spR false))] 0 := fun _ => rfl
  simp only [e1, e2, e3, e4]
  simp [Try.ntmps63, Try.results63, cSl, cp0, cp1, cp2, cp3, cI, cD, cR, rRoom, roomDec, Room.row, rPr, rSlot, rI, g1, g2, g3, g4, g5']
end
end
section
theorem rp_len {l : List Pr} {p : Pr} : (pfX (rmPut l p)).2.1.length ≤ l.length + 1 := by
  unfold rmPut
  split
  · split
    · simp [pfX]
    · have := lowP_le l p
      simp [pfX, insP]; omega
  · simp [pfX]
theorem ro_len {l : List Pr} {s g : Int} : (poX (rmOut l s g)).2.1.length ≤ l.length := by
  unfold rmOut
  split
  · split
    · simp [poX]
    · simp only [poX]
      exact List.length_eraseIdx_le _ _
  · simp [poX]
theorem mv_len {l : List Pr} {f t : Int} : (mvX l f t).2.1.length ≤ l.length := by
  unfold mvX
  split
  · split
    · split
      · simp
      · simp [mvL_len]
    · simp
  · simp
theorem wp_len {l : List Slot} {d : Pg} {n : Int} : (spX (swPut l d n)).2.1.length ≤ l.length := by
  unfold swPut
  split
  · split
    · simp [spX]
    · split <;> simp [spX]
  · simp [spX]
theorem wm_len {l : List Slot} {k n : Int} : (smX (swMore l k n)).2.1.length ≤ l.length := by
  unfold swMore
  split
  · split <;> simp [smX]
  · simp [smX]
def BR (r : Room) : Prop := r.cells.length ≤ 100 ∧ r.spaces.length ≤ 100 ∧ ∀ x ∈ r.spaces, x.length ≤ 100
theorem br_nil : BR ⟨[], []⟩ := ⟨by simp, by simp, by simp⟩
theorem br_fork {r : Room} {s : Int} : BR (fkX (cowFork r s)).2.1 := by
  unfold cowFork
  split
  · rename_i h0
    obtain ⟨hck, k, rfl, hk⟩ := sp_ok h0
    obtain ⟨⟨g1, g2⟩, g3, g4⟩ := cow_ok hck
    split
    · exact br_nil
    · refine ⟨by simp only [fkX]; omega, by simp only [fkX, List.length_append, List.length_singleton]; omega, fun x hx => ?_⟩
      simp only [fkX, List.mem_append, List.mem_singleton] at hx
      rcases hx with hx | hx
      · have := (g3 x hx).1; omega
      · subst hx
        have := (g3 _ (List.getElem_mem hk)).1
        simp [hk]; omega
  · exact br_nil
theorem br_write {r : Room} {s p b : Int} : BR (wrX (cowWrite r s p b)).2.1 := by
  unfold cowWrite
  split
  · rename_i h0
    obtain ⟨hck, k, rfl, hk⟩ := sp_ok h0
    obtain ⟨⟨g1, g2⟩, g3, g4⟩ := cow_ok hck
    split
    · exact br_nil
    · split
      · refine ⟨by simp only [wrX, List.length_set]; omega, by simp only [wrX]; omega, fun x hx => ?_⟩
        have := (g3 x hx).1; omega
      · refine ⟨by simp only [wrX, List.length_append, List.length_singleton]; omega, by simp only [wrX, List.length_set]; omega, fun x hx => ?_⟩
        simp only [wrX] at hx
        rcases List.mem_or_eq_of_mem_set hx with hx | hx
        · have := (g3 x hx).1; omega
        · subst hx
          have := (g3 _ (List.getElem_mem hk)).1
          simp [hk]; omega
  · exact br_nil
theorem br_drop {r : Room} {s : Int} : BR (dpX (cowDrop r s)).2.1 := by
  unfold cowDrop
  split
  · rename_i h0
    obtain ⟨hck, k, rfl, hk⟩ := sp_ok h0
    obtain ⟨⟨g1, g2⟩, g3, g4⟩ := cow_ok hck
    refine ⟨?_, ?_, fun x hx => ?_⟩
    · simp only [dpX, dropRoom, kpCells, List.length_map, kp]
      have := List.length_filter_le (fun c : Nat => decide (0 < manyI (r.spaces.eraseIdx ((k : Int)).toNat) (c : Int))) (List.range r.cells.length)
      simp only [List.length_range] at this
      omega
    · simp only [dpX, dropRoom, List.length_map]
      have := List.length_eraseIdx_le r.spaces ((k : Int)).toNat
      omega
    · simp only [dpX, dropRoom, List.mem_map] at hx
      obtain ⟨y, hy, rfl⟩ := hx
      have := (g3 y (List.mem_of_mem_eraseIdx hy)).1
      simp; omega
  · exact br_nil
end
section
theorem thOf_le {n0 m : Nat} {th : List Nat} (h : n0 ≤ m) (id : Nat) : thOf n0 (List.range' n0 (m - n0) ++ th) id = thOf m th id := by
  unfold thOf
  by_cases h1 : id < n0
  · rw [if_pos h1, if_pos (by omega)]
  · rw [if_neg h1]
    by_cases h2 : id < m
    · rw [if_pos h2, List.getElem?_append_left (by simp; omega), List.getElem?_range' (by omega)]
      simp; omega
    · rw [if_neg h2, List.getElem?_append_right (by simp; omega)]
      simp only [List.length_range']
      rw [show id - n0 - (m - n0) = id - m by omega]
mutual
theorem ren_le {n0 m : Nat} {th : List Nat} (h : n0 ≤ m) : ∀ a : AVal, ren n0 (List.range' n0 (m - n0) ++ th) a = ren m th a
  | .ptr id sz i off => by simp only [ren, thOf_le h]
  | .osl id sz s len kc => by simp only [ren, thOf_le h]
  | .xsl id sz s len kc => by simp only [ren, thOf_le h]
  | .agg cs => by simp only [ren, renC_le h cs]
  | .tup cs => by simp only [ren, renC_le h cs]
  | .fn f cs => by simp only [ren, renC_le h cs]
  | .when b a => by simp only [ren, ren_le h a]
  | .junk => rfl
  | .anyb => rfl
  | .v _ => rfl
  | .esl => rfl
  | .fsl _ _ _ => rfl
  | .fptr _ _ => rfl
theorem renC_le {n0 m : Nat} {th : List Nat} (h : n0 ≤ m) : ∀ l : List AVal, renC n0 (List.range' n0 (m - n0) ++ th) l = renC m th l
  | [] => rfl
  | a :: l => by simp only [renC, ren_le h a, renC_le h l]
end
theorem heapT_le {n0 m n : Nat} {th : List Nat} {H : Heap} (h : n0 ≤ m) : ∀ {i : Nat} {X : Heap}, heapT m th n H i X → heapT n0 (List.range' n0 (m - n0) ++ th) n H i X
  | _, [], _ => trivial
  | i, none :: r, hx => by
    simp only [heapT] at hx ⊢
    exact heapT_le h hx
  | i, some o :: r, hx => by
    simp only [heapT] at hx ⊢
    refine ⟨?_, hx.2.1, heapT_le h hx.2.2⟩
    rw [thOf_le h, hx.1]
    congr 4
    funext r
    congr 1
    funext a
    exact (ren_le h a).symm
theorem ent_le {m : Nat} {th : List Nat} {s' s : Env × Heap} (h : WeakT m th s' s) {n0 : Nat} (hn : n0 ≤ m) : Ent n0 s' s := by
  obtain ⟨⟨h1, h2⟩, ⟨h3, h4, h5⟩, h6, h7⟩ := h
  refine Ent.weakT (th := List.range' n0 (m - n0) ++ th) ⟨⟨by omega, by omega⟩, ⟨?_, by simp; omega, fun x hx => ?_⟩, fun p hp => ?_, heapT_le hn h7⟩
  · rw [List.nodup_append]
    refine ⟨List.nodup_range', h3, fun a ha b hb => ?_⟩
    have := List.mem_range'_1.1 ha
    have := h5 b hb
    omega
  · rcases List.mem_append.1 hx with hx | hx
    · have := List.mem_range'_1.1 hx
      omega
    · have := h5 x hx
      omega
  · rw [ren_le hn]
    exact h6 p hp
end
section
set_option maxHeartbeats 2000000
set_option maxRecDepth 100000
set_option linter.unusedSimpArgs false
set_option linter.unusedVariables false
attribute [local simp] wpA wpX RunA RunD runF foot footP footB idsA bare apart runL step1 gsel_f gsel_t gsel_s res_same res_and1 res_and2 res_and3 res_and4 res_and5 res_and6 res_false res_true res_v res_ptr res_fptr res_osl res_xsl soft aAppendZ aCap ovlI ovlJ res_fsl res_esl res_agg res_tup res_fn res_junk res_anyb aPick hk imp_left iteV dstOk guardOk astep astepE AI.ev AI.look AI.put envOf aBox cellsOf allOne allOneA oneA Value.oneCell' Value.cells newObj' aFieldAddr aLoad obj readAt thenA blockA condA retA resA tupA view hot hotC hotR depthV cAgg cInt cBool mkAgg allV aAlloc aBuild fillA writeAt aStore isAggA aField idx aIndexAddr aIndex bnd aSlice aExtract aLen aBuiltin aCall isStatic eqAgg eqTy eqC ev_add ev_sub ev_mul ev_quo ev_rem ev_and ev_or ev_xor ev_andNot ev_shl ev_shr ev_eql ev_neq ev_lss ev_leq ev_gtr ev_geq ev_agg w64 wu32 wu8 ev_not ev_neg Cod.plain RCod.plain argM finM cold coldC coldR goInt intDec boolDec aggDec Weaker heapW lowA lowC Again slDec undef aBuildSlice setRows aAppend rowsOf aMakeSlice aClear aCopy softer_self softer_nil valsOf ev_min2 ev_max2 hotR_set hotR_append take_map_set irow_cold irow_mapM irow_mapMc irow_view irow_viewc irow_hotR irow_ren irow_renc irow_low WeakT heapT thOf ren renC AgainT NextF NextT fnDec cFn rNil selfLt natLt0 natLt1 getLastMap frame0 frame1 own0 own1 argG finG tau tauI tauO tauC bareA bareC bareH irow_tau irow_tauc irow_bare irow_flat irow_bareR ownA_nil ownT_nil ownA_c ownT_c ownA_s ownT_s takeMapLen footC plainA noId noIdC cloneF frame0F frame1F insertF replaceI replaceF cellDec rCell fpDec cFp rTwo deleteF allV_oA oneA_oA res_oA RunR RunE runFT footAt hotR_cat tmodN aEqH aSliceA frameN newA newC newH fxSz3 fxBy3 fxAg3 fxZe3 fxSl3 fxSz4 fxBy4 fxAg4 fxZe4 fxSz5 fxBy5 fxAg5 fxZe5 fxSz33 fxAg33 fxZe33 fxAr33 fxPl33 fxSz111 fxAg111 fxZe111 fxSl111 fxAr111 fxSz112 fxBy112 fxAg112 fxZe112 fxSl112 fxAr112 fxSz135 fxAg135 fxZe135 fxSl135 fxAr135 fxSz137 fxBy137 fxAg137 fxZe137 fxFi137x0 fxFi137x1 fxFi137x2 fxPl137 fxSz138 fxAg138 fxZe138 fxSl138 fxAr138 fxSz140 fxAg140 fxZe140 fxFi140x0 fxFi140x1 fxPl140 fxSz141 fxAg141 fxZe141 fxSl141 fxAr141 fxSz146 fxBy146 fxAg146 fxZe146 fxFi146x0 fxPl146 fxZe165 fxAr165 fxPl165 fxZe166 fxAr166 fxPl166 fxZe167 fxAr167 fxPl167 fxSz296 fxAg296 fxZe296 fxAr296 fxPl296 fxSl308 fxAr308 fxEq137 fxEq146 fxEq296 fxCv3x283 fxCv283x3 fxEb4 fxNe111 fxOe111 fxXe111 fxNe112 fxOe112 fxXe112 fxNe135 fxOe135 fxXe135 fxLn138 fxNe138 fxOe138 fxXe138 fxNe141 fxOe141 fxXe141 fxFm46 fxFi46 fxFm48 fxFi48 fxFm57 fxFi57 fxFm58 fxFi58 fxFm59 fxFi59 fxFm60 fxFm61 fxFm62 fxFi63 fxFj63 fxFm64 fxFi64 fxFm65 fxFi65 fxFm66 fxFi66 fxFm67 fxFi67 fxFm68 fxFi68 fxFm69 fxFi69 fxFm70 fxFm71 fxFm72 fxFm73 fxFm74 fxFm75 fxFi75 fxFm76 fxFm77 fxFi77 fxFm133 fxFi133 fxFm136 fxFi136 fxFm137 fxFi137 fxFm138 fxFi138 fxFm139 fxFi139 fxFj139 fxFm140 fxFm141 fxFm142 fxFm143 fxFi143 fxFm144 fxFm145 fxFi145 fxFm146 fxFm147 fxFi147 fxFm148 fxFi148 fxFm149 fxFi149 fxFm150 fxFi150 fxFm185 fxFi185 fxFm186 fxFi186 fxFm187 fxFi187 fxFm188 fxFi188 fxFm189 fxFi189 fxFm190 fxFi190 fxFm191 fxFm195 fxFi195 fxFm196 fxFm206 fxFi206 fxFm218 fxFi218 fxFm232 fxFi232
section
set_option maxHeartbeats 40000000
attribute [local simp] Pr.eta Pr.cold Pr.mapM Pr.mapMc Pr.view Pr.viewc Pr.hotR Pr.ren Pr.renc Pr.low Pr.tau Pr.tauc Pr.bare Pr.flat Pr.flat1 Pr.mapMt Pr.mapMd Pr.coldt Pr.coldd Pr.hotRt Pr.hotRd
attribute [local simp] Pg.eta Pg.cold Pg.mapM Pg.mapMc Pg.view Pg.viewc Pg.hotR Pg.ren Pg.renc Pg.low Pg.tau Pg.tauc Pg.bare Pg.flat Pg.flat1 Pg.mapMt Pg.mapMd Pg.coldt Pg.coldd Pg.hotRt Pg.hotRd
attribute [local simp] Slot.eta Slot.cold Slot.mapM Slot.mapMc Slot.view Slot.viewc Slot.hotR Slot.ren Slot.renc Slot.low Slot.tau Slot.tauc Slot.bare Slot.flat Slot.flat1 Slot.mapMt Slot.mapMd Slot.coldt Slot.coldd Slot.hotRt Slot.hotRd
attribute [local simp] rSp_sz spR_cold spR_dec spR_mapM spR_mapMc spR_view spR_viewc spR_hotR spR_ren spR_renc spR_low spR_get spR_len Room.eta Room.dec_row Room.dec_hrow
attribute [local simp] okL_tau okL_bare okL_allV okL_one okL_res
theorem prCU : InlOk Try.prog 60 (cloneU 3) := cloneU_ok prClone
theorem byCU : InlOk Try.prog 61 (cloneU 1) := cloneU_ok clByte
theorem swCU : InlOk Try.prog 62 (cloneU 17) := cloneU_ok swClone_inl
theorem clIntP : PureOk Try.prog 46 (argM (cSl (rI .i64)) fun l => finM (if l.length ≤ 4294967296 then some (.fsl true 1 (l.map (irow .i64))) else none)) := by
  refine pureS1 Try.func46 rfl ?_
  rintro l r' hr
  by_cases hc : l.length ≤ 4294967296
  case neg => rw [if_neg hc] at hr; cases hr
  rw [if_pos hc] at hr
  simp only [Option.some.injEq] at hr
  subst hr
  refine bodyS_of noOrc_ok fxMix (by kernel_rfl) (by simp [Try.ntmps46]) ?_
  intro C cP cI cN cD cF cA cR cL
  replace cI : C.inl = fun _ => false := cI
  replace cR : C.rd = fun _ => none := cR
  replace cD : C.dyn = fun _ => [] := cD
  clear cP cN cF cA
  by_cases h : l = []
  · subst h
    simp [Try.ntmps46, Try.results46, cSl, cI, cD, cR, rI]
    exact ⟨⟨.nil, rfl⟩, ⟨.esl, rfl⟩⟩
  · simp [Try.ntmps46, Try.results46, cSl, cI, cD, cR, rI, h, hc]
    exact shows_osl rfl (by rfl) (fun e => by simp [irow, view]) (fun e => by simp [irow, hotC, hot])
theorem pr_bareU {ok : Bool} {l : List Pr} {r : Heap} : bareH (okO ok 3 (l.map Pr.row) :: r) = bareH r := okO_bare (g := Pr.row) (fun e => by simp [Pr.row, bareA])
theorem sw_bareU {ok : Bool} {l : List Slot} {r : Heap} : bareH (okO ok 17 (l.map Slot.row) :: r) = bareH r := okO_bare (g := Slot.row) (fun e => by simp [Slot.row, Pg.row, bareA])
theorem pr_tauU {ok : Bool} {m : Nat} {l : List Pr} : tauO [] m (okO ok 3 (l.map Pr.row)) = okO ok 3 (l.map Pr.row) := okO_tau (g := Pr.row) (fun e => by simp [Pr.row, tau])
theorem sw_tauU {ok : Bool} {m : Nat} {l : List Slot} : tauO [] m (okO ok 17 (l.map Slot.row)) = okO ok 17 (l.map Slot.row) := okO_tau (g := Slot.row) (fun e => by simp [Slot.row, Pg.row, tau])
theorem oA_cells {id sz n : Nat} : cellsOf (oA id sz n) = some [oA id sz n] := by unfold oA; split <;> rfl
theorem okL_cells {ok : Bool} {id sz n : Nat} : cellsOf (okL ok id sz n) = some [okL ok id sz n] := by unfold okL; split <;> rfl
theorem cells_agg {cs : Row} : cellsOf (.agg cs) = if allOneA cs = true then some cs else none := rfl
theorem cells_vagg {cs : Array Value} : cellsOf (.v (.agg cs)) = if allOne cs.toList = true then some (cs.toList.map .v) else none := rfl
theorem cells_int {k : IntKind} {x : Int} : cellsOf (.v (.int k x)) = some [.v (.int k x)] := rfl
theorem cells_bool {b : Bool} : cellsOf (.v (.bool b)) = some [.v (.bool b)] := rfl
theorem cells_slice {a : Option Addr} {n k : Nat} : cellsOf (.v (.slice a n k)) = some [.v (.slice a n k)] := rfl
theorem cells_osl {a b c d e : Nat} : cellsOf (.osl a b c d e) = some [.osl a b c d e] := rfl
theorem cells_esl : cellsOf .esl = some [.esl] := rfl
theorem cells_fsl {o : Bool} {sz : Nat} {rows : List Row} : cellsOf (.fsl o sz rows) = some [.fsl o sz rows] := rfl
theorem cells_rm {a n b m : Nat} {ok : Bool} : cellsOf (.agg [oA a 1 n, okL ok b 1 m]) = some [oA a 1 n, okL ok b 1 m] := by unfold okL oA; split <;> split <;> rfl
attribute [local simp high] cells_rm
attribute [local simp] cells_agg cells_vagg cells_int cells_bool cells_slice cells_osl cells_esl cells_fsl oA_cells okL_cells
attribute [local simp] pr_bareU sw_bareU pr_tauU sw_tauU allV_oA oneA_oA res_oA tau_oA bare_oA
theorem okLf {id sz n : Nat} : okL false id sz n = .esl := rfl
theorem okLt {id sz n : Nat} : okL true id sz n = .osl id sz 0 n n := rfl
theorem one_esl : oneA .esl = true := rfl
theorem one_osl {a b c d e : Nat} : oneA (.osl a b c d e) = true := rfl
theorem one_int {k : IntKind} {x : Int} : oneA (.v (.int k x)) = true := rfl
theorem allOne_nil : allOneA [] = true := rfl
theorem allOne_cons {a : AVal} {r : Row} : allOneA (a :: r) = (oneA a && allOneA r) := rfl
theorem oA0 {id sz : Nat} : oA id sz 0 = .esl := rfl
/-- the list of the spaces, as it grows -/
def usA (k : Nat) : AVal := if k = 0 then .v (.slice none 0 0) else .osl 11 1 0 k k
def usR (L : List (List Int)) : List Row := L.map fun l => [.fsl true 1 (l.map (irow .i64))]
def usO (k : Nat) (L : List (List Int)) : Option (Nat × List Row) := if k = 0 then none else some (1, usR (L.take k))
theorem usA_cells {k : Nat} : cellsOf (usA k) = some [usA k] := by unfold usA; split <;> rfl
theorem usR_take {L : List (List Int)} {k : Nat} (hk : k < L.length) : usR (L.take (k + 1)) = usR (L.take k) ++ [[.fsl true 1 (L[k].map (irow .i64))]] := by
  unfold usR
  rw [List.take_succ_eq_append_getElem hk, List.map_append]; rfl
theorem usR_nil : usR [] = [] := rfl
theorem usR_ren {n0 : Nat} {th : List Nat} {M : List (List Int)} : List.map (List.map (ren n0 th)) (usR M) = usR M := by
  simp only [usR, List.map_map]; rfl
theorem usR_low {n : Nat} {M : List (List Int)} : (∀ x ∈ usR M, ∀ y ∈ x, lowA n y = true) = True := by
  refine eq_true fun x hx y hy => ?_
  obtain ⟨b, _, rfl⟩ := List.mem_map.1 hx
  simp at hy; subst hy; rfl
theorem coldR_pr {l : List Pr} : coldR (l.map Pr.row) = l.map Pr.row := by
  induction l with
  | nil => rfl
  | cons a l ih => simp only [List.map_cons, coldR, ih, Pr.row, coldC, cold]
theorem coldR_sw {l : List Slot} : coldR (l.map Slot.row) = l.map Slot.row := by
  induction l with
  | nil => rfl
  | cons a l ih => simp only [List.map_cons, coldR, ih, Slot.row, Pg.row, coldC, cold, List.cons_append, List.nil_append]
theorem coldR_in {k : IntKind} {l : List Int} : coldR (l.map (irow k)) = l.map (irow k) := by
  induction l with
  | nil => rfl
  | cons a l ih => simp only [List.map_cons, coldR, ih, irow, coldC, cold]
theorem vwL {H : Heap} {l : List Pr} : cold (view H 4 (.fsl false 3 (l.map Pr.row))) = .fsl false 3 (l.map Pr.row) := by
  simp only [view, cold, coldR_pr]
theorem vwM {H : Heap} {l : List Slot} : cold (view H 4 (.fsl false 17 (l.map Slot.row))) = .fsl false 17 (l.map Slot.row) := by
  simp only [view, cold, coldR_sw]
theorem vwR {H : Heap} {cs : List Int} {L : List (List Int)} : cold (view H 4 (.agg [.fsl false 1 (cs.map (irow .u8)), .fsl false 1 (L.map (spR false))])) = .agg [.fsl false 1 (cs.map (irow .u8)), .fsl false 1 (L.map (spR false))] := by
  simp only [view, List.map_cons, List.map_nil, cold, coldC, coldR_in, spR_cold]
theorem vwV {H : Heap} {v : Value} : cold (view H 4 (.v v)) = .v v := by simp [view, cold]
theorem vwP {H : Heap} {a b c : Value} : cold (view H 4 (.agg [.v a, .v b, .v c])) = .agg [.v a, .v b, .v c] := by simp [view, cold, coldC]
theorem ren_oA {n0 : Nat} {th : List Nat} {id sz n : Nat} : ren n0 th (oA id sz n) = oA (thOf n0 th id) sz n := by unfold oA; split <;> rfl
theorem low_oA {N id sz n : Nat} (h : id < N) : lowA N (oA id sz n) = true := by unfold oA; split <;> simp [lowA, h]
theorem heapT_oT {n0 : Nat} {th : List Nat} {N : Nat} {H : Heap} {k sz : Nat} {rows : List Row} {r : Heap} (h1 : rows.map (List.map (ren n0 th)) = rows) (h2 : (rows.all fun row => row.all (lowA N)) = true) (h3 : H[thOf n0 th k]? = some (oT sz rows)) : heapT n0 th N H k (oT sz rows :: r) = heapT n0 th N H (k + 1) r := by
  by_cases e : rows = []
  · subst e
    rfl
  · have e2 : oT sz rows = some (sz, rows) := oT_pos e
    rw [e2] at h3 ⊢
    simp only [heapT, h1, h2, h3, true_and]
theorem heapT_pr {n0 : Nat} {th : List Nat} {N : Nat} {H : Heap} {k : Nat} {l : List Pr} {r : Heap} (h3 : H[thOf n0 th k]? = some (oT 3 (l.map Pr.row))) : heapT n0 th N H k (oT 3 (l.map Pr.row) :: r) = heapT n0 th N H (k + 1) r :=
  heapT_oT (by simp only [List.map_map]; rfl) (by simp [Pr.row, lowA]) h3
theorem heapT_sw {n0 : Nat} {th : List Nat} {N : Nat} {H : Heap} {k : Nat} {l : List Slot} {r : Heap} (h3 : H[thOf n0 th k]? = some (oT 17 (l.map Slot.row))) : heapT n0 th N H k (oT 17 (l.map Slot.row) :: r) = heapT n0 th N H (k + 1) r :=
  heapT_oT (by simp only [List.map_map]; rfl) (by simp [Slot.row, Pg.row, lowA]) h3
theorem heapT_in {n0 : Nat} {th : List Nat} {N : Nat} {H : Heap} {k : Nat} {g : IntKind} {l : List Int} {r : Heap} (h3 : H[thOf n0 th k]? = some (oT 1 (l.map (irow g)))) : heapT n0 th N H k (oT 1 (l.map (irow g)) :: r) = heapT n0 th N H (k + 1) r :=
  heapT_oT (by simp only [List.map_map]; rfl) (by simp [irow, lowA]) h3
def rHp (o : Bool) (c : Nat) (r : Room) : Heap := if o = true then oT 1 (r.cells.map (irow .u8)) :: some (1, ownR 1 (c + 2) r.spaces) :: inL r.spaces else [none]
theorem rHp_bare {o : Bool} {r : Room} : bareH (if o = true then rmH r else [none]) = true := by
  split
  · simp only [rmH]
    rw [bareH_oT irow_bare]
    simp only [bareH, Bool.and_eq_true]
    exact ⟨bare_ownR, bareH_ownH irow_bare⟩
  · rfl
theorem rHp_tau {o : Bool} {n : Nat} {r : Room} : List.map (tauO [] n) (if o = true then rmH r else [none]) = rHp o n r := by
  unfold rHp
  split
  · simp only [rmH, List.map_cons, inL, tauO_ownH (irow_tau [] n), tauO_oT (irow_tau [] n)]
    congr 2
    simp only [tauO, tau_ownR]
  · rfl
theorem rHp_len {o : Bool} {c : Nat} {r : Room} : 1 ≤ (rHp o c r).length ∧ (o = true → (rHp o c r).length = 2 + r.spaces.length) := by
  unfold rHp
  cases o <;> simp [inL, ownH_len]; omega
theorem obj_app' {H K : Heap} {i : Nat} {o : Nat × List Row} (h : obj H i = some o) : obj (H ++ K) i = some o := by rw [obj_app (ob_lt h)]; exact h
theorem obj_set' {H : Heap} {i j : Nat} {x : Option (Nat × List Row)} {o : Nat × List Row} (h : obj H i = some o) (e : j ≠ i) : obj (H.set j x) i = some o := by rw [ob_ne e]; exact h
theorem dPr {l : List Pr} : List.mapM prDec (l.map Pr.row) = some l := mapM_dec rPr l
theorem dSw {l : List Slot} : List.mapM slotDec (l.map Slot.row) = some l := mapM_dec rSlot l
structure KB (l : List Pr) (cs : List Int) (sp : List (List Int)) (m : List Slot) (G : Heap) : Prop where
  o0 : obj G 0 = some (1, [[.fsl false 3 (l.map Pr.row)]])
  o2 : obj G 2 = some (2, [[.fsl false 1 (cs.map (irow .u8)), .fsl false 1 (sp.map (spR false))]])
  o3 : obj G 3 = some (1, [[.fsl false 17 (m.map Slot.row)]])
  o4 : l ≠ [] → obj G 4 = some (3, l.map Pr.row)
  o5 : cs ≠ [] → obj G 5 = some (1, cs.map (irow .u8))
  o6 : m ≠ [] → obj G 6 = some (17, m.map Slot.row)
  o7 : obj G 7 = some (1, [[oA 4 3 l.length]])
  o8 : obj G 8 = some (1, [[oA 5 1 cs.length]])
  o9 : obj G 9 = some (1, [[oA 6 17 m.length]])
  o10 : obj G 10 = some (1, [[usA sp.length]])
  o11 : sp ≠ [] → obj G 11 = some (1, usR sp)
namespace KB
variable {l : List Pr} {cs : List Int} {sp : List (List Int)} {m : List Slot} {G : Heap}
theorem app (h : KB l cs sp m G) (K : Heap) : KB l cs sp m (G ++ K) :=
  ⟨obj_app' h.o0, obj_app' h.o2, obj_app' h.o3, fun e => obj_app' (h.o4 e), fun e => obj_app' (h.o5 e), fun e => obj_app' (h.o6 e), obj_app' h.o7, obj_app' h.o8, obj_app' h.o9, obj_app' h.o10, fun e => obj_app' (h.o11 e)⟩
theorem set (h : KB l cs sp m G) {i : Nat} (hi : 12 ≤ i) (o : Option (Nat × List Row)) : KB l cs sp m (G.set i o) :=
  ⟨obj_set' h.o0 (by omega), obj_set' h.o2 (by omega), obj_set' h.o3 (by omega), fun e => obj_set' (h.o4 e) (by omega), fun e => obj_set' (h.o5 e) (by omega), fun e => obj_set' (h.o6 e) (by omega), obj_set' h.o7 (by omega), obj_set' h.o8 (by omega), obj_set' h.o9 (by omega), obj_set' h.o10 (by omega), fun e => obj_set' (h.o11 e) (by omega)⟩
theorem vPr {d : Nat} : List.map (fun r => List.map (view G d) r) (l.map Pr.row) = l.map Pr.row := by
  simp [Pr.row, view]
theorem vSw {d : Nat} : List.map (fun r => List.map (view G d) r) (m.map Slot.row) = m.map Slot.row := by
  simp [Slot.row, Pg.row, view]
theorem vIn {d : Nat} : List.map (fun r => List.map (view G d) r) (cs.map (irow .u8)) = cs.map (irow .u8) := by
  simp [irow, view]
theorem vUs {d : Nat} : List.map (fun r => List.map (view G d) r) (usR sp) = usR sp := by
  simp [usR, view]
theorem d0 (h : KB l cs sp m G) : (cFp (rS rPr)).dec (cold (view G 4 (.ptr 0 1 0 0))) = some l := by
  have := h.o0
  simp [-obj, view, this, cold, coldC, coldR_pr, cFp, rS, cSl, slDec, rPr, -List.mapM_map, dPr]
theorem d3 (h : KB l cs sp m G) : (cFp (rS rSlot)).dec (cold (view G 4 (.ptr 3 1 0 0))) = some m := by
  have := h.o3
  simp [-obj, view, this, cold, coldC, coldR_sw, cFp, rS, cSl, slDec, rSlot, -List.mapM_map, dSw]
theorem d2 (h : KB l cs sp m G) : (cFp rRoom).dec (cold (view G 4 (.ptr 2 2 0 0))) = some ⟨cs, sp⟩ := by
  have := h.o2
  have hr := Room.dec_row ⟨cs, sp⟩
  simp only [Room.row] at hr
  simp [-obj, view, this, cold, coldC, coldR_in, cFp, rRoom]
  exact hr
theorem d7 (h : KB l cs sp m G) : (cFp (rS rPr)).dec (cold (view G 4 (.ptr 7 1 0 0))) = some l := by
  have h5 := h.o7
  by_cases e : l = []
  · subst e
    simp [-obj, view, h5, cold, coldC, cFp, rS, cSl, slDec, oA]
  · have h3 := h.o4 e
    have hn : ¬ l.length = 0 := fun q => e (List.length_eq_zero_iff.1 q)
    have ht : List.take l.length (l.map Pr.row) = l.map Pr.row := List.take_of_length_le (by simp)
    simp [-obj, view, h5, h3, hn, ht, -List.map_map, vPr, cold, coldC, coldR_pr, cFp, rS, cSl, slDec, rPr, oA, e, -List.mapM_map, dPr]
theorem d9 (h : KB l cs sp m G) : (cFp (rS rSlot)).dec (cold (view G 4 (.ptr 9 1 0 0))) = some m := by
  have h5 := h.o9
  by_cases e : m = []
  · subst e
    simp [-obj, view, h5, cold, coldC, cFp, rS, cSl, slDec, oA]
  · have h3 := h.o6 e
    have hn : ¬ m.length = 0 := fun q => e (List.length_eq_zero_iff.1 q)
    have ht : List.take m.length (m.map Slot.row) = m.map Slot.row := List.take_of_length_le (by simp)
    simp [-obj, view, h5, h3, hn, ht, -List.map_map, vSw, cold, coldC, coldR_sw, cFp, rS, cSl, slDec, rSlot, oA, e, -List.mapM_map, dSw]
theorem d8 (h : KB l cs sp m G) : (cFp rByS).dec (cold (view G 4 (.ptr 8 1 0 0))) = some cs := by
  have h5 := h.o8
  have hd := mapM_dec (rI .u8) cs
  by_cases e : cs = []
  · subst e
    simp [-obj, view, h5, cold, coldC, cFp, rByS, rS, cSl, slDec, oA]
  · have h3 := h.o5 e
    have hn : ¬ cs.length = 0 := fun q => e (List.length_eq_zero_iff.1 q)
    have ht : List.take cs.length (cs.map (irow .u8)) = cs.map (irow .u8) := List.take_of_length_le (by simp)
    simp [-obj, view, h5, h3, hn, ht, -List.map_map, vIn, cold, coldC, coldR_in, cFp, rByS, rS, oA, e]
    show slDec (rI .u8) (.fsl false 1 (cs.map (irow .u8))) = _
    simp only [slDec]
    rw [if_pos (show 1 = (rI .u8).sz from rfl)]
    exact hd
theorem coldUs : coldR (usR sp) = sp.map (spR false) := by
  induction sp with
  | nil => rfl
  | cons a l ih =>
    simp only [usR, List.map_cons, coldR, coldC, cold, coldR_in] at ih ⊢
    rw [ih]
    rfl
theorem d10 (h : KB l cs sp m G) : (cFp rSpS).dec (cold (view G 4 (.ptr 10 1 0 0))) = some sp := by
  have h5 := h.o10
  by_cases e : sp = []
  · subst e
    simp [-obj, view, h5, cold, coldC, cFp, rSpS, rS, cSl, slDec, usA]
  · have h3 := h.o11 e
    have hn : ¬ sp.length = 0 := fun q => e (List.length_eq_zero_iff.1 q)
    have hul : (usR sp).length = sp.length := by simp [usR]
    have ht : List.take sp.length (usR sp) = usR sp := List.take_of_length_le (by omega)
    have hd := spR_mapM (o := false) sp
    simp [-obj, view, h5, h3, hn, hul, ht, -List.map_map, vUs, cold, coldC, coldUs, cFp, rSpS, usA, e]
    show slDec rSp (.fsl false 1 (sp.map (spR false))) = _
    simp only [slDec]
    rw [if_pos (show 1 = rSp.sz from rfl)]
    exact hd
theorem ofCons {x : Option (Nat × List Row)} {K : Heap} : KB l cs sp m (some (1, [[.fsl false 3 (l.map Pr.row)]]) :: x :: some (2, [[.fsl false 1 (cs.map (irow .u8)), .fsl false 1 (sp.map (spR false))]]) :: some (1, [[.fsl false 17 (m.map Slot.row)]]) :: oT 3 (l.map Pr.row) :: oT 1 (cs.map (irow .u8)) :: oT 17 (m.map Slot.row) :: some (1, [[oA 4 3 l.length]]) :: some (1, [[oA 5 1 cs.length]]) :: some (1, [[oA 6 17 m.length]]) :: some (1, [[usA sp.length]]) :: usO sp.length sp :: K) :=
  ⟨rfl, rfl, rfl, fun e => by simp [obj, oT, e], fun e => by simp [obj, oT, e], fun e => by simp [obj, oT, e], rfl, rfl, rfl, rfl, fun e => by simp [obj, usO, e]⟩
end KB
theorem fkX_form (x : Except Int Room) : ∃ o r e, fkX x = (o, r, [.int .i64 e]) ∧ (o = false → r = ⟨[], []⟩) := by
  cases x with
  | ok r => exact ⟨_, _, _, rfl, fun h => by cases h⟩
  | error e => exact ⟨_, _, _, rfl, fun _ => rfl⟩
theorem wrX_form (x : Except Int (Room × Bool)) : ∃ o r b e, wrX x = (o, r, [.bool b, .int .i64 e]) ∧ (o = false → r = ⟨[], []⟩) := by
  cases x with
  | ok r => exact ⟨_, _, _, _, rfl, fun h => by cases h⟩
  | error e => exact ⟨_, _, _, _, rfl, fun _ => rfl⟩
theorem dpX_form (x : Except Int (Room × Int)) : ∃ o r n e, dpX x = (o, r, [.int .i64 n, .int .i64 e]) ∧ (o = false → r = ⟨[], []⟩) := by
  cases x with
  | ok r => exact ⟨_, _, _, _, rfl, fun h => by cases h⟩
  | error e => exact ⟨_, _, _, _, rfl, fun _ => rfl⟩
def HP (G : Heap) (o : Bool) (i n : Nat) : Prop := o = true → ∃ L : List Pr, L.length = n ∧ obj G i = some (3, L.map Pr.row)
def HW (G : Heap) (o : Bool) (i n : Nat) : Prop := o = true → ∃ L : List Slot, L.length = n ∧ obj G i = some (17, L.map Slot.row)
def HC (G : Heap) (o : Bool) (P : Nat) (r : Room) : Prop := o = true → (r.cells ≠ [] → ∃ u : List Int, u.length = r.cells.length ∧ obj G P = some (1, u.map (irow .u8))) ∧ obj G (P + 1) = some (1, ownR 1 (P + 2) r.spaces) ∧ ∀ (j : Nat) (h : j < r.spaces.length), r.spaces[j] ≠ [] → ∃ u : List Int, u.length = r.spaces[j].length ∧ obj G (j + (P + 2)) = some (1, u.map (irow .i64))
theorem HP.app {G K : Heap} {o : Bool} {i n : Nat} (h : HP G o i n) : HP (G ++ K) o i n := fun e => let ⟨L, h1, h2⟩ := h e; ⟨L, h1, obj_app' h2⟩
theorem HW.app {G K : Heap} {o : Bool} {i n : Nat} (h : HW G o i n) : HW (G ++ K) o i n := fun e => let ⟨L, h1, h2⟩ := h e; ⟨L, h1, obj_app' h2⟩
theorem HC.app {G K : Heap} {o : Bool} {P : Nat} {r : Room} (h : HC G o P r) : HC (G ++ K) o P r := fun e => ⟨fun q => let ⟨L, h1, h2⟩ := (h e).1 q; ⟨L, h1, obj_app' h2⟩, obj_app' (h e).2.1, fun j hj q => let ⟨u, h1, h2⟩ := (h e).2.2 j hj q; ⟨u, h1, obj_app' h2⟩⟩
theorem HP.set {G : Heap} {o : Bool} {i n j : Nat} {x : Option (Nat × List Row)} (h : HP G o i n) (e : j ≠ i) : HP (G.set j x) o i n := fun q => let ⟨L, h1, h2⟩ := h q; ⟨L, h1, obj_set' h2 e⟩
theorem HW.set {G : Heap} {o : Bool} {i n j : Nat} {x : Option (Nat × List Row)} (h : HW G o i n) (e : j ≠ i) : HW (G.set j x) o i n := fun q => let ⟨L, h1, h2⟩ := h q; ⟨L, h1, obj_set' h2 e⟩
theorem HC.set {G : Heap} {o : Bool} {P k : Nat} {r : Room} {x : Option (Nat × List Row)} (h : HC G o P r) (e : o = true → k < P ∨ P + 1 + r.spaces.length < k) : HC (G.set k x) o P r := fun q => ⟨fun w => let ⟨L, h1, h2⟩ := (h q).1 w; ⟨L, h1, obj_set' h2 (by have := e q; omega)⟩, obj_set' (h q).2.1 (by have := e q; omega), fun j hj w => let ⟨u, h1, h2⟩ := (h q).2.2 j hj w; ⟨u, h1, obj_set' h2 (by have := e q; omega)⟩⟩
theorem HP.upd {G : Heap} {o : Bool} {i n : Nat} {L : List Pr} (hi : i < G.length) (hl : L.length = n) : HP (G.set i (some (3, L.map Pr.row))) o i n := fun _ => ⟨L, hl, ob_self hi (by decide)⟩
theorem HW.upd {G : Heap} {o : Bool} {i n : Nat} {L : List Slot} (hi : i < G.length) (hl : L.length = n) : HW (G.set i (some (17, L.map Slot.row))) o i n := fun _ => ⟨L, hl, ob_self hi (by decide)⟩
theorem HC.updC {G : Heap} {o : Bool} {P : Nat} {r : Room} (h : HC G o P r) {v : List Int} (hi : P < G.length) (hv : v.length = r.cells.length) : HC (G.set P (some (1, v.map (irow .u8)))) o P r := fun q => by
  obtain ⟨h1, h2, h3⟩ := h q
  refine ⟨fun w => ⟨v, hv, ob_self hi (by decide)⟩, obj_set' h2 (by omega), fun j hj w => ?_⟩
  obtain ⟨u, h4, h5⟩ := h3 j hj w
  exact ⟨u, h4, obj_set' h5 (by omega)⟩
theorem HC.updS {G : Heap} {o : Bool} {P : Nat} {r : Room} (h : HC G o P r) {j : Nat} (hj : j < r.spaces.length) {v : List Int} (hi : j + (P + 2) < G.length) (hv : v.length = r.spaces[j].length) : HC (G.set (j + (P + 2)) (some (1, v.map (irow .i64)))) o P r := fun q => by
  obtain ⟨h1, h2, h3⟩ := h q
  refine ⟨fun w => ?_, obj_set' h2 (by omega), fun k hk w => ?_⟩
  · obtain ⟨u, h4, h5⟩ := h1 w
    exact ⟨u, h4, obj_set' h5 (by omega)⟩
  · by_cases e : k = j
    · subst e
      exact ⟨v, hv, ob_self hi (by decide)⟩
    · obtain ⟨u, h4, h5⟩ := h3 k hk w
      exact ⟨u, h4, obj_set' h5 (by omega)⟩
/-- the box of a room -/
def bxO (o : Bool) (P : Nat) (r : Room) : Option (Nat × List Row) := some (2, [[oA P 1 r.cells.length, okL o (P + 1) 1 r.spaces.length]])
structure KI (l : List Pr) (cs : List Int) (sp : List (List Int)) (m : List Slot) (o1 o2 o3 o4 o5 o6 o7 o8 : Bool) (n1 n2 n3 n7 n8 : Nat) (r4 r5 r6 : Room) (P Q R : Nat) (G : Heap) : Prop where
  b : KB l cs sp m G
  l1 : HP G o1 12 n1
  l2 : HP G o2 13 n2
  l3 : HP G o3 14 n3
  l4 : HC G o4 15 r4
  l5 : HC G o5 (P + 1) r5
  l6 : HC G o6 (Q + 1) r6
  l7 : HW G o7 (R + 1) n7
  l8 : HW G o8 (R + 2) n8
  b4 : obj G P = bxO o4 15 r4
  b5 : obj G Q = bxO o5 (P + 1) r5
  b6 : obj G R = bxO o6 (Q + 1) r6
  p : 16 ≤ P ∧ (o4 = true → P = 17 + r4.spaces.length)
  q : P + 2 ≤ Q ∧ (o5 = true → Q = P + 3 + r5.spaces.length)
  r : Q + 2 ≤ R ∧ (o6 = true → R = Q + 3 + r6.spaces.length)
  n : R + 2 < G.length
namespace KI
variable {l : List Pr} {cs : List Int} {sp : List (List Int)} {m : List Slot} {o1 o2 o3 o4 o5 o6 o7 o8 : Bool} {n1 n2 n3 n7 n8 : Nat} {r4 r5 r6 : Room} {P Q R : Nat} {G : Heap}
theorem app (h : KI l cs sp m o1 o2 o3 o4 o5 o6 o7 o8 n1 n2 n3 n7 n8 r4 r5 r6 P Q R G) (K : Heap) : KI l cs sp m o1 o2 o3 o4 o5 o6 o7 o8 n1 n2 n3 n7 n8 r4 r5 r6 P Q R (G ++ K) :=
  ⟨h.b.app K, h.l1.app, h.l2.app, h.l3.app, h.l4.app, h.l5.app, h.l6.app, h.l7.app, h.l8.app, obj_app' h.b4, obj_app' h.b5, obj_app' h.b6, h.p, h.q, h.r, by rw [List.length_append]; exact Nat.lt_of_lt_of_le h.n (Nat.le_add_right _ _)⟩
theorem s1 (h : KI l cs sp m o1 o2 o3 o4 o5 o6 o7 o8 n1 n2 n3 n7 n8 r4 r5 r6 P Q R G) {W : List Pr} (hl : W.length = n1) : KI l cs sp m o1 o2 o3 o4 o5 o6 o7 o8 n1 n2 n3 n7 n8 r4 r5 r6 P Q R (G.set (12) (some (3, W.map Pr.row))) := by
  have h1 := h.p.1
  have h1' := h.p.2
  have h2 := h.q.1
  have h2' := h.q.2
  have h3 := h.r.1
  have h3' := h.r.2
  have h4 := h.n
  exact ⟨h.b.set (by omega) _, HP.upd (by omega) hl, h.l2.set (by omega), h.l3.set (by omega), h.l4.set (fun e => by have := h1' e; omega), h.l5.set (fun e => by have := h2' e; omega), h.l6.set (fun e => by have := h3' e; omega), h.l7.set (by omega), h.l8.set (by omega), obj_set' h.b4 (by omega), obj_set' h.b5 (by omega), obj_set' h.b6 (by omega), h.p, h.q, h.r, by rw [List.length_set]; exact h.n⟩
theorem s2 (h : KI l cs sp m o1 o2 o3 o4 o5 o6 o7 o8 n1 n2 n3 n7 n8 r4 r5 r6 P Q R G) {W : List Pr} (hl : W.length = n2) : KI l cs sp m o1 o2 o3 o4 o5 o6 o7 o8 n1 n2 n3 n7 n8 r4 r5 r6 P Q R (G.set (13) (some (3, W.map Pr.row))) := by
  have h1 := h.p.1
  have h1' := h.p.2
  have h2 := h.q.1
  have h2' := h.q.2
  have h3 := h.r.1
  have h3' := h.r.2
  have h4 := h.n
  exact ⟨h.b.set (by omega) _, h.l1.set (by omega), HP.upd (by omega) hl, h.l3.set (by omega), h.l4.set (fun e => by have := h1' e; omega), h.l5.set (fun e => by have := h2' e; omega), h.l6.set (fun e => by have := h3' e; omega), h.l7.set (by omega), h.l8.set (by omega), obj_set' h.b4 (by omega), obj_set' h.b5 (by omega), obj_set' h.b6 (by omega), h.p, h.q, h.r, by rw [List.length_set]; exact h.n⟩
theorem s3 (h : KI l cs sp m o1 o2 o3 o4 o5 o6 o7 o8 n1 n2 n3 n7 n8 r4 r5 r6 P Q R G) {W : List Pr} (hl : W.length = n3) : KI l cs sp m o1 o2 o3 o4 o5 o6 o7 o8 n1 n2 n3 n7 n8 r4 r5 r6 P Q R (G.set (14) (some (3, W.map Pr.row))) := by
  have h1 := h.p.1
  have h1' := h.p.2
  have h2 := h.q.1
  have h2' := h.q.2
  have h3 := h.r.1
  have h3' := h.r.2
  have h4 := h.n
  exact ⟨h.b.set (by omega) _, h.l1.set (by omega), h.l2.set (by omega), HP.upd (by omega) hl, h.l4.set (fun e => by have := h1' e; omega), h.l5.set (fun e => by have := h2' e; omega), h.l6.set (fun e => by have := h3' e; omega), h.l7.set (by omega), h.l8.set (by omega), obj_set' h.b4 (by omega), obj_set' h.b5 (by omega), obj_set' h.b6 (by omega), h.p, h.q, h.r, by rw [List.length_set]; exact h.n⟩
theorem s7 (h : KI l cs sp m o1 o2 o3 o4 o5 o6 o7 o8 n1 n2 n3 n7 n8 r4 r5 r6 P Q R G) {W : List Slot} (hl : W.length = n7) : KI l cs sp m o1 o2 o3 o4 o5 o6 o7 o8 n1 n2 n3 n7 n8 r4 r5 r6 P Q R (G.set (R + 1) (some (17, W.map Slot.row))) := by
  have h1 := h.p.1
  have h1' := h.p.2
  have h2 := h.q.1
  have h2' := h.q.2
  have h3 := h.r.1
  have h3' := h.r.2
  have h4 := h.n
  exact ⟨h.b.set (by omega) _, h.l1.set (by omega), h.l2.set (by omega), h.l3.set (by omega), h.l4.set (fun e => by have := h1' e; omega), h.l5.set (fun e => by have := h2' e; omega), h.l6.set (fun e => by have := h3' e; omega), HW.upd (by omega) hl, h.l8.set (by omega), obj_set' h.b4 (by omega), obj_set' h.b5 (by omega), obj_set' h.b6 (by omega), h.p, h.q, h.r, by rw [List.length_set]; exact h.n⟩
theorem s8 (h : KI l cs sp m o1 o2 o3 o4 o5 o6 o7 o8 n1 n2 n3 n7 n8 r4 r5 r6 P Q R G) {W : List Slot} (hl : W.length = n8) : KI l cs sp m o1 o2 o3 o4 o5 o6 o7 o8 n1 n2 n3 n7 n8 r4 r5 r6 P Q R (G.set (R + 2) (some (17, W.map Slot.row))) := by
  have h1 := h.p.1
  have h1' := h.p.2
  have h2 := h.q.1
  have h2' := h.q.2
  have h3 := h.r.1
  have h3' := h.r.2
  have h4 := h.n
  exact ⟨h.b.set (by omega) _, h.l1.set (by omega), h.l2.set (by omega), h.l3.set (by omega), h.l4.set (fun e => by have := h1' e; omega), h.l5.set (fun e => by have := h2' e; omega), h.l6.set (fun e => by have := h3' e; omega), h.l7.set (by omega), HW.upd (by omega) hl, obj_set' h.b4 (by omega), obj_set' h.b5 (by omega), obj_set' h.b6 (by omega), h.p, h.q, h.r, by rw [List.length_set]; exact h.n⟩
theorem c4 (h : KI l cs sp m o1 o2 o3 true o5 o6 o7 o8 n1 n2 n3 n7 n8 r4 r5 r6 P Q R G) {v : List Int} (hv : v.length = r4.cells.length) : KI l cs sp m o1 o2 o3 true o5 o6 o7 o8 n1 n2 n3 n7 n8 r4 r5 r6 P Q R (G.set (15) (some (1, v.map (irow .u8)))) := by
  have h1 := h.p.1
  have h1' := h.p.2
  have h2 := h.q.1
  have h2' := h.q.2
  have h3 := h.r.1
  have h3' := h.r.2
  have h4 := h.n
  have hz := h1' rfl
  exact ⟨h.b.set (by omega) _, h.l1.set (by omega), h.l2.set (by omega), h.l3.set (by omega), h.l4.updC (by omega) hv, h.l5.set (fun e => by have := h2' e; omega), h.l6.set (fun e => by have := h3' e; omega), h.l7.set (by omega), h.l8.set (by omega), obj_set' h.b4 (by omega), obj_set' h.b5 (by omega), obj_set' h.b6 (by omega), h.p, h.q, h.r, by rw [List.length_set]; exact h.n⟩
theorem d4 (h : KI l cs sp m o1 o2 o3 true o5 o6 o7 o8 n1 n2 n3 n7 n8 r4 r5 r6 P Q R G) {j : Nat} (hj : j < r4.spaces.length) {v : List Int} (hv : v.length = r4.spaces[j].length) : KI l cs sp m o1 o2 o3 true o5 o6 o7 o8 n1 n2 n3 n7 n8 r4 r5 r6 P Q R (G.set (j + (15 + 2)) (some (1, v.map (irow .i64)))) := by
  have h1 := h.p.1
  have h1' := h.p.2
  have h2 := h.q.1
  have h2' := h.q.2
  have h3 := h.r.1
  have h3' := h.r.2
  have h4 := h.n
  have hz := h1' rfl
  exact ⟨h.b.set (by omega) _, h.l1.set (by omega), h.l2.set (by omega), h.l3.set (by omega), h.l4.updS hj (by omega) hv, h.l5.set (fun e => by have := h2' e; omega), h.l6.set (fun e => by have := h3' e; omega), h.l7.set (by omega), h.l8.set (by omega), obj_set' h.b4 (by omega), obj_set' h.b5 (by omega), obj_set' h.b6 (by omega), h.p, h.q, h.r, by rw [List.length_set]; exact h.n⟩
theorem c5 (h : KI l cs sp m o1 o2 o3 o4 true o6 o7 o8 n1 n2 n3 n7 n8 r4 r5 r6 P Q R G) {v : List Int} (hv : v.length = r5.cells.length) : KI l cs sp m o1 o2 o3 o4 true o6 o7 o8 n1 n2 n3 n7 n8 r4 r5 r6 P Q R (G.set (P + 1) (some (1, v.map (irow .u8)))) := by
  have h1 := h.p.1
  have h1' := h.p.2
  have h2 := h.q.1
  have h2' := h.q.2
  have h3 := h.r.1
  have h3' := h.r.2
  have h4 := h.n
  have hz := h2' rfl
  exact ⟨h.b.set (by omega) _, h.l1.set (by omega), h.l2.set (by omega), h.l3.set (by omega), h.l4.set (fun e => by have := h1' e; omega), h.l5.updC (by omega) hv, h.l6.set (fun e => by have := h3' e; omega), h.l7.set (by omega), h.l8.set (by omega), obj_set' h.b4 (by omega), obj_set' h.b5 (by omega), obj_set' h.b6 (by omega), h.p, h.q, h.r, by rw [List.length_set]; exact h.n⟩
theorem d5 (h : KI l cs sp m o1 o2 o3 o4 true o6 o7 o8 n1 n2 n3 n7 n8 r4 r5 r6 P Q R G) {j : Nat} (hj : j < r5.spaces.length) {v : List Int} (hv : v.length = r5.spaces[j].length) : KI l cs sp m o1 o2 o3 o4 true o6 o7 o8 n1 n2 n3 n7 n8 r4 r5 r6 P Q R (G.set (j + (P + 1 + 2)) (some (1, v.map (irow .i64)))) := by
  have h1 := h.p.1
  have h1' := h.p.2
  have h2 := h.q.1
  have h2' := h.q.2
  have h3 := h.r.1
  have h3' := h.r.2
  have h4 := h.n
  have hz := h2' rfl
  exact ⟨h.b.set (by omega) _, h.l1.set (by omega), h.l2.set (by omega), h.l3.set (by omega), h.l4.set (fun e => by have := h1' e; omega), h.l5.updS hj (by omega) hv, h.l6.set (fun e => by have := h3' e; omega), h.l7.set (by omega), h.l8.set (by omega), obj_set' h.b4 (by omega), obj_set' h.b5 (by omega), obj_set' h.b6 (by omega), h.p, h.q, h.r, by rw [List.length_set]; exact h.n⟩
theorem c6 (h : KI l cs sp m o1 o2 o3 o4 o5 true o7 o8 n1 n2 n3 n7 n8 r4 r5 r6 P Q R G) {v : List Int} (hv : v.length = r6.cells.length) : KI l cs sp m o1 o2 o3 o4 o5 true o7 o8 n1 n2 n3 n7 n8 r4 r5 r6 P Q R (G.set (Q + 1) (some (1, v.map (irow .u8)))) := by
  have h1 := h.p.1
  have h1' := h.p.2
  have h2 := h.q.1
  have h2' := h.q.2
  have h3 := h.r.1
  have h3' := h.r.2
  have h4 := h.n
  have hz := h3' rfl
  exact ⟨h.b.set (by omega) _, h.l1.set (by omega), h.l2.set (by omega), h.l3.set (by omega), h.l4.set (fun e => by have := h1' e; omega), h.l5.set (fun e => by have := h2' e; omega), h.l6.updC (by omega) hv, h.l7.set (by omega), h.l8.set (by omega), obj_set' h.b4 (by omega), obj_set' h.b5 (by omega), obj_set' h.b6 (by omega), h.p, h.q, h.r, by rw [List.length_set]; exact h.n⟩
theorem d6 (h : KI l cs sp m o1 o2 o3 o4 o5 true o7 o8 n1 n2 n3 n7 n8 r4 r5 r6 P Q R G) {j : Nat} (hj : j < r6.spaces.length) {v : List Int} (hv : v.length = r6.spaces[j].length) : KI l cs sp m o1 o2 o3 o4 o5 true o7 o8 n1 n2 n3 n7 n8 r4 r5 r6 P Q R (G.set (j + (Q + 1 + 2)) (some (1, v.map (irow .i64)))) := by
  have h1 := h.p.1
  have h1' := h.p.2
  have h2 := h.q.1
  have h2' := h.q.2
  have h3 := h.r.1
  have h3' := h.r.2
  have h4 := h.n
  have hz := h3' rfl
  exact ⟨h.b.set (by omega) _, h.l1.set (by omega), h.l2.set (by omega), h.l3.set (by omega), h.l4.set (fun e => by have := h1' e; omega), h.l5.set (fun e => by have := h2' e; omega), h.l6.updS hj (by omega) hv, h.l7.set (by omega), h.l8.set (by omega), obj_set' h.b4 (by omega), obj_set' h.b5 (by omega), obj_set' h.b6 (by omega), h.p, h.q, h.r, by rw [List.length_set]; exact h.n⟩
end KI
theorem HC.of {o : Bool} {c : Nat} {r : Room} {A B : Heap} (hc : c = A.length) : HC (A ++ (rHp o c r ++ B)) o c r := fun q => by
  subst q hc
  have e : rHp true A.length r = oT 1 (r.cells.map (irow .u8)) :: some (1, ownR 1 (A.length + 2) r.spaces) :: inL r.spaces := rfl
  rw [e]
  refine ⟨fun w => ⟨r.cells, rfl, ob_of ?_ (by decide)⟩, ob_of ?_ (by decide), fun j hj w => ⟨r.spaces[j], rfl, ob_of ?_ (by decide)⟩⟩
  · rw [List.getElem?_append_right (Nat.le_refl _), Nat.sub_self]
    simp [oT, w]
  · rw [List.getElem?_append_right (by omega), show A.length + 1 - A.length = 1 by omega]; rfl
  · rw [List.getElem?_append_right (by omega), show j + (A.length + 2) - A.length = j + 2 by omega, List.cons_append, List.cons_append, List.getElem?_cons_succ, List.getElem?_cons_succ, List.getElem?_append_left (by rw [inL, ownH_len]; exact hj), inL, ownH_get hj]
    simp [oT, w]

theorem ob_mid {A B : Heap} {i sz : Nat} {R : List Row} (h : i = A.length) (h0 : sz ≠ 0) : obj (A ++ (some (sz, R) :: B)) i = some (sz, R) := by
  subst h
  exact ob_of (by rw [List.getElem?_append_right (Nat.le_refl _), Nat.sub_self]; rfl) h0
def pre15 (l : List Pr) (cs : List Int) (sp : List (List Int)) (m : List Slot) (x : Option (Nat × List Row)) (o1 o2 o3 : Bool) (L1 L2 L3 : List Pr) : Heap :=
  [some (1, [[.fsl false 3 (l.map Pr.row)]]), x, some (2, [[.fsl false 1 (cs.map (irow .u8)), .fsl false 1 (sp.map (spR false))]]), some (1, [[.fsl false 17 (m.map Slot.row)]]), oT 3 (l.map Pr.row), oT 1 (cs.map (irow .u8)), oT 17 (m.map Slot.row), some (1, [[oA 4 3 l.length]]), some (1, [[oA 5 1 cs.length]]), some (1, [[oA 6 17 m.length]]), some (1, [[usA sp.length]]), usO sp.length sp,
    okO o1 3 (L1.map Pr.row), okO o2 3 (L2.map Pr.row), okO o3 3 (L3.map Pr.row)]
theorem ki_start {l : List Pr} {cs : List Int} {sp : List (List Int)} {m : List Slot} {x : Option (Nat × List Row)} {o1 o2 o3 o4 o5 o6 o7 o8 : Bool} {L1 L2 L3 : List Pr} {r4 r5 r6 : Room} {L7 L8 : List Slot} {P Q R : Nat}
    (hP : P = (rHp o4 15 r4).length + 15) (hQ : Q = (rHp o4 15 r4).length + ((rHp o5 (P + 1) r5).length + 1) + 15) (hR : R = (rHp o4 15 r4).length + ((rHp o5 (P + 1) r5).length + ((rHp o6 (Q + 1) r6).length + 1) + 1) + 15) :
    KI l cs sp m o1 o2 o3 o4 o5 o6 o7 o8 L1.length L2.length L3.length L7.length L8.length r4 r5 r6 P Q R
      (pre15 l cs sp m x o1 o2 o3 L1 L2 L3 ++ (rHp o4 15 r4 ++ (bxO o4 15 r4 :: (rHp o5 (P + 1) r5 ++ (bxO o5 (P + 1) r5 :: (rHp o6 (Q + 1) r6 ++ (bxO o6 (Q + 1) r6 :: okO o7 17 (L7.map Slot.row) :: okO o8 17 (L8.map Slot.row) :: []))))))) := by
  obtain ⟨k4, k4'⟩ := @rHp_len o4 15 r4
  obtain ⟨k5, k5'⟩ := @rHp_len o5 (P + 1) r5
  obtain ⟨k6, k6'⟩ := @rHp_len o6 (Q + 1) r6
  have hA : (pre15 l cs sp m x o1 o2 o3 L1 L2 L3).length = 15 := rfl
  have q4 := HC.of (o := o4) (c := 15) (r := r4) (A := pre15 l cs sp m x o1 o2 o3 L1 L2 L3) (B := bxO o4 15 r4 :: (rHp o5 (P + 1) r5 ++ (bxO o5 (P + 1) r5 :: (rHp o6 (Q + 1) r6 ++ (bxO o6 (Q + 1) r6 :: okO o7 17 (L7.map Slot.row) :: okO o8 17 (L8.map Slot.row) :: []))))) rfl
  have q5 := HC.of (o := o5) (c := P + 1) (r := r5) (A := pre15 l cs sp m x o1 o2 o3 L1 L2 L3 ++ (rHp o4 15 r4 ++ [bxO o4 15 r4])) (B := (bxO o5 (P + 1) r5 :: (rHp o6 (Q + 1) r6 ++ (bxO o6 (Q + 1) r6 :: okO o7 17 (L7.map Slot.row) :: okO o8 17 (L8.map Slot.row) :: [])))) (by simp only [List.length_append, hA, List.length_cons, List.length_nil]; omega)
  have q6 := HC.of (o := o6) (c := Q + 1) (r := r6) (A := pre15 l cs sp m x o1 o2 o3 L1 L2 L3 ++ (rHp o4 15 r4 ++ (bxO o4 15 r4 :: (rHp o5 (P + 1) r5 ++ [bxO o5 (P + 1) r5])))) (B := (bxO o6 (Q + 1) r6 :: okO o7 17 (L7.map Slot.row) :: okO o8 17 (L8.map Slot.row) :: [])) (by simp only [List.length_append, hA, List.length_cons, List.length_nil]; omega)
  have e4 := ob_mid (i := P) (sz := 2) (R := [[oA 15 1 r4.cells.length, okL o4 (15 + 1) 1 r4.spaces.length]]) (A := pre15 l cs sp m x o1 o2 o3 L1 L2 L3 ++ rHp o4 15 r4) (B := (rHp o5 (P + 1) r5 ++ (bxO o5 (P + 1) r5 :: (rHp o6 (Q + 1) r6 ++ (bxO o6 (Q + 1) r6 :: okO o7 17 (L7.map Slot.row) :: okO o8 17 (L8.map Slot.row) :: []))))) (by simp only [List.length_append, hA, List.length_cons, List.length_nil]; omega) (by decide)
  have e5 := ob_mid (i := Q) (sz := 2) (R := [[oA (P + 1) 1 r5.cells.length, okL o5 (P + 1 + 1) 1 r5.spaces.length]]) (A := pre15 l cs sp m x o1 o2 o3 L1 L2 L3 ++ (rHp o4 15 r4 ++ (bxO o4 15 r4 :: rHp o5 (P + 1) r5))) (B := (rHp o6 (Q + 1) r6 ++ (bxO o6 (Q + 1) r6 :: okO o7 17 (L7.map Slot.row) :: okO o8 17 (L8.map Slot.row) :: []))) (by simp only [List.length_append, hA, List.length_cons, List.length_nil]; omega) (by decide)
  have e6 := ob_mid (i := R) (sz := 2) (R := [[oA (Q + 1) 1 r6.cells.length, okL o6 (Q + 1 + 1) 1 r6.spaces.length]]) (A := pre15 l cs sp m x o1 o2 o3 L1 L2 L3 ++ (rHp o4 15 r4 ++ (bxO o4 15 r4 :: (rHp o5 (P + 1) r5 ++ (bxO o5 (P + 1) r5 :: rHp o6 (Q + 1) r6))))) (B := (okO o7 17 (L7.map Slot.row) :: okO o8 17 (L8.map Slot.row) :: [])) (by simp only [List.length_append, hA, List.length_cons, List.length_nil]; omega) (by decide)
  have e7 := ob_mid (i := R + 1) (sz := 17) (R := L7.map Slot.row) (A := pre15 l cs sp m x o1 o2 o3 L1 L2 L3 ++ (rHp o4 15 r4 ++ (bxO o4 15 r4 :: (rHp o5 (P + 1) r5 ++ (bxO o5 (P + 1) r5 :: (rHp o6 (Q + 1) r6 ++ [bxO o6 (Q + 1) r6])))))) (B := (okO o8 17 (L8.map Slot.row) :: [])) (by simp only [List.length_append, hA, List.length_cons, List.length_nil]; omega) (by decide)
  have e8 := ob_mid (i := R + 2) (sz := 17) (R := L8.map Slot.row) (A := pre15 l cs sp m x o1 o2 o3 L1 L2 L3 ++ (rHp o4 15 r4 ++ (bxO o4 15 r4 :: (rHp o5 (P + 1) r5 ++ (bxO o5 (P + 1) r5 :: (rHp o6 (Q + 1) r6 ++ [bxO o6 (Q + 1) r6, okO o7 17 (L7.map Slot.row)])))))) (B := []) (by simp only [List.length_append, hA, List.length_cons, List.length_nil]; omega) (by decide)
  simp only [List.append_assoc, List.cons_append, List.nil_append] at q4 q5 q6 e4 e5 e6 e7 e8
  refine ⟨KB.ofCons, fun e => ⟨L1, rfl, by simp [e, okO, obj, pre15]⟩, fun e => ⟨L2, rfl, by simp [e, okO, obj, pre15]⟩, fun e => ⟨L3, rfl, by simp [e, okO, obj, pre15]⟩, q4, q5, q6, fun e => ⟨L7, rfl, by subst e; exact e7⟩, fun e => ⟨L8, rfl, by subst e; exact e8⟩, e4, e5, e6, ⟨by omega, fun e => by have := k4' e; omega⟩, ⟨by omega, fun e => by have := k5' e; omega⟩, ⟨by omega, fun e => by have := k6' e; omega⟩, ?_⟩
  simp only [List.length_append, hA, List.length_cons, List.length_nil]; omega

theorem cowOwn_pure : PureOk Try.prog 6 (argM (cSl rPr) fun l => argM (cAgg rPr) fun p => argM (cAgg rRoom) fun q => argM (cInt .i64) fun s => argM (cInt .i64) fun pg => argM (cSl rSlot) fun m => finM (if (l.length ≤ 1048576 ∧ q.cells.length ≤ 1048576 ∧ m.length ≤ 1048576 ∧ q.spaces.length ≤ 1048576) ∧ ∀ x ∈ q.spaces, x.length ≤ 1048576 then some (.v (.bool true)) else none)) := by
  refine pure6 Try.func6 rfl ?_
  rintro l p q s pg m r hr
  by_cases hc : (l.length ≤ 1048576 ∧ q.cells.length ≤ 1048576 ∧ m.length ≤ 1048576 ∧ q.spaces.length ≤ 1048576) ∧ ∀ x ∈ q.spaces, x.length ≤ 1048576
  case neg => rw [if_neg hc] at hr; cases hr
  rw [if_pos hc] at hr
  simp only [Option.some.injEq] at hr
  subst hr
  refine body_gen ((((((((((((((((((noOrc_ok.withP rmaps_pure).withP cows_pure).withP swaps_pure).withP clIntP).withP sameC_pure).withI rmPut_inl).withI rmOut_inl).withI move_inl).withI fork_inl).withI write_inl).withI drop_inl).withI swPut_inl).withI swMore_inl).withIF prCU cloneU_loc).withIF byCU cloneU_loc).withIF swCU cloneU_loc).withD (fun i => if i = 3 then [(1000001,978),(1,3),(1,5),(4,5),(0,7),(3,7),(5,7),(0,8),(3,8),(5,8),(0,9),(3,9),(5,9)] else if i = 8 then [(0,3)] else [])).withA (fun i => if i = 3 then [0,1,2,3,4,5,6,7,8,9,10,11,12,0,1,2,3,4,5,6,7,9,8,10,11,12,0,1,2,3,4,5,6,8,7,9,10,11,12,0,1,2,3,4,5,6,8,9,7,10,11,12,0,1,2,3,4,5,6,9,7,8,10,11,12,0,1,2,3,4,5,6,9,8,7,10,11,12,0,1,2,3,4,5,7,6,8,9,10,11,12,0,1,2,3,4,5,7,6,9,8,10,11,12,0,1,2,3,4,5,7,8,6,9,10,11,12,0,1,2,3,4,5,7,8,9,6,10,11,12,0,1,2,3,4,5,7,9,6,8,10,11,12,0,1,2,3,4,5,7,9,8,6,10,11,12,0,1,2,3,4,5,8,6,7,9,10,11,12,0,1,2,3,4,5,8,6,9,7,10,11,12,0,1,2,3,4,5,8,7,6,9,10,11,12,0,1,2,3,4,5,8,7,9,6,10,11,12,0,1,2,3,4,5,8,9,6,7,10,11,12,0,1,2,3,4,5,8,9,7,6,10,11,12,0,1,2,3,4,5,9,6,7,8,10,11,12,0,1,2,3,4,5,9,6,8,7,10,11,12,0,1,2,3,4,5,9,7,6,8,10,11,12,0,1,2,3,4,5,9,7,8,6,10,11,12,0,1,2,3,4,5,9,8,6,7,10,11,12,0,1,2,3,4,5,9,8,7,6,10,11,12,0,1,2,3,5,7,4,6,8,9,10,11,12,0,1,2,3,5,7,4,6,9,8,10,11,12,0,1,2,3,5,7,4,8,6,9,10,11,12,0,1,2,3,5,7,4,8,9,6,10,11,12,0,1,2,3,5,7,4,9,6,8,10,11,12,0,1,2,3,5,7,4,9,8,6,10,11,12,0,1,2,3,5,7,8,4,6,9,10,11,12,0,1,2,3,5,7,8,4,9,6,10,11,12,0,1,2,3,5,7,8,9,4,6,10,11,12,0,1,2,3,5,7,9,4,6,8,10,11,12,0,1,2,3,5,7,9,4,8,6,10,11,12,0,1,2,3,5,7,9,8,4,6,10,11,12,0,1,2,3,5,8,4,6,7,9,10,11,12,0,1,2,3,5,8,4,6,9,7,10,11,12,0,1,2,3,5,8,4,7,6,9,10,11,12,0,1,2,3,5,8,4,7,9,6,10,11,12,0,1,2,3,5,8,4,9,6,7,10,11,12,0,1,2,3,5,8,4,9,7,6,10,11,12,0,1,2,3,5,8,7,4,6,9,10,11,12,0,1,2,3,5,8,7,4,9,6,10,11,12,0,1,2,3,5,8,7,9,4,6,10,11,12,0,1,2,3,5,8,9,4,6,7,10,11,12,0,1,2,3,5,8,9,4,7,6,10,11,12,0,1,2,3,5,8,9,7,4,6,10,11,12,0,1,2,3,5,9,4,6,7,8,10,11,12,0,1,2,3,5,9,4,6,8,7,10,11,12,0,1,2,3,5,9,4,7,6,8,10,11,12,0,1,2,3,5,9,4,7,8,6,10,11,12,0,1,2,3,5,9,4,8,6,7,10,11,12,0,1,2,3,5,9,4,8,7,6,10,11,12,0,1,2,3,5,9,7,4,6,8,10,11,12,0,1,2,3,5,9,7,4,8,6,10,11,12,0,1,2,3,5,9,7,8,4,6,10,11,12,0,1,2,3,5,9,8,4,6,7,10,11,12,0,1,2,3,5,9,8,4,7,6,10,11,12,0,1,2,3,5,9,8,7,4,6,10,11,12,0,2,3,5,7,1,4,6,8,9,10,11,12,0,2,3,5,7,1,4,6,9,8,10,11,12,0,2,3,5,7,1,4,8,6,9,10,11,12,0,2,3,5,7,1,4,8,9,6,10,11,12,0,2,3,5,7,1,4,9,6,8,10,11,12,0,2,3,5,7,1,4,9,8,6,10,11,12,0,2,3,5,7,1,8,4,6,9,10,11,12,0,2,3,5,7,1,8,4,9,6,10,11,12,0,2,3,5,7,1,8,9,4,6,10,11,12,0,2,3,5,7,1,9,4,6,8,10,11,12,0,2,3,5,7,1,9,4,8,6,10,11,12,0,2,3,5,7,1,9,8,4,6,10,11,12,0,2,3,5,7,8,1,4,6,9,10,11,12,0,2,3,5,7,8,1,4,9,6,10,11,12,0,2,3,5,7,8,1,9,4,6,10,11,12,0,2,3,5,7,8,9,1,4,6,10,11,12,0,2,3,5,7,9,1,4,6,8,10,11,12,0,2,3,5,7,9,1,4,8,6,10,11,12,0,2,3,5,7,9,1,8,4,6,10,11,12,0,2,3,5,7,9,8,1,4,6,10,11,12,0,2,3,5,8,1,4,6,7,9,10,11,12,0,2,3,5,8,1,4,6,9,7,10,11,12,0,2,3,5,8,1,4,7,6,9,10,11,12,0,2,3,5,8,1,4,7,9,6,10,11,12,0,2,3,5,8,1,4,9,6,7,10,11,12,0,2,3,5,8,1,4,9,7,6,10,11,12,0,2,3,5,8,1,7,4,6,9,10,11,12,0,2,3,5,8,1,7,4,9,6,10,11,12,0,2,3,5,8,1,7,9,4,6,10,11,12,0,2,3,5,8,1,9,4,6,7,10,11,12,0,2,3,5,8,1,9,4,7,6,10,11,12,0,2,3,5,8,1,9,7,4,6,10,11,12,0,2,3,5,8,7,1,4,6,9,10,11,12,0,2,3,5,8,7,1,4,9,6,10,11,12,0,2,3,5,8,7,1,9,4,6,10,11,12,0,2,3,5,8,7,9,1,4,6,10,11,12,0,2,3,5,8,9,1,4,6,7,10,11,12,0,2,3,5,8,9,1,4,7,6,10,11,12,0,2,3,5,8,9,1,7,4,6,10,11,12,0,2,3,5,8,9,7,1,4,6,10,11,12,0,2,3,5,9,1,4,6,7,8,10,11,12,0,2,3,5,9,1,4,6,8,7,10,11,12,0,2,3,5,9,1,4,7,6,8,10,11,12,0,2,3,5,9,1,4,7,8,6,10,11,12,0,2,3,5,9,1,4,8,6,7,10,11,12,0,2,3,5,9,1,4,8,7,6,10,11,12,0,2,3,5,9,1,7,4,6,8,10,11,12,0,2,3,5,9,1,7,4,8,6,10,11,12,0,2,3,5,9,1,7,8,4,6,10,11,12,0,2,3,5,9,1,8,4,6,7,10,11,12,0,2,3,5,9,1,8,4,7,6,10,11,12,0,2,3,5,9,1,8,7,4,6,10,11,12,0,2,3,5,9,7,1,4,6,8,10,11,12,0,2,3,5,9,7,1,4,8,6,10,11,12,0,2,3,5,9,7,1,8,4,6,10,11,12,0,2,3,5,9,7,8,1,4,6,10,11,12,0,2,3,5,9,8,1,4,6,7,10,11,12,0,2,3,5,9,8,1,4,7,6,10,11,12,0,2,3,5,9,8,1,7,4,6,10,11,12,0,2,3,5,9,8,7,1,4,6,10,11,12] else [])) fxMix (by kernel_rfl) (by simp [Try.ntmps6]) ?_
  intro C cP cI cN cD cF cA cR cL
  have cp0 := orcP rmaps_pure (C := C) (by rw [cP]; rfl)
  have cp1 := orcP cows_pure (C := C) (by rw [cP]; rfl)
  have cp2 := orcP swaps_pure (C := C) (by rw [cP]; rfl)
  have cp3 := orcP clIntP (C := C) (by rw [cP]; rfl)
  have ch0 := orcP sameC_pure (C := C) (by rw [cP]; rfl)
  have cn0 := orcI rmPut_inl (C := C) (by rw [cN]; rfl)
  have cn1 := orcI rmOut_inl (C := C) (by rw [cN]; rfl)
  have cn2 := orcI move_inl (C := C) (by rw [cN]; rfl)
  have cn3 := orcI fork_inl (C := C) (by rw [cN]; rfl)
  have cn4 := orcI write_inl (C := C) (by rw [cN]; rfl)
  have cn5 := orcI drop_inl (C := C) (by rw [cN]; rfl)
  have cn6 := orcI swPut_inl (C := C) (by rw [cN]; rfl)
  have cn7 := orcI swMore_inl (C := C) (by rw [cN]; rfl)
  have cn8 := orcI prCU (C := C) (by rw [cN]; rfl)
  have cn9 := orcI byCU (C := C) (by rw [cN]; rfl)
  have cn10 := orcI swCU (C := C) (by rw [cN]; rfl)
  replace cI := fun g => congrFun cI g
  simp only [Orc.withP, Orc.withI, Orc.withF, Orc.withD, Orc.withA, Orc.withR, Orc.withC, noOrc] at cI
  replace cR : C.rd = fun _ => none := cR
  replace cD : C.dyn = fun i => if i = 3 then [(1000001,978),(1,3),(1,5),(4,5),(0,7),(3,7),(5,7),(0,8),(3,8),(5,8),(0,9),(3,9),(5,9)] else if i = 8 then [(0,3)] else [] := cD
  replace cF := fun g => congrFun cF g
  simp only [Orc.withP, Orc.withI, Orc.withF, Orc.withD, Orc.withA, Orc.withR, Orc.withC, noOrc] at cF
  replace cA : C.alt = fun i => if i = 3 then [0,1,2,3,4,5,6,7,8,9,10,11,12,0,1,2,3,4,5,6,7,9,8,10,11,12,0,1,2,3,4,5,6,8,7,9,10,11,12,0,1,2,3,4,5,6,8,9,7,10,11,12,0,1,2,3,4,5,6,9,7,8,10,11,12,0,1,2,3,4,5,6,9,8,7,10,11,12,0,1,2,3,4,5,7,6,8,9,10,11,12,0,1,2,3,4,5,7,6,9,8,10,11,12,0,1,2,3,4,5,7,8,6,9,10,11,12,0,1,2,3,4,5,7,8,9,6,10,11,12,0,1,2,3,4,5,7,9,6,8,10,11,12,0,1,2,3,4,5,7,9,8,6,10,11,12,0,1,2,3,4,5,8,6,7,9,10,11,12,0,1,2,3,4,5,8,6,9,7,10,11,12,0,1,2,3,4,5,8,7,6,9,10,11,12,0,1,2,3,4,5,8,7,9,6,10,11,12,0,1,2,3,4,5,8,9,6,7,10,11,12,0,1,2,3,4,5,8,9,7,6,10,11,12,0,1,2,3,4,5,9,6,7,8,10,11,12,0,1,2,3,4,5,9,6,8,7,10,11,12,0,1,2,3,4,5,9,7,6,8,10,11,12,0,1,2,3,4,5,9,7,8,6,10,11,12,0,1,2,3,4,5,9,8,6,7,10,11,12,0,1,2,3,4,5,9,8,7,6,10,11,12,0,1,2,3,5,7,4,6,8,9,10,11,12,0,1,2,3,5,7,4,6,9,8,10,11,12,0,1,2,3,5,7,4,8,6,9,10,11,12,0,1,2,3,5,7,4,8,9,6,10,11,12,0,1,2,3,5,7,4,9,6,8,10,11,12,0,1,2,3,5,7,4,9,8,6,10,11,12,0,1,2,3,5,7,8,4,6,9,10,11,12,0,1,2,3,5,7,8,4,9,6,10,11,12,0,1,2,3,5,7,8,9,4,6,10,11,12,0,1,2,3,5,7,9,4,6,8,10,11,12,0,1,2,3,5,7,9,4,8,6,10,11,12,0,1,2,3,5,7,9,8,4,6,10,11,12,0,1,2,3,5,8,4,6,7,9,10,11,12,0,1,2,3,5,8,4,6,9,7,10,11,12,0,1,2,3,5,8,4,7,6,9,10,11,12,0,1,2,3,5,8,4,7,9,6,10,11,12,0,1,2,3,5,8,4,9,6,7,10,11,12,0,1,2,3,5,8,4,9,7,6,10,11,12,0,1,2,3,5,8,7,4,6,9,10,11,12,0,1,2,3,5,8,7,4,9,6,10,11,12,0,1,2,3,5,8,7,9,4,6,10,11,12,0,1,2,3,5,8,9,4,6,7,10,11,12,0,1,2,3,5,8,9,4,7,6,10,11,12,0,1,2,3,5,8,9,7,4,6,10,11,12,0,1,2,3,5,9,4,6,7,8,10,11,12,0,1,2,3,5,9,4,6,8,7,10,11,12,0,1,2,3,5,9,4,7,6,8,10,11,12,0,1,2,3,5,9,4,7,8,6,10,11,12,0,1,2,3,5,9,4,8,6,7,10,11,12,0,1,2,3,5,9,4,8,7,6,10,11,12,0,1,2,3,5,9,7,4,6,8,10,11,12,0,1,2,3,5,9,7,4,8,6,10,11,12,0,1,2,3,5,9,7,8,4,6,10,11,12,0,1,2,3,5,9,8,4,6,7,10,11,12,0,1,2,3,5,9,8,4,7,6,10,11,12,0,1,2,3,5,9,8,7,4,6,10,11,12,0,2,3,5,7,1,4,6,8,9,10,11,12,0,2,3,5,7,1,4,6,9,8,10,11,12,0,2,3,5,7,1,4,8,6,9,10,11,12,0,2,3,5,7,1,4,8,9,6,10,11,12,0,2,3,5,7,1,4,9,6,8,10,11,12,0,2,3,5,7,1,4,9,8,6,10,11,12,0,2,3,5,7,1,8,4,6,9,10,11,12,0,2,3,5,7,1,8,4,9,6,10,11,12,0,2,3,5,7,1,8,9,4,6,10,11,12,0,2,3,5,7,1,9,4,6,8,10,11,12,0,2,3,5,7,1,9,4,8,6,10,11,12,0,2,3,5,7,1,9,8,4,6,10,11,12,0,2,3,5,7,8,1,4,6,9,10,11,12,0,2,3,5,7,8,1,4,9,6,10,11,12,0,2,3,5,7,8,1,9,4,6,10,11,12,0,2,3,5,7,8,9,1,4,6,10,11,12,0,2,3,5,7,9,1,4,6,8,10,11,12,0,2,3,5,7,9,1,4,8,6,10,11,12,0,2,3,5,7,9,1,8,4,6,10,11,12,0,2,3,5,7,9,8,1,4,6,10,11,12,0,2,3,5,8,1,4,6,7,9,10,11,12,0,2,3,5,8,1,4,6,9,7,10,11,12,0,2,3,5,8,1,4,7,6,9,10,11,12,0,2,3,5,8,1,4,7,9,6,10,11,12,0,2,3,5,8,1,4,9,6,7,10,11,12,0,2,3,5,8,1,4,9,7,6,10,11,12,0,2,3,5,8,1,7,4,6,9,10,11,12,0,2,3,5,8,1,7,4,9,6,10,11,12,0,2,3,5,8,1,7,9,4,6,10,11,12,0,2,3,5,8,1,9,4,6,7,10,11,12,0,2,3,5,8,1,9,4,7,6,10,11,12,0,2,3,5,8,1,9,7,4,6,10,11,12,0,2,3,5,8,7,1,4,6,9,10,11,12,0,2,3,5,8,7,1,4,9,6,10,11,12,0,2,3,5,8,7,1,9,4,6,10,11,12,0,2,3,5,8,7,9,1,4,6,10,11,12,0,2,3,5,8,9,1,4,6,7,10,11,12,0,2,3,5,8,9,1,4,7,6,10,11,12,0,2,3,5,8,9,1,7,4,6,10,11,12,0,2,3,5,8,9,7,1,4,6,10,11,12,0,2,3,5,9,1,4,6,7,8,10,11,12,0,2,3,5,9,1,4,6,8,7,10,11,12,0,2,3,5,9,1,4,7,6,8,10,11,12,0,2,3,5,9,1,4,7,8,6,10,11,12,0,2,3,5,9,1,4,8,6,7,10,11,12,0,2,3,5,9,1,4,8,7,6,10,11,12,0,2,3,5,9,1,7,4,6,8,10,11,12,0,2,3,5,9,1,7,4,8,6,10,11,12,0,2,3,5,9,1,7,8,4,6,10,11,12,0,2,3,5,9,1,8,4,6,7,10,11,12,0,2,3,5,9,1,8,4,7,6,10,11,12,0,2,3,5,9,1,8,7,4,6,10,11,12,0,2,3,5,9,7,1,4,6,8,10,11,12,0,2,3,5,9,7,1,4,8,6,10,11,12,0,2,3,5,9,7,1,8,4,6,10,11,12,0,2,3,5,9,7,8,1,4,6,10,11,12,0,2,3,5,9,8,1,4,6,7,10,11,12,0,2,3,5,9,8,1,4,7,6,10,11,12,0,2,3,5,9,8,1,7,4,6,10,11,12,0,2,3,5,9,8,7,1,4,6,10,11,12] else [] := cA
  clear cP cN
  obtain ⟨cs, sp⟩ := q
  obtain ⟨⟨hl, hcs, hm, hsp⟩, hu⟩ := hc
  simp only at hcs hsp hu
  have hl2 : (l.map Pr.row).length ≤ 4294967296 := by simp; omega
  have hm2 : (m.map Slot.row).length ≤ 4294967296 := by simp; omega
  have hc2 : (cs.map (irow .u8)).length ≤ 4294967296 := by simp; omega
  have u1 : ∀ (o : Bool) (H : Heap), cloneU 3 [.fsl o 3 (l.map Pr.row)] H = some (oA H.length 3 l.length, H ++ [oT 3 (l.map Pr.row)]) := fun o H => by rw [cloneU_fsl (by decide) hl2]; simp
  have u2 : ∀ (o : Bool) (H : Heap), cloneU 17 [.fsl o 17 (m.map Slot.row)] H = some (oA H.length 17 m.length, H ++ [oT 17 (m.map Slot.row)]) := fun o H => by rw [cloneU_fsl (by decide) hm2]; simp
  have u3 : ∀ (o : Bool) (H : Heap), cloneU 1 [.fsl o 1 (cs.map (irow .u8))] H = some (oA H.length 1 cs.length, H ++ [oT 1 (cs.map (irow .u8))]) := fun o H => by rw [cloneU_fsl (by decide) hc2]; simp
  have hnm : ¬ Try.f63.name = "runtime.NumGoroutine" := by decide
  have hsame : ∀ G, KB l cs sp m G → C.pure 63 [cold (view G 4 (.ptr 0 1 0 0)), cold (view G 4 (.ptr 7 1 0 0)), cold (view G 4 (.ptr 2 2 0 0)), cold (view G 4 (.ptr 8 1 0 0)), cold (view G 4 (.ptr 3 1 0 0)), cold (view G 4 (.ptr 9 1 0 0)), cold (view G 4 (.ptr 10 1 0 0))] = some (.v (.bool true)) := by
    intro G hb
    rw [ch0]
    simp only [argM, hb.d0, hb.d2, hb.d3, hb.d7, hb.d8, hb.d9, hb.d10, finM]
    rw [if_pos ⟨by simp, by omega, by omega, by omega, by omega, fun x hx => by have := hu x hx; omega⟩]
  have hs0 := fun x K => hsame _ (@KB.ofCons l cs sp m x K)
  simp [Try.ntmps6, Try.results6, cSl, cp0, cp1, cp2, cp3, cn0, cn1, cn2, cn3, cn4, cn5, cn6, cn7, cn8, cn9, cn10, cI, cD, cR, cF, cA, -view, -cold, -cellsOf, rI, rPr, prDec, Pr.row, rRoom, roomDec, Room.row, rSlot, slotDec, rPg, u1, u2, u3]
  refine ⟨([(3, .v (.int .i64 s)), (4, .v (.int .i64 pg)), (6, .ptr 0 1 0 0), (7, .ptr 1 3 0 0), (8, .ptr 2 2 0 0), (11, .ptr 3 1 0 0), (13, .ptr 7 1 0 0), (14, .ptr 8 1 0 0), (15, .ptr 9 1 0 0)], [some (1, [[.fsl false 3 (l.map Pr.row)]]), some (3, [p.row]), some (2, [[.fsl false 1 (cs.map (irow .u8)), .fsl false 1 (sp.map (spR false))]]), some (1, [[.fsl false 17 (m.map Slot.row)]]), oT 3 (l.map Pr.row), oT 1 (cs.map (irow .u8)), oT 17 (m.map Slot.row), some (1, [[oA 4 3 l.length]]), some (1, [[oA 5 1 cs.length]]), some (1, [[oA 6 17 m.length]])]), ?_, ?_⟩
  · simp [Try.ntmps6, Try.results6, cSl, cp0, cp1, cp2, cp3, cn0, cn1, cn2, cn3, cn4, cn5, cn6, cn7, cn8, cn9, cn10, cI, cD, cR, cF, cA, -view, -cold, -cellsOf, -tauO, rI, rPr, prDec, Pr.row, rRoom, roomDec, Room.row, rSlot, slotDec, rPg, u1, u2, u3]
    refine loop_forE sp.length (fun k (_ : Unit) => ([(3, .v (.int .i64 s)), (4, .v (.int .i64 pg)), (6, .ptr 0 1 0 0), (7, .ptr 1 3 0 0), (8, .ptr 2 2 0 0), (11, .ptr 3 1 0 0), (13, .ptr 7 1 0 0), (14, .ptr 8 1 0 0), (15, .ptr 9 1 0 0), (16, .ptr 10 1 0 0), (72, .fsl false 1 (sp.map (spR false))), (73, .v (.int .i64 sp.length)), (74, .v (.int .i64 k))], [some (1, [[.fsl false 3 (l.map Pr.row)]]), some (3, [p.row]), some (2, [[.fsl false 1 (cs.map (irow .u8)), .fsl false 1 (sp.map (spR false))]]), some (1, [[.fsl false 17 (m.map Slot.row)]]), oT 3 (l.map Pr.row), oT 1 (cs.map (irow .u8)), oT 17 (m.map Slot.row), some (1, [[oA 4 3 l.length]]), some (1, [[oA 5 1 cs.length]]), some (1, [[oA 6 17 m.length]]), some (1, [[usA k]]), usO k sp])) (fun _ _ => True) () (fun k _ hk _ => by omega) trivial ?_ ?_ ?_
    · refine Ent.weak ?_
      by_cases hl0 : l = [] <;> by_cases hm0 : m = [] <;> by_cases hc0 : cs = [] <;> simp [usA, usO, oT, oA, hl0, hm0, hc0, Pr.row, Slot.row, Pg.row, irow, lowA, lowC]
    · rintro k _ hk _ hw
      have hu1 := hu _ (List.getElem_mem hk)
      have hu2 : sp[k].length ≤ 4294967296 := by omega
      have hut := usR_take hk
      have hul : (usR (sp.take k)).length = k := by simp [usR]; omega
      by_cases hk0 : k = 0
      · subst hk0
        simp [Try.ntmps6, Try.results6, cSl, cp0, cp1, cp2, cp3, cn0, cn1, cn2, cn3, cn4, cn5, cn6, cn7, cn8, cn9, cn10, cI, cD, cR, cF, cA, -view, -cold, -cellsOf, -tauO, rI, rPr, prDec, Pr.row, rRoom, roomDec, Room.row, rSlot, slotDec, rPg, hk, hw, hu2, usA, usO, view, cold, rI, spR, slR]
        simp only [Nat.zero_add] at hut
        refine ⟨(), trivial, Ent.weakT (th := [0, 1, 2, 3, 4, 5, 6, 7, 8, 9, 10, 13]) ?_⟩
        by_cases hl0 : l = [] <;> by_cases hm0 : m = [] <;> by_cases hc0 : cs = [] <;> simp [hut, oT, oA, usR_nil, usR_ren, usR_low, irow, hl0, hm0, hc0, Pr.row, Slot.row, Pg.row, lowA, lowC]
      · have hk1 : ¬ k + 1 ≤ k := by omega
        have hk2 : k + 1 ≤ 4294967296 := by omega
        simp [Try.ntmps6, Try.results6, cSl, cp0, cp1, cp2, cp3, cn0, cn1, cn2, cn3, cn4, cn5, cn6, cn7, cn8, cn9, cn10, cI, cD, cR, cF, cA, -view, -cold, -cellsOf, -tauO, rI, rPr, prDec, Pr.row, rRoom, roomDec, Room.row, rSlot, slotDec, rPg, hk, hw, hu2, usA, usO, hk0, hul, hk1, hk2, view, cold, rI, spR, slR]
        refine ⟨(), trivial, Ent.weakT (th := [0, 1, 2, 3, 4, 5, 6, 7, 8, 9, 10, 13]) ?_⟩
        by_cases hl0 : l = [] <;> by_cases hm0 : m = [] <;> by_cases hc0 : cs = [] <;> simp [hut, oT, oA, irow, hl0, hm0, hc0, Pr.row, Slot.row, Pg.row, lowA, lowC, usR_ren, usR_low]
    · rintro _ _
      obtain ⟨⟨o1, L1, e1⟩, hq1⟩ : ∃ q, pfX (rmPut l p) = q := ⟨_, rfl⟩
      obtain ⟨⟨o2, L2, x2, e2⟩, hq2⟩ : ∃ q, poX (rmOut l p.space p.page) = q := ⟨_, rfl⟩
      obtain ⟨⟨o3, L3, x3, e3⟩, hq3⟩ : ∃ q, mvX l p.frame pg = q := ⟨_, rfl⟩
      obtain ⟨o4, r4, e4, hq4, hz4⟩ := fkX_form (cowFork ⟨cs, sp⟩ s)
      obtain ⟨o5, r5, x5, e5, hq5, hz5⟩ := wrX_form (cowWrite ⟨cs, sp⟩ s pg 9)
      obtain ⟨o6, r6, x6, e6, hq6, hz6⟩ := dpX_form (cowDrop ⟨cs, sp⟩ s)
      obtain ⟨⟨o7, L7, x7, e7⟩, hq7⟩ : ∃ q, spX (swPut m ⟨0, 0, 0, 0, 0, 0, 0, 0, 0, 0, 0, 0, 0, 0, 0, 0⟩ 1) = q := ⟨_, rfl⟩
      obtain ⟨⟨o8, L8, x8, e8⟩, hq8⟩ : ∃ q, smX (swMore m pg 1) = q := ⟨_, rfl⟩
      simp [Try.ntmps6, Try.results6, cSl, cp0, cp1, cp2, cp3, cn0, cn1, cn2, cn3, cn4, cn5, cn6, cn7, cn8, cn9, cn10, cI, cD, cR, cF, cA, -view, -cold, -cellsOf, -tauO, rI, rPr, prDec, Pr.row, rRoom, roomDec, Room.row, rSlot, slotDec, rPg, pgDec, pfU, poU, mvU, flU, rvU, spU, smU, hq1, hq2, hq3, hq4, hq5, hq6, hq7, hq8, hnm, vwL, vwM, vwR, vwV, vwP, rHp_bare, rHp_tau, hs0]
      have hb1 : L1.length ≤ 4294967296 := by have := @rp_len l p; rw [hq1] at this; simp only at this; omega
      have hb2 : L2.length ≤ 4294967296 := by have := @ro_len l p.space p.page; rw [hq2] at this; simp only at this; omega
      have hb3 : L3.length ≤ 4294967296 := by have := @mv_len l p.frame pg; rw [hq3] at this; simp only at this; omega
      have hb7 : L7.length ≤ 4294967296 := by have := @wp_len m ⟨0, 0, 0, 0, 0, 0, 0, 0, 0, 0, 0, 0, 0, 0, 0, 0⟩ 1; rw [hq7] at this; simp only at this; omega
      have hb8 : L8.length ≤ 4294967296 := by have := @wm_len m pg 1; rw [hq8] at this; simp only at this; omega
      have hb4 : BR r4 := by have := @br_fork ⟨cs, sp⟩ s; rw [hq4] at this; exact this
      have hb5 : BR r5 := by have := @br_write ⟨cs, sp⟩ s pg 9; rw [hq5] at this; exact this
      have hb6 : BR r6 := by have := @br_drop ⟨cs, sp⟩ s; rw [hq6] at this; exact this
      clear hq1 hq2 hq3 hq4 hq5 hq6 hq7 hq8
      obtain ⟨P, hP⟩ : ∃ P, P = (rHp o4 15 r4).length + 15 := ⟨_, rfl⟩
      obtain ⟨Q, hQ⟩ : ∃ Q, Q = (rHp o4 15 r4).length + ((rHp o5 (P + 1) r5).length + 1) + 15 := ⟨_, rfl⟩
      obtain ⟨R, hR⟩ : ∃ R, R = (rHp o4 15 r4).length + ((rHp o5 (P + 1) r5).length + ((rHp o6 (Q + 1) r6).length + 1) + 1) + 15 := ⟨_, rfl⟩
      have hki := @ki_start l cs sp m (some (3, [[.v (.int .i64 p.frame), .v (.int .i64 p.space), .v (.int .i64 p.page)]])) o1 o2 o3 o4 o5 o6 o7 o8 L1 L2 L3 r4 r5 r6 L7 L8 P Q R hP hQ hR
      refine loop_forE 3 (fun k (G : Heap) => ([(19, .fn 63 [.ptr 0 1 0 0, .ptr 7 1 0 0, .ptr 2 2 0 0, .ptr 8 1 0 0, .ptr 3 1 0 0, .ptr 9 1 0 0, .ptr 10 1 0 0]), (28, .ptr P 2 0 0), (30, .ptr Q 2 0 0), (33, .ptr R 2 0 0), (36, (okL o7 (R + 1) 17 L7.length)), (39, (okL o8 (R + 2) 17 L8.length)), (42, .v (.bool true)), (150, .agg [(okL o1 12 3 L1.length), (okL o2 13 3 L2.length), (okL o3 14 3 L3.length)]), (151, .v (.int .i64 k))], G)) (fun k G => KI l cs sp m o1 o2 o3 o4 o5 o6 o7 o8 L1.length L2.length L3.length L7.length L8.length r4 r5 r6 P Q R G) _ (fun k _ hk _ => by omega) hki ?_ ?_ ?_
      · subst hR hQ hP
        refine Ent.env fun p hp => ?_
        simp only [List.mem_cons, List.not_mem_nil, or_false] at hp
        rcases hp with rfl | rfl | rfl | rfl | rfl | rfl | rfl | rfl | rfl <;> rfl
      · clear hki hP hQ hR
        rintro k G hk hp hw
        rcases (by omega : k = 0 ∨ k = 1 ∨ k = 2) with rfl | rfl | rfl
        · cases o1 with
          | false =>
            simp [Try.ntmps6, Try.results6, cSl, cp0, cp1, cp2, cp3, cn0, cn1, cn2, cn3, cn4, cn5, cn6, cn7, cn8, cn9, cn10, cI, cD, cR, cF, cA, -view, -cold, -cellsOf, -oneA, -allOneA, one_esl, one_osl, one_int, allOne_nil, allOne_cons, cells_rm, okLf]
            refine loop_forE 0 (fun j (_ : Unit) => ([(19, .fn 63 [.ptr 0 1 0 0, .ptr 7 1 0 0, .ptr 2 2 0 0, .ptr 8 1 0 0, .ptr 3 1 0 0, .ptr 9 1 0 0, .ptr 10 1 0 0]), (28, .ptr P 2 0 0), (30, .ptr Q 2 0 0), (33, .ptr R 2 0 0), (36, (okL o7 (R + 1) 17 L7.length)), (39, (okL o8 (R + 2) 17 L8.length)), (42, .v (.bool true)), (44, .esl), (150, .agg [(okL false 12 3 L1.length), (okL o2 13 3 L2.length), (okL o3 14 3 L3.length)]), (151, .v (.int .i64 0)), (155, .v (.int .i64 0)), (156, .v (.int .i64 j))], G)) (fun j _ => True) () (fun j _ hj _ => by omega) trivial ?_ (fun j _ hj => by omega) ?_
            · exact Ent.env (by simp [okLf])
            rintro _ _
            simp [Try.ntmps6, Try.results6, cSl, cp0, cp1, cp2, cp3, cn0, cn1, cn2, cn3, cn4, cn5, cn6, cn7, cn8, cn9, cn10, cI, cD, cR, cF, cA, -view, -cold, -cellsOf, -oneA, -allOneA, one_esl, one_osl, one_int, allOne_nil, allOne_cons, cells_rm, okLf]
            exact ⟨_, hp, Ent.env (by simp [okLf])⟩
          | true =>
            simp [Try.ntmps6, Try.results6, cSl, cp0, cp1, cp2, cp3, cn0, cn1, cn2, cn3, cn4, cn5, cn6, cn7, cn8, cn9, cn10, cI, cD, cR, cF, cA, -view, -cold, -cellsOf, -oneA, -allOneA, one_esl, one_osl, one_int, allOne_nil, allOne_cons, cells_rm, okLt]
            refine loop_forE L1.length (fun j (X : Heap) => ([(19, .fn 63 [.ptr 0 1 0 0, .ptr 7 1 0 0, .ptr 2 2 0 0, .ptr 8 1 0 0, .ptr 3 1 0 0, .ptr 9 1 0 0, .ptr 10 1 0 0]), (28, .ptr P 2 0 0), (30, .ptr Q 2 0 0), (33, .ptr R 2 0 0), (36, (okL o7 (R + 1) 17 L7.length)), (39, (okL o8 (R + 2) 17 L8.length)), (42, .v (.bool true)), (44, .osl 12 3 0 L1.length L1.length), (150, .agg [(okL true 12 3 L1.length), (okL o2 13 3 L2.length), (okL o3 14 3 L3.length)]), (151, .v (.int .i64 0)), (155, .v (.int .i64 L1.length)), (156, .v (.int .i64 j))], X)) (fun j X => KI l cs sp m true o2 o3 o4 o5 o6 o7 o8 L1.length L2.length L3.length L7.length L8.length r4 r5 r6 P Q R X) G (fun j _ hj _ => by omega) hp ?_ ?_ ?_
            · exact Ent.env (by simp [okLt])
            · rintro j X hj hp hw2
              obtain ⟨W, hW, hob⟩ := hp.l1 rfl
              have hg := obj_get hob
              have hi := ob_lt hob
              have hgi := (List.getElem?_eq_some_iff.1 hg).2
              have hjW : j < W.length := by omega
              simp [Try.ntmps6, Try.results6, cSl, cp0, cp1, cp2, cp3, cn0, cn1, cn2, cn3, cn4, cn5, cn6, cn7, cn8, cn9, cn10, cI, cD, cR, cF, cA, -view, -cold, -cellsOf, -oneA, -allOneA, one_esl, one_osl, one_int, allOne_nil, allOne_cons, cells_rm, okLt, hw2, hg, hW, hj, hjW, hi, hgi, Pr.row]
              refine ⟨X.set 12 (some (3, (W.set j ⟨IntKind.i64.wrap (W[j].frame + 1), W[j].space, W[j].page⟩).map Pr.row)), hp.s1 (by rw [List.length_set]; exact hW), ?_⟩
              rw [List.map_set]
              exact Ent.env (by simp [okLt])
            · rintro X hp
              simp [Try.ntmps6, Try.results6, cSl, cp0, cp1, cp2, cp3, cn0, cn1, cn2, cn3, cn4, cn5, cn6, cn7, cn8, cn9, cn10, cI, cD, cR, cF, cA, -view, -cold, -cellsOf, -oneA, -allOneA, one_esl, one_osl, one_int, allOne_nil, allOne_cons, cells_rm, okLt]
              exact ⟨_, hp, Ent.env (by simp [okLt])⟩
        · cases o2 with
          | false =>
            simp [Try.ntmps6, Try.results6, cSl, cp0, cp1, cp2, cp3, cn0, cn1, cn2, cn3, cn4, cn5, cn6, cn7, cn8, cn9, cn10, cI, cD, cR, cF, cA, -view, -cold, -cellsOf, -oneA, -allOneA, one_esl, one_osl, one_int, allOne_nil, allOne_cons, cells_rm, okLf]
            refine loop_forE 0 (fun j (_ : Unit) => ([(19, .fn 63 [.ptr 0 1 0 0, .ptr 7 1 0 0, .ptr 2 2 0 0, .ptr 8 1 0 0, .ptr 3 1 0 0, .ptr 9 1 0 0, .ptr 10 1 0 0]), (28, .ptr P 2 0 0), (30, .ptr Q 2 0 0), (33, .ptr R 2 0 0), (36, (okL o7 (R + 1) 17 L7.length)), (39, (okL o8 (R + 2) 17 L8.length)), (42, .v (.bool true)), (44, .esl), (150, .agg [(okL o1 12 3 L1.length), (okL false 13 3 L2.length), (okL o3 14 3 L3.length)]), (151, .v (.int .i64 1)), (155, .v (.int .i64 0)), (156, .v (.int .i64 j))], G)) (fun j _ => True) () (fun j _ hj _ => by omega) trivial ?_ (fun j _ hj => by omega) ?_
            · exact Ent.env (by simp [okLf])
            rintro _ _
            simp [Try.ntmps6, Try.results6, cSl, cp0, cp1, cp2, cp3, cn0, cn1, cn2, cn3, cn4, cn5, cn6, cn7, cn8, cn9, cn10, cI, cD, cR, cF, cA, -view, -cold, -cellsOf, -oneA, -allOneA, one_esl, one_osl, one_int, allOne_nil, allOne_cons, cells_rm, okLf]
            exact ⟨_, hp, Ent.env (by simp [okLf])⟩
          | true =>
            simp [Try.ntmps6, Try.results6, cSl, cp0, cp1, cp2, cp3, cn0, cn1, cn2, cn3, cn4, cn5, cn6, cn7, cn8, cn9, cn10, cI, cD, cR, cF, cA, -view, -cold, -cellsOf, -oneA, -allOneA, one_esl, one_osl, one_int, allOne_nil, allOne_cons, cells_rm, okLt]
            refine loop_forE L2.length (fun j (X : Heap) => ([(19, .fn 63 [.ptr 0 1 0 0, .ptr 7 1 0 0, .ptr 2 2 0 0, .ptr 8 1 0 0, .ptr 3 1 0 0, .ptr 9 1 0 0, .ptr 10 1 0 0]), (28, .ptr P 2 0 0), (30, .ptr Q 2 0 0), (33, .ptr R 2 0 0), (36, (okL o7 (R + 1) 17 L7.length)), (39, (okL o8 (R + 2) 17 L8.length)), (42, .v (.bool true)), (44, .osl 13 3 0 L2.length L2.length), (150, .agg [(okL o1 12 3 L1.length), (okL true 13 3 L2.length), (okL o3 14 3 L3.length)]), (151, .v (.int .i64 1)), (155, .v (.int .i64 L2.length)), (156, .v (.int .i64 j))], X)) (fun j X => KI l cs sp m o1 true o3 o4 o5 o6 o7 o8 L1.length L2.length L3.length L7.length L8.length r4 r5 r6 P Q R X) G (fun j _ hj _ => by omega) hp ?_ ?_ ?_
            · exact Ent.env (by simp [okLt])
            · rintro j X hj hp hw2
              obtain ⟨W, hW, hob⟩ := hp.l2 rfl
              have hg := obj_get hob
              have hi := ob_lt hob
              have hgi := (List.getElem?_eq_some_iff.1 hg).2
              have hjW : j < W.length := by omega
              simp [Try.ntmps6, Try.results6, cSl, cp0, cp1, cp2, cp3, cn0, cn1, cn2, cn3, cn4, cn5, cn6, cn7, cn8, cn9, cn10, cI, cD, cR, cF, cA, -view, -cold, -cellsOf, -oneA, -allOneA, one_esl, one_osl, one_int, allOne_nil, allOne_cons, cells_rm, okLt, hw2, hg, hW, hj, hjW, hi, hgi, Pr.row]
              refine ⟨X.set 13 (some (3, (W.set j ⟨IntKind.i64.wrap (W[j].frame + 1), W[j].space, W[j].page⟩).map Pr.row)), hp.s2 (by rw [List.length_set]; exact hW), ?_⟩
              rw [List.map_set]
              exact Ent.env (by simp [okLt])
            · rintro X hp
              simp [Try.ntmps6, Try.results6, cSl, cp0, cp1, cp2, cp3, cn0, cn1, cn2, cn3, cn4, cn5, cn6, cn7, cn8, cn9, cn10, cI, cD, cR, cF, cA, -view, -cold, -cellsOf, -oneA, -allOneA, one_esl, one_osl, one_int, allOne_nil, allOne_cons, cells_rm, okLt]
              exact ⟨_, hp, Ent.env (by simp [okLt])⟩
        · cases o3 with
          | false =>
            simp [Try.ntmps6, Try.results6, cSl, cp0, cp1, cp2, cp3, cn0, cn1, cn2, cn3, cn4, cn5, cn6, cn7, cn8, cn9, cn10, cI, cD, cR, cF, cA, -view, -cold, -cellsOf, -oneA, -allOneA, one_esl, one_osl, one_int, allOne_nil, allOne_cons, cells_rm, okLf]
            refine loop_forE 0 (fun j (_ : Unit) => ([(19, .fn 63 [.ptr 0 1 0 0, .ptr 7 1 0 0, .ptr 2 2 0 0, .ptr 8 1 0 0, .ptr 3 1 0 0, .ptr 9 1 0 0, .ptr 10 1 0 0]), (28, .ptr P 2 0 0), (30, .ptr Q 2 0 0), (33, .ptr R 2 0 0), (36, (okL o7 (R + 1) 17 L7.length)), (39, (okL o8 (R + 2) 17 L8.length)), (42, .v (.bool true)), (44, .esl), (150, .agg [(okL o1 12 3 L1.length), (okL o2 13 3 L2.length), (okL false 14 3 L3.length)]), (151, .v (.int .i64 2)), (155, .v (.int .i64 0)), (156, .v (.int .i64 j))], G)) (fun j _ => True) () (fun j _ hj _ => by omega) trivial ?_ (fun j _ hj => by omega) ?_
            · exact Ent.env (by simp [okLf])
            rintro _ _
            simp [Try.ntmps6, Try.results6, cSl, cp0, cp1, cp2, cp3, cn0, cn1, cn2, cn3, cn4, cn5, cn6, cn7, cn8, cn9, cn10, cI, cD, cR, cF, cA, -view, -cold, -cellsOf, -oneA, -allOneA, one_esl, one_osl, one_int, allOne_nil, allOne_cons, cells_rm, okLf]
            exact ⟨_, hp, Ent.env (by simp [okLf])⟩
          | true =>
            simp [Try.ntmps6, Try.results6, cSl, cp0, cp1, cp2, cp3, cn0, cn1, cn2, cn3, cn4, cn5, cn6, cn7, cn8, cn9, cn10, cI, cD, cR, cF, cA, -view, -cold, -cellsOf, -oneA, -allOneA, one_esl, one_osl, one_int, allOne_nil, allOne_cons, cells_rm, okLt]
            refine loop_forE L3.length (fun j (X : Heap) => ([(19, .fn 63 [.ptr 0 1 0 0, .ptr 7 1 0 0, .ptr 2 2 0 0, .ptr 8 1 0 0, .ptr 3 1 0 0, .ptr 9 1 0 0, .ptr 10 1 0 0]), (28, .ptr P 2 0 0), (30, .ptr Q 2 0 0), (33, .ptr R 2 0 0), (36, (okL o7 (R + 1) 17 L7.length)), (39, (okL o8 (R + 2) 17 L8.length)), (42, .v (.bool true)), (44, .osl 14 3 0 L3.length L3.length), (150, .agg [(okL o1 12 3 L1.length), (okL o2 13 3 L2.length), (okL true 14 3 L3.length)]), (151, .v (.int .i64 2)), (155, .v (.int .i64 L3.length)), (156, .v (.int .i64 j))], X)) (fun j X => KI l cs sp m o1 o2 true o4 o5 o6 o7 o8 L1.length L2.length L3.length L7.length L8.length r4 r5 r6 P Q R X) G (fun j _ hj _ => by omega) hp ?_ ?_ ?_
            · exact Ent.env (by simp [okLt])
            · rintro j X hj hp hw2
              obtain ⟨W, hW, hob⟩ := hp.l3 rfl
              have hg := obj_get hob
              have hi := ob_lt hob
              have hgi := (List.getElem?_eq_some_iff.1 hg).2
              have hjW : j < W.length := by omega
              simp [Try.ntmps6, Try.results6, cSl, cp0, cp1, cp2, cp3, cn0, cn1, cn2, cn3, cn4, cn5, cn6, cn7, cn8, cn9, cn10, cI, cD, cR, cF, cA, -view, -cold, -cellsOf, -oneA, -allOneA, one_esl, one_osl, one_int, allOne_nil, allOne_cons, cells_rm, okLt, hw2, hg, hW, hj, hjW, hi, hgi, Pr.row]
              refine ⟨X.set 14 (some (3, (W.set j ⟨IntKind.i64.wrap (W[j].frame + 1), W[j].space, W[j].page⟩).map Pr.row)), hp.s3 (by rw [List.length_set]; exact hW), ?_⟩
              rw [List.map_set]
              exact Ent.env (by simp [okLt])
            · rintro X hp
              simp [Try.ntmps6, Try.results6, cSl, cp0, cp1, cp2, cp3, cn0, cn1, cn2, cn3, cn4, cn5, cn6, cn7, cn8, cn9, cn10, cI, cD, cR, cF, cA, -view, -cold, -cellsOf, -oneA, -allOneA, one_esl, one_osl, one_int, allOne_nil, allOne_cons, cells_rm, okLt]
              exact ⟨_, hp, Ent.env (by simp [okLt])⟩
      · clear hki hP hQ hR
        rintro G hp
        have e4 := obj_get hp.b4
        have e5 := obj_get hp.b5
        have e6 := obj_get hp.b6
        have gl := hp.n
        have gp := hp.p.1
        have gq := hp.q.1
        have gr := hp.r.1
        have g4 := (List.getElem?_eq_some_iff.1 e4).2
        have g5 := (List.getElem?_eq_some_iff.1 e5).2
        have g6 := (List.getElem?_eq_some_iff.1 e6).2
        have l4 : P < G.length := by omega
        have l5 : Q < G.length := by omega
        have l6 : R < G.length := by omega
        clear gl gp gq gr
        simp [Try.ntmps6, Try.results6, cSl, cp0, cp1, cp2, cp3, cn0, cn1, cn2, cn3, cn4, cn5, cn6, cn7, cn8, cn9, cn10, cI, cD, cR, cF, cA, -view, -cold, -cellsOf, -oneA, -allOneA, one_esl, one_osl, one_int, allOne_nil, allOne_cons, cells_rm, e4, e5, e6, g4, g5, g6, l4, l5, l6]
        refine loop_forE 3 (fun k (G : Heap) => ([(19, .fn 63 [.ptr 0 1 0 0, .ptr 7 1 0 0, .ptr 2 2 0 0, .ptr 8 1 0 0, .ptr 3 1 0 0, .ptr 9 1 0 0, .ptr 10 1 0 0]), (36, (okL o7 (R + 1) 17 L7.length)), (39, (okL o8 (R + 2) 17 L8.length)), (42, .v (.bool true)), (172, .agg [oA 15 1 r4.cells.length, okL o4 (15 + 1) 1 r4.spaces.length, oA (P + 1) 1 r5.cells.length, okL o5 ((P + 1) + 1) 1 r5.spaces.length, oA (Q + 1) 1 r6.cells.length, okL o6 ((Q + 1) + 1) 1 r6.spaces.length]), (173, .v (.int .i64 k))], G)) (fun k G => KI l cs sp m o1 o2 o3 o4 o5 o6 o7 o8 L1.length L2.length L3.length L7.length L8.length r4 r5 r6 P Q R G) G (fun k _ hk _ => by omega) hp ?_ ?_ ?_
        · exact Ent.env (by simp)
        · clear e4 e5 e6 g4 g5 g6 l4 l5 l6 hp
          clear G
          rintro k G hk hp hw
          rcases (by omega : k = 0 ∨ k = 1 ∨ k = 2) with rfl | rfl | rfl
          · cases o4 with
            | false =>
              have hrz := hz4 rfl
              subst hrz
              simp [Try.ntmps6, Try.results6, cSl, cp0, cp1, cp2, cp3, cn0, cn1, cn2, cn3, cn4, cn5, cn6, cn7, cn8, cn9, cn10, cI, cD, cR, cF, cA, -view, -cold, -cellsOf, -oneA, -allOneA, one_esl, one_osl, one_int, allOne_nil, allOne_cons, cells_rm, okLf, oA0]
              refine loop_forE 0 (fun j (_ : Unit) => ([(19, .fn 63 [.ptr 0 1 0 0, .ptr 7 1 0 0, .ptr 2 2 0 0, .ptr 8 1 0 0, .ptr 3 1 0 0, .ptr 9 1 0 0, .ptr 10 1 0 0]), (36, (okL o7 (R + 1) 17 L7.length)), (39, (okL o8 (R + 2) 17 L8.length)), (42, .v (.bool true)), (47, .ptr G.length 2 0 0), (172, .agg [.esl, .esl, oA (P + 1) 1 r5.cells.length, okL o5 ((P + 1) + 1) 1 r5.spaces.length, oA (Q + 1) 1 r6.cells.length, okL o6 ((Q + 1) + 1) 1 r6.spaces.length]), (173, .v (.int .i64 0)), (178, .v (.int .i64 0)), (179, .v (.int .i64 j))], G ++ [some (2, [[.esl, .esl]])])) (fun j _ => True) () (fun j _ hj _ => by omega) trivial ?_ (fun j _ hj => by omega) ?_
              · exact Ent.env (by simp [okLf, oA0])
              rintro _ _
              simp [Try.ntmps6, Try.results6, cSl, cp0, cp1, cp2, cp3, cn0, cn1, cn2, cn3, cn4, cn5, cn6, cn7, cn8, cn9, cn10, cI, cD, cR, cF, cA, -view, -cold, -cellsOf, -oneA, -allOneA, one_esl, one_osl, one_int, allOne_nil, allOne_cons, cells_rm, okLf, oA0]
              refine loop_forE 0 (fun j (_ : Unit) => ([(19, .fn 63 [.ptr 0 1 0 0, .ptr 7 1 0 0, .ptr 2 2 0 0, .ptr 8 1 0 0, .ptr 3 1 0 0, .ptr 9 1 0 0, .ptr 10 1 0 0]), (36, (okL o7 (R + 1) 17 L7.length)), (39, (okL o8 (R + 2) 17 L8.length)), (42, .v (.bool true)), (47, .ptr G.length 2 0 0), (172, .agg [.esl, .esl, oA (P + 1) 1 r5.cells.length, okL o5 ((P + 1) + 1) 1 r5.spaces.length, oA (Q + 1) 1 r6.cells.length, okL o6 ((Q + 1) + 1) 1 r6.spaces.length]), (173, .v (.int .i64 0)), (192, .v (.int .i64 0)), (193, .v (.int .i64 j))], G ++ [some (2, [[.esl, .esl]])])) (fun j _ => True) () (fun j _ hj _ => by omega) trivial ?_ (fun j _ hj => by omega) ?_
              · exact Ent.env (by simp [okLf, oA0])
              rintro _ _
              simp [Try.ntmps6, Try.results6, cSl, cp0, cp1, cp2, cp3, cn0, cn1, cn2, cn3, cn4, cn5, cn6, cn7, cn8, cn9, cn10, cI, cD, cR, cF, cA, -view, -cold, -cellsOf, -oneA, -allOneA, one_esl, one_osl, one_int, allOne_nil, allOne_cons, cells_rm, okLf, oA0]
              exact ⟨_, hp.app _, Ent.env (by simp [okLf, oA0])⟩
            | true =>
              have hbc := hb4.1
              have hbs := hb4.2.1
              have hbu : ∀ (j : Nat) (hj : j < r4.spaces.length), r4.spaces[j].length ≤ 100 := fun j hj => hb4.2.2 _ (List.getElem_mem hj)
              by_cases hcz : r4.cells.length = 0
              · have oAz : oA 15 1 r4.cells.length = .esl := by rw [hcz]; rfl
                simp [Try.ntmps6, Try.results6, cSl, cp0, cp1, cp2, cp3, cn0, cn1, cn2, cn3, cn4, cn5, cn6, cn7, cn8, cn9, cn10, cI, cD, cR, cF, cA, -view, -cold, -cellsOf, -oneA, -allOneA, one_esl, one_osl, one_int, allOne_nil, allOne_cons, cells_rm, okLt, oAz]
                refine loop_forE 0 (fun j (_ : Unit) => ([(19, .fn 63 [.ptr 0 1 0 0, .ptr 7 1 0 0, .ptr 2 2 0 0, .ptr 8 1 0 0, .ptr 3 1 0 0, .ptr 9 1 0 0, .ptr 10 1 0 0]), (36, (okL o7 (R + 1) 17 L7.length)), (39, (okL o8 (R + 2) 17 L8.length)), (42, .v (.bool true)), (47, .ptr G.length 2 0 0), (172, .agg [oA 15 1 r4.cells.length, okL true (15 + 1) 1 r4.spaces.length, oA (P + 1) 1 r5.cells.length, okL o5 ((P + 1) + 1) 1 r5.spaces.length, oA (Q + 1) 1 r6.cells.length, okL o6 ((Q + 1) + 1) 1 r6.spaces.length]), (173, .v (.int .i64 0)), (178, .v (.int .i64 0)), (179, .v (.int .i64 j))], G ++ [some (2, [[.esl, .osl (15 + 1) 1 0 r4.spaces.length r4.spaces.length]])])) (fun j _ => True) () (fun j _ hj _ => by omega) trivial ?_ (fun j _ hj => by omega) ?_
                · exact Ent.env (by simp [okLt, oAz])
                rintro _ _
                simp [Try.ntmps6, Try.results6, cSl, cp0, cp1, cp2, cp3, cn0, cn1, cn2, cn3, cn4, cn5, cn6, cn7, cn8, cn9, cn10, cI, cD, cR, cF, cA, -view, -cold, -cellsOf, -oneA, -allOneA, one_esl, one_osl, one_int, allOne_nil, allOne_cons, cells_rm, okLt, oAz]
                refine loop_forE r4.spaces.length (fun j (X : Heap) => ([(19, .fn 63 [.ptr 0 1 0 0, .ptr 7 1 0 0, .ptr 2 2 0 0, .ptr 8 1 0 0, .ptr 3 1 0 0, .ptr 9 1 0 0, .ptr 10 1 0 0]), (36, (okL o7 (R + 1) 17 L7.length)), (39, (okL o8 (R + 2) 17 L8.length)), (42, .v (.bool true)), (47, .ptr G.length 2 0 0), (172, .agg [oA 15 1 r4.cells.length, okL true (15 + 1) 1 r4.spaces.length, oA (P + 1) 1 r5.cells.length, okL o5 ((P + 1) + 1) 1 r5.spaces.length, oA (Q + 1) 1 r6.cells.length, okL o6 ((Q + 1) + 1) 1 r6.spaces.length]), (173, .v (.int .i64 0)), (192, .v (.int .i64 r4.spaces.length)), (193, .v (.int .i64 j))], X ++ [some (2, [[.esl, .osl (15 + 1) 1 0 r4.spaces.length r4.spaces.length]])])) (fun j X => KI l cs sp m o1 o2 o3 true o5 o6 o7 o8 L1.length L2.length L3.length L7.length L8.length r4 r5 r6 P Q R X ∧ X.length = G.length) G (fun j _ hj _ => by omega) ⟨hp, rfl⟩ ?_ ?_ ?_
                · exact Ent.env (by simp [okLt, oAz])
                · skip
                  rintro j X hj ⟨hp, hXl⟩ hw2
                  obtain ⟨hcc, hob, hin⟩ := hp.l4 rfl
                  have hg := obj_get hob
                  have hi := ob_lt hob
                  have hgi := (List.getElem?_eq_some_iff.1 hg).2
                  have hrl : (ownR 1 (15 + 2) r4.spaces).length = r4.spaces.length := ownR_len
                  have hgr := ownR_get (sz := 1) (c := 15 + 2) hj
                  have hg2 : (ownR 1 (15 + 2) r4.spaces)[j]'(by rw [hrl]; exact hj) = [oA (j + (15 + 2)) 1 r4.spaces[j].length] := by
                    rw [List.getElem?_eq_getElem (by rw [hrl]; exact hj)] at hgr
                    simpa using hgr
                  have eX : ∀ o : Option (Nat × List Row), (X ++ [o])[G.length]? = some o := fun o => by rw [← hXl]; simp
                  have eW : ∀ o : Option (Nat × List Row), (X ++ [o])[15 + 1]? = some (some (1, ownR 1 (15 + 2) r4.spaces)) := fun o => by rw [List.getElem?_append_left hi]; exact hg
                  have hu6 := hbu j hj
                  by_cases hsz : r4.spaces[j].length = 0
                  · have oAs : oA (j + (15 + 2)) 1 r4.spaces[j].length = .esl := by rw [hsz]; rfl
                    simp only [Nat.reduceAdd] at hg2 hrl eW oAs
                    simp [Try.ntmps6, Try.results6, cSl, cp0, cp1, cp2, cp3, cn0, cn1, cn2, cn3, cn4, cn5, cn6, cn7, cn8, cn9, cn10, cI, cD, cR, cF, cA, -view, -cold, -cellsOf, -oneA, -allOneA, one_esl, one_osl, one_int, allOne_nil, allOne_cons, cells_rm, okLt, oAz, oAs, hw2, eX, eW, hj, hXl, hrl, hg2, hi, hgi]
                    refine loop_forE 0 (fun i (_ : Unit) => ([(19, .fn 63 [.ptr 0 1 0 0, .ptr 7 1 0 0, .ptr 2 2 0 0, .ptr 8 1 0 0, .ptr 3 1 0 0, .ptr 9 1 0 0, .ptr 10 1 0 0]), (36, (okL o7 (R + 1) 17 L7.length)), (39, (okL o8 (R + 2) 17 L8.length)), (42, .v (.bool true)), (47, .ptr G.length 2 0 0), (172, .agg [oA 15 1 r4.cells.length, okL true (15 + 1) 1 r4.spaces.length, oA (P + 1) 1 r5.cells.length, okL o5 ((P + 1) + 1) 1 r5.spaces.length, oA (Q + 1) 1 r6.cells.length, okL o6 ((Q + 1) + 1) 1 r6.spaces.length]), (173, .v (.int .i64 0)), (49, .v (.int .i64 j)), (192, .v (.int .i64 r4.spaces.length)), (193, .v (.int .i64 j)), (201, .v (.int .i64 0)), (202, .v (.int .i64 i))], X ++ [some (2, [[.esl, .osl (15 + 1) 1 0 r4.spaces.length r4.spaces.length]])])) (fun j _ => True) () (fun j _ hj _ => by omega) trivial ?_ (fun j _ hj => by omega) ?_
                    · exact Ent.env (by simp [okLt, oAz])
                    rintro _ _
                    simp [Try.ntmps6, Try.results6, cSl, cp0, cp1, cp2, cp3, cn0, cn1, cn2, cn3, cn4, cn5, cn6, cn7, cn8, cn9, cn10, cI, cD, cR, cF, cA, -view, -cold, -cellsOf, -oneA, -allOneA, one_esl, one_osl, one_int, allOne_nil, allOne_cons, cells_rm, okLt, oAz, hw2]
                    exact ⟨X, ⟨hp, hXl⟩, Ent.env (by simp [okLt, oAz])⟩
                  · have hsn : r4.spaces[j] ≠ [] := fun e => hsz (by rw [e]; rfl)
                    have oAs : oA (j + (15 + 2)) 1 r4.spaces[j].length = .osl (j + (15 + 2)) 1 0 r4.spaces[j].length r4.spaces[j].length := oA_pos hsz
                    simp only [Nat.reduceAdd] at hg2 hrl eW oAs
                    simp [Try.ntmps6, Try.results6, cSl, cp0, cp1, cp2, cp3, cn0, cn1, cn2, cn3, cn4, cn5, cn6, cn7, cn8, cn9, cn10, cI, cD, cR, cF, cA, -view, -cold, -cellsOf, -oneA, -allOneA, one_esl, one_osl, one_int, allOne_nil, allOne_cons, cells_rm, okLt, oAz, oAs, hw2, eX, eW, hj, hXl, hrl, hg2, hi, hgi]
                    refine loop_forE r4.spaces[j].length (fun i (X : Heap) => ([(19, .fn 63 [.ptr 0 1 0 0, .ptr 7 1 0 0, .ptr 2 2 0 0, .ptr 8 1 0 0, .ptr 3 1 0 0, .ptr 9 1 0 0, .ptr 10 1 0 0]), (36, (okL o7 (R + 1) 17 L7.length)), (39, (okL o8 (R + 2) 17 L8.length)), (42, .v (.bool true)), (47, .ptr G.length 2 0 0), (172, .agg [oA 15 1 r4.cells.length, okL true (15 + 1) 1 r4.spaces.length, oA (P + 1) 1 r5.cells.length, okL o5 ((P + 1) + 1) 1 r5.spaces.length, oA (Q + 1) 1 r6.cells.length, okL o6 ((Q + 1) + 1) 1 r6.spaces.length]), (173, .v (.int .i64 0)), (49, .v (.int .i64 j)), (192, .v (.int .i64 r4.spaces.length)), (193, .v (.int .i64 j)), (201, .v (.int .i64 r4.spaces[j].length)), (202, .v (.int .i64 i))], X ++ [some (2, [[.esl, .osl (15 + 1) 1 0 r4.spaces.length r4.spaces.length]])])) (fun i X => KI l cs sp m o1 o2 o3 true o5 o6 o7 o8 L1.length L2.length L3.length L7.length L8.length r4 r5 r6 P Q R X ∧ X.length = G.length) X (fun i _ hi _ => by omega) ⟨hp, hXl⟩ ?_ ?_ ?_
                    · exact Ent.env (by simp [okLt, oAz])
                    · clear eX eW hcc hob hin hg hi hgi hp hXl
                      clear X
                      rintro i X hi2 ⟨hp, hXl⟩ hw3
                      obtain ⟨hcc, hob, hin⟩ := hp.l4 rfl
                      obtain ⟨u, hul, hobu⟩ := hin j hj hsn
                      have hg := obj_get hob
                      have hi := ob_lt hob
                      have hgi := (List.getElem?_eq_some_iff.1 hg).2
                      have hgu := obj_get hobu
                      have hiu := ob_lt hobu
                      have hgiu := (List.getElem?_eq_some_iff.1 hgu).2
                      have eX : ∀ o : Option (Nat × List Row), (X ++ [o])[G.length]? = some o := fun o => by rw [← hXl]; simp
                      have eW : ∀ o : Option (Nat × List Row), (X ++ [o])[15 + 1]? = some (some (1, ownR 1 (15 + 2) r4.spaces)) := fun o => by rw [List.getElem?_append_left hi]; exact hg
                      have eU : ∀ o : Option (Nat × List Row), (X ++ [o])[j + (15 + 2)]? = some (some (1, u.map (irow .i64))) := fun o => by rw [List.getElem?_append_left hiu]; exact hgu
                      have hiul : i < u.length := by omega
                      simp only [Nat.reduceAdd] at eW eU hiu hgiu hgu hgi
                      simp [Try.ntmps6, Try.results6, cSl, cp0, cp1, cp2, cp3, cn0, cn1, cn2, cn3, cn4, cn5, cn6, cn7, cn8, cn9, cn10, cI, cD, cR, cF, cA, -view, -cold, -cellsOf, -oneA, -allOneA, one_esl, one_osl, one_int, allOne_nil, allOne_cons, cells_rm, okLt, oAz, oAs, hw3, eX, eW, eU, hj, hi2, hiul, hXl, hrl, hg2, hul, irow, hi, hgi, hiu, hgiu]
                      refine ⟨X.set (j + (15 + 2)) (some (1, (u.set i (IntKind.i64.wrap (u[i] + 1))).map (irow .i64))), ⟨hp.d4 hj (by rw [List.length_set]; exact hul), by rw [List.length_set]; exact hXl⟩, ?_⟩
                      dsimp only
                      rw [List.map_set, ← List.set_append_left _ _ hiu]
                      exact Ent.env (by simp [okLt, oAz, irow])
                    · rintro X ⟨hp, hXl⟩
                      simp [Try.ntmps6, Try.results6, cSl, cp0, cp1, cp2, cp3, cn0, cn1, cn2, cn3, cn4, cn5, cn6, cn7, cn8, cn9, cn10, cI, cD, cR, cF, cA, -view, -cold, -cellsOf, -oneA, -allOneA, one_esl, one_osl, one_int, allOne_nil, allOne_cons, cells_rm, okLt, oAz, hw2]
                      exact ⟨X, ⟨hp, hXl⟩, Ent.env (by simp [okLt, oAz])⟩
                · rintro X ⟨hp, hXl⟩
                  simp [Try.ntmps6, Try.results6, cSl, cp0, cp1, cp2, cp3, cn0, cn1, cn2, cn3, cn4, cn5, cn6, cn7, cn8, cn9, cn10, cI, cD, cR, cF, cA, -view, -cold, -cellsOf, -oneA, -allOneA, one_esl, one_osl, one_int, allOne_nil, allOne_cons, cells_rm, okLt, oAz]
                  exact ⟨_, hp.app _, Ent.env (by simp [okLt, oAz])⟩
              · have hcn : r4.cells ≠ [] := fun e => hcz (by rw [e]; rfl)
                have oAz : oA 15 1 r4.cells.length = .osl 15 1 0 r4.cells.length r4.cells.length := oA_pos hcz
                simp [Try.ntmps6, Try.results6, cSl, cp0, cp1, cp2, cp3, cn0, cn1, cn2, cn3, cn4, cn5, cn6, cn7, cn8, cn9, cn10, cI, cD, cR, cF, cA, -view, -cold, -cellsOf, -oneA, -allOneA, one_esl, one_osl, one_int, allOne_nil, allOne_cons, cells_rm, okLt, oAz]
                refine loop_forE r4.cells.length (fun j (X : Heap) => ([(19, .fn 63 [.ptr 0 1 0 0, .ptr 7 1 0 0, .ptr 2 2 0 0, .ptr 8 1 0 0, .ptr 3 1 0 0, .ptr 9 1 0 0, .ptr 10 1 0 0]), (36, (okL o7 (R + 1) 17 L7.length)), (39, (okL o8 (R + 2) 17 L8.length)), (42, .v (.bool true)), (47, .ptr G.length 2 0 0), (172, .agg [oA 15 1 r4.cells.length, okL true (15 + 1) 1 r4.spaces.length, oA (P + 1) 1 r5.cells.length, okL o5 ((P + 1) + 1) 1 r5.spaces.length, oA (Q + 1) 1 r6.cells.length, okL o6 ((Q + 1) + 1) 1 r6.spaces.length]), (173, .v (.int .i64 0)), (178, .v (.int .i64 r4.cells.length)), (179, .v (.int .i64 j))], X ++ [some (2, [[.osl 15 1 0 r4.cells.length r4.cells.length, .osl (15 + 1) 1 0 r4.spaces.length r4.spaces.length]])])) (fun j X => KI l cs sp m o1 o2 o3 true o5 o6 o7 o8 L1.length L2.length L3.length L7.length L8.length r4 r5 r6 P Q R X ∧ X.length = G.length) G (fun j _ hj _ => by omega) ⟨hp, rfl⟩ ?_ ?_ ?_
                · exact Ent.env (by simp [okLt, oAz])
                · rintro j X hj ⟨hp, hXl⟩ hw2
                  obtain ⟨hin, _, _⟩ := hp.l4 rfl
                  obtain ⟨u, hul, hobu⟩ := hin hcn
                  have hgu := obj_get hobu
                  have hiu := ob_lt hobu
                  have hgiu := (List.getElem?_eq_some_iff.1 hgu).2
                  have eX : ∀ o : Option (Nat × List Row), (X ++ [o])[G.length]? = some o := fun o => by rw [← hXl]; simp
                  have eU : ∀ o : Option (Nat × List Row), (X ++ [o])[15]? = some (some (1, u.map (irow .u8))) := fun o => by rw [List.getElem?_append_left hiu]; exact hgu
                  have hjul : j < u.length := by omega
                  simp [Try.ntmps6, Try.results6, cSl, cp0, cp1, cp2, cp3, cn0, cn1, cn2, cn3, cn4, cn5, cn6, cn7, cn8, cn9, cn10, cI, cD, cR, cF, cA, -view, -cold, -cellsOf, -oneA, -allOneA, one_esl, one_osl, one_int, allOne_nil, allOne_cons, cells_rm, okLt, oAz, hw2, eX, eU, hj, hjul, hXl, hul, irow, hiu, hgiu]
                  refine ⟨X.set 15 (some (1, (u.set j (IntKind.u8.wrap (u[j] + 1))).map (irow .u8))), ⟨hp.c4 (by rw [List.length_set]; exact hul), by rw [List.length_set]; exact hXl⟩, ?_⟩
                  dsimp only
                  rw [List.map_set, ← List.set_append_left _ _ hiu]
                  exact Ent.env (by simp [okLt, oAz, irow])
                · rintro X ⟨hp, hXl⟩
                  have eX : ∀ o : Option (Nat × List Row), (X ++ [o])[G.length]? = some o := fun o => by rw [← hXl]; simp
                  simp [Try.ntmps6, Try.results6, cSl, cp0, cp1, cp2, cp3, cn0, cn1, cn2, cn3, cn4, cn5, cn6, cn7, cn8, cn9, cn10, cI, cD, cR, cF, cA, -view, -cold, -cellsOf, -oneA, -allOneA, one_esl, one_osl, one_int, allOne_nil, allOne_cons, cells_rm, okLt, oAz, eX, hXl]
                  clear eX
                  refine loop_forE r4.spaces.length (fun j (X : Heap) => ([(19, .fn 63 [.ptr 0 1 0 0, .ptr 7 1 0 0, .ptr 2 2 0 0, .ptr 8 1 0 0, .ptr 3 1 0 0, .ptr 9 1 0 0, .ptr 10 1 0 0]), (36, (okL o7 (R + 1) 17 L7.length)), (39, (okL o8 (R + 2) 17 L8.length)), (42, .v (.bool true)), (47, .ptr G.length 2 0 0), (172, .agg [oA 15 1 r4.cells.length, okL true (15 + 1) 1 r4.spaces.length, oA (P + 1) 1 r5.cells.length, okL o5 ((P + 1) + 1) 1 r5.spaces.length, oA (Q + 1) 1 r6.cells.length, okL o6 ((Q + 1) + 1) 1 r6.spaces.length]), (173, .v (.int .i64 0)), (192, .v (.int .i64 r4.spaces.length)), (193, .v (.int .i64 j))], X ++ [some (2, [[.osl 15 1 0 r4.cells.length r4.cells.length, .osl (15 + 1) 1 0 r4.spaces.length r4.spaces.length]])])) (fun j X => KI l cs sp m o1 o2 o3 true o5 o6 o7 o8 L1.length L2.length L3.length L7.length L8.length r4 r5 r6 P Q R X ∧ X.length = G.length) X (fun j _ hj _ => by omega) ⟨hp, hXl⟩ ?_ ?_ ?_
                  · exact Ent.env (by simp [okLt, oAz])
                  · clear hp hXl X
                    rintro j X hj ⟨hp, hXl⟩ hw2
                    obtain ⟨hcc, hob, hin⟩ := hp.l4 rfl
                    have hg := obj_get hob
                    have hi := ob_lt hob
                    have hgi := (List.getElem?_eq_some_iff.1 hg).2
                    have hrl : (ownR 1 (15 + 2) r4.spaces).length = r4.spaces.length := ownR_len
                    have hgr := ownR_get (sz := 1) (c := 15 + 2) hj
                    have hg2 : (ownR 1 (15 + 2) r4.spaces)[j]'(by rw [hrl]; exact hj) = [oA (j + (15 + 2)) 1 r4.spaces[j].length] := by
                      rw [List.getElem?_eq_getElem (by rw [hrl]; exact hj)] at hgr
                      simpa using hgr
                    have eX : ∀ o : Option (Nat × List Row), (X ++ [o])[G.length]? = some o := fun o => by rw [← hXl]; simp
                    have eW : ∀ o : Option (Nat × List Row), (X ++ [o])[15 + 1]? = some (some (1, ownR 1 (15 + 2) r4.spaces)) := fun o => by rw [List.getElem?_append_left hi]; exact hg
                    have hu6 := hbu j hj
                    by_cases hsz : r4.spaces[j].length = 0
                    · have oAs : oA (j + (15 + 2)) 1 r4.spaces[j].length = .esl := by rw [hsz]; rfl
                      simp only [Nat.reduceAdd] at hg2 hrl eW oAs
                      simp [Try.ntmps6, Try.results6, cSl, cp0, cp1, cp2, cp3, cn0, cn1, cn2, cn3, cn4, cn5, cn6, cn7, cn8, cn9, cn10, cI, cD, cR, cF, cA, -view, -cold, -cellsOf, -oneA, -allOneA, one_esl, one_osl, one_int, allOne_nil, allOne_cons, cells_rm, okLt, oAz, oAs, hw2, eX, eW, hj, hXl, hrl, hg2, hi, hgi]
                      refine loop_forE 0 (fun i (_ : Unit) => ([(19, .fn 63 [.ptr 0 1 0 0, .ptr 7 1 0 0, .ptr 2 2 0 0, .ptr 8 1 0 0, .ptr 3 1 0 0, .ptr 9 1 0 0, .ptr 10 1 0 0]), (36, (okL o7 (R + 1) 17 L7.length)), (39, (okL o8 (R + 2) 17 L8.length)), (42, .v (.bool true)), (47, .ptr G.length 2 0 0), (172, .agg [oA 15 1 r4.cells.length, okL true (15 + 1) 1 r4.spaces.length, oA (P + 1) 1 r5.cells.length, okL o5 ((P + 1) + 1) 1 r5.spaces.length, oA (Q + 1) 1 r6.cells.length, okL o6 ((Q + 1) + 1) 1 r6.spaces.length]), (173, .v (.int .i64 0)), (49, .v (.int .i64 j)), (192, .v (.int .i64 r4.spaces.length)), (193, .v (.int .i64 j)), (201, .v (.int .i64 0)), (202, .v (.int .i64 i))], X ++ [some (2, [[.osl 15 1 0 r4.cells.length r4.cells.length, .osl (15 + 1) 1 0 r4.spaces.length r4.spaces.length]])])) (fun j _ => True) () (fun j _ hj _ => by omega) trivial ?_ (fun j _ hj => by omega) ?_
                      · exact Ent.env (by simp [okLt, oAz])
                      rintro _ _
                      simp [Try.ntmps6, Try.results6, cSl, cp0, cp1, cp2, cp3, cn0, cn1, cn2, cn3, cn4, cn5, cn6, cn7, cn8, cn9, cn10, cI, cD, cR, cF, cA, -view, -cold, -cellsOf, -oneA, -allOneA, one_esl, one_osl, one_int, allOne_nil, allOne_cons, cells_rm, okLt, oAz, hw2]
                      exact ⟨X, ⟨hp, hXl⟩, Ent.env (by simp [okLt, oAz])⟩
                    · have hsn : r4.spaces[j] ≠ [] := fun e => hsz (by rw [e]; rfl)
                      have oAs : oA (j + (15 + 2)) 1 r4.spaces[j].length = .osl (j + (15 + 2)) 1 0 r4.spaces[j].length r4.spaces[j].length := oA_pos hsz
                      simp only [Nat.reduceAdd] at hg2 hrl eW oAs
                      simp [Try.ntmps6, Try.results6, cSl, cp0, cp1, cp2, cp3, cn0, cn1, cn2, cn3, cn4, cn5, cn6, cn7, cn8, cn9, cn10, cI, cD, cR, cF, cA, -view, -cold, -cellsOf, -oneA, -allOneA, one_esl, one_osl, one_int, allOne_nil, allOne_cons, cells_rm, okLt, oAz, oAs, hw2, eX, eW, hj, hXl, hrl, hg2, hi, hgi]
                      refine loop_forE r4.spaces[j].length (fun i (X : Heap) => ([(19, .fn 63 [.ptr 0 1 0 0, .ptr 7 1 0 0, .ptr 2 2 0 0, .ptr 8 1 0 0, .ptr 3 1 0 0, .ptr 9 1 0 0, .ptr 10 1 0 0]), (36, (okL o7 (R + 1) 17 L7.length)), (39, (okL o8 (R + 2) 17 L8.length)), (42, .v (.bool true)), (47, .ptr G.length 2 0 0), (172, .agg [oA 15 1 r4.cells.length, okL true (15 + 1) 1 r4.spaces.length, oA (P + 1) 1 r5.cells.length, okL o5 ((P + 1) + 1) 1 r5.spaces.length, oA (Q + 1) 1 r6.cells.length, okL o6 ((Q + 1) + 1) 1 r6.spaces.length]), (173, .v (.int .i64 0)), (49, .v (.int .i64 j)), (192, .v (.int .i64 r4.spaces.length)), (193, .v (.int .i64 j)), (201, .v (.int .i64 r4.spaces[j].length)), (202, .v (.int .i64 i))], X ++ [some (2, [[.osl 15 1 0 r4.cells.length r4.cells.length, .osl (15 + 1) 1 0 r4.spaces.length r4.spaces.length]])])) (fun i X => KI l cs sp m o1 o2 o3 true o5 o6 o7 o8 L1.length L2.length L3.length L7.length L8.length r4 r5 r6 P Q R X ∧ X.length = G.length) X (fun i _ hi _ => by omega) ⟨hp, hXl⟩ ?_ ?_ ?_
                      · exact Ent.env (by simp [okLt, oAz])
                      · clear eX eW hcc hob hin hg hi hgi hp hXl
                        clear X
                        rintro i X hi2 ⟨hp, hXl⟩ hw3
                        obtain ⟨hcc, hob, hin⟩ := hp.l4 rfl
                        obtain ⟨u, hul, hobu⟩ := hin j hj hsn
                        have hg := obj_get hob
                        have hi := ob_lt hob
                        have hgi := (List.getElem?_eq_some_iff.1 hg).2
                        have hgu := obj_get hobu
                        have hiu := ob_lt hobu
                        have hgiu := (List.getElem?_eq_some_iff.1 hgu).2
                        have eX : ∀ o : Option (Nat × List Row), (X ++ [o])[G.length]? = some o := fun o => by rw [← hXl]; simp
                        have eW : ∀ o : Option (Nat × List Row), (X ++ [o])[15 + 1]? = some (some (1, ownR 1 (15 + 2) r4.spaces)) := fun o => by rw [List.getElem?_append_left hi]; exact hg
                        have eU : ∀ o : Option (Nat × List Row), (X ++ [o])[j + (15 + 2)]? = some (some (1, u.map (irow .i64))) := fun o => by rw [List.getElem?_append_left hiu]; exact hgu
                        have hiul : i < u.length := by omega
                        simp only [Nat.reduceAdd] at eW eU hiu hgiu hgu hgi
                        simp [Try.ntmps6, Try.results6, cSl, cp0, cp1, cp2, cp3, cn0, cn1, cn2, cn3, cn4, cn5, cn6, cn7, cn8, cn9, cn10, cI, cD, cR, cF, cA, -view, -cold, -cellsOf, -oneA, -allOneA, one_esl, one_osl, one_int, allOne_nil, allOne_cons, cells_rm, okLt, oAz, oAs, hw3, eX, eW, eU, hj, hi2, hiul, hXl, hrl, hg2, hul, irow, hi, hgi, hiu, hgiu]
                        refine ⟨X.set (j + (15 + 2)) (some (1, (u.set i (IntKind.i64.wrap (u[i] + 1))).map (irow .i64))), ⟨hp.d4 hj (by rw [List.length_set]; exact hul), by rw [List.length_set]; exact hXl⟩, ?_⟩
                        dsimp only
                        rw [List.map_set, ← List.set_append_left _ _ hiu]
                        exact Ent.env (by simp [okLt, oAz, irow])
                      · rintro X ⟨hp, hXl⟩
                        simp [Try.ntmps6, Try.results6, cSl, cp0, cp1, cp2, cp3, cn0, cn1, cn2, cn3, cn4, cn5, cn6, cn7, cn8, cn9, cn10, cI, cD, cR, cF, cA, -view, -cold, -cellsOf, -oneA, -allOneA, one_esl, one_osl, one_int, allOne_nil, allOne_cons, cells_rm, okLt, oAz, hw2]
                        exact ⟨X, ⟨hp, hXl⟩, Ent.env (by simp [okLt, oAz])⟩
                  · rintro X ⟨hp, hXl⟩
                    simp [Try.ntmps6, Try.results6, cSl, cp0, cp1, cp2, cp3, cn0, cn1, cn2, cn3, cn4, cn5, cn6, cn7, cn8, cn9, cn10, cI, cD, cR, cF, cA, -view, -cold, -cellsOf, -oneA, -allOneA, one_esl, one_osl, one_int, allOne_nil, allOne_cons, cells_rm, okLt, oAz]
                    exact ⟨_, hp.app _, Ent.env (by simp [okLt, oAz])⟩
          · cases o5 with
            | false =>
              have hrz := hz5 rfl
              subst hrz
              simp [Try.ntmps6, Try.results6, cSl, cp0, cp1, cp2, cp3, cn0, cn1, cn2, cn3, cn4, cn5, cn6, cn7, cn8, cn9, cn10, cI, cD, cR, cF, cA, -view, -cold, -cellsOf, -oneA, -allOneA, one_esl, one_osl, one_int, allOne_nil, allOne_cons, cells_rm, okLf, oA0]
              refine loop_forE 0 (fun j (_ : Unit) => ([(19, .fn 63 [.ptr 0 1 0 0, .ptr 7 1 0 0, .ptr 2 2 0 0, .ptr 8 1 0 0, .ptr 3 1 0 0, .ptr 9 1 0 0, .ptr 10 1 0 0]), (36, (okL o7 (R + 1) 17 L7.length)), (39, (okL o8 (R + 2) 17 L8.length)), (42, .v (.bool true)), (47, .ptr G.length 2 0 0), (172, .agg [oA 15 1 r4.cells.length, okL o4 (15 + 1) 1 r4.spaces.length, .esl, .esl, oA (Q + 1) 1 r6.cells.length, okL o6 ((Q + 1) + 1) 1 r6.spaces.length]), (173, .v (.int .i64 1)), (178, .v (.int .i64 0)), (179, .v (.int .i64 j))], G ++ [some (2, [[.esl, .esl]])])) (fun j _ => True) () (fun j _ hj _ => by omega) trivial ?_ (fun j _ hj => by omega) ?_
              · exact Ent.env (by simp [okLf, oA0])
              rintro _ _
              simp [Try.ntmps6, Try.results6, cSl, cp0, cp1, cp2, cp3, cn0, cn1, cn2, cn3, cn4, cn5, cn6, cn7, cn8, cn9, cn10, cI, cD, cR, cF, cA, -view, -cold, -cellsOf, -oneA, -allOneA, one_esl, one_osl, one_int, allOne_nil, allOne_cons, cells_rm, okLf, oA0]
              refine loop_forE 0 (fun j (_ : Unit) => ([(19, .fn 63 [.ptr 0 1 0 0, .ptr 7 1 0 0, .ptr 2 2 0 0, .ptr 8 1 0 0, .ptr 3 1 0 0, .ptr 9 1 0 0, .ptr 10 1 0 0]), (36, (okL o7 (R + 1) 17 L7.length)), (39, (okL o8 (R + 2) 17 L8.length)), (42, .v (.bool true)), (47, .ptr G.length 2 0 0), (172, .agg [oA 15 1 r4.cells.length, okL o4 (15 + 1) 1 r4.spaces.length, .esl, .esl, oA (Q + 1) 1 r6.cells.length, okL o6 ((Q + 1) + 1) 1 r6.spaces.length]), (173, .v (.int .i64 1)), (192, .v (.int .i64 0)), (193, .v (.int .i64 j))], G ++ [some (2, [[.esl, .esl]])])) (fun j _ => True) () (fun j _ hj _ => by omega) trivial ?_ (fun j _ hj => by omega) ?_
              · exact Ent.env (by simp [okLf, oA0])
              rintro _ _
              simp [Try.ntmps6, Try.results6, cSl, cp0, cp1, cp2, cp3, cn0, cn1, cn2, cn3, cn4, cn5, cn6, cn7, cn8, cn9, cn10, cI, cD, cR, cF, cA, -view, -cold, -cellsOf, -oneA, -allOneA, one_esl, one_osl, one_int, allOne_nil, allOne_cons, cells_rm, okLf, oA0]
              exact ⟨_, hp.app _, Ent.env (by simp [okLf, oA0])⟩
            | true =>
              have hbc := hb5.1
              have hbs := hb5.2.1
              have hbu : ∀ (j : Nat) (hj : j < r5.spaces.length), r5.spaces[j].length ≤ 100 := fun j hj => hb5.2.2 _ (List.getElem_mem hj)
              by_cases hcz : r5.cells.length = 0
              · have oAz : oA (P + 1) 1 r5.cells.length = .esl := by rw [hcz]; rfl
                simp [Try.ntmps6, Try.results6, cSl, cp0, cp1, cp2, cp3, cn0, cn1, cn2, cn3, cn4, cn5, cn6, cn7, cn8, cn9, cn10, cI, cD, cR, cF, cA, -view, -cold, -cellsOf, -oneA, -allOneA, one_esl, one_osl, one_int, allOne_nil, allOne_cons, cells_rm, okLt, oAz]
                refine loop_forE 0 (fun j (_ : Unit) => ([(19, .fn 63 [.ptr 0 1 0 0, .ptr 7 1 0 0, .ptr 2 2 0 0, .ptr 8 1 0 0, .ptr 3 1 0 0, .ptr 9 1 0 0, .ptr 10 1 0 0]), (36, (okL o7 (R + 1) 17 L7.length)), (39, (okL o8 (R + 2) 17 L8.length)), (42, .v (.bool true)), (47, .ptr G.length 2 0 0), (172, .agg [oA 15 1 r4.cells.length, okL o4 (15 + 1) 1 r4.spaces.length, oA (P + 1) 1 r5.cells.length, okL true ((P + 1) + 1) 1 r5.spaces.length, oA (Q + 1) 1 r6.cells.length, okL o6 ((Q + 1) + 1) 1 r6.spaces.length]), (173, .v (.int .i64 1)), (178, .v (.int .i64 0)), (179, .v (.int .i64 j))], G ++ [some (2, [[.esl, .osl ((P + 1) + 1) 1 0 r5.spaces.length r5.spaces.length]])])) (fun j _ => True) () (fun j _ hj _ => by omega) trivial ?_ (fun j _ hj => by omega) ?_
                · exact Ent.env (by simp [okLt, oAz])
                rintro _ _
                simp [Try.ntmps6, Try.results6, cSl, cp0, cp1, cp2, cp3, cn0, cn1, cn2, cn3, cn4, cn5, cn6, cn7, cn8, cn9, cn10, cI, cD, cR, cF, cA, -view, -cold, -cellsOf, -oneA, -allOneA, one_esl, one_osl, one_int, allOne_nil, allOne_cons, cells_rm, okLt, oAz]
                refine loop_forE r5.spaces.length (fun j (X : Heap) => ([(19, .fn 63 [.ptr 0 1 0 0, .ptr 7 1 0 0, .ptr 2 2 0 0, .ptr 8 1 0 0, .ptr 3 1 0 0, .ptr 9 1 0 0, .ptr 10 1 0 0]), (36, (okL o7 (R + 1) 17 L7.length)), (39, (okL o8 (R + 2) 17 L8.length)), (42, .v (.bool true)), (47, .ptr G.length 2 0 0), (172, .agg [oA 15 1 r4.cells.length, okL o4 (15 + 1) 1 r4.spaces.length, oA (P + 1) 1 r5.cells.length, okL true ((P + 1) + 1) 1 r5.spaces.length, oA (Q + 1) 1 r6.cells.length, okL o6 ((Q + 1) + 1) 1 r6.spaces.length]), (173, .v (.int .i64 1)), (192, .v (.int .i64 r5.spaces.length)), (193, .v (.int .i64 j))], X ++ [some (2, [[.esl, .osl ((P + 1) + 1) 1 0 r5.spaces.length r5.spaces.length]])])) (fun j X => KI l cs sp m o1 o2 o3 o4 true o6 o7 o8 L1.length L2.length L3.length L7.length L8.length r4 r5 r6 P Q R X ∧ X.length = G.length) G (fun j _ hj _ => by omega) ⟨hp, rfl⟩ ?_ ?_ ?_
                · exact Ent.env (by simp [okLt, oAz])
                · skip
                  rintro j X hj ⟨hp, hXl⟩ hw2
                  obtain ⟨hcc, hob, hin⟩ := hp.l5 rfl
                  have hg := obj_get hob
                  have hi := ob_lt hob
                  have hgi := (List.getElem?_eq_some_iff.1 hg).2
                  have hrl : (ownR 1 ((P + 1) + 2) r5.spaces).length = r5.spaces.length := ownR_len
                  have hgr := ownR_get (sz := 1) (c := (P + 1) + 2) hj
                  have hg2 : (ownR 1 ((P + 1) + 2) r5.spaces)[j]'(by rw [hrl]; exact hj) = [oA (j + ((P + 1) + 2)) 1 r5.spaces[j].length] := by
                    rw [List.getElem?_eq_getElem (by rw [hrl]; exact hj)] at hgr
                    simpa using hgr
                  have eX : ∀ o : Option (Nat × List Row), (X ++ [o])[G.length]? = some o := fun o => by rw [← hXl]; simp
                  have eW : ∀ o : Option (Nat × List Row), (X ++ [o])[(P + 1) + 1]? = some (some (1, ownR 1 ((P + 1) + 2) r5.spaces)) := fun o => by rw [List.getElem?_append_left hi]; exact hg
                  have hu6 := hbu j hj
                  by_cases hsz : r5.spaces[j].length = 0
                  · have oAs : oA (j + ((P + 1) + 2)) 1 r5.spaces[j].length = .esl := by rw [hsz]; rfl
                    skip
                    simp [Try.ntmps6, Try.results6, cSl, cp0, cp1, cp2, cp3, cn0, cn1, cn2, cn3, cn4, cn5, cn6, cn7, cn8, cn9, cn10, cI, cD, cR, cF, cA, -view, -cold, -cellsOf, -oneA, -allOneA, one_esl, one_osl, one_int, allOne_nil, allOne_cons, cells_rm, okLt, oAz, oAs, hw2, eX, eW, hj, hXl, hrl, hg2, hi, hgi]
                    refine loop_forE 0 (fun i (_ : Unit) => ([(19, .fn 63 [.ptr 0 1 0 0, .ptr 7 1 0 0, .ptr 2 2 0 0, .ptr 8 1 0 0, .ptr 3 1 0 0, .ptr 9 1 0 0, .ptr 10 1 0 0]), (36, (okL o7 (R + 1) 17 L7.length)), (39, (okL o8 (R + 2) 17 L8.length)), (42, .v (.bool true)), (47, .ptr G.length 2 0 0), (172, .agg [oA 15 1 r4.cells.length, okL o4 (15 + 1) 1 r4.spaces.length, oA (P + 1) 1 r5.cells.length, okL true ((P + 1) + 1) 1 r5.spaces.length, oA (Q + 1) 1 r6.cells.length, okL o6 ((Q + 1) + 1) 1 r6.spaces.length]), (173, .v (.int .i64 1)), (49, .v (.int .i64 j)), (192, .v (.int .i64 r5.spaces.length)), (193, .v (.int .i64 j)), (201, .v (.int .i64 0)), (202, .v (.int .i64 i))], X ++ [some (2, [[.esl, .osl ((P + 1) + 1) 1 0 r5.spaces.length r5.spaces.length]])])) (fun j _ => True) () (fun j _ hj _ => by omega) trivial ?_ (fun j _ hj => by omega) ?_
                    · exact Ent.env (by simp [okLt, oAz])
                    rintro _ _
                    simp [Try.ntmps6, Try.results6, cSl, cp0, cp1, cp2, cp3, cn0, cn1, cn2, cn3, cn4, cn5, cn6, cn7, cn8, cn9, cn10, cI, cD, cR, cF, cA, -view, -cold, -cellsOf, -oneA, -allOneA, one_esl, one_osl, one_int, allOne_nil, allOne_cons, cells_rm, okLt, oAz, hw2]
                    exact ⟨X, ⟨hp, hXl⟩, Ent.env (by simp [okLt, oAz])⟩
                  · have hsn : r5.spaces[j] ≠ [] := fun e => hsz (by rw [e]; rfl)
                    have oAs : oA (j + ((P + 1) + 2)) 1 r5.spaces[j].length = .osl (j + ((P + 1) + 2)) 1 0 r5.spaces[j].length r5.spaces[j].length := oA_pos hsz
                    skip
                    simp [Try.ntmps6, Try.results6, cSl, cp0, cp1, cp2, cp3, cn0, cn1, cn2, cn3, cn4, cn5, cn6, cn7, cn8, cn9, cn10, cI, cD, cR, cF, cA, -view, -cold, -cellsOf, -oneA, -allOneA, one_esl, one_osl, one_int, allOne_nil, allOne_cons, cells_rm, okLt, oAz, oAs, hw2, eX, eW, hj, hXl, hrl, hg2, hi, hgi]
                    refine loop_forE r5.spaces[j].length (fun i (X : Heap) => ([(19, .fn 63 [.ptr 0 1 0 0, .ptr 7 1 0 0, .ptr 2 2 0 0, .ptr 8 1 0 0, .ptr 3 1 0 0, .ptr 9 1 0 0, .ptr 10 1 0 0]), (36, (okL o7 (R + 1) 17 L7.length)), (39, (okL o8 (R + 2) 17 L8.length)), (42, .v (.bool true)), (47, .ptr G.length 2 0 0), (172, .agg [oA 15 1 r4.cells.length, okL o4 (15 + 1) 1 r4.spaces.length, oA (P + 1) 1 r5.cells.length, okL true ((P + 1) + 1) 1 r5.spaces.length, oA (Q + 1) 1 r6.cells.length, okL o6 ((Q + 1) + 1) 1 r6.spaces.length]), (173, .v (.int .i64 1)), (49, .v (.int .i64 j)), (192, .v (.int .i64 r5.spaces.length)), (193, .v (.int .i64 j)), (201, .v (.int .i64 r5.spaces[j].length)), (202, .v (.int .i64 i))], X ++ [some (2, [[.esl, .osl ((P + 1) + 1) 1 0 r5.spaces.length r5.spaces.length]])])) (fun i X => KI l cs sp m o1 o2 o3 o4 true o6 o7 o8 L1.length L2.length L3.length L7.length L8.length r4 r5 r6 P Q R X ∧ X.length = G.length) X (fun i _ hi _ => by omega) ⟨hp, hXl⟩ ?_ ?_ ?_
                    · exact Ent.env (by simp [okLt, oAz])
                    · clear eX eW hcc hob hin hg hi hgi hp hXl
                      clear X
                      rintro i X hi2 ⟨hp, hXl⟩ hw3
                      obtain ⟨hcc, hob, hin⟩ := hp.l5 rfl
                      obtain ⟨u, hul, hobu⟩ := hin j hj hsn
                      have hg := obj_get hob
                      have hi := ob_lt hob
                      have hgi := (List.getElem?_eq_some_iff.1 hg).2
                      have hgu := obj_get hobu
                      have hiu := ob_lt hobu
                      have hgiu := (List.getElem?_eq_some_iff.1 hgu).2
                      have eX : ∀ o : Option (Nat × List Row), (X ++ [o])[G.length]? = some o := fun o => by rw [← hXl]; simp
                      have eW : ∀ o : Option (Nat × List Row), (X ++ [o])[(P + 1) + 1]? = some (some (1, ownR 1 ((P + 1) + 2) r5.spaces)) := fun o => by rw [List.getElem?_append_left hi]; exact hg
                      have eU : ∀ o : Option (Nat × List Row), (X ++ [o])[j + ((P + 1) + 2)]? = some (some (1, u.map (irow .i64))) := fun o => by rw [List.getElem?_append_left hiu]; exact hgu
                      have hiul : i < u.length := by omega
                      skip
                      simp [Try.ntmps6, Try.results6, cSl, cp0, cp1, cp2, cp3, cn0, cn1, cn2, cn3, cn4, cn5, cn6, cn7, cn8, cn9, cn10, cI, cD, cR, cF, cA, -view, -cold, -cellsOf, -oneA, -allOneA, one_esl, one_osl, one_int, allOne_nil, allOne_cons, cells_rm, okLt, oAz, oAs, hw3, eX, eW, eU, hj, hi2, hiul, hXl, hrl, hg2, hul, irow, hi, hgi, hiu, hgiu]
                      refine ⟨X.set (j + ((P + 1) + 2)) (some (1, (u.set i (IntKind.i64.wrap (u[i] + 1))).map (irow .i64))), ⟨hp.d5 hj (by rw [List.length_set]; exact hul), by rw [List.length_set]; exact hXl⟩, ?_⟩
                      dsimp only
                      rw [List.map_set, ← List.set_append_left _ _ hiu]
                      exact Ent.env (by simp [okLt, oAz, irow])
                    · rintro X ⟨hp, hXl⟩
                      simp [Try.ntmps6, Try.results6, cSl, cp0, cp1, cp2, cp3, cn0, cn1, cn2, cn3, cn4, cn5, cn6, cn7, cn8, cn9, cn10, cI, cD, cR, cF, cA, -view, -cold, -cellsOf, -oneA, -allOneA, one_esl, one_osl, one_int, allOne_nil, allOne_cons, cells_rm, okLt, oAz, hw2]
                      exact ⟨X, ⟨hp, hXl⟩, Ent.env (by simp [okLt, oAz])⟩
                · rintro X ⟨hp, hXl⟩
                  simp [Try.ntmps6, Try.results6, cSl, cp0, cp1, cp2, cp3, cn0, cn1, cn2, cn3, cn4, cn5, cn6, cn7, cn8, cn9, cn10, cI, cD, cR, cF, cA, -view, -cold, -cellsOf, -oneA, -allOneA, one_esl, one_osl, one_int, allOne_nil, allOne_cons, cells_rm, okLt, oAz]
                  exact ⟨_, hp.app _, Ent.env (by simp [okLt, oAz])⟩
              · have hcn : r5.cells ≠ [] := fun e => hcz (by rw [e]; rfl)
                have oAz : oA (P + 1) 1 r5.cells.length = .osl (P + 1) 1 0 r5.cells.length r5.cells.length := oA_pos hcz
                simp [Try.ntmps6, Try.results6, cSl, cp0, cp1, cp2, cp3, cn0, cn1, cn2, cn3, cn4, cn5, cn6, cn7, cn8, cn9, cn10, cI, cD, cR, cF, cA, -view, -cold, -cellsOf, -oneA, -allOneA, one_esl, one_osl, one_int, allOne_nil, allOne_cons, cells_rm, okLt, oAz]
                refine loop_forE r5.cells.length (fun j (X : Heap) => ([(19, .fn 63 [.ptr 0 1 0 0, .ptr 7 1 0 0, .ptr 2 2 0 0, .ptr 8 1 0 0, .ptr 3 1 0 0, .ptr 9 1 0 0, .ptr 10 1 0 0]), (36, (okL o7 (R + 1) 17 L7.length)), (39, (okL o8 (R + 2) 17 L8.length)), (42, .v (.bool true)), (47, .ptr G.length 2 0 0), (172, .agg [oA 15 1 r4.cells.length, okL o4 (15 + 1) 1 r4.spaces.length, oA (P + 1) 1 r5.cells.length, okL true ((P + 1) + 1) 1 r5.spaces.length, oA (Q + 1) 1 r6.cells.length, okL o6 ((Q + 1) + 1) 1 r6.spaces.length]), (173, .v (.int .i64 1)), (178, .v (.int .i64 r5.cells.length)), (179, .v (.int .i64 j))], X ++ [some (2, [[.osl (P + 1) 1 0 r5.cells.length r5.cells.length, .osl ((P + 1) + 1) 1 0 r5.spaces.length r5.spaces.length]])])) (fun j X => KI l cs sp m o1 o2 o3 o4 true o6 o7 o8 L1.length L2.length L3.length L7.length L8.length r4 r5 r6 P Q R X ∧ X.length = G.length) G (fun j _ hj _ => by omega) ⟨hp, rfl⟩ ?_ ?_ ?_
                · exact Ent.env (by simp [okLt, oAz])
                · rintro j X hj ⟨hp, hXl⟩ hw2
                  obtain ⟨hin, _, _⟩ := hp.l5 rfl
                  obtain ⟨u, hul, hobu⟩ := hin hcn
                  have hgu := obj_get hobu
                  have hiu := ob_lt hobu
                  have hgiu := (List.getElem?_eq_some_iff.1 hgu).2
                  have eX : ∀ o : Option (Nat × List Row), (X ++ [o])[G.length]? = some o := fun o => by rw [← hXl]; simp
                  have eU : ∀ o : Option (Nat × List Row), (X ++ [o])[(P + 1)]? = some (some (1, u.map (irow .u8))) := fun o => by rw [List.getElem?_append_left hiu]; exact hgu
                  have hjul : j < u.length := by omega
                  simp [Try.ntmps6, Try.results6, cSl, cp0, cp1, cp2, cp3, cn0, cn1, cn2, cn3, cn4, cn5, cn6, cn7, cn8, cn9, cn10, cI, cD, cR, cF, cA, -view, -cold, -cellsOf, -oneA, -allOneA, one_esl, one_osl, one_int, allOne_nil, allOne_cons, cells_rm, okLt, oAz, hw2, eX, eU, hj, hjul, hXl, hul, irow, hiu, hgiu]
                  refine ⟨X.set (P + 1) (some (1, (u.set j (IntKind.u8.wrap (u[j] + 1))).map (irow .u8))), ⟨hp.c5 (by rw [List.length_set]; exact hul), by rw [List.length_set]; exact hXl⟩, ?_⟩
                  dsimp only
                  rw [List.map_set, ← List.set_append_left _ _ hiu]
                  exact Ent.env (by simp [okLt, oAz, irow])
                · rintro X ⟨hp, hXl⟩
                  have eX : ∀ o : Option (Nat × List Row), (X ++ [o])[G.length]? = some o := fun o => by rw [← hXl]; simp
                  simp [Try.ntmps6, Try.results6, cSl, cp0, cp1, cp2, cp3, cn0, cn1, cn2, cn3, cn4, cn5, cn6, cn7, cn8, cn9, cn10, cI, cD, cR, cF, cA, -view, -cold, -cellsOf, -oneA, -allOneA, one_esl, one_osl, one_int, allOne_nil, allOne_cons, cells_rm, okLt, oAz, eX, hXl]
                  clear eX
                  refine loop_forE r5.spaces.length (fun j (X : Heap) => ([(19, .fn 63 [.ptr 0 1 0 0, .ptr 7 1 0 0, .ptr 2 2 0 0, .ptr 8 1 0 0, .ptr 3 1 0 0, .ptr 9 1 0 0, .ptr 10 1 0 0]), (36, (okL o7 (R + 1) 17 L7.length)), (39, (okL o8 (R + 2) 17 L8.length)), (42, .v (.bool true)), (47, .ptr G.length 2 0 0), (172, .agg [oA 15 1 r4.cells.length, okL o4 (15 + 1) 1 r4.spaces.length, oA (P + 1) 1 r5.cells.length, okL true ((P + 1) + 1) 1 r5.spaces.length, oA (Q + 1) 1 r6.cells.length, okL o6 ((Q + 1) + 1) 1 r6.spaces.length]), (173, .v (.int .i64 1)), (192, .v (.int .i64 r5.spaces.length)), (193, .v (.int .i64 j))], X ++ [some (2, [[.osl (P + 1) 1 0 r5.cells.length r5.cells.length, .osl ((P + 1) + 1) 1 0 r5.spaces.length r5.spaces.length]])])) (fun j X => KI l cs sp m o1 o2 o3 o4 true o6 o7 o8 L1.length L2.length L3.length L7.length L8.length r4 r5 r6 P Q R X ∧ X.length = G.length) X (fun j _ hj _ => by omega) ⟨hp, hXl⟩ ?_ ?_ ?_
                  · exact Ent.env (by simp [okLt, oAz])
                  · clear hp hXl X
                    rintro j X hj ⟨hp, hXl⟩ hw2
                    obtain ⟨hcc, hob, hin⟩ := hp.l5 rfl
                    have hg := obj_get hob
                    have hi := ob_lt hob
                    have hgi := (List.getElem?_eq_some_iff.1 hg).2
                    have hrl : (ownR 1 ((P + 1) + 2) r5.spaces).length = r5.spaces.length := ownR_len
                    have hgr := ownR_get (sz := 1) (c := (P + 1) + 2) hj
                    have hg2 : (ownR 1 ((P + 1) + 2) r5.spaces)[j]'(by rw [hrl]; exact hj) = [oA (j + ((P + 1) + 2)) 1 r5.spaces[j].length] := by
                      rw [List.getElem?_eq_getElem (by rw [hrl]; exact hj)] at hgr
                      simpa using hgr
                    have eX : ∀ o : Option (Nat × List Row), (X ++ [o])[G.length]? = some o := fun o => by rw [← hXl]; simp
                    have eW : ∀ o : Option (Nat × List Row), (X ++ [o])[(P + 1) + 1]? = some (some (1, ownR 1 ((P + 1) + 2) r5.spaces)) := fun o => by rw [List.getElem?_append_left hi]; exact hg
                    have hu6 := hbu j hj
                    by_cases hsz : r5.spaces[j].length = 0
                    · have oAs : oA (j + ((P + 1) + 2)) 1 r5.spaces[j].length = .esl := by rw [hsz]; rfl
                      skip
                      simp [Try.ntmps6, Try.results6, cSl, cp0, cp1, cp2, cp3, cn0, cn1, cn2, cn3, cn4, cn5, cn6, cn7, cn8, cn9, cn10, cI, cD, cR, cF, cA, -view, -cold, -cellsOf, -oneA, -allOneA, one_esl, one_osl, one_int, allOne_nil, allOne_cons, cells_rm, okLt, oAz, oAs, hw2, eX, eW, hj, hXl, hrl, hg2, hi, hgi]
                      refine loop_forE 0 (fun i (_ : Unit) => ([(19, .fn 63 [.ptr 0 1 0 0, .ptr 7 1 0 0, .ptr 2 2 0 0, .ptr 8 1 0 0, .ptr 3 1 0 0, .ptr 9 1 0 0, .ptr 10 1 0 0]), (36, (okL o7 (R + 1) 17 L7.length)), (39, (okL o8 (R + 2) 17 L8.length)), (42, .v (.bool true)), (47, .ptr G.length 2 0 0), (172, .agg [oA 15 1 r4.cells.length, okL o4 (15 + 1) 1 r4.spaces.length, oA (P + 1) 1 r5.cells.length, okL true ((P + 1) + 1) 1 r5.spaces.length, oA (Q + 1) 1 r6.cells.length, okL o6 ((Q + 1) + 1) 1 r6.spaces.length]), (173, .v (.int .i64 1)), (49, .v (.int .i64 j)), (192, .v (.int .i64 r5.spaces.length)), (193, .v (.int .i64 j)), (201, .v (.int .i64 0)), (202, .v (.int .i64 i))], X ++ [some (2, [[.osl (P + 1) 1 0 r5.cells.length r5.cells.length, .osl ((P + 1) + 1) 1 0 r5.spaces.length r5.spaces.length]])])) (fun j _ => True) () (fun j _ hj _ => by omega) trivial ?_ (fun j _ hj => by omega) ?_
                      · exact Ent.env (by simp [okLt, oAz])
                      rintro _ _
                      simp [Try.ntmps6, Try.results6, cSl, cp0, cp1, cp2, cp3, cn0, cn1, cn2, cn3, cn4, cn5, cn6, cn7, cn8, cn9, cn10, cI, cD, cR, cF, cA, -view, -cold, -cellsOf, -oneA, -allOneA, one_esl, one_osl, one_int, allOne_nil, allOne_cons, cells_rm, okLt, oAz, hw2]
                      exact ⟨X, ⟨hp, hXl⟩, Ent.env (by simp [okLt, oAz])⟩
                    · have hsn : r5.spaces[j] ≠ [] := fun e => hsz (by rw [e]; rfl)
                      have oAs : oA (j + ((P + 1) + 2)) 1 r5.spaces[j].length = .osl (j + ((P + 1) + 2)) 1 0 r5.spaces[j].length r5.spaces[j].length := oA_pos hsz
                      skip
                      simp [Try.ntmps6, Try.results6, cSl, cp0, cp1, cp2, cp3, cn0, cn1, cn2, cn3, cn4, cn5, cn6, cn7, cn8, cn9, cn10, cI, cD, cR, cF, cA, -view, -cold, -cellsOf, -oneA, -allOneA, one_esl, one_osl, one_int, allOne_nil, allOne_cons, cells_rm, okLt, oAz, oAs, hw2, eX, eW, hj, hXl, hrl, hg2, hi, hgi]
                      refine loop_forE r5.spaces[j].length (fun i (X : Heap) => ([(19, .fn 63 [.ptr 0 1 0 0, .ptr 7 1 0 0, .ptr 2 2 0 0, .ptr 8 1 0 0, .ptr 3 1 0 0, .ptr 9 1 0 0, .ptr 10 1 0 0]), (36, (okL o7 (R + 1) 17 L7.length)), (39, (okL o8 (R + 2) 17 L8.length)), (42, .v (.bool true)), (47, .ptr G.length 2 0 0), (172, .agg [oA 15 1 r4.cells.length, okL o4 (15 + 1) 1 r4.spaces.length, oA (P + 1) 1 r5.cells.length, okL true ((P + 1) + 1) 1 r5.spaces.length, oA (Q + 1) 1 r6.cells.length, okL o6 ((Q + 1) + 1) 1 r6.spaces.length]), (173, .v (.int .i64 1)), (49, .v (.int .i64 j)), (192, .v (.int .i64 r5.spaces.length)), (193, .v (.int .i64 j)), (201, .v (.int .i64 r5.spaces[j].length)), (202, .v (.int .i64 i))], X ++ [some (2, [[.osl (P + 1) 1 0 r5.cells.length r5.cells.length, .osl ((P + 1) + 1) 1 0 r5.spaces.length r5.spaces.length]])])) (fun i X => KI l cs sp m o1 o2 o3 o4 true o6 o7 o8 L1.length L2.length L3.length L7.length L8.length r4 r5 r6 P Q R X ∧ X.length = G.length) X (fun i _ hi _ => by omega) ⟨hp, hXl⟩ ?_ ?_ ?_
                      · exact Ent.env (by simp [okLt, oAz])
                      · clear eX eW hcc hob hin hg hi hgi hp hXl
                        clear X
                        rintro i X hi2 ⟨hp, hXl⟩ hw3
                        obtain ⟨hcc, hob, hin⟩ := hp.l5 rfl
                        obtain ⟨u, hul, hobu⟩ := hin j hj hsn
                        have hg := obj_get hob
                        have hi := ob_lt hob
                        have hgi := (List.getElem?_eq_some_iff.1 hg).2
                        have hgu := obj_get hobu
                        have hiu := ob_lt hobu
                        have hgiu := (List.getElem?_eq_some_iff.1 hgu).2
                        have eX : ∀ o : Option (Nat × List Row), (X ++ [o])[G.length]? = some o := fun o => by rw [← hXl]; simp
                        have eW : ∀ o : Option (Nat × List Row), (X ++ [o])[(P + 1) + 1]? = some (some (1, ownR 1 ((P + 1) + 2) r5.spaces)) := fun o => by rw [List.getElem?_append_left hi]; exact hg
                        have eU : ∀ o : Option (Nat × List Row), (X ++ [o])[j + ((P + 1) + 2)]? = some (some (1, u.map (irow .i64))) := fun o => by rw [List.getElem?_append_left hiu]; exact hgu
                        have hiul : i < u.length := by omega
                        skip
                        simp [Try.ntmps6, Try.results6, cSl, cp0, cp1, cp2, cp3, cn0, cn1, cn2, cn3, cn4, cn5, cn6, cn7, cn8, cn9, cn10, cI, cD, cR, cF, cA, -view, -cold, -cellsOf, -oneA, -allOneA, one_esl, one_osl, one_int, allOne_nil, allOne_cons, cells_rm, okLt, oAz, oAs, hw3, eX, eW, eU, hj, hi2, hiul, hXl, hrl, hg2, hul, irow, hi, hgi, hiu, hgiu]
                        refine ⟨X.set (j + ((P + 1) + 2)) (some (1, (u.set i (IntKind.i64.wrap (u[i] + 1))).map (irow .i64))), ⟨hp.d5 hj (by rw [List.length_set]; exact hul), by rw [List.length_set]; exact hXl⟩, ?_⟩
                        dsimp only
                        rw [List.map_set, ← List.set_append_left _ _ hiu]
                        exact Ent.env (by simp [okLt, oAz, irow])
                      · rintro X ⟨hp, hXl⟩
                        simp [Try.ntmps6, Try.results6, cSl, cp0, cp1, cp2, cp3, cn0, cn1, cn2, cn3, cn4, cn5, cn6, cn7, cn8, cn9, cn10, cI, cD, cR, cF, cA, -view, -cold, -cellsOf, -oneA, -allOneA, one_esl, one_osl, one_int, allOne_nil, allOne_cons, cells_rm, okLt, oAz, hw2]
                        exact ⟨X, ⟨hp, hXl⟩, Ent.env (by simp [okLt, oAz])⟩
                  · rintro X ⟨hp, hXl⟩
                    simp [Try.ntmps6, Try.results6, cSl, cp0, cp1, cp2, cp3, cn0, cn1, cn2, cn3, cn4, cn5, cn6, cn7, cn8, cn9, cn10, cI, cD, cR, cF, cA, -view, -cold, -cellsOf, -oneA, -allOneA, one_esl, one_osl, one_int, allOne_nil, allOne_cons, cells_rm, okLt, oAz]
                    exact ⟨_, hp.app _, Ent.env (by simp [okLt, oAz])⟩
          · cases o6 with
            | false =>
              have hrz := hz6 rfl
              subst hrz
              simp [Try.ntmps6, Try.results6, cSl, cp0, cp1, cp2, cp3, cn0, cn1, cn2, cn3, cn4, cn5, cn6, cn7, cn8, cn9, cn10, cI, cD, cR, cF, cA, -view, -cold, -cellsOf, -oneA, -allOneA, one_esl, one_osl, one_int, allOne_nil, allOne_cons, cells_rm, okLf, oA0]
              refine loop_forE 0 (fun j (_ : Unit) => ([(19, .fn 63 [.ptr 0 1 0 0, .ptr 7 1 0 0, .ptr 2 2 0 0, .ptr 8 1 0 0, .ptr 3 1 0 0, .ptr 9 1 0 0, .ptr 10 1 0 0]), (36, (okL o7 (R + 1) 17 L7.length)), (39, (okL o8 (R + 2) 17 L8.length)), (42, .v (.bool true)), (47, .ptr G.length 2 0 0), (172, .agg [oA 15 1 r4.cells.length, okL o4 (15 + 1) 1 r4.spaces.length, oA (P + 1) 1 r5.cells.length, okL o5 ((P + 1) + 1) 1 r5.spaces.length, .esl, .esl]), (173, .v (.int .i64 2)), (178, .v (.int .i64 0)), (179, .v (.int .i64 j))], G ++ [some (2, [[.esl, .esl]])])) (fun j _ => True) () (fun j _ hj _ => by omega) trivial ?_ (fun j _ hj => by omega) ?_
              · exact Ent.env (by simp [okLf, oA0])
              rintro _ _
              simp [Try.ntmps6, Try.results6, cSl, cp0, cp1, cp2, cp3, cn0, cn1, cn2, cn3, cn4, cn5, cn6, cn7, cn8, cn9, cn10, cI, cD, cR, cF, cA, -view, -cold, -cellsOf, -oneA, -allOneA, one_esl, one_osl, one_int, allOne_nil, allOne_cons, cells_rm, okLf, oA0]
              refine loop_forE 0 (fun j (_ : Unit) => ([(19, .fn 63 [.ptr 0 1 0 0, .ptr 7 1 0 0, .ptr 2 2 0 0, .ptr 8 1 0 0, .ptr 3 1 0 0, .ptr 9 1 0 0, .ptr 10 1 0 0]), (36, (okL o7 (R + 1) 17 L7.length)), (39, (okL o8 (R + 2) 17 L8.length)), (42, .v (.bool true)), (47, .ptr G.length 2 0 0), (172, .agg [oA 15 1 r4.cells.length, okL o4 (15 + 1) 1 r4.spaces.length, oA (P + 1) 1 r5.cells.length, okL o5 ((P + 1) + 1) 1 r5.spaces.length, .esl, .esl]), (173, .v (.int .i64 2)), (192, .v (.int .i64 0)), (193, .v (.int .i64 j))], G ++ [some (2, [[.esl, .esl]])])) (fun j _ => True) () (fun j _ hj _ => by omega) trivial ?_ (fun j _ hj => by omega) ?_
              · exact Ent.env (by simp [okLf, oA0])
              rintro _ _
              simp [Try.ntmps6, Try.results6, cSl, cp0, cp1, cp2, cp3, cn0, cn1, cn2, cn3, cn4, cn5, cn6, cn7, cn8, cn9, cn10, cI, cD, cR, cF, cA, -view, -cold, -cellsOf, -oneA, -allOneA, one_esl, one_osl, one_int, allOne_nil, allOne_cons, cells_rm, okLf, oA0]
              exact ⟨_, hp.app _, Ent.env (by simp [okLf, oA0])⟩
            | true =>
              have hbc := hb6.1
              have hbs := hb6.2.1
              have hbu : ∀ (j : Nat) (hj : j < r6.spaces.length), r6.spaces[j].length ≤ 100 := fun j hj => hb6.2.2 _ (List.getElem_mem hj)
              by_cases hcz : r6.cells.length = 0
              · have oAz : oA (Q + 1) 1 r6.cells.length = .esl := by rw [hcz]; rfl
                simp [Try.ntmps6, Try.results6, cSl, cp0, cp1, cp2, cp3, cn0, cn1, cn2, cn3, cn4, cn5, cn6, cn7, cn8, cn9, cn10, cI, cD, cR, cF, cA, -view, -cold, -cellsOf, -oneA, -allOneA, one_esl, one_osl, one_int, allOne_nil, allOne_cons, cells_rm, okLt, oAz]
                refine loop_forE 0 (fun j (_ : Unit) => ([(19, .fn 63 [.ptr 0 1 0 0, .ptr 7 1 0 0, .ptr 2 2 0 0, .ptr 8 1 0 0, .ptr 3 1 0 0, .ptr 9 1 0 0, .ptr 10 1 0 0]), (36, (okL o7 (R + 1) 17 L7.length)), (39, (okL o8 (R + 2) 17 L8.length)), (42, .v (.bool true)), (47, .ptr G.length 2 0 0), (172, .agg [oA 15 1 r4.cells.length, okL o4 (15 + 1) 1 r4.spaces.length, oA (P + 1) 1 r5.cells.length, okL o5 ((P + 1) + 1) 1 r5.spaces.length, oA (Q + 1) 1 r6.cells.length, okL true ((Q + 1) + 1) 1 r6.spaces.length]), (173, .v (.int .i64 2)), (178, .v (.int .i64 0)), (179, .v (.int .i64 j))], G ++ [some (2, [[.esl, .osl ((Q + 1) + 1) 1 0 r6.spaces.length r6.spaces.length]])])) (fun j _ => True) () (fun j _ hj _ => by omega) trivial ?_ (fun j _ hj => by omega) ?_
                · exact Ent.env (by simp [okLt, oAz])
                rintro _ _
                simp [Try.ntmps6, Try.results6, cSl, cp0, cp1, cp2, cp3, cn0, cn1, cn2, cn3, cn4, cn5, cn6, cn7, cn8, cn9, cn10, cI, cD, cR, cF, cA, -view, -cold, -cellsOf, -oneA, -allOneA, one_esl, one_osl, one_int, allOne_nil, allOne_cons, cells_rm, okLt, oAz]
                refine loop_forE r6.spaces.length (fun j (X : Heap) => ([(19, .fn 63 [.ptr 0 1 0 0, .ptr 7 1 0 0, .ptr 2 2 0 0, .ptr 8 1 0 0, .ptr 3 1 0 0, .ptr 9 1 0 0, .ptr 10 1 0 0]), (36, (okL o7 (R + 1) 17 L7.length)), (39, (okL o8 (R + 2) 17 L8.length)), (42, .v (.bool true)), (47, .ptr G.length 2 0 0), (172, .agg [oA 15 1 r4.cells.length, okL o4 (15 + 1) 1 r4.spaces.length, oA (P + 1) 1 r5.cells.length, okL o5 ((P + 1) + 1) 1 r5.spaces.length, oA (Q + 1) 1 r6.cells.length, okL true ((Q + 1) + 1) 1 r6.spaces.length]), (173, .v (.int .i64 2)), (192, .v (.int .i64 r6.spaces.length)), (193, .v (.int .i64 j))], X ++ [some (2, [[.esl, .osl ((Q + 1) + 1) 1 0 r6.spaces.length r6.spaces.length]])])) (fun j X => KI l cs sp m o1 o2 o3 o4 o5 true o7 o8 L1.length L2.length L3.length L7.length L8.length r4 r5 r6 P Q R X ∧ X.length = G.length) G (fun j _ hj _ => by omega) ⟨hp, rfl⟩ ?_ ?_ ?_
                · exact Ent.env (by simp [okLt, oAz])
                · skip
                  rintro j X hj ⟨hp, hXl⟩ hw2
                  obtain ⟨hcc, hob, hin⟩ := hp.l6 rfl
                  have hg := obj_get hob
                  have hi := ob_lt hob
                  have hgi := (List.getElem?_eq_some_iff.1 hg).2
                  have hrl : (ownR 1 ((Q + 1) + 2) r6.spaces).length = r6.spaces.length := ownR_len
                  have hgr := ownR_get (sz := 1) (c := (Q + 1) + 2) hj
                  have hg2 : (ownR 1 ((Q + 1) + 2) r6.spaces)[j]'(by rw [hrl]; exact hj) = [oA (j + ((Q + 1) + 2)) 1 r6.spaces[j].length] := by
                    rw [List.getElem?_eq_getElem (by rw [hrl]; exact hj)] at hgr
                    simpa using hgr
                  have eX : ∀ o : Option (Nat × List Row), (X ++ [o])[G.length]? = some o := fun o => by rw [← hXl]; simp
                  have eW : ∀ o : Option (Nat × List Row), (X ++ [o])[(Q + 1) + 1]? = some (some (1, ownR 1 ((Q + 1) + 2) r6.spaces)) := fun o => by rw [List.getElem?_append_left hi]; exact hg
                  have hu6 := hbu j hj
                  by_cases hsz : r6.spaces[j].length = 0
                  · have oAs : oA (j + ((Q + 1) + 2)) 1 r6.spaces[j].length = .esl := by rw [hsz]; rfl
                    skip
                    simp [Try.ntmps6, Try.results6, cSl, cp0, cp1, cp2, cp3, cn0, cn1, cn2, cn3, cn4, cn5, cn6, cn7, cn8, cn9, cn10, cI, cD, cR, cF, cA, -view, -cold, -cellsOf, -oneA, -allOneA, one_esl, one_osl, one_int, allOne_nil, allOne_cons, cells_rm, okLt, oAz, oAs, hw2, eX, eW, hj, hXl, hrl, hg2, hi, hgi]
                    refine loop_forE 0 (fun i (_ : Unit) => ([(19, .fn 63 [.ptr 0 1 0 0, .ptr 7 1 0 0, .ptr 2 2 0 0, .ptr 8 1 0 0, .ptr 3 1 0 0, .ptr 9 1 0 0, .ptr 10 1 0 0]), (36, (okL o7 (R + 1) 17 L7.length)), (39, (okL o8 (R + 2) 17 L8.length)), (42, .v (.bool true)), (47, .ptr G.length 2 0 0), (172, .agg [oA 15 1 r4.cells.length, okL o4 (15 + 1) 1 r4.spaces.length, oA (P + 1) 1 r5.cells.length, okL o5 ((P + 1) + 1) 1 r5.spaces.length, oA (Q + 1) 1 r6.cells.length, okL true ((Q + 1) + 1) 1 r6.spaces.length]), (173, .v (.int .i64 2)), (49, .v (.int .i64 j)), (192, .v (.int .i64 r6.spaces.length)), (193, .v (.int .i64 j)), (201, .v (.int .i64 0)), (202, .v (.int .i64 i))], X ++ [some (2, [[.esl, .osl ((Q + 1) + 1) 1 0 r6.spaces.length r6.spaces.length]])])) (fun j _ => True) () (fun j _ hj _ => by omega) trivial ?_ (fun j _ hj => by omega) ?_
                    · exact Ent.env (by simp [okLt, oAz])
                    rintro _ _
                    simp [Try.ntmps6, Try.results6, cSl, cp0, cp1, cp2, cp3, cn0, cn1, cn2, cn3, cn4, cn5, cn6, cn7, cn8, cn9, cn10, cI, cD, cR, cF, cA, -view, -cold, -cellsOf, -oneA, -allOneA, one_esl, one_osl, one_int, allOne_nil, allOne_cons, cells_rm, okLt, oAz, hw2]
                    exact ⟨X, ⟨hp, hXl⟩, Ent.env (by simp [okLt, oAz])⟩
                  · have hsn : r6.spaces[j] ≠ [] := fun e => hsz (by rw [e]; rfl)
                    have oAs : oA (j + ((Q + 1) + 2)) 1 r6.spaces[j].length = .osl (j + ((Q + 1) + 2)) 1 0 r6.spaces[j].length r6.spaces[j].length := oA_pos hsz
                    skip
                    simp [Try.ntmps6, Try.results6, cSl, cp0, cp1, cp2, cp3, cn0, cn1, cn2, cn3, cn4, cn5, cn6, cn7, cn8, cn9, cn10, cI, cD, cR, cF, cA, -view, -cold, -cellsOf, -oneA, -allOneA, one_esl, one_osl, one_int, allOne_nil, allOne_cons, cells_rm, okLt, oAz, oAs, hw2, eX, eW, hj, hXl, hrl, hg2, hi, hgi]
                    refine loop_forE r6.spaces[j].length (fun i (X : Heap) => ([(19, .fn 63 [.ptr 0 1 0 0, .ptr 7 1 0 0, .ptr 2 2 0 0, .ptr 8 1 0 0, .ptr 3 1 0 0, .ptr 9 1 0 0, .ptr 10 1 0 0]), (36, (okL o7 (R + 1) 17 L7.length)), (39, (okL o8 (R + 2) 17 L8.length)), (42, .v (.bool true)), (47, .ptr G.length 2 0 0), (172, .agg [oA 15 1 r4.cells.length, okL o4 (15 + 1) 1 r4.spaces.length, oA (P + 1) 1 r5.cells.length, okL o5 ((P + 1) + 1) 1 r5.spaces.length, oA (Q + 1) 1 r6.cells.length, okL true ((Q + 1) + 1) 1 r6.spaces.length]), (173, .v (.int .i64 2)), (49, .v (.int .i64 j)), (192, .v (.int .i64 r6.spaces.length)), (193, .v (.int .i64 j)), (201, .v (.int .i64 r6.spaces[j].length)), (202, .v (.int .i64 i))], X ++ [some (2, [[.esl, .osl ((Q + 1) + 1) 1 0 r6.spaces.length r6.spaces.length]])])) (fun i X => KI l cs sp m o1 o2 o3 o4 o5 true o7 o8 L1.length L2.length L3.length L7.length L8.length r4 r5 r6 P Q R X ∧ X.length = G.length) X (fun i _ hi _ => by omega) ⟨hp, hXl⟩ ?_ ?_ ?_
                    · exact Ent.env (by simp [okLt, oAz])
                    · clear eX eW hcc hob hin hg hi hgi hp hXl
                      clear X
                      rintro i X hi2 ⟨hp, hXl⟩ hw3
                      obtain ⟨hcc, hob, hin⟩ := hp.l6 rfl
                      obtain ⟨u, hul, hobu⟩ := hin j hj hsn
                      have hg := obj_get hob
                      have hi := ob_lt hob
                      have hgi := (List.getElem?_eq_some_iff.1 hg).2
                      have hgu := obj_get hobu
                      have hiu := ob_lt hobu
                      have hgiu := (List.getElem?_eq_some_iff.1 hgu).2
                      have eX : ∀ o : Option (Nat × List Row), (X ++ [o])[G.length]? = some o := fun o => by rw [← hXl]; simp
                      have eW : ∀ o : Option (Nat × List Row), (X ++ [o])[(Q + 1) + 1]? = some (some (1, ownR 1 ((Q + 1) + 2) r6.spaces)) := fun o => by rw [List.getElem?_append_left hi]; exact hg
                      have eU : ∀ o : Option (Nat × List Row), (X ++ [o])[j + ((Q + 1) + 2)]? = some (some (1, u.map (irow .i64))) := fun o => by rw [List.getElem?_append_left hiu]; exact hgu
                      have hiul : i < u.length := by omega
                      skip
                      simp [Try.ntmps6, Try.results6, cSl, cp0, cp1, cp2, cp3, cn0, cn1, cn2, cn3, cn4, cn5, cn6, cn7, cn8, cn9, cn10, cI, cD, cR, cF, cA, -view, -cold, -cellsOf, -oneA, -allOneA, one_esl, one_osl, one_int, allOne_nil, allOne_cons, cells_rm, okLt, oAz, oAs, hw3, eX, eW, eU, hj, hi2, hiul, hXl, hrl, hg2, hul, irow, hi, hgi, hiu, hgiu]
                      refine ⟨X.set (j + ((Q + 1) + 2)) (some (1, (u.set i (IntKind.i64.wrap (u[i] + 1))).map (irow .i64))), ⟨hp.d6 hj (by rw [List.length_set]; exact hul), by rw [List.length_set]; exact hXl⟩, ?_⟩
                      dsimp only
                      rw [List.map_set, ← List.set_append_left _ _ hiu]
                      exact Ent.env (by simp [okLt, oAz, irow])
                    · rintro X ⟨hp, hXl⟩
                      simp [Try.ntmps6, Try.results6, cSl, cp0, cp1, cp2, cp3, cn0, cn1, cn2, cn3, cn4, cn5, cn6, cn7, cn8, cn9, cn10, cI, cD, cR, cF, cA, -view, -cold, -cellsOf, -oneA, -allOneA, one_esl, one_osl, one_int, allOne_nil, allOne_cons, cells_rm, okLt, oAz, hw2]
                      exact ⟨X, ⟨hp, hXl⟩, Ent.env (by simp [okLt, oAz])⟩
                · rintro X ⟨hp, hXl⟩
                  simp [Try.ntmps6, Try.results6, cSl, cp0, cp1, cp2, cp3, cn0, cn1, cn2, cn3, cn4, cn5, cn6, cn7, cn8, cn9, cn10, cI, cD, cR, cF, cA, -view, -cold, -cellsOf, -oneA, -allOneA, one_esl, one_osl, one_int, allOne_nil, allOne_cons, cells_rm, okLt, oAz]
                  exact ⟨_, hp.app _, Ent.env (by simp [okLt, oAz])⟩
              · have hcn : r6.cells ≠ [] := fun e => hcz (by rw [e]; rfl)
                have oAz : oA (Q + 1) 1 r6.cells.length = .osl (Q + 1) 1 0 r6.cells.length r6.cells.length := oA_pos hcz
                simp [Try.ntmps6, Try.results6, cSl, cp0, cp1, cp2, cp3, cn0, cn1, cn2, cn3, cn4, cn5, cn6, cn7, cn8, cn9, cn10, cI, cD, cR, cF, cA, -view, -cold, -cellsOf, -oneA, -allOneA, one_esl, one_osl, one_int, allOne_nil, allOne_cons, cells_rm, okLt, oAz]
                refine loop_forE r6.cells.length (fun j (X : Heap) => ([(19, .fn 63 [.ptr 0 1 0 0, .ptr 7 1 0 0, .ptr 2 2 0 0, .ptr 8 1 0 0, .ptr 3 1 0 0, .ptr 9 1 0 0, .ptr 10 1 0 0]), (36, (okL o7 (R + 1) 17 L7.length)), (39, (okL o8 (R + 2) 17 L8.length)), (42, .v (.bool true)), (47, .ptr G.length 2 0 0), (172, .agg [oA 15 1 r4.cells.length, okL o4 (15 + 1) 1 r4.spaces.length, oA (P + 1) 1 r5.cells.length, okL o5 ((P + 1) + 1) 1 r5.spaces.length, oA (Q + 1) 1 r6.cells.length, okL true ((Q + 1) + 1) 1 r6.spaces.length]), (173, .v (.int .i64 2)), (178, .v (.int .i64 r6.cells.length)), (179, .v (.int .i64 j))], X ++ [some (2, [[.osl (Q + 1) 1 0 r6.cells.length r6.cells.length, .osl ((Q + 1) + 1) 1 0 r6.spaces.length r6.spaces.length]])])) (fun j X => KI l cs sp m o1 o2 o3 o4 o5 true o7 o8 L1.length L2.length L3.length L7.length L8.length r4 r5 r6 P Q R X ∧ X.length = G.length) G (fun j _ hj _ => by omega) ⟨hp, rfl⟩ ?_ ?_ ?_
                · exact Ent.env (by simp [okLt, oAz])
                · rintro j X hj ⟨hp, hXl⟩ hw2
                  obtain ⟨hin, _, _⟩ := hp.l6 rfl
                  obtain ⟨u, hul, hobu⟩ := hin hcn
                  have hgu := obj_get hobu
                  have hiu := ob_lt hobu
                  have hgiu := (List.getElem?_eq_some_iff.1 hgu).2
                  have eX : ∀ o : Option (Nat × List Row), (X ++ [o])[G.length]? = some o := fun o => by rw [← hXl]; simp
                  have eU : ∀ o : Option (Nat × List Row), (X ++ [o])[(Q + 1)]? = some (some (1, u.map (irow .u8))) := fun o => by rw [List.getElem?_append_left hiu]; exact hgu
                  have hjul : j < u.length := by omega
                  simp [Try.ntmps6, Try.results6, cSl, cp0, cp1, cp2, cp3, cn0, cn1, cn2, cn3, cn4, cn5, cn6, cn7, cn8, cn9, cn10, cI, cD, cR, cF, cA, -view, -cold, -cellsOf, -oneA, -allOneA, one_esl, one_osl, one_int, allOne_nil, allOne_cons, cells_rm, okLt, oAz, hw2, eX, eU, hj, hjul, hXl, hul, irow, hiu, hgiu]
                  refine ⟨X.set (Q + 1) (some (1, (u.set j (IntKind.u8.wrap (u[j] + 1))).map (irow .u8))), ⟨hp.c6 (by rw [List.length_set]; exact hul), by rw [List.length_set]; exact hXl⟩, ?_⟩
                  dsimp only
                  rw [List.map_set, ← List.set_append_left _ _ hiu]
                  exact Ent.env (by simp [okLt, oAz, irow])
                · rintro X ⟨hp, hXl⟩
                  have eX : ∀ o : Option (Nat × List Row), (X ++ [o])[G.length]? = some o := fun o => by rw [← hXl]; simp
                  simp [Try.ntmps6, Try.results6, cSl, cp0, cp1, cp2, cp3, cn0, cn1, cn2, cn3, cn4, cn5, cn6, cn7, cn8, cn9, cn10, cI, cD, cR, cF, cA, -view, -cold, -cellsOf, -oneA, -allOneA, one_esl, one_osl, one_int, allOne_nil, allOne_cons, cells_rm, okLt, oAz, eX, hXl]
                  clear eX
                  refine loop_forE r6.spaces.length (fun j (X : Heap) => ([(19, .fn 63 [.ptr 0 1 0 0, .ptr 7 1 0 0, .ptr 2 2 0 0, .ptr 8 1 0 0, .ptr 3 1 0 0, .ptr 9 1 0 0, .ptr 10 1 0 0]), (36, (okL o7 (R + 1) 17 L7.length)), (39, (okL o8 (R + 2) 17 L8.length)), (42, .v (.bool true)), (47, .ptr G.length 2 0 0), (172, .agg [oA 15 1 r4.cells.length, okL o4 (15 + 1) 1 r4.spaces.length, oA (P + 1) 1 r5.cells.length, okL o5 ((P + 1) + 1) 1 r5.spaces.length, oA (Q + 1) 1 r6.cells.length, okL true ((Q + 1) + 1) 1 r6.spaces.length]), (173, .v (.int .i64 2)), (192, .v (.int .i64 r6.spaces.length)), (193, .v (.int .i64 j))], X ++ [some (2, [[.osl (Q + 1) 1 0 r6.cells.length r6.cells.length, .osl ((Q + 1) + 1) 1 0 r6.spaces.length r6.spaces.length]])])) (fun j X => KI l cs sp m o1 o2 o3 o4 o5 true o7 o8 L1.length L2.length L3.length L7.length L8.length r4 r5 r6 P Q R X ∧ X.length = G.length) X (fun j _ hj _ => by omega) ⟨hp, hXl⟩ ?_ ?_ ?_
                  · exact Ent.env (by simp [okLt, oAz])
                  · clear hp hXl X
                    rintro j X hj ⟨hp, hXl⟩ hw2
                    obtain ⟨hcc, hob, hin⟩ := hp.l6 rfl
                    have hg := obj_get hob
                    have hi := ob_lt hob
                    have hgi := (List.getElem?_eq_some_iff.1 hg).2
                    have hrl : (ownR 1 ((Q + 1) + 2) r6.spaces).length = r6.spaces.length := ownR_len
                    have hgr := ownR_get (sz := 1) (c := (Q + 1) + 2) hj
                    have hg2 : (ownR 1 ((Q + 1) + 2) r6.spaces)[j]'(by rw [hrl]; exact hj) = [oA (j + ((Q + 1) + 2)) 1 r6.spaces[j].length] := by
                      rw [List.getElem?_eq_getElem (by rw [hrl]; exact hj)] at hgr
                      simpa using hgr
                    have eX : ∀ o : Option (Nat × List Row), (X ++ [o])[G.length]? = some o := fun o => by rw [← hXl]; simp
                    have eW : ∀ o : Option (Nat × List Row), (X ++ [o])[(Q + 1) + 1]? = some (some (1, ownR 1 ((Q + 1) + 2) r6.spaces)) := fun o => by rw [List.getElem?_append_left hi]; exact hg
                    have hu6 := hbu j hj
                    by_cases hsz : r6.spaces[j].length = 0
                    · have oAs : oA (j + ((Q + 1) + 2)) 1 r6.spaces[j].length = .esl := by rw [hsz]; rfl
                      skip
                      simp [Try.ntmps6, Try.results6, cSl, cp0, cp1, cp2, cp3, cn0, cn1, cn2, cn3, cn4, cn5, cn6, cn7, cn8, cn9, cn10, cI, cD, cR, cF, cA, -view, -cold, -cellsOf, -oneA, -allOneA, one_esl, one_osl, one_int, allOne_nil, allOne_cons, cells_rm, okLt, oAz, oAs, hw2, eX, eW, hj, hXl, hrl, hg2, hi, hgi]
                      refine loop_forE 0 (fun i (_ : Unit) => ([(19, .fn 63 [.ptr 0 1 0 0, .ptr 7 1 0 0, .ptr 2 2 0 0, .ptr 8 1 0 0, .ptr 3 1 0 0, .ptr 9 1 0 0, .ptr 10 1 0 0]), (36, (okL o7 (R + 1) 17 L7.length)), (39, (okL o8 (R + 2) 17 L8.length)), (42, .v (.bool true)), (47, .ptr G.length 2 0 0), (172, .agg [oA 15 1 r4.cells.length, okL o4 (15 + 1) 1 r4.spaces.length, oA (P + 1) 1 r5.cells.length, okL o5 ((P + 1) + 1) 1 r5.spaces.length, oA (Q + 1) 1 r6.cells.length, okL true ((Q + 1) + 1) 1 r6.spaces.length]), (173, .v (.int .i64 2)), (49, .v (.int .i64 j)), (192, .v (.int .i64 r6.spaces.length)), (193, .v (.int .i64 j)), (201, .v (.int .i64 0)), (202, .v (.int .i64 i))], X ++ [some (2, [[.osl (Q + 1) 1 0 r6.cells.length r6.cells.length, .osl ((Q + 1) + 1) 1 0 r6.spaces.length r6.spaces.length]])])) (fun j _ => True) () (fun j _ hj _ => by omega) trivial ?_ (fun j _ hj => by omega) ?_
                      · exact Ent.env (by simp [okLt, oAz])
                      rintro _ _
                      simp [Try.ntmps6, Try.results6, cSl, cp0, cp1, cp2, cp3, cn0, cn1, cn2, cn3, cn4, cn5, cn6, cn7, cn8, cn9, cn10, cI, cD, cR, cF, cA, -view, -cold, -cellsOf, -oneA, -allOneA, one_esl, one_osl, one_int, allOne_nil, allOne_cons, cells_rm, okLt, oAz, hw2]
                      exact ⟨X, ⟨hp, hXl⟩, Ent.env (by simp [okLt, oAz])⟩
                    · have hsn : r6.spaces[j] ≠ [] := fun e => hsz (by rw [e]; rfl)
                      have oAs : oA (j + ((Q + 1) + 2)) 1 r6.spaces[j].length = .osl (j + ((Q + 1) + 2)) 1 0 r6.spaces[j].length r6.spaces[j].length := oA_pos hsz
                      skip
                      simp [Try.ntmps6, Try.results6, cSl, cp0, cp1, cp2, cp3, cn0, cn1, cn2, cn3, cn4, cn5, cn6, cn7, cn8, cn9, cn10, cI, cD, cR, cF, cA, -view, -cold, -cellsOf, -oneA, -allOneA, one_esl, one_osl, one_int, allOne_nil, allOne_cons, cells_rm, okLt, oAz, oAs, hw2, eX, eW, hj, hXl, hrl, hg2, hi, hgi]
                      refine loop_forE r6.spaces[j].length (fun i (X : Heap) => ([(19, .fn 63 [.ptr 0 1 0 0, .ptr 7 1 0 0, .ptr 2 2 0 0, .ptr 8 1 0 0, .ptr 3 1 0 0, .ptr 9 1 0 0, .ptr 10 1 0 0]), (36, (okL o7 (R + 1) 17 L7.length)), (39, (okL o8 (R + 2) 17 L8.length)), (42, .v (.bool true)), (47, .ptr G.length 2 0 0), (172, .agg [oA 15 1 r4.cells.length, okL o4 (15 + 1) 1 r4.spaces.length, oA (P + 1) 1 r5.cells.length, okL o5 ((P + 1) + 1) 1 r5.spaces.length, oA (Q + 1) 1 r6.cells.length, okL true ((Q + 1) + 1) 1 r6.spaces.length]), (173, .v (.int .i64 2)), (49, .v (.int .i64 j)), (192, .v (.int .i64 r6.spaces.length)), (193, .v (.int .i64 j)), (201, .v (.int .i64 r6.spaces[j].length)), (202, .v (.int .i64 i))], X ++ [some (2, [[.osl (Q + 1) 1 0 r6.cells.length r6.cells.length, .osl ((Q + 1) + 1) 1 0 r6.spaces.length r6.spaces.length]])])) (fun i X => KI l cs sp m o1 o2 o3 o4 o5 true o7 o8 L1.length L2.length L3.length L7.length L8.length r4 r5 r6 P Q R X ∧ X.length = G.length) X (fun i _ hi _ => by omega) ⟨hp, hXl⟩ ?_ ?_ ?_
                      · exact Ent.env (by simp [okLt, oAz])
                      · clear eX eW hcc hob hin hg hi hgi hp hXl
                        clear X
                        rintro i X hi2 ⟨hp, hXl⟩ hw3
                        obtain ⟨hcc, hob, hin⟩ := hp.l6 rfl
                        obtain ⟨u, hul, hobu⟩ := hin j hj hsn
                        have hg := obj_get hob
                        have hi := ob_lt hob
                        have hgi := (List.getElem?_eq_some_iff.1 hg).2
                        have hgu := obj_get hobu
                        have hiu := ob_lt hobu
                        have hgiu := (List.getElem?_eq_some_iff.1 hgu).2
                        have eX : ∀ o : Option (Nat × List Row), (X ++ [o])[G.length]? = some o := fun o => by rw [← hXl]; simp
                        have eW : ∀ o : Option (Nat × List Row), (X ++ [o])[(Q + 1) + 1]? = some (some (1, ownR 1 ((Q + 1) + 2) r6.spaces)) := fun o => by rw [List.getElem?_append_left hi]; exact hg
                        have eU : ∀ o : Option (Nat × List Row), (X ++ [o])[j + ((Q + 1) + 2)]? = some (some (1, u.map (irow .i64))) := fun o => by rw [List.getElem?_append_left hiu]; exact hgu
                        have hiul : i < u.length := by omega
                        skip
                        simp [Try.ntmps6, Try.results6, cSl, cp0, cp1, cp2, cp3, cn0, cn1, cn2, cn3, cn4, cn5, cn6, cn7, cn8, cn9, cn10, cI, cD, cR, cF, cA, -view, -cold, -cellsOf, -oneA, -allOneA, one_esl, one_osl, one_int, allOne_nil, allOne_cons, cells_rm, okLt, oAz, oAs, hw3, eX, eW, eU, hj, hi2, hiul, hXl, hrl, hg2, hul, irow, hi, hgi, hiu, hgiu]
                        refine ⟨X.set (j + ((Q + 1) + 2)) (some (1, (u.set i (IntKind.i64.wrap (u[i] + 1))).map (irow .i64))), ⟨hp.d6 hj (by rw [List.length_set]; exact hul), by rw [List.length_set]; exact hXl⟩, ?_⟩
                        dsimp only
                        rw [List.map_set, ← List.set_append_left _ _ hiu]
                        exact Ent.env (by simp [okLt, oAz, irow])
                      · rintro X ⟨hp, hXl⟩
                        simp [Try.ntmps6, Try.results6, cSl, cp0, cp1, cp2, cp3, cn0, cn1, cn2, cn3, cn4, cn5, cn6, cn7, cn8, cn9, cn10, cI, cD, cR, cF, cA, -view, -cold, -cellsOf, -oneA, -allOneA, one_esl, one_osl, one_int, allOne_nil, allOne_cons, cells_rm, okLt, oAz, hw2]
                        exact ⟨X, ⟨hp, hXl⟩, Ent.env (by simp [okLt, oAz])⟩
                  · rintro X ⟨hp, hXl⟩
                    simp [Try.ntmps6, Try.results6, cSl, cp0, cp1, cp2, cp3, cn0, cn1, cn2, cn3, cn4, cn5, cn6, cn7, cn8, cn9, cn10, cI, cD, cR, cF, cA, -view, -cold, -cellsOf, -oneA, -allOneA, one_esl, one_osl, one_int, allOne_nil, allOne_cons, cells_rm, okLt, oAz]
                    exact ⟨_, hp.app _, Ent.env (by simp [okLt, oAz])⟩
        · clear e4 e5 e6 g4 g5 g6 l4 l5 l6 hp
          clear G
          rintro G hp
          simp [Try.ntmps6, Try.results6, cSl, cp0, cp1, cp2, cp3, cn0, cn1, cn2, cn3, cn4, cn5, cn6, cn7, cn8, cn9, cn10, cI, cD, cR, cF, cA, -view, -cold, -cellsOf, -oneA, -allOneA, one_esl, one_osl, one_int, allOne_nil, allOne_cons, cells_rm]
          refine loop_forE 2 (fun k (G : Heap) => ([(19, .fn 63 [.ptr 0 1 0 0, .ptr 7 1 0 0, .ptr 2 2 0 0, .ptr 8 1 0 0, .ptr 3 1 0 0, .ptr 9 1 0 0, .ptr 10 1 0 0]), (42, .v (.bool true)), (220, .agg [(okL o7 (R + 1) 17 L7.length), (okL o8 (R + 2) 17 L8.length)]), (221, .v (.int .i64 k))], G)) (fun k G => KI l cs sp m o1 o2 o3 o4 o5 o6 o7 o8 L1.length L2.length L3.length L7.length L8.length r4 r5 r6 P Q R G) G (fun k _ hk _ => by omega) hp ?_ ?_ ?_
          · exact Ent.env (by simp)
          · clear hp
            clear G
            rintro k G hk hp hw
            rcases (by omega : k = 0 ∨ k = 1) with rfl | rfl
            · cases o7 with
              | false =>
                simp [Try.ntmps6, Try.results6, cSl, cp0, cp1, cp2, cp3, cn0, cn1, cn2, cn3, cn4, cn5, cn6, cn7, cn8, cn9, cn10, cI, cD, cR, cF, cA, -view, -cold, -cellsOf, -oneA, -allOneA, one_esl, one_osl, one_int, allOne_nil, allOne_cons, cells_rm, okLf]
                refine loop_forE 0 (fun j (_ : Unit) => ([(19, .fn 63 [.ptr 0 1 0 0, .ptr 7 1 0 0, .ptr 2 2 0 0, .ptr 8 1 0 0, .ptr 3 1 0 0, .ptr 9 1 0 0, .ptr 10 1 0 0]), (42, .v (.bool true)), (52, .esl), (220, .agg [(okL false (R + 1) 17 L7.length), (okL o8 (R + 2) 17 L8.length)]), (221, .v (.int .i64 0)), (225, .v (.int .i64 0)), (226, .v (.int .i64 j))], G)) (fun j _ => True) () (fun j _ hj _ => by omega) trivial ?_ (fun j _ hj => by omega) ?_
                · exact Ent.env (by simp [okLf])
                rintro _ _
                simp [Try.ntmps6, Try.results6, cSl, cp0, cp1, cp2, cp3, cn0, cn1, cn2, cn3, cn4, cn5, cn6, cn7, cn8, cn9, cn10, cI, cD, cR, cF, cA, -view, -cold, -cellsOf, -oneA, -allOneA, one_esl, one_osl, one_int, allOne_nil, allOne_cons, cells_rm, okLf]
                exact ⟨_, hp, Ent.env (by simp [okLf])⟩
              | true =>
                simp [Try.ntmps6, Try.results6, cSl, cp0, cp1, cp2, cp3, cn0, cn1, cn2, cn3, cn4, cn5, cn6, cn7, cn8, cn9, cn10, cI, cD, cR, cF, cA, -view, -cold, -cellsOf, -oneA, -allOneA, one_esl, one_osl, one_int, allOne_nil, allOne_cons, cells_rm, okLt]
                refine loop_forE L7.length (fun j (X : Heap) => ([(19, .fn 63 [.ptr 0 1 0 0, .ptr 7 1 0 0, .ptr 2 2 0 0, .ptr 8 1 0 0, .ptr 3 1 0 0, .ptr 9 1 0 0, .ptr 10 1 0 0]), (42, .v (.bool true)), (52, .osl (R + 1) 17 0 L7.length L7.length), (220, .agg [(okL true (R + 1) 17 L7.length), (okL o8 (R + 2) 17 L8.length)]), (221, .v (.int .i64 0)), (225, .v (.int .i64 L7.length)), (226, .v (.int .i64 j))], X)) (fun j X => KI l cs sp m o1 o2 o3 o4 o5 o6 true o8 L1.length L2.length L3.length L7.length L8.length r4 r5 r6 P Q R X) G (fun j _ hj _ => by omega) hp ?_ ?_ ?_
                · exact Ent.env (by simp [okLt])
                · rintro j X hj hp hw2
                  obtain ⟨W, hW, hob⟩ := hp.l7 rfl
                  have hg := obj_get hob
                  have hi := ob_lt hob
                  have hgi := (List.getElem?_eq_some_iff.1 hg).2
                  have hjW : j < W.length := by omega
                  simp [Try.ntmps6, Try.results6, cSl, cp0, cp1, cp2, cp3, cn0, cn1, cn2, cn3, cn4, cn5, cn6, cn7, cn8, cn9, cn10, cI, cD, cR, cF, cA, -view, -cold, -cellsOf, -oneA, -allOneA, one_esl, one_osl, one_int, allOne_nil, allOne_cons, cells_rm, okLt, hw2, hg, hW, hj, hjW, hi, hgi, Slot.row, Pg.row]
                  refine ⟨X.set (R + 1) (some (17, (W.set j ⟨IntKind.i64.wrap (W[j].many + 1), W[j].data⟩).map Slot.row)), hp.s7 (by rw [List.length_set]; exact hW), ?_⟩
                  rw [List.map_set]
                  exact Ent.env (by simp [okLt])
                · rintro X hp
                  simp [Try.ntmps6, Try.results6, cSl, cp0, cp1, cp2, cp3, cn0, cn1, cn2, cn3, cn4, cn5, cn6, cn7, cn8, cn9, cn10, cI, cD, cR, cF, cA, -view, -cold, -cellsOf, -oneA, -allOneA, one_esl, one_osl, one_int, allOne_nil, allOne_cons, cells_rm, okLt]
                  exact ⟨_, hp, Ent.env (by simp [okLt])⟩
            · cases o8 with
              | false =>
                simp [Try.ntmps6, Try.results6, cSl, cp0, cp1, cp2, cp3, cn0, cn1, cn2, cn3, cn4, cn5, cn6, cn7, cn8, cn9, cn10, cI, cD, cR, cF, cA, -view, -cold, -cellsOf, -oneA, -allOneA, one_esl, one_osl, one_int, allOne_nil, allOne_cons, cells_rm, okLf]
                refine loop_forE 0 (fun j (_ : Unit) => ([(19, .fn 63 [.ptr 0 1 0 0, .ptr 7 1 0 0, .ptr 2 2 0 0, .ptr 8 1 0 0, .ptr 3 1 0 0, .ptr 9 1 0 0, .ptr 10 1 0 0]), (42, .v (.bool true)), (52, .esl), (220, .agg [(okL o7 (R + 1) 17 L7.length), (okL false (R + 2) 17 L8.length)]), (221, .v (.int .i64 1)), (225, .v (.int .i64 0)), (226, .v (.int .i64 j))], G)) (fun j _ => True) () (fun j _ hj _ => by omega) trivial ?_ (fun j _ hj => by omega) ?_
                · exact Ent.env (by simp [okLf])
                rintro _ _
                simp [Try.ntmps6, Try.results6, cSl, cp0, cp1, cp2, cp3, cn0, cn1, cn2, cn3, cn4, cn5, cn6, cn7, cn8, cn9, cn10, cI, cD, cR, cF, cA, -view, -cold, -cellsOf, -oneA, -allOneA, one_esl, one_osl, one_int, allOne_nil, allOne_cons, cells_rm, okLf]
                exact ⟨_, hp, Ent.env (by simp [okLf])⟩
              | true =>
                simp [Try.ntmps6, Try.results6, cSl, cp0, cp1, cp2, cp3, cn0, cn1, cn2, cn3, cn4, cn5, cn6, cn7, cn8, cn9, cn10, cI, cD, cR, cF, cA, -view, -cold, -cellsOf, -oneA, -allOneA, one_esl, one_osl, one_int, allOne_nil, allOne_cons, cells_rm, okLt]
                refine loop_forE L8.length (fun j (X : Heap) => ([(19, .fn 63 [.ptr 0 1 0 0, .ptr 7 1 0 0, .ptr 2 2 0 0, .ptr 8 1 0 0, .ptr 3 1 0 0, .ptr 9 1 0 0, .ptr 10 1 0 0]), (42, .v (.bool true)), (52, .osl (R + 2) 17 0 L8.length L8.length), (220, .agg [(okL o7 (R + 1) 17 L7.length), (okL true (R + 2) 17 L8.length)]), (221, .v (.int .i64 1)), (225, .v (.int .i64 L8.length)), (226, .v (.int .i64 j))], X)) (fun j X => KI l cs sp m o1 o2 o3 o4 o5 o6 o7 true L1.length L2.length L3.length L7.length L8.length r4 r5 r6 P Q R X) G (fun j _ hj _ => by omega) hp ?_ ?_ ?_
                · exact Ent.env (by simp [okLt])
                · rintro j X hj hp hw2
                  obtain ⟨W, hW, hob⟩ := hp.l8 rfl
                  have hg := obj_get hob
                  have hi := ob_lt hob
                  have hgi := (List.getElem?_eq_some_iff.1 hg).2
                  have hjW : j < W.length := by omega
                  simp [Try.ntmps6, Try.results6, cSl, cp0, cp1, cp2, cp3, cn0, cn1, cn2, cn3, cn4, cn5, cn6, cn7, cn8, cn9, cn10, cI, cD, cR, cF, cA, -view, -cold, -cellsOf, -oneA, -allOneA, one_esl, one_osl, one_int, allOne_nil, allOne_cons, cells_rm, okLt, hw2, hg, hW, hj, hjW, hi, hgi, Slot.row, Pg.row]
                  refine ⟨X.set (R + 2) (some (17, (W.set j ⟨IntKind.i64.wrap (W[j].many + 1), W[j].data⟩).map Slot.row)), hp.s8 (by rw [List.length_set]; exact hW), ?_⟩
                  rw [List.map_set]
                  exact Ent.env (by simp [okLt])
                · rintro X hp
                  simp [Try.ntmps6, Try.results6, cSl, cp0, cp1, cp2, cp3, cn0, cn1, cn2, cn3, cn4, cn5, cn6, cn7, cn8, cn9, cn10, cI, cD, cR, cF, cA, -view, -cold, -cellsOf, -oneA, -allOneA, one_esl, one_osl, one_int, allOne_nil, allOne_cons, cells_rm, okLt]
                  exact ⟨_, hp, Ent.env (by simp [okLt])⟩
          · clear hp
            clear G
            rintro G hp
            have hsG := hsame G hp.b
            simp [Try.ntmps6, Try.results6, cSl, cp0, cp1, cp2, cp3, cn0, cn1, cn2, cn3, cn4, cn5, cn6, cn7, cn8, cn9, cn10, cI, cD, cR, cF, cA, -view, -cold, -cellsOf, -oneA, -allOneA, one_esl, one_osl, one_int, allOne_nil, allOne_cons, cells_rm, hsG, hnm]
            simp [view]
  · intro τ hτ
    rw [show chunksOf 13 _ = [[0,1,2,3,4,5,6,7,8,9,10,11,12],[0,1,2,3,4,5,6,7,9,8,10,11,12],[0,1,2,3,4,5,6,8,7,9,10,11,12],[0,1,2,3,4,5,6,8,9,7,10,11,12],[0,1,2,3,4,5,6,9,7,8,10,11,12],[0,1,2,3,4,5,6,9,8,7,10,11,12],[0,1,2,3,4,5,7,6,8,9,10,11,12],[0,1,2,3,4,5,7,6,9,8,10,11,12],[0,1,2,3,4,5,7,8,6,9,10,11,12],[0,1,2,3,4,5,7,8,9,6,10,11,12],[0,1,2,3,4,5,7,9,6,8,10,11,12],[0,1,2,3,4,5,7,9,8,6,10,11,12],[0,1,2,3,4,5,8,6,7,9,10,11,12],[0,1,2,3,4,5,8,6,9,7,10,11,12],[0,1,2,3,4,5,8,7,6,9,10,11,12],[0,1,2,3,4,5,8,7,9,6,10,11,12],[0,1,2,3,4,5,8,9,6,7,10,11,12],[0,1,2,3,4,5,8,9,7,6,10,11,12],[0,1,2,3,4,5,9,6,7,8,10,11,12],[0,1,2,3,4,5,9,6,8,7,10,11,12],[0,1,2,3,4,5,9,7,6,8,10,11,12],[0,1,2,3,4,5,9,7,8,6,10,11,12],[0,1,2,3,4,5,9,8,6,7,10,11,12],[0,1,2,3,4,5,9,8,7,6,10,11,12],[0,1,2,3,5,7,4,6,8,9,10,11,12],[0,1,2,3,5,7,4,6,9,8,10,11,12],[0,1,2,3,5,7,4,8,6,9,10,11,12],[0,1,2,3,5,7,4,8,9,6,10,11,12],[0,1,2,3,5,7,4,9,6,8,10,11,12],[0,1,2,3,5,7,4,9,8,6,10,11,12],[0,1,2,3,5,7,8,4,6,9,10,11,12],[0,1,2,3,5,7,8,4,9,6,10,11,12],[0,1,2,3,5,7,8,9,4,6,10,11,12],[0,1,2,3,5,7,9,4,6,8,10,11,12],[0,1,2,3,5,7,9,4,8,6,10,11,12],[0,1,2,3,5,7,9,8,4,6,10,11,12],[0,1,2,3,5,8,4,6,7,9,10,11,12],[0,1,2,3,5,8,4,6,9,7,10,11,12],[0,1,2,3,5,8,4,7,6,9,10,11,12],[0,1,2,3,5,8,4,7,9,6,10,11,12],[0,1,2,3,5,8,4,9,6,7,10,11,12],[0,1,2,3,5,8,4,9,7,6,10,11,12],[0,1,2,3,5,8,7,4,6,9,10,11,12],[0,1,2,3,5,8,7,4,9,6,10,11,12],[0,1,2,3,5,8,7,9,4,6,10,11,12],[0,1,2,3,5,8,9,4,6,7,10,11,12],[0,1,2,3,5,8,9,4,7,6,10,11,12],[0,1,2,3,5,8,9,7,4,6,10,11,12],[0,1,2,3,5,9,4,6,7,8,10,11,12],[0,1,2,3,5,9,4,6,8,7,10,11,12],[0,1,2,3,5,9,4,7,6,8,10,11,12],[0,1,2,3,5,9,4,7,8,6,10,11,12],[0,1,2,3,5,9,4,8,6,7,10,11,12],[0,1,2,3,5,9,4,8,7,6,10,11,12],[0,1,2,3,5,9,7,4,6,8,10,11,12],[0,1,2,3,5,9,7,4,8,6,10,11,12],[0,1,2,3,5,9,7,8,4,6,10,11,12],[0,1,2,3,5,9,8,4,6,7,10,11,12],[0,1,2,3,5,9,8,4,7,6,10,11,12],[0,1,2,3,5,9,8,7,4,6,10,11,12],[0,2,3,5,7,1,4,6,8,9,10,11,12],[0,2,3,5,7,1,4,6,9,8,10,11,12],[0,2,3,5,7,1,4,8,6,9,10,11,12],[0,2,3,5,7,1,4,8,9,6,10,11,12],[0,2,3,5,7,1,4,9,6,8,10,11,12],[0,2,3,5,7,1,4,9,8,6,10,11,12],[0,2,3,5,7,1,8,4,6,9,10,11,12],[0,2,3,5,7,1,8,4,9,6,10,11,12],[0,2,3,5,7,1,8,9,4,6,10,11,12],[0,2,3,5,7,1,9,4,6,8,10,11,12],[0,2,3,5,7,1,9,4,8,6,10,11,12],[0,2,3,5,7,1,9,8,4,6,10,11,12],[0,2,3,5,7,8,1,4,6,9,10,11,12],[0,2,3,5,7,8,1,4,9,6,10,11,12],[0,2,3,5,7,8,1,9,4,6,10,11,12],[0,2,3,5,7,8,9,1,4,6,10,11,12],[0,2,3,5,7,9,1,4,6,8,10,11,12],[0,2,3,5,7,9,1,4,8,6,10,11,12],[0,2,3,5,7,9,1,8,4,6,10,11,12],[0,2,3,5,7,9,8,1,4,6,10,11,12],[0,2,3,5,8,1,4,6,7,9,10,11,12],[0,2,3,5,8,1,4,6,9,7,10,11,12],[0,2,3,5,8,1,4,7,6,9,10,11,12],[0,2,3,5,8,1,4,7,9,6,10,11,12],[0,2,3,5,8,1,4,9,6,7,10,11,12],[0,2,3,5,8,1,4,9,7,6,10,11,12],[0,2,3,5,8,1,7,4,6,9,10,11,12],[0,2,3,5,8,1,7,4,9,6,10,11,12],[0,2,3,5,8,1,7,9,4,6,10,11,12],[0,2,3,5,8,1,9,4,6,7,10,11,12],[0,2,3,5,8,1,9,4,7,6,10,11,12],[0,2,3,5,8,1,9,7,4,6,10,11,12],[0,2,3,5,8,7,1,4,6,9,10,11,12],[0,2,3,5,8,7,1,4,9,6,10,11,12],[0,2,3,5,8,7,1,9,4,6,10,11,12],[0,2,3,5,8,7,9,1,4,6,10,11,12],[0,2,3,5,8,9,1,4,6,7,10,11,12],[0,2,3,5,8,9,1,4,7,6,10,11,12],[0,2,3,5,8,9,1,7,4,6,10,11,12],[0,2,3,5,8,9,7,1,4,6,10,11,12],[0,2,3,5,9,1,4,6,7,8,10,11,12],[0,2,3,5,9,1,4,6,8,7,10,11,12],[0,2,3,5,9,1,4,7,6,8,10,11,12],[0,2,3,5,9,1,4,7,8,6,10,11,12],[0,2,3,5,9,1,4,8,6,7,10,11,12],[0,2,3,5,9,1,4,8,7,6,10,11,12],[0,2,3,5,9,1,7,4,6,8,10,11,12],[0,2,3,5,9,1,7,4,8,6,10,11,12],[0,2,3,5,9,1,7,8,4,6,10,11,12],[0,2,3,5,9,1,8,4,6,7,10,11,12],[0,2,3,5,9,1,8,4,7,6,10,11,12],[0,2,3,5,9,1,8,7,4,6,10,11,12],[0,2,3,5,9,7,1,4,6,8,10,11,12],[0,2,3,5,9,7,1,4,8,6,10,11,12],[0,2,3,5,9,7,1,8,4,6,10,11,12],[0,2,3,5,9,7,8,1,4,6,10,11,12],[0,2,3,5,9,8,1,4,6,7,10,11,12],[0,2,3,5,9,8,1,4,7,6,10,11,12],[0,2,3,5,9,8,1,7,4,6,10,11,12],[0,2,3,5,9,8,7,1,4,6,10,11,12]] from by rfl] at hτ
    simp only [List.mem_cons, List.not_mem_nil, or_false] at hτ
    rcases hτ with rfl | rfl | rfl | rfl | rfl | rfl | rfl | rfl | rfl | rfl | rfl | rfl | rfl | rfl | rfl | rfl | rfl | rfl | rfl | rfl | rfl | rfl | rfl | rfl | rfl | rfl | rfl | rfl | rfl | rfl | rfl | rfl | rfl | rfl | rfl | rfl | rfl | rfl | rfl | rfl | rfl | rfl | rfl | rfl | rfl | rfl | rfl | rfl | rfl | rfl | rfl | rfl | rfl | rfl | rfl | rfl | rfl | rfl | rfl | rfl | rfl | rfl | rfl | rfl | rfl | rfl | rfl | rfl | rfl | rfl | rfl | rfl | rfl | rfl | rfl | rfl | rfl | rfl | rfl | rfl | rfl | rfl | rfl | rfl | rfl | rfl | rfl | rfl | rfl | rfl | rfl | rfl | rfl | rfl | rfl | rfl | rfl | rfl | rfl | rfl | rfl | rfl | rfl | rfl | rfl | rfl | rfl | rfl | rfl | rfl | rfl | rfl | rfl | rfl | rfl | rfl | rfl | rfl | rfl | rfl
    all_goals
      simp [Try.ntmps6, Try.results6, cSl, cp0, cp1, cp2, cp3, cn0, cn1, cn2, cn3, cn4, cn5, cn6, cn7, cn8, cn9, cn10, cI, cD, cR, cF, cA, -view, -cold, -cellsOf, rI, rPr, prDec, Pr.row, rRoom, roomDec, Room.row, rSlot, slotDec, rPg, u1, u2, u3]
      intro n0 hn
    refine ent_le (th := [4, 5, 6, 7, 8, 9]) ?_ hn; rotate_left
    refine ent_le (th := [4, 5, 6, 7, 9, 8]) ?_ hn; rotate_left
    refine ent_le (th := [4, 5, 6, 8, 7, 9]) ?_ hn; rotate_left
    refine ent_le (th := [4, 5, 6, 9, 7, 8]) ?_ hn; rotate_left
    refine ent_le (th := [4, 5, 6, 8, 9, 7]) ?_ hn; rotate_left
    refine ent_le (th := [4, 5, 6, 9, 8, 7]) ?_ hn; rotate_left
    refine ent_le (th := [4, 5, 7, 6, 8, 9]) ?_ hn; rotate_left
    refine ent_le (th := [4, 5, 7, 6, 9, 8]) ?_ hn; rotate_left
    refine ent_le (th := [4, 5, 8, 6, 7, 9]) ?_ hn; rotate_left
    refine ent_le (th := [4, 5, 9, 6, 7, 8]) ?_ hn; rotate_left
    refine ent_le (th := [4, 5, 8, 6, 9, 7]) ?_ hn; rotate_left
    refine ent_le (th := [4, 5, 9, 6, 8, 7]) ?_ hn; rotate_left
    refine ent_le (th := [4, 5, 7, 8, 6, 9]) ?_ hn; rotate_left
    refine ent_le (th := [4, 5, 7, 9, 6, 8]) ?_ hn; rotate_left
    refine ent_le (th := [4, 5, 8, 7, 6, 9]) ?_ hn; rotate_left
    refine ent_le (th := [4, 5, 9, 7, 6, 8]) ?_ hn; rotate_left
    refine ent_le (th := [4, 5, 8, 9, 6, 7]) ?_ hn; rotate_left
    refine ent_le (th := [4, 5, 9, 8, 6, 7]) ?_ hn; rotate_left
    refine ent_le (th := [4, 5, 7, 8, 9, 6]) ?_ hn; rotate_left
    refine ent_le (th := [4, 5, 7, 9, 8, 6]) ?_ hn; rotate_left
    refine ent_le (th := [4, 5, 8, 7, 9, 6]) ?_ hn; rotate_left
    refine ent_le (th := [4, 5, 9, 7, 8, 6]) ?_ hn; rotate_left
    refine ent_le (th := [4, 5, 8, 9, 7, 6]) ?_ hn; rotate_left
    refine ent_le (th := [4, 5, 9, 8, 7, 6]) ?_ hn; rotate_left
    refine ent_le (th := [4, 6, 7, 5, 8, 9]) ?_ hn; rotate_left
    refine ent_le (th := [4, 6, 7, 5, 9, 8]) ?_ hn; rotate_left
    refine ent_le (th := [4, 6, 8, 5, 7, 9]) ?_ hn; rotate_left
    refine ent_le (th := [4, 6, 9, 5, 7, 8]) ?_ hn; rotate_left
    refine ent_le (th := [4, 6, 8, 5, 9, 7]) ?_ hn; rotate_left
    refine ent_le (th := [4, 6, 9, 5, 8, 7]) ?_ hn; rotate_left
    refine ent_le (th := [4, 7, 8, 5, 6, 9]) ?_ hn; rotate_left
    refine ent_le (th := [4, 7, 9, 5, 6, 8]) ?_ hn; rotate_left
    refine ent_le (th := [4, 8, 9, 5, 6, 7]) ?_ hn; rotate_left
    refine ent_le (th := [4, 7, 8, 5, 9, 6]) ?_ hn; rotate_left
    refine ent_le (th := [4, 7, 9, 5, 8, 6]) ?_ hn; rotate_left
    refine ent_le (th := [4, 8, 9, 5, 7, 6]) ?_ hn; rotate_left
    refine ent_le (th := [4, 6, 7, 8, 5, 9]) ?_ hn; rotate_left
    refine ent_le (th := [4, 6, 7, 9, 5, 8]) ?_ hn; rotate_left
    refine ent_le (th := [4, 6, 8, 7, 5, 9]) ?_ hn; rotate_left
    refine ent_le (th := [4, 6, 9, 7, 5, 8]) ?_ hn; rotate_left
    refine ent_le (th := [4, 6, 8, 9, 5, 7]) ?_ hn; rotate_left
    refine ent_le (th := [4, 6, 9, 8, 5, 7]) ?_ hn; rotate_left
    refine ent_le (th := [4, 7, 8, 6, 5, 9]) ?_ hn; rotate_left
    refine ent_le (th := [4, 7, 9, 6, 5, 8]) ?_ hn; rotate_left
    refine ent_le (th := [4, 8, 9, 6, 5, 7]) ?_ hn; rotate_left
    refine ent_le (th := [4, 7, 8, 9, 5, 6]) ?_ hn; rotate_left
    refine ent_le (th := [4, 7, 9, 8, 5, 6]) ?_ hn; rotate_left
    refine ent_le (th := [4, 8, 9, 7, 5, 6]) ?_ hn; rotate_left
    refine ent_le (th := [4, 6, 7, 8, 9, 5]) ?_ hn; rotate_left
    refine ent_le (th := [4, 6, 7, 9, 8, 5]) ?_ hn; rotate_left
    refine ent_le (th := [4, 6, 8, 7, 9, 5]) ?_ hn; rotate_left
    refine ent_le (th := [4, 6, 9, 7, 8, 5]) ?_ hn; rotate_left
    refine ent_le (th := [4, 6, 8, 9, 7, 5]) ?_ hn; rotate_left
    refine ent_le (th := [4, 6, 9, 8, 7, 5]) ?_ hn; rotate_left
    refine ent_le (th := [4, 7, 8, 6, 9, 5]) ?_ hn; rotate_left
    refine ent_le (th := [4, 7, 9, 6, 8, 5]) ?_ hn; rotate_left
    refine ent_le (th := [4, 8, 9, 6, 7, 5]) ?_ hn; rotate_left
    refine ent_le (th := [4, 7, 8, 9, 6, 5]) ?_ hn; rotate_left
    refine ent_le (th := [4, 7, 9, 8, 6, 5]) ?_ hn; rotate_left
    refine ent_le (th := [4, 8, 9, 7, 6, 5]) ?_ hn; rotate_left
    refine ent_le (th := [5, 6, 7, 4, 8, 9]) ?_ hn; rotate_left
    refine ent_le (th := [5, 6, 7, 4, 9, 8]) ?_ hn; rotate_left
    refine ent_le (th := [5, 6, 8, 4, 7, 9]) ?_ hn; rotate_left
    refine ent_le (th := [5, 6, 9, 4, 7, 8]) ?_ hn; rotate_left
    refine ent_le (th := [5, 6, 8, 4, 9, 7]) ?_ hn; rotate_left
    refine ent_le (th := [5, 6, 9, 4, 8, 7]) ?_ hn; rotate_left
    refine ent_le (th := [5, 7, 8, 4, 6, 9]) ?_ hn; rotate_left
    refine ent_le (th := [5, 7, 9, 4, 6, 8]) ?_ hn; rotate_left
    refine ent_le (th := [5, 8, 9, 4, 6, 7]) ?_ hn; rotate_left
    refine ent_le (th := [5, 7, 8, 4, 9, 6]) ?_ hn; rotate_left
    refine ent_le (th := [5, 7, 9, 4, 8, 6]) ?_ hn; rotate_left
    refine ent_le (th := [5, 8, 9, 4, 7, 6]) ?_ hn; rotate_left
    refine ent_le (th := [6, 7, 8, 4, 5, 9]) ?_ hn; rotate_left
    refine ent_le (th := [6, 7, 9, 4, 5, 8]) ?_ hn; rotate_left
    refine ent_le (th := [6, 8, 9, 4, 5, 7]) ?_ hn; rotate_left
    refine ent_le (th := [7, 8, 9, 4, 5, 6]) ?_ hn; rotate_left
    refine ent_le (th := [6, 7, 8, 4, 9, 5]) ?_ hn; rotate_left
    refine ent_le (th := [6, 7, 9, 4, 8, 5]) ?_ hn; rotate_left
    refine ent_le (th := [6, 8, 9, 4, 7, 5]) ?_ hn; rotate_left
    refine ent_le (th := [7, 8, 9, 4, 6, 5]) ?_ hn; rotate_left
    refine ent_le (th := [5, 6, 7, 8, 4, 9]) ?_ hn; rotate_left
    refine ent_le (th := [5, 6, 7, 9, 4, 8]) ?_ hn; rotate_left
    refine ent_le (th := [5, 6, 8, 7, 4, 9]) ?_ hn; rotate_left
    refine ent_le (th := [5, 6, 9, 7, 4, 8]) ?_ hn; rotate_left
    refine ent_le (th := [5, 6, 8, 9, 4, 7]) ?_ hn; rotate_left
    refine ent_le (th := [5, 6, 9, 8, 4, 7]) ?_ hn; rotate_left
    refine ent_le (th := [5, 7, 8, 6, 4, 9]) ?_ hn; rotate_left
    refine ent_le (th := [5, 7, 9, 6, 4, 8]) ?_ hn; rotate_left
    refine ent_le (th := [5, 8, 9, 6, 4, 7]) ?_ hn; rotate_left
    refine ent_le (th := [5, 7, 8, 9, 4, 6]) ?_ hn; rotate_left
    refine ent_le (th := [5, 7, 9, 8, 4, 6]) ?_ hn; rotate_left
    refine ent_le (th := [5, 8, 9, 7, 4, 6]) ?_ hn; rotate_left
    refine ent_le (th := [6, 7, 8, 5, 4, 9]) ?_ hn; rotate_left
    refine ent_le (th := [6, 7, 9, 5, 4, 8]) ?_ hn; rotate_left
    refine ent_le (th := [6, 8, 9, 5, 4, 7]) ?_ hn; rotate_left
    refine ent_le (th := [7, 8, 9, 5, 4, 6]) ?_ hn; rotate_left
    refine ent_le (th := [6, 7, 8, 9, 4, 5]) ?_ hn; rotate_left
    refine ent_le (th := [6, 7, 9, 8, 4, 5]) ?_ hn; rotate_left
    refine ent_le (th := [6, 8, 9, 7, 4, 5]) ?_ hn; rotate_left
    refine ent_le (th := [7, 8, 9, 6, 4, 5]) ?_ hn; rotate_left
    refine ent_le (th := [5, 6, 7, 8, 9, 4]) ?_ hn; rotate_left
    refine ent_le (th := [5, 6, 7, 9, 8, 4]) ?_ hn; rotate_left
    refine ent_le (th := [5, 6, 8, 7, 9, 4]) ?_ hn; rotate_left
    refine ent_le (th := [5, 6, 9, 7, 8, 4]) ?_ hn; rotate_left
    refine ent_le (th := [5, 6, 8, 9, 7, 4]) ?_ hn; rotate_left
    refine ent_le (th := [5, 6, 9, 8, 7, 4]) ?_ hn; rotate_left
    refine ent_le (th := [5, 7, 8, 6, 9, 4]) ?_ hn; rotate_left
    refine ent_le (th := [5, 7, 9, 6, 8, 4]) ?_ hn; rotate_left
    refine ent_le (th := [5, 8, 9, 6, 7, 4]) ?_ hn; rotate_left
    refine ent_le (th := [5, 7, 8, 9, 6, 4]) ?_ hn; rotate_left
    refine ent_le (th := [5, 7, 9, 8, 6, 4]) ?_ hn; rotate_left
    refine ent_le (th := [5, 8, 9, 7, 6, 4]) ?_ hn; rotate_left
    refine ent_le (th := [6, 7, 8, 5, 9, 4]) ?_ hn; rotate_left
    refine ent_le (th := [6, 7, 9, 5, 8, 4]) ?_ hn; rotate_left
    refine ent_le (th := [6, 8, 9, 5, 7, 4]) ?_ hn; rotate_left
    refine ent_le (th := [7, 8, 9, 5, 6, 4]) ?_ hn; rotate_left
    refine ent_le (th := [6, 7, 8, 9, 5, 4]) ?_ hn; rotate_left
    refine ent_le (th := [6, 7, 9, 8, 5, 4]) ?_ hn; rotate_left
    refine ent_le (th := [6, 8, 9, 7, 5, 4]) ?_ hn; rotate_left
    refine ent_le (th := [7, 8, 9, 6, 5, 4]) ?_ hn; rotate_left
    all_goals simp [ren_oA, low_oA, heapT_pr, heapT_sw, heapT_in]
end
end
end Go.Proofs.Ytebpjfdbjhodiaa
