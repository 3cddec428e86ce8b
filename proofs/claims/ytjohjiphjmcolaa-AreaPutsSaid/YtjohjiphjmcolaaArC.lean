/- Package area: what its functions answer, the rest. -/
import Derived.Test.YtjohjiphjmcolaaArB
namespace Go.Proofs.Ytjohjiphjmcolaa
open Go.AI
set_option maxHeartbeats 2000000
set_option linter.unusedSimpArgs false
set_option linter.unusedVariables false
attribute [local simp] wpA wpX RunA RunD runF foot footP bare apart runL step1 gsel_f gsel_t gsel_s res_same res_and1 res_and2 res_and3 res_and4 res_and5 res_and6 res_false res_true res_v res_ptr res_fptr res_osl res_xsl soft aAppendZ aCap ovlI res_fsl res_esl res_agg res_tup res_fn res_junk res_anyb aPick hk imp_left iteV dstOk guardOk astep astepE AI.ev AI.look AI.put envOf aBox cellsOf allOne allOneA oneA Value.oneCell' Value.cells newObj' aFieldAddr aLoad obj readAt thenA blockA condA retA resA tupA view hot hotC hotR depthV cAgg cInt cBool mkAgg allV aAlloc aBuild fillA writeAt aStore isAggA aField idx aIndexAddr aIndex bnd aSlice aExtract aLen aBuiltin aCall isStatic eqAgg eqTy eqC ev_add ev_sub ev_mul ev_quo ev_rem ev_and ev_or ev_xor ev_andNot ev_shl ev_shr ev_eql ev_neq ev_lss ev_leq ev_gtr ev_geq ev_agg w64 wu32 wu8 ev_not ev_neg Cod.plain RCod.plain argM finM cold coldC coldR goInt intDec boolDec aggDec Weaker heapW lowA lowC Again slDec undef aBuildSlice setRows aAppend rowsOf aMakeSlice aClear aCopy softer_self softer_nil valsOf ev_min2 ev_max2 hotR_set hotR_append take_map_set irow_cold irow_mapM irow_mapMc irow_view irow_viewc irow_hotR irow_ren irow_renc irow_low WeakT heapT thOf ren renC AgainT NextF NextT fnDec cFn rNil selfLt natLt0 natLt1 getLastMap frame0 frame1 own0 own1 argG finG tau tauI tauO tauC bareA bareC bareH irow_tau irow_tauc irow_bare irow_flat irow_bareR ownA_nil ownT_nil ownA_c ownT_c ownA_s ownT_s takeMapLen footC plainA noId noIdC cloneF frame0F frame1F insertF fxSz2 fxBy2 fxAg2 fxZe2 fxSl2 fxAr2 fxPl2 fxSz3 fxBy3 fxAg3 fxZe3 fxSl3 fxAr3 fxPl3 fxSz4 fxBy4 fxAg4 fxZe4 fxSl4 fxAr4 fxPl4 fxSz5 fxBy5 fxAg5 fxZe5 fxSl5 fxAr5 fxPl5 fxSz9 fxBy9 fxAg9 fxZe9 fxSl9 fxAr9 fxPl9 fxSz12 fxBy12 fxAg12 fxZe12 fxSl12 fxAr12 fxPl12 fxSz13 fxBy13 fxAg13 fxZe13 fxSl13 fxAr13 fxFi13x0 fxFi13x1 fxPl13 fxSz21 fxBy21 fxAg21 fxZe21 fxSl21 fxAr21 fxPl21 fxSz22 fxBy22 fxAg22 fxZe22 fxSl22 fxAr22 fxPl22 fxSz23 fxBy23 fxAg23 fxZe23 fxSl23 fxAr23 fxFi23x0 fxFi23x1 fxFi23x2 fxPl23 fxSz24 fxBy24 fxAg24 fxZe24 fxSl24 fxAr24 fxFi24x0 fxFi24x1 fxFi24x2 fxPl24 fxSz25 fxBy25 fxAg25 fxZe25 fxSl25 fxAr25 fxPl25 fxSz42 fxBy42 fxAg42 fxZe42 fxSl42 fxAr42 fxPl42 fxSz43 fxBy43 fxAg43 fxZe43 fxSl43 fxAr43 fxFi43x0 fxFi43x1 fxPl43 fxSz44 fxBy44 fxAg44 fxZe44 fxSl44 fxAr44 fxFi44x0 fxFi44x1 fxPl44 fxSz48 fxBy48 fxAg48 fxZe48 fxSl48 fxAr48 fxFi48x0 fxFi48x1 fxPl48 fxSz49 fxBy49 fxAg49 fxZe49 fxSl49 fxAr49 fxFi49x0 fxFi49x1 fxPl49 fxSz53 fxBy53 fxAg53 fxZe53 fxSl53 fxAr53 fxPl53 fxSz59 fxBy59 fxAg59 fxZe59 fxSl59 fxAr59 fxPl59 fxSz68 fxBy68 fxAg68 fxZe68 fxSl68 fxAr68 fxPl68 fxSz85 fxBy85 fxAg85 fxZe85 fxSl85 fxAr85 fxPl85 fxSz91 fxBy91 fxAg91 fxZe91 fxSl91 fxAr91 fxPl91 fxSz92 fxBy92 fxAg92 fxZe92 fxSl92 fxAr92 fxFi92x0 fxPl92 fxSz95 fxBy95 fxAg95 fxZe95 fxSl95 fxAr95 fxPl95 fxSz99 fxBy99 fxAg99 fxZe99 fxSl99 fxAr99 fxPl99 fxSz104 fxBy104 fxAg104 fxZe104 fxSl104 fxAr104 fxPl104 fxEq24 fxEq49 fxEq53 fxCv2x2 fxCv2x3 fxCv2x5 fxCv2x12 fxCv2x21 fxCv2x25 fxCv2x95 fxCv3x2 fxCv3x3 fxCv3x5 fxCv3x12 fxCv3x21 fxCv3x25 fxCv3x95 fxCv5x2 fxCv5x3 fxCv5x5 fxCv5x12 fxCv5x21 fxCv5x25 fxCv5x95 fxCv12x2 fxCv12x3 fxCv12x5 fxCv12x12 fxCv12x21 fxCv12x25 fxCv12x95 fxCv21x2 fxCv21x3 fxCv21x5 fxCv21x12 fxCv21x21 fxCv21x25 fxCv21x95 fxCv25x2 fxCv25x3 fxCv25x5 fxCv25x12 fxCv25x21 fxCv25x25 fxCv25x95 fxCv95x2 fxCv95x3 fxCv95x5 fxCv95x12 fxCv95x21 fxCv95x25 fxCv95x95 fxEb4 fxNb4 fxLt9 fxLn22 fxNe22 fxNn22 fxLn42 fxNe42 fxNn42 fxLn59 fxNe59 fxNn59 fxLn68 fxNe68 fxNn68 fxFn3 fxFm3 fxFb3 fxFi3 fxFj3 fxFn4 fxFm4 fxFb4 fxFi4 fxFj4 fxFn5 fxFm5 fxFb5 fxFi5 fxFj5 fxFn6 fxFm6 fxFb6 fxFi6 fxFj6 fxFn7 fxFm7 fxFb7 fxFi7 fxFj7 fxFn8 fxFm8 fxFb8 fxFi8 fxFj8 fxFn9 fxFm9 fxFb9 fxFi9 fxFj9 fxFn10 fxFm10 fxFb10 fxFi10 fxFj10 fxFn11 fxFm11 fxFb11 fxFi11 fxFj11 fxFn12 fxFm12 fxFb12 fxFi12 fxFj12 fxFn13 fxFm13 fxFb13 fxFi13 fxFj13 fxFn14 fxFm14 fxFb14 fxFi14 fxFj14 fxFn15 fxFm15 fxFb15 fxFi15 fxFj15 fxFn16 fxFm16 fxFb16 fxFi16 fxFj16 fxFn17 fxFm17 fxFb17 fxFi17 fxFj17 fxFn18 fxFm18 fxFb18 fxFi18 fxFj18 fxFn19 fxFm19 fxFb19 fxFi19 fxFj19 fxFn20 fxFm20 fxFb20 fxFi20 fxFj20 fxFn21 fxFm21 fxFb21 fxFi21 fxFj21 fxFn22 fxFm22 fxFb22 fxFi22 fxFj22 fxFn23 fxFm23 fxFb23 fxFi23 fxFj23 fxFn24 fxFm24 fxFb24 fxFi24 fxFj24 fxFn25 fxFm25 fxFb25 fxFi25 fxFj25 fxFn26 fxFm26 fxFb26 fxFi26 fxFj26 fxFn27 fxFm27 fxFb27 fxFi27 fxFj27 fxFn28 fxFm28 fxFb28 fxFi28 fxFj28 fxFn29 fxFm29 fxFb29 fxFi29 fxFj29 fxFn30 fxFm30 fxFb30 fxFi30 fxFj30 fxFn31 fxFm31 fxFb31 fxFi31 fxFj31 fxFn32 fxFm32 fxFb32 fxFi32 fxFj32 fxFn33 fxFm33 fxFb33 fxFi33 fxFj33 fxFn34 fxFm34 fxFb34 fxFi34 fxFj34 fxFn35 fxFm35 fxFb35 fxFi35 fxFj35 fxFn36 fxFm36 fxFb36 fxFi36 fxFj36 fxFn37 fxFm37 fxFb37 fxFi37 fxFj37 fxFn38 fxFm38 fxFb38 fxFi38 fxFj38 fxFn39 fxFm39 fxFb39 fxFi39 fxFj39 fxFn40 fxFm40 fxFb40 fxFi40 fxFj40 fxFn41 fxFm41 fxFb41 fxFi41 fxFj41 fxFn42 fxFm42 fxFb42 fxFi42 fxFj42 fxFn43 fxFm43 fxFb43 fxFi43 fxFj43 fxFn44 fxFm44 fxFb44 fxFi44 fxFj44 fxFn45 fxFm45 fxFb45 fxFi45 fxFj45 fxFn46 fxFm46 fxFb46 fxFi46 fxFj46 fxFn47 fxFm47 fxFb47 fxFi47 fxFj47 fxFn48 fxFm48 fxFb48 fxFi48 fxFj48 fxFn49 fxFm49 fxFb49 fxFi49 fxFj49 fxFn50 fxFm50 fxFn51 fxFm51 fxFb51 fxFi51 fxFj51 fxFn52 fxFm52 fxFb52 fxFi52 fxFj52 fxFn53 fxFm53 fxFn54 fxFm54 fxFb54 fxFi54 fxFj54 fxFn55 fxFm55 fxFb55 fxFi55 fxFj55 fxFn56 fxFm56 fxFb56 fxFi56 fxFj56 fxFn57 fxFm57 fxFb57 fxFi57 fxFj57 fxFn58 fxFm58 fxFb58 fxFi58 fxFj58
attribute [local simp] Ar.eta Ar.cold Ar.mapM Ar.mapMc Ar.view Ar.viewc Ar.hotR Ar.ren Ar.renc Ar.low Ar.tau Ar.tauc Ar.bare Ar.flat Ar.flat1
theorem arClone_inl : InlOk Try.prog 34 (cloneI 3) := by
  refine inl_soft Try.func34 rfl ?_
  intro args H r H' hr
  obtain ⟨o, rows, rfl, hl, hc⟩ := cloneI_some hr
  refine ⟨by simp [Try.ntmps34], wpA_sound noOrc_ok fxMix _ _ _ _ (by kernel_rfl) ?_⟩
  rcases hc with ⟨rfl, rfl, rfl⟩ | ⟨h0, rfl, rfl⟩
  · simp [Try.ntmps34, Try.results34, noOrc]
  · simp [Try.ntmps34, Try.results34, h0, hl, noOrc]
def arPut (l : List Ar) (a : Ar) : Except Int (List Ar) := if arChk l a = 0 then (if 0 < manyA l a.page a.end_ then .error 5 else .ok (layA l a)) else .error (arChk l a)
theorem arPut_pure : PureOk Try.prog 13 (argM (cSl rAr) fun l => argM (cAgg rAr) fun a => finM (some (slE 3 Ar.row (arPut l a)))) := by
  refine pure2 Try.func13 rfl ?_
  rintro l a r hr
  simp only [Option.some.injEq] at hr
  subst hr
  refine body_gen (((((noOrc_ok.withP arChk_pure).withP many_pure).withIF arClone_inl clone_loc).withIF lay_inl frame1_loc).withD (fun i => if i = 6 then [(1,2)] else [])) fxMix (by kernel_rfl) (by simp [Try.ntmps13]) ?_
  intro C cP cI cN cD cF
  have cp0 := orcP arChk_pure (C := C) (by rw [cP]; rfl)
  have cp1 := orcP many_pure (C := C) (by rw [cP]; rfl)
  have cn0 := orcI arClone_inl (C := C) (by rw [cN]; rfl)
  have cn1 := orcI lay_inl (C := C) (by rw [cN]; rfl)
  replace cI := fun g => congrFun cI g
  simp only [Orc.withP, Orc.withI, Orc.withF, Orc.withD, noOrc] at cI
  replace cD : C.dyn = fun i => if i = 6 then [(1,2)] else [] := cD
  replace cF := fun g => congrFun cF g
  simp only [Orc.withP, Orc.withI, Orc.withF, Orc.withD, noOrc] at cF
  clear cP cN
  unfold arPut
  by_cases h0 : arChk l a = 0
  · obtain ⟨hg, ha⟩ := arChk_ok.1 h0
    have hl := good_len0 hg
    have hck := arCheck_iff.2 hg
    have r := Ar.right_iff.1 ha
    have hw := right_wrap ha
    have c1 : a.page ≤ a.page + a.n := by omega
    have c2 : a.page + a.n ≤ 64 := by omega
    have hl2 : l.length ≤ 4294967296 := by omega
    rw [show a.end_ = a.page + a.n from rfl]
    by_cases h1 : 0 < manyA l a.page (a.page + a.n)
    · simp [Try.ntmps13, Try.results13, cSl, cp0, cp1, cn0, cn1, cI, cD, cF, rAr, Ar.row, arDec, h0, hck, hw, r.1, c1, c2, h1, slE]
    · by_cases hne : l = []
      · subst hne
        have e : layA [] a = [a] := rfl
        simp only [manyA_nil] at h1
        simp [Try.ntmps13, Try.results13, cSl, cp0, cp1, cn0, cn1, cI, cD, cF, rAr, Ar.row, arDec, h0, hck, hw, r.1, c1, c2, slE, cloneI, manyA_nil, ha, e]
      · have hpos : 0 < l.length := List.length_pos_iff.2 hne
        simp [Try.ntmps13, Try.results13, cSl, cp0, cp1, cn0, cn1, cI, cD, cF, rAr, Ar.row, arDec, h0, hck, hw, r.1, c1, c2, h1, slE, cloneI, ha, hne, hl2, hpos]
  · simp [Try.ntmps13, Try.results13, cSl, cp0, cp1, cn0, cn1, cI, cD, cF, rAr, Ar.row, arDec, h0, slE]
def arOut (l : List Ar) (p n : Int) : Except Int (List Ar) := if arChk l ⟨p, n, 0⟩ = 0 then .ok (cutA l p (p + n)) else .error (arChk l ⟨p, n, 0⟩)
def outE : Except Int (List Ar) → AVal
  | .ok m => if m = [] then .v (.tuple #[.slice none 0 0, .int .i64 0]) else slE 3 Ar.row (.ok m)
  | .error e => slE 3 Ar.row (.error e)
theorem arOut_pure : PureOk Try.prog 20 (argM (cSl rAr) fun l => argM (cInt .i64) fun p => argM (cInt .i64) fun n => finM (some (outE (arOut l p n)))) := by
  refine pure3 Try.func20 rfl ?_
  rintro l p n r hr
  simp only [Option.some.injEq] at hr
  subst hr
  refine body_gen ((noOrc_ok.withP arChk_pure).withI cut_inl) fxMix (by kernel_rfl) (by simp [Try.ntmps20]) ?_
  intro C cP cI cN cD cF
  have cp0 := orcP arChk_pure (C := C) (by rw [cP]; rfl)
  have cn0 := orcI cut_inl (C := C) (by rw [cN]; rfl)
  replace cI := fun g => congrFun cI g
  simp only [Orc.withP, Orc.withI, Orc.withF, Orc.withD, noOrc] at cI
  replace cD : C.dyn = fun _ => [] := cD
  clear cP cN cF
  unfold arOut
  by_cases h0 : arChk l ⟨p, n, 0⟩ = 0
  · obtain ⟨hg, ha⟩ := arChk_ok.1 h0
    have hl := good_len0 hg
    have hck := arCheck_iff.2 hg
    have r := Ar.right_iff.1 ha
    have hw := right_wrap ha
    simp only at r hw
    have c1 : p ≤ p + n := by omega
    have c2 : p + n ≤ 64 := by omega
    by_cases hne : cutA l p (p + n) = []
    · simp [Try.ntmps20, Try.results20, cSl, cp0, cn0, cI, cD, rAr, Ar.row, arDec, h0, hck, hw, r.1, c1, c2, slE, outE, hne]
    · have o1 : ownA 0 3 ((cutA l p (p + n)).map Ar.row) = .osl 0 3 0 (cutA l p (p + n)).length (cutA l p (p + n)).length := by simp [ownA, hne]
      have o2 : ownT 3 ((cutA l p (p + n)).map Ar.row) = [some (3, (cutA l p (p + n)).map Ar.row)] := by simp [ownT, hne]
      simp [Try.ntmps20, Try.results20, cSl, cp0, cn0, cI, cD, rAr, Ar.row, arDec, h0, hck, hw, r.1, c1, c2, slE, outE, hne, o1, o2]
  · simp [Try.ntmps20, Try.results20, cSl, cp0, cn0, cI, cD, rAr, Ar.row, arDec, h0, slE, outE]
def arTurn (l : List Ar) (a : Ar) : Except Int (List Ar) := if arChk l a = 0 then (if manyA l a.page a.end_ < a.n then .error 11 else .ok (layA (cutA l a.page a.end_) a)) else .error (arChk l a)
theorem arTurn_pure : PureOk Try.prog 21 (argM (cSl rAr) fun l => argM (cAgg rAr) fun a => finM (some (slE 3 Ar.row (arTurn l a)))) := by
  refine pure2 Try.func21 rfl ?_
  rintro l a r hr
  simp only [Option.some.injEq] at hr
  subst hr
  refine body_gen (((((noOrc_ok.withP arChk_pure).withP many_pure).withIF cut_inl frame0_loc).withIF lay_inl frame1_loc).withD (fun i => if i = 6 then [(8,9)] else [])) fxMix (by kernel_rfl) (by simp [Try.ntmps21]) ?_
  intro C cP cI cN cD cF
  have cp0 := orcP arChk_pure (C := C) (by rw [cP]; rfl)
  have cp1 := orcP many_pure (C := C) (by rw [cP]; rfl)
  have cn0 := orcI cut_inl (C := C) (by rw [cN]; rfl)
  have cn1 := orcI lay_inl (C := C) (by rw [cN]; rfl)
  replace cI := fun g => congrFun cI g
  simp only [Orc.withP, Orc.withI, Orc.withF, Orc.withD, noOrc] at cI
  replace cD : C.dyn = fun i => if i = 6 then [(8,9)] else [] := cD
  replace cF := fun g => congrFun cF g
  simp only [Orc.withP, Orc.withI, Orc.withF, Orc.withD, noOrc] at cF
  clear cP cN
  unfold arTurn
  by_cases h0 : arChk l a = 0
  · obtain ⟨hg, ha⟩ := arChk_ok.1 h0
    have hl := good_len0 hg
    have hck := arCheck_iff.2 hg
    have r := Ar.right_iff.1 ha
    have hw := right_wrap ha
    have c1 : a.page ≤ a.page + a.n := by omega
    have c2 : a.page + a.n ≤ 64 := by omega
    rw [show a.end_ = a.page + a.n from rfl]
    have hcut := arCheck_iff.2 (cutA_ok (f := a.page) (t := a.page + a.n) (by omega) hg).1
    by_cases h1 : manyA l a.page (a.page + a.n) < a.n
    · simp [Try.ntmps21, Try.results21, cSl, cp0, cp1, cn0, cn1, cI, cD, cF, rAr, Ar.row, arDec, h0, hck, hw, r.1, c1, c2, h1, slE]
    · by_cases hne : cutA l a.page (a.page + a.n) = []
      · have e : layA [] a = [a] := rfl
        simp [Try.ntmps21, Try.results21, cSl, cp0, cp1, cn0, cn1, cI, cD, cF, rAr, Ar.row, arDec, h0, hck, hw, r.1, c1, c2, slE, h1, ha, e, hne]
      · have hpos : 0 < (cutA l a.page (a.page + a.n)).length := List.length_pos_iff.2 hne
        have o1 : ownA 0 3 ((cutA l a.page (a.page + a.n)).map Ar.row) = .osl 0 3 0 (cutA l a.page (a.page + a.n)).length (cutA l a.page (a.page + a.n)).length := by simp [ownA, hne]
        have o2 : ownT 3 ((cutA l a.page (a.page + a.n)).map Ar.row) = [some (3, (cutA l a.page (a.page + a.n)).map Ar.row)] := by simp [ownT, hne]
        simp [Try.ntmps21, Try.results21, cSl, cp0, cp1, cn0, cn1, cI, cD, cF, rAr, Ar.row, arDec, h0, hck, hw, r.1, c1, c2, h1, slE, ha, hne, hpos, o1, o2, hcut]
  · simp [Try.ntmps21, Try.results21, cSl, cp0, cp1, cn0, cn1, cI, cD, cF, rAr, Ar.row, arDec, h0, slE]
def noAr : Ar := ⟨0, 0, 0⟩
def arAtC (l : List Ar) (p : Int) : Int := arChk l ⟨p, 1, 0⟩
def arAtA (l : List Ar) (p : Int) : Ar := if arAtC l p = 0 then (arAt l p).getD noAr else noAr
def arAtB (l : List Ar) (p : Int) : Bool := if arAtC l p = 0 then (arAt l p).isSome else false
theorem arAt_pure : PureOk Try.prog 15 (argM (cSl rAr) fun l => argM (cInt .i64) fun p => finM (some (.v (.tuple #[(arAtA l p).val, .bool (arAtB l p), .int .i64 (arAtC l p)])))) := by
  refine pure2 Try.func15 rfl ?_
  rintro l p r hr
  simp only [Option.some.injEq] at hr
  subst hr
  refine body_gen (noOrc_ok.withP arChk_pure) fxMix (by kernel_rfl) (by simp [Try.ntmps15]) ?_
  intro C cP cI cN cD cF
  have cp0 := orcP arChk_pure (C := C) (by rw [cP]; rfl)
  replace cI : C.inl = fun _ => false := cI
  replace cD : C.dyn = fun _ => [] := cD
  clear cP cN cF
  by_cases h0 : arChk l ⟨p, 1, 0⟩ = 0
  · obtain ⟨hg, ha⟩ := arChk_ok.1 h0
    have hl := good_len0 hg
    unfold arAtA arAtB arAtC
    simp [Try.ntmps15, Try.results15, cSl, cp0, cI, cD, rAr, Ar.row, arDec, h0]
    refine loop_for l.length (fun k (_ : Unit) => ([(1, .v (.int .i64 p)), (4, .ptr 0 3 0 0), (18, .fsl false 3 (l.map Ar.row)), (19, .v (.int .i64 l.length)), (20, .v (.int .i64 k))], [some (3, [noAr.row])])) (fun k _ => arAt (l.drop k) p = arAt l p) () (by omega) rfl (by simp [noAr, Ar.row]) ?_ ?_
    · rintro k _ hk hall hw
      have hr1 := right_wrap (hg.mem (List.getElem_mem hk))
      rw [List.drop_eq_getElem_cons hk] at hall
      simp only [arAt, List.find?_cons] at hall
      by_cases q : l[k].has p = true
      · rw [q] at hall
        have q' := has_iff.1 q
        simp only [Ar.end_] at q'
        simp [Try.ntmps15, Try.results15, cSl, cp0, cI, cD, hk, hw, Ar.row, hr1, q'.1, q'.2, noAr, Ar.val, arAt, ← hall]
      · simp at q
        rw [q] at hall
        by_cases q1 : l[k].page ≤ p
        · have q2 : ¬ p < l[k].page + l[k].n := by simp [Ar.has] at q; omega
          simp [Try.ntmps15, Try.results15, cSl, cp0, cI, cD, hk, hw, Ar.row, hr1, q1, q2, noAr, arAt, ← hall]
        · simp [Try.ntmps15, Try.results15, cSl, cp0, cI, cD, hk, hw, Ar.row, hr1, q1, noAr, arAt, ← hall]
    · rintro _ hall
      simp [arAt] at hall
      simp [Try.ntmps15, Try.results15, cSl, cp0, cI, cD, noAr, Ar.row, Ar.val, arAt, ← hall]
  · unfold arAtA arAtB arAtC
    simp [Try.ntmps15, Try.results15, cSl, cp0, cI, cD, rAr, Ar.row, arDec, h0, Ar.val, noAr]
def arGapC (l : List Ar) (n : Int) : Int := if arChk l ⟨0, n, 0⟩ = 0 then (if gapGo n 0 l < 0 then 6 else 0) else arChk l ⟨0, n, 0⟩
def arGap (l : List Ar) (n : Int) : Int := if arGapC l n = 0 then gapGo n 0 l else 0
theorem arGap_pure : PureOk Try.prog 17 (argM (cSl rAr) fun l => argM (cInt .i64) fun n => finM (some (.v (.tuple #[.int .i64 (arGap l n), .int .i64 (arGapC l n)])))) := by
  refine pure2 Try.func17 rfl ?_
  rintro l n r hr
  simp only [Option.some.injEq] at hr
  subst hr
  refine body_gen (noOrc_ok.withP arChk_pure) fxMix (by kernel_rfl) (by simp [Try.ntmps17]) ?_
  intro C cP cI cN cD cF
  have cp0 := orcP arChk_pure (C := C) (by rw [cP]; rfl)
  replace cI : C.inl = fun _ => false := cI
  replace cD : C.dyn = fun _ => [] := cD
  clear cP cN cF
  by_cases h0 : arChk l ⟨0, n, 0⟩ = 0
  · obtain ⟨hg, ha⟩ := arChk_ok.1 h0
    have hl := good_len0 hg
    have r := Ar.right_iff.1 ha
    simp only at r
    unfold arGap arGapC
    simp [Try.ntmps17, Try.results17, cSl, cp0, cI, cD, rAr, Ar.row, arDec, h0]
    refine loop_for l.length (fun k (e : Int) => ([(1, .v (.int .i64 n)), (7, .v (.int .i64 e)), (17, .fsl false 3 (l.map Ar.row)), (18, .v (.int .i64 l.length)), (19, .v (.int .i64 k))], [])) (fun k e => 0 ≤ e ∧ e ≤ 64 ∧ gapGo n e (l.drop k) = gapGo n 0 l) 0 (by omega) ⟨by omega, by omega, rfl⟩ (by simp) ?_ ?_
    · rintro k e hk ⟨he1, he2, hall⟩ hw
      have hr := hg.mem (List.getElem_mem hk)
      have hr1 := right_wrap hr
      have hr2 := Ar.right_iff.1 hr
      have w1 : IntKind.i64.wrap (l[k].page - e) = l[k].page - e := w64 (by omega) (by omega)
      rw [List.drop_eq_getElem_cons hk, gapGo] at hall
      by_cases q : n ≤ l[k].page - e
      · rw [if_pos q] at hall
        have q2 : ¬ e < 0 := by omega
        simp [Try.ntmps17, Try.results17, cSl, cp0, cI, cD, hk, hw, Ar.row, hr1, w1, q, ← hall, q2]
      · rw [if_neg q] at hall
        simp [Try.ntmps17, Try.results17, cSl, cp0, cI, cD, hk, hw, Ar.row, hr1, w1, q]
        simp only [Ar.end_] at hall
        exact ⟨by omega, by omega, hall⟩
    · rintro e ⟨he1, he2, hall⟩
      simp only [List.drop_length, gapGo] at hall
      have w1 : IntKind.i64.wrap (64 - e) = 64 - e := w64 (by omega) (by omega)
      by_cases q : 64 - e < n
      · rw [if_pos q] at hall
        simp [Try.ntmps17, Try.results17, cSl, cp0, cI, cD, w1, q, ← hall]
      · rw [if_neg q] at hall
        have q2 : ¬ e < 0 := by omega
        simp [Try.ntmps17, Try.results17, cSl, cp0, cI, cD, w1, q, ← hall, q2]
  · unfold arGap arGapC
    simp [Try.ntmps17, Try.results17, cSl, cp0, cI, cD, rAr, Ar.row, arDec, h0]
end Go.Proofs.Ytjohjiphjmcolaa
