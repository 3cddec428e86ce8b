/- Package twin: slices.Replace. -/
import Derived.Test.YtjohjiphjmcolaaTwT
import Derived.Test.YtjohjiphjmcolaaAiZb
namespace Go.Proofs.Ytjohjiphjmcolaa
open Go.AI
set_option maxHeartbeats 2000000
set_option maxRecDepth 100000
set_option linter.unusedSimpArgs false
set_option linter.unusedVariables false
attribute [local simp] wpA wpX RunA RunD runF foot footP footB idsA bare apart runL step1 gsel_f gsel_t gsel_s res_same res_and1 res_and2 res_and3 res_and4 res_and5 res_and6 res_false res_true res_v res_ptr res_fptr res_osl res_xsl soft aAppendZ aCap ovlI ovlJ res_fsl res_esl res_agg res_tup res_fn res_junk res_anyb aPick hk imp_left iteV dstOk guardOk astep astepE AI.ev AI.look AI.put envOf aBox cellsOf allOne allOneA oneA Value.oneCell' Value.cells newObj' aFieldAddr aLoad obj readAt thenA blockA condA retA resA tupA view hot hotC hotR depthV cAgg cInt cBool mkAgg allV aAlloc aBuild fillA writeAt aStore isAggA aField idx aIndexAddr aIndex bnd aSlice aExtract aLen aBuiltin aCall isStatic eqAgg eqTy eqC ev_add ev_sub ev_mul ev_quo ev_rem ev_and ev_or ev_xor ev_andNot ev_shl ev_shr ev_eql ev_neq ev_lss ev_leq ev_gtr ev_geq ev_agg w64 wu32 wu8 ev_not ev_neg Cod.plain RCod.plain argM finM cold coldC coldR goInt intDec boolDec aggDec Weaker heapW lowA lowC Again slDec undef aBuildSlice setRows aAppend rowsOf aMakeSlice aClear aCopy softer_self softer_nil valsOf ev_min2 ev_max2 hotR_set hotR_append take_map_set irow_cold irow_mapM irow_mapMc irow_view irow_viewc irow_hotR irow_ren irow_renc irow_low WeakT heapT thOf ren renC AgainT NextF NextT fnDec cFn rNil selfLt natLt0 natLt1 getLastMap frame0 frame1 own0 own1 argG finG tau tauI tauO tauC bareA bareC bareH irow_tau irow_tauc irow_bare irow_flat irow_bareR ownA_nil ownT_nil ownA_c ownT_c ownA_s ownT_s takeMapLen footC plainA noId noIdC cloneF frame0F frame1F insertF replaceI replaceF cellDec rCell fpDec cFp rTwo deleteF RunR RunE runFT footAt hotR_cat tmodN fxSz2 fxBy2 fxAg2 fxZe2 fxSl2 fxAr2 fxPl2 fxSz3 fxBy3 fxAg3 fxZe3 fxSl3 fxAr3 fxPl3 fxSz4 fxBy4 fxAg4 fxZe4 fxSl4 fxAr4 fxPl4 fxSz5 fxBy5 fxAg5 fxZe5 fxSl5 fxAr5 fxPl5 fxSz9 fxBy9 fxAg9 fxZe9 fxSl9 fxAr9 fxPl9 fxSz12 fxBy12 fxAg12 fxZe12 fxSl12 fxAr12 fxPl12 fxSz13 fxBy13 fxAg13 fxZe13 fxSl13 fxAr13 fxFi13x0 fxFi13x1 fxPl13 fxSz21 fxBy21 fxAg21 fxZe21 fxSl21 fxAr21 fxPl21 fxSz22 fxBy22 fxAg22 fxZe22 fxSl22 fxAr22 fxPl22 fxSz23 fxBy23 fxAg23 fxZe23 fxSl23 fxAr23 fxFi23x0 fxFi23x1 fxFi23x2 fxPl23 fxSz24 fxBy24 fxAg24 fxZe24 fxSl24 fxAr24 fxFi24x0 fxFi24x1 fxFi24x2 fxPl24 fxSz25 fxBy25 fxAg25 fxZe25 fxSl25 fxAr25 fxPl25 fxSz42 fxBy42 fxAg42 fxZe42 fxSl42 fxAr42 fxPl42 fxSz43 fxBy43 fxAg43 fxZe43 fxSl43 fxAr43 fxFi43x0 fxFi43x1 fxPl43 fxSz44 fxBy44 fxAg44 fxZe44 fxSl44 fxAr44 fxFi44x0 fxFi44x1 fxPl44 fxSz48 fxBy48 fxAg48 fxZe48 fxSl48 fxAr48 fxFi48x0 fxFi48x1 fxPl48 fxSz49 fxBy49 fxAg49 fxZe49 fxSl49 fxAr49 fxFi49x0 fxFi49x1 fxPl49 fxSz53 fxBy53 fxAg53 fxZe53 fxSl53 fxAr53 fxPl53 fxSz59 fxBy59 fxAg59 fxZe59 fxSl59 fxAr59 fxPl59 fxSz68 fxBy68 fxAg68 fxZe68 fxSl68 fxAr68 fxPl68 fxSz85 fxBy85 fxAg85 fxZe85 fxSl85 fxAr85 fxPl85 fxSz91 fxBy91 fxAg91 fxZe91 fxSl91 fxAr91 fxPl91 fxSz92 fxBy92 fxAg92 fxZe92 fxSl92 fxAr92 fxFi92x0 fxPl92 fxSz95 fxBy95 fxAg95 fxZe95 fxSl95 fxAr95 fxPl95 fxSz99 fxBy99 fxAg99 fxZe99 fxSl99 fxAr99 fxPl99 fxSz104 fxBy104 fxAg104 fxZe104 fxSl104 fxAr104 fxPl104 fxEq24 fxEq49 fxEq53 fxCv2x2 fxCv2x3 fxCv2x5 fxCv2x12 fxCv2x21 fxCv2x25 fxCv2x95 fxCv3x2 fxCv3x3 fxCv3x5 fxCv3x12 fxCv3x21 fxCv3x25 fxCv3x95 fxCv5x2 fxCv5x3 fxCv5x5 fxCv5x12 fxCv5x21 fxCv5x25 fxCv5x95 fxCv12x2 fxCv12x3 fxCv12x5 fxCv12x12 fxCv12x21 fxCv12x25 fxCv12x95 fxCv21x2 fxCv21x3 fxCv21x5 fxCv21x12 fxCv21x21 fxCv21x25 fxCv21x95 fxCv25x2 fxCv25x3 fxCv25x5 fxCv25x12 fxCv25x21 fxCv25x25 fxCv25x95 fxCv95x2 fxCv95x3 fxCv95x5 fxCv95x12 fxCv95x21 fxCv95x25 fxCv95x95 fxEb4 fxNb4 fxLt9 fxLn22 fxNe22 fxNn22 fxLn42 fxNe42 fxNn42 fxLn59 fxNe59 fxNn59 fxLn68 fxNe68 fxNn68 fxFn3 fxFm3 fxFb3 fxFi3 fxFj3 fxFn4 fxFm4 fxFb4 fxFi4 fxFj4 fxFn5 fxFm5 fxFb5 fxFi5 fxFj5 fxFn6 fxFm6 fxFb6 fxFi6 fxFj6 fxFn7 fxFm7 fxFb7 fxFi7 fxFj7 fxFn8 fxFm8 fxFb8 fxFi8 fxFj8 fxFn9 fxFm9 fxFb9 fxFi9 fxFj9 fxFn10 fxFm10 fxFb10 fxFi10 fxFj10 fxFn11 fxFm11 fxFb11 fxFi11 fxFj11 fxFn12 fxFm12 fxFb12 fxFi12 fxFj12 fxFn13 fxFm13 fxFb13 fxFi13 fxFj13 fxFn14 fxFm14 fxFb14 fxFi14 fxFj14 fxFn15 fxFm15 fxFb15 fxFi15 fxFj15 fxFn16 fxFm16 fxFb16 fxFi16 fxFj16 fxFn17 fxFm17 fxFb17 fxFi17 fxFj17 fxFn18 fxFm18 fxFb18 fxFi18 fxFj18 fxFn19 fxFm19 fxFb19 fxFi19 fxFj19 fxFn20 fxFm20 fxFb20 fxFi20 fxFj20 fxFn21 fxFm21 fxFb21 fxFi21 fxFj21 fxFn22 fxFm22 fxFb22 fxFi22 fxFj22 fxFn23 fxFm23 fxFb23 fxFi23 fxFj23 fxFn24 fxFm24 fxFb24 fxFi24 fxFj24 fxFn25 fxFm25 fxFb25 fxFi25 fxFj25 fxFn26 fxFm26 fxFb26 fxFi26 fxFj26 fxFn27 fxFm27 fxFb27 fxFi27 fxFj27 fxFn28 fxFm28 fxFb28 fxFi28 fxFj28 fxFn29 fxFm29 fxFb29 fxFi29 fxFj29 fxFn30 fxFm30 fxFb30 fxFi30 fxFj30 fxFn31 fxFm31 fxFb31 fxFi31 fxFj31 fxFn32 fxFm32 fxFb32 fxFi32 fxFj32 fxFn33 fxFm33 fxFb33 fxFi33 fxFj33 fxFn34 fxFm34 fxFb34 fxFi34 fxFj34 fxFn35 fxFm35 fxFb35 fxFi35 fxFj35 fxFn36 fxFm36 fxFb36 fxFi36 fxFj36 fxFn37 fxFm37 fxFb37 fxFi37 fxFj37 fxFn38 fxFm38 fxFb38 fxFi38 fxFj38 fxFn39 fxFm39 fxFb39 fxFi39 fxFj39 fxFn40 fxFm40 fxFb40 fxFi40 fxFj40 fxFn41 fxFm41 fxFb41 fxFi41 fxFj41 fxFn42 fxFm42 fxFb42 fxFi42 fxFj42 fxFn43 fxFm43 fxFb43 fxFi43 fxFj43 fxFn44 fxFm44 fxFb44 fxFi44 fxFj44 fxFn45 fxFm45 fxFb45 fxFi45 fxFj45 fxFn46 fxFm46 fxFb46 fxFi46 fxFj46 fxFn47 fxFm47 fxFb47 fxFi47 fxFj47 fxFn48 fxFm48 fxFb48 fxFi48 fxFj48 fxFn49 fxFm49 fxFb49 fxFi49 fxFj49 fxFn50 fxFm50 fxFn51 fxFm51 fxFb51 fxFi51 fxFj51 fxFn52 fxFm52 fxFb52 fxFi52 fxFj52 fxFn53 fxFm53 fxFn54 fxFm54 fxFb54 fxFi54 fxFj54 fxFn55 fxFm55 fxFb55 fxFi55 fxFj55 fxFn56 fxFm56 fxFb56 fxFi56 fxFj56 fxFn57 fxFm57 fxFb57 fxFi57 fxFj57 fxFn58 fxFm58 fxFb58 fxFi58 fxFj58
attribute [local simp] Rm.eta Rm.cold Rm.mapM Rm.mapMc Rm.view Rm.viewc Rm.hotR Rm.ren Rm.renc Rm.low Rm.tau Rm.tauc Rm.bare Rm.flat Rm.flat1 Rm.mapMt Rm.mapMd Rm.coldt Rm.coldd Rm.hotRt Rm.hotRd
theorem rmRepOv : InlOk Try.prog 50 ovlJ := ovlJ_inl (t := 42) (r := 4) Try.func50 (by kernel_rfl) (by kernel_rfl) (by kernel_rfl) (by kernel_rfl) Try.underlying42 (sz := 2) (by kernel_rfl)
theorem rmRep : InlOk Try.prog 45 (replaceI 2) := by
  have hC := (noOrc_ok (P := Try.prog)).withI rmRepOv
  refine replace_of (z := [.v (.int .i64 0), .v (.int .i64 0)]) Try.func45 rfl (by simp [Try.ntmps45]) ?_ ?_ ?_ ?_ ?_ ?_
  · intro H id i rows h1 h2 h3 h4
    refine wpA_sound hC fxMix _ _ _ _ (by kernel_rfl) ?_
    have h1' := obj_get h1
    have g1 := (List.getElem?_eq_some_iff.1 h1').2
    have c0 : (i : Int) ≤ rows.length := by omega
    have c1 : (i : Int) + 1 ≤ rows.length := by omega
    have c2 : 0 ≤ (i : Int) + 1 := by omega
    have c3 : (i : Int) ≤ i + 1 := by omega
    have c4 : i ≤ rows.length := by omega
    have c5 : i + 1 ≤ rows.length := by omega
    have d1 : ¬ ((i : Int) = i + 1) := by omega
    have a6 : min i rows.length = i := by omega
    have e1 : (i : Int) + 1 = rows.length := by omega
    have e2 : i < rows.length := by omega
    have e3 : rows.length - i = 1 := by omega
    have e4 : i + 1 = rows.length := by omega
    have e5 : i ≤ 4294967296 := by omega
    have e6 : ¬ ((i : Int) = rows.length) := by omega
    have e7 : List.drop rows.length rows = [] := List.drop_eq_nil_of_le (by omega)
    simp [Try.ntmps45, Try.results45, noOrc, Orc.withI, h1', g1, h2, c0, c1, c2, c3, c4, c5, d1, a6, e1, e2, e3, e4, e5, e6, e7]
  · intro H id i cap rows h1 h2 h3 h4 h5
    refine wpA_sound hC fxMix _ _ _ _ (by kernel_rfl) ?_
    have h1' := obj_get h1
    have g1 := (List.getElem?_eq_some_iff.1 h1').2
    have c0 : (i : Int) ≤ rows.length := by omega
    have c1 : (i : Int) + 1 ≤ rows.length := by omega
    have c2 : 0 ≤ (i : Int) + 1 := by omega
    have c3 : (i : Int) ≤ i + 1 := by omega
    have c4 : i ≤ rows.length := by omega
    have c5 : i + 1 ≤ rows.length := by omega
    have d1 : ¬ ((i : Int) = i + 1) := by omega
    have a6 : min i rows.length = i := by omega
    have e1 : ¬ ((i : Int) + 1 = rows.length) := by omega
    have w1 : IntKind.i64.wrap (i : Int) = i := w64 (by omega) (by omega)
    have w2 : IntKind.i64.wrap ((i : Int) + ((rows.length - (i + 1) : Nat) : Int)) = ((rows.length - 1 : Nat) : Int) := by rw [w64 (by omega) (by omega)]; omega
    have e2 : ¬ (cap < rows.length - 1) := by omega
    have e3 : rows.length - 1 ≤ cap := by omega
    have e4 : i ≤ rows.length - 1 := by omega
    have e5 : rows.length - 1 ≤ rows.length := by omega
    have e6 : min (rows.length - (i + 1)) (rows.length - 1 - i) = rows.length - (i + 1) := by omega
    have e7 : i + (rows.length - (i + 1)) = rows.length - 1 := by omega
    have e8 : rows.length - (rows.length - 1) = 1 := by omega
    have e9 : i + (rows.length - 1 - i) ≤ rows.length := by omega
    have e10 : i + 1 + (rows.length - (i + 1)) ≤ rows.length := by omega
    have e11 : List.take (rows.length - (i + 1)) (List.drop (i + 1) rows) = List.drop (i + 1) rows := List.take_of_length_le (by simp)
    have e12 : List.take (rows.length - 1 - i) (List.drop (i + 1) rows) = List.drop (i + 1) rows := List.take_of_length_le (by simp; omega)
    have e13 : ∀ X : List Row, List.take (rows.length - 1) (List.take i rows ++ (List.drop (i + 1) rows ++ X)) = List.take i rows ++ List.drop (i + 1) rows := by
      intro X
      rw [← List.append_assoc, List.take_append_of_le_length (by simp; omega), List.take_of_length_le (by simp; omega)]
    have e14 : rows.length - 1 + 1 = rows.length := by omega
    have e15 : List.drop rows.length (List.take i rows ++ (List.drop (i + 1) rows ++ List.drop (rows.length - 1) rows)) = [] := List.drop_eq_nil_of_le (by simp; omega)
    have e16 : rows.length ≤ i + (rows.length - (i + 1) + 1) := by omega
    have e17 : ((rows.length - 1 : Nat) : Int) ≤ rows.length := by omega
    have e18 : ((rows.length - 1 : Nat) : Int) ≤ cap := by omega
    have e19 : ¬ ((cap : Int) < ((rows.length - 1 : Nat) : Int)) := by omega
    have e20 : (i : Int) ≤ ((rows.length - 1 : Nat) : Int) := by omega
    have e21 : (i : Int) + 1 ≤ cap := by omega
    have e22 : i ≤ cap := by omega
    have e23 : (i : Int) ≤ cap := by omega
    simp [Try.ntmps45, Try.results45, noOrc, Orc.withI, h1', g1, h2, c0, c1, c2, c3, c4, c5, d1, a6, e1, e2, e3, e4, e5, e6, e7, e8, e9, e10, e11, e12, e13, e14, e15, e16, e17, e18, e19, e20, e21, e22, e23, w1, w2, h3, h5]
  · intro H id vid i rows vr h1 h1b hne h2 h2b h3 h4 h5
    refine wpA_sound hC fxMix _ _ _ _ (by kernel_rfl) ?_
    have h1' := obj_get h1
    have g1 := (List.getElem?_eq_some_iff.1 h1').2
    have c0 : (i : Int) ≤ rows.length := by omega
    have c1 : (i : Int) + 1 ≤ rows.length := by omega
    have c2 : 0 ≤ (i : Int) + 1 := by omega
    have c3 : (i : Int) ≤ i + 1 := by omega
    have c4 : i ≤ rows.length := by omega
    have c5 : i + 1 ≤ rows.length := by omega
    have d1 : ¬ ((i : Int) = i + 1) := by omega
    have a6 : min i rows.length = i := by omega
    have h1b' := obj_get h1b
    have g1b := (List.getElem?_eq_some_iff.1 h1b').2
    have e1 : (i : Int) + 1 = rows.length := by omega
    have e2 : i < rows.length := by omega
    have e4 : i + 1 = rows.length := by omega
    have e5 : i + 1 ≤ 4294967296 := by omega
    have e6 : ¬ ((i : Int) = rows.length) := by omega
    have e7 : List.drop rows.length rows = [] := List.drop_eq_nil_of_le (by omega)
    have e8 : List.take 1 vr = vr := List.take_of_length_le (by omega)
    have e9 : rows.length ≤ 4294967296 := by omega
    simp [Try.ntmps45, Try.results45, noOrc, Orc.withI, h1', g1, h2, c0, c1, c2, c3, c4, c5, d1, a6, h1b', g1b, h2b, h5, e1, e2, e4, e5, e6, e7, e8, e9]
  · intro H id vid i rows vr h1 h1b hne h2 h2b h3 h4 h5 h6
    refine wpA_sound hC fxMix _ _ _ _ (by kernel_rfl) ?_
    have h1' := obj_get h1
    have g1 := (List.getElem?_eq_some_iff.1 h1').2
    have h1b' := obj_get h1b
    have g1b := (List.getElem?_eq_some_iff.1 h1b').2
    have c2 : 0 ≤ (i : Int) + 1 := by omega
    have c3 : (i : Int) ≤ i + 1 := by omega
    have d1 : ¬ ((i : Int) = i + 1) := by omega
    have e2 : ¬ (i + vr.length ≤ i + 1) := by omega
    have e3 : ¬ ((i : Int) + vr.length < i + 1) := by omega
    have e5 : i + vr.length ≤ 4294967296 := by omega
    have e6 : ¬ (vr.length ≤ 1) := by omega
    have e8 : List.take vr.length vr = vr := List.take_length
    have e9 : ¬ (vr.length < 1) := by omega
    have e10 : ¬ ((vr.length : Int) < 1) := by omega
    simp [Try.ntmps45, Try.results45, noOrc, Orc.withI, h1', g1, h1b', g1b, h2, h2b, h3, c2, c3, d1, e2, e3, e5, e6, e8, e9, e10]
  · intro H id vid i cap rows vr h1 h1b hne h2 h2b h3 h4 h5 h6 h7 h8
    refine wpA_sound hC fxMix _ _ _ _ (by kernel_rfl) ?_
    have h1' := obj_get h1
    have g1 := (List.getElem?_eq_some_iff.1 h1').2
    have c0 : (i : Int) ≤ rows.length := by omega
    have c1 : (i : Int) + 1 ≤ rows.length := by omega
    have c2 : 0 ≤ (i : Int) + 1 := by omega
    have c3 : (i : Int) ≤ i + 1 := by omega
    have c4 : i ≤ rows.length := by omega
    have c5 : i + 1 ≤ rows.length := by omega
    have d1 : ¬ ((i : Int) = i + 1) := by omega
    have a6 : min i rows.length = i := by omega
    have h1b' := obj_get h1b
    have g1b := (List.getElem?_eq_some_iff.1 h1b').2
    have e1 : ¬ ((i : Int) + 1 = rows.length) := by omega
    obtain ⟨k, hk⟩ : ∃ k, k = rows.length - 1 + vr.length - i := ⟨_, rfl⟩
    have w1 : IntKind.i64.wrap ((i : Int) + vr.length) = ((i + vr.length : Nat) : Int) := by rw [w64 (by omega) (by omega)]; omega
    have w2 : IntKind.i64.wrap ((i : Int) + vr.length + ((rows.length - (i + 1) : Nat) : Int)) = ((rows.length - 1 + vr.length : Nat) : Int) := by rw [w64 (by omega) (by omega)]; omega
    have w3 : IntKind.i64.wrap (((rows.length - 1 + vr.length : Nat) : Int) - i) = (k : Int) := by rw [w64 (by omega) (by omega)]; omega
    have w4 : IntKind.i64.wrap (((rows.length - 1 : Nat) : Int) + vr.length - i) = (k : Int) := by rw [w64 (by omega) (by omega)]; omega
    have e2 : cap < rows.length - 1 + vr.length := h8
    have e3 : (cap : Int) < ((rows.length - 1 : Nat) : Int) + vr.length := by omega
    have e4 : (i : Int) + 1 ≤ cap := by omega
    have e5 : i ≤ cap := by omega
    have e6 : (i : Int) ≤ cap := by omega
    have e7 : cap < i + k := by omega
    have e8 : i + k ≤ 4294967296 := by omega
    have e9 : (i : Int) ≤ ((i + k : Nat) : Int) := by omega
    have e10 : i + k - i = k := by omega
    have e11 : List.take k vr = vr := List.take_of_length_le (by omega)
    have e12 : min vr.length k = vr.length := by omega
    have e13 : ∀ X : List Row, List.drop (i + vr.length) (List.take i rows ++ X) = List.drop vr.length X := by
      intro X
      rw [List.drop_append, List.drop_eq_nil_of_le (by simp; omega)]; simp; congr 1; omega
    have e14 : List.take (rows.length - (i + 1)) (List.drop (i + 1) rows) = List.drop (i + 1) rows := List.take_of_length_le (by simp)
    have e15 : i + vr.length ≤ i + k := by omega
    have e16 : (i : Int) + vr.length ≤ i + k := by omega
    have e17 : i + k - (i + vr.length) = rows.length - (i + 1) := by omega
    have e18 : i + vr.length + (rows.length - (i + 1)) = i + k := by omega
    have e19 : ∀ X : List Row, List.take (i + vr.length) (List.take i rows ++ (vr ++ X)) = List.take i rows ++ vr := by
      intro X
      rw [← List.append_assoc, List.take_append_of_le_length (by simp; omega), List.take_of_length_le (by simp; omega)]
    have e20 : rows.length - 1 + vr.length = i + k := by omega
    have e24 : ((rows.length - 1 : Nat) : Int) + vr.length = i + k := by omega
    have e25 : (cap : Int) < i + k := by omega
    have e26 : (i : Int) ≤ i + k := by omega
    have f3 : k ≤ vr.length + (k - vr.length) := by omega
    have f4 : ∀ z : Row, List.drop (i + k) (List.take i rows ++ (vr ++ List.replicate (k - vr.length) z)) = [] := by intro z; exact List.drop_eq_nil_of_le (by simp; omega)
    have f1 : ∀ l, (H ++ l)[vid]? = some (some (2, vr)) := by intro l; rw [List.getElem?_append_left h2b, h1b']
    have f2 : ∀ l, (H ++ l)[id]? = some (some (2, rows)) := by intro l; rw [List.getElem?_append_left h2, h1']
    have e27 : 0 ≤ (i : Int) + k := by omega
    have e28 : ((i : Int) + k).toNat = i + k := by omega
    have e29 : ((i : Int) + vr.length).toNat = i + vr.length := by omega
    have w5 : IntKind.i64.wrap ((i : Int) + k - i) = k := by rw [w64 (by omega) (by omega)]; omega
    have w6 : IntKind.i64.wrap ((i : Int) + vr.length + ((rows.length - (i + 1) : Nat) : Int)) = (i : Int) + k := by rw [w64 (by omega) (by omega)]; omega
    have e21 : 0 ≤ (i : Int) + vr.length := by omega
    have e22 : i + 1 + (rows.length - (i + 1)) ≤ rows.length := by omega
    have e23 : 0 < k := by omega
    simp [Try.ntmps45, Try.results45, noOrc, Orc.withI, h1', g1, h2, c0, c1, c2, c3, c4, c5, d1, a6, h2b, h1b', g1b, h3, h7, e1, e4, e5, e6, e7, e8, e9, e10, e11, e12, e13, e14, e15, e16, e17, e18, e19, e20, e21, e22, e23, e24, e25, e26, e27, e28, e29, f1, f2, f3, f4, w1, w3, w4, w5, w6]
  · intro H id vid i cap rows vr jr h1 h1b hne h2 h2b h3 h4 h5 h6 h7
    refine wpA_sound hC fxMix _ _ _ _ (by kernel_rfl) ?_
    have h1' := obj_get h1
    have g1 := (List.getElem?_eq_some_iff.1 h1').2
    have c0 : (i : Int) ≤ rows.length := by omega
    have c1 : (i : Int) + 1 ≤ rows.length := by omega
    have c2 : 0 ≤ (i : Int) + 1 := by omega
    have c3 : (i : Int) ≤ i + 1 := by omega
    have c4 : i ≤ rows.length := by omega
    have c5 : i + 1 ≤ rows.length := by omega
    have d1 : ¬ ((i : Int) = i + 1) := by omega
    have a6 : min i rows.length = i := by omega
    have h1b' := obj_get h1b
    have g1b := (List.getElem?_eq_some_iff.1 h1b').2
    have e1 : ¬ ((i : Int) + 1 = rows.length) := by omega
    have e4 : (i : Int) + 1 ≤ cap := by omega
    have e5 : i ≤ cap := by omega
    have e6 : (i : Int) ≤ cap := by omega
    have d0 : ¬ vid = id := fun h => hne h.symm
    by_cases hm : vr.length = 1
    · have hj : jr = [] := List.length_eq_zero_iff.1 (by omega)
      subst hj
      clear g1 g1b
      obtain ⟨x, rfl⟩ := List.length_eq_one_iff.1 hm
      rw [List.append_nil] at h1 h1'
      have g1 := (List.getElem?_eq_some_iff.1 h1').2
      have g1b := (List.getElem?_eq_some_iff.1 h1b').2
      have w1 : IntKind.i64.wrap ((i : Int) + 1) = (i : Int) + 1 := w64 (by omega) (by omega)
      have w2 : IntKind.i64.wrap ((i : Int) + 1 + ((rows.length - (i + 1) : Nat) : Int)) = (rows.length : Int) := by rw [w64 (by omega) (by omega)]; omega
      have e7 : ¬ ((cap : Int) < rows.length) := by omega
      have e8 : (rows.length : Int) ≤ cap := by omega
      have e9 : rows.length - 1 + 1 = rows.length := by omega
      have e10 : List.take (rows.length - i) [x] = [x] := List.take_of_length_le (by simp; omega)
      have e11 : min 1 (rows.length - i) = 1 := by omega
      have e12 : ¬ (cap < rows.length) := by omega
      have e13 : i + (rows.length - i) ≤ rows.length := by omega
      have e14 : ∀ X : List Row, List.drop (i + 1) (List.take i rows ++ x :: X) = X := by
        intro X
        have hl : (List.take i rows).length = i := by simp; omega
        rw [List.drop_append, List.drop_eq_nil_of_le (by omega), hl, show i + 1 - i = 1 by omega]; simp
      have e16 : List.take (rows.length - (i + 1)) (List.drop (i + 1) rows) = List.drop (i + 1) rows := List.take_of_length_le (by simp)
      have e17 : ∀ X : List Row, List.take (i + 1) (List.take i rows ++ x :: X) = List.take i rows ++ [x] := by
        intro X
        have hl : (List.take i rows).length = i := by simp; omega
        rw [List.take_append, List.take_of_length_le (by omega), hl, show i + 1 - i = 1 by omega]; simp
      have e18 : i + 1 + (rows.length - (i + 1)) = rows.length := by omega
      have e19 : List.drop rows.length (List.take i rows ++ x :: List.drop (i + 1) rows) = [] := List.drop_eq_nil_of_le (by simp; omega)
      have e20 : List.take rows.length (List.take i rows ++ x :: List.drop (i + 1) rows) = List.take i rows ++ x :: List.drop (i + 1) rows := List.take_of_length_le (by simp; omega)
      have e21 : i + (rows.length - (i + 1) + 1) = rows.length := by omega
      have e22 : (i : Int) ≤ rows.length := by omega
      have e24 : rows.length ≤ i + (rows.length - (i + 1) + 1) := by omega
      have e25 : rows.length - rows.length = 0 := by omega
      simp [Try.ntmps45, Try.results45, noOrc, Orc.withI, h1', g1, h2, c0, c1, c2, c3, c4, c5, d1, a6, h2b, h1b', g1b, h3, d0, e1, e4, e5, e6, e7, e8, e9, e10, e11, e12, e13, e14, e16, e17, e18, e19, e20, e21, e22, e24, w1, w2]
    · obtain ⟨k, hk⟩ : ∃ k, k = rows.length - 1 + vr.length - i := ⟨_, rfl⟩
      have w1 : IntKind.i64.wrap ((i : Int) + vr.length) = ((i + vr.length : Nat) : Int) := by rw [w64 (by omega) (by omega)]; omega
      have w2 : IntKind.i64.wrap ((i : Int) + vr.length + ((rows.length - (i + 1) : Nat) : Int)) = (i : Int) + k := by rw [w64 (by omega) (by omega)]; omega
      have f1 : ¬ ((cap : Int) < i + k) := by omega
      have f2 : (i : Int) + k ≤ cap := by omega
      have f3 : ¬ ((i : Int) + vr.length ≤ i + 1) := by omega
      have f4 : rows.length - 1 + vr.length = i + k := by omega
      have f5 : ¬ (vr.length ≤ 1) := by omega
      have f6 : (i : Int) + vr.length ≤ i + k := by omega
      have f7 : i + vr.length ≤ i + k := by omega
      have f8 : i + vr.length < i + k := by omega
      have f9 : 0 < vr.length := by omega
      have f10 : 0 ≤ (i : Int) + vr.length := by omega
      have f11 : i + k - (i + vr.length) = rows.length - (i + 1) := by omega
      have f12 : 0 < rows.length - (i + 1) := by omega
      have hrj : (rows ++ jr).length = i + k := by simp; omega
      have f13 : List.take (rows.length - (i + 1)) (List.drop (i + 1) (rows ++ jr)) = List.drop (i + 1) rows := by
        rw [List.drop_append_of_le_length (by omega), List.take_append_of_le_length (by simp), List.take_of_length_le (by simp)]
      have f14 : i + vr.length + (rows.length - (i + 1)) = i + k := by omega
      have f15 : List.drop (i + k) (rows ++ jr) = [] := List.drop_eq_nil_of_le (by omega)
      have f16 : rows.length + jr.length = i + k := by omega
      have f17 : i + 1 + (rows.length - (i + 1)) ≤ i + k := by omega
      have f18 : i + k - i = k := by omega
      have f19 : List.take k vr = vr := List.take_of_length_le (by omega)
      have f20 : min vr.length k = vr.length := by omega
      have f21 : ∀ X : List Row, List.drop (i + vr.length) (List.take (i + vr.length) (rows ++ jr) ++ X) = X := by
        intro X
        rw [List.drop_append, List.drop_eq_nil_of_le (by simp; omega)]
        have : (List.take (i + vr.length) (rows ++ jr)).length = i + vr.length := by simp; omega
        rw [this]; simp
      have f22 : ∀ X : List Row, List.take i (List.take (i + vr.length) (rows ++ jr) ++ X) = List.take i rows := by
        intro X
        rw [List.take_append_of_le_length (by simp; omega), List.take_take, Nat.min_eq_left (by omega), List.take_append_of_le_length (by omega)]
      have f23 : min (i + vr.length) (i + k) = i + vr.length := by omega
      have f24 : i + vr.length + (rows.length - (i + 1)) ≤ i + k := by omega
      have f26 : (i : Int) ≤ i + k := by omega
      have f30 : rows.length ≤ i + k := by omega
      have f31 : List.take (rows.length - (i + 1)) (List.drop (i + 1) rows) = List.drop (i + 1) rows := List.take_of_length_le (by simp)
      have f27 : 0 ≤ (i : Int) + k := by omega
      have f28 : ((i : Int) + k).toNat = i + k := by omega
      have f29 : ((i : Int) + vr.length).toNat = i + vr.length := by omega
      have f25 : min (rows.length - (i + 1)) (rows.length - (i + 1)) = rows.length - (i + 1) := by omega
      simp [Try.ntmps45, Try.results45, noOrc, Orc.withI, h1', g1, h2, c0, c1, c2, c3, c4, c5, d1, a6, h2b, h1b', g1b, h3, d0, hne, e1, e4, e5, e6, w1, w2, f1, f2, f3, f4, f5, f6, f7, f8, f9, f10, f11, f12, f13, f14, f15, f16, f17, f18, f19, f20, f21, f22, f23, f26, f27, f28, f29, f30, f31]
end Go.Proofs.Ytjohjiphjmcolaa
