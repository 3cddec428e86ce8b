/- Package twin: Give. -/
import Derived.Test.YtjohjiphjmcolaaTwD
namespace Go.Proofs.Ytjohjiphjmcolaa
open Go.AI
set_option maxHeartbeats 2000000
set_option maxRecDepth 100000
set_option linter.unusedSimpArgs false
set_option linter.unusedVariables false
attribute [local simp] wpA wpX RunA RunD runF foot footP footB idsA bare apart runL step1 gsel_f gsel_t gsel_s res_same res_and1 res_and2 res_and3 res_and4 res_and5 res_and6 res_false res_true res_v res_ptr res_fptr res_osl res_xsl soft aAppendZ aCap ovlI ovlJ res_fsl res_esl res_agg res_tup res_fn res_junk res_anyb aPick hk imp_left iteV dstOk guardOk astep astepE AI.ev AI.look AI.put envOf aBox cellsOf allOne allOneA oneA Value.oneCell' Value.cells newObj' aFieldAddr aLoad obj readAt thenA blockA condA retA resA tupA view hot hotC hotR depthV cAgg cInt cBool mkAgg allV aAlloc aBuild fillA writeAt aStore isAggA aField idx aIndexAddr aIndex bnd aSlice aExtract aLen aBuiltin aCall isStatic eqAgg eqTy eqC ev_add ev_sub ev_mul ev_quo ev_rem ev_and ev_or ev_xor ev_andNot ev_shl ev_shr ev_eql ev_neq ev_lss ev_leq ev_gtr ev_geq ev_agg w64 wu32 wu8 ev_not ev_neg Cod.plain RCod.plain argM finM cold coldC coldR goInt intDec boolDec aggDec Weaker heapW lowA lowC Again slDec undef aBuildSlice setRows aAppend rowsOf aMakeSlice aClear aCopy softer_self softer_nil valsOf ev_min2 ev_max2 hotR_set hotR_append take_map_set irow_cold irow_mapM irow_mapMc irow_view irow_viewc irow_hotR irow_ren irow_renc irow_low WeakT heapT thOf ren renC AgainT NextF NextT fnDec cFn rNil selfLt natLt0 natLt1 getLastMap frame0 frame1 own0 own1 argG finG tau tauI tauO tauC bareA bareC bareH irow_tau irow_tauc irow_bare irow_flat irow_bareR ownA_nil ownT_nil ownA_c ownT_c ownA_s ownT_s takeMapLen footC plainA noId noIdC cloneF frame0F frame1F insertF replaceI replaceF cellDec rCell fpDec cFp rTwo deleteF RunR RunE runFT footAt hotR_cat tmodN fxSz2 fxBy2 fxAg2 fxZe2 fxSl2 fxAr2 fxPl2 fxSz3 fxBy3 fxAg3 fxZe3 fxSl3 fxAr3 fxPl3 fxSz4 fxBy4 fxAg4 fxZe4 fxSl4 fxAr4 fxPl4 fxSz5 fxBy5 fxAg5 fxZe5 fxSl5 fxAr5 fxPl5 fxSz9 fxBy9 fxAg9 fxZe9 fxSl9 fxAr9 fxPl9 fxSz12 fxBy12 fxAg12 fxZe12 fxSl12 fxAr12 fxPl12 fxSz13 fxBy13 fxAg13 fxZe13 fxSl13 fxAr13 fxFi13x0 fxFi13x1 fxPl13 fxSz21 fxBy21 fxAg21 fxZe21 fxSl21 fxAr21 fxPl21 fxSz22 fxBy22 fxAg22 fxZe22 fxSl22 fxAr22 fxPl22 fxSz23 fxBy23 fxAg23 fxZe23 fxSl23 fxAr23 fxFi23x0 fxFi23x1 fxFi23x2 fxPl23 fxSz24 fxBy24 fxAg24 fxZe24 fxSl24 fxAr24 fxFi24x0 fxFi24x1 fxFi24x2 fxPl24 fxSz25 fxBy25 fxAg25 fxZe25 fxSl25 fxAr25 fxPl25 fxSz42 fxBy42 fxAg42 fxZe42 fxSl42 fxAr42 fxPl42 fxSz43 fxBy43 fxAg43 fxZe43 fxSl43 fxAr43 fxFi43x0 fxFi43x1 fxPl43 fxSz44 fxBy44 fxAg44 fxZe44 fxSl44 fxAr44 fxFi44x0 fxFi44x1 fxPl44 fxSz48 fxBy48 fxAg48 fxZe48 fxSl48 fxAr48 fxFi48x0 fxFi48x1 fxPl48 fxSz49 fxBy49 fxAg49 fxZe49 fxSl49 fxAr49 fxFi49x0 fxFi49x1 fxPl49 fxSz53 fxBy53 fxAg53 fxZe53 fxSl53 fxAr53 fxPl53 fxSz59 fxBy59 fxAg59 fxZe59 fxSl59 fxAr59 fxPl59 fxSz68 fxBy68 fxAg68 fxZe68 fxSl68 fxAr68 fxPl68 fxSz85 fxBy85 fxAg85 fxZe85 fxSl85 fxAr85 fxPl85 fxSz91 fxBy91 fxAg91 fxZe91 fxSl91 fxAr91 fxPl91 fxSz92 fxBy92 fxAg92 fxZe92 fxSl92 fxAr92 fxFi92x0 fxPl92 fxSz95 fxBy95 fxAg95 fxZe95 fxSl95 fxAr95 fxPl95 fxSz99 fxBy99 fxAg99 fxZe99 fxSl99 fxAr99 fxPl99 fxSz104 fxBy104 fxAg104 fxZe104 fxSl104 fxAr104 fxPl104 fxEq24 fxEq49 fxEq53 fxCv2x2 fxCv2x3 fxCv2x5 fxCv2x12 fxCv2x21 fxCv2x25 fxCv2x95 fxCv3x2 fxCv3x3 fxCv3x5 fxCv3x12 fxCv3x21 fxCv3x25 fxCv3x95 fxCv5x2 fxCv5x3 fxCv5x5 fxCv5x12 fxCv5x21 fxCv5x25 fxCv5x95 fxCv12x2 fxCv12x3 fxCv12x5 fxCv12x12 fxCv12x21 fxCv12x25 fxCv12x95 fxCv21x2 fxCv21x3 fxCv21x5 fxCv21x12 fxCv21x21 fxCv21x25 fxCv21x95 fxCv25x2 fxCv25x3 fxCv25x5 fxCv25x12 fxCv25x21 fxCv25x25 fxCv25x95 fxCv95x2 fxCv95x3 fxCv95x5 fxCv95x12 fxCv95x21 fxCv95x25 fxCv95x95 fxEb4 fxNb4 fxLt9 fxLn22 fxNe22 fxNn22 fxLn42 fxNe42 fxNn42 fxLn59 fxNe59 fxNn59 fxLn68 fxNe68 fxNn68 fxFn3 fxFm3 fxFb3 fxFi3 fxFj3 fxFn4 fxFm4 fxFb4 fxFi4 fxFj4 fxFn5 fxFm5 fxFb5 fxFi5 fxFj5 fxFn6 fxFm6 fxFb6 fxFi6 fxFj6 fxFn7 fxFm7 fxFb7 fxFi7 fxFj7 fxFn8 fxFm8 fxFb8 fxFi8 fxFj8 fxFn9 fxFm9 fxFb9 fxFi9 fxFj9 fxFn10 fxFm10 fxFb10 fxFi10 fxFj10 fxFn11 fxFm11 fxFb11 fxFi11 fxFj11 fxFn12 fxFm12 fxFb12 fxFi12 fxFj12 fxFn13 fxFm13 fxFb13 fxFi13 fxFj13 fxFn14 fxFm14 fxFb14 fxFi14 fxFj14 fxFn15 fxFm15 fxFb15 fxFi15 fxFj15 fxFn16 fxFm16 fxFb16 fxFi16 fxFj16 fxFn17 fxFm17 fxFb17 fxFi17 fxFj17 fxFn18 fxFm18 fxFb18 fxFi18 fxFj18 fxFn19 fxFm19 fxFb19 fxFi19 fxFj19 fxFn20 fxFm20 fxFb20 fxFi20 fxFj20 fxFn21 fxFm21 fxFb21 fxFi21 fxFj21 fxFn22 fxFm22 fxFb22 fxFi22 fxFj22 fxFn23 fxFm23 fxFb23 fxFi23 fxFj23 fxFn24 fxFm24 fxFb24 fxFi24 fxFj24 fxFn25 fxFm25 fxFb25 fxFi25 fxFj25 fxFn26 fxFm26 fxFb26 fxFi26 fxFj26 fxFn27 fxFm27 fxFb27 fxFi27 fxFj27 fxFn28 fxFm28 fxFb28 fxFi28 fxFj28 fxFn29 fxFm29 fxFb29 fxFi29 fxFj29 fxFn30 fxFm30 fxFb30 fxFi30 fxFj30 fxFn31 fxFm31 fxFb31 fxFi31 fxFj31 fxFn32 fxFm32 fxFb32 fxFi32 fxFj32 fxFn33 fxFm33 fxFb33 fxFi33 fxFj33 fxFn34 fxFm34 fxFb34 fxFi34 fxFj34 fxFn35 fxFm35 fxFb35 fxFi35 fxFj35 fxFn36 fxFm36 fxFb36 fxFi36 fxFj36 fxFn37 fxFm37 fxFb37 fxFi37 fxFj37 fxFn38 fxFm38 fxFb38 fxFi38 fxFj38 fxFn39 fxFm39 fxFb39 fxFi39 fxFj39 fxFn40 fxFm40 fxFb40 fxFi40 fxFj40 fxFn41 fxFm41 fxFb41 fxFi41 fxFj41 fxFn42 fxFm42 fxFb42 fxFi42 fxFj42 fxFn43 fxFm43 fxFb43 fxFi43 fxFj43 fxFn44 fxFm44 fxFb44 fxFi44 fxFj44 fxFn45 fxFm45 fxFb45 fxFi45 fxFj45 fxFn46 fxFm46 fxFb46 fxFi46 fxFj46 fxFn47 fxFm47 fxFb47 fxFi47 fxFj47 fxFn48 fxFm48 fxFb48 fxFi48 fxFj48 fxFn49 fxFm49 fxFb49 fxFi49 fxFj49 fxFn50 fxFm50 fxFn51 fxFm51 fxFb51 fxFi51 fxFj51 fxFn52 fxFm52 fxFb52 fxFi52 fxFj52 fxFn53 fxFm53 fxFn54 fxFm54 fxFb54 fxFi54 fxFj54 fxFn55 fxFm55 fxFb55 fxFi55 fxFj55 fxFn56 fxFm56 fxFb56 fxFi56 fxFj56 fxFn57 fxFm57 fxFb57 fxFi57 fxFj57 fxFn58 fxFm58 fxFb58 fxFi58 fxFj58
attribute [local simp] Rm.eta Rm.cold Rm.mapM Rm.mapMc Rm.view Rm.viewc Rm.hotR Rm.ren Rm.renc Rm.low Rm.tau Rm.tauc Rm.bare Rm.flat Rm.flat1 Rm.mapMt Rm.mapMd Rm.coldt Rm.coldd Rm.hotRt Rm.hotRd
attribute [local simp] Twn.eta Twn.dec_row Twn.dec_hrow Twn.cold Twn.hcold Twn.mapM Twn.mapMc Twn.hmapM Twn.hmapMc Twn.view Twn.viewc Twn.hview Twn.hviewc Twn.hotR Twn.ren Twn.renc Twn.low
theorem rmInsOv : InlOk Try.prog 50 ovlI := ovl_inl (t := 42) (r := 4) Try.func50 (by kernel_rfl) (by kernel_rfl) (by kernel_rfl) (by kernel_rfl) Try.underlying42 (sz := 2) (by kernel_rfl)
theorem rmIns : InlOk Try.prog 44 (insertI 2) := by
  have hC := (noOrc_ok (P := Try.prog)).withI rmInsOv
  refine insert_of Try.func44 rfl (by simp [Try.ntmps44]) ?_ ?_ ?_ ?_
  · intro H vid vr h1
    refine wpA_sound hC fxMix _ _ _ _ (by kernel_rfl) ?_
    have h1' := obj_get h1
    simp [Try.ntmps44, Try.results44, noOrc, Orc.withI, h1']
  · intro H id vid rows vr h1 h2 h3 h5
    refine wpA_sound hC fxMix _ _ _ _ (by kernel_rfl) ?_
    have h1' := obj_get h1
    have h2' := obj_get h2
    have h6 : ¬ (rows.length + 1 ≤ rows.length) := by omega
    have h7 : rows.length ≤ 4294967295 := by omega
    simp [Try.ntmps44, Try.results44, noOrc, Orc.withI, h1', h2', h6, h7]
  · intro H id vid i rows vr h1 h2 h3 h4 h5 h6 h7
    refine wpA_sound hC fxMix _ _ _ _ (by kernel_rfl) ?_
    have h1' := obj_get h1
    have h2' := obj_get h2
    have w1 : IntKind.i64.wrap ((rows.length : Int) + 1) = ((rows.length + 1 : Nat) : Int) := by rw [w64 (by omega) (by omega)]; simp
    obtain ⟨k, hk⟩ : ∃ k, k = rows.length + 1 - i := ⟨_, rfl⟩
    have w2 : IntKind.i64.wrap ((rows.length : Int) + 1 - i) = (k : Int) := by rw [w64 (by omega) (by omega)]; omega
    have w3 : IntKind.i64.wrap ((i : Int) + 1) = ((i + 1 : Nat) : Int) := by rw [w64 (by omega) (by omega)]; simp
    have h8 : ¬ i = rows.length := by omega
    have g1 := (List.getElem?_eq_some_iff.1 h1').2
    have g2 := (List.getElem?_eq_some_iff.1 h2').2
    have b1 : ¬ (i : Int) = rows.length := by omega
    have b2 : ¬ (rows.length : Int) = i := by omega
    have e1 : ∀ l, (H ++ l)[vid]? = some (some (2, [vr])) := by intro l; rw [List.getElem?_append_left h5, h2']
    have e2 : ∀ l, (H ++ l)[id]? = some (some (2, rows)) := by intro l; rw [List.getElem?_append_left h4, h1']
    have d0 : ¬ vid = id := fun h => h3 h.symm
    have d1 : 0 < rows.length - i := by omega
    have d2 : min 1 (rows.length + 1 - i) = 1 := by omega
    have d3 : List.take (rows.length + 1 - i) [vr] = [vr] := List.take_of_length_le (by simp; omega)
    have d4 : rows.length - i ≤ rows.length + 1 - (i + 1) := by omega
    have d5 : min (rows.length - i) (rows.length + 1 - (i + 1)) = rows.length - i := by omega
    have d6 : i + 1 + (rows.length - i) ≤ i + (rows.length - i + 1) := by omega
    have d7 : i + 1 + (rows.length - i) ≤ rows.length + 1 := by omega
    have d8 : min (i + 1) rows.length = i + 1 := by omega
    have d9 : rows.length + 1 ≤ i + 1 + (rows.length - i) := by omega
    have f1 : ∀ X, List.take (i + 1) (List.take i rows ++ vr :: X) = List.take i rows ++ [vr] := by
      intro X
      have hl : (List.take i rows).length = i := by simp; omega
      rw [List.take_append, hl, List.take_of_length_le (by omega)]; simp
    have f2 : List.take (rows.length - i) (List.drop i rows) = List.drop i rows := List.take_of_length_le (by simp)
    have f7 : ∀ X, List.take i (List.take (i + 1) rows ++ X) = List.take i rows := by intro X; rw [List.take_append_of_le_length (by simp; omega), List.take_take]; congr 1; omega
    have f8 : ∀ X, List.drop (i + 1) (List.take (i + 1) rows ++ X) = X := by intro X; rw [List.drop_append_of_le_length (by simp; omega), List.drop_eq_nil_of_le (by simp; omega)]; rfl
    have c1 : (i : Int) ≤ rows.length + 1 := by omega
    have c2 : 0 ≤ (rows.length : Int) + 1 := by omega
    have c3 : (i : Int) + 1 ≤ rows.length + 1 := by omega
    have c4 : 0 ≤ (i : Int) + 1 := by omega
    have c5 : i + 1 ≤ rows.length + 1 := by omega
    have c6 : i + (rows.length + 1 - i) = rows.length + 1 := by omega
    have c7 : i + 1 + (rows.length + 1 - (i + 1)) = rows.length + 1 := by omega
    have a1 : i ≤ rows.length := by omega
    have a2 : i + k = rows.length + 1 := by omega
    have a3 : rows.length < rows.length + 1 := by omega
    have a4 : rows.length + 1 ≤ 4294967296 := by omega
    have a5 : i ≤ rows.length + 1 := by omega
    have a6 : min i rows.length = i := by omega
    have f3 : ∀ (z : Row), List.drop (i + 1 + (rows.length - i)) (List.take i rows ++ vr :: List.drop (i + 1) (List.take i rows ++ List.replicate k z)) = [] := by intro z; apply List.drop_eq_nil_of_le; simp; omega
    simp [Try.ntmps44, Try.results44, noOrc, Orc.withI, h1', h2', w1, w2, w3, h8, h4, h5, g1, g2, e1, e2, d0, d1, d2, d3, d4, d5, d6, d7, d8, d9, f1, f2, f3,  b1, b2, c1, c2, c3, c4, c5, c6, c7, a1, a2, a3, a4, a5, a6]
  · intro H id vid i cap rows vr jr h1 h2 h3 h4 h5 h6 h7 h8
    refine wpA_sound hC fxMix _ _ _ _ (by kernel_rfl) ?_
    have h1' := obj_get h1
    have h2' := obj_get h2
    have w1 : IntKind.i64.wrap ((rows.length : Int) + 1) = ((rows.length + 1 : Nat) : Int) := by rw [w64 (by omega) (by omega)]; simp
    have w3 : IntKind.i64.wrap ((i : Int) + 1) = ((i + 1 : Nat) : Int) := by rw [w64 (by omega) (by omega)]; simp
    have h9 : ¬ i = rows.length := by omega
    have g1 := (List.getElem?_eq_some_iff.1 h1').2
    have g2 := (List.getElem?_eq_some_iff.1 h2').2
    have b1 : ¬ (i : Int) = rows.length := by omega
    have b2 : ¬ (rows.length : Int) = i := by omega
    have e1 : ∀ l, (H ++ l)[vid]? = some (some (2, [vr])) := by intro l; rw [List.getElem?_append_left h5, h2']
    have e2 : ∀ l, (H ++ l)[id]? = some (some (2, rows ++ [jr])) := by intro l; rw [List.getElem?_append_left h4, h1']
    have d0 : ¬ vid = id := fun h => h3 h.symm
    have d1 : 0 < rows.length - i := by omega
    have d2 : min 1 (rows.length + 1 - i) = 1 := by omega
    have d3 : List.take (rows.length + 1 - i) [vr] = [vr] := List.take_of_length_le (by simp; omega)
    have d4 : rows.length - i ≤ rows.length + 1 - (i + 1) := by omega
    have d5 : min (rows.length - i) (rows.length + 1 - (i + 1)) = rows.length - i := by omega
    have d6 : i + 1 + (rows.length - i) ≤ i + (rows.length - i + 1) := by omega
    have d7 : i + 1 + (rows.length - i) ≤ rows.length + 1 := by omega
    have d8 : min (i + 1) rows.length = i + 1 := by omega
    have d9 : rows.length + 1 ≤ i + 1 + (rows.length - i) := by omega
    have f1 : ∀ X, List.take (i + 1) (List.take i rows ++ vr :: X) = List.take i rows ++ [vr] := by
      intro X
      have hl : (List.take i rows).length = i := by simp; omega
      rw [List.take_append, hl, List.take_of_length_le (by omega)]; simp
    have f2 : List.take (rows.length - i) (List.drop i rows) = List.drop i rows := List.take_of_length_le (by simp)
    have f7 : ∀ X, List.take i (List.take (i + 1) rows ++ X) = List.take i rows := by intro X; rw [List.take_append_of_le_length (by simp; omega), List.take_take]; congr 1; omega
    have f8 : ∀ X, List.drop (i + 1) (List.take (i + 1) rows ++ X) = X := by intro X; rw [List.drop_append_of_le_length (by simp; omega), List.drop_eq_nil_of_le (by simp; omega)]; rfl
    have c1 : (i : Int) ≤ rows.length + 1 := by omega
    have c2 : 0 ≤ (rows.length : Int) + 1 := by omega
    have c3 : (i : Int) + 1 ≤ rows.length + 1 := by omega
    have c4 : 0 ≤ (i : Int) + 1 := by omega
    have c5 : i + 1 ≤ rows.length + 1 := by omega
    have c6 : i + (rows.length + 1 - i) = rows.length + 1 := by omega
    have c7 : i + 1 + (rows.length + 1 - (i + 1)) = rows.length + 1 := by omega
    have a1 : i ≤ rows.length := by omega
    have a3 : ¬ cap < rows.length + 1 := by omega
    have a5 : i ≤ rows.length + 1 := by omega
    have a6 : min i rows.length = i := by omega
    have a7 : (rows.length : Int) + 1 ≤ cap := by omega
    have b3 : ¬ (cap : Int) < rows.length + 1 := by omega
    have a8 : i ≤ cap := by omega
    have f4 : List.take (rows.length - i) (List.take (rows.length + 1 - i) (List.drop i (rows ++ [jr]))) = List.drop i rows := by
      rw [List.take_take, List.drop_append_of_le_length a1, List.take_append_of_le_length (by simp; omega), List.take_of_length_le (by simp; omega)]
    have f5 : List.drop (i + 1 + (rows.length - i)) (rows ++ [jr]) = [] := List.drop_eq_nil_of_le (by simp; omega)
    have f6 : List.take (i + 1) (rows ++ [jr]) = List.take (i + 1) rows := List.take_append_of_le_length (by omega)
    simp [Try.ntmps44, Try.results44, noOrc, Orc.withI, h1', h2', w1, w3, h9, h4, h5, g1, g2, e1, e2, d0, d1, d2, d3, d4, d5, d6, d7, d8, d9, f2, f4, f5, f6, f7, f8, h3, List.getElem_set_ne,  b1, b2, c1, c2, c3, c4, c5, c6, c7, a1, a3, a5, a6, a7, a8, b3]

theorem rmDel : InlOk Try.prog 30 (deleteI 2) := by
  refine delete_of (z := [.v (.int .i64 0), .v (.int .i64 0)]) Try.func30 rfl (by simp [Try.ntmps30]) ?_
  intro H id i rows h1 h2 h3 h4
  refine wpA_sound noOrc_ok fxMix _ _ _ _ (by kernel_rfl) ?_
  have h1' := obj_get h1
  have g1 := (List.getElem?_eq_some_iff.1 h1').2
  have c1 : (i : Int) + 1 ≤ rows.length := by omega
  have c2 : 0 ≤ (i : Int) + 1 := by omega
  have c3 : (i : Int) ≤ i + 1 := by omega
  have c4 : i ≤ rows.length := by omega
  have c5 : i + 1 ≤ rows.length := by omega
  have c6 : i + 1 + (rows.length - (i + 1)) ≤ rows.length := by omega
  have c7 : i + (rows.length - (i + 1)) ≤ rows.length := by omega
  have c8 : i + (rows.length - (i + 1)) = rows.length - 1 := by omega
  have c9 : rows.length - 1 ≤ rows.length := by omega
  have d1 : ¬ ((i : Int) = i + 1) := by omega
  have d2 : List.take (rows.length - (i + 1)) (List.drop (i + 1) rows) = List.drop (i + 1) rows := List.take_of_length_le (by simp)
  have d3 : rows.length - (rows.length - 1) = 1 := by omega
  have d4 : (rows.length - 1) + 1 = rows.length := by omega
  have d5 : ¬ rows.length = i := by omega
  have d6 : ¬ rows.length = 0 := by omega
  have d7 : rows.length ≤ 4294967296 := by omega
  have d8 : i + (rows.length - (i + 1)) ≤ 4294967296 := by omega
  have f1 : rows.length ≤ 4294967297 := by omega
  have f2 : rows.length ≤ i + (rows.length - (i + 1) + 1) := by omega
  have d9 : ∀ X : List Row, List.take (rows.length - 1) (List.take i rows ++ (List.drop (i + 1) rows ++ X)) = List.take i rows ++ List.drop (i + 1) rows := by
    intro X
    rw [← List.append_assoc, List.take_append_of_le_length (by simp; omega), List.take_of_length_le (by simp; omega)]
  have e1 : List.drop rows.length (List.take i rows ++ (List.drop (i + 1) rows ++ List.drop (rows.length - 1) rows)) = [] := List.drop_eq_nil_of_le (by simp; omega)
  have e2 : rows.length - 1 ≤ i + (rows.length - (i + 1) + 1) := by omega
  have e3 : min i rows.length = i := by omega
  have e4 : ((rows.length - 1 : Nat) : Int) ≤ rows.length := by omega
  simp [Try.ntmps30, Try.results30, noOrc, h1', h2, h3, g1, c1, c2, c3, c4, c5, c6, c7, c8, c9, d1, d2, d3, d4, d5, d6, d7, d8, d9, e1, e2, e3, e4, f1, f2]
theorem give1_pure : PureOk Try.prog 42 (argM (cAgg rRm) fun x => argM (cFp rRm) fun p => finM (if 0 ≤ x.order then some (.v (.bool (twBud x p))) else none)) := by
  refine pure2 Try.func42 rfl ?_
  rintro x p r hr
  by_cases hc : 0 ≤ x.order
  case neg => rw [if_neg hc] at hr; cases hr
  rw [if_pos hc] at hr
  simp only [Option.some.injEq] at hr
  subst hr
  refine body_gen (noOrc_ok.withP bud_pure) fxMix (by kernel_rfl) (by simp [Try.ntmps42]) ?_
  intro C cP cI cN cD cF cA
  have cp0 := orcP bud_pure (C := C) (by rw [cP]; rfl)
  replace cI : C.inl = fun _ => false := cI
  replace cD : C.dyn = fun _ => [] := cD
  clear cP cN cF cA
  simp [Try.ntmps42, Try.results42, cSl, cp0, cI, cD, rRm, Rm.row, rmDec, hc]
theorem giveI_pure : PureOk Try.prog 41 (argM (cSl rRm) fun l => argM (cFn 42 rCapR) fun cp => finM (if l.length ≤ 4294967296 ∧ (∀ x ∈ l, okR x) then some (.v (.int .i64 (idxP (twBud · cp) l))) else none)) := by
  refine pure2 Try.func41 rfl ?_
  rintro l cp r hr
  by_cases hc : l.length ≤ 4294967296 ∧ (∀ x ∈ l, okR x)
  case neg => rw [if_neg hc] at hr; cases hr
  rw [if_pos hc] at hr
  simp only [Option.some.injEq] at hr
  subst hr
  refine body_gen (noOrc_ok.withP give1_pure) fxMix (by kernel_rfl) (by simp [Try.ntmps41]) ?_
  intro C cP cI cN cD cF cA
  have cp0 := orcP give1_pure (C := C) (by rw [cP]; rfl)
  replace cI : C.inl = fun _ => false := cI
  replace cD : C.dyn = fun _ => [] := cD
  clear cP cN cF cA
  obtain ⟨hc, hok⟩ := hc
  simp [Try.ntmps41, Try.results41, cSl, cp0, cI, cD, rRm, rCapR]
  refine loop_for l.length (fun k (_ : Unit) => ([(0, .fsl false 2 (l.map Rm.row)), (1, .fn 42 [.fptr (Rm.row cp) 0]), (7, .v (.int .i64 l.length)), (8, .v (.int .i64 k))], [])) (fun k _ => ((l.drop k).findIdx? (twBud · cp)).map (· + k) = l.findIdx? (twBud · cp)) () hc (by simp) (by simp [Rm.row]) ?_ ?_
  · intro k _ hk hall hw
    have hok1 := (hok _ (List.getElem_mem hk)).1
    by_cases q : twBud l[k] cp = true
    · rw [find_drop hk, if_pos q] at hall
      simp [Try.ntmps41, Try.results41, cSl, cp0, cI, cD, hk, hw, rRm, rCapR, rmDec, Rm.row, q, idxP, ← hall, hok1]
    · rw [find_drop hk, if_neg q] at hall
      simp at q
      simp [Try.ntmps41, Try.results41, cSl, cp0, cI, cD, hk, hw, rRm, rCapR, rmDec, Rm.row, q, hok1]
      simpa using hall
  · intro _ hall
    simp at hall
    simp [Try.ntmps41, Try.results41, cSl, cp0, cI, cD, idxP, ← hall]
def twGive (t : Twn) (a o : Int) : Except Int Twn :=
  if twCheck t = 0 then (if apartB t ⟨a, o⟩ = true then .ok ⟨t.order, giveGo twBud t.order (t.order - o).toNat ⟨a, o⟩ t.free⟩ else .error 1) else .error (twCheck t)
theorem tw_lt {α : Type} {p : α → Bool} {l : List α} {i : Nat} (h : i < (l.takeWhile p).length) : ∃ hl : i < l.length, p l[i] = true := by
  induction l generalizing i with
  | nil => simp at h
  | cons a l ih =>
    by_cases q : p a = true
    · simp only [List.takeWhile_cons, q, if_true, List.length_cons] at h
      cases i with
      | zero => exact ⟨by simp, by simpa using q⟩
      | succ i =>
        obtain ⟨h1, h2⟩ := ih (i := i) (by omega)
        exact ⟨by simp; exact h1, by simpa using h2⟩
    · simp [List.takeWhile_cons, q] at h
theorem tw_end {α : Type} (p : α → Bool) (l : List α) : (l.takeWhile p).length = l.length ∨ ∃ hl : (l.takeWhile p).length < l.length, p l[(l.takeWhile p).length] = false := by
  induction l with
  | nil => simp
  | cons a l ih =>
    by_cases q : p a = true
    · rcases ih with h | ⟨h1, h2⟩
      · left; simp [List.takeWhile_cons, q, h]
      · right
        refine ⟨by simp [List.takeWhile_cons, q]; exact h1, ?_⟩
        simpa [List.takeWhile_cons, q] using h2
    · right
      simp at q
      exact ⟨by simp [List.takeWhile_cons, q], by simp [List.takeWhile_cons, q]⟩
theorem tw_take {α : Type} (p : α → Bool) (l : List α) : l.take (l.takeWhile p).length = l.takeWhile p ∧ l.drop (l.takeWhile p).length = l.dropWhile p := by
  induction l with
  | nil => simp
  | cons a l ih =>
    by_cases q : p a = true
    · simp [List.takeWhile_cons, List.dropWhile_cons, q, ih]
    · simp [List.takeWhile_cons, List.dropWhile_cons, q]
theorem tw_le {α : Type} (p : α → Bool) (l : List α) : (l.takeWhile p).length ≤ l.length := by
  have := congrArg List.length (tw_take p l).1
  simp at this
  omega
theorem insR_rows (l : List Rm) (r : Rm) : (insR l r).map Rm.row = List.take (l.takeWhile (fun x => decide (x.at_ < r.at_))).length (l.map Rm.row) ++ r.row :: List.drop (l.takeWhile (fun x => decide (x.at_ < r.at_))).length (l.map Rm.row) := by
  obtain ⟨h1, h2⟩ := tw_take (fun x : Rm => decide (x.at_ < r.at_)) l
  rw [← List.map_take, ← List.map_drop, h1, h2]
  simp [insR]
theorem insR_len (l : List Rm) (r : Rm) : (insR l r).length = l.length + 1 := by
  have h1 := congrArg List.length (insR_rows l r)
  have h2 := tw_le (fun x : Rm => decide (x.at_ < r.at_)) l
  simp at h1
  omega
theorem twGive_pure : PureOk Try.prog 22 (argM (cAgg rTwn) fun t => argM (cInt .i64) fun a => argM (cInt .i64) fun o => finM (some (twE (twGive t a o)))) := by
  refine pure3 Try.func22 rfl ?_
  rintro t a o r hr
  simp only [Option.some.injEq] at hr
  subst hr
  refine body_gen (((((((noOrc_ok.withP twCheck_pure).withP apart_pure).withP giveI_pure).withIF rmClone clone_loc).withIF rmDel delete_loc).withIF rmIns insert_loc).withD (fun i => if i = 16 then [(1,5),(1,6)] else [])) fxMix (by kernel_rfl) (by simp [Try.ntmps22]) ?_
  intro C cP cI cN cD cF cA
  have cp0 := orcP twCheck_pure (C := C) (by rw [cP]; rfl)
  have cp1 := orcP apart_pure (C := C) (by rw [cP]; rfl)
  have cp2 := orcP giveI_pure (C := C) (by rw [cP]; rfl)
  have cn0 := orcI rmClone (C := C) (by rw [cN]; rfl)
  have cn1 := orcI rmDel (C := C) (by rw [cN]; rfl)
  have cn2 := orcI rmIns (C := C) (by rw [cN]; rfl)
  replace cI := fun g => congrFun cI g
  simp only [Orc.withP, Orc.withI, Orc.withF, Orc.withD, Orc.withA, noOrc] at cI
  replace cD : C.dyn = fun i => if i = 16 then [(1,5),(1,6)] else [] := cD
  replace cF := fun g => congrFun cF g
  simp only [Orc.withP, Orc.withI, Orc.withF, Orc.withD, Orc.withA, noOrc] at cF
  replace cA : C.alt = fun _ => [] := cA
  clear cP cN
  obtain ⟨N, l⟩ := t
  unfold twGive
  simp only
  by_cases h0 : twCheck ⟨N, l⟩ = 0
  case neg => simp [Try.ntmps22, Try.results22, cSl, cp0, cp1, cp2, cn0, cn1, cn2, cI, cD, cF, cA, rTwn, twnDec, rRm, Twn.row, h0, twE]
  obtain ⟨g1, g2, g3⟩ := twCheck_ok.1 h0
  simp only at g1 g2 g3
  have hl := okl_len g2 g3
  have pN := pw_le64 g2
  by_cases c1 : apartB ⟨N, l⟩ ⟨a, o⟩ = true
  case neg => simp [Try.ntmps22, Try.results22, cSl, cp0, cp1, cp2, cn0, cn1, cn2, cI, cD, cF, cA, rTwn, twnDec, rRm, rmDec, Twn.row, h0, c1, twE]
  obtain ⟨f0, off0⟩ := apartB_iff.1 c1
  simp only at f0 off0
  have hl2 : l.length ≤ 4294967296 := by omega
  have key : ∀ (n : Nat) (r : Rm) (m : List Rm), Fit N r → Okl N m → (N - r.order).toNat = n → (idxP (twBud · r) m < 0 ∨ ¬ r.order < N) → giveGo twBud N n r m = insR m r := by
    intro n r m _ _ hn hh
    cases n with
    | zero => rfl
    | succ n =>
      rcases hh with hh | hh
      · have := idxP_none hh
        simp only [giveGo]
        rw [List.findIdx?_eq_none_iff.2 (fun x hx => this x hx)]
      · omega
  by_cases hne : l = []
  · subst hne
    have hi0 : idxP (twBud · ⟨a, o⟩) [] < 0 := by simp [idxP]
    have hres := key _ ⟨a, o⟩ [] f0 g3 rfl (.inl hi0)
    have hins : insR [] ⟨a, o⟩ = [⟨a, o⟩] := rfl
    rw [hins] at hres
    simp only at hres
    simp [Try.ntmps22, Try.results22, cSl, cp0, cp1, cp2, cn0, cn1, cn2, cI, cD, cF, cA, rTwn, twnDec, rRm, rmDec, Twn.row, h0, c1, twE, cloneI, hres]
    refine loop_rounds 1 ?_
    by_cases q : o < N
    · simp [Try.ntmps22, Try.results22, cSl, cp0, cp1, cp2, cn0, cn1, cn2, cI, cD, cF, cA, UnrK, Twn.row, Rm.row, q, rRm, rCapR, rmDec, idxP]
      refine loop_rounds 1 ?_
      simp [Try.ntmps22, Try.results22, cSl, cp0, cp1, cp2, cn0, cn1, cn2, cI, cD, cF, cA, UnrK, Twn.row, Rm.row, insertI, twE, hres, Twn.hrow]
    · simp [Try.ntmps22, Try.results22, cSl, cp0, cp1, cp2, cn0, cn1, cn2, cI, cD, cF, cA, UnrK, Twn.row, Rm.row, q, rRm, rCapR, rmDec, idxP]
      refine loop_rounds 1 ?_
      simp [Try.ntmps22, Try.results22, cSl, cp0, cp1, cp2, cn0, cn1, cn2, cI, cD, cF, cA, UnrK, Twn.row, Rm.row, insertI, twE, hres, Twn.hrow]
  · simp [Try.ntmps22, Try.results22, cSl, cp0, cp1, cp2, cn0, cn1, cn2, cI, cD, cF, cA, rTwn, twnDec, rRm, rmDec, Twn.row, h0, c1, twE, cloneI, hne, hl2]
    generalize hG : giveGo twBud N (N - o).toNat ⟨a, o⟩ l = G
    refine loop_inv (σ := {p : Nat × Rm × List Rm // giveGo twBud N p.1 p.2.1 p.2.2 = G ∧ Fit N p.2.1 ∧ Okl N p.2.2 ∧ (N - p.2.1.order).toNat = p.1}) (fun p => ([(3, .ptr 0 2 0 0), (6, .ptr 1 2 0 0), (9, .ptr 2 2 0 0), (10, .osl 3 2 0 p.val.2.2.length p.val.2.2.length)], [some (2, [Twn.row ⟨N, l⟩]), some (2, [[.v (.int .i64 0), .v (.slice none 0 0)]]), some (2, [p.val.2.1.row]), some (2, p.val.2.2.map Rm.row)])) (fun p => p.val.1) ⟨((N - o).toNat, ⟨a, o⟩, l), hG, f0, g3, rfl⟩ (by simp [Twn.row, Rm.row]) ?_
    rintro ⟨⟨n, r, m⟩, i1, i2, i3, i4⟩
    simp only at i1 i2 i3 i4 ⊢
    have hml := okl_len g2 i3
    have hml2 : m.length ≤ 4294967296 := by omega
    have hml3 : m.length ≤ 1048576 := by omega
    have hok : (∀ x, x ∈ m → okR x) = True := eq_true fun x hx => fit_okR g2 (i3.1 x hx)
    by_cases q : r.order < N
    · by_cases q2 : idxP (twBud · r) m < 0
      · have hres := key n r m i2 i3 i4 (.inl q2)
        rw [i1] at hres
        simp [Try.ntmps22, Try.results22, cSl, cp0, cp1, cp2, cn0, cn1, cn2, cI, cD, cF, cA, Twn.row, Rm.row, q, rRm, rCapR, rmDec, hml2, hok, q2]
        generalize htw : (m.takeWhile (fun x => decide (x.at_ < r.at_))).length = tw at *
        have htl : tw ≤ m.length := by rw [← htw]; exact tw_le _ _
        refine loop_inv (σ := {i : Nat // i ≤ tw}) (fun p => ([(3, .ptr 0 2 0 0), (6, .ptr 1 2 0 0), (9, .ptr 2 2 0 0), (10, .osl 3 2 0 m.length m.length), (12, .v (.int .i64 p.val))], [some (2, [Twn.row ⟨N, l⟩]), some (2, [[.v (.int .i64 0), .v (.slice none 0 0)]]), some (2, [r.row]), some (2, m.map Rm.row)])) (fun p => tw - p.val) ⟨0, by omega⟩ (by simp [Twn.row, Rm.row]) ?_
        rintro ⟨i, hi⟩
        have hw : IntKind.i64.wrap ((i : Int) + 1) = ((i + 1 : Nat) : Int) := by rw [w64 (by omega) (by omega)]; simp
        rcases Nat.lt_or_ge i tw with hit | hit
        · obtain ⟨hil, hip⟩ := tw_lt (p := fun x : Rm => decide (x.at_ < r.at_)) (l := m) (i := i) (by rw [htw]; exact hit)
          simp at hip
          simp [Try.ntmps22, Try.results22, cSl, cp0, cp1, cp2, cn0, cn1, cn2, cI, cD, cF, cA, hil, Twn.row, Rm.row, hip, hw]
          exact ⟨i + 1, by omega, by omega, by simp⟩
        · have hitw : i = tw := by omega
          subst hitw
          have hrows := insR_rows m r
          have hlen := insR_len m r
          have hend := tw_end (fun x : Rm => decide (x.at_ < r.at_)) m
          rw [htw] at hrows
          simp only [htw] at hend
          have hcond : ¬ ∃ hh : i < m.length, m[i].at_ < r.at_ := by
            rintro ⟨h1, h2⟩
            rcases hend with h | ⟨_, h⟩
            · omega
            · simp at h; omega
          have hl1 : m.length ≤ 1048576 := by omega
          have hile : i ≤ m.length := htl
          have t1 : m.length + 1 ≤ i + (m.length - i + 1) := by omega
          have t2 : ∀ x : Row, List.take (m.length + 1) (List.take i (m.map Rm.row) ++ x :: List.drop i (m.map Rm.row)) = List.take i (m.map Rm.row) ++ x :: List.drop i (m.map Rm.row) := fun x => List.take_of_length_le (by simp; omega)
          by_cases hil : i < m.length
          · have hp : ¬ m[i].at_ < r.at_ := fun h => hcond ⟨hil, h⟩
            simp [Try.ntmps22, Try.results22, cSl, cp0, cp1, cp2, cn0, cn1, cn2, cI, cD, cF, cA, hil, Twn.row, Twn.hrow, Rm.row, hp, insertI, hl1, hile, twE, hres, hrows, t1, t2]
          · have hile2 : i = m.length := by omega
            simp [Try.ntmps22, Try.results22, cSl, cp0, cp1, cp2, cn0, cn1, cn2, cI, cD, cF, cA, hil, Twn.row, Twn.hrow, Rm.row, insertI, hl1, hile, twE, hres, hrows, t1, t2]
      · obtain ⟨k, e1, hk, e2, e3⟩ := idxP_some q2
        have hf : m.findIdx? (twBud · r) = some k := by
          unfold idxP at e1
          split at e1
          · rename_i k' hk'; rw [hk']; congr 1; omega
          · omega
        have hB := (twBud_iff g2 (i3.1 _ (List.getElem_mem hk)) i2).1 e2
        obtain ⟨m1, m2⟩ := bud_merge (i3.1 _ (List.getElem_mem hk)) i2 hB q
        cases n with
        | zero => omega
        | succ n =>
          simp only [giveGo, hf] at i1
          have e : (m[k]?.getD r) = m[k] := by simp [hk]
          rw [e] at i1
          have w1 : IntKind.i64.wrap (r.order + 1) = r.order + 1 := by have := i2.1; exact w64 (by omega) (by omega)
          have w2 : IntKind.i64.wrap ((k : Int) + 1) = (k : Int) + 1 := w64 (by omega) (by omega)
          have e4 : (if m[k].at_ < r.at_ then m[k].at_ else r.at_) = min r.at_ m[k].at_ := by omega
          have he : (m.map Rm.row).eraseIdx k = (m.eraseIdx k).map Rm.row := by rw [List.eraseIdx_eq_take_drop_succ, List.eraseIdx_eq_take_drop_succ]; simp
          have hle : (m.eraseIdx k).length = m.length - 1 := by rw [List.length_eraseIdx, if_pos hk]
          have hsub : (m.eraseIdx k).Sublist m := List.eraseIdx_sublist ..
          have q3 : ¬ ((k : Int) < 0) := by omega
          simp [Try.ntmps22, Try.results22, cSl, cp0, cp1, cp2, cn0, cn1, cn2, cI, cD, cF, cA, Twn.row, Rm.row, q, rRm, rCapR, rmDec, hml2, hml3, hok, e1, q3, hk, w1, w2, e4, he, deleteI]
          exact ⟨n, by omega, ⟨min r.at_ m[k].at_, r.order + 1⟩, m.eraseIdx k, hle.symm, ⟨rfl, rfl⟩, ⟨i1, m1, ⟨fun y hy => i3.1 y (hsub.subset hy), i3.2.sublist hsub⟩, by simp; omega⟩, rfl⟩
    · have hres := key n r m i2 i3 i4 (.inr q)
      rw [i1] at hres
      simp [Try.ntmps22, Try.results22, cSl, cp0, cp1, cp2, cn0, cn1, cn2, cI, cD, cF, cA, Twn.row, Rm.row, q]
      generalize htw : (m.takeWhile (fun x => decide (x.at_ < r.at_))).length = tw at *
      have htl : tw ≤ m.length := by rw [← htw]; exact tw_le _ _
      refine loop_inv (σ := {i : Nat // i ≤ tw}) (fun p => ([(3, .ptr 0 2 0 0), (6, .ptr 1 2 0 0), (9, .ptr 2 2 0 0), (10, .osl 3 2 0 m.length m.length), (12, .v (.int .i64 p.val))], [some (2, [Twn.row ⟨N, l⟩]), some (2, [[.v (.int .i64 0), .v (.slice none 0 0)]]), some (2, [r.row]), some (2, m.map Rm.row)])) (fun p => tw - p.val) ⟨0, by omega⟩ (by simp [Twn.row, Rm.row]) ?_
      rintro ⟨i, hi⟩
      have hw : IntKind.i64.wrap ((i : Int) + 1) = ((i + 1 : Nat) : Int) := by rw [w64 (by omega) (by omega)]; simp
      rcases Nat.lt_or_ge i tw with hit | hit
      · obtain ⟨hil, hip⟩ := tw_lt (p := fun x : Rm => decide (x.at_ < r.at_)) (l := m) (i := i) (by rw [htw]; exact hit)
        simp at hip
        simp [Try.ntmps22, Try.results22, cSl, cp0, cp1, cp2, cn0, cn1, cn2, cI, cD, cF, cA, hil, Twn.row, Rm.row, hip, hw]
        exact ⟨i + 1, by omega, by omega, by simp⟩
      · have hitw : i = tw := by omega
        subst hitw
        have hrows := insR_rows m r
        have hlen := insR_len m r
        have hend := tw_end (fun x : Rm => decide (x.at_ < r.at_)) m
        rw [htw] at hrows
        simp only [htw] at hend
        have hcond : ¬ ∃ hh : i < m.length, m[i].at_ < r.at_ := by
          rintro ⟨h1, h2⟩
          rcases hend with h | ⟨_, h⟩
          · omega
          · simp at h; omega
        have hl1 : m.length ≤ 1048576 := by omega
        have hile : i ≤ m.length := htl
        have t1 : m.length + 1 ≤ i + (m.length - i + 1) := by omega
        have t2 : ∀ x : Row, List.take (m.length + 1) (List.take i (m.map Rm.row) ++ x :: List.drop i (m.map Rm.row)) = List.take i (m.map Rm.row) ++ x :: List.drop i (m.map Rm.row) := fun x => List.take_of_length_le (by simp; omega)
        by_cases hil : i < m.length
        · have hp : ¬ m[i].at_ < r.at_ := fun h => hcond ⟨hil, h⟩
          simp [Try.ntmps22, Try.results22, cSl, cp0, cp1, cp2, cn0, cn1, cn2, cI, cD, cF, cA, hil, Twn.row, Twn.hrow, Rm.row, hp, insertI, hl1, hile, twE, hres, hrows, t1, t2]
        · have hile2 : i = m.length := by omega
          simp [Try.ntmps22, Try.results22, cSl, cp0, cp1, cp2, cn0, cn1, cn2, cI, cD, cF, cA, hil, Twn.row, Twn.hrow, Rm.row, insertI, hl1, hile, twE, hres, hrows, t1, t2]
end Go.Proofs.Ytjohjiphjmcolaa
