/- Package rmap: Put, Out, Where, and what the statements ask of lists. -/
import Derived.Test.YtigpgieapamffaaRmC
namespace Go.Proofs.Ytigpgieapamffaa
open Go.AI
set_option maxHeartbeats 2000000
set_option maxRecDepth 100000
set_option linter.unusedSimpArgs false
set_option linter.unusedVariables false
attribute [local simp] wpA wpX RunA RunD runF foot footP footB idsA bare apart runL step1 gsel_f gsel_t gsel_s res_same res_and1 res_and2 res_and3 res_and4 res_and5 res_and6 res_false res_true res_v res_ptr res_fptr res_osl res_xsl soft aAppendZ aCap ovlI ovlJ res_fsl res_esl res_agg res_tup res_fn res_junk res_anyb aPick hk imp_left iteV dstOk guardOk astep astepE AI.ev AI.look AI.put envOf aBox cellsOf allOne allOneA oneA Value.oneCell' Value.cells newObj' aFieldAddr aLoad obj readAt thenA blockA condA retA resA tupA view hot hotC hotR depthV cAgg cInt cBool mkAgg allV aAlloc aBuild fillA writeAt aStore isAggA aField idx aIndexAddr aIndex bnd aSlice aExtract aLen aBuiltin aCall isStatic eqAgg eqTy eqC ev_add ev_sub ev_mul ev_quo ev_rem ev_and ev_or ev_xor ev_andNot ev_shl ev_shr ev_eql ev_neq ev_lss ev_leq ev_gtr ev_geq ev_agg w64 wu32 wu8 ev_not ev_neg Cod.plain RCod.plain argM finM cold coldC coldR goInt intDec boolDec aggDec Weaker heapW lowA lowC Again slDec undef aBuildSlice setRows aAppend rowsOf aMakeSlice aClear aCopy softer_self softer_nil valsOf ev_min2 ev_max2 hotR_set hotR_append take_map_set irow_cold irow_mapM irow_mapMc irow_view irow_viewc irow_hotR irow_ren irow_renc irow_low WeakT heapT thOf ren renC AgainT NextF NextT fnDec cFn rNil selfLt natLt0 natLt1 getLastMap frame0 frame1 own0 own1 argG finG tau tauI tauO tauC bareA bareC bareH irow_tau irow_tauc irow_bare irow_flat irow_bareR ownA_nil ownT_nil ownA_c ownT_c ownA_s ownT_s takeMapLen footC plainA noId noIdC cloneF frame0F frame1F insertF replaceI replaceF cellDec rCell fpDec cFp rTwo deleteF allV_oA oneA_oA res_oA RunR RunE runFT footAt hotR_cat tmodN fxSz2 fxBy2 fxAg2 fxZe2 fxSl2 fxAr2 fxPl2 fxSz3 fxBy3 fxAg3 fxZe3 fxSl3 fxAr3 fxPl3 fxSz4 fxBy4 fxAg4 fxZe4 fxSl4 fxAr4 fxPl4 fxSz5 fxBy5 fxAg5 fxZe5 fxSl5 fxAr5 fxPl5 fxSz9 fxBy9 fxAg9 fxZe9 fxSl9 fxAr9 fxPl9 fxSz12 fxBy12 fxAg12 fxZe12 fxSl12 fxAr12 fxPl12 fxSz13 fxBy13 fxAg13 fxZe13 fxSl13 fxAr13 fxFi13x0 fxFi13x1 fxPl13 fxSz21 fxBy21 fxAg21 fxZe21 fxSl21 fxAr21 fxPl21 fxSz22 fxBy22 fxAg22 fxZe22 fxSl22 fxAr22 fxPl22 fxSz23 fxBy23 fxAg23 fxZe23 fxSl23 fxAr23 fxFi23x0 fxFi23x1 fxPl23 fxSz24 fxBy24 fxAg24 fxZe24 fxSl24 fxAr24 fxFi24x0 fxFi24x1 fxPl24 fxSz25 fxBy25 fxAg25 fxZe25 fxSl25 fxAr25 fxPl25 fxSz29 fxBy29 fxAg29 fxZe29 fxSl29 fxAr29 fxFi29x0 fxFi29x1 fxFi29x2 fxPl29 fxSz30 fxBy30 fxAg30 fxZe30 fxSl30 fxAr30 fxFi30x0 fxFi30x1 fxFi30x2 fxPl30 fxSz38 fxBy38 fxAg38 fxZe38 fxSl38 fxAr38 fxPl38 fxSz46 fxBy46 fxAg46 fxZe46 fxSl46 fxAr46 fxPl46 fxSz47 fxBy47 fxAg47 fxZe47 fxSl47 fxAr47 fxFi47x0 fxFi47x1 fxFi47x2 fxPl47 fxSz48 fxBy48 fxAg48 fxZe48 fxSl48 fxAr48 fxFi48x0 fxFi48x1 fxFi48x2 fxPl48 fxSz66 fxBy66 fxAg66 fxZe66 fxSl66 fxAr66 fxPl66 fxSz74 fxBy74 fxAg74 fxZe74 fxSl74 fxAr74 fxPl74 fxSz79 fxBy79 fxAg79 fxZe79 fxSl79 fxAr79 fxPl79 fxSz91 fxBy91 fxAg91 fxZe91 fxSl91 fxAr91 fxPl91 fxSz92 fxBy92 fxAg92 fxZe92 fxSl92 fxAr92 fxPl92 fxSz99 fxBy99 fxAg99 fxZe99 fxSl99 fxAr99 fxPl99 fxSz105 fxBy105 fxAg105 fxZe105 fxSl105 fxAr105 fxPl105 fxSz107 fxBy107 fxAg107 fxZe107 fxSl107 fxAr107 fxPl107 fxSz113 fxBy113 fxAg113 fxZe113 fxSl113 fxAr113 fxPl113 fxSz117 fxBy117 fxAg117 fxZe117 fxSl117 fxAr117 fxPl117 fxSz126 fxBy126 fxAg126 fxZe126 fxSl126 fxAr126 fxPl126 fxSz136 fxBy136 fxAg136 fxZe136 fxSl136 fxAr136 fxPl136 fxSz137 fxBy137 fxAg137 fxZe137 fxSl137 fxAr137 fxFi137x0 fxPl137 fxSz143 fxBy143 fxAg143 fxZe143 fxSl143 fxAr143 fxPl143 fxSz148 fxBy148 fxAg148 fxZe148 fxSl148 fxAr148 fxPl148 fxEq30 fxEq48 fxEq92 fxCv2x2 fxCv2x3 fxCv2x5 fxCv2x12 fxCv2x21 fxCv2x25 fxCv2x79 fxCv2x99 fxCv2x105 fxCv2x107 fxCv2x113 fxCv3x2 fxCv3x3 fxCv3x5 fxCv3x12 fxCv3x21 fxCv3x25 fxCv3x79 fxCv3x99 fxCv3x105 fxCv3x107 fxCv3x113 fxCv5x2 fxCv5x3 fxCv5x5 fxCv5x12 fxCv5x21 fxCv5x25 fxCv5x79 fxCv5x99 fxCv5x105 fxCv5x107 fxCv5x113 fxCv12x2 fxCv12x3 fxCv12x5 fxCv12x12 fxCv12x21 fxCv12x25 fxCv12x79 fxCv12x99 fxCv12x105 fxCv12x107 fxCv12x113 fxCv21x2 fxCv21x3 fxCv21x5 fxCv21x12 fxCv21x21 fxCv21x25 fxCv21x79 fxCv21x99 fxCv21x105 fxCv21x107 fxCv21x113 fxCv25x2 fxCv25x3 fxCv25x5 fxCv25x12 fxCv25x21 fxCv25x25 fxCv25x79 fxCv25x99 fxCv25x105 fxCv25x107 fxCv25x113 fxCv79x2 fxCv79x3 fxCv79x5 fxCv79x12 fxCv79x21 fxCv79x25 fxCv79x79 fxCv79x99 fxCv79x105 fxCv79x107 fxCv79x113 fxCv99x2 fxCv99x3 fxCv99x5 fxCv99x12 fxCv99x21 fxCv99x25 fxCv99x79 fxCv99x99 fxCv99x105 fxCv99x107 fxCv99x113 fxCv105x2 fxCv105x3 fxCv105x5 fxCv105x12 fxCv105x21 fxCv105x25 fxCv105x79 fxCv105x99 fxCv105x105 fxCv105x107 fxCv105x113 fxCv107x2 fxCv107x3 fxCv107x5 fxCv107x12 fxCv107x21 fxCv107x25 fxCv107x79 fxCv107x99 fxCv107x105 fxCv107x107 fxCv107x113 fxCv113x2 fxCv113x3 fxCv113x5 fxCv113x12 fxCv113x21 fxCv113x25 fxCv113x79 fxCv113x99 fxCv113x105 fxCv113x107 fxCv113x113 fxEb4 fxNb4 fxLt9 fxLn22 fxNe22 fxNn22 fxOe22 fxOn22 fxXe22 fxXn22 fxLn38 fxNe38 fxNn38 fxOe38 fxOn38 fxXe38 fxXn38 fxLn46 fxNe46 fxNn46 fxOe46 fxOn46 fxXe46 fxXn46 fxLn74 fxNe74 fxNn74 fxOe74 fxOn74 fxXe74 fxXn74 fxFn3 fxFm3 fxFb3 fxFi3 fxFj3 fxFn4 fxFm4 fxFb4 fxFi4 fxFj4 fxFn5 fxFm5 fxFb5 fxFi5 fxFj5 fxFn6 fxFm6 fxFb6 fxFi6 fxFj6 fxFn7 fxFm7 fxFb7 fxFi7 fxFj7 fxFn8 fxFm8 fxFb8 fxFi8 fxFj8 fxFn9 fxFm9 fxFb9 fxFi9 fxFj9 fxFn10 fxFm10 fxFb10 fxFi10 fxFj10 fxFn11 fxFm11 fxFb11 fxFi11 fxFj11 fxFn12 fxFm12 fxFb12 fxFi12 fxFj12 fxFn13 fxFm13 fxFb13 fxFi13 fxFj13 fxFn14 fxFm14 fxFb14 fxFi14 fxFj14 fxFn15 fxFm15 fxFb15 fxFi15 fxFj15 fxFn16 fxFm16 fxFb16 fxFi16 fxFj16 fxFn17 fxFm17 fxFb17 fxFi17 fxFj17 fxFn18 fxFm18 fxFb18 fxFi18 fxFj18 fxFn19 fxFm19 fxFb19 fxFi19 fxFj19 fxFn20 fxFm20 fxFb20 fxFi20 fxFj20 fxFn21 fxFm21 fxFb21 fxFi21 fxFj21 fxFn22 fxFm22 fxFb22 fxFi22 fxFj22 fxFn23 fxFm23 fxFb23 fxFi23 fxFj23 fxFn24 fxFm24 fxFb24 fxFi24 fxFj24 fxFn25 fxFm25 fxFb25 fxFi25 fxFj25 fxFn26 fxFm26 fxFb26 fxFi26 fxFj26 fxFn27 fxFm27 fxFb27 fxFi27 fxFj27 fxFn28 fxFm28 fxFb28 fxFi28 fxFj28 fxFn29 fxFm29 fxFb29 fxFi29 fxFj29 fxFn30 fxFm30 fxFb30 fxFi30 fxFj30 fxFn31 fxFm31 fxFb31 fxFi31 fxFj31 fxFn32 fxFm32 fxFb32 fxFi32 fxFj32 fxFn33 fxFm33 fxFb33 fxFi33 fxFj33 fxFn34 fxFm34 fxFb34 fxFi34 fxFj34 fxFn35 fxFm35 fxFb35 fxFi35 fxFj35 fxFn36 fxFm36 fxFb36 fxFi36 fxFj36 fxFn37 fxFm37 fxFb37 fxFi37 fxFj37 fxFn38 fxFm38 fxFb38 fxFi38 fxFj38 fxFn39 fxFm39 fxFb39 fxFi39 fxFj39 fxFn40 fxFm40 fxFb40 fxFi40 fxFj40 fxFn41 fxFm41 fxFb41 fxFi41 fxFj41 fxFn42 fxFm42 fxFb42 fxFi42 fxFj42 fxFn43 fxFm43 fxFb43 fxFi43 fxFj43 fxFn44 fxFm44 fxFb44 fxFi44 fxFj44 fxFn45 fxFm45 fxFb45 fxFi45 fxFj45 fxFn46 fxFm46 fxFb46 fxFi46 fxFj46 fxFn47 fxFm47 fxFb47 fxFi47 fxFj47 fxFn48 fxFm48 fxFb48 fxFi48 fxFj48 fxFn49 fxFm49 fxFb49 fxFi49 fxFj49 fxFn50 fxFm50 fxFb50 fxFi50 fxFj50 fxFn51 fxFm51 fxFb51 fxFi51 fxFj51 fxFn52 fxFm52 fxFb52 fxFi52 fxFj52 fxFn53 fxFm53 fxFb53 fxFi53 fxFj53 fxFn54 fxFm54 fxFb54 fxFi54 fxFj54 fxFn55 fxFm55 fxFb55 fxFi55 fxFj55 fxFn56 fxFm56 fxFb56 fxFi56 fxFj56 fxFn57 fxFm57 fxFb57 fxFi57 fxFj57 fxFn58 fxFm58 fxFb58 fxFi58 fxFj58 fxFn59 fxFm59 fxFb59 fxFi59 fxFj59 fxFn60 fxFm60 fxFb60 fxFi60 fxFj60 fxFn61 fxFm61 fxFb61 fxFi61 fxFj61 fxFn62 fxFm62 fxFb62 fxFi62 fxFj62 fxFn63 fxFm63 fxFb63 fxFi63 fxFj63 fxFn64 fxFm64 fxFb64 fxFi64 fxFj64 fxFn65 fxFm65 fxFb65 fxFi65 fxFj65 fxFn66 fxFm66 fxFb66 fxFi66 fxFj66 fxFn67 fxFm67 fxFb67 fxFi67 fxFj67 fxFn68 fxFm68 fxFb68 fxFi68 fxFj68 fxFn69 fxFm69 fxFb69 fxFi69 fxFj69 fxFn70 fxFm70 fxFn71 fxFm71 fxFb71 fxFi71 fxFj71 fxFn72 fxFm72 fxFb72 fxFi72 fxFj72 fxFn73 fxFm73 fxFb73 fxFi73 fxFj73 fxFn74 fxFm74 fxFb74 fxFi74 fxFj74 fxFn75 fxFm75 fxFb75 fxFi75 fxFj75 fxFn76 fxFm76 fxFb76 fxFi76 fxFj76 fxFn77 fxFm77 fxFb77 fxFi77 fxFj77 fxFn78 fxFm78 fxFb78 fxFi78 fxFj78 fxFn79 fxFm79 fxFb79 fxFi79 fxFj79 fxFn80 fxFm80 fxFb80 fxFi80 fxFj80 fxFn81 fxFm81 fxFb81 fxFi81 fxFj81 fxFn82 fxFm82 fxFb82 fxFi82 fxFj82 fxFn83 fxFm83 fxFb83 fxFi83 fxFj83 fxFn84 fxFm84 fxFb84 fxFi84 fxFj84 fxFn85 fxFm85 fxFb85 fxFi85 fxFj85 fxFn86 fxFm86 fxFb86 fxFi86 fxFj86 fxFn87 fxFm87 fxFb87 fxFi87 fxFj87 fxFn88 fxFm88 fxFb88 fxFi88 fxFj88 fxFn89 fxFm89 fxFn90 fxFm90 fxFb90 fxFi90 fxFj90 fxFn91 fxFm91 fxFb91 fxFi91 fxFj91 fxFn92 fxFm92 fxFb92 fxFi92 fxFj92 fxFn93 fxFm93 fxFb93 fxFi93 fxFj93 fxFn94 fxFm94 fxFb94 fxFi94 fxFj94 fxFn95 fxFm95 fxFb95 fxFi95 fxFj95 fxFn96 fxFm96 fxFb96 fxFi96 fxFj96 fxFn97 fxFm97 fxFb97 fxFi97 fxFj97 fxFn98 fxFm98 fxFb98 fxFi98 fxFj98 fxFn99 fxFm99 fxFb99 fxFi99 fxFj99 fxFn100 fxFm100 fxFb100 fxFi100 fxFj100 fxFn101 fxFm101 fxFb101 fxFi101 fxFj101 fxFn102 fxFm102 fxFb102 fxFi102 fxFj102 fxFn103 fxFm103 fxFb103 fxFi103 fxFj103 fxFn104 fxFm104 fxFb104 fxFi104 fxFj104 fxFn105 fxFm105 fxFb105 fxFi105 fxFj105 fxFn106 fxFm106 fxFb106 fxFi106 fxFj106 fxFn107 fxFm107 fxFb107 fxFi107 fxFj107 fxFn108 fxFm108 fxFb108 fxFi108 fxFj108 fxFn109 fxFm109 fxFb109 fxFi109 fxFj109 fxFn110 fxFm110 fxFb110 fxFi110 fxFj110 fxFn111 fxFm111 fxFb111 fxFi111 fxFj111 fxFn112 fxFm112 fxFb112 fxFi112 fxFj112 fxFn113 fxFm113 fxFb113 fxFi113 fxFj113 fxFn114 fxFm114 fxFb114 fxFi114 fxFj114
attribute [local simp] Pr.eta Pr.cold Pr.mapM Pr.mapMc Pr.view Pr.viewc Pr.hotR Pr.ren Pr.renc Pr.low Pr.tau Pr.tauc Pr.bare Pr.flat Pr.flat1 Pr.mapMt Pr.mapMd Pr.coldt Pr.coldd Pr.hotRt Pr.hotRd
theorem prInsOv : InlOk Try.prog 89 ovlI := ovl_inl (t := 46) (r := 4) Try.func89 (by kernel_rfl) (by kernel_rfl) (by kernel_rfl) (by kernel_rfl) Try.underlying46 (sz := 3) (by kernel_rfl)
theorem prIns : InlOk Try.prog 61 (insertI 3) := by
  have hC := (noOrc_ok (P := Try.prog)).withI prInsOv
  refine insert_of Try.func61 rfl (by simp [Try.ntmps61]) ?_ ?_ ?_ ?_
  · intro H vid vr h1
    refine wpA_sound hC fxMix _ _ _ _ (by kernel_rfl) ?_
    have h1' := obj_get h1
    simp [Try.ntmps61, Try.results61, noOrc, Orc.withI, h1']
  · intro H id vid rows vr h1 h2 h3 h5
    refine wpA_sound hC fxMix _ _ _ _ (by kernel_rfl) ?_
    have h1' := obj_get h1
    have h2' := obj_get h2
    have h6 : ¬ (rows.length + 1 ≤ rows.length) := by omega
    have h7 : rows.length ≤ 4294967295 := by omega
    simp [Try.ntmps61, Try.results61, noOrc, Orc.withI, h1', h2', h6, h7]
  · intro H id vid i rows vr h1 h2 h3 h4 h5 h6 h7
    refine wpA_sound hC fxMix _ _ _ _ (by kernel_rfl) ?_
    have h1' := obj_get h1
    have h2' := obj_get h2
    have w1 : IntKind.i64.wrap ((rows.length : Int) + 1) = ((rows.length + 1 : Nat) : Int) := by rw [w64 (by omega) (by omega)]; simp
    obtain ⟨k, hk⟩ : ∃ k, k = rows.length + 1 - i := ⟨_, rfl⟩
    have w2 : IntKind.i64.wrap ((rows.length : Int) + 1 - i) = (k : Int) := by rw [w64 (by omega) (by omega)]; omega
    have w3 : IntKind.i64.wrap ((i : Int) + 1) = ((i + 1 : Nat) : Int) := by rw [w64 (by omega) (by omega)]; simp
    have h8 : ¬ i = rows.length := by omega
    have g1 := (List.getElem?_eq_some_iff.1 h1').2
    have g2 := (List.getElem?_eq_some_iff.1 h2').2
    have b1 : ¬ (i : Int) = rows.length := by omega
    have b2 : ¬ (rows.length : Int) = i := by omega
    have e1 : ∀ l, (H ++ l)[vid]? = some (some (3, [vr])) := by intro l; rw [List.getElem?_append_left h5, h2']
    have e2 : ∀ l, (H ++ l)[id]? = some (some (3, rows)) := by intro l; rw [List.getElem?_append_left h4, h1']
    have d0 : ¬ vid = id := fun h => h3 h.symm
    have d1 : 0 < rows.length - i := by omega
    have d2 : min 1 (rows.length + 1 - i) = 1 := by omega
    have d3 : List.take (rows.length + 1 - i) [vr] = [vr] := List.take_of_length_le (by simp; omega)
    have d4 : rows.length - i ≤ rows.length + 1 - (i + 1) := by omega
    have d5 : min (rows.length - i) (rows.length + 1 - (i + 1)) = rows.length - i := by omega
    have d6 : i + 1 + (rows.length - i) ≤ i + (rows.length - i + 1) := by omega
    have d7 : i + 1 + (rows.length - i) ≤ rows.length + 1 := by omega
    have d8 : min (i + 1) rows.length = i + 1 := by omega
    have d9 : rows.length + 1 ≤ i + 1 + (rows.length - i) := by omega
    have f1 : ∀ X, List.take (i + 1) (List.take i rows ++ vr :: X) = List.take i rows ++ [vr] := by
      intro X
      have hl : (List.take i rows).length = i := by simp; omega
      rw [List.take_append, hl, List.take_of_length_le (by omega)]; simp
    have f2 : List.take (rows.length - i) (List.drop i rows) = List.drop i rows := List.take_of_length_le (by simp)
    have f7 : ∀ X, List.take i (List.take (i + 1) rows ++ X) = List.take i rows := by intro X; rw [List.take_append_of_le_length (by simp; omega), List.take_take]; congr 1; omega
    have f8 : ∀ X, List.drop (i + 1) (List.take (i + 1) rows ++ X) = X := by intro X; rw [List.drop_append_of_le_length (by simp; omega), List.drop_eq_nil_of_le (by simp; omega)]; rfl
    have c1 : (i : Int) ≤ rows.length + 1 := by omega
    have c2 : 0 ≤ (rows.length : Int) + 1 := by omega
    have c3 : (i : Int) + 1 ≤ rows.length + 1 := by omega
    have c4 : 0 ≤ (i : Int) + 1 := by omega
    have c5 : i + 1 ≤ rows.length + 1 := by omega
    have c6 : i + (rows.length + 1 - i) = rows.length + 1 := by omega
    have c7 : i + 1 + (rows.length + 1 - (i + 1)) = rows.length + 1 := by omega
    have a1 : i ≤ rows.length := by omega
    have a2 : i + k = rows.length + 1 := by omega
    have a3 : rows.length < rows.length + 1 := by omega
    have a4 : rows.length + 1 ≤ 4294967296 := by omega
    have a5 : i ≤ rows.length + 1 := by omega
    have a6 : min i rows.length = i := by omega
    have f3 : ∀ (z : Row), List.drop (i + 1 + (rows.length - i)) (List.take i rows ++ vr :: List.drop (i + 1) (List.take i rows ++ List.replicate k z)) = [] := by intro z; apply List.drop_eq_nil_of_le; simp; omega
    simp [Try.ntmps61, Try.results61, noOrc, Orc.withI, h1', h2', w1, w2, w3, h8, h4, h5, g1, g2, e1, e2, d0, d1, d2, d3, d4, d5, d6, d7, d8, d9, f1, f2, f3,  b1, b2, c1, c2, c3, c4, c5, c6, c7, a1, a2, a3, a4, a5, a6]
  · intro H id vid i cap rows vr jr h1 h2 h3 h4 h5 h6 h7 h8
    refine wpA_sound hC fxMix _ _ _ _ (by kernel_rfl) ?_
    have h1' := obj_get h1
    have h2' := obj_get h2
    have w1 : IntKind.i64.wrap ((rows.length : Int) + 1) = ((rows.length + 1 : Nat) : Int) := by rw [w64 (by omega) (by omega)]; simp
    have w3 : IntKind.i64.wrap ((i : Int) + 1) = ((i + 1 : Nat) : Int) := by rw [w64 (by omega) (by omega)]; simp
    have h9 : ¬ i = rows.length := by omega
    have g1 := (List.getElem?_eq_some_iff.1 h1').2
    have g2 := (List.getElem?_eq_some_iff.1 h2').2
    have b1 : ¬ (i : Int) = rows.length := by omega
    have b2 : ¬ (rows.length : Int) = i := by omega
    have e1 : ∀ l, (H ++ l)[vid]? = some (some (3, [vr])) := by intro l; rw [List.getElem?_append_left h5, h2']
    have e2 : ∀ l, (H ++ l)[id]? = some (some (3, rows ++ [jr])) := by intro l; rw [List.getElem?_append_left h4, h1']
    have d0 : ¬ vid = id := fun h => h3 h.symm
    have d1 : 0 < rows.length - i := by omega
    have d2 : min 1 (rows.length + 1 - i) = 1 := by omega
    have d3 : List.take (rows.length + 1 - i) [vr] = [vr] := List.take_of_length_le (by simp; omega)
    have d4 : rows.length - i ≤ rows.length + 1 - (i + 1) := by omega
    have d5 : min (rows.length - i) (rows.length + 1 - (i + 1)) = rows.length - i := by omega
    have d6 : i + 1 + (rows.length - i) ≤ i + (rows.length - i + 1) := by omega
    have d7 : i + 1 + (rows.length - i) ≤ rows.length + 1 := by omega
    have d8 : min (i + 1) rows.length = i + 1 := by omega
    have d9 : rows.length + 1 ≤ i + 1 + (rows.length - i) := by omega
    have f1 : ∀ X, List.take (i + 1) (List.take i rows ++ vr :: X) = List.take i rows ++ [vr] := by
      intro X
      have hl : (List.take i rows).length = i := by simp; omega
      rw [List.take_append, hl, List.take_of_length_le (by omega)]; simp
    have f2 : List.take (rows.length - i) (List.drop i rows) = List.drop i rows := List.take_of_length_le (by simp)
    have f7 : ∀ X, List.take i (List.take (i + 1) rows ++ X) = List.take i rows := by intro X; rw [List.take_append_of_le_length (by simp; omega), List.take_take]; congr 1; omega
    have f8 : ∀ X, List.drop (i + 1) (List.take (i + 1) rows ++ X) = X := by intro X; rw [List.drop_append_of_le_length (by simp; omega), List.drop_eq_nil_of_le (by simp; omega)]; rfl
    have c1 : (i : Int) ≤ rows.length + 1 := by omega
    have c2 : 0 ≤ (rows.length : Int) + 1 := by omega
    have c3 : (i : Int) + 1 ≤ rows.length + 1 := by omega
    have c4 : 0 ≤ (i : Int) + 1 := by omega
    have c5 : i + 1 ≤ rows.length + 1 := by omega
    have c6 : i + (rows.length + 1 - i) = rows.length + 1 := by omega
    have c7 : i + 1 + (rows.length + 1 - (i + 1)) = rows.length + 1 := by omega
    have a1 : i ≤ rows.length := by omega
    have a3 : ¬ cap < rows.length + 1 := by omega
    have a5 : i ≤ rows.length + 1 := by omega
    have a6 : min i rows.length = i := by omega
    have a7 : (rows.length : Int) + 1 ≤ cap := by omega
    have b3 : ¬ (cap : Int) < rows.length + 1 := by omega
    have a8 : i ≤ cap := by omega
    have f4 : List.take (rows.length - i) (List.take (rows.length + 1 - i) (List.drop i (rows ++ [jr]))) = List.drop i rows := by
      rw [List.take_take, List.drop_append_of_le_length a1, List.take_append_of_le_length (by simp; omega), List.take_of_length_le (by simp; omega)]
    have f5 : List.drop (i + 1 + (rows.length - i)) (rows ++ [jr]) = [] := List.drop_eq_nil_of_le (by simp; omega)
    have f6 : List.take (i + 1) (rows ++ [jr]) = List.take (i + 1) rows := List.take_append_of_le_length (by omega)
    simp [Try.ntmps61, Try.results61, noOrc, Orc.withI, h1', h2', w1, w3, h9, h4, h5, g1, g2, e1, e2, d0, d1, d2, d3, d4, d5, d6, d7, d8, d9, f2, f4, f5, f6, f7, f8, h3, List.getElem_set_ne,  b1, b2, c1, c2, c3, c4, c5, c6, c7, a1, a3, a5, a6, a7, a8, b3]

theorem prDel : InlOk Try.prog 66 (deleteI 3) := by
  refine delete_of (z := [.v (.int .i64 0), .v (.int .i64 0), .v (.int .i64 0)]) Try.func66 rfl (by simp [Try.ntmps66]) ?_
  intro H id i rows h1 h2 h3 h4
  refine wpA_sound noOrc_ok fxMix _ _ _ _ (by kernel_rfl) ?_
  have h1' := obj_get h1
  have g1 := (List.getElem?_eq_some_iff.1 h1').2
  have c1 : (i : Int) + 1 ≤ rows.length := by omega
  have c2 : 0 ≤ (i : Int) + 1 := by omega
  have c3 : (i : Int) ≤ i + 1 := by omega
  have c4 : i ≤ rows.length := by omega
  have c5 : i + 1 ≤ rows.length := by omega
  have c6 : i + 1 + (rows.length - (i + 1)) ≤ rows.length := by omega
  have c7 : i + (rows.length - (i + 1)) ≤ rows.length := by omega
  have c8 : i + (rows.length - (i + 1)) = rows.length - 1 := by omega
  have c9 : rows.length - 1 ≤ rows.length := by omega
  have d1 : ¬ ((i : Int) = i + 1) := by omega
  have d2 : List.take (rows.length - (i + 1)) (List.drop (i + 1) rows) = List.drop (i + 1) rows := List.take_of_length_le (by simp)
  have d3 : rows.length - (rows.length - 1) = 1 := by omega
  have d4 : (rows.length - 1) + 1 = rows.length := by omega
  have d5 : ¬ rows.length = i := by omega
  have d6 : ¬ rows.length = 0 := by omega
  have d7 : rows.length ≤ 4294967296 := by omega
  have d8 : i + (rows.length - (i + 1)) ≤ 4294967296 := by omega
  have f1 : rows.length ≤ 4294967297 := by omega
  have f2 : rows.length ≤ i + (rows.length - (i + 1) + 1) := by omega
  have d9 : ∀ X : List Row, List.take (rows.length - 1) (List.take i rows ++ (List.drop (i + 1) rows ++ X)) = List.take i rows ++ List.drop (i + 1) rows := by
    intro X
    rw [← List.append_assoc, List.take_append_of_le_length (by simp; omega), List.take_of_length_le (by simp; omega)]
  have e1 : List.drop rows.length (List.take i rows ++ (List.drop (i + 1) rows ++ List.drop (rows.length - 1) rows)) = [] := List.drop_eq_nil_of_le (by simp; omega)
  have e2 : rows.length - 1 ≤ i + (rows.length - (i + 1) + 1) := by omega
  have e3 : min i rows.length = i := by omega
  have e4 : ((rows.length - 1 : Nat) : Int) ≤ rows.length := by omega
  simp [Try.ntmps66, Try.results66, noOrc, h1', h2, h3, g1, c1, c2, c3, c4, c5, c6, c7, c8, c9, d1, d2, d3, d4, d5, d6, d7, d8, d9, e1, e2, e3, e4, f1, f2]
theorem prClone : InlOk Try.prog 62 (cloneI 3) := by
  refine inl_soft Try.func62 rfl ?_
  intro args H r H' hr
  rcases cloneI_some hr with ⟨o, rows, rfl, hl, hc⟩ | ⟨id, st, k, kc, rows, rfl, hob, hle, hl, hc⟩ | ⟨rfl, rfl, rfl⟩
  · refine ⟨by simp [Try.ntmps62], wpA_sound noOrc_ok fxMix _ _ _ _ (by kernel_rfl) ?_⟩
    rcases hc with ⟨rfl, rfl, rfl⟩ | ⟨h0, rfl, rfl⟩
    · simp [Try.ntmps62, Try.results62, noOrc]
    · simp [Try.ntmps62, Try.results62, h0, hl, noOrc]
  · refine ⟨by simp [Try.ntmps62], wpA_sound noOrc_ok fxMix _ _ _ _ (by kernel_rfl) ?_⟩
    have hob' := obj_get hob
    have e1 : min k (rows.length - st) = k := by omega
    have e2 : st + k ≤ rows.length := hle
    have e3 : st ≤ rows.length := by omega
    rcases hc with ⟨rfl, rfl, rfl⟩ | ⟨h0, rfl, rfl⟩
    · simp [Try.ntmps62, Try.results62, noOrc, hob', e2, e3]
    · simp [Try.ntmps62, Try.results62, hl, noOrc, hob', e1, e2, h0]
  · refine ⟨by simp [Try.ntmps62], wpA_sound noOrc_ok fxMix _ _ _ _ (by kernel_rfl) ?_⟩
    simp [Try.ntmps62, Try.results62, noOrc]
theorem prEqual_pure : PureOk Try.prog 30 (argM (cSl rPr) fun l => argM (cSl rPr) fun m => finM (if l.length ≤ 4294967296 then some (.v (.bool (decide (l = m)))) else none)) := by
  refine pure2 Try.func30 rfl ?_
  rintro l m r hr
  by_cases hc : l.length ≤ 4294967296
  case neg => rw [if_neg hc] at hr; cases hr
  rw [if_pos hc] at hr
  simp only [Option.some.injEq] at hr
  subst hr
  refine body_gen noOrc_ok fxMix (by kernel_rfl) (by simp [Try.ntmps30]) ?_
  intro C cP cI cN cD cF cA
  replace cI : C.inl = fun _ => false := cI
  replace cD : C.dyn = fun _ => [] := cD
  clear cP cN cF cA
  simp [Try.ntmps30, Try.results30, cSl, cI, cD, rPr, Pr.row, prDec]
  split
  · rename_i hn
    have hn : l.length = m.length := by omega
    refine loop_for l.length (fun k (_ : Unit) => ([(0, .fsl false 3 (l.map Pr.row)), (1, .fsl false 3 (m.map Pr.row)), (12, .v (.int .i64 l.length)), (13, .v (.int .i64 k))], [])) (fun k _ => l.drop k = m.drop k ↔ l = m) () hc (by simp) (by simp) ?_ ?_
    · intro k _ hk hall hw
      have hk3 : k < m.length := by omega
      rw [List.drop_eq_getElem_cons hk, List.drop_eq_getElem_cons hk3, List.cons.injEq] at hall
      have he := pr_eq l[k] m[k]
      by_cases q2 : l[k] = m[k]
      · have q3 := he.1 q2
        clear he
        simp only [q2, true_and] at hall
        simp [Try.ntmps30, Try.results30, cSl, cI, cD, hk, hk3, hw, rPr, Pr.row, prDec, q3]
        exact hall
      · have hne : ¬ l = m := fun h => q2 (hall.2 h).1
        simp [Try.ntmps30, Try.results30, cSl, cI, cD, hk, hk3, hw, rPr, Pr.row, prDec]
        split
        · exact hne
        · rename_i q
          exact absurd (he.2 (by simp_all)) q2
    · intro _ hall
      simp [hn] at hall
      simp [Try.ntmps30, Try.results30, cSl, cI, cD, hall]
  · rename_i hn
    rintro rfl
    exact hn rfl
def insP (l : List Pr) (p : Pr) : List Pr := l.take (lowP l p) ++ p :: l.drop (lowP l p)
def rmPut (l : List Pr) (p : Pr) : Except Int (List Pr) := if rmChk l p = 0 then (if l.any (·.at p.space p.page) = true then .error 5 else .ok (insP l p)) else .error (rmChk l p)
theorem rmFind_iff (l : List Pr) (s g : Int) : 0 ≤ rmFind l s g ↔ l.any (·.at s g) = true := idxP_iff (p := fun x : Pr => x.at s g) (l := l)
theorem lowP_nil (p : Pr) : lowP [] p = 0 := rfl
theorem rmPut_pure : PureOk Try.prog 28 (argM (cSl rPr) fun l => argM (cAgg rPr) fun p => finM (some (slE 3 Pr.row (rmPut l p)))) := by
  refine pure2 Try.func28 rfl ?_
  rintro l p r hr
  simp only [Option.some.injEq] at hr
  subst hr
  refine body_gen (((((((noOrc_ok.withP rmChk_pure).withP rmFind_pure).withP bs_pure).withIF prClone clone_loc).withIF prIns insert_loc).withD (fun i => if i = 7 then [(1,4),(1,3)] else [])).withA (fun i => if i = 7 then [0,2,3,4,1,5,6,7] else [])) fxMix (by kernel_rfl) (by simp [Try.ntmps28]) ?_
  intro C cP cI cN cD cF cA
  have cp0 := orcP rmChk_pure (C := C) (by rw [cP]; rfl)
  have cp1 := orcP rmFind_pure (C := C) (by rw [cP]; rfl)
  have cp2 := orcP bs_pure (C := C) (by rw [cP]; rfl)
  have cn0 := orcI prClone (C := C) (by rw [cN]; rfl)
  have cn1 := orcI prIns (C := C) (by rw [cN]; rfl)
  replace cI := fun g => congrFun cI g
  simp only [Orc.withP, Orc.withI, Orc.withF, Orc.withD, Orc.withA, noOrc] at cI
  replace cD : C.dyn = fun i => if i = 7 then [(1,4),(1,3)] else [] := cD
  replace cF := fun g => congrFun cF g
  simp only [Orc.withP, Orc.withI, Orc.withF, Orc.withD, Orc.withA, noOrc] at cF
  replace cA : C.alt = fun i => if i = 7 then [0,2,3,4,1,5,6,7] else [] := cA
  have rg8 : List.range 8 = [0, 1, 2, 3, 4, 5, 6, 7] := rfl
  clear cP cN
  unfold rmPut
  by_cases h0 : rmChk l p = 0
  · have hg := (rmChk_iff.1 h0).1
    have hck := rmCheck_iff.2 hg
    have hl := hg.len
    have hl2 : l.length ≤ 4294967296 := by omega
    have hl3 : l.length ≤ 1048576 := by omega
    have hle := lowP_le l p
    by_cases h1 : l.any (·.at p.space p.page) = true
    · have h1' := (rmFind_iff l _ _).2 h1
      simp only [h0, if_true, h1]
      simp [Try.ntmps28, Try.results28, cSl, cp0, cp1, cp2, cn0, cn1, cI, cD, cF, cA, rg8, rPr, Pr.row, prDec, h0, hl2, h1', slE]
    · have h1' : ¬ 0 ≤ rmFind l p.space p.page := fun h => h1 ((rmFind_iff _ _ _).1 h)
      simp only [h0, if_true, h1]
      by_cases hn : l = []
      · subst hn
        simp [Try.ntmps28, Try.results28, cSl, cp0, cp1, cp2, cn0, cn1, cI, cD, cF, cA, rg8, rPr, Pr.row, prDec, h0, hck, h1', slE, cloneI, insertI, insP, lowP_nil]
      · have hpos : 0 < l.length := List.length_pos_iff.2 hn
        have hh1 : l.length + 1 ≤ lowP l p + (l.length - lowP l p + 1) := by omega
        have hh2 : ∀ x : Row, List.take (l.length + 1) (List.take (lowP l p) (List.map Pr.row l) ++ x :: List.drop (lowP l p) (List.map Pr.row l)) = List.take (lowP l p) (List.map Pr.row l) ++ x :: List.drop (lowP l p) (List.map Pr.row l) := by
          intro x; apply List.take_of_length_le; simp; omega
        simp [Try.ntmps28, Try.results28, cSl, cp0, cp1, cp2, cn0, cn1, cI, cD, cF, cA, rg8, rPr, Pr.row, prDec, h0, hck, hl2, hl3, h1', slE, cloneI, insertI, insP, hn, hpos, hle, hh1, hh2]
  · simp [Try.ntmps28, Try.results28, cSl, cp0, cp1, cp2, cn0, cn1, cI, cD, cF, cA, rg8, rPr, Pr.row, prDec, h0, slE]
def rmOut (l : List Pr) (s g : Int) : Except Int (List Pr × Int) := if rmChk l ⟨0, s, g⟩ = 0 then (if rmFind l s g < 0 then .error 4 else .ok (l.eraseIdx (rmFind l s g).toNat, (l[(rmFind l s g).toNat]?.getD ⟨0, 0, 0⟩).frame)) else .error (rmChk l ⟨0, s, g⟩)
def rmOutE : Except Int (List Pr × Int) → AVal
  | .ok (l, f) => .tup [.fsl true 3 (l.map Pr.row), .v (.int .i64 f), .v (.int .i64 0)]
  | .error e => .v (.tuple #[.slice none 0 0, .int .i64 0, .int .i64 e])
theorem rmOut_pure : PureOk Try.prog 34 (argM (cSl rPr) fun l => argM (cInt .i64) fun s => argM (cInt .i64) fun g => finM (some (rmOutE (rmOut l s g)))) := by
  refine pure3 Try.func34 rfl ?_
  rintro l s g r hr
  simp only [Option.some.injEq] at hr
  subst hr
  refine body_gen (((((noOrc_ok.withP rmChk_pure).withP rmFind_pure).withIF prClone clone_loc).withIF prDel delete_loc).withD (fun i => if i = 7 then [(1,10),(5,10)] else [])) fxMix (by kernel_rfl) (by simp [Try.ntmps34]) ?_
  intro C cP cI cN cD cF cA
  have cp0 := orcP rmChk_pure (C := C) (by rw [cP]; rfl)
  have cp1 := orcP rmFind_pure (C := C) (by rw [cP]; rfl)
  have cn0 := orcI prClone (C := C) (by rw [cN]; rfl)
  have cn1 := orcI prDel (C := C) (by rw [cN]; rfl)
  replace cI := fun g => congrFun cI g
  simp only [Orc.withP, Orc.withI, Orc.withF, Orc.withD, Orc.withA, noOrc] at cI
  replace cD : C.dyn = fun i => if i = 7 then [(1,10),(5,10)] else [] := cD
  replace cF := fun g => congrFun cF g
  simp only [Orc.withP, Orc.withI, Orc.withF, Orc.withD, Orc.withA, noOrc] at cF
  replace cA : C.alt = fun _ => [] := cA
  clear cP cN
  unfold rmOut
  by_cases h0 : rmChk l ⟨0, s, g⟩ = 0
  · have hg := (rmChk_iff.1 h0).1
    have hl := hg.len
    have hl2 : l.length ≤ 4294967296 := by omega
    have hl3 : l.length ≤ 1048576 := by omega
    by_cases h1 : rmFind l s g < 0
    · simp [Try.ntmps34, Try.results34, cSl, cp0, cp1, cn0, cn1, cI, cD, cF, cA, rPr, Pr.row, prDec, h0, hl2, h1, rmOutE]
    · obtain ⟨k, hk, hkl, _⟩ := idxP_some h1
      replace hk : rmFind l s g = k := hk
      have hk0 : ¬ (k : Int) < 0 := by omega
      have hn : l ≠ [] := by intro h; subst h; simp at hkl
      have hpos : 0 < l.length := by omega
      have hw : IntKind.i64.wrap ((k : Int) + 1) = (k : Int) + 1 := w64 (by omega) (by omega)
      have he : (List.map Pr.row l).eraseIdx k = List.map Pr.row (l.eraseIdx k) := by simp [List.eraseIdx_eq_take_drop_succ]
      have hel : (l.eraseIdx k).length = l.length - 1 := List.length_eraseIdx_of_lt hkl
      have hel2 : l.length ≤ l.length - 1 + 1 := by omega
      have het : List.take (l.length - 1) (List.map Pr.row (l.eraseIdx k)) = List.map Pr.row (l.eraseIdx k) := List.take_of_length_le (by simp [hel])
      simp [Try.ntmps34, Try.results34, cSl, cp0, cp1, cn0, cn1, cI, cD, cF, cA, he, hel, hel2, het, rPr, Pr.row, prDec, h0, hl2, hl3, hk, hk0, hkl, hn, hpos, hw, rmOutE, cloneI, deleteI]
  · simp [Try.ntmps34, Try.results34, cSl, cp0, cp1, cn0, cn1, cI, cD, cF, cA, rPr, Pr.row, prDec, h0, rmOutE]
def rmWhere (l : List Pr) (s g : Int) : Int × Int := if rmChk l ⟨0, s, g⟩ = 0 then (if rmFind l s g < 0 then (-1, 0) else ((l[(rmFind l s g).toNat]?.getD ⟨0, 0, 0⟩).frame, 0)) else (0, rmChk l ⟨0, s, g⟩)
theorem rmWhere_pure : PureOk Try.prog 32 (argM (cSl rPr) fun l => argM (cInt .i64) fun s => argM (cInt .i64) fun g => finM (some (.v (.tuple #[.int .i64 (rmWhere l s g).1, .int .i64 (rmWhere l s g).2])))) := by
  refine pure3 Try.func32 rfl ?_
  rintro l s g r hr
  simp only [Option.some.injEq] at hr
  subst hr
  refine body_gen ((noOrc_ok.withP rmChk_pure).withP rmFind_pure) fxMix (by kernel_rfl) (by simp [Try.ntmps32]) ?_
  intro C cP cI cN cD cF cA
  have cp0 := orcP rmChk_pure (C := C) (by rw [cP]; rfl)
  have cp1 := orcP rmFind_pure (C := C) (by rw [cP]; rfl)
  replace cI : C.inl = fun _ => false := cI
  replace cD : C.dyn = fun _ => [] := cD
  clear cP cN cF cA
  unfold rmWhere
  by_cases h0 : rmChk l ⟨0, s, g⟩ = 0
  · have hg := (rmChk_iff.1 h0).1
    have hl := hg.len
    have hl2 : l.length ≤ 4294967296 := by omega
    by_cases h1 : rmFind l s g < 0
    · have h1' : ¬ 0 ≤ rmFind l s g := by omega
      simp [Try.ntmps32, Try.results32, cSl, cp0, cp1, cI, cD, rPr, Pr.row, prDec, h0, hl2, h1, h1']
    · obtain ⟨k, hk, hkl, _⟩ := idxP_some h1
      replace hk : rmFind l s g = k := hk
      have hk0 : ¬ (k : Int) < 0 := by omega
      simp [Try.ntmps32, Try.results32, cSl, cp0, cp1, cI, cD, rPr, Pr.row, prDec, h0, hl2, hk, hk0, hkl]
  · simp [Try.ntmps32, Try.results32, cSl, cp0, cp1, cI, cD, rPr, Pr.row, prDec, h0]
end Go.Proofs.Ytigpgieapamffaa
